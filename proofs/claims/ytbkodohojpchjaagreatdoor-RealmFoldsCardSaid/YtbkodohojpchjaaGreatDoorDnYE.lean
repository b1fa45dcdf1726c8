import Derived.Test.YtbkodohojpchjaaGreatDoorDnYD
/-
  Typed and plain functions agree. Conditions: none.
-/
set_option linter.unusedVariables false
set_option linter.unusedSimpArgs false
open Go.IntKind renaming wrap→c9
open Int renaming toNat→sh
open Sum renaming elim→AI
open List renaming map_take→AS,map_drop→AT,length_map→By,length_cons→BY,length_append→IN,length_nil→IS,map_append→IT,length_take→No,length_drop→OF,map_replicate→aaq,length_set→aar,map_cons→aas,map_nil→aaF,map_set→aaJ,map→aaK,drop→aaL,take→aaS
open Go Dn
set_option maxRecDepth 100000
namespace Dn.S
@[reducible] def v0 (r : Int × (List ah) × Int × (List aE) × (List aq) × (List ai) × Int × Int × Int × (List UInt8) × (List UInt8) × Int × Int × Int × Int × Int × Int × (List UInt8) × Int × (List (List UInt8)) × (List aG)) : List MV := [.i .i64 r.1, .list (r.2.1.map bj), .i .i64 r.2.2.1, .list (r.2.2.2.1.map bm), .list (r.2.2.2.2.1.map bC), .list (r.2.2.2.2.2.1.map bl), .i .i64 r.2.2.2.2.2.2.1, .i .i64 r.2.2.2.2.2.2.2.1, .i .i64 r.2.2.2.2.2.2.2.2.1, .s r.2.2.2.2.2.2.2.2.2.1, .s r.2.2.2.2.2.2.2.2.2.2.1, .i .i64 r.2.2.2.2.2.2.2.2.2.2.2.1, .i .i64 r.2.2.2.2.2.2.2.2.2.2.2.2.1, .i .i64 r.2.2.2.2.2.2.2.2.2.2.2.2.2.1, .i .i64 r.2.2.2.2.2.2.2.2.2.2.2.2.2.2.1, .i .i64 r.2.2.2.2.2.2.2.2.2.2.2.2.2.2.2.1, .i .i64 r.2.2.2.2.2.2.2.2.2.2.2.2.2.2.2.2.1, .s r.2.2.2.2.2.2.2.2.2.2.2.2.2.2.2.2.2.1, .i .i64 r.2.2.2.2.2.2.2.2.2.2.2.2.2.2.2.2.2.2.1, .list (r.2.2.2.2.2.2.2.2.2.2.2.2.2.2.2.2.2.2.2.1.map MV.s), .list (r.2.2.2.2.2.2.2.2.2.2.2.2.2.2.2.2.2.2.2.2.map gp)]
@[reducible] def v1 (r : (List ah) × Int × (List aE) × (List aq) × (List ai) × Int × Int × Int × (List UInt8) × (List UInt8) × Int × Int × Int × Int × Int × Int × (List UInt8) × Int × (List (List UInt8)) × (List aG)) : List MV := [.list (r.1.map bj), .i .i64 r.2.1, .list (r.2.2.1.map bm), .list (r.2.2.2.1.map bC), .list (r.2.2.2.2.1.map bl), .i .i64 r.2.2.2.2.2.1, .i .i64 r.2.2.2.2.2.2.1, .i .i64 r.2.2.2.2.2.2.2.1, .s r.2.2.2.2.2.2.2.2.1, .s r.2.2.2.2.2.2.2.2.2.1, .i .i64 r.2.2.2.2.2.2.2.2.2.2.1, .i .i64 r.2.2.2.2.2.2.2.2.2.2.2.1, .i .i64 r.2.2.2.2.2.2.2.2.2.2.2.2.1, .i .i64 r.2.2.2.2.2.2.2.2.2.2.2.2.2.1, .i .i64 r.2.2.2.2.2.2.2.2.2.2.2.2.2.2.1, .i .i64 r.2.2.2.2.2.2.2.2.2.2.2.2.2.2.2.1, .s r.2.2.2.2.2.2.2.2.2.2.2.2.2.2.2.2.1, .i .i64 r.2.2.2.2.2.2.2.2.2.2.2.2.2.2.2.2.2.1, .list (r.2.2.2.2.2.2.2.2.2.2.2.2.2.2.2.2.2.2.1.map MV.s), .list (r.2.2.2.2.2.2.2.2.2.2.2.2.2.2.2.2.2.2.2.map gp)]
@[reducible] def v2 (r : (List aP) × Int × (List al) × (List aF) × (List aw) × Int × Int × Int × (List UInt8) × Int × (List (List UInt8)) × (List bq)) : List MV := [.list (r.1.map bJ), .i .i64 r.2.1, .list (r.2.2.1.map br), .list (r.2.2.2.1.map b6), .list (r.2.2.2.2.1.map bo), .i .i64 r.2.2.2.2.2.1, .i .i64 r.2.2.2.2.2.2.1, .i .i64 r.2.2.2.2.2.2.2.1, .s r.2.2.2.2.2.2.2.2.1, .i .i64 r.2.2.2.2.2.2.2.2.2.1, .list (r.2.2.2.2.2.2.2.2.2.2.1.map MV.s), .list (r.2.2.2.2.2.2.2.2.2.2.2.map ej)]
@[reducible] def v3 (r : (List aP) × Int × (List al) × (List aF) × (List aw) × Int × Int × Int × (List UInt8) × Int × (List (List UInt8)) × Int) : List MV := [.list (r.1.map bJ), .i .i64 r.2.1, .list (r.2.2.1.map br), .list (r.2.2.2.1.map b6), .list (r.2.2.2.2.1.map bo), .i .i64 r.2.2.2.2.2.1, .i .i64 r.2.2.2.2.2.2.1, .i .i64 r.2.2.2.2.2.2.2.1, .s r.2.2.2.2.2.2.2.2.1, .i .i64 r.2.2.2.2.2.2.2.2.2.1, .list (r.2.2.2.2.2.2.2.2.2.2.1.map MV.s), .i .i64 r.2.2.2.2.2.2.2.2.2.2.2]
@[reducible] def v4 (r : (List aP) × Int × (List al) × (List aF) × (List aw) × Int × Int × Int × (List UInt8) × Int × (List (List UInt8))) : List MV := [.list (r.1.map bJ), .i .i64 r.2.1, .list (r.2.2.1.map br), .list (r.2.2.2.1.map b6), .list (r.2.2.2.2.1.map bo), .i .i64 r.2.2.2.2.2.1, .i .i64 r.2.2.2.2.2.2.1, .i .i64 r.2.2.2.2.2.2.2.1, .s r.2.2.2.2.2.2.2.2.1, .i .i64 r.2.2.2.2.2.2.2.2.2.1, .list (r.2.2.2.2.2.2.2.2.2.2.map MV.s)]
@[reducible] def v5 (r : Int × Int × Int × (List UInt8) × Int × (List (List UInt8)) × Int × Int × Int × (List UInt8) × Int × (List (List UInt8))) : List MV := [.i .i64 r.1, .i .i64 r.2.1, .i .i64 r.2.2.1, .s r.2.2.2.1, .i .i64 r.2.2.2.2.1, .list (r.2.2.2.2.2.1.map MV.s), .i .i64 r.2.2.2.2.2.2.1, .i .i64 r.2.2.2.2.2.2.2.1, .i .i64 r.2.2.2.2.2.2.2.2.1, .s r.2.2.2.2.2.2.2.2.2.1, .i .i64 r.2.2.2.2.2.2.2.2.2.2.1, .list (r.2.2.2.2.2.2.2.2.2.2.2.map MV.s)]
@[reducible] def v6 (r : (List aP) × Int × (List al) × (List aF) × (List aw) × Int) : List MV := [.list (r.1.map bJ), .i .i64 r.2.1, .list (r.2.2.1.map br), .list (r.2.2.2.1.map b6), .list (r.2.2.2.2.1.map bo), .i .i64 r.2.2.2.2.2]
@[reducible] def v7 (r : (List aP) × Int × (List al) × (List aF) × (List aw)) : List MV := [.list (r.1.map bJ), .i .i64 r.2.1, .list (r.2.2.1.map br), .list (r.2.2.2.1.map b6), .list (r.2.2.2.2.map bo)]
@[reducible] def v8 (r : Int × Int × Int × (List UInt8) × Int × (List (List UInt8)) × Bool) : List MV := [.i .i64 r.1, .i .i64 r.2.1, .i .i64 r.2.2.1, .s r.2.2.2.1, .i .i64 r.2.2.2.2.1, .list (r.2.2.2.2.2.1.map MV.s), .b r.2.2.2.2.2.2]
@[reducible] def v9 (r : Int × Int × Int × (List UInt8) × Int × (List (List UInt8))) : List MV := [.i .i64 r.1, .i .i64 r.2.1, .i .i64 r.2.2.1, .s r.2.2.2.1, .i .i64 r.2.2.2.2.1, .list (r.2.2.2.2.2.map MV.s)]
theorem cc {A B:Type}{g:B->A}{T:Option B}{l:List MV}{K:Nat->Option A}(n:Nat)(h:Sm g (K n) T)(e:l.length=n:=by simp only [By,BY,IS]):Sm g (aV l K) T:=xQ e h
theorem ao {A B C:Type}{g:B->A}{T:Option B}{f:C->MV}{M:List C}{K:Nat->Option A}(h:Sm g (K M.length) T):Sm g (aV (M.map f) K) T:=xQ (By ..) h
theorem ab {A B:Type}{g:B->A}{d:A}{a:B}(e:d=g a:=by exact rfl):Sm g (some d) (some a):=b9 e
theorem En {A B:Type}{g:B->A}{T:Option B}{k0:IntKind}{x0:Int}{x1:Bool}{K:Int->Bool->Option A}(h:Sm g (K x0 x1) T):Sm g (oIB k0 [.i k0 x0,.b x1] K) T:=aa (ay (aa (aN (ak h))))
theorem AA {A B:Type}{g:B->A}{T:Option B}{k0 k1:IntKind}{x0:Int}{x1:Int}{K:Int->Int->Option A}(h:Sm g (K x0 x1) T):Sm g (oII k0 k1 [.i k0 x0,.i k1 x1] K) T:=aa (ay (aa (ay (ak h))))
theorem nC {A B:Type}{g:B->A}{T:Option B}{k0 k1 k2:IntKind}{x0:Int}{x1:Int}{x2:Int}{K:Int->Int->Int->Option A}(h:Sm g (K x0 x1 x2) T):Sm g (adT k0 k1 k2 [.i k0 x0,.i k1 x1,.i k2 x2] K) T:=aa (ay (aa (ay (aa (ay (ak h))))))
theorem bY {A B:Type}{g:B->A}{T:Option B}{k0 k1 k2 k4:IntKind}{x0:Int}{x1:Int}{x2:Int}{x3:List UInt8}{x4:Int}{x5:List MV}{K:Int->Int->Int->List UInt8->Int->List MV->Option A}(h:Sm g (K x0 x1 x2 x3 x4 x5) T):Sm g (DE k0 k1 k2 k4 [.i k0 x0,.i k1 x1,.i k2 x2,.s x3,.i k4 x4,.list x5] K) T:=aa (ay (aa (ay (aa (ay (aa (bu (aa (ay (aa (aC (ak h))))))))))))
theorem eC {A B:Type}{g:B->A}{T:Option B}{k0 k1 k2 k5 k6 k7:IntKind}{x0:Int}{x1:Int}{x2:Int}{x3:List UInt8}{x4:List UInt8}{x5:Int}{x6:Int}{x7:Int}{K:Int->Int->Int->List UInt8->List UInt8->Int->Int->Int->Option A}(h:Sm g (K x0 x1 x2 x3 x4 x5 x6 x7) T):Sm g (Mj k0 k1 k2 k5 k6 k7 [.i k0 x0,.i k1 x1,.i k2 x2,.s x3,.s x4,.i k5 x5,.i k6 x6,.i k7 x7] K) T:=aa (ay (aa (ay (aa (ay (aa (bu (aa (bu (aa (ay (aa (ay (aa (ay (ak h))))))))))))))))
theorem uo {A B:Type}{g:B->A}{T:Option B}{k0:IntKind}{x0:Int}{x1:List MV}{K:Int->List MV->Option A}(h:Sm g (K x0 x1) T):Sm g (oIL k0 [.i k0 x0,.list x1] K) T:=aa (ay (aa (aC (ak h))))
theorem AB {A B:Type}{g:B->A}{T:Option B}{x0:List MV}{x1:Bool}{K:List MV->Bool->Option A}(h:Sm g (K x0 x1) T):Sm g (O6 [.list x0,.b x1] K) T:=aa (aC (aa (aN (ak h))))
theorem qy {A B:Type}{g:B->A}{T:Option B}{k1:IntKind}{x0:List MV}{x1:Int}{K:List MV->Int->Option A}(h:Sm g (K x0 x1) T):Sm g (oLI k1 [.list x0,.i k1 x1] K) T:=aa (aC (aa (ay (ak h))))
theorem dm {A B:Type}{g:B->A}{T:Option B}{k1:IntKind}{x0:List MV}{x1:Int}{x2:List MV}{x3:List MV}{x4:List MV}{K:List MV->Int->List MV->List MV->List MV->Option A}(h:Sm g (K x0 x1 x2 x3 x4) T):Sm g (I7 k1 [.list x0,.i k1 x1,.list x2,.list x3,.list x4] K) T:=aa (aC (aa (ay (aa (aC (aa (aC (aa (aC (ak h))))))))))
theorem pF {A B:Type}{g:B->A}{T:Option B}{k1 k5 k6 k7 k9 k11:IntKind}{x0:List MV}{x1:Int}{x2:List MV}{x3:List MV}{x4:List MV}{x5:Int}{x6:Int}{x7:Int}{x8:List UInt8}{x9:Int}{qq:List MV}{rW:Int}{K:List MV->Int->List MV->List MV->List MV->Int->Int->Int->List UInt8->Int->List MV->Int->Option A}(h:Sm g (K x0 x1 x2 x3 x4 x5 x6 x7 x8 x9 qq rW) T):Sm g (nv k1 k5 k6 k7 k9 k11 [.list x0,.i k1 x1,.list x2,.list x3,.list x4,.i k5 x5,.i k6 x6,.i k7 x7,.s x8,.i k9 x9,.list qq,.i k11 rW] K) T:=aa (aC (aa (ay (aa (aC (aa (aC (aa (aC (aa (ay (aa (ay (aa (ay (aa (bu (aa (ay (aa (aC (aa (ay (ak h))))))))))))))))))))))))
theorem mr {A B:Type}{g:B->A}{T:Option B}{k1 k5 k6 k7 k9:IntKind}{x0:List MV}{x1:Int}{x2:List MV}{x3:List MV}{x4:List MV}{x5:Int}{x6:Int}{x7:Int}{x8:List UInt8}{x9:Int}{qq:List MV}{rW:List MV}{K:List MV->Int->List MV->List MV->List MV->Int->Int->Int->List UInt8->Int->List MV->List MV->Option A}(h:Sm g (K x0 x1 x2 x3 x4 x5 x6 x7 x8 x9 qq rW) T):Sm g (lk k1 k5 k6 k7 k9 [.list x0,.i k1 x1,.list x2,.list x3,.list x4,.i k5 x5,.i k6 x6,.i k7 x7,.s x8,.i k9 x9,.list qq,.list rW] K) T:=aa (aC (aa (ay (aa (aC (aa (aC (aa (aC (aa (ay (aa (ay (aa (ay (aa (bu (aa (ay (aa (aC (aa (aC (ak h))))))))))))))))))))))))
theorem aI {A B:Type}{g:B->A}{T:Option B}{k1 k5 k6 k7 k10 k11 k12 k13 k14 k15 k17:IntKind}{x0:List MV}{x1:Int}{x2:List MV}{x3:List MV}{x4:List MV}{x5:Int}{x6:Int}{x7:Int}{x8:List UInt8}{x9:List UInt8}{qq:Int}{rW:Int}{zw:Int}{zx:Int}{CY:Int}{Bh:Int}{DF:List UInt8}{DG:Int}{DH:List MV}{Fm:List MV}{K:List MV->Int->List MV->List MV->List MV->Int->Int->Int->List UInt8->List UInt8->Int->Int->Int->Int->Int->Int->List UInt8->Int->List MV->List MV->Option A}(h:Sm g (K x0 x1 x2 x3 x4 x5 x6 x7 x8 x9 qq rW zw zx CY Bh DF DG DH Fm) T):Sm g (dr k1 k5 k6 k7 k10 k11 k12 k13 k14 k15 k17 [.list x0,.i k1 x1,.list x2,.list x3,.list x4,.i k5 x5,.i k6 x6,.i k7 x7,.s x8,.s x9,.i k10 qq,.i k11 rW,.i k12 zw,.i k13 zx,.i k14 CY,.i k15 Bh,.s DF,.i k17 DG,.list DH,.list Fm] K) T:=aa (aC (aa (ay (aa (aC (aa (aC (aa (aC (aa (ay (aa (ay (aa (ay (aa (bu (aa (bu (aa (ay (aa (ay (aa (ay (aa (ay (aa (ay (aa (ay (aa (bu (aa (ay (aa (aC (aa (aC (ak h))))))))))))))))))))))))))))))))))))))))
theorem AD {A B:Type}{g:B->A}{T:Option B}{x0:List MV}{x1:List MV}{K:List MV->List MV->Option A}(h:Sm g (K x0 x1) T):Sm g (O7 [.list x0,.list x1] K) T:=aa (aC (aa (aC (ak h))))
theorem y9 {A B:Type}{g:B->A}{T:Option B}{k2:IntKind}{x0:List MV}{x1:List MV}{x2:Int}{K:List MV->List MV->Int->Option A}(h:Sm g (K x0 x1 x2) T):Sm g (alH k2 [.list x0,.list x1,.i k2 x2] K) T:=aa (aC (aa (aC (aa (ay (ak h))))))
theorem rJ {A B:Type}{g:B->A}{T:Option B}{k1:IntKind}{x0:List UInt8}{x1:Int}{x2:Bool}{K:List UInt8->Int->Bool->Option A}(h:Sm g (K x0 x1 x2) T):Sm g (alI k1 [.s x0,.i k1 x1,.b x2] K) T:=aa (bu (aa (ay (aa (aN (ak h))))))
theorem HG {A B:Type}{g:B->A}{T:Option B}{k1 k3:IntKind}{x0:List UInt8}{x1:Int}{x2:Bool}{x3:Int}{x4:List UInt8}{K:List UInt8->Int->Bool->Int->List UInt8->Option A}(h:Sm g (K x0 x1 x2 x3 x4) T):Sm g (aat k1 k3 [.s x0,.i k1 x1,.b x2,.i k3 x3,.s x4] K) T:=aa (bu (aa (ay (aa (aN (aa (ay (aa (bu (ak h))))))))))
theorem eh {A B:Type}{g:B->A}{T:Option B}{k2 k3:IntKind}{x0:List UInt8}{x1:List UInt8}{x2:Int}{x3:Int}{K:List UInt8->List UInt8->Int->Int->Option A}(h:Sm g (K x0 x1 x2 x3) T):Sm g (agj k2 k3 [.s x0,.s x1,.i k2 x2,.i k3 x3] K) T:=aa (bu (aa (bu (aa (ay (aa (ay (ak h))))))))
theorem W0 (lA:List ar):Sm MV.b (Bi (.list (lA.map cA))) (wC lA):=by
 unfold Bi wC;refine aC<|ae (bB (λr=>[.i .i64 r]) (AI (λr=>(2,[])) (λr=>(1,[.b r]))) (rfl) λst=> ?_) λw=> ?_
 ·unfold vc;refine aa (ay (ak (ao (ax ?_ ?_))))
  ·refine ae (f:=λr=>[.b r]) ?_ λw1=> ?_
   ·refine ax ?_ ?_
    ·exact ab
    ·refine bc (f:=cA) (rfl) λy=>az (eC (ax ?_ ?_))
     ·exact ab
     ·refine bc (f:=cA) (rfl) λy1=>az (eC ab)
   ·refine aa (aN (ak (aA ?_ ?_)))
    ·exact ab
    ·exact ab
  ·exact ab
 ·rcases w with p1|p2
  ·refine ib rfl (ak ab)
  ·refine ic rfl (aZ rfl (aa (aN (ak ab))))
theorem Vv (p:List UInt8):Sm (λr=> .cg [.list (r.1.map MV.s),.b r.2]) (DJ (.s p)) (Bf p):=by
 unfold DJ Bf;refine bu ?_;refine ae (f:=λr=>[.b r]) ?_ λw=> ?_
 ·refine ax ?_ ?_
  ·exact ab
  ·refine bD ab
 ·refine aa (aN (ak (aA ?_ ?_)))
  ·exact ab
  ·refine ax ?_ ?_
   ·exact ab
   ·refine ae (bB (λr=>[.list (r.1.map MV.s),.s r.2.1,.i .i64 r.2.2]) (λr=>(2,[.list (r.1.map MV.s),.s r.2])) (rfl) λst=> ?_) λw1=> ?_
    ·unfold wD;refine aa (aC (aa (bu (aa (ay (ak (ax ?_ ?_)))))))
     ·refine bD<|ae (f:=(λr=>(0,[.list (r.1.map MV.s),.s r.2]))) ?_ λw2=> ?_
      ·refine ax ?_ ?_
       ·refine ao (cc (([st.2.1]:List (List UInt8)).length) (bD (b9 (by simp))))
       ·refine bD<|S3 (M:=([((p.getD (sh st.2.2) 0).toNat:Int)]:List Int)) (rfl) λbs=>bD ab
      ·refine aZ rfl (aa (aC (aa (bu (ak ab)))))
     ·exact ab
    ·refine aZ rfl (aa (aC (aa (bu (ak (ao (cc (([w1.2]:List (List UInt8)).length) (bD (b9 (by simp))))))))))
theorem Tg (sA:List UInt8):Sm MV.b (xZ (.s sA)) (tl sA):=by
 unfold xZ tl;refine bu<|ae (bB (λr=>[.i .i64 r]) (AI (λr=>(2,[])) (λr=>(1,[.b r]))) (rfl) λst=> ?_) λw=> ?_
 ·unfold oZ;refine aa (ay (ak (ax ?_ ?_)))
  ·refine bD ?_;refine ae (f:=λr=>[.b r]) ?_ λw1=> ?_
   ·refine ax ?_ ?_
    ·refine ax ?_ ?_
     ·exact ab
     ·refine ax ?_ ?_
      ·refine ax ?_ ?_
       ·exact ab
       ·refine ax ?_ ?_
        ·exact ab
        ·exact ab
      ·refine ax ?_ ?_
       ·exact ab
       ·exact ab
    ·refine ax ?_ ?_
     ·refine ax ?_ ?_
      ·exact ab
      ·refine ax ?_ ?_
       ·exact ab
       ·exact ab
     ·refine ax ?_ ?_
      ·exact ab
      ·exact ab
   ·refine aa (aN (ak (aA ?_ ?_)))
    ·exact ab
    ·exact ab
  ·exact ab
 ·rcases w with p1|p2
  ·refine ib rfl (ak ?_);refine ae (f:=λr=>[.b r]) ?_ λw2=> ?_
   ·refine ax ?_ ?_
    ·exact ab
    ·exact ab
   ·refine aa (aN (ak ab))
  ·refine ic rfl (aZ rfl (aa (aN (ak ab))))
theorem xe (p:List UInt8):Sm MV.b (oz (.s p)) (jZ p):=by
 unfold oz jZ;refine bu<|ax ?_ ?_
 ·exact ab
 ·refine ae (Vv p) λrA=>bX (AB (ae (bB (λr=>[.i .i64 r]) (AI (λr=>(2,[])) (λr=>(1,[.b r]))) (rfl) λst=> ?_) λw=> ?_))
  ·unfold q8;refine aa (ay (ak (ao (ax ?_ ?_))))
   ·refine bc (f:=MV.s) (rfl) λy=>bu<|ae (Tg y) λaT=>aN<|aA ?_ ?_
    ·exact ab
    ·exact ab
   ·exact ab
  ·rcases w with p3|p4
   ·refine ib rfl (ak ?_);refine ae (f:=λr=>[.b r]) ?_ λw1=> ?_
    ·refine aA ?_ ?_
     ·refine ao ab
     ·exact ab
    ·refine aa (aN (ak ab))
   ·refine ic rfl (aZ rfl (aa (aN (ak ab))))
theorem Bu (p:List UInt8):Sm (λr=> .cg [.list (r.1.map MV.s),.i .i64 r.2]) (qt (.s p)) (ot p):=by
 unfold qt ot;refine bu<|ae (xe p) λrA=>aN<|aA ?_ ?_
 ·exact ab
 ·refine ae (Vv p) λaT=>bX (AB ab)
theorem W5 (p:List UInt8)(q:List UInt8):Sm MV.b (Bj (.s p) (.s q)) (wE p q):=by
 unfold Bj wE;refine bu (bu (ae (Bu p) λrA=>bX (qy (ae (Bu q) λaT=>bX (qy ?_)))));refine ae (f:=λr=>[.b r]) ?_ λw=> ?_
 ·refine aA ?_ ?_
  ·exact ab
  ·exact ab
 ·refine aa (aN (ak (aA ?_ ?_)))
  ·exact ab
  ·refine ae (bB (λr=>[.i .i64 r]) (AI (λr=>(2,[])) (λr=>(1,[.b r]))) (rfl) λst=> ?_) λw1=> ?_
   ·unfold q9;refine aa (ay (ak ?_));refine ae (f:=λr=>[.b r]) ?_ λw2=> ?_
    ·refine ao<|ax ?_ ?_
     ·refine ao ab
     ·exact ab
    ·refine aa (aN (ak (aA ?_ ?_)))
     ·refine bc (f:=MV.s) (rfl) λy=>bu<|bc (f:=MV.s) (rfl) λy1=>bu<|aA ?_ ?_
      ·refine bc (f:=MV.s) (rfl) λy2=>bu<|bc (f:=MV.s) (rfl) λy3=>bu ab
      ·exact ab
     ·exact ab
   ·rcases w1 with p3|p4
    ·refine ib rfl (ak (ao (ao ab)))
    ·refine ic rfl (aZ rfl (aa (aN (ak ab))))
theorem aba (lA:List (List UInt8)):Sm MV.s (DL (.list (lA.map MV.s))) (z1 lA):=by
 unfold DL z1;refine aC<|ae (bB (λr=>[.s r.1,.i .i64 r.2]) (λr=>(2,[.s r])) (rfl) λst=> ?_) λw=> ?_
 ·unfold tm;refine aa (bu (aa (ay (ak (ao (ax ?_ ?_))))))
  ·refine bD<|bc (f:=MV.s) (rfl) λy=>bu (bD ab)
  ·exact ab
 ·refine aZ rfl (aa (bu (ak (ax ?_ ?_))))
  ·exact ab
  ·exact ab
theorem CK (p:List UInt8):Sm (λr=> .cg [.s r.1,.i .i64 r.2]) (qu (.s p)) (lZ p):=by
 unfold qu lZ;refine bu<|ae (Bu p) λrA=>bX (qy (aA ?_ ?_))
 ·exact ab
 ·refine ao<|ax ?_ ?_
  ·exact ab
  ·refine ao (ao (bD (ae (by simpa using aba (aaL (sh 0) (aaS (sh (c9 .i64 ((rA.1.length:Int)-1))) rA.1))) λaT=>bu ab)))
theorem J1 (sA:bE)(p:List UInt8):Sm (MV.i .i64) (Ak (dO sA) (.s p)) (tp sA p):=by
 unfold Ak tp;refine az (aa (aC (ak (bu (ae (bB (λr=>[.i .i64 r]) (AI (λr=>(2,[])) (λr=>(1,[.i .i64 r]))) (rfl) λst=> ?_) λw=> ?_)))))
 ·unfold z6;refine aa (ay (ak (ao (ax ?_ ?_))))
  ·refine bc (f:=bJ) (rfl) λy=>az (eh (ax ?_ ?_))
   ·exact ab
   ·exact ab
  ·exact ab
 ·rcases w with p3|p4
  ·refine ib rfl (ak ab)
  ·refine ic rfl (aZ rfl (aa (ay (ak ab))))
theorem aeF (lA:List aF)(w:aF):Sm MV.b (Hu (.list (lA.map b6)) (b6 w)) (Bg lA w):=by
 unfold Hu Bg;refine aC (az (rJ (ae (bB (λr=>[.i .i64 r]) (AI (λr=>(2,[])) (λr=>(1,[.b r]))) (rfl) λst=> ?_) λw1=> ?_)))
 ·unfold wF;refine aa (ay (ak (ao (ax ?_ ?_))))
  ·refine bc (f:=b6) (rfl) λy=>az (rJ (aA ?_ ?_))
   ·exact ab
   ·exact ab
  ·exact ab
 ·rcases w1 with p1|p2
  ·refine ib rfl (ak ab)
  ·refine ic rfl (aZ rfl (aa (aN (ak ab))))
theorem abb (rA:ai):Sm bo (DM (bl rA)) (Dz rA):=by unfold DM Dz;refine az (bY ab)
theorem vu (lA:List ai):Sm (NE bo) (mi (.list (lA.map bl))) (ko lA):=by
 unfold mi ko;refine aC<|ae (bB (λr=>[.list (r.1.map bo),.i .i64 r.2]) (λr=>(2,[.list (r.map bo)])) (rfl) λst=> ?_) λw=> ?_
 ·unfold nq;refine qy (ao (ax ?_ ?_))
  ·refine bc (f:=bl) (rfl) λy=>az (bY (ae (abb y) λrA=>az (bY (ao (cc (([rA]:List aw).length) (bD (b9 (by simp [bK]))))))))
  ·exact ab
 ·refine aZ rfl (aa (aC (ak ab)))
theorem W6 (a:ap):Sm eD (Bk (eJ a)) (wG a):=by
 unfold Bk wG;refine az (dm (ae (vu a.Seen) λrA=>aC (ae (bB (λr=>(v6 r)) (λr=>(2,(v7 r))) (rfl) λst=> ?_) λw=> ?_)))
 ·unfold ra;refine aa (aC (aa (ay (aa (aC (y9 (ao (ax ?_ ?_))))))))
  ·refine bc (f:=bj) (rfl) λy=>az (eh (ao (cc (([(⟨y.Path,y.Value,y.Version,y.b5⟩:aP)]:List aP).length) (bD (b9 (by simp [cm,sM,fc,v6,v7]))))))
  ·exact ab
 ·refine aZ rfl (dm (ae (bB (λr=>(v6 r)) (λr=>(4,(v7 r))) (rfl) λdH=> ?_) λw1=> ?_))
  ·unfold rc;refine aa (aC (aa (ay (aa (aC (y9 (ao (ax ?_ ?_))))))))
   ·refine bc (f:=bm) (rfl) λy1=>az (nC (ao (cc (([(⟨y1.Id,y1.Span,y1.dX⟩:al)]:List al).length) (bD (b9 (by simp [cm,sM,fc,v6,v7]))))))
   ·exact ab
  ·refine aZ rfl (dm (ae (bB (λr=>(v6 r)) (λr=>(6,(v7 r))) (rfl) λeP=> ?_) λw2=> ?_))
   ·unfold re;refine aa (aC (aa (ay (aa (aC (y9 (ao (ax ?_ ?_))))))))
    ·refine bc (f:=bC) (rfl) λy2=>az (rJ (ao (cc (([(⟨y2.Path,y2.Client,y2.Kids⟩:aF)]:List aF).length) (bD (b9 (by simp [cm,sM,fc,v6,v7]))))))
    ·exact ab
   ·refine aZ rfl (dm ab)
theorem Ha (o:ar):Sm cA (nL (cA o)) (bO o):=by
 unfold nL bO;refine az (eC (ax ?_ ?_))
 ·exact ab
 ·refine ae (f:=(λr=>(0,[.b r]))) ?_ λw=> ?_
  ·refine ax ?_ ?_
   ·exact ab
   ·refine ae (f:=(λr=>(0,[.b r]))) ?_ λw1=> ?_
    ·refine ax ?_ ?_
     ·exact ab
     ·refine ae (f:=(λr=>(0,[.b r]))) ?_ λw2=> ?_
      ·refine ax ?_ ?_
       ·exact ab
       ·exact ab
      ·refine aZ rfl (aa (aN (ak ab)))
    ·refine aZ rfl (aa (aN (ak ab)))
  ·refine aZ rfl (aa (aN (ak (aA ?_ ?_))))
   ·exact ab
   ·refine ax ?_ ?_
    ·exact ab
    ·refine ax ?_ ?_
     ·exact ab
     ·refine ax ?_ ?_
      ·exact ab
      ·refine ae (f:=(λr=>(0,[.b r]))) ?_ λw3=> ?_
       ·refine ax ?_ ?_
        ·exact ab
        ·exact ab
       ·refine aZ rfl (aa (aN (ak (aA ?_ ?_))))
        ·exact ab
        ·refine ax ?_ ?_
         ·exact ab
         ·exact ab
theorem W7 (o:ar):Sm MV.b (Bl (cA o)) (mG o):=by
 unfold Bl mG;refine az (eC ?_);refine ae (f:=λr=>[.b r]) ?_ λw=> ?_
 ·refine ax ?_ ?_
  ·refine ax ?_ ?_
   ·refine ax ?_ ?_
    ·exact ab
    ·exact ab
   ·exact ab
  ·exact ab
 ·refine aa (aN (ak ?_));refine ae (f:=λr=>[.b r]) ?_ λw1=> ?_
  ·refine aA ?_ ?_
   ·refine ax ?_ ?_
    ·refine ax ?_ ?_
     ·refine ax ?_ ?_
      ·refine ax ?_ ?_
       ·refine ae (Ha o) λrA=>az (eC ab)
       ·exact ab
      ·exact ab
     ·exact ab
    ·exact ab
   ·exact ab
  ·refine aa (aN (ak ab))
theorem Eo (x:Int):Sm MV.b (pu (.i .i64 x)) (o4 x):=by unfold pu o4;refine ay ab
theorem AE (x:Int)(y:Int):Sm (MV.i .i64) (mj (.i .i64 x) (.i .i64 y)) (j0 x y):=by
 unfold mj j0;refine ay (ay (ae (Eo x) λrA=>aN (ae (Eo y) λaT=>aN (aA ?_ ?_))))
 ·refine aA ?_ ?_
  ·exact ab
  ·exact ab
 ·refine aA ?_ ?_
  ·exact ab
  ·refine ax ?_ ?_
   ·exact ab
   ·refine ax ?_ ?_
    ·exact ab
    ·exact ab
theorem CL (x:ai)(dK:Int):Sm (MV.i .i64) (kH (bl x) (.i .i64 dK)) (dE x dK):=by unfold kH dE;refine az (bY (ay (ae (AE x.Client dK) λrA=>ay ab)))
theorem nh (x:List ai)(target:Int)(cmp:ai->Int->Option Int){Oq:Nat}{zh:List MV}(Gw:gv Oq=false)(fO: ∀(u0:ai)(u1:Int),Sm (MV.i .i64) (db Oq ([bl u0,.i .i64 u1]++zh)) (cmp u0 u1)):Sm (λr=> .cg [.i .i64 r.1,.b r.2]) (du (.list (x.map bl)) (.i .i64 target) (.func Oq zh)) (dt x target cmp):=by
 unfold du dt;refine aC (ay (vO (ao (ae (bB (λr=>[.i .i64 r.1,.i .i64 r.2]) (λr=>(2,[.i .i64 r])) (rfl) λst=> ?_) λw=> ?_))))
 ·unfold gq;refine AA<|ax ?_ ?_
  ·refine bD<|bc (f:=bl) (rfl) λy=> ?_;refine az (bY (vN (aZ (by rw [Gw];rfl) ?_)));refine ae (fO y target) λrA=>ay<|ae (f:=(λr=>(0,[.i .i64 r.1,.i .i64 r.2]))) ?_ λw1=> ?_
   ·refine ax ?_ ?_
    ·exact ab
    ·exact ab
   ·refine aZ rfl (AA ab)
  ·exact ab
 ·refine aZ rfl (aa (ay (ak ?_)));refine ae (f:=λr=>[.i .i64 r.1,.b r.2]) ?_ λw2=> ?_
  ·refine ax ?_ ?_
   ·refine bc (f:=bl) (rfl) λy1=> ?_;refine az (bY (vN (aZ (by rw [Gw];rfl) ?_)));refine ae (fO y1 target) λaT=>ay ab
   ·exact ab
  ·refine En ab
theorem xf (rA:ap)(dK:Int):Sm (λr=> .cg [.i .i64 r.1,.b r.2]) (kf (eJ rA) (.i .i64 dK)) (fT rA dK):=by unfold kf fT;refine az (dm (ay (ae (nh rA.Seen dK dE (Oq:=120) (zh:=[]) rfl (λu2 u3=>Sm.at (ik _ _) (CL u2 u3))) λaT=> ?_)));refine bX (En ab)
theorem J3 (rA:ap)(dK:Int):Sm (λr=> .cg [bl r.1,.b r.2]) (tV (eJ rA) (.i .i64 dK)) (qk rA dK):=by
 unfold tV qk;refine az (dm (ay (ae (xf rA dK) λaT=>bX (En (aA ?_ ?_)))))
 ·exact ab
 ·refine bc (f:=bl) (rfl) λy=>az (bY ab)
theorem Fx (rA:ap)(o:ar):Sm (λr=> .cg [bl r.1,.b r.2]) (mK (eJ rA) (cA o)) (j5 rA o):=by
 unfold mK j5;refine az (dm (az (eC (ae (J3 rA o.Client) λaT=>bX (aa (az (bY (aa (aN (ak (ae (W7 o) λcf=>aN (ae (f:=(AI (λr=>(0,(v5 r))) (λr=>(1,(v8 r))))) ?_ λw=> ?_))))))))))))
 ·refine aA ?_ ?_
  ·exact ab
  ·refine ae (f:=λr=>[.b r]) ?_ λw1=> ?_
   ·refine aA ?_ ?_
    ·exact ab
    ·exact ab
   ·refine aa (aN (ak (aA ?_ ?_)))
    ·exact ab
    ·refine ae (f:=λr=>[.b r]) ?_ λw2=> ?_
     ·refine aA ?_ ?_
      ·exact ab
      ·exact ab
     ·refine aa (aN (ak (ae (f:=(AI (λr=>(0,(v5 r))) (λr=>(1,(v8 r))))) ?_ λw3=> ?_)))
      ·refine aA ?_ ?_
       ·exact ab
       ·refine ae (f:=λr=>[.b r]) ?_ λw4=> ?_
        ·refine aA ?_ ?_
         ·refine ao ab
         ·exact ab
        ·refine aa (aN (ak (aA ?_ ?_)))
         ·exact ab
         ·exact ab
      ·rcases w3 with p2|p3
       ·refine ib rfl (aa (ay (aa (ay (aa (ay (aa (bu (aa (ay (aa (aC (bY ab)))))))))))))
       ·refine ic rfl (aZ rfl (aa (ay (aa (ay (aa (ay (aa (bu (aa (ay (AB ab))))))))))))
 ·rcases w with p4|p5
  ·refine ib rfl (aa (ay (aa (ay (aa (ay (aa (bu (aa (ay (aa (aC (bY ab)))))))))))))
  ·refine ic rfl (aZ rfl (aa (ay (aa (ay (aa (ay (aa (bu (aa (ay (AB ab))))))))))))
theorem CM (w:aj):Sm (λr=> .fb ((λ_=> .cg []) r.1) (bS r.2)) (kI (bS w)) (nY w):=by unfold kI nY;refine aI ab
theorem Ep (x:aE)(id:Int):Sm (MV.i .i64) (lD (bm x) (.i .i64 id)) (dQ x id):=by unfold lD dQ;refine az (nC (ay (ae (AE x.Id id) λrA=>ay ab)))
theorem mu (x:List aE)(target:Int)(cmp:aE->Int->Option Int){Oq:Nat}{zh:List MV}(Gw:gv Oq=false)(fA: ∀(u0:aE)(u1:Int),Sm (MV.i .i64) (cS Oq ([bm u0,.i .i64 u1]++zh)) (cmp u0 u1)):Sm (λr=> .cg [.i .i64 r.1,.b r.2]) (dc (.list (x.map bm)) (.i .i64 target) (.func Oq zh)) (da x target cmp):=by
 unfold dc da;refine aC (ay (vO (ao (ae (bB (λr=>[.i .i64 r.1,.i .i64 r.2]) (λr=>(2,[.i .i64 r])) (rfl) λst=> ?_) λw=> ?_))))
 ·unfold fM;refine AA<|ax ?_ ?_
  ·refine bD<|bc (f:=bm) (rfl) λy=> ?_;refine az (nC (vN (aZ (by rw [Gw];rfl) ?_)));refine ae (fA y target) λrA=>ay<|ae (f:=(λr=>(0,[.i .i64 r.1,.i .i64 r.2]))) ?_ λw1=> ?_
   ·refine ax ?_ ?_
    ·exact ab
    ·exact ab
   ·refine aZ rfl (AA ab)
  ·exact ab
 ·refine aZ rfl (aa (ay (ak ?_)));refine ae (f:=λr=>[.i .i64 r.1,.b r.2]) ?_ λw2=> ?_
  ·refine ax ?_ ?_
   ·refine bc (f:=bm) (rfl) λy1=> ?_;refine az (nC (vN (aZ (by rw [Gw];rfl) ?_)));refine ae (fA y1 target) λaT=>ay ab
   ·exact ab
  ·refine En ab
theorem nQ (b:aK)(id:Int):Sm (λr=> .cg [.i .i64 r.1,.b r.2]) (il (ei b) (.i .i64 id)) (eQ b id):=by unfold il eQ;refine az (uo (ay (ae (mu b.L id dQ (Oq:=144) (zh:=[]) rfl (λu2 u3=>Sm.at (gM _ _) (Ep u2 u3))) λrA=>bX (En ?_))));exact ab
theorem W8 (b:aK)(id:Int):Sm MV.b (Bm (ei b) (.i .i64 id)) (wH b id):=by unfold Bm wH;refine az (uo (ay (ae (nQ b id) λrA=>bX (En ab))))
theorem zq (sA:List UInt8)(dR:List UInt8):Sm MV.b (ja (.s sA) (.s dR)) (iW sA dR):=by
 unfold ja iW;refine bu (bu ?_);refine ae (f:=λr=>[.b r]) ?_ λw=> ?_
 ·refine ax ?_ ?_
  ·refine bD ab
  ·exact ab
 ·refine aa (aN (ak ab))
theorem zr (sA:List UInt8)(dR:List UInt8):Sm (λr=> .cg [.s r.1,.b r.2]) (jb (.s sA) (.s dR)) (iX sA dR):=by
 unfold jb iX;refine bu (bu (ae (zq sA dR) λrA=>aN (aA ?_ ?_)))
 ·exact ab
 ·refine bD ab
theorem Er (sA:List UInt8)(dR:List UInt8):Sm (λr=> .cg [.s r.1,.b r.2]) (lE (.s sA) (.s dR)) (jm sA dR):=by unfold lE jm;refine bu (bu (ae (zr sA dR) λrA=>bX (aa (bu (aa (aN (ak ab)))))))
theorem Li (c:Int):Sm MV.b (qQ (.i .i32 c)) (iH c):=by unfold qQ iH;refine ay<|ae (WE ([97,98,99,100,101,102,103,104,105,106,107,108,109,110,111,112,113,114,115,116,117,118,119,120,121,122,48,49,50,51,52,53,54,55,56,57,45,95]:List UInt8) c) λrA=>aN ab
theorem Hb (sA:List UInt8)(f:Int->Option Bool)(Gf:Bool){CZ:Nat}{uE:List MV}(KK:gv CZ=false)(jG: ∀(u0:Int),Sm MV.b (jA CZ ([.i .i32 u0]++uE)) (f u0)):Sm (MV.i .i64) (nM (.s sA) (.func CZ uE) (.b Gf)) (nK sA f Gf):=by
 unfold nM nK;refine bu (vO (aN (ae (bB (λr=>[.list r]) (AI (λr=>(2,[])) (λr=>(1,[.i .i64 r]))) (rfl) λst=> ?_) λw=> ?_)))
 ·unfold jn;refine aa (aC (ak (aA ?_ ?_)))
  ·refine vN (aZ (by rw [KK];rfl) ?_);refine ae (jG (zD st)) λrA=>aN<|ax ?_ ?_
   ·exact ab
   ·exact ab
  ·exact ab
 ·rcases w with p1|p2
  ·refine ib rfl (ak ab)
  ·refine ic rfl (aZ rfl (aa (ay (ak ab))))
theorem Es (sA:List UInt8)(f:Int->Option Bool){CZ:Nat}{uE:List MV}(KK:gv CZ=false)(jG: ∀(u0:Int),Sm MV.b (jA CZ ([.i .i32 u0]++uE)) (f u0)):Sm (MV.i .i64) (lF (.s sA) (.func CZ uE)) (lC sA f):=by unfold lF lC;refine bu (vO (ae (Hb sA f true KK jG) λrA=>ay ab))
theorem AF (sA:List UInt8)(f:Int->Option Bool){CZ:Nat}{uE:List MV}(KK:gv CZ=false)(jG: ∀(u0:Int),Sm MV.b (jA CZ ([.i .i32 u0]++uE)) (f u0)):Sm MV.b (jB (.s sA) (.func CZ uE)) (gu sA f):=by unfold jB gu;refine bu (vO (ae (Es sA f KK jG) λrA=>ay ab))
theorem Q4 (sA:List UInt8):Sm MV.b (vh (.s sA)) (rf sA):=by
 unfold vh rf;refine bu ?_;refine ae (f:=λr=>[.b r]) ?_ λw=> ?_
 ·refine aA ?_ ?_
  ·refine ax ?_ ?_
   ·refine ae (ah7 sA ([97,98,99,100,101,102,103,104,105,106,107,108,109,110,111,112,113,114,115,116,117,118,119,120,121,122,48,49,50,51,52,53,54,55,56,57,45,95]:List UInt8)) λrA=>bu<|ax ?_ ?_
    ·refine ae (AF sA iH (CZ:=237) (uE:=[]) rfl (λu1=>Sm.at (rY _) (Li u1))) λaT=>aN ab
    ·exact ab
   ·exact ab
  ·exact ab
 ·refine aa (aN (ak ab))
theorem Ot (sA:List UInt8):Sm MV.b (sN (.s sA)) (mH sA):=by unfold sN mH;refine bu<|ae (Q4 sA) λrA=>aN ab
theorem yG (sA:List (List UInt8))(f:(List UInt8)->Option Bool){CZ:Nat}{uE:List MV}(KK:gv CZ=false)(jL: ∀(u0:List UInt8),Sm MV.b (fW CZ ([.s u0]++uE)) (f u0)):Sm (MV.i .i64) (iA (.list (sA.map MV.s)) (.func CZ uE)) (iw sA f):=by
 unfold iA iw;refine aC (vO (ao (ae (bB (λr=>[.i .i64 r]) (AI (λr=>(2,[])) (λr=>(1,[.i .i64 r]))) (rfl) λst=> ?_) λw=> ?_)))
 ·unfold eK;refine aa (ay (ak (ax ?_ ?_)))
  ·refine bc (f:=MV.s) (rfl) λy=> ?_;refine bu (vN (aZ (by rw [KK];rfl) ?_));refine ae (jL y) λrA=>aN<|aA ?_ ?_
   ·exact ab
   ·exact ab
  ·exact ab
 ·rcases w with p1|p2
  ·refine ib rfl (ak ab)
  ·refine ic rfl (aZ rfl (aa (ay (ak ab))))
theorem uK (sA:List (List UInt8))(f:(List UInt8)->Option Bool){CZ:Nat}{uE:List MV}(KK:gv CZ=false)(jL: ∀(u0:List UInt8),Sm MV.b (fW CZ ([.s u0]++uE)) (f u0)):Sm MV.b (fK (.list (sA.map MV.s)) (.func CZ uE)) (et sA f):=by unfold fK et;refine aC (vO (ae (yG sA f KK jL) λrA=>ay ab))
theorem qz (p:List UInt8):Sm (λr=> .cg [.list (r.1.map MV.s),.b r.2]) (kK (.s p)) (iN p):=by
 unfold kK iN;refine bu<|ae (Er p ([47]:List UInt8)) λrA=>bX (aa (bu (aa (aN (ak ?_)))));refine ae (f:=λr=>[.b r]) ?_ λw=> ?_
 ·refine aA ?_ ?_
  ·exact ab
  ·exact ab
 ·refine aa (aN (ak (aA ?_ ?_)))
  ·exact ab
  ·refine ax ?_ ?_
   ·exact ab
   ·refine ae (adH rA.1 ([47]:List UInt8)) λaT=>fp ?_;refine ae (f:=λr=>[.list (r.1.map MV.s),.b r.2.1,.list (r.2.2.map MV.s)]) ?_ λw1=> ?_
    ·refine ao<|ax ?_ ?_
     ·refine ae (uK aT mH (CZ:=196) (uE:=[]) rfl (λu1=>Sm.at (n8 _) (Ot u1))) λcf=>aN ab
     ·exact ab
    ·refine aa (aC (aa (aN (aa (aC (ak ab))))))
theorem za (x:List UInt8):Sm MV.b (lg (.s x)) (kV x):=by unfold lg kV;refine bu ab
theorem Et (x:List UInt8)(y:List UInt8):Sm (MV.i .i64) (lG (.s x) (.s y)) (jo x y):=by
 unfold lG jo;refine bu (bu (ae (za x) λrA=>aN (ae (za y) λaT=>aN (aA ?_ ?_))))
 ·refine aA ?_ ?_
  ·exact ab
  ·exact ab
 ·refine aA ?_ ?_
  ·exact ab
  ·refine aA ?_ ?_
   ·exact ab
   ·refine aA ?_ ?_
    ·exact ab
    ·exact ab
theorem AG (s1:List (List UInt8))(s2:List (List UInt8)):Sm (MV.i .i64) (jC (.list (s1.map MV.s)) (.list (s2.map MV.s))) (gw s1 s2):=by
 unfold jC gw;refine aC (aC (ao (ae (bB (λr=>[.i .i64 r]) (AI (λr=>(2,[])) (λr=>(1,[.i .i64 r]))) (rfl) λst=> ?_) λw=> ?_)))
 ·unfold fq;refine aa (ay (ak (ax ?_ ?_)))
  ·refine bc (f:=MV.s) (rfl) λy=>bu (ao (ax ?_ ?_))
   ·exact ab
   ·refine bc (f:=MV.s) (rfl) λy1=>bu<|ae (Et y y1) λrA=>ay<|aA ?_ ?_
    ·exact ab
    ·exact ab
  ·exact ab
 ·rcases w with p1|p2
  ·refine ib rfl (ak (ao (ao (ax ?_ ?_))))
   ·exact ab
   ·exact ab
  ·refine ic rfl (aZ rfl (aa (ay (ak ab))))
theorem Th (p:List UInt8)(q:List UInt8):Sm MV.b (ye (.s p) (.s q)) (tq p q):=by
 unfold ye tq;refine bu (bu (ae (qz p) λrA=>bX (AB (ae (qz q) λaT=>bX (AB ?_)))));refine ae (f:=λr=>[.b r]) ?_ λw=> ?_
 ·refine aA ?_ ?_
  ·refine aA ?_ ?_
   ·refine ae (AG rA.1 aT.1) λcf=>ay ab
   ·exact ab
  ·exact ab
 ·refine aa (aN (ak ab))
theorem CN (n:ah)(p:List UInt8):Sm (MV.i .i64) (kL (bj n) (.s p)) (cQ n p):=by
 unfold kL cQ;refine az (eh (bu (ax ?_ ?_)))
 ·exact ab
 ·refine ae (Th n.Path p) λrA=>aN<|aA ?_ ?_
  ·exact ab
  ·exact ab
theorem mw (x:List ah)(target:List UInt8)(cmp:ah->(List UInt8)->Option Int){Oq:Nat}{zh:List MV}(Gw:gv Oq=false)(fB: ∀(u0:ah)(u1:List UInt8),Sm (MV.i .i64) (cT Oq ([bj u0,.s u1]++zh)) (cmp u0 u1)):Sm (λr=> .cg [.i .i64 r.1,.b r.2]) (df (.list (x.map bj)) (.s target) (.func Oq zh)) (ec x target cmp):=by
 unfold df ec;refine aC (bu (vO (ao (ae (bB (λr=>[.i .i64 r.1,.i .i64 r.2]) (λr=>(2,[.i .i64 r])) (rfl) λst=> ?_) λw=> ?_))))
 ·unfold fN;refine AA<|ax ?_ ?_
  ·refine bD<|bc (f:=bj) (rfl) λy=> ?_;refine az (eh (vN (aZ (by rw [Gw];rfl) ?_)));refine ae (fB y target) λrA=>ay<|ae (f:=(λr=>(0,[.i .i64 r.1,.i .i64 r.2]))) ?_ λw1=> ?_
   ·refine ax ?_ ?_
    ·exact ab
    ·exact ab
   ·refine aZ rfl (AA ab)
  ·exact ab
 ·refine aZ rfl (aa (ay (ak ?_)));refine ae (f:=λr=>[.i .i64 r.1,.b r.2]) ?_ λw2=> ?_
  ·refine ax ?_ ?_
   ·refine bc (f:=bj) (rfl) λy1=> ?_;refine az (eh (vN (aZ (by rw [Gw];rfl) ?_)));refine ae (fB y1 target) λaT=>ay ab
   ·exact ab
  ·refine En ab
theorem xg (sA:aD)(p:List UInt8):Sm (λr=> .cg [.i .i64 r.1,.b r.2]) (kg (cJ sA) (.s p)) (eW sA p):=by unfold kg eW;refine az (aa (aC (ak (bu (ae (mw sA.L p cQ (Oq:=245) (zh:=[]) rfl (λu2 u3=>Sm.at (gz _ _) (CN u2 u3))) λrA=> ?_)))));refine bX (En ab)
theorem uq (p:List UInt8):Sm MV.b (ml (.s p)) (kE p):=by unfold ml kE;refine bu<|ae (qz p) λrA=>bX (AB ab)
theorem sV (sA:List UInt8)(c:Int):Sm (MV.i .i64) (eZ (.s sA) (.i .u8 c)) (eY sA c):=by
 unfold eZ eY;refine bu (ay (ae (bB (λr=>[.i .i64 r]) (AI (λr=>(2,[])) (λr=>(1,[.i .i64 r]))) (rfl) λst=> ?_) λw=> ?_))
 ·unfold eE;refine aa (ay (ak (ax ?_ ?_)))
  ·refine bD<|ax ?_ ?_
   ·exact ab
   ·exact ab
  ·exact ab
 ·rcases w with p1|p2
  ·refine ib rfl (ak ab)
  ·refine ic rfl (aZ rfl (aa (ay (ak ab))))
theorem vW (sep:List UInt8):Sm (λr=> .cg [.i .u32 r.1,.i .u32 r.2]) (fX (.s sep)) (jK sep):=by
 unfold fX jK;refine bu<|ae (bB (λr=>[.i .u32 r.1,.i .i64 r.2]) (λr=>(2,[.i .u32 r])) (rfl) λst=> ?_) λw=> ?_
 ·unfold ma;refine AA<|ax ?_ ?_
  ·refine bD ab
  ·exact ab
 ·refine aZ rfl (aa (ay (ak (ae (bB (λr=>[.i .u32 r.1,.i .u32 r.2.1,.i .i64 r.2.2]) (λr=>(4,[.i .u32 r])) (rfl) λdH=> ?_) λw1=> ?_))))
  ·unfold mb;refine nC<|ax ?_ ?_
   ·exact adE
   ·exact ab
  ·refine aZ rfl (aa (ay (ak ab)))
theorem pG (a:List UInt8)(a1:List UInt8):Sm (MV.i .i64) (dS (.s a) (.s a1)) (ft a a1):=by
 unfold dS ft;refine bu (bu (ae (vW a1) λrA=>bX (AA (ae (bB (λr=>[.i .u32 r.1,.i .i64 r.2]) (λr=>(2,[.i .u32 r])) (rfl) λst=> ?_) λw=> ?_))))
 ·unfold iO;refine AA<|ax ?_ ?_
  ·refine bD ab
  ·exact ab
 ·refine aZ rfl (aa (ay (ak ?_)));refine ae (f:=λr=>[.b r]) ?_ λw1=> ?_
  ·refine ax ?_ ?_
   ·refine bD ab
   ·exact ab
  ·refine aa (aN (ak (aA ?_ ?_)))
   ·exact ab
   ·refine ae (bB (λr=>[.i .u32 r.1,.i .i64 r.2]) (AI (λr=>(4,[])) (λr=>(1,[.i .i64 r]))) (rfl) λdH=> ?_) λw2=> ?_
    ·unfold iP;refine AA<|ax ?_ ?_
     ·refine bD (bD ?_);refine ae (f:=λr=>[.b r]) ?_ λw3=> ?_
      ·refine ax ?_ ?_
       ·refine bD ab
       ·exact ab
      ·refine aa (aN (ak (aA ?_ ?_)))
       ·exact ab
       ·exact ab
     ·exact ab
    ·rcases w2 with p2|p3
     ·refine ib rfl (ak ab)
     ·refine ic rfl (aZ rfl (aa (ay (ak ab))))
theorem Eu (sA:List UInt8)(substr:List UInt8):Sm (MV.i .i64) (lI (.s sA) (.s substr)) (jq sA substr):=by
 unfold lI jq;refine bu (bu (ax ?_ ?_))
 ·exact ab
 ·refine ax ?_ ?_
  ·refine bD<|ae (sV sA ((substr.getD (sh 0) 0).toNat:Int)) λrA=>ay ab
  ·refine ax ?_ ?_
   ·refine ax ?_ ?_
    ·exact ab
    ·exact ab
   ·refine ax ?_ ?_
    ·exact ab
    ·refine ae (pG sA substr) λaT=>ay ab
theorem Gx (p:List UInt8):Sm (λr=> .cg [.s r.1,.i .i64 r.2]) (rD (.s p)) (ou p):=by
 unfold rD ou;refine bu<|ae (uq p) λrA=>aN<|aA ?_ ?_
 ·exact ab
 ·refine ax ?_ ?_
  ·exact ab
  ·refine ae (Eu p ([47]:List UInt8)) λaT=>ay (bD ab)
theorem r9 (sA:aD)(p:List UInt8):Sm (λr=> .cg [.i .i64 r.1,.i .i64 r.2]) (jj (cJ sA) (.s p)) (ig sA p):=by
 unfold jj ig;refine az (aa (aC (ak (bu (ae (uq p) λrA=>aN (aA ?_ ?_))))))
 ·exact ab
 ·refine ae (xg sA p) λaT=>bX (En (aA ?_ ?_))
  ·exact ab
  ·exact ab
theorem Fy (sA:aD)(p:List UInt8):Sm (λr=> .cg [bj r.1,.i .i64 r.2]) (s7 (cJ sA) (.s p)) (ql sA p):=by
 unfold s7 ql;refine az (aa (aC (ak (bu (ae (r9 sA p) λrA=>bX (AA (aA ?_ ?_)))))))
 ·exact ab
 ·refine bc (f:=bj) (rfl) λy=>az (eh ab)
theorem J4 (c:List UInt8)(c1:Bool)(c2:aD)(c3:List UInt8)(c4:Int):Sm (MV.i .i64) (pz (.rp [.s c]) (.rp [.b c1]) (.rp [.list (c2.L.map bj)]) (.rp [.s c3]) (.rp [.i .i64 c4])) (iQ c c1 c2 c3 c4):=by
 unfold pz iQ;refine Me (aa (bu (ak (Me (aa (aN (ak (Me (aa (aC (ak (Me (aa (bu (ak (Me (aa (ay (ak (ae (uq c) λrA=>aN (aA ?_ ?_)))))))))))))))))))))
 ·exact ab
 ·refine aA ?_ ?_
  ·exact ab
  ·refine ae (Gx c) λaT=>bX (aa (bu (aa (ay (ak (ae (Fy c2 aT.1) λcf=>bX (aa (az (eh (aa (ay (ak (aA ?_ ?_)))))))))))))
   ·exact ab
   ·refine aA ?_ ?_
    ·exact ab
    ·refine ax ?_ ?_
     ·exact ab
     ·refine ax ?_ ?_
      ·exact ab
      ·refine ao<|ax ?_ ?_
       ·exact ab
       ·exact ab
theorem Ou (sA:aD)(p:List UInt8)(value:List UInt8)(owner:Int):Sm (λr=> .cg [cJ r.1,.i .i64 r.2]) (sO (cJ sA) (.s p) (.s value) (.i .i64 owner)) (mI sA p value owner):=by
 unfold sO mI;refine az (aa (aC (ak (bu (bu (ay (ae (xg sA p) λrA=>bX (En (ae (J4 p rA.2 sA value owner) λaT=>ay (aA ?_ ?_))))))))))
 ·exact ab
 ·refine Be<|ae (sK (size:=4) (f:=bj) (λ_=>rfl) sA.L) λcf=>fp<|ae (IX (f:=bj) cf rA.1 ([(⟨p,value,0,owner⟩:ah)]:List ah)) λfH=>fp ab
theorem oa (w:aj)(kind:Int):Sm (λr=> .fb ((λ_=> .cg []) r.1) (bS r.2)) (fV (bS w) (.i .i64 kind)) (ee w kind):=by
 unfold fV ee;refine ay (aI (ae (f:=(λr=>(0,(v1 r)))) ?_ λw1=> ?_))
 ·refine ax ?_ ?_
  ·refine ao (cc (([(⟨kind,w.o.Path⟩:aG)]:List aG).length) (bD (b9 (by simp [bS,aB,v1]))))
  ·exact ab
 ·refine aZ rfl (aI ab)
theorem Ew (w:aj):Sm (λr=> .fb ((λ_=> .cg []) r.1) (bS r.2)) (lJ (bS w)) (jr w):=by
 unfold lJ jr;refine aI ?_;refine ae (f:=λr=>[.b r]) ?_ λw1=> ?_
 ·refine aA ?_ ?_
  ·refine ae (W8 w.r.aL w.o.Session) λrA=>aN ab
  ·exact ab
 ·refine aa (aN (ak (aA ?_ ?_)))
  ·exact ab
  ·refine ae (Ou w.r.Shelf w.o.Path w.o.Value w.o.Session) λaT=>bX (aa (az (aa (aC (ak (aa (ay (ak (ae (oa (⟨(⟨aT.1,w.r.aL,w.r.aS,w.r.Seen⟩:ap),w.o,(⟨w.x.Client,w.x.Seq,aT.2,w.x.Value,w.x.Version,w.x.Names⟩:ai),w.l⟩:aj) 1) λcf=> ?_)))))))));refine Md (aI ab)
theorem J5 (w:aj):Sm (λr=> .fb ((λ_=> .cg []) r.1) (bS r.2)) (pA (bS w)) (mc w):=by unfold pA mc;refine aI<|ae (Fy w.r.Shelf w.o.Path) λrA=>bX (aa (az (eh (aa (ay (ak ab))))))
theorem rK (sA:aD)(p:List UInt8)(version:Int):Sm (λr=> .cg [.i .i64 r.1,.i .i64 r.2]) (gE (cJ sA) (.s p) (.i .i64 version)) (eX sA p version):=by
 unfold gE eX;refine az (aa (aC (ak (bu (ay (ae (r9 sA p) λrA=>bX (AA ?_)))))));refine ae (f:=λr=>[.b r]) ?_ λw=> ?_
 ·refine ax ?_ ?_
  ·refine aA ?_ ?_
   ·refine bc (f:=bj) (rfl) λy=>az (eh ab)
   ·exact ab
  ·exact ab
 ·refine aa (aN (ak (aA ?_ ?_)))
  ·exact ab
  ·exact ab
theorem W9 (sA:aD)(p:List UInt8)(value:List UInt8)(version:Int):Sm (λr=> .cg [cJ r.1,.i .i64 r.2]) (Bn (cJ sA) (.s p) (.s value) (.i .i64 version)) (wI sA p value version):=by
 unfold Bn wI;refine az (aa (aC (ak (bu (bu (ay (ae (rK sA p version) λrA=>bX (AA (aA ?_ ?_)))))))))
 ·exact ab
 ·refine ax ?_ ?_
  ·exact ab
  ·refine bc (f:=bj) (rfl) λy=>az (eh (ax ?_ ?_))
   ·exact ab
   ·refine ae (sK (size:=4) (f:=bj) (λ_=>rfl) sA.L) λaT=>fp<|bc (f:=bj) (rfl) λy1=>az (eh (bc (f:=bj) (by simp only [xP,aaq,IT,aas,aaF,AS,AT,aaJ]) λy2=> ?_));refine az (eh (bc (f:=bj) (by simp only [xP,aaq,IT,aas,aaF,AS,AT,aaJ]) λy3=>az (eh (b9 (by simp [fc])))))
theorem J6 (w:aj):Sm (λr=> .fb ((λ_=> .cg []) r.1) (bS r.2)) (pB (bS w)) (mf w):=by
 unfold pB mf;refine aI<|ae (W9 w.r.Shelf w.o.Path w.o.Value w.o.Version) λrA=>bX (aa (az (aa (aC (ak (aa (ay (ak (ae (oa (⟨(⟨rA.1,w.r.aL,w.r.aS,w.r.Seen⟩:ap),w.o,(⟨w.x.Client,w.x.Seq,rA.2,w.x.Value,w.x.Version,w.x.Names⟩:ai),w.l⟩:aj) 2) λaT=> ?_)))))))));refine Md (aI (ae (f:=(λr=>(0,(v1 r)))) ?_ λw1=> ?_))
 ·refine ax ?_ ?_
  ·refine ae (Fy aT.2.r.Shelf aT.2.o.Path) λcf=>bX (aa (az (eh (aa (ay (ak ab))))))
  ·exact ab
 ·refine aZ rfl (aI ab)
theorem ur (s1:List (List UInt8))(s2:List (List UInt8)):Sm MV.b (iT (.list (s1.map MV.s)) (.list (s2.map MV.s))) (fU s1 s2):=by
 unfold iT fU;refine aC (aC (ao (ao (aA ?_ ?_))))
 ·exact ab
 ·refine ao<|ae (bB (λr=>[.i .i64 r]) (AI (λr=>(2,[])) (λr=>(1,[.b r]))) (rfl) λst=> ?_) λw=> ?_
  ·unfold jt;refine aa (ay (ak (ax ?_ ?_)))
   ·refine bc (f:=MV.s) (rfl) λy=>bu<|bc (f:=MV.s) (rfl) λy1=>bu<|aA ?_ ?_
    ·exact ab
    ·exact ab
   ·exact ab
  ·rcases w with p1|p2
   ·refine ib rfl (ak ab)
   ·refine ic rfl (aZ rfl (aa (aN (ak ab))))
theorem J7 (p:List UInt8)(q:List UInt8):Sm MV.b (ue (.s p) (.s q)) (nZ p q):=by
 unfold ue nZ;refine bu (bu (ae (qz p) λrA=>bX (AB (ae (qz q) λaT=>bX (AB ?_)))));refine ae (f:=λr=>[.b r]) ?_ λw=> ?_
 ·refine aA ?_ ?_
  ·refine aA ?_ ?_
   ·refine ao (ao (ax ?_ ?_))
    ·refine ao (ao (bD (ae (by simpa using ur rA.1 (aaL (sh 0) (aaS (sh (rA.1.length:Int)) aT.1))) λcf=>aN ab)))
    ·exact ab
   ·exact ab
  ·exact ab
 ·refine aa (aN (ak ab))
theorem Ov (sA:aD)(p:List UInt8)(version:Int):Sm (λr=> .cg [cJ r.1,.i .i64 r.2]) (sP (cJ sA) (.s p) (.i .i64 version)) (o6 sA p version):=by
 unfold sP o6;refine az (aa (aC (ak (bu (ay (ae (rK sA p version) λrA=>bX (AA (ax ?_ ?_))))))))
 ·exact ab
 ·refine aA ?_ ?_
  ·exact ab
  ·refine ae (f:=λr=>[.b r]) ?_ λw=> ?_
   ·refine ao<|ax ?_ ?_
    ·refine bc (f:=bj) (rfl) λy=>az (eh (ae (J7 p y.Path) λaT=>aN ab))
    ·exact ab
   ·refine aa (aN (ak (aA ?_ ?_)))
    ·exact ab
    ·refine ae (sK (size:=4) (f:=bj) (λ_=>rfl) sA.L) λcf=>fp<|ae (Qh (f:=bj) cf rA.1 (c9 .i64 (rA.1+1))) λfH=>fp ab
theorem Ex (w:aj):Sm (λr=> .fb ((λ_=> .cg []) r.1) (bS r.2)) (lK (bS w)) (ju w):=by unfold lK ju;refine aI<|ae (Ov w.r.Shelf w.o.Path w.o.Version) λrA=>bX (aa (az (aa (aC (ak (aa (ay (ak (ae (oa (⟨(⟨rA.1,w.r.aL,w.r.aS,w.r.Seen⟩:ap),w.o,(⟨w.x.Client,w.x.Seq,rA.2,w.x.Value,w.x.Version,w.x.Names⟩:ai),w.l⟩:aj) 3) λaT=> ?_)))))))));refine Md (aI ab)
theorem J8 (p:List UInt8):Sm (λr=> .cg [.list (r.1.map MV.s),.i .i64 r.2]) (uf (.s p)) (qm p):=by
 unfold uf qm;refine bu<|ae (qz p) λrA=>bX (AB (aA ?_ ?_))
 ·exact ab
 ·exact ab
theorem Ti (a:aD)(a1:List UInt8):Sm (λr=> .cg [.list (r.1.map MV.s),.i .i64 r.2]) (yl (cJ a) (.s a1)) (tt a a1):=by
 unfold yl tt;refine az (aa (aC (ak (bu (ae (r9 a a1) λrA=>bX (AA (aA ?_ ?_)))))))
 ·exact ab
 ·refine ae (J8 a1) λaT=> ?_;refine bX (qy (aZ (mF (rfl:_=aaK bj a.L) λ_=>rfl) (ao (bD (xQ (n:=(aaL (sh (c9 .i64 (rA.1+1))) (aaS (sh (a.L.length:Int)) a.L)).length) (by simp only [By,IN,BY,IS,No,OF,aar]) ?_)))));refine ae (bB (λr=>[.list (r.1.map MV.s),.i .i64 r.2]) (λr=>(2,[.list (r.map MV.s)])) (rfl) λst=> ?_) λw=> ?_
  ·unfold o7;refine qy<|ax ?_ ?_
   ·refine bc (f:=bj) (by simp only [xP,aaq,IT,aas,aaF,AS,AT,aaJ]) λy=>az (eh (ae (J7 a1 y.Path) λcf=>aN (aA ?_ ?_)))
    ·exact ab
    ·refine ae (J8 y.Path) λfH=>bX (qy (ao (ao (ae (f:=(λr=>(0,[.list (r.map MV.s)]))) ?_ λw1=> ?_))))
     ·refine ax ?_ ?_
      ·refine ao<|bc (f:=MV.s) (rfl) λy1=>bu (ao (cc (([y1]:List (List UInt8)).length) (bD (b9 (by first|(simp;done)|simp only [bj,cJ,Ge,Dy,IT,aas,aaF,AS,AT,aaJ])))))
      ·exact ab
     ·refine aZ rfl (aa (aC (ak ab)))
   ·exact ab
  ·refine aZ rfl (aa (aC (ak ab)))
theorem Hc (w:aj):Sm (λr=> .fb ((λ_=> .cg []) r.1) (bS r.2)) (nN (bS w)) (kW w):=by unfold nN kW;refine aI<|ae (Ti w.r.Shelf w.o.Path) λrA=>bX (qy ab)
theorem Tj (b:aK)(id:Int)(span:Int):Sm (λr=> .cg [ei r.1,.i .i64 r.2]) (ym (ei b) (.i .i64 id) (.i .i64 span)) (tu b id span):=by
 unfold ym tu;refine az (uo (ay (ay (ae (nQ b id) λrA=>bX (En ?_)))));refine ae (f:=λr=>[.b r]) ?_ λw=> ?_
 ·refine ax ?_ ?_
  ·exact ab
  ·refine ax ?_ ?_
   ·exact ab
   ·exact ab
 ·refine aa (aN (ak (aA ?_ ?_)))
  ·exact ab
  ·refine aA ?_ ?_
   ·exact ab
   ·refine ao<|ax ?_ ?_
    ·exact ab
    ·refine Be<|ae (sK (size:=3) (f:=bm) (λ_=>rfl) b.L) λaT=>fp<|ae (IX (f:=bm) aT rA.1 ([(⟨id,span,c9 .i64 (b.cI+span)⟩:aE)]:List aE)) λcf=>fp ?_;exact ab
theorem Hd (w:aj):Sm (λr=> .fb ((λ_=> .cg []) r.1) (bS r.2)) (nO (bS w)) (kX w):=by unfold nO kX;refine aI<|ae (Tj w.r.aL w.o.Session w.o.Span) λrA=>bX (aa (az (uo (aa (ay (ak ab))))))
theorem Q5 (b:aK)(id:Int):Sm (λr=> .cg [ei r.1,.i .i64 r.2]) (vn (ei b) (.i .i64 id)) (rh b id):=by
 unfold vn rh;refine az (uo (ay (ae (nQ b id) λrA=>bX (En (aA ?_ ?_)))))
 ·exact ab
 ·refine ae (sK (size:=3) (f:=bm) (λ_=>rfl) b.L) λaT=>fp<|bc (f:=bm) (rfl) λy=>az (nC (bc (f:=bm) (rfl) λy1=>az (nC (b9 (by simp)))))
theorem Fz (w:aj):Sm (λr=> .fb ((λ_=> .cg []) r.1) (bS r.2)) (mN (bS w)) (j6 w):=by unfold mN j6;refine aI<|ae (Q5 w.r.aL w.o.Session) λrA=>bX (aa (az (uo (aa (ay (ak ab))))))
theorem Q6 (b:aK)(id:Int):Sm (λr=> .cg [ei r.1,.i .i64 r.2]) (vo (ei b) (.i .i64 id)) (rj b id):=by
 unfold vo rj;refine az (uo (ay (ae (nQ b id) λrA=>bX (En (aA ?_ ?_)))))
 ·exact ab
 ·refine ae (sK (size:=3) (f:=bm) (λ_=>rfl) b.L) λaT=>fp<|ae (Qh (f:=bm) aT rA.1 (c9 .i64 (rA.1+1))) λcf=>fp ab
theorem Tk (sA:aD)(owner:Int):Sm (λr=> .cg [cJ r.1,.list (r.2.map MV.s)]) (yn (cJ sA) (.i .i64 owner)) (tw sA owner):=by
 unfold yn tw;refine az (aa (aC (ak (ay (ao (ae (bB (λr=>[.list (r.1.map MV.s),.list (r.2.1.map bj),.i .i64 r.2.2]) (λr=>(2,[.list (r.1.map MV.s),.list (r.2.map bj)])) (rfl) λst=> ?_) λw=> ?_))))))
 ·unfold o8;refine y9<|ax ?_ ?_
  ·refine bc (f:=bj) (rfl) λy=>az (eh ?_);refine ae (f:=λr=>[.b r]) ?_ λw1=> ?_
   ·refine ax ?_ ?_
    ·exact ab
    ·exact ab
   ·refine aa (aN (ak (aA ?_ ?_)))
    ·refine ao (cc (([y.Path]:List (List UInt8)).length) (bD (b9 (by simp [fc]))))
    ·refine ao (cc (([y]:List ah).length) (bD (b9 (by simp [fc]))))
  ·exact ab
 ·refine aZ rfl (AD ab)
theorem zb (w:aj)(id:Int):Sm (λr=> .fb ((λ_=> .cg []) r.1) (bS r.2)) (li (bS w) (.i .i64 id)) (ji w id):=by
 unfold li ji;refine ay (aI (ae (Tk w.r.Shelf id) λrA=>bX (aa (az (aa (aC (ak (aa (aC (ak (ao (ae (bB (λr=>(v0 r)) (λr=>(2,(v1 r))) (rfl) λst=> ?_) λw1=> ?_))))))))))))
 ·unfold jv;refine aa (ay (aI (ax ?_ ?_)))
  ·refine bc (f:=MV.s) (rfl) λy=>bu (ao (cc (([(⟨3,y⟩:aG)]:List aG).length) (bD (b9 (by simp [bS,aB,v0,v1])))))
  ·exact ab
 ·refine aZ rfl (aI ab)
theorem FA (w:aj):Sm (λr=> .fb ((λ_=> .cg []) r.1) (bS r.2)) (mO (bS w)) (j7 w):=by
 unfold mO j7;refine aI<|ae (Q6 w.r.aL w.o.Session) λrA=>bX (aa (az (uo (aa (ay (ak (ae (f:=(λr=>(0,(v1 r)))) ?_ λw1=> ?_)))))))
 ·refine ax ?_ ?_
  ·refine ae (zb (⟨(⟨w.r.Shelf,rA.1,w.r.aS,w.r.Seen⟩:ap),w.o,(⟨w.x.Client,w.x.Seq,rA.2,w.x.Value,w.x.Version,w.x.Names⟩:ai),w.l⟩:aj) w.o.Session) λaT=>Md (aI ab)
  ·exact ab
 ·refine aZ rfl (aI ab)
theorem Tl (b:aK)(now:Int):Sm (λr=> .cg [ei r.1,.list (r.2.1.map (MV.i .i64)),.i .i64 r.2.2]) (yo (ei b) (.i .i64 now)) (tx b now):=by
 unfold yo tx;refine az (uo (ay (ax ?_ ?_)))
 ·exact ab
 ·refine ax ?_ ?_
  ·exact ab
  ·refine ao<|ae (bB (λr=>[.list (r.1.map (MV.i .i64)),.i .i64 r.2.1,.list (r.2.2.1.map bm),.i .i64 r.2.2.2]) (λr=>(3,[.list (r.1.map (MV.i .i64)),.i .i64 r.2.1,.list (r.2.2.map bm)])) (rfl) λst=> ?_) λw=> ?_
   ·unfold o9;refine aa (aC (aa (ay (qy (ax ?_ ?_)))))
    ·refine bc (f:=bm) (rfl) λy=>az (nC (ax ?_ ?_))
     ·refine ao (cc (([y.Id]:List Int).length) (bD (b9 (by simp))))
     ·refine ao (cc (([y]:List aE).length) (bD (b9 (by simp))))
    ·exact ab
   ·refine aZ rfl (aa (aC (uo ab)))
theorem He (w:aj):Sm (λr=> .fb ((λ_=> .cg []) r.1) (bS r.2)) (nP (bS w)) (kY w):=by
 unfold nP kY;refine aI<|ae (Tl w.r.aL w.o.Span) λrA=>bX (aa (az (uo (qy (aA ?_ ?_)))))
 ·exact ab
 ·refine ao<|ae (bB (λr=>(v0 r)) (λr=>(2,(v1 r))) (rfl) λst=> ?_) λw1=> ?_
  ·unfold jx;refine aa (ay (aI (ax ?_ ?_)))
   ·refine bc (f:=(MV.i .i64)) (rfl) λy=>ay<|ae (zb (⟨(⟨(⟨st.2.1⟩:aD),(⟨st.2.2.1,st.2.2.2.1⟩:aK),(⟨st.2.2.2.2.1⟩:ca),st.2.2.2.2.2.1⟩:ap),(⟨st.2.2.2.2.2.2.1,st.2.2.2.2.2.2.2.1,st.2.2.2.2.2.2.2.2.1,st.2.2.2.2.2.2.2.2.2.1,st.2.2.2.2.2.2.2.2.2.2.1,st.2.2.2.2.2.2.2.2.2.2.2.1,st.2.2.2.2.2.2.2.2.2.2.2.2.1,st.2.2.2.2.2.2.2.2.2.2.2.2.2.1⟩:ar),(⟨st.2.2.2.2.2.2.2.2.2.2.2.2.2.2.1,st.2.2.2.2.2.2.2.2.2.2.2.2.2.2.2.1,st.2.2.2.2.2.2.2.2.2.2.2.2.2.2.2.2.1,st.2.2.2.2.2.2.2.2.2.2.2.2.2.2.2.2.2.1,st.2.2.2.2.2.2.2.2.2.2.2.2.2.2.2.2.2.2.1,st.2.2.2.2.2.2.2.2.2.2.2.2.2.2.2.2.2.2.2.1⟩:ai),st.2.2.2.2.2.2.2.2.2.2.2.2.2.2.2.2.2.2.2.2⟩:aj) y) λaT=> ?_;refine Md (aI ab)
   ·exact ab
  ·refine aZ rfl (aI ab)
theorem yH (sA:List aq)(v:aq):Sm (MV.i .i64) (iB (.list (sA.map bC)) (bC v)) (iy sA v):=by
 unfold iB iy;refine aC (az (rJ (ao (ae (bB (λr=>[.i .i64 r]) (AI (λr=>(2,[])) (λr=>(1,[.i .i64 r]))) (rfl) λst=> ?_) λw=> ?_))))
 ·unfold eL;refine aa (ay (ak (ax ?_ ?_)))
  ·refine bc (f:=bC) (rfl) λy=>az (rJ (aA ?_ ?_))
   ·exact ab
   ·exact ab
  ·exact ab
 ·rcases w with p1|p2
  ·refine ib rfl (ak ab)
  ·refine ic rfl (aZ rfl (aa (ay (ak ab))))
theorem uL (sA:List aq)(v:aq):Sm MV.b (fL (.list (sA.map bC)) (bC v)) (eu sA v):=by unfold fL eu;refine aC (az (rJ (ae (yH sA v) λrA=>ay ab)))
theorem Xa (t:ca)(w:aq):Sm (λr=> .cg [lj r.1,.i .i64 r.2]) (Bo (lj t) (bC w)) (sZ t w):=by
 unfold Bo sZ;refine az (aa (aC (ak (az (rJ (ae (uq w.Path) λrA=>aN (aA ?_ ?_)))))))
 ·exact ab
 ·refine ax ?_ ?_
  ·exact ab
  ·refine ae (uL t.L w) λaT=>aN<|aA ?_ ?_
   ·exact ab
   ·refine ao<|ax ?_ ?_
    ·exact ab
    ·refine Be<|ae (sK (size:=3) (f:=bC) (λ_=>rfl) t.L) λcf=>fp (ao (cc (([w]:List aq).length) (bD (b9 (by simp)))))
theorem FB (w:aj):Sm (λr=> .fb ((λ_=> .cg []) r.1) (bS r.2)) (mP (bS w)) (j8 w):=by unfold mP j8;refine aI<|ae (Xa w.r.aS (⟨w.o.Path,w.o.Client,decide (w.o.Kind=11)⟩:aq)) λrA=>bX (aa (az (aa (aC (ak (aa (ay (ak ab))))))))
theorem Tn:Sm (NE (λx:Nat=>MV.func x [])) (yp) (tz):=by unfold yp tz;exact ab
theorem Lj (c:aG)(w:aq):Sm MV.b (qV (gp c) (bC w)) (nr c w):=by
 unfold qV nr;refine az (aa (ay (aa (bu (ak (az (rJ ?_)))))));refine ae (f:=λr=>[.b r]) ?_ λw1=> ?_
 ·refine ax ?_ ?_
  ·exact ab
  ·refine ax ?_ ?_
   ·exact ab
   ·refine ae (uq c.Path) λrA=>aN ab
 ·refine aa (aN (ak (aA ?_ ?_)))
  ·exact ab
  ·refine aA ?_ ?_
   ·exact ab
   ·refine ae (Gx c.Path) λaT=>bX (aa (bu (aa (ay (ak ?_)))));refine ae (f:=λr=>[.b r]) ?_ λw2=> ?_
    ·refine ax ?_ ?_
     ·refine aA ?_ ?_
      ·exact ab
      ·exact ab
     ·exact ab
    ·refine aa (aN (ak ab))
theorem Ow (w:aq)(c:aG)(c1:List bk):Sm (λr=> .fb (MV.b r.1) [.list (r.2.map cW)]) (pD (bC w) (.rp [.i .i64 c.Kind,.s c.Path]) [.list (c1.map cW)]) (mJ w c c1):=by
 unfold pD mJ;refine az (rJ (Me (aa (ay (aa (bu (ak (aa (aC (ak (ae (Lj c w) λrA=>aN (ae (f:=(λr=>(0,[.list (r.map cW)]))) ?_ λw1=> ?_))))))))))))
 ·refine aA ?_ ?_
  ·refine ao (cc (([(⟨w,c⟩:bk)]:List bk).length) (bD (b9 (by simp))))
  ·exact ab
 ·refine aZ rfl (aa (aC (ak ab)))
theorem To (t:ca)(lA:List aG):Sm (λr=> .cg [lj r.1,.list (r.2.map cW)]) (yu (lj t) (.list (lA.map gp))) (tA t lA):=by
 unfold yu tA;refine az (aa (aC (ak (aC (ae (sK (size:=3) (f:=bC) (λ_=>rfl) t.L) λrA=>fp (ao (ae (bB (λr=>[.list (r.1.map bC),.list (r.2.1.map cW),.i .i64 r.2.2]) (λr=>(2,[.list (r.1.map bC),.list (r.2.map cW)])) (rfl) λst=> ?_) λw=> ?_)))))))
 ·unfold pa;refine y9<|ax ?_ ?_
  ·refine bc (f:=gp) (rfl) λy=>az (aa (ay (aa (bu (ak (aZ (aaf (rfl:_=aaK bC st.1) λ_=>rfl) (ae (aag (f:=bC) (lv:=(λsA=>[.list (sA.map cW)])) (cE:=[.rp [.i .i64 y.Kind,.s y.Path]]) (λu sA=>Sm.at (yt (bC u) (.rp [.i .i64 y.Kind,.s y.Path]) [.list (sA.map cW)]) (Ow u y sA)) st.2.1 st.1) λaT=> ?_)))))));refine aa (aC (ak ab))
  ·exact ab
 ·refine aZ rfl (AD ab)
theorem Lk (k:Nat)(x0:aj):Sm (λr=> .fb ((λ_=> .cg []) r.1) [.list (r.2.r.Shelf.L.map bj),.i .i64 r.2.r.aL.cI,.list (r.2.r.aL.L.map bm),.list (r.2.r.aS.L.map bC),.list (r.2.r.Seen.map bl),.i .i64 r.2.o.Client,.i .i64 r.2.o.Seq,.i .i64 r.2.o.Kind,.s r.2.o.Path,.s r.2.o.Value,.i .i64 r.2.o.Version,.i .i64 r.2.o.Session,.i .i64 r.2.o.Span,.i .i64 r.2.x.Client,.i .i64 r.2.x.Seq,.i .i64 r.2.x.E,.s r.2.x.Value,.i .i64 r.2.x.Version,.list (r.2.x.Names.map MV.s),.list (r.2.l.map gp)]) (KD [105,106,107,108,109,110,111,112,113,114,115] k λk=>dN k [.cell (.func 0 [.list (x0.r.Shelf.L.map bj),.i .i64 x0.r.aL.cI,.list (x0.r.aL.L.map bm),.list (x0.r.aS.L.map bC),.list (x0.r.Seen.map bl),.i .i64 x0.o.Client,.i .i64 x0.o.Seq,.i .i64 x0.o.Kind,.s x0.o.Path,.s x0.o.Value,.i .i64 x0.o.Version,.i .i64 x0.o.Session,.i .i64 x0.o.Span,.i .i64 x0.x.Client,.i .i64 x0.x.Seq,.i .i64 x0.x.E,.s x0.x.Value,.i .i64 x0.x.Version,.list (x0.x.Names.map MV.s),.list (x0.l.map gp)])]) (nt k x0):=by unfold nt;refine qM (λ_=>Sm.at (rG _) (CM x0))<|qM (λ_=>Sm.at (r6 _) (Ew x0))<|qM (λ_=>Sm.at (uH _) (J5 x0))<|qM (λ_=>Sm.at (uI _) (J6 x0)) ?_;refine qM (λ_=>Sm.at (r7 _) (Ex x0))<|qM (λ_=>Sm.at (uh _) (Hc x0))<|qM (λ_=>Sm.at (ui _) (Hd x0))<|qM (λ_=>Sm.at (sQ _) (Fz x0)) ?_;refine qM (λ_=>Sm.at (sR _) (FA x0))<|qM (λ_=>Sm.at (uj _) (He x0))<|adF (λ_=>Sm.at (sS _) (FB x0))
theorem AH (a:ap)(a1:ar):Sm (λr=> .cg [eJ r.1,bl r.2.1,.list (r.2.2.map cW)]) (oJ (eJ a) (cA a1)) (mg a a1):=by
 unfold oJ mg;refine az (dm (az (eC (ae (Fx a a1) λrA=>bX (aa (az (bY (aa (aN (ak (aA ?_ ?_)))))))))))
 ·exact ab
 ·refine ae (Tn) λaT=>aC<|bc (f:=(λx:Nat=>MV.func x [])) (rfl) λy=>vO (vN (ak (ae (Lk y (⟨a,a1,rA.1,([]:List aG)⟩:aj)) λcf=>Md (aI (ae (To cf.2.r.aS cf.2.l) λfH=> ?_)))));refine bX (aa (az (aa (aC (ak (aa (aC (ak (ae (sK (size:=6) (f:=bl) (λ_=>rfl) a.Seen) λn0=>fp (ae (xf a a1.Client) λqn=>bX (En (ae (f:=(λr=>(0,(v1 r)))) ?_ λw=> ?_))))))))))))
  ·refine aA ?_ ?_
   ·refine bc (f:=bl) (rfl) λy1=>az (bY (b9 (by simp [bK,cU,cm,aB,v1])))
   ·refine ae (IX (f:=bl) n0 qn.1 ([cf.2.x]:List ai)) λmT=>fp ab
  ·refine aZ rfl (aI (Be ab))
theorem Xb:Sm cJ (Bp) (Fh):=by unfold Bp Fh;exact ab
theorem Xc:Sm ei (Bq) (Fi):=by unfold Bq Fi;exact ab
theorem FC:Sm eJ (s8) (s4):=by unfold s8 s4;refine ae (Xb) λrA=>az (aa (aC (ak (ae (Xc) λaT=>az (uo ab)))))
theorem zt (s1:List ah)(s2:List ah):Sm MV.b (jc (.list (s1.map bj)) (.list (s2.map bj))) (iY s1 s2):=by
 unfold jc iY;refine aC (aC (ao (ao (aA ?_ ?_))))
 ·exact ab
 ·refine ao<|ae (bB (λr=>[.i .i64 r]) (AI (λr=>(2,[])) (λr=>(1,[.b r]))) (rfl) λst=> ?_) λw=> ?_
  ·unfold gQ;refine aa (ay (ak (ax ?_ ?_)))
   ·refine bc (f:=bj) (rfl) λy=>az (eh (bc (f:=bj) (rfl) λy1=>az (eh (aA ?_ ?_))))
    ·exact ab
    ·exact ab
   ·exact ab
  ·rcases w with p1|p2
   ·refine ib rfl (ak ab)
   ·refine ic rfl (aZ rfl (aa (aN (ak ab))))
theorem Tp (a:aD)(b:aD):Sm MV.b (yw (cJ a) (cJ b)) (tB a b):=by unfold yw tB;refine az (aa (aC (ak (az (aa (aC (ak (ae (zt a.L b.L) λrA=>aN ab))))))))
theorem vX (s1:List aE)(s2:List aE):Sm MV.b (fY (.list (s1.map bm)) (.list (s2.map bm))) (eM s1 s2):=by
 unfold fY eM;refine aC (aC (ao (ao (aA ?_ ?_))))
 ·exact ab
 ·refine ao<|ae (bB (λr=>[.i .i64 r]) (AI (λr=>(2,[])) (λr=>(1,[.b r]))) (rfl) λst=> ?_) λw=> ?_
  ·unfold ef;refine aa (ay (ak (ax ?_ ?_)))
   ·refine bc (f:=bm) (rfl) λy=>az (nC (bc (f:=bm) (rfl) λy1=>az (nC (aA ?_ ?_))))
    ·exact ab
    ·exact ab
   ·exact ab
  ·rcases w with p1|p2
   ·refine ib rfl (ak ab)
   ·refine ic rfl (aZ rfl (aa (aN (ak ab))))
theorem Tq (a:aK)(b:aK):Sm MV.b (yx (ei a) (ei b)) (tC a b):=by
 unfold yx tC;refine az (uo (az (uo ?_)));refine ae (f:=λr=>[.b r]) ?_ λw=> ?_
 ·refine ax ?_ ?_
  ·refine ae (vX a.L b.L) λrA=>aN ab
  ·exact ab
 ·refine aa (aN (ak ab))
theorem yI (s1:List aq)(s2:List aq):Sm MV.b (iC (.list (s1.map bC)) (.list (s2.map bC))) (fw s1 s2):=by
 unfold iC fw;refine aC (aC (ao (ao (aA ?_ ?_))))
 ·exact ab
 ·refine ao<|ae (bB (λr=>[.i .i64 r]) (AI (λr=>(2,[])) (λr=>(1,[.b r]))) (rfl) λst=> ?_) λw=> ?_
  ·unfold eN;refine aa (ay (ak (ax ?_ ?_)))
   ·refine bc (f:=bC) (rfl) λy=>az (rJ (bc (f:=bC) (rfl) λy1=>az (rJ (aA ?_ ?_))))
    ·exact ab
    ·exact ab
   ·exact ab
  ·rcases w with p1|p2
   ·refine ib rfl (ak ab)
   ·refine ic rfl (aZ rfl (aa (aN (ak ab))))
theorem Tr (a:ca)(b:ca):Sm MV.b (yy (lj a) (lj b)) (tD a b):=by unfold yy tD;refine az (aa (aC (ak (az (aa (aC (ak (ae (yI a.L b.L) λrA=>aN ab))))))))
theorem Ts (a:ai)(b:ai):Sm MV.b (yz (bl a) (bl b)) (mh a b):=by
 unfold yz mh;refine az (bY (az (bY ?_)));refine ae (f:=λr=>[.b r]) ?_ λw=> ?_
 ·refine ax ?_ ?_
  ·refine ax ?_ ?_
   ·refine ax ?_ ?_
    ·refine ax ?_ ?_
     ·refine ax ?_ ?_
      ·refine ae (ur a.Names b.Names) λrA=>aN ab
      ·exact ab
     ·exact ab
    ·exact ab
   ·exact ab
  ·exact ab
 ·refine aa (aN (ak ab))
theorem jH (s1:List ai)(s2:List ai)(eq:ai->ai->Option Bool){Oq:Nat}{zh:List MV}(aqd:gv Oq=false)(iU: ∀(u0:ai)(u1:ai),Sm MV.b (cV Oq ([bl u0,bl u1]++zh)) (eq u0 u1)):Sm MV.b (cj (.list (s1.map bl)) (.list (s2.map bl)) (.func Oq zh)) (bQ s1 s2 eq):=by
 unfold cj bQ;refine aC (aC (vO (ao (ao (aA ?_ ?_)))))
 ·exact ab
 ·refine ao<|ae (bB (λr=>[.i .i64 r]) (AI (λr=>(2,[])) (λr=>(1,[.b r]))) (rfl) λst=> ?_) λw=> ?_
  ·unfold bN;refine aa (ay (ak (ax ?_ ?_)))
   ·refine bc (f:=bl) (rfl) λy=>az (bY (bc (f:=bl) (rfl) λy1=> ?_));refine az (bY (vN (aZ (by rw [aqd];rfl) ?_)));refine ae (iU y y1) λrA=>aN<|aA ?_ ?_
    ·exact ab
    ·exact ab
   ·exact ab
  ·rcases w with p1|p2
   ·refine ib rfl (ak ab)
   ·refine ic rfl (aZ rfl (aa (aN (ak ab))))
theorem J9 (a:ap)(b:ap):Sm MV.b (ul (eJ a) (eJ b)) (qo a b):=by
 unfold ul qo;refine az (dm (az (dm ?_)));refine ae (f:=λr=>[.b r]) ?_ λw=> ?_
 ·refine ae (Tp a.Shelf b.Shelf) λrA=>aN<|aA ?_ ?_
  ·refine ae (Tq a.aL b.aL) λaT=>aN<|aA ?_ ?_
   ·refine ae (Tr a.aS b.aS) λcf=>aN<|aA ?_ ?_
    ·refine ae (jH a.Seen b.Seen mh (Oq:=80) (zh:=[]) rfl (λu2 u3=>Sm.at (fZ _ _) (Ts u2 u3))) λfH=>aN ab
    ·exact ab
   ·exact ab
  ·exact ab
 ·refine aa (aN (ak ab))
theorem MF:Sm MV.b (xc) (s5):=by
 unfold xc s5;refine ae (FC) λrA=>az (dm (ae (AH rA (⟨1,1,1,([47,97]:List UInt8),([120]:List UInt8),0,0,0⟩:ar)) λaT=>bX (aa (az (dm (aa (az (bY (aa (aC (ak (ae (AH aT.1 (⟨1,1,1,([47,97]:List UInt8),([120]:List UInt8),0,0,0⟩:ar)) λcf=> ?_))))))))))));refine bX (aa (az (dm (aa (az (bY (aa (aC (ak (ae (J3 cf.1 1) λfH=>bX (aa (az (bY (aa (aN (ak ?_))))))))))))))));refine ae (f:=λr=>[.b r]) ?_ λw=> ?_
 ·refine ax ?_ ?_
  ·refine ax ?_ ?_
   ·refine ao<|ax ?_ ?_
    ·refine ae (J9 aT.1 cf.1) λn0=>aN<|aA ?_ ?_
     ·refine aA ?_ ?_
      ·exact ab
      ·exact ab
     ·exact ab
    ·exact ab
   ·exact ab
  ·exact ab
 ·refine aa (aN (ak ab))
theorem abc (kind:Int):Sm MV.s (D7 (.i .i64 kind)) (z7 kind):=by
 unfold D7 z7;refine ay<|ax ?_ ?_
 ·exact ab
 ·refine ae (f:=(λr=>(0,[.b r]))) ?_ λw=> ?_
  ·refine ax ?_ ?_
   ·exact ab
   ·refine ae (f:=(λr=>(0,[.b r]))) ?_ λw1=> ?_
    ·refine ax ?_ ?_
     ·exact ab
     ·refine ae (f:=(λr=>(0,[.b r]))) ?_ λw2=> ?_
      ·refine ax ?_ ?_
       ·exact ab
       ·exact ab
      ·refine aZ rfl (aa (aN (ak ab)))
    ·refine aZ rfl (aa (aN (ak ab)))
  ·refine aZ rfl (aa (aN (ak (aA ?_ ?_))))
   ·exact ab
   ·refine ax ?_ ?_
    ·exact ab
    ·refine ax ?_ ?_
     ·exact ab
     ·refine ax ?_ ?_
      ·exact ab
      ·refine ae (f:=(λr=>(0,[.b r]))) ?_ λw3=> ?_
       ·refine ax ?_ ?_
        ·exact ab
        ·exact ab
       ·refine aZ rfl (aa (aN (ak (aA ?_ ?_))))
        ·exact ab
        ·refine ax ?_ ?_
         ·exact ab
         ·exact ab
theorem vY (sA:List UInt8)(c:Int):Sm MV.b (qw (.s sA) (.i .u8 c)) (iz sA c):=by
 unfold qw iz;refine bu (ay (ae (bB (λr=>[.i .i64 r]) (AI (λr=>(2,[])) (λr=>(1,[.b r]))) (rfl) λst=> ?_) λw=> ?_))
 ·unfold z8;refine aa (ay (ak (ax ?_ ?_)))
  ·refine bD<|ax ?_ ?_
   ·exact ab
   ·exact ab
  ·exact ab
 ·rcases w with p1|p2
  ·refine ib rfl (ak ab)
  ·refine ic rfl (aZ rfl (aa (aN (ak ab))))
theorem aeG (a:dJ):Sm MV.b (Hy (iG a)) (DA a):=by
 unfold Hy DA;refine az (eC ?_);refine ae (f:=λr=>[.b r]) ?_ λw=> ?_
 ·refine ax ?_ ?_
  ·exact ab
  ·refine ax ?_ ?_
   ·exact ab
   ·refine ax ?_ ?_
    ·exact ab
    ·refine ax ?_ ?_
     ·exact ab
     ·refine ax ?_ ?_
      ·exact ab
      ·refine ax ?_ ?_
       ·exact ab
       ·refine ax ?_ ?_
        ·exact ab
        ·exact ab
 ·refine aa (aN (ak (aA ?_ ?_)))
  ·exact ab
  ·refine ae (abc a.Kind) λrA=>bu ?_;refine ae (f:=λr=>[.b r]) ?_ λw1=> ?_
   ·refine ae (vY rA 112) λaT=>aN<|aA ?_ ?_
    ·refine ae (vY rA 118) λcf=>aN<|aA ?_ ?_
     ·exact ab
     ·exact ab
    ·refine ax ?_ ?_
     ·refine ae (vY rA 118) λfH=>aN<|aA ?_ ?_
      ·exact ab
      ·exact ab
     ·exact ab
   ·refine aa (aN (ak ?_));refine ae (f:=λr=>[.b r]) ?_ λw2=> ?_
    ·refine aA ?_ ?_
     ·refine ae (vY rA 110) λn0=>aN<|aA ?_ ?_
      ·refine ae (vY rA 115) λqn=>aN<|aA ?_ ?_
       ·refine ae (vY rA 116) λmT=>aN<|aA ?_ ?_
        ·exact ab
        ·exact ab
       ·refine ax ?_ ?_
        ·refine ae (vY rA 116) λEO=>aN<|aA ?_ ?_
         ·exact ab
         ·exact ab
        ·exact ab
      ·refine ax ?_ ?_
       ·refine ae (vY rA 115) λKU=>aN<|aA ?_ ?_
        ·refine ae (vY rA 116) λKV=>aN<|aA ?_ ?_
         ·exact ab
         ·exact ab
        ·refine ax ?_ ?_
         ·refine ae (vY rA 116) λwJ=>aN<|aA ?_ ?_
          ·exact ab
          ·exact ab
         ·exact ab
       ·exact ab
     ·exact ab
    ·refine aa (aN (ak ab))
theorem abd (rA:bM)(dK:Int):Sm (λr=> .cg [bo r.1,.b r.2]) (D8 (eD rA) (.i .i64 dK)) (wK rA dK):=by
 unfold D8 wK;refine az (dm (ay (ae (bB (λr=>[.i .i64 r.1,.i .i64 r.2.1,.i .i64 r.2.2.1,.s r.2.2.2.1,.i .i64 r.2.2.2.2.1,.list (r.2.2.2.2.2.1.map MV.s),.i .i64 r.2.2.2.2.2.2]) (AI (λr=>(2,(v9 r))) (λr=>(1,(v8 r)))) (rfl) λst=> ?_) λw=> ?_)))
 ·unfold tE;refine aa (ay (aa (ay (aa (ay (aa (bu (aa (ay (qy (ao (ax ?_ ?_))))))))))))
  ·refine bc (f:=bo) (rfl) λy=>az (bY (ax ?_ ?_))
   ·refine bc (f:=bo) (rfl) λy1=>az (bY ab)
   ·exact ab
  ·exact ab
 ·rcases w with p1|p2
  ·refine ib rfl (bY ab)
  ·refine ic rfl (aZ rfl (aa (ay (aa (ay (aa (ay (aa (bu (aa (ay (AB ab))))))))))))
theorem HH (b:cD)(id:Int):Sm MV.b (yA (kD b) (.i .i64 id)) (qO b id):=by
 unfold yA qO;refine az (uo (ay (ae (bB (λr=>[.i .i64 r]) (AI (λr=>(2,[])) (λr=>(1,[.b r]))) (rfl) λst=> ?_) λw=> ?_)))
 ·unfold wL;refine aa (ay (ak (ao (ax ?_ ?_))))
  ·refine bc (f:=br) (rfl) λy=>az (nC (ax ?_ ?_))
   ·exact ab
   ·exact ab
  ·exact ab
 ·rcases w with p1|p2
  ·refine ib rfl (ak ab)
  ·refine ic rfl (aZ rfl (aa (aN (ak ab))))
theorem Tt (a:bE)(a1:List UInt8)(a2:List UInt8)(a3:Int):Sm (λr=> .cg [dO r.1,.i .i64 r.2]) (yB (dO a) (.s a1) (.s a2) (.i .i64 a3)) (tF a a1 a2 a3):=by
 unfold yB tF;refine az (aa (aC (ak (bu (bu (ay (ae (xe a1) λrA=>aN (aA ?_ ?_))))))))
 ·exact ab
 ·refine ae (J1 a a1) λaT=>ay<|ax ?_ ?_
  ·exact ab
  ·refine ae (CK a1) λcf=>bX (aa (bu (aa (ay (ak (ae (J1 a cf.1) λfH=>ay (ax ?_ ?_)))))))
   ·exact ab
   ·refine bc (f:=bJ) (rfl) λy=>az (eh (aA ?_ ?_))
    ·exact ab
    ·refine ax ?_ ?_
     ·exact ab
     ·refine ax ?_ ?_
      ·exact ab
      ·refine ao<|ax ?_ ?_
       ·exact ab
       ·refine ae (bB (λr=>[.list (r.1.map bJ),.b r.2.1,.i .i64 r.2.2]) (λr=>(2,[.list (r.1.map bJ),.b r.2])) (rfl) λst=> ?_) λw=> ?_
        ·unfold pc;refine aa (aC (aa (aN (aa (ay (ak (ao (ax ?_ ?_))))))))
         ·refine ae (f:=λr=>[.b r]) ?_ λw1=> ?_
          ·refine aA ?_ ?_
           ·refine bc (f:=bJ) (rfl) λy1=>az (eh (ae (W5 a1 y1.Path) λn0=>aN ab))
           ·exact ab
          ·refine aa (aN (ak (ae (f:=(λr=>(0,[.list (r.1.map bJ),.b r.2]))) ?_ λw2=> ?_)))
           ·refine aA ?_ ?_
            ·refine ao (cc (([(⟨a1,a2,0,a3⟩:aP)]:List aP).length) (bD (b9 (by simp [fc]))))
            ·exact ab
           ·refine aZ rfl (AB (bc (f:=bJ) (rfl) λy2=>az (eh (ao (cc (([y2]:List aP).length) (bD (b9 (by simp [fc]))))))))
         ·exact ab
        ·refine aZ rfl (AB (ae (f:=(λr=>(0,[.list (r.map bJ)]))) ?_ λw3=> ?_))
         ·refine aA ?_ ?_
          ·refine ao (cc (([(⟨a1,a2,0,a3⟩:aP)]:List aP).length) (bD (b9 (by simp [fc]))))
          ·exact ab
         ·refine aZ rfl (aa (aC (ak ab)))
theorem Ey (sA:bE)(p:List UInt8):Sm (λr=> .cg [bJ r.1,.i .i64 r.2]) (vp (dO sA) (.s p)) (sL sA p):=by
 unfold vp sL;refine az (aa (aC (ak (bu (ae (xe p) λrA=>aN (aA ?_ ?_))))))
 ·exact ab
 ·refine ae (J1 sA p) λaT=>ay<|ax ?_ ?_
  ·exact ab
  ·refine bc (f:=bJ) (rfl) λy=>az (eh ab)
theorem aeH (sA:bE)(p:List UInt8)(value:List UInt8)(version:Int):Sm (λr=> .cg [dO r.1,.i .i64 r.2]) (Hz (dO sA) (.s p) (.s value) (.i .i64 version)) (DB sA p value version):=by
 unfold Hz DB;refine az (aa (aC (ak (bu (bu (ay (ae (Ey sA p) λrA=>bX (aa (az (eh (aa (ay (ak (aA ?_ ?_))))))))))))))
 ·exact ab
 ·refine ae (f:=λr=>[.b r]) ?_ λw=> ?_
  ·refine aA ?_ ?_
   ·exact ab
   ·exact ab
  ·refine aa (aN (ak (aA ?_ ?_)))
   ·exact ab
   ·refine ax ?_ ?_
    ·exact ab
    ·refine ax ?_ ?_
     ·exact ab
     ·refine aZ (mF (rfl:_=aaK bJ sA.L) λ_=>rfl) (cc (([]:List aP).length) (ao (bD (ae (J1 sA p) λaT=>ay (bc (f:=bJ) (by simp only [xP,aaq,IT,aas,aaF,AS,AT,aaJ]) λy=> ?_)))));refine az (eh (b9 (by simp [fc])))
theorem Q7 (sA:bE)(p:List UInt8):Sm (NE MV.s) (Ay (dO sA) (.s p)) (wM sA p):=by
 unfold Ay wM;refine az (aa (aC (ak (bu (ae (bB (λr=>[.list (r.1.map MV.s),.i .i64 r.2]) (λr=>(2,[.list (r.map MV.s)])) (rfl) λst=> ?_) λw=> ?_)))))
 ·unfold tG;refine qy (ao (ax ?_ ?_))
  ·refine bc (f:=bJ) (rfl) λy=>az (eh (ae (CK y.Path) λrA=>bX (aa (bu (aa (ay (ak ?_)))))));refine ae (f:=λr=>[.b r]) ?_ λw1=> ?_
   ·refine ax ?_ ?_
    ·exact ab
    ·exact ab
   ·refine aa (aN (ak (ae (f:=(λr=>(0,[.list (r.map MV.s)]))) ?_ λw2=> ?_)))
    ·refine aA ?_ ?_
     ·refine bc (f:=bJ) (rfl) λy1=>az (eh (ae (Bu y1.Path) λaT=>bX (qy (ao (bc (f:=MV.s) (rfl) λy2=>bu (ao (cc (([y2]:List (List UInt8)).length) (bD (b9 (by simp))))))))))
     ·exact ab
    ·refine aZ rfl (aa (aC (ak ab)))
  ·exact ab
 ·refine aZ rfl (aa (aC (ak ab)))
theorem Tu (sA:bE)(p:List UInt8)(version:Int):Sm (λr=> .cg [dO r.1,.i .i64 r.2]) (yC (dO sA) (.s p) (.i .i64 version)) (tH sA p version):=by
 unfold yC tH;refine az (aa (aC (ak (bu (ay (ae (Ey sA p) λrA=>bX (aa (az (eh (aa (ay (ak (aA ?_ ?_)))))))))))))
 ·exact ab
 ·refine ax ?_ ?_
  ·exact ab
  ·refine ae (f:=λr=>[.b r]) ?_ λw=> ?_
   ·refine aA ?_ ?_
    ·exact ab
    ·exact ab
   ·refine aa (aN (ak (aA ?_ ?_)))
    ·exact ab
    ·refine ae (Q7 sA p) λaT=>aC (ao (ax ?_ ?_))
     ·exact ab
     ·refine ae (J1 sA p) λcf=> ?_;refine ay (ao (bD (aZ (mF ((by simp only [xP,aaq,IT,aas,aaF,AS,AT,aaJ]):_=aaK bJ (aaL (sh 0) (aaS (sh cf) sA.L))) λ_=>rfl) (cc (([]:List aP).length) (xQ (n:=(aaL (sh 0) (aaS (sh cf) sA.L)).length) (by simp only [By,IN,BY,IS,No,OF,aar]) (bD (aZ (mF (rfl:_=aaK bJ sA.L) λ_=>rfl) (ao (bD (aZ (mF ((by simp only [xP,aaq,IT,aas,aaF,AS,AT,aaJ]):_=aaK bJ (aaL (sh (c9 .i64 (cf+1))) (aaS (sh (sA.L.length:Int)) sA.L))) λ_=>rfl) (xQ (n:=(([]:List aP)++(aaL (sh 0) (aaS (sh cf) sA.L))).length) (by simp only [By,IN,BY,IS,No,OF,aar]) ?_)))))))))));refine xQ (n:=(aaL (sh (c9 .i64 (cf+1))) (aaS (sh (sA.L.length:Int)) sA.L)).length) (by simp only [By,IN,BY,IS,No,OF,aar]) (bD ?_);exact b9 (by first|(simp;done)|simp only [bJ,dO,Mi,I6,IT,aas,aaF,AS,AT,aaJ])
theorem abe (sA:bE)(p:List UInt8):Sm (λr=> .cg [.list (r.1.map MV.s),.i .i64 r.2]) (Ea (dO sA) (.s p)) (Aa sA p):=by
 unfold Ea Aa;refine az (aa (aC (ak (bu (ae (Ey sA p) λrA=>bX (aa (az (eh (aa (ay (ak (aA ?_ ?_))))))))))))
 ·exact ab
 ·refine ae (Q7 sA p) λaT=>aC ab
theorem Q8 (a:bM)(a1:dJ):Sm (λr=> .cg [eD r.1,bo r.2.1,.list (r.2.2.map ej)]) (vq (eD a) (iG a1)) (ov a a1):=by
 unfold vq ov;refine az (dm (az (eC (ae (f:=(λr=>(0,(v3 r)))) ?_ λw=> ?_))))
 ·refine ax ?_ ?_
  ·refine ae (f:=λr=>[.b r]) ?_ λw1=> ?_
   ·refine aA ?_ ?_
    ·refine ax ?_ ?_
     ·exact ab
     ·refine ae (HH a.aL a1.Session) λrA=>aN ab
    ·exact ab
   ·refine aa (aN (ak (ae (f:=(λr=>(0,(v4 r)))) ?_ λw2=> ?_)))
    ·refine aA ?_ ?_
     ·exact ab
     ·refine ae (Tt a.Shelf a1.Path a1.Value a1.Session) λaT=>bX (aa (az (aa (aC (ak (aa (ay (ak ab))))))))
    ·refine aZ rfl (aa (aC (aa (ay (aa (aC (aa (aC (aa (aC (bY ab)))))))))))
  ·refine ae (f:=(λr=>(0,(v3 r)))) ?_ λw3=> ?_
   ·refine ax ?_ ?_
    ·refine ae (Ey a.Shelf a1.Path) λcf=>bX (aa (az (eh (aa (ay (ak ab))))))
    ·refine ae (f:=(λr=>(0,(v3 r)))) ?_ λw4=> ?_
     ·refine ax ?_ ?_
      ·refine ae (aeH a.Shelf a1.Path a1.Value a1.Version) λfH=>bX (aa (az (aa (aC (ak (aa (ay (ak (ae (f:=(λr=>(0,(v9 r)))) ?_ λw5=> ?_)))))))))
       ·refine ax ?_ ?_
        ·refine ae (Ey fH.1 a1.Path) λn0=>bX (aa (az (eh (aa (ay (ak ab))))))
        ·exact ab
       ·refine aZ rfl (bY ab)
      ·refine ae (f:=(λr=>(0,(v3 r)))) ?_ λw6=> ?_
       ·refine ax ?_ ?_
        ·refine ae (Tu a.Shelf a1.Path a1.Version) λqn=>bX (aa (az (aa (aC (ak (aa (ay (ak ab))))))))
        ·refine ae (f:=(λr=>(0,(v9 r)))) ?_ λw7=> ?_
         ·refine ax ?_ ?_
          ·refine ae (abe a.Shelf a1.Path) λmT=>bX (qy ab)
          ·exact ab
         ·refine aZ rfl (bY ab)
       ·refine aZ rfl (pF ab)
     ·refine aZ rfl (pF ab)
   ·refine aZ rfl (pF ab)
 ·refine aZ rfl (pF ?_);refine ae (f:=λr=>[.b r]) ?_ λw8=> ?_
  ·refine ax ?_ ?_
   ·exact ab
   ·exact ab
  ·refine aa (aN (ak (aA ?_ ?_)))
   ·refine aad ab
   ·exact ab
theorem abf (a:cD)(a1:Int)(a2:Int):Sm (λr=> .cg [kD r.1,.i .i64 r.2]) (Eb (kD a) (.i .i64 a1) (.i .i64 a2)) (Ab a a1 a2):=by
 unfold Eb Ab;refine az (uo (ay (ay ?_)));refine ae (f:=λr=>[.b r]) ?_ λw=> ?_
 ·refine ax ?_ ?_
  ·exact ab
  ·refine ax ?_ ?_
   ·exact ab
   ·exact ab
 ·refine aa (aN (ak (aA ?_ ?_)))
  ·exact ab
  ·refine ae (HH a a1) λrA=>aN<|aA ?_ ?_
   ·exact ab
   ·refine ao<|ax ?_ ?_
    ·exact ab
    ·refine ae (bB (λr=>[.list (r.1.map br),.b r.2.1,.i .i64 r.2.2]) (λr=>(2,[.list (r.1.map br),.b r.2])) (rfl) λst=> ?_) λw1=> ?_
     ·unfold tI;refine aa (aC (aa (aN (aa (ay (ak (ao (ax ?_ ?_))))))))
      ·refine ae (f:=λr=>[.b r]) ?_ λw2=> ?_
       ·refine aA ?_ ?_
        ·refine bc (f:=br) (rfl) λy=>az (nC ab)
        ·exact ab
       ·refine aa (aN (ak (ae (f:=(λr=>(0,[.list (r.1.map br),.b r.2]))) ?_ λw3=> ?_)))
        ·refine aA ?_ ?_
         ·refine ao (cc (([(⟨a1,a2,c9 .i64 (a.cI+a2)⟩:al)]:List al).length) (bD (b9 (by simp))))
         ·exact ab
        ·refine aZ rfl (AB (bc (f:=br) (rfl) λy1=>az (nC (ao (cc (([y1]:List al).length) (bD (b9 (by simp))))))))
      ·exact ab
     ·refine aZ rfl (AB (ae (f:=(λr=>(0,[.list (r.map br)]))) ?_ λw4=> ?_))
      ·refine aA ?_ ?_
       ·refine ao (cc (([(⟨a1,a2,c9 .i64 (a.cI+a2)⟩:al)]:List al).length) (bD (b9 (by simp))))
       ·exact ab
      ·refine aZ rfl (aa (aC (ak ab)))
theorem Xd (b:cD)(id:Int):Sm (λr=> .cg [kD r.1,.i .i64 r.2]) (Br (kD b) (.i .i64 id)) (wN b id):=by
 unfold Br wN;refine az (uo (ay (ae (HH b id) λrA=>aN (aA ?_ ?_))))
 ·exact ab
 ·refine ae (bB (λr=>[.list (r.1.map br),.i .i64 r.2]) (λr=>(2,[.list (r.map br)])) (rfl) λst=> ?_) λw=> ?_
  ·unfold rk;refine qy (ao (ax ?_ ?_))
   ·refine bc (f:=br) (rfl) λy=>az (nC (ae (f:=(λr=>(0,[.i .i64 r.1,.i .i64 r.2.1,.i .i64 r.2.2]))) ?_ λw1=> ?_))
    ·refine ax ?_ ?_
     ·exact ab
     ·exact ab
    ·refine aZ rfl (nC (ao (cc (([(⟨w1.1,w1.2.1,w1.2.2⟩:al)]:List al).length) (bD (b9 (by simp))))))
   ·exact ab
  ·refine aZ rfl (aa (aC (ak ab)))
theorem Xe (b:cD)(id:Int):Sm (λr=> .cg [kD r.1,.i .i64 r.2]) (Bs (kD b) (.i .i64 id)) (wO b id):=by
 unfold Bs wO;refine az (uo (ay (ae (HH b id) λrA=>aN (aA ?_ ?_))))
 ·exact ab
 ·refine ae (bB (λr=>[.list (r.1.map br),.i .i64 r.2]) (λr=>(2,[.list (r.map br)])) (rfl) λst=> ?_) λw=> ?_
  ·unfold rl;refine qy (ao (ax ?_ ?_))
   ·refine bc (f:=br) (rfl) λy=>az (nC (ae (f:=(λr=>(0,[.list (r.map br)]))) ?_ λw1=> ?_))
    ·refine aA ?_ ?_
     ·refine bc (f:=br) (rfl) λy1=>az (nC (ao (cc (([y1]:List al).length) (bD (b9 (by simp))))))
     ·exact ab
    ·refine aZ rfl (aa (aC (ak ab)))
   ·exact ab
  ·refine aZ rfl (aa (aC (ak ab)))
theorem abg (sA:bE)(owner:Int):Sm (λr=> .cg [dO r.1,.list (r.2.map MV.s)]) (Ec (dO sA) (.i .i64 owner)) (wP sA owner):=by
 unfold Ec wP;refine az (aa (aC (ak (ay (ae (bB (λr=>[.list (r.1.map bJ),.list (r.2.1.map MV.s),.i .i64 r.2.2]) (λr=>(2,[.list (r.1.map bJ),.list (r.2.map MV.s)])) (rfl) λst=> ?_) λw=> ?_)))))
 ·unfold tJ;refine y9 (ao (ax ?_ ?_))
  ·refine ae (f:=λr=>[.b r]) ?_ λw1=> ?_
   ·refine ax ?_ ?_
    ·refine bc (f:=bJ) (rfl) λy=>az (eh ab)
    ·exact ab
   ·refine aa (aN (ak (ae (f:=(λr=>(0,[.list (r.1.map bJ),.list (r.2.map MV.s)]))) ?_ λw2=> ?_)))
    ·refine aA ?_ ?_
     ·refine bc (f:=bJ) (rfl) λy1=>az (eh (ao (cc (([y1.Path]:List (List UInt8)).length) (bD (b9 (by simp [fc]))))))
     ·refine bc (f:=bJ) (rfl) λy2=>az (eh (ao (cc (([y2]:List aP).length) (bD (b9 (by simp [fc]))))))
    ·refine aZ rfl (AD ab)
  ·exact ab
 ·refine aZ rfl (AD ab)
theorem MG (sA:bE)(ids:List Int):Sm (λr=> .cg [dO r.1,.list (r.2.map ej)]) (xd (dO sA) (.list (ids.map (MV.i .i64)))) (s6 sA ids):=by
 unfold xd s6;refine az (aa (aC (ak (aC (ae (bB (λr=>[.list (r.1.map bJ),.list (r.2.1.map ej),.i .i64 r.2.2]) (λr=>(2,[.list (r.1.map bJ),.list (r.2.map ej)])) (rfl) λst=> ?_) λw=> ?_)))))
 ·unfold rn;refine y9 (ao (ax ?_ ?_))
  ·refine bc (f:=(MV.i .i64)) (rfl) λy=>ay<|ae (abg (⟨st.1⟩:bE) y) λrA=>bX (aa (az (aa (aC (ak (aa (aC (ak (ae (bB (λr=>[.list (r.1.map ej),.i .i64 r.2]) (λr=>(4,[.list (r.map ej)])) (rfl) λdH=> ?_) λw1=> ?_)))))))))
   ·unfold rm;refine qy (ao (ax ?_ ?_))
    ·refine bc (f:=MV.s) (rfl) λy1=>bu (ao (cc (([(⟨3,y1⟩:bq)]:List bq).length) (bD (b9 (by simp)))))
    ·exact ab
   ·refine aZ rfl (aa (aC (ak ab)))
  ·exact ab
 ·refine aZ rfl (AD ab)
theorem abh (b:cD)(now:Int):Sm (λr=> .cg [kD r.1,.list (r.2.1.map (MV.i .i64)),.i .i64 r.2.2]) (Ed (kD b) (.i .i64 now)) (Ac b now):=by
 unfold Ed Ac;refine az (uo (ay (ax ?_ ?_)))
 ·exact ab
 ·refine ax ?_ ?_
  ·exact ab
  ·refine ae (bB (λr=>[.list (r.1.map br),.list (r.2.1.map (MV.i .i64)),.i .i64 r.2.2]) (λr=>(2,[.list (r.1.map br),.list (r.2.map (MV.i .i64))])) (rfl) λst=> ?_) λw=> ?_
   ·unfold tK;refine y9 (ao (ax ?_ ?_))
    ·refine bc (f:=br) (rfl) λy=>az (nC (ae (f:=(λr=>(0,[.list (r.1.map br),.list (r.2.map (MV.i .i64))]))) ?_ λw1=> ?_))
     ·refine ax ?_ ?_
      ·refine bc (f:=br) (rfl) λy1=>az (nC (ao (cc (([y1.Id]:List Int).length) (bD (b9 (by simp))))))
      ·refine bc (f:=br) (rfl) λy2=>az (nC (ao (cc (([y2]:List al).length) (bD (b9 (by simp))))))
     ·refine aZ rfl (AD ab)
    ·exact ab
   ·refine aZ rfl (AD ab)
theorem aeI (t:eo)(w:aF):Sm (λr=> .cg [u9 r.1,.i .i64 r.2]) (HA (u9 t) (b6 w)) (DC t w):=by
 unfold HA DC;refine az (aa (aC (ak (az (rJ (ae (xe w.Path) λrA=>aN (aA ?_ ?_)))))))
 ·exact ab
 ·refine ax ?_ ?_
  ·exact ab
  ·refine ae (aeF t.L w) λaT=>aN<|aA ?_ ?_
   ·exact ab
   ·refine ao<|ax ?_ ?_
    ·exact ab
    ·refine aZ (mF (rfl:_=aaK b6 t.L) λ_=>rfl) (cc (([]:List aF).length) (ao (bD (xQ (n:=(([]:List aF)++t.L).length) (by simp only [By,IN,BY,IS,No,OF,aar]) (cc (([w]:List aF).length) (bD ?_))))));exact b9 (by simp)
theorem abi (a:bM)(a1:dJ):Sm (λr=> .cg [eD r.1,bo r.2.1,.list (r.2.2.map ej)]) (Ee (eD a) (iG a1)) (tL a a1):=by
 unfold Ee tL;refine az (dm (az (eC (ae (f:=(λr=>(0,[.b r]))) ?_ λw=> ?_))))
 ·refine ax ?_ ?_
  ·exact ab
  ·refine ae (f:=(λr=>(0,[.b r]))) ?_ λw1=> ?_
   ·refine ax ?_ ?_
    ·exact ab
    ·refine ae (f:=(λr=>(0,[.b r]))) ?_ λw2=> ?_
     ·refine ax ?_ ?_
      ·exact ab
      ·refine ae (f:=(λr=>(0,[.b r]))) ?_ λw3=> ?_
       ·refine ax ?_ ?_
        ·exact ab
        ·exact ab
       ·refine aZ rfl (aa (aN (ak ab)))
     ·refine aZ rfl (aa (aN (ak ab)))
   ·refine aZ rfl (aa (aN (ak ab)))
 ·refine aZ rfl (aa (aN (ak (aA ?_ ?_))))
  ·refine ae (Q8 a a1) λrA=>bX (aa (az (dm (aa (az (bY (aa (aC (ak ab)))))))))
  ·refine ae (f:=(λr=>(0,(v2 r)))) ?_ λw4=> ?_
   ·refine ax ?_ ?_
    ·refine ae (abf a.aL a1.Session a1.Span) λaT=>bX (aa (az (uo (aa (ay (ak ab))))))
    ·refine ae (f:=(λr=>(0,(v2 r)))) ?_ λw5=> ?_
     ·refine ax ?_ ?_
      ·refine ae (Xd a.aL a1.Session) λcf=>bX (aa (az (uo (aa (ay (ak ab))))))
      ·refine ae (f:=(λr=>(0,(v2 r)))) ?_ λw6=> ?_
       ·refine ax ?_ ?_
        ·refine ae (Xe a.aL a1.Session) λfH=>bX (aa (az (uo (aa (ay (ak (ae (f:=(λr=>(0,[.list (r.1.map bJ),.i .i64 r.2.1,.list (r.2.2.1.map br),.list (r.2.2.2.1.map b6),.list (r.2.2.2.2.1.map bo),.list (r.2.2.2.2.2.map ej)]))) ?_ λw7=> ?_)))))))
         ·refine ax ?_ ?_
          ·refine ae (MG a.Shelf ([a1.Session]:List Int)) λn0=>bX (aa (az (aa (aC (ak (aa (aC (ak ab))))))))
          ·exact ab
         ·refine aZ rfl (aa (aC (aa (ay (aa (aC (aa (aC (AD ab)))))))))
        ·refine ae (f:=(λr=>(0,(v2 r)))) ?_ λw8=> ?_
         ·refine ax ?_ ?_
          ·refine ae (abh a.aL a1.Span) λqn=>bX (aa (az (uo (qy (ae (f:=(λr=>(0,(v2 r)))) ?_ λw9=> ?_)))))
           ·refine ax ?_ ?_
            ·refine ae (MG a.Shelf qn.2.1) λmT=>bX (aa (az (aa (aC (ak (aa (aC (ak ab))))))))
            ·exact ab
           ·refine aZ rfl (mr ab)
          ·refine ae (f:=(λr=>(0,[.b r]))) ?_ λw10=> ?_
           ·refine ax ?_ ?_
            ·exact ab
            ·exact ab
           ·refine aZ rfl (aa (aN (ak (ae (f:=(λr=>(0,(v4 r)))) ?_ λX7=> ?_))))
            ·refine aA ?_ ?_
             ·refine ae (aeI a.aS (⟨a1.Path,a1.Client,decide (a1.Kind=11)⟩:aF)) λEO=>bX (aa (az (aa (aC (ak (aa (ay (ak ab))))))))
             ·exact ab
            ·refine aZ rfl (aa (aC (aa (ay (aa (aC (aa (aC (aa (aC (bY ab)))))))))))
         ·refine aZ rfl (mr ab)
       ·refine aZ rfl (mr ab)
     ·refine aZ rfl (mr ab)
   ·refine aZ rfl (mr ab)
theorem Q9 (c:bq)(w:aF):Sm MV.b (vr (ej c) (b6 w)) (rq c w):=by
 unfold vr rq;refine az (aa (ay (aa (bu (ak (az (rJ ?_)))))));refine ae (f:=λr=>[.b r]) ?_ λw1=> ?_
 ·refine ax ?_ ?_
  ·exact ab
  ·refine ax ?_ ?_
   ·exact ab
   ·refine ae (xe c.Path) λrA=>aN ab
 ·refine aa (aN (ak (aA ?_ ?_)))
  ·exact ab
  ·refine aA ?_ ?_
   ·exact ab
   ·refine ae (CK c.Path) λaT=>bX (aa (bu (aa (ay (ak ?_)))));refine ae (f:=λr=>[.b r]) ?_ λw2=> ?_
    ·refine aA ?_ ?_
     ·refine ax ?_ ?_
      ·exact ab
      ·exact ab
     ·exact ab
    ·refine aa (aN (ak ab))
theorem abj (t:eo)(lA:List bq):Sm (λr=> .cg [u9 r.1,.list (r.2.map dq)]) (Ef (u9 t) (.list (lA.map ej))) (tO t lA):=by
 unfold Ef tO;refine az (aa (aC (ak (aC (aZ (mF (rfl:_=aaK b6 t.L) λ_=>rfl) (cc (([]:List aF).length) (ao (bD (ae (bB (λr=>[.list (r.1.map b6),.list (r.2.1.map dq),.i .i64 r.2.2]) (λr=>(2,[.list (r.1.map b6),.list (r.2.map dq)])) (by simp) λst=> ?_) λw=> ?_)))))))))
 ·unfold tN;refine y9 (ao (ax ?_ ?_))
  ·refine ae (bB (λr=>[.list (r.1.map dq),.list (r.2.1.map b6),.i .i64 r.2.2]) (λr=>(4,[.list (r.1.map dq),.list (r.2.map b6)])) (rfl) λdH=> ?_) λw1=> ?_
   ·unfold tM;refine y9 (ao (ax ?_ ?_))
    ·refine bc (f:=ej) (rfl) λy=>az (aa (ay (aa (bu (ak (bc (f:=b6) (rfl) λy1=>az (rJ (ae (Q9 y y1) λrA=>aN (ae (f:=(λr=>(0,[.list (r.1.map dq),.list (r.2.map b6)]))) ?_ λw2=> ?_)))))))))
     ·refine aA ?_ ?_
      ·refine bc (f:=b6) (rfl) λy2=>az (rJ (bc (f:=ej) (rfl) λy3=>az (aa (ay (aa (bu (ak (ao (cc (([(⟨y2,y3⟩:bH)]:List bH).length) (bD (b9 (by simp))))))))))))
      ·refine bc (f:=b6) (rfl) λy4=>az (rJ (ao (cc (([y4]:List aF).length) (bD (b9 (by simp))))))
     ·refine aZ rfl (AD ab)
    ·exact ab
   ·refine aZ rfl (AD ab)
  ·exact ab
 ·refine aZ rfl (AD ab)
theorem abk (lA:List aw)(x:aw):Sm (NE bo) (Eg (.list (lA.map bo)) (bo x)) (tQ lA x):=by
 unfold Eg tQ;refine aC (az (bY (ae (bB (λr=>[.list (r.1.map bo),.b r.2.1,.i .i64 r.2.2]) (λr=>(2,[.list (r.1.map bo),.b r.2])) (rfl) λst=> ?_) λw=> ?_)))
 ·unfold tP;refine aa (aC (aa (aN (aa (ay (ak (ao (ax ?_ ?_))))))))
  ·refine ae (f:=λr=>[.b r]) ?_ λw1=> ?_
   ·refine aA ?_ ?_
    ·refine bc (f:=bo) (rfl) λy=>az (bY ab)
    ·exact ab
   ·refine aa (aN (ak (ae (f:=(λr=>(0,[.list (r.1.map bo),.b r.2]))) ?_ λw2=> ?_)))
    ·refine aA ?_ ?_
     ·refine ao (cc (([x]:List aw).length) (bD (b9 (by simp [bK]))))
     ·exact ab
    ·refine aZ rfl (AB (bc (f:=bo) (rfl) λy1=>az (bY (ae (f:=(λr=>(0,[.list (r.map bo)]))) ?_ λw3=> ?_))))
     ·refine aA ?_ ?_
      ·refine bc (f:=bo) (rfl) λy2=>az (bY (ao (cc (([y2]:List aw).length) (bD (b9 (by simp [bK]))))))
      ·exact ab
     ·refine aZ rfl (aa (aC (ak ab)))
  ·exact ab
 ·refine aZ rfl (AB (ae (f:=(λr=>(0,[.list (r.map bo)]))) ?_ λw4=> ?_))
  ·refine aA ?_ ?_
   ·refine ao (cc (([x]:List aw).length) (bD (b9 (by simp [bK]))))
   ·exact ab
  ·refine aZ rfl (aa (aC (ak ab)))
theorem Xf (a:bM)(a1:dJ):Sm (λr=> .cg [eD r.1,bo r.2.1,.list (r.2.2.map dq)]) (Bt (eD a) (iG a1)) (wQ a a1):=by
 unfold Bt wQ;refine az (dm (az (eC (ae (aeG a1) λrA=>aN (aA ?_ ?_)))))
 ·refine Be ab
 ·refine ae (abd a a1.Client) λaT=>bX (aa (az (bY (aa (aN (ak ?_))))));refine ae (f:=λr=>[.b r]) ?_ λw=> ?_
  ·refine aA ?_ ?_
   ·exact ab
   ·exact ab
  ·refine aa (aN (ak (aA ?_ ?_)))
   ·exact ab
   ·refine ae (f:=λr=>[.b r]) ?_ λw1=> ?_
    ·refine aA ?_ ?_
     ·exact ab
     ·exact ab
    ·refine aa (aN (ak (aA ?_ ?_)))
     ·refine Be ab
     ·refine ae (f:=λr=>[.b r]) ?_ λw2=> ?_
      ·refine aA ?_ ?_
       ·refine ao ab
       ·exact ab
      ·refine aa (aN (ak (aA ?_ ?_)))
       ·exact ab
       ·refine ae (abi a a1) λcf=>bX (aa (az (dm (aa (az (bY (aa (aC (ak (ae (abj cf.1.aS cf.2.2) λfH=>bX (aa (az (aa (aC (ak (aa (aC (ak (ae (abk a.Seen (⟨a1.Client,a1.Seq,cf.2.1.E,cf.2.1.Value,cf.2.1.Version,cf.2.1.Names⟩:aw)) λn0=> ?_)))))))))))))))))));refine aC ab
theorem aeJ (o:ar):Sm iG (HB (cA o)) (Hr o):=by unfold HB Hr;refine az (eC ab)
theorem abl (n:Int):Sm (MV.i .i64) (Eh (.i .u64 n)) (Ad n):=by
 unfold Eh Ad;refine ay<|ae (bB (λr=>[.i .u64 r.1,.i .i64 r.2]) (λr=>(2,[.i .i64 r])) (rfl) λst=> ?_) λw=> ?_
 ·unfold CA;refine AA<|ax ?_ ?_
  ·refine NF ab
  ·exact ab
 ·refine aZ rfl (aa (ay (ak ab)))
theorem HI (b:List Int)(n:Int):Sm (KR (MV.i .u8)) (yD (.list (b.map (MV.i .u8))) (.i .u64 n)) (vd b n):=by
 unfold yD vd;refine aC (ay (aZ (mF (rfl:_=aaK (MV.i .u8) b) λ_=>rfl) (cc (([]:List Int).length) (ao (bD (ae (abl n) λrA=>ay (xQ (n:=(([]:List Int)++b).length) (by simp only [By,IN,BY,IS,No,OF,aar]) (cc (([c9 .u8 (c9 .i64 (rA-1))]:List Int).length) (bD ?_)))))))));refine ae (bB (λr=>[.list (r.1.map (MV.i .u8)),.i .i64 r.2]) (λr=>(2,[.list (r.map (MV.i .u8))])) (by simp) λst=> ?_) λw=> ?_
 ·unfold Fk;refine qy<|ax ?_ ?_
  ·refine ae (bB (λr=>[.i .u64 r.1,.i .i64 r.2]) (λr=>(4,[.i .u64 r])) (rfl) λdH=> ?_) λw1=> ?_
   ·unfold Fj;refine AA<|ax ?_ ?_
    ·refine NF ab
    ·exact ab
   ·refine aZ rfl (aa (ay (ak (NF (ao (cc (([c9 .u8 (Int.tmod w1 256)]:List Int).length) (bD (b9 (by simp)))))))))
  ·exact ab
 ·refine aZ rfl (aa (aC (ak ab)))
theorem lL (b:List Int)(n:Int):Sm (KR (MV.i .u8)) (jF (.list (b.map (MV.i .u8))) (.i .i64 n)) (iZ b n):=by
 unfold jF iZ;refine aC (ay (ax ?_ ?_))
 ·refine ae (HI b (c9 .u64 ((c9 .u64 (2 *(c9 .u64 (c9 .i64 (0-(c9 .i64 (n+1)))))))+1))) λrA=>fp ab
 ·refine ae (HI b (c9 .u64 (2 *(c9 .u64 n)))) λaT=>fp ab
theorem AJ (b:List Int)(sA:List UInt8):Sm (KR (MV.i .u8)) (rH (.list (b.map (MV.i .u8))) (.s sA)) (pe b sA):=by unfold rH pe;refine aC (bu (ae (HI b (c9 .u64 (sA.length:Int))) λrA=>fp (ao (xQ (n:=(Qf sA).length) (by simp only [xP,By,IN,BY,IS,No,OF,aar]) (bD ?_)))));exact b9 (by simp)
theorem abm (b:List Int)(lA:List (List UInt8)):Sm (KR (MV.i .u8)) (Ei (.list (b.map (MV.i .u8))) (.list (lA.map MV.s))) (Ae b lA):=by
 unfold Ei Ae;refine aC (aC (ao (ae (HI b (c9 .u64 (lA.length:Int))) λrA=>fp (ae (bB (λr=>[.list (r.1.map (MV.i .u8)),.i .i64 r.2]) (λr=>(2,[.list (r.map (MV.i .u8))])) (rfl) λst=> ?_) λw=> ?_))))
 ·unfold xS;refine qy (ao (ax ?_ ?_))
  ·refine bc (f:=MV.s) (rfl) λy=>bu<|ae (AJ st.1 y) λaT=>fp ab
  ·exact ab
 ·refine aZ rfl (aa (aC (ak ab)))
theorem Ox (b:List Int)(rA:aw):Sm (NE (MV.i .u8)) (sU (.list (b.map (MV.i .u8))) (bo rA)) (pg b rA):=by
 unfold sU pg;refine aC (az (bY (ae (bB (λr=>[.list (r.1.map (MV.i .u8)),.i .i64 r.2]) (λr=>(2,[.list (r.map (MV.i .u8))])) (rfl) λst=> ?_) λw=> ?_)))
 ·unfold pf;refine qy (cc (([rA.Client,rA.Seq,rA.E,rA.Version]:List Int).length) (ax ?_ ?_))
  ·refine bc (f:=(MV.i .i64)) (rfl) λy=>ay<|ae (lL st.1 y) λaT=>fp ab
  ·exact ab
 ·refine aZ rfl (aa (aC (ak (ae (AJ w rA.Value) λcf=>fp (ae (abm cf rA.Names) λfH=>fp ab)))))
theorem Ra (a:bM):Sm (NE (MV.i .u8)) (Az (eD a)) (wR a):=by
 unfold Az wR;refine az (dm (ao (ae (lL ([]:List Int) (a.Shelf.L.length:Int)) λrA=>fp (ae (bB (λr=>[.list (r.1.map (MV.i .u8)),.i .i64 r.2]) (λr=>(2,[.list (r.map (MV.i .u8))])) (rfl) λst=> ?_) λw=> ?_))))
 ·unfold xT;refine qy (ao (ax ?_ ?_))
  ·refine bc (f:=bJ) (rfl) λy=>az (eh (ae (AJ st.1 y.Path) λaT=>fp (ae (AJ aT y.Value) λcf=>fp (ae (lL cf y.Version) λfH=>fp (ae (lL fH y.b5) λn0=>fp ab)))))
  ·exact ab
 ·refine aZ rfl (aa (aC (ak (ae (lL w a.aL.cI) λqn=>fp (ao (ae (lL qn (a.aL.L.length:Int)) λmT=>fp (ae (bB (λr=>[.list (r.1.map (MV.i .u8)),.i .i64 r.2]) (λr=>(4,[.list (r.map (MV.i .u8))])) (rfl) λdH=> ?_) λw1=> ?_)))))))
  ·unfold xU;refine qy (ao (ax ?_ ?_))
   ·refine bc (f:=br) (rfl) λy1=>az (nC (ae (lL dH.1 y1.Id) λEO=>fp (ae (lL EO y1.Span) λKU=>fp (ae (lL KU y1.dX) λKV=>fp ab))))
   ·exact ab
  ·refine aZ rfl (aa (aC (ak (ao (ae (lL w1 (a.aS.L.length:Int)) λwJ=>fp (ae (bB (λr=>[.list (r.1.map (MV.i .u8)),.i .i64 r.2]) (λr=>(6,[.list (r.map (MV.i .u8))])) (rfl) λeP=> ?_) λw2=> ?_))))))
   ·unfold xV;refine qy (ao (ax ?_ ?_))
    ·refine bc (f:=b6) (rfl) λy2=>az (rJ (ae (AJ eP.1 y2.Path) λCB=>fp (ae (lL CB y2.Client) λGU=>fp (ae (f:=(λr=>(0,[.list (r.map (MV.i .u8))]))) ?_ λw3=> ?_))))
     ·refine aA ?_ ?_
      ·refine ae (lL GU 1) λKW=>fp ab
      ·refine ae (lL GU 0) λKX=>fp ab
     ·refine aZ rfl (aa (aC (ak ab)))
    ·exact ab
   ·refine aZ rfl (aa (aC (ak (ao (ae (lL w2 (a.Seen.length:Int)) λFl=>fp (ae (bB (λr=>[.list (r.1.map (MV.i .u8)),.i .i64 r.2]) (λr=>(8,[.list (r.map (MV.i .u8))])) (rfl) λoO=> ?_) λw4=> ?_))))))
    ·unfold xW;refine qy (ao (ax ?_ ?_))
     ·refine bc (f:=bo) (rfl) λy3=>az (bY (ae (Ox oO.1 y3) λNT=>aC ab))
     ·exact ab
    ·refine aZ rfl (aa (aC (ak ab)))
theorem abn (a:bM)(b:bM):Sm MV.b (Ek (eD a) (eD b)) (Af a b):=by unfold Ek Af;refine az (dm (az (dm (ae (Ra a) λrA=>aC (S3 (M:=rA) (rfl) λbs=>ae (Ra b) λaT=>aC (S3 (M:=aT) (rfl) λbs1=>ab))))))
theorem Rb (a:List (List UInt8))(b:List (List UInt8)):Sm MV.b (vt (.list (a.map MV.s)) (.list (b.map MV.s))) (rr a b):=by
 unfold vt rr;refine aC (aC (ao (ao (aA ?_ ?_))))
 ·exact ab
 ·refine ae (bB (λr=>[.i .i64 r]) (AI (λr=>(2,[])) (λr=>(1,[.b r]))) (rfl) λst=> ?_) λw=> ?_
  ·unfold qP;refine aa (ay (ak (ao (ax ?_ ?_))))
   ·refine bc (f:=MV.s) (rfl) λy=>bu<|bc (f:=MV.s) (rfl) λy1=>bu<|aA ?_ ?_
    ·exact ab
    ·exact ab
   ·exact ab
  ·rcases w with p1|p2
   ·refine ib rfl (ak ab)
   ·refine ic rfl (aZ rfl (aa (aN (ak ab))))
theorem abo (a:aw)(b:aw):Sm MV.b (El (bo a) (bo b)) (Ag a b):=by
 unfold El Ag;refine az (bY (az (bY ?_)));refine ae (f:=λr=>[.b r]) ?_ λw=> ?_
 ·refine ax ?_ ?_
  ·refine ax ?_ ?_
   ·refine ax ?_ ?_
    ·refine ax ?_ ?_
     ·refine ax ?_ ?_
      ·refine ae (Rb a.Names b.Names) λrA=>aN ab
      ·exact ab
     ·exact ab
    ·exact ab
   ·exact ab
  ·exact ab
 ·refine aa (aN (ak ab))
theorem Tv (a:List bH)(b:List bH):Sm MV.b (yE (.list (a.map dq)) (.list (b.map dq))) (tR a b):=by
 unfold yE tR;refine aC (aC (ao (ao (aA ?_ ?_))))
 ·exact ab
 ·refine ae (bB (λr=>[.i .i64 r]) (AI (λr=>(2,[])) (λr=>(1,[.b r]))) (rfl) λst=> ?_) λw=> ?_
  ·unfold pi;refine aa (ay (ak (ao (ax ?_ ?_))))
   ·refine bc (f:=dq) (rfl) λy=>az (HG (bc (f:=dq) (rfl) λy1=>az (HG (aA ?_ ?_))))
    ·exact ab
    ·exact ab
   ·exact ab
  ·rcases w with p1|p2
   ·refine ib rfl (ak ab)
   ·refine ic rfl (aZ rfl (aa (aN (ak ab))))
theorem Tw (lA:List bk):Sm (NE dq) (yF (.list (lA.map cW))) (qp lA):=by
 unfold yF qp;refine aC<|ae (bB (λr=>[.list (r.1.map dq),.i .i64 r.2]) (λr=>(2,[.list (r.map dq)])) (rfl) λst=> ?_) λw=> ?_
 ·unfold pj;refine qy (ao (ax ?_ ?_))
  ·refine bc (f:=cW) (rfl) λy=>az (HG (bc (f:=cW) (rfl) λy1=>az (HG (ao (cc (([(⟨(⟨y.W.Path,y.W.Client,y.W.Kids⟩:aF),(⟨y1.C.Kind,y1.C.Path⟩:bq)⟩:bH)]:List bH).length) (bD ?_))))));exact b9 (by simp)
  ·exact ab
 ·refine aZ rfl (aa (aC (ak ab)))
theorem CO (rA:ap)(lA:List ar):Sm (λr=> .cg [eJ r.1,.list (r.2.1.map bl),.list (r.2.2.map cW)]) (qx (eJ rA) (.list (lA.map cA))) (n5 rA lA):=by
 unfold qx n5;refine az (dm (aC (ao (ae (bB (λr=>[.list (r.1.map bj),.i .i64 r.2.1,.list (r.2.2.1.map bm),.list (r.2.2.2.1.map bC),.list (r.2.2.2.2.1.map bl),.list (r.2.2.2.2.2.1.map bl),.list (r.2.2.2.2.2.2.1.map cW),.i .i64 r.2.2.2.2.2.2.2]) (λr=>(2,[.list (r.1.map bj),.i .i64 r.2.1,.list (r.2.2.1.map bm),.list (r.2.2.2.1.map bC),.list (r.2.2.2.2.1.map bl),.list (r.2.2.2.2.2.1.map bl),.list (r.2.2.2.2.2.2.map cW)])) (rfl) λst=> ?_) λw=> ?_))))
 ·unfold pk;refine aa (aC (aa (ay (aa (aC (aa (aC (aa (aC (y9 (ax ?_ ?_)))))))))))
  ·refine bc (f:=cA) (rfl) λy=>az (eC (ae (AH (⟨(⟨st.1⟩:aD),(⟨st.2.1,st.2.2.1⟩:aK),(⟨st.2.2.2.1⟩:ca),st.2.2.2.2.1⟩:ap) y) λmT=>bX (aa (az (dm (aa (az (bY (aa (aC (ak (ao (cc (([mT.2.1]:List ai).length) ?_)))))))))))));refine bD (aZ (mF (rfl:_=aaK cW mT.2.2) λ_=>rfl) (ao (ao (bD (b9 (by simp [bK,cU,cm]))))))
  ·exact ab
 ·refine aZ rfl (aa (aC (aa (ay (aa (aC (aa (aC (aa (aC (AD ab)))))))))))
theorem abp (rA:bM)(lA:List dJ):Sm (λr=> .cg [eD r.1,.list (r.2.1.map bo),.list (r.2.2.map dq)]) (Em (eD rA) (.list (lA.map iG))) (Ah rA lA):=by
 unfold Em Ah;refine az (dm (aC (ae (bB (λr=>[.list (r.1.map bJ),.i .i64 r.2.1,.list (r.2.2.1.map br),.list (r.2.2.2.1.map b6),.list (r.2.2.2.2.1.map bo),.list (r.2.2.2.2.2.1.map bo),.list (r.2.2.2.2.2.2.1.map dq),.i .i64 r.2.2.2.2.2.2.2]) (λr=>(2,[.list (r.1.map bJ),.i .i64 r.2.1,.list (r.2.2.1.map br),.list (r.2.2.2.1.map b6),.list (r.2.2.2.2.1.map bo),.list (r.2.2.2.2.2.1.map bo),.list (r.2.2.2.2.2.2.map dq)])) (rfl) λst=> ?_) λw=> ?_)))
 ·unfold tS;refine aa (aC (aa (ay (aa (aC (aa (aC (aa (aC (y9 (ao (ax ?_ ?_))))))))))))
  ·refine bc (f:=iG) (rfl) λy=>az (eC (ae (Xf (⟨(⟨st.1⟩:bE),(⟨st.2.1,st.2.2.1⟩:cD),(⟨st.2.2.2.1⟩:eo),st.2.2.2.2.1⟩:bM) y) λmT=>bX (aa (az (dm (aa (az (bY (aa (aC (ak (ao (cc (([mT.2.1]:List aw).length) ?_)))))))))))));refine bD (aZ (mF (rfl:_=aaK dq mT.2.2) λ_=>rfl) (ao (ao (bD (b9 (by simp [bK,cU,cm]))))))
  ·exact ab
 ·refine aZ rfl (aa (aC (aa (ay (aa (aC (aa (aC (aa (aC (AD ab)))))))))))
theorem aeK:Sm dO (HD) (NU):=by unfold HD NU;exact ab
theorem aeL:Sm eD (HE) (Hs):=by unfold HE Hs;refine ae (aeK) λrA=>az (aa (aC (ak ab)))
theorem aeM (lA:List ar):Sm (NE iG) (HF (.list (lA.map cA))) (DD lA):=by
 unfold HF DD;refine aC<|ae (bB (λr=>[.list (r.1.map iG),.i .i64 r.2]) (λr=>(2,[.list (r.map iG)])) (rfl) λst=> ?_) λw=> ?_
 ·unfold wS;refine qy (ao (ax ?_ ?_))
  ·refine bc (f:=cA) (rfl) λy=>az (eC (ae (aeJ y) λrA=>az (eC (ao (cc (([rA]:List dJ).length) (bD (b9 (by simp [cU]))))))))
  ·exact ab
 ·refine aZ rfl (aa (aC (ak ab)))
theorem Gy (a:List aw)(b:List aw):Sm MV.b (rI (.list (a.map bo)) (.list (b.map bo))) (ox a b):=by
 unfold rI ox;refine aC (aC (ao (ao (aA ?_ ?_))))
 ·exact ab
 ·refine ae (bB (λr=>[.i .i64 r]) (AI (λr=>(2,[])) (λr=>(1,[.b r]))) (rfl) λst=> ?_) λw=> ?_
  ·unfold nu;refine aa (ay (ak (ao (ax ?_ ?_))))
   ·refine bc (f:=bo) (rfl) λy=>az (bY (bc (f:=bo) (rfl) λy1=>az (bY (ae (abo y y1) λrA=>aN (aA ?_ ?_)))))
    ·exact ab
    ·exact ab
   ·exact ab
  ·rcases w with p1|p2
   ·refine ib rfl (ak ab)
   ·refine ic rfl (aZ rfl (aa (aN (ak ab))))
theorem Ka (a:List ar)(a1:Int):Sm MV.b (um (.list (a.map cA)) (.i .i64 a1)) (pn a a1):=by
 unfold um pn;refine aC (ay (ae (W0 a) λrA=>aN (aA ?_ ?_)))
 ·refine ae (MF) λaT=>aN ab
 ·refine ae (FC) λcf=>az (dm (ae (CO cf a) λfH=>bX (aa (az (dm (AD (ae (aeL) λn0=>az (dm (ae (aeM a) λqn=>aC (ae (abp n0 qn) λmT=>bX (aa (az (dm (AD ?_))))))))))))));refine ae (f:=λr=>[.b r]) ?_ λw=> ?_
  ·refine ae (W6 fH.1) λEO=>az (dm (ae (abn EO mT.1) λKU=>aN (aA ?_ ?_)))
   ·exact ab
   ·refine ae (vu fH.2.1) λKV=>aC<|ae (Gy KV mT.2.1) λwJ=>aN<|aA ?_ ?_
    ·exact ab
    ·refine ae (Tw fH.2.2) λCB=>aC<|ae (Tv CB mT.2.2) λGU=>aN ab
  ·refine aa (aN (ak (aA ?_ ?_)))
   ·exact ab
   ·refine ao (ao (bD (ae (FC) λKW=>az (dm ?_))));refine ae (by rw [<-AS,<-AT];exact CO KW (aaL (sh 0) (aaS (sh (nT (imax a1 0) (a.length:Int))) a))) λKX=> ?_;refine bX (aa (az (dm (AD (aZ (mF (rfl:_=aaK cA a) λ_=>rfl) (ao (bD ?_)))))));refine ae (by rw [<-AS,<-AT];exact CO KX.1 (aaL (sh (nT (imax a1 0) (a.length:Int))) (aaS (sh (a.length:Int)) a))) λFl=> ?_;refine bX (aa (az (dm (AD ?_))));refine ae (f:=λr=>[.b r]) ?_ λw1=> ?_
    ·refine ae (MF) λNT=>aN<|aA ?_ ?_
     ·refine ae (J9 Fl.1 fH.1) λadR=>aN<|aA ?_ ?_
      ·refine ao (ao (ax ?_ ?_))
       ·refine aZ (mF (rfl:_=aaK bl fH.2.1) λ_=>rfl) (ao (bD (ae (vu Fl.2.1) λaao=>aC ?_)));refine ae (by rw [<-AS,<-AT];exact vu (aaL (sh (nT (imax a1 0) (a.length:Int))) (aaS (sh (fH.2.1.length:Int)) fH.2.1))) λaap=> ?_;refine aC<|ae (Gy aao aap) λadS=>aN ab
       ·exact ab
      ·exact ab
     ·exact ab
    ·refine aa (aN (ak ab))
end Dn.S
