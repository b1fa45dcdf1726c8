import Derived.Test.YtmdlghpieagfhaaGreatDnYD
/-
  Typed and plain functions agree. Conditions: none.
-/
set_option linter.unusedVariables false
set_option linter.unusedSimpArgs false
open Int renaming toNat→cM
open List renaming length_map→sh,length_cons→AI,length_append→AT,length_nil→BY,map_append→IT,length_take→OF,length_drop→aaf,length_set→aaU,map_cons→aaW,map_take→aa1,map_drop→abK,map_replicate→abX,map_nil→ab1,map_set→ab5,drop→ab6,take→ab7,map→aca,replicate→acd
open Go.IntKind renaming wrap→No,bits→acb
open Sum renaming elim→aaT
open Nat renaming reduceAdd→ab8
open Option renaming map_some→ab9
open Go Dn
set_option maxRecDepth 100000
namespace Dn.S
@[reducible] def v0 (r : Int × Int × Int × Int × Bool × Int × (List UInt8) × (List aa) × (List aa) × Int × Int × (List aa) × (List aa) × (List aa) × Bool × (List UInt8) × (List ab) × Int × (List al)) : List MV := [.i .i64 r.1, .i .i64 r.2.1, .i .i64 r.2.2.1, .i .i64 r.2.2.2.1, .b r.2.2.2.2.1, .i .i64 r.2.2.2.2.2.1, .s r.2.2.2.2.2.2.1, .list (r.2.2.2.2.2.2.2.1.map ak), .list (r.2.2.2.2.2.2.2.2.1.map ak), .i .i64 r.2.2.2.2.2.2.2.2.2.1, .i .i64 r.2.2.2.2.2.2.2.2.2.2.1, .list (r.2.2.2.2.2.2.2.2.2.2.2.1.map ak), .list (r.2.2.2.2.2.2.2.2.2.2.2.2.1.map ak), .list (r.2.2.2.2.2.2.2.2.2.2.2.2.2.1.map ak), .b r.2.2.2.2.2.2.2.2.2.2.2.2.2.2.1, .s r.2.2.2.2.2.2.2.2.2.2.2.2.2.2.2.1, .list (r.2.2.2.2.2.2.2.2.2.2.2.2.2.2.2.2.1.map aH), .i .i64 r.2.2.2.2.2.2.2.2.2.2.2.2.2.2.2.2.2.1, .list (r.2.2.2.2.2.2.2.2.2.2.2.2.2.2.2.2.2.2.map aR)]
@[reducible] def v1 (r : Int × Int × Int × Int × Bool × Int × (List UInt8) × (List aa) × (List aa) × Int × Int × (List aa) × (List aa) × (List aa) × Bool × (List UInt8) × (List ab) × Int) : List MV := [.i .i64 r.1, .i .i64 r.2.1, .i .i64 r.2.2.1, .i .i64 r.2.2.2.1, .b r.2.2.2.2.1, .i .i64 r.2.2.2.2.2.1, .s r.2.2.2.2.2.2.1, .list (r.2.2.2.2.2.2.2.1.map ak), .list (r.2.2.2.2.2.2.2.2.1.map ak), .i .i64 r.2.2.2.2.2.2.2.2.2.1, .i .i64 r.2.2.2.2.2.2.2.2.2.2.1, .list (r.2.2.2.2.2.2.2.2.2.2.2.1.map ak), .list (r.2.2.2.2.2.2.2.2.2.2.2.2.1.map ak), .list (r.2.2.2.2.2.2.2.2.2.2.2.2.2.1.map ak), .b r.2.2.2.2.2.2.2.2.2.2.2.2.2.2.1, .s r.2.2.2.2.2.2.2.2.2.2.2.2.2.2.2.1, .list (r.2.2.2.2.2.2.2.2.2.2.2.2.2.2.2.2.1.map aH), .i .i64 r.2.2.2.2.2.2.2.2.2.2.2.2.2.2.2.2.2]
@[reducible] def v2 (r : Int × Int × Int × (List UInt8) × (List ab) × Int × Int × (List UInt8) × (List aa) × Int × Int × Bool × Int × (List UInt8) × (List aa)) : List MV := [.i .i64 r.1, .i .i64 r.2.1, .i .i64 r.2.2.1, .s r.2.2.2.1, .list (r.2.2.2.2.1.map aH), .i .i64 r.2.2.2.2.2.1, .i .i64 r.2.2.2.2.2.2.1, .s r.2.2.2.2.2.2.2.1, .list (r.2.2.2.2.2.2.2.2.1.map ak), .i .i64 r.2.2.2.2.2.2.2.2.2.1, .i .i64 r.2.2.2.2.2.2.2.2.2.2.1, .b r.2.2.2.2.2.2.2.2.2.2.2.1, .i .i64 r.2.2.2.2.2.2.2.2.2.2.2.2.1, .s r.2.2.2.2.2.2.2.2.2.2.2.2.2.1, .list (r.2.2.2.2.2.2.2.2.2.2.2.2.2.2.map ak)]
@[reducible] def v3 (r : Int × Int × (List Bool) × (List (List UInt8)) × (List ar) × (List al) × Int) : List MV := [.i .i64 r.1, .i .i64 r.2.1, .list (r.2.2.1.map MV.b), .list (r.2.2.2.1.map MV.s), .list (r.2.2.2.2.1.map aZ), .list (r.2.2.2.2.2.1.map aR), .i .i64 r.2.2.2.2.2.2]
@[reducible] def v4 (r : Int × Int × Int × (List Bool) × (List (List UInt8)) × (List ar) × (List al)) : List MV := [.i .i64 r.1, .i .i64 r.2.1, .i .i64 r.2.2.1, .list (r.2.2.2.1.map MV.b), .list (r.2.2.2.2.1.map MV.s), .list (r.2.2.2.2.2.1.map aZ), .list (r.2.2.2.2.2.2.map aR)]
@[reducible] def v5 (r : Int × Int × (List aa) × (List aa) × (List aa) × Bool × (List UInt8)) : List MV := [.i .i64 r.1, .i .i64 r.2.1, .list (r.2.2.1.map ak), .list (r.2.2.2.1.map ak), .list (r.2.2.2.2.1.map ak), .b r.2.2.2.2.2.1, .s r.2.2.2.2.2.2]
@[reducible] def v6 (r : Int × Int × (List Bool) × (List (List UInt8)) × (List ar) × (List al)) : List MV := [.i .i64 r.1, .i .i64 r.2.1, .list (r.2.2.1.map MV.b), .list (r.2.2.2.1.map MV.s), .list (r.2.2.2.2.1.map aZ), .list (r.2.2.2.2.2.map aR)]
@[reducible] def v7 (r : Int × (List UInt8) × Bool) : List MV := [.i .i64 r.1, .s r.2.1, .b r.2.2]
theorem rl {A B:Type}{g:B->A}{T:Option B}{l:List MV}{K:Nat->Option A}(n:Nat)(h:Sm g (K n) T)(e:l.length=n:=by simp only [sh,AI,BY]):Sm g (cr l K) T:=xU e h
theorem bk {A B C:Type}{g:B->A}{T:Option B}{f:C->MV}{M:List C}{K:Nat->Option A}(h:Sm g (K M.length) T):Sm g (cr (M.map f) K) T:=xU (sh ..) h
theorem ap {A B:Type}{g:B->A}{d:A}{a:B}(e:d=g a:=by exact rfl):Sm g (some d) (some a):=jF e
theorem mc {A B:Type}{g:B->A}{T:Option B}{k0 k1:IntKind}{x0:Int}{x1:Int}{K:Int->Int->Option A}(h:Sm g (K x0 x1) T):Sm g (oII k0 k1 [.i k0 x0,.i k1 x1] K) T:=ai (ax (ai (ax (aC h))))
theorem fj {A B:Type}{g:B->A}{T:Option B}{k0 k1 k3:IntKind}{x0:Int}{x1:Int}{x2:Bool}{x3:Int}{x4:List UInt8}{x5:List MV}{K:Int->Int->Bool->Int->List UInt8->List MV->Option A}(h:Sm g (K x0 x1 x2 x3 x4 x5) T):Sm g (Vc k0 k1 k3 [.i k0 x0,.i k1 x1,.b x2,.i k3 x3,.s x4,.list x5] K) T:=ai (ax (ai (ax (ai (aE (ai (ax (ai (du (ai (aT (aC h))))))))))))
theorem fR {A B:Type}{g:B->A}{T:Option B}{k0 k1 k2 k3 k5:IntKind}{x0:Int}{x1:Int}{x2:Int}{x3:Int}{x4:Bool}{x5:Int}{x6:List UInt8}{x7:List MV}{x8:List MV}{K:Int->Int->Int->Int->Bool->Int->List UInt8->List MV->List MV->Option A}(h:Sm g (K x0 x1 x2 x3 x4 x5 x6 x7 x8) T):Sm g (Jb k0 k1 k2 k3 k5 [.i k0 x0,.i k1 x1,.i k2 x2,.i k3 x3,.b x4,.i k5 x5,.s x6,.list x7,.list x8] K) T:=ai (ax (ai (ax (ai (ax (ai (ax (ai (aE (ai (ax (ai (du (ai (aT (ai (aT (aC h))))))))))))))))))
theorem aK {A B:Type}{g:B->A}{T:Option B}{k0 k1 k2 k3 k5 k9 Vd k17:IntKind}{x0:Int}{x1:Int}{x2:Int}{x3:Int}{x4:Bool}{x5:Int}{x6:List UInt8}{x7:List MV}{x8:List MV}{x9:Int}{qK:Int}{rR:List MV}{sd:List MV}{sn:List MV}{uM:Bool}{yb:List UInt8}{Bh:List MV}{xr:Int}{K:Int->Int->Int->Int->Bool->Int->List UInt8->List MV->List MV->Int->Int->List MV->List MV->List MV->Bool->List UInt8->List MV->Int->Option A}(h:Sm g (K x0 x1 x2 x3 x4 x5 x6 x7 x8 x9 qK rR sd sn uM yb Bh xr) T):Sm g (fM k0 k1 k2 k3 k5 k9 Vd k17 [.i k0 x0,.i k1 x1,.i k2 x2,.i k3 x3,.b x4,.i k5 x5,.s x6,.list x7,.list x8,.i k9 x9,.i Vd qK,.list rR,.list sd,.list sn,.b uM,.s yb,.list Bh,.i k17 xr] K) T:=ai (ax (ai (ax (ai (ax (ai (ax (ai (aE (ai (ax (ai (du (ai (aT (ai (aT (ai (ax (ai (ax (ai (aT (ai (aT (ai (aT (ai (aE (ai (du (ai (aT (ai (ax (aC h))))))))))))))))))))))))))))))))))))
theorem lK {A B:Type}{g:B->A}{T:Option B}{k0 k1 k2 k3 k5 k9 Vd k17:IntKind}{x0:Int}{x1:Int}{x2:Int}{x3:Int}{x4:Bool}{x5:Int}{x6:List UInt8}{x7:List MV}{x8:List MV}{x9:Int}{qK:Int}{rR:List MV}{sd:List MV}{sn:List MV}{uM:Bool}{yb:List UInt8}{Bh:List MV}{xr:Int}{Mv:List MV}{K:Int->Int->Int->Int->Bool->Int->List UInt8->List MV->List MV->Int->Int->List MV->List MV->List MV->Bool->List UInt8->List MV->Int->List MV->Option A}(h:Sm g (K x0 x1 x2 x3 x4 x5 x6 x7 x8 x9 qK rR sd sn uM yb Bh xr Mv) T):Sm g (jJ k0 k1 k2 k3 k5 k9 Vd k17 [.i k0 x0,.i k1 x1,.i k2 x2,.i k3 x3,.b x4,.i k5 x5,.s x6,.list x7,.list x8,.i k9 x9,.i Vd qK,.list rR,.list sd,.list sn,.b uM,.s yb,.list Bh,.i k17 xr,.list Mv] K) T:=ai (ax (ai (ax (ai (ax (ai (ax (ai (aE (ai (ax (ai (du (ai (aT (ai (aT (ai (ax (ai (ax (ai (aT (ai (aT (ai (aT (ai (aE (ai (du (ai (aT (ai (ax (ai (aT (aC h))))))))))))))))))))))))))))))))))))))
theorem mN {A B:Type}{g:B->A}{T:Option B}{k0 k1 k2 k3 k4 k5 k8 k9 k12 k13 k15:IntKind}{x0:Int}{x1:Int}{x2:Int}{x3:Int}{x4:Int}{x5:Int}{x6:List UInt8}{x7:List MV}{x8:Int}{x9:Int}{qK:List UInt8}{rR:List MV}{sd:Int}{sn:Int}{uM:Bool}{yb:Int}{Bh:List UInt8}{xr:List MV}{K:Int->Int->Int->Int->Int->Int->List UInt8->List MV->Int->Int->List UInt8->List MV->Int->Int->Bool->Int->List UInt8->List MV->Option A}(h:Sm g (K x0 x1 x2 x3 x4 x5 x6 x7 x8 x9 qK rR sd sn uM yb Bh xr) T):Sm g (sH k0 k1 k2 k3 k4 k5 k8 k9 k12 k13 k15 [.i k0 x0,.i k1 x1,.i k2 x2,.i k3 x3,.i k4 x4,.i k5 x5,.s x6,.list x7,.i k8 x8,.i k9 x9,.s qK,.list rR,.i k12 sd,.i k13 sn,.b uM,.i k15 yb,.s Bh,.list xr] K) T:=ai (ax (ai (ax (ai (ax (ai (ax (ai (ax (ai (ax (ai (du (ai (aT (ai (ax (ai (ax (ai (du (ai (aT (ai (ax (ai (ax (ai (aE (ai (ax (ai (du (ai (aT (aC h))))))))))))))))))))))))))))))))))))
theorem cR {A B:Type}{g:B->A}{T:Option B}{k0 k1 k2 k5 k6 k9 Vd k12:IntKind}{x0:Int}{x1:Int}{x2:Int}{x3:List UInt8}{x4:List MV}{x5:Int}{x6:Int}{x7:List UInt8}{x8:List MV}{x9:Int}{qK:Int}{rR:Bool}{sd:Int}{sn:List UInt8}{uM:List MV}{K:Int->Int->Int->List UInt8->List MV->Int->Int->List UInt8->List MV->Int->Int->Bool->Int->List UInt8->List MV->Option A}(h:Sm g (K x0 x1 x2 x3 x4 x5 x6 x7 x8 x9 qK rR sd sn uM) T):Sm g (nk k0 k1 k2 k5 k6 k9 Vd k12 [.i k0 x0,.i k1 x1,.i k2 x2,.s x3,.list x4,.i k5 x5,.i k6 x6,.s x7,.list x8,.i k9 x9,.i Vd qK,.b rR,.i k12 sd,.s sn,.list uM] K) T:=ai (ax (ai (ax (ai (ax (ai (du (ai (aT (ai (ax (ai (ax (ai (du (ai (aT (ai (ax (ai (ax (ai (aE (ai (ax (ai (du (ai (aT (aC h))))))))))))))))))))))))))))))
theorem dK {A B:Type}{g:B->A}{T:Option B}{k0 k1:IntKind}{x0:Int}{x1:Int}{x2:List MV}{x3:List MV}{x4:List MV}{x5:Bool}{x6:List UInt8}{K:Int->Int->List MV->List MV->List MV->Bool->List UInt8->Option A}(h:Sm g (K x0 x1 x2 x3 x4 x5 x6) T):Sm g (Ac k0 k1 [.i k0 x0,.i k1 x1,.list x2,.list x3,.list x4,.b x5,.s x6] K) T:=ai (ax (ai (ax (ai (aT (ai (aT (ai (aT (ai (aE (ai (du (aC h))))))))))))))
theorem bE {A B:Type}{g:B->A}{T:Option B}{k0 k1:IntKind}{x0:Int}{x1:Int}{x2:List MV}{x3:List MV}{x4:List MV}{x5:List MV}{K:Int->Int->List MV->List MV->List MV->List MV->Option A}(h:Sm g (K x0 x1 x2 x3 x4 x5) T):Sm g (lQ k0 k1 [.i k0 x0,.i k1 x1,.list x2,.list x3,.list x4,.list x5] K) T:=ai (ax (ai (ax (ai (aT (ai (aT (ai (aT (ai (aT (aC h))))))))))))
theorem gy {A B:Type}{g:B->A}{T:Option B}{k0 k1:IntKind}{x0:Int}{x1:Int}{x2:List UInt8}{K:Int->Int->List UInt8->Option A}(h:Sm g (K x0 x1 x2) T):Sm g (alX k0 k1 [.i k0 x0,.i k1 x1,.s x2] K) T:=ai (ax (ai (ax (ai (du (aC h))))))
theorem Ay {A B:Type}{g:B->A}{T:Option B}{k0:IntKind}{x0:Int}{x1:List UInt8}{x2:Bool}{K:Int->List UInt8->Bool->Option A}(h:Sm g (K x0 x1 x2) T):Sm g (aeb k0 [.i k0 x0,.s x1,.b x2] K) T:=ai (ax (ai (du (ai (aE (aC h))))))
theorem o7 {A B:Type}{g:B->A}{T:Option B}{k1:IntKind}{x0:List MV}{x1:Int}{K:List MV->Int->Option A}(h:Sm g (K x0 x1) T):Sm g (oLI k1 [.list x0,.i k1 x1] K) T:=ai (aT (ai (ax (aC h))))
theorem Xe (a:na)(a1:List dz):Sm MV.b (Bj (Cx a) (.list (a1.map my))) (wP a a1):=by
 unfold Bj wP;refine aJ (ai (ax (ai (ax (ai (aT (ai (aT (aC (aT ?_))))))))));refine ao (f:=λr=>[.b r]) ?_ λw=> ?_
 ·refine bh ?_ ?_
  ·exact ap
  ·refine bk<|bh ?_ ?_
   ·exact ap
   ·refine bk<|bh ?_ ?_
    ·exact ap
    ·refine bk ap
 ·refine ai (aE (aC (aG ?_ ?_)))
  ·exact ap
  ·refine ao (dE (λr=>[.i .i64 r]) (aaT (λr=>(2,[])) (λr=>(1,[.b r]))) (rfl) λst=> ?_) λw1=> ?_
   ·unfold vo;refine ai (ax (aC (bk (bh ?_ ?_))))
    ·refine bW (f:=MV.s) (rfl) λy=>du<|bh ?_ ?_
     ·exact ap
     ·exact ap
    ·exact ap
   ·rcases w1 with p1|p2
    ·refine nI rfl (aC (ao (dE (λr=>[.i .i64 r]) (aaT (λr=>(4,[])) (λr=>(1,[.b r]))) (rfl) λdk=> ?_) λw2=> ?_))
     ·unfold rN;refine ai (ax (aC (bk (bh ?_ ?_))))
      ·refine bW (f:=my) (rfl) λy1=>aJ (mN ?_);refine ao (f:=λr=>[.b r]) ?_ λw3=> ?_
       ·refine bh ?_ ?_
        ·exact ap
        ·refine bh ?_ ?_
         ·exact ap
         ·refine bk<|bh ?_ ?_
          ·exact ap
          ·refine bk<|bh ?_ ?_
           ·exact ap
           ·refine bh ?_ ?_
            ·exact ap
            ·refine bk ap
       ·refine ai (aE (aC (aG ?_ ?_)))
        ·exact ap
        ·refine ao (dE (λr=>[.i .i64 r]) (aaT (λr=>(6,[])) (λr=>(1,[.b r]))) (rfl) λdM=> ?_) λw4=> ?_
         ·unfold rM;refine ai (ax (aC (bk (bh ?_ ?_))))
          ·refine bW (f:=aH) (rfl) λy2=>aJ (fj (bk (bh ?_ ?_)))
           ·exact ap
           ·exact ap
          ·exact ap
         ·rcases w4 with p5|p6
          ·refine nI rfl (aC ap)
          ·refine nJ rfl (bM rfl (ai (aE (aC ap))))
      ·exact ap
     ·rcases w2 with p7|p8
      ·refine nI rfl (aC ap)
      ·refine nJ rfl (bM rfl (ai (aE (aC ap))))
    ·refine nJ rfl (bM rfl (ai (aE (aC ap))))
theorem Lj (sA:ae):Sm (λx:Nat×Nat=>MV.raw (.complex .f64 x.1 x.2)) (q0 (bK sA)) (vZ sA):=by unfold q0 vZ;refine aJ (mc ap)
theorem oV (sA:ae)(times:Nat×Nat):Sm (MV.i .i64) (jK (bK sA) (.raw (.complex .f64 times.1 times.2))) (kJ sA times):=by unfold jK kJ;refine aJ (mc (aat (ao (Lj sA) λrA=>aat (Om (Om (Ho λf=>Om (Om (Ho λf1=>Ho λf2=>Ho λn=>ew ap))))))))
theorem yq (sA:ae):Sm (MV.i .i64) (sr (bK sA)) (pq sA):=by unfold sr pq;refine aJ (mc (ao (oV sA (4613937818241073152,4611686018427387904)) λrA=>ax ap))
theorem qP (sA:ae):Sm MV.b (kT (bK sA)) (jX sA):=by
 unfold kT jX;refine aJ (mc ?_);refine ao (f:=λr=>[.b r]) ?_ λw=> ?_
 ·refine bh ?_ ?_
  ·refine bh ?_ ?_
   ·refine bh ?_ ?_
    ·exact ap
    ·exact ap
   ·exact ap
  ·exact ap
 ·refine ai (aE (aC ap))
theorem Eb (sA:ae)(me:Int):Sm (λr=> .dH [ck r.1,.i .i64 r.2]) (pF (bK sA) (.i .i64 me)) (nb sA me):=by
 unfold pF nb;refine aJ (mc (ax ?_));refine ao (f:=λr=>[.b r]) ?_ λw=> ?_
 ·refine ao (qP sA) λrA=>aE<|aG ?_ ?_
  ·exact ap
  ·refine bh ?_ ?_
   ·exact ap
   ·refine ao (yq sA) λbt=>ax ap
 ·refine ai (aE (aC (aG ?_ ?_)))
  ·exact ap
  ·exact ap
theorem Gu (sA:ae):Sm (λr=> .dH [dp r.1,.i .i64 r.2]) (rT (bK sA)) (oR sA):=by
 unfold rT oR;refine aJ (mc (ao (qP sA) λrA=>aE (aG ?_ ?_)))
 ·exact ap
 ·exact ap
theorem Tz (sA:ae)(i:Int):Sm (λr=> .dH [aZ r.1,.i .i64 r.2]) (yd (bK sA) (.i .i64 i)) (ud sA i):=by
 unfold yd ud;refine aJ (mc (ax (ao (Eb sA i) λrA=>eG (ai (aJ (fR (ai (ax (aC (aG ?_ ?_))))))))))
 ·exact ap
 ·refine ao (Gu sA) λbt=>eG (ai (aJ (dK (ai (ax (aC ap))))))
theorem Q4 (a:ae)(a1:List Bool)(a2:List (List UInt8)):Sm (λr=> .dH [eZ r.1,.i .i64 r.2]) (Af (bK a) (.list (a1.map MV.b)) (.list (a2.map MV.s))) (pu a a1 a2):=by
 unfold Af pu;refine aJ (mc (aT (aT ?_)));refine ao (f:=λr=>[.b r]) ?_ λw=> ?_
 ·refine ao (qP a) λrA=>aE<|aG ?_ ?_
  ·exact ap
  ·refine bk<|ao (yq a) λbt=>ax<|aG ?_ ?_
   ·exact ap
   ·refine bk (bk ap)
 ·refine ai (aE (aC (aG ?_ ?_)))
  ·exact ap
  ·refine ao (xW (size:=1) (f:=MV.b) (λ_=>rfl) a1) λca=>qp<|ao (xW (size:=1) (f:=MV.s) (λ_=>rfl) a2) λcG=>qp (bk (ao (dE (λr=>[.i .i64 r.1,.i .i64 r.2.1,.list (r.2.2.1.map MV.b),.list (r.2.2.2.1.map MV.s),.list (r.2.2.2.2.1.map aZ),.list (r.2.2.2.2.2.1.map aR),.i .i64 r.2.2.2.2.2.2.1,.i .i64 r.2.2.2.2.2.2.2.1,.list (r.2.2.2.2.2.2.2.2.1.map MV.b),.list (r.2.2.2.2.2.2.2.2.2.1.map MV.s),.list (r.2.2.2.2.2.2.2.2.2.2.1.map aZ),.list (r.2.2.2.2.2.2.2.2.2.2.2.1.map aR),.i .i64 r.2.2.2.2.2.2.2.2.2.2.2.2.1,.i .i64 r.2.2.2.2.2.2.2.2.2.2.2.2.2]) (aaT (λr=>(2,[.i .i64 r.1,.i .i64 r.2.1,.list (r.2.2.1.map MV.b),.list (r.2.2.2.1.map MV.s),.list (r.2.2.2.2.1.map aZ),.list (r.2.2.2.2.2.1.map aR),.i .i64 r.2.2.2.2.2.2.1,.i .i64 r.2.2.2.2.2.2.2.1,.list (r.2.2.2.2.2.2.2.2.1.map MV.b),.list (r.2.2.2.2.2.2.2.2.2.1.map MV.s),.list (r.2.2.2.2.2.2.2.2.2.2.1.map aZ),.list (r.2.2.2.2.2.2.2.2.2.2.2.map aR)])) (λr=>(1,(v3 r)))) (rfl) λst=> ?_) λw1=> ?_))
   ·unfold xY;refine ai (ax (ai (ax (ai (aT (ai (aT (ai (aT (ai (aT (ai (ax (ai (ax (ai (aT (ai (aT (ai (aT (ai (aT (mc (bh ?_ ?_)))))))))))))))))))))))))
    ·refine bW (f:=MV.b) (rfl) λy=>aE<|ao (f:=(λr=>(0,[.i .i64 r]))) ?_ λw2=> ?_
     ·refine aG ?_ ?_
      ·exact ap
      ·exact ap
     ·refine bM rfl (ai (ax (aC ?_)));refine ao (f:=λr=>[.b r]) ?_ λw3=> ?_
      ·refine bW (f:=MV.s) (rfl) λy1=>du<|bh ?_ ?_
       ·exact ap
       ·exact ap
      ·refine ai (aE (aC (aG ?_ ?_)))
       ·exact ap
       ·refine ao (Tz a st.2.2.2.2.2.2.2.2.2.2.2.2.2) λiw=>eG (ai (aJ (aK (ai (ax (aC (bk (rl (([iw.1]:List ar).length) (ew (jF (by simp [aw,bj,v3])))))))))))
    ·exact ap
   ·rcases w1 with p2|p3
    ·refine nI rfl (ai (ax (ai (ax (ai (aT (ai (aT (ai (aT (ai (aT (bE ap)))))))))))))
    ·refine nJ rfl (bM rfl (ai (ax (ai (ax (ai (aT (ai (aT (ai (aT (o7 ap))))))))))))
theorem J4 (b:List Int):Sm (λr=> .dH [.i .u64 r.1,.list (r.2.1.map (MV.i .u8)),.i .i64 r.2.2]) (ul (.list (b.map (MV.i .u8)))) (qF b):=by
 unfold ul qF;refine aT (bk (bh ?_ ?_))
 ·exact ap
 ·refine bW (f:=(MV.i .u8)) (rfl) λy=> ?_;refine ax (bM (xV (rfl:_=aca (MV.i .u8) b) λ_=>rfl) (bk (ew ?_)));refine ao (f:=λr=>[.b r]) ?_ λw=> ?_
  ·refine bh ?_ ?_
   ·exact ap
   ·refine bh ?_ ?_
    ·refine xU (n:=(ab6 (cM 1) (ab7 (cM (b.length:Int)) b)).length) (by simp only [sh,AT,AI,BY,OF,aaf,aaU])<|bh ?_ ?_
     ·refine bW (f:=(MV.i .u8)) (by simp only [Bf,abX,IT,aaW,ab1,aa1,abK,ab5]) λy1=>ax ap
     ·exact ap
    ·exact ap
  ·refine ai (aE (aC (aG ?_ ?_)))
   ·exact ap
   ·refine xU (n:=(ab6 (cM 1) (ab7 (cM (b.length:Int)) b)).length) (by simp only [sh,AT,AI,BY,OF,aaf,aaU])<|bh ?_ ?_
    ·exact ap
    ·refine xU (n:=(ab6 (cM 1) (ab7 (cM (b.length:Int)) b)).length) (by simp only [sh,AT,AI,BY,OF,aaf,aaU]) (ew (xU (n:=(ab6 (cM 0) (ab7 (cM (No .i64 y)) (ab6 (cM 1) (ab7 (cM (b.length:Int)) b)))).length) (by simp only [sh,AT,AI,BY,OF,aaf,aaU]) ?_));refine ao (dE (λr=>[.i .u64 r.1,.i .i64 r.2]) (λr=>(3,[.i .u64 r])) (rfl) λst=> ?_) λw1=> ?_
     ·unfold pv;refine mc<|bh ?_ ?_
      ·refine bW (f:=(MV.i .u8)) (by simp only [Bf,abX,IT,aaW,ab1,aa1,abK,ab5]) λy2=>ax (ew ap)
      ·exact ap
     ·refine bM rfl (ai (ax (aC (bM (xV ((by simp only [Bf,abX,IT,aaW,ab1,aa1,abK,ab5]):_=aca (MV.i .u8) (ab6 (cM 1) (ab7 (cM (b.length:Int)) b))) λ_=>rfl) (xU (n:=(ab6 (cM 1) (ab7 (cM (b.length:Int)) b)).length) (by simp only [sh,AT,AI,BY,OF,aaf,aaU]) (ew ?_))))));exact jF (by first|(simp;done)|simp only [IT,aaW,ab1,aa1,abK,ab5])
theorem Lk (b:List Int):Sm (λr=> .dH [.i .i64 r.1,.list (r.2.1.map (MV.i .u8)),.i .i64 r.2.2]) (q8 (.list (b.map (MV.i .u8)))) (nR b):=by unfold q8 nR;refine aT<|ao (J4 b) λrA=>eG (ai (ax (o7 (ew ap))))
theorem gx (t:aO):Sm (λr=> .dX ((MV.i .i64) r.1) (eJ r.2)) (dA (eJ t)) (b5 t):=by
 unfold dA b5;refine o7<|ao (f:=(λr=>(0,[.i .i64 r.1,.list (r.2.1.map (MV.i .u8)),.i .i64 r.2.2]))) ?_ λw=> ?_
 ·refine bh ?_ ?_
  ·refine ao (Lk t.b) λrA=>eG (ai (ax (o7 ap)))
  ·exact ap
 ·refine bM rfl (ai (ax (o7 ap)))
theorem J5 (b:List Int)(most:Int):Sm (λr=> .dH [.s r.1,.list (r.2.1.map (MV.i .u8)),.i .i64 r.2.2]) (pH (.list (b.map (MV.i .u8))) (.i .i64 most)) (kp b most):=by
 unfold pH kp;refine aT (ax (ao (J4 b) λrA=>eG (ai (ax (o7 (aG ?_ ?_))))))
 ·exact ap
 ·refine bh ?_ ?_
  ·exact ap
  ·refine bk<|bh ?_ ?_
   ·exact ap
   ·refine bk (ew (ahF (M:=ab6 (cM 0) (ab7 (cM rA.1) rA.2.1)) ((by simp only [Bf,abX,IT,aaW,ab1,aa1,abK,ab5])) λbs=> ?_));refine bM (xV (rfl:_=aca (MV.i .u8) rA.2.1) λ_=>rfl) (bk (ew (jF (by first|(simp;done)|simp only [IT,aaW,ab1,aa1,abK,ab5]))))
theorem sL (t:aO):Sm (λr=> .dX (MV.s r.1) (eJ r.2)) (iv (eJ t)) (df t):=by
 unfold iv df;refine o7<|ao (f:=(λr=>(0,[.s r.1,.list (r.2.1.map (MV.i .u8)),.i .i64 r.2.2]))) ?_ λw=> ?_
 ·refine bh ?_ ?_
  ·refine ao (J5 t.b 6000) λrA=>eG (ai (du (o7 ap)))
  ·exact ap
 ·refine bM rfl (ai (du (o7 ap)))
theorem Az (t:aO):Sm (λr=> .dX ((Qt ak) r.1) (eJ r.2)) (jL (eJ t)) (dw t):=by
 unfold jL dw;refine o7<|ao (gx t) λrA=>nQ (o7 (ax ?_));refine ao (f:=λr=>[.b r]) ?_ λw=> ?_
 ·refine bh ?_ ?_
  ·exact ap
  ·exact ap
 ·refine ai (aE (aC (ao (f:=(λr=>(0,[.list (r.1.map (MV.i .u8)),.i .i64 r.2]))) ?_ λw1=> ?_)))
  ·refine aG ?_ ?_
   ·exact ap
   ·exact ap
  ·refine bM rfl (o7 ?_);refine ao (f:=λr=>[.b r]) ?_ λw2=> ?_
   ·refine aG ?_ ?_
    ·exact ap
    ·exact ap
   ·refine ai (aE (aC (aG ?_ ?_)))
    ·exact ap
    ·refine ew (xU (n:=(acd (cM rA.1) (⟨0,0,([]:List UInt8)⟩:aa)).length) (by simp only [List.length_replicate,sh,AT,AI,BY,OF,aaf,aaU]) ?_);refine ao (dE (λr=>[.list (r.1.map ak),.i .i64 r.2.1,.list (r.2.2.1.map (MV.i .u8)),.i .i64 r.2.2.2]) (λr=>(2,[.list (r.1.map ak),.list (r.2.1.map (MV.i .u8)),.i .i64 r.2.2])) (by simp [eJ]) λst=> ?_) λw3=> ?_
     ·unfold b6;refine ai (aT (ai (ax (o7 (bh ?_ ?_)))))
      ·refine ao (gx (⟨st.2.2.1,st.2.2.2⟩:aO)) λbt=>nQ (o7 (ax (bW (f:=ak) (rfl) λy=>aJ (gy (jF (by simp [eJ]))))))
      ·exact ap
     ·refine bM rfl (ai (aT (o7 (ao (gx (⟨w3.2.1,w3.2.2⟩:aO)) λca=>nQ (o7 (ax (ao (sL ca.2) λcG=>nQ (o7 (du (bk (ao (dE (λr=>[.list (r.1.map ak),.i .i64 r.2]) (λr=>(4,[.list (r.map ak)])) (rfl) λdk=> ?_) λw4=> ?_)))))))))))
      ·unfold fF;refine o7<|bh ?_ ?_
       ·refine bW (f:=ak) (rfl) λy1=>aJ (gy (bW (f:=ak) (by simp only [Bf,abX,IT,aaW,ab1,aa1,abK,ab5]) λy2=>aJ (gy (jF (by simp [eJ])))))
       ·exact ap
      ·refine bM rfl (ai (aT (aC ap)))
theorem B9 (isA:Bool):Sm (MV.i .i64) (nY (.b isA)) (iJ isA):=by
 unfold nY iJ;refine aE<|aG ?_ ?_
 ·exact ap
 ·exact ap
theorem yr (sA:ae):Sm (MV.i .i64) (oJ (bK sA)) (mz sA):=by unfold oJ mz;refine aJ (mc (ao (oV sA (4611686018427387904,4607182418800017408)) λrA=>ax ap))
theorem tA (a:aa):Sm MV.b (nm (ak a)) (kq a):=by
 unfold nm kq;refine aJ (gy ?_);refine ao (f:=λr=>[.b r]) ?_ λw=> ?_
 ·refine bh ?_ ?_
  ·refine bh ?_ ?_
   ·refine bh ?_ ?_
    ·exact ap
    ·exact ap
   ·exact ap
  ·exact ap
 ·refine ai (aE (aC ap))
theorem Q5 (t:aA):Sm MV.b (vv (iH t)) (rO t):=by
 unfold vv rO;refine aJ (ai (aT (aC (bk (ao (dE (λr=>[.i .i64 r]) (aaT (λr=>(2,[])) (λr=>(1,[.b r]))) (rfl) λst=> ?_) λw=> ?_)))))
 ·unfold qY;refine ai (ax (aC (bh ?_ ?_)))
  ·refine bW (f:=ak) (rfl) λy=>aJ (gy ?_);refine ao (f:=λr=>[.b r]) ?_ λw1=> ?_
   ·refine ao (tA y) λrA=>aE<|aG ?_ ?_
    ·exact ap
    ·refine bh ?_ ?_
     ·refine bW (f:=ak) (rfl) λy1=>aJ (gy ap)
     ·exact ap
   ·refine ai (aE (aC (aG ?_ ?_)))
    ·exact ap
    ·exact ap
  ·exact ap
 ·rcases w with p1|p2
  ·refine nI rfl (aC ap)
  ·refine nJ rfl (bM rfl (ai (aE (aC ap))))
theorem Ec (t:aA)(view:Int)(value:List UInt8):Sm (Qt ak) (pI (iH t) (.i .i64 view) (.s value)) (nd t view value):=by
 unfold pI nd;refine aJ (ai (aT (aC (ax (du (bk (ao (dE (λr=>[.list (r.1.map ak),.i .i64 r.2]) (λr=>(2,[.list (r.map ak)])) (rfl) λst=> ?_) λw=> ?_)))))))
 ·unfold mA;refine o7<|bh ?_ ?_
  ·refine bW (f:=ak) (rfl) λy=>aJ (gy ?_);refine ao (f:=λr=>[.b r]) ?_ λw1=> ?_
   ·refine bh ?_ ?_
    ·exact ap
    ·exact ap
   ·refine ai (aE (aC (ao (f:=(λr=>(0,[.list (r.map ak)]))) ?_ λw2=> ?_)))
    ·refine aG ?_ ?_
     ·refine bk (rl (([y]:List aa).length) (ew (jF (by simp))))
     ·exact ap
    ·refine bM rfl (ai (aT (aC ap)))
  ·exact ap
 ·refine bM rfl (ai (aT (aC ap)))
theorem Q6 (t:aA)(view:Int)(value:List UInt8):Sm (MV.i .i64) (vz (iH t) (.i .i64 view) (.s value)) (rP t view value):=by unfold vz rP;refine aJ (ai (aT (aC (ax (du (ao (Ec t view value) λrA=>aT (bk ap)))))))
theorem AA (sA:ae)(p:List aa):Sm MV.b (oT (bK sA) (.list (p.map ak))) (kK sA p):=by
 unfold oT kK;refine aJ (mc (aT ?_));refine ao (f:=λr=>[.b r]) ?_ λw=> ?_
 ·refine ao (qP sA) λrA=>aE<|aG ?_ ?_
  ·exact ap
  ·refine bk<|ao (yr sA) λbt=>ax<|aG ?_ ?_
   ·exact ap
   ·refine ao (Q5 (⟨p⟩:aA)) λca=>aE ap
 ·refine ai (aE (aC (aG ?_ ?_)))
  ·exact ap
  ·refine ao (f:=λr=>[.b r]) ?_ λw1=> ?_
   ·refine bk<|bW (f:=ak) (rfl) λy=>aJ (gy (ao (yq sA) λcG=>ax (bh ?_ ?_)))
    ·refine bW (f:=ak) (rfl) λy1=>aJ (gy (bW (f:=ak) (rfl) λy2=>aJ (gy (bk (ao (Q6 (⟨p⟩:aA) y1.View y2.Value) λiw=>ax ap)))))
    ·exact ap
   ·refine ai (aE (aC ap))
theorem yt (a:ah):Sm MV.b (iA (ck a)) (dY a):=by
 unfold iA dY;refine aJ (fR ?_);refine ao (f:=λr=>[.b r]) ?_ λw=> ?_
 ·refine bh ?_ ?_
  ·exact ap
  ·exact ap
 ·refine ai (aE (aC (aG ?_ ?_)))
  ·exact ap
  ·refine ao (f:=λr=>[.b r]) ?_ λw1=> ?_
   ·refine aG ?_ ?_
    ·refine bh ?_ ?_
     ·exact ap
     ·refine bh ?_ ?_
      ·exact ap
      ·exact ap
    ·exact ap
   ·refine ai (aE (aC (aG ?_ ?_)))
    ·exact ap
    ·refine ao (f:=λr=>[.b r]) ?_ λw2=> ?_
     ·refine aG ?_ ?_
      ·refine aG ?_ ?_
       ·exact ap
       ·exact ap
      ·exact ap
     ·refine ai (aE (aC (aG ?_ ?_)))
      ·exact ap
      ·refine ao (f:=λr=>[.b r]) ?_ λw3=> ?_
       ·refine bk<|bh ?_ ?_
        ·exact ap
        ·refine ao (AA a.S a.Proof) λrA=>aE<|aG ?_ ?_
         ·refine bW (f:=ak) (rfl) λy=>aJ (gy ap)
         ·exact ap
       ·refine ai (aE (aC ap))
theorem Ll (a:ae)(a1:Int)(a2:List Int):Sm (λr=> .dH [ck r.1,.i .i64 r.2]) (q9 (bK a) (.i .i64 a1) (.list (a2.map (MV.i .u8)))) (lq a a1 a2):=by
 unfold q9 lq;refine aJ (mc (ax (aT (ao (Eb a a1) λrA=>eG (ai (aJ (fR (ai (ax (aC (aG ?_ ?_)))))))))))
 ·exact ap
 ·refine ao (gx (⟨a2,0⟩:aO)) λbt=>nQ (o7 (ax (ao (gx bt.2) λca=>nQ (o7 (ax (ao (gx ca.2) λcG=>nQ (o7 (ax (ao (sL cG.2) λiw=> ?_)))))))));refine nQ (o7 (du (ao (Az iw.2) λlW=>nQ (o7 (aT ?_)))));refine ao (f:=λr=>[.b r]) ?_ λw=> ?_
  ·refine aG ?_ ?_
   ·exact ap
   ·refine ao (B9 (decide (ca.1=1))) λsj=>ax<|aG ?_ ?_
    ·exact ap
    ·refine bk<|bh ?_ ?_
     ·exact ap
     ·refine ao (yt (⟨rA.1.S,rA.1.Me,bt.1,decide (ca.1=1),cG.1,iw.1,lW.1,rA.1.cF⟩:ah)) λC4=>aE ap
  ·refine ai (aE (aC (aG ?_ ?_)))
   ·exact ap
   ·exact ap
theorem Ed (p:List aa):Sm (λr=> .dH (v7 r)) (uq (.list (p.map ak))) (nS p):=by
 unfold uq nS;refine aT (bk (bh ?_ ?_))
 ·exact ap
 ·refine bW (f:=ak) (rfl) λy=>aJ (gy (bW (f:=ak) (rfl) λy1=>aJ (gy ap)))
theorem TA (x:Int):Sm (MV.i .i64) (yf (.i .u64 x)) (xZ x):=by
 unfold yf xZ;refine ax<|ao (f:=(λr=>(0,[.i .u64 r.1,.i .i64 r.2]))) ?_ λw=> ?_
 ·refine bh ?_ ?_
  ·refine ew ap
  ·exact ap
 ·refine bM rfl (mc (ao (f:=(λr=>(0,[.i .u64 r.1,.i .i64 r.2]))) ?_ λw1=> ?_))
  ·refine bh ?_ ?_
   ·refine ew ap
   ·exact ap
  ·refine bM rfl (mc (ao (f:=(λr=>(0,[.i .u64 r.1,.i .i64 r.2]))) ?_ λw2=> ?_))
   ·refine bh ?_ ?_
    ·refine ew ap
    ·exact ap
   ·refine bM rfl (mc (ew ap))
theorem TB (n:Int):Sm (MV.i .i64) (yg (.i .u64 n)) (ue n):=by unfold yg ue;refine ax<|ao (TA n) λrA=>ax (U9 ap)
theorem G9 (sA:List Int):Sm (afP (MV.i .u8)) (oe (.list (sA.map (MV.i .u8)))) (oc sA):=by unfold oe oc;refine aT (bk (bk (Va (by simp only [sh]) ap)))
theorem MN (b:List Int)(n:Int):Sm (WJ (MV.i .u8)) (wU (.list (b.map (MV.i .u8))) (.i .u64 n)) (tu b n):=by
 unfold wU tu;refine aT (ax (ao (TB n) λrA=>ax (ao (G9 b) λbt=> ?_)));refine Tp (bM (xV (rfl:_=aca (MV.i .u8) bt) λ_=>rfl) (bk (rl (([No .u8 (No .i64 (rA-1))]:List Int).length) (ew (ao (dE (λr=>[.list (r.1.map (MV.i .u8)),.i .i64 r.2]) (λr=>(2,[.list (r.map (MV.i .u8))])) (by simp) λst=> ?_) λw=> ?_)))))
 ·unfold rQ;refine o7<|bh ?_ ?_
  ·refine ew (bk (rl (([No .u8 (Int.fdiv n (2^min (cM (No .i64 (8 *st.2))) (acb .u64)))]:List Int).length) (ew (jF (by simp)))))
  ·exact ap
 ·refine bM rfl (ai (aT (aC ap)))
theorem tC (b:List Int)(n:Int):Sm (WJ (MV.i .u8)) (nn (.list (b.map (MV.i .u8))) (.i .i64 n)) (lr b n):=by unfold nn lr;refine aT (ax (ew (ew (ao (MN b (EH .u64 (No .u64 ((No .u64 n) *2^min (cM 1) (acb .u64))) (No .u64 (Int.fdiv n (2^min (cM 63) (acb .i64)))))) λrA=>qp ap))))
theorem J6 (b:List Int)(sA:List UInt8):Sm (WJ (MV.i .u8)) (ur (.list (b.map (MV.i .u8))) (.s sA)) (qG b sA):=by unfold ur qG;refine aT (du (ao (MN b (No .u64 (sA.length:Int))) λrA=>qp (bk (xU (n:=(DB sA).length) (by simp only [Bf,sh,AT,AI,BY,OF,aaf,aaU]) (ew ?_)))));exact jF (by simp)
theorem Lm (a:ah):Sm (Qt (MV.i .u8)) (ra (ck a)) (nT a):=by
 unfold ra nT;refine aJ (fR (ao (tC ([]:List Int) a.View) λrA=>qp (ao (B9 a.Has) λbt=>ax (ao (tC rA bt) λca=>qp (ao (tC ca a.At) λcG=>qp (bk (ao (J6 cG a.Value) λiw=> ?_)))))));refine qp<|ao (tC iw (a.Proof.length:Int)) λlW=>qp (bk (ao (dE (λr=>[.list (r.1.map (MV.i .u8)),.i .i64 r.2]) (λr=>(2,[.list (r.map (MV.i .u8))])) (rfl) λst=> ?_) λw=> ?_))
 ·unfold od;refine o7<|bh ?_ ?_
  ·refine bW (f:=ak) (rfl) λy=>aJ (gy (ao (tC st.1 y.By) λsj=>qp ap))
  ·exact ap
 ·refine bM rfl (ai (aT (aC (ao (Ed a.Proof) λC4=>eG (Ay (ao (f:=(λr=>(0,[.list (r.map (MV.i .u8))]))) ?_ λw1=> ?_))))))
  ·refine aG ?_ ?_
   ·refine ao (tC w C4.1) λrA8=>qp<|ao (J6 rA8 C4.2.1) λrA9=>qp ap
   ·exact ap
  ·refine bM rfl (ai (aT (aC ap)))
theorem OB (sA:ae)(i:Int)(n:ar):Sm aZ (s6 (bK sA) (.i .i64 i) (aZ n)) (ng sA i n):=by unfold s6 ng;refine aJ (mc (ax (aJ (aK (ao (Lm n.A) λrA=>aT (ao (Ll sA i rA) λbt=>eG (ai (aJ (fR (ai (ax (aC (ao (Gu sA) λca=>eG (ai (aJ (dK (ai (ax (aC ?_)))))))))))))))))));exact ap
theorem iM (c:aj)(i:Int)(bad:Bool):Sm MV.b (fg (eZ c) (.i .i64 i) (.b bad)) (dx c i bad):=by
 unfold fg dx;refine aJ (bE (ax (aE ?_)));refine ao (f:=λr=>[.b r]) ?_ λw=> ?_
 ·refine bh ?_ ?_
  ·refine bk<|bh ?_ ?_
   ·refine bW (f:=MV.b) (rfl) λy=>aE ap
   ·exact ap
  ·exact ap
 ·refine ai (aE (aC ap))
theorem zb (s1:List aa)(s2:List aa):Sm MV.b (jk (.list (s1.map ak)) (.list (s2.map ak))) (ga s1 s2):=by
 unfold jk ga;refine aT (aT (bk (bk (aG ?_ ?_))))
 ·exact ap
 ·refine bk<|ao (dE (λr=>[.i .i64 r]) (aaT (λr=>(2,[])) (λr=>(1,[.b r]))) (rfl) λst=> ?_) λw=> ?_
  ·unfold fa;refine ai (ax (aC (bh ?_ ?_)))
   ·refine bW (f:=ak) (rfl) λy=>aJ (gy (bW (f:=ak) (rfl) λy1=>aJ (gy (aG ?_ ?_))))
    ·exact ap
    ·exact ap
   ·exact ap
  ·rcases w with p1|p2
   ·refine nI rfl (aC ap)
   ·refine nJ rfl (bM rfl (ai (aE (aC ap))))
theorem TD (a:List aa)(b:List aa):Sm MV.b (yh (.list (a.map ak)) (.list (b.map ak))) (uf a b):=by unfold yh uf;refine aT (aT (ao (zb a b) λrA=>aE ap))
theorem Ln (x:ab)(y:ab):Sm MV.b (rb (aH x) (aH y)) (jY x y):=by
 unfold rb jY;refine aJ (fj (aJ (fj ?_)));refine ao (f:=λr=>[.b r]) ?_ λw=> ?_
 ·refine bh ?_ ?_
  ·refine bh ?_ ?_
   ·refine bh ?_ ?_
    ·refine bh ?_ ?_
     ·refine bh ?_ ?_
      ·refine ao (TD x.Proof y.Proof) λrA=>aE ap
      ·exact ap
     ·exact ap
    ·exact ap
   ·exact ap
  ·exact ap
 ·refine ai (aE (aC ap))
theorem kA (s1:List ab)(s2:List ab)(eq:ab->ab->Option Bool){Qk:Nat}{Di:List MV}(ary:gv Qk=false)(jN: ∀(u0:ab)(u1:ab),Sm MV.b (cW Qk ([aH u0,aH u1]++Di)) (eq u0 u1)):Sm MV.b (cb (.list (s1.map aH)) (.list (s2.map aH)) (.func Qk Di)) (bN s1 s2 eq):=by
 unfold cb bN;refine aT (aT (xT (bk (bk (aG ?_ ?_)))))
 ·exact ap
 ·refine bk<|ao (dE (λr=>[.i .i64 r]) (aaT (λr=>(2,[])) (λr=>(1,[.b r]))) (rfl) λst=> ?_) λw=> ?_
  ·unfold bp;refine ai (ax (aC (bh ?_ ?_)))
   ·refine bW (f:=aH) (rfl) λy=>aJ (fj (bW (f:=aH) (rfl) λy1=> ?_));refine aJ (fj (Aa (bM (by rw [ary];rfl) ?_)));refine ao (jN y y1) λrA=>aE<|aG ?_ ?_
    ·exact ap
    ·exact ap
   ·exact ap
  ·rcases w with p1|p2
   ·refine nI rfl (aC ap)
   ·refine nJ rfl (bM rfl (ai (aE (aC ap))))
theorem Q7 (a:List ab)(b:List ab):Sm MV.b (vA (.list (a.map aH)) (.list (b.map aH))) (mB a b):=by unfold vA mB;refine aT (aT (ao (kA a b jY (Qk:=176) (Di:=[]) rfl (λu2 u3=>Sm.at (gK _ _) (Ln u2 u3))) λrA=>aE ap))
theorem sM (m:al)(c:ab):Sm MV.b (kf (aR m) (.rp [.i .i64 c.By,.i .i64 c.je,.b c.Has,.i .i64 c.View,.s c.Value,.list (c.Proof.map ak)])) (cD m c):=by
 unfold kf cD;refine aJ (cR (Qu (fj ?_)));refine ao (f:=λr=>[.b r]) ?_ λw=> ?_
 ·refine bh ?_ ?_
  ·refine ao (Q7 ([m.R]:List ab) ([c]:List ab)) λrA=>aE ap
  ·exact ap
 ·refine ai (aE (aC ap))
theorem Ee (m:al)(c:aa):Sm MV.b (lR (aR m) (.rp [.i .i64 c.By,.i .i64 c.View,.s c.Value])) (hU m c):=by
 unfold lR hU;refine aJ (cR (Qu (gy ?_)));refine ao (f:=λr=>[.b r]) ?_ λw=> ?_
 ·refine bh ?_ ?_
  ·exact ap
  ·exact ap
 ·refine ai (aE (aC ap))
theorem xd (sA:List al)(f:al->Option Bool){Bm:Nat}{rZ:List MV}(H5:gv Bm=false)(ju: ∀(u0:al),Sm MV.b (et Bm ([aR u0]++rZ)) (f u0)):Sm (MV.i .i64) (ik (.list (sA.map aR)) (.func Bm rZ)) (fb sA f):=by
 unfold ik fb;refine aT (xT (bk (ao (dE (λr=>[.i .i64 r]) (aaT (λr=>(2,[])) (λr=>(1,[.i .i64 r]))) (rfl) λst=> ?_) λw=> ?_)))
 ·unfold cI;refine ai (ax (aC (bh ?_ ?_)))
  ·refine bW (f:=aR) (rfl) λy=> ?_;refine aJ (cR (Aa (bM (by rw [H5];rfl) ?_)));refine ao (ju y) λrA=>aE<|aG ?_ ?_
   ·exact ap
   ·exact ap
  ·exact ap
 ·rcases w with p1|p2
  ·refine nI rfl (aC ap)
  ·refine nJ rfl (bM rfl (ai (ax (aC ap))))
theorem ja (sA:List al)(f:al->Option Bool){Bm:Nat}{rZ:List MV}(H5:gv Bm=false)(ju: ∀(u0:al),Sm MV.b (et Bm ([aR u0]++rZ)) (f u0)):Sm MV.b (dj (.list (sA.map aR)) (.func Bm rZ)) (bD sA f):=by unfold dj bD;refine aT (xT (ao (xd sA f H5 ju) λrA=>ax ap))
theorem Ha (c:aj)(a:aa):Sm MV.b (oh (eZ c) (ak a)) (jv c a):=by
 unfold oh jv;refine aJ (bE (aJ (gy ?_)));refine ao (f:=λr=>[.b r]) ?_ λw=> ?_
 ·refine ao (iM c a.By true) λrA=>aE<|aG ?_ ?_
  ·exact ap
  ·refine ao (ja c.aV (λu=>hU u a) (Bm:=179) (rZ:=[.rp [.i .i64 a.By,.i .i64 a.View,.s a.Value]]) rfl (λu1=>Sm.at (lJ _ _) (Ee u1 a))) λbt=> ?_;refine aE ap
 ·refine ai (aE (aC ap))
theorem BF (a:aa)(c:aj):Sm MV.b (kg (ak a) (.rp [.i .i64 c.S.F,.i .i64 c.S.T,.list (c.bY.map MV.b),.list (c.Want.map MV.s),.list (c.N.map aZ),.list (c.aV.map aR)])) (fL a c):=by unfold kg fL;refine aJ (gy (Qu (bE (ao (Ha c a) λrA=>aE ap))))
theorem uR (sA:List aa)(f:aa->Option Bool){Bm:Nat}{rZ:List MV}(H5:gv Bm=false)(iC: ∀(u0:aa),Sm MV.b (fq Bm ([ak u0]++rZ)) (f u0)):Sm (MV.i .i64) (fV (.list (sA.map ak)) (.func Bm rZ)) (ei sA f):=by
 unfold fV ei;refine aT (xT (bk (ao (dE (λr=>[.i .i64 r]) (aaT (λr=>(2,[])) (λr=>(1,[.i .i64 r]))) (rfl) λst=> ?_) λw=> ?_)))
 ·unfold cn;refine ai (ax (aC (bh ?_ ?_)))
  ·refine bW (f:=ak) (rfl) λy=> ?_;refine aJ (gy (Aa (bM (by rw [H5];rfl) ?_)));refine ao (iC y) λrA=>aE<|aG ?_ ?_
   ·exact ap
   ·exact ap
  ·exact ap
 ·rcases w with p1|p2
  ·refine nI rfl (aC ap)
  ·refine nJ rfl (bM rfl (ai (ax (aC ap))))
theorem sw (sA:List aa)(f:aa->Option Bool){Bm:Nat}{rZ:List MV}(H5:gv Bm=false)(iC: ∀(u0:aa),Sm MV.b (fq Bm ([ak u0]++rZ)) (f u0)):Sm MV.b (eL (.list (sA.map ak)) (.func Bm rZ)) (cc sA f):=by unfold eL cc;refine aT (xT (ao (uR sA f H5 iC) λrA=>ax ap))
theorem pY (c:aj)(lA:List aa):Sm MV.b (il (eZ c) (.list (lA.map ak))) (dG c lA):=by unfold il dG;refine aJ (bE (aT (ao (sw lA (λu=>fL u c) (Bm:=147) (rZ:=[.rp [.i .i64 c.S.F,.i .i64 c.S.T,.list (c.bY.map MV.b),.list (c.Want.map MV.s),.list (c.N.map aZ),.list (c.aV.map aR)]]) rfl (λu1=>Sm.at (kw _ _) (BF u1 c))) λrA=> ?_)));refine aE ap
theorem Ef (c:aj)(rA:ab):Sm MV.b (lS (eZ c) (aH rA)) (fG c rA):=by
 unfold lS fG;refine aJ (bE (aJ (fj ?_)));refine ao (f:=λr=>[.b r]) ?_ λw=> ?_
 ·refine ao (iM c rA.By true) λbt=>aE<|aG ?_ ?_
  ·refine ao (pY c rA.Proof) λca=>aE<|aG ?_ ?_
   ·exact ap
   ·refine ao (ja c.aV (λu=>cD u rA) (Bm:=143) (rZ:=[.rp [.i .i64 rA.By,.i .i64 rA.je,.b rA.Has,.i .i64 rA.View,.s rA.Value,.list (rA.Proof.map ak)]]) rfl (λu1=>Sm.at (fK _ _) (sM u1 rA))) λcG=> ?_;refine aE ap
  ·refine ao (ja c.aV (λu2=>cD u2 rA) (Bm:=143) (rZ:=[.rp [.i .i64 rA.By,.i .i64 rA.je,.b rA.Has,.i .i64 rA.View,.s rA.Value,.list (rA.Proof.map ak)]]) rfl (λu3=>Sm.at (fK _ _) (sM u3 rA))) λiw=> ?_;refine aE ap
 ·refine ai (aE (aC ap))
theorem OC (rA:ab)(c:aj):Sm MV.b (s8 (aH rA) (.rp [.i .i64 c.S.F,.i .i64 c.S.T,.list (c.bY.map MV.b),.list (c.Want.map MV.s),.list (c.N.map aZ),.list (c.aV.map aR)])) (nh rA c):=by unfold s8 nh;refine aJ (fj (Qu (bE (ao (Ef c rA) λbt=>aE ap))))
theorem uS (sA:List ab)(f:ab->Option Bool){Bm:Nat}{rZ:List MV}(H5:gv Bm=false)(iD: ∀(u0:ab),Sm MV.b (ft Bm ([aH u0]++rZ)) (f u0)):Sm (MV.i .i64) (fW (.list (sA.map aH)) (.func Bm rZ)) (ej sA f):=by
 unfold fW ej;refine aT (xT (bk (ao (dE (λr=>[.i .i64 r]) (aaT (λr=>(2,[])) (λr=>(1,[.i .i64 r]))) (rfl) λst=> ?_) λw=> ?_)))
 ·unfold cq;refine ai (ax (aC (bh ?_ ?_)))
  ·refine bW (f:=aH) (rfl) λy=> ?_;refine aJ (fj (Aa (bM (by rw [H5];rfl) ?_)));refine ao (iD y) λrA=>aE<|aG ?_ ?_
   ·exact ap
   ·exact ap
  ·exact ap
 ·rcases w with p1|p2
  ·refine nI rfl (aC ap)
  ·refine nJ rfl (bM rfl (ai (ax (aC ap))))
theorem sB (sA:List ab)(f:ab->Option Bool){Bm:Nat}{rZ:List MV}(H5:gv Bm=false)(iD: ∀(u0:ab),Sm MV.b (ft Bm ([aH u0]++rZ)) (f u0)):Sm MV.b (eM (.list (sA.map aH)) (.func Bm rZ)) (cf sA f):=by unfold eM cf;refine aT (xT (ao (uS sA f H5 iD) λrA=>ax ap))
theorem TE (c:aj)(m:al):Sm MV.b (yj (eZ c) (aR m)) (mC c m):=by
 unfold yj mC;refine aJ (bE (aJ (cR (bh ?_ ?_))))
 ·refine ao (f:=λr=>[.b r]) ?_ λw=> ?_
  ·refine ao (iM c m.eE true) λrA=>aE<|aG ?_ ?_
   ·refine ao (sB m.fN (λu=>nh u c) (Bm:=79) (rZ:=[.rp [.i .i64 c.S.F,.i .i64 c.S.T,.list (c.bY.map MV.b),.list (c.Want.map MV.s),.list (c.N.map aZ),.list (c.aV.map aR)]]) rfl (λu1=>Sm.at (np _ _) (OC u1 c))) λbt=> ?_;refine aE ap
   ·exact ap
  ·refine ai (aE (aC ap))
 ·refine bh ?_ ?_
  ·refine ao (iM c m.dv.By true) λca=>aE ap
  ·refine bh ?_ ?_
   ·refine ao (f:=λr=>[.b r]) ?_ λw1=> ?_
    ·refine ao (iM c m.eE true) λcG=>aE<|aG ?_ ?_
     ·refine ao (pY c m.Proof) λiw=>aE ap
     ·exact ap
    ·refine ai (aE (aC ap))
   ·refine bh ?_ ?_
    ·refine ao (f:=λr=>[.b r]) ?_ λw2=> ?_
     ·refine ao (iM c m.R.By true) λlW=>aE<|aG ?_ ?_
      ·refine ao (pY c m.R.Proof) λsj=>aE ap
      ·exact ap
     ·refine ai (aE (aC ap))
    ·refine bh ?_ ?_
     ·refine ao (iM c m.eE true) λC4=>aE ap
     ·exact ap
theorem uA (sA:List al):Sm (afP aR) (eU (.list (sA.map aR))) (gw sA):=by unfold eU gw;refine aT (bk (bk (Va (by simp only [sh]) ap)))
theorem vI (sA:ae)(view:Int):Sm (MV.i .i64) (mI (bK sA) (.i .i64 view)) (eC sA view):=by unfold mI eC;refine aJ (mc (ax (ao (yq sA) λrA=>ax (U9 ap))))
theorem Ca (rA:ab):Sm (MV.i .i64) (n4 (aH rA)) (lu rA):=by
 unfold n4 lu;refine aJ (fj (ao (Ed rA.Proof) λbt=>eG (Ay (aG ?_ ?_))))
 ·exact ap
 ·exact ap
theorem TF (sA:ae):Sm (MV.i .i64) (yl (bK sA)) (ug sA):=by unfold yl ug;refine aJ (mc (ao (oV sA (4607182418800017408,4607182418800017408)) λrA=>ax ap))
theorem Eg (a:ae)(a1:List ab):Sm (λr=> .dH [.s r.1,.b r.2]) (pN (bK a) (.list (a1.map aH))) (ni a a1):=by
 unfold pN ni;refine aJ (mc (aT (bk (ao (dE (λr=>[.i .i64 r.1,.s r.2.1,.i .i64 r.2.2]) (λr=>(2,[.i .i64 r.1,.s r.2])) (rfl) λst=> ?_) λw=> ?_))))
 ·unfold mD;refine ai (ax (ai (du (ai (ax (aC (bh ?_ ?_)))))))
  ·refine bW (f:=aH) (rfl) λy=>aJ (fj (ao (Ca y) λrA=>ax (ao (f:=(λr=>(0,[.i .i64 r.1,.s r.2]))) ?_ λw1=> ?_)))
   ·refine bh ?_ ?_
    ·refine bW (f:=ak) (rfl) λy1=>aJ (gy ap)
    ·exact ap
   ·refine bM rfl (ai (ax (ai (du (aC ap)))))
  ·exact ap
 ·refine bM rfl (ai (ax (ai (du (aC (bk (ao (dE (λr=>[.list r.1,.i .i64 r.2]) (λr=>(4,[.list r])) (rfl) λdk=> ?_) λw2=> ?_)))))))
  ·unfold pw;refine o7<|bh ?_ ?_
   ·refine bW (f:=aH) (rfl) λy2=>aJ (fj ?_);refine ao (f:=λr=>[.b r]) ?_ λw3=> ?_
    ·refine aG ?_ ?_
     ·exact ap
     ·exact ap
    ·refine ai (aE (aC (ao (f:=(λr=>(0,[.list r]))) ?_ λw4=> ?_)))
     ·refine aG ?_ ?_
      ·exact ap
      ·exact ap
     ·refine bM rfl (ai (aT (aC ap)))
   ·exact ap
  ·refine bM rfl (ai (aT (aC (ao (aax (e:=id) (f:=(aaT (λr=>(6,[])) (λr=>(1,[.s r.1,.b r.2])))) (List.map_id _).symm ?_ λm29=> ?_) λw5=> ?_))))
   ·exact ap
   ·unfold pz;refine ahH λkey n=>ao (TF a) λbt=>ax<|bh ?_ ?_
    ·exact ap
    ·exact jF rfl
   ·rcases w5 with p5|p6
    ·refine nI rfl (aC ap)
    ·refine nJ rfl (bM rfl (ai (du (ai (aE (aC ap))))))
theorem MO (sA:ae):Sm (MV.i .i64) (wY (bK sA)) (tw sA):=by unfold wY tw;refine aJ (mc (ao (oV sA (4611686018427387904,4611686018427387904)) λrA=>ax ap))
theorem J7 (a:ae)(a1:ab):Sm MV.b (uv (bK a) (aH a1)) (jZ a a1):=by
 unfold uv jZ;refine aJ (mc (aJ (fj ?_)));refine ao (f:=λr=>[.b r]) ?_ λw=> ?_
 ·refine ao (qP a) λrA=>aE<|aG ?_ ?_
  ·exact ap
  ·refine bh ?_ ?_
   ·exact ap
   ·refine ao (yq a) λbt=>ax<|bh ?_ ?_
    ·exact ap
    ·refine bh ?_ ?_
     ·exact ap
     ·exact ap
 ·refine ai (aE (aC (aG ?_ ?_)))
  ·exact ap
  ·refine ao (f:=λr=>[.b r]) ?_ λw1=> ?_
   ·refine aG ?_ ?_
    ·refine aG ?_ ?_
     ·exact ap
     ·exact ap
    ·exact ap
   ·refine ai (aE (aC (aG ?_ ?_)))
    ·exact ap
    ·refine ao (f:=λr=>[.b r]) ?_ λw2=> ?_
     ·refine aG ?_ ?_
      ·refine bh ?_ ?_
       ·exact ap
       ·refine bh ?_ ?_
        ·exact ap
        ·exact ap
      ·exact ap
     ·refine ai (aE (aC (aG ?_ ?_)))
      ·exact ap
      ·refine ao (f:=λr=>[.b r]) ?_ λw3=> ?_
       ·refine bk<|bh ?_ ?_
        ·exact ap
        ·refine ao (AA a a1.Proof) λca=>aE<|aG ?_ ?_
         ·refine ao (Ca a1) λcG=>ax ap
         ·exact ap
       ·refine ai (aE (aC ap))
theorem OD (sA:ae)(view:Int)(lA:List ab):Sm MV.b (s9 (bK sA) (.i .i64 view) (.list (lA.map aH))) (pB sA view lA):=by
 unfold s9 pB;refine aJ (mc (ax (aT ?_)));refine ao (f:=λr=>[.b r]) ?_ λw=> ?_
 ·refine ao (qP sA) λrA=>aE<|aG ?_ ?_
  ·exact ap
  ·refine bk<|ao (MO sA) λbt=>ax ap
 ·refine ai (aE (aC (aG ?_ ?_)))
  ·exact ap
  ·refine bk<|ao (dE (λr=>[.i .i64 r.1,.i .i64 r.2]) (aaT (λr=>(2,[])) (λr=>(1,[.b r]))) (rfl) λst=> ?_) λw1=> ?_
   ·unfold pA;refine mc<|bh ?_ ?_
    ·refine bW (f:=aH) (rfl) λy=>aJ (fj ?_);refine ao (f:=λr=>[.b r]) ?_ λw2=> ?_
     ·refine ao (J7 sA y) λca=>aE<|aG ?_ ?_
      ·exact ap
      ·refine aG ?_ ?_
       ·exact ap
       ·exact ap
     ·refine ai (aE (aC (aG ?_ ?_)))
      ·exact ap
      ·exact ap
    ·exact ap
   ·rcases w1 with p1|p2
    ·refine nI rfl (aC ap)
    ·refine nJ rfl (bM rfl (ai (aE (aC ap))))
theorem J8 (sA:ae)(view:Int)(lA:List ab)(value:List UInt8):Sm MV.b (pO (bK sA) (.i .i64 view) (.list (lA.map aH)) (.s value)) (fH sA view lA value):=by
 unfold pO fH;refine aJ (mc (ax (aT (du (ao (OD sA view lA) λrA=>aE (aG ?_ ?_))))))
 ·exact ap
 ·refine ao (Eg sA lA) λbt=>eG (ai (du (ai (aE (aC ?_)))));refine ao (f:=λr=>[.b r]) ?_ λw=> ?_
  ·refine aG ?_ ?_
   ·exact ap
   ·exact ap
  ·refine ai (aE (aC ap))
theorem Ft (a:ah)(view:Int)(value:List UInt8)(kQ:List ab):Sm (λr=> .dH [ck r.1,ak r.2.1,.b r.2.2]) (nq (ck a) (.i .i64 view) (.s value) (.list (kQ.map aH))) (fc a view value kQ):=by
 unfold nq fc;refine aJ (fR (ax (du (aT ?_))));refine ao (f:=λr=>[.b r]) ?_ λw=> ?_
 ·refine aG ?_ ?_
  ·exact ap
  ·refine aG ?_ ?_
   ·refine bh ?_ ?_
    ·exact ap
    ·exact ap
   ·exact ap
 ·refine ai (aE (aC (aG ?_ ?_)))
  ·exact ap
  ·refine ao (f:=λr=>[.b r]) ?_ λw1=> ?_
   ·refine bh ?_ ?_
    ·refine bk ap
    ·exact ap
   ·refine ai (aE (aC (ao (f:=(aaT (λr=>(1,[.i .i64 r.1,.i .i64 r.2.1,.i .i64 r.2.2.1,.i .i64 r.2.2.2.1,.b r.2.2.2.2.1,.i .i64 r.2.2.2.2.2.1,.s r.2.2.2.2.2.2.1,.list (r.2.2.2.2.2.2.2.1.map ak),.list (r.2.2.2.2.2.2.2.2.1.map ak),.i .i64 r.2.2.2.2.2.2.2.2.2.1,.i .i64 r.2.2.2.2.2.2.2.2.2.2.1,.s r.2.2.2.2.2.2.2.2.2.2.2.1,.b r.2.2.2.2.2.2.2.2.2.2.2.2])) (λr=>(0,[.i .i64 r.1,.i .i64 r.2.1,.i .i64 r.2.2.1,.i .i64 r.2.2.2.1,.b r.2.2.2.2.1,.i .i64 r.2.2.2.2.2.1,.s r.2.2.2.2.2.2.1,.list (r.2.2.2.2.2.2.2.1.map ak),.list (r.2.2.2.2.2.2.2.2.1.map ak),.i .i64 r.2.2.2.2.2.2.2.2.2.1,.i .i64 r.2.2.2.2.2.2.2.2.2.2.1,.s r.2.2.2.2.2.2.2.2.2.2.2])))) ?_ λw2=> ?_)))
    ·refine aG ?_ ?_
     ·exact ap
     ·refine ao (J8 a.S view kQ value) λrA=>aE<|aG ?_ ?_
      ·exact ap
      ·exact ap
    ·rcases w2 with p1|p2
     ·refine nI rfl (ai (ax (ai (ax (ai (ax (ai (ax (ai (aE (ai (ax (ai (du (ai (aT (ai (aT (ai (ax (Ay ap)))))))))))))))))))))
     ·refine nJ rfl (bM rfl (ai (ax (ai (ax (ai (ax (ai (ax (ai (aE (ai (ax (ai (du (ai (aT (ai (aT (gy ap))))))))))))))))))))
theorem Eh (x:Int):Sm MV.b (pP (.i .i64 x)) (nj x):=by unfold pP nj;refine ax ap
theorem AB (x:Int)(y:Int):Sm (MV.i .i64) (mJ (.i .i64 x) (.i .i64 y)) (ku x y):=by
 unfold mJ ku;refine ax (ax (ao (Eh x) λrA=>aE (ao (Eh y) λbt=>aE (aG ?_ ?_))))
 ·refine aG ?_ ?_
  ·exact ap
  ·exact ap
 ·refine aG ?_ ?_
  ·exact ap
  ·refine bh ?_ ?_
   ·exact ap
   ·refine bh ?_ ?_
    ·exact ap
    ·exact ap
theorem Q8 (x:aa)(qj:Int):Sm (MV.i .i64) (vD (ak x) (.i .i64 qj)) (kL x qj):=by unfold vD kL;refine aJ (gy (ax (ao (AB x.By qj) λrA=>ax ap)))
theorem n5 (x:List aa)(target:Int)(cmp:aa->Int->Option Int){Qk:Nat}{Di:List MV}(Q9:gv Qk=false)(gz: ∀(u0:aa)(u1:Int),Sm (MV.i .i64) (cY Qk ([ak u0,.i .i64 u1]++Di)) (cmp u0 u1)):Sm (λr=> .dH [.i .i64 r.1,.b r.2]) (dq (.list (x.map ak)) (.i .i64 target) (.func Qk Di)) (ct x target cmp):=by
 unfold dq ct;refine aT (ax (xT (bk (ao (dE (λr=>[.i .i64 r.1,.i .i64 r.2]) (λr=>(2,[.i .i64 r])) (rfl) λst=> ?_) λw=> ?_))))
 ·unfold ia;refine mc<|bh ?_ ?_
  ·refine ew<|bW (f:=ak) (rfl) λy=> ?_;refine aJ (gy (Aa (bM (by rw [Q9];rfl) ?_)));refine ao (gz y target) λrA=>ax<|ao (f:=(λr=>(0,[.i .i64 r.1,.i .i64 r.2]))) ?_ λw1=> ?_
   ·refine bh ?_ ?_
    ·exact ap
    ·exact ap
   ·refine bM rfl (mc ap)
  ·exact ap
 ·refine bM rfl (ai (ax (aC ?_)));refine ao (f:=λr=>[.i .i64 r.1,.b r.2]) ?_ λw2=> ?_
  ·refine bh ?_ ?_
   ·refine bW (f:=ak) (rfl) λy1=> ?_;refine aJ (gy (Aa (bM (by rw [Q9];rfl) ?_)));refine ao (gz y1 target) λbt=>ax ap
   ·exact ap
  ·refine ai (ax (ai (aE (aC ap))))
theorem Bp (t:aA)(a:aa):Sm (λr=> .dH [iH r.1,.b r.2]) (qN (iH t) (ak a)) (iS t a):=by
 unfold qN iS;refine aJ (ai (aT (aC (aJ (gy (ao (tA a) λrA=>aE (aG ?_ ?_)))))))
 ·exact ap
 ·refine ao (n5 t.L a.By kL (Qk:=155) (Di:=[]) rfl (λu2 u3=>Sm.at (j8 _ _) (Q8 u2 u3))) λbt=>eG (ai (ax (ai (aE (aC ?_)))));refine ao (f:=λr=>[.b r]) ?_ λw=> ?_
  ·refine aG ?_ ?_
   ·refine bW (f:=ak) (rfl) λy=>aJ (gy ap)
   ·exact ap
  ·refine ai (aE (aC (aG ?_ ?_)))
   ·exact ap
   ·refine ao (xW (size:=3) (f:=ak) (λ_=>rfl) t.L) λca=>qp<|ao (f:=(λr=>(0,[.list (r.map ak)]))) ?_ λw1=> ?_
    ·refine aG ?_ ?_
     ·refine bW (f:=ak) (rfl) λy1=>aJ (gy (jF (by simp)))
     ·refine ao (Qx (f:=ak) ca bt.1 ([a]:List aa)) λcG=>qp ap
    ·refine bM rfl (ai (aT (aC ap)))
theorem yu (a:aA)(a1:Int):Sm (λr=> .dH (v7 r)) (oM (iH a) (.i .i64 a1)) (kR a a1):=by
 unfold oM kR;refine aJ (ai (aT (aC (ax (bk (ao (dE (λr=>[.list r.1,.i .i64 r.2]) (λr=>(2,[.list r])) (rfl) λst=> ?_) λw=> ?_))))))
 ·unfold s5;refine o7<|bh ?_ ?_
  ·refine bW (f:=ak) (rfl) λy=>aJ (gy (ew ap))
  ·exact ap
 ·refine bM rfl (ai (aT (aC (bk (ao (dE (λr=>[.i .i64 r.1,.s r.2.1,.b r.2.2.1,.i .i64 r.2.2.2]) (λr=>(4,(v7 r))) (rfl) λdk=> ?_) λw1=> ?_)))))
  ·unfold pC;refine ai (ax (ai (du (ai (aE (ai (ax (aC (bh ?_ ?_)))))))))
   ·refine bW (f:=ak) (rfl) λy1=>aJ (gy ?_);refine ao (f:=λr=>[.b r]) ?_ λw2=> ?_
    ·refine bh ?_ ?_
     ·refine bh ?_ ?_
      ·exact ap
      ·exact ap
     ·exact ap
    ·refine ai (aE (aC (ao (f:=(λr=>(0,(v7 r)))) ?_ λw3=> ?_)))
     ·refine aG ?_ ?_
      ·exact ap
      ·exact ap
     ·refine bM rfl (Ay ap)
   ·exact ap
  ·refine bM rfl (Ay (aG ?_ ?_))
   ·exact ap
   ·exact ap
theorem TG (sA:ae)(t:aA):Sm (λr=> .dH [.list (r.1.map ak),.b r.2]) (ym (bK sA) (iH t)) (uh sA t):=by
 unfold ym uh;refine aJ (mc (aJ (ai (aT (aC (ao (yr sA) λrA=>ax (ao (yu t rA) λbt=>eG (Ay (aG ?_ ?_)))))))))
 ·exact ap
 ·refine ao (Ec t bt.1 bt.2.1) λca=>aT<|ao (yr sA) λcG=>ax (bk (ew (jF (by first|(simp;done)|simp only [ak,bK,iH,Gc,I6,DE,IT,aaW,ab1,aa1,abK,ab5]))))
theorem Lo (a:ah)(a1:aa):Sm (λr=> .dH [ck r.1,.list (r.2.1.map ak),.b r.2.2]) (rc (ck a) (ak a1)) (lv a a1):=by
 unfold rc lv;refine aJ (fR (aJ (gy ?_)));refine ao (f:=λr=>[.b r]) ?_ λw=> ?_
 ·refine ao (yq a.S) λrA=>ax<|bh ?_ ?_
  ·exact ap
  ·exact ap
 ·refine ai (aE (aC (aG ?_ ?_)))
  ·exact ap
  ·refine ao (Bp a.cF a1) λbt=>eG (ai (aJ (ai (aT (aC (ai (aE (aC (ao (TG a.S bt.1) λca=>eG (ai (aT (ai (aE (aC (ao (Ed a.Proof) λcG=>eG (Ay ?_))))))))))))))));refine ao (f:=λr=>[.b r]) ?_ λw1=> ?_
   ·refine ao (tA a1) λiw=>aE<|aG ?_ ?_
    ·exact ap
    ·refine aG ?_ ?_
     ·exact ap
     ·exact ap
   ·refine ai (aE (aC (aG ?_ ?_)))
    ·exact ap
    ·exact ap
theorem Xf (sA:ae):Sm (MV.i .i64) (Bn (bK sA)) (wQ sA):=by unfold Bn wQ;refine aJ (mc (ao (oV sA (4613937818241073152,4607182418800017408)) λrA=>ax ap))
theorem zd (lA:aq)(t:aq)(a:aa)(cg:Int):Sm (λr=> .dX ((λr=> .dH [.b r.1,.s r.2]) r.1) (gu r.2)) (gj (dp lA) (gu t) (ak a) (.i .i64 cg)) (jf lA t a cg):=by
 unfold gj jf;refine aJ (dK (aJ (gy (ax (dK ?_)))));refine ao (f:=λr=>[.b r]) ?_ λw=> ?_
 ·refine aG ?_ ?_
  ·exact ap
  ·refine bh ?_ ?_
   ·exact ap
   ·refine ao (yq lA.S) λrA=>ax<|bh ?_ ?_
    ·exact ap
    ·refine ao (tA a) λbt=>aE ap
 ·refine ai (aE (aC (aG ?_ ?_)))
  ·exact ap
  ·refine ao (Bp t.aY a) λca=>eG (ai (aJ (ai (aT (aC (ai (aE (aC (ao (yu ca.1 cg) λcG=>eG (Ay ap))))))))))
theorem ze (lA:aq)(t:aq)(a:aa)(cg:Int):Sm (λr=> .dX ((λr=> .dH [.b r.1,.s r.2]) r.1) (gu r.2)) (gk (dp lA) (gu t) (ak a) (.i .i64 cg)) (jg lA t a cg):=by
 unfold gk jg;refine aJ (dK (aJ (gy (ax (dK ?_)))));refine ao (f:=λr=>[.b r]) ?_ λw=> ?_
 ·refine aG ?_ ?_
  ·exact ap
  ·refine bh ?_ ?_
   ·exact ap
   ·refine ao (yq lA.S) λrA=>ax<|bh ?_ ?_
    ·exact ap
    ·refine ao (tA a) λbt=>aE ap
 ·refine ai (aE (aC (aG ?_ ?_)))
  ·exact ap
  ·refine ao (Bp t.bn a) λca=>eG (ai (aJ (ai (aT (aC (ai (aE (aC (ao (yu ca.1 cg) λcG=>eG (Ay ap))))))))))
theorem zf (lA:aq)(t:aq)(a:aa)(cg:Int):Sm (λr=> .dX ((λr=> .dH [.b r.1,.s r.2]) r.1) (gu r.2)) (gl (dp lA) (gu t) (ak a) (.i .i64 cg)) (jh lA t a cg):=by
 unfold gl jh;refine aJ (dK (aJ (gy (ax (dK ?_)))));refine ao (f:=λr=>[.b r]) ?_ λw=> ?_
 ·refine aG ?_ ?_
  ·exact ap
  ·refine bh ?_ ?_
   ·exact ap
   ·refine ao (yq lA.S) λrA=>ax<|bh ?_ ?_
    ·exact ap
    ·refine ao (tA a) λbt=>aE ap
 ·refine ai (aE (aC (aG ?_ ?_)))
  ·exact ap
  ·refine ao (Bp t.Told a) λca=>eG (ai (aJ (ai (aT (aC (ai (aE (aC (ao (yu ca.1 cg) λcG=>eG (Ay ap))))))))))
theorem Fu (lA:aq)(a:aa):Sm dp (nt (dp lA) (ak a)) (iT lA a):=by
 unfold nt iT;refine aJ (dK (aJ (gy (ao (Xf lA.S) λrA=>ax (ao (zd lA lA a rA) λbt=>nQ (dK (eG (ai (aE (ai (du (aC (ao (f:=(λr=>(0,(v5 r)))) ?_ λw=> ?_)))))))))))))
 ·refine aG ?_ ?_
  ·exact ap
  ·exact ap
 ·refine bM rfl (dK ap)
theorem Ei (lA:aq)(qj:Int)(p:List aa):Sm dp (lT (dp lA) (.i .i64 qj) (.list (p.map ak))) (jH lA qj p):=by
 unfold lT jH;refine aJ (dK (ax (aT (ao (AA lA.S p) λrA=>aE (aG ?_ ?_)))))
 ·exact ap
 ·refine ao (Ed p) λbt=>eG (Ay (ao (yr lA.S) λca=>ax (ao (ze lA lA (⟨qj,bt.1,bt.2.1⟩:aa) ca) λcG=>nQ (dK (eG (ai (aE (ai (du (aC (ao (f:=(λr=>(0,(v5 r)))) ?_ λw=> ?_)))))))))))
  ·refine aG ?_ ?_
   ·exact ap
   ·exact ap
  ·refine bM rfl (dK ap)
theorem Hb (x:ab)(qj:Int):Sm (MV.i .i64) (ol (aH x) (.i .i64 qj)) (fP x qj):=by unfold ol fP;refine aJ (fj (ax (ao (AB x.By qj) λrA=>ax ap)))
theorem n6 (x:List ab)(target:Int)(cmp:ab->Int->Option Int){Qk:Nat}{Di:List MV}(Q9:gv Qk=false)(gD: ∀(u0:ab)(u1:Int),Sm (MV.i .i64) (cZ Qk ([aH u0,.i .i64 u1]++Di)) (cmp u0 u1)):Sm (λr=> .dH [.i .i64 r.1,.b r.2]) (dt (.list (x.map aH)) (.i .i64 target) (.func Qk Di)) (cu x target cmp):=by
 unfold dt cu;refine aT (ax (xT (bk (ao (dE (λr=>[.i .i64 r.1,.i .i64 r.2]) (λr=>(2,[.i .i64 r])) (rfl) λst=> ?_) λw=> ?_))))
 ·unfold ic;refine mc<|bh ?_ ?_
  ·refine ew<|bW (f:=aH) (rfl) λy=> ?_;refine aJ (fj (Aa (bM (by rw [Q9];rfl) ?_)));refine ao (gD y target) λrA=>ax<|ao (f:=(λr=>(0,[.i .i64 r.1,.i .i64 r.2]))) ?_ λw1=> ?_
   ·refine bh ?_ ?_
    ·exact ap
    ·exact ap
   ·refine bM rfl (mc ap)
  ·exact ap
 ·refine bM rfl (ai (ax (aC ?_)));refine ao (f:=λr=>[.i .i64 r.1,.b r.2]) ?_ λw2=> ?_
  ·refine bh ?_ ?_
   ·refine bW (f:=aH) (rfl) λy1=> ?_;refine aJ (fj (Aa (bM (by rw [Q9];rfl) ?_)));refine ao (gD y1 target) λbt=>ax ap
   ·exact ap
  ·refine ai (ax (ai (aE (aC ap))))
theorem Lp (n:ar)(sA:ae)(i:Int)(rA:ab):Sm (λr=> .dX ((λ_=> .dH []) r.1) (Cz r.2)) (rf (Cz n) (bK sA) (.i .i64 i) (aH rA)) (nU n sA i rA):=by
 unfold rf nU;refine aJ (mc (ax (aJ (fj (aK (ao (n6 n.eH rA.By fP (Qk:=105) (Di:=[]) rfl (λu2 u3=>Sm.at (iX _ _) (Hb u2 u3))) λbt=> ?_))))));refine eG (ai (ax (ai (aE (aC ?_)))));refine ao (f:=λr=>[.b r]) ?_ λw=> ?_
 ·refine aG ?_ ?_
  ·refine bh ?_ ?_
   ·refine ao (vI sA rA.je) λca=>ax<|bh ?_ ?_
    ·refine ao (J7 sA rA) λcG=>aE ap
    ·exact ap
   ·exact ap
  ·exact ap
 ·refine ai (aE (aC (ao (f:=(λr=>(0,(v1 r)))) ?_ λw1=> ?_)))
  ·refine aG ?_ ?_
   ·refine I5 (DC rfl rfl)<|ao (xW (size:=6) (f:=aH) (λ_=>rfl) n.eH) λiw=>qp<|ao (Qx (f:=aH) iw bt.1 ([rA]:List ab)) λlW=>qp ap
   ·exact ap
  ·refine bM rfl (aK ap)
theorem Xg (sA:ae):Sm (MV.i .i64) (Bo (bK sA)) (wR sA):=by unfold Bo wR;refine aJ (mc (ao (oV sA (4607182418800017408,0)) λrA=>ax ap))
theorem OE (lA:aq)(qj:Int)(value:List UInt8):Sm dp (ta (dp lA) (.i .i64 qj) (.s value)) (pD lA qj value):=by
 unfold ta pD;refine aJ (dK (ax (du (ao (Xg lA.S) λrA=>ax (ao (zf lA lA (⟨qj,0,value⟩:aa) rA) λbt=>nQ (dK (eG (ai (aE (ai (du (aC (ao (f:=(λr=>(0,(v5 r)))) ?_ λw=> ?_)))))))))))))
 ·refine aG ?_ ?_
  ·exact ap
  ·exact ap
 ·refine bM rfl (dK ap)
theorem TH (a:ae)(a1:Int)(a2:ar)(a3:al):Sm (λr=> .dH [aZ r.1,.list (r.2.map aR)]) (yn (bK a) (.i .i64 a1) (aZ a2) (aR a3)) (ch a a1 a2 a3):=by
 unfold yn ch;refine aJ (mc (ax (aJ (aK (aJ (cR (ao (f:=(aaT (λr=>(2,(v0 r))) (λr=>(0,(v0 r))))) ?_ λw=> ?_)))))))
 ·refine bh ?_ ?_
  ·refine ao (vI a a3.View) λrA=>ax<|aG ?_ ?_
   ·exact ap
   ·refine ao (Ft a2.A a3.View a3.Value a3.fN) λbt=>eG (ai (aJ (fR (ai (aJ (gy (ai (aE (aC (ao (f:=(λr=>(0,[.list (r.map aR)]))) ?_ λw1=> ?_))))))))))
    ·refine aG ?_ ?_
     ·refine rl (([(⟨2,0,0,([]:List UInt8),([]:List ab),bt.2.1,([]:List aa),(⟨0,0,false,0,([]:List UInt8),([]:List aa)⟩:ab)⟩:al)]:List al).length) (ew ap)
     ·exact ap
    ·refine bM rfl (ai (aT (aC ap)))
  ·refine ao (f:=(λr=>(0,(v0 r)))) ?_ λw2=> ?_
   ·refine bh ?_ ?_
    ·refine ao (Lo a2.A a3.dv) λca=>eG (ai (aJ (fR (ai (aT (ai (aE (aC (ao (f:=(λr=>(0,[.list (r.map aR)]))) ?_ λw3=> ?_)))))))))
     ·refine aG ?_ ?_
      ·refine rl (([(⟨3,a1,0,([]:List UInt8),([]:List ab),(⟨0,0,([]:List UInt8)⟩:aa),ca.2.1,(⟨0,0,false,0,([]:List UInt8),([]:List aa)⟩:ab)⟩:al)]:List al).length) (ew ap)
      ·exact ap
     ·refine bM rfl (ai (aT (aC (ao (Fu a2.L a3.dv) λcG=>aJ (dK ap)))))
    ·refine ao (f:=(λr=>(0,(v1 r)))) ?_ λw4=> ?_
     ·refine bh ?_ ?_
      ·refine ao (Ei a2.L a3.eE a3.Proof) λiw=>aJ (dK ap)
      ·refine ao (f:=(λr=>(0,(v1 r)))) ?_ λw5=> ?_
       ·refine bh ?_ ?_
        ·refine ao (Lp a2 a a1 a3.R) λlW=>nQ (aK ap)
        ·refine ao (f:=(λr=>(0,(v1 r)))) ?_ λw6=> ?_
         ·refine bh ?_ ?_
          ·refine ao (OE a2.L a3.eE a3.Value) λsj=>aJ (dK ap)
          ·exact ap
         ·refine bM rfl (aK ap)
       ·refine bM rfl (aK ap)
     ·refine bM rfl (aK ap)
   ·refine bM rfl (lK ap)
 ·rcases w with p7|p8
  ·refine nI rfl (lK ?_);refine ao (f:=λr=>[.b r]) ?_ λw7=> ?_
   ·refine aG ?_ ?_
    ·exact ap
    ·exact ap
   ·refine ai (aE (aC (ao (f:=(λr=>(0,[.list (r.map aR)]))) ?_ λw8=> ?_)))
    ·refine aG ?_ ?_
     ·refine bk (rl (([(⟨5,a1,0,p7.2.2.2.2.2.2.2.2.2.2.2.2.2.2.2.1,([]:List ab),(⟨0,0,([]:List UInt8)⟩:aa),([]:List aa),(⟨0,0,false,0,([]:List UInt8),([]:List aa)⟩:ab)⟩:al)]:List al).length) (ew ?_));exact jF (by simp [fU,cV,aw,dP,aF,cP,v0,v1])
     ·exact ap
    ·refine bM rfl (ai (aT (aC ap)))
  ·refine nJ rfl (bM rfl (lK ?_));refine ao (f:=λr=>[.b r]) ?_ λw9=> ?_
   ·refine aG ?_ ?_
    ·exact ap
    ·exact ap
   ·refine ai (aE (aC (ao (f:=(λr=>(0,[.list (r.map aR)]))) ?_ λw10=> ?_)))
    ·refine aG ?_ ?_
     ·refine bk (rl (([(⟨5,a1,0,p8.2.2.2.2.2.2.2.2.2.2.2.2.2.2.2.1,([]:List ab),(⟨0,0,([]:List UInt8)⟩:aa),([]:List aa),(⟨0,0,false,0,([]:List UInt8),([]:List aa)⟩:ab)⟩:al)]:List al).length) (ew ?_));exact jF (by simp [fU,cV,aw,dP,aF,cP,v0,v1])
     ·exact ap
    ·refine bM rfl (ai (aT (aC ap)))
theorem Lq (a:ah):Sm aH (rh (ck a)) (v8 a):=by unfold rh v8;refine aJ (fR ap)
theorem J9 (a:ah)(view:Int):Sm (λr=> .dH [ck r.1,aH r.2.1,.b r.2.2]) (pW (ck a) (.i .i64 view)) (mE a view):=by
 unfold pW mE;refine aJ (fR (ax ?_));refine ao (f:=λr=>[.b r]) ?_ λw=> ?_
 ·refine bh ?_ ?_
  ·exact ap
  ·exact ap
 ·refine ai (aE (aC (aG ?_ ?_)))
  ·exact ap
  ·refine ao (Lq (⟨a.S,a.Me,view,a.Has,a.At,a.Value,a.Proof,(⟨([]:List aa)⟩:aA)⟩:ah)) λrA=>aJ (fj ap)
theorem Ra (x_:ae)(x_1:Int)(n:ar)(view:Int):Sm (λr=> .dH [aZ r.1,.list (r.2.map aR)]) (vF (bK x_) (.i .i64 x_1) (aZ n) (.i .i64 view)) (oS x_ x_1 n view):=by
 unfold vF oS;refine aJ (mc (ax (aJ (aK (ax (ao (J9 n.A view) λrA=>eG (ai (aJ (fR (ai (aJ (fj (ai (aE (aC (aG ?_ ?_))))))))))))))))
 ·exact ap
 ·refine I5 (DC rfl rfl) ap
theorem TJ (a:ae)(a1:Int)(a2:ar)(a3:List UInt8):Sm (λr=> .dH [aZ r.1,.list (r.2.map aR)]) (yo (bK a) (.i .i64 a1) (aZ a2) (.s a3)) (eB a a1 a2 a3):=by
 unfold yo eB;refine aJ (mc (ax (aJ (aK (du (ao (MO a) λrA=>ax ?_))))));refine ao (f:=λr=>[.b r]) ?_ λw=> ?_
 ·refine ao (vI a a2.A.View) λbt=>ax<|aG ?_ ?_
  ·exact ap
  ·exact ap
 ·refine ai (aE (aC (aG ?_ ?_)))
  ·exact ap
  ·refine ao (f:=λr=>[.b r]) ?_ λw1=> ?_
   ·refine bh ?_ ?_
    ·refine bk ap
    ·exact ap
   ·refine ai (aE (aC (aG ?_ ?_)))
    ·exact ap
    ·refine ao (f:=(λr=>(0,(v2 r)))) ?_ λw2=> ?_
     ·refine bh ?_ ?_
      ·refine bk (ew (ao (by simpa [aw,aF,v2] using xW (size:=6) (f:=aH) (λ_=>rfl) (ab6 (cM 0) (ab7 (cM rA) a2.eH))) λca=>qp (ao (Eg a ca) λcG=> ?_)));refine eG (ai (du (ai (aE (aC (ao (f:=(λr=>(0,(v2 r)))) ?_ λw3=> ?_))))))
       ·refine aG ?_ ?_
        ·exact ap
        ·exact ap
       ·refine bM rfl (cR ap)
      ·exact ap
     ·refine bM rfl (cR (I5 (DC rfl rfl) ap))
theorem yv (c:aj)(i:Int):Sm (λr=> .dH [.s r.1,.b r.2]) (nu (eZ c) (.i .i64 i)) (fI c i):=by
 unfold nu fI;refine aJ (bE (ax ?_));refine ao (f:=λr=>[.b r]) ?_ λw=> ?_
 ·refine ao (iM c i false) λrA=>aE<|aG ?_ ?_
  ·exact ap
  ·refine bW (f:=aZ) (rfl) λy=>aJ (aK ap)
 ·refine ai (aE (aC (aG ?_ ?_)))
  ·exact ap
  ·refine bW (f:=aZ) (rfl) λy1=>aJ (aK ap)
theorem Ka (c:aj)(EU:Bool)(value:List UInt8):Sm (λr=> .dH [.b r.1,.b r.2.1,.s r.2.2]) (uy (eZ c) (.b EU) (.s value)) (qH c EU value):=by
 unfold uy qH;refine aJ (bE (aE (du (ao (dE (λr=>[.b r.1,.s r.2.1,.i .i64 r.2.2]) (aaT (λr=>(2,[.b r.1,.s r.2])) (λr=>(1,[.b r.1,.b r.2.1,.s r.2.2]))) (rfl) λst=> ?_) λw=> ?_))))
 ·unfold ya;refine ai (aE (ai (du (ai (ax (aC (bk (bh ?_ ?_))))))))
  ·refine ao (yv c st.2.2) λrA=>eG (ai (du (ai (aE (aC ?_)))));refine ao (f:=λr=>[.b r]) ?_ λw1=> ?_
   ·refine aG ?_ ?_
    ·refine aG ?_ ?_
     ·exact ap
     ·exact ap
    ·exact ap
   ·refine ai (aE (aC (aG ?_ ?_)))
    ·exact ap
    ·refine ao (f:=(λr=>(0,[.b r.1,.s r.2]))) ?_ λw2=> ?_
     ·refine aG ?_ ?_
      ·exact ap
      ·exact ap
     ·refine bM rfl (ai (aE (ai (du (aC ap)))))
  ·exact ap
 ·rcases w with p2|p3
  ·refine nI rfl (ai (aE (ai (du (aC ap)))))
  ·refine nJ rfl (bM rfl (ai (aE (ai (aE (ai (du (aC ap))))))))
theorem Rb (i:Int)(c:Int)(c1:aj):Sm (λr=> .dX ((λ_=> .dH []) r.1) [.i .i64 r.2]) (r7 (.i .i64 i) [.i .i64 c] (.rp [.i .i64 c1.S.F,.i .i64 c1.S.T,.list (c1.bY.map MV.b),.list (c1.Want.map MV.s),.list (c1.N.map aZ),.list (c1.aV.map aR)])) (jI i c c1):=by unfold r7 jI;refine ax (Qu (bE (ai (ax (aC (bW (f:=aZ) (rfl) λy=>aJ (aK ap)))))))
theorem Kb (c:aj)(lA:List al):Sm (λr=> .dX ((λ_=> .dH []) r.1) (cH r.2)) (pX (cH c) (.list (lA.map aR))) (gX c lA):=by
 unfold pX gX;refine aT (bE (bk (ao (dE (λr=>(v4 r)) (λr=>(2,(v6 r))) (rfl) λst=> ?_) λw=> ?_)))
 ·unfold fe;refine ai (ax (bE (bh ?_ ?_)))
  ·refine bW (f:=aR) (rfl) λy=>aJ (cR (bk (ao (f:=(λr=>(0,(v6 r)))) ?_ λw1=> ?_)))
   ·refine bh ?_ ?_
    ·refine I5 (DC rfl rfl)<|ao (uA st.2.2.2.2.2.2) λrA=> ?_;refine Tp (bM (xV (rfl:_=aca aR rA) λ_=>by simp only [MV.w,MV.wl,ab8]) (bk (rl (([y]:List al).length) (ew (jF (by simp [cH,aF,bj,v4,v6]))))))
    ·exact ap
   ·refine bM rfl (bE ap)
  ·exact ap
 ·refine bM rfl (bE ap)
theorem wu (c:aj)(i:Int)(n:ar)(said:List al):Sm (λr=> .dX ((λ_=> .dH []) r.1) (cH r.2)) (lz (cH c) (.i .i64 i) (aZ n) (.list (said.map aR))) (gJ c i n said):=by unfold lz gJ;refine ax (aJ (aK (aT (bE (bW (f:=aZ) (rfl) λy=>aJ (aK (ao (by simpa [cH,aw,bj] using Kb (⟨c.S,c.bY,c.Want,c.N.set (cM i) n,c.aV⟩:aj) said) λrA=> ?_)))))));refine nQ (bE ap)
theorem vJ (c:aj)(i:Int)(m:al):Sm (λr=> .dX ((λ_=> .dH []) r.1) (cH r.2)) (jM (cH c) (.i .i64 i) (aR m)) (cN c i m):=by unfold jM cN;refine ax (aJ (cR (bE (bW (f:=aZ) (rfl) λy=>aJ (aK (ao (TH c.S i y m) λrA=>eG (ai (aJ (aK (ai (aT (aC (ao (wu c i rA.1 rA.2) λbt=> ?_)))))))))))));refine nQ (bE ap)
theorem yO (c:aj)(i:Int)(view:Int):Sm (λr=> .dX ((λ_=> .dH []) r.1) (cH r.2)) (lk (cH c) (.i .i64 i) (.i .i64 view)) (dW c i view):=by unfold lk dW;refine ax (ax (bE (bW (f:=aZ) (rfl) λy=>aJ (aK (ao (Ra c.S i y view) λrA=>eG (ai (aJ (aK (ai (aT (aC (ao (wu c i rA.1 rA.2) λbt=> ?_))))))))))));refine nQ (bE ap)
theorem AD (c:aj)(i:Int):Sm (λr=> .dX ((λ_=> .dH []) r.1) (cH r.2)) (mM (cH c) (.i .i64 i)) (dO c i):=by unfold mM dO;refine ax (bE (bW (f:=aZ) (rfl) λy=>aJ (aK (bW (f:=MV.s) (rfl) λy1=>du (ao (TJ c.S i y y1) λrA=>eG (ai (aJ (aK (ai (aT (aC (ao (wu c i rA.1 rA.2) λbt=> ?_))))))))))));refine nQ (bE ap)
theorem Lr (c:aj)(lA:List al):Sm (λr=> .dX ((λ_=> .dH []) r.1) (cH r.2)) (rj (cH c) (.list (lA.map aR))) (nV c lA):=by
 unfold rj nV;refine aT (bE (bk (ao (dE (λr=>(v4 r)) (λr=>(2,(v6 r))) (rfl) λst=> ?_) λw=> ?_)))
 ·unfold yK;refine ai (ax (bE (bh ?_ ?_)))
  ·refine bW (f:=aR) (rfl) λy=>aJ (cR (bk (ao (f:=(λr=>(0,(v6 r)))) ?_ λw1=> ?_)))
   ·refine bh ?_ ?_
    ·refine I5 (DC rfl rfl)<|ao (uA st.2.2.2.2.2.2) λrA=> ?_;refine Tp (bM (xV (rfl:_=aca aR rA) λ_=>by simp only [MV.w,MV.wl,ab8]) (bk (rl (([y]:List al).length) (ew (jF (by simp [cH,aF,bj,v4,v6]))))))
    ·exact ap
   ·refine bM rfl (bE ap)
  ·exact ap
 ·refine bM rfl (bE ap)
theorem Bq (a:aj)(a1:dz):Sm eZ (qO (eZ a) (my a1)) (eF a a1):=by
 unfold qO eF;refine aJ (bE (aJ (mN (bh ?_ ?_))))
 ·refine ao (TE a a1.M) λrA=>aE<|ao (f:=(λr=>(0,(v6 r)))) ?_ λw=> ?_
  ·refine aG ?_ ?_
   ·refine ao (Lr a ([a1.M]:List al)) λbt=>nQ (bE ap)
   ·exact ap
  ·refine bM rfl (bE ap)
 ·refine ao (iM a a1.I false) λca=>aE<|aG ?_ ?_
  ·exact ap
  ·refine ao (xW (size:=18) (f:=aZ) (λ_=>by simp only [MV.w,MV.wl,ab8]) a.N) λcG=>qp<|ao (f:=(λr=>(0,(v6 r)))) ?_ λw1=> ?_
   ·refine bh ?_ ?_
    ·refine ao (f:=λr=>[.b r]) ?_ λw2=> ?_
     ·refine bh ?_ ?_
      ·refine bk ap
      ·exact ap
     ·refine ai (aE (aC (ao (f:=(λr=>(0,(v6 r)))) ?_ λw3=> ?_)))
      ·refine aG ?_ ?_
       ·refine bW (f:=aR) (rfl) λy=>aJ (cR (ao (vJ (⟨a.S,a.bY,a.Want,cG,a.aV⟩:aj) a1.I y) λiw=>nQ (bE ap)))
       ·exact ap
      ·refine bM rfl (bE ap)
    ·refine ao (f:=(λr=>(0,(v6 r)))) ?_ λw4=> ?_
     ·refine bh ?_ ?_
      ·refine bW (f:=aZ) (rfl) λy1=>aJ (aK (ao (yO (⟨a.S,a.bY,a.Want,cG,a.aV⟩:aj) a1.I (No .i64 (y1.A.View+1))) λlW=>nQ (bE ap)))
      ·refine ao (f:=(λr=>(0,(v6 r)))) ?_ λw5=> ?_
       ·refine bh ?_ ?_
        ·refine ao (AD (⟨a.S,a.bY,a.Want,cG,a.aV⟩:aj) a1.I) λsj=>nQ (bE ap)
        ·refine ao (f:=(λr=>(0,(v6 r)))) ?_ λw6=> ?_
         ·refine bh ?_ ?_
          ·refine bW (f:=aZ) (rfl) λy2=>aJ (aK (ao (OB a.S a1.I y2) λC4=>aJ (aK (bW (f:=aZ) (rfl) λy3=>aJ (aK (jF (by simp [aw,aF,bj,v6])))))))
          ·exact ap
         ·refine bM rfl (bE ap)
       ·refine bM rfl (bE ap)
     ·refine bM rfl (bE ap)
   ·refine bM rfl (bE ap)
theorem Fw:Sm MV.b (tz) (qI):=by
 unfold tz qI;refine ew<|ao (by simpa [bj,v3,v6] using Q4 (⟨1,0⟩:ae) (acd (cM 4) false) ([([97]:List UInt8),([98]:List UInt8),([99]:List UInt8),([100]:List UInt8)]:List (List UInt8))) λrA=>eG (ai (aJ (bE (ai (ax (aC ?_))))));refine ao (Bq rA.1 (⟨2,0,0,(⟨0,0,0,([]:List UInt8),([]:List ab),(⟨0,0,([]:List UInt8)⟩:aa),([]:List aa),(⟨0,0,false,0,([]:List UInt8),([]:List aa)⟩:ab)⟩:al)⟩:dz)) λbt=> ?_;refine aJ (bE (ao (dE (λr=>(v3 r)) (λr=>(2,(v6 r))) (rfl) λst=> ?_) λw=> ?_))
 ·unfold vq;refine ai (ax (ai (ax (ai (aT (ai (aT (ai (aT (o7 (bh ?_ ?_)))))))))))
  ·refine ao (Bq (⟨(⟨st.1,st.2.1⟩:ae),st.2.2.1,st.2.2.2.1,st.2.2.2.2.1,st.2.2.2.2.2.1⟩:aj) (⟨0,st.2.2.2.2.2.2,0,(⟨0,0,0,([]:List UInt8),([]:List ab),(⟨0,0,([]:List UInt8)⟩:aa),([]:List aa),(⟨0,0,false,0,([]:List UInt8),([]:List aa)⟩:ab)⟩:al)⟩:dz)) λca=> ?_;refine aJ (bE ap)
  ·exact ap
 ·refine bM rfl (bE (ao (dE (λr=>(v3 r)) (λr=>(4,(v6 r))) (rfl) λdk=> ?_) λw1=> ?_))
  ·unfold vu;refine ai (ax (ai (ax (ai (aT (ai (aT (ai (aT (o7 (bh ?_ ?_)))))))))))
   ·refine ao (Bq (⟨(⟨dk.1,dk.2.1⟩:ae),dk.2.2.1,dk.2.2.2.1,dk.2.2.2.2.1,dk.2.2.2.2.2.1⟩:aj) (⟨0,2,dk.2.2.2.2.2.2,(⟨0,0,0,([]:List UInt8),([]:List ab),(⟨0,0,([]:List UInt8)⟩:aa),([]:List aa),(⟨0,0,false,0,([]:List UInt8),([]:List aa)⟩:ab)⟩:al)⟩:dz)) λcG=> ?_;refine aJ (bE ap)
   ·exact ap
  ·refine bM rfl (bE (ao (yv (⟨(⟨w1.1,w1.2.1⟩:ae),w1.2.2.1,w1.2.2.2.1,w1.2.2.2.2.1,w1.2.2.2.2.2⟩:aj) 2) λiw=>eG (ai (du (ai (aE (aC (ao (yv (⟨(⟨w1.1,w1.2.1⟩:ae),w1.2.2.1,w1.2.2.2.1,w1.2.2.2.2.1,w1.2.2.2.2.2⟩:aj) 1) λlW=> ?_))))))));refine eG (ai (du (ai (aE (aC ?_)))));refine ao (f:=λr=>[.b r]) ?_ λw2=> ?_
   ·refine bh ?_ ?_
    ·refine aG ?_ ?_
     ·refine bh ?_ ?_
      ·exact ap
      ·exact ap
     ·exact ap
    ·exact ap
   ·refine ai (aE (aC ap))
def xt (x:aj):CS:=⟨x.S.F,x.S.T,x.bY.map MV.b,x.Want.map MV.s,x.N.map aZ,x.aV.map aR⟩
theorem aim (x:aj):Td (cH x)=some (xt x):=rfl
theorem ain {x:Option MV}{y:Option (Unit×aj)}(h:Sm (λr=> .dX ((λ_=> .dH []) r.1) (cH r.2)) x y):Sm xt (Oe x) (bd y λr=>some r.2):=by unfold Sm at *;subst h;cases y<;>rfl
theorem af1 (l:List Bool):Bz (l.map MV.b)=if l.length<2^32 then some l else none:=by unfold Bz;rw [Qj]
theorem af2 (c:aj)(v:Int):Of cA kz.k (xt c) v=eC c.S v:=by have h:=vI c.S v;unfold Of;rw [show cA kz.k.ld [.agg [.i .i64 (xt c).F,.i .i64 (xt c).T],.i .i64 v]=mI (bK c.S) (.i .i64 v) from by kernel_rfl];unfold Sm at h;rw [h];cases eC c.S v<;>rfl
theorem aio (c:aj)(v:Int):wO cA kz.k (xt c) v=j0 c v:=by
 unfold wO j0;rw [af2];cases eC c.S v with
 |none=>rfl
 |some l=>have h:=iM c l false;unfold Sm at h;show (match cA kz.k.is [.agg (xt c).ls,.i .i64 l,.b false] with|some (.b b)=>_|_=>none)=_;rw [show cA kz.k.is [.agg (xt c).ls,.i .i64 l,.b false]=fg (eZ c) (.i .i64 l) (.b false) from by kernel_rfl,h];rw [au];cases dx c l false<;>rfl
theorem abi {S S':Type}(f:S'->S){step:Nat->S->Option S}{abj:Nat->S'->Option S'}(h: ∀i s,Sm f (step i (f s)) (abj i s)): ∀(l:List Bool) (i:Nat) (s:S'),Sm f (iG step l i (f s)) (iG abj l i s):=by
 intro l;induction l with
 |nil=>intro i s;rfl
 |cons b r ih=>
  intro i s;simp only [iG];cases b with
  |true=>exact ih (i+1) s
  |false=>
   have h1:=h i s;unfold Sm at h1;simp only [Bool.false_eq_true,if_false];rw [h1];cases abj i s with
   |none=>rfl
   |some s2=>exact ih (i+1) s2
theorem aip (c:aj)(i:Nat)(v:Int):IR cA kz.k (xt c) i v=bd (jI (i:Int) v c) λr=>some r.2:=by have h:=Rb (i:Int) v c;unfold IR;rw [show cA kz.k.f1 [.i .i64 i,.cell (.func 0 [.i .i64 v]),.rp (xt c).ls]=r7 (.i .i64 i) [.i .i64 v] (.rp [.i .i64 c.S.F,.i .i64 c.S.T,.list (c.bY.map MV.b),.list (c.Want.map MV.s),.list (c.N.map aZ),.list (c.aV.map aR)]) from by kernel_rfl];unfold Sm at h;rw [h];cases jI (i:Int) v c<;>rfl
theorem aem (v:Int)(i:Nat)(c:aj):Sm xt (IU cA kz.k v i (xt c)) (bd (dW c (i:Int) v) λr=>some r.2):=by unfold IU;rw [show cA kz.k.en [.cell (.func 0 (xt c).ls),.i .i64 i,.i .i64 v]=lk (cH c) (.i .i64 i) (.i .i64 v) from by kernel_rfl];exact ain (yO c i v)
theorem aen (m:al)(i:Nat)(c:aj):Sm xt (E4 cA kz.k (aR m) i (xt c)) (bd (cN c (i:Int) m) λr=>some r.2):=by unfold E4;rw [show cA kz.k.de [.cell (.func 0 (xt c).ls),.i .i64 i,aR m]=jM (cH c) (.i .i64 i) (aR m) from by kernel_rfl];exact ain (vJ c i m)
theorem aiq (c:aj)(l:Int):Sm xt (Oe (cA kz.k.le [.cell (.func 0 (xt c).ls),.i .i64 l])) (bd (dO c l) λr=>some r.2):=by rw [show cA kz.k.le [.cell (.func 0 (xt c).ls),.i .i64 l]=mM (cH c) (.i .i64 l) from by kernel_rfl];exact ain (AD c l)
theorem air (v:Int)(p:Int×aj):Sm (Sum.map (λp:Int×aj=>(p.1,xt p.2)) xt) (IV cA kz.k v (p.1,xt p.2)) (nW v p):=by
 obtain ⟨n,c⟩:=p;unfold IV nW;dsimp only;rw [show (xt c).pl.length=c.aV.length from sh _];by_cases hn:n<(c.aV.length:Int);rotate_left
 ·rw [if_neg hn,if_neg hn];rfl
 rw [if_pos hn,if_pos hn];rw [show Bz (xt c).bl=_ from af1 c.bY];unfold RU ix;rw [show (xt c).pl=c.aV.map aR from rfl];by_cases h0:0<=n;rotate_left
 ·rw [if_neg h0,if_neg h0];rfl
 rw [if_pos h0,if_pos h0,List.getElem?_map];cases hm:c.aV[n.toNat]? with
 |none=>rfl
 |some m=>
 simp only [ab9];by_cases hb:c.bY.length<2^32;rotate_left
 ·rw [if_neg hb,if_neg hb];rfl
 rw [if_pos hb,if_pos hb];have hw:(aR m).w=kz.k.sz:=by simp only [MV.w,MV.wl,ab8];rfl
 have hg:(VJ (aR m)&&Nat.beq (aR m).w kz.k.sz)=true:=by rw [hw];rfl
 simp only [hg,cond_true];have h1:=abi xt (λi c=>aen m i c) c.bY 0 c;unfold Sm at h1;rw [h1];cases iG (λi c=>bd (cN c (i:Int) m) λr=>some r.2) c.bY 0 c with
 |none=>rfl
 |some c1=>
 simp only [ab9,au];rw [af2];cases eC c1.S v with
 |none=>rfl
 |some l=>
 have h2:=aiq c1 l;unfold Sm at h2;dsimp only;rw [h2,au];cases dO c1 l<;>rfl
theorem Xh (a:aj):Sm eZ (Fs (eZ a)) (qJ a):=by
 have hc:E5 cA kz.k (a.N.map aZ)=(qD 256 a.N).map λl=>l.map aZ:=by have h:=xW (size:=18) (bytes:=256) (f:=aZ) (λ_=>by simp only [MV.w,MV.wl,ab8]) a.N;unfold E5;rw [show cA kz.k.cl [.list (a.N.map aZ)]=jq 18 256 [.list (a.N.map aZ)] from by kernel_rfl];unfold Sm at h;rw [h];cases qD 256 a.N<;>rfl
 have hs:(Mn cA kz.k (xt a))=(qJ a).map xt:=by
  unfold Mn qJ;rw [show E5 cA kz.k (xt a).nl=_ from hc,show Bz (xt a).bl=_ from af1 a.bY];cases qD 256 a.N with
  |none=>rfl
  |some nl=>
  simp only [ab9,au];by_cases hb:a.bY.length<2^32;rotate_left
  ·rw [if_neg hb,if_neg hb];rfl
  rw [if_pos hb,if_pos hb];have e0:(⟨(xt a).F,(xt a).T,(xt a).bl,(xt a).wl,nl.map aZ,[]⟩:CS)=xt (⟨a.S,a.bY,a.Want,nl,[]⟩:aj):=rfl;dsimp only;rw [e0];rw [show IR cA kz.k (xt (⟨a.S,a.bY,a.Want,nl,[]⟩:aj))=λ(i:Nat) v=>bd (jI (i:Int) v (⟨a.S,a.bY,a.Want,nl,[]⟩:aj)) λr=>some r.2 from funext λi=>funext λv=>aip _ i v];cases iG (λ(i:Nat) v=>bd (jI (i:Int) v (⟨a.S,a.bY,a.Want,nl,[]⟩:aj)) λr=>some r.2) a.bY 0 (0:Int) with
  |none=>rfl
  |some v1=>
  rw [au,au];rw [show wO cA kz.k (xt (⟨a.S,a.bY,a.Want,nl,[]⟩:aj))=j0 (⟨a.S,a.bY,a.Want,nl,[]⟩:aj) from funext λv=>aio _ v];cases Loop (j0 (⟨a.S,a.bY,a.Want,nl,[]⟩:aj)) v1 with
  |none=>rfl
  |some v=>
  rw [au,au];by_cases hv:100000<v
  ·rw [if_pos hv,if_pos hv];rfl
  rw [if_neg hv,if_neg hv];have h1:=abi xt (λi c=>aem v i c) a.bY 0 (⟨a.S,a.bY,a.Want,nl,[]⟩:aj);unfold Sm at h1;rw [h1];cases iG (λ(i:Nat) c=>bd (dW c (i:Int) v) λr=>some r.2) a.bY 0 (⟨a.S,a.bY,a.Want,nl,[]⟩:aj) with
  |none=>rfl
  |some c=>
  rw [ab9,au,au];exact dE (λp:Int×aj=>(p.1,xt p.2)) xt (s0:=((0:Int),c)) rfl λp=>air v p
 show (match Td (cH a) with|some s=>(match Mn cA kz.k s with|some s=>some (MV.agg s.ls)|none=>none)|none=>none)=_;rw [aim];dsimp only;rw [hs];cases qJ a<;>rfl
theorem Ls (a:na)(a1:List dz):Sm MV.b (wo (Cx a) (.list (a1.map my))) (qZ a a1):=by
 unfold wo qZ;refine aJ (ai (ax (ai (ax (ai (aT (ai (aT (aC (aT (ao (Xe a a1) λrA=>aE (aG ?_ ?_))))))))))))
 ·refine ao (Fw) λbt=>aE ap
 ·refine ao (Q4 a.S a.bY a.Want) λca=>eG (ai (aJ (bE (ai (ax (aC (aG ?_ ?_)))))))
  ·refine ao (Fw) λcG=>aE ap
  ·refine ao (dE (λr=>[.i .i64 r.1,.i .i64 r.2.1,.list (r.2.2.1.map MV.b),.list (r.2.2.2.1.map MV.s),.list (r.2.2.2.2.1.map aZ),.list (r.2.2.2.2.2.1.map aR),.b r.2.2.2.2.2.2.1,.s r.2.2.2.2.2.2.2.1,.i .i64 r.2.2.2.2.2.2.2.2]) (aaT (λr=>(2,[.i .i64 r.1,.i .i64 r.2.1,.list (r.2.2.1.map MV.b),.list (r.2.2.2.1.map MV.s),.list (r.2.2.2.2.1.map aZ),.list (r.2.2.2.2.2.1.map aR),.b r.2.2.2.2.2.2.1,.s r.2.2.2.2.2.2.2])) (λr=>(1,[.b r]))) (rfl) λst=> ?_) λw=> ?_
   ·unfold sm;refine ai (ax (ai (ax (ai (aT (ai (aT (ai (aT (ai (aT (ai (aE (ai (du (ai (ax (aC (bk (bh ?_ ?_))))))))))))))))))))
    ·refine bW (f:=my) (rfl) λy=>aJ (mN (ao (Bq (⟨(⟨st.1,st.2.1⟩:ae),st.2.2.1,st.2.2.2.1,st.2.2.2.2.1,st.2.2.2.2.2.1⟩:aj) y) λiw=>aJ (bE (ao (Ka iw st.2.2.2.2.2.2.1 st.2.2.2.2.2.2.2.1) λlW=> ?_))));refine eG (ai (aE (ai (aE (ai (du (aC (aG ?_ ?_))))))))
     ·exact ap
     ·exact ap
    ·exact ap
   ·rcases w with p1|p2
    ·refine nI rfl (ai (ax (ai (ax (ai (aT (ai (aT (ai (aT (ai (aT (ai (aE (ai (du (aC (ao (Xh (⟨(⟨p1.1,p1.2.1⟩:ae),p1.2.2.1,p1.2.2.2.1,p1.2.2.2.2.1,p1.2.2.2.2.2.1⟩:aj)) λsj=> ?_))))))))))))))))));refine aJ (bE (ao (Ka sj p1.2.2.2.2.2.2.1 p1.2.2.2.2.2.2.2) λC4=>eG (ai (aE (ai (aE (ai (du (aC ?_)))))))));refine ao (f:=λr=>[.b r]) ?_ λw1=> ?_
     ·refine ao (Fw) λrA8=>aE<|aG ?_ ?_
      ·exact ap
      ·exact ap
     ·refine ai (aE (aC ap))
    ·refine nJ rfl (bM rfl (ai (aE (aC ap))))
end Dn.S
