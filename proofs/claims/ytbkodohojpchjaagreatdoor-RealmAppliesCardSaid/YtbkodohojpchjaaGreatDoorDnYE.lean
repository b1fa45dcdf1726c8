import Derived.Test.YtbkodohojpchjaaGreatDoorDnYD
/-
  Typed and plain functions agree. Conditions: none.
-/
set_option linter.unusedVariables false
set_option linter.unusedSimpArgs false
open Go.IntKind renaming wrap→c8
open Sum renaming elim→sh
open Int renaming toNat→AI
open List renaming length_map→AS,length_cons→AT,length_append→By,length_nil→BY,map_append→IN,length_take→IS,length_drop→IT,map_replicate→No,length_set→OF,map_cons→aaa,map_take→aaf,map_drop→aai,map_nil→aaj,map_set→aaG,drop→aaH,take→aaI,map→aaJ
open Go Dn
set_option maxRecDepth 100000
namespace Dn.S
@[reducible] def v0 (r : Int × (List af) × Int × (List aC) × (List aq) × (List aj) × Int × Int × Int × (List UInt8) × (List UInt8) × Int × Int × Int × Int × Int × Int × (List UInt8) × Int × (List (List UInt8)) × (List aF)) : List MV := [.i .i64 r.1, .list (r.2.1.map aW), .i .i64 r.2.2.1, .list (r.2.2.2.1.map a8), .list (r.2.2.2.2.1.map bo), .list (r.2.2.2.2.2.1.map bh), .i .i64 r.2.2.2.2.2.2.1, .i .i64 r.2.2.2.2.2.2.2.1, .i .i64 r.2.2.2.2.2.2.2.2.1, .s r.2.2.2.2.2.2.2.2.2.1, .s r.2.2.2.2.2.2.2.2.2.2.1, .i .i64 r.2.2.2.2.2.2.2.2.2.2.2.1, .i .i64 r.2.2.2.2.2.2.2.2.2.2.2.2.1, .i .i64 r.2.2.2.2.2.2.2.2.2.2.2.2.2.1, .i .i64 r.2.2.2.2.2.2.2.2.2.2.2.2.2.2.1, .i .i64 r.2.2.2.2.2.2.2.2.2.2.2.2.2.2.2.1, .i .i64 r.2.2.2.2.2.2.2.2.2.2.2.2.2.2.2.2.1, .s r.2.2.2.2.2.2.2.2.2.2.2.2.2.2.2.2.2.1, .i .i64 r.2.2.2.2.2.2.2.2.2.2.2.2.2.2.2.2.2.2.1, .list (r.2.2.2.2.2.2.2.2.2.2.2.2.2.2.2.2.2.2.2.1.map MV.s), .list (r.2.2.2.2.2.2.2.2.2.2.2.2.2.2.2.2.2.2.2.2.map gq)]
@[reducible] def v1 (r : (List af) × Int × (List aC) × (List aq) × (List aj) × Int × Int × Int × (List UInt8) × (List UInt8) × Int × Int × Int × Int × Int × Int × (List UInt8) × Int × (List (List UInt8)) × (List aF)) : List MV := [.list (r.1.map aW), .i .i64 r.2.1, .list (r.2.2.1.map a8), .list (r.2.2.2.1.map bo), .list (r.2.2.2.2.1.map bh), .i .i64 r.2.2.2.2.2.1, .i .i64 r.2.2.2.2.2.2.1, .i .i64 r.2.2.2.2.2.2.2.1, .s r.2.2.2.2.2.2.2.2.1, .s r.2.2.2.2.2.2.2.2.2.1, .i .i64 r.2.2.2.2.2.2.2.2.2.2.1, .i .i64 r.2.2.2.2.2.2.2.2.2.2.2.1, .i .i64 r.2.2.2.2.2.2.2.2.2.2.2.2.1, .i .i64 r.2.2.2.2.2.2.2.2.2.2.2.2.2.1, .i .i64 r.2.2.2.2.2.2.2.2.2.2.2.2.2.2.1, .i .i64 r.2.2.2.2.2.2.2.2.2.2.2.2.2.2.2.1, .s r.2.2.2.2.2.2.2.2.2.2.2.2.2.2.2.2.1, .i .i64 r.2.2.2.2.2.2.2.2.2.2.2.2.2.2.2.2.2.1, .list (r.2.2.2.2.2.2.2.2.2.2.2.2.2.2.2.2.2.2.1.map MV.s), .list (r.2.2.2.2.2.2.2.2.2.2.2.2.2.2.2.2.2.2.2.map gq)]
@[reducible] def v2 (r : (List aY) × Int × (List ar) × (List aL) × (List aD) × Int × Int × Int × (List UInt8) × Int × (List (List UInt8)) × (List bq)) : List MV := [.list (r.1.map bD), .i .i64 r.2.1, .list (r.2.2.1.map br), .list (r.2.2.2.1.map b5), .list (r.2.2.2.2.1.map bC), .i .i64 r.2.2.2.2.2.1, .i .i64 r.2.2.2.2.2.2.1, .i .i64 r.2.2.2.2.2.2.2.1, .s r.2.2.2.2.2.2.2.2.1, .i .i64 r.2.2.2.2.2.2.2.2.2.1, .list (r.2.2.2.2.2.2.2.2.2.2.1.map MV.s), .list (r.2.2.2.2.2.2.2.2.2.2.2.map ej)]
@[reducible] def v3 (r : (List aY) × Int × (List ar) × (List aL) × (List aD) × Int × Int × Int × (List UInt8) × Int × (List (List UInt8)) × Int) : List MV := [.list (r.1.map bD), .i .i64 r.2.1, .list (r.2.2.1.map br), .list (r.2.2.2.1.map b5), .list (r.2.2.2.2.1.map bC), .i .i64 r.2.2.2.2.2.1, .i .i64 r.2.2.2.2.2.2.1, .i .i64 r.2.2.2.2.2.2.2.1, .s r.2.2.2.2.2.2.2.2.1, .i .i64 r.2.2.2.2.2.2.2.2.2.1, .list (r.2.2.2.2.2.2.2.2.2.2.1.map MV.s), .i .i64 r.2.2.2.2.2.2.2.2.2.2.2]
@[reducible] def v4 (r : (List aY) × Int × (List ar) × (List aL) × (List aD) × Int × Int × Int × (List UInt8) × Int × (List (List UInt8))) : List MV := [.list (r.1.map bD), .i .i64 r.2.1, .list (r.2.2.1.map br), .list (r.2.2.2.1.map b5), .list (r.2.2.2.2.1.map bC), .i .i64 r.2.2.2.2.2.1, .i .i64 r.2.2.2.2.2.2.1, .i .i64 r.2.2.2.2.2.2.2.1, .s r.2.2.2.2.2.2.2.2.1, .i .i64 r.2.2.2.2.2.2.2.2.2.1, .list (r.2.2.2.2.2.2.2.2.2.2.map MV.s)]
@[reducible] def v5 (r : Int × Int × Int × (List UInt8) × Int × (List (List UInt8)) × Int × Int × Int × (List UInt8) × Int × (List (List UInt8))) : List MV := [.i .i64 r.1, .i .i64 r.2.1, .i .i64 r.2.2.1, .s r.2.2.2.1, .i .i64 r.2.2.2.2.1, .list (r.2.2.2.2.2.1.map MV.s), .i .i64 r.2.2.2.2.2.2.1, .i .i64 r.2.2.2.2.2.2.2.1, .i .i64 r.2.2.2.2.2.2.2.2.1, .s r.2.2.2.2.2.2.2.2.2.1, .i .i64 r.2.2.2.2.2.2.2.2.2.2.1, .list (r.2.2.2.2.2.2.2.2.2.2.2.map MV.s)]
@[reducible] def v6 (r : (List aY) × Int × (List ar) × (List aL) × (List aD) × Int) : List MV := [.list (r.1.map bD), .i .i64 r.2.1, .list (r.2.2.1.map br), .list (r.2.2.2.1.map b5), .list (r.2.2.2.2.1.map bC), .i .i64 r.2.2.2.2.2]
@[reducible] def v7 (r : (List aY) × Int × (List ar) × (List aL) × (List aD)) : List MV := [.list (r.1.map bD), .i .i64 r.2.1, .list (r.2.2.1.map br), .list (r.2.2.2.1.map b5), .list (r.2.2.2.2.map bC)]
@[reducible] def v8 (r : Int × Int × Int × (List UInt8) × Int × (List (List UInt8)) × Bool) : List MV := [.i .i64 r.1, .i .i64 r.2.1, .i .i64 r.2.2.1, .s r.2.2.2.1, .i .i64 r.2.2.2.2.1, .list (r.2.2.2.2.2.1.map MV.s), .b r.2.2.2.2.2.2]
@[reducible] def v9 (r : Int × Int × Int × (List UInt8) × Int × (List (List UInt8))) : List MV := [.i .i64 r.1, .i .i64 r.2.1, .i .i64 r.2.2.1, .s r.2.2.2.1, .i .i64 r.2.2.2.2.1, .list (r.2.2.2.2.2.map MV.s)]
theorem cq {A B:Type}{g:B->A}{T:Option B}{l:List MV}{K:Nat->Option A}(n:Nat)(h:Sm g (K n) T)(e:l.length=n:=by simp only [AS,AT,BY]):Sm g (a7 l K) T:=yc e h
theorem ao {A B C:Type}{g:B->A}{T:Option B}{f:C->MV}{M:List C}{K:Nat->Option A}(h:Sm g (K M.length) T):Sm g (a7 (M.map f) K) T:=yc (AS ..) h
theorem aa {A B:Type}{g:B->A}{d:A}{a:B}(e:d=g a:=by exact rfl):Sm g (some d) (some a):=cm e
theorem Ez {A B:Type}{g:B->A}{T:Option B}{k0:IntKind}{x0:Int}{x1:Bool}{K:Int->Bool->Option A}(h:Sm g (K x0 x1) T):Sm g (oIB k0 [.i k0 x0,.b x1] K) T:=ab (ay (ab (aG (ak h))))
theorem AQ {A B:Type}{g:B->A}{T:Option B}{k0 k1:IntKind}{x0:Int}{x1:Int}{K:Int->Int->Option A}(h:Sm g (K x0 x1) T):Sm g (oII k0 k1 [.i k0 x0,.i k1 x1] K) T:=ab (ay (ab (ay (ak h))))
theorem mw {A B:Type}{g:B->A}{T:Option B}{k0 k1 k2:IntKind}{x0:Int}{x1:Int}{x2:Int}{K:Int->Int->Int->Option A}(h:Sm g (K x0 x1 x2) T):Sm g (aef k0 k1 k2 [.i k0 x0,.i k1 x1,.i k2 x2] K) T:=ab (ay (ab (ay (ab (ay (ak h))))))
theorem bM {A B:Type}{g:B->A}{T:Option B}{k0 k1 k2 k4:IntKind}{x0:Int}{x1:Int}{x2:Int}{x3:List UInt8}{x4:Int}{x5:List MV}{K:Int->Int->Int->List UInt8->Int->List MV->Option A}(h:Sm g (K x0 x1 x2 x3 x4 x5) T):Sm g (DV k0 k1 k2 k4 [.i k0 x0,.i k1 x1,.i k2 x2,.s x3,.i k4 x4,.list x5] K) T:=ab (ay (ab (ay (ab (ay (ab (bA (ab (ay (ab (aH (ak h))))))))))))
theorem fA {A B:Type}{g:B->A}{T:Option B}{k0 k1 k2 k5 k6 k7:IntKind}{x0:Int}{x1:Int}{x2:Int}{x3:List UInt8}{x4:List UInt8}{x5:Int}{x6:Int}{x7:Int}{K:Int->Int->Int->List UInt8->List UInt8->Int->Int->Int->Option A}(h:Sm g (K x0 x1 x2 x3 x4 x5 x6 x7) T):Sm g (Mo k0 k1 k2 k5 k6 k7 [.i k0 x0,.i k1 x1,.i k2 x2,.s x3,.s x4,.i k5 x5,.i k6 x6,.i k7 x7] K) T:=ab (ay (ab (ay (ab (ay (ab (bA (ab (bA (ab (ay (ab (ay (ab (ay (ak h))))))))))))))))
theorem sP {A B:Type}{g:B->A}{T:Option B}{k0:IntKind}{x0:Int}{x1:List MV}{K:Int->List MV->Option A}(h:Sm g (K x0 x1) T):Sm g (oIL k0 [.i k0 x0,.list x1] K) T:=ab (ay (ab (aH (ak h))))
theorem AR {A B:Type}{g:B->A}{T:Option B}{x0:List MV}{x1:Bool}{K:List MV->Bool->Option A}(h:Sm g (K x0 x1) T):Sm g (O6 [.list x0,.b x1] K) T:=ab (aH (ab (aG (ak h))))
theorem rG {A B:Type}{g:B->A}{T:Option B}{k1:IntKind}{x0:List MV}{x1:Int}{K:List MV->Int->Option A}(h:Sm g (K x0 x1) T):Sm g (oLI k1 [.list x0,.i k1 x1] K) T:=ab (aH (ab (ay (ak h))))
theorem dF {A B:Type}{g:B->A}{T:Option B}{k1:IntKind}{x0:List MV}{x1:Int}{x2:List MV}{x3:List MV}{x4:List MV}{K:List MV->Int->List MV->List MV->List MV->Option A}(h:Sm g (K x0 x1 x2 x3 x4) T):Sm g (I3 k1 [.list x0,.i k1 x1,.list x2,.list x3,.list x4] K) T:=ab (aH (ab (ay (ab (aH (ab (aH (ab (aH (ak h))))))))))
theorem pI {A B:Type}{g:B->A}{T:Option B}{k1 k5 k6 k7 k9 k11:IntKind}{x0:List MV}{x1:Int}{x2:List MV}{x3:List MV}{x4:List MV}{x5:Int}{x6:Int}{x7:Int}{x8:List UInt8}{x9:Int}{pq:List MV}{rn:Int}{K:List MV->Int->List MV->List MV->List MV->Int->Int->Int->List UInt8->Int->List MV->Int->Option A}(h:Sm g (K x0 x1 x2 x3 x4 x5 x6 x7 x8 x9 pq rn) T):Sm g (ny k1 k5 k6 k7 k9 k11 [.list x0,.i k1 x1,.list x2,.list x3,.list x4,.i k5 x5,.i k6 x6,.i k7 x7,.s x8,.i k9 x9,.list pq,.i k11 rn] K) T:=ab (aH (ab (ay (ab (aH (ab (aH (ab (aH (ab (ay (ab (ay (ab (ay (ab (bA (ab (ay (ab (aH (ab (ay (ak h))))))))))))))))))))))))
theorem my {A B:Type}{g:B->A}{T:Option B}{k1 k5 k6 k7 k9:IntKind}{x0:List MV}{x1:Int}{x2:List MV}{x3:List MV}{x4:List MV}{x5:Int}{x6:Int}{x7:Int}{x8:List UInt8}{x9:Int}{pq:List MV}{rn:List MV}{K:List MV->Int->List MV->List MV->List MV->Int->Int->Int->List UInt8->Int->List MV->List MV->Option A}(h:Sm g (K x0 x1 x2 x3 x4 x5 x6 x7 x8 x9 pq rn) T):Sm g (kY k1 k5 k6 k7 k9 [.list x0,.i k1 x1,.list x2,.list x3,.list x4,.i k5 x5,.i k6 x6,.i k7 x7,.s x8,.i k9 x9,.list pq,.list rn] K) T:=ab (aH (ab (ay (ab (aH (ab (aH (ab (aH (ab (ay (ab (ay (ab (ay (ab (bA (ab (ay (ab (aH (ab (aH (ak h))))))))))))))))))))))))
theorem aI {A B:Type}{g:B->A}{T:Option B}{k1 k5 k6 k7 k10 k11 k12 k13 k14 k15 k17:IntKind}{x0:List MV}{x1:Int}{x2:List MV}{x3:List MV}{x4:List MV}{x5:Int}{x6:Int}{x7:Int}{x8:List UInt8}{x9:List UInt8}{pq:Int}{rn:Int}{zK:Int}{zw:Int}{DW:Int}{CU:Int}{EU:List UInt8}{Ft:Int}{Fu:List MV}{GV:List MV}{K:List MV->Int->List MV->List MV->List MV->Int->Int->Int->List UInt8->List UInt8->Int->Int->Int->Int->Int->Int->List UInt8->Int->List MV->List MV->Option A}(h:Sm g (K x0 x1 x2 x3 x4 x5 x6 x7 x8 x9 pq rn zK zw DW CU EU Ft Fu GV) T):Sm g (dn k1 k5 k6 k7 k10 k11 k12 k13 k14 k15 k17 [.list x0,.i k1 x1,.list x2,.list x3,.list x4,.i k5 x5,.i k6 x6,.i k7 x7,.s x8,.s x9,.i k10 pq,.i k11 rn,.i k12 zK,.i k13 zw,.i k14 DW,.i k15 CU,.s EU,.i k17 Ft,.list Fu,.list GV] K) T:=ab (aH (ab (ay (ab (aH (ab (aH (ab (aH (ab (ay (ab (ay (ab (ay (ab (bA (ab (bA (ab (ay (ab (ay (ab (ay (ab (ay (ab (ay (ab (ay (ab (bA (ab (ay (ab (aH (ab (aH (ak h))))))))))))))))))))))))))))))))))))))))
theorem JZ {A B:Type}{g:B->A}{T:Option B}{x0:List MV}{x1:List MV}{K:List MV->List MV->Option A}(h:Sm g (K x0 x1) T):Sm g (Yp [.list x0,.list x1] K) T:=ab (aH (ab (aH (ak h))))
theorem Cy {A B:Type}{g:B->A}{T:Option B}{k2:IntKind}{x0:List MV}{x1:List MV}{x2:Int}{K:List MV->List MV->Int->Option A}(h:Sm g (K x0 x1 x2) T):Sm g (alX k2 [.list x0,.list x1,.i k2 x2] K) T:=ab (aH (ab (aH (ab (ay (ak h))))))
theorem Q5 {A B:Type}{g:B->A}{T:Option B}{k1:IntKind}{x0:List UInt8}{x1:Int}{K:List UInt8->Int->Option A}(h:Sm g (K x0 x1) T):Sm g (oSI k1 [.s x0,.i k1 x1] K) T:=ab (bA (ab (ay (ak h))))
theorem nG {A B:Type}{g:B->A}{T:Option B}{k1:IntKind}{x0:List UInt8}{x1:Int}{x2:Bool}{K:List UInt8->Int->Bool->Option A}(h:Sm g (K x0 x1 x2) T):Sm g (alY k1 [.s x0,.i k1 x1,.b x2] K) T:=ab (bA (ab (ay (ab (aG (ak h))))))
theorem HB {A B:Type}{g:B->A}{T:Option B}{k1 k3:IntKind}{x0:List UInt8}{x1:Int}{x2:Bool}{x3:Int}{x4:List UInt8}{K:List UInt8->Int->Bool->Int->List UInt8->Option A}(h:Sm g (K x0 x1 x2 x3 x4) T):Sm g (aaM k1 k3 [.s x0,.i k1 x1,.b x2,.i k3 x3,.s x4] K) T:=ab (bA (ab (ay (ab (aG (ab (ay (ab (bA (ak h))))))))))
theorem dz {A B:Type}{g:B->A}{T:Option B}{k2 k3:IntKind}{x0:List UInt8}{x1:List UInt8}{x2:Int}{x3:Int}{K:List UInt8->List UInt8->Int->Int->Option A}(h:Sm g (K x0 x1 x2 x3) T):Sm g (agw k2 k3 [.s x0,.s x1,.i k2 x2,.i k3 x3] K) T:=ab (bA (ab (bA (ab (ay (ab (ay (ak h))))))))
theorem aeT (a:au):Sm MV.b (Hu (eg a)) (yd a):=by
 unfold Hu yd;refine ax (dF (ae (f:=λr=>[.b r]) ?_ λw=> ?_))
 ·refine ao<|ap ?_ ?_
  ·exact aa
  ·refine ao<|ap ?_ ?_
   ·exact aa
   ·refine ao<|ap ?_ ?_
    ·exact aa
    ·refine ao<|ap ?_ ?_
     ·exact aa
     ·exact aa
 ·refine ab (aG (ak (aw ?_ ?_)))
  ·exact aa
  ·refine ae (bu (λr=>[.i .i64 r]) (sh (λr=>(2,[])) (λr=>(1,[.b r]))) (rfl) λst=> ?_) λw1=> ?_
   ·unfold sW;refine ab (ay (ak (ao (ap ?_ ?_))))
    ·refine ae (f:=λr=>[.b r]) ?_ λw2=> ?_
     ·refine aU (f:=aW) (rfl) λy=>ax (dz (ap ?_ ?_))
      ·exact aa
      ·refine aU (f:=aW) (rfl) λy1=>ax (dz aa)
     ·refine ab (aG (ak (aw ?_ ?_)))
      ·exact aa
      ·exact aa
    ·exact aa
   ·rcases w1 with p1|p2
    ·refine eH rfl (ak (ae (bu (λr=>[.i .i64 r]) (sh (λr=>(4,[])) (λr=>(1,[.b r]))) (rfl) λdA=> ?_) λw3=> ?_))
     ·unfold sX;refine ab (ay (ak (ao (ap ?_ ?_))))
      ·refine aU (f:=bo) (rfl) λy2=>ax (nG (ap ?_ ?_))
       ·exact aa
       ·exact aa
      ·exact aa
     ·rcases w3 with p4|p5
      ·refine eH rfl (ak (ae (bu (λr=>[.i .i64 r]) (sh (λr=>(6,[])) (λr=>(1,[.b r]))) (rfl) λei=> ?_) λw4=> ?_))
       ·unfold sZ;refine ab (ay (ak (ao (ap ?_ ?_))))
        ·refine ae (f:=λr=>[.b r]) ?_ λw5=> ?_
         ·refine aU (f:=bh) (rfl) λy3=>ax (bM (ap ?_ ?_))
          ·exact aa
          ·refine aU (f:=bh) (rfl) λy4=>ax (bM (ao aa))
         ·refine ab (aG (ak (aw ?_ ?_)))
          ·exact aa
          ·refine ae (bu (λr=>[.i .i64 r]) (sh (λr=>(8,[])) (λr=>(1,[.b r]))) (rfl) λnp=> ?_) λw6=> ?_
           ·unfold sY;refine ab (ay (ak (aU (f:=bh) (rfl) λy5=>ax (bM (ao (ap ?_ ?_))))))
            ·refine aU (f:=bh) (rfl) λy6=>ax (bM (aU (f:=MV.s) (rfl) λy7=>bA (ap ?_ ?_)))
             ·exact aa
             ·exact aa
            ·exact aa
           ·rcases w6 with p8|p9
            ·refine eH rfl (ak aa)
            ·refine eI rfl (bc rfl (ab (aG (ak aa))))
        ·exact aa
       ·rcases w4 with p10|p11
        ·refine eH rfl (ak aa)
        ·refine eI rfl (bc rfl (ab (aG (ak aa))))
      ·refine eI rfl (bc rfl (ab (aG (ak aa))))
    ·refine eI rfl (bc rfl (ab (aG (ak aa))))
theorem Xk (lA:List aB):Sm MV.b (Bv (.list (lA.map eJ))) (wK lA):=by
 unfold Bv wK;refine aH<|ae (bu (λr=>[.i .i64 r]) (sh (λr=>(2,[])) (λr=>(1,[.b r]))) (rfl) λst=> ?_) λw=> ?_
 ·unfold u9;refine ab (ay (ak (ao (ap ?_ ?_))))
  ·refine ae (f:=λr=>[.b r]) ?_ λw1=> ?_
   ·refine ap ?_ ?_
    ·exact aa
    ·refine aU (f:=eJ) (rfl) λy=>ax (fA (ap ?_ ?_))
     ·exact aa
     ·refine aU (f:=eJ) (rfl) λy1=>ax (fA aa)
   ·refine ab (aG (ak (aw ?_ ?_)))
    ·exact aa
    ·exact aa
  ·exact aa
 ·rcases w with p1|p2
  ·refine eH rfl (ak aa)
  ·refine eI rfl (bc rfl (ab (aG (ak aa))))
theorem VI (p:List UInt8):Sm (λr=> .cj [.list (r.1.map MV.s),.b r.2]) (D6 (.s p)) (Bt p):=by
 unfold D6 Bt;refine bA<|ae (f:=λr=>[.b r]) ?_ λw=> ?_
 ·refine ap ?_ ?_
  ·exact aa
  ·refine bH aa
 ·refine ab (aG (ak (aw ?_ ?_)))
  ·exact aa
  ·refine ap ?_ ?_
   ·exact aa
   ·refine ae (bu (λr=>[.list (r.1.map MV.s),.s r.2.1,.i .i64 r.2.2]) (λr=>(2,[.list (r.1.map MV.s),.s r.2])) (rfl) λst=> ?_) λw1=> ?_
    ·unfold wL;refine ab (aH (Q5 (ap ?_ ?_)))
     ·refine bH<|ae (f:=(λr=>(0,[.list (r.1.map MV.s),.s r.2]))) ?_ λw2=> ?_
      ·refine ap ?_ ?_
       ·refine ao (cq (([st.2.1]:List (List UInt8)).length) (bH (cm (by simp))))
       ·refine bH<|Tj (M:=([((p.getD (AI st.2.2) 0).toNat:Int)]:List Int)) (rfl) λbs=>bH aa
      ·refine bc rfl (ab (aH (ab (bA (ak aa)))))
     ·exact aa
    ·refine bc rfl (ab (aH (ab (bA (ak (ao (cq (([w1.2]:List (List UInt8)).length) (bH (cm (by simp))))))))))
theorem TB (sA:List UInt8):Sm MV.b (yn (.s sA)) (tm sA):=by
 unfold yn tm;refine bA<|ae (bu (λr=>[.i .i64 r]) (sh (λr=>(2,[])) (λr=>(1,[.b r]))) (rfl) λst=> ?_) λw=> ?_
 ·unfold o6;refine ab (ay (ak (ap ?_ ?_)))
  ·refine bH<|ae (f:=λr=>[.b r]) ?_ λw1=> ?_
   ·refine ap ?_ ?_
    ·refine ap ?_ ?_
     ·exact aa
     ·refine ap ?_ ?_
      ·refine ap ?_ ?_
       ·exact aa
       ·refine ap ?_ ?_
        ·exact aa
        ·exact aa
      ·refine ap ?_ ?_
       ·exact aa
       ·exact aa
    ·refine ap ?_ ?_
     ·refine ap ?_ ?_
      ·exact aa
      ·refine ap ?_ ?_
       ·exact aa
       ·exact aa
     ·refine ap ?_ ?_
      ·exact aa
      ·exact aa
   ·refine ab (aG (ak (aw ?_ ?_)))
    ·exact aa
    ·exact aa
  ·exact aa
 ·rcases w with p1|p2
  ·refine eH rfl (ak (ae (f:=λr=>[.b r]) ?_ λw2=> ?_))
   ·refine ap ?_ ?_
    ·exact aa
    ·exact aa
   ·refine ab (aG (ak aa))
  ·refine eI rfl (bc rfl (ab (aG (ak aa))))
theorem qt (p:List UInt8):Sm MV.b (kZ (.s p)) (gM p):=by
 unfold kZ gM;refine bA<|ap ?_ ?_
 ·exact aa
 ·refine ae (VI p) λrA=>b9 (AR (ae (bu (λr=>[.i .i64 r]) (sh (λr=>(2,[])) (λr=>(1,[.b r]))) (rfl) λst=> ?_) λw=> ?_))
  ·unfold qW;refine ab (ay (ak (ao (ap ?_ ?_))))
   ·refine aU (f:=MV.s) (rfl) λy=>bA<|ae (TB y) λaT=>aG<|aw ?_ ?_
    ·exact aa
    ·exact aa
   ·exact aa
  ·rcases w with p3|p4
   ·refine eH rfl (ak (ae (f:=λr=>[.b r]) ?_ λw1=> ?_))
    ·refine aw ?_ ?_
     ·refine ao aa
     ·exact aa
    ·refine ab (aG (ak aa))
   ·refine eI rfl (bc rfl (ab (aG (ak aa))))
theorem BL (p:List UInt8):Sm (λr=> .cj [.list (r.1.map MV.s),.i .i64 r.2]) (qn (.s p)) (ov p):=by
 unfold qn ov;refine bA<|ae (qt p) λrA=>aG<|aw ?_ ?_
 ·exact aa
 ·refine ae (VI p) λaT=>b9 (AR aa)
theorem MN (p:List UInt8)(q:List UInt8):Sm MV.b (xf (.s p) (.s q)) (s4 p q):=by
 unfold xf s4;refine bA (bA (ae (BL p) λrA=>b9 (rG (ae (BL q) λaT=>b9 (rG (ae (f:=λr=>[.b r]) ?_ λw=> ?_))))))
 ·refine aw ?_ ?_
  ·exact aa
  ·exact aa
 ·refine ab (aG (ak (aw ?_ ?_)))
  ·exact aa
  ·refine ae (bu (λr=>[.i .i64 r]) (sh (λr=>(2,[])) (λr=>(1,[.b r]))) (rfl) λst=> ?_) λw1=> ?_
   ·unfold qX;refine ab (ay (ak (ae (f:=λr=>[.b r]) ?_ λw2=> ?_)))
    ·refine ao<|ap ?_ ?_
     ·refine ao aa
     ·exact aa
    ·refine ab (aG (ak (aw ?_ ?_)))
     ·refine aU (f:=MV.s) (rfl) λy=>bA<|aU (f:=MV.s) (rfl) λy1=>bA<|aw ?_ ?_
      ·refine aU (f:=MV.s) (rfl) λy2=>bA<|aU (f:=MV.s) (rfl) λy3=>bA aa
      ·exact aa
     ·exact aa
   ·rcases w1 with p3|p4
    ·refine eH rfl (ak (ao (ao aa)))
    ·refine eI rfl (bc rfl (ab (aG (ak aa))))
theorem abt (lA:List (List UInt8)):Sm MV.s (D8 (.list (lA.map MV.s))) (Ai lA):=by
 unfold D8 Ai;refine aH<|ae (bu (λr=>[.s r.1,.i .i64 r.2]) (λr=>(2,[.s r])) (rfl) λst=> ?_) λw=> ?_
 ·unfold tp;refine Q5 (ao (ap ?_ ?_))
  ·refine bH<|aU (f:=MV.s) (rfl) λy=>bA (bH aa)
  ·exact aa
 ·refine bc rfl (ab (bA (ak (ap ?_ ?_))))
  ·exact aa
  ·exact aa
theorem yT (p:List UInt8):Sm (λr=> .cj [.s r.1,.i .i64 r.2]) (n9 (.s p)) (jH p):=by
 unfold n9 jH;refine bA<|ae (BL p) λrA=>b9 (rG (aw ?_ ?_))
 ·exact aa
 ·refine ao<|ap ?_ ?_
  ·exact aa
  ·refine ao (ao (bH (ae (by simpa using abt (aaH (AI 0) (aaI (AI (c8 .i64 ((rA.1.length:Int)-1))) rA.1))) λaT=>bA aa)))
theorem C2 (sA:bE)(p:List UInt8):Sm (MV.i .i64) (vU (dN sA) (.s p)) (nh sA p):=by
 unfold vU nh;refine ax (ab (aH (ak (bA (ae (bu (λr=>[.i .i64 r]) (sh (λr=>(2,[])) (λr=>(1,[.i .i64 r]))) (rfl) λst=> ?_) λw=> ?_)))))
 ·unfold Aj;refine ab (ay (ak (ao (ap ?_ ?_))))
  ·refine aU (f:=bD) (rfl) λy=>ax (dz (ap ?_ ?_))
   ·exact aa
   ·exact aa
  ·exact aa
 ·rcases w with p3|p4
  ·refine eH rfl (ak aa)
  ·refine eI rfl (bc rfl (ab (ay (ak aa))))
theorem Xl (a:bE):Sm MV.b (Bw (dN a)) (wM a):=by
 unfold Bw wM;refine ax (ab (aH (ak (ae (f:=λr=>[.b r]) ?_ λw=> ?_))))
 ·refine ao<|ap ?_ ?_
  ·exact aa
  ·refine ao aa
 ·refine ab (aG (ak (aw ?_ ?_)))
  ·exact aa
  ·refine ae (bu (λr=>[.i .i64 r]) (sh (λr=>(2,[])) (λr=>(1,[.b r]))) (rfl) λst=> ?_) λw1=> ?_
   ·unfold qY;refine ab (ay (ak (ao (ap ?_ ?_))))
    ·refine aU (f:=bD) (rfl) λy=>ax (dz (ae (f:=λr=>[.b r]) ?_ λw2=> ?_))
     ·refine ae (qt y.Path) λrA=>aG<|aw ?_ ?_
      ·exact aa
      ·refine ap ?_ ?_
       ·exact aa
       ·refine ap ?_ ?_
        ·exact aa
        ·refine ap ?_ ?_
         ·exact aa
         ·refine ap ?_ ?_
          ·exact aa
          ·refine ap ?_ ?_
           ·refine aU (f:=bD) (rfl) λy1=>ax (dz (ae (MN y1.Path y.Path) λaT=>aG aa))
           ·exact aa
     ·refine ab (aG (ak (aw ?_ ?_)))
      ·exact aa
      ·refine ae (yT y.Path) λca=>b9 (Q5 (aw ?_ ?_))
       ·refine aw ?_ ?_
        ·exact aa
        ·exact aa
       ·refine ae (C2 a ca.1) λgO=>ay<|ae (f:=λr=>[.b r]) ?_ λw3=> ?_
        ·refine ap ?_ ?_
         ·exact aa
         ·refine aU (f:=bD) (rfl) λy2=>ax (dz aa)
        ·refine ab (aG (ak (aw ?_ ?_)))
         ·exact aa
         ·exact aa
    ·exact aa
   ·rcases w1 with p1|p2
    ·refine eH rfl (ak (ae (C2 a ([47]:List UInt8)) λoP=>ay aa))
    ·refine eI rfl (bc rfl (ab (aG (ak aa))))
theorem Xm (a:cJ):Sm MV.b (Bx (jG a)) (wN a):=by
 unfold Bx wN;refine ax (sP (ae (f:=λr=>[.b r]) ?_ λw=> ?_))
 ·refine ap ?_ ?_
  ·exact aa
  ·refine ap ?_ ?_
   ·exact aa
   ·refine ao aa
 ·refine ab (aG (ak (aw ?_ ?_)))
  ·exact aa
  ·refine ae (bu (λr=>[.i .i64 r]) (sh (λr=>(2,[])) (λr=>(1,[.b r]))) (rfl) λst=> ?_) λw1=> ?_
   ·unfold vc;refine ab (ay (ak (ao (ap ?_ ?_))))
    ·refine aU (f:=br) (rfl) λy=>ax (mw (ae (f:=λr=>[.b r]) ?_ λw2=> ?_))
     ·refine ap ?_ ?_
      ·exact aa
      ·refine ap ?_ ?_
       ·exact aa
       ·refine ap ?_ ?_
        ·exact aa
        ·refine ap ?_ ?_
         ·exact aa
         ·refine ap ?_ ?_
          ·exact aa
          ·refine ap ?_ ?_
           ·refine aU (f:=br) (rfl) λy1=>ax (mw aa)
           ·exact aa
     ·refine ab (aG (ak (aw ?_ ?_)))
      ·exact aa
      ·exact aa
    ·exact aa
   ·rcases w1 with p1|p2
    ·refine eH rfl (ak aa)
    ·refine eI rfl (bc rfl (ab (aG (ak aa))))
theorem VJ (lA:List aL)(w:aL):Sm MV.b (D9 (.list (lA.map b5)) (b5 w)) (sF lA w):=by
 unfold D9 sF;refine aH (ax (nG (ae (bu (λr=>[.i .i64 r]) (sh (λr=>(2,[])) (λr=>(1,[.b r]))) (rfl) λst=> ?_) λw1=> ?_)))
 ·unfold wO;refine ab (ay (ak (ao (ap ?_ ?_))))
  ·refine aU (f:=b5) (rfl) λy=>ax (nG (aw ?_ ?_))
   ·exact aa
   ·exact aa
  ·exact aa
 ·rcases w1 with p1|p2
  ·refine eH rfl (ak aa)
  ·refine eI rfl (bc rfl (ab (aG (ak aa))))
theorem Xn (t:eK):Sm MV.b (Bz (qU t)) (wP t):=by
 unfold Bz wP;refine ax (ab (aH (ak (ae (bu (λr=>[.i .i64 r]) (sh (λr=>(2,[])) (λr=>(1,[.b r]))) (rfl) λst=> ?_) λw=> ?_))))
 ·unfold vd;refine ab (ay (ak (ao (ap ?_ ?_))))
  ·refine ae (f:=λr=>[.b r]) ?_ λw1=> ?_
   ·refine aU (f:=b5) (rfl) λy=>ax (nG (ae (qt y.Path) λrA=>aG (aw ?_ ?_)))
    ·exact aa
    ·refine aU (f:=b5) (rfl) λy1=>ax (nG (ap ?_ ?_))
     ·exact aa
     ·refine ao (bH (aU (f:=b5) (rfl) λy2=>ax (nG (ae (by simpa using VJ (aaH (AI 0) (aaI (AI st) t.L)) y2) λaT=>aG aa))))
   ·refine ab (aG (ak (aw ?_ ?_)))
    ·exact aa
    ·exact aa
  ·exact aa
 ·rcases w with p1|p2
  ·refine eH rfl (ak (ao aa))
  ·refine eI rfl (bc rfl (ab (aG (ak aa))))
theorem Xo (a:b6):Sm MV.b (BA (fH a)) (wQ a):=by
 unfold BA wQ;refine ax (dF (ae (f:=λr=>[.b r]) ?_ λw=> ?_))
 ·refine ae (Xl a.Shelf) λrA=>aG<|aw ?_ ?_
  ·exact aa
  ·refine ae (Xm a.aN) λaT=>aG<|aw ?_ ?_
   ·exact aa
   ·refine ae (Xn a.aR) λca=>aG<|aw ?_ ?_
    ·exact aa
    ·refine ao aa
 ·refine ab (aG (ak (aw ?_ ?_)))
  ·exact aa
  ·refine ae (bu (λr=>[.i .i64 r]) (sh (λr=>(2,[])) (λr=>(1,[.b r]))) (rfl) λst=> ?_) λw1=> ?_
   ·unfold ve;refine ab (ay (ak (ao (ap ?_ ?_))))
    ·refine aU (f:=bC) (rfl) λy=>ax (bM (ae (f:=λr=>[.b r]) ?_ λw2=> ?_))
     ·refine ap ?_ ?_
      ·exact aa
      ·refine ap ?_ ?_
       ·exact aa
       ·refine ap ?_ ?_
        ·exact aa
        ·refine ap ?_ ?_
         ·refine aU (f:=bC) (rfl) λy1=>ax (bM aa)
         ·exact aa
     ·refine ab (aG (ak (aw ?_ ?_)))
      ·exact aa
      ·exact aa
    ·exact aa
   ·rcases w1 with p1|p2
    ·refine eH rfl (ak aa)
    ·refine eI rfl (bc rfl (ab (aG (ak aa))))
theorem Q6 (rA:aj):Sm bC (Aw (bh rA)) (wR rA):=by unfold Aw wR;refine ax (bM aa)
theorem Q7 (lA:List aj):Sm (GS bC) (vg (.list (lA.map bh))) (qZ lA):=by
 unfold vg qZ;refine aH<|ae (bu (λr=>[.list (r.1.map bC),.i .i64 r.2]) (λr=>(2,[.list (r.map bC)])) (rfl) λst=> ?_) λw=> ?_
 ·unfold nv;refine rG (ao (ap ?_ ?_))
  ·refine aU (f:=bh) (rfl) λy=>ax (bM (ae (Q6 y) λrA=>ax (bM (ao (cq (([rA]:List aD).length) (bH (cm (by simp [bR]))))))))
  ·exact aa
 ·refine bc rfl (ab (aH (ak aa)))
theorem BM (a:au):Sm fH (qo (eg a)) (ox a):=by
 unfold qo ox;refine ax (dF (ae (Q7 a.Seen) λrA=>aH (ae (bu (λr=>(v6 r)) (λr=>(2,(v7 r))) (rfl) λst=> ?_) λw=> ?_)))
 ·unfold q0;refine ab (aH (ab (ay (ab (aH (Cy (ao (ap ?_ ?_))))))))
  ·refine aU (f:=aW) (rfl) λy=>ax (dz (ao (cq (([(⟨y.Path,y.Value,y.Version,y.bF⟩:aY)]:List aY).length) (bH (cm (by simp [cD,sH,fq,v6,v7]))))))
  ·exact aa
 ·refine bc rfl (dF (ae (bu (λr=>(v6 r)) (λr=>(4,(v7 r))) (rfl) λdA=> ?_) λw1=> ?_))
  ·unfold q8;refine ab (aH (ab (ay (ab (aH (Cy (ao (ap ?_ ?_))))))))
   ·refine aU (f:=a8) (rfl) λy1=>ax (mw (ao (cq (([(⟨y1.Id,y1.Span,y1.cF⟩:ar)]:List ar).length) (bH (cm (by simp [cD,sH,fq,v6,v7]))))))
   ·exact aa
  ·refine bc rfl (dF (ae (bu (λr=>(v6 r)) (λr=>(6,(v7 r))) (rfl) λei=> ?_) λw2=> ?_))
   ·unfold q9;refine ab (aH (ab (ay (ab (aH (Cy (ao (ap ?_ ?_))))))))
    ·refine aU (f:=bo) (rfl) λy2=>ax (nG (ao (cq (([(⟨y2.Path,y2.Client,y2.Kids⟩:aL)]:List aL).length) (bH (cm (by simp [cD,sH,fq,v6,v7]))))))
    ·exact aa
   ·refine bc rfl (dF aa)
theorem G9 (o:aB):Sm eJ (nR (eJ o)) (bP o):=by
 unfold nR bP;refine ax (fA (ap ?_ ?_))
 ·exact aa
 ·refine ae (f:=(λr=>(0,[.b r]))) ?_ λw=> ?_
  ·refine ap ?_ ?_
   ·exact aa
   ·refine ae (f:=(λr=>(0,[.b r]))) ?_ λw1=> ?_
    ·refine ap ?_ ?_
     ·exact aa
     ·refine ae (f:=(λr=>(0,[.b r]))) ?_ λw2=> ?_
      ·refine ap ?_ ?_
       ·exact aa
       ·exact aa
      ·refine bc rfl (ab (aG (ak aa)))
    ·refine bc rfl (ab (aG (ak aa)))
  ·refine bc rfl (ab (aG (ak (aw ?_ ?_))))
   ·exact aa
   ·refine ap ?_ ?_
    ·exact aa
    ·refine ap ?_ ?_
     ·exact aa
     ·refine ap ?_ ?_
      ·exact aa
      ·refine ae (f:=(λr=>(0,[.b r]))) ?_ λw3=> ?_
       ·refine ap ?_ ?_
        ·exact aa
        ·exact aa
       ·refine bc rfl (ab (aG (ak (aw ?_ ?_))))
        ·exact aa
        ·refine ap ?_ ?_
         ·exact aa
         ·exact aa
theorem Xp (o:aB):Sm MV.b (BB (eJ o)) (mJ o):=by
 unfold BB mJ;refine ax (fA (ae (f:=λr=>[.b r]) ?_ λw=> ?_))
 ·refine ap ?_ ?_
  ·refine ap ?_ ?_
   ·refine ap ?_ ?_
    ·exact aa
    ·exact aa
   ·exact aa
  ·exact aa
 ·refine ab (aG (ak (ae (f:=λr=>[.b r]) ?_ λw1=> ?_)))
  ·refine aw ?_ ?_
   ·refine ap ?_ ?_
    ·refine ap ?_ ?_
     ·refine ap ?_ ?_
      ·refine ap ?_ ?_
       ·refine ae (G9 o) λrA=>ax (fA aa)
       ·exact aa
      ·exact aa
     ·exact aa
    ·exact aa
   ·exact aa
  ·refine ab (aG (ak aa))
theorem EA (x:Int):Sm MV.b (pz (.i .i64 x)) (o7 x):=by unfold pz o7;refine ay aa
theorem AU (x:Int)(y:Int):Sm (MV.i .i64) (mq (.i .i64 x) (.i .i64 y)) (j0 x y):=by
 unfold mq j0;refine ay (ay (ae (EA x) λrA=>aG (ae (EA y) λaT=>aG (aw ?_ ?_))))
 ·refine aw ?_ ?_
  ·exact aa
  ·exact aa
 ·refine aw ?_ ?_
  ·exact aa
  ·refine ap ?_ ?_
   ·exact aa
   ·refine ap ?_ ?_
    ·exact aa
    ·exact aa
theorem C3 (x:aj)(dI:Int):Sm (MV.i .i64) (ku (bh x) (.i .i64 dI)) (dD x dI):=by unfold ku dD;refine ax (bM (ay (ae (AU x.Client dI) λrA=>ay aa)))
theorem nk (x:List aj)(target:Int)(cmp:aj->Int->Option Int){Ow:Nat}{zv:List MV}(GA:gv Ow=false)(fQ: ∀(u0:aj)(u1:Int),Sm (MV.i .i64) (da Ow ([bh u0,.i .i64 u1]++zv)) (cmp u0 u1)):Sm (λr=> .cj [.i .i64 r.1,.b r.2]) (dr (.list (x.map bh)) (.i .i64 target) (.func Ow zv)) (dq x target cmp):=by
 unfold dr dq;refine aH (ay (vR (ao (ae (bu (λr=>[.i .i64 r.1,.i .i64 r.2]) (λr=>(2,[.i .i64 r])) (rfl) λst=> ?_) λw=> ?_))))
 ·unfold gu;refine AQ<|ap ?_ ?_
  ·refine bH<|aU (f:=bh) (rfl) λy=>ax (bM (vQ (bc (by rw [GA];rfl) (ae (fQ y target) λrA=>ay (ae (f:=(λr=>(0,[.i .i64 r.1,.i .i64 r.2]))) ?_ λw1=> ?_)))))
   ·refine ap ?_ ?_
    ·exact aa
    ·exact aa
   ·refine bc rfl (AQ aa)
  ·exact aa
 ·refine bc rfl (ab (ay (ak (ae (f:=λr=>[.i .i64 r.1,.b r.2]) ?_ λw2=> ?_))))
  ·refine ap ?_ ?_
   ·refine aU (f:=bh) (rfl) λy1=>ax (bM (vQ (bc (by rw [GA];rfl) (ae (fQ y1 target) λaT=>ay aa))))
   ·exact aa
  ·refine Ez aa
theorem xp (rA:au)(dI:Int):Sm (λr=> .cj [.i .i64 r.1,.b r.2]) (j9 (eg rA) (.i .i64 dI)) (fV rA dI):=by unfold j9 fV;refine ax (dF (ay (ae (nk rA.Seen dI dD (Ow:=120) (zv:=[]) rfl (λu2 u3=>Sm.at (ic _ _) (C3 u2 u3))) λaT=>b9 (Ez aa))))
theorem J0 (rA:au)(dI:Int):Sm (λr=> .cj [bh r.1,.b r.2]) (ua (eg rA) (.i .i64 dI)) (qk rA dI):=by
 unfold ua qk;refine ax (dF (ay (ae (xp rA dI) λaT=>b9 (Ez (aw ?_ ?_)))))
 ·exact aa
 ·refine aU (f:=bh) (rfl) λy=>ax (bM aa)
theorem FC (rA:au)(o:aB):Sm (λr=> .cj [bh r.1,.b r.2]) (mP (eg rA) (eJ o)) (j5 rA o):=by
 unfold mP j5;refine ax (dF (ax (fA (ae (J0 rA o.Client) λaT=>b9 (ab (ax (bM (ab (aG (ak (ae (Xp o) λca=>aG (ae (f:=(sh (λr=>(0,(v5 r))) (λr=>(1,(v8 r))))) ?_ λw=> ?_))))))))))))
 ·refine aw ?_ ?_
  ·exact aa
  ·refine ae (f:=λr=>[.b r]) ?_ λw1=> ?_
   ·refine aw ?_ ?_
    ·exact aa
    ·exact aa
   ·refine ab (aG (ak (aw ?_ ?_)))
    ·exact aa
    ·refine ae (f:=λr=>[.b r]) ?_ λw2=> ?_
     ·refine aw ?_ ?_
      ·exact aa
      ·exact aa
     ·refine ab (aG (ak (ae (f:=(sh (λr=>(0,(v5 r))) (λr=>(1,(v8 r))))) ?_ λw3=> ?_)))
      ·refine aw ?_ ?_
       ·exact aa
       ·refine ae (f:=λr=>[.b r]) ?_ λw4=> ?_
        ·refine aw ?_ ?_
         ·refine ao aa
         ·exact aa
        ·refine ab (aG (ak (aw ?_ ?_)))
         ·exact aa
         ·exact aa
      ·rcases w3 with p2|p3
       ·refine eH rfl (ab (ay (ab (ay (ab (ay (ab (bA (ab (ay (ab (aH (bM aa)))))))))))))
       ·refine eI rfl (bc rfl (ab (ay (ab (ay (ab (ay (ab (bA (ab (ay (AR aa))))))))))))
 ·rcases w with p4|p5
  ·refine eH rfl (ab (ay (ab (ay (ab (ay (ab (bA (ab (ay (ab (aH (bM aa)))))))))))))
  ·refine eI rfl (bc rfl (ab (ay (ab (ay (ab (ay (ab (bA (ab (ay (AR aa))))))))))))
theorem C4 (w:ai):Sm (λr=> .e9 ((λ_=> .cj []) r.1) (bV r.2)) (kv (bV w)) (n6 w):=by unfold kv n6;refine aI aa
theorem EB (x:aC)(id:Int):Sm (MV.i .i64) (lB (a8 x) (.i .i64 id)) (dR x id):=by unfold lB dR;refine ax (mw (ay (ae (AU x.Id id) λrA=>ay aa)))
theorem mz (x:List aC)(target:Int)(cmp:aC->Int->Option Int){Ow:Nat}{zv:List MV}(GA:gv Ow=false)(fB: ∀(u0:aC)(u1:Int),Sm (MV.i .i64) (cR Ow ([a8 u0,.i .i64 u1]++zv)) (cmp u0 u1)):Sm (λr=> .cj [.i .i64 r.1,.b r.2]) (db (.list (x.map a8)) (.i .i64 target) (.func Ow zv)) (c9 x target cmp):=by
 unfold db c9;refine aH (ay (vR (ao (ae (bu (λr=>[.i .i64 r.1,.i .i64 r.2]) (λr=>(2,[.i .i64 r])) (rfl) λst=> ?_) λw=> ?_))))
 ·unfold fO;refine AQ<|ap ?_ ?_
  ·refine bH<|aU (f:=a8) (rfl) λy=>ax (mw (vQ (bc (by rw [GA];rfl) (ae (fB y target) λrA=>ay (ae (f:=(λr=>(0,[.i .i64 r.1,.i .i64 r.2]))) ?_ λw1=> ?_)))))
   ·refine ap ?_ ?_
    ·exact aa
    ·exact aa
   ·refine bc rfl (AQ aa)
  ·exact aa
 ·refine bc rfl (ab (ay (ak (ae (f:=λr=>[.i .i64 r.1,.b r.2]) ?_ λw2=> ?_))))
  ·refine ap ?_ ?_
   ·refine aU (f:=a8) (rfl) λy1=>ax (mw (vQ (bc (by rw [GA];rfl) (ae (fB y1 target) λaT=>ay aa))))
   ·exact aa
  ·refine Ez aa
theorem nX (b:aK)(id:Int):Sm (λr=> .cj [.i .i64 r.1,.b r.2]) (ig (dQ b) (.i .i64 id)) (eQ b id):=by unfold ig eQ;refine ax (sP (ay (ae (mz b.L id dR (Ow:=144) (zv:=[]) rfl (λu2 u3=>Sm.at (gJ _ _) (EB u2 u3))) λrA=>b9 (Ez aa))))
theorem Xq (b:aK)(id:Int):Sm MV.b (BC (dQ b) (.i .i64 id)) (wS b id):=by unfold BC wS;refine ax (sP (ay (ae (nX b id) λrA=>b9 (Ez aa))))
theorem zF (sA:List UInt8)(dS:List UInt8):Sm MV.b (jb (.s sA) (.s dS)) (iX sA dS):=by
 unfold jb iX;refine bA (bA (ae (f:=λr=>[.b r]) ?_ λw=> ?_))
 ·refine ap ?_ ?_
  ·refine bH aa
  ·exact aa
 ·refine ab (aG (ak aa))
theorem zG (sA:List UInt8)(dS:List UInt8):Sm (λr=> .cj [.s r.1,.b r.2]) (jc (.s sA) (.s dS)) (iY sA dS):=by
 unfold jc iY;refine bA (bA (ae (zF sA dS) λrA=>aG (aw ?_ ?_)))
 ·exact aa
 ·refine bH aa
theorem EC (sA:List UInt8)(dS:List UInt8):Sm (λr=> .cj [.s r.1,.b r.2]) (lC (.s sA) (.s dS)) (jk sA dS):=by unfold lC jk;refine bA (bA (ae (zG sA dS) λrA=>b9 (ab (bA (ab (aG (ak aa)))))))
theorem Ln (c:Int):Sm MV.b (qJ (.i .i32 c)) (iI c):=by unfold qJ iI;refine ay<|ae (WY ([97,98,99,100,101,102,103,104,105,106,107,108,109,110,111,112,113,114,115,116,117,118,119,120,121,122,48,49,50,51,52,53,54,55,56,57,45,95]:List UInt8) c) λrA=>aG aa
theorem Ha (sA:List UInt8)(f:Int->Option Bool)(Gl:Bool){Dg:Nat}{uE:List MV}(KK:gv Dg=false)(jC: ∀(u0:Int),Sm MV.b (jx Dg ([.i .i32 u0]++uE)) (f u0)):Sm (MV.i .i64) (nS (.s sA) (.func Dg uE) (.b Gl)) (nP sA f Gl):=by
 unfold nS nP;refine bA (vR (aG (ae (bu (λr=>[.list r]) (sh (λr=>(2,[])) (λr=>(1,[.i .i64 r]))) (rfl) λst=> ?_) λw=> ?_)))
 ·unfold jm;refine ab (aH (ak (aw ?_ ?_)))
  ·refine vQ (bc (by rw [KK];rfl) (ae (jC (zQ st)) λrA=>aG (ap ?_ ?_)))
   ·exact aa
   ·exact aa
  ·exact aa
 ·rcases w with p1|p2
  ·refine eH rfl (ak aa)
  ·refine eI rfl (bc rfl (ab (ay (ak aa))))
theorem ED (sA:List UInt8)(f:Int->Option Bool){Dg:Nat}{uE:List MV}(KK:gv Dg=false)(jC: ∀(u0:Int),Sm MV.b (jx Dg ([.i .i32 u0]++uE)) (f u0)):Sm (MV.i .i64) (lD (.s sA) (.func Dg uE)) (lz sA f):=by unfold lD lz;refine bA (vR (ae (Ha sA f true KK jC) λrA=>ay aa))
theorem AV (sA:List UInt8)(f:Int->Option Bool){Dg:Nat}{uE:List MV}(KK:gv Dg=false)(jC: ∀(u0:Int),Sm MV.b (jx Dg ([.i .i32 u0]++uE)) (f u0)):Sm MV.b (jy (.s sA) (.func Dg uE)) (gw sA f):=by unfold jy gw;refine bA (vR (ae (ED sA f KK jC) λrA=>ay aa))
theorem Q8 (sA:List UInt8):Sm MV.b (vk (.s sA)) (ra sA):=by
 unfold vk ra;refine bA<|ae (f:=λr=>[.b r]) ?_ λw=> ?_
 ·refine aw ?_ ?_
  ·refine ap ?_ ?_
   ·refine ae (aij sA ([97,98,99,100,101,102,103,104,105,106,107,108,109,110,111,112,113,114,115,116,117,118,119,120,121,122,48,49,50,51,52,53,54,55,56,57,45,95]:List UInt8)) λrA=>bA<|ap ?_ ?_
    ·refine ae (AV sA iI (Dg:=237) (uE:=[]) rfl (λu1=>Sm.at (rT _) (Ln u1))) λaT=>aG aa
    ·exact aa
   ·exact aa
  ·exact aa
 ·refine ab (aG (ak aa))
theorem Ox (sA:List UInt8):Sm MV.b (sI (.s sA)) (mK sA):=by unfold sI mK;refine bA<|ae (Q8 sA) λrA=>aG aa
theorem yU (sA:List (List UInt8))(f:(List UInt8)->Option Bool){Dg:Nat}{uE:List MV}(KK:gv Dg=false)(jK: ∀(u0:List UInt8),Sm MV.b (fY Dg ([.s u0]++uE)) (f u0)):Sm (MV.i .i64) (iz (.list (sA.map MV.s)) (.func Dg uE)) (iv sA f):=by
 unfold iz iv;refine aH (vR (ao (ae (bu (λr=>[.i .i64 r]) (sh (λr=>(2,[])) (λr=>(1,[.i .i64 r]))) (rfl) λst=> ?_) λw=> ?_)))
 ·unfold eL;refine ab (ay (ak (ap ?_ ?_)))
  ·refine aU (f:=MV.s) (rfl) λy=>bA (vQ (bc (by rw [KK];rfl) (ae (jK y) λrA=>aG (aw ?_ ?_))))
   ·exact aa
   ·exact aa
  ·exact aa
 ·rcases w with p1|p2
  ·refine eH rfl (ak aa)
  ·refine eI rfl (bc rfl (ab (ay (ak aa))))
theorem uK (sA:List (List UInt8))(f:(List UInt8)->Option Bool){Dg:Nat}{uE:List MV}(KK:gv Dg=false)(jK: ∀(u0:List UInt8),Sm MV.b (fY Dg ([.s u0]++uE)) (f u0)):Sm MV.b (fL (.list (sA.map MV.s)) (.func Dg uE)) (et sA f):=by unfold fL et;refine aH (vR (ae (yU sA f KK jK) λrA=>ay aa))
theorem qu (p:List UInt8):Sm (λr=> .cj [.list (r.1.map MV.s),.b r.2]) (kz (.s p)) (iO p):=by
 unfold kz iO;refine bA<|ae (EC p ([47]:List UInt8)) λrA=>b9 (ab (bA (ab (aG (ak (ae (f:=λr=>[.b r]) ?_ λw=> ?_))))))
 ·refine aw ?_ ?_
  ·exact aa
  ·exact aa
 ·refine ab (aG (ak (aw ?_ ?_)))
  ·exact aa
  ·refine ap ?_ ?_
   ·exact aa
   ·refine ae (ad4 rA.1 ([47]:List UInt8)) λaT=>fh<|ae (f:=λr=>[.list (r.1.map MV.s),.b r.2.1,.list (r.2.2.map MV.s)]) ?_ λw1=> ?_
    ·refine ao<|ap ?_ ?_
     ·refine ae (uK aT mK (Dg:=196) (uE:=[]) rfl (λu1=>Sm.at (oc _) (Ox u1))) λca=>aG aa
     ·exact aa
    ·refine ab (aH (ab (aG (ab (aH (ak aa))))))
theorem zq (x:List UInt8):Sm MV.b (kU (.s x)) (kM x):=by unfold kU kM;refine bA aa
theorem EE (x:List UInt8)(y:List UInt8):Sm (MV.i .i64) (lE (.s x) (.s y)) (jn x y):=by
 unfold lE jn;refine bA (bA (ae (zq x) λrA=>aG (ae (zq y) λaT=>aG (aw ?_ ?_))))
 ·refine aw ?_ ?_
  ·exact aa
  ·exact aa
 ·refine aw ?_ ?_
  ·exact aa
  ·refine aw ?_ ?_
   ·exact aa
   ·refine aw ?_ ?_
    ·exact aa
    ·exact aa
theorem AW (s1:List (List UInt8))(s2:List (List UInt8)):Sm (MV.i .i64) (jz (.list (s1.map MV.s)) (.list (s2.map MV.s))) (gx s1 s2):=by
 unfold jz gx;refine aH (aH (ao (ae (bu (λr=>[.i .i64 r]) (sh (λr=>(2,[])) (λr=>(1,[.i .i64 r]))) (rfl) λst=> ?_) λw=> ?_)))
 ·unfold fj;refine ab (ay (ak (ap ?_ ?_)))
  ·refine aU (f:=MV.s) (rfl) λy=>bA (ao (ap ?_ ?_))
   ·exact aa
   ·refine aU (f:=MV.s) (rfl) λy1=>bA<|ae (EE y y1) λrA=>ay<|aw ?_ ?_
    ·exact aa
    ·exact aa
  ·exact aa
 ·rcases w with p1|p2
  ·refine eH rfl (ak (ao (ao (ap ?_ ?_))))
   ·exact aa
   ·exact aa
  ·refine eI rfl (bc rfl (ab (ay (ak aa))))
theorem TD (p:List UInt8)(q:List UInt8):Sm MV.b (yu (.s p) (.s q)) (tq p q):=by
 unfold yu tq;refine bA (bA (ae (qu p) λrA=>b9 (AR (ae (qu q) λaT=>b9 (AR (ae (f:=λr=>[.b r]) ?_ λw=> ?_))))))
 ·refine aw ?_ ?_
  ·refine aw ?_ ?_
   ·refine ae (AW rA.1 aT.1) λca=>ay aa
   ·exact aa
  ·exact aa
 ·refine ab (aG (ak aa))
theorem C5 (n:af)(p:List UInt8):Sm (MV.i .i64) (kA (aW n) (.s p)) (cP n p):=by
 unfold kA cP;refine ax (dz (bA (ap ?_ ?_)))
 ·exact aa
 ·refine ae (TD n.Path p) λrA=>aG<|aw ?_ ?_
  ·exact aa
  ·exact aa
theorem mA (x:List af)(target:List UInt8)(cmp:af->(List UInt8)->Option Int){Ow:Nat}{zv:List MV}(GA:gv Ow=false)(fC: ∀(u0:af)(u1:List UInt8),Sm (MV.i .i64) (cS Ow ([aW u0,.s u1]++zv)) (cmp u0 u1)):Sm (λr=> .cj [.i .i64 r.1,.b r.2]) (dc (.list (x.map aW)) (.s target) (.func Ow zv)) (ec x target cmp):=by
 unfold dc ec;refine aH (bA (vR (ao (ae (bu (λr=>[.i .i64 r.1,.i .i64 r.2]) (λr=>(2,[.i .i64 r])) (rfl) λst=> ?_) λw=> ?_))))
 ·unfold fP;refine AQ<|ap ?_ ?_
  ·refine bH<|aU (f:=aW) (rfl) λy=>ax (dz (vQ (bc (by rw [GA];rfl) (ae (fC y target) λrA=>ay (ae (f:=(λr=>(0,[.i .i64 r.1,.i .i64 r.2]))) ?_ λw1=> ?_)))))
   ·refine ap ?_ ?_
    ·exact aa
    ·exact aa
   ·refine bc rfl (AQ aa)
  ·exact aa
 ·refine bc rfl (ab (ay (ak (ae (f:=λr=>[.i .i64 r.1,.b r.2]) ?_ λw2=> ?_))))
  ·refine ap ?_ ?_
   ·refine aU (f:=aW) (rfl) λy1=>ax (dz (vQ (bc (by rw [GA];rfl) (ae (fC y1 target) λaT=>ay aa))))
   ·exact aa
  ·refine Ez aa
theorem xq (sA:aA)(p:List UInt8):Sm (λr=> .cj [.i .i64 r.1,.b r.2]) (ka (cB sA) (.s p)) (eV sA p):=by unfold ka eV;refine ax (ab (aH (ak (bA (ae (mA sA.L p cP (Ow:=245) (zv:=[]) rfl (λu2 u3=>Sm.at (gz _ _) (C5 u2 u3))) λrA=>b9 (Ez aa))))))
theorem ur (p:List UInt8):Sm MV.b (mr (.s p)) (kq p):=by unfold mr kq;refine bA<|ae (qu p) λrA=>b9 (AR aa)
theorem sQ (sA:List UInt8)(c:Int):Sm (MV.i .i64) (eY (.s sA) (.i .u8 c)) (eX sA c):=by
 unfold eY eX;refine bA (ay (ae (bu (λr=>[.i .i64 r]) (sh (λr=>(2,[])) (λr=>(1,[.i .i64 r]))) (rfl) λst=> ?_) λw=> ?_))
 ·unfold eC;refine ab (ay (ak (ap ?_ ?_)))
  ·refine bH<|ap ?_ ?_
   ·exact aa
   ·exact aa
  ·exact aa
 ·rcases w with p1|p2
  ·refine eH rfl (ak aa)
  ·refine eI rfl (bc rfl (ab (ay (ak aa))))
theorem wc (sep:List UInt8):Sm (λr=> .cj [.i .u32 r.1,.i .u32 r.2]) (fZ (.s sep)) (jI sep):=by
 unfold fZ jI;refine bA<|ae (bu (λr=>[.i .u32 r.1,.i .i64 r.2]) (λr=>(2,[.i .u32 r])) (rfl) λst=> ?_) λw=> ?_
 ·unfold mc;refine AQ<|ap ?_ ?_
  ·refine bH aa
  ·exact aa
 ·refine bc rfl (ab (ay (ak (ae (bu (λr=>[.i .u32 r.1,.i .u32 r.2.1,.i .i64 r.2.2]) (λr=>(4,[.i .u32 r])) (rfl) λdA=> ?_) λw1=> ?_))))
  ·unfold mf;refine mw<|ap ?_ ?_
   ·exact ad1
   ·exact aa
  ·refine bc rfl (ab (ay (ak aa)))
theorem pJ (a:List UInt8)(a1:List UInt8):Sm (MV.i .i64) (dU (.s a) (.s a1)) (fm a a1):=by
 unfold dU fm;refine bA (bA (ae (wc a1) λrA=>b9 (AQ (ae (bu (λr=>[.i .u32 r.1,.i .i64 r.2]) (λr=>(2,[.i .u32 r])) (rfl) λst=> ?_) λw=> ?_))))
 ·unfold iP;refine AQ<|ap ?_ ?_
  ·refine bH aa
  ·exact aa
 ·refine bc rfl (ab (ay (ak (ae (f:=λr=>[.b r]) ?_ λw1=> ?_))))
  ·refine ap ?_ ?_
   ·refine bH aa
   ·exact aa
  ·refine ab (aG (ak (aw ?_ ?_)))
   ·exact aa
   ·refine ae (bu (λr=>[.i .u32 r.1,.i .i64 r.2]) (sh (λr=>(4,[])) (λr=>(1,[.i .i64 r]))) (rfl) λdA=> ?_) λw2=> ?_
    ·unfold iQ;refine AQ<|ap ?_ ?_
     ·refine bH (bH (ae (f:=λr=>[.b r]) ?_ λw3=> ?_))
      ·refine ap ?_ ?_
       ·refine bH aa
       ·exact aa
      ·refine ab (aG (ak (aw ?_ ?_)))
       ·exact aa
       ·exact aa
     ·exact aa
    ·rcases w2 with p2|p3
     ·refine eH rfl (ak aa)
     ·refine eI rfl (bc rfl (ab (ay (ak aa))))
theorem EF (sA:List UInt8)(substr:List UInt8):Sm (MV.i .i64) (lG (.s sA) (.s substr)) (jo sA substr):=by
 unfold lG jo;refine bA (bA (ap ?_ ?_))
 ·exact aa
 ·refine ap ?_ ?_
  ·refine bH<|ae (sQ sA ((substr.getD (AI 0) 0).toNat:Int)) λrA=>ay aa
  ·refine ap ?_ ?_
   ·refine ap ?_ ?_
    ·exact aa
    ·exact aa
   ·refine ap ?_ ?_
    ·exact aa
    ·refine ae (pJ sA substr) λaT=>ay aa
theorem GB (p:List UInt8):Sm (λr=> .cj [.s r.1,.i .i64 r.2]) (rB (.s p)) (oz p):=by
 unfold rB oz;refine bA<|ae (ur p) λrA=>aG<|aw ?_ ?_
 ·exact aa
 ·refine ap ?_ ?_
  ·exact aa
  ·refine ae (EF p ([47]:List UInt8)) λaT=>ay (bH aa)
theorem rZ (sA:aA)(p:List UInt8):Sm (λr=> .cj [.i .i64 r.1,.i .i64 r.2]) (ji (cB sA) (.s p)) (ib sA p):=by
 unfold ji ib;refine ax (ab (aH (ak (bA (ae (ur p) λrA=>aG (aw ?_ ?_))))))
 ·exact aa
 ·refine ae (xq sA p) λaT=>b9 (Ez (aw ?_ ?_))
  ·exact aa
  ·exact aa
theorem FD (sA:aA)(p:List UInt8):Sm (λr=> .cj [aW r.1,.i .i64 r.2]) (s8 (cB sA) (.s p)) (ql sA p):=by
 unfold s8 ql;refine ax (ab (aH (ak (bA (ae (rZ sA p) λrA=>b9 (AQ (aw ?_ ?_)))))))
 ·exact aa
 ·refine aU (f:=aW) (rfl) λy=>ax (dz aa)
theorem J1 (c:List UInt8)(c1:Bool)(c2:aA)(c3:List UInt8)(c4:Int):Sm (MV.i .i64) (pC (.rp [.s c]) (.rp [.b c1]) (.rp [.list (c2.L.map aW)]) (.rp [.s c3]) (.rp [.i .i64 c4])) (iR c c1 c2 c3 c4):=by
 unfold pC iR;refine Mj (ab (bA (ak (Mj (ab (aG (ak (Mj (ab (aH (ak (Mj (ab (bA (ak (Mj (ab (ay (ak (ae (ur c) λrA=>aG (aw ?_ ?_)))))))))))))))))))))
 ·exact aa
 ·refine aw ?_ ?_
  ·exact aa
  ·refine ae (GB c) λaT=>b9 (Q5 (ae (FD c2 aT.1) λca=>b9 (ab (ax (dz (ab (ay (ak (aw ?_ ?_)))))))))
   ·exact aa
   ·refine aw ?_ ?_
    ·exact aa
    ·refine ap ?_ ?_
     ·exact aa
     ·refine ap ?_ ?_
      ·exact aa
      ·refine ao<|ap ?_ ?_
       ·exact aa
       ·exact aa
theorem Oy (sA:aA)(p:List UInt8)(value:List UInt8)(owner:Int):Sm (λr=> .cj [cB r.1,.i .i64 r.2]) (sJ (cB sA) (.s p) (.s value) (.i .i64 owner)) (mL sA p value owner):=by
 unfold sJ mL;refine ax (ab (aH (ak (bA (bA (ay (ae (xq sA p) λrA=>b9 (Ez (ae (J1 p rA.2 sA value owner) λaT=>ay (aw ?_ ?_))))))))))
 ·exact aa
 ·refine Bs<|ae (sE (size:=4) (f:=aW) (λ_=>rfl) sA.L) λca=>fh<|ae (IR (f:=aW) ca rA.1 ([(⟨p,value,0,owner⟩:af)]:List af)) λgO=>fh aa
theorem oe (w:ai)(kind:Int):Sm (λr=> .e9 ((λ_=> .cj []) r.1) (bV r.2)) (fX (bV w) (.i .i64 kind)) (ee w kind):=by
 unfold fX ee;refine ay (aI (ae (f:=(λr=>(0,(v1 r)))) ?_ λw1=> ?_))
 ·refine ap ?_ ?_
  ·refine ao (cq (([(⟨kind,w.o.Path⟩:aF)]:List aF).length) (bH (cm (by simp [bV,az,v1]))))
  ·exact aa
 ·refine bc rfl (aI aa)
theorem EG (w:ai):Sm (λr=> .e9 ((λ_=> .cj []) r.1) (bV r.2)) (lH (bV w)) (jq w):=by
 unfold lH jq;refine aI<|ae (f:=λr=>[.b r]) ?_ λw1=> ?_
 ·refine aw ?_ ?_
  ·refine ae (Xq w.r.aN w.o.Session) λrA=>aG aa
  ·exact aa
 ·refine ab (aG (ak (aw ?_ ?_)))
  ·exact aa
  ·refine ae (Oy w.r.Shelf w.o.Path w.o.Value w.o.Session) λaT=>b9 (ab (ax (ab (aH (ak (ab (ay (ak (ae (oe (⟨(⟨aT.1,w.r.aN,w.r.aR,w.r.Seen⟩:au),w.o,(⟨w.x.Client,w.x.Seq,aT.2,w.x.Value,w.x.Version,w.x.Names⟩:aj),w.l⟩:ai) 1) λca=>Mi (aI aa))))))))))
theorem J3 (w:ai):Sm (λr=> .e9 ((λ_=> .cj []) r.1) (bV r.2)) (pD (bV w)) (mg w):=by unfold pD mg;refine aI<|ae (FD w.r.Shelf w.o.Path) λrA=>b9 (ab (ax (dz (ab (ay (ak aa))))))
theorem rH (sA:aA)(p:List UInt8)(version:Int):Sm (λr=> .cj [.i .i64 r.1,.i .i64 r.2]) (gE (cB sA) (.s p) (.i .i64 version)) (eW sA p version):=by
 unfold gE eW;refine ax (ab (aH (ak (bA (ay (ae (rZ sA p) λrA=>b9 (AQ (ae (f:=λr=>[.b r]) ?_ λw=> ?_))))))))
 ·refine ap ?_ ?_
  ·refine aw ?_ ?_
   ·refine aU (f:=aW) (rfl) λy=>ax (dz aa)
   ·exact aa
  ·exact aa
 ·refine ab (aG (ak (aw ?_ ?_)))
  ·exact aa
  ·exact aa
theorem Xr (sA:aA)(p:List UInt8)(value:List UInt8)(version:Int):Sm (λr=> .cj [cB r.1,.i .i64 r.2]) (BD (cB sA) (.s p) (.s value) (.i .i64 version)) (wT sA p value version):=by
 unfold BD wT;refine ax (ab (aH (ak (bA (bA (ay (ae (rH sA p version) λrA=>b9 (AQ (aw ?_ ?_)))))))))
 ·exact aa
 ·refine ap ?_ ?_
  ·exact aa
  ·refine aU (f:=aW) (rfl) λy=>ax (dz (ap ?_ ?_))
   ·exact aa
   ·refine ae (sE (size:=4) (f:=aW) (λ_=>rfl) sA.L) λaT=>fh<|aU (f:=aW) (rfl) λy1=>ax (dz (aU (f:=aW) (by simp only [yb,No,IN,aaa,aaj,aaf,aai,aaG]) λy2=>ax (dz (aU (f:=aW) (by simp only [yb,No,IN,aaa,aaj,aaf,aai,aaG]) λy3=>ax (dz (cm (by simp [fq])))))))
theorem J4 (w:ai):Sm (λr=> .e9 ((λ_=> .cj []) r.1) (bV r.2)) (pE (bV w)) (mh w):=by
 unfold pE mh;refine aI<|ae (Xr w.r.Shelf w.o.Path w.o.Value w.o.Version) λrA=>b9 (ab (ax (ab (aH (ak (ab (ay (ak (ae (oe (⟨(⟨rA.1,w.r.aN,w.r.aR,w.r.Seen⟩:au),w.o,(⟨w.x.Client,w.x.Seq,rA.2,w.x.Value,w.x.Version,w.x.Names⟩:aj),w.l⟩:ai) 2) λaT=>Mi (aI (ae (f:=(λr=>(0,(v1 r)))) ?_ λw1=> ?_)))))))))))
 ·refine ap ?_ ?_
  ·refine ae (FD aT.2.r.Shelf aT.2.o.Path) λca=>b9 (ab (ax (dz (ab (ay (ak aa))))))
  ·exact aa
 ·refine bc rfl (aI aa)
theorem uu (s1:List (List UInt8))(s2:List (List UInt8)):Sm MV.b (iU (.list (s1.map MV.s)) (.list (s2.map MV.s))) (fW s1 s2):=by
 unfold iU fW;refine aH (aH (ao (ao (aw ?_ ?_))))
 ·exact aa
 ·refine ao<|ae (bu (λr=>[.i .i64 r]) (sh (λr=>(2,[])) (λr=>(1,[.b r]))) (rfl) λst=> ?_) λw=> ?_
  ·unfold jr;refine ab (ay (ak (ap ?_ ?_)))
   ·refine aU (f:=MV.s) (rfl) λy=>bA<|aU (f:=MV.s) (rfl) λy1=>bA<|aw ?_ ?_
    ·exact aa
    ·exact aa
   ·exact aa
  ·rcases w with p1|p2
   ·refine eH rfl (ak aa)
   ·refine eI rfl (bc rfl (ab (aG (ak aa))))
theorem J5 (p:List UInt8)(q:List UInt8):Sm MV.b (ui (.s p) (.s q)) (n7 p q):=by
 unfold ui n7;refine bA (bA (ae (qu p) λrA=>b9 (AR (ae (qu q) λaT=>b9 (AR (ae (f:=λr=>[.b r]) ?_ λw=> ?_))))))
 ·refine aw ?_ ?_
  ·refine aw ?_ ?_
   ·refine ao (ao (ap ?_ ?_))
    ·refine ao (ao (bH (ae (by simpa using uu rA.1 (aaH (AI 0) (aaI (AI (rA.1.length:Int)) aT.1))) λca=>aG aa)))
    ·exact aa
   ·exact aa
  ·exact aa
 ·refine ab (aG (ak aa))
theorem Oz (sA:aA)(p:List UInt8)(version:Int):Sm (λr=> .cj [cB r.1,.i .i64 r.2]) (sK (cB sA) (.s p) (.i .i64 version)) (o8 sA p version):=by
 unfold sK o8;refine ax (ab (aH (ak (bA (ay (ae (rH sA p version) λrA=>b9 (AQ (ap ?_ ?_))))))))
 ·exact aa
 ·refine aw ?_ ?_
  ·exact aa
  ·refine ae (f:=λr=>[.b r]) ?_ λw=> ?_
   ·refine ao<|ap ?_ ?_
    ·refine aU (f:=aW) (rfl) λy=>ax (dz (ae (J5 p y.Path) λaT=>aG aa))
    ·exact aa
   ·refine ab (aG (ak (aw ?_ ?_)))
    ·exact aa
    ·refine ae (sE (size:=4) (f:=aW) (λ_=>rfl) sA.L) λca=>fh<|ae (Qe (f:=aW) ca rA.1 (c8 .i64 (rA.1+1))) λgO=>fh aa
theorem EH (w:ai):Sm (λr=> .e9 ((λ_=> .cj []) r.1) (bV r.2)) (lI (bV w)) (jt w):=by unfold lI jt;refine aI<|ae (Oz w.r.Shelf w.o.Path w.o.Version) λrA=>b9 (ab (ax (ab (aH (ak (ab (ay (ak (ae (oe (⟨(⟨rA.1,w.r.aN,w.r.aR,w.r.Seen⟩:au),w.o,(⟨w.x.Client,w.x.Seq,rA.2,w.x.Value,w.x.Version,w.x.Names⟩:aj),w.l⟩:ai) 3) λaT=>Mi (aI aa))))))))))
theorem J6 (p:List UInt8):Sm (λr=> .cj [.list (r.1.map MV.s),.i .i64 r.2]) (uj (.s p)) (qm p):=by
 unfold uj qm;refine bA<|ae (qu p) λrA=>b9 (AR (aw ?_ ?_))
 ·exact aa
 ·exact aa
theorem TE (a:aA)(a1:List UInt8):Sm (λr=> .cj [.list (r.1.map MV.s),.i .i64 r.2]) (yz (cB a) (.s a1)) (tt a a1):=by
 unfold yz tt;refine ax (ab (aH (ak (bA (ae (rZ a a1) λrA=>b9 (AQ (aw ?_ ?_)))))))
 ·exact aa
 ·refine ae (J6 a1) λaT=>b9 (rG (bc (sD (rfl:_=aaJ aW a.L) λ_=>rfl) (ao (bH (yc (n:=(aaH (AI (c8 .i64 (rA.1+1))) (aaI (AI (a.L.length:Int)) a.L)).length) (by simp only [AS,By,AT,BY,IS,IT,OF]) (ae (bu (λr=>[.list (r.1.map MV.s),.i .i64 r.2]) (λr=>(2,[.list (r.map MV.s)])) (rfl) λst=> ?_) λw=> ?_))))))
  ·unfold o9;refine rG<|ap ?_ ?_
   ·refine aU (f:=aW) (by simp only [yb,No,IN,aaa,aaj,aaf,aai,aaG]) λy=>ax (dz (ae (J5 a1 y.Path) λca=>aG (aw ?_ ?_)))
    ·exact aa
    ·refine ae (J6 y.Path) λgO=>b9 (rG (ao (ao (ae (f:=(λr=>(0,[.list (r.map MV.s)]))) ?_ λw1=> ?_))))
     ·refine ap ?_ ?_
      ·refine ao<|aU (f:=MV.s) (rfl) λy1=>bA (ao (cq (([y1]:List (List UInt8)).length) (bH (cm (by first|(simp;done)|simp only [aW,cB,Gk,DR,IN,aaa,aaj,aaf,aai,aaG])))))
      ·exact aa
     ·refine bc rfl (ab (aH (ak aa)))
   ·exact aa
  ·refine bc rfl (ab (aH (ak aa)))
theorem Hb (w:ai):Sm (λr=> .e9 ((λ_=> .cj []) r.1) (bV r.2)) (nT (bV w)) (kN w):=by unfold nT kN;refine aI<|ae (TE w.r.Shelf w.o.Path) λrA=>b9 (rG aa)
theorem TF (b:aK)(id:Int)(span:Int):Sm (λr=> .cj [dQ r.1,.i .i64 r.2]) (yA (dQ b) (.i .i64 id) (.i .i64 span)) (tu b id span):=by
 unfold yA tu;refine ax (sP (ay (ay (ae (nX b id) λrA=>b9 (Ez (ae (f:=λr=>[.b r]) ?_ λw=> ?_))))))
 ·refine ap ?_ ?_
  ·exact aa
  ·refine ap ?_ ?_
   ·exact aa
   ·exact aa
 ·refine ab (aG (ak (aw ?_ ?_)))
  ·exact aa
  ·refine aw ?_ ?_
   ·exact aa
   ·refine ao<|ap ?_ ?_
    ·exact aa
    ·refine Bs<|ae (sE (size:=3) (f:=a8) (λ_=>rfl) b.L) λaT=>fh<|ae (IR (f:=a8) aT rA.1 ([(⟨id,span,c8 .i64 (b.ct+span)⟩:aC)]:List aC)) λca=>fh aa
theorem Hc (w:ai):Sm (λr=> .e9 ((λ_=> .cj []) r.1) (bV r.2)) (nU (bV w)) (kO w):=by unfold nU kO;refine aI<|ae (TF w.r.aN w.o.Session w.o.Span) λrA=>b9 (ab (ax (sP (ab (ay (ak aa))))))
theorem Q9 (b:aK)(id:Int):Sm (λr=> .cj [dQ r.1,.i .i64 r.2]) (vq (dQ b) (.i .i64 id)) (rc b id):=by
 unfold vq rc;refine ax (sP (ay (ae (nX b id) λrA=>b9 (Ez (aw ?_ ?_)))))
 ·exact aa
 ·refine ae (sE (size:=3) (f:=a8) (λ_=>rfl) b.L) λaT=>fh<|aU (f:=a8) (rfl) λy=>ax (mw (aU (f:=a8) (rfl) λy1=>ax (mw (cm (by simp)))))
theorem FE (w:ai):Sm (λr=> .e9 ((λ_=> .cj []) r.1) (bV r.2)) (mS (bV w)) (j6 w):=by unfold mS j6;refine aI<|ae (Q9 w.r.aN w.o.Session) λrA=>b9 (ab (ax (sP (ab (ay (ak aa))))))
theorem Ra (b:aK)(id:Int):Sm (λr=> .cj [dQ r.1,.i .i64 r.2]) (vr (dQ b) (.i .i64 id)) (re b id):=by
 unfold vr re;refine ax (sP (ay (ae (nX b id) λrA=>b9 (Ez (aw ?_ ?_)))))
 ·exact aa
 ·refine ae (sE (size:=3) (f:=a8) (λ_=>rfl) b.L) λaT=>fh<|ae (Qe (f:=a8) aT rA.1 (c8 .i64 (rA.1+1))) λca=>fh aa
theorem TG (sA:aA)(owner:Int):Sm (λr=> .cj [cB r.1,.list (r.2.map MV.s)]) (yB (cB sA) (.i .i64 owner)) (tw sA owner):=by
 unfold yB tw;refine ax (ab (aH (ak (ay (ao (ae (bu (λr=>[.list (r.1.map MV.s),.list (r.2.1.map aW),.i .i64 r.2.2]) (λr=>(2,[.list (r.1.map MV.s),.list (r.2.map aW)])) (rfl) λst=> ?_) λw=> ?_))))))
 ·unfold pa;refine Cy<|ap ?_ ?_
  ·refine aU (f:=aW) (rfl) λy=>ax (dz (ae (f:=λr=>[.b r]) ?_ λw1=> ?_))
   ·refine ap ?_ ?_
    ·exact aa
    ·exact aa
   ·refine ab (aG (ak (aw ?_ ?_)))
    ·refine ao (cq (([y.Path]:List (List UInt8)).length) (bH (cm (by simp [fq]))))
    ·refine ao (cq (([y]:List af).length) (bH (cm (by simp [fq]))))
  ·exact aa
 ·refine bc rfl (JZ aa)
theorem zr (w:ai)(id:Int):Sm (λr=> .e9 ((λ_=> .cj []) r.1) (bV r.2)) (kW (bV w) (.i .i64 id)) (jh w id):=by
 unfold kW jh;refine ay (aI (ae (TG w.r.Shelf id) λrA=>b9 (ab (ax (ab (aH (ak (ab (aH (ak (ao (ae (bu (λr=>(v0 r)) (λr=>(2,(v1 r))) (rfl) λst=> ?_) λw1=> ?_))))))))))))
 ·unfold ju;refine ab (ay (aI (ap ?_ ?_)))
  ·refine aU (f:=MV.s) (rfl) λy=>bA (ao (cq (([(⟨3,y⟩:aF)]:List aF).length) (bH (cm (by simp [bV,az,v0,v1])))))
  ·exact aa
 ·refine bc rfl (aI aa)
theorem FF (w:ai):Sm (λr=> .e9 ((λ_=> .cj []) r.1) (bV r.2)) (mT (bV w)) (j7 w):=by
 unfold mT j7;refine aI<|ae (Ra w.r.aN w.o.Session) λrA=>b9 (ab (ax (sP (ab (ay (ak (ae (f:=(λr=>(0,(v1 r)))) ?_ λw1=> ?_)))))))
 ·refine ap ?_ ?_
  ·refine ae (zr (⟨(⟨w.r.Shelf,rA.1,w.r.aR,w.r.Seen⟩:au),w.o,(⟨w.x.Client,w.x.Seq,rA.2,w.x.Value,w.x.Version,w.x.Names⟩:aj),w.l⟩:ai) w.o.Session) λaT=>Mi (aI aa)
  ·exact aa
 ·refine bc rfl (aI aa)
theorem TH (b:aK)(now:Int):Sm (λr=> .cj [dQ r.1,.list (r.2.1.map (MV.i .i64)),.i .i64 r.2.2]) (yC (dQ b) (.i .i64 now)) (tx b now):=by
 unfold yC tx;refine ax (sP (ay (ap ?_ ?_)))
 ·exact aa
 ·refine ap ?_ ?_
  ·exact aa
  ·refine ao<|ae (bu (λr=>[.list (r.1.map (MV.i .i64)),.i .i64 r.2.1,.list (r.2.2.1.map a8),.i .i64 r.2.2.2]) (λr=>(3,[.list (r.1.map (MV.i .i64)),.i .i64 r.2.1,.list (r.2.2.map a8)])) (rfl) λst=> ?_) λw=> ?_
   ·unfold pc;refine ab (aH (ab (ay (rG (ap ?_ ?_)))))
    ·refine aU (f:=a8) (rfl) λy=>ax (mw (ap ?_ ?_))
     ·refine ao (cq (([y.Id]:List Int).length) (bH (cm (by simp))))
     ·refine ao (cq (([y]:List aC).length) (bH (cm (by simp))))
    ·exact aa
   ·refine bc rfl (ab (aH (sP aa)))
theorem Hd (w:ai):Sm (λr=> .e9 ((λ_=> .cj []) r.1) (bV r.2)) (nV (bV w)) (kP w):=by
 unfold nV kP;refine aI<|ae (TH w.r.aN w.o.Span) λrA=>b9 (ab (ax (sP (rG (aw ?_ ?_)))))
 ·exact aa
 ·refine ao<|ae (bu (λr=>(v0 r)) (λr=>(2,(v1 r))) (rfl) λst=> ?_) λw1=> ?_
  ·unfold jv;refine ab (ay (aI (ap ?_ ?_)))
   ·refine aU (f:=(MV.i .i64)) (rfl) λy=>ay<|ae (zr (⟨(⟨(⟨st.2.1⟩:aA),(⟨st.2.2.1,st.2.2.2.1⟩:aK),(⟨st.2.2.2.2.1⟩:cf),st.2.2.2.2.2.1⟩:au),(⟨st.2.2.2.2.2.2.1,st.2.2.2.2.2.2.2.1,st.2.2.2.2.2.2.2.2.1,st.2.2.2.2.2.2.2.2.2.1,st.2.2.2.2.2.2.2.2.2.2.1,st.2.2.2.2.2.2.2.2.2.2.2.1,st.2.2.2.2.2.2.2.2.2.2.2.2.1,st.2.2.2.2.2.2.2.2.2.2.2.2.2.1⟩:aB),(⟨st.2.2.2.2.2.2.2.2.2.2.2.2.2.2.1,st.2.2.2.2.2.2.2.2.2.2.2.2.2.2.2.1,st.2.2.2.2.2.2.2.2.2.2.2.2.2.2.2.2.1,st.2.2.2.2.2.2.2.2.2.2.2.2.2.2.2.2.2.1,st.2.2.2.2.2.2.2.2.2.2.2.2.2.2.2.2.2.2.1,st.2.2.2.2.2.2.2.2.2.2.2.2.2.2.2.2.2.2.2.1⟩:aj),st.2.2.2.2.2.2.2.2.2.2.2.2.2.2.2.2.2.2.2.2⟩:ai) y) λaT=>Mi (aI aa)
   ·exact aa
  ·refine bc rfl (aI aa)
theorem yV (sA:List aq)(v:aq):Sm (MV.i .i64) (iA (.list (sA.map bo)) (bo v)) (iw sA v):=by
 unfold iA iw;refine aH (ax (nG (ao (ae (bu (λr=>[.i .i64 r]) (sh (λr=>(2,[])) (λr=>(1,[.i .i64 r]))) (rfl) λst=> ?_) λw=> ?_))))
 ·unfold eM;refine ab (ay (ak (ap ?_ ?_)))
  ·refine aU (f:=bo) (rfl) λy=>ax (nG (aw ?_ ?_))
   ·exact aa
   ·exact aa
  ·exact aa
 ·rcases w with p1|p2
  ·refine eH rfl (ak aa)
  ·refine eI rfl (bc rfl (ab (ay (ak aa))))
theorem uL (sA:List aq)(v:aq):Sm MV.b (fM (.list (sA.map bo)) (bo v)) (eu sA v):=by unfold fM eu;refine aH (ax (nG (ae (yV sA v) λrA=>ay aa)))
theorem Xs (t:cf)(w:aq):Sm (λr=> .cj [jF r.1,.i .i64 r.2]) (BE (jF t) (bo w)) (s5 t w):=by
 unfold BE s5;refine ax (ab (aH (ak (ax (nG (ae (ur w.Path) λrA=>aG (aw ?_ ?_)))))))
 ·exact aa
 ·refine ap ?_ ?_
  ·exact aa
  ·refine ae (uL t.L w) λaT=>aG<|aw ?_ ?_
   ·exact aa
   ·refine ao<|ap ?_ ?_
    ·exact aa
    ·refine Bs<|ae (sE (size:=3) (f:=bo) (λ_=>rfl) t.L) λca=>fh (ao (cq (([w]:List aq).length) (bH (cm (by simp)))))
theorem FG (w:ai):Sm (λr=> .e9 ((λ_=> .cj []) r.1) (bV r.2)) (mU (bV w)) (j8 w):=by unfold mU j8;refine aI<|ae (Xs w.r.aR (⟨w.o.Path,w.o.Client,decide (w.o.Kind=11)⟩:aq)) λrA=>b9 (ab (ax (ab (aH (ak (ab (ay (ak aa))))))))
theorem TJ:Sm (GS (λx:Nat=>MV.func x [])) (yD) (tz):=by unfold yD tz;exact aa
theorem Lo (c:aF)(w:aq):Sm MV.b (qO (gq c) (bo w)) (nw c w):=by
 unfold qO nw;refine ax (ab (ay (ab (bA (ak (ax (nG (ae (f:=λr=>[.b r]) ?_ λw1=> ?_))))))))
 ·refine ap ?_ ?_
  ·exact aa
  ·refine ap ?_ ?_
   ·exact aa
   ·refine ae (ur c.Path) λrA=>aG aa
 ·refine ab (aG (ak (aw ?_ ?_)))
  ·exact aa
  ·refine aw ?_ ?_
   ·exact aa
   ·refine ae (GB c.Path) λaT=>b9 (Q5 (ae (f:=λr=>[.b r]) ?_ λw2=> ?_))
    ·refine ap ?_ ?_
     ·refine aw ?_ ?_
      ·exact aa
      ·exact aa
     ·exact aa
    ·refine ab (aG (ak aa))
theorem OA (w:aq)(c:aF)(c1:List bI):Sm (λr=> .e9 (MV.b r.1) [.list (r.2.map eh)]) (pG (bo w) (.rp [.i .i64 c.Kind,.s c.Path]) [.list (c1.map eh)]) (mM w c c1):=by
 unfold pG mM;refine ax (nG (Mj (ab (ay (ab (bA (ak (ab (aH (ak (ae (Lo c w) λrA=>aG (ae (f:=(λr=>(0,[.list (r.map eh)]))) ?_ λw1=> ?_))))))))))))
 ·refine aw ?_ ?_
  ·refine ao (cq (([(⟨w,c⟩:bI)]:List bI).length) (bH (cm (by simp))))
  ·exact aa
 ·refine bc rfl (ab (aH (ak aa)))
theorem TL (t:cf)(lA:List aF):Sm (λr=> .cj [jF r.1,.list (r.2.map eh)]) (yH (jF t) (.list (lA.map gq))) (tA t lA):=by
 unfold yH tA;refine ax (ab (aH (ak (aH (ae (sE (size:=3) (f:=bo) (λ_=>rfl) t.L) λrA=>fh (ao (ae (bu (λr=>[.list (r.1.map bo),.list (r.2.1.map eh),.i .i64 r.2.2]) (λr=>(2,[.list (r.1.map bo),.list (r.2.map eh)])) (rfl) λst=> ?_) λw=> ?_)))))))
 ·unfold pe;refine Cy<|ap ?_ ?_
  ·refine aU (f:=gq) (rfl) λy=>ax (ab (ay (ab (bA (ak (bc (aax (rfl:_=aaJ bo st.1) λ_=>rfl) (ae (aay (f:=bo) (lv:=(λsA=>[.list (sA.map eh)])) (cE:=[.rp [.i .i64 y.Kind,.s y.Path]]) (λu sA=>Sm.at (yG (bo u) (.rp [.i .i64 y.Kind,.s y.Path]) [.list (sA.map eh)]) (OA u y sA)) st.2.1 st.1) λaT=>ab (aH (ak aa)))))))))
  ·exact aa
 ·refine bc rfl (JZ aa)
theorem Lp (k:Nat)(x0:ai):Sm (λr=> .e9 ((λ_=> .cj []) r.1) [.list (r.2.r.Shelf.L.map aW),.i .i64 r.2.r.aN.ct,.list (r.2.r.aN.L.map a8),.list (r.2.r.aR.L.map bo),.list (r.2.r.Seen.map bh),.i .i64 r.2.o.Client,.i .i64 r.2.o.Seq,.i .i64 r.2.o.Kind,.s r.2.o.Path,.s r.2.o.Value,.i .i64 r.2.o.Version,.i .i64 r.2.o.Session,.i .i64 r.2.o.Span,.i .i64 r.2.x.Client,.i .i64 r.2.x.Seq,.i .i64 r.2.x.E,.s r.2.x.Value,.i .i64 r.2.x.Version,.list (r.2.x.Names.map MV.s),.list (r.2.l.map gq)]) (KD [105,106,107,108,109,110,111,112,113,114,115] k λk=>dM k [.cell (.func 0 [.list (x0.r.Shelf.L.map aW),.i .i64 x0.r.aN.ct,.list (x0.r.aN.L.map a8),.list (x0.r.aR.L.map bo),.list (x0.r.Seen.map bh),.i .i64 x0.o.Client,.i .i64 x0.o.Seq,.i .i64 x0.o.Kind,.s x0.o.Path,.s x0.o.Value,.i .i64 x0.o.Version,.i .i64 x0.o.Session,.i .i64 x0.o.Span,.i .i64 x0.x.Client,.i .i64 x0.x.Seq,.i .i64 x0.x.E,.s x0.x.Value,.i .i64 x0.x.Version,.list (x0.x.Names.map MV.s),.list (x0.l.map gq)])]) (nx k x0):=by unfold nx;refine qF (λ_=>Sm.at (rE _) (C4 x0))<|qF (λ_=>Sm.at (rV _) (EG x0))<|qF (λ_=>Sm.at (uH _) (J3 x0))<|qF (λ_=>Sm.at (uI _) (J4 x0))<|qF (λ_=>Sm.at (rW _) (EH x0))<|qF (λ_=>Sm.at (ul _) (Hb x0))<|qF (λ_=>Sm.at (um _) (Hc x0))<|qF (λ_=>Sm.at (sL _) (FE x0))<|qF (λ_=>Sm.at (sM _) (FF x0))<|qF (λ_=>Sm.at (uo _) (Hd x0))<|ad2 (λ_=>Sm.at (sN _) (FG x0))
theorem AX (a:au)(a1:aB):Sm (λr=> .cj [eg r.1,bh r.2.1,.list (r.2.2.map eh)]) (oK (eg a) (eJ a1)) (mi a a1):=by
 unfold oK mi;refine ax (dF (ax (fA (ae (FC a a1) λrA=>b9 (ab (ax (bM (ab (aG (ak (aw ?_ ?_)))))))))))
 ·exact aa
 ·refine ae (TJ) λaT=>aH<|aU (f:=(λx:Nat=>MV.func x [])) (rfl) λy=>vR (vQ (ak (ae (Lp y (⟨a,a1,rA.1,([]:List aF)⟩:ai)) λca=>Mi (aI (ae (TL ca.2.r.aR ca.2.l) λgO=>b9 (ab (ax (ab (aH (ak (ab (aH (ak (ae (sE (size:=6) (f:=bh) (λ_=>rfl) a.Seen) λoP=>fh (ae (xp a a1.Client) λrR=>b9 (Ez (ae (f:=(λr=>(0,(v1 r)))) ?_ λw=> ?_)))))))))))))))))
  ·refine aw ?_ ?_
   ·refine aU (f:=bh) (rfl) λy1=>ax (bM (cm (by simp [bR,dB,cD,az,v1])))
   ·refine ae (IR (f:=bh) oP rR.1 ([ca.2.x]:List aj)) λzg=>fh aa
  ·refine bc rfl (aI (Bs aa))
theorem Xt:Sm cB (BF) (Fm):=by unfold BF Fm;exact aa
theorem Xu:Sm dQ (BG) (Fo):=by unfold BG Fo;exact aa
theorem Xv:Sm eg (BH) (Bu):=by unfold BH Bu;refine ae (Xt) λrA=>ax (ab (aH (ak (ae (Xu) λaT=>ax (sP aa)))))
theorem zH (s1:List af)(s2:List af):Sm MV.b (jd (.list (s1.map aW)) (.list (s2.map aW))) (iZ s1 s2):=by
 unfold jd iZ;refine aH (aH (ao (ao (aw ?_ ?_))))
 ·exact aa
 ·refine ao<|ae (bu (λr=>[.i .i64 r]) (sh (λr=>(2,[])) (λr=>(1,[.b r]))) (rfl) λst=> ?_) λw=> ?_
  ·unfold gQ;refine ab (ay (ak (ap ?_ ?_)))
   ·refine aU (f:=aW) (rfl) λy=>ax (dz (aU (f:=aW) (rfl) λy1=>ax (dz (aw ?_ ?_))))
    ·exact aa
    ·exact aa
   ·exact aa
  ·rcases w with p1|p2
   ·refine eH rfl (ak aa)
   ·refine eI rfl (bc rfl (ab (aG (ak aa))))
theorem TM (a:aA)(b:aA):Sm MV.b (yI (cB a) (cB b)) (tB a b):=by unfold yI tB;refine ax (ab (aH (ak (ax (ab (aH (ak (ae (zH a.L b.L) λrA=>aG aa))))))))
theorem we (s1:List aC)(s2:List aC):Sm MV.b (ga (.list (s1.map a8)) (.list (s2.map a8))) (eN s1 s2):=by
 unfold ga eN;refine aH (aH (ao (ao (aw ?_ ?_))))
 ·exact aa
 ·refine ao<|ae (bu (λr=>[.i .i64 r]) (sh (λr=>(2,[])) (λr=>(1,[.b r]))) (rfl) λst=> ?_) λw=> ?_
  ·unfold ef;refine ab (ay (ak (ap ?_ ?_)))
   ·refine aU (f:=a8) (rfl) λy=>ax (mw (aU (f:=a8) (rfl) λy1=>ax (mw (aw ?_ ?_))))
    ·exact aa
    ·exact aa
   ·exact aa
  ·rcases w with p1|p2
   ·refine eH rfl (ak aa)
   ·refine eI rfl (bc rfl (ab (aG (ak aa))))
theorem TN (a:aK)(b:aK):Sm MV.b (yJ (dQ a) (dQ b)) (tC a b):=by
 unfold yJ tC;refine ax (sP (ax (sP (ae (f:=λr=>[.b r]) ?_ λw=> ?_))))
 ·refine ap ?_ ?_
  ·refine ae (we a.L b.L) λrA=>aG aa
  ·exact aa
 ·refine ab (aG (ak aa))
theorem yW (s1:List aq)(s2:List aq):Sm MV.b (iB (.list (s1.map bo)) (.list (s2.map bo))) (fp s1 s2):=by
 unfold iB fp;refine aH (aH (ao (ao (aw ?_ ?_))))
 ·exact aa
 ·refine ao<|ae (bu (λr=>[.i .i64 r]) (sh (λr=>(2,[])) (λr=>(1,[.b r]))) (rfl) λst=> ?_) λw=> ?_
  ·unfold eO;refine ab (ay (ak (ap ?_ ?_)))
   ·refine aU (f:=bo) (rfl) λy=>ax (nG (aU (f:=bo) (rfl) λy1=>ax (nG (aw ?_ ?_))))
    ·exact aa
    ·exact aa
   ·exact aa
  ·rcases w with p1|p2
   ·refine eH rfl (ak aa)
   ·refine eI rfl (bc rfl (ab (aG (ak aa))))
theorem TP (a:cf)(b:cf):Sm MV.b (yK (jF a) (jF b)) (tD a b):=by unfold yK tD;refine ax (ab (aH (ak (ax (ab (aH (ak (ae (yW a.L b.L) λrA=>aG aa))))))))
theorem TQ (a:aj)(b:aj):Sm MV.b (yL (bh a) (bh b)) (mj a b):=by
 unfold yL mj;refine ax (bM (ax (bM (ae (f:=λr=>[.b r]) ?_ λw=> ?_))))
 ·refine ap ?_ ?_
  ·refine ap ?_ ?_
   ·refine ap ?_ ?_
    ·refine ap ?_ ?_
     ·refine ap ?_ ?_
      ·refine ae (uu a.Names b.Names) λrA=>aG aa
      ·exact aa
     ·exact aa
    ·exact aa
   ·exact aa
  ·exact aa
 ·refine ab (aG (ak aa))
theorem jD (s1:List aj)(s2:List aj)(eq:aj->aj->Option Bool){Ow:Nat}{zv:List MV}(aqx:gv Ow=false)(iV: ∀(u0:aj)(u1:aj),Sm MV.b (cU Ow ([bh u0,bh u1]++zv)) (eq u0 u1)):Sm MV.b (cn (.list (s1.map bh)) (.list (s2.map bh)) (.func Ow zv)) (bQ s1 s2 eq):=by
 unfold cn bQ;refine aH (aH (vR (ao (ao (aw ?_ ?_)))))
 ·exact aa
 ·refine ao<|ae (bu (λr=>[.i .i64 r]) (sh (λr=>(2,[])) (λr=>(1,[.b r]))) (rfl) λst=> ?_) λw=> ?_
  ·unfold bL;refine ab (ay (ak (ap ?_ ?_)))
   ·refine aU (f:=bh) (rfl) λy=>ax (bM (aU (f:=bh) (rfl) λy1=>ax (bM (vQ (bc (by rw [aqx];rfl) (ae (iV y y1) λrA=>aG (aw ?_ ?_)))))))
    ·exact aa
    ·exact aa
   ·exact aa
  ·rcases w with p1|p2
   ·refine eH rfl (ak aa)
   ·refine eI rfl (bc rfl (ab (aG (ak aa))))
theorem TR (a:au)(b:au):Sm MV.b (yM (eg a) (eg b)) (tE a b):=by
 unfold yM tE;refine ax (dF (ax (dF (ae (f:=λr=>[.b r]) ?_ λw=> ?_))))
 ·refine ae (TM a.Shelf b.Shelf) λrA=>aG<|aw ?_ ?_
  ·refine ae (TN a.aN b.aN) λaT=>aG<|aw ?_ ?_
   ·refine ae (TP a.aR b.aR) λca=>aG<|aw ?_ ?_
    ·refine ae (jD a.Seen b.Seen mj (Ow:=80) (zv:=[]) rfl (λu2 u3=>Sm.at (gd _ _) (TQ u2 u3))) λgO=>aG aa
    ·exact aa
   ·exact aa
  ·exact aa
 ·refine ab (aG (ak aa))
theorem MO:Sm MV.b (xm) (s6):=by
 unfold xm s6;refine ae (Xv) λrA=>ax (dF (ae (AX rA (⟨1,1,1,([47,97]:List UInt8),([120]:List UInt8),0,0,0⟩:aB)) λaT=>b9 (ab (ax (dF (ab (ax (bM (ab (aH (ak (ae (AX aT.1 (⟨1,1,1,([47,97]:List UInt8),([120]:List UInt8),0,0,0⟩:aB)) λca=>b9 (ab (ax (dF (ab (ax (bM (ab (aH (ak (ae (J0 ca.1 1) λgO=>b9 (ab (ax (bM (ab (aG (ak (ae (f:=λr=>[.b r]) ?_ λw=> ?_)))))))))))))))))))))))))))))
 ·refine ap ?_ ?_
  ·refine ap ?_ ?_
   ·refine ao<|ap ?_ ?_
    ·refine ae (TR aT.1 ca.1) λoP=>aG<|aw ?_ ?_
     ·refine aw ?_ ?_
      ·exact aa
      ·exact aa
     ·exact aa
    ·exact aa
   ·exact aa
  ·exact aa
 ·refine ab (aG (ak aa))
theorem abu (kind:Int):Sm MV.s (Ek (.i .i64 kind)) (Ak kind):=by
 unfold Ek Ak;refine ay<|ap ?_ ?_
 ·exact aa
 ·refine ae (f:=(λr=>(0,[.b r]))) ?_ λw=> ?_
  ·refine ap ?_ ?_
   ·exact aa
   ·refine ae (f:=(λr=>(0,[.b r]))) ?_ λw1=> ?_
    ·refine ap ?_ ?_
     ·exact aa
     ·refine ae (f:=(λr=>(0,[.b r]))) ?_ λw2=> ?_
      ·refine ap ?_ ?_
       ·exact aa
       ·exact aa
      ·refine bc rfl (ab (aG (ak aa)))
    ·refine bc rfl (ab (aG (ak aa)))
  ·refine bc rfl (ab (aG (ak (aw ?_ ?_))))
   ·exact aa
   ·refine ap ?_ ?_
    ·exact aa
    ·refine ap ?_ ?_
     ·exact aa
     ·refine ap ?_ ?_
      ·exact aa
      ·refine ae (f:=(λr=>(0,[.b r]))) ?_ λw3=> ?_
       ·refine ap ?_ ?_
        ·exact aa
        ·exact aa
       ·refine bc rfl (ab (aG (ak (aw ?_ ?_))))
        ·exact aa
        ·refine ap ?_ ?_
         ·exact aa
         ·exact aa
theorem wg (sA:List UInt8)(c:Int):Sm MV.b (qp (.s sA) (.i .u8 c)) (iy sA c):=by
 unfold qp iy;refine bA (ay (ae (bu (λr=>[.i .i64 r]) (sh (λr=>(2,[])) (λr=>(1,[.b r]))) (rfl) λst=> ?_) λw=> ?_))
 ·unfold Al;refine ab (ay (ak (ap ?_ ?_)))
  ·refine bH<|ap ?_ ?_
   ·exact aa
   ·exact aa
  ·exact aa
 ·rcases w with p1|p2
  ·refine eH rfl (ak aa)
  ·refine eI rfl (bc rfl (ab (aG (ak aa))))
theorem aeU (a:jZ):Sm MV.b (Hw (qV a)) (DS a):=by
 unfold Hw DS;refine ax (fA (ae (f:=λr=>[.b r]) ?_ λw=> ?_))
 ·refine ap ?_ ?_
  ·exact aa
  ·refine ap ?_ ?_
   ·exact aa
   ·refine ap ?_ ?_
    ·exact aa
    ·refine ap ?_ ?_
     ·exact aa
     ·refine ap ?_ ?_
      ·exact aa
      ·refine ap ?_ ?_
       ·exact aa
       ·refine ap ?_ ?_
        ·exact aa
        ·exact aa
 ·refine ab (aG (ak (aw ?_ ?_)))
  ·exact aa
  ·refine ae (abu a.Kind) λrA=>bA<|ae (f:=λr=>[.b r]) ?_ λw1=> ?_
   ·refine ae (wg rA 112) λaT=>aG<|aw ?_ ?_
    ·refine ae (wg rA 118) λca=>aG<|aw ?_ ?_
     ·exact aa
     ·exact aa
    ·refine ap ?_ ?_
     ·refine ae (wg rA 118) λgO=>aG<|aw ?_ ?_
      ·exact aa
      ·exact aa
     ·exact aa
   ·refine ab (aG (ak (ae (f:=λr=>[.b r]) ?_ λw2=> ?_)))
    ·refine aw ?_ ?_
     ·refine ae (wg rA 110) λoP=>aG<|aw ?_ ?_
      ·refine ae (wg rA 115) λrR=>aG<|aw ?_ ?_
       ·refine ae (wg rA 116) λzg=>aG<|aw ?_ ?_
        ·exact aa
        ·exact aa
       ·refine ap ?_ ?_
        ·refine ae (wg rA 116) λHq=>aG<|aw ?_ ?_
         ·exact aa
         ·exact aa
        ·exact aa
      ·refine ap ?_ ?_
       ·refine ae (wg rA 115) λKB=>aG<|aw ?_ ?_
        ·refine ae (wg rA 116) λR9=>aG<|aw ?_ ?_
         ·exact aa
         ·exact aa
        ·refine ap ?_ ?_
         ·refine ae (wg rA 116) λAm=>aG<|aw ?_ ?_
          ·exact aa
          ·exact aa
         ·exact aa
       ·exact aa
     ·exact aa
    ·refine ab (aG (ak aa))
theorem abv (rA:b6)(dI:Int):Sm (λr=> .cj [bC r.1,.b r.2]) (El (fH rA) (.i .i64 dI)) (wU rA dI):=by
 unfold El wU;refine ax (dF (ay (ae (bu (λr=>[.i .i64 r.1,.i .i64 r.2.1,.i .i64 r.2.2.1,.s r.2.2.2.1,.i .i64 r.2.2.2.2.1,.list (r.2.2.2.2.2.1.map MV.s),.i .i64 r.2.2.2.2.2.2]) (sh (λr=>(2,(v9 r))) (λr=>(1,(v8 r)))) (rfl) λst=> ?_) λw=> ?_)))
 ·unfold tF;refine ab (ay (ab (ay (ab (ay (ab (bA (ab (ay (rG (ao (ap ?_ ?_))))))))))))
  ·refine aU (f:=bC) (rfl) λy=>ax (bM (ap ?_ ?_))
   ·refine aU (f:=bC) (rfl) λy1=>ax (bM aa)
   ·exact aa
  ·exact aa
 ·rcases w with p1|p2
  ·refine eH rfl (bM aa)
  ·refine eI rfl (bc rfl (ab (ay (ab (ay (ab (ay (ab (bA (ab (ay (AR aa))))))))))))
theorem HC (b:cJ)(id:Int):Sm MV.b (yN (jG b) (.i .i64 id)) (qH b id):=by
 unfold yN qH;refine ax (sP (ay (ae (bu (λr=>[.i .i64 r]) (sh (λr=>(2,[])) (λr=>(1,[.b r]))) (rfl) λst=> ?_) λw=> ?_)))
 ·unfold wV;refine ab (ay (ak (ao (ap ?_ ?_))))
  ·refine aU (f:=br) (rfl) λy=>ax (mw (ap ?_ ?_))
   ·exact aa
   ·exact aa
  ·exact aa
 ·rcases w with p1|p2
  ·refine eH rfl (ak aa)
  ·refine eI rfl (bc rfl (ab (aG (ak aa))))
theorem TS (a:bE)(a1:List UInt8)(a2:List UInt8)(a3:Int):Sm (λr=> .cj [dN r.1,.i .i64 r.2]) (yO (dN a) (.s a1) (.s a2) (.i .i64 a3)) (tG a a1 a2 a3):=by
 unfold yO tG;refine ax (ab (aH (ak (bA (bA (ay (ae (qt a1) λrA=>aG (aw ?_ ?_))))))))
 ·exact aa
 ·refine ae (C2 a a1) λaT=>ay<|ap ?_ ?_
  ·exact aa
  ·refine ae (yT a1) λca=>b9 (Q5 (ae (C2 a ca.1) λgO=>ay (ap ?_ ?_)))
   ·exact aa
   ·refine aU (f:=bD) (rfl) λy=>ax (dz (aw ?_ ?_))
    ·exact aa
    ·refine ap ?_ ?_
     ·exact aa
     ·refine ap ?_ ?_
      ·exact aa
      ·refine ao<|ap ?_ ?_
       ·exact aa
       ·refine ae (bu (λr=>[.list (r.1.map bD),.b r.2.1,.i .i64 r.2.2]) (λr=>(2,[.list (r.1.map bD),.b r.2])) (rfl) λst=> ?_) λw=> ?_
        ·unfold pf;refine ab (aH (ab (aG (ab (ay (ak (ao (ap ?_ ?_))))))))
         ·refine ae (f:=λr=>[.b r]) ?_ λw1=> ?_
          ·refine aw ?_ ?_
           ·refine aU (f:=bD) (rfl) λy1=>ax (dz (ae (MN a1 y1.Path) λoP=>aG aa))
           ·exact aa
          ·refine ab (aG (ak (ae (f:=(λr=>(0,[.list (r.1.map bD),.b r.2]))) ?_ λw2=> ?_)))
           ·refine aw ?_ ?_
            ·refine ao (cq (([(⟨a1,a2,0,a3⟩:aY)]:List aY).length) (bH (cm (by simp [fq]))))
            ·exact aa
           ·refine bc rfl (AR (aU (f:=bD) (rfl) λy2=>ax (dz (ao (cq (([y2]:List aY).length) (bH (cm (by simp [fq]))))))))
         ·exact aa
        ·refine bc rfl (AR (ae (f:=(λr=>(0,[.list (r.map bD)]))) ?_ λw3=> ?_))
         ·refine aw ?_ ?_
          ·refine ao (cq (([(⟨a1,a2,0,a3⟩:aY)]:List aY).length) (bH (cm (by simp [fq]))))
          ·exact aa
         ·refine bc rfl (ab (aH (ak aa)))
theorem EI (sA:bE)(p:List UInt8):Sm (λr=> .cj [bD r.1,.i .i64 r.2]) (vt (dN sA) (.s p)) (sG sA p):=by
 unfold vt sG;refine ax (ab (aH (ak (bA (ae (qt p) λrA=>aG (aw ?_ ?_))))))
 ·exact aa
 ·refine ae (C2 sA p) λaT=>ay<|ap ?_ ?_
  ·exact aa
  ·refine aU (f:=bD) (rfl) λy=>ax (dz aa)
theorem aeV (sA:bE)(p:List UInt8)(value:List UInt8)(version:Int):Sm (λr=> .cj [dN r.1,.i .i64 r.2]) (Hx (dN sA) (.s p) (.s value) (.i .i64 version)) (DT sA p value version):=by
 unfold Hx DT;refine ax (ab (aH (ak (bA (bA (ay (ae (EI sA p) λrA=>b9 (ab (ax (dz (ab (ay (ak (aw ?_ ?_))))))))))))))
 ·exact aa
 ·refine ae (f:=λr=>[.b r]) ?_ λw=> ?_
  ·refine aw ?_ ?_
   ·exact aa
   ·exact aa
  ·refine ab (aG (ak (aw ?_ ?_)))
   ·exact aa
   ·refine ap ?_ ?_
    ·exact aa
    ·refine ap ?_ ?_
     ·exact aa
     ·refine bc (sD (rfl:_=aaJ bD sA.L) λ_=>rfl) (cq (([]:List aY).length) (ao (bH (ae (C2 sA p) λaT=>ay (aU (f:=bD) (by simp only [yb,No,IN,aaa,aaj,aaf,aai,aaG]) λy=>ax (dz (cm (by simp [fq]))))))))
theorem Rb (sA:bE)(p:List UInt8):Sm (GS MV.s) (AM (dN sA) (.s p)) (wW sA p):=by
 unfold AM wW;refine ax (ab (aH (ak (bA (ae (bu (λr=>[.list (r.1.map MV.s),.i .i64 r.2]) (λr=>(2,[.list (r.map MV.s)])) (rfl) λst=> ?_) λw=> ?_)))))
 ·unfold tH;refine rG (ao (ap ?_ ?_))
  ·refine aU (f:=bD) (rfl) λy=>ax (dz (ae (yT y.Path) λrA=>b9 (Q5 (ae (f:=λr=>[.b r]) ?_ λw1=> ?_))))
   ·refine ap ?_ ?_
    ·exact aa
    ·exact aa
   ·refine ab (aG (ak (ae (f:=(λr=>(0,[.list (r.map MV.s)]))) ?_ λw2=> ?_)))
    ·refine aw ?_ ?_
     ·refine aU (f:=bD) (rfl) λy1=>ax (dz (ae (BL y1.Path) λaT=>b9 (rG (ao (aU (f:=MV.s) (rfl) λy2=>bA (ao (cq (([y2]:List (List UInt8)).length) (bH (cm (by simp))))))))))
     ·exact aa
    ·refine bc rfl (ab (aH (ak aa)))
  ·exact aa
 ·refine bc rfl (ab (aH (ak aa)))
theorem TT (sA:bE)(p:List UInt8)(version:Int):Sm (λr=> .cj [dN r.1,.i .i64 r.2]) (yP (dN sA) (.s p) (.i .i64 version)) (tI sA p version):=by
 unfold yP tI;refine ax (ab (aH (ak (bA (ay (ae (EI sA p) λrA=>b9 (ab (ax (dz (ab (ay (ak (aw ?_ ?_)))))))))))))
 ·exact aa
 ·refine ap ?_ ?_
  ·exact aa
  ·refine ae (f:=λr=>[.b r]) ?_ λw=> ?_
   ·refine aw ?_ ?_
    ·exact aa
    ·exact aa
   ·refine ab (aG (ak (aw ?_ ?_)))
    ·exact aa
    ·refine ae (Rb sA p) λaT=>aH (ao (ap ?_ ?_))
     ·exact aa
     ·refine ae (C2 sA p) λca=>ay (ao (bH (bc (sD ((by simp only [yb,No,IN,aaa,aaj,aaf,aai,aaG]):_=aaJ bD (aaH (AI 0) (aaI (AI ca) sA.L))) λ_=>rfl) (cq (([]:List aY).length) (yc (n:=(aaH (AI 0) (aaI (AI ca) sA.L)).length) (by simp only [AS,By,AT,BY,IS,IT,OF]) (bH (bc (sD (rfl:_=aaJ bD sA.L) λ_=>rfl) (ao (bH (bc (sD ((by simp only [yb,No,IN,aaa,aaj,aaf,aai,aaG]):_=aaJ bD (aaH (AI (c8 .i64 (ca+1))) (aaI (AI (sA.L.length:Int)) sA.L))) λ_=>rfl) (yc (n:=(([]:List aY)++(aaH (AI 0) (aaI (AI ca) sA.L))).length) (by simp only [AS,By,AT,BY,IS,IT,OF]) (yc (n:=(aaH (AI (c8 .i64 (ca+1))) (aaI (AI (sA.L.length:Int)) sA.L)).length) (by simp only [AS,By,AT,BY,IS,IT,OF]) (bH (cm (by first|(simp;done)|simp only [bD,dN,Mn,IZ,IN,aaa,aaj,aaf,aai,aaG])))))))))))))))
theorem abw (sA:bE)(p:List UInt8):Sm (λr=> .cj [.list (r.1.map MV.s),.i .i64 r.2]) (Em (dN sA) (.s p)) (An sA p):=by
 unfold Em An;refine ax (ab (aH (ak (bA (ae (EI sA p) λrA=>b9 (ab (ax (dz (ab (ay (ak (aw ?_ ?_))))))))))))
 ·exact aa
 ·refine ae (Rb sA p) λaT=>aH aa
theorem Rc (a:b6)(a1:jZ):Sm (λr=> .cj [fH r.1,bC r.2.1,.list (r.2.2.map ej)]) (vu (fH a) (qV a1)) (oJ a a1):=by
 unfold vu oJ;refine ax (dF (ax (fA (ae (f:=(λr=>(0,(v3 r)))) ?_ λw=> ?_))))
 ·refine ap ?_ ?_
  ·refine ae (f:=λr=>[.b r]) ?_ λw1=> ?_
   ·refine aw ?_ ?_
    ·refine ap ?_ ?_
     ·exact aa
     ·refine ae (HC a.aN a1.Session) λrA=>aG aa
    ·exact aa
   ·refine ab (aG (ak (ae (f:=(λr=>(0,(v4 r)))) ?_ λw2=> ?_)))
    ·refine aw ?_ ?_
     ·exact aa
     ·refine ae (TS a.Shelf a1.Path a1.Value a1.Session) λaT=>b9 (ab (ax (ab (aH (ak (ab (ay (ak aa))))))))
    ·refine bc rfl (ab (aH (ab (ay (ab (aH (ab (aH (ab (aH (bM aa)))))))))))
  ·refine ae (f:=(λr=>(0,(v3 r)))) ?_ λw3=> ?_
   ·refine ap ?_ ?_
    ·refine ae (EI a.Shelf a1.Path) λca=>b9 (ab (ax (dz (ab (ay (ak aa))))))
    ·refine ae (f:=(λr=>(0,(v3 r)))) ?_ λw4=> ?_
     ·refine ap ?_ ?_
      ·refine ae (aeV a.Shelf a1.Path a1.Value a1.Version) λgO=>b9 (ab (ax (ab (aH (ak (ab (ay (ak (ae (f:=(λr=>(0,(v9 r)))) ?_ λw5=> ?_)))))))))
       ·refine ap ?_ ?_
        ·refine ae (EI gO.1 a1.Path) λoP=>b9 (ab (ax (dz (ab (ay (ak aa))))))
        ·exact aa
       ·refine bc rfl (bM aa)
      ·refine ae (f:=(λr=>(0,(v3 r)))) ?_ λw6=> ?_
       ·refine ap ?_ ?_
        ·refine ae (TT a.Shelf a1.Path a1.Version) λrR=>b9 (ab (ax (ab (aH (ak (ab (ay (ak aa))))))))
        ·refine ae (f:=(λr=>(0,(v9 r)))) ?_ λw7=> ?_
         ·refine ap ?_ ?_
          ·refine ae (abw a.Shelf a1.Path) λzg=>b9 (rG aa)
          ·exact aa
         ·refine bc rfl (bM aa)
       ·refine bc rfl (pI aa)
     ·refine bc rfl (pI aa)
   ·refine bc rfl (pI aa)
 ·refine bc rfl (pI (ae (f:=λr=>[.b r]) ?_ λw8=> ?_))
  ·refine ap ?_ ?_
   ·exact aa
   ·exact aa
  ·refine ab (aG (ak (aw ?_ ?_)))
   ·refine aav aa
   ·exact aa
theorem abx (a:cJ)(a1:Int)(a2:Int):Sm (λr=> .cj [jG r.1,.i .i64 r.2]) (En (jG a) (.i .i64 a1) (.i .i64 a2)) (Ao a a1 a2):=by
 unfold En Ao;refine ax (sP (ay (ay (ae (f:=λr=>[.b r]) ?_ λw=> ?_))))
 ·refine ap ?_ ?_
  ·exact aa
  ·refine ap ?_ ?_
   ·exact aa
   ·exact aa
 ·refine ab (aG (ak (aw ?_ ?_)))
  ·exact aa
  ·refine ae (HC a a1) λrA=>aG<|aw ?_ ?_
   ·exact aa
   ·refine ao<|ap ?_ ?_
    ·exact aa
    ·refine ae (bu (λr=>[.list (r.1.map br),.b r.2.1,.i .i64 r.2.2]) (λr=>(2,[.list (r.1.map br),.b r.2])) (rfl) λst=> ?_) λw1=> ?_
     ·unfold tJ;refine ab (aH (ab (aG (ab (ay (ak (ao (ap ?_ ?_))))))))
      ·refine ae (f:=λr=>[.b r]) ?_ λw2=> ?_
       ·refine aw ?_ ?_
        ·refine aU (f:=br) (rfl) λy=>ax (mw aa)
        ·exact aa
       ·refine ab (aG (ak (ae (f:=(λr=>(0,[.list (r.1.map br),.b r.2]))) ?_ λw3=> ?_)))
        ·refine aw ?_ ?_
         ·refine ao (cq (([(⟨a1,a2,c8 .i64 (a.ct+a2)⟩:ar)]:List ar).length) (bH (cm (by simp))))
         ·exact aa
        ·refine bc rfl (AR (aU (f:=br) (rfl) λy1=>ax (mw (ao (cq (([y1]:List ar).length) (bH (cm (by simp))))))))
      ·exact aa
     ·refine bc rfl (AR (ae (f:=(λr=>(0,[.list (r.map br)]))) ?_ λw4=> ?_))
      ·refine aw ?_ ?_
       ·refine ao (cq (([(⟨a1,a2,c8 .i64 (a.ct+a2)⟩:ar)]:List ar).length) (bH (cm (by simp))))
       ·exact aa
      ·refine bc rfl (ab (aH (ak aa)))
theorem Xw (b:cJ)(id:Int):Sm (λr=> .cj [jG r.1,.i .i64 r.2]) (BI (jG b) (.i .i64 id)) (wX b id):=by
 unfold BI wX;refine ax (sP (ay (ae (HC b id) λrA=>aG (aw ?_ ?_))))
 ·exact aa
 ·refine ae (bu (λr=>[.list (r.1.map br),.i .i64 r.2]) (λr=>(2,[.list (r.map br)])) (rfl) λst=> ?_) λw=> ?_
  ·unfold rf;refine rG (ao (ap ?_ ?_))
   ·refine aU (f:=br) (rfl) λy=>ax (mw (ae (f:=(λr=>(0,[.i .i64 r.1,.i .i64 r.2.1,.i .i64 r.2.2]))) ?_ λw1=> ?_))
    ·refine ap ?_ ?_
     ·exact aa
     ·exact aa
    ·refine bc rfl (mw (ao (cq (([(⟨w1.1,w1.2.1,w1.2.2⟩:ar)]:List ar).length) (bH (cm (by simp))))))
   ·exact aa
  ·refine bc rfl (ab (aH (ak aa)))
theorem Xx (b:cJ)(id:Int):Sm (λr=> .cj [jG r.1,.i .i64 r.2]) (BJ (jG b) (.i .i64 id)) (wY b id):=by
 unfold BJ wY;refine ax (sP (ay (ae (HC b id) λrA=>aG (aw ?_ ?_))))
 ·exact aa
 ·refine ae (bu (λr=>[.list (r.1.map br),.i .i64 r.2]) (λr=>(2,[.list (r.map br)])) (rfl) λst=> ?_) λw=> ?_
  ·unfold rh;refine rG (ao (ap ?_ ?_))
   ·refine aU (f:=br) (rfl) λy=>ax (mw (ae (f:=(λr=>(0,[.list (r.map br)]))) ?_ λw1=> ?_))
    ·refine aw ?_ ?_
     ·refine aU (f:=br) (rfl) λy1=>ax (mw (ao (cq (([y1]:List ar).length) (bH (cm (by simp))))))
     ·exact aa
    ·refine bc rfl (ab (aH (ak aa)))
   ·exact aa
  ·refine bc rfl (ab (aH (ak aa)))
theorem aby (sA:bE)(owner:Int):Sm (λr=> .cj [dN r.1,.list (r.2.map MV.s)]) (Eo (dN sA) (.i .i64 owner)) (wZ sA owner):=by
 unfold Eo wZ;refine ax (ab (aH (ak (ay (ae (bu (λr=>[.list (r.1.map bD),.list (r.2.1.map MV.s),.i .i64 r.2.2]) (λr=>(2,[.list (r.1.map bD),.list (r.2.map MV.s)])) (rfl) λst=> ?_) λw=> ?_)))))
 ·unfold tK;refine Cy (ao (ap ?_ ?_))
  ·refine ae (f:=λr=>[.b r]) ?_ λw1=> ?_
   ·refine ap ?_ ?_
    ·refine aU (f:=bD) (rfl) λy=>ax (dz aa)
    ·exact aa
   ·refine ab (aG (ak (ae (f:=(λr=>(0,[.list (r.1.map bD),.list (r.2.map MV.s)]))) ?_ λw2=> ?_)))
    ·refine aw ?_ ?_
     ·refine aU (f:=bD) (rfl) λy1=>ax (dz (ao (cq (([y1.Path]:List (List UInt8)).length) (bH (cm (by simp [fq]))))))
     ·refine aU (f:=bD) (rfl) λy2=>ax (dz (ao (cq (([y2]:List aY).length) (bH (cm (by simp [fq]))))))
    ·refine bc rfl (JZ aa)
  ·exact aa
 ·refine bc rfl (JZ aa)
theorem MP (sA:bE)(ids:List Int):Sm (λr=> .cj [dN r.1,.list (r.2.map ej)]) (xn (dN sA) (.list (ids.map (MV.i .i64)))) (s7 sA ids):=by
 unfold xn s7;refine ax (ab (aH (ak (aH (ae (bu (λr=>[.list (r.1.map bD),.list (r.2.1.map ej),.i .i64 r.2.2]) (λr=>(2,[.list (r.1.map bD),.list (r.2.map ej)])) (rfl) λst=> ?_) λw=> ?_)))))
 ·unfold rk;refine Cy (ao (ap ?_ ?_))
  ·refine aU (f:=(MV.i .i64)) (rfl) λy=>ay<|ae (aby (⟨st.1⟩:bE) y) λrA=>b9 (ab (ax (ab (aH (ak (ab (aH (ak (ae (bu (λr=>[.list (r.1.map ej),.i .i64 r.2]) (λr=>(4,[.list (r.map ej)])) (rfl) λdA=> ?_) λw1=> ?_)))))))))
   ·unfold rj;refine rG (ao (ap ?_ ?_))
    ·refine aU (f:=MV.s) (rfl) λy1=>bA (ao (cq (([(⟨3,y1⟩:bq)]:List bq).length) (bH (cm (by simp)))))
    ·exact aa
   ·refine bc rfl (ab (aH (ak aa)))
  ·exact aa
 ·refine bc rfl (JZ aa)
theorem abz (b:cJ)(now:Int):Sm (λr=> .cj [jG r.1,.list (r.2.1.map (MV.i .i64)),.i .i64 r.2.2]) (Ep (jG b) (.i .i64 now)) (Ap b now):=by
 unfold Ep Ap;refine ax (sP (ay (ap ?_ ?_)))
 ·exact aa
 ·refine ap ?_ ?_
  ·exact aa
  ·refine ae (bu (λr=>[.list (r.1.map br),.list (r.2.1.map (MV.i .i64)),.i .i64 r.2.2]) (λr=>(2,[.list (r.1.map br),.list (r.2.map (MV.i .i64))])) (rfl) λst=> ?_) λw=> ?_
   ·unfold tL;refine Cy (ao (ap ?_ ?_))
    ·refine aU (f:=br) (rfl) λy=>ax (mw (ae (f:=(λr=>(0,[.list (r.1.map br),.list (r.2.map (MV.i .i64))]))) ?_ λw1=> ?_))
     ·refine ap ?_ ?_
      ·refine aU (f:=br) (rfl) λy1=>ax (mw (ao (cq (([y1.Id]:List Int).length) (bH (cm (by simp))))))
      ·refine aU (f:=br) (rfl) λy2=>ax (mw (ao (cq (([y2]:List ar).length) (bH (cm (by simp))))))
     ·refine bc rfl (JZ aa)
    ·exact aa
   ·refine bc rfl (JZ aa)
theorem aeW (t:eK)(w:aL):Sm (λr=> .cj [qU r.1,.i .i64 r.2]) (Hy (qU t) (b5 w)) (DU t w):=by
 unfold Hy DU;refine ax (ab (aH (ak (ax (nG (ae (qt w.Path) λrA=>aG (aw ?_ ?_)))))))
 ·exact aa
 ·refine ap ?_ ?_
  ·exact aa
  ·refine ae (VJ t.L w) λaT=>aG<|aw ?_ ?_
   ·exact aa
   ·refine ao<|ap ?_ ?_
    ·exact aa
    ·refine bc (sD (rfl:_=aaJ b5 t.L) λ_=>rfl) (cq (([]:List aL).length) (ao (bH (yc (n:=(([]:List aL)++t.L).length) (by simp only [AS,By,AT,BY,IS,IT,OF]) (cq (([w]:List aL).length) (bH (cm (by simp))))))))
theorem abA (a:b6)(a1:jZ):Sm (λr=> .cj [fH r.1,bC r.2.1,.list (r.2.2.map ej)]) (Er (fH a) (qV a1)) (tM a a1):=by
 unfold Er tM;refine ax (dF (ax (fA (ae (f:=(λr=>(0,[.b r]))) ?_ λw=> ?_))))
 ·refine ap ?_ ?_
  ·exact aa
  ·refine ae (f:=(λr=>(0,[.b r]))) ?_ λw1=> ?_
   ·refine ap ?_ ?_
    ·exact aa
    ·refine ae (f:=(λr=>(0,[.b r]))) ?_ λw2=> ?_
     ·refine ap ?_ ?_
      ·exact aa
      ·refine ae (f:=(λr=>(0,[.b r]))) ?_ λw3=> ?_
       ·refine ap ?_ ?_
        ·exact aa
        ·exact aa
       ·refine bc rfl (ab (aG (ak aa)))
     ·refine bc rfl (ab (aG (ak aa)))
   ·refine bc rfl (ab (aG (ak aa)))
 ·refine bc rfl (ab (aG (ak (aw ?_ ?_))))
  ·refine ae (Rc a a1) λrA=>b9 (ab (ax (dF (ab (ax (bM (ab (aH (ak aa)))))))))
  ·refine ae (f:=(λr=>(0,(v2 r)))) ?_ λw4=> ?_
   ·refine ap ?_ ?_
    ·refine ae (abx a.aN a1.Session a1.Span) λaT=>b9 (ab (ax (sP (ab (ay (ak aa))))))
    ·refine ae (f:=(λr=>(0,(v2 r)))) ?_ λw5=> ?_
     ·refine ap ?_ ?_
      ·refine ae (Xw a.aN a1.Session) λca=>b9 (ab (ax (sP (ab (ay (ak aa))))))
      ·refine ae (f:=(λr=>(0,(v2 r)))) ?_ λw6=> ?_
       ·refine ap ?_ ?_
        ·refine ae (Xx a.aN a1.Session) λgO=>b9 (ab (ax (sP (ab (ay (ak (ae (f:=(λr=>(0,[.list (r.1.map bD),.i .i64 r.2.1,.list (r.2.2.1.map br),.list (r.2.2.2.1.map b5),.list (r.2.2.2.2.1.map bC),.list (r.2.2.2.2.2.map ej)]))) ?_ λw7=> ?_)))))))
         ·refine ap ?_ ?_
          ·refine ae (MP a.Shelf ([a1.Session]:List Int)) λoP=>b9 (ab (ax (ab (aH (ak (ab (aH (ak aa))))))))
          ·exact aa
         ·refine bc rfl (ab (aH (ab (ay (ab (aH (ab (aH (JZ aa)))))))))
        ·refine ae (f:=(λr=>(0,(v2 r)))) ?_ λw8=> ?_
         ·refine ap ?_ ?_
          ·refine ae (abz a.aN a1.Span) λrR=>b9 (ab (ax (sP (rG (ae (f:=(λr=>(0,(v2 r)))) ?_ λw9=> ?_)))))
           ·refine ap ?_ ?_
            ·refine ae (MP a.Shelf rR.2.1) λzg=>b9 (ab (ax (ab (aH (ak (ab (aH (ak aa))))))))
            ·exact aa
           ·refine bc rfl (my aa)
          ·refine ae (f:=(λr=>(0,[.b r]))) ?_ λw10=> ?_
           ·refine ap ?_ ?_
            ·exact aa
            ·exact aa
           ·refine bc rfl (ab (aG (ak (ae (f:=(λr=>(0,(v4 r)))) ?_ λYo=> ?_))))
            ·refine aw ?_ ?_
             ·refine ae (aeW a.aR (⟨a1.Path,a1.Client,decide (a1.Kind=11)⟩:aL)) λHq=>b9 (ab (ax (ab (aH (ak (ab (ay (ak aa))))))))
             ·exact aa
            ·refine bc rfl (ab (aH (ab (ay (ab (aH (ab (aH (ab (aH (bM aa)))))))))))
         ·refine bc rfl (my aa)
       ·refine bc rfl (my aa)
     ·refine bc rfl (my aa)
   ·refine bc rfl (my aa)
theorem Re (c:bq)(w:aL):Sm MV.b (vv (ej c) (b5 w)) (rl c w):=by
 unfold vv rl;refine ax (ab (ay (ab (bA (ak (ax (nG (ae (f:=λr=>[.b r]) ?_ λw1=> ?_))))))))
 ·refine ap ?_ ?_
  ·exact aa
  ·refine ap ?_ ?_
   ·exact aa
   ·refine ae (qt c.Path) λrA=>aG aa
 ·refine ab (aG (ak (aw ?_ ?_)))
  ·exact aa
  ·refine aw ?_ ?_
   ·exact aa
   ·refine ae (yT c.Path) λaT=>b9 (Q5 (ae (f:=λr=>[.b r]) ?_ λw2=> ?_))
    ·refine aw ?_ ?_
     ·refine ap ?_ ?_
      ·exact aa
      ·exact aa
     ·exact aa
    ·refine ab (aG (ak aa))
theorem abB (t:eK)(lA:List bq):Sm (λr=> .cj [qU r.1,.list (r.2.map eB)]) (Es (qU t) (.list (lA.map ej))) (tP t lA):=by
 unfold Es tP;refine ax (ab (aH (ak (aH (bc (sD (rfl:_=aaJ b5 t.L) λ_=>rfl) (cq (([]:List aL).length) (ao (bH (ae (bu (λr=>[.list (r.1.map b5),.list (r.2.1.map eB),.i .i64 r.2.2]) (λr=>(2,[.list (r.1.map b5),.list (r.2.map eB)])) (by simp) λst=> ?_) λw=> ?_)))))))))
 ·unfold tO;refine Cy (ao (ap ?_ ?_))
  ·refine ae (bu (λr=>[.list (r.1.map eB),.list (r.2.1.map b5),.i .i64 r.2.2]) (λr=>(4,[.list (r.1.map eB),.list (r.2.map b5)])) (rfl) λdA=> ?_) λw1=> ?_
   ·unfold tN;refine Cy (ao (ap ?_ ?_))
    ·refine aU (f:=ej) (rfl) λy=>ax (ab (ay (ab (bA (ak (aU (f:=b5) (rfl) λy1=>ax (nG (ae (Re y y1) λrA=>aG (ae (f:=(λr=>(0,[.list (r.1.map eB),.list (r.2.map b5)]))) ?_ λw2=> ?_)))))))))
     ·refine aw ?_ ?_
      ·refine aU (f:=b5) (rfl) λy2=>ax (nG (aU (f:=ej) (rfl) λy3=>ax (ab (ay (ab (bA (ak (ao (cq (([(⟨y2,y3⟩:bO)]:List bO).length) (bH (cm (by simp))))))))))))
      ·refine aU (f:=b5) (rfl) λy4=>ax (nG (ao (cq (([y4]:List aL).length) (bH (cm (by simp))))))
     ·refine bc rfl (JZ aa)
    ·exact aa
   ·refine bc rfl (JZ aa)
  ·exact aa
 ·refine bc rfl (JZ aa)
theorem abC (lA:List aD)(x:aD):Sm (GS bC) (Et (.list (lA.map bC)) (bC x)) (tR lA x):=by
 unfold Et tR;refine aH (ax (bM (ae (bu (λr=>[.list (r.1.map bC),.b r.2.1,.i .i64 r.2.2]) (λr=>(2,[.list (r.1.map bC),.b r.2])) (rfl) λst=> ?_) λw=> ?_)))
 ·unfold tQ;refine ab (aH (ab (aG (ab (ay (ak (ao (ap ?_ ?_))))))))
  ·refine ae (f:=λr=>[.b r]) ?_ λw1=> ?_
   ·refine aw ?_ ?_
    ·refine aU (f:=bC) (rfl) λy=>ax (bM aa)
    ·exact aa
   ·refine ab (aG (ak (ae (f:=(λr=>(0,[.list (r.1.map bC),.b r.2]))) ?_ λw2=> ?_)))
    ·refine aw ?_ ?_
     ·refine ao (cq (([x]:List aD).length) (bH (cm (by simp [bR]))))
     ·exact aa
    ·refine bc rfl (AR (aU (f:=bC) (rfl) λy1=>ax (bM (ae (f:=(λr=>(0,[.list (r.map bC)]))) ?_ λw3=> ?_))))
     ·refine aw ?_ ?_
      ·refine aU (f:=bC) (rfl) λy2=>ax (bM (ao (cq (([y2]:List aD).length) (bH (cm (by simp [bR]))))))
      ·exact aa
     ·refine bc rfl (ab (aH (ak aa)))
  ·exact aa
 ·refine bc rfl (AR (ae (f:=(λr=>(0,[.list (r.map bC)]))) ?_ λw4=> ?_))
  ·refine aw ?_ ?_
   ·refine ao (cq (([x]:List aD).length) (bH (cm (by simp [bR]))))
   ·exact aa
  ·refine bc rfl (ab (aH (ak aa)))
theorem Xy (a:b6)(a1:jZ):Sm (λr=> .cj [fH r.1,bC r.2.1,.list (r.2.2.map eB)]) (BK (fH a) (qV a1)) (xa a a1):=by
 unfold BK xa;refine ax (dF (ax (fA (ae (aeU a1) λrA=>aG (aw ?_ ?_)))))
 ·refine Bs aa
 ·refine ae (abv a a1.Client) λaT=>b9 (ab (ax (bM (ab (aG (ak (ae (f:=λr=>[.b r]) ?_ λw=> ?_)))))))
  ·refine aw ?_ ?_
   ·exact aa
   ·exact aa
  ·refine ab (aG (ak (aw ?_ ?_)))
   ·exact aa
   ·refine ae (f:=λr=>[.b r]) ?_ λw1=> ?_
    ·refine aw ?_ ?_
     ·exact aa
     ·exact aa
    ·refine ab (aG (ak (aw ?_ ?_)))
     ·refine Bs aa
     ·refine ae (f:=λr=>[.b r]) ?_ λw2=> ?_
      ·refine aw ?_ ?_
       ·refine ao aa
       ·exact aa
      ·refine ab (aG (ak (aw ?_ ?_)))
       ·exact aa
       ·refine ae (abA a a1) λca=>b9 (ab (ax (dF (ab (ax (bM (ab (aH (ak (ae (abB ca.1.aR ca.2.2) λgO=>b9 (ab (ax (ab (aH (ak (ab (aH (ak (ae (abC a.Seen (⟨a1.Client,a1.Seq,ca.2.1.E,ca.2.1.Value,ca.2.1.Version,ca.2.1.Names⟩:aD)) λoP=>aH aa)))))))))))))))))))
theorem aeX (o:aB):Sm qV (Hz (eJ o)) (Hr o):=by unfold Hz Hr;refine ax (fA aa)
theorem abD (n:Int):Sm (MV.i .i64) (Eu (.i .u64 n)) (Aq n):=by
 unfold Eu Aq;refine ay<|ae (bu (λr=>[.i .u64 r.1,.i .i64 r.2]) (λr=>(2,[.i .i64 r])) (rfl) λst=> ?_) λw=> ?_
 ·unfold CT;refine AQ<|ap ?_ ?_
  ·refine NO aa
  ·exact aa
 ·refine bc rfl (ab (ay (ak aa)))
theorem HD (b:List Int)(n:Int):Sm (KR (MV.i .u8)) (yQ (.list (b.map (MV.i .u8))) (.i .u64 n)) (vf b n):=by
 unfold yQ vf;refine aH (ay (bc (sD (rfl:_=aaJ (MV.i .u8) b) λ_=>rfl) (cq (([]:List Int).length) (ao (bH (ae (abD n) λrA=>ay (yc (n:=(([]:List Int)++b).length) (by simp only [AS,By,AT,BY,IS,IT,OF]) (cq (([c8 .u8 (c8 .i64 (rA-1))]:List Int).length) (bH (ae (bu (λr=>[.list (r.1.map (MV.i .u8)),.i .i64 r.2]) (λr=>(2,[.list (r.map (MV.i .u8))])) (by simp) λst=> ?_) λw=> ?_))))))))))
 ·unfold Fq;refine rG<|ap ?_ ?_
  ·refine ae (bu (λr=>[.i .u64 r.1,.i .i64 r.2]) (λr=>(4,[.i .u64 r])) (rfl) λdA=> ?_) λw1=> ?_
   ·unfold Fp;refine AQ<|ap ?_ ?_
    ·refine NO aa
    ·exact aa
   ·refine bc rfl (ab (ay (ak (NO (ao (cq (([c8 .u8 (Int.tmod w1 256)]:List Int).length) (bH (cm (by simp)))))))))
  ·exact aa
 ·refine bc rfl (ab (aH (ak aa)))
theorem lJ (b:List Int)(n:Int):Sm (KR (MV.i .u8)) (jB (.list (b.map (MV.i .u8))) (.i .i64 n)) (ja b n):=by
 unfold jB ja;refine aH (ay (ap ?_ ?_))
 ·refine ae (HD b (c8 .u64 ((c8 .u64 (2 *(c8 .u64 (c8 .i64 (0-(c8 .i64 (n+1)))))))+1))) λrA=>fh aa
 ·refine ae (HD b (c8 .u64 (2 *(c8 .u64 n)))) λaT=>fh aa
theorem AY (b:List Int)(sA:List UInt8):Sm (KR (MV.i .u8)) (rF (.list (b.map (MV.i .u8))) (.s sA)) (pg b sA):=by unfold rF pg;refine aH (bA (ae (HD b (c8 .u64 (sA.length:Int))) λrA=>fh (ao (yc (n:=(Qc sA).length) (by simp only [yb,AS,By,AT,BY,IS,IT,OF]) (bH (cm (by simp)))))))
theorem abE (b:List Int)(lA:List (List UInt8)):Sm (KR (MV.i .u8)) (Ew (.list (b.map (MV.i .u8))) (.list (lA.map MV.s))) (Ar b lA):=by
 unfold Ew Ar;refine aH (aH (ao (ae (HD b (c8 .u64 (lA.length:Int))) λrA=>fh (ae (bu (λr=>[.list (r.1.map (MV.i .u8)),.i .i64 r.2]) (λr=>(2,[.list (r.map (MV.i .u8))])) (rfl) λst=> ?_) λw=> ?_))))
 ·unfold ye;refine rG (ao (ap ?_ ?_))
  ·refine aU (f:=MV.s) (rfl) λy=>bA<|ae (AY st.1 y) λaT=>fh aa
  ·exact aa
 ·refine bc rfl (ab (aH (ak aa)))
theorem OB (b:List Int)(rA:aD):Sm (GS (MV.i .u8)) (sO (.list (b.map (MV.i .u8))) (bC rA)) (pj b rA):=by
 unfold sO pj;refine aH (ax (bM (ae (bu (λr=>[.list (r.1.map (MV.i .u8)),.i .i64 r.2]) (λr=>(2,[.list (r.map (MV.i .u8))])) (rfl) λst=> ?_) λw=> ?_)))
 ·unfold pi;refine rG (cq (([rA.Client,rA.Seq,rA.E,rA.Version]:List Int).length) (ap ?_ ?_))
  ·refine aU (f:=(MV.i .i64)) (rfl) λy=>ay<|ae (lJ st.1 y) λaT=>fh aa
  ·exact aa
 ·refine bc rfl (ab (aH (ak (ae (AY w rA.Value) λca=>fh (ae (abE ca rA.Names) λgO=>fh aa)))))
theorem Rf (a:b6):Sm (GS (MV.i .u8)) (AN (fH a)) (xb a):=by
 unfold AN xb;refine ax (dF (ao (ae (lJ ([]:List Int) (a.Shelf.L.length:Int)) λrA=>fh (ae (bu (λr=>[.list (r.1.map (MV.i .u8)),.i .i64 r.2]) (λr=>(2,[.list (r.map (MV.i .u8))])) (rfl) λst=> ?_) λw=> ?_))))
 ·unfold yf;refine rG (ao (ap ?_ ?_))
  ·refine aU (f:=bD) (rfl) λy=>ax (dz (ae (AY st.1 y.Path) λaT=>fh (ae (AY aT y.Value) λca=>fh (ae (lJ ca y.Version) λgO=>fh (ae (lJ gO y.bF) λoP=>fh aa)))))
  ·exact aa
 ·refine bc rfl (ab (aH (ak (ae (lJ w a.aN.ct) λrR=>fh (ao (ae (lJ rR (a.aN.L.length:Int)) λzg=>fh (ae (bu (λr=>[.list (r.1.map (MV.i .u8)),.i .i64 r.2]) (λr=>(4,[.list (r.map (MV.i .u8))])) (rfl) λdA=> ?_) λw1=> ?_)))))))
  ·unfold yg;refine rG (ao (ap ?_ ?_))
   ·refine aU (f:=br) (rfl) λy1=>ax (mw (ae (lJ dA.1 y1.Id) λHq=>fh (ae (lJ Hq y1.Span) λKB=>fh (ae (lJ KB y1.cF) λR9=>fh aa))))
   ·exact aa
  ·refine bc rfl (ab (aH (ak (ao (ae (lJ w1 (a.aR.L.length:Int)) λAm=>fh (ae (bu (λr=>[.list (r.1.map (MV.i .u8)),.i .i64 r.2]) (λr=>(6,[.list (r.map (MV.i .u8))])) (rfl) λei=> ?_) λw2=> ?_))))))
   ·unfold yh;refine rG (ao (ap ?_ ?_))
    ·refine aU (f:=b5) (rfl) λy2=>ax (nG (ae (AY ei.1 y2.Path) λKU=>fh (ae (lJ KU y2.Client) λFs=>fh (ae (f:=(λr=>(0,[.list (r.map (MV.i .u8))]))) ?_ λw3=> ?_))))
     ·refine aw ?_ ?_
      ·refine ae (lJ Fs 1) λN1=>fh aa
      ·refine ae (lJ Fs 0) λKV=>fh aa
     ·refine bc rfl (ab (aH (ak aa)))
    ·exact aa
   ·refine bc rfl (ab (aH (ak (ao (ae (lJ w2 (a.Seen.length:Int)) λN2=>fh (ae (bu (λr=>[.list (r.1.map (MV.i .u8)),.i .i64 r.2]) (λr=>(8,[.list (r.map (MV.i .u8))])) (rfl) λnp=> ?_) λw4=> ?_))))))
    ·unfold yi;refine rG (ao (ap ?_ ?_))
     ·refine aU (f:=bC) (rfl) λy3=>ax (bM (ae (OB np.1 y3) λKW=>aH aa))
     ·exact aa
    ·refine bc rfl (ab (aH (ak aa)))
theorem Rg (a:b6)(b:b6):Sm MV.b (AO (fH a) (fH b)) (xc a b):=by unfold AO xc;refine ax (dF (ax (dF (ae (Rf a) λrA=>aH (Tj (M:=rA) (rfl) λbs=>ae (Rf b) λaT=>aH (Tj (M:=aT) (rfl) λbs1=>aa))))))
theorem Rh (a:List (List UInt8))(b:List (List UInt8)):Sm MV.b (vw (.list (a.map MV.s)) (.list (b.map MV.s))) (rm a b):=by
 unfold vw rm;refine aH (aH (ao (ao (aw ?_ ?_))))
 ·exact aa
 ·refine ae (bu (λr=>[.i .i64 r]) (sh (λr=>(2,[])) (λr=>(1,[.b r]))) (rfl) λst=> ?_) λw=> ?_
  ·unfold qI;refine ab (ay (ak (ao (ap ?_ ?_))))
   ·refine aU (f:=MV.s) (rfl) λy=>bA<|aU (f:=MV.s) (rfl) λy1=>bA<|aw ?_ ?_
    ·exact aa
    ·exact aa
   ·exact aa
  ·rcases w with p1|p2
   ·refine eH rfl (ak aa)
   ·refine eI rfl (bc rfl (ab (aG (ak aa))))
theorem abF (a:aD)(b:aD):Sm MV.b (Ey (bC a) (bC b)) (As a b):=by
 unfold Ey As;refine ax (bM (ax (bM (ae (f:=λr=>[.b r]) ?_ λw=> ?_))))
 ·refine ap ?_ ?_
  ·refine ap ?_ ?_
   ·refine ap ?_ ?_
    ·refine ap ?_ ?_
     ·refine ap ?_ ?_
      ·refine ae (Rh a.Names b.Names) λrA=>aG aa
      ·exact aa
     ·exact aa
    ·exact aa
   ·exact aa
  ·exact aa
 ·refine ab (aG (ak aa))
theorem TU (a:List bO)(b:List bO):Sm MV.b (yR (.list (a.map eB)) (.list (b.map eB))) (tS a b):=by
 unfold yR tS;refine aH (aH (ao (ao (aw ?_ ?_))))
 ·exact aa
 ·refine ae (bu (λr=>[.i .i64 r]) (sh (λr=>(2,[])) (λr=>(1,[.b r]))) (rfl) λst=> ?_) λw=> ?_
  ·unfold pk;refine ab (ay (ak (ao (ap ?_ ?_))))
   ·refine aU (f:=eB) (rfl) λy=>ax (HB (aU (f:=eB) (rfl) λy1=>ax (HB (aw ?_ ?_))))
    ·exact aa
    ·exact aa
   ·exact aa
  ·rcases w with p1|p2
   ·refine eH rfl (ak aa)
   ·refine eI rfl (bc rfl (ab (aG (ak aa))))
theorem TV (lA:List bI):Sm (GS eB) (yS (.list (lA.map eh))) (tT lA):=by
 unfold yS tT;refine aH<|ae (bu (λr=>[.list (r.1.map eB),.i .i64 r.2]) (λr=>(2,[.list (r.map eB)])) (rfl) λst=> ?_) λw=> ?_
 ·unfold pn;refine rG (ao (ap ?_ ?_))
  ·refine aU (f:=eh) (rfl) λy=>ax (HB (aU (f:=eh) (rfl) λy1=>ax (HB (ao (cq (([(⟨(⟨y.W.Path,y.W.Client,y.W.Kids⟩:aL),(⟨y1.C.Kind,y1.C.Path⟩:bq)⟩:bO)]:List bO).length) (bH (cm (by simp))))))))
  ·exact aa
 ·refine bc rfl (ab (aH (ak aa)))
theorem FH (a:au)(a1:aB):Sm MV.b (qq (eg a) (eJ a1)) (mN a a1):=by
 unfold qq mN;refine ax (dF (ax (fA (ae (f:=λr=>[.b r]) ?_ λw=> ?_))))
 ·refine ae (aeT a) λrA=>aG<|aw ?_ ?_
  ·exact aa
  ·refine ae (Xk ([a1]:List aB)) λaT=>aG<|aw ?_ ?_
   ·exact aa
   ·refine ae (BM a) λca=>ax (dF (ae (Xo ca) λgO=>aG aa))
 ·refine ab (aG (ak (aw ?_ ?_)))
  ·refine ae (MO) λoP=>aG aa
  ·refine ae (BM a) λrR=>ax (dF (ae (AX a a1) λzg=>b9 (ab (ax (dF (ab (ax (bM (ab (aH (ak (ae (aeX a1) λHq=>ax (fA (ae (Xy rR Hq) λKB=>b9 (ab (ax (dF (ab (ax (bM (ab (aH (ak (ae (f:=λr=>[.b r]) ?_ λw1=> ?_))))))))))))))))))))))))
   ·refine ae (MO) λR9=>aG<|aw ?_ ?_
    ·refine ae (BM zg.1) λAm=>ax (dF (ae (Rg Am KB.1) λKU=>aG (aw ?_ ?_)))
     ·refine ae (Q6 zg.2.1) λFs=>ax (bM (ae (abF Fs KB.2.1) λN1=>aG (aw ?_ ?_)))
      ·refine ae (TV zg.2.2) λKV=>aH<|ae (TU KV KB.2.2) λN2=>aG<|aw ?_ ?_
       ·refine ae (BM a) λKW=>ax (dF (ae (Rg KW rR) λaee=>aG aa))
       ·exact aa
      ·exact aa
     ·exact aa
    ·exact aa
   ·refine ab (aG (ak aa))
end Dn.S
