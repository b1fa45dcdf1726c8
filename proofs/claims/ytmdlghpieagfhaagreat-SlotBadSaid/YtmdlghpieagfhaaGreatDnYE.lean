import Derived.Test.YtmdlghpieagfhaaGreatDnYD
/-
  Typed and plain functions agree. Conditions: none.
-/
set_option linter.unusedVariables false
set_option linter.unusedSimpArgs false
open Int renaming toNat→eJ
open List renaming length_map→sh,map_append→AI,length_cons→BY,length_append→IN,length_nil→IS,length_take→No,length_drop→OF,length_set→aaa,map_cons→aah,map_take→aai,map_drop→aas,map_replicate→aaD,map_nil→aaL,map_set→aaN,drop→aaR,take→aaS,map→aaT,replicate→aaZ
open Sum renaming elim→AT
open Go.IntKind renaming wrap→IT,bits→aaX
open Go Dn
set_option maxRecDepth 100000
namespace Dn.S
@[reducible] def v0 (r : Int × Int × Int × Int × Bool × Int × (List UInt8) × (List aa) × (List aa) × Int × Int × (List aa) × (List aa) × (List aa) × Bool × (List UInt8) × (List ab) × Int × (List al)) : List MV := [.i .i64 r.1, .i .i64 r.2.1, .i .i64 r.2.2.1, .i .i64 r.2.2.2.1, .b r.2.2.2.2.1, .i .i64 r.2.2.2.2.2.1, .s r.2.2.2.2.2.2.1, .list (r.2.2.2.2.2.2.2.1.map ak), .list (r.2.2.2.2.2.2.2.2.1.map ak), .i .i64 r.2.2.2.2.2.2.2.2.2.1, .i .i64 r.2.2.2.2.2.2.2.2.2.2.1, .list (r.2.2.2.2.2.2.2.2.2.2.2.1.map ak), .list (r.2.2.2.2.2.2.2.2.2.2.2.2.1.map ak), .list (r.2.2.2.2.2.2.2.2.2.2.2.2.2.1.map ak), .b r.2.2.2.2.2.2.2.2.2.2.2.2.2.2.1, .s r.2.2.2.2.2.2.2.2.2.2.2.2.2.2.2.1, .list (r.2.2.2.2.2.2.2.2.2.2.2.2.2.2.2.2.1.map aF), .i .i64 r.2.2.2.2.2.2.2.2.2.2.2.2.2.2.2.2.2.1, .list (r.2.2.2.2.2.2.2.2.2.2.2.2.2.2.2.2.2.2.map aX)]
@[reducible] def v1 (r : Int × Int × Int × Int × Bool × Int × (List UInt8) × (List aa) × (List aa) × Int × Int × (List aa) × (List aa) × (List aa) × Bool × (List UInt8) × (List ab) × Int) : List MV := [.i .i64 r.1, .i .i64 r.2.1, .i .i64 r.2.2.1, .i .i64 r.2.2.2.1, .b r.2.2.2.2.1, .i .i64 r.2.2.2.2.2.1, .s r.2.2.2.2.2.2.1, .list (r.2.2.2.2.2.2.2.1.map ak), .list (r.2.2.2.2.2.2.2.2.1.map ak), .i .i64 r.2.2.2.2.2.2.2.2.2.1, .i .i64 r.2.2.2.2.2.2.2.2.2.2.1, .list (r.2.2.2.2.2.2.2.2.2.2.2.1.map ak), .list (r.2.2.2.2.2.2.2.2.2.2.2.2.1.map ak), .list (r.2.2.2.2.2.2.2.2.2.2.2.2.2.1.map ak), .b r.2.2.2.2.2.2.2.2.2.2.2.2.2.2.1, .s r.2.2.2.2.2.2.2.2.2.2.2.2.2.2.2.1, .list (r.2.2.2.2.2.2.2.2.2.2.2.2.2.2.2.2.1.map aF), .i .i64 r.2.2.2.2.2.2.2.2.2.2.2.2.2.2.2.2.2]
@[reducible] def v2 (r : Int × Int × Int × (List UInt8) × (List ab) × Int × Int × (List UInt8) × (List aa) × Int × Int × Bool × Int × (List UInt8) × (List aa)) : List MV := [.i .i64 r.1, .i .i64 r.2.1, .i .i64 r.2.2.1, .s r.2.2.2.1, .list (r.2.2.2.2.1.map aF), .i .i64 r.2.2.2.2.2.1, .i .i64 r.2.2.2.2.2.2.1, .s r.2.2.2.2.2.2.2.1, .list (r.2.2.2.2.2.2.2.2.1.map ak), .i .i64 r.2.2.2.2.2.2.2.2.2.1, .i .i64 r.2.2.2.2.2.2.2.2.2.2.1, .b r.2.2.2.2.2.2.2.2.2.2.2.1, .i .i64 r.2.2.2.2.2.2.2.2.2.2.2.2.1, .s r.2.2.2.2.2.2.2.2.2.2.2.2.2.1, .list (r.2.2.2.2.2.2.2.2.2.2.2.2.2.2.map ak)]
@[reducible] def v3 (r : Int × Int × (List Bool) × (List (List UInt8)) × (List aq) × (List al) × Int) : List MV := [.i .i64 r.1, .i .i64 r.2.1, .list (r.2.2.1.map MV.b), .list (r.2.2.2.1.map MV.s), .list (r.2.2.2.2.1.map bk), .list (r.2.2.2.2.2.1.map aX), .i .i64 r.2.2.2.2.2.2]
@[reducible] def v4 (r : Int × Int × Int × (List Bool) × (List (List UInt8)) × (List aq) × (List al)) : List MV := [.i .i64 r.1, .i .i64 r.2.1, .i .i64 r.2.2.1, .list (r.2.2.2.1.map MV.b), .list (r.2.2.2.2.1.map MV.s), .list (r.2.2.2.2.2.1.map bk), .list (r.2.2.2.2.2.2.map aX)]
@[reducible] def v5 (r : Int × Int × (List aa) × (List aa) × (List aa) × Bool × (List UInt8)) : List MV := [.i .i64 r.1, .i .i64 r.2.1, .list (r.2.2.1.map ak), .list (r.2.2.2.1.map ak), .list (r.2.2.2.2.1.map ak), .b r.2.2.2.2.2.1, .s r.2.2.2.2.2.2]
@[reducible] def v6 (r : Int × Int × (List Bool) × (List (List UInt8)) × (List aq) × (List al)) : List MV := [.i .i64 r.1, .i .i64 r.2.1, .list (r.2.2.1.map MV.b), .list (r.2.2.2.1.map MV.s), .list (r.2.2.2.2.1.map bk), .list (r.2.2.2.2.2.map aX)]
@[reducible] def v7 (r : Int × (List UInt8) × Bool) : List MV := [.i .i64 r.1, .s r.2.1, .b r.2.2]
theorem oU {A B:Type}{g:B->A}{T:Option B}{l:List MV}{K:Nat->Option A}(n:Nat)(h:Sm g (K n) T)(e:l.length=n:=by simp only [sh,BY,IS]):Sm g (bq l K) T:=ye e h
theorem aK {A B C:Type}{g:B->A}{T:Option B}{f:C->MV}{M:List C}{K:Nat->Option A}(h:Sm g (K M.length) T):Sm g (bq (M.map f) K) T:=ye (sh ..) h
theorem aj {A B:Type}{g:B->A}{d:A}{a:B}(e:d=g a:=by exact rfl):Sm g (some d) (some a):=jH e
theorem mF {A B:Type}{g:B->A}{T:Option B}{k0 k1:IntKind}{x0:Int}{x1:Int}{K:Int->Int->Option A}(h:Sm g (K x0 x1) T):Sm g (oII k0 k1 [.i k0 x0,.i k1 x1] K) T:=ai (ax (ai (ax (aA h))))
theorem fq {A B:Type}{g:B->A}{T:Option B}{k0 k1 k3:IntKind}{x0:Int}{x1:Int}{x2:Bool}{x3:Int}{x4:List UInt8}{x5:List MV}{K:Int->Int->Bool->Int->List UInt8->List MV->Option A}(h:Sm g (K x0 x1 x2 x3 x4 x5) T):Sm g (TH k0 k1 k3 [.i k0 x0,.i k1 x1,.b x2,.i k3 x3,.s x4,.list x5] K) T:=ai (ax (ai (ax (ai (az (ai (ax (ai (eu (ai (aU (aA h))))))))))))
theorem eE {A B:Type}{g:B->A}{T:Option B}{k0 k1 k2 k3 k5:IntKind}{x0:Int}{x1:Int}{x2:Int}{x3:Int}{x4:Bool}{x5:Int}{x6:List UInt8}{x7:List MV}{x8:List MV}{K:Int->Int->Int->Int->Bool->Int->List UInt8->List MV->List MV->Option A}(h:Sm g (K x0 x1 x2 x3 x4 x5 x6 x7 x8) T):Sm g (IP k0 k1 k2 k3 k5 [.i k0 x0,.i k1 x1,.i k2 x2,.i k3 x3,.b x4,.i k5 x5,.s x6,.list x7,.list x8] K) T:=ai (ax (ai (ax (ai (ax (ai (ax (ai (az (ai (ax (ai (eu (ai (aU (ai (aU (aA h))))))))))))))))))
theorem aG {A B:Type}{g:B->A}{T:Option B}{k0 k1 k2 k3 k5 k9 TJ k17:IntKind}{x0:Int}{x1:Int}{x2:Int}{x3:Int}{x4:Bool}{x5:Int}{x6:List UInt8}{x7:List MV}{x8:List MV}{x9:Int}{qE:Int}{rB:List MV}{r8:List MV}{r9:List MV}{tA:Bool}{xf:List UInt8}{zx:List MV}{wK:Int}{K:Int->Int->Int->Int->Bool->Int->List UInt8->List MV->List MV->Int->Int->List MV->List MV->List MV->Bool->List UInt8->List MV->Int->Option A}(h:Sm g (K x0 x1 x2 x3 x4 x5 x6 x7 x8 x9 qE rB r8 r9 tA xf zx wK) T):Sm g (fN k0 k1 k2 k3 k5 k9 TJ k17 [.i k0 x0,.i k1 x1,.i k2 x2,.i k3 x3,.b x4,.i k5 x5,.s x6,.list x7,.list x8,.i k9 x9,.i TJ qE,.list rB,.list r8,.list r9,.b tA,.s xf,.list zx,.i k17 wK] K) T:=ai (ax (ai (ax (ai (ax (ai (ax (ai (az (ai (ax (ai (eu (ai (aU (ai (aU (ai (ax (ai (ax (ai (aU (ai (aU (ai (aU (ai (az (ai (eu (ai (aU (ai (ax (aA h))))))))))))))))))))))))))))))))))))
theorem mb {A B:Type}{g:B->A}{T:Option B}{k0 k1 k2 k3 k5 k9 TJ k17:IntKind}{x0:Int}{x1:Int}{x2:Int}{x3:Int}{x4:Bool}{x5:Int}{x6:List UInt8}{x7:List MV}{x8:List MV}{x9:Int}{qE:Int}{rB:List MV}{r8:List MV}{r9:List MV}{tA:Bool}{xf:List UInt8}{zx:List MV}{wK:Int}{Ki:List MV}{K:Int->Int->Int->Int->Bool->Int->List UInt8->List MV->List MV->Int->Int->List MV->List MV->List MV->Bool->List UInt8->List MV->Int->List MV->Option A}(h:Sm g (K x0 x1 x2 x3 x4 x5 x6 x7 x8 x9 qE rB r8 r9 tA xf zx wK Ki) T):Sm g (jO k0 k1 k2 k3 k5 k9 TJ k17 [.i k0 x0,.i k1 x1,.i k2 x2,.i k3 x3,.b x4,.i k5 x5,.s x6,.list x7,.list x8,.i k9 x9,.i TJ qE,.list rB,.list r8,.list r9,.b tA,.s xf,.list zx,.i k17 wK,.list Ki] K) T:=ai (ax (ai (ax (ai (ax (ai (ax (ai (az (ai (ax (ai (eu (ai (aU (ai (aU (ai (ax (ai (ax (ai (aU (ai (aU (ai (aU (ai (az (ai (eu (ai (aU (ai (ax (ai (aU (aA h))))))))))))))))))))))))))))))))))))))
theorem nj {A B:Type}{g:B->A}{T:Option B}{k0 k1 k2 k3 k4 k5 k8 k9 k12 k13 k15:IntKind}{x0:Int}{x1:Int}{x2:Int}{x3:Int}{x4:Int}{x5:Int}{x6:List UInt8}{x7:List MV}{x8:Int}{x9:Int}{qE:List UInt8}{rB:List MV}{r8:Int}{r9:Int}{tA:Bool}{xf:Int}{zx:List UInt8}{wK:List MV}{K:Int->Int->Int->Int->Int->Int->List UInt8->List MV->Int->Int->List UInt8->List MV->Int->Int->Bool->Int->List UInt8->List MV->Option A}(h:Sm g (K x0 x1 x2 x3 x4 x5 x6 x7 x8 x9 qE rB r8 r9 tA xf zx wK) T):Sm g (sK k0 k1 k2 k3 k4 k5 k8 k9 k12 k13 k15 [.i k0 x0,.i k1 x1,.i k2 x2,.i k3 x3,.i k4 x4,.i k5 x5,.s x6,.list x7,.i k8 x8,.i k9 x9,.s qE,.list rB,.i k12 r8,.i k13 r9,.b tA,.i k15 xf,.s zx,.list wK] K) T:=ai (ax (ai (ax (ai (ax (ai (ax (ai (ax (ai (ax (ai (eu (ai (aU (ai (ax (ai (ax (ai (eu (ai (aU (ai (ax (ai (ax (ai (az (ai (ax (ai (eu (ai (aU (aA h))))))))))))))))))))))))))))))))))))
theorem bK {A B:Type}{g:B->A}{T:Option B}{k0 k1 k2 k5 k6 k9 TJ k12:IntKind}{x0:Int}{x1:Int}{x2:Int}{x3:List UInt8}{x4:List MV}{x5:Int}{x6:Int}{x7:List UInt8}{x8:List MV}{x9:Int}{qE:Int}{rB:Bool}{r8:Int}{r9:List UInt8}{tA:List MV}{K:Int->Int->Int->List UInt8->List MV->Int->Int->List UInt8->List MV->Int->Int->Bool->Int->List UInt8->List MV->Option A}(h:Sm g (K x0 x1 x2 x3 x4 x5 x6 x7 x8 x9 qE rB r8 r9 tA) T):Sm g (nE k0 k1 k2 k5 k6 k9 TJ k12 [.i k0 x0,.i k1 x1,.i k2 x2,.s x3,.list x4,.i k5 x5,.i k6 x6,.s x7,.list x8,.i k9 x9,.i TJ qE,.b rB,.i k12 r8,.s r9,.list tA] K) T:=ai (ax (ai (ax (ai (ax (ai (eu (ai (aU (ai (ax (ai (ax (ai (eu (ai (aU (ai (ax (ai (ax (ai (az (ai (ax (ai (eu (ai (aU (aA h))))))))))))))))))))))))))))))
theorem dx {A B:Type}{g:B->A}{T:Option B}{k0 k1:IntKind}{x0:Int}{x1:Int}{x2:List MV}{x3:List MV}{x4:List MV}{x5:Bool}{x6:List UInt8}{K:Int->Int->List MV->List MV->List MV->Bool->List UInt8->Option A}(h:Sm g (K x0 x1 x2 x3 x4 x5 x6) T):Sm g (Ac k0 k1 [.i k0 x0,.i k1 x1,.list x2,.list x3,.list x4,.b x5,.s x6] K) T:=ai (ax (ai (ax (ai (aU (ai (aU (ai (aU (ai (az (ai (eu (aA h))))))))))))))
theorem bC {A B:Type}{g:B->A}{T:Option B}{k0 k1:IntKind}{x0:Int}{x1:Int}{x2:List MV}{x3:List MV}{x4:List MV}{x5:List MV}{K:Int->Int->List MV->List MV->List MV->List MV->Option A}(h:Sm g (K x0 x1 x2 x3 x4 x5) T):Sm g (lf k0 k1 [.i k0 x0,.i k1 x1,.list x2,.list x3,.list x4,.list x5] K) T:=ai (ax (ai (ax (ai (aU (ai (aU (ai (aU (ai (aU (aA h))))))))))))
theorem Bk {A B:Type}{g:B->A}{T:Option B}{k0 k1 k6:IntKind}{x0:Int}{x1:Int}{x2:List MV}{x3:List MV}{x4:List MV}{x5:List MV}{x6:Int}{K:Int->Int->List MV->List MV->List MV->List MV->Int->Option A}(h:Sm g (K x0 x1 x2 x3 x4 x5 x6) T):Sm g (IR k0 k1 k6 [.i k0 x0,.i k1 x1,.list x2,.list x3,.list x4,.list x5,.i k6 x6] K) T:=ai (ax (ai (ax (ai (aU (ai (aU (ai (aU (ai (aU (ai (ax (aA h))))))))))))))
theorem gx {A B:Type}{g:B->A}{T:Option B}{k0 k1:IntKind}{x0:Int}{x1:Int}{x2:List UInt8}{K:Int->Int->List UInt8->Option A}(h:Sm g (K x0 x1 x2) T):Sm g (aid k0 k1 [.i k0 x0,.i k1 x1,.s x2] K) T:=ai (ax (ai (ax (ai (eu (aA h))))))
theorem Ar {A B:Type}{g:B->A}{T:Option B}{k0:IntKind}{x0:Int}{x1:List UInt8}{x2:Bool}{K:Int->List UInt8->Bool->Option A}(h:Sm g (K x0 x1 x2) T):Sm g (abl k0 [.i k0 x0,.s x1,.b x2] K) T:=ai (ax (ai (eu (ai (az (aA h))))))
theorem rh {A B:Type}{g:B->A}{T:Option B}{k1:IntKind}{x0:List MV}{x1:Int}{K:List MV->Int->Option A}(h:Sm g (K x0 x1) T):Sm g (oLI k1 [.list x0,.i k1 x1] K) T:=ai (aU (ai (ax (aA h))))
theorem Ve (a:jg)(a1:List dy):Sm MV.b (Bf (CA a) (.list (a1.map mS))) (xb a a1):=by
 unfold Bf xb;refine aH (ai (ax (ai (ax (ai (aU (ai (aU (aA (aU ?_))))))))));refine ao (f:=λr=>[.b r]) ?_ λw=> ?_
 ·refine aN ?_ ?_
  ·exact aj
  ·refine aK<|aN ?_ ?_
   ·exact aj
   ·refine aK<|aN ?_ ?_
    ·exact aj
    ·refine aK aj
 ·refine ai (az (aA (ay ?_ ?_)))
  ·exact aj
  ·refine ao (cY (λr=>[.i .i64 r]) (AT (λr=>(2,[])) (λr=>(1,[.b r]))) (rfl) λst=> ?_) λw1=> ?_
   ·unfold vB;refine ai (ax (aA (aK (aN ?_ ?_))))
    ·refine bJ (f:=MV.s) (rfl) λy=>eu<|aN ?_ ?_
     ·exact aj
     ·exact aj
    ·exact aj
   ·rcases w1 with p1|p2
    ·refine jY rfl (aA (ao (cY (λr=>[.i .i64 r]) (AT (λr=>(4,[])) (λr=>(1,[.b r]))) (rfl) λcR=> ?_) λw2=> ?_))
     ·unfold rW;refine ai (ax (aA (aK (aN ?_ ?_))))
      ·refine bJ (f:=mS) (rfl) λy1=>aH (nj ?_);refine ao (f:=λr=>[.b r]) ?_ λw3=> ?_
       ·refine aN ?_ ?_
        ·exact aj
        ·refine aN ?_ ?_
         ·exact aj
         ·refine aK<|aN ?_ ?_
          ·exact aj
          ·refine aK<|aN ?_ ?_
           ·exact aj
           ·refine aN ?_ ?_
            ·exact aj
            ·refine aK aj
       ·refine ai (az (aA (ay ?_ ?_)))
        ·exact aj
        ·refine ao (cY (λr=>[.i .i64 r]) (AT (λr=>(6,[])) (λr=>(1,[.b r]))) (rfl) λdV=> ?_) λw4=> ?_
         ·unfold rV;refine ai (ax (aA (aK (aN ?_ ?_))))
          ·refine bJ (f:=aF) (rfl) λy2=>aH (fq (aK (aN ?_ ?_)))
           ·exact aj
           ·exact aj
          ·exact aj
         ·rcases w4 with p5|p6
          ·refine jY rfl (aA aj)
          ·refine jZ rfl (bE rfl (ai (az (aA aj))))
      ·exact aj
     ·rcases w2 with p7|p8
      ·refine jY rfl (aA aj)
      ·refine jZ rfl (bE rfl (ai (az (aA aj))))
    ·refine jZ rfl (bE rfl (ai (az (aA aj))))
theorem KQ (sA:af):Sm (λx:Nat×Nat=>MV.raw (.complex .f64 x.1 x.2)) (rC (bP sA)) (wi sA):=by unfold rC wi;refine aH (mF aj)
theorem pA (sA:af)(times:Nat×Nat):Sm (MV.i .i64) (jP (bP sA) (.raw (.complex .f64 times.1 times.2))) (kO sA times):=by unfold jP kO;refine aH (mF (Yf (ao (KQ sA) λrA=>Yf (NA (NA (Hi λf=>NA (NA (Hi λf1=>Hi λf2=>Hi λn=>dX aj))))))))
theorem yB (sA:af):Sm (MV.i .i64) (sB (bP sA)) (pT sA):=by unfold sB pT;refine aH (mF (ao (pA sA (4613937818241073152,4611686018427387904)) λrA=>ax aj))
theorem rj (sA:af):Sm MV.b (lg (bP sA)) (j0 sA):=by
 unfold lg j0;refine aH (mF ?_);refine ao (f:=λr=>[.b r]) ?_ λw=> ?_
 ·refine aN ?_ ?_
  ·refine aN ?_ ?_
   ·refine aN ?_ ?_
    ·exact aj
    ·exact aj
   ·exact aj
  ·exact aj
 ·refine ai (az (aA aj))
theorem Er (sA:af)(me:Int):Sm (λr=> .ej [bY r.1,.i .i64 r.2]) (qf (bP sA) (.i .i64 me)) (nw sA me):=by
 unfold qf nw;refine aH (mF (ax ?_));refine ao (f:=λr=>[.b r]) ?_ λw=> ?_
 ·refine ao (rj sA) λrA=>az<|ay ?_ ?_
  ·exact aj
  ·refine aN ?_ ?_
   ·exact aj
   ·refine ao (yB sA) λbc=>ax aj
 ·refine ai (az (aA (ay ?_ ?_)))
  ·exact aj
  ·exact aj
theorem Gy (sA:af):Sm (λr=> .ej [cF r.1,.i .i64 r.2]) (sa (bP sA)) (pj sA):=by
 unfold sa pj;refine aH (mF (ao (rj sA) λrA=>az (ay ?_ ?_)))
 ·exact aj
 ·exact aj
theorem R9 (sA:af)(i:Int):Sm (λr=> .ej [bk r.1,.i .i64 r.2]) (yo (bP sA) (.i .i64 i)) (uc sA i):=by
 unfold yo uc;refine aH (mF (ax (ao (Er sA i) λrA=>fD (ai (aH (eE (ai (ax (aA (ay ?_ ?_))))))))))
 ·exact aj
 ·refine ao (Gy sA) λbc=>fD (ai (aH (dx (ai (ax (aA aj))))))
theorem PX (a:af)(a1:List Bool)(a2:List (List UInt8)):Sm (λr=> .ej [gU r.1,.i .i64 r.2]) (Ae (bP a) (.list (a1.map MV.b)) (.list (a2.map MV.s))) (ud a a1 a2):=by
 unfold Ae ud;refine aH (mF (aU (aU ?_)));refine ao (f:=λr=>[.b r]) ?_ λw=> ?_
 ·refine ao (rj a) λrA=>az<|ay ?_ ?_
  ·exact aj
  ·refine aK<|ao (yB a) λbc=>ax<|ay ?_ ?_
   ·exact aj
   ·refine aK (aK aj)
 ·refine ai (az (aA (ay ?_ ?_)))
  ·exact aj
  ·refine ao (A6 (size:=1) (f:=MV.b) (λ_=>rfl) a1) λbQ=>qJ<|ao (A6 (size:=1) (f:=MV.s) (λ_=>rfl) a2) λct=>qJ (aK (ao (cY (λr=>[.i .i64 r.1,.i .i64 r.2.1,.list (r.2.2.1.map MV.b),.list (r.2.2.2.1.map MV.s),.list (r.2.2.2.2.1.map bk),.list (r.2.2.2.2.2.1.map aX),.i .i64 r.2.2.2.2.2.2.1,.i .i64 r.2.2.2.2.2.2.2.1,.list (r.2.2.2.2.2.2.2.2.1.map MV.b),.list (r.2.2.2.2.2.2.2.2.2.1.map MV.s),.list (r.2.2.2.2.2.2.2.2.2.2.1.map bk),.list (r.2.2.2.2.2.2.2.2.2.2.2.1.map aX),.i .i64 r.2.2.2.2.2.2.2.2.2.2.2.2.1,.i .i64 r.2.2.2.2.2.2.2.2.2.2.2.2.2]) (AT (λr=>(2,[.i .i64 r.1,.i .i64 r.2.1,.list (r.2.2.1.map MV.b),.list (r.2.2.2.1.map MV.s),.list (r.2.2.2.2.1.map bk),.list (r.2.2.2.2.2.1.map aX),.i .i64 r.2.2.2.2.2.2.1,.i .i64 r.2.2.2.2.2.2.2.1,.list (r.2.2.2.2.2.2.2.2.1.map MV.b),.list (r.2.2.2.2.2.2.2.2.2.1.map MV.s),.list (r.2.2.2.2.2.2.2.2.2.2.1.map bk),.list (r.2.2.2.2.2.2.2.2.2.2.2.map aX)])) (λr=>(1,(v3 r)))) (rfl) λst=> ?_) λw1=> ?_))
   ·unfold CD;refine ai (ax (ai (ax (ai (aU (ai (aU (ai (aU (ai (aU (ai (ax (ai (ax (ai (aU (ai (aU (ai (aU (ai (aU (mF (aN ?_ ?_)))))))))))))))))))))))))
    ·refine bJ (f:=MV.b) (rfl) λy=>az<|ao (f:=(λr=>(0,[.i .i64 r]))) ?_ λw2=> ?_
     ·refine ay ?_ ?_
      ·exact aj
      ·exact aj
     ·refine bE rfl (ai (ax (aA ?_)));refine ao (f:=λr=>[.b r]) ?_ λw3=> ?_
      ·refine bJ (f:=MV.s) (rfl) λy1=>eu<|aN ?_ ?_
       ·exact aj
       ·exact aj
      ·refine ai (az (aA (ay ?_ ?_)))
       ·exact aj
       ·refine ao (R9 a st.2.2.2.2.2.2.2.2.2.2.2.2.2) λgm=>fD (ai (aH (aG (ai (ax (aA (aK (oU (([gm.1]:List aq).length) (dX (jH (by simp [av,ba,qd,v3])))))))))))
    ·exact aj
   ·rcases w1 with p2|p3
    ·refine jY rfl (ai (ax (ai (ax (ai (aU (ai (aU (ai (aU (ai (aU (bC aj)))))))))))))
    ·refine jZ rfl (bE rfl (Bk aj))
theorem Jz (b:List Int):Sm (λr=> .ej [.i .u64 r.1,.list (r.2.1.map (MV.i .u8)),.i .i64 r.2.2]) (ul (.list (b.map (MV.i .u8)))) (qZ b):=by
 unfold ul qZ;refine aU (aK (aN ?_ ?_))
 ·exact aj
 ·refine bJ (f:=(MV.i .u8)) (rfl) λy=> ?_;refine ax (bE (s4 (rfl:_=aaT (MV.i .u8) b) λ_=>rfl) (aK (dX ?_)));refine ao (f:=λr=>[.b r]) ?_ λw=> ?_
  ·refine aN ?_ ?_
   ·exact aj
   ·refine aN ?_ ?_
    ·refine ye (n:=(aaR (eJ 1) (aaS (eJ (b.length:Int)) b)).length) (by simp only [sh,IN,BY,IS,No,OF,aaa])<|aN ?_ ?_
     ·refine bJ (f:=(MV.i .u8)) (by simp only [A4,aaD,AI,aah,aaL,aai,aas,aaN]) λy1=>ax aj
     ·exact aj
    ·exact aj
  ·refine ai (az (aA (ay ?_ ?_)))
   ·exact aj
   ·refine ye (n:=(aaR (eJ 1) (aaS (eJ (b.length:Int)) b)).length) (by simp only [sh,IN,BY,IS,No,OF,aaa])<|aN ?_ ?_
    ·exact aj
    ·refine ye (n:=(aaR (eJ 1) (aaS (eJ (b.length:Int)) b)).length) (by simp only [sh,IN,BY,IS,No,OF,aaa]) (dX (ye (n:=(aaR (eJ 0) (aaS (eJ (IT .i64 y)) (aaR (eJ 1) (aaS (eJ (b.length:Int)) b)))).length) (by simp only [sh,IN,BY,IS,No,OF,aaa]) ?_));refine ao (cY (λr=>[.i .u64 r.1,.i .i64 r.2]) (λr=>(3,[.i .u64 r])) (rfl) λst=> ?_) λw1=> ?_
     ·unfold pU;refine mF<|aN ?_ ?_
      ·refine bJ (f:=(MV.i .u8)) (by simp only [A4,aaD,AI,aah,aaL,aai,aas,aaN]) λy2=>ax (dX aj)
      ·exact aj
     ·refine bE rfl (ai (ax (aA (bE (s4 ((by simp only [A4,aaD,AI,aah,aaL,aai,aas,aaN]):_=aaT (MV.i .u8) (aaR (eJ 1) (aaS (eJ (b.length:Int)) b))) λ_=>rfl) (ye (n:=(aaR (eJ 1) (aaS (eJ (b.length:Int)) b)).length) (by simp only [sh,IN,BY,IS,No,OF,aaa]) (dX ?_))))));exact jH (by first|(simp;done)|simp only [AI,aah,aaL,aai,aas,aaN])
theorem KR (b:List Int):Sm (λr=> .ej [.i .i64 r.1,.list (r.2.1.map (MV.i .u8)),.i .i64 r.2.2]) (rD (.list (b.map (MV.i .u8)))) (oe b):=by unfold rD oe;refine aU<|ao (Jz b) λrA=>fD (ai (ax (rh (dX aj))))
theorem gw (t:aO):Sm (λr=> .fZ ((MV.i .i64) r.1) (eL r.2)) (dz (eL t)) (cg t):=by
 unfold dz cg;refine rh<|ao (f:=(λr=>(0,[.i .i64 r.1,.list (r.2.1.map (MV.i .u8)),.i .i64 r.2.2]))) ?_ λw=> ?_
 ·refine aN ?_ ?_
  ·refine ao (KR t.b) λrA=>fD (ai (ax (rh aj)))
  ·exact aj
 ·refine bE rfl (ai (ax (rh aj)))
theorem JA (b:List Int)(most:Int):Sm (λr=> .ej [.s r.1,.list (r.2.1.map (MV.i .u8)),.i .i64 r.2.2]) (qg (.list (b.map (MV.i .u8))) (.i .i64 most)) (kE b most):=by
 unfold qg kE;refine aU (ax (ao (Jz b) λrA=>fD (ai (ax (rh (ay ?_ ?_))))))
 ·exact aj
 ·refine aN ?_ ?_
  ·exact aj
  ·refine aK<|aN ?_ ?_
   ·exact aj
   ·refine aK (dX (aeD (M:=aaR (eJ 0) (aaS (eJ rA.1) rA.2.1)) ((by simp only [A4,aaD,AI,aah,aaL,aai,aas,aaN])) λbs=> ?_));refine bE (s4 (rfl:_=aaT (MV.i .u8) rA.2.1) λ_=>rfl) (aK (dX (jH (by first|(simp;done)|simp only [AI,aah,aaL,aai,aas,aaN]))))
theorem sN (t:aO):Sm (λr=> .fZ (MV.s r.1) (eL r.2)) (iC (eL t)) (dh t):=by
 unfold iC dh;refine rh<|ao (f:=(λr=>(0,[.s r.1,.list (r.2.1.map (MV.i .u8)),.i .i64 r.2.2]))) ?_ λw=> ?_
 ·refine aN ?_ ?_
  ·refine ao (JA t.b 6000) λrA=>fD (ai (eu (rh aj)))
  ·exact aj
 ·refine bE rfl (ai (eu (rh aj)))
theorem As (t:aO):Sm (λr=> .fZ ((PB ak) r.1) (eL r.2)) (jQ (eL t)) (dw t):=by
 unfold jQ dw;refine rh<|ao (gw t) λrA=>od (rh (ax ?_));refine ao (f:=λr=>[.b r]) ?_ λw=> ?_
 ·refine aN ?_ ?_
  ·exact aj
  ·exact aj
 ·refine ai (az (aA (ao (f:=(λr=>(0,[.list (r.1.map (MV.i .u8)),.i .i64 r.2]))) ?_ λw1=> ?_)))
  ·refine ay ?_ ?_
   ·exact aj
   ·exact aj
  ·refine bE rfl (rh ?_);refine ao (f:=λr=>[.b r]) ?_ λw2=> ?_
   ·refine ay ?_ ?_
    ·exact aj
    ·exact aj
   ·refine ai (az (aA (ay ?_ ?_)))
    ·exact aj
    ·refine dX (ye (n:=(aaZ (eJ rA.1) (⟨0,0,([]:List UInt8)⟩:aa)).length) (by simp only [List.length_replicate,sh,IN,BY,IS,No,OF,aaa]) ?_);refine ao (cY (λr=>[.list (r.1.map ak),.i .i64 r.2.1,.list (r.2.2.1.map (MV.i .u8)),.i .i64 r.2.2.2]) (λr=>(2,[.list (r.1.map ak),.list (r.2.1.map (MV.i .u8)),.i .i64 r.2.2])) (by simp [eL]) λst=> ?_) λw3=> ?_
     ·unfold cj;refine ai (aU (ai (ax (rh (aN ?_ ?_)))))
      ·refine ao (gw (⟨st.2.2.1,st.2.2.2⟩:aO)) λbc=>od (rh (ax (bJ (f:=ak) (rfl) λy=>aH (gx (jH (by simp [eL]))))))
      ·exact aj
     ·refine bE rfl (ai (aU (rh (ao (gw (⟨w3.2.1,w3.2.2⟩:aO)) λbQ=>od (rh (ax (ao (sN bQ.2) λct=>od (rh (eu (aK (ao (cY (λr=>[.list (r.1.map ak),.i .i64 r.2]) (λr=>(4,[.list (r.map ak)])) (rfl) λcR=> ?_) λw4=> ?_)))))))))))
      ·unfold fG;refine rh<|aN ?_ ?_
       ·refine bJ (f:=ak) (rfl) λy1=>aH (gx (bJ (f:=ak) (by simp only [A4,aaD,AI,aah,aaL,aai,aas,aaN]) λy2=>aH (gx (jH (by simp [eL])))))
       ·exact aj
      ·refine bE rfl (ai (aU (aA aj)))
theorem Cc (isA:Bool):Sm (MV.i .i64) (ov (.b isA)) (iN isA):=by
 unfold ov iN;refine az<|ay ?_ ?_
 ·exact aj
 ·exact aj
theorem yC (sA:af):Sm (MV.i .i64) (o6 (bP sA)) (mT sA):=by unfold o6 mT;refine aH (mF (ao (pA sA (4611686018427387904,4607182418800017408)) λrA=>ax aj))
theorem tF (a:aa):Sm MV.b (nF (ak a)) (lK a):=by
 unfold nF lK;refine aH (gx ?_);refine ao (f:=λr=>[.b r]) ?_ λw=> ?_
 ·refine aN ?_ ?_
  ·refine aN ?_ ?_
   ·refine aN ?_ ?_
    ·exact aj
    ·exact aj
   ·exact aj
  ·exact aj
 ·refine ai (az (aA aj))
theorem PY (t:aD):Sm MV.b (vI (iM t)) (rX t):=by
 unfold vI rX;refine aH (ai (aU (aA (aK (ao (cY (λr=>[.i .i64 r]) (AT (λr=>(2,[])) (λr=>(1,[.b r]))) (rfl) λst=> ?_) λw=> ?_)))))
 ·unfold rv;refine ai (ax (aA (aN ?_ ?_)))
  ·refine bJ (f:=ak) (rfl) λy=>aH (gx ?_);refine ao (f:=λr=>[.b r]) ?_ λw1=> ?_
   ·refine ao (tF y) λrA=>az<|ay ?_ ?_
    ·exact aj
    ·refine aN ?_ ?_
     ·refine bJ (f:=ak) (rfl) λy1=>aH (gx aj)
     ·exact aj
   ·refine ai (az (aA (ay ?_ ?_)))
    ·exact aj
    ·exact aj
  ·exact aj
 ·rcases w with p1|p2
  ·refine jY rfl (aA aj)
  ·refine jZ rfl (bE rfl (ai (az (aA aj))))
theorem Es (t:aD)(view:Int)(value:List UInt8):Sm (PB ak) (qh (iM t) (.i .i64 view) (.s value)) (ny t view value):=by
 unfold qh ny;refine aH (ai (aU (aA (ax (eu (aK (ao (cY (λr=>[.list (r.1.map ak),.i .i64 r.2]) (λr=>(2,[.list (r.map ak)])) (rfl) λst=> ?_) λw=> ?_)))))))
 ·unfold mU;refine rh<|aN ?_ ?_
  ·refine bJ (f:=ak) (rfl) λy=>aH (gx ?_);refine ao (f:=λr=>[.b r]) ?_ λw1=> ?_
   ·refine aN ?_ ?_
    ·exact aj
    ·exact aj
   ·refine ai (az (aA (ao (f:=(λr=>(0,[.list (r.map ak)]))) ?_ λw2=> ?_)))
    ·refine ay ?_ ?_
     ·refine aK (oU (([y]:List aa).length) (dX (jH (by simp))))
     ·exact aj
    ·refine bE rfl (ai (aU (aA aj)))
  ·exact aj
 ·refine bE rfl (ai (aU (aA aj)))
theorem PZ (t:aD)(view:Int)(value:List UInt8):Sm (MV.i .i64) (vJ (iM t) (.i .i64 view) (.s value)) (rY t view value):=by unfold vJ rY;refine aH (ai (aU (aA (ax (eu (ao (Es t view value) λrA=>aU (aK aj)))))))
theorem Au (sA:af)(p:List aa):Sm MV.b (pu (bP sA) (.list (p.map ak))) (gV sA p):=by
 unfold pu gV;refine aH (mF (aU ?_));refine ao (f:=λr=>[.b r]) ?_ λw=> ?_
 ·refine ao (rj sA) λrA=>az<|ay ?_ ?_
  ·exact aj
  ·refine aK<|ao (yC sA) λbc=>ax<|ay ?_ ?_
   ·exact aj
   ·refine ao (PY (⟨p⟩:aD)) λbQ=>az aj
 ·refine ai (az (aA (ay ?_ ?_)))
  ·exact aj
  ·refine ao (f:=λr=>[.b r]) ?_ λw1=> ?_
   ·refine aK<|bJ (f:=ak) (rfl) λy=>aH (gx (ao (yB sA) λct=>ax (aN ?_ ?_)))
    ·refine bJ (f:=ak) (rfl) λy1=>aH (gx (bJ (f:=ak) (rfl) λy2=>aH (gx (aK (ao (PZ (⟨p⟩:aD) y1.View y2.Value) λgm=>ax aj)))))
    ·exact aj
   ·refine ai (az (aA aj))
theorem yD (a:ae):Sm MV.b (iH (bY a)) (et a):=by
 unfold iH et;refine aH (eE ?_);refine ao (f:=λr=>[.b r]) ?_ λw=> ?_
 ·refine aN ?_ ?_
  ·exact aj
  ·exact aj
 ·refine ai (az (aA (ay ?_ ?_)))
  ·exact aj
  ·refine ao (f:=λr=>[.b r]) ?_ λw1=> ?_
   ·refine ay ?_ ?_
    ·refine aN ?_ ?_
     ·exact aj
     ·refine aN ?_ ?_
      ·exact aj
      ·exact aj
    ·exact aj
   ·refine ai (az (aA (ay ?_ ?_)))
    ·exact aj
    ·refine ao (f:=λr=>[.b r]) ?_ λw2=> ?_
     ·refine ay ?_ ?_
      ·refine ay ?_ ?_
       ·exact aj
       ·exact aj
      ·exact aj
     ·refine ai (az (aA (ay ?_ ?_)))
      ·exact aj
      ·refine ao (f:=λr=>[.b r]) ?_ λw3=> ?_
       ·refine aK<|aN ?_ ?_
        ·exact aj
        ·refine ao (Au a.S a.Proof) λrA=>az<|ay ?_ ?_
         ·refine bJ (f:=ak) (rfl) λy=>aH (gx aj)
         ·exact aj
       ·refine ai (az (aA aj))
theorem KS (a:af)(a1:Int)(a2:List Int):Sm (λr=> .ej [bY r.1,.i .i64 r.2]) (rE (bP a) (.i .i64 a1) (.list (a2.map (MV.i .u8)))) (lL a a1 a2):=by
 unfold rE lL;refine aH (mF (ax (aU (ao (Er a a1) λrA=>fD (ai (aH (eE (ai (ax (aA (ay ?_ ?_)))))))))))
 ·exact aj
 ·refine ao (gw (⟨a2,0⟩:aO)) λbc=>od (rh (ax (ao (gw bc.2) λbQ=>od (rh (ax (ao (gw bQ.2) λct=>od (rh (ax (ao (sN ct.2) λgm=> ?_)))))))));refine od (rh (eu (ao (As gm.2) λlz=>od (rh (aU ?_)))));refine ao (f:=λr=>[.b r]) ?_ λw=> ?_
  ·refine ay ?_ ?_
   ·exact aj
   ·refine ao (Cc (decide (bQ.1=1))) λqK=>ax<|ay ?_ ?_
    ·exact aj
    ·refine aK<|aN ?_ ?_
     ·exact aj
     ·refine ao (yD (⟨rA.1.S,rA.1.Me,bc.1,decide (bQ.1=1),ct.1,gm.1,lz.1,rA.1.bV⟩:ae)) λzw=>az aj
  ·refine ai (az (aA (ay ?_ ?_)))
   ·exact aj
   ·exact aj
theorem Et (p:List aa):Sm (λr=> .ej (v7 r)) (uq (.list (p.map ak))) (oh p):=by
 unfold uq oh;refine aU (aK (aN ?_ ?_))
 ·exact aj
 ·refine bJ (f:=ak) (rfl) λy=>aH (gx (bJ (f:=ak) (rfl) λy1=>aH (gx aj)))
theorem Sa (x:Int):Sm (MV.i .i64) (yq (.i .u64 x)) (yf x):=by
 unfold yq yf;refine ax<|ao (f:=(λr=>(0,[.i .u64 r.1,.i .i64 r.2]))) ?_ λw=> ?_
 ·refine aN ?_ ?_
  ·refine dX aj
  ·exact aj
 ·refine bE rfl (mF (ao (f:=(λr=>(0,[.i .u64 r.1,.i .i64 r.2]))) ?_ λw1=> ?_))
  ·refine aN ?_ ?_
   ·refine dX aj
   ·exact aj
  ·refine bE rfl (mF (ao (f:=(λr=>(0,[.i .u64 r.1,.i .i64 r.2]))) ?_ λw2=> ?_))
   ·refine aN ?_ ?_
    ·refine dX aj
    ·exact aj
   ·refine bE rfl (mF (dX aj))
theorem Sb (n:Int):Sm (MV.i .i64) (yr (.i .u64 n)) (ue n):=by unfold yr ue;refine ax<|ao (Sa n) λrA=>ax (TF aj)
theorem G9 (sA:List Int):Sm (Yk (MV.i .u8)) (oQ (.list (sA.map (MV.i .u8)))) (oM sA):=by unfold oQ oM;refine aU (aK (aK (NC (by simp only [sh]) aj)))
theorem Md (b:List Int)(n:Int):Sm (UT (MV.i .u8)) (xl (.list (b.map (MV.i .u8))) (.i .u64 n)) (tw b n):=by
 unfold xl tw;refine aU (ax (ao (Sb n) λrA=>ax (ao (G9 b) λbc=> ?_)));refine IE (bE (s4 (rfl:_=aaT (MV.i .u8) bc) λ_=>rfl) (aK (oU (([IT .u8 (IT .i64 (rA-1))]:List Int).length) (dX (ao (cY (λr=>[.list (r.1.map (MV.i .u8)),.i .i64 r.2]) (λr=>(2,[.list (r.map (MV.i .u8))])) (by simp) λst=> ?_) λw=> ?_)))))
 ·unfold rZ;refine rh<|aN ?_ ?_
  ·refine dX (aK (oU (([IT .u8 (Int.fdiv n (2^min (eJ (IT .i64 (8 *st.2))) (aaX .u64)))]:List Int).length) (dX (jH (by simp)))))
  ·exact aj
 ·refine bE rfl (ai (aU (aA aj)))
theorem tG (b:List Int)(n:Int):Sm (UT (MV.i .u8)) (nG (.list (b.map (MV.i .u8))) (.i .i64 n)) (lM b n):=by unfold nG lM;refine aU (ax (dX (dX (ao (Md b (ET .u64 (IT .u64 ((IT .u64 n) *2^min (eJ 1) (aaX .u64))) (IT .u64 (Int.fdiv n (2^min (eJ 63) (aaX .i64)))))) λrA=>qJ aj))))
theorem JB (b:List Int)(sA:List UInt8):Sm (UT (MV.i .u8)) (ur (.list (b.map (MV.i .u8))) (.s sA)) (q0 b sA):=by unfold ur q0;refine aU (eu (ao (Md b (IT .u64 (sA.length:Int))) λrA=>qJ (aK (ye (n:=(Bu sA).length) (by simp only [A4,sh,IN,BY,IS,No,OF,aaa]) (dX ?_)))));exact jH (by simp)
theorem KT (a:ae):Sm (PB (MV.i .u8)) (rF (bY a)) (ol a):=by
 unfold rF ol;refine aH (eE (ao (tG ([]:List Int) a.View) λrA=>qJ (ao (Cc a.Has) λbc=>ax (ao (tG rA bc) λbQ=>qJ (ao (tG bQ a.At) λct=>qJ (aK (ao (JB ct a.Value) λgm=> ?_)))))));refine qJ<|ao (tG gm (a.Proof.length:Int)) λlz=>qJ (aK (ao (cY (λr=>[.list (r.1.map (MV.i .u8)),.i .i64 r.2]) (λr=>(2,[.list (r.map (MV.i .u8))])) (rfl) λst=> ?_) λw=> ?_))
 ·unfold oN;refine rh<|aN ?_ ?_
  ·refine bJ (f:=ak) (rfl) λy=>aH (gx (ao (tG st.1 y.By) λqK=>qJ aj))
  ·exact aj
 ·refine bE rfl (ai (aU (aA (ao (Et a.Proof) λzw=>fD (Ar (ao (f:=(λr=>(0,[.list (r.map (MV.i .u8))]))) ?_ λw1=> ?_))))))
  ·refine ay ?_ ?_
   ·refine ao (tG w zw.1) λTG=>qJ<|ao (JB TG zw.2.1) λYl=>qJ aj
   ·exact aj
  ·refine bE rfl (ai (aU (aA aj)))
theorem NN (sA:af)(i:Int)(n:aq):Sm bk (s8 (bP sA) (.i .i64 i) (bk n)) (nz sA i n):=by unfold s8 nz;refine aH (mF (ax (aH (aG (ao (KT n.A) λrA=>aU (ao (KS sA i rA) λbc=>fD (ai (aH (eE (ai (ax (aA (ao (Gy sA) λbQ=>fD (ai (aH (dx (ai (ax (aA ?_)))))))))))))))))));exact aj
theorem jR (c:au)(i:Int)(bad:Bool):Sm MV.b (fR (gU c) (.i .i64 i) (.b bad)) (dY c i bad):=by
 unfold fR dY;refine aH (bC (ax (az ?_)));refine ao (f:=λr=>[.b r]) ?_ λw=> ?_
 ·refine aN ?_ ?_
  ·refine aK<|aN ?_ ?_
   ·refine bJ (f:=MV.b) (rfl) λy=>az aj
   ·exact aj
  ·exact aj
 ·refine ai (az (aA aj))
theorem zn (s1:List aa)(s2:List aa):Sm MV.b (jm (.list (s1.map ak)) (.list (s2.map ak))) (gf s1 s2):=by
 unfold jm gf;refine aU (aU (aK (aK (ay ?_ ?_))))
 ·exact aj
 ·refine aK<|ao (cY (λr=>[.i .i64 r]) (AT (λr=>(2,[])) (λr=>(1,[.b r]))) (rfl) λst=> ?_) λw=> ?_
  ·unfold fc;refine ai (ax (aA (aN ?_ ?_)))
   ·refine bJ (f:=ak) (rfl) λy=>aH (gx (bJ (f:=ak) (rfl) λy1=>aH (gx (ay ?_ ?_))))
    ·exact aj
    ·exact aj
   ·exact aj
  ·rcases w with p1|p2
   ·refine jY rfl (aA aj)
   ·refine jZ rfl (bE rfl (ai (az (aA aj))))
theorem pa (a:List aa)(b:List aa):Sm MV.b (dA (.list (a.map ak)) (.list (b.map ak))) (iT a b):=by unfold dA iT;refine aU (aU (ao (zn a b) λrA=>az aj))
theorem KU (x:ab)(y:ab):Sm MV.b (rG (aF x) (aF y)) (lN x y):=by
 unfold rG lN;refine aH (fq (aH (fq ?_)));refine ao (f:=λr=>[.b r]) ?_ λw=> ?_
 ·refine aN ?_ ?_
  ·refine aN ?_ ?_
   ·refine aN ?_ ?_
    ·refine aN ?_ ?_
     ·refine aN ?_ ?_
      ·refine ao (pa x.Proof y.Proof) λrA=>az aj
      ·exact aj
     ·exact aj
    ·exact aj
   ·exact aj
  ·exact aj
 ·refine ai (az (aA aj))
theorem kI (s1:List ab)(s2:List ab)(eq:ab->ab->Option Bool){Hm:Nat}{uS:List MV}(YX:gv Hm=false)(jS: ∀(u0:ab)(u1:ab),Sm MV.b (cW Hm ([aF u0,aF u1]++uS)) (eq u0 u1)):Sm MV.b (cw (.list (s1.map aF)) (.list (s2.map aF)) (.func Hm uS)) (bA s1 s2 eq):=by
 unfold cw bA;refine aU (aU (ub (aK (aK (ay ?_ ?_)))))
 ·exact aj
 ·refine aK<|ao (cY (λr=>[.i .i64 r]) (AT (λr=>(2,[])) (λr=>(1,[.b r]))) (rfl) λst=> ?_) λw=> ?_
  ·unfold bo;refine ai (ax (aA (aN ?_ ?_)))
   ·refine bJ (f:=aF) (rfl) λy=>aH (fq (bJ (f:=aF) (rfl) λy1=> ?_));refine aH (fq (wh (bE (by rw [YX];rfl) ?_)));refine ao (jS y y1) λrA=>az<|ay ?_ ?_
    ·exact aj
    ·exact aj
   ·exact aj
  ·rcases w with p1|p2
   ·refine jY rfl (aA aj)
   ·refine jZ rfl (bE rfl (ai (az (aA aj))))
theorem Av (a:List ab)(b:List ab):Sm MV.b (eh (.list (a.map aF)) (.list (b.map aF))) (gX a b):=by unfold eh gX;refine aU (aU (ao (kI a b lN (Hm:=176) (uS:=[]) rfl (λu2 u3=>Sm.at (gG _ _) (KU u2 u3))) λrA=>az aj))
theorem sO (m:al)(c:ab):Sm MV.b (kn (aX m) (.rp [.i .i64 c.By,.i .i64 c.jo,.b c.Has,.i .i64 c.View,.s c.Value,.list (c.Proof.map ak)])) (dL m c):=by
 unfold kn dL;refine aH (bK (TE (fq ?_)));refine ao (f:=λr=>[.b r]) ?_ λw=> ?_
 ·refine aN ?_ ?_
  ·refine ao (Av ([m.R]:List ab) ([c]:List ab)) λrA=>az aj
  ·exact aj
 ·refine ai (az (aA aj))
theorem Eu (m:al)(c:aa):Sm MV.b (ml (aX m) (.rp [.i .i64 c.By,.i .i64 c.View,.s c.Value])) (jI m c):=by
 unfold ml jI;refine aH (bK (TE (gx ?_)));refine ao (f:=λr=>[.b r]) ?_ λw=> ?_
 ·refine aN ?_ ?_
  ·exact aj
  ·exact aj
 ·refine ai (az (aA aj))
theorem xx (sA:List al)(f:al->Option Bool){Bh:Nat}{sj:List MV}(HW:gv Bh=false)(jx: ∀(u0:al),Sm MV.b (eC Bh ([aX u0]++sj)) (f u0)):Sm (MV.i .i64) (iq (.list (sA.map aX)) (.func Bh sj)) (ic sA f):=by
 unfold iq ic;refine aU (ub (aK (ao (cY (λr=>[.i .i64 r]) (AT (λr=>(2,[])) (λr=>(1,[.i .i64 r]))) (rfl) λst=> ?_) λw=> ?_)))
 ·unfold fU;refine ai (ax (aA (aN ?_ ?_)))
  ·refine bJ (f:=aX) (rfl) λy=> ?_;refine aH (bK (wh (bE (by rw [HW];rfl) ?_)));refine ao (jx y) λrA=>az<|ay ?_ ?_
   ·exact aj
   ·exact aj
  ·exact aj
 ·rcases w with p1|p2
  ·refine jY rfl (aA aj)
  ·refine jZ rfl (bE rfl (ai (ax (aA aj))))
theorem jb (sA:List al)(f:al->Option Bool){Bh:Nat}{sj:List MV}(HW:gv Bh=false)(jx: ∀(u0:al),Sm MV.b (eC Bh ([aX u0]++sj)) (f u0)):Sm MV.b (dk (.list (sA.map aX)) (.func Bh sj)) (cm sA f):=by unfold dk cm;refine aU (ub (ao (xx sA f HW jx) λrA=>ax aj))
theorem Ha (c:au)(a:aa):Sm MV.b (oR (gU c) (ak a)) (oO c a):=by
 unfold oR oO;refine aH (bC (aH (gx ?_)));refine ao (f:=λr=>[.b r]) ?_ λw=> ?_
 ·refine ao (jR c a.By true) λrA=>az<|ay ?_ ?_
  ·exact aj
  ·refine ao (jb c.bg (λu=>jI u a) (Bh:=179) (sj:=[.rp [.i .i64 a.By,.i .i64 a.View,.s a.Value]]) rfl (λu1=>Sm.at (ma _ _) (Eu u1 a))) λbc=> ?_;refine az aj
 ·refine ai (az (aA aj))
theorem BD (a:aa)(c:au):Sm MV.b (ko (ak a) (.rp [.i .i64 c.S.F,.i .i64 c.S.T,.list (c.cQ.map MV.b),.list (c.Want.map MV.s),.list (c.N.map bk),.list (c.bg.map aX)])) (iB a c):=by unfold ko iB;refine aH (gx (TE (bC (ao (Ha c a) λrA=>az aj))))
theorem uY (sA:List aa)(f:aa->Option Bool){Bh:Nat}{sj:List MV}(HW:gv Bh=false)(iI: ∀(u0:aa),Sm MV.b (fA Bh ([ak u0]++sj)) (f u0)):Sm (MV.i .i64) (fX (.list (sA.map ak)) (.func Bh sj)) (fV sA f):=by
 unfold fX fV;refine aU (ub (aK (ao (cY (λr=>[.i .i64 r]) (AT (λr=>(2,[])) (λr=>(1,[.i .i64 r]))) (rfl) λst=> ?_) λw=> ?_)))
 ·unfold fv;refine ai (ax (aA (aN ?_ ?_)))
  ·refine bJ (f:=ak) (rfl) λy=> ?_;refine aH (gx (wh (bE (by rw [HW];rfl) ?_)));refine ao (iI y) λrA=>az<|ay ?_ ?_
   ·exact aj
   ·exact aj
  ·exact aj
 ·rcases w with p1|p2
  ·refine jY rfl (aA aj)
  ·refine jZ rfl (bE rfl (ai (ax (aA aj))))
theorem sD (sA:List aa)(f:aa->Option Bool){Bh:Nat}{sj:List MV}(HW:gv Bh=false)(iI: ∀(u0:aa),Sm MV.b (fA Bh ([ak u0]++sj)) (f u0)):Sm MV.b (eM (.list (sA.map ak)) (.func Bh sj)) (dC sA f):=by unfold eM dC;refine aU (ub (ao (uY sA f HW iI) λrA=>ax aj))
theorem qy (c:au)(lA:List aa):Sm MV.b (ir (gU c) (.list (lA.map ak))) (fH c lA):=by unfold ir fH;refine aH (bC (aU (ao (sD lA (λu=>iB u c) (Bh:=147) (sj:=[.rp [.i .i64 c.S.F,.i .i64 c.S.T,.list (c.cQ.map MV.b),.list (c.Want.map MV.s),.list (c.N.map bk),.list (c.bg.map aX)]]) rfl (λu1=>Sm.at (kH _ _) (BD u1 c))) λrA=> ?_)));refine az aj
theorem Ew (c:au)(rA:ab):Sm MV.b (mn (gU c) (aF rA)) (jJ c rA):=by
 unfold mn jJ;refine aH (bC (aH (fq ?_)));refine ao (f:=λr=>[.b r]) ?_ λw=> ?_
 ·refine ao (jR c rA.By true) λbc=>az<|ay ?_ ?_
  ·refine ao (qy c rA.Proof) λbQ=>az<|ay ?_ ?_
   ·exact aj
   ·refine ao (jb c.bg (λu=>dL u rA) (Bh:=143) (sj:=[.rp [.i .i64 rA.By,.i .i64 rA.jo,.b rA.Has,.i .i64 rA.View,.s rA.Value,.list (rA.Proof.map ak)]]) rfl (λu1=>Sm.at (fK _ _) (sO u1 rA))) λct=> ?_;refine az aj
  ·refine ao (jb c.bg (λu2=>dL u2 rA) (Bh:=143) (sj:=[.rp [.i .i64 rA.By,.i .i64 rA.jo,.b rA.Has,.i .i64 rA.View,.s rA.Value,.list (rA.Proof.map ak)]]) rfl (λu3=>Sm.at (fK _ _) (sO u3 rA))) λgm=> ?_;refine az aj
 ·refine ai (az (aA aj))
theorem NO (rA:ab)(c:au):Sm MV.b (ta (aF rA) (.rp [.i .i64 c.S.F,.i .i64 c.S.T,.list (c.cQ.map MV.b),.list (c.Want.map MV.s),.list (c.N.map bk),.list (c.bg.map aX)])) (pV rA c):=by unfold ta pV;refine aH (fq (TE (bC (ao (Ew c rA) λbc=>az aj))))
theorem uZ (sA:List ab)(f:ab->Option Bool){Bh:Nat}{sj:List MV}(HW:gv Bh=false)(iJ: ∀(u0:ab),Sm MV.b (fB Bh ([aF u0]++sj)) (f u0)):Sm (MV.i .i64) (fY (.list (sA.map aF)) (.func Bh sj)) (fW sA f):=by
 unfold fY fW;refine aU (ub (aK (ao (cY (λr=>[.i .i64 r]) (AT (λr=>(2,[])) (λr=>(1,[.i .i64 r]))) (rfl) λst=> ?_) λw=> ?_)))
 ·unfold fw;refine ai (ax (aA (aN ?_ ?_)))
  ·refine bJ (f:=aF) (rfl) λy=> ?_;refine aH (fq (wh (bE (by rw [HW];rfl) ?_)));refine ao (iJ y) λrA=>az<|ay ?_ ?_
   ·exact aj
   ·exact aj
  ·exact aj
 ·rcases w with p1|p2
  ·refine jY rfl (aA aj)
  ·refine jZ rfl (bE rfl (ai (ax (aA aj))))
theorem sE (sA:List ab)(f:ab->Option Bool){Bh:Nat}{sj:List MV}(HW:gv Bh=false)(iJ: ∀(u0:ab),Sm MV.b (fB Bh ([aF u0]++sj)) (f u0)):Sm MV.b (eN (.list (sA.map aF)) (.func Bh sj)) (dD sA f):=by unfold eN dD;refine aU (ub (ao (uZ sA f HW iJ) λrA=>ax aj))
theorem JC (c:au)(m:al):Sm MV.b (uv (gU c) (aX m)) (mV c m):=by
 unfold uv mV;refine aH (bC (aH (bK (aN ?_ ?_))))
 ·refine ao (f:=λr=>[.b r]) ?_ λw=> ?_
  ·refine ao (jR c m.eQ true) λrA=>az<|ay ?_ ?_
   ·refine ao (sE m.dP (λu=>pV u c) (Bh:=79) (sj:=[.rp [.i .i64 c.S.F,.i .i64 c.S.T,.list (c.cQ.map MV.b),.list (c.Want.map MV.s),.list (c.N.map bk),.list (c.bg.map aX)]]) rfl (λu1=>Sm.at (nH _ _) (NO u1 c))) λbc=> ?_;refine az aj
   ·exact aj
  ·refine ai (az (aA aj))
 ·refine aN ?_ ?_
  ·refine ao (jR c m.cf.By true) λbQ=>az aj
  ·refine aN ?_ ?_
   ·refine ao (f:=λr=>[.b r]) ?_ λw1=> ?_
    ·refine ao (jR c m.eQ true) λct=>az<|ay ?_ ?_
     ·refine ao (qy c m.Proof) λgm=>az aj
     ·exact aj
    ·refine ai (az (aA aj))
   ·refine aN ?_ ?_
    ·refine ao (f:=λr=>[.b r]) ?_ λw2=> ?_
     ·refine ao (jR c m.R.By true) λlz=>az<|ay ?_ ?_
      ·refine ao (qy c m.R.Proof) λqK=>az aj
      ·exact aj
     ·refine ai (az (aA aj))
    ·refine aN ?_ ?_
     ·refine ao (jR c m.eQ true) λzw=>az aj
     ·exact aj
theorem uE (sA:List al):Sm (Yk aX) (eT (.list (sA.map aX))) (gq sA):=by unfold eT gq;refine aU (aK (aK (NC (by simp only [sh]) aj)))
theorem Aw (sA:af)(view:Int):Sm (MV.i .i64) (pw (bP sA) (.i .i64 view)) (kP sA view):=by unfold pw kP;refine aH (mF (ax (ao (yB sA) λrA=>ax (TF aj))))
theorem Cd (rA:ab):Sm (MV.i .i64) (ox (aF rA)) (lO rA):=by
 unfold ox lO;refine aH (fq (ao (Et rA.Proof) λbc=>fD (Ar (ay ?_ ?_))))
 ·exact aj
 ·exact aj
theorem Sc (sA:af):Sm (MV.i .i64) (yv (bP sA)) (uf sA):=by unfold yv uf;refine aH (mF (ao (pA sA (4607182418800017408,4607182418800017408)) λrA=>ax aj))
theorem Ex (a:af)(a1:List ab):Sm (λr=> .ej [.s r.1,.b r.2]) (qm (bP a) (.list (a1.map aF))) (nA a a1):=by
 unfold qm nA;refine aH (mF (aU (aK (ao (cY (λr=>[.i .i64 r.1,.s r.2.1,.i .i64 r.2.2]) (λr=>(2,[.i .i64 r.1,.s r.2])) (rfl) λst=> ?_) λw=> ?_))))
 ·unfold mW;refine ai (ax (ai (eu (ai (ax (aA (aN ?_ ?_)))))))
  ·refine bJ (f:=aF) (rfl) λy=>aH (fq (ao (Cd y) λrA=>ax (ao (f:=(λr=>(0,[.i .i64 r.1,.s r.2]))) ?_ λw1=> ?_)))
   ·refine aN ?_ ?_
    ·refine bJ (f:=ak) (rfl) λy1=>aH (gx aj)
    ·exact aj
   ·refine bE rfl (ai (ax (ai (eu (aA aj)))))
  ·exact aj
 ·refine bE rfl (ai (ax (ai (eu (aA (aK (ao (cY (λr=>[.list r.1,.i .i64 r.2]) (λr=>(4,[.list r])) (rfl) λcR=> ?_) λw2=> ?_)))))))
  ·unfold pW;refine rh<|aN ?_ ?_
   ·refine bJ (f:=aF) (rfl) λy2=>aH (fq ?_);refine ao (f:=λr=>[.b r]) ?_ λw3=> ?_
    ·refine ay ?_ ?_
     ·exact aj
     ·exact aj
    ·refine ai (az (aA (ao (f:=(λr=>(0,[.list r]))) ?_ λw4=> ?_)))
     ·refine ay ?_ ?_
      ·exact aj
      ·exact aj
     ·refine bE rfl (ai (aU (aA aj)))
   ·exact aj
  ·refine bE rfl (ai (aU (aA (ao (Yj (e:=id) (f:=(AT (λr=>(6,[])) (λr=>(1,[.s r.1,.b r.2])))) (List.map_id _).symm ?_ λm29=> ?_) λw5=> ?_))))
   ·exact aj
   ·unfold pX;refine aeF λkey n=>ao (Sc a) λbc=>ax<|aN ?_ ?_
    ·exact aj
    ·exact jH rfl
   ·rcases w5 with p5|p6
    ·refine jY rfl (aA aj)
    ·refine jZ rfl (bE rfl (ai (eu (ai (az (aA aj))))))
theorem Mf (sA:af):Sm (MV.i .i64) (xp (bP sA)) (tx sA):=by unfold xp tx;refine aH (mF (ao (pA sA (4611686018427387904,4611686018427387904)) λrA=>ax aj))
theorem JD (a:af)(a1:ab):Sm MV.b (ux (bP a) (aF a1)) (oZ a a1):=by
 unfold ux oZ;refine aH (mF (aH (fq ?_)));refine ao (f:=λr=>[.b r]) ?_ λw=> ?_
 ·refine ao (rj a) λrA=>az<|ay ?_ ?_
  ·exact aj
  ·refine aN ?_ ?_
   ·exact aj
   ·refine ao (yB a) λbc=>ax<|aN ?_ ?_
    ·exact aj
    ·refine aN ?_ ?_
     ·exact aj
     ·exact aj
 ·refine ai (az (aA (ay ?_ ?_)))
  ·exact aj
  ·refine ao (f:=λr=>[.b r]) ?_ λw1=> ?_
   ·refine ay ?_ ?_
    ·refine ay ?_ ?_
     ·exact aj
     ·exact aj
    ·exact aj
   ·refine ai (az (aA (ay ?_ ?_)))
    ·exact aj
    ·refine ao (f:=λr=>[.b r]) ?_ λw2=> ?_
     ·refine ay ?_ ?_
      ·refine aN ?_ ?_
       ·exact aj
       ·refine aN ?_ ?_
        ·exact aj
        ·exact aj
      ·exact aj
     ·refine ai (az (aA (ay ?_ ?_)))
      ·exact aj
      ·refine ao (f:=λr=>[.b r]) ?_ λw3=> ?_
       ·refine aK<|aN ?_ ?_
        ·exact aj
        ·refine ao (Au a a1.Proof) λbQ=>az<|ay ?_ ?_
         ·refine ao (Cd a1) λct=>ax aj
         ·exact aj
       ·refine ai (az (aA aj))
theorem NP (sA:af)(view:Int)(lA:List ab):Sm MV.b (tc (bP sA) (.i .i64 view) (.list (lA.map aF))) (pZ sA view lA):=by
 unfold tc pZ;refine aH (mF (ax (aU ?_)));refine ao (f:=λr=>[.b r]) ?_ λw=> ?_
 ·refine ao (rj sA) λrA=>az<|ay ?_ ?_
  ·exact aj
  ·refine aK<|ao (Mf sA) λbc=>ax aj
 ·refine ai (az (aA (ay ?_ ?_)))
  ·exact aj
  ·refine aK<|ao (cY (λr=>[.i .i64 r.1,.i .i64 r.2]) (AT (λr=>(2,[])) (λr=>(1,[.b r]))) (rfl) λst=> ?_) λw1=> ?_
   ·unfold pY;refine mF<|aN ?_ ?_
    ·refine bJ (f:=aF) (rfl) λy=>aH (fq ?_);refine ao (f:=λr=>[.b r]) ?_ λw2=> ?_
     ·refine ao (JD sA y) λbQ=>az<|ay ?_ ?_
      ·exact aj
      ·refine ay ?_ ?_
       ·exact aj
       ·exact aj
     ·refine ai (az (aA (ay ?_ ?_)))
      ·exact aj
      ·exact aj
    ·exact aj
   ·rcases w1 with p1|p2
    ·refine jY rfl (aA aj)
    ·refine jZ rfl (bE rfl (ai (az (aA aj))))
theorem JE (sA:af)(view:Int)(lA:List ab)(value:List UInt8):Sm MV.b (qn (bP sA) (.i .i64 view) (.list (lA.map aF)) (.s value)) (mX sA view lA value):=by
 unfold qn mX;refine aH (mF (ax (aU (eu (ao (NP sA view lA) λrA=>az (ay ?_ ?_))))))
 ·exact aj
 ·refine ao (Ex sA lA) λbc=>fD (ai (eu (ai (az (aA ?_)))));refine ao (f:=λr=>[.b r]) ?_ λw=> ?_
  ·refine ay ?_ ?_
   ·exact aj
   ·exact aj
  ·refine ai (az (aA aj))
theorem Fz (a:ae)(view:Int)(value:List UInt8)(kZ:List ab):Sm (λr=> .ej [bY r.1,ak r.2.1,.b r.2.2]) (nI (bY a) (.i .i64 view) (.s value) (.list (kZ.map aF))) (fe a view value kZ):=by
 unfold nI fe;refine aH (eE (ax (eu (aU ?_))));refine ao (f:=λr=>[.b r]) ?_ λw=> ?_
 ·refine ay ?_ ?_
  ·exact aj
  ·refine ay ?_ ?_
   ·refine aN ?_ ?_
    ·exact aj
    ·exact aj
   ·exact aj
 ·refine ai (az (aA (ay ?_ ?_)))
  ·exact aj
  ·refine ao (f:=λr=>[.b r]) ?_ λw1=> ?_
   ·refine aN ?_ ?_
    ·refine aK aj
    ·exact aj
   ·refine ai (az (aA (ao (f:=(AT (λr=>(1,[.i .i64 r.1,.i .i64 r.2.1,.i .i64 r.2.2.1,.i .i64 r.2.2.2.1,.b r.2.2.2.2.1,.i .i64 r.2.2.2.2.2.1,.s r.2.2.2.2.2.2.1,.list (r.2.2.2.2.2.2.2.1.map ak),.list (r.2.2.2.2.2.2.2.2.1.map ak),.i .i64 r.2.2.2.2.2.2.2.2.2.1,.i .i64 r.2.2.2.2.2.2.2.2.2.2.1,.s r.2.2.2.2.2.2.2.2.2.2.2.1,.b r.2.2.2.2.2.2.2.2.2.2.2.2])) (λr=>(0,[.i .i64 r.1,.i .i64 r.2.1,.i .i64 r.2.2.1,.i .i64 r.2.2.2.1,.b r.2.2.2.2.1,.i .i64 r.2.2.2.2.2.1,.s r.2.2.2.2.2.2.1,.list (r.2.2.2.2.2.2.2.1.map ak),.list (r.2.2.2.2.2.2.2.2.1.map ak),.i .i64 r.2.2.2.2.2.2.2.2.2.1,.i .i64 r.2.2.2.2.2.2.2.2.2.2.1,.s r.2.2.2.2.2.2.2.2.2.2.2])))) ?_ λw2=> ?_)))
    ·refine ay ?_ ?_
     ·exact aj
     ·refine ao (JE a.S view kZ value) λrA=>az<|ay ?_ ?_
      ·exact aj
      ·exact aj
    ·rcases w2 with p1|p2
     ·refine jY rfl (ai (ax (ai (ax (ai (ax (ai (ax (ai (az (ai (ax (ai (eu (ai (aU (ai (aU (ai (ax (Ar aj)))))))))))))))))))))
     ·refine jZ rfl (bE rfl (ai (ax (ai (ax (ai (ax (ai (ax (ai (az (ai (ax (ai (eu (ai (aU (ai (aU (gx aj))))))))))))))))))))
theorem Ey (x:Int):Sm MV.b (qo (.i .i64 x)) (nB x):=by unfold qo nB;refine ax aj
theorem Ax (x:Int)(y:Int):Sm (MV.i .i64) (nd (.i .i64 x) (.i .i64 y)) (kF x y):=by
 unfold nd kF;refine ax (ax (ao (Ey x) λrA=>az (ao (Ey y) λbc=>az (ay ?_ ?_))))
 ·refine ay ?_ ?_
  ·exact aj
  ·exact aj
 ·refine ay ?_ ?_
  ·exact aj
  ·refine aN ?_ ?_
   ·exact aj
   ·refine aN ?_ ?_
    ·exact aj
    ·exact aj
theorem P0 (x:aa)(qF:Int):Sm (MV.i .i64) (vM (ak x) (.i .i64 qF)) (kQ x qF):=by unfold vM kQ;refine aH (gx (ax (ao (Ax x.By qF) λrA=>ax aj)))
theorem oz (x:List aa)(target:Int)(cmp:aa->Int->Option Int){Hm:Nat}{uS:List MV}(P1:gv Hm=false)(gy: ∀(u0:aa)(u1:Int),Sm (MV.i .i64) (da Hm ([ak u0,.i .i64 u1]++uS)) (cmp u0 u1)):Sm (λr=> .ej [.i .i64 r.1,.b r.2]) (dt (.list (x.map ak)) (.i .i64 target) (.func Hm uS)) (cC x target cmp):=by
 unfold dt cC;refine aU (ax (ub (aK (ao (cY (λr=>[.i .i64 r.1,.i .i64 r.2]) (λr=>(2,[.i .i64 r])) (rfl) λst=> ?_) λw=> ?_))))
 ·unfold ig;refine mF<|aN ?_ ?_
  ·refine dX<|bJ (f:=ak) (rfl) λy=> ?_;refine aH (gx (wh (bE (by rw [P1];rfl) ?_)));refine ao (gy y target) λrA=>ax<|ao (f:=(λr=>(0,[.i .i64 r.1,.i .i64 r.2]))) ?_ λw1=> ?_
   ·refine aN ?_ ?_
    ·exact aj
    ·exact aj
   ·refine bE rfl (mF aj)
  ·exact aj
 ·refine bE rfl (ai (ax (aA ?_)));refine ao (f:=λr=>[.i .i64 r.1,.b r.2]) ?_ λw2=> ?_
  ·refine aN ?_ ?_
   ·refine bJ (f:=ak) (rfl) λy1=> ?_;refine aH (gx (wh (bE (by rw [P1];rfl) ?_)));refine ao (gy y1 target) λbc=>ax aj
   ·exact aj
  ·refine ai (ax (ai (az (aA aj))))
theorem Bl (t:aD)(a:aa):Sm (λr=> .ej [iM r.1,.b r.2]) (rc (iM t) (ak a)) (iR t a):=by
 unfold rc iR;refine aH (ai (aU (aA (aH (gx (ao (tF a) λrA=>az (ay ?_ ?_)))))))
 ·exact aj
 ·refine ao (oz t.L a.By kQ (Hm:=155) (uS:=[]) rfl (λu2 u3=>Sm.at (j7 _ _) (P0 u2 u3))) λbc=>fD (ai (ax (ai (az (aA ?_)))));refine ao (f:=λr=>[.b r]) ?_ λw=> ?_
  ·refine ay ?_ ?_
   ·refine bJ (f:=ak) (rfl) λy=>aH (gx aj)
   ·exact aj
  ·refine ai (az (aA (ay ?_ ?_)))
   ·exact aj
   ·refine ao (A6 (size:=3) (f:=ak) (λ_=>rfl) t.L) λbQ=>qJ<|ao (f:=(λr=>(0,[.list (r.map ak)]))) ?_ λw1=> ?_
    ·refine ay ?_ ?_
     ·refine bJ (f:=ak) (rfl) λy1=>aH (gx (jH (by simp)))
     ·refine ao (PD (f:=ak) bQ bc.1 ([a]:List aa)) λct=>qJ aj
    ·refine bE rfl (ai (aU (aA aj)))
theorem yE (a:aD)(a1:Int):Sm (λr=> .ej (v7 r)) (o7 (iM a) (.i .i64 a1)) (lc a a1):=by
 unfold o7 lc;refine aH (ai (aU (aA (ax (aK (ao (cY (λr=>[.list r.1,.i .i64 r.2]) (λr=>(2,[.list r])) (rfl) λst=> ?_) λw=> ?_))))))
 ·unfold s5;refine rh<|aN ?_ ?_
  ·refine bJ (f:=ak) (rfl) λy=>aH (gx (dX aj))
  ·exact aj
 ·refine bE rfl (ai (aU (aA (aK (ao (cY (λr=>[.i .i64 r.1,.s r.2.1,.b r.2.2.1,.i .i64 r.2.2.2]) (λr=>(4,(v7 r))) (rfl) λcR=> ?_) λw1=> ?_)))))
  ·unfold p0;refine ai (ax (ai (eu (ai (az (ai (ax (aA (aN ?_ ?_)))))))))
   ·refine bJ (f:=ak) (rfl) λy1=>aH (gx ?_);refine ao (f:=λr=>[.b r]) ?_ λw2=> ?_
    ·refine aN ?_ ?_
     ·refine aN ?_ ?_
      ·exact aj
      ·exact aj
     ·exact aj
    ·refine ai (az (aA (ao (f:=(λr=>(0,(v7 r)))) ?_ λw3=> ?_)))
     ·refine ay ?_ ?_
      ·exact aj
      ·exact aj
     ·refine bE rfl (Ar aj)
   ·exact aj
  ·refine bE rfl (Ar (ay ?_ ?_))
   ·exact aj
   ·exact aj
theorem Sd (sA:af)(t:aD):Sm (λr=> .ej [.list (r.1.map ak),.b r.2]) (yw (bP sA) (iM t)) (ug sA t):=by
 unfold yw ug;refine aH (mF (aH (ai (aU (aA (ao (yC sA) λrA=>ax (ao (yE t rA) λbc=>fD (Ar (ay ?_ ?_)))))))))
 ·exact aj
 ·refine ao (Es t bc.1 bc.2.1) λbQ=>aU<|ao (yC sA) λct=>ax (aK (dX (jH (by first|(simp;done)|simp only [ak,bP,iM,Gh,IF,DM,AI,aah,aaL,aai,aas,aaN]))))
theorem KV (a:ae)(a1:aa):Sm (λr=> .ej [bY r.1,.list (r.2.1.map ak),.b r.2.2]) (rH (bY a) (ak a1)) (lP a a1):=by
 unfold rH lP;refine aH (eE (aH (gx ?_)));refine ao (f:=λr=>[.b r]) ?_ λw=> ?_
 ·refine ao (yB a.S) λrA=>ax<|aN ?_ ?_
  ·exact aj
  ·exact aj
 ·refine ai (az (aA (ay ?_ ?_)))
  ·exact aj
  ·refine ao (Bl a.bV a1) λbc=>fD (ai (aH (ai (aU (aA (ai (az (aA (ao (Sd a.S bc.1) λbQ=>fD (ai (aU (ai (az (aA (ao (Et a.Proof) λct=>fD (Ar ?_))))))))))))))));refine ao (f:=λr=>[.b r]) ?_ λw1=> ?_
   ·refine ao (tF a1) λgm=>az<|ay ?_ ?_
    ·exact aj
    ·refine ay ?_ ?_
     ·exact aj
     ·exact aj
   ·refine ai (az (aA (ay ?_ ?_)))
    ·exact aj
    ·exact aj
theorem Vf (sA:af):Sm (MV.i .i64) (Bi (bP sA)) (xc sA):=by unfold Bi xc;refine aH (mF (ao (pA sA (4613937818241073152,4607182418800017408)) λrA=>ax aj))
theorem zo (lA:ar)(t:ar)(a:aa)(b9:Int):Sm (λr=> .fZ ((λr=> .ej [.b r.1,.s r.2]) r.1) (gp r.2)) (gh (cF lA) (gp t) (ak a) (.i .i64 b9)) (jh lA t a b9):=by
 unfold gh jh;refine aH (dx (aH (gx (ax (dx ?_)))));refine ao (f:=λr=>[.b r]) ?_ λw=> ?_
 ·refine ay ?_ ?_
  ·exact aj
  ·refine aN ?_ ?_
   ·exact aj
   ·refine ao (yB lA.S) λrA=>ax<|aN ?_ ?_
    ·exact aj
    ·refine ao (tF a) λbc=>az aj
 ·refine ai (az (aA (ay ?_ ?_)))
  ·exact aj
  ·refine ao (Bl t.bj a) λbQ=>fD (ai (aH (ai (aU (aA (ai (az (aA (ao (yE bQ.1 b9) λct=>fD (Ar aj))))))))))
theorem zp (lA:ar)(t:ar)(a:aa)(b9:Int):Sm (λr=> .fZ ((λr=> .ej [.b r.1,.s r.2]) r.1) (gp r.2)) (gj (cF lA) (gp t) (ak a) (.i .i64 b9)) (ji lA t a b9):=by
 unfold gj ji;refine aH (dx (aH (gx (ax (dx ?_)))));refine ao (f:=λr=>[.b r]) ?_ λw=> ?_
 ·refine ay ?_ ?_
  ·exact aj
  ·refine aN ?_ ?_
   ·exact aj
   ·refine ao (yB lA.S) λrA=>ax<|aN ?_ ?_
    ·exact aj
    ·refine ao (tF a) λbc=>az aj
 ·refine ai (az (aA (ay ?_ ?_)))
  ·exact aj
  ·refine ao (Bl t.bp a) λbQ=>fD (ai (aH (ai (aU (aA (ai (az (aA (ao (yE bQ.1 b9) λct=>fD (Ar aj))))))))))
theorem zq (lA:ar)(t:ar)(a:aa)(b9:Int):Sm (λr=> .fZ ((λr=> .ej [.b r.1,.s r.2]) r.1) (gp r.2)) (gk (cF lA) (gp t) (ak a) (.i .i64 b9)) (jk lA t a b9):=by
 unfold gk jk;refine aH (dx (aH (gx (ax (dx ?_)))));refine ao (f:=λr=>[.b r]) ?_ λw=> ?_
 ·refine ay ?_ ?_
  ·exact aj
  ·refine aN ?_ ?_
   ·exact aj
   ·refine ao (yB lA.S) λrA=>ax<|aN ?_ ?_
    ·exact aj
    ·refine ao (tF a) λbc=>az aj
 ·refine ai (az (aA (ay ?_ ?_)))
  ·exact aj
  ·refine ao (Bl t.Told a) λbQ=>fD (ai (aH (ai (aU (aA (ai (az (aA (ao (yE bQ.1 b9) λct=>fD (Ar aj))))))))))
theorem FA (lA:ar)(a:aa):Sm cF (nJ (cF lA) (ak a)) (iS lA a):=by
 unfold nJ iS;refine aH (dx (aH (gx (ao (Vf lA.S) λrA=>ax (ao (zo lA lA a rA) λbc=>od (dx (fD (ai (az (ai (eu (aA (ao (f:=(λr=>(0,(v5 r)))) ?_ λw=> ?_)))))))))))))
 ·refine ay ?_ ?_
  ·exact aj
  ·exact aj
 ·refine bE rfl (dx aj)
theorem Ez (lA:ar)(qF:Int)(p:List aa):Sm cF (mq (cF lA) (.i .i64 qF) (.list (p.map ak))) (jK lA qF p):=by
 unfold mq jK;refine aH (dx (ax (aU (ao (Au lA.S p) λrA=>az (ay ?_ ?_)))))
 ·exact aj
 ·refine ao (Et p) λbc=>fD (Ar (ao (yC lA.S) λbQ=>ax (ao (zp lA lA (⟨qF,bc.1,bc.2.1⟩:aa) bQ) λct=>od (dx (fD (ai (az (ai (eu (aA (ao (f:=(λr=>(0,(v5 r)))) ?_ λw=> ?_)))))))))))
  ·refine ay ?_ ?_
   ·exact aj
   ·exact aj
  ·refine bE rfl (dx aj)
theorem Hb (x:ab)(qF:Int):Sm (MV.i .i64) (oS (aF x) (.i .i64 qF)) (fQ x qF):=by unfold oS fQ;refine aH (fq (ax (ao (Ax x.By qF) λrA=>ax aj)))
theorem oJ (x:List ab)(target:Int)(cmp:ab->Int->Option Int){Hm:Nat}{uS:List MV}(P1:gv Hm=false)(gz: ∀(u0:ab)(u1:Int),Sm (MV.i .i64) (db Hm ([aF u0,.i .i64 u1]++uS)) (cmp u0 u1)):Sm (λr=> .ej [.i .i64 r.1,.b r.2]) (du (.list (x.map aF)) (.i .i64 target) (.func Hm uS)) (cD x target cmp):=by
 unfold du cD;refine aU (ax (ub (aK (ao (cY (λr=>[.i .i64 r.1,.i .i64 r.2]) (λr=>(2,[.i .i64 r])) (rfl) λst=> ?_) λw=> ?_))))
 ·unfold ik;refine mF<|aN ?_ ?_
  ·refine dX<|bJ (f:=aF) (rfl) λy=> ?_;refine aH (fq (wh (bE (by rw [P1];rfl) ?_)));refine ao (gz y target) λrA=>ax<|ao (f:=(λr=>(0,[.i .i64 r.1,.i .i64 r.2]))) ?_ λw1=> ?_
   ·refine aN ?_ ?_
    ·exact aj
    ·exact aj
   ·refine bE rfl (mF aj)
  ·exact aj
 ·refine bE rfl (ai (ax (aA ?_)));refine ao (f:=λr=>[.i .i64 r.1,.b r.2]) ?_ λw2=> ?_
  ·refine aN ?_ ?_
   ·refine bJ (f:=aF) (rfl) λy1=> ?_;refine aH (fq (wh (bE (by rw [P1];rfl) ?_)));refine ao (gz y1 target) λbc=>ax aj
   ·exact aj
  ·refine ai (ax (ai (az (aA aj))))
theorem KW (n:aq)(sA:af)(i:Int)(rA:ab):Sm (λr=> .fZ ((λ_=> .ej []) r.1) (CC r.2)) (rI (CC n) (bP sA) (.i .i64 i) (aF rA)) (om n sA i rA):=by
 unfold rI om;refine aH (mF (ax (aH (fq (aG (ao (oJ n.df rA.By fQ (Hm:=105) (uS:=[]) rfl (λu2 u3=>Sm.at (iX _ _) (Hb u2 u3))) λbc=> ?_))))));refine fD (ai (ax (ai (az (aA ?_)))));refine ao (f:=λr=>[.b r]) ?_ λw=> ?_
 ·refine ay ?_ ?_
  ·refine aN ?_ ?_
   ·refine ao (Aw sA rA.jo) λbQ=>ax<|aN ?_ ?_
    ·refine ao (JD sA rA) λct=>az aj
    ·exact aj
   ·exact aj
  ·exact aj
 ·refine ai (az (aA (ao (f:=(λr=>(0,(v1 r)))) ?_ λw1=> ?_)))
  ·refine ay ?_ ?_
   ·refine Fc (mi rfl rfl)<|ao (A6 (size:=6) (f:=aF) (λ_=>rfl) n.df) λgm=>qJ<|ao (PD (f:=aF) gm bc.1 ([rA]:List ab)) λlz=>qJ aj
   ·exact aj
  ·refine bE rfl (aG aj)
theorem Vg (sA:af):Sm (MV.i .i64) (Bj (bP sA)) (xd sA):=by unfold Bj xd;refine aH (mF (ao (pA sA (4607182418800017408,0)) λrA=>ax aj))
theorem NQ (lA:ar)(qF:Int)(value:List UInt8):Sm cF (td (cF lA) (.i .i64 qF) (.s value)) (qa lA qF value):=by
 unfold td qa;refine aH (dx (ax (eu (ao (Vg lA.S) λrA=>ax (ao (zq lA lA (⟨qF,0,value⟩:aa) rA) λbc=>od (dx (fD (ai (az (ai (eu (aA (ao (f:=(λr=>(0,(v5 r)))) ?_ λw=> ?_)))))))))))))
 ·refine ay ?_ ?_
  ·exact aj
  ·exact aj
 ·refine bE rfl (dx aj)
theorem Se (a:af)(a1:Int)(a2:aq)(a3:al):Sm (λr=> .ej [bk r.1,.list (r.2.map aX)]) (yx (bP a) (.i .i64 a1) (bk a2) (aX a3)) (dZ a a1 a2 a3):=by
 unfold yx dZ;refine aH (mF (ax (aH (aG (aH (bK (ao (f:=(AT (λr=>(2,(v0 r))) (λr=>(0,(v0 r))))) ?_ λw=> ?_)))))))
 ·refine aN ?_ ?_
  ·refine ao (Aw a a3.View) λrA=>ax<|ay ?_ ?_
   ·exact aj
   ·refine ao (Fz a2.A a3.View a3.Value a3.dP) λbc=>fD (ai (aH (eE (ai (aH (gx (ai (az (aA (ao (f:=(λr=>(0,[.list (r.map aX)]))) ?_ λw1=> ?_))))))))))
    ·refine ay ?_ ?_
     ·refine oU (([(⟨2,0,0,([]:List UInt8),([]:List ab),bc.2.1,([]:List aa),(⟨0,0,false,0,([]:List UInt8),([]:List aa)⟩:ab)⟩:al)]:List al).length) (dX aj)
     ·exact aj
    ·refine bE rfl (ai (aU (aA aj)))
  ·refine ao (f:=(λr=>(0,(v0 r)))) ?_ λw2=> ?_
   ·refine aN ?_ ?_
    ·refine ao (KV a2.A a3.cf) λbQ=>fD (ai (aH (eE (ai (aU (ai (az (aA (ao (f:=(λr=>(0,[.list (r.map aX)]))) ?_ λw3=> ?_)))))))))
     ·refine ay ?_ ?_
      ·refine oU (([(⟨3,a1,0,([]:List UInt8),([]:List ab),(⟨0,0,([]:List UInt8)⟩:aa),bQ.2.1,(⟨0,0,false,0,([]:List UInt8),([]:List aa)⟩:ab)⟩:al)]:List al).length) (dX aj)
      ·exact aj
     ·refine bE rfl (ai (aU (aA (ao (FA a2.L a3.cf) λct=>aH (dx aj)))))
    ·refine ao (f:=(λr=>(0,(v1 r)))) ?_ λw4=> ?_
     ·refine aN ?_ ?_
      ·refine ao (Ez a2.L a3.eQ a3.Proof) λgm=>aH (dx aj)
      ·refine ao (f:=(λr=>(0,(v1 r)))) ?_ λw5=> ?_
       ·refine aN ?_ ?_
        ·refine ao (KW a2 a a1 a3.R) λlz=>od (aG aj)
        ·refine ao (f:=(λr=>(0,(v1 r)))) ?_ λw6=> ?_
         ·refine aN ?_ ?_
          ·refine ao (NQ a2.L a3.eQ a3.Value) λqK=>aH (dx aj)
          ·exact aj
         ·refine bE rfl (aG aj)
       ·refine bE rfl (aG aj)
     ·refine bE rfl (aG aj)
   ·refine bE rfl (mb aj)
 ·rcases w with p7|p8
  ·refine jY rfl (mb ?_);refine ao (f:=λr=>[.b r]) ?_ λw7=> ?_
   ·refine ay ?_ ?_
    ·exact aj
    ·exact aj
   ·refine ai (az (aA (ao (f:=(λr=>(0,[.list (r.map aX)]))) ?_ λw8=> ?_)))
    ·refine ay ?_ ?_
     ·refine aK (oU (([(⟨5,a1,0,p7.2.2.2.2.2.2.2.2.2.2.2.2.2.2.2.1,([]:List ab),(⟨0,0,([]:List UInt8)⟩:aa),([]:List aa),(⟨0,0,false,0,([]:List UInt8),([]:List aa)⟩:ab)⟩:al)]:List al).length) (dX ?_));exact jH (by simp [bt,cK,av,ef,aE,cL,v0,v1])
     ·exact aj
    ·refine bE rfl (ai (aU (aA aj)))
  ·refine jZ rfl (bE rfl (mb ?_));refine ao (f:=λr=>[.b r]) ?_ λw9=> ?_
   ·refine ay ?_ ?_
    ·exact aj
    ·exact aj
   ·refine ai (az (aA (ao (f:=(λr=>(0,[.list (r.map aX)]))) ?_ λw10=> ?_)))
    ·refine ay ?_ ?_
     ·refine aK (oU (([(⟨5,a1,0,p8.2.2.2.2.2.2.2.2.2.2.2.2.2.2.2.1,([]:List ab),(⟨0,0,([]:List UInt8)⟩:aa),([]:List aa),(⟨0,0,false,0,([]:List UInt8),([]:List aa)⟩:ab)⟩:al)]:List al).length) (dX ?_));exact jH (by simp [bt,cK,av,ef,aE,cL,v0,v1])
     ·exact aj
    ·refine bE rfl (ai (aU (aA aj)))
theorem KX (a:ae):Sm aF (rJ (bY a)) (wj a):=by unfold rJ wj;refine aH (eE aj)
theorem JF (a:ae)(view:Int):Sm (λr=> .ej [bY r.1,aF r.2.1,.b r.2.2]) (qu (bY a) (.i .i64 view)) (mY a view):=by
 unfold qu mY;refine aH (eE (ax ?_));refine ao (f:=λr=>[.b r]) ?_ λw=> ?_
 ·refine aN ?_ ?_
  ·exact aj
  ·exact aj
 ·refine ai (az (aA (ay ?_ ?_)))
  ·exact aj
  ·refine ao (KX (⟨a.S,a.Me,view,a.Has,a.At,a.Value,a.Proof,(⟨([]:List aa)⟩:aD)⟩:ae)) λrA=>aH (fq aj)
theorem P4 (x_:af)(x_1:Int)(n:aq)(view:Int):Sm (λr=> .ej [bk r.1,.list (r.2.map aX)]) (vO (bP x_) (.i .i64 x_1) (bk n) (.i .i64 view)) (pk x_ x_1 n view):=by
 unfold vO pk;refine aH (mF (ax (aH (aG (ax (ao (JF n.A view) λrA=>fD (ai (aH (eE (ai (aH (fq (ai (az (aA (ay ?_ ?_))))))))))))))))
 ·exact aj
 ·refine Fc (mi rfl rfl) aj
theorem Sf (a:af)(a1:Int)(a2:aq)(a3:List UInt8):Sm (λr=> .ej [bk r.1,.list (r.2.map aX)]) (yy (bP a) (.i .i64 a1) (bk a2) (.s a3)) (iU a a1 a2 a3):=by
 unfold yy iU;refine aH (mF (ax (aH (aG (eu (ao (Mf a) λrA=>ax ?_))))));refine ao (f:=λr=>[.b r]) ?_ λw=> ?_
 ·refine ao (Aw a a2.A.View) λbc=>ax<|ay ?_ ?_
  ·exact aj
  ·exact aj
 ·refine ai (az (aA (ay ?_ ?_)))
  ·exact aj
  ·refine ao (f:=λr=>[.b r]) ?_ λw1=> ?_
   ·refine aN ?_ ?_
    ·refine aK aj
    ·exact aj
   ·refine ai (az (aA (ay ?_ ?_)))
    ·exact aj
    ·refine ao (f:=(λr=>(0,(v2 r)))) ?_ λw2=> ?_
     ·refine aN ?_ ?_
      ·refine aK (dX (ao (by simpa [av,aE,v2] using A6 (size:=6) (f:=aF) (λ_=>rfl) (aaR (eJ 0) (aaS (eJ rA) a2.df))) λbQ=>qJ (ao (Ex a bQ) λct=> ?_)));refine fD (ai (eu (ai (az (aA (ao (f:=(λr=>(0,(v2 r)))) ?_ λw3=> ?_))))))
       ·refine ay ?_ ?_
        ·exact aj
        ·exact aj
       ·refine bE rfl (bK aj)
      ·exact aj
     ·refine bE rfl (bK (Fc (mi rfl rfl) aj))
theorem EA (c:au)(i:Int):Sm (λr=> .ej [.s r.1,.b r.2]) (qv (gU c) (.i .i64 i)) (jL c i):=by
 unfold qv jL;refine aH (bC (ax ?_));refine ao (f:=λr=>[.b r]) ?_ λw=> ?_
 ·refine ao (jR c i false) λrA=>az<|ay ?_ ?_
  ·exact aj
  ·refine bJ (f:=bk) (rfl) λy=>aH (aG aj)
 ·refine ai (az (aA (ay ?_ ?_)))
  ·exact aj
  ·refine bJ (f:=bk) (rfl) λy1=>aH (aG aj)
theorem FB (s1:List Bool)(s2:List Bool):Sm MV.b (nK (.list (s1.map MV.b)) (.list (s2.map MV.b))) (kG s1 s2):=by
 unfold nK kG;refine aU (aU (aK (aK (ay ?_ ?_))))
 ·exact aj
 ·refine aK<|ao (cY (λr=>[.i .i64 r]) (AT (λr=>(2,[])) (λr=>(1,[.b r]))) (rfl) λst=> ?_) λw=> ?_
  ·unfold iV;refine ai (ax (aA (aN ?_ ?_)))
   ·refine bJ (f:=MV.b) (rfl) λy=>az<|bJ (f:=MV.b) (rfl) λy1=>az<|ay ?_ ?_
    ·exact aj
    ·exact aj
   ·exact aj
  ·rcases w with p1|p2
   ·refine jY rfl (aA aj)
   ·refine jZ rfl (bE rfl (ai (az (aA aj))))
theorem C1 (s1:List (List UInt8))(s2:List (List UInt8)):Sm MV.b (lk (.list (s1.map MV.s)) (.list (s2.map MV.s))) (iW s1 s2):=by
 unfold lk iW;refine aU (aU (aK (aK (ay ?_ ?_))))
 ·exact aj
 ·refine aK<|ao (cY (λr=>[.i .i64 r]) (AT (λr=>(2,[])) (λr=>(1,[.b r]))) (rfl) λst=> ?_) λw=> ?_
  ·unfold gY;refine ai (ax (aA (aN ?_ ?_)))
   ·refine bJ (f:=MV.s) (rfl) λy=>eu<|bJ (f:=MV.s) (rfl) λy1=>eu<|ay ?_ ?_
    ·exact aj
    ·exact aj
   ·exact aj
  ·rcases w with p1|p2
   ·refine jY rfl (aA aj)
   ·refine jZ rfl (bE rfl (ai (az (aA aj))))
theorem KY (a:ae)(b:ae):Sm MV.b (rK (bY a) (bY b)) (oo a b):=by
 unfold rK oo;refine aH (eE (aH (eE ?_)));refine ao (f:=λr=>[.b r]) ?_ λw=> ?_
 ·refine ay ?_ ?_
  ·refine aN ?_ ?_
   ·refine aN ?_ ?_
    ·refine aN ?_ ?_
     ·refine aN ?_ ?_
      ·exact aj
      ·exact aj
     ·exact aj
    ·exact aj
   ·exact aj
  ·exact aj
 ·refine ai (az (aA ?_));refine ao (f:=λr=>[.b r]) ?_ λw1=> ?_
  ·refine ay ?_ ?_
   ·refine ao (pa a.Proof b.Proof) λrA=>az<|ay ?_ ?_
    ·refine ao (pa a.bV.L b.bV.L) λbc=>az aj
    ·exact aj
   ·exact aj
  ·refine ai (az (aA aj))
theorem NR (a:ar)(b:ar):Sm MV.b (te (cF a) (cF b)) (qc a b):=by
 unfold te qc;refine aH (dx (aH (dx ?_)));refine ao (f:=λr=>[.b r]) ?_ λw=> ?_
 ·refine ay ?_ ?_
  ·refine aN ?_ ?_
   ·exact aj
   ·exact aj
  ·exact aj
 ·refine ai (az (aA ?_));refine ao (f:=λr=>[.b r]) ?_ λw1=> ?_
  ·refine ay ?_ ?_
   ·refine ao (pa a.bj.L b.bj.L) λrA=>az<|ay ?_ ?_
    ·refine ao (pa a.bp.L b.bp.L) λbc=>az<|ay ?_ ?_
     ·refine ao (pa a.Told.L b.Told.L) λbQ=>az aj
     ·exact aj
    ·exact aj
   ·exact aj
  ·refine ai (az (aA aj))
theorem KZ (n:aq)(x:aq):Sm MV.b (rL (bk n) (bk x)) (lQ n x):=by
 unfold rL lQ;refine aH (aG (aH (aG ?_)));refine ao (f:=λr=>[.b r]) ?_ λw=> ?_
 ·refine ao (KY n.A x.A) λrA=>az<|ay ?_ ?_
  ·refine ao (NR n.L x.L) λbc=>az<|ay ?_ ?_
   ·refine ao (Av n.df x.df) λbQ=>az<|ay ?_ ?_
    ·exact aj
    ·exact aj
   ·exact aj
  ·exact aj
 ·refine ai (az (aA aj))
theorem sn (sA:List ab):Sm (Yk aF) (aR (.list (sA.map aF))) (gZ sA):=by unfold aR gZ;refine aU (aK (aK (NC (by simp only [sh]) aj)))
theorem NS (m:al)(x:al):Sm MV.b (tg (aX m) (aX x)) (nD m x):=by
 unfold tg nD;refine aH (bK (aH (bK ?_)));refine ao (f:=λr=>[.b r]) ?_ λw=> ?_
 ·refine aN ?_ ?_
  ·refine aN ?_ ?_
   ·refine aN ?_ ?_
    ·refine aN ?_ ?_
     ·exact aj
     ·exact aj
    ·exact aj
   ·exact aj
  ·exact aj
 ·refine ai (az (aA ?_));refine ao (f:=λr=>[.b r]) ?_ λw1=> ?_
  ·refine Fc (mi (mi (mi (mi (mi rfl rfl) rfl) rfl) rfl) (mi (mi (mi (mi rfl rfl) rfl) rfl) rfl))<|ay ?_ ?_
   ·refine ao (sn m.dP) λrA=> ?_;refine IE (bE (s4 (rfl:_=aaT aF rA) λ_=>rfl) (aK (oU (([m.R]:List ab).length) (dX (ao (sn x.dP) λbc=> ?_)))));refine IE (bE (s4 (rfl:_=aaT aF bc) λ_=>rfl) (aK (oU (([x.R]:List ab).length) (dX ?_))));refine ao (by have h:=Av (rA++([m.R]:List ab)) (bc++([x.R]:List ab));rw [AI,AI] at h;exact h) λbQ=> ?_;refine az<|ay ?_ ?_
    ·refine ao (pa m.Proof x.Proof) λct=>az aj
    ·exact aj
   ·exact aj
  ·refine ai (az (aA aj))
theorem lH (s1:List aq)(s2:List aq)(eq:aq->aq->Option Bool){Hm:Nat}{uS:List MV}(YX:gv Hm=false)(kJ: ∀(u0:aq)(u1:aq),Sm MV.b (dv Hm ([bk u0,bk u1]++uS)) (eq u0 u1)):Sm MV.b (cH (.list (s1.map bk)) (.list (s2.map bk)) (.func Hm uS)) (bZ s1 s2 eq):=by
 unfold cH bZ;refine aU (aU (ub (aK (aK (ay ?_ ?_)))))
 ·exact aj
 ·refine aK<|ao (cY (λr=>[.i .i64 r]) (AT (λr=>(2,[])) (λr=>(1,[.b r]))) (rfl) λst=> ?_) λw=> ?_
  ·unfold bW;refine ai (ax (aA (aN ?_ ?_)))
   ·refine bJ (f:=bk) (rfl) λy=>aH (aG (bJ (f:=bk) (rfl) λy1=> ?_));refine aH (aG (wh (bE (by rw [YX];rfl) ?_)));refine ao (kJ y y1) λrA=>az<|ay ?_ ?_
    ·exact aj
    ·exact aj
   ·exact aj
  ·rcases w with p1|p2
   ·refine jY rfl (aA aj)
   ·refine jZ rfl (bE rfl (ai (az (aA aj))))
theorem nk (s1:List al)(s2:List al)(eq:al->al->Option Bool){Hm:Nat}{uS:List MV}(YX:gv Hm=false)(lI: ∀(u0:al)(u1:al),Sm MV.b (dN Hm ([aX u0,aX u1]++uS)) (eq u0 u1)):Sm MV.b (cT (.list (s1.map aX)) (.list (s2.map aX)) (.func Hm uS)) (cn s1 s2 eq):=by
 unfold cT cn;refine aU (aU (ub (aK (aK (ay ?_ ?_)))))
 ·exact aj
 ·refine aK<|ao (cY (λr=>[.i .i64 r]) (AT (λr=>(2,[])) (λr=>(1,[.b r]))) (rfl) λst=> ?_) λw=> ?_
  ·unfold b8;refine ai (ax (aA (aN ?_ ?_)))
   ·refine bJ (f:=aX) (rfl) λy=>aH (bK (bJ (f:=aX) (rfl) λy1=> ?_));refine aH (bK (wh (bE (by rw [YX];rfl) ?_)));refine ao (lI y y1) λrA=>az<|ay ?_ ?_
    ·exact aj
    ·exact aj
   ·exact aj
  ·rcases w with p1|p2
   ·refine jY rfl (aA aj)
   ·refine jZ rfl (bE rfl (ai (az (aA aj))))
theorem FC (a:au)(b:au):Sm MV.b (tD (gU a) (gU b)) (lR a b):=by
 unfold tD lR;refine aH (bC (aH (bC ?_)));refine ao (f:=λr=>[.b r]) ?_ λw=> ?_
 ·refine ay ?_ ?_
  ·exact aj
  ·refine ao (FB a.cQ b.cQ) λrA=>az<|ay ?_ ?_
   ·exact aj
   ·refine ao (C1 a.Want b.Want) λbc=>az aj
 ·refine ai (az (aA (ay ?_ ?_)))
  ·exact aj
  ·refine ao (f:=λr=>[.b r]) ?_ λw1=> ?_
   ·refine ao (lH a.N b.N lQ (Hm:=85) (uS:=[]) rfl (λu6 u7=>Sm.at (iz _ _) (KZ u6 u7))) λbQ=>az<|ay ?_ ?_
    ·refine ao (nk a.bg b.bg nD (Hm:=87) (uS:=[]) rfl (λu2 u3=>Sm.at (ja _ _) (NS u2 u3))) λct=>az aj
    ·exact aj
   ·refine ai (az (aA aj))
theorem JG (c:au)(lA:List al):Sm (λr=> .fZ ((λ_=> .ej []) r.1) (eD r.2)) (qw (eD c) (.list (lA.map aX))) (hM c lA):=by
 unfold qw hM;refine aU (bC (aK (ao (cY (λr=>(v4 r)) (λr=>(2,(v6 r))) (rfl) λst=> ?_) λw=> ?_)))
 ·unfold fg;refine ai (ax (bC (aN ?_ ?_)))
  ·refine bJ (f:=aX) (rfl) λy=>aH (bK (aK (ao (f:=(λr=>(0,(v6 r)))) ?_ λw1=> ?_)))
   ·refine aN ?_ ?_
    ·refine Fc (mi rfl rfl)<|ao (uE st.2.2.2.2.2.2) λrA=> ?_;refine IE (bE (s4 (rfl:_=aaT aX rA) λ_=>by simp only [MV.w,MV.wl,Nat.reduceAdd]) (aK (oU (([y]:List al).length) (dX (jH (by simp [eD,aE,ba,v4,v6]))))))
    ·exact aj
   ·refine bE rfl (bC aj)
  ·exact aj
 ·refine bE rfl (bC aj)
theorem wD (c:au)(i:Int)(n:aq)(said:List al):Sm (λr=> .fZ ((λ_=> .ej []) r.1) (eD r.2)) (lS (eD c) (.i .i64 i) (bk n) (.list (said.map aX))) (gE c i n said):=by unfold lS gE;refine ax (aH (aG (aU (bC (bJ (f:=bk) (rfl) λy=>aH (aG (ao (by simpa [eD,av,ba] using JG (⟨c.S,c.cQ,c.Want,c.N.set (eJ i) n,c.bg⟩:au) said) λrA=> ?_)))))));refine od (bC aj)
theorem EB (c:au)(i:Int)(m:al):Sm (λr=> .fZ ((λ_=> .ej []) r.1) (eD r.2)) (mr (eD c) (.i .i64 i) (aX m)) (jN c i m):=by unfold mr jN;refine ax (aH (bK (bC (bJ (f:=bk) (rfl) λy=>aH (aG (ao (Se c.S i y m) λrA=>fD (ai (aH (aG (ai (aU (aA (ao (wD c i rA.1 rA.2) λbc=> ?_)))))))))))));refine od (bC aj)
theorem Hc (c:au)(i:Int)(view:Int):Sm (λr=> .fZ ((λ_=> .ej []) r.1) (eD r.2)) (oT (eD c) (.i .i64 i) (.i .i64 view)) (oP c i view):=by unfold oT oP;refine ax (ax (bC (bJ (f:=bk) (rfl) λy=>aH (aG (ao (P4 c.S i y view) λrA=>fD (ai (aH (aG (ai (aU (aA (ao (wD c i rA.1 rA.2) λbc=> ?_))))))))))));refine od (bC aj)
theorem JH (c:au)(i:Int):Sm (λr=> .fZ ((λ_=> .ej []) r.1) (eD r.2)) (qx (eD c) (.i .i64 i)) (mZ c i):=by unfold qx mZ;refine ax (bC (bJ (f:=bk) (rfl) λy=>aH (aG (bJ (f:=MV.s) (rfl) λy1=>eu (ao (Sf c.S i y y1) λrA=>fD (ai (aH (aG (ai (aU (aA (ao (wD c i rA.1 rA.2) λbc=> ?_))))))))))));refine od (bC aj)
theorem K0 (c:au)(lA:List al):Sm (λr=> .fZ ((λ_=> .ej []) r.1) (eD r.2)) (rM (eD c) (.list (lA.map aX))) (oq c lA):=by
 unfold rM oq;refine aU (bC (aK (ao (cY (λr=>(v4 r)) (λr=>(2,(v6 r))) (rfl) λst=> ?_) λw=> ?_)))
 ·unfold yQ;refine ai (ax (bC (aN ?_ ?_)))
  ·refine bJ (f:=aX) (rfl) λy=>aH (bK (aK (ao (f:=(λr=>(0,(v6 r)))) ?_ λw1=> ?_)))
   ·refine aN ?_ ?_
    ·refine Fc (mi rfl rfl)<|ao (uE st.2.2.2.2.2.2) λrA=> ?_;refine IE (bE (s4 (rfl:_=aaT aX rA) λ_=>by simp only [MV.w,MV.wl,Nat.reduceAdd]) (aK (oU (([y]:List al).length) (dX (jH (by simp [eD,aE,ba,v4,v6]))))))
    ·exact aj
   ·refine bE rfl (bC aj)
  ·exact aj
 ·refine bE rfl (bC aj)
theorem Bm (a:au)(a1:dy):Sm gU (rf (gU a) (mS a1)) (gu a a1):=by
 unfold rf gu;refine aH (bC (aH (nj (aN ?_ ?_))))
 ·refine ao (JC a a1.M) λrA=>az<|ao (f:=(λr=>(0,(v6 r)))) ?_ λw=> ?_
  ·refine ay ?_ ?_
   ·refine ao (K0 a ([a1.M]:List al)) λbc=>od (bC aj)
   ·exact aj
  ·refine bE rfl (bC aj)
 ·refine ao (jR a a1.I false) λbQ=>az<|ay ?_ ?_
  ·exact aj
  ·refine ao (A6 (size:=18) (f:=bk) (λ_=>by simp only [MV.w,MV.wl,Nat.reduceAdd]) a.N) λct=>qJ<|ao (f:=(λr=>(0,(v6 r)))) ?_ λw1=> ?_
   ·refine aN ?_ ?_
    ·refine ao (f:=λr=>[.b r]) ?_ λw2=> ?_
     ·refine aN ?_ ?_
      ·refine aK aj
      ·exact aj
     ·refine ai (az (aA (ao (f:=(λr=>(0,(v6 r)))) ?_ λw3=> ?_)))
      ·refine ay ?_ ?_
       ·refine bJ (f:=aX) (rfl) λy=>aH (bK (ao (EB (⟨a.S,a.cQ,a.Want,ct,a.bg⟩:au) a1.I y) λgm=>od (bC aj)))
       ·exact aj
      ·refine bE rfl (bC aj)
    ·refine ao (f:=(λr=>(0,(v6 r)))) ?_ λw4=> ?_
     ·refine aN ?_ ?_
      ·refine bJ (f:=bk) (rfl) λy1=>aH (aG (ao (Hc (⟨a.S,a.cQ,a.Want,ct,a.bg⟩:au) a1.I (IT .i64 (y1.A.View+1))) λlz=>od (bC aj)))
      ·refine ao (f:=(λr=>(0,(v6 r)))) ?_ λw5=> ?_
       ·refine aN ?_ ?_
        ·refine ao (JH (⟨a.S,a.cQ,a.Want,ct,a.bg⟩:au) a1.I) λqK=>od (bC aj)
        ·refine ao (f:=(λr=>(0,(v6 r)))) ?_ λw6=> ?_
         ·refine aN ?_ ?_
          ·refine bJ (f:=bk) (rfl) λy2=>aH (aG (ao (NN a.S a1.I y2) λzw=>aH (aG (bJ (f:=bk) (rfl) λy3=>aH (aG (jH (by simp [av,aE,ba,v6])))))))
          ·exact aj
         ·refine bE rfl (bC aj)
       ·refine bE rfl (bC aj)
     ·refine bE rfl (bC aj)
   ·refine bE rfl (bC aj)
theorem FD:Sm MV.b (tE) (q8):=by
 unfold tE q8;refine dX<|ao (by simpa [ba,qd,v3,v6] using PX (⟨1,0⟩:af) (aaZ (eJ 4) false) ([([97]:List UInt8),([98]:List UInt8),([99]:List UInt8),([100]:List UInt8)]:List (List UInt8))) λrA=>fD (ai (aH (bC (ai (ax (aA ?_))))));refine ao (Bm rA.1 (⟨2,0,0,(⟨0,0,0,([]:List UInt8),([]:List ab),(⟨0,0,([]:List UInt8)⟩:aa),([]:List aa),(⟨0,0,false,0,([]:List UInt8),([]:List aa)⟩:ab)⟩:al)⟩:dy)) λbc=> ?_;refine aH (bC (ao (cY (λr=>(v3 r)) (λr=>(2,(v6 r))) (rfl) λst=> ?_) λw=> ?_))
 ·unfold vF;refine Bk<|aN ?_ ?_
  ·refine ao (Bm (⟨(⟨st.1,st.2.1⟩:af),st.2.2.1,st.2.2.2.1,st.2.2.2.2.1,st.2.2.2.2.2.1⟩:au) (⟨0,st.2.2.2.2.2.2,0,(⟨0,0,0,([]:List UInt8),([]:List ab),(⟨0,0,([]:List UInt8)⟩:aa),([]:List aa),(⟨0,0,false,0,([]:List UInt8),([]:List aa)⟩:ab)⟩:al)⟩:dy)) λbQ=> ?_;refine aH (bC aj)
  ·exact aj
 ·refine bE rfl (bC (ao (cY (λr=>(v3 r)) (λr=>(4,(v6 r))) (rfl) λcR=> ?_) λw1=> ?_))
  ·unfold vG;refine Bk<|aN ?_ ?_
   ·refine ao (Bm (⟨(⟨cR.1,cR.2.1⟩:af),cR.2.2.1,cR.2.2.2.1,cR.2.2.2.2.1,cR.2.2.2.2.2.1⟩:au) (⟨0,2,cR.2.2.2.2.2.2,(⟨0,0,0,([]:List UInt8),([]:List ab),(⟨0,0,([]:List UInt8)⟩:aa),([]:List aa),(⟨0,0,false,0,([]:List UInt8),([]:List aa)⟩:ab)⟩:al)⟩:dy)) λct=> ?_;refine aH (bC aj)
   ·exact aj
  ·refine bE rfl (bC (ao (EA (⟨(⟨w1.1,w1.2.1⟩:af),w1.2.2.1,w1.2.2.2.1,w1.2.2.2.2.1,w1.2.2.2.2.2⟩:au) 2) λgm=>fD (ai (eu (ai (az (aA (ao (EA (⟨(⟨w1.1,w1.2.1⟩:af),w1.2.2.1,w1.2.2.2.1,w1.2.2.2.2.1,w1.2.2.2.2.2⟩:au) 1) λlz=> ?_))))))));refine fD (ai (eu (ai (az (aA ?_)))));refine ao (f:=λr=>[.b r]) ?_ λw2=> ?_
   ·refine aN ?_ ?_
    ·refine ay ?_ ?_
     ·refine aN ?_ ?_
      ·exact aj
      ·exact aj
     ·exact aj
    ·exact aj
   ·refine ai (az (aA aj))
theorem P5 (a:jg)(a1:List dy):Sm MV.b (Aq (CA a) (.list (a1.map mS))) (vH a a1):=by
 unfold Aq vH;refine aH (ai (ax (ai (ax (ai (aU (ai (aU (aA (aU (ao (Ve a a1) λrA=>az (ay ?_ ?_))))))))))))
 ·refine ao (FD) λbc=>az aj
 ·refine ao (PX a.S a.cQ a.Want) λbQ=>fD (ai (aH (bC (ai (ax (aA (ay ?_ ?_)))))))
  ·refine ao (FD) λct=>az aj
  ·refine ao (cY (λr=>(v3 r)) (AT (λr=>(2,(v6 r))) (λr=>(1,[.b r]))) (rfl) λst=> ?_) λw=> ?_
   ·unfold rz;refine Bk (aK (aN ?_ ?_))
    ·refine bJ (f:=mS) (rfl) λy=>aH (nj (ao (Bm (⟨(⟨st.1,st.2.1⟩:af),st.2.2.1,st.2.2.2.1,st.2.2.2.2.1,st.2.2.2.2.2.1⟩:au) y) λgm=>aH (bC ?_)));refine ao (f:=λr=>[.b r]) ?_ λw1=> ?_
     ·refine aN ?_ ?_
      ·exact aj
      ·refine aK<|aN ?_ ?_
       ·exact aj
       ·refine bJ (f:=MV.b) (rfl) λy1=>az aj
     ·refine ai (az (aA ?_));refine ao (f:=λr=>[.b r]) ?_ λw2=> ?_
      ·refine aN ?_ ?_
       ·refine ao (JC (⟨(⟨st.1,st.2.1⟩:af),st.2.2.1,st.2.2.2.1,st.2.2.2.2.1,st.2.2.2.2.2.1⟩:au) y.M) λlz=>az<|ay ?_ ?_
        ·refine ao (FC (⟨(⟨st.1,st.2.1⟩:af),st.2.2.1,st.2.2.2.1,st.2.2.2.2.1,st.2.2.2.2.2.1⟩:au) gm) λqK=>az aj
        ·refine ay ?_ ?_
         ·refine ay ?_ ?_
          ·refine ao (FC (⟨(⟨st.1,st.2.1⟩:af),st.2.2.1,st.2.2.2.1,st.2.2.2.2.1,st.2.2.2.2.2.1⟩:au) gm) λzw=>az aj
          ·exact aj
         ·exact aj
       ·refine ay ?_ ?_
        ·refine ay ?_ ?_
         ·refine ao (FC (⟨(⟨st.1,st.2.1⟩:af),st.2.2.1,st.2.2.2.1,st.2.2.2.2.1,st.2.2.2.2.2.1⟩:au) gm) λTG=>az aj
         ·exact aj
        ·exact aj
      ·refine ai (az (aA (ay ?_ ?_)))
       ·exact aj
       ·refine ao (f:=λr=>[.b r]) ?_ λw3=> ?_
        ·refine aK (aK (aN ?_ ?_))
         ·exact aj
         ·refine aK aj
        ·refine ai (az (aA (ay ?_ ?_)))
         ·exact aj
         ·exact aj
    ·exact aj
   ·rcases w with p1|p2
    ·refine jY rfl (bC (ao (cY (λr=>[.i .i64 r]) (AT (λr=>(4,[])) (λr=>(1,[.b r]))) (rfl) λcR=> ?_) λw4=> ?_))
     ·unfold ou;refine ai (ax (aA (aK (aN ?_ ?_))))
      ·refine ao (cY (λr=>[.i .i64 r]) (AT (λr=>(6,[])) (λr=>(1,[.b r]))) (rfl) λdV=> ?_) λw5=> ?_
       ·unfold ot;refine ai (ax (aA (aN ?_ ?_)))
        ·refine bJ (f:=aX) (rfl) λy2=>aH (bK (bJ (f:=aX) (rfl) λy3=>aH (bK ?_)));refine ao (f:=λr=>[.b r]) ?_ λw6=> ?_
         ·refine aN ?_ ?_
          ·refine aN ?_ ?_
           ·refine aN ?_ ?_
            ·refine aN ?_ ?_
             ·exact aj
             ·exact aj
            ·exact aj
           ·exact aj
          ·exact aj
         ·refine ai (az (aA ?_));refine ao (f:=λr=>[.b r]) ?_ λw7=> ?_
          ·refine ay ?_ ?_
           ·refine aN ?_ ?_
            ·exact aj
            ·refine aK<|aN ?_ ?_
             ·exact aj
             ·refine bJ (f:=MV.b) (rfl) λy4=>az aj
           ·exact aj
          ·refine ai (az (aA (ay ?_ ?_)))
           ·exact aj
           ·exact aj
        ·exact aj
       ·rcases w5 with p5|p6
        ·refine jY rfl (aA aj)
        ·refine jZ rfl (bE rfl (ai (az (aA aj))))
      ·exact aj
     ·rcases w4 with p7|p8
      ·refine jY rfl (aA (ao (FD) λYl=>az aj))
      ·refine jZ rfl (bE rfl (ai (az (aA aj))))
    ·refine jZ rfl (bE rfl (ai (az (aA aj))))
end Dn.S
