import Derived.Test.YtbkodohojpchjaaGreatDoorDnYD
/- Both agree. Conditions: none. -/
set_option linter.unusedVariables false
set_option linter.unusedSimpArgs false
open Int renaming toNat→bN
open List renaming length_map→sh,map_append→AS,length_append→AT,length_cons→By,length_nil→IN,map_replicate→IT,length_take→No,length_drop→OF,map_cons→aaG,map_take→aaW,map_drop→aa6,length_set→abK,map_nil→abM,map_set→abN,drop→abO,take→abP,getElem?_eq_some_iff→abQ,map→abR,set_getElem_self→abS
open Go.IntKind renaming wrap→AI,bits→abT
open Sum renaming elim→BY
open Option renaming map_some→abL
open Go Dn
set_option maxRecDepth 100000
namespace Dn.S
@[reducible] def v0 (r : Int × (List af) × Int × (List aw) × (List ar) × (List ae) × Int × Int × Int × (List UInt8) × (List UInt8) × Int × Int × Int × Int × Int × Int × (List UInt8) × Int × (List (List UInt8)) × (List aD)) : List MV := [.i .i64 r.1, .list (r.2.1.map aS), .i .i64 r.2.2.1, .list (r.2.2.2.1.map aW), .list (r.2.2.2.2.1.map bk), .list (r.2.2.2.2.2.1.map aU), .i .i64 r.2.2.2.2.2.2.1, .i .i64 r.2.2.2.2.2.2.2.1, .i .i64 r.2.2.2.2.2.2.2.2.1, .s r.2.2.2.2.2.2.2.2.2.1, .s r.2.2.2.2.2.2.2.2.2.2.1, .i .i64 r.2.2.2.2.2.2.2.2.2.2.2.1, .i .i64 r.2.2.2.2.2.2.2.2.2.2.2.2.1, .i .i64 r.2.2.2.2.2.2.2.2.2.2.2.2.2.1, .i .i64 r.2.2.2.2.2.2.2.2.2.2.2.2.2.2.1, .i .i64 r.2.2.2.2.2.2.2.2.2.2.2.2.2.2.2.1, .i .i64 r.2.2.2.2.2.2.2.2.2.2.2.2.2.2.2.2.1, .s r.2.2.2.2.2.2.2.2.2.2.2.2.2.2.2.2.2.1, .i .i64 r.2.2.2.2.2.2.2.2.2.2.2.2.2.2.2.2.2.2.1, .list (r.2.2.2.2.2.2.2.2.2.2.2.2.2.2.2.2.2.2.2.1.map MV.s), .list (r.2.2.2.2.2.2.2.2.2.2.2.2.2.2.2.2.2.2.2.2.map fG)]
@[reducible] def v1 (r : (List af) × Int × (List aw) × (List ar) × (List ae) × Int × Int × Int × (List UInt8) × (List UInt8) × Int × Int × Int × Int × Int × Int × (List UInt8) × Int × (List (List UInt8)) × (List aD)) : List MV := [.list (r.1.map aS), .i .i64 r.2.1, .list (r.2.2.1.map aW), .list (r.2.2.2.1.map bk), .list (r.2.2.2.2.1.map aU), .i .i64 r.2.2.2.2.2.1, .i .i64 r.2.2.2.2.2.2.1, .i .i64 r.2.2.2.2.2.2.2.1, .s r.2.2.2.2.2.2.2.2.1, .s r.2.2.2.2.2.2.2.2.2.1, .i .i64 r.2.2.2.2.2.2.2.2.2.2.1, .i .i64 r.2.2.2.2.2.2.2.2.2.2.2.1, .i .i64 r.2.2.2.2.2.2.2.2.2.2.2.2.1, .i .i64 r.2.2.2.2.2.2.2.2.2.2.2.2.2.1, .i .i64 r.2.2.2.2.2.2.2.2.2.2.2.2.2.2.1, .i .i64 r.2.2.2.2.2.2.2.2.2.2.2.2.2.2.2.1, .s r.2.2.2.2.2.2.2.2.2.2.2.2.2.2.2.2.1, .i .i64 r.2.2.2.2.2.2.2.2.2.2.2.2.2.2.2.2.2.1, .list (r.2.2.2.2.2.2.2.2.2.2.2.2.2.2.2.2.2.2.1.map MV.s), .list (r.2.2.2.2.2.2.2.2.2.2.2.2.2.2.2.2.2.2.2.map fG)]
@[reducible] def v2 (r : Int × Int × Int × (List UInt8) × Int × (List (List UInt8)) × Int × Int × Int × (List UInt8) × Int × (List (List UInt8))) : List MV := [.i .i64 r.1, .i .i64 r.2.1, .i .i64 r.2.2.1, .s r.2.2.2.1, .i .i64 r.2.2.2.2.1, .list (r.2.2.2.2.2.1.map MV.s), .i .i64 r.2.2.2.2.2.2.1, .i .i64 r.2.2.2.2.2.2.2.1, .i .i64 r.2.2.2.2.2.2.2.2.1, .s r.2.2.2.2.2.2.2.2.2.1, .i .i64 r.2.2.2.2.2.2.2.2.2.2.1, .list (r.2.2.2.2.2.2.2.2.2.2.2.map MV.s)]
@[reducible] def v3 (r : Int × Int × Int × (List UInt8) × Int × (List (List UInt8)) × Bool) : List MV := [.i .i64 r.1, .i .i64 r.2.1, .i .i64 r.2.2.1, .s r.2.2.2.1, .i .i64 r.2.2.2.2.1, .list (r.2.2.2.2.2.1.map MV.s), .b r.2.2.2.2.2.2]
theorem mO {A B:Type}{g:B->A}{T:Option B}{l:List MV}{K:Nat->Option A}(n:Nat)(h:Sm g (K n) T)(e:l.length=n:=by simp only [sh,By,IN]):Sm g (bO l K) T:=vG e h
theorem aK {A B C:Type}{g:B->A}{T:Option B}{f:C->MV}{M:List C}{K:Nat->Option A}(h:Sm g (K M.length) T):Sm g (bO (M.map f) K) T:=vG (sh ..) h
theorem aj {A B:Type}{g:B->A}{d:A}{a:B}(e:d=g a:=by exact rfl):Sm g (some d) (some a):=fV e
theorem DA {A B:Type}{g:B->A}{T:Option B}{k0:IntKind}{x0:Int}{x1:Bool}{K:Int->Bool->Option A}(h:Sm g (K x0 x1) T):Sm g (oIB k0 [.i k0 x0,.b x1] K) T:=ai (aG (ai (bh (ay h))))
theorem yl {A B:Type}{g:B->A}{T:Option B}{k0 k1:IntKind}{x0:Int}{x1:Int}{K:Int->Int->Option A}(h:Sm g (K x0 x1) T):Sm g (We k0 k1 [.i k0 x0,.i k1 x1] K) T:=ai (aG (ai (aG (ay h))))
theorem DB {A B:Type}{g:B->A}{T:Option B}{k0 k1 k2:IntKind}{x0:Int}{x1:Int}{x2:Int}{K:Int->Int->Int->Option A}(h:Sm g (K x0 x1 x2) T):Sm g (ahr k0 k1 k2 [.i k0 x0,.i k1 x1,.i k2 x2] K) T:=ai (aG (ai (aG (ai (aG (ay h))))))
theorem fb {A B:Type}{g:B->A}{T:Option B}{k0 k1 k2 k4:IntKind}{x0:Int}{x1:Int}{x2:Int}{x3:List UInt8}{x4:Int}{x5:List MV}{K:Int->Int->Int->List UInt8->Int->List MV->Option A}(h:Sm g (K x0 x1 x2 x3 x4 x5) T):Sm g (Ux k0 k1 k2 k4 [.i k0 x0,.i k1 x1,.i k2 x2,.s x3,.i k4 x4,.list x5] K) T:=ai (aG (ai (aG (ai (aG (ai (bM (ai (aG (ai (aQ (ay h))))))))))))
theorem cb {A B:Type}{g:B->A}{T:Option B}{k0 k1 k2 k5 k6 k7:IntKind}{x0:Int}{x1:Int}{x2:Int}{x3:List UInt8}{x4:List UInt8}{x5:Int}{x6:Int}{x7:Int}{K:Int->Int->Int->List UInt8->List UInt8->Int->Int->Int->Option A}(h:Sm g (K x0 x1 x2 x3 x4 x5 x6 x7) T):Sm g (Mk k0 k1 k2 k5 k6 k7 [.i k0 x0,.i k1 x1,.i k2 x2,.s x3,.s x4,.i k5 x5,.i k6 x6,.i k7 x7] K) T:=ai (aG (ai (aG (ai (aG (ai (bM (ai (bM (ai (aG (ai (aG (ai (aG (ay h))))))))))))))))
theorem DC {A B:Type}{g:B->A}{T:Option B}{k0:IntKind}{x0:Int}{x1:List MV}{K:Int->List MV->Option A}(h:Sm g (K x0 x1) T):Sm g (oIL k0 [.i k0 x0,.list x1] K) T:=ai (aG (ai (aQ (ay h))))
theorem sn {A B:Type}{g:B->A}{T:Option B}{k1:IntKind}{x0:List MV}{x1:Int}{K:List MV->Int->Option A}(h:Sm g (K x0 x1) T):Sm g (oLI k1 [.list x0,.i k1 x1] K) T:=ai (aQ (ai (aG (ay h))))
theorem jx {A B:Type}{g:B->A}{T:Option B}{k1:IntKind}{x0:List MV}{x1:Int}{x2:List MV}{x3:List MV}{x4:List MV}{K:List MV->Int->List MV->List MV->List MV->Option A}(h:Sm g (K x0 x1 x2 x3 x4) T):Sm g (aao k1 [.list x0,.i k1 x1,.list x2,.list x3,.list x4] K) T:=ai (aQ (ai (aG (ai (aQ (ai (aQ (ai (aQ (ay h))))))))))
theorem ax {A B:Type}{g:B->A}{T:Option B}{k1 k5 k6 k7 k10 k11 k12 k13 k14 k15 k17:IntKind}{x0:List MV}{x1:Int}{x2:List MV}{x3:List MV}{x4:List MV}{x5:Int}{x6:Int}{x7:Int}{x8:List UInt8}{x9:List UInt8}{Gk:Int}{Ir:Int}{Is:Int}{It:Int}{Iu:Int}{GW:Int}{Iv:List UInt8}{FM:Int}{Iw:List MV}{Kq:List MV}{K:List MV->Int->List MV->List MV->List MV->Int->Int->Int->List UInt8->List UInt8->Int->Int->Int->Int->Int->Int->List UInt8->Int->List MV->List MV->Option A}(h:Sm g (K x0 x1 x2 x3 x4 x5 x6 x7 x8 x9 Gk Ir Is It Iu GW Iv FM Iw Kq) T):Sm g (cP k1 k5 k6 k7 k10 k11 k12 k13 k14 k15 k17 [.list x0,.i k1 x1,.list x2,.list x3,.list x4,.i k5 x5,.i k6 x6,.i k7 x7,.s x8,.s x9,.i k10 Gk,.i k11 Ir,.i k12 Is,.i k13 It,.i k14 Iu,.i k15 GW,.s Iv,.i k17 FM,.list Iw,.list Kq] K) T:=ai (aQ (ai (aG (ai (aQ (ai (aQ (ai (aQ (ai (aG (ai (aG (ai (aG (ai (bM (ai (bM (ai (aG (ai (aG (ai (aG (ai (aG (ai (aG (ai (aG (ai (bM (ai (aG (ai (aQ (ai (aQ (ay h))))))))))))))))))))))))))))))))))))))))
theorem FY {A B:Type}{g:B->A}{T:Option B}{k1:IntKind}{x0:List UInt8}{x1:Int}{x2:Bool}{K:List UInt8->Int->Bool->Option A}(h:Sm g (K x0 x1 x2) T):Sm g (akW k1 [.s x0,.i k1 x1,.b x2] K) T:=ai (bM (ai (aG (ai (bh (ay h))))))
theorem ml {A B:Type}{g:B->A}{T:Option B}{k2 k3:IntKind}{x0:List UInt8}{x1:List UInt8}{x2:Int}{x3:Int}{K:List UInt8->List UInt8->Int->Int->Option A}(h:Sm g (K x0 x1 x2 x3) T):Sm g (afL k2 k3 [.s x0,.s x1,.i k2 x2,.i k3 x3] K) T:=ai (bM (ai (bM (ai (aG (ai (aG (ay h))))))))
theorem Gv (o:aa):Sm aB (nL (aB o)) (gj o):=by
 unfold nL gj;refine aV (cb (aR ?_ ?_))
 ·exact aj
 ·refine ap (f:=(λr=>(0,[.b r]))) ?_ λw=> ?_
  ·refine aR ?_ ?_
   ·exact aj
   ·refine ap (f:=(λr=>(0,[.b r]))) ?_ λw1=> ?_
    ·refine aR ?_ ?_
     ·exact aj
     ·refine ap (f:=(λr=>(0,[.b r]))) ?_ λw2=> ?_
      ·refine aR ?_ ?_
       ·exact aj
       ·exact aj
      ·refine bT rfl (ai (bh (ay aj)))
    ·refine bT rfl (ai (bh (ay aj)))
  ·refine bT rfl (ai (bh (ay (aL ?_ ?_))))
   ·exact aj
   ·refine aR ?_ ?_
    ·exact aj
    ·refine aR ?_ ?_
     ·exact aj
     ·refine aR ?_ ?_
      ·exact aj
      ·refine ap (f:=(λr=>(0,[.b r]))) ?_ λw3=> ?_
       ·refine aR ?_ ?_
        ·exact aj
        ·exact aj
       ·refine bT rfl (ai (bh (ay (aL ?_ ?_))))
        ·exact aj
        ·refine aR ?_ ?_
         ·exact aj
         ·exact aj
theorem sG (o:aa):Sm MV.b (mH (aB o)) (dC o):=by
 unfold mH dC;refine aV (cb ?_);refine ap (f:=λr=>[.b r]) ?_ λw=> ?_
 ·refine aR ?_ ?_
  ·refine aR ?_ ?_
   ·refine aR ?_ ?_
    ·exact aj
    ·exact aj
   ·exact aj
  ·exact aj
 ·refine ai (bh (ay ?_));refine ap (f:=λr=>[.b r]) ?_ λw1=> ?_
  ·refine aL ?_ ?_
   ·refine aR ?_ ?_
    ·refine aR ?_ ?_
     ·refine aR ?_ ?_
      ·refine aR ?_ ?_
       ·refine ap (Gv o) λrA=>aV (cb aj)
       ·exact aj
      ·exact aj
     ·exact aj
    ·exact aj
   ·exact aj
  ·refine ai (bh (ay aj))
theorem DD (x:Int):Sm MV.b (pg (.i .i64 x)) (o4 x):=by unfold pg o4;refine aG aj
theorem At (x:Int)(y:Int):Sm (MV.i .i64) (mf (.i .i64 x) (.i .i64 y)) (jY x y):=by
 unfold mf jY;refine aG (aG (ap (DD x) λrA=>bh (ap (DD y) λaY=>bh (aL ?_ ?_))))
 ·refine aL ?_ ?_
  ·exact aj
  ·exact aj
 ·refine aL ?_ ?_
  ·exact aj
  ·refine aR ?_ ?_
   ·exact aj
   ·refine aR ?_ ?_
    ·exact aj
    ·exact aj
theorem Co (x:ae)(eF:Int):Sm (MV.i .i64) (kF (aU x) (.i .i64 eF)) (c8 x eF):=by unfold kF c8;refine aV (fb (aG (ap (At x.Client eF) λrA=>aG aj)))
theorem nh (x:List ae)(target:Int)(cmp:ae->Int->Option Int){Kp:Nat}{yW:List MV}(FZ:gv Kp=false)(fc: ∀(u0:ae)(u1:Int),Sm (MV.i .i64) (cF Kp ([aU u0,.i .i64 u1]++yW)) (cmp u0 u1)):Sm (λr=> .b8 [.i .i64 r.1,.b r.2]) (cT (.list (x.map aU)) (.i .i64 target) (.func Kp yW)) (cS x target cmp):=by
 unfold cT cS;refine aQ (aG (rm (aK (ap (cD (λr=>[.i .i64 r.1,.i .i64 r.2]) (λr=>(2,[.i .i64 r])) (rfl) λst=> ?_) λw=> ?_))))
 ·unfold fH;refine yl<|aR ?_ ?_
  ·refine ck<|bH (f:=aU) (rfl) λy=> ?_;refine aV (fb (sY (bT (by rw [FZ];rfl) ?_)));refine ap (fc y target) λrA=>aG<|ap (f:=(λr=>(0,[.i .i64 r.1,.i .i64 r.2]))) ?_ λw1=> ?_
   ·refine aR ?_ ?_
    ·exact aj
    ·exact aj
   ·refine bT rfl (yl aj)
  ·exact aj
 ·refine bT rfl (ai (aG (ay ?_)));refine ap (f:=λr=>[.i .i64 r.1,.b r.2]) ?_ λw2=> ?_
  ·refine aR ?_ ?_
   ·refine bH (f:=aU) (rfl) λy1=> ?_;refine aV (fb (sY (bT (by rw [FZ];rfl) ?_)));refine ap (fc y1 target) λaY=>aG aj
   ·exact aj
  ·refine DA aj
theorem wU (rA:al)(eF:Int):Sm (λr=> .b8 [.i .i64 r.1,.b r.2]) (kb (dc rA) (.i .i64 eF)) (fg rA eF):=by unfold kb fg;refine aV (jx (aG (ap (nh rA.Seen eF c8 (Kp:=120) (yW:=[]) rfl (λu2 u3=>Sm.at (gm _ _) (Co u2 u3))) λaY=> ?_)));refine cw (DA aj)
theorem Cp (rA:al)(eF:Int):Sm (λr=> .b8 [aU r.1,.b r.2]) (qg (dc rA) (.i .i64 eF)) (nX rA eF):=by
 unfold qg nX;refine aV (jx (aG (ap (wU rA eF) λaY=>cw (DA (aL ?_ ?_)))))
 ·exact aj
 ·refine bH (f:=aU) (rfl) λy=>aV (fb aj)
theorem EK (rA:al)(o:aa):Sm (λr=> .b8 [aU r.1,.b r.2]) (mI (dc rA) (aB o)) (jZ rA o):=by
 unfold mI jZ;refine aV (jx (aV (cb (ap (Cp rA o.Client) λaY=>cw (ai (aV (fb (ai (bh (ay (ap (sG o) λda=>bh (ap (f:=(BY (λr=>(0,(v2 r))) (λr=>(1,(v3 r))))) ?_ λw=> ?_))))))))))))
 ·refine aL ?_ ?_
  ·exact aj
  ·refine ap (f:=λr=>[.b r]) ?_ λw1=> ?_
   ·refine aL ?_ ?_
    ·exact aj
    ·exact aj
   ·refine ai (bh (ay (aL ?_ ?_)))
    ·exact aj
    ·refine ap (f:=λr=>[.b r]) ?_ λw2=> ?_
     ·refine aL ?_ ?_
      ·exact aj
      ·exact aj
     ·refine ai (bh (ay (ap (f:=(BY (λr=>(0,(v2 r))) (λr=>(1,(v3 r))))) ?_ λw3=> ?_)))
      ·refine aL ?_ ?_
       ·exact aj
       ·refine ap (f:=λr=>[.b r]) ?_ λw4=> ?_
        ·refine aL ?_ ?_
         ·refine aK aj
         ·exact aj
        ·refine ai (bh (ay (aL ?_ ?_)))
         ·exact aj
         ·exact aj
      ·rcases w3 with p2|p3
       ·refine jW rfl (ai (aG (ai (aG (ai (aG (ai (bM (ai (aG (ai (aQ (fb aj)))))))))))))
       ·refine jX rfl (bT rfl (ai (aG (ai (aG (ai (aG (ai (bM (ai (aG (ai (aQ (ai (bh (ay aj))))))))))))))))
 ·rcases w with p4|p5
  ·refine jW rfl (ai (aG (ai (aG (ai (aG (ai (bM (ai (aG (ai (aQ (fb aj)))))))))))))
  ·refine jX rfl (bT rfl (ai (aG (ai (aG (ai (aG (ai (bM (ai (aG (ai (aQ (ai (bh (ay aj))))))))))))))))
theorem Cq (w:ah):Sm (λr=> .ef ((λ_=> .b8 []) r.1) (bD r.2)) (kG (bD w)) (nY w):=by unfold kG nY;refine ax aj
theorem DE (x:aw)(id:Int):Sm (MV.i .i64) (lD (aW x) (.i .i64 id)) (dj x id):=by unfold lD dj;refine aV (DB (aG (ap (At x.Id id) λrA=>aG aj)))
theorem mn (x:List aw)(target:Int)(cmp:aw->Int->Option Int){Kp:Nat}{yW:List MV}(FZ:gv Kp=false)(eR: ∀(u0:aw)(u1:Int),Sm (MV.i .i64) (cq Kp ([aW u0,.i .i64 u1]++yW)) (cmp u0 u1)):Sm (λr=> .b8 [.i .i64 r.1,.b r.2]) (cG (.list (x.map aW)) (.i .i64 target) (.func Kp yW)) (cE x target cmp):=by
 unfold cG cE;refine aQ (aG (rm (aK (ap (cD (λr=>[.i .i64 r.1,.i .i64 r.2]) (λr=>(2,[.i .i64 r])) (rfl) λst=> ?_) λw=> ?_))))
 ·unfold e9;refine yl<|aR ?_ ?_
  ·refine ck<|bH (f:=aW) (rfl) λy=> ?_;refine aV (DB (sY (bT (by rw [FZ];rfl) ?_)));refine ap (eR y target) λrA=>aG<|ap (f:=(λr=>(0,[.i .i64 r.1,.i .i64 r.2]))) ?_ λw1=> ?_
   ·refine aR ?_ ?_
    ·exact aj
    ·exact aj
   ·refine bT rfl (yl aj)
  ·exact aj
 ·refine bT rfl (ai (aG (ay ?_)));refine ap (f:=λr=>[.i .i64 r.1,.b r.2]) ?_ λw2=> ?_
  ·refine aR ?_ ?_
   ·refine bH (f:=aW) (rfl) λy1=> ?_;refine aV (DB (sY (bT (by rw [FZ];rfl) ?_)));refine ap (eR y1 target) λaY=>aG aj
   ·exact aj
  ·refine DA aj
theorem nS (b:aF)(id:Int):Sm (λr=> .b8 [.i .i64 r.1,.b r.2]) (gn (dB b) (.i .i64 id)) (ea b id):=by unfold gn ea;refine aV (DC (aG (ap (mn b.L id dj (Kp:=144) (yW:=[]) rfl (λu2 u3=>Sm.at (fT _ _) (DE u2 u3))) λrA=>cw (DA ?_))));exact aj
theorem Wv (b:aF)(id:Int):Sm MV.b (AZ (dB b) (.i .i64 id)) (wD b id):=by unfold AZ wD;refine aV (DC (aG (ap (nS b id) λrA=>cw (DA aj))))
theorem zi (sA:List UInt8)(dk:List UInt8):Sm MV.b (iF (.s sA) (.s dk)) (iA sA dk):=by
 unfold iF iA;refine bM (bM ?_);refine ap (f:=λr=>[.b r]) ?_ λw=> ?_
 ·refine aR ?_ ?_
  ·refine ck aj
  ·exact aj
 ·refine ai (bh (ay aj))
theorem zj (sA:List UInt8)(dk:List UInt8):Sm (λr=> .b8 [.s r.1,.b r.2]) (iG (.s sA) (.s dk)) (iB sA dk):=by
 unfold iG iB;refine bM (bM (ap (zi sA dk) λrA=>bh (aL ?_ ?_)))
 ·exact aj
 ·refine ck aj
theorem DF (sA:List UInt8)(dk:List UInt8):Sm (λr=> .b8 [.s r.1,.b r.2]) (lE (.s sA) (.s dk)) (jf sA dk):=by unfold lE jf;refine bM (bM (ap (zj sA dk) λrA=>cw (ai (bM (ai (bh (ay aj)))))))
theorem K7 (c:Int):Sm MV.b (qw (.i .i32 c)) (gO c):=by unfold qw gO;refine aG<|ap (V5 ([97,98,99,100,101,102,103,104,105,106,107,108,109,110,111,112,113,114,115,116,117,118,119,120,121,122,48,49,50,51,52,53,54,55,56,57,45,95]:List UInt8) c) λrA=>bh aj
theorem Gw (sA:List UInt8)(f:Int->Option Bool)(FK:Bool){v8:Nat}{pi:List MV}(Gf:gv v8=false)(jy: ∀(u0:Int),Sm MV.b (jr v8 ([.i .i32 u0]++pi)) (f u0)):Sm (MV.i .i64) (nM (.s sA) (.func v8 pi) (.b FK)) (nH sA f FK):=by
 unfold nM nH;refine bM (rm (bh (ap (cD (λr=>[.list r]) (BY (λr=>(2,[])) (λr=>(1,[.i .i64 r]))) (rfl) λst=> ?_) λw=> ?_)))
 ·unfold jg;refine ai (aQ (ay (aL ?_ ?_)))
  ·refine sY (bT (by rw [Gf];rfl) ?_);refine ap (jy (zA st)) λrA=>bh<|aR ?_ ?_
   ·exact aj
   ·exact aj
  ·exact aj
 ·rcases w with p1|p2
  ·refine jW rfl (ay aj)
  ·refine jX rfl (bT rfl (ai (aG (ay aj))))
theorem DG (sA:List UInt8)(f:Int->Option Bool){v8:Nat}{pi:List MV}(Gf:gv v8=false)(jy: ∀(u0:Int),Sm MV.b (jr v8 ([.i .i32 u0]++pi)) (f u0)):Sm (MV.i .i64) (lF (.s sA) (.func v8 pi)) (lB sA f):=by unfold lF lB;refine bM (rm (ap (Gw sA f true Gf jy) λrA=>aG aj))
theorem Au (sA:List UInt8)(f:Int->Option Bool){v8:Nat}{pi:List MV}(Gf:gv v8=false)(jy: ∀(u0:Int),Sm MV.b (jr v8 ([.i .i32 u0]++pi)) (f u0)):Sm MV.b (jt (.s sA) (.func v8 pi)) (fJ sA f):=by unfold jt fJ;refine bM (rm (ap (DG sA f Gf jy) λrA=>aG aj))
theorem Qu (sA:List UInt8):Sm MV.b (u5 (.s sA)) (qO sA):=by
 unfold u5 qO;refine bM ?_;refine ap (f:=λr=>[.b r]) ?_ λw=> ?_
 ·refine aL ?_ ?_
  ·refine aR ?_ ?_
   ·refine ap (ahp sA ([97,98,99,100,101,102,103,104,105,106,107,108,109,110,111,112,113,114,115,116,117,118,119,120,121,122,48,49,50,51,52,53,54,55,56,57,45,95]:List UInt8)) λrA=>bM<|aR ?_ ?_
    ·refine ap (Au sA gO (v8:=237) (pi:=[]) rfl (λu1=>Sm.at (rr _) (K7 u1))) λaY=>bh aj
    ·exact aj
   ·exact aj
  ·exact aj
 ·refine ai (bh (ay aj))
theorem Oj (sA:List UInt8):Sm MV.b (sa (.s sA)) (mD sA):=by unfold sa mD;refine bM<|ap (Qu sA) λrA=>bh aj
theorem ym (sA:List (List UInt8))(f:(List UInt8)->Option Bool){v8:Nat}{pi:List MV}(Gf:gv v8=false)(jF: ∀(u0:List UInt8),Sm MV.b (fq v8 ([.s u0]++pi)) (f u0)):Sm (MV.i .i64) (gG (.list (sA.map MV.s)) (.func v8 pi)) (gz sA f):=by
 unfold gG gz;refine aQ (rm (aK (ap (cD (λr=>[.i .i64 r]) (BY (λr=>(2,[])) (λr=>(1,[.i .i64 r]))) (rfl) λst=> ?_) λw=> ?_)))
 ·unfold dU;refine ai (aG (ay (aR ?_ ?_)))
  ·refine bH (f:=MV.s) (rfl) λy=> ?_;refine bM (sY (bT (by rw [Gf];rfl) ?_));refine ap (jF y) λrA=>bh<|aL ?_ ?_
   ·exact aj
   ·exact aj
  ·exact aj
 ·rcases w with p1|p2
  ·refine jW rfl (ay aj)
  ·refine jX rfl (bT rfl (ai (aG (ay aj))))
theorem uC (sA:List (List UInt8))(f:(List UInt8)->Option Bool){v8:Nat}{pi:List MV}(Gf:gv v8=false)(jF: ∀(u0:List UInt8),Sm MV.b (fq v8 ([.s u0]++pi)) (f u0)):Sm MV.b (eW (.list (sA.map MV.s)) (.func v8 pi)) (dF sA f):=by unfold eW dF;refine aQ (rm (ap (ym sA f Gf jF) λrA=>aG aj))
theorem qj (p:List UInt8):Sm (λr=> .b8 [.list (r.1.map MV.s),.b r.2]) (kI (.s p)) (ig p):=by
 unfold kI ig;refine bM<|ap (DF p ([47]:List UInt8)) λrA=>cw (ai (bM (ai (bh (ay ?_)))));refine ap (f:=λr=>[.b r]) ?_ λw=> ?_
 ·refine aL ?_ ?_
  ·exact aj
  ·exact aj
 ·refine ai (bh (ay (aL ?_ ?_)))
  ·exact aj
  ·refine aR ?_ ?_
   ·exact aj
   ·refine ap (adN rA.1 ([47]:List UInt8)) λaY=>mR ?_;refine ap (f:=λr=>[.list (r.1.map MV.s),.b r.2.1,.list (r.2.2.map MV.s)]) ?_ λw1=> ?_
    ·refine aK<|aR ?_ ?_
     ·refine ap (uC aY mD (v8:=196) (pi:=[]) rfl (λu1=>Sm.at (n9 _) (Oj u1))) λda=>bh aj
     ·exact aj
    ·refine ai (aQ (ai (bh (ai (aQ (ay aj))))))
theorem yL (x:List UInt8):Sm MV.b (kV (.s x)) (kQ x):=by unfold kV kQ;refine bM aj
theorem DH (x:List UInt8)(y:List UInt8):Sm (MV.i .i64) (lG (.s x) (.s y)) (jh x y):=by
 unfold lG jh;refine bM (bM (ap (yL x) λrA=>bh (ap (yL y) λaY=>bh (aL ?_ ?_))))
 ·refine aL ?_ ?_
  ·exact aj
  ·exact aj
 ·refine aL ?_ ?_
  ·exact aj
  ·refine aL ?_ ?_
   ·exact aj
   ·refine aL ?_ ?_
    ·exact aj
    ·exact aj
theorem Av (s1:List (List UInt8))(s2:List (List UInt8)):Sm (MV.i .i64) (ju (.list (s1.map MV.s)) (.list (s2.map MV.s))) (fK s1 s2):=by
 unfold ju fK;refine aQ (aQ (aK (ap (cD (λr=>[.i .i64 r]) (BY (λr=>(2,[])) (λr=>(1,[.i .i64 r]))) (rfl) λst=> ?_) λw=> ?_)))
 ·unfold eM;refine ai (aG (ay (aR ?_ ?_)))
  ·refine bH (f:=MV.s) (rfl) λy=>bM (aK (aR ?_ ?_))
   ·exact aj
   ·refine bH (f:=MV.s) (rfl) λy1=>bM<|ap (DH y y1) λrA=>aG<|aL ?_ ?_
    ·exact aj
    ·exact aj
  ·exact aj
 ·rcases w with p1|p2
  ·refine jW rfl (ay (aK (aK (aR ?_ ?_))))
   ·exact aj
   ·exact aj
  ·refine jX rfl (bT rfl (ai (aG (ay aj))))
theorem Sv (p:List UInt8)(q:List UInt8):Sm MV.b (xO (.s p) (.s q)) (s7 p q):=by
 unfold xO s7;refine bM (bM (ap (qj p) λrA=>cw (ai (aQ (ai (bh (ay (ap (qj q) λaY=>cw (ai (aQ (ai (bh (ay ?_)))))))))))));refine ap (f:=λr=>[.b r]) ?_ λw=> ?_
 ·refine aL ?_ ?_
  ·refine aL ?_ ?_
   ·refine ap (Av rA.1 aY.1) λda=>aG aj
   ·exact aj
  ·exact aj
 ·refine ai (bh (ay aj))
theorem Cr (n:af)(p:List UInt8):Sm (MV.i .i64) (kJ (aS n) (.s p)) (cm n p):=by
 unfold kJ cm;refine aV (ml (bM (aR ?_ ?_)))
 ·exact aj
 ·refine ap (Sv n.Path p) λrA=>bh<|aL ?_ ?_
  ·exact aj
  ·exact aj
theorem mq (x:List af)(target:List UInt8)(cmp:af->(List UInt8)->Option Int){Kp:Nat}{yW:List MV}(FZ:gv Kp=false)(eS: ∀(u0:af)(u1:List UInt8),Sm (MV.i .i64) (cr Kp ([aS u0,.s u1]++yW)) (cmp u0 u1)):Sm (λr=> .b8 [.i .i64 r.1,.b r.2]) (cH (.list (x.map aS)) (.s target) (.func Kp yW)) (dx x target cmp):=by
 unfold cH dx;refine aQ (bM (rm (aK (ap (cD (λr=>[.i .i64 r.1,.i .i64 r.2]) (λr=>(2,[.i .i64 r])) (rfl) λst=> ?_) λw=> ?_))))
 ·unfold fa;refine yl<|aR ?_ ?_
  ·refine ck<|bH (f:=aS) (rfl) λy=> ?_;refine aV (ml (sY (bT (by rw [FZ];rfl) ?_)));refine ap (eS y target) λrA=>aG<|ap (f:=(λr=>(0,[.i .i64 r.1,.i .i64 r.2]))) ?_ λw1=> ?_
   ·refine aR ?_ ?_
    ·exact aj
    ·exact aj
   ·refine bT rfl (yl aj)
  ·exact aj
 ·refine bT rfl (ai (aG (ay ?_)));refine ap (f:=λr=>[.i .i64 r.1,.b r.2]) ?_ λw2=> ?_
  ·refine aR ?_ ?_
   ·refine bH (f:=aS) (rfl) λy1=> ?_;refine aV (ml (sY (bT (by rw [FZ];rfl) ?_)));refine ap (eS y1 target) λaY=>aG aj
   ·exact aj
  ·refine DA aj
theorem wV (sA:aC)(p:List UInt8):Sm (λr=> .b8 [.i .i64 r.1,.b r.2]) (kc (cc sA) (.s p)) (eo sA p):=by unfold kc eo;refine aV (ai (aQ (ay (bM (ap (mq sA.L p cm (Kp:=245) (yW:=[]) rfl (λu2 u3=>Sm.at (fP _ _) (Cr u2 u3))) λrA=> ?_)))));refine cw (DA aj)
theorem ug (p:List UInt8):Sm MV.b (mh (.s p)) (kD p):=by unfold mh kD;refine bM<|ap (qj p) λrA=>cw (ai (aQ (ai (bh (ay aj)))))
theorem sr (sA:List UInt8)(c:Int):Sm (MV.i .i64) (ez (.s sA) (.i .u8 c)) (eu sA c):=by
 unfold ez eu;refine bM (aG (ap (cD (λr=>[.i .i64 r]) (BY (λr=>(2,[])) (λr=>(1,[.i .i64 r]))) (rfl) λst=> ?_) λw=> ?_))
 ·unfold dM;refine ai (aG (ay (aR ?_ ?_)))
  ·refine ck<|aR ?_ ?_
   ·exact aj
   ·exact aj
  ·exact aj
 ·rcases w with p1|p2
  ·refine jW rfl (ay aj)
  ·refine jX rfl (bT rfl (ai (aG (ay aj))))
theorem vU (sep:List UInt8):Sm (λr=> .b8 [.i .u32 r.1,.i .u32 r.2]) (ft (.s sep)) (jE sep):=by
 unfold ft jE;refine bM<|ap (cD (λr=>[.i .u32 r.1,.i .i64 r.2]) (λr=>(2,[.i .u32 r])) (rfl) λst=> ?_) λw=> ?_
 ·unfold lX;refine yl<|aR ?_ ?_
  ·refine ck aj
  ·exact aj
 ·refine bT rfl (ai (aG (ay (ap (cD (λr=>[.i .u32 r.1,.i .u32 r.2.1,.i .i64 r.2.2]) (λr=>(4,[.i .u32 r])) (rfl) λeJ=> ?_) λw1=> ?_))))
  ·unfold lY;refine DB<|aR ?_ ?_
   ·refine ap (f:=(λr=>(0,[.i .u32 r]))) ?_ λw2=> ?_
    ·refine aL ?_ ?_
     ·exact aj
     ·exact aj
    ·refine bT rfl (ai (aG (ay (ck aj))))
   ·exact aj
  ·refine bT rfl (ai (aG (ay aj)))
theorem pD (a:List UInt8)(a1:List UInt8):Sm (MV.i .i64) (dm (.s a) (.s a1)) (eN a a1):=by
 unfold dm eN;refine bM (bM (ap (vU a1) λrA=>cw (yl (ap (cD (λr=>[.i .u32 r.1,.i .i64 r.2]) (λr=>(2,[.i .u32 r])) (rfl) λst=> ?_) λw=> ?_))))
 ·unfold ik;refine yl<|aR ?_ ?_
  ·refine ck aj
  ·exact aj
 ·refine bT rfl (ai (aG (ay ?_)));refine ap (f:=λr=>[.b r]) ?_ λw1=> ?_
  ·refine aR ?_ ?_
   ·refine ck aj
   ·exact aj
  ·refine ai (bh (ay (aL ?_ ?_)))
   ·exact aj
   ·refine ap (cD (λr=>[.i .u32 r.1,.i .i64 r.2]) (BY (λr=>(4,[])) (λr=>(1,[.i .i64 r]))) (rfl) λeJ=> ?_) λw2=> ?_
    ·unfold il;refine yl<|aR ?_ ?_
     ·refine ck (ck ?_);refine ap (f:=λr=>[.b r]) ?_ λw3=> ?_
      ·refine aR ?_ ?_
       ·refine ck aj
       ·exact aj
      ·refine ai (bh (ay (aL ?_ ?_)))
       ·exact aj
       ·exact aj
     ·exact aj
    ·rcases w2 with p2|p3
     ·refine jW rfl (ay aj)
     ·refine jX rfl (bT rfl (ai (aG (ay aj))))
theorem DI (sA:List UInt8)(substr:List UInt8):Sm (MV.i .i64) (lI (.s sA) (.s substr)) (ji sA substr):=by
 unfold lI ji;refine bM (bM (aR ?_ ?_))
 ·exact aj
 ·refine aR ?_ ?_
  ·refine ck<|ap (sr sA ((substr.getD (bN 0) 0).toNat:Int)) λrA=>aG aj
  ·refine aR ?_ ?_
   ·refine aR ?_ ?_
    ·exact aj
    ·exact aj
   ·refine aR ?_ ?_
    ·exact aj
    ·refine ap (pD sA substr) λaY=>aG aj
theorem F3 (p:List UInt8):Sm (λr=> .b8 [.s r.1,.i .i64 r.2]) (qX (.s p)) (oz p):=by
 unfold qX oz;refine bM<|ap (ug p) λrA=>bh<|aL ?_ ?_
 ·exact aj
 ·refine aR ?_ ?_
  ·exact aj
  ·refine ap (DI p ([47]:List UInt8)) λaY=>aG (ck aj)
theorem rE (sA:aC)(p:List UInt8):Sm (λr=> .b8 [.i .i64 r.1,.i .i64 r.2]) (iY (cc sA) (.s p)) (gk sA p):=by
 unfold iY gk;refine aV (ai (aQ (ay (bM (ap (ug p) λrA=>bh (aL ?_ ?_))))))
 ·exact aj
 ·refine ap (wV sA p) λaY=>cw (DA (aL ?_ ?_))
  ·exact aj
  ·exact aj
theorem EL (sA:aC)(p:List UInt8):Sm (λr=> .b8 [aS r.1,.i .i64 r.2]) (sE (cc sA) (.s p)) (p0 sA p):=by
 unfold sE p0;refine aV (ai (aQ (ay (bM (ap (rE sA p) λrA=>cw (yl (aL ?_ ?_)))))))
 ·exact aj
 ·refine bH (f:=aS) (rfl) λy=>aV (ml aj)
theorem JD (c:List UInt8)(c1:Bool)(c2:aC)(c3:List UInt8)(c4:Int):Sm (MV.i .i64) (pn (.rp [.s c]) (.rp [.b c1]) (.rp [.list (c2.L.map aS)]) (.rp [.s c3]) (.rp [.i .i64 c4])) (im c c1 c2 c3 c4):=by
 unfold pn im;refine Ik (ai (bM (ay (Ik (ai (bh (ay (Ik (ai (aQ (ay (Ik (ai (bM (ay (Ik (ai (aG (ay (ap (ug c) λrA=>bh (aL ?_ ?_)))))))))))))))))))))
 ·exact aj
 ·refine aL ?_ ?_
  ·exact aj
  ·refine ap (F3 c) λaY=>cw (ai (bM (ai (aG (ay (ap (EL c2 aY.1) λda=>cw (ai (aV (ml (ai (aG (ay (aL ?_ ?_)))))))))))))
   ·exact aj
   ·refine aL ?_ ?_
    ·exact aj
    ·refine aR ?_ ?_
     ·exact aj
     ·refine aR ?_ ?_
      ·exact aj
      ·refine aK<|aR ?_ ?_
       ·exact aj
       ·exact aj
theorem Ok (sA:aC)(p:List UInt8)(value:List UInt8)(owner:Int):Sm (λr=> .b8 [cc r.1,.i .i64 r.2]) (sd (cc sA) (.s p) (.s value) (.i .i64 owner)) (mE sA p value owner):=by
 unfold sd mE;refine aV (ai (aQ (ay (bM (bM (aG (ap (wV sA p) λrA=>cw (DA (ap (JD p rA.2 sA value owner) λaY=>aG (aL ?_ ?_))))))))))
 ·exact aj
 ·refine N6 (GV rfl rfl)<|ap (r8 (size:=4) (f:=aS) (λ_=>rfl) sA.L) λda=>mR<|ap (Il (f:=aS) da rA.1 ([(⟨p,value,0,owner⟩:af)]:List af)) λrO=>mR aj
theorem oc (w:ah)(kind:Int):Sm (λr=> .ef ((λ_=> .b8 []) r.1) (bD r.2)) (fj (bD w) (.i .i64 kind)) (dy w kind):=by
 unfold fj dy;refine aG (ax (ap (f:=(λr=>(0,(v1 r)))) ?_ λw1=> ?_))
 ·refine aR ?_ ?_
  ·refine aK (mO (([(⟨kind,w.o.Path⟩:aD)]:List aD).length) (ck (fV (by simp [bD,au,v1]))))
  ·exact aj
 ·refine bT rfl (ax aj)
theorem DJ (w:ah):Sm (λr=> .ef ((λ_=> .b8 []) r.1) (bD r.2)) (lJ (bD w)) (jj w):=by
 unfold lJ jj;refine ax ?_;refine ap (f:=λr=>[.b r]) ?_ λw1=> ?_
 ·refine aL ?_ ?_
  ·refine ap (Wv w.r.ca w.o.Session) λrA=>bh aj
  ·exact aj
 ·refine ai (bh (ay (aL ?_ ?_)))
  ·exact aj
  ·refine ap (Ok w.r.Shelf w.o.Path w.o.Value w.o.Session) λaY=>cw (ai (aV (ai (aQ (ay (ai (aG (ay (ap (oc (⟨(⟨aY.1,w.r.ca,w.r.bJ,w.r.Seen⟩:al),w.o,(⟨w.x.Client,w.x.Seq,aY.2,w.x.Value,w.x.Version,w.x.Names⟩:ae),w.l⟩:ah) 1) λda=> ?_)))))))));refine Mh (ax aj)
theorem JE (w:ah):Sm (λr=> .ef ((λ_=> .b8 []) r.1) (bD r.2)) (po (bD w)) (lZ w):=by unfold po lZ;refine ax<|ap (EL w.r.Shelf w.o.Path) λrA=>cw (ai (aV (ml (ai (aG (ay aj))))))
theorem q8 (sA:aC)(p:List UInt8)(version:Int):Sm (λr=> .b8 [.i .i64 r.1,.i .i64 r.2]) (fR (cc sA) (.s p) (.i .i64 version)) (et sA p version):=by
 unfold fR et;refine aV (ai (aQ (ay (bM (aG (ap (rE sA p) λrA=>cw (yl ?_)))))));refine ap (f:=λr=>[.b r]) ?_ λw=> ?_
 ·refine aR ?_ ?_
  ·refine aL ?_ ?_
   ·refine bH (f:=aS) (rfl) λy=>aV (ml aj)
   ·exact aj
  ·exact aj
 ·refine ai (bh (ay (aL ?_ ?_)))
  ·exact aj
  ·exact aj
theorem Ww (sA:aC)(p:List UInt8)(value:List UInt8)(version:Int):Sm (λr=> .b8 [cc r.1,.i .i64 r.2]) (A0 (cc sA) (.s p) (.s value) (.i .i64 version)) (wE sA p value version):=by
 unfold A0 wE;refine aV (ai (aQ (ay (bM (bM (aG (ap (q8 sA p version) λrA=>cw (yl (aL ?_ ?_)))))))))
 ·exact aj
 ·refine aR ?_ ?_
  ·exact aj
  ·refine bH (f:=aS) (rfl) λy=>aV (ml (aR ?_ ?_))
   ·exact aj
   ·refine ap (r8 (size:=4) (f:=aS) (λ_=>rfl) sA.L) λaY=>mR<|bH (f:=aS) (rfl) λy1=>aV (ml (bH (f:=aS) (by simp only [rY,IT,AS,aaG,abM,aaW,aa6,abN]) λy2=> ?_));refine aV (ml (bH (f:=aS) (by simp only [rY,IT,AS,aaG,abM,aaW,aa6,abN]) λy3=>aV (ml (fV (by simp [rP])))))
theorem JF (w:ah):Sm (λr=> .ef ((λ_=> .b8 []) r.1) (bD r.2)) (pq (bD w)) (ma w):=by
 unfold pq ma;refine ax<|ap (Ww w.r.Shelf w.o.Path w.o.Value w.o.Version) λrA=>cw (ai (aV (ai (aQ (ay (ai (aG (ay (ap (oc (⟨(⟨rA.1,w.r.ca,w.r.bJ,w.r.Seen⟩:al),w.o,(⟨w.x.Client,w.x.Seq,rA.2,w.x.Value,w.x.Version,w.x.Names⟩:ae),w.l⟩:ah) 2) λaY=> ?_)))))))));refine Mh (ax (ap (f:=(λr=>(0,(v1 r)))) ?_ λw1=> ?_))
 ·refine aR ?_ ?_
  ·refine ap (EL aY.2.r.Shelf aY.2.o.Path) λda=>cw (ai (aV (ml (ai (aG (ay aj))))))
  ·exact aj
 ·refine bT rfl (ax aj)
theorem uh (s1:List (List UInt8))(s2:List (List UInt8)):Sm MV.b (iu (.list (s1.map MV.s)) (.list (s2.map MV.s))) (fh s1 s2):=by
 unfold iu fh;refine aQ (aQ (aK (aK (aL ?_ ?_))))
 ·exact aj
 ·refine aK<|ap (cD (λr=>[.i .i64 r]) (BY (λr=>(2,[])) (λr=>(1,[.b r]))) (rfl) λst=> ?_) λw=> ?_
  ·unfold jk;refine ai (aG (ay (aR ?_ ?_)))
   ·refine bH (f:=MV.s) (rfl) λy=>bM<|bH (f:=MV.s) (rfl) λy1=>bM<|aL ?_ ?_
    ·exact aj
    ·exact aj
   ·exact aj
  ·rcases w with p1|p2
   ·refine jW rfl (ay aj)
   ·refine jX rfl (bT rfl (ai (bh (ay aj))))
theorem JG (p:List UInt8)(q:List UInt8):Sm MV.b (tT (.s p) (.s q)) (nZ p q):=by
 unfold tT nZ;refine bM (bM (ap (qj p) λrA=>cw (ai (aQ (ai (bh (ay (ap (qj q) λaY=>cw (ai (aQ (ai (bh (ay ?_)))))))))))));refine ap (f:=λr=>[.b r]) ?_ λw=> ?_
 ·refine aL ?_ ?_
  ·refine aL ?_ ?_
   ·refine aK (aK (aR ?_ ?_))
    ·refine aK (aK (ck (ap (by simpa using uh rA.1 (abO (bN 0) (abP (bN (rA.1.length:Int)) aY.1))) λda=>bh aj)))
    ·exact aj
   ·exact aj
  ·exact aj
 ·refine ai (bh (ay aj))
theorem Ol (sA:aC)(p:List UInt8)(version:Int):Sm (λr=> .b8 [cc r.1,.i .i64 r.2]) (se (cc sA) (.s p) (.i .i64 version)) (o6 sA p version):=by
 unfold se o6;refine aV (ai (aQ (ay (bM (aG (ap (q8 sA p version) λrA=>cw (yl (aR ?_ ?_))))))))
 ·exact aj
 ·refine aL ?_ ?_
  ·exact aj
  ·refine ap (f:=λr=>[.b r]) ?_ λw=> ?_
   ·refine aK<|aR ?_ ?_
    ·refine bH (f:=aS) (rfl) λy=>aV (ml (ap (JG p y.Path) λaY=>bh aj))
    ·exact aj
   ·refine ai (bh (ay (aL ?_ ?_)))
    ·exact aj
    ·refine ap (r8 (size:=4) (f:=aS) (λ_=>rfl) sA.L) λda=>mR<|ap (Qe (f:=aS) da rA.1 (AI .i64 (rA.1+1))) λrO=>mR aj
theorem DK (w:ah):Sm (λr=> .ef ((λ_=> .b8 []) r.1) (bD r.2)) (lK (bD w)) (jm w):=by unfold lK jm;refine ax<|ap (Ol w.r.Shelf w.o.Path w.o.Version) λrA=>cw (ai (aV (ai (aQ (ay (ai (aG (ay (ap (oc (⟨(⟨rA.1,w.r.ca,w.r.bJ,w.r.Seen⟩:al),w.o,(⟨w.x.Client,w.x.Seq,rA.2,w.x.Value,w.x.Version,w.x.Names⟩:ae),w.l⟩:ah) 3) λaY=> ?_)))))))));refine Mh (ax aj)
theorem JH (p:List UInt8):Sm (λr=> .b8 [.list (r.1.map MV.s),.i .i64 r.2]) (tU (.s p)) (p9 p):=by
 unfold tU p9;refine bM<|ap (qj p) λrA=>cw (ai (aQ (ai (bh (ay (aL ?_ ?_))))))
 ·exact aj
 ·exact aj
theorem Sw (a:aC)(a1:List UInt8):Sm (λr=> .b8 [.list (r.1.map MV.s),.i .i64 r.2]) (xS (cc a) (.s a1)) (s8 a a1):=by
 unfold xS s8;refine aV (ai (aQ (ay (bM (ap (rE a a1) λrA=>cw (yl (aL ?_ ?_)))))))
 ·exact aj
 ·refine ap (JH a1) λaY=> ?_;refine cw (sn (bT (xG (rfl:_=abR aS a.L) λ_=>rfl) (aK (ck (vG (n:=(abO (bN (AI .i64 (rA.1+1))) (abP (bN (a.L.length:Int)) a.L)).length) (by simp only [sh,AT,By,IN,No,OF,abK]) ?_)))));refine ap (cD (λr=>[.list (r.1.map MV.s),.i .i64 r.2]) (λr=>(2,[.list (r.map MV.s)])) (rfl) λst=> ?_) λw=> ?_
  ·unfold o7;refine sn<|aR ?_ ?_
   ·refine bH (f:=aS) (by simp only [rY,IT,AS,aaG,abM,aaW,aa6,abN]) λy=>aV (ml (ap (JG a1 y.Path) λda=>bh (aL ?_ ?_)))
    ·exact aj
    ·refine ap (JH y.Path) λrO=>cw (sn (aK (aK (ap (f:=(λr=>(0,[.list (r.map MV.s)]))) ?_ λw1=> ?_))))
     ·refine aR ?_ ?_
      ·refine aK<|bH (f:=MV.s) (rfl) λy1=>bM (aK (mO (([y1]:List (List UInt8)).length) (ck (fV (by first|(simp;done)|simp only [aS,cc,FJ,Dj,AS,aaG,abM,aaW,aa6,abN])))))
      ·exact aj
     ·refine bT rfl (ai (aQ (ay aj)))
   ·exact aj
  ·refine bT rfl (ai (aQ (ay aj)))
theorem Gx (w:ah):Sm (λr=> .ef ((λ_=> .b8 []) r.1) (bD r.2)) (nN (bD w)) (kR w):=by unfold nN kR;refine ax<|ap (Sw w.r.Shelf w.o.Path) λrA=>cw (sn aj)
theorem Sx (b:aF)(id:Int)(span:Int):Sm (λr=> .b8 [dB r.1,.i .i64 r.2]) (xT (dB b) (.i .i64 id) (.i .i64 span)) (s9 b id span):=by
 unfold xT s9;refine aV (DC (aG (aG (ap (nS b id) λrA=>cw (DA ?_)))));refine ap (f:=λr=>[.b r]) ?_ λw=> ?_
 ·refine aR ?_ ?_
  ·exact aj
  ·refine aR ?_ ?_
   ·exact aj
   ·exact aj
 ·refine ai (bh (ay (aL ?_ ?_)))
  ·exact aj
  ·refine aL ?_ ?_
   ·exact aj
   ·refine aK<|aR ?_ ?_
    ·exact aj
    ·refine N6 (GV rfl rfl)<|ap (r8 (size:=3) (f:=aW) (λ_=>rfl) b.L) λaY=>mR<|ap (Il (f:=aW) aY rA.1 ([(⟨id,span,AI .i64 (b.iT+span)⟩:aw)]:List aw)) λda=> ?_;refine mR aj
theorem Gy (w:ah):Sm (λr=> .ef ((λ_=> .b8 []) r.1) (bD r.2)) (nO (bD w)) (kS w):=by unfold nO kS;refine ax<|ap (Sx w.r.ca w.o.Session w.o.Span) λrA=>cw (ai (aV (DC (ai (aG (ay aj))))))
theorem Qv (b:aF)(id:Int):Sm (λr=> .b8 [dB r.1,.i .i64 r.2]) (ve (dB b) (.i .i64 id)) (qP b id):=by
 unfold ve qP;refine aV (DC (aG (ap (nS b id) λrA=>cw (DA (aL ?_ ?_)))))
 ·exact aj
 ·refine ap (r8 (size:=3) (f:=aW) (λ_=>rfl) b.L) λaY=>mR<|bH (f:=aW) (rfl) λy=>aV (DB (bH (f:=aW) (rfl) λy1=>aV (DB (fV (by simp)))))
theorem EM (w:ah):Sm (λr=> .ef ((λ_=> .b8 []) r.1) (bD r.2)) (mL (bD w)) (j0 w):=by unfold mL j0;refine ax<|ap (Qv w.r.ca w.o.Session) λrA=>cw (ai (aV (DC (ai (aG (ay aj))))))
theorem Qw (b:aF)(id:Int):Sm (λr=> .b8 [dB r.1,.i .i64 r.2]) (vf (dB b) (.i .i64 id)) (qQ b id):=by
 unfold vf qQ;refine aV (DC (aG (ap (nS b id) λrA=>cw (DA (aL ?_ ?_)))))
 ·exact aj
 ·refine ap (r8 (size:=3) (f:=aW) (λ_=>rfl) b.L) λaY=>mR<|ap (Qe (f:=aW) aY rA.1 (AI .i64 (rA.1+1))) λda=>mR aj
theorem Sy (sA:aC)(owner:Int):Sm (λr=> .b8 [cc r.1,.list (r.2.map MV.s)]) (xU (cc sA) (.i .i64 owner)) (ta sA owner):=by
 unfold xU ta;refine aV (ai (aQ (ay (aG (aK (ap (cD (λr=>[.list (r.1.map MV.s),.list (r.2.1.map aS),.i .i64 r.2.2]) (λr=>(2,[.list (r.1.map MV.s),.list (r.2.map aS)])) (rfl) λst=> ?_) λw=> ?_))))))
 ·unfold o8;refine ai (aQ (sn (aR ?_ ?_)))
  ·refine bH (f:=aS) (rfl) λy=>aV (ml ?_);refine ap (f:=λr=>[.b r]) ?_ λw1=> ?_
   ·refine aR ?_ ?_
    ·exact aj
    ·exact aj
   ·refine ai (bh (ay (aL ?_ ?_)))
    ·refine aK (mO (([y.Path]:List (List UInt8)).length) (ck (fV (by simp [rP]))))
    ·refine aK (mO (([y]:List af).length) (ck (fV (by simp [rP]))))
  ·exact aj
 ·refine bT rfl (ai (aQ (ai (aQ (ay aj)))))
theorem yM (w:ah)(id:Int):Sm (λr=> .ef ((λ_=> .b8 []) r.1) (bD r.2)) (kW (bD w) (.i .i64 id)) (iW w id):=by
 unfold kW iW;refine aG (ax (ap (Sy w.r.Shelf id) λrA=>cw (ai (aV (ai (aQ (ay (ai (aQ (ay (aK (ap (cD (λr=>(v0 r)) (λr=>(2,(v1 r))) (rfl) λst=> ?_) λw1=> ?_))))))))))))
 ·unfold jn;refine ai (aG (ax (aR ?_ ?_)))
  ·refine bH (f:=MV.s) (rfl) λy=>bM (aK (mO (([(⟨3,y⟩:aD)]:List aD).length) (ck (fV (by simp [bD,au,v0,v1])))))
  ·exact aj
 ·refine bT rfl (ax aj)
theorem EN (w:ah):Sm (λr=> .ef ((λ_=> .b8 []) r.1) (bD r.2)) (mM (bD w)) (j6 w):=by
 unfold mM j6;refine ax<|ap (Qw w.r.ca w.o.Session) λrA=>cw (ai (aV (DC (ai (aG (ay (ap (f:=(λr=>(0,(v1 r)))) ?_ λw1=> ?_)))))))
 ·refine aR ?_ ?_
  ·refine ap (yM (⟨(⟨w.r.Shelf,rA.1,w.r.bJ,w.r.Seen⟩:al),w.o,(⟨w.x.Client,w.x.Seq,rA.2,w.x.Value,w.x.Version,w.x.Names⟩:ae),w.l⟩:ah) w.o.Session) λaY=>Mh (ax aj)
  ·exact aj
 ·refine bT rfl (ax aj)
theorem Sz (b:aF)(now:Int):Sm (λr=> .b8 [dB r.1,.list (r.2.1.map (MV.i .i64)),.i .i64 r.2.2]) (xV (dB b) (.i .i64 now)) (tc b now):=by
 unfold xV tc;refine aV (DC (aG (aR ?_ ?_)))
 ·exact aj
 ·refine aR ?_ ?_
  ·exact aj
  ·refine aK<|ap (cD (λr=>[.list (r.1.map (MV.i .i64)),.i .i64 r.2.1,.list (r.2.2.1.map aW),.i .i64 r.2.2.2]) (λr=>(3,[.list (r.1.map (MV.i .i64)),.i .i64 r.2.1,.list (r.2.2.map aW)])) (rfl) λst=> ?_) λw=> ?_
   ·unfold o9;refine ai (aQ (ai (aG (sn (aR ?_ ?_)))))
    ·refine bH (f:=aW) (rfl) λy=>aV (DB (aR ?_ ?_))
     ·refine aK (mO (([y.Id]:List Int).length) (ck (fV (by simp))))
     ·refine aK (mO (([y]:List aw).length) (ck (fV (by simp))))
    ·exact aj
   ·refine bT rfl (ai (aQ (DC aj)))
theorem Gz (w:ah):Sm (λr=> .ef ((λ_=> .b8 []) r.1) (bD r.2)) (nP (bD w)) (kT w):=by
 unfold nP kT;refine ax<|ap (Sz w.r.ca w.o.Span) λrA=>cw (ai (aV (DC (sn (aL ?_ ?_)))))
 ·exact aj
 ·refine aK<|ap (cD (λr=>(v0 r)) (λr=>(2,(v1 r))) (rfl) λst=> ?_) λw1=> ?_
  ·unfold jo;refine ai (aG (ax (aR ?_ ?_)))
   ·refine bH (f:=(MV.i .i64)) (rfl) λy=>aG<|ap (yM (⟨(⟨(⟨st.2.1⟩:aC),(⟨st.2.2.1,st.2.2.2.1⟩:aF),(⟨st.2.2.2.2.1⟩:bI),st.2.2.2.2.2.1⟩:al),(⟨st.2.2.2.2.2.2.1,st.2.2.2.2.2.2.2.1,st.2.2.2.2.2.2.2.2.1,st.2.2.2.2.2.2.2.2.2.1,st.2.2.2.2.2.2.2.2.2.2.1,st.2.2.2.2.2.2.2.2.2.2.2.1,st.2.2.2.2.2.2.2.2.2.2.2.2.1,st.2.2.2.2.2.2.2.2.2.2.2.2.2.1⟩:aa),(⟨st.2.2.2.2.2.2.2.2.2.2.2.2.2.2.1,st.2.2.2.2.2.2.2.2.2.2.2.2.2.2.2.1,st.2.2.2.2.2.2.2.2.2.2.2.2.2.2.2.2.1,st.2.2.2.2.2.2.2.2.2.2.2.2.2.2.2.2.2.1,st.2.2.2.2.2.2.2.2.2.2.2.2.2.2.2.2.2.2.1,st.2.2.2.2.2.2.2.2.2.2.2.2.2.2.2.2.2.2.2.1⟩:ae),st.2.2.2.2.2.2.2.2.2.2.2.2.2.2.2.2.2.2.2.2⟩:ah) y) λaY=> ?_;refine Mh (ax aj)
   ·exact aj
  ·refine bT rfl (ax aj)
theorem yn (sA:List ar)(v:ar):Sm (MV.i .i64) (gJ (.list (sA.map bk)) (bk v)) (gD sA v):=by
 unfold gJ gD;refine aQ (aV (FY (aK (ap (cD (λr=>[.i .i64 r]) (BY (λr=>(2,[])) (λr=>(1,[.i .i64 r]))) (rfl) λst=> ?_) λw=> ?_))))
 ·unfold dV;refine ai (aG (ay (aR ?_ ?_)))
  ·refine bH (f:=bk) (rfl) λy=>aV (FY (aL ?_ ?_))
   ·exact aj
   ·exact aj
  ·exact aj
 ·rcases w with p1|p2
  ·refine jW rfl (ay aj)
  ·refine jX rfl (bT rfl (ai (aG (ay aj))))
theorem uD (sA:List ar)(v:ar):Sm MV.b (eX (.list (sA.map bk)) (bk v)) (dG sA v):=by unfold eX dG;refine aQ (aV (FY (ap (yn sA v) λrA=>aG aj)))
theorem Wx (t:bI)(w:ar):Sm (λr=> .b8 [lf r.1,.i .i64 r.2]) (A3 (lf t) (bk w)) (sB t w):=by
 unfold A3 sB;refine aV (ai (aQ (ay (aV (FY (ap (ug w.Path) λrA=>bh (aL ?_ ?_)))))))
 ·exact aj
 ·refine aR ?_ ?_
  ·exact aj
  ·refine ap (uD t.L w) λaY=>bh<|aL ?_ ?_
   ·exact aj
   ·refine aK<|aR ?_ ?_
    ·exact aj
    ·refine N6 (GV rfl rfl)<|ap (r8 (size:=3) (f:=bk) (λ_=>rfl) t.L) λda=>mR (aK (mO (([w]:List ar).length) (ck (fV (by simp)))))
theorem EO (w:ah):Sm (λr=> .ef ((λ_=> .b8 []) r.1) (bD r.2)) (mN (bD w)) (j7 w):=by unfold mN j7;refine ax<|ap (Wx w.r.bJ (⟨w.o.Path,w.o.Client,decide (w.o.Kind=11)⟩:ar)) λrA=>cw (ai (aV (ai (aQ (ay (ai (aG (ay aj))))))))
theorem SA:Sm (V4 (λx:Nat=>MV.func x [])) (xW) (td):=by unfold xW td;exact aj
theorem K8 (c:aD)(w:ar):Sm MV.b (qB (fG c) (bk w)) (nt c w):=by
 unfold qB nt;refine aV (ai (aG (ai (bM (ay (aV (FY ?_)))))));refine ap (f:=λr=>[.b r]) ?_ λw1=> ?_
 ·refine aR ?_ ?_
  ·exact aj
  ·refine aR ?_ ?_
   ·exact aj
   ·refine ap (ug c.Path) λrA=>bh aj
 ·refine ai (bh (ay (aL ?_ ?_)))
  ·exact aj
  ·refine aL ?_ ?_
   ·exact aj
   ·refine ap (F3 c.Path) λaY=>cw (ai (bM (ai (aG (ay ?_)))));refine ap (f:=λr=>[.b r]) ?_ λw2=> ?_
    ·refine aR ?_ ?_
     ·refine aL ?_ ?_
      ·exact aj
      ·exact aj
     ·exact aj
    ·refine ai (bh (ay aj))
theorem Om (w:ar)(c:aD)(c1:List a7):Sm (λr=> .ef (MV.b r.1) [.list (r.2.map df)]) (pv (bk w) (.rp [.i .i64 c.Kind,.s c.Path]) [.list (c1.map df)]) (mF w c c1):=by
 unfold pv mF;refine aV (FY (Ik (ai (aG (ai (bM (ay (ai (aQ (ay (ap (K8 c w) λrA=>bh (ap (f:=(λr=>(0,[.list (r.map df)]))) ?_ λw1=> ?_))))))))))))
 ·refine aL ?_ ?_
  ·refine aK (mO (([(⟨w,c⟩:a7)]:List a7).length) (ck (fV (by simp))))
  ·exact aj
 ·refine bT rfl (ai (aQ (ay aj)))
theorem SB (t:bI)(lA:List aD):Sm (λr=> .b8 [lf r.1,.list (r.2.map df)]) (ya (lf t) (.list (lA.map fG))) (th t lA):=by
 unfold ya th;refine aV (ai (aQ (ay (aQ (ap (r8 (size:=3) (f:=bk) (λ_=>rfl) t.L) λrA=>mR (aK (ap (cD (λr=>[.list (r.1.map bk),.list (r.2.1.map df),.i .i64 r.2.2]) (λr=>(2,[.list (r.1.map bk),.list (r.2.map df)])) (rfl) λst=> ?_) λw=> ?_)))))))
 ·unfold pa;refine ai (aQ (sn (aR ?_ ?_)))
  ·refine bH (f:=fG) (rfl) λy=>aV (ai (aG (ai (bM (ay (bT (aah (rfl:_=abR bk st.1) λ_=>rfl) (ap (aai (f:=bk) (lv:=(λsA=>[.list (sA.map df)])) (bV:=[.rp [.i .i64 y.Kind,.s y.Path]]) (λu sA=>Sm.at (xZ (bk u) (.rp [.i .i64 y.Kind,.s y.Path]) [.list (sA.map df)]) (Om u y sA)) st.2.1 st.1) λaY=> ?_)))))));refine ai (aQ (ay aj))
  ·exact aj
 ·refine bT rfl (ai (aQ (ai (aQ (ay aj)))))
theorem K9 (k:Nat)(x0:ah):Sm (λr=> .ef ((λ_=> .b8 []) r.1) [.list (r.2.r.Shelf.L.map aS),.i .i64 r.2.r.ca.iT,.list (r.2.r.ca.L.map aW),.list (r.2.r.bJ.L.map bk),.list (r.2.r.Seen.map aU),.i .i64 r.2.o.Client,.i .i64 r.2.o.Seq,.i .i64 r.2.o.Kind,.s r.2.o.Path,.s r.2.o.Value,.i .i64 r.2.o.Version,.i .i64 r.2.o.Session,.i .i64 r.2.o.Span,.i .i64 r.2.x.Client,.i .i64 r.2.x.Seq,.i .i64 r.2.x.E,.s r.2.x.Value,.i .i64 r.2.x.Version,.list (r.2.x.Names.map MV.s),.list (r.2.l.map fG)]) (Kr [105,106,107,108,109,110,111,112,113,114,115] k λk=>dg k [.cell (.func 0 [.list (x0.r.Shelf.L.map aS),.i .i64 x0.r.ca.iT,.list (x0.r.ca.L.map aW),.list (x0.r.bJ.L.map bk),.list (x0.r.Seen.map aU),.i .i64 x0.o.Client,.i .i64 x0.o.Seq,.i .i64 x0.o.Kind,.s x0.o.Path,.s x0.o.Value,.i .i64 x0.o.Version,.i .i64 x0.o.Session,.i .i64 x0.o.Span,.i .i64 x0.x.Client,.i .i64 x0.x.Seq,.i .i64 x0.x.E,.s x0.x.Value,.i .i64 x0.x.Version,.list (x0.x.Names.map MV.s),.list (x0.l.map fG)])]) (nu k x0):=by unfold nu;refine qu (λ_=>Sm.at (q0 _) (Cq x0))<|qu (λ_=>Sm.at (rz _) (DJ x0))<|qu (λ_=>Sm.at (uy _) (JE x0))<|qu (λ_=>Sm.at (uA _) (JF x0)) ?_;refine qu (λ_=>Sm.at (rB _) (DK x0))<|qu (λ_=>Sm.at (tW _) (Gx x0))<|qu (λ_=>Sm.at (ua _) (Gy x0))<|qu (λ_=>Sm.at (sf _) (EM x0)) ?_;refine qu (λ_=>Sm.at (si _) (EN x0))<|qu (λ_=>Sm.at (ub _) (Gz x0))<|adK (λ_=>Sm.at (sm _) (EO x0))
theorem Qx (a:al)(a1:aa):Sm (λr=> .b8 [dc r.1,aU r.2.1,.list (r.2.2.map df)]) (vg (dc a) (aB a1)) (qR a a1):=by
 unfold vg qR;refine aV (jx (aV (cb (ap (EK a a1) λrA=>cw (ai (aV (fb (ai (bh (ay (aL ?_ ?_)))))))))))
 ·exact aj
 ·refine ap (SA) λaY=>aQ<|bH (f:=(λx:Nat=>MV.func x [])) (rfl) λy=>rm (sY (ay (ap (K9 y (⟨a,a1,rA.1,([]:List aD)⟩:ah)) λda=>Mh (ax (ap (SB da.2.r.bJ da.2.l) λrO=> ?_)))));refine cw (ai (aV (ai (aQ (ay (ai (aQ (ay (ap (r8 (size:=6) (f:=aU) (λ_=>rfl) a.Seen) λFL=>mR (ap (wU a a1.Client) λxH=>cw (DA (ap (f:=(λr=>(0,(v1 r)))) ?_ λw=> ?_))))))))))))
  ·refine aL ?_ ?_
   ·refine bH (f:=aU) (rfl) λy1=>aV (fb (fV (by simp [jq,bU,fL,au,v1])))
   ·refine ap (Il (f:=aU) FL xH.1 ([da.2.x]:List ae)) λGj=>mR aj
  ·refine bT rfl (ax (N6 (GV rfl rfl) aj))
theorem Wy:Sm cc (A4) (Ez):=by unfold A4 Ez;exact aj
theorem Wz:Sm dB (A5) (EA):=by unfold A5 EA;exact aj
theorem Mz:Sm dc (wR) (wF):=by unfold wR wF;refine ap (Wy) λrA=>aV (ai (aQ (ay (ap (Wz) λaY=>aV (DC aj)))))
theorem zk (s1:List af)(s2:List af):Sm MV.b (iH (.list (s1.map aS)) (.list (s2.map aS))) (iC s1 s2):=by
 unfold iH iC;refine aQ (aQ (aK (aK (aL ?_ ?_))))
 ·exact aj
 ·refine aK<|ap (cD (λr=>[.i .i64 r]) (BY (λr=>(2,[])) (λr=>(1,[.b r]))) (rfl) λst=> ?_) λw=> ?_
  ·unfold fW;refine ai (aG (ay (aR ?_ ?_)))
   ·refine bH (f:=aS) (rfl) λy=>aV (ml (bH (f:=aS) (rfl) λy1=>aV (ml (aL ?_ ?_))))
    ·exact aj
    ·exact aj
   ·exact aj
  ·rcases w with p1|p2
   ·refine jW rfl (ay aj)
   ·refine jX rfl (bT rfl (ai (bh (ay aj))))
theorem SC (a:aC)(b:aC):Sm MV.b (yb (cc a) (cc b)) (tj a b):=by unfold yb tj;refine aV (ai (aQ (ay (aV (ai (aQ (ay (ap (zk a.L b.L) λrA=>bh aj))))))))
theorem vV (s1:List aw)(s2:List aw):Sm MV.b (fw (.list (s1.map aW)) (.list (s2.map aW))) (dW s1 s2):=by
 unfold fw dW;refine aQ (aQ (aK (aK (aL ?_ ?_))))
 ·exact aj
 ·refine aK<|ap (cD (λr=>[.i .i64 r]) (BY (λr=>(2,[])) (λr=>(1,[.b r]))) (rfl) λst=> ?_) λw=> ?_
  ·unfold dz;refine ai (aG (ay (aR ?_ ?_)))
   ·refine bH (f:=aW) (rfl) λy=>aV (DB (bH (f:=aW) (rfl) λy1=>aV (DB (aL ?_ ?_))))
    ·exact aj
    ·exact aj
   ·exact aj
  ·rcases w with p1|p2
   ·refine jW rfl (ay aj)
   ·refine jX rfl (bT rfl (ai (bh (ay aj))))
theorem SD (a:aF)(b:aF):Sm MV.b (yc (dB a) (dB b)) (tk a b):=by
 unfold yc tk;refine aV (DC (aV (DC ?_)));refine ap (f:=λr=>[.b r]) ?_ λw=> ?_
 ·refine aR ?_ ?_
  ·refine ap (vV a.L b.L) λrA=>bh aj
  ·exact aj
 ·refine ai (bh (ay aj))
theorem yo (s1:List ar)(s2:List ar):Sm MV.b (gK (.list (s1.map bk)) (.list (s2.map bk))) (eO s1 s2):=by
 unfold gK eO;refine aQ (aQ (aK (aK (aL ?_ ?_))))
 ·exact aj
 ·refine aK<|ap (cD (λr=>[.i .i64 r]) (BY (λr=>(2,[])) (λr=>(1,[.b r]))) (rfl) λst=> ?_) λw=> ?_
  ·unfold dX;refine ai (aG (ay (aR ?_ ?_)))
   ·refine bH (f:=bk) (rfl) λy=>aV (FY (bH (f:=bk) (rfl) λy1=>aV (FY (aL ?_ ?_))))
    ·exact aj
    ·exact aj
   ·exact aj
  ·rcases w with p1|p2
   ·refine jW rfl (ay aj)
   ·refine jX rfl (bT rfl (ai (bh (ay aj))))
theorem SE (a:bI)(b:bI):Sm MV.b (yd (lf a) (lf b)) (tl a b):=by unfold yd tl;refine aV (ai (aQ (ay (aV (ai (aQ (ay (ap (yo a.L b.L) λrA=>bh aj))))))))
theorem SF (a:ae)(b:ae):Sm MV.b (ye (aU a) (aU b)) (mb a b):=by
 unfold ye mb;refine aV (fb (aV (fb ?_)));refine ap (f:=λr=>[.b r]) ?_ λw=> ?_
 ·refine aR ?_ ?_
  ·refine aR ?_ ?_
   ·refine aR ?_ ?_
    ·refine aR ?_ ?_
     ·refine aR ?_ ?_
      ·refine ap (uh a.Names b.Names) λrA=>bh aj
      ·exact aj
     ·exact aj
    ·exact aj
   ·exact aj
  ·exact aj
 ·refine ai (bh (ay aj))
theorem jz (s1:List ae)(s2:List ae)(eq:ae->ae->Option Bool){Kp:Nat}{yW:List MV}(ap2:gv Kp=false)(iv: ∀(u0:ae)(u1:ae),Sm MV.b (cv Kp ([aU u0,aU u1]++yW)) (eq u0 u1)):Sm MV.b (bQ (.list (s1.map aU)) (.list (s2.map aU)) (.func Kp yW)) (bA s1 s2 eq):=by
 unfold bQ bA;refine aQ (aQ (rm (aK (aK (aL ?_ ?_)))))
 ·exact aj
 ·refine aK<|ap (cD (λr=>[.i .i64 r]) (BY (λr=>(2,[])) (λr=>(1,[.b r]))) (rfl) λst=> ?_) λw=> ?_
  ·unfold bw;refine ai (aG (ay (aR ?_ ?_)))
   ·refine bH (f:=aU) (rfl) λy=>aV (fb (bH (f:=aU) (rfl) λy1=> ?_));refine aV (fb (sY (bT (by rw [ap2];rfl) ?_)));refine ap (iv y y1) λrA=>bh<|aL ?_ ?_
    ·exact aj
    ·exact aj
   ·exact aj
  ·rcases w with p1|p2
   ·refine jW rfl (ay aj)
   ·refine jX rfl (bT rfl (ai (bh (ay aj))))
theorem SH (a:al)(b:al):Sm MV.b (yf (dc a) (dc b)) (tp a b):=by
 unfold yf tp;refine aV (jx (aV (jx ?_)));refine ap (f:=λr=>[.b r]) ?_ λw=> ?_
 ·refine ap (SC a.Shelf b.Shelf) λrA=>bh<|aL ?_ ?_
  ·refine ap (SD a.ca b.ca) λaY=>bh<|aL ?_ ?_
   ·refine ap (SE a.bJ b.bJ) λda=>bh<|aL ?_ ?_
    ·refine ap (jz a.Seen b.Seen mb (Kp:=80) (yW:=[]) rfl (λu2 u3=>Sm.at (fA _ _) (SF u2 u3))) λrO=>bh aj
    ·exact aj
   ·exact aj
  ·exact aj
 ·refine ai (bh (ay aj))
theorem JI (rA:al)(lA:List aa):Sm (λr=> .b8 [dc r.1,.list (r.2.1.map aU),.list (r.2.2.map df)]) (ud (dc rA) (.list (lA.map aB))) (qd rA lA):=by
 unfold ud qd;refine aV (jx (aQ (aK (ap (cD (λr=>[.list (r.1.map aS),.i .i64 r.2.1,.list (r.2.2.1.map aW),.list (r.2.2.2.1.map bk),.list (r.2.2.2.2.1.map aU),.list (r.2.2.2.2.2.1.map aU),.list (r.2.2.2.2.2.2.1.map df),.i .i64 r.2.2.2.2.2.2.2]) (λr=>(2,[.list (r.1.map aS),.i .i64 r.2.1,.list (r.2.2.1.map aW),.list (r.2.2.2.1.map bk),.list (r.2.2.2.2.1.map aU),.list (r.2.2.2.2.2.1.map aU),.list (r.2.2.2.2.2.2.map df)])) (rfl) λst=> ?_) λw=> ?_))))
 ·unfold pc;refine ai (aQ (ai (aG (ai (aQ (ai (aQ (ai (aQ (ai (aQ (sn (aR ?_ ?_)))))))))))))
  ·refine bH (f:=aB) (rfl) λy=>aV (cb (ap (Qx (⟨(⟨st.1⟩:aC),(⟨st.2.1,st.2.2.1⟩:aF),(⟨st.2.2.2.1⟩:bI),st.2.2.2.2.1⟩:al) y) λGj=>cw (ai (aV (jx (ai (aV (fb (ai (aQ (ay (aK (mO (([Gj.2.1]:List ae).length) ?_)))))))))))));refine ck (bT (xG (rfl:_=abR df Gj.2.2) λ_=>rfl) (aK (aK (ck (fV (by simp [jq,bU,fL]))))))
  ·exact aj
 ·refine bT rfl (ai (aQ (ai (aG (ai (aQ (ai (aQ (ai (aQ (ai (aQ (ai (aQ (ay aj)))))))))))))))
theorem MA (lA:List aa):Sm MV.b (wS (.list (lA.map aB))) (sC lA):=by
 unfold wS sC;refine aQ<|ap (cD (λr=>[.i .i64 r]) (BY (λr=>(2,[])) (λr=>(1,[.b r]))) (rfl) λst=> ?_) λw=> ?_
 ·unfold Ac;refine ai (aG (ay (aK (aR ?_ ?_))))
  ·refine ap (f:=λr=>[.b r]) ?_ λw1=> ?_
   ·refine aR ?_ ?_
    ·exact aj
    ·refine bH (f:=aB) (rfl) λy=>aV (cb (aR ?_ ?_))
     ·exact aj
     ·refine bH (f:=aB) (rfl) λy1=>aV (cb aj)
   ·refine ai (bh (ay (aL ?_ ?_)))
    ·exact aj
    ·exact aj
  ·exact aj
 ·rcases w with p1|p2
  ·refine jW rfl (ay aj)
  ·refine jX rfl (bT rfl (ai (bh (ay aj))))
theorem SI (x:Int):Sm (MV.i .i64) (yg (.i .u64 x)) (xI x):=by
 unfold yg xI;refine aG<|ap (f:=(λr=>(0,[.i .u64 r.1,.i .i64 r.2]))) ?_ λw=> ?_
 ·refine aR ?_ ?_
  ·refine ck aj
  ·exact aj
 ·refine bT rfl (yl (ap (f:=(λr=>(0,[.i .u64 r.1,.i .i64 r.2]))) ?_ λw1=> ?_))
  ·refine aR ?_ ?_
   ·refine ck aj
   ·exact aj
  ·refine bT rfl (yl (ap (f:=(λr=>(0,[.i .u64 r.1,.i .i64 r.2]))) ?_ λw2=> ?_))
   ·refine aR ?_ ?_
    ·refine ck aj
    ·exact aj
   ·refine bT rfl (yl (ck aj))
theorem SJ (n:Int):Sm (MV.i .i64) (yh (.i .u64 n)) (tq n):=by unfold yh tq;refine aG<|ap (SI n) λrA=>aG (adJ aj)
theorem GA (sA:List Int):Sm (akQ (MV.i .u8)) (nQ (.list (sA.map (MV.i .u8)))) (nI sA):=by unfold nQ nI;refine aQ (aK (aK (adR (by simp only [sh]) aj)))
theorem EP (b:List Int)(n:Int):Sm (KO (MV.i .u8)) (sF (.list (b.map (MV.i .u8))) (.i .u64 n)) (qe b n):=by
 unfold sF qe;refine aQ (aG (ap (SJ n) λrA=>aG (ap (GA b) λaY=> ?_)));refine ahq (bT (xG (rfl:_=abR (MV.i .u8) aY) λ_=>rfl) (aK (mO (([AI .u8 (AI .i64 (rA-1))]:List Int).length) (ck (ap (cD (λr=>[.list (r.1.map (MV.i .u8)),.i .i64 r.2]) (λr=>(2,[.list (r.map (MV.i .u8))])) (by simp) λst=> ?_) λw=> ?_)))))
 ·unfold qS;refine sn<|aR ?_ ?_
  ·refine ck (aK (mO (([AI .u8 (Int.fdiv n (2^min (bN (AI .i64 (8 *st.2))) (abT .u64)))]:List Int).length) (ck (fV (by simp)))))
  ·exact aj
 ·refine bT rfl (ai (aQ (ay aj)))
theorem JJ (b:List Int)(sA:List UInt8):Sm (KO (MV.i .u8)) (ue (.list (b.map (MV.i .u8))) (.s sA)) (qf b sA):=by unfold ue qf;refine aQ (bM (ap (EP b (AI .u64 (sA.length:Int))) λrA=>mR (aK (vG (n:=(wC sA).length) (by simp only [rY,sh,AT,By,IN,No,OF,abK]) (ck ?_)))));exact fV (by simp)
theorem WA (b:List Int)(n:Int):Sm (KO (MV.i .u8)) (A6 (.list (b.map (MV.i .u8))) (.i .i64 n)) (wG b n):=by unfold A6 wG;refine aQ (aG (ck (ck (ap (EP b (D8 .u64 (AI .u64 ((AI .u64 n) *2^min (bN 1) (abT .u64))) (AI .u64 (Int.fdiv n (2^min (bN 63) (abT .i64)))))) λrA=>mR aj))))
theorem SK (b:List Int)(lA:List Int):Sm (V4 (MV.i .u8)) (yi (.list (b.map (MV.i .u8))) (.list (lA.map (MV.i .i64)))) (tt b lA):=by
 unfold yi tt;refine aQ (aQ (aK (ap (cD (λr=>[.list (r.1.map (MV.i .u8)),.i .i64 r.2]) (λr=>(2,[.list (r.map (MV.i .u8))])) (rfl) λst=> ?_) λw=> ?_)))
 ·unfold r9;refine sn<|aR ?_ ?_
  ·refine bH (f:=(MV.i .i64)) (rfl) λy=>aG<|ap (WA st.1 y) λrA=>mR aj
  ·exact aj
 ·refine bT rfl (ai (aQ (ay aj)))
theorem WB (b:List Int)(o:aa):Sm (KO (MV.i .u8)) (A7 (.list (b.map (MV.i .u8))) (aB o)) (wH b o):=by unfold A7 wH;refine aQ (aV (cb (ap (SK b ([o.Client,o.Seq,o.Kind,o.Version,o.Session,o.Span]:List Int)) λrA=>aQ (ap (JJ rA o.Path) λaY=>mR (ap (JJ aY o.Value) λda=>mR aj)))))
theorem DL (lA:List aa):Sm (λr=> .b8 [.s r.1,.i .i64 r.2]) (pA (.list (lA.map aB))) (mG lA):=by
 unfold pA mG;refine aQ (aK (aR ?_ ?_))
 ·exact aj
 ·refine aK<|ap (EP ([]:List Int) (AI .u64 (lA.length:Int))) λrA=>mR (aK (ap (cD (λr=>[.list (r.1.map (MV.i .u8)),.i .i64 r.2]) (BY (λr=>(2,[.list (r.map (MV.i .u8))])) (λr=>(1,[.s r.1,.i .i64 r.2]))) (rfl) λst=> ?_) λw=> ?_))
  ·unfold j8;refine sn<|aR ?_ ?_
   ·refine bH (f:=aB) (rfl) λy=>aV (cb (ap (sG y) λaY=>bh (aL ?_ ?_)))
    ·exact aj
    ·refine ap (WB st.1 y) λda=>mR aj
   ·exact aj
  ·rcases w with p1|p2
   ·refine jW rfl (ai (aQ (ay (aaf (M:=p1) (rfl) λbs=>aj))))
   ·refine jX rfl (bT rfl (ai (bM (ai (aG (ay aj))))))
theorem Cs (b:List Int):Sm (λr=> .b8 [.i .u64 r.1,.list (r.2.1.map (MV.i .u8)),.i .i64 r.2.2]) (qh (.list (b.map (MV.i .u8)))) (n6 b):=by
 unfold qh n6;refine aQ (aK (aR ?_ ?_))
 ·exact aj
 ·refine bH (f:=(MV.i .u8)) (rfl) λy=> ?_;refine aG (bT (xG (rfl:_=abR (MV.i .u8) b) λ_=>rfl) (aK (ck ?_)));refine ap (f:=λr=>[.b r]) ?_ λw=> ?_
  ·refine aR ?_ ?_
   ·exact aj
   ·refine aR ?_ ?_
    ·refine vG (n:=(abO (bN 1) (abP (bN (b.length:Int)) b)).length) (by simp only [sh,AT,By,IN,No,OF,abK])<|aR ?_ ?_
     ·refine bH (f:=(MV.i .u8)) (by simp only [rY,IT,AS,aaG,abM,aaW,aa6,abN]) λy1=>aG aj
     ·exact aj
    ·exact aj
  ·refine ai (bh (ay (aL ?_ ?_)))
   ·exact aj
   ·refine vG (n:=(abO (bN 1) (abP (bN (b.length:Int)) b)).length) (by simp only [sh,AT,By,IN,No,OF,abK])<|aR ?_ ?_
    ·exact aj
    ·refine vG (n:=(abO (bN 1) (abP (bN (b.length:Int)) b)).length) (by simp only [sh,AT,By,IN,No,OF,abK]) (ck (vG (n:=(abO (bN 0) (abP (bN (AI .i64 y)) (abO (bN 1) (abP (bN (b.length:Int)) b)))).length) (by simp only [sh,AT,By,IN,No,OF,abK]) ?_));refine ap (cD (λr=>[.i .u64 r.1,.i .i64 r.2]) (λr=>(3,[.i .u64 r])) (rfl) λst=> ?_) λw1=> ?_
     ·unfold pe;refine yl<|aR ?_ ?_
      ·refine bH (f:=(MV.i .u8)) (by simp only [rY,IT,AS,aaG,abM,aaW,aa6,abN]) λy2=>aG (ck aj)
      ·exact aj
     ·refine bT rfl (ai (aG (ay (bT (xG ((by simp only [rY,IT,AS,aaG,abM,aaW,aa6,abN]):_=abR (MV.i .u8) (abO (bN 1) (abP (bN (b.length:Int)) b))) λ_=>rfl) (vG (n:=(abO (bN 1) (abP (bN (b.length:Int)) b)).length) (by simp only [sh,AT,By,IN,No,OF,abK]) (ck ?_))))));exact fV (by first|(simp;done)|simp only [AS,aaG,abM,aaW,aa6,abN])
theorem La (b:List Int):Sm (λr=> .b8 [.i .i64 r.1,.list (r.2.1.map (MV.i .u8)),.i .i64 r.2.2]) (qE (.list (b.map (MV.i .u8)))) (lg b):=by unfold qE lg;refine aQ<|ap (Cs b) λrA=>cw (ai (aG (sn (ck aj))))
theorem JK (b:List Int)(most:Int):Sm (λr=> .b8 [.s r.1,.list (r.2.1.map (MV.i .u8)),.i .i64 r.2.2]) (pB (.list (b.map (MV.i .u8))) (.i .i64 most)) (j9 b most):=by
 unfold pB j9;refine aQ (aG (ap (Cs b) λrA=>cw (ai (aG (sn (aL ?_ ?_))))))
 ·exact aj
 ·refine aR ?_ ?_
  ·exact aj
  ·refine aK<|aR ?_ ?_
   ·exact aj
   ·refine aK (ck (aaf (M:=abO (bN 0) (abP (bN rA.1) rA.2.1)) ((by simp only [rY,IT,AS,aaG,abM,aaW,aa6,abN])) λbs=> ?_));refine bT (xG (rfl:_=abR (MV.i .u8) rA.2.1) λ_=>rfl) (aK (ck (fV (by first|(simp;done)|simp only [AS,aaG,abM,aaW,aa6,abN]))))
theorem MB {j:Nat}{b:List Int}{e x:Int}{os:List MV}(h:os[j]? =some (.i .i64 x)):tkI cn yK j ⟨b.map (MV.i .u8),e,os⟩=(pf b e x).map λr=>⟨r.2.1.map (MV.i .u8),r.2.2,os.set j (.i .i64 r.1)⟩:=by
 unfold tkI pf;by_cases he:e=0
 ·rw [if_pos he,if_pos he];show (match cn yK.ti [.list (b.map (MV.i .u8))] with|some (.b8 [.i .i64 n,.list xs,.i .i64 e])=>_|_=>none)=_;rw [show cn yK.ti [.list (b.map (MV.i .u8))]=qE (.list (b.map (MV.i .u8))) from by kernel_rfl];have h:=La b;unfold Sm at h;rw [h];cases lg b<;>rfl
 ·rw [if_neg he,if_neg he];obtain ⟨hl,hx⟩:=abQ.1 h;have hs:os.set j (.i .i64 x)=os:=by rw [<-hx,abS]
  show _=some (⟨b.map (MV.i .u8),e,os.set j (.i .i64 x)⟩:P9);rw [hs]
theorem afS {j:Nat}{b:List Int}{e most:Int}{os:List MV}(h:os[j]? =some (.s [])):Qa cn yK j most ⟨b.map (MV.i .u8),e,os⟩=(tu b e most).map λr=>⟨r.2.1.map (MV.i .u8),r.2.2,os.set j (.s r.1)⟩:=by
 unfold Qa tu;by_cases he:e=0
 ·rw [if_pos he,if_pos he];show (match cn yK.tx [.list (b.map (MV.i .u8)),.i .i64 most] with|some (.b8 [.s l,.list xs,.i .i64 e])=>_|_=>none)=_;rw [show cn yK.tx [.list (b.map (MV.i .u8)),.i .i64 most]=pB (.list (b.map (MV.i .u8))) (.i .i64 most) from by kernel_rfl];have h:=JK b most;unfold Sm at h;rw [h];cases j9 b most<;>rfl
 ·rw [if_neg he,if_neg he];obtain ⟨hl,hx⟩:=abQ.1 h;have hs:os.set j (.s [])=os:=by rw [<-hx,abS]
  show _=some (⟨b.map (MV.i .u8),e,os.set j (.s [])⟩:P9);rw [hs]
theorem SL (b:List Int):Sm (λr=> .b8 [aB r.1,.list (r.2.1.map (MV.i .u8)),.i .i64 r.2.2]) (Cn (.list (b.map (MV.i .u8)))) (tw b):=by
 show Qb cn yK (b.map (MV.i .u8))=_;unfold Qb tw;simp only [Ew];rw [MB (j:=0) (x:=0) rfl];cases pf b 0 0 with|none=>rfl|some r0=> ?_;simp only [abL,az];rw [MB (j:=1) (x:=0) rfl];cases pf r0.2.1 r0.2.2 0 with|none=>rfl|some r1=> ?_;simp only [abL,az];rw [MB (j:=2) (x:=0) rfl];cases pf r1.2.1 r1.2.2 0 with|none=>rfl|some r2=> ?_;simp only [abL,az];rw [MB (j:=5) (x:=0) rfl];cases pf r2.2.1 r2.2.2 0 with|none=>rfl|some r3=> ?_;simp only [abL,az];rw [MB (j:=6) (x:=0) rfl];cases pf r3.2.1 r3.2.2 0 with|none=>rfl|some r4=> ?_;simp only [abL,az];rw [MB (j:=7) (x:=0) rfl];cases pf r4.2.1 r4.2.2 0 with|none=>rfl|some r5=> ?_;simp only [abL,az];rw [afS (j:=3) rfl];cases tu r5.2.1 r5.2.2 100 with|none=>rfl|some s0=> ?_;simp only [abL,az];rw [afS (j:=4) rfl];cases tu s0.2.1 s0.2.2 1000 with|none=>rfl|some s1=> ?_;simp only [abL,az];by_cases he:s1.2.2=0;rotate_left
 ·rw [if_neg he,if_neg he];rfl
 rw [if_pos he,if_pos he];have h:=sG (⟨r0.1,r1.1,r2.1,s0.1,s1.1,r3.1,r4.1,r5.1⟩:aa);unfold Sm at h;show (match cn yK.may [aB (⟨r0.1,r1.1,r2.1,s0.1,s1.1,r3.1,r4.1,r5.1⟩:aa)] with|some (.b true)=>_|some (.b false)=>_|_=>none)=_;rw [show cn yK.may [aB (⟨r0.1,r1.1,r2.1,s0.1,s1.1,r3.1,r4.1,r5.1⟩:aa)]=mH (aB (⟨r0.1,r1.1,r2.1,s0.1,s1.1,r3.1,r4.1,r5.1⟩:aa)) from by kernel_rfl,h];cases dC (⟨r0.1,r1.1,r2.1,s0.1,s1.1,r3.1,r4.1,r5.1⟩:aa) with
 |none=>rfl
 |some m=>cases m<;>rfl
theorem DM (sA:List UInt8):Sm (λr=> .b8 [.list (r.1.map aB),.i .i64 r.2]) (pC (.s sA)) (kE sA):=by
 unfold pC kE;refine bM ?_;refine ap (by rw [rY];exact Cs (wC sA)) λrA=> ?_;refine cw (ai (aG (sn ?_)));refine ap (f:=λr=>[.b r]) ?_ λw=> ?_
 ·refine aL ?_ ?_
  ·exact aj
  ·exact aj
 ·refine ai (bh (ay (aL ?_ ?_)))
  ·exact aj
  ·refine ck (vG (n:=(List.replicate (bN rA.1) (⟨0,0,0,([]:List UInt8),([]:List UInt8),0,0,0⟩:aa)).length) (by simp only [List.length_replicate,sh,AT,By,IN,No,OF,abK]) ?_);refine ap (cD (λr=>[.list (r.1.map (MV.i .u8)),.list (r.2.1.map aB),.i .i64 r.2.2]) (BY (λr=>(2,[.list (r.1.map (MV.i .u8)),.list (r.2.map aB)])) (λr=>(1,[.list (r.1.map aB),.i .i64 r.2]))) (by simp [bU]) λst=> ?_) λw1=> ?_
   ·unfold ka;refine ai (aQ (sn (aR ?_ ?_)))
    ·refine ap (SL st.1) λaY=>cw (ai (aV (cb (sn (bH (f:=aB) (rfl) λy=>aV (cb (aL ?_ ?_)))))))
     ·exact aj
     ·exact fV (by simp [bU])
    ·exact aj
   ·rcases w1 with p1|p2
    ·refine jW rfl (ai (aQ (ai (aQ (ay (aK (aR ?_ ?_)))))))
     ·exact aj
     ·exact aj
    ·refine jX rfl (bT rfl (sn aj))
theorem Aw (rA:al)(sA:List UInt8):Sm (λr=> .b8 [dc r.1,.list (r.2.1.map aU),.i .i64 r.2.2]) (oJ (dc rA) (.s sA)) (kn rA sA):=by
 unfold oJ kn;refine aV (jx (bM (ap (DM sA) λaY=>cw (sn (aL ?_ ?_)))))
 ·exact aj
 ·refine ap (JI rA aY.1) λda=>cw (ai (aV (jx (ai (aQ (ai (aQ (ay aj))))))))
theorem MC:Sm MV.b (wT) (sD):=by
 unfold wT sD;refine ap (DL ([(⟨1,1,1,([47,97]:List UInt8),([]:List UInt8),0,0,0⟩:aa)]:List aa)) λrA=>cw (ai (bM (ai (aG (ay (ap (Mz) λaY=>aV (jx (ap (Aw aY rA.1) λda=> ?_))))))));refine cw (ai (aV (jx (sn (ap (DM ([]:List UInt8)) λrO=>cw (sn ?_))))));refine ap (f:=λr=>[.b r]) ?_ λw=> ?_
 ·refine aR ?_ ?_
  ·refine aR ?_ ?_
   ·refine aK<|aR ?_ ?_
    ·refine aK<|aR ?_ ?_
     ·exact aj
     ·exact aj
    ·exact aj
   ·exact aj
  ·exact aj
 ·refine ai (bh (ay aj))
theorem GB (x:aa)(c:aa):Sm MV.b (nR (aB x) (.rp [.i .i64 c.Client,.i .i64 c.Seq,.i .i64 c.Kind,.s c.Path,.s c.Value,.i .i64 c.Version,.i .i64 c.Session,.i .i64 c.Span])) (iX x c):=by unfold nR iX;refine aV (cb (Ik (cb aj)))
theorem ui (sA:List aa)(f:aa->Option Bool){v8:Nat}{pi:List MV}(Gf:gv v8=false)(gp: ∀(u0:aa),Sm MV.b (ec v8 ([aB u0]++pi)) (f u0)):Sm (MV.i .i64) (eQ (.list (sA.map aB)) (.func v8 pi)) (eP sA f):=by
 unfold eQ eP;refine aQ (rm (aK (ap (cD (λr=>[.i .i64 r]) (BY (λr=>(2,[])) (λr=>(1,[.i .i64 r]))) (rfl) λst=> ?_) λw=> ?_)))
 ·unfold gl;refine ai (aG (ay (aR ?_ ?_)))
  ·refine bH (f:=aB) (rfl) λy=> ?_;refine aV (cb (sY (bT (by rw [Gf];rfl) ?_)));refine ap (gp y) λrA=>bh<|aL ?_ ?_
   ·exact aj
   ·exact aj
  ·exact aj
 ·rcases w with p1|p2
  ·refine jW rfl (ay aj)
  ·refine jX rfl (bT rfl (ai (aG (ay aj))))
theorem q9 (sA:List aa)(f:aa->Option Bool){v8:Nat}{pi:List MV}(Gf:gv v8=false)(gp: ∀(u0:aa),Sm MV.b (ec v8 ([aB u0]++pi)) (f u0)):Sm MV.b (dP (.list (sA.map aB)) (.func v8 pi)) (cZ sA f):=by unfold dP cZ;refine aQ (rm (ap (ui sA f Gf gp) λrA=>aG aj))
theorem BO (rA:al)(lA:List aa):Sm (V4 aB) (nD (dc rA) (.list (lA.map aB))) (lh rA lA):=by
 unfold nD lh;refine aV (jx (aQ (aK (ap (cD (λr=>[.list (r.1.map aB),.i .i64 r.2]) (λr=>(2,[.list (r.map aB)])) (rfl) λst=> ?_) λw=> ?_))))
 ·unfold rn;refine sn<|aR ?_ ?_
  ·refine bH (f:=aB) (rfl) λy=>aV (cb (ap (Cp rA y.Client) λaY=>cw (ai (aV (fb (ai (bh (ay (ap (q9 st.1 (λu=>iX u y) (v8:=91) (pi:=[.rp [.i .i64 y.Client,.i .i64 y.Seq,.i .i64 y.Kind,.s y.Path,.s y.Value,.i .i64 y.Version,.i .i64 y.Session,.i .i64 y.Span]]) rfl (λu1=>Sm.at (kX _ _) (GB u1 y))) λda=> ?_)))))))));refine bh ?_;refine ap (f:=λr=>[.b r]) ?_ λw1=> ?_
   ·refine aL ?_ ?_
    ·refine ap (sG y) λrO=>bh<|aL ?_ ?_
     ·refine aL ?_ ?_
      ·refine aK aj
      ·refine aR ?_ ?_
       ·refine aK aj
       ·exact aj
     ·exact aj
    ·exact aj
   ·refine ai (bh (ay (ap (f:=(λr=>(0,[.list (r.map aB)]))) ?_ λw2=> ?_)))
    ·refine aL ?_ ?_
     ·refine aK (mO (([y]:List aa).length) (ck (fV (by simp [bU,fL]))))
     ·exact aj
    ·refine bT rfl (ai (aQ (ay aj)))
  ·exact aj
 ·refine bT rfl (ai (aQ (ay aj)))
theorem Lb (a:List aa)(a1:List aa):Sm MV.b (vT (.list (a.map aB)) (.list (a1.map aB))) (qv a a1):=by
 unfold vT qv;refine aQ (aQ ?_);refine ap (f:=λr=>[.b r]) ?_ λw=> ?_
 ·refine ap (MA a) λrA=>bh<|aL ?_ ?_
  ·exact aj
  ·refine ap (MA a1) λaY=>bh aj
 ·refine ai (bh (ay (aL ?_ ?_)))
  ·refine ap (MC) λda=>bh aj
  ·refine ap (Mz) λrO=>aV (jx (ap (JI rO a) λFL=>cw (ai (aV (jx (ai (aQ (ai (aQ (ay (ap (BO FL.1 a1) λxH=>aQ ?_)))))))))));refine ap (f:=λr=>[.b r]) ?_ λw1=> ?_
   ·refine aK<|aR ?_ ?_
    ·exact aj
    ·refine aK (aK aj)
   ·refine ai (bh (ay (aL ?_ ?_)))
    ·exact aj
    ·refine ap (cD (λr=>[.i .i64 r]) (BY (λr=>(2,[])) (λr=>(1,[.b r]))) (rfl) λst=> ?_) λw2=> ?_
     ·unfold nJ;refine ai (aG (ay (aK (aR ?_ ?_))))
      ·refine ap (cD (λr=>[.i .i64 r]) (BY (λr=>(4,[])) (λr=>(1,[.b r]))) (rfl) λeJ=> ?_) λw3=> ?_
       ·unfold rq;refine ai (aG (ay (aR ?_ ?_)))
        ·refine bH (f:=aB) (rfl) λy=>aV (cb (bH (f:=aB) (rfl) λy1=>aV (cb (aR ?_ ?_))))
         ·exact aj
         ·exact aj
        ·exact aj
       ·rcases w3 with p2|p3
        ·refine jW rfl (ay (bH (f:=aB) (rfl) λy2=>aV (cb (ap (Cp FL.1 y2.Client) λGj=>cw (ai (aV (fb (ai (bh (ay ?_))))))))));refine ap (f:=λr=>[.b r]) ?_ λw4=> ?_
         ·refine aL ?_ ?_
          ·refine bH (f:=aB) (rfl) λy3=>aV (cb (aR ?_ ?_))
           ·exact aj
           ·refine bH (f:=aB) (rfl) λy4=>aV (cb (ap (sG y4) λrA7=>bh aj))
          ·refine bH (f:=aB) (rfl) λy5=>aV (cb (ap (sG y5) λrA8=>bh aj))
         ·refine ai (bh (ay (aL ?_ ?_)))
          ·exact aj
          ·exact aj
        ·refine jX rfl (bT rfl (ai (bh (ay aj))))
      ·exact aj
     ·rcases w2 with p4|p5
      ·refine jW rfl (ay (ap (DL xH) λrA9=>cw (ai (bM (ai (aG (ay (ap (Aw FL.1 rA9.1) λxJ=>cw (ai (aV (jx (sn (ap (Aw xJ.1 rA9.1) λQh=>cw (ai (aV (jx (sn ?_)))))))))))))))));refine ap (f:=λr=>[.b r]) ?_ λw5=> ?_
       ·refine aL ?_ ?_
        ·exact aj
        ·refine aL ?_ ?_
         ·exact aj
         ·refine aL ?_ ?_
          ·exact aj
          ·refine aK (aK (aL ?_ ?_))
           ·exact aj
           ·refine ap (SH xJ.1 Qh.1) λadU=>bh aj
       ·refine ai (bh (ay (aL ?_ ?_)))
        ·exact aj
        ·refine ap (cD (λr=>[.i .i64 r]) (BY (λr=>(6,[])) (λr=>(1,[.b r]))) (rfl) λeg=> ?_) λw6=> ?_
         ·unfold nK;refine ai (aG (ay (aK (aR ?_ ?_))))
          ·refine ap (f:=λr=>[.b r]) ?_ λw7=> ?_
           ·refine bH (f:=aU) (rfl) λy6=>aV (fb (bH (f:=aB) (rfl) λy7=>aV (cb (aL ?_ ?_))))
            ·exact aj
            ·refine bH (f:=aU) (rfl) λy8=>aV (fb (bH (f:=aB) (rfl) λy9=>aV (cb aj)))
           ·refine ai (bh (ay (aL ?_ ?_)))
            ·exact aj
            ·exact aj
          ·exact aj
         ·rcases w6 with p7|p8
          ·refine jW rfl (ay ?_);refine ap (f:=λr=>[.b r]) ?_ λw8=> ?_
           ·refine ap (MC) λadV=>bh<|aL ?_ ?_
            ·refine aK<|aR ?_ ?_
             ·exact aj
             ·refine ap (BO xJ.1 xH) λadW=>aQ (aK aj)
            ·exact aj
           ·refine ai (bh (ay aj))
          ·refine jX rfl (bT rfl (ai (bh (ay aj))))
      ·refine jX rfl (bT rfl (ai (bh (ay aj))))
end Dn.S
