import Derived.Test.YtbkodohojpchjaaGreatDoorDnYD
/-
  Typed and plain functions agree. Conditions: none.
-/
open Go Dn
set_option linter.unusedVariables false
set_option linter.unusedSimpArgs false
set_option maxRecDepth 100000
namespace Dn.S
@[reducible] def v0 (r : Int × (List ae) × Int × (List ar) × (List ak) × (List ai) × Int × Int × Int × (List UInt8) × (List UInt8) × Int × Int × Int × Int × Int × Int × (List UInt8) × Int × (List (List UInt8)) × (List aA)) : List MV := [.i .i64 r.1, .list (r.2.1.map aP), .i .i64 r.2.2.1, .list (r.2.2.2.1.map aQ), .list (r.2.2.2.2.1.map aW), .list (r.2.2.2.2.2.1.map aY), .i .i64 r.2.2.2.2.2.2.1, .i .i64 r.2.2.2.2.2.2.2.1, .i .i64 r.2.2.2.2.2.2.2.2.1, .s r.2.2.2.2.2.2.2.2.2.1, .s r.2.2.2.2.2.2.2.2.2.2.1, .i .i64 r.2.2.2.2.2.2.2.2.2.2.2.1, .i .i64 r.2.2.2.2.2.2.2.2.2.2.2.2.1, .i .i64 r.2.2.2.2.2.2.2.2.2.2.2.2.2.1, .i .i64 r.2.2.2.2.2.2.2.2.2.2.2.2.2.2.1, .i .i64 r.2.2.2.2.2.2.2.2.2.2.2.2.2.2.2.1, .i .i64 r.2.2.2.2.2.2.2.2.2.2.2.2.2.2.2.2.1, .s r.2.2.2.2.2.2.2.2.2.2.2.2.2.2.2.2.2.1, .i .i64 r.2.2.2.2.2.2.2.2.2.2.2.2.2.2.2.2.2.2.1, .list (r.2.2.2.2.2.2.2.2.2.2.2.2.2.2.2.2.2.2.2.1.map MV.s), .list (r.2.2.2.2.2.2.2.2.2.2.2.2.2.2.2.2.2.2.2.2.map eG)]
@[reducible] def v1 (r : (List ae) × Int × (List ar) × (List ak) × (List ai) × Int × Int × Int × (List UInt8) × (List UInt8) × Int × Int × Int × Int × Int × Int × (List UInt8) × Int × (List (List UInt8)) × (List aA)) : List MV := [.list (r.1.map aP), .i .i64 r.2.1, .list (r.2.2.1.map aQ), .list (r.2.2.2.1.map aW), .list (r.2.2.2.2.1.map aY), .i .i64 r.2.2.2.2.2.1, .i .i64 r.2.2.2.2.2.2.1, .i .i64 r.2.2.2.2.2.2.2.1, .s r.2.2.2.2.2.2.2.2.1, .s r.2.2.2.2.2.2.2.2.2.1, .i .i64 r.2.2.2.2.2.2.2.2.2.2.1, .i .i64 r.2.2.2.2.2.2.2.2.2.2.2.1, .i .i64 r.2.2.2.2.2.2.2.2.2.2.2.2.1, .i .i64 r.2.2.2.2.2.2.2.2.2.2.2.2.2.1, .i .i64 r.2.2.2.2.2.2.2.2.2.2.2.2.2.2.1, .i .i64 r.2.2.2.2.2.2.2.2.2.2.2.2.2.2.2.1, .s r.2.2.2.2.2.2.2.2.2.2.2.2.2.2.2.2.1, .i .i64 r.2.2.2.2.2.2.2.2.2.2.2.2.2.2.2.2.2.1, .list (r.2.2.2.2.2.2.2.2.2.2.2.2.2.2.2.2.2.2.1.map MV.s), .list (r.2.2.2.2.2.2.2.2.2.2.2.2.2.2.2.2.2.2.2.map eG)]
@[reducible] def v2 (r : Int × Int × Int × (List UInt8) × Int × (List (List UInt8)) × Int × Int × Int × (List UInt8) × Int × (List (List UInt8))) : List MV := [.i .i64 r.1, .i .i64 r.2.1, .i .i64 r.2.2.1, .s r.2.2.2.1, .i .i64 r.2.2.2.2.1, .list (r.2.2.2.2.2.1.map MV.s), .i .i64 r.2.2.2.2.2.2.1, .i .i64 r.2.2.2.2.2.2.2.1, .i .i64 r.2.2.2.2.2.2.2.2.1, .s r.2.2.2.2.2.2.2.2.2.1, .i .i64 r.2.2.2.2.2.2.2.2.2.2.1, .list (r.2.2.2.2.2.2.2.2.2.2.2.map MV.s)]
@[reducible] def v3 (r : Int × Int × Int × (List UInt8) × Int × (List (List UInt8)) × Bool) : List MV := [.i .i64 r.1, .i .i64 r.2.1, .i .i64 r.2.2.1, .s r.2.2.2.1, .i .i64 r.2.2.2.2.1, .list (r.2.2.2.2.2.1.map MV.s), .b r.2.2.2.2.2.2]
theorem yZ {A B:Type} {g:B→A} {T:Option B} {k0:IntKind} {x0:Int} {x1:Bool} {K:Int→Bool→Option A} (h:Sm g (K x0 x1) T):Sm g (K9 k0 [.i k0 x0,.b x1] K) T:=ah (aG (ah (aZ (az h))))
theorem xX {A B:Type} {g:B→A} {T:Option B} {k0 k1:IntKind} {x0:Int} {x1:Int} {K:Int→Int→Option A} (h:Sm g (K x0 x1) T):Sm g (J1 k0 k1 [.i k0 x0,.i k1 x1] K) T:=ah (aG (ah (aG (az h))))
theorem y9 {A B:Type} {g:B→A} {T:Option B} {k0 k1 k2:IntKind} {x0:Int} {x1:Int} {x2:Int} {K:Int→Int→Int→Option A} (h:Sm g (K x0 x1 x2) T):Sm g (EI k0 k1 k2 [.i k0 x0,.i k1 x1,.i k2 x2] K) T:=ah (aG (ah (aG (ah (aG (az h))))))
theorem eO {A B:Type} {g:B→A} {T:Option B} {k0 k1 k2 k4:IntKind} {x0:Int} {x1:Int} {x2:Int} {x3:List UInt8} {x4:Int} {x5:List MV} {K:Int→Int→Int→List UInt8→Int→List MV→Option A} (h:Sm g (K x0 x1 x2 x3 x4 x5) T):Sm g (fL k0 k1 k2 k4 [.i k0 x0,.i k1 x1,.i k2 x2,.s x3,.i k4 x4,.list x5] K) T:=ah (aG (ah (aG (ah (aG (ah (bG (ah (aG (ah (a7 (az h))))))))))))
theorem iZ {A B:Type} {g:B→A} {T:Option B} {k0 k1 k2 k5 k6 k7:IntKind} {x0:Int} {x1:Int} {x2:Int} {x3:List UInt8} {x4:List UInt8} {x5:Int} {x6:Int} {x7:Int} {K:Int→Int→Int→List UInt8→List UInt8→Int→Int→Int→Option A} (h:Sm g (K x0 x1 x2 x3 x4 x5 x6 x7) T):Sm g (jv k0 k1 k2 k5 k6 k7 [.i k0 x0,.i k1 x1,.i k2 x2,.s x3,.s x4,.i k5 x5,.i k6 x6,.i k7 x7] K) T:=ah (aG (ah (aG (ah (aG (ah (bG (ah (bG (ah (aG (ah (aG (ah (aG (az h))))))))))))))))
theorem za {A B:Type} {g:B→A} {T:Option B} {k0:IntKind} {x0:Int} {x1:List MV} {K:Int→List MV→Option A} (h:Sm g (K x0 x1) T):Sm g (La k0 [.i k0 x0,.list x1] K) T:=ah (aG (ah (a7 (az h))))
theorem mU {A B:Type} {g:B→A} {T:Option B} {k1:IntKind} {x0:List MV} {x1:Int} {x2:List MV} {x3:List MV} {x4:List MV} {K:List MV→Int→List MV→List MV→List MV→Option A} (h:Sm g (K x0 x1 x2 x3 x4) T):Sm g (ox k1 [.list x0,.i k1 x1,.list x2,.list x3,.list x4] K) T:=ah (a7 (ah (aG (ah (a7 (ah (a7 (ah (a7 (az h))))))))))
theorem aw {A B:Type} {g:B→A} {T:Option B} {k1 k5 k6 k7 Y2 k11 k12 k13 k14 k15 k17:IntKind} {x0:List MV} {x1:Int} {x2:List MV} {x3:List MV} {x4:List MV} {x5:Int} {x6:Int} {x7:Int} {x8:List UInt8} {x9:List UInt8} {AX:Int} {Bo:Int} {C0:Int} {C1:Int} {BQ:Int} {Bp:Int} {C2:List UInt8} {C3:Int} {C4:List MV} {C5:List MV} {K:List MV→Int→List MV→List MV→List MV→Int→Int→Int→List UInt8→List UInt8→Int→Int→Int→Int→Int→Int→List UInt8→Int→List MV→List MV→Option A} (h:Sm g (K x0 x1 x2 x3 x4 x5 x6 x7 x8 x9 AX Bo C0 C1 BQ Bp C2 C3 C4 C5) T):Sm g (ax k1 k5 k6 k7 Y2 k11 k12 k13 k14 k15 k17 [.list x0,.i k1 x1,.list x2,.list x3,.list x4,.i k5 x5,.i k6 x6,.i k7 x7,.s x8,.s x9,.i Y2 AX,.i k11 Bo,.i k12 C0,.i k13 C1,.i k14 BQ,.i k15 Bp,.s C2,.i k17 C3,.list C4,.list C5] K) T:=ah (a7 (ah (aG (ah (a7 (ah (a7 (ah (a7 (ah (aG (ah (aG (ah (aG (ah (bG (ah (bG (ah (aG (ah (aG (ah (aG (ah (aG (ah (aG (ah (aG (ah (bG (ah (aG (ah (a7 (ah (a7 (az h))))))))))))))))))))))))))))))))))))))))
theorem zb {A B:Type} {g:B→A} {T:Option B} {k1:IntKind} {x0:List UInt8} {x1:Int} {x2:Bool} {K:List UInt8→Int→Bool→Option A} (h:Sm g (K x0 x1 x2) T):Sm g (EJ k1 [.s x0,.i k1 x1,.b x2] K) T:=ah (bG (ah (aG (ah (aZ (az h))))))
theorem wC {A B:Type} {g:B→A} {T:Option B} {k1 k3:IntKind} {x0:List UInt8} {x1:Int} {x2:Bool} {x3:Int} {x4:List UInt8} {K:List UInt8→Int→Bool→Int→List UInt8→Option A} (h:Sm g (K x0 x1 x2 x3 x4) T):Sm g (xM k1 k3 [.s x0,.i k1 x1,.b x2,.i k3 x3,.s x4] K) T:=ah (bG (ah (aG (ah (aZ (ah (aG (ah (bG (az h))))))))))
theorem km {A B:Type} {g:B→A} {T:Option B} {k2 k3:IntKind} {x0:List UInt8} {x1:List UInt8} {x2:Int} {x3:Int} {K:List UInt8→List UInt8→Int→Int→Option A} (h:Sm g (K x0 x1 x2 x3) T):Sm g (ni k2 k3 [.s x0,.s x1,.i k2 x2,.i k3 x3] K) T:=ah (bG (ah (bG (ah (aG (ah (aG (az h))))))))
theorem Ot (lA:List av):Sm MV.b (wm (.list (lA.map cy))) (sD lA):=by
 unfold wm sD
 refine a7 ?_
 refine ao (cQ (fun r=>[.i .i64 r]) (Sum.elim (fun r=>(2,[])) (fun r=>(1,[.b r]))) (rfl) fun st=> ?_) fun w=> ?_
 ·unfold q0
  refine ah (aG (az (ba (n:=lA.length) (by simp only [List.length_map,List.length_cons,List.length_nil]) ?_)))
  refine aU ?_ ?_
  ·refine ao (f:=fun r=>[.b r]) ?_ fun w1=> ?_
   ·refine aU ?_ ?_
    ·exact aa (rfl)
    ·refine bO (f:=cy) (rfl) fun y=> ?_
     refine aT (iZ ?_)
     refine aU ?_ ?_
     ·exact aa (rfl)
     ·refine bO (f:=cy) (rfl) fun y1=> ?_
      refine aT (iZ ?_)
      exact aa (rfl)
   ·refine ah (aZ (az ?_))
    refine aO ?_ ?_
    ·exact aa (rfl)
    ·exact aa (rfl)
  ·exact aa (rfl)
 ·rcases w with p1|p2
  ·refine lc rfl (az ?_)
   exact aa (rfl)
  ·refine lf rfl (cw rfl (ah (aZ (az ?_))))
   exact aa (rfl)
theorem BA (o:av):Sm cy (lH (cy o)) (ji o):=by
 unfold lH ji
 refine aT (iZ ?_)
 refine aU ?_ ?_
 ·exact aa (rfl)
 ·refine ao (f:=(fun r=>(0,[.b r]))) ?_ fun w=> ?_
  ·refine aU ?_ ?_
   ·exact aa (rfl)
   ·refine ao (f:=(fun r=>(0,[.b r]))) ?_ fun w1=> ?_
    ·refine aU ?_ ?_
     ·exact aa (rfl)
     ·refine ao (f:=(fun r=>(0,[.b r]))) ?_ fun w2=> ?_
      ·refine aU ?_ ?_
       ·exact aa (rfl)
       ·exact aa (rfl)
      ·refine cw rfl (ah (aZ (az ?_)))
       exact aa (rfl)
    ·refine cw rfl (ah (aZ (az ?_)))
     exact aa (rfl)
  ·refine cw rfl (ah (aZ (az ?_)))
   refine aO ?_ ?_
   ·exact aa (rfl)
   ·refine aU ?_ ?_
    ·exact aa (rfl)
    ·refine aU ?_ ?_
     ·exact aa (rfl)
     ·refine aU ?_ ?_
      ·exact aa (rfl)
      ·refine ao (f:=(fun r=>(0,[.b r]))) ?_ fun w3=> ?_
       ·refine aU ?_ ?_
        ·exact aa (rfl)
        ·exact aa (rfl)
       ·refine cw rfl (ah (aZ (az ?_)))
        refine aO ?_ ?_
        ·exact aa (rfl)
        ·refine aU ?_ ?_
         ·exact aa (rfl)
         ·exact aa (rfl)
theorem Ou (o:av):Sm MV.b (wo (cy o)) (ny o):=by
 unfold wo ny
 refine aT (iZ ?_)
 refine ao (f:=fun r=>[.b r]) ?_ fun w=> ?_
 ·refine aU ?_ ?_
  ·refine aU ?_ ?_
   ·refine aU ?_ ?_
    ·exact aa (rfl)
    ·exact aa (rfl)
   ·exact aa (rfl)
  ·exact aa (rfl)
 ·refine ah (aZ (az ?_))
  refine ao (f:=fun r=>[.b r]) ?_ fun w1=> ?_
  ·refine aO ?_ ?_
   ·refine aU ?_ ?_
    ·refine aU ?_ ?_
     ·refine aU ?_ ?_
      ·refine aU ?_ ?_
       ·refine ao (BA o) fun rA=> ?_
        refine aT (iZ ?_)
        exact aa (rfl)
       ·exact aa (rfl)
      ·exact aa (rfl)
     ·exact aa (rfl)
    ·exact aa (rfl)
   ·exact aa (rfl)
  ·refine ah (aZ (az ?_))
   exact aa (rfl)
theorem zd (x:Int):Sm MV.b (mK (.i .i64 x)) (mE x):=by
 unfold mK mE
 refine aG ?_
 exact aa (rfl)
theorem vO (x:Int) (y:Int):Sm (MV.i .i64) (ki (.i .i64 x) (.i .i64 y)) (ig x y):=by
 unfold ki ig
 refine aG (aG ?_)
 refine ao (zd x) fun rA=> ?_
 refine aZ ?_
 refine ao (zd y) fun aV=> ?_
 refine aZ ?_
 refine aO ?_ ?_
 ·refine aO ?_ ?_
  ·exact aa (rfl)
  ·exact aa (rfl)
 ·refine aO ?_ ?_
  ·exact aa (rfl)
  ·refine aU ?_ ?_
   ·exact aa (rfl)
   ·refine aU ?_ ?_
    ·exact aa (rfl)
    ·exact aa (rfl)
theorem xY (x:ai) (eh:Int):Sm (MV.i .i64) (iS (aY x) (.i .i64 eh)) (cz x eh):=by
 unfold iS cz
 refine aT (eO (aG ?_))
 refine ao (vO x.Client eh) fun rA=> ?_
 refine aG ?_
 exact aa (rfl)
theorem lh (x:List ai) (target:Int) (cmp:ai→Int→Option Int) {Hv:Nat} {nr:List MV} (A8:gv Hv=false) (ec: ∀(u0:ai) (u1:Int),Sm (MV.i .i64) (b9 Hv ([aY u0,.i .i64 u1]++nr)) (cmp u0 u1)):Sm (fun r=> .cC [.i .i64 r.1,.b r.2]) (cm (.list (x.map aY)) (.i .i64 target) (.func Hv nr)) (ck x target cmp):=by
 unfold cm ck
 refine a7 (aG (rK (ba (n:=x.length) (by simp only [List.length_map,List.length_cons,List.length_nil]) ?_)))
 refine ao (cQ (fun r=>[.i .i64 r.1,.i .i64 r.2]) (fun r=>(2,[.i .i64 r])) (rfl) fun st=> ?_) fun w=> ?_
 ·unfold eH
  refine xX ?_
  refine aU ?_ ?_
  ·refine eV ?_
   refine bO (f:=aY) (rfl) fun y=> ?_
   refine aT (eO (rJ (cw (by rw [A8];rfl) ?_)))
   refine ao (ec y target) fun rA=> ?_
   refine aG ?_
   refine ao (f:=(fun r=>(0,[.i .i64 r.1,.i .i64 r.2]))) ?_ fun w1=> ?_
   ·refine aU ?_ ?_
    ·exact aa (rfl)
    ·exact aa (rfl)
   ·refine cw rfl (xX ?_)
    exact aa (rfl)
  ·exact aa (rfl)
 ·refine cw rfl (ah (aG (az ?_)))
  refine ao (f:=fun r=>[.i .i64 r.1,.b r.2]) ?_ fun w2=> ?_
  ·refine aU ?_ ?_
   ·refine bO (f:=aY) (rfl) fun y1=> ?_
    refine aT (eO (rJ (cw (by rw [A8];rfl) ?_)))
    refine ao (ec y1 target) fun aV=> ?_
    refine aG ?_
    exact aa (rfl)
   ·exact aa (rfl)
  ·refine yZ ?_
   exact aa (rfl)
theorem sW (rA:au) (eh:Int):Sm (fun r=> .cC [.i .i64 r.1,.b r.2]) (ir (fp rA) (.i .i64 eh)) (ei rA eh):=by
 unfold ir ei
 refine aT (mU (aG ?_))
 refine ao (lh rA.Seen eh cz (Hv:=120) (nr:=[]) rfl (fun u2 u3=>Sm.at (eX _ _) (xY u2 u3))) fun aV=> ?_
 refine cH (yZ ?_)
 exact aa (rfl)
theorem DG (rA:au) (eh:Int):Sm (fun r=> .cC [aY r.1,.b r.2]) (p8 (fp rA) (.i .i64 eh)) (nz rA eh):=by
 unfold p8 nz
 refine aT (mU (aG ?_))
 refine ao (sW rA eh) fun aV=> ?_
 refine cH (yZ ?_)
 refine aO ?_ ?_
 ·exact aa (rfl)
 ·refine bO (f:=aY) (rfl) fun y=> ?_
  refine aT (eO ?_)
  exact aa (rfl)
theorem Ac (rA:au) (o:av):Sm (fun r=> .cC [aY r.1,.b r.2]) (kJ (fp rA) (cy o)) (ik rA o):=by
 unfold kJ ik
 refine aT (mU (aT (iZ ?_)))
 refine ao (DG rA o.Client) fun aV=> ?_
 refine cH (ah (aT (eO (ah (aZ (az ?_))))))
 refine ao (Ou o) fun cY=> ?_
 refine aZ ?_
 refine ao (f:=(Sum.elim (fun r=>(0,(v2 r))) (fun r=>(1,(v3 r))))) ?_ fun w=> ?_
 ·refine aO ?_ ?_
  ·exact aa (rfl)
  ·refine ao (f:=fun r=>[.b r]) ?_ fun w1=> ?_
   ·refine aO ?_ ?_
    ·exact aa (rfl)
    ·exact aa (rfl)
   ·refine ah (aZ (az ?_))
    refine aO ?_ ?_
    ·exact aa (rfl)
    ·refine ao (f:=fun r=>[.b r]) ?_ fun w2=> ?_
     ·refine aO ?_ ?_
      ·exact aa (rfl)
      ·exact aa (rfl)
     ·refine ah (aZ (az ?_))
      refine ao (f:=(Sum.elim (fun r=>(0,(v2 r))) (fun r=>(1,(v3 r))))) ?_ fun w3=> ?_
      ·refine aO ?_ ?_
       ·exact aa (rfl)
       ·refine ao (f:=fun r=>[.b r]) ?_ fun w4=> ?_
        ·refine aO ?_ ?_
         ·refine ba (n:=rA.Seen.length) (by simp only [List.length_map,List.length_cons,List.length_nil]) ?_
          exact aa (rfl)
         ·exact aa (rfl)
        ·refine ah (aZ (az ?_))
         refine aO ?_ ?_
         ·exact aa (rfl)
         ·exact aa (rfl)
      ·rcases w3 with p2|p3
       ·refine lc rfl (ah (aG (ah (aG (ah (aG (ah (bG (ah (aG (ah ?_)))))))))))
        refine a7 (eO ?_)
        exact aa (rfl)
       ·refine lf rfl (cw rfl (ah (aG (ah (aG (ah (aG (ah (bG (ah (aG ?_)))))))))))
        refine ah (a7 (ah (aZ (az ?_))))
        exact aa (rfl)
 ·rcases w with p4|p5
  ·refine lc rfl (ah (aG (ah (aG (ah (aG (ah (bG (ah (aG (ah ?_)))))))))))
   refine a7 (eO ?_)
   exact aa (rfl)
  ·refine lf rfl (cw rfl (ah (aG (ah (aG (ah (aG (ah (bG (ah (aG ?_)))))))))))
   refine ah (a7 (ah (aZ (az ?_))))
   exact aa (rfl)
theorem xZ (w:af):Sm (fun r=> .dG ((fun _=> .cC []) r.1) (bo r.2)) (iU (bo w)) (lS w):=by
 unfold iU lS
 refine aw ?_
 exact aa (rfl)
theorem ze (x:ar) (id:Int):Sm (MV.i .i64) (jM (aQ x) (.i .i64 id)) (cI x id):=by
 unfold jM cI
 refine aT (y9 (aG ?_))
 refine ao (vO x.Id id) fun rA=> ?_
 refine aG ?_
 exact aa (rfl)
theorem kn (x:List ar) (target:Int) (cmp:ar→Int→Option Int) {Hv:Nat} {nr:List MV} (A8:gv Hv=false) (dO: ∀(u0:ar) (u1:Int),Sm (MV.i .i64) (bX Hv ([aQ u0,.i .i64 u1]++nr)) (cmp u0 u1)):Sm (fun r=> .cC [.i .i64 r.1,.b r.2]) (ca (.list (x.map aQ)) (.i .i64 target) (.func Hv nr)) (b8 x target cmp):=by
 unfold ca b8
 refine a7 (aG (rK (ba (n:=x.length) (by simp only [List.length_map,List.length_cons,List.length_nil]) ?_)))
 refine ao (cQ (fun r=>[.i .i64 r.1,.i .i64 r.2]) (fun r=>(2,[.i .i64 r])) (rfl) fun st=> ?_) fun w=> ?_
 ·unfold dZ
  refine xX ?_
  refine aU ?_ ?_
  ·refine eV ?_
   refine bO (f:=aQ) (rfl) fun y=> ?_
   refine aT (y9 (rJ (cw (by rw [A8];rfl) ?_)))
   refine ao (dO y target) fun rA=> ?_
   refine aG ?_
   refine ao (f:=(fun r=>(0,[.i .i64 r.1,.i .i64 r.2]))) ?_ fun w1=> ?_
   ·refine aU ?_ ?_
    ·exact aa (rfl)
    ·exact aa (rfl)
   ·refine cw rfl (xX ?_)
    exact aa (rfl)
  ·exact aa (rfl)
 ·refine cw rfl (ah (aG (az ?_)))
  refine ao (f:=fun r=>[.i .i64 r.1,.b r.2]) ?_ fun w2=> ?_
  ·refine aU ?_ ?_
   ·refine bO (f:=aQ) (rfl) fun y1=> ?_
    refine aT (y9 (rJ (cw (by rw [A8];rfl) ?_)))
    refine ao (dO y1 target) fun aV=> ?_
    refine aG ?_
    exact aa (rfl)
   ·exact aa (rfl)
  ·refine yZ ?_
   exact aa (rfl)
theorem lM (b:aD) (id:Int):Sm (fun r=> .cC [.i .i64 r.1,.b r.2]) (eY (c8 b) (.i .i64 id)) (dt b id):=by
 unfold eY dt
 refine aT (za (aG ?_))
 refine ao (kn b.L id cI (Hv:=144) (nr:=[]) rfl (fun u2 u3=>Sm.at (eQ _ _) (ze u2 u3))) fun rA=> ?_
 refine cH (yZ ?_)
 exact aa (rfl)
theorem Ov (b:aD) (id:Int):Sm MV.b (wu (c8 b) (.i .i64 id)) (sE b id):=by
 unfold wu sE
 refine aT (za (aG ?_))
 refine ao (lM b id) fun rA=> ?_
 refine cH (yZ ?_)
 exact aa (rfl)
theorem uQ (sA:List UInt8) (cJ:List UInt8):Sm MV.b (fM (.s sA) (.s cJ)) (fI sA cJ):=by
 unfold fM fI
 refine bG (bG ?_)
 refine ao (f:=fun r=>[.b r]) ?_ fun w=> ?_
 ·refine aU ?_ ?_
  ·refine eV ?_
   exact aa (rfl)
  ·exact aa (rfl)
 ·refine ah (aZ (az ?_))
  exact aa (rfl)
theorem uR (sA:List UInt8) (cJ:List UInt8):Sm (fun r=> .cC [.s r.1,.b r.2]) (fN (.s sA) (.s cJ)) (fJ sA cJ):=by
 unfold fN fJ
 refine bG (bG ?_)
 refine ao (uQ sA cJ) fun rA=> ?_
 refine aZ ?_
 refine aO ?_ ?_
 ·exact aa (rfl)
 ·refine eV ?_
  exact aa (rfl)
theorem zf (sA:List UInt8) (cJ:List UInt8):Sm (fun r=> .cC [.s r.1,.b r.2]) (jN (.s sA) (.s cJ)) (fW sA cJ):=by
 unfold jN fW
 refine bG (bG ?_)
 refine ao (uR sA cJ) fun rA=> ?_
 refine cH (ah (bG (ah (aZ (az ?_)))))
 exact aa (rfl)
theorem EU (c:Int):Sm MV.b (nP (.i .i32 c)) (fq c):=by
 unfold nP fq
 refine aG ?_
 refine ao (N6 ([97,98,99,100,101,102,103,104,105,106,107,108,109,110,111,112,113,114,115,116,117,118,119,120,121,122,48,49,50,51,52,53,54,55,56,57,45,95]:List UInt8) c) fun rA=> ?_
 refine aZ ?_
 exact aa (rfl)
theorem BB (sA:List UInt8) (f:Int→Option Bool) (AW:Bool) {yg:Nat} {qA:List MV} (Ew:gv yg=false) (gx: ∀(u0:Int),Sm MV.b (gp yg ([.i .i32 u0]++qA)) (f u0)):Sm (MV.i .i64) (lI (.s sA) (.func yg qA) (.b AW)) (lF sA f AW):=by
 unfold lI lF
 refine bG (rK (aZ ?_))
 refine ao (cQ (fun r=>[.list r]) (Sum.elim (fun r=>(2,[])) (fun r=>(1,[.i .i64 r]))) (rfl) fun st=> ?_) fun w=> ?_
 ·unfold fX
  refine ah (a7 (az ?_))
  refine aO ?_ ?_
  ·refine rJ (cw (by rw [Ew];rfl) ?_)
   refine ao (gx (u6 st)) fun rA=> ?_
   refine aZ ?_
   refine aU ?_ ?_
   ·exact aa (rfl)
   ·exact aa (rfl)
  ·exact aa (rfl)
 ·rcases w with p1|p2
  ·refine lc rfl (az ?_)
   exact aa (rfl)
  ·refine lf rfl (cw rfl (ah (aG (az ?_))))
   exact aa (rfl)
theorem zg (sA:List UInt8) (f:Int→Option Bool) {yg:Nat} {qA:List MV} (Ew:gv yg=false) (gx: ∀(u0:Int),Sm MV.b (gp yg ([.i .i32 u0]++qA)) (f u0)):Sm (MV.i .i64) (jO (.s sA) (.func yg qA)) (jK sA f):=by
 unfold jO jK
 refine bG (rK ?_)
 refine ao (BB sA f true Ew gx) fun rA=> ?_
 refine aG ?_
 exact aa (rfl)
theorem vP (sA:List UInt8) (f:Int→Option Bool) {yg:Nat} {qA:List MV} (Ew:gv yg=false) (gx: ∀(u0:Int),Sm MV.b (gp yg ([.i .i32 u0]++qA)) (f u0)):Sm MV.b (gq (.s sA) (.func yg qA)) (eI sA f):=by
 unfold gq eI
 refine bG (rK ?_)
 refine ao (zg sA f Ew gx) fun rA=> ?_
 refine aG ?_
 exact aa (rfl)
theorem Jr (sA:List UInt8):Sm MV.b (rc (.s sA)) (n3 sA):=by
 unfold rc n3
 refine bG ?_
 refine ao (f:=fun r=>[.b r]) ?_ fun w=> ?_
 ·refine aO ?_ ?_
  ·refine aU ?_ ?_
   ·refine ao (XZ sA ([97,98,99,100,101,102,103,104,105,106,107,108,109,110,111,112,113,114,115,116,117,118,119,120,121,122,48,49,50,51,52,53,54,55,56,57,45,95]:List UInt8)) fun rA=> ?_
    refine bG ?_
    refine aU ?_ ?_
    ·refine ao (vP sA fq (yg:=237) (qA:=[]) rfl (fun u1=>Sm.at (oz _) (EU u1))) fun aV=> ?_
     refine aZ ?_
     exact aa (rfl)
    ·exact aa (rfl)
   ·exact aa (rfl)
  ·exact aa (rfl)
 ·refine ah (aZ (az ?_))
  exact aa (rfl)
theorem Hw (sA:List UInt8):Sm MV.b (pf (.s sA)) (kG sA):=by
 unfold pf kG
 refine bG ?_
 refine ao (Jr sA) fun rA=> ?_
 refine aZ ?_
 exact aa (rfl)
theorem ud (sA:List (List UInt8)) (f:(List UInt8)→Option Bool) {yg:Nat} {qA:List MV} (Ew:gv yg=false) (gJ: ∀(u0:List UInt8),Sm MV.b (et yg ([.s u0]++qA)) (f u0)):Sm (MV.i .i64) (fh (.list (sA.map MV.s)) (.func yg qA)) (fc sA f):=by
 unfold fh fc
 refine a7 (rK (ba (n:=sA.length) (by simp only [List.length_map,List.length_cons,List.length_nil]) ?_))
 refine ao (cQ (fun r=>[.i .i64 r]) (Sum.elim (fun r=>(2,[])) (fun r=>(1,[.i .i64 r]))) (rfl) fun st=> ?_) fun w=> ?_
 ·unfold dm
  refine ah (aG (az ?_))
  refine aU ?_ ?_
  ·refine bO (f:=MV.s) (rfl) fun y=> ?_
   refine bG (rJ (cw (by rw [Ew];rfl) ?_))
   refine ao (gJ y) fun rA=> ?_
   refine aZ ?_
   refine aO ?_ ?_
   ·exact aa (rfl)
   ·exact aa (rfl)
  ·exact aa (rfl)
 ·rcases w with p1|p2
  ·refine lc rfl (az ?_)
   exact aa (rfl)
  ·refine lf rfl (cw rfl (ah (aG (az ?_))))
   exact aa (rfl)
theorem qG (sA:List (List UInt8)) (f:(List UInt8)→Option Bool) {yg:Nat} {qA:List MV} (Ew:gv yg=false) (gJ: ∀(u0:List UInt8),Sm MV.b (et yg ([.s u0]++qA)) (f u0)):Sm MV.b (dV (.list (sA.map MV.s)) (.func yg qA)) (da sA f):=by
 unfold dV da
 refine a7 (rK ?_)
 refine ao (ud sA f Ew gJ) fun rA=> ?_
 refine aG ?_
 exact aa (rfl)
theorem nE (p:List UInt8):Sm (fun r=> .cC [.list (r.1.map MV.s),.b r.2]) (iW (.s p)) (fB p):=by
 unfold iW fB
 refine bG ?_
 refine ao (zf p ([47]:List UInt8)) fun rA=> ?_
 refine cH (ah (bG (ah (aZ (az ?_)))))
 refine ao (f:=fun r=>[.b r]) ?_ fun w=> ?_
 ·refine aO ?_ ?_
  ·exact aa (rfl)
  ·exact aa (rfl)
 ·refine ah (aZ (az ?_))
  refine aO ?_ ?_
  ·exact aa (rfl)
  ·refine aU ?_ ?_
   ·exact aa (rfl)
   ·refine ao (Uy rA.1 ([47]:List UInt8)) fun aV=> ?_
    refine pM ?_
    refine ao (f:=fun r=>[.list (r.1.map MV.s),.b r.2.1,.list (r.2.2.map MV.s)]) ?_ fun w1=> ?_
    ·refine ba (n:=aV.length) (by simp only [List.length_map,List.length_cons,List.length_nil]) ?_
     refine aU ?_ ?_
     ·refine ao (qG aV kG (yg:=196) (qA:=[]) rfl (fun u1=>Sm.at (lY _) (Hw u1))) fun cY=> ?_
      refine aZ ?_
      exact aa (rfl)
     ·exact aa (rfl)
    ·refine ah (a7 (ah (aZ (ah (a7 (az ?_))))))
     exact aa (rfl)
theorem uB (x:List UInt8):Sm MV.b (jq (.s x)) (jj x):=by
 unfold jq jj
 refine bG ?_
 exact aa (rfl)
theorem zh (x:List UInt8) (y:List UInt8):Sm (MV.i .i64) (jP (.s x) (.s y)) (fY x y):=by
 unfold jP fY
 refine bG (bG ?_)
 refine ao (uB x) fun rA=> ?_
 refine aZ ?_
 refine ao (uB y) fun aV=> ?_
 refine aZ ?_
 refine aO ?_ ?_
 ·refine aO ?_ ?_
  ·exact aa (rfl)
  ·exact aa (rfl)
 ·refine aO ?_ ?_
  ·exact aa (rfl)
  ·refine aO ?_ ?_
   ·exact aa (rfl)
   ·refine aO ?_ ?_
    ·exact aa (rfl)
    ·exact aa (rfl)
theorem vQ (s1:List (List UInt8)) (s2:List (List UInt8)):Sm (MV.i .i64) (gu (.list (s1.map MV.s)) (.list (s2.map MV.s))) (eJ s1 s2):=by
 unfold gu eJ
 refine a7 (a7 (ba (n:=s1.length) (by simp only [List.length_map,List.length_cons,List.length_nil]) ?_))
 refine ao (cQ (fun r=>[.i .i64 r]) (Sum.elim (fun r=>(2,[])) (fun r=>(1,[.i .i64 r]))) (rfl) fun st=> ?_) fun w=> ?_
 ·unfold dL
  refine ah (aG (az ?_))
  refine aU ?_ ?_
  ·refine bO (f:=MV.s) (rfl) fun y=> ?_
   refine bG (ba (n:=s2.length) (by simp only [List.length_map,List.length_cons,List.length_nil]) ?_)
   refine aU ?_ ?_
   ·exact aa (rfl)
   ·refine bO (f:=MV.s) (rfl) fun y1=> ?_
    refine bG ?_
    refine ao (zh y y1) fun rA=> ?_
    refine aG ?_
    refine aO ?_ ?_
    ·exact aa (rfl)
    ·exact aa (rfl)
  ·exact aa (rfl)
 ·rcases w with p1|p2
  ·refine lc rfl (az (ba (n:=s1.length) (by simp only [List.length_map,List.length_cons,List.length_nil]) (ba (n:=s2.length) (by simp only [List.length_map,List.length_cons,List.length_nil]) ?_)))
   refine aU ?_ ?_
   ·exact aa (rfl)
   ·exact aa (rfl)
  ·refine lf rfl (cw rfl (ah (aG (az ?_))))
   exact aa (rfl)
theorem Lc (p:List UInt8) (q:List UInt8):Sm MV.b (tK (.s p) (.s q)) (pO p q):=by
 unfold tK pO
 refine bG (bG ?_)
 refine ao (nE p) fun rA=> ?_
 refine cH (ah (a7 (ah (aZ (az ?_)))))
 refine ao (nE q) fun aV=> ?_
 refine cH (ah (a7 (ah (aZ (az ?_)))))
 refine ao (f:=fun r=>[.b r]) ?_ fun w=> ?_
 ·refine aO ?_ ?_
  ·refine aO ?_ ?_
   ·refine ao (vQ rA.1 aV.1) fun cY=> ?_
    refine aG ?_
    exact aa (rfl)
   ·exact aa (rfl)
  ·exact aa (rfl)
 ·refine ah (aZ (az ?_))
  exact aa (rfl)
theorem ya (n:ae) (p:List UInt8):Sm (MV.i .i64) (iX (aP n) (.s p)) (bW n p):=by
 unfold iX bW
 refine aT (km (bG ?_))
 refine aU ?_ ?_
 ·exact aa (rfl)
 ·refine ao (Lc n.Path p) fun rA=> ?_
  refine aZ ?_
  refine aO ?_ ?_
  ·exact aa (rfl)
  ·exact aa (rfl)
theorem ko (x:List ae) (target:List UInt8) (cmp:ae→(List UInt8)→Option Int) {Hv:Nat} {nr:List MV} (A8:gv Hv=false) (dP: ∀(u0:ae) (u1:List UInt8),Sm (MV.i .i64) (bY Hv ([aP u0,.s u1]++nr)) (cmp u0 u1)):Sm (fun r=> .cC [.i .i64 r.1,.b r.2]) (cb (.list (x.map aP)) (.s target) (.func Hv nr)) (cT x target cmp):=by
 unfold cb cT
 refine a7 (bG (rK (ba (n:=x.length) (by simp only [List.length_map,List.length_cons,List.length_nil]) ?_)))
 refine ao (cQ (fun r=>[.i .i64 r.1,.i .i64 r.2]) (fun r=>(2,[.i .i64 r])) (rfl) fun st=> ?_) fun w=> ?_
 ·unfold ea
  refine xX ?_
  refine aU ?_ ?_
  ·refine eV ?_
   refine bO (f:=aP) (rfl) fun y=> ?_
   refine aT (km (rJ (cw (by rw [A8];rfl) ?_)))
   refine ao (dP y target) fun rA=> ?_
   refine aG ?_
   refine ao (f:=(fun r=>(0,[.i .i64 r.1,.i .i64 r.2]))) ?_ fun w1=> ?_
   ·refine aU ?_ ?_
    ·exact aa (rfl)
    ·exact aa (rfl)
   ·refine cw rfl (xX ?_)
    exact aa (rfl)
  ·exact aa (rfl)
 ·refine cw rfl (ah (aG (az ?_)))
  refine ao (f:=fun r=>[.i .i64 r.1,.b r.2]) ?_ fun w2=> ?_
  ·refine aU ?_ ?_
   ·refine bO (f:=aP) (rfl) fun y1=> ?_
    refine aT (km (rJ (cw (by rw [A8];rfl) ?_)))
    refine ao (dP y1 target) fun aV=> ?_
    refine aG ?_
    exact aa (rfl)
   ·exact aa (rfl)
  ·refine yZ ?_
   exact aa (rfl)
theorem sX (sA:aB) (p:List UInt8):Sm (fun r=> .cC [.i .i64 r.1,.b r.2]) (iv (b2 sA) (.s p)) (dz sA p):=by
 unfold iv dz
 refine aT (ah (a7 (az (bG ?_))))
 refine ao (ko sA.L p bW (Hv:=245) (nr:=[]) rfl (fun u2 u3=>Sm.at (eL _ _) (ya u2 u3))) fun rA=> ?_
 refine cH (yZ ?_)
 exact aa (rfl)
theorem qo (p:List UInt8):Sm MV.b (kj (.s p)) (iQ p):=by
 unfold kj iQ
 refine bG ?_
 refine ao (nE p) fun rA=> ?_
 refine cH (ah (a7 (ah (aZ (az ?_)))))
 exact aa (rfl)
theorem po (sA:List UInt8) (c:Int):Sm (MV.i .i64) (dC (.s sA) (.i .u8 c)) (dB sA c):=by
 unfold dC dB
 refine bG (aG ?_)
 refine ao (cQ (fun r=>[.i .i64 r]) (Sum.elim (fun r=>(2,[])) (fun r=>(1,[.i .i64 r]))) (rfl) fun st=> ?_) fun w=> ?_
 ·unfold di
  refine ah (aG (az ?_))
  refine aU ?_ ?_
  ·refine eV ?_
   refine aU ?_ ?_
   ·exact aa (rfl)
   ·exact aa (rfl)
  ·exact aa (rfl)
 ·rcases w with p1|p2
  ·refine lc rfl (az ?_)
   exact aa (rfl)
  ·refine lf rfl (cw rfl (ah (aG (az ?_))))
   exact aa (rfl)
theorem rT (sep:List UInt8):Sm (fun r=> .cC [.i .u32 r.1,.i .u32 r.2]) (eu (.s sep)) (gD sep):=by
 unfold eu gD
 refine bG ?_
 refine ao (cQ (fun r=>[.i .u32 r.1,.i .i64 r.2]) (fun r=>(2,[.i .u32 r])) (rfl) fun st=> ?_) fun w=> ?_
 ·unfold ka
  refine xX ?_
  refine aU ?_ ?_
  ·refine eV ?_
   exact aa (rfl)
  ·exact aa (rfl)
 ·refine cw rfl (ah (aG (az ?_)))
  refine ao (cQ (fun r=>[.i .u32 r.1,.i .u32 r.2.1,.i .i64 r.2.2]) (fun r=>(4,[.i .u32 r])) (rfl) fun dR=> ?_) fun w1=> ?_
  ·unfold kb
   refine y9 ?_
   refine aU ?_ ?_
   ·exact Uu
   ·exact aa (rfl)
  ·refine cw rfl (ah (aG (az ?_)))
   exact aa (rfl)
theorem mV (a:List UInt8) (a1:List UInt8):Sm (MV.i .i64) (cK (.s a) (.s a1)) (dM a a1):=by
 unfold cK dM
 refine bG (bG ?_)
 refine ao (rT a1) fun rA=> ?_
 refine cH (xX ?_)
 refine ao (cQ (fun r=>[.i .u32 r.1,.i .i64 r.2]) (fun r=>(2,[.i .u32 r])) (rfl) fun st=> ?_) fun w=> ?_
 ·unfold fC
  refine xX ?_
  refine aU ?_ ?_
  ·refine eV ?_
   exact aa (rfl)
  ·exact aa (rfl)
 ·refine cw rfl (ah (aG (az ?_)))
  refine ao (f:=fun r=>[.b r]) ?_ fun w1=> ?_
  ·refine aU ?_ ?_
   ·refine eV ?_
    exact aa (rfl)
   ·exact aa (rfl)
  ·refine ah (aZ (az ?_))
   refine aO ?_ ?_
   ·exact aa (rfl)
   ·refine ao (cQ (fun r=>[.i .u32 r.1,.i .i64 r.2]) (Sum.elim (fun r=>(4,[])) (fun r=>(1,[.i .i64 r]))) (rfl) fun dR=> ?_) fun w2=> ?_
    ·unfold fD
     refine xX ?_
     refine aU ?_ ?_
     ·refine eV (eV ?_)
      refine ao (f:=fun r=>[.b r]) ?_ fun w3=> ?_
      ·refine aU ?_ ?_
       ·refine eV ?_
        exact aa (rfl)
       ·exact aa (rfl)
      ·refine ah (aZ (az ?_))
       refine aO ?_ ?_
       ·exact aa (rfl)
       ·exact aa (rfl)
     ·exact aa (rfl)
    ·rcases w2 with p2|p3
     ·refine lc rfl (az ?_)
      exact aa (rfl)
     ·refine lf rfl (cw rfl (ah (aG (az ?_))))
      exact aa (rfl)
theorem zi (sA:List UInt8) (substr:List UInt8):Sm (MV.i .i64) (jR (.s sA) (.s substr)) (fZ sA substr):=by
 unfold jR fZ
 refine bG (bG ?_)
 refine aU ?_ ?_
 ·exact aa (rfl)
 ·refine aU ?_ ?_
  ·refine eV ?_
   refine ao (po sA ((substr.getD (Int.toNat 0) 0).toNat:Int)) fun rA=> ?_
   refine aG ?_
   exact aa (rfl)
  ·refine aU ?_ ?_
   ·refine aU ?_ ?_
    ·exact aa (rfl)
    ·exact aa (rfl)
   ·refine aU ?_ ?_
    ·exact aa (rfl)
    ·refine ao (mV sA substr) fun aV=> ?_
     refine aG ?_
     exact aa (rfl)
theorem A9 (p:List UInt8):Sm (fun r=> .cC [.s r.1,.i .i64 r.2]) (n9 (.s p)) (mj p):=by
 unfold n9 mj
 refine bG ?_
 refine ao (qo p) fun rA=> ?_
 refine aZ ?_
 refine aO ?_ ?_
 ·exact aa (rfl)
 ·refine aU ?_ ?_
  ·exact aa (rfl)
  ·refine ao (zi p ([47]:List UInt8)) fun aV=> ?_
   refine aG (eV ?_)
   exact aa (rfl)
theorem oQ (sA:aB) (p:List UInt8):Sm (fun r=> .cC [.i .i64 r.1,.i .i64 r.2]) (fU (b2 sA) (.s p)) (eW sA p):=by
 unfold fU eW
 refine aT (ah (a7 (az (bG ?_))))
 refine ao (qo p) fun rA=> ?_
 refine aZ ?_
 refine aO ?_ ?_
 ·exact aa (rfl)
 ·refine ao (sX sA p) fun aV=> ?_
  refine cH (yZ ?_)
  refine aO ?_ ?_
  ·exact aa (rfl)
  ·exact aa (rfl)
theorem Ad (sA:aB) (p:List UInt8):Sm (fun r=> .cC [aP r.1,.i .i64 r.2]) (pz (b2 sA) (.s p)) (nA sA p):=by
 unfold pz nA
 refine aT (ah (a7 (az (bG ?_))))
 refine ao (oQ sA p) fun rA=> ?_
 refine cH (xX ?_)
 refine aO ?_ ?_
 ·exact aa (rfl)
 ·refine bO (f:=aP) (rfl) fun y=> ?_
  refine aT (km ?_)
  exact aa (rfl)
theorem DH (c:List UInt8) (c1:Bool) (c2:aB) (c3:List UInt8) (c4:Int):Sm (MV.i .i64) (mO (.rp [.s c]) (.rp [.b c1]) (.rp [.list (c2.L.map aP)]) (.rp [.s c3]) (.rp [.i .i64 c4])) (fE c c1 c2 c3 c4):=by
 unfold mO fE
 refine FO (ah (bG (az (FO (ah (aZ (az (FO (ah (a7 (az ?_)))))))))))
 refine FO (ah (bG (az (FO (ah (aG (az ?_)))))))
 refine ao (qo c) fun rA=> ?_
 refine aZ ?_
 refine aO ?_ ?_
 ·exact aa (rfl)
 ·refine aO ?_ ?_
  ·exact aa (rfl)
  ·refine ao (A9 c) fun aV=> ?_
   refine cH (ah (bG (ah (aG (az ?_)))))
   refine ao (Ad c2 aV.1) fun cY=> ?_
   refine cH (ah (aT (km (ah (aG (az ?_))))))
   refine aO ?_ ?_
   ·exact aa (rfl)
   ·refine aO ?_ ?_
    ·exact aa (rfl)
    ·refine aU ?_ ?_
     ·exact aa (rfl)
     ·refine aU ?_ ?_
      ·exact aa (rfl)
      ·refine ba (n:=c2.L.length) (by simp only [List.length_map,List.length_cons,List.length_nil]) ?_
       refine aU ?_ ?_
       ·exact aa (rfl)
       ·exact aa (rfl)
theorem Hx (sA:aB) (p:List UInt8) (value:List UInt8) (owner:Int):Sm (fun r=> .cC [b2 r.1,.i .i64 r.2]) (pg (b2 sA) (.s p) (.s value) (.i .i64 owner)) (kH sA p value owner):=by
 unfold pg kH
 refine aT (ah (a7 (az (bG (bG (aG ?_))))))
 refine ao (sX sA p) fun rA=> ?_
 refine cH (yZ ?_)
 refine ao (DH p rA.2 sA value owner) fun aV=> ?_
 refine aG ?_
 refine aO ?_ ?_
 ·exact aa (rfl)
 ·refine BO ?_
  refine ao (pe (size:=4) (f:=aP) (fun _=>rfl) sA.L) fun cY=> ?_
  refine pM ?_
  refine ao (CT (f:=aP) cY rA.1 ([(⟨p,value,0,owner⟩:ae)]:List ae)) fun kw=> ?_
  refine pM ?_
  exact aa (rfl)
theorem ma (w:af) (kind:Int):Sm (fun r=> .dG ((fun _=> .cC []) r.1) (bo r.2)) (en (bo w) (.i .i64 kind)) (cU w kind):=by
 unfold en cU
 refine aG (aw ?_)
 refine ao (f:=(fun r=>(0,(v1 r)))) ?_ fun w1=> ?_
 ·refine aU ?_ ?_
  ·refine ba (n:=w.l.length) (by simp only [List.length_map,List.length_cons,List.length_nil]) (ba (n:=([(⟨kind,w.o.Path⟩:aA)]:List aA).length) (by simp only [List.length_map,List.length_cons,List.length_nil]) (eV ?_))
   exact aa (by simp [bo,al,v1])
  ·exact aa (rfl)
 ·refine cw rfl (aw ?_)
  exact aa (rfl)
theorem zj (w:af):Sm (fun r=> .dG ((fun _=> .cC []) r.1) (bo r.2)) (jS (bo w)) (ga w):=by
 unfold jS ga
 refine aw ?_
 refine ao (f:=fun r=>[.b r]) ?_ fun w1=> ?_
 ·refine aO ?_ ?_
  ·refine ao (Ov w.r.bM w.o.Session) fun rA=> ?_
   refine aZ ?_
   exact aa (rfl)
  ·exact aa (rfl)
 ·refine ah (aZ (az ?_))
  refine aO ?_ ?_
  ·exact aa (rfl)
  ·refine ao (Hx w.r.Shelf w.o.Path w.o.Value w.o.Session) fun aV=> ?_
   refine cH (ah (aT (ah (a7 (az (ah (aG (az ?_))))))))
   refine ao (ma (⟨(⟨aV.1,w.r.bM,w.r.bk,w.r.Seen⟩:au),w.o,(⟨w.x.Client,w.x.Seq,aV.2,w.x.Value,w.x.Version,w.x.Names⟩:ai),w.l⟩:af) 1) fun cY=> ?_
   refine FN (aw ?_)
   exact aa (rfl)
theorem DI (w:af):Sm (fun r=> .dG ((fun _=> .cC []) r.1) (bo r.2)) (mP (bo w)) (kc w):=by
 unfold mP kc
 refine aw ?_
 refine ao (Ad w.r.Shelf w.o.Path) fun rA=> ?_
 refine cH (ah (aT (km (ah (aG (az ?_))))))
 exact aa (rfl)
theorem oe (sA:aB) (p:List UInt8) (version:Int):Sm (fun r=> .cC [.i .i64 r.1,.i .i64 r.2]) (eN (b2 sA) (.s p) (.i .i64 version)) (dA sA p version):=by
 unfold eN dA
 refine aT (ah (a7 (az (bG (aG ?_)))))
 refine ao (oQ sA p) fun rA=> ?_
 refine cH (xX ?_)
 refine ao (f:=fun r=>[.b r]) ?_ fun w=> ?_
 ·refine aU ?_ ?_
  ·refine aO ?_ ?_
   ·refine bO (f:=aP) (rfl) fun y=> ?_
    refine aT (km ?_)
    exact aa (rfl)
   ·exact aa (rfl)
  ·exact aa (rfl)
 ·refine ah (aZ (az ?_))
  refine aO ?_ ?_
  ·exact aa (rfl)
  ·exact aa (rfl)
theorem Ow (sA:aB) (p:List UInt8) (value:List UInt8) (version:Int):Sm (fun r=> .cC [b2 r.1,.i .i64 r.2]) (wv (b2 sA) (.s p) (.s value) (.i .i64 version)) (sF sA p value version):=by
 unfold wv sF
 refine aT (ah (a7 (az (bG (bG (aG ?_))))))
 refine ao (oe sA p version) fun rA=> ?_
 refine cH (xX ?_)
 refine aO ?_ ?_
 ·exact aa (rfl)
 ·refine aU ?_ ?_
  ·exact aa (rfl)
  ·refine bO (f:=aP) (rfl) fun y=> ?_
   refine aT (km ?_)
   refine aU ?_ ?_
   ·exact aa (rfl)
   ·refine ao (pe (size:=4) (f:=aP) (fun _=>rfl) sA.L) fun aV=> ?_
    refine pM ?_
    refine bO (f:=aP) (rfl) fun y1=> ?_
    refine aT (km ?_)
    refine bO (f:=aP) (by simp only [List.map_replicate,List.map_append,List.map_cons,List.map_nil,List.map_take,List.map_drop,List.map_set]) fun y2=> ?_
    refine aT (km ?_)
    refine bO (f:=aP) (by simp only [List.map_replicate,List.map_append,List.map_cons,List.map_nil,List.map_take,List.map_drop,List.map_set]) fun y3=> ?_
    refine aT (km ?_)
    exact aa (by simp [oY])
theorem DJ (w:af):Sm (fun r=> .dG ((fun _=> .cC []) r.1) (bo r.2)) (mQ (bo w)) (ke w):=by
 unfold mQ ke
 refine aw ?_
 refine ao (Ow w.r.Shelf w.o.Path w.o.Value w.o.Version) fun rA=> ?_
 refine cH (ah (aT (ah (a7 (az (ah (aG (az ?_))))))))
 refine ao (ma (⟨(⟨rA.1,w.r.bM,w.r.bk,w.r.Seen⟩:au),w.o,(⟨w.x.Client,w.x.Seq,rA.2,w.x.Value,w.x.Version,w.x.Names⟩:ai),w.l⟩:af) 2) fun aV=> ?_
 refine FN (aw ?_)
 refine ao (f:=(fun r=>(0,(v1 r)))) ?_ fun w1=> ?_
 ·refine aU ?_ ?_
  ·refine ao (Ad aV.2.r.Shelf aV.2.o.Path) fun cY=> ?_
   refine cH (ah (aT (km (ah (aG (az ?_))))))
   exact aa (rfl)
  ·exact aa (rfl)
 ·refine cw rfl (aw ?_)
  exact aa (rfl)
theorem qp (s1:List (List UInt8)) (s2:List (List UInt8)):Sm MV.b (fF (.list (s1.map MV.s)) (.list (s2.map MV.s))) (ej s1 s2):=by
 unfold fF ej
 refine a7 (a7 (ba (n:=s1.length) (by simp only [List.length_map,List.length_cons,List.length_nil]) (ba (n:=s2.length) (by simp only [List.length_map,List.length_cons,List.length_nil]) ?_)))
 refine aO ?_ ?_
 ·exact aa (rfl)
 ·refine ba (n:=s1.length) (by simp only [List.length_map,List.length_cons,List.length_nil]) ?_
  refine ao (cQ (fun r=>[.i .i64 r]) (Sum.elim (fun r=>(2,[])) (fun r=>(1,[.b r]))) (rfl) fun st=> ?_) fun w=> ?_
  ·unfold gd
   refine ah (aG (az ?_))
   refine aU ?_ ?_
   ·refine bO (f:=MV.s) (rfl) fun y=> ?_
    refine bG ?_
    refine bO (f:=MV.s) (rfl) fun y1=> ?_
    refine bG ?_
    refine aO ?_ ?_
    ·exact aa (rfl)
    ·exact aa (rfl)
   ·exact aa (rfl)
  ·rcases w with p1|p2
   ·refine lc rfl (az ?_)
    exact aa (rfl)
   ·refine lf rfl (cw rfl (ah (aZ (az ?_))))
    exact aa (rfl)
theorem DK (p:List UInt8) (q:List UInt8):Sm MV.b (qh (.s p) (.s q)) (lT p q):=by
 unfold qh lT
 refine bG (bG ?_)
 refine ao (nE p) fun rA=> ?_
 refine cH (ah (a7 (ah (aZ (az ?_)))))
 refine ao (nE q) fun aV=> ?_
 refine cH (ah (a7 (ah (aZ (az ?_)))))
 refine ao (f:=fun r=>[.b r]) ?_ fun w=> ?_
 ·refine aO ?_ ?_
  ·refine aO ?_ ?_
   ·refine ba (n:=aV.1.length) (by simp only [List.length_map,List.length_cons,List.length_nil]) (ba (n:=rA.1.length) (by simp only [List.length_map,List.length_cons,List.length_nil]) ?_)
    refine aU ?_ ?_
    ·refine ba (n:=rA.1.length) (by simp only [List.length_map,List.length_cons,List.length_nil]) (ba (n:=aV.1.length) (by simp only [List.length_map,List.length_cons,List.length_nil]) (eV ?_))
     refine ao (by simpa using qp rA.1 (List.drop (Int.toNat 0) (List.take (Int.toNat (rA.1.length:Int)) aV.1))) fun cY=> ?_
     refine aZ ?_
     exact aa (rfl)
    ·exact aa (rfl)
   ·exact aa (rfl)
  ·exact aa (rfl)
 ·refine ah (aZ (az ?_))
  exact aa (rfl)
theorem Hy (sA:aB) (p:List UInt8) (version:Int):Sm (fun r=> .cC [b2 r.1,.i .i64 r.2]) (pi (b2 sA) (.s p) (.i .i64 version)) (mF sA p version):=by
 unfold pi mF
 refine aT (ah (a7 (az (bG (aG ?_)))))
 refine ao (oe sA p version) fun rA=> ?_
 refine cH (xX ?_)
 refine aU ?_ ?_
 ·exact aa (rfl)
 ·refine aO ?_ ?_
  ·exact aa (rfl)
  ·refine ao (f:=fun r=>[.b r]) ?_ fun w=> ?_
   ·refine ba (n:=sA.L.length) (by simp only [List.length_map,List.length_cons,List.length_nil]) ?_
    refine aU ?_ ?_
    ·refine bO (f:=aP) (rfl) fun y=> ?_
     refine aT (km ?_)
     refine ao (DK p y.Path) fun aV=> ?_
     refine aZ ?_
     exact aa (rfl)
    ·exact aa (rfl)
   ·refine ah (aZ (az ?_))
    refine aO ?_ ?_
    ·exact aa (rfl)
    ·refine ao (pe (size:=4) (f:=aP) (fun _=>rfl) sA.L) fun cY=> ?_
     refine pM ?_
     refine ao (I9 (f:=aP) cY rA.1 (IntKind.wrap .i64 (rA.1+1))) fun kw=> ?_
     refine pM ?_
     exact aa (rfl)
theorem zk (w:af):Sm (fun r=> .dG ((fun _=> .cC []) r.1) (bo r.2)) (jT (bo w)) (gf w):=by
 unfold jT gf
 refine aw ?_
 refine ao (Hy w.r.Shelf w.o.Path w.o.Version) fun rA=> ?_
 refine cH (ah (aT (ah (a7 (az (ah (aG (az ?_))))))))
 refine ao (ma (⟨(⟨rA.1,w.r.bM,w.r.bk,w.r.Seen⟩:au),w.o,(⟨w.x.Client,w.x.Seq,rA.2,w.x.Value,w.x.Version,w.x.Names⟩:ai),w.l⟩:af) 3) fun aV=> ?_
 refine FN (aw ?_)
 exact aa (rfl)
theorem DL (p:List UInt8):Sm (fun r=> .cC [.list (r.1.map MV.s),.i .i64 r.2]) (qi (.s p)) (nB p):=by
 unfold qi nB
 refine bG ?_
 refine ao (nE p) fun rA=> ?_
 refine cH (ah (a7 (ah (aZ (az ?_)))))
 refine aO ?_ ?_
 ·exact aa (rfl)
 ·exact aa (rfl)
theorem Ld (a:aB) (a1:List UInt8):Sm (fun r=> .cC [.list (r.1.map MV.s),.i .i64 r.2]) (tO (b2 a) (.s a1)) (pP a a1):=by
 unfold tO pP
 refine aT (ah (a7 (az (bG ?_))))
 refine ao (oQ a a1) fun rA=> ?_
 refine cH (xX ?_)
 refine aO ?_ ?_
 ·exact aa (rfl)
 ·refine ao (DL a1) fun aV=> ?_
  refine cH (ah (a7 (ah (aG (az (cw (MC (rfl:_=List.map aP a.L) fun _=>rfl) (ba (n:=a.L.length) (by simp only [List.length_map,List.length_cons,List.length_nil]) (eV (ba (n:=(List.drop (Int.toNat (IntKind.wrap .i64 (rA.1+1))) (List.take (Int.toNat (a.L.length:Int)) a.L)).length) (by simp only [List.length_map,List.length_append,List.length_cons,List.length_nil,List.length_take,List.length_drop,List.length_set]) ?_)))))))))
  refine ao (cQ (fun r=>[.list (r.1.map MV.s),.i .i64 r.2]) (fun r=>(2,[.list (r.map MV.s)])) (rfl) fun st=> ?_) fun w=> ?_
  ·unfold mG
   refine ah (a7 (ah (aG (az ?_))))
   refine aU ?_ ?_
   ·refine bO (f:=aP) (by simp only [List.map_replicate,List.map_append,List.map_cons,List.map_nil,List.map_take,List.map_drop,List.map_set]) fun y=> ?_
    refine aT (km ?_)
    refine ao (DK a1 y.Path) fun cY=> ?_
    refine aZ ?_
    refine aO ?_ ?_
    ·exact aa (rfl)
    ·refine ao (DL y.Path) fun kw=> ?_
     refine cH (ah (a7 (ah (aG (az (ba (n:=kw.1.length) (by simp only [List.length_map,List.length_cons,List.length_nil]) (ba (n:=aV.1.length) (by simp only [List.length_map,List.length_cons,List.length_nil]) ?_)))))))
     refine ao (f:=(fun r=>(0,[.list (r.map MV.s)]))) ?_ fun w1=> ?_
     ·refine aU ?_ ?_
      ·refine ba (n:=aV.1.length) (by simp only [List.length_map,List.length_cons,List.length_nil]) ?_
       refine bO (f:=MV.s) (rfl) fun y1=> ?_
       refine bG (ba (n:=st.1.length) (by simp only [List.length_map,List.length_cons,List.length_nil]) (ba (n:=([y1]:List (List UInt8)).length) (by simp only [List.length_map,List.length_cons,List.length_nil]) (eV ?_)))
       exact aa (by simp)
      ·exact aa (rfl)
     ·refine cw rfl (ah (a7 (az ?_)))
      exact aa (rfl)
   ·exact aa (rfl)
  ·refine cw rfl (ah (a7 (az ?_)))
   exact aa (rfl)
theorem BC (w:af):Sm (fun r=> .dG ((fun _=> .cC []) r.1) (bo r.2)) (lJ (bo w)) (jk w):=by
 unfold lJ jk
 refine aw ?_
 refine ao (Ld w.r.Shelf w.o.Path) fun rA=> ?_
 refine cH (ah (a7 (ah (aG (az ?_)))))
 exact aa (rfl)
theorem Le (b:aD) (id:Int) (span:Int):Sm (fun r=> .cC [c8 r.1,.i .i64 r.2]) (tP (c8 b) (.i .i64 id) (.i .i64 span)) (pQ b id span):=by
 unfold tP pQ
 refine aT (za (aG (aG ?_)))
 refine ao (lM b id) fun rA=> ?_
 refine cH (yZ ?_)
 refine ao (f:=fun r=>[.b r]) ?_ fun w=> ?_
 ·refine aU ?_ ?_
  ·exact aa (rfl)
  ·refine aU ?_ ?_
   ·exact aa (rfl)
   ·exact aa (rfl)
 ·refine ah (aZ (az ?_))
  refine aO ?_ ?_
  ·exact aa (rfl)
  ·refine aO ?_ ?_
   ·exact aa (rfl)
   ·refine ba (n:=b.L.length) (by simp only [List.length_map,List.length_cons,List.length_nil]) ?_
    refine aU ?_ ?_
    ·exact aa (rfl)
    ·refine BO ?_
     refine ao (pe (size:=3) (f:=aQ) (fun _=>rfl) b.L) fun aV=> ?_
     refine pM ?_
     refine ao (CT (f:=aQ) aV rA.1 ([(⟨id,span,IntKind.wrap .i64 (b.fQ+span)⟩:ar)]:List ar)) fun cY=> ?_
     refine pM ?_
     exact aa (rfl)
theorem BD (w:af):Sm (fun r=> .dG ((fun _=> .cC []) r.1) (bo r.2)) (lK (bo w)) (jm w):=by
 unfold lK jm
 refine aw ?_
 refine ao (Le w.r.bM w.o.Session w.o.Span) fun rA=> ?_
 refine cH (ah (aT (za (ah (aG (az ?_))))))
 exact aa (rfl)
theorem Js (b:aD) (id:Int):Sm (fun r=> .cC [c8 r.1,.i .i64 r.2]) (rl (c8 b) (.i .i64 id)) (n4 b id):=by
 unfold rl n4
 refine aT (za (aG ?_))
 refine ao (lM b id) fun rA=> ?_
 refine cH (yZ ?_)
 refine aO ?_ ?_
 ·exact aa (rfl)
 ·refine ao (pe (size:=3) (f:=aQ) (fun _=>rfl) b.L) fun aV=> ?_
  refine pM ?_
  refine bO (f:=aQ) (rfl) fun y=> ?_
  refine aT (y9 ?_)
  refine bO (f:=aQ) (rfl) fun y1=> ?_
  refine aT (y9 ?_)
  exact aa (by simp)
theorem Ae (w:af):Sm (fun r=> .dG ((fun _=> .cC []) r.1) (bo r.2)) (kM (bo w)) (il w):=by
 unfold kM il
 refine aw ?_
 refine ao (Js w.r.bM w.o.Session) fun rA=> ?_
 refine cH (ah (aT (za (ah (aG (az ?_))))))
 exact aa (rfl)
theorem Jt (b:aD) (id:Int):Sm (fun r=> .cC [c8 r.1,.i .i64 r.2]) (rm (c8 b) (.i .i64 id)) (n5 b id):=by
 unfold rm n5
 refine aT (za (aG ?_))
 refine ao (lM b id) fun rA=> ?_
 refine cH (yZ ?_)
 refine aO ?_ ?_
 ·exact aa (rfl)
 ·refine ao (pe (size:=3) (f:=aQ) (fun _=>rfl) b.L) fun aV=> ?_
  refine pM ?_
  refine ao (I9 (f:=aQ) aV rA.1 (IntKind.wrap .i64 (rA.1+1))) fun cY=> ?_
  refine pM ?_
  exact aa (rfl)
theorem Lf (sA:aB) (owner:Int):Sm (fun r=> .cC [b2 r.1,.list (r.2.map MV.s)]) (tQ (b2 sA) (.i .i64 owner)) (pR sA owner):=by
 unfold tQ pR
 refine aT (ah (a7 (az (aG (ba (n:=sA.L.length) (by simp only [List.length_map,List.length_cons,List.length_nil]) ?_)))))
 refine ao (cQ (fun r=>[.list (r.1.map MV.s),.list (r.2.1.map aP),.i .i64 r.2.2]) (fun r=>(2,[.list (r.1.map MV.s),.list (r.2.map aP)])) (rfl) fun st=> ?_) fun w=> ?_
 ·unfold mH
  refine ah (a7 (ah (a7 (ah (aG (az ?_))))))
  refine aU ?_ ?_
  ·refine bO (f:=aP) (rfl) fun y=> ?_
   refine aT (km ?_)
   refine ao (f:=fun r=>[.b r]) ?_ fun w1=> ?_
   ·refine aU ?_ ?_
    ·exact aa (rfl)
    ·exact aa (rfl)
   ·refine ah (aZ (az ?_))
    refine aO ?_ ?_
    ·refine ba (n:=st.1.length) (by simp only [List.length_map,List.length_cons,List.length_nil]) (ba (n:=([y.Path]:List (List UInt8)).length) (by simp only [List.length_map,List.length_cons,List.length_nil]) (eV ?_))
     exact aa (by simp [oY])
    ·refine ba (n:=st.2.1.length) (by simp only [List.length_map,List.length_cons,List.length_nil]) (ba (n:=([y]:List ae).length) (by simp only [List.length_map,List.length_cons,List.length_nil]) (eV ?_))
     exact aa (by simp [oY])
  ·exact aa (rfl)
 ·refine cw rfl (ah (a7 (ah (a7 (az ?_)))))
  exact aa (rfl)
theorem uC (w:af) (id:Int):Sm (fun r=> .dG ((fun _=> .cC []) r.1) (bo r.2)) (jr (bo w) (.i .i64 id)) (fT w id):=by
 unfold jr fT
 refine aG (aw ?_)
 refine ao (Lf w.r.Shelf id) fun rA=> ?_
 refine cH (ah (aT (ah (a7 (az (ah (a7 (az (ba (n:=rA.2.length) (by simp only [List.length_map,List.length_cons,List.length_nil]) ?_)))))))))
 refine ao (cQ (fun r=>(v0 r)) (fun r=>(2,(v1 r))) (rfl) fun st=> ?_) fun w1=> ?_
 ·unfold gh
  refine ah (aG (aw ?_))
  refine aU ?_ ?_
  ·refine bO (f:=MV.s) (rfl) fun y=> ?_
   refine bG (ba (n:=st.2.2.2.2.2.2.2.2.2.2.2.2.2.2.2.2.2.2.2.2.length) (by simp only [List.length_map,List.length_cons,List.length_nil]) (ba (n:=([(⟨3,y⟩:aA)]:List aA).length) (by simp only [List.length_map,List.length_cons,List.length_nil]) (eV ?_)))
   exact aa (by simp [bo,al,v0,v1])
  ·exact aa (rfl)
 ·refine cw rfl (aw ?_)
  exact aa (rfl)
theorem Af (w:af):Sm (fun r=> .dG ((fun _=> .cC []) r.1) (bo r.2)) (kN (bo w)) (im w):=by
 unfold kN im
 refine aw ?_
 refine ao (Jt w.r.bM w.o.Session) fun rA=> ?_
 refine cH (ah (aT (za (ah (aG (az ?_))))))
 refine ao (f:=(fun r=>(0,(v1 r)))) ?_ fun w1=> ?_
 ·refine aU ?_ ?_
  ·refine ao (uC (⟨(⟨w.r.Shelf,rA.1,w.r.bk,w.r.Seen⟩:au),w.o,(⟨w.x.Client,w.x.Seq,rA.2,w.x.Value,w.x.Version,w.x.Names⟩:ai),w.l⟩:af) w.o.Session) fun aV=> ?_
   refine FN (aw ?_)
   exact aa (rfl)
  ·exact aa (rfl)
 ·refine cw rfl (aw ?_)
  exact aa (rfl)
theorem Lg (b:aD) (now:Int):Sm (fun r=> .cC [c8 r.1,.list (r.2.1.map (MV.i .i64)),.i .i64 r.2.2]) (tR (c8 b) (.i .i64 now)) (pS b now):=by
 unfold tR pS
 refine aT (za (aG ?_))
 refine aU ?_ ?_
 ·exact aa (rfl)
 ·refine aU ?_ ?_
  ·exact aa (rfl)
  ·refine ba (n:=b.L.length) (by simp only [List.length_map,List.length_cons,List.length_nil]) ?_
   refine ao (cQ (fun r=>[.list (r.1.map (MV.i .i64)),.i .i64 r.2.1,.list (r.2.2.1.map aQ),.i .i64 r.2.2.2]) (fun r=>(3,[.list (r.1.map (MV.i .i64)),.i .i64 r.2.1,.list (r.2.2.map aQ)])) (rfl) fun st=> ?_) fun w=> ?_
   ·unfold mI
    refine ah (a7 (ah (aG (ah (a7 (ah (aG (az ?_))))))))
    refine aU ?_ ?_
    ·refine bO (f:=aQ) (rfl) fun y=> ?_
     refine aT (y9 ?_)
     refine aU ?_ ?_
     ·refine ba (n:=st.1.length) (by simp only [List.length_map,List.length_cons,List.length_nil]) (ba (n:=([y.Id]:List Int).length) (by simp only [List.length_map,List.length_cons,List.length_nil]) (eV ?_))
      exact aa (by simp)
     ·refine ba (n:=st.2.2.1.length) (by simp only [List.length_map,List.length_cons,List.length_nil]) (ba (n:=([y]:List ar).length) (by simp only [List.length_map,List.length_cons,List.length_nil]) (eV ?_))
      exact aa (by simp)
    ·exact aa (rfl)
   ·refine cw rfl (ah (a7 (za ?_)))
    exact aa (rfl)
theorem BE (w:af):Sm (fun r=> .dG ((fun _=> .cC []) r.1) (bo r.2)) (lL (bo w)) (jn w):=by
 unfold lL jn
 refine aw ?_
 refine ao (Lg w.r.bM w.o.Span) fun rA=> ?_
 refine cH (ah (aT (za (ah (a7 (ah (aG (az ?_))))))))
 refine aO ?_ ?_
 ·exact aa (rfl)
 ·refine ba (n:=rA.2.1.length) (by simp only [List.length_map,List.length_cons,List.length_nil]) ?_
  refine ao (cQ (fun r=>(v0 r)) (fun r=>(2,(v1 r))) (rfl) fun st=> ?_) fun w1=> ?_
  ·unfold gj
   refine ah (aG (aw ?_))
   refine aU ?_ ?_
   ·refine bO (f:=(MV.i .i64)) (rfl) fun y=> ?_
    refine aG ?_
    refine ao (uC (⟨(⟨(⟨st.2.1⟩:aB),(⟨st.2.2.1,st.2.2.2.1⟩:aD),(⟨st.2.2.2.2.1⟩:bB),st.2.2.2.2.2.1⟩:au),(⟨st.2.2.2.2.2.2.1,st.2.2.2.2.2.2.2.1,st.2.2.2.2.2.2.2.2.1,st.2.2.2.2.2.2.2.2.2.1,st.2.2.2.2.2.2.2.2.2.2.1,st.2.2.2.2.2.2.2.2.2.2.2.1,st.2.2.2.2.2.2.2.2.2.2.2.2.1,st.2.2.2.2.2.2.2.2.2.2.2.2.2.1⟩:av),(⟨st.2.2.2.2.2.2.2.2.2.2.2.2.2.2.1,st.2.2.2.2.2.2.2.2.2.2.2.2.2.2.2.1,st.2.2.2.2.2.2.2.2.2.2.2.2.2.2.2.2.1,st.2.2.2.2.2.2.2.2.2.2.2.2.2.2.2.2.2.1,st.2.2.2.2.2.2.2.2.2.2.2.2.2.2.2.2.2.2.1,st.2.2.2.2.2.2.2.2.2.2.2.2.2.2.2.2.2.2.2.1⟩:ai),st.2.2.2.2.2.2.2.2.2.2.2.2.2.2.2.2.2.2.2.2⟩:af) y) fun aV=> ?_
    refine FN (aw ?_)
    exact aa (rfl)
   ·exact aa (rfl)
  ·refine cw rfl (aw ?_)
   exact aa (rfl)
theorem ue (sA:List ak) (v:ak):Sm (MV.i .i64) (fj (.list (sA.map aW)) (aW v)) (fe sA v):=by
 unfold fj fe
 refine a7 (aT (zb (ba (n:=sA.length) (by simp only [List.length_map,List.length_cons,List.length_nil]) ?_)))
 refine ao (cQ (fun r=>[.i .i64 r]) (Sum.elim (fun r=>(2,[])) (fun r=>(1,[.i .i64 r]))) (rfl) fun st=> ?_) fun w=> ?_
 ·unfold dn
  refine ah (aG (az ?_))
  refine aU ?_ ?_
  ·refine bO (f:=aW) (rfl) fun y=> ?_
   refine aT (zb ?_)
   refine aO ?_ ?_
   ·exact aa (rfl)
   ·exact aa (rfl)
  ·exact aa (rfl)
 ·rcases w with p1|p2
  ·refine lc rfl (az ?_)
   exact aa (rfl)
  ·refine lf rfl (cw rfl (ah (aG (az ?_))))
   exact aa (rfl)
theorem qH (sA:List ak) (v:ak):Sm MV.b (dW (.list (sA.map aW)) (aW v)) (db sA v):=by
 unfold dW db
 refine a7 (aT (zb ?_))
 refine ao (ue sA v) fun rA=> ?_
 refine aG ?_
 exact aa (rfl)
theorem Ox (t:bB) (w:ak):Sm (fun r=> .cC [jt r.1,.i .i64 r.2]) (wz (jt t) (aW w)) (pv t w):=by
 unfold wz pv
 refine aT (ah (a7 (az (aT (zb ?_)))))
 refine ao (qo w.Path) fun rA=> ?_
 refine aZ ?_
 refine aO ?_ ?_
 ·exact aa (rfl)
 ·refine aU ?_ ?_
  ·exact aa (rfl)
  ·refine ao (qH t.L w) fun aV=> ?_
   refine aZ ?_
   refine aO ?_ ?_
   ·exact aa (rfl)
   ·refine ba (n:=t.L.length) (by simp only [List.length_map,List.length_cons,List.length_nil]) ?_
    refine aU ?_ ?_
    ·exact aa (rfl)
    ·refine BO ?_
     refine ao (pe (size:=3) (f:=aW) (fun _=>rfl) t.L) fun cY=> ?_
     refine pM (ba (n:=cY.length) (by simp only [List.length_map,List.length_cons,List.length_nil]) (ba (n:=([w]:List ak).length) (by simp only [List.length_map,List.length_cons,List.length_nil]) (eV ?_)))
     exact aa (by simp)
theorem Ag (w:af):Sm (fun r=> .dG ((fun _=> .cC []) r.1) (bo r.2)) (kO (bo w)) (iq w):=by
 unfold kO iq
 refine aw ?_
 refine ao (Ox w.r.bk (⟨w.o.Path,w.o.Client,decide (w.o.Kind=11)⟩:ak)) fun rA=> ?_
 refine cH (ah (aT (ah (a7 (az (ah (aG (az ?_))))))))
 exact aa (rfl)
theorem Lh:Sm (aa6 (fun x:Nat=>MV.func x [])) (tS) (pT):=by
 unfold tS pT
 exact aa (rfl)
theorem xq (c:aA) (w:ak):Sm MV.b (lz (eG c) (aW w)) (ju c w):=by
 unfold lz ju
 refine aT (ah (aG (ah (bG (az (aT (zb ?_)))))))
 refine ao (f:=fun r=>[.b r]) ?_ fun w1=> ?_
 ·refine aU ?_ ?_
  ·exact aa (rfl)
  ·refine aU ?_ ?_
   ·exact aa (rfl)
   ·refine ao (qo c.Path) fun rA=> ?_
    refine aZ ?_
    exact aa (rfl)
 ·refine ah (aZ (az ?_))
  refine aO ?_ ?_
  ·exact aa (rfl)
  ·refine aO ?_ ?_
   ·exact aa (rfl)
   ·refine ao (A9 c.Path) fun aV=> ?_
    refine cH (ah (bG (ah (aG (az ?_)))))
    refine ao (f:=fun r=>[.b r]) ?_ fun w2=> ?_
    ·refine aU ?_ ?_
     ·refine aO ?_ ?_
      ·exact aa (rfl)
      ·exact aa (rfl)
     ·exact aa (rfl)
    ·refine ah (aZ (az ?_))
     exact aa (rfl)
theorem Hz (w:ak) (c:aA) (c1:List bn):Sm (fun r=> .dG (MV.b r.1) [.list (r.2.map cf)]) (mS (aW w) (.rp [.i .i64 c.Kind,.s c.Path]) [.list (c1.map cf)]) (kI w c c1):=by
 unfold mS kI
 refine aT (zb (FO (ah (aG (ah (bG (az (ah (a7 (az ?_))))))))))
 refine ao (xq c w) fun rA=> ?_
 refine aZ ?_
 refine ao (f:=(fun r=>(0,[.list (r.map cf)]))) ?_ fun w1=> ?_
 ·refine aO ?_ ?_
  ·refine ba (n:=c1.length) (by simp only [List.length_map,List.length_cons,List.length_nil]) (ba (n:=([(⟨w,c⟩:bn)]:List bn).length) (by simp only [List.length_map,List.length_cons,List.length_nil]) (eV ?_))
   exact aa (by simp)
  ·exact aa (rfl)
 ·refine cw rfl (ah (a7 (az ?_)))
  exact aa (rfl)
theorem Li (t:bB) (lA:List aA):Sm (fun r=> .cC [jt r.1,.list (r.2.map cf)]) (tW (jt t) (.list (lA.map eG))) (pU t lA):=by
 unfold tW pU
 refine aT (ah (a7 (az (a7 ?_))))
 refine ao (pe (size:=3) (f:=aW) (fun _=>rfl) t.L) fun rA=> ?_
 refine pM (ba (n:=lA.length) (by simp only [List.length_map,List.length_cons,List.length_nil]) ?_)
 refine ao (cQ (fun r=>[.list (r.1.map aW),.list (r.2.1.map cf),.i .i64 r.2.2]) (fun r=>(2,[.list (r.1.map aW),.list (r.2.map cf)])) (rfl) fun st=> ?_) fun w=> ?_
 ·unfold mJ
  refine ah (a7 (ah (a7 (ah (aG (az ?_))))))
  refine aU ?_ ?_
  ·refine bO (f:=eG) (rfl) fun y=> ?_
   refine aT (ah (aG (ah (bG (az (cw (Rt (rfl:_=List.map aW st.1) fun _=>rfl) ?_))))))
   refine ao (Ru (f:=aW) (lv:=(fun sA=>[.list (sA.map cf)])) (bQ:=[.rp [.i .i64 y.Kind,.s y.Path]]) (fun u sA=>Sm.at (tV (aW u) (.rp [.i .i64 y.Kind,.s y.Path]) [.list (sA.map cf)]) (Hz u y sA)) st.2.1 st.1) fun aV=> ?_
   refine ah (a7 (az ?_))
   exact aa (rfl)
  ·exact aa (rfl)
 ·refine cw rfl (ah (a7 (ah (a7 (az ?_)))))
  exact aa (rfl)
theorem EV (k:Nat) (x0:af):Sm (fun r=> .dG ((fun _=> .cC []) r.1) [.list (r.2.r.Shelf.L.map aP),.i .i64 r.2.r.bM.fQ,.list (r.2.r.bM.L.map aQ),.list (r.2.r.bk.L.map aW),.list (r.2.r.Seen.map aY),.i .i64 r.2.o.Client,.i .i64 r.2.o.Seq,.i .i64 r.2.o.Kind,.s r.2.o.Path,.s r.2.o.Value,.i .i64 r.2.o.Version,.i .i64 r.2.o.Session,.i .i64 r.2.o.Span,.i .i64 r.2.x.Client,.i .i64 r.2.x.Seq,.i .i64 r.2.x.E,.s r.2.x.Value,.i .i64 r.2.x.Version,.list (r.2.x.Names.map MV.s),.list (r.2.l.map eG)]) (Ej [105,106,107,108,109,110,111,112,113,114,115] k fun k=>cE k [.cell (.func 0 [.list (x0.r.Shelf.L.map aP),.i .i64 x0.r.bM.fQ,.list (x0.r.bM.L.map aQ),.list (x0.r.bk.L.map aW),.list (x0.r.Seen.map aY),.i .i64 x0.o.Client,.i .i64 x0.o.Seq,.i .i64 x0.o.Kind,.s x0.o.Path,.s x0.o.Value,.i .i64 x0.o.Version,.i .i64 x0.o.Session,.i .i64 x0.o.Span,.i .i64 x0.x.Client,.i .i64 x0.x.Seq,.i .i64 x0.x.E,.s x0.x.Value,.i .i64 x0.x.Version,.list (x0.x.Names.map MV.s),.list (x0.l.map eG)])]) (lm k x0):=by
 unfold lm
 refine nO (fun _=>Sm.at (od _) (xZ x0)) ?_
 refine nO (fun _=>Sm.at (oM _) (zj x0)) ?_
 refine nO (fun _=>Sm.at (qD _) (DI x0)) ?_
 refine nO (fun _=>Sm.at (qE _) (DJ x0)) ?_
 refine nO (fun _=>Sm.at (oN _) (zk x0)) ?_
 refine nO (fun _=>Sm.at (qk _) (BC x0)) ?_
 refine nO (fun _=>Sm.at (ql _) (BD x0)) ?_
 refine nO (fun _=>Sm.at (pj _) (Ae x0)) ?_
 refine nO (fun _=>Sm.at (pk _) (Af x0)) ?_
 refine nO (fun _=>Sm.at (qm _) (BE x0)) ?_
 refine Uv (fun _=>Sm.at (pn _) (Ag x0))
theorem vR (a:au) (a1:av):Sm (fun r=> .cC [fp r.1,aY r.2.1,.list (r.2.2.map cf)]) (ml (fp a) (cy a1)) (kf a a1):=by
 unfold ml kf
 refine aT (mU (aT (iZ ?_)))
 refine ao (Ac a a1) fun rA=> ?_
 refine cH (ah (aT (eO (ah (aZ (az ?_))))))
 refine aO ?_ ?_
 ·exact aa (rfl)
 ·refine ao (Lh) fun aV=> ?_
  refine a7 ?_
  refine bO (f:=(fun x:Nat=>MV.func x [])) (rfl) fun y=> ?_
  refine rK (rJ (az ?_))
  refine ao (EV y (⟨a,a1,rA.1,([]:List aA)⟩:af)) fun cY=> ?_
  refine FN (aw ?_)
  refine ao (Li cY.2.r.bk cY.2.l) fun kw=> ?_
  refine cH (ah (aT (ah (a7 (az (ah (a7 (az ?_))))))))
  refine ao (pe (size:=6) (f:=aY) (fun _=>rfl) a.Seen) fun EH=> ?_
  refine pM ?_
  refine ao (sW a a1.Client) fun K8=> ?_
  refine cH (yZ ?_)
  refine ao (f:=(fun r=>(0,(v1 r)))) ?_ fun w=> ?_
  ·refine aO ?_ ?_
   ·refine bO (f:=aY) (rfl) fun y1=> ?_
    refine aT (eO ?_)
    exact aa (by simp [jL,ek,lU,al,v1])
   ·refine ao (CT (f:=aY) EH K8.1 ([cY.2.x]:List ai)) fun rA6=> ?_
    refine pM ?_
    exact aa (rfl)
  ·refine cw rfl (aw ?_)
   refine BO ?_
   exact aa (rfl)
theorem Oy:Sm b2 (wA) (zW):=by
 unfold wA zW
 exact aa (rfl)
theorem Oz:Sm c8 (wB) (zX):=by
 unfold wB zX
 exact aa (rfl)
theorem F9:Sm fp (sS) (sG):=by
 unfold sS sG
 refine ao (Oy) fun rA=> ?_
 refine aT (ah (a7 (az ?_)))
 refine ao (Oz) fun aV=> ?_
 refine aT (za ?_)
 exact aa (rfl)
theorem uS (s1:List ae) (s2:List ae):Sm MV.b (fO (.list (s1.map aP)) (.list (s2.map aP))) (fK s1 s2):=by
 unfold fO fK
 refine a7 (a7 (ba (n:=s1.length) (by simp only [List.length_map,List.length_cons,List.length_nil]) (ba (n:=s2.length) (by simp only [List.length_map,List.length_cons,List.length_nil]) ?_)))
 refine aO ?_ ?_
 ·exact aa (rfl)
 ·refine ba (n:=s1.length) (by simp only [List.length_map,List.length_cons,List.length_nil]) ?_
  refine ao (cQ (fun r=>[.i .i64 r]) (Sum.elim (fun r=>(2,[])) (fun r=>(1,[.b r]))) (rfl) fun st=> ?_) fun w=> ?_
  ·unfold eS
   refine ah (aG (az ?_))
   refine aU ?_ ?_
   ·refine bO (f:=aP) (rfl) fun y=> ?_
    refine aT (km ?_)
    refine bO (f:=aP) (rfl) fun y1=> ?_
    refine aT (km ?_)
    refine aO ?_ ?_
    ·exact aa (rfl)
    ·exact aa (rfl)
   ·exact aa (rfl)
  ·rcases w with p1|p2
   ·refine lc rfl (az ?_)
    exact aa (rfl)
   ·refine lf rfl (cw rfl (ah (aZ (az ?_))))
    exact aa (rfl)
theorem Lj (a:aB) (b:aB):Sm MV.b (tX (b2 a) (b2 b)) (pV a b):=by
 unfold tX pV
 refine aT (ah (a7 (az (aT (ah (a7 (az ?_)))))))
 refine ao (uS a.L b.L) fun rA=> ?_
 refine aZ ?_
 exact aa (rfl)
theorem rU (s1:List ar) (s2:List ar):Sm MV.b (ew (.list (s1.map aQ)) (.list (s2.map aQ))) (dp s1 s2):=by
 unfold ew dp
 refine a7 (a7 (ba (n:=s1.length) (by simp only [List.length_map,List.length_cons,List.length_nil]) (ba (n:=s2.length) (by simp only [List.length_map,List.length_cons,List.length_nil]) ?_)))
 refine aO ?_ ?_
 ·exact aa (rfl)
 ·refine ba (n:=s1.length) (by simp only [List.length_map,List.length_cons,List.length_nil]) ?_
  refine ao (cQ (fun r=>[.i .i64 r]) (Sum.elim (fun r=>(2,[])) (fun r=>(1,[.b r]))) (rfl) fun st=> ?_) fun w=> ?_
  ·unfold cV
   refine ah (aG (az ?_))
   refine aU ?_ ?_
   ·refine bO (f:=aQ) (rfl) fun y=> ?_
    refine aT (y9 ?_)
    refine bO (f:=aQ) (rfl) fun y1=> ?_
    refine aT (y9 ?_)
    refine aO ?_ ?_
    ·exact aa (rfl)
    ·exact aa (rfl)
   ·exact aa (rfl)
  ·rcases w with p1|p2
   ·refine lc rfl (az ?_)
    exact aa (rfl)
   ·refine lf rfl (cw rfl (ah (aZ (az ?_))))
    exact aa (rfl)
theorem Lk (a:aD) (b:aD):Sm MV.b (tY (c8 a) (c8 b)) (pW a b):=by
 unfold tY pW
 refine aT (za (aT (za ?_)))
 refine ao (f:=fun r=>[.b r]) ?_ fun w=> ?_
 ·refine aU ?_ ?_
  ·refine ao (rU a.L b.L) fun rA=> ?_
   refine aZ ?_
   exact aa (rfl)
  ·exact aa (rfl)
 ·refine ah (aZ (az ?_))
  exact aa (rfl)
theorem uf (s1:List ak) (s2:List ak):Sm MV.b (fm (.list (s1.map aW)) (.list (s2.map aW))) (dN s1 s2):=by
 unfold fm dN
 refine a7 (a7 (ba (n:=s1.length) (by simp only [List.length_map,List.length_cons,List.length_nil]) (ba (n:=s2.length) (by simp only [List.length_map,List.length_cons,List.length_nil]) ?_)))
 refine aO ?_ ?_
 ·exact aa (rfl)
 ·refine ba (n:=s1.length) (by simp only [List.length_map,List.length_cons,List.length_nil]) ?_
  refine ao (cQ (fun r=>[.i .i64 r]) (Sum.elim (fun r=>(2,[])) (fun r=>(1,[.b r]))) (rfl) fun st=> ?_) fun w=> ?_
  ·unfold dq
   refine ah (aG (az ?_))
   refine aU ?_ ?_
   ·refine bO (f:=aW) (rfl) fun y=> ?_
    refine aT (zb ?_)
    refine bO (f:=aW) (rfl) fun y1=> ?_
    refine aT (zb ?_)
    refine aO ?_ ?_
    ·exact aa (rfl)
    ·exact aa (rfl)
   ·exact aa (rfl)
  ·rcases w with p1|p2
   ·refine lc rfl (az ?_)
    exact aa (rfl)
   ·refine lf rfl (cw rfl (ah (aZ (az ?_))))
    exact aa (rfl)
theorem Ll (a:bB) (b:bB):Sm MV.b (tZ (jt a) (jt b)) (pX a b):=by
 unfold tZ pX
 refine aT (ah (a7 (az (aT (ah (a7 (az ?_)))))))
 refine ao (uf a.L b.L) fun rA=> ?_
 refine aZ ?_
 exact aa (rfl)
theorem Lm (a:ai) (b:ai):Sm MV.b (ua (aY a) (aY b)) (kg a b):=by
 unfold ua kg
 refine aT (eO (aT (eO ?_)))
 refine ao (f:=fun r=>[.b r]) ?_ fun w=> ?_
 ·refine aU ?_ ?_
  ·refine aU ?_ ?_
   ·refine aU ?_ ?_
    ·refine aU ?_ ?_
     ·refine aU ?_ ?_
      ·refine ao (qp a.Names b.Names) fun rA=> ?_
       refine aZ ?_
       exact aa (rfl)
      ·exact aa (rfl)
     ·exact aa (rfl)
    ·exact aa (rfl)
   ·exact aa (rfl)
  ·exact aa (rfl)
 ·refine ah (aZ (az ?_))
  exact aa (rfl)
theorem gy (s1:List ai) (s2:List ai) (eq:ai→ai→Option Bool) {Hv:Nat} {nr:List MV} (afT:gv Hv=false) (fG: ∀(u0:ai) (u1:ai),Sm MV.b (bZ Hv ([aY u0,aY u1]++nr)) (eq u0 u1)):Sm MV.b (bE (.list (s1.map aY)) (.list (s2.map aY)) (.func Hv nr)) (bl s1 s2 eq):=by
 unfold bE bl
 refine a7 (a7 (rK (ba (n:=s1.length) (by simp only [List.length_map,List.length_cons,List.length_nil]) (ba (n:=s2.length) (by simp only [List.length_map,List.length_cons,List.length_nil]) ?_))))
 refine aO ?_ ?_
 ·exact aa (rfl)
 ·refine ba (n:=s1.length) (by simp only [List.length_map,List.length_cons,List.length_nil]) ?_
  refine ao (cQ (fun r=>[.i .i64 r]) (Sum.elim (fun r=>(2,[])) (fun r=>(1,[.b r]))) (rfl) fun st=> ?_) fun w=> ?_
  ·unfold bg
   refine ah (aG (az ?_))
   refine aU ?_ ?_
   ·refine bO (f:=aY) (rfl) fun y=> ?_
    refine aT (eO ?_)
    refine bO (f:=aY) (rfl) fun y1=> ?_
    refine aT (eO (rJ (cw (by rw [afT];rfl) ?_)))
    refine ao (fG y y1) fun rA=> ?_
    refine aZ ?_
    refine aO ?_ ?_
    ·exact aa (rfl)
    ·exact aa (rfl)
   ·exact aa (rfl)
  ·rcases w with p1|p2
   ·refine lc rfl (az ?_)
    exact aa (rfl)
   ·refine lf rfl (cw rfl (ah (aZ (az ?_))))
    exact aa (rfl)
theorem Ln (a:au) (b:au):Sm MV.b (ub (fp a) (fp b)) (pY a b):=by
 unfold ub pY
 refine aT (mU (aT (mU ?_)))
 refine ao (f:=fun r=>[.b r]) ?_ fun w=> ?_
 ·refine ao (Lj a.Shelf b.Shelf) fun rA=> ?_
  refine aZ ?_
  refine aO ?_ ?_
  ·refine ao (Lk a.bM b.bM) fun aV=> ?_
   refine aZ ?_
   refine aO ?_ ?_
   ·refine ao (Ll a.bk b.bk) fun cY=> ?_
    refine aZ ?_
    refine aO ?_ ?_
    ·refine ao (gy a.Seen b.Seen kg (Hv:=80) (nr:=[]) rfl (fun u2 u3=>Sm.at (ey _ _) (Lm u2 u3))) fun kw=> ?_
     refine aZ ?_
     exact aa (rfl)
    ·exact aa (rfl)
   ·exact aa (rfl)
  ·exact aa (rfl)
 ·refine ah (aZ (az ?_))
  exact aa (rfl)
theorem Ga:Sm MV.b (sV) (pw):=by
 unfold sV pw
 refine ao (F9) fun rA=> ?_
 refine aT (mU ?_)
 refine ao (vR rA (⟨1,1,1,([47,97]:List UInt8),([120]:List UInt8),0,0,0⟩:av)) fun aV=> ?_
 refine cH (ah (aT (mU (ah (aT (eO (ah (a7 (az ?_)))))))))
 refine ao (vR aV.1 (⟨1,1,1,([47,97]:List UInt8),([120]:List UInt8),0,0,0⟩:av)) fun cY=> ?_
 refine cH (ah (aT (mU (ah (aT (eO (ah (a7 (az ?_)))))))))
 refine ao (DG cY.1 1) fun kw=> ?_
 refine cH (ah (aT (eO (ah (aZ (az ?_))))))
 refine ao (f:=fun r=>[.b r]) ?_ fun w=> ?_
 ·refine aU ?_ ?_
  ·refine aU ?_ ?_
   ·refine ba (n:=aV.1.Shelf.L.length) (by simp only [List.length_map,List.length_cons,List.length_nil]) ?_
    refine aU ?_ ?_
    ·refine ao (Ln aV.1 cY.1) fun EH=> ?_
     refine aZ ?_
     refine aO ?_ ?_
     ·refine aO ?_ ?_
      ·exact aa (rfl)
      ·exact aa (rfl)
     ·exact aa (rfl)
    ·exact aa (rfl)
   ·exact aa (rfl)
  ·exact aa (rfl)
 ·refine ah (aZ (az ?_))
  exact aa (rfl)
theorem BF (a:List av):Sm MV.b (oP (.list (a.map cy))) (lG a):=by
 unfold oP lG
 refine a7 ?_
 refine ao (Ot a) fun rA=> ?_
 refine aZ ?_
 refine aO ?_ ?_
 ·refine ao (Ga) fun aV=> ?_
  refine aZ ?_
  exact aa (rfl)
 ·refine ao (F9) fun cY=> ?_
  refine aT (mU ?_)
  refine ao (cQ (fun r=>[.list (r.1.map aP),.i .i64 r.2.1,.list (r.2.2.1.map aQ),.list (r.2.2.2.1.map aW),.list (r.2.2.2.2.1.map aY),.i .i64 r.2.2.2.2.2]) (Sum.elim (fun r=>(2,[])) (fun r=>(1,[.b r]))) (rfl) fun st=> ?_) fun w=> ?_
  ·unfold gn
   refine ah (a7 (ah (aG (ah (a7 (ah (a7 (ah (a7 (ah (aG ?_)))))))))))
   refine az (ba (n:=a.length) (by simp only [List.length_map,List.length_cons,List.length_nil]) ?_)
   refine aU ?_ ?_
   ·refine bO (f:=cy) (rfl) fun y=> ?_
    refine aT (iZ ?_)
    refine ao (vR (⟨(⟨st.1⟩:aB),(⟨st.2.1,st.2.2.1⟩:aD),(⟨st.2.2.2.1⟩:bB),st.2.2.2.2.1⟩:au) y) fun kw=> ?_
    refine cH (ah (aT (mU (ah (aT (eO (ah (a7 (az ?_)))))))))
    refine ao (cQ (fun r=>[.i .i64 r]) (Sum.elim (fun r=>(4,[])) (fun r=>(1,[.b r]))) (rfl) fun dR=> ?_) fun w1=> ?_
    ·unfold gm
     refine ah (aG (az (ba (n:=kw.2.2.length) (by simp only [List.length_map,List.length_cons,List.length_nil]) ?_)))
     refine aU ?_ ?_
     ·refine ao (cQ (fun r=>[.b r.1,.i .i64 r.2]) (fun r=>(6,[.b r])) (rfl) fun dY=> ?_) fun w2=> ?_
      ·unfold gk
       refine ah (aZ (ah (aG (az (ba (n:=st.2.2.2.1.length) (by simp only [List.length_map,List.length_cons,List.length_nil]) ?_)))))
       refine aU ?_ ?_
       ·refine ao (f:=fun r=>[.b r]) ?_ fun w3=> ?_
        ·refine aO ?_ ?_
         ·exact aa (rfl)
         ·refine bO (f:=aW) (rfl) fun y1=> ?_
          refine aT (zb ?_)
          refine bO (f:=cf) (rfl) fun y2=> ?_
          refine aT (wC ?_)
          exact aa (rfl)
        ·refine ah (aZ (az ?_))
         exact aa (rfl)
       ·exact aa (rfl)
      ·refine cw rfl (ah (aZ (az ?_)))
       refine ao (cQ (fun r=>[.b r.1,.i .i64 r.2]) (fun r=>(8,[.b r])) (rfl) fun mA=> ?_) fun w4=> ?_
       ·unfold gl
        refine ah (aZ (ah (aG (az ?_))))
        refine aU ?_ ?_
        ·refine bO (f:=cy) (rfl) fun y3=> ?_
         refine aT (iZ ?_)
         refine ao (f:=fun r=>[.b r]) ?_ fun w5=> ?_
         ·refine aO ?_ ?_
          ·exact aa (rfl)
          ·refine bO (f:=cf) (rfl) fun y4=> ?_
           refine aT (wC ?_)
           refine aU ?_ ?_
           ·refine bO (f:=cf) (rfl) fun y5=> ?_
            refine aT (wC ?_)
            refine aU ?_ ?_
            ·refine bO (f:=cf) (rfl) fun y6=> ?_
             refine aT (wC ?_)
             refine aU ?_ ?_
             ·refine aU ?_ ?_
              ·exact aa (rfl)
              ·exact aa (rfl)
             ·exact aa (rfl)
            ·exact aa (rfl)
           ·exact aa (rfl)
         ·refine ah (aZ (az ?_))
          exact aa (rfl)
        ·exact aa (rfl)
       ·refine cw rfl (ah (aZ (az ?_)))
        refine ao (f:=fun r=>[.b r]) ?_ fun w6=> ?_
        ·refine aO ?_ ?_
         ·exact aa (rfl)
         ·refine aO ?_ ?_
          ·exact aa (rfl)
          ·refine bO (f:=cf) (rfl) fun y7=> ?_
           refine aT (wC ?_)
           refine bO (f:=cf) (rfl) fun y8=> ?_
           refine aT (wC ?_)
           refine ao (xq y7.C y8.W) fun EH=> ?_
           refine aZ ?_
           refine aO ?_ ?_
           ·exact aa (rfl)
           ·exact aa (rfl)
        ·refine ah (aZ (az ?_))
         refine aO ?_ ?_
         ·exact aa (rfl)
         ·exact aa (rfl)
     ·exact aa (rfl)
    ·rcases w1 with p4|p5
     ·refine lc rfl (az ?_)
      refine ao (f:=fun r=>[.b r]) ?_ fun w7=> ?_
      ·refine ba (n:=kw.1.bk.L.length) (by simp only [List.length_map,List.length_cons,List.length_nil]) (ba (n:=kw.2.2.length) (by simp only [List.length_map,List.length_cons,List.length_nil]) (ba (n:=st.2.2.2.1.length) (by simp only [List.length_map,List.length_cons,List.length_nil]) ?_))
       refine aO ?_ ?_
       ·refine ba (n:=kw.2.2.length) (by simp only [List.length_map,List.length_cons,List.length_nil]) ?_
        refine aU ?_ ?_
        ·exact aa (rfl)
        ·refine ba (n:=kw.1.bk.L.length) (by simp only [List.length_map,List.length_cons,List.length_nil]) (ba (n:=st.2.2.2.1.length) (by simp only [List.length_map,List.length_cons,List.length_nil]) ?_)
         exact aa (rfl)
       ·exact aa (rfl)
      ·refine ah (aZ (az ?_))
       refine aO ?_ ?_
       ·exact aa (rfl)
       ·exact aa (rfl)
     ·refine lf rfl (cw rfl (ah (aZ (az ?_))))
      exact aa (rfl)
   ·exact aa (rfl)
  ·rcases w with p6|p7
   ·refine lc rfl (az ?_)
    refine ao (Ga) fun K8=> ?_
    refine aZ ?_
    exact aa (rfl)
   ·refine lf rfl (cw rfl (ah (aZ (az ?_))))
    exact aa (rfl)
end Dn.S
