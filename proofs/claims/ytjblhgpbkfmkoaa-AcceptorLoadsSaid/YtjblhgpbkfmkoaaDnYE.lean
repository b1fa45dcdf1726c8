import Derived.Test.YtjblhgpbkfmkoaaDnYD
/-
  Typed and plain functions agree. Conditions: none.
-/
open Go Dn
set_option linter.unusedVariables false
set_option linter.unusedSimpArgs false
set_option maxRecDepth 100000
namespace Dn.S
@[reducible] def v0 (r : Int × (List Int) × Int) : List MV := [.i .i64 r.1, .list (r.2.1.map (MV.i .u8)), .i .i64 r.2.2]
@[reducible] def v1 (r : (List UInt8) × (List Int) × Int) : List MV := [.s r.1, .list (r.2.1.map (MV.i .u8)), .i .i64 r.2.2]
theorem gz {A B:Type} {g:B→A} {T:Option B} {k0 k1:IntKind} {x0:Int} {x1:Int} {K:Int→Int→Option A} (h:Sm g (K x0 x1) T):Sm g (rj k0 k1 [.i k0 x0,.i k1 x1] K) T:=ao (aG (ao (aG (aF h))))
theorem lk {A B:Type} {g:B→A} {T:Option B} {k0 k1 k3:IntKind} {x0:Int} {x1:Int} {x2:Bool} {x3:Int} {x4:List UInt8} {x5:List MV} {K:Int→Int→Bool→Int→List UInt8→List MV→Option A} (h:Sm g (K x0 x1 x2 x3 x4 x5) T):Sm g (mb k0 k1 k3 [.i k0 x0,.i k1 x1,.b x2,.i k3 x3,.s x4,.list x5] K) T:=ao (aG (ao (aG (ao (aM (ao (aG (ao (eH (ao (bw (aF h))))))))))))
theorem aX {A B:Type} {g:B→A} {T:Option B} {k0 k1 k2 k3 k5:IntKind} {x0:Int} {x1:Int} {x2:Int} {x3:Int} {x4:Bool} {x5:Int} {x6:List UInt8} {x7:List MV} {x8:List MV} {K:Int→Int→Int→Int→Bool→Int→List UInt8→List MV→List MV→Option A} (h:Sm g (K x0 x1 x2 x3 x4 x5 x6 x7 x8) T):Sm g (bh k0 k1 k2 k3 k5 [.i k0 x0,.i k1 x1,.i k2 x2,.i k3 x3,.b x4,.i k5 x5,.s x6,.list x7,.list x8] K) T:=ao (aG (ao (aG (ao (aG (ao (aG (ao (aM (ao (aG (ao (eH (ao (bw (ao (bw (aF h))))))))))))))))))
theorem cS {A B:Type} {g:B→A} {T:Option B} {k0 k1:IntKind} {x0:Int} {x1:Int} {x2:List UInt8} {K:Int→Int→List UInt8→Option A} (h:Sm g (K x0 x1 x2) T):Sm g (eZ k0 k1 [.i k0 x0,.i k1 x1,.s x2] K) T:=ao (aG (ao (aG (ao (eH (aF h))))))
theorem vl {A B:Type} {g:B→A} {T:Option B} {k0 k2:IntKind} {x0:Int} {x1:List MV} {x2:Int} {K:Int→List MV→Int→Option A} (h:Sm g (K x0 x1 x2) T):Sm g (BD k0 k2 [.i k0 x0,.list x1,.i k2 x2] K) T:=ao (aG (ao (bw (ao (aG (aF h))))))
theorem jm {A B:Type} {g:B→A} {T:Option B} {k1:IntKind} {x0:List MV} {x1:Int} {K:List MV→Int→Option A} (h:Sm g (K x0 x1) T):Sm g (tJ k1 [.list x0,.i k1 x1] K) T:=ao (bw (ao (aG (aF h))))
theorem Av {A B:Type} {g:B→A} {T:Option B} {x0:List MV} {x1:List MV} {x2:Bool} {K:List MV→List MV→Bool→Option A} (h:Sm g (K x0 x1 x2) T):Sm g (Fq [.list x0,.list x1,.b x2] K) T:=ao (bw (ao (bw (ao (aM (aF h))))))
theorem Aw (lA:List ab):Sm MV.b (nr (.list (lA.map ai))) (kn lA):=by
 unfold nr kn
 refine bw ?_
 refine ak (cI (fun r=>[.i .i64 r]) (Sum.elim (fun r=>(2,[])) (fun r=>(1,[.b r]))) (rfl) fun st=> ?_) fun w=> ?_
 ·unfold lY
  refine ao (aG (aF (aP (n:=lA.length) (by simp only [List.length_map,List.length_cons,List.length_nil]) ?_)))
  refine aJ ?_ ?_
  ·refine ak (f:=fun r=>[.b r]) ?_ fun w1=> ?_
   ·refine aJ ?_ ?_
    ·exact aa (rfl)
    ·refine br (f:=ai) (rfl) fun y=> ?_
     refine aQ (cS ?_)
     exact aa (rfl)
   ·refine ao (aM (aF ?_))
    refine ax ?_ ?_
    ·exact aa (rfl)
    ·exact aa (rfl)
  ·exact aa (rfl)
 ·rcases w with p1|p2
  ·refine mE rfl (aF ?_)
   exact aa (rfl)
  ·refine mF rfl (cf rfl (ao (aM (aF ?_))))
   exact aa (rfl)
theorem NX (a:af):Sm MV.b (vW (aZ a)) (sY a):=by
 unfold vW sY
 refine aQ (aX ?_)
 refine ak (f:=fun r=>[.b r]) ?_ fun w=> ?_
 ·refine aJ ?_ ?_
  ·refine ak (Aw a.Proof) fun rA=> ?_
   refine aM ?_
   refine ax ?_ ?_
   ·refine ak (Aw a.bS.L) fun bL=> ?_
    refine aM ?_
    exact aa (rfl)
   ·exact aa (rfl)
  ·exact aa (rfl)
 ·refine ao (aM (aF ?_))
  exact aa (rfl)
theorem zi (sA:aj):Sm (fun x:Nat×Nat=>MV.raw (.complex .f64 x.1 x.2)) (jv (bT sA)) (fY sA):=by
 unfold jv fY
 refine aQ (gz ?_)
 exact aa (rfl)
theorem mi (sA:aj) (times:Nat×Nat):Sm (MV.i .i64) (fw (bT sA) (.raw (.complex .f64 times.1 times.2))) (eg sA times):=by
 unfold fw eg
 refine aQ (gz (Ld ?_))
 refine ak (zi sA) fun rA=> ?_
 refine Ld (Bz (Bz ?_))
 refine vU fun f=> ?_
 refine Bz (Bz ?_)
 refine vU fun f1=> ?_
 refine vU fun f2=> ?_
 refine vU fun n=> ?_
 refine cA ?_
 exact aa (rfl)
theorem FA (sA:aj):Sm (MV.i .i64) (um (bT sA)) (oe sA):=by
 unfold um oe
 refine aQ (gz ?_)
 refine ak (mi sA (4613937818241073152,4611686018427387904)) fun rA=> ?_
 refine aG ?_
 exact aa (rfl)
theorem oD (sA:aj):Sm MV.b (gy (bT sA)) (dH sA):=by
 unfold gy dH
 refine aQ (gz ?_)
 refine ak (f:=fun r=>[.b r]) ?_ fun w=> ?_
 ·refine aJ ?_ ?_
  ·refine aJ ?_ ?_
   ·refine aJ ?_ ?_
    ·exact aa (rfl)
    ·exact aa (rfl)
   ·exact aa (rfl)
  ·exact aa (rfl)
 ·refine ao (aM (aF ?_))
  exact aa (rfl)
theorem tw (sA:aj) (me:Int):Sm (fun r=> .cN [aZ r.1,.i .i64 r.2]) (iB (bT sA) (.i .i64 me)) (dy sA me):=by
 unfold iB dy
 refine aQ (gz (aG ?_))
 refine ak (f:=fun r=>[.b r]) ?_ fun w=> ?_
 ·refine ak (oD sA) fun rA=> ?_
  refine aM ?_
  refine ax ?_ ?_
  ·exact aa (rfl)
  ·refine aJ ?_ ?_
   ·exact aa (rfl)
   ·refine ak (FA sA) fun bL=> ?_
    refine aG ?_
    exact aa (rfl)
 ·refine ao (aM (aF ?_))
  refine ax ?_ ?_
  ·exact aa (rfl)
  ·exact aa (rfl)
theorem zj (a:af):Sm cB (jx (aZ a)) (fZ a):=by
 unfold jx fZ
 refine aQ (aX ?_)
 exact aa (rfl)
theorem xW (a:af) (view:Int):Sm (fun r=> .cN [aZ r.1,cB r.2.1,.b r.2.2]) (iC (aZ a) (.i .i64 view)) (fm a view):=by
 unfold iC fm
 refine aQ (aX (aG ?_))
 refine ak (f:=fun r=>[.b r]) ?_ fun w=> ?_
 ·refine aJ ?_ ?_
  ·exact aa (rfl)
  ·exact aa (rfl)
 ·refine ao (aM (aF ?_))
  refine ax ?_ ?_
  ·exact aa (rfl)
  ·refine ak (zj (⟨a.S,a.Me,view,a.Has,a.At,a.Value,a.Proof,(⟨([]:List ab)⟩:aD)⟩:af)) fun rA=> ?_
   refine aQ (lk ?_)
   exact aa (rfl)
theorem Ih (sA:aj):Sm (MV.i .i64) (qB (bT sA)) (ng sA):=by
 unfold qB ng
 refine aQ (gz ?_)
 refine ak (mi sA (4611686018427387904,4611686018427387904)) fun rA=> ?_
 refine aG ?_
 exact aa (rfl)
theorem FB (sA:aj):Sm (MV.i .i64) (oq (bT sA)) (gx sA):=by
 unfold oq gx
 refine aQ (gz ?_)
 refine ak (mi sA (4611686018427387904,4607182418800017408)) fun rA=> ?_
 refine aG ?_
 exact aa (rfl)
theorem Ii (a:ab):Sm MV.b (qC (ai a)) (ko a):=by
 unfold qC ko
 refine aQ (cS ?_)
 refine ak (f:=fun r=>[.b r]) ?_ fun w=> ?_
 ·refine aJ ?_ ?_
  ·refine aJ ?_ ?_
   ·refine aJ ?_ ?_
    ·exact aa (rfl)
    ·exact aa (rfl)
   ·exact aa (rfl)
  ·exact aa (rfl)
 ·refine ao (aM (aF ?_))
  exact aa (rfl)
theorem Dy (t:aD):Sm MV.b (mc (jt t)) (fp t):=by
 unfold mc fp
 refine aQ (ao (bw (aF (aP (n:=t.L.length) (by simp only [List.length_map,List.length_cons,List.length_nil]) ?_))))
 refine ak (cI (fun r=>[.i .i64 r]) (Sum.elim (fun r=>(2,[])) (fun r=>(1,[.b r]))) (rfl) fun st=> ?_) fun w=> ?_
 ·unfold eI
  refine ao (aG (aF ?_))
  refine aJ ?_ ?_
  ·refine br (f:=ai) (rfl) fun y=> ?_
   refine aQ (cS ?_)
   refine ak (f:=fun r=>[.b r]) ?_ fun w1=> ?_
   ·refine ak (Ii y) fun rA=> ?_
    refine aM ?_
    refine ax ?_ ?_
    ·exact aa (rfl)
    ·refine aJ ?_ ?_
     ·refine br (f:=ai) (rfl) fun y1=> ?_
      refine aQ (cS ?_)
      exact aa (rfl)
     ·exact aa (rfl)
   ·refine ao (aM (aF ?_))
    refine ax ?_ ?_
    ·exact aa (rfl)
    ·exact aa (rfl)
  ·exact aa (rfl)
 ·rcases w with p1|p2
  ·refine mE rfl (aF ?_)
   exact aa (rfl)
  ·refine mF rfl (cf rfl (ao (aM (aF ?_))))
   exact aa (rfl)
theorem BO (t:aD) (view:Int) (value:List UInt8):Sm (H5 ai) (kf (jt t) (.i .i64 view) (.s value)) (et t view value):=by
 unfold kf et
 refine aQ (ao (bw (aF (aG (eH (aP (n:=t.L.length) (by simp only [List.length_map,List.length_cons,List.length_nil]) ?_))))))
 refine ak (cI (fun r=>[.list (r.1.map ai),.i .i64 r.2]) (fun r=>(2,[.list (r.map ai)])) (rfl) fun st=> ?_) fun w=> ?_
 ·unfold dk
  refine jm ?_
  refine aJ ?_ ?_
  ·refine br (f:=ai) (rfl) fun y=> ?_
   refine aQ (cS ?_)
   refine ak (f:=fun r=>[.b r]) ?_ fun w1=> ?_
   ·refine aJ ?_ ?_
    ·exact aa (rfl)
    ·exact aa (rfl)
   ·refine ao (aM (aF ?_))
    refine ak (f:=(fun r=>(0,[.list (r.map ai)]))) ?_ fun w2=> ?_
    ·refine ax ?_ ?_
     ·refine aP (n:=st.1.length) (by simp only [List.length_map,List.length_cons,List.length_nil]) (aP (n:=([y]:List ab).length) (by simp only [List.length_map,List.length_cons,List.length_nil]) (cA ?_))
      exact aa (by simp)
     ·exact aa (rfl)
    ·refine cf rfl (ao (bw (aF ?_)))
     exact aa (rfl)
  ·exact aa (rfl)
 ·refine cf rfl (ao (bw (aF ?_)))
  exact aa (rfl)
theorem Dz (t:aD) (view:Int) (value:List UInt8):Sm (MV.i .i64) (mf (jt t) (.i .i64 view) (.s value)) (fq t view value):=by
 unfold mf fq
 refine aQ (ao (bw (aF (aG (eH ?_)))))
 refine ak (BO t view value) fun rA=> ?_
 refine bw (aP (n:=rA.length) (by simp only [List.length_map,List.length_cons,List.length_nil]) ?_)
 exact aa (rfl)
theorem vm (sA:aj) (p:List ab):Sm MV.b (jK (bT sA) (.list (p.map ai))) (dz sA p):=by
 unfold jK dz
 refine aQ (gz (bw ?_))
 refine ak (f:=fun r=>[.b r]) ?_ fun w=> ?_
 ·refine ak (oD sA) fun rA=> ?_
  refine aM ?_
  refine ax ?_ ?_
  ·exact aa (rfl)
  ·refine aP (n:=p.length) (by simp only [List.length_map,List.length_cons,List.length_nil]) ?_
   refine ak (FB sA) fun bL=> ?_
   refine aG ?_
   refine ax ?_ ?_
   ·exact aa (rfl)
   ·refine ak (Dy (⟨p⟩:aD)) fun cL=> ?_
    refine aM ?_
    exact aa (rfl)
 ·refine ao (aM (aF ?_))
  refine ax ?_ ?_
  ·exact aa (rfl)
  ·refine ak (f:=fun r=>[.b r]) ?_ fun w1=> ?_
   ·refine aP (n:=p.length) (by simp only [List.length_map,List.length_cons,List.length_nil]) ?_
    refine br (f:=ai) (rfl) fun y=> ?_
    refine aQ (cS ?_)
    refine ak (FA sA) fun cZ=> ?_
    refine aG ?_
    refine aJ ?_ ?_
    ·refine br (f:=ai) (rfl) fun y1=> ?_
     refine aQ (cS ?_)
     refine br (f:=ai) (rfl) fun y2=> ?_
     refine aQ (cS (aP (n:=p.length) (by simp only [List.length_map,List.length_cons,List.length_nil]) ?_))
     refine ak (Dz (⟨p⟩:aD) y1.View y2.Value) fun nh=> ?_
     refine aG ?_
     exact aa (rfl)
    ·exact aa (rfl)
   ·refine ao (aM (aF ?_))
    exact aa (rfl)
theorem DA (p:List ab):Sm (fun r=> .cN [.i .i64 r.1,.s r.2.1,.b r.2.2]) (pP (.list (p.map ai))) (jH p):=by
 unfold pP jH
 refine bw (aP (n:=p.length) (by simp only [List.length_map,List.length_cons,List.length_nil]) ?_)
 refine aJ ?_ ?_
 ·exact aa (rfl)
 ·refine br (f:=ai) (rfl) fun y=> ?_
  refine aQ (cS ?_)
  refine br (f:=ai) (rfl) fun y1=> ?_
  refine aQ (cS ?_)
  exact aa (rfl)
theorem rv (rA:aw):Sm (MV.i .i64) (gb (cB rA)) (eJ rA):=by
 unfold gb eJ
 refine aQ (lk ?_)
 refine ak (DA rA.Proof) fun bL=> ?_
 refine dU (ao (aG (ao (eH (ao (aM (aF ?_)))))))
 refine ax ?_ ?_
 ·exact aa (rfl)
 ·exact aa (rfl)
theorem FC (a:aj) (a1:aw):Sm MV.b (ou (bT a) (cB a1)) (kT a a1):=by
 unfold ou kT
 refine aQ (gz (aQ (lk ?_)))
 refine ak (f:=fun r=>[.b r]) ?_ fun w=> ?_
 ·refine ak (oD a) fun rA=> ?_
  refine aM ?_
  refine ax ?_ ?_
  ·exact aa (rfl)
  ·refine aJ ?_ ?_
   ·exact aa (rfl)
   ·refine ak (FA a) fun bL=> ?_
    refine aG ?_
    refine aJ ?_ ?_
    ·exact aa (rfl)
    ·refine aJ ?_ ?_
     ·exact aa (rfl)
     ·exact aa (rfl)
 ·refine ao (aM (aF ?_))
  refine ax ?_ ?_
  ·exact aa (rfl)
  ·refine ak (f:=fun r=>[.b r]) ?_ fun w1=> ?_
   ·refine ax ?_ ?_
    ·refine ax ?_ ?_
     ·exact aa (rfl)
     ·exact aa (rfl)
    ·exact aa (rfl)
   ·refine ao (aM (aF ?_))
    refine ax ?_ ?_
    ·exact aa (rfl)
    ·refine ak (f:=fun r=>[.b r]) ?_ fun w2=> ?_
     ·refine ax ?_ ?_
      ·refine aJ ?_ ?_
       ·exact aa (rfl)
       ·refine aJ ?_ ?_
        ·exact aa (rfl)
        ·exact aa (rfl)
      ·exact aa (rfl)
     ·refine ao (aM (aF ?_))
      refine ax ?_ ?_
      ·exact aa (rfl)
      ·refine ak (f:=fun r=>[.b r]) ?_ fun w3=> ?_
       ·refine aP (n:=a1.Proof.length) (by simp only [List.length_map,List.length_cons,List.length_nil]) ?_
        refine aJ ?_ ?_
        ·exact aa (rfl)
        ·refine ak (vm a a1.Proof) fun cL=> ?_
         refine aM ?_
         refine ax ?_ ?_
         ·refine ak (rv a1) fun cZ=> ?_
          refine aG ?_
          exact aa (rfl)
         ·exact aa (rfl)
       ·refine ao (aM (aF ?_))
        exact aa (rfl)
theorem BP (sA:aj) (view:Int) (lA:List aw):Sm MV.b (kg (bT sA) (.i .i64 view) (.list (lA.map cB))) (iu sA view lA):=by
 unfold kg iu
 refine aQ (gz (aG (bw ?_)))
 refine ak (f:=fun r=>[.b r]) ?_ fun w=> ?_
 ·refine ak (oD sA) fun rA=> ?_
  refine aM ?_
  refine ax ?_ ?_
  ·exact aa (rfl)
  ·refine aP (n:=lA.length) (by simp only [List.length_map,List.length_cons,List.length_nil]) ?_
   refine ak (Ih sA) fun bL=> ?_
   refine aG ?_
   exact aa (rfl)
 ·refine ao (aM (aF ?_))
  refine ax ?_ ?_
  ·exact aa (rfl)
  ·refine aP (n:=lA.length) (by simp only [List.length_map,List.length_cons,List.length_nil]) ?_
   refine ak (cI (fun r=>[.i .i64 r.1,.i .i64 r.2]) (Sum.elim (fun r=>(2,[])) (fun r=>(1,[.b r]))) (rfl) fun st=> ?_) fun w1=> ?_
   ·unfold ir
    refine gz ?_
    refine aJ ?_ ?_
    ·refine br (f:=cB) (rfl) fun y=> ?_
     refine aQ (lk ?_)
     refine ak (f:=fun r=>[.b r]) ?_ fun w2=> ?_
     ·refine ak (FC sA y) fun cL=> ?_
      refine aM ?_
      refine ax ?_ ?_
      ·exact aa (rfl)
      ·refine ax ?_ ?_
       ·exact aa (rfl)
       ·exact aa (rfl)
     ·refine ao (aM (aF ?_))
      refine ax ?_ ?_
      ·exact aa (rfl)
      ·exact aa (rfl)
    ·exact aa (rfl)
   ·rcases w1 with p1|p2
    ·refine mE rfl (aF ?_)
     exact aa (rfl)
    ·refine mF rfl (cf rfl (ao (aM (aF ?_))))
     exact aa (rfl)
theorem FD (sA:aj):Sm (MV.i .i64) (ov (bT sA)) (kU sA):=by
 unfold ov kU
 refine aQ (gz ?_)
 refine ak (mi sA (4607182418800017408,4607182418800017408)) fun rA=> ?_
 refine aG ?_
 exact aa (rfl)
theorem BQ (a:aj) (a1:List aw):Sm (fun r=> .cN [.s r.1,.b r.2]) (kh (bT a) (.list (a1.map cB))) (iy a a1):=by
 unfold kh iy
 refine aQ (gz (bw (aP (n:=a1.length) (by simp only [List.length_map,List.length_cons,List.length_nil]) ?_)))
 refine ak (cI (fun r=>[.i .i64 r.1,.s r.2.1,.i .i64 r.2.2]) (fun r=>(2,[.i .i64 r.1,.s r.2])) (rfl) fun st=> ?_) fun w=> ?_
 ·unfold iv
  refine ao (aG (ao (eH (ao (aG (aF ?_))))))
  refine aJ ?_ ?_
  ·refine br (f:=cB) (rfl) fun y=> ?_
   refine aQ (lk ?_)
   refine ak (rv y) fun rA=> ?_
   refine aG ?_
   refine ak (f:=(fun r=>(0,[.i .i64 r.1,.s r.2]))) ?_ fun w1=> ?_
   ·refine aJ ?_ ?_
    ·refine br (f:=ai) (rfl) fun y1=> ?_
     refine aQ (cS ?_)
     exact aa (rfl)
    ·exact aa (rfl)
   ·refine cf rfl (ao (aG (ao (eH (aF ?_)))))
    exact aa (rfl)
  ·exact aa (rfl)
 ·refine cf rfl (ao (aG (ao (eH (aF (aP (n:=a1.length) (by simp only [List.length_map,List.length_cons,List.length_nil]) ?_))))))
  refine ak (cI (fun r=>[.list r.1,.i .i64 r.2]) (fun r=>(4,[.list r])) (rfl) fun ca=> ?_) fun w2=> ?_
  ·unfold dV
   refine jm ?_
   refine aJ ?_ ?_
   ·refine br (f:=cB) (rfl) fun y2=> ?_
    refine aQ (lk ?_)
    refine ak (f:=fun r=>[.b r]) ?_ fun w3=> ?_
    ·refine ax ?_ ?_
     ·exact aa (rfl)
     ·exact aa (rfl)
    ·refine ao (aM (aF ?_))
     refine ak (f:=(fun r=>(0,[.list r]))) ?_ fun w4=> ?_
     ·refine ax ?_ ?_
      ·exact aa (rfl)
      ·exact aa (rfl)
     ·refine cf rfl (ao (bw (aF ?_)))
      exact aa (rfl)
   ·exact aa (rfl)
  ·refine cf rfl (ao (bw (aF ?_)))
   refine ak (Lk (e:=id) (f:=(Sum.elim (fun r=>(6,[])) (fun r=>(1,[.s r.1,.b r.2])))) (List.map_id _).symm ?_ fun H8=> ?_) fun w5=> ?_
   ·exact aa (rfl)
   ·unfold iw
    refine QB fun key n=> ?_
    refine ak (FD a) fun bL=> ?_
    refine aG ?_
    refine aJ ?_ ?_
    ·exact aa (rfl)
    ·exact aa rfl
   ·rcases w5 with p5|p6
    ·refine mE rfl (aF ?_)
     exact aa (rfl)
    ·refine mF rfl (cf rfl (ao (eH (ao (aM (aF ?_))))))
     exact aa (rfl)
theorem xX (sA:aj) (view:Int) (lA:List aw) (value:List UInt8):Sm MV.b (iF (bT sA) (.i .i64 view) (.list (lA.map cB)) (.s value)) (ft sA view lA value):=by
 unfold iF ft
 refine aQ (gz (aG (bw (eH ?_))))
 refine ak (BP sA view lA) fun rA=> ?_
 refine aM ?_
 refine ax ?_ ?_
 ·exact aa (rfl)
 ·refine ak (BQ sA lA) fun bL=> ?_
  refine dU (ao (eH (ao (aM (aF ?_)))))
  refine ak (f:=fun r=>[.b r]) ?_ fun w=> ?_
  ·refine ax ?_ ?_
   ·exact aa (rfl)
   ·exact aa (rfl)
  ·refine ao (aM (aF ?_))
   exact aa (rfl)
theorem nE (a:af) (view:Int) (value:List UInt8) (rX:List aw):Sm (fun r=> .cN [aZ r.1,ai r.2.1,.b r.2.2]) (dX (aZ a) (.i .i64 view) (.s value) (.list (rX.map cB))) (di a view value rX):=by
 unfold dX di
 refine aQ (aX (aG (eH (bw ?_))))
 refine ak (f:=fun r=>[.b r]) ?_ fun w=> ?_
 ·refine ax ?_ ?_
  ·exact aa (rfl)
  ·refine ax ?_ ?_
   ·refine aJ ?_ ?_
    ·exact aa (rfl)
    ·exact aa (rfl)
   ·exact aa (rfl)
 ·refine ao (aM (aF ?_))
  refine ax ?_ ?_
  ·exact aa (rfl)
  ·refine ak (f:=fun r=>[.b r]) ?_ fun w1=> ?_
   ·refine aJ ?_ ?_
    ·refine aP (n:=rX.length) (by simp only [List.length_map,List.length_cons,List.length_nil]) ?_
     exact aa (rfl)
    ·exact aa (rfl)
   ·refine ao (aM (aF ?_))
    refine ak (f:=(Sum.elim (fun r=>(1,[.i .i64 r.1,.i .i64 r.2.1,.i .i64 r.2.2.1,.i .i64 r.2.2.2.1,.b r.2.2.2.2.1,.i .i64 r.2.2.2.2.2.1,.s r.2.2.2.2.2.2.1,.list (r.2.2.2.2.2.2.2.1.map ai),.list (r.2.2.2.2.2.2.2.2.1.map ai),.i .i64 r.2.2.2.2.2.2.2.2.2.1,.i .i64 r.2.2.2.2.2.2.2.2.2.2.1,.s r.2.2.2.2.2.2.2.2.2.2.2.1,.b r.2.2.2.2.2.2.2.2.2.2.2.2])) (fun r=>(0,[.i .i64 r.1,.i .i64 r.2.1,.i .i64 r.2.2.1,.i .i64 r.2.2.2.1,.b r.2.2.2.2.1,.i .i64 r.2.2.2.2.2.1,.s r.2.2.2.2.2.2.1,.list (r.2.2.2.2.2.2.2.1.map ai),.list (r.2.2.2.2.2.2.2.2.1.map ai),.i .i64 r.2.2.2.2.2.2.2.2.2.1,.i .i64 r.2.2.2.2.2.2.2.2.2.2.1,.s r.2.2.2.2.2.2.2.2.2.2.2])))) ?_ fun w2=> ?_
    ·refine ax ?_ ?_
     ·exact aa (rfl)
     ·refine ak (xX a.S view rX value) fun rA=> ?_
      refine aM ?_
      refine ax ?_ ?_
      ·exact aa (rfl)
      ·exact aa (rfl)
    ·rcases w2 with p1|p2
     ·refine mE rfl (ao (aG (ao (aG (ao (aG (ao (aG (ao (aM (ao ?_)))))))))))
      refine aG (ao (eH (ao (bw (ao (bw (ao (aG (ao (aG (ao ?_)))))))))))
      refine eH (ao (aM (aF ?_)))
      exact aa (rfl)
     ·refine mF rfl (cf rfl (ao (aG (ao (aG (ao (aG (ao (aG (ao (aM ?_)))))))))))
      refine ao (aG (ao (eH (ao (bw (ao (bw (cS ?_))))))))
      exact aa (rfl)
theorem Ax:Sm MV.b (ny) (jb):=by
 unfold ny jb
 refine ak (tw (⟨1,0⟩:aj) 2) fun rA=> ?_
 refine dU (ao (aQ (aX (ao (aG (aF ?_))))))
 refine ak (nE rA.1 0 ([120]:List UInt8) ([]:List aw)) fun bL=> ?_
 refine dU (ao (aQ (aX (ao (aQ (cS (ao (aM (aF ?_)))))))))
 refine ak (nE bL.1 0 ([121]:List UInt8) ([]:List aw)) fun cL=> ?_
 refine dU (ao (aQ (aX (ao (aQ (cS (ao (aM (aF ?_)))))))))
 refine ak (xW bL.1 3) fun cZ=> ?_
 refine dU (ao (aQ (aX (ao (aQ (lk (ao (aM (aF ?_)))))))))
 refine ak (f:=fun r=>[.b r]) ?_ fun w=> ?_
 ·refine aJ ?_ ?_
  ·refine ax ?_ ?_
   ·refine ax ?_ ?_
    ·refine ax ?_ ?_
     ·refine aJ ?_ ?_
      ·refine aJ ?_ ?_
       ·refine aJ ?_ ?_
        ·refine aJ ?_ ?_
         ·exact aa (rfl)
         ·exact aa (rfl)
        ·exact aa (rfl)
       ·exact aa (rfl)
      ·exact aa (rfl)
     ·exact aa (rfl)
    ·exact aa (rfl)
   ·exact aa (rfl)
  ·exact aa (rfl)
 ·refine ao (aM (aF ?_))
  exact aa (rfl)
theorem Ay (sA:bZ):Sm MV.b (nz (gw sA)) (jc sA):=by
 unfold nz jc
 refine aQ (gz ?_)
 refine ak (f:=fun r=>[.b r]) ?_ fun w=> ?_
 ·refine aJ ?_ ?_
  ·refine aJ ?_ ?_
   ·refine aJ ?_ ?_
    ·exact aa (rfl)
    ·exact aa (rfl)
   ·exact aa (rfl)
  ·exact aa (rfl)
 ·refine ao (aM (aF ?_))
  exact aa (rfl)
theorem LS (sA:bZ):Sm (MV.i .i64) (Ak (gw sA)) (vd sA):=by
 unfold Ak vd
 refine aQ (gz ?_)
 exact aa (rfl)
theorem G0 (sA:bZ) (me:Int):Sm (fun r=> .cN [dj r.1,.i .i64 r.2]) (td (gw sA) (.i .i64 me)) (oh sA me):=by
 unfold td oh
 refine aQ (gz (aG ?_))
 refine ak (f:=fun r=>[.b r]) ?_ fun w=> ?_
 ·refine ak (Ay sA) fun rA=> ?_
  refine aM ?_
  refine ax ?_ ?_
  ·exact aa (rfl)
  ·refine aJ ?_ ?_
   ·exact aa (rfl)
   ·refine ak (LS sA) fun bL=> ?_
    refine aG ?_
    exact aa (rfl)
 ·refine ao (aM (aF ?_))
  refine ax ?_ ?_
  ·exact aa (rfl)
  ·exact aa (rfl)
theorem Az (sA:aj):Sm gw (nA (bT sA)) (ni sA):=by
 unfold nA ni
 refine aQ (gz ?_)
 exact aa (rfl)
theorem DB (a:List ab) (b:List ab):Sm MV.b (pU (.list (a.map ai)) (.list (b.map ai))) (nj a b):=by
 unfold pU nj
 refine bw (bw (aP (n:=a.length) (by simp only [List.length_map,List.length_cons,List.length_nil]) (aP (n:=b.length) (by simp only [List.length_map,List.length_cons,List.length_nil]) ?_)))
 refine ax ?_ ?_
 ·exact aa (rfl)
 ·refine ak (cI (fun r=>[.i .i64 r]) (Sum.elim (fun r=>(2,[])) (fun r=>(1,[.b r]))) (rfl) fun st=> ?_) fun w=> ?_
  ·unfold kV
   refine ao (aG (aF (aP (n:=a.length) (by simp only [List.length_map,List.length_cons,List.length_nil]) ?_)))
   refine aJ ?_ ?_
   ·refine br (f:=ai) (rfl) fun y=> ?_
    refine aQ (cS ?_)
    refine br (f:=ai) (rfl) fun y1=> ?_
    refine aQ (cS ?_)
    refine ax ?_ ?_
    ·exact aa (rfl)
    ·exact aa (rfl)
   ·exact aa (rfl)
  ·rcases w with p1|p2
   ·refine mE rfl (aF ?_)
    exact aa (rfl)
   ·refine mF rfl (cf rfl (ao (aM (aF ?_))))
    exact aa (rfl)
theorem DC (a:aK) (b:aK):Sm MV.b (pV (dj a) (dj b)) (kW a b):=by
 unfold pV kW
 refine aQ (aX (aQ (aX ?_)))
 refine ak (f:=fun r=>[.b r]) ?_ fun w=> ?_
 ·refine ax ?_ ?_
  ·refine aJ ?_ ?_
   ·refine aJ ?_ ?_
    ·refine aJ ?_ ?_
     ·refine aJ ?_ ?_
      ·exact aa (rfl)
      ·exact aa (rfl)
     ·exact aa (rfl)
    ·exact aa (rfl)
   ·exact aa (rfl)
  ·exact aa (rfl)
 ·refine ao (aM (aF ?_))
  refine ak (f:=fun r=>[.b r]) ?_ fun w1=> ?_
  ·refine ax ?_ ?_
   ·refine ak (DB a.Proof b.Proof) fun rA=> ?_
    refine aM ?_
    refine ax ?_ ?_
    ·refine ak (DB a.bS.L b.bS.L) fun bL=> ?_
     refine aM ?_
     exact aa (rfl)
    ·exact aa (rfl)
   ·exact aa (rfl)
  ·refine ao (aM (aF ?_))
   exact aa (rfl)
theorem nF (a:af):Sm dj (gQ (aZ a)) (gJ a):=by
 unfold gQ gJ
 refine aQ (aX ?_)
 refine ak (Az a.S) fun rA=> ?_
 refine aQ (gz ?_)
 exact aa (rfl)
theorem oE (a:af):Sm MV.b (dc (aZ a)) (b5 a):=by
 unfold dc b5
 refine aQ (aX ?_)
 refine ak (f:=fun r=>[.b r]) ?_ fun w=> ?_
 ·refine aJ ?_ ?_
  ·exact aa (rfl)
  ·exact aa (rfl)
 ·refine ao (aM (aF ?_))
  refine ax ?_ ?_
  ·exact aa (rfl)
  ·refine ak (f:=fun r=>[.b r]) ?_ fun w1=> ?_
   ·refine ax ?_ ?_
    ·refine aJ ?_ ?_
     ·exact aa (rfl)
     ·refine aJ ?_ ?_
      ·exact aa (rfl)
      ·exact aa (rfl)
    ·exact aa (rfl)
   ·refine ao (aM (aF ?_))
    refine ax ?_ ?_
    ·exact aa (rfl)
    ·refine ak (f:=fun r=>[.b r]) ?_ fun w2=> ?_
     ·refine ax ?_ ?_
      ·refine ax ?_ ?_
       ·exact aa (rfl)
       ·exact aa (rfl)
      ·exact aa (rfl)
     ·refine ao (aM (aF ?_))
      refine ax ?_ ?_
      ·exact aa (rfl)
      ·refine ak (f:=fun r=>[.b r]) ?_ fun w3=> ?_
       ·refine aP (n:=a.Proof.length) (by simp only [List.length_map,List.length_cons,List.length_nil]) ?_
        refine aJ ?_ ?_
        ·exact aa (rfl)
        ·refine ak (vm a.S a.Proof) fun rA=> ?_
         refine aM ?_
         refine ax ?_ ?_
         ·refine br (f:=ai) (rfl) fun y=> ?_
          refine aQ (cS ?_)
          exact aa (rfl)
         ·exact aa (rfl)
       ·refine ao (aM (aF ?_))
        exact aa (rfl)
theorem G3 (a:ab):Sm MV.b (te (ai a)) (qz a):=by
 unfold te qz
 refine aQ (cS ?_)
 refine ak (f:=fun r=>[.b r]) ?_ fun w=> ?_
 ·refine aJ ?_ ?_
  ·refine aJ ?_ ?_
   ·refine aJ ?_ ?_
    ·exact aa (rfl)
    ·exact aa (rfl)
   ·exact aa (rfl)
  ·exact aa (rfl)
 ·refine ao (aM (aF ?_))
  exact aa (rfl)
theorem Ij (t:ct):Sm MV.b (qD (Dc t)) (kp t):=by
 unfold qD kp
 refine aQ (ao (bw (aF ?_)))
 refine ak (cI (fun r=>[.i .i64 r]) (Sum.elim (fun r=>(2,[])) (fun r=>(1,[.b r]))) (rfl) fun st=> ?_) fun w=> ?_
 ·unfold lZ
  refine ao (aG (aF (aP (n:=t.L.length) (by simp only [List.length_map,List.length_cons,List.length_nil]) ?_)))
  refine aJ ?_ ?_
  ·refine ak (f:=fun r=>[.b r]) ?_ fun w1=> ?_
   ·refine br (f:=ai) (rfl) fun y=> ?_
    refine aQ (cS ?_)
    refine ak (G3 y) fun rA=> ?_
    refine aM ?_
    refine ax ?_ ?_
    ·exact aa (rfl)
    ·refine aJ ?_ ?_
     ·refine br (f:=ai) (rfl) fun y1=> ?_
      refine aQ (cS ?_)
      refine br (f:=ai) (rfl) fun y2=> ?_
      refine aQ (cS ?_)
      exact aa (rfl)
     ·exact aa (rfl)
   ·refine ao (aM (aF ?_))
    refine ax ?_ ?_
    ·exact aa (rfl)
    ·exact aa (rfl)
  ·exact aa (rfl)
 ·rcases w with p1|p2
  ·refine mE rfl (aF ?_)
   exact aa (rfl)
  ·refine mF rfl (cf rfl (ao (aM (aF ?_))))
   exact aa (rfl)
theorem Ik (sA:bZ):Sm (MV.i .i64) (qE (gw sA)) (nk sA):=by
 unfold qE nk
 refine aQ (gz ?_)
 exact aa (rfl)
theorem Il (a:bZ) (a1:List ab):Sm MV.b (qF (gw a) (.list (a1.map ai))) (jd a a1):=by
 unfold qF jd
 refine aQ (gz (bw ?_))
 refine ak (f:=fun r=>[.b r]) ?_ fun w=> ?_
 ·refine ak (Ay a) fun rA=> ?_
  refine aM ?_
  refine ax ?_ ?_
  ·exact aa (rfl)
  ·refine aP (n:=a1.length) (by simp only [List.length_map,List.length_cons,List.length_nil]) ?_
   refine ak (Ik a) fun bL=> ?_
   refine aG ?_
   exact aa (rfl)
 ·refine ao (aM (aF ?_))
  refine ax ?_ ?_
  ·exact aa (rfl)
  ·refine ak (cI (fun r=>[.i .i64 r]) (Sum.elim (fun r=>(2,[])) (fun r=>(1,[.b r]))) (rfl) fun st=> ?_) fun w1=> ?_
   ·unfold ma
    refine ao (aG (aF (aP (n:=a1.length) (by simp only [List.length_map,List.length_cons,List.length_nil]) ?_)))
    refine aJ ?_ ?_
    ·refine br (f:=ai) (rfl) fun y=> ?_
     refine aQ (cS ?_)
     refine ak (f:=fun r=>[.b r]) ?_ fun w2=> ?_
     ·refine ak (G3 y) fun cL=> ?_
      refine aM ?_
      refine ax ?_ ?_
      ·exact aa (rfl)
      ·refine ak (LS a) fun cZ=> ?_
       refine aG ?_
       refine aJ ?_ ?_
       ·exact aa (rfl)
       ·refine br (f:=ai) (rfl) fun y1=> ?_
        refine aQ (cS ?_)
        refine ax ?_ ?_
        ·exact aa (rfl)
        ·refine br (f:=ai) (rfl) fun y2=> ?_
         refine aQ (cS ?_)
         refine ax ?_ ?_
         ·exact aa (rfl)
         ·refine aJ ?_ ?_
          ·refine br (f:=ai) (rfl) fun y3=> ?_
           refine aQ (cS ?_)
           exact aa (rfl)
          ·exact aa (rfl)
     ·refine ao (aM (aF ?_))
      refine ax ?_ ?_
      ·exact aa (rfl)
      ·exact aa (rfl)
    ·exact aa (rfl)
   ·rcases w1 with p1|p2
    ·refine mE rfl (aF ?_)
     exact aa (rfl)
    ·refine mF rfl (cf rfl (ao (aM (aF ?_))))
     exact aa (rfl)
theorem AA (a:aK):Sm MV.b (nB (dj a)) (je a):=by
 unfold nB je
 refine aQ (aX ?_)
 refine ak (G0 a.S a.Me) fun rA=> ?_
 refine dU (ao (aQ (aX (ao (aG (aF ?_))))))
 refine ak (f:=fun r=>[.b r]) ?_ fun w=> ?_
 ·refine ax ?_ ?_
  ·exact aa (rfl)
  ·refine aJ ?_ ?_
   ·exact aa (rfl)
   ·refine aJ ?_ ?_
    ·exact aa (rfl)
    ·refine ak (Ij a.bS) fun bL=> ?_
     refine aM ?_
     exact aa (rfl)
 ·refine ao (aM (aF ?_))
  refine ax ?_ ?_
  ·exact aa (rfl)
  ·refine ak (f:=fun r=>[.b r]) ?_ fun w1=> ?_
   ·refine ax ?_ ?_
    ·refine aJ ?_ ?_
     ·exact aa (rfl)
     ·refine aJ ?_ ?_
      ·exact aa (rfl)
      ·refine aJ ?_ ?_
       ·exact aa (rfl)
       ·refine ax ?_ ?_
        ·refine ax ?_ ?_
         ·exact aa (rfl)
         ·exact aa (rfl)
        ·exact aa (rfl)
    ·refine ax ?_ ?_
     ·refine ax ?_ ?_
      ·exact aa (rfl)
      ·exact aa (rfl)
     ·exact aa (rfl)
   ·refine ao (aM (aF ?_))
    refine ax ?_ ?_
    ·exact aa (rfl)
    ·refine ak (f:=fun r=>[.b r]) ?_ fun w2=> ?_
     ·refine aP (n:=a.Proof.length) (by simp only [List.length_map,List.length_cons,List.length_nil]) ?_
      refine aJ ?_ ?_
      ·refine ak (Il a.S a.Proof) fun cL=> ?_
       refine aM ?_
       refine ax ?_ ?_
       ·exact aa (rfl)
       ·refine br (f:=ai) (rfl) fun y=> ?_
        refine aQ (cS ?_)
        exact aa (rfl)
      ·exact aa (rfl)
     ·refine ao (aM (aF ?_))
      refine ax ?_ ?_
      ·exact aa (rfl)
      ·refine ak (cI (fun r=>[.i .i64 r]) (Sum.elim (fun r=>(2,[])) (fun r=>(1,[.b r]))) (rfl) fun st=> ?_) fun w3=> ?_
       ·unfold gK
        refine ao (aG (aF (aP (n:=a.bS.L.length) (by simp only [List.length_map,List.length_cons,List.length_nil]) ?_)))
        refine aJ ?_ ?_
        ·refine ak (f:=fun r=>[.b r]) ?_ fun w4=> ?_
         ·refine br (f:=ai) (rfl) fun y1=> ?_
          refine aQ (cS ?_)
          refine ak (LS a.S) fun cZ=> ?_
          refine aG ?_
          refine aJ ?_ ?_
          ·exact aa (rfl)
          ·refine br (f:=ai) (rfl) fun y2=> ?_
           refine aQ (cS ?_)
           exact aa (rfl)
         ·refine ao (aM (aF ?_))
          refine ax ?_ ?_
          ·exact aa (rfl)
          ·exact aa (rfl)
        ·exact aa (rfl)
       ·rcases w3 with p1|p2
        ·refine mE rfl (aF ?_)
         exact aa (rfl)
        ·refine mF rfl (cf rfl (ao (aM (aF ?_))))
         exact aa (rfl)
theorem xY (b:List Int):Sm (fun r=> .cN [.i .u64 r.1,.list (r.2.1.map (MV.i .u8)),.i .i64 r.2.2]) (lh (.list (b.map (MV.i .u8)))) (jf b):=by
 unfold lh jf
 refine bw (aP (n:=b.length) (by simp only [List.length_map,List.length_cons,List.length_nil]) ?_)
 refine aJ ?_ ?_
 ·exact aa (rfl)
 ·refine br (f:=(MV.i .u8)) (rfl) fun y=> ?_
  refine aG (cf (od (rfl:_=List.map (MV.i .u8) b) fun _=>rfl) (aP (n:=b.length) (by simp only [List.length_map,List.length_cons,List.length_nil]) (cA ?_)))
  refine ak (f:=fun r=>[.b r]) ?_ fun w=> ?_
  ·refine aJ ?_ ?_
   ·exact aa (rfl)
   ·refine aJ ?_ ?_
    ·refine aP (n:=(List.drop (Int.toNat 1) (List.take (Int.toNat (b.length:Int)) b)).length) (by simp only [List.length_map,List.length_append,List.length_cons,List.length_nil,List.length_take,List.length_drop,List.length_set]) ?_
     refine aJ ?_ ?_
     ·refine br (f:=(MV.i .u8)) (by simp only [lX,List.map_replicate,List.map_append,List.map_cons,List.map_nil,List.map_take,List.map_drop,List.map_set]) fun y1=> ?_
      refine aG ?_
      exact aa (rfl)
     ·exact aa (rfl)
    ·exact aa (rfl)
  ·refine ao (aM (aF ?_))
   refine ax ?_ ?_
   ·exact aa (rfl)
   ·refine aP (n:=(List.drop (Int.toNat 1) (List.take (Int.toNat (b.length:Int)) b)).length) (by simp only [List.length_map,List.length_append,List.length_cons,List.length_nil,List.length_take,List.length_drop,List.length_set]) ?_
    refine aJ ?_ ?_
    ·exact aa (rfl)
    ·refine aP (n:=(List.drop (Int.toNat 1) (List.take (Int.toNat (b.length:Int)) b)).length) (by simp only [List.length_map,List.length_append,List.length_cons,List.length_nil,List.length_take,List.length_drop,List.length_set]) (cA (aP (n:=(List.drop (Int.toNat 0) (List.take (Int.toNat (IntKind.wrap .i64 y)) (List.drop (Int.toNat 1) (List.take (Int.toNat (b.length:Int)) b)))).length) (by simp only [List.length_map,List.length_append,List.length_cons,List.length_nil,List.length_take,List.length_drop,List.length_set]) ?_))
     refine ak (cI (fun r=>[.i .u64 r.1,.i .i64 r.2]) (fun r=>(3,[.i .u64 r])) (rfl) fun st=> ?_) fun w1=> ?_
     ·unfold iz
      refine gz ?_
      refine aJ ?_ ?_
      ·refine br (f:=(MV.i .u8)) (by simp only [lX,List.map_replicate,List.map_append,List.map_cons,List.map_nil,List.map_take,List.map_drop,List.map_set]) fun y2=> ?_
       refine aG (cA ?_)
       exact aa (rfl)
      ·exact aa (rfl)
     ·refine cf rfl (ao (aG (aF (cf (od ((by simp only [lX,List.map_replicate,List.map_append,List.map_cons,List.map_nil,List.map_take,List.map_drop,List.map_set]):_=List.map (MV.i .u8) (List.drop (Int.toNat 1) (List.take (Int.toNat (b.length:Int)) b))) fun _=>rfl) (aP (n:=(List.drop (Int.toNat 1) (List.take (Int.toNat (b.length:Int)) b)).length) (by simp only [List.length_map,List.length_append,List.length_cons,List.length_nil,List.length_take,List.length_drop,List.length_set]) (cA ?_))))))
      exact aa (by first|(simp;done)|simp only [List.map_append,List.map_cons,List.map_nil,List.map_take,List.map_drop,List.map_set])
theorem zk (b:List Int):Sm (fun r=> .cN (v0 r)) (jy (.list (b.map (MV.i .u8)))) (ga b):=by
 unfold jy ga
 refine bw ?_
 refine ak (xY b) fun rA=> ?_
 refine dU (vl (cA ?_))
 exact aa (rfl)
theorem cK (t:au):Sm (fun r=> .kD ((MV.i .i64) r.1) (cg r.2)) (bR (cg t)) (bl t):=by
 unfold bR bl
 refine jm ?_
 refine ak (f:=(fun r=>(0,(v0 r)))) ?_ fun w=> ?_
 ·refine aJ ?_ ?_
  ·refine ak (zk t.b) fun rA=> ?_
   refine dU (vl ?_)
   exact aa (rfl)
  ·exact aa (rfl)
 ·refine cf rfl (vl ?_)
  exact aa (rfl)
theorem xZ (b:List Int) (most:Int):Sm (fun r=> .cN (v1 r)) (iH (.list (b.map (MV.i .u8))) (.i .i64 most)) (dW b most):=by
 unfold iH dW
 refine bw (aG ?_)
 refine ak (xY b) fun rA=> ?_
 refine dU (vl ?_)
 refine ax ?_ ?_
 ·exact aa (rfl)
 ·refine aJ ?_ ?_
  ·exact aa (rfl)
  ·refine aP (n:=rA.2.1.length) (by simp only [List.length_map,List.length_cons,List.length_nil]) ?_
   refine aJ ?_ ?_
   ·exact aa (rfl)
   ·refine aP (n:=rA.2.1.length) (by simp only [List.length_map,List.length_cons,List.length_nil]) (cA ?_)
    refine ul (M:=List.drop (Int.toNat 0) (List.take (Int.toNat rA.1) rA.2.1)) ((by simp only [lX,List.map_replicate,List.map_append,List.map_cons,List.map_nil,List.map_take,List.map_drop,List.map_set])) fun bs=> ?_
    refine cf (od (rfl:_=List.map (MV.i .u8) rA.2.1) fun _=>rfl) (aP (n:=rA.2.1.length) (by simp only [List.length_map,List.length_cons,List.length_nil]) (cA ?_))
    exact aa (by first|(simp [v1];done)|simp only [v1,List.map_append,List.map_cons,List.map_nil,List.map_take,List.map_drop,List.map_set])
theorem jW (t:au):Sm (fun r=> .kD (MV.s r.1) (cg r.2)) (c9 (cg t)) (bJ t):=by
 unfold c9 bJ
 refine jm ?_
 refine ak (f:=(fun r=>(0,(v1 r)))) ?_ fun w=> ?_
 ·refine aJ ?_ ?_
  ·refine ak (xZ t.b 6000) fun rA=> ?_
   refine dU (ao (eH (jm ?_)))
   exact aa (rfl)
  ·exact aa (rfl)
 ·refine cf rfl (ao (eH (jm ?_)))
  exact aa (rfl)
theorem pZ (t:au):Sm (fun r=> .kD ((H5 ai) r.1) (cg r.2)) (dC (cg t)) (bP t):=by
 unfold dC bP
 refine jm ?_
 refine ak (cK t) fun rA=> ?_
 refine sV (jm (aG ?_))
 refine ak (f:=fun r=>[.b r]) ?_ fun w=> ?_
 ·refine aJ ?_ ?_
  ·exact aa (rfl)
  ·exact aa (rfl)
 ·refine ao (aM (aF ?_))
  refine ak (f:=(fun r=>(0,[.list (r.1.map (MV.i .u8)),.i .i64 r.2]))) ?_ fun w1=> ?_
  ·refine ax ?_ ?_
   ·exact aa (rfl)
   ·exact aa (rfl)
  ·refine cf rfl (jm ?_)
   refine ak (f:=fun r=>[.b r]) ?_ fun w2=> ?_
   ·refine ax ?_ ?_
    ·exact aa (rfl)
    ·exact aa (rfl)
   ·refine ao (aM (aF ?_))
    refine ax ?_ ?_
    ·exact aa (rfl)
    ·refine cA (aP (n:=(List.replicate (Int.toNat rA.1) (⟨0,0,([]:List UInt8)⟩:ab)).length) (by simp only [List.length_replicate,List.length_map,List.length_append,List.length_cons,List.length_nil,List.length_take,List.length_drop,List.length_set]) ?_)
     refine ak (cI (fun r=>[.list (r.1.map ai),.i .i64 r.2.1,.list (r.2.2.1.map (MV.i .u8)),.i .i64 r.2.2.2]) (fun r=>(2,[.list (r.1.map ai),.list (r.2.1.map (MV.i .u8)),.i .i64 r.2.2])) (by simp [cg]) fun st=> ?_) fun w3=> ?_
     ·unfold bn
      refine ao (bw (vl ?_))
      refine aJ ?_ ?_
      ·refine ak (cK (⟨st.2.2.1,st.2.2.2⟩:au)) fun bL=> ?_
       refine sV (jm (aG ?_))
       refine br (f:=ai) (rfl) fun y=> ?_
       refine aQ (cS ?_)
       exact aa (by simp [cg])
      ·exact aa (rfl)
     ·refine cf rfl (ao (bw (jm ?_)))
      refine ak (cK (⟨w3.2.1,w3.2.2⟩:au)) fun cL=> ?_
      refine sV (jm (aG ?_))
      refine ak (jW cL.2) fun cZ=> ?_
      refine sV (jm (eH (aP (n:=w3.1.length) (by simp only [List.length_map,List.length_cons,List.length_nil]) ?_)))
      refine ak (cI (fun r=>[.list (r.1.map ai),.i .i64 r.2]) (fun r=>(4,[.list (r.map ai)])) (rfl) fun ca=> ?_) fun w4=> ?_
      ·unfold cC
       refine jm ?_
       refine aJ ?_ ?_
       ·refine br (f:=ai) (rfl) fun y1=> ?_
        refine aQ (cS ?_)
        refine br (f:=ai) (by simp only [lX,List.map_replicate,List.map_append,List.map_cons,List.map_nil,List.map_take,List.map_drop,List.map_set]) fun y2=> ?_
        refine aQ (cS ?_)
        exact aa (by simp [cg])
       ·exact aa (rfl)
      ·refine cf rfl (ao (bw (aF ?_)))
       exact aa (rfl)
theorem rz (Rw:Bool):Sm (MV.i .i64) (gd (.b Rw)) (dg Rw):=by
 unfold gd dg
 refine aM ?_
 refine ax ?_ ?_
 ·exact aa (rfl)
 ·exact aa (rfl)
theorem rB (a:aj) (a1:Int) (a2:List Int):Sm (fun r=> .cN [aZ r.1,.i .i64 r.2]) (gf (bT a) (.i .i64 a1) (.list (a2.map (MV.i .u8)))) (dI a a1 a2):=by
 unfold gf dI
 refine aQ (gz (aG (bw ?_)))
 refine ak (tw a a1) fun rA=> ?_
 refine dU (ao (aQ (aX (ao (aG (aF ?_))))))
 refine ax ?_ ?_
 ·exact aa (rfl)
 ·refine ak (cK (⟨a2,0⟩:au)) fun bL=> ?_
  refine sV (jm (aG ?_))
  refine ak (cK bL.2) fun cL=> ?_
  refine sV (jm (aG ?_))
  refine ak (cK cL.2) fun cZ=> ?_
  refine sV (jm (aG ?_))
  refine ak (jW cZ.2) fun nh=> ?_
  refine sV (jm (eH ?_))
  refine ak (pZ nh.2) fun sZ=> ?_
  refine sV (jm (bw ?_))
  refine ak (f:=fun r=>[.b r]) ?_ fun w=> ?_
  ·refine ax ?_ ?_
   ·exact aa (rfl)
   ·refine ak (rz (decide (cL.1=1))) fun yF=> ?_
    refine aG ?_
    refine ax ?_ ?_
    ·exact aa (rfl)
    ·refine aP (n:=sZ.2.b.length) (by simp only [List.length_map,List.length_cons,List.length_nil]) ?_
     refine aJ ?_ ?_
     ·exact aa (rfl)
     ·refine ak (oE (⟨rA.1.S,rA.1.Me,bL.1,decide (cL.1=1),cZ.1,nh.1,sZ.1,rA.1.bS⟩:af)) fun ve=> ?_
      refine aM ?_
      exact aa (rfl)
  ·refine ao (aM (aF ?_))
   refine ax ?_ ?_
   ·exact aa (rfl)
   ·exact aa (rfl)
theorem DD (b:List Int):Sm (fun r=> .cN [.i .u64 r.1,.list (r.2.1.map (MV.i .u8)),.i .i64 r.2.2]) (pX (.list (b.map (MV.i .u8)))) (nm b):=by
 unfold pX nm
 refine bw (aP (n:=b.length) (by simp only [List.length_map,List.length_cons,List.length_nil]) ?_)
 refine aJ ?_ ?_
 ·exact aa (rfl)
 ·refine br (f:=(MV.i .u8)) (rfl) fun y=> ?_
  refine aG ?_
  refine ak (f:=fun r=>[.b r]) ?_ fun w=> ?_
  ·refine aJ ?_ ?_
   ·exact aa (rfl)
   ·refine aJ ?_ ?_
    ·refine aP (n:=b.length) (by simp only [List.length_map,List.length_cons,List.length_nil]) ?_
     refine aJ ?_ ?_
     ·refine br (f:=(MV.i .u8)) (rfl) fun y1=> ?_
      refine aG ?_
      exact aa (rfl)
     ·exact aa (rfl)
    ·exact aa (rfl)
  ·refine ao (aM (aF ?_))
   refine ax ?_ ?_
   ·exact aa (rfl)
   ·refine aP (n:=b.length) (by simp only [List.length_map,List.length_cons,List.length_nil]) ?_
    refine aJ ?_ ?_
    ·exact aa (rfl)
    ·refine ak (cI (fun r=>[.i .u64 r.1,.i .i64 r.2]) (fun r=>(2,[.i .u64 r])) (rfl) fun st=> ?_) fun w1=> ?_
     ·unfold kX
      refine gz ?_
      refine aJ ?_ ?_
      ·refine br (f:=(MV.i .u8)) (rfl) fun y2=> ?_
       refine aG ?_
       exact aa (rfl)
      ·exact aa (rfl)
     ·refine cf rfl (ao (aG (aF (cf (od (rfl:_=List.map (MV.i .u8) b) fun _=>rfl) (aP (n:=b.length) (by simp only [List.length_map,List.length_cons,List.length_nil]) (cA ?_))))))
      exact aa (by first|(simp;done)|simp only [List.map_append,List.map_cons,List.map_nil,List.map_take,List.map_drop,List.map_set])
theorem DE (b:List Int):Sm (fun r=> .cN (v0 r)) (mh (.list (b.map (MV.i .u8)))) (jI b):=by
 unfold mh jI
 refine bw ?_
 refine ak (DD b) fun rA=> ?_
 refine dU (vl ?_)
 refine ax ?_ ?_
 ·exact aa (rfl)
 ·refine oc ?_
  refine aJ ?_ ?_
  ·refine oc ?_
   exact aa (rfl)
  ·refine oc ?_
   exact aa (rfl)
theorem qH (b:List Int) (many:Int):Sm (fun r=> .cN [.list (r.1.map (MV.i .i64)),.list (r.2.1.map (MV.i .u8)),.b r.2.2]) (jk (.list (b.map (MV.i .u8))) (.i .i64 many)) (gO b many):=by
 unfold jk gO
 refine bw (aG ?_)
 refine ak (cI (fun r=>[.list (r.1.map (MV.i .u8)),.list (r.2.1.map (MV.i .i64)),.i .i64 r.2.2]) (Sum.elim (fun r=>(2,[.list (r.1.map (MV.i .u8)),.list (r.2.map (MV.i .i64))])) (fun r=>(1,[.list (r.1.map (MV.i .i64)),.list (r.2.1.map (MV.i .u8)),.b r.2.2]))) (rfl) fun st=> ?_) fun w=> ?_
 ·unfold gM
  refine ao (bw (jm ?_))
  refine aJ ?_ ?_
  ·refine ak (DE st.1) fun rA=> ?_
   refine dU (vl ?_)
   refine ax ?_ ?_
   ·exact aa (rfl)
   ·refine aP (n:=st.2.1.length) (by simp only [List.length_map,List.length_cons,List.length_nil]) (aP (n:=([rA.1]:List Int).length) (by simp only [List.length_map,List.length_cons,List.length_nil]) (cA ?_))
    exact aa (by simp)
  ·exact aa (rfl)
 ·rcases w with p1|p2
  ·refine mE rfl (ao (bw (ao (bw (aF ?_)))))
   exact aa (rfl)
  ·refine mF rfl (cf rfl (Av ?_))
   exact aa (rfl)
theorem tx (b:List Int) (most:Int):Sm (fun r=> .cN (v1 r)) (iI (.list (b.map (MV.i .u8))) (.i .i64 most)) (dA b most):=by
 unfold iI dA
 refine bw (aG ?_)
 refine ak (DD b) fun rA=> ?_
 refine dU (vl ?_)
 refine ax ?_ ?_
 ·exact aa (rfl)
 ·refine aJ ?_ ?_
  ·exact aa (rfl)
  ·refine aP (n:=rA.2.1.length) (by simp only [List.length_map,List.length_cons,List.length_nil]) ?_
   refine aJ ?_ ?_
   ·exact aa (rfl)
   ·refine aP (n:=rA.2.1.length) (by simp only [List.length_map,List.length_cons,List.length_nil]) (cA ?_)
    refine ul (M:=List.drop (Int.toNat 0) (List.take (Int.toNat rA.1) rA.2.1)) ((by simp only [lX,List.map_replicate,List.map_append,List.map_cons,List.map_nil,List.map_take,List.map_drop,List.map_set])) fun bs=> ?_
    refine cf (od (rfl:_=List.map (MV.i .u8) rA.2.1) fun _=>rfl) (aP (n:=rA.2.1.length) (by simp only [List.length_map,List.length_cons,List.length_nil]) (cA ?_))
    exact aa (by first|(simp [v1];done)|simp only [v1,List.map_append,List.map_cons,List.map_nil,List.map_take,List.map_drop,List.map_set])
theorem FE (a:List Int):Sm (fun r=> .cN [.list (r.1.map ai),.list (r.2.1.map (MV.i .u8)),.b r.2.2]) (oA (.list (a.map (MV.i .u8)))) (kY a):=by
 unfold oA kY
 refine bw ?_
 refine ak (qH a 1) fun rA=> ?_
 refine dU (Av ?_)
 refine ak (f:=fun r=>[.b r]) ?_ fun w=> ?_
 ·refine ax ?_ ?_
  ·exact aa (rfl)
  ·refine br (f:=(MV.i .i64)) (rfl) fun y=> ?_
   refine aG ?_
   refine aJ ?_ ?_
   ·exact aa (rfl)
   ·refine br (f:=(MV.i .i64)) (rfl) fun y1=> ?_
    refine aG ?_
    exact aa (rfl)
 ·refine ao (aM (aF ?_))
  refine ax ?_ ?_
  ·exact aa (rfl)
  ·refine br (f:=(MV.i .i64)) (rfl) fun y2=> ?_
   refine aG ?_
   refine aJ ?_ ?_
   ·exact aa (rfl)
   ·refine br (f:=(MV.i .i64)) (rfl) fun y3=> ?_
    refine aG ?_
    refine ak (qH rA.2.1 y3) fun bL=> ?_
    refine dU (Av ?_)
    refine ax ?_ ?_
    ·exact aa (rfl)
    ·refine ak (qH bL.2.1 1) fun cL=> ?_
     refine dU (Av ?_)
     refine ax ?_ ?_
     ·exact aa (rfl)
     ·refine ak (tx cL.2.1 6000) fun cZ=> ?_
      refine dU (ao (eH (jm ?_)))
      refine ax ?_ ?_
      ·exact aa (rfl)
      ·refine ak (cI (fun r=>[.list (r.1.map ai),.i .i64 r.2]) (fun r=>(2,[.list (r.map ai)])) (rfl) fun st=> ?_) fun w1=> ?_
       ·unfold iA
        refine jm (aP (n:=bL.1.length) (by simp only [List.length_map,List.length_cons,List.length_nil]) ?_)
        refine aJ ?_ ?_
        ·refine br (f:=(MV.i .i64)) (rfl) fun y4=> ?_
         refine aG ?_
         refine br (f:=(MV.i .i64)) (rfl) fun y5=> ?_
         refine aG (aP (n:=st.1.length) (by simp only [List.length_map,List.length_cons,List.length_nil]) (aP (n:=([(⟨y4,y5,cZ.1⟩:ab)]:List ab).length) (by simp only [List.length_map,List.length_cons,List.length_nil]) (cA ?_)))
         exact aa (by simp)
        ·exact aa (rfl)
       ·refine cf rfl (ao (bw (aF ?_)))
        exact aa (rfl)
theorem LU (a:bZ) (a1:Int) (a2:List Int):Sm (fun r=> .cN [dj r.1,.i .i64 r.2]) (tl (gw a) (.i .i64 a1) (.list (a2.map (MV.i .u8)))) (pJ a a1 a2):=by
 unfold tl pJ
 refine aQ (gz (aG (bw ?_)))
 refine ak (G0 a a1) fun rA=> ?_
 refine dU (ao (aQ (aX (ao (aG (aF ?_))))))
 refine ax ?_ ?_
 ·exact aa (rfl)
 ·refine ak (qH a2 3) fun bL=> ?_
  refine dU (Av ?_)
  refine ak (f:=fun r=>[.b r]) ?_ fun w=> ?_
  ·refine ax ?_ ?_
   ·exact aa (rfl)
   ·refine br (f:=(MV.i .i64)) (rfl) fun y=> ?_
    refine aG ?_
    refine ax ?_ ?_
    ·refine br (f:=(MV.i .i64)) (rfl) fun y1=> ?_
     refine aG ?_
     exact aa (rfl)
    ·exact aa (rfl)
  ·refine ao (aM (aF ?_))
   refine ax ?_ ?_
   ·exact aa (rfl)
   ·refine ak (tx bL.2.1 6000) fun cL=> ?_
    refine dU (ao (eH (jm ?_)))
    refine ax ?_ ?_
    ·exact aa (rfl)
    ·refine ak (FE cL.2.1) fun cZ=> ?_
     refine dU (Av ?_)
     refine ak (f:=fun r=>[.b r]) ?_ fun w1=> ?_
     ·refine ax ?_ ?_
      ·exact aa (rfl)
      ·refine aP (n:=cZ.2.1.length) (by simp only [List.length_map,List.length_cons,List.length_nil]) ?_
       exact aa (rfl)
     ·refine ao (aM (aF ?_))
      refine ax ?_ ?_
      ·exact aa (rfl)
      ·refine br (f:=(MV.i .i64)) (rfl) fun y2=> ?_
       refine aG ?_
       refine br (f:=(MV.i .i64)) (rfl) fun y3=> ?_
       refine aG ?_
       refine br (f:=(MV.i .i64)) (rfl) fun y4=> ?_
       refine aG ?_
       refine ak (AA (⟨rA.1.S,rA.1.Me,y2,decide (y3=1),y4,cL.1,cZ.1,rA.1.bS⟩:aK)) fun nh=> ?_
       refine aM ?_
       refine ax ?_ ?_
       ·exact aa (rfl)
       ·exact aa (rfl)
theorem FF (x:Int):Sm (MV.i .i64) (oB (.i .u64 x)) (ol x):=by
 unfold oB ol
 refine aG ?_
 refine ak (f:=(fun r=>(0,[.i .u64 r.1,.i .i64 r.2]))) ?_ fun w=> ?_
 ·refine aJ ?_ ?_
  ·refine cA ?_
   exact aa (rfl)
  ·exact aa (rfl)
 ·refine cf rfl (gz ?_)
  refine ak (f:=(fun r=>(0,[.i .u64 r.1,.i .i64 r.2]))) ?_ fun w1=> ?_
  ·refine aJ ?_ ?_
   ·refine cA ?_
    exact aa (rfl)
   ·exact aa (rfl)
  ·refine cf rfl (gz ?_)
   refine ak (f:=(fun r=>(0,[.i .u64 r.1,.i .i64 r.2]))) ?_ fun w2=> ?_
   ·refine aJ ?_ ?_
    ·refine cA ?_
     exact aa (rfl)
    ·exact aa (rfl)
   ·refine cf rfl (gz (cA ?_))
    exact aa (rfl)
theorem FG (n:Int):Sm (MV.i .i64) (oC (.i .u64 n)) (kZ n):=by
 unfold oC kZ
 refine aG ?_
 refine ak (FF n) fun rA=> ?_
 refine aG (oc ?_)
 exact aa (rfl)
theorem vF (sA:List Int):Sm (Tw (MV.i .u8)) (gm (.list (sA.map (MV.i .u8)))) (gk sA):=by
 unfold gm gk
 refine bw (aP (n:=sA.length) (by simp only [List.length_map,List.length_cons,List.length_nil]) (aP (n:=sA.length) (by simp only [List.length_map,List.length_cons,List.length_nil]) ?_))
 refine NG (by simp only [List.length_map]) ?_
 exact aa (rfl)
theorem AB (b:List Int) (n:Int):Sm (H6 (MV.i .u8)) (nD (.list (b.map (MV.i .u8))) (.i .u64 n)) (kq b n):=by
 unfold nD kq
 refine bw (aG ?_)
 refine ak (FG n) fun rA=> ?_
 refine aG ?_
 refine ak (vF b) fun bL=> ?_
 refine QC (cf (od (rfl:_=List.map (MV.i .u8) bL) fun _=>rfl) (aP (n:=bL.length) (by simp only [List.length_map,List.length_cons,List.length_nil]) (aP (n:=([IntKind.wrap .u8 (IntKind.wrap .i64 (rA-1))]:List Int).length) (by simp only [List.length_map,List.length_cons,List.length_nil]) (cA ?_))))
 refine ak (cI (fun r=>[.list (r.1.map (MV.i .u8)),.i .i64 r.2]) (fun r=>(2,[.list (r.map (MV.i .u8))])) (by simp) fun st=> ?_) fun w=> ?_
 ·unfold jJ
  refine jm ?_
  refine aJ ?_ ?_
  ·refine cA (aP (n:=st.1.length) (by simp only [List.length_map,List.length_cons,List.length_nil]) (aP (n:=([IntKind.wrap .u8 (Int.fdiv n (2^min (Int.toNat (IntKind.wrap .i64 (8 *st.2))) (IntKind.bits .u64)))]:List Int).length) (by simp only [List.length_map,List.length_cons,List.length_nil]) (cA ?_)))
   exact aa (by simp)
  ·exact aa (rfl)
 ·refine cf rfl (ao (bw (aF ?_)))
  exact aa (rfl)
theorem ku (b:List Int) (n:Int):Sm (H6 (MV.i .u8)) (fG (.list (b.map (MV.i .u8))) (.i .i64 n)) (eK b n):=by
 unfold fG eK
 refine bw (aG (cA (cA ?_)))
 refine ak (AB b (tN .u64 (IntKind.wrap .u64 ((IntKind.wrap .u64 n) *2^min (Int.toNat 1) (IntKind.bits .u64))) (IntKind.wrap .u64 (Int.fdiv n (2^min (Int.toNat 63) (IntKind.bits .i64)))))) fun rA=> ?_
 refine fX ?_
 exact aa (rfl)
theorem ya (b:List Int) (sA:List UInt8):Sm (H6 (MV.i .u8)) (lj (.list (b.map (MV.i .u8))) (.s sA)) (jg b sA):=by
 unfold lj jg
 refine bw (eH ?_)
 refine ak (AB b (IntKind.wrap .u64 (sA.length:Int))) fun rA=> ?_
 refine fX (aP (n:=rA.length) (by simp only [List.length_map,List.length_cons,List.length_nil]) (aP (n:=(pI sA).length) (by simp only [lX,List.length_map,List.length_append,List.length_cons,List.length_nil,List.length_take,List.length_drop,List.length_set]) (cA ?_)))
 exact aa (by simp)
theorem rC (a:af):Sm (H5 (MV.i .u8)) (gh (aZ a)) (dJ a):=by
 unfold gh dJ
 refine aQ (aX ?_)
 refine ak (ku ([]:List Int) a.View) fun rA=> ?_
 refine fX ?_
 refine ak (rz a.Has) fun bL=> ?_
 refine aG ?_
 refine ak (ku rA bL) fun cL=> ?_
 refine fX ?_
 refine ak (ku cL a.At) fun cZ=> ?_
 refine fX (aP (n:=a.Proof.length) (by simp only [List.length_map,List.length_cons,List.length_nil]) ?_)
 refine ak (ya cZ a.Value) fun nh=> ?_
 refine fX ?_
 refine ak (ku nh (a.Proof.length:Int)) fun sZ=> ?_
 refine fX (aP (n:=a.Proof.length) (by simp only [List.length_map,List.length_cons,List.length_nil]) ?_)
 refine ak (cI (fun r=>[.list (r.1.map (MV.i .u8)),.i .i64 r.2]) (fun r=>(2,[.list (r.map (MV.i .u8))])) (rfl) fun st=> ?_) fun w=> ?_
 ·unfold gl
  refine jm ?_
  refine aJ ?_ ?_
  ·refine br (f:=ai) (rfl) fun y=> ?_
   refine aQ (cS ?_)
   refine ak (ku st.1 y.By) fun yF=> ?_
   refine fX ?_
   exact aa (rfl)
  ·exact aa (rfl)
 ·refine cf rfl (ao (bw (aF ?_)))
  refine ak (DA a.Proof) fun ve=> ?_
  refine dU (ao (aG (ao (eH (ao (aM (aF ?_)))))))
  refine ak (f:=(fun r=>(0,[.list (r.map (MV.i .u8))]))) ?_ fun w1=> ?_
  ·refine ax ?_ ?_
   ·refine ak (ku w ve.1) fun Lm=> ?_
    refine fX ?_
    refine ak (ya Lm ve.2.1) fun NK=> ?_
    refine fX ?_
    exact aa (rfl)
   ·exact aa (rfl)
  ·refine cf rfl (ao (bw (aF ?_)))
   exact aa (rfl)
theorem LV (n:Int):Sm (MV.i .i64) (tp (.i .u64 n)) (pK n):=by
 unfold tp pK
 refine aG ?_
 refine ak (cI (fun r=>[.i .u64 r.1,.i .i64 r.2]) (fun r=>(2,[.i .i64 r])) (rfl) fun st=> ?_) fun w=> ?_
 ·unfold lc
  refine gz ?_
  refine aJ ?_ ?_
  ·refine oc ?_
   exact aa (rfl)
  ·exact aa (rfl)
 ·refine cf rfl (ao (aG (aF ?_)))
  exact aa (rfl)
theorem BR (b:List Int) (n:Int):Sm (H6 (MV.i .u8)) (qG (.list (b.map (MV.i .u8))) (.i .u64 n)) (om b n):=by
 unfold qG om
 refine bw (aG (cf (od (rfl:_=List.map (MV.i .u8) b) fun _=>rfl) (aP (n:=([]:List Int).length) (by simp only [List.length_map,List.length_cons,List.length_nil]) (aP (n:=b.length) (by simp only [List.length_map,List.length_cons,List.length_nil]) (cA ?_)))))
 refine ak (LV n) fun rA=> ?_
 refine aG (aP (n:=(([]:List Int)++b).length) (by simp only [List.length_map,List.length_append,List.length_cons,List.length_nil,List.length_take,List.length_drop,List.length_set]) (aP (n:=([IntKind.wrap .u8 (IntKind.wrap .i64 (rA-1))]:List Int).length) (by simp only [List.length_map,List.length_cons,List.length_nil]) (cA ?_)))
 refine ak (cI (fun r=>[.list (r.1.map (MV.i .u8)),.i .i64 r.2]) (fun r=>(2,[.list (r.map (MV.i .u8))])) (by simp) fun st=> ?_) fun w=> ?_
 ·unfold np
  refine jm ?_
  refine aJ ?_ ?_
  ·refine ak (cI (fun r=>[.i .u64 r.1,.i .i64 r.2]) (fun r=>(4,[.i .u64 r])) (rfl) fun ca=> ?_) fun w1=> ?_
   ·unfold nn
    refine gz ?_
    refine aJ ?_ ?_
    ·refine oc ?_
     exact aa (rfl)
    ·exact aa (rfl)
   ·refine cf rfl (ao (aG (aF (oc (aP (n:=st.1.length) (by simp only [List.length_map,List.length_cons,List.length_nil]) (aP (n:=([IntKind.wrap .u8 (Int.tmod w1 256)]:List Int).length) (by simp only [List.length_map,List.length_cons,List.length_nil]) (cA ?_)))))))
    exact aa (by simp)
  ·exact aa (rfl)
 ·refine cf rfl (ao (bw (aF ?_)))
  exact aa (rfl)
theorem qI (b:List Int) (n:Int):Sm (H6 (MV.i .u8)) (ki (.list (b.map (MV.i .u8))) (.i .i64 n)) (ju b n):=by
 unfold ki ju
 refine bw (aG ?_)
 refine aJ ?_ ?_
 ·refine ak (BR b (IntKind.wrap .u64 ((IntKind.wrap .u64 (2 *(IntKind.wrap .u64 (IntKind.wrap .i64 (0-(IntKind.wrap .i64 (n+1)))))))+1))) fun rA=> ?_
  refine fX ?_
  exact aa (rfl)
 ·refine ak (BR b (IntKind.wrap .u64 (2 *(IntKind.wrap .u64 n)))) fun bL=> ?_
  refine fX ?_
  exact aa (rfl)
theorem DF (b:List Int) (sA:List UInt8):Sm (H6 (MV.i .u8)) (pY (.list (b.map (MV.i .u8))) (.s sA)) (nq b sA):=by
 unfold pY nq
 refine bw (eH ?_)
 refine ak (BR b (IntKind.wrap .u64 (sA.length:Int))) fun rA=> ?_
 refine fX (aP (n:=rA.length) (by simp only [List.length_map,List.length_cons,List.length_nil]) (aP (n:=(pI sA).length) (by simp only [lX,List.length_map,List.length_append,List.length_cons,List.length_nil,List.length_take,List.length_drop,List.length_set]) (cA ?_)))
 exact aa (by simp)
theorem LW (a:aK):Sm (H5 (MV.i .u8)) (tq (dj a)) (pL a):=by
 unfold tq pL
 refine aQ (aX ?_)
 refine ak (f:=(fun r=>(0,[.i .i64 r]))) ?_ fun w=> ?_
 ·refine ax ?_ ?_
  ·exact aa (rfl)
  ·exact aa (rfl)
 ·refine cf rfl (ao (aG (aF ?_)))
  refine ak (qI ([]:List Int) a.View) fun rA=> ?_
  refine fX ?_
  refine ak (qI rA w) fun bL=> ?_
  refine fX ?_
  refine ak (qI bL a.At) fun cL=> ?_
  refine fX ?_
  refine ak (DF cL a.Value) fun cZ=> ?_
  refine fX (aP (n:=a.Proof.length) (by simp only [List.length_map,List.length_cons,List.length_nil]) ?_)
  refine ak (qI cZ (a.Proof.length:Int)) fun nh=> ?_
  refine fX ?_
  refine ak (cI (fun r=>[.list (r.1.map (MV.i .u8)),.i .i64 r.2]) (fun r=>(2,[.list (r.map (MV.i .u8))])) (rfl) fun st=> ?_) fun w1=> ?_
  ·unfold oo
   refine jm (aP (n:=a.Proof.length) (by simp only [List.length_map,List.length_cons,List.length_nil]) ?_)
   refine aJ ?_ ?_
   ·refine br (f:=ai) (rfl) fun y=> ?_
    refine aQ (cS ?_)
    refine ak (qI st.1 y.By) fun sZ=> ?_
    refine fX ?_
    exact aa (rfl)
   ·exact aa (rfl)
  ·refine cf rfl (ao (bw (aF (aP (n:=a.Proof.length) (by simp only [List.length_map,List.length_cons,List.length_nil]) ?_))))
   refine ak (f:=(fun r=>(0,[.list (r.map (MV.i .u8))]))) ?_ fun w2=> ?_
   ·refine aJ ?_ ?_
    ·refine br (f:=ai) (rfl) fun y1=> ?_
     refine aQ (cS ?_)
     refine ak (qI w1 y1.View) fun yF=> ?_
     refine fX ?_
     refine br (f:=ai) (rfl) fun y2=> ?_
     refine aQ (cS ?_)
     refine ak (DF yF y2.Value) fun ve=> ?_
     refine fX ?_
     exact aa (rfl)
    ·exact aa (rfl)
   ·refine cf rfl (ao (bw (aF ?_)))
    exact aa (rfl)
theorem tz (a:af) (a1:List Int):Sm MV.b (iJ (aZ a) (.list (a1.map (MV.i .u8)))) (dB a a1):=by
 unfold iJ dB
 refine aQ (aX (bw ?_))
 refine ak (f:=fun r=>[.b r]) ?_ fun w=> ?_
 ·refine ak (NX a) fun rA=> ?_
  refine aM ?_
  refine ax ?_ ?_
  ·exact aa (rfl)
  ·refine aP (n:=a1.length) (by simp only [List.length_map,List.length_cons,List.length_nil]) ?_
   refine aJ ?_ ?_
   ·exact aa (rfl)
   ·refine ak (nF a) fun bL=> ?_
    refine aQ (aX ?_)
    refine ak (AA bL) fun cL=> ?_
    refine aM ?_
    exact aa (rfl)
 ·refine ao (aM (aF ?_))
  refine ax ?_ ?_
  ·refine ak (Ax) fun cZ=> ?_
   refine aM ?_
   exact aa (rfl)
  ·refine ak (rB a.S a.Me a1) fun nh=> ?_
   refine dU (ao (aQ (aX (ao (aG (aF ?_))))))
   refine ak (Az a.S) fun sZ=> ?_
   refine aQ (gz ?_)
   refine ak (LU sZ a.Me a1) fun yF=> ?_
   refine dU (ao (aQ (aX (ao (aG (aF ?_))))))
   refine ak (rC a) fun ve=> ?_
   refine bw ?_
   refine ak (f:=fun r=>[.b r]) ?_ fun w1=> ?_
   ·refine ak (nF nh.1) fun Lm=> ?_
    refine aQ (aX ?_)
    refine ak (DC Lm yF.1) fun NK=> ?_
    refine aM ?_
    refine ax ?_ ?_
    ·exact aa (rfl)
    ·refine ax ?_ ?_
     ·exact aa (rfl)
     ·refine ul (M:=ve) (rfl) fun bs=> ?_
      refine ak (nF a) fun Ln=> ?_
      refine aQ (aX ?_)
      refine ak (LW Ln) fun Lo=> ?_
      refine bw ?_
      refine ul (M:=Lo) (rfl) fun UC=> ?_
      exact aa (rfl)
   ·refine ao (aM (aF ?_))
    refine ax ?_ ?_
    ·exact aa (rfl)
    ·refine ak (f:=fun r=>[.b r]) ?_ fun w2=> ?_
     ·refine aJ ?_ ?_
      ·refine ul (M:=a1) (rfl) fun UD=> ?_
       refine ak (rC nh.1) fun Lp=> ?_
       refine bw ?_
       refine ul (M:=Lp) (rfl) fun UE=> ?_
       exact aa (rfl)
      ·exact aa (rfl)
     ·refine ao (aM (aF ?_))
      refine ax ?_ ?_
      ·exact aa (rfl)
      ·refine ak (rB a.S a.Me ve) fun H9=> ?_
       refine dU (ao (aQ (aX (ao (aG (aF ?_))))))
       refine ak (nF a) fun pM=> ?_
       refine aQ (aX ?_)
       refine ak (f:=fun r=>[.b r]) ?_ fun w3=> ?_
       ·refine ak (Ax) fun NL=> ?_
        refine aM ?_
        refine ax ?_ ?_
        ·refine aJ ?_ ?_
         ·refine ak (nF H9.1) fun Lq=> ?_
          refine aQ (aX ?_)
          refine ak (DC Lq (⟨pM.S,pM.Me,pM.View,pM.Has,pM.At,pM.Value,pM.Proof,(⟨([]:List ab)⟩:ct)⟩:aK)) fun NM=> ?_
          refine aM ?_
          exact aa (rfl)
         ·exact aa (rfl)
        ·exact aa (rfl)
       ·refine ao (aM (aF ?_))
        exact aa (rfl)
end Dn.S
