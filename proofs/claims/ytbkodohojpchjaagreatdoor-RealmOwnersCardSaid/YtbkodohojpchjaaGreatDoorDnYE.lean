import Derived.Test.YtbkodohojpchjaaGreatDoorDnYD
/-
  Typed and plain functions agree. Conditions: none.
-/
open Go Dn
set_option linter.unusedVariables false
set_option linter.unusedSimpArgs false
set_option maxRecDepth 100000
namespace Dn.S
@[reducible] def v0 (r : Int × (List ae) × Int × (List ay) × (List ak) × (List ai) × Int × Int × Int × (List UInt8) × (List UInt8) × Int × Int × Int × Int × Int × Int × (List UInt8) × Int × (List (List UInt8)) × (List aC)) : List MV := [.i .i64 r.1, .list (r.2.1.map aE), .i .i64 r.2.2.1, .list (r.2.2.2.1.map aQ), .list (r.2.2.2.2.1.map aY), .list (r.2.2.2.2.2.1.map aZ), .i .i64 r.2.2.2.2.2.2.1, .i .i64 r.2.2.2.2.2.2.2.1, .i .i64 r.2.2.2.2.2.2.2.2.1, .s r.2.2.2.2.2.2.2.2.2.1, .s r.2.2.2.2.2.2.2.2.2.2.1, .i .i64 r.2.2.2.2.2.2.2.2.2.2.2.1, .i .i64 r.2.2.2.2.2.2.2.2.2.2.2.2.1, .i .i64 r.2.2.2.2.2.2.2.2.2.2.2.2.2.1, .i .i64 r.2.2.2.2.2.2.2.2.2.2.2.2.2.2.1, .i .i64 r.2.2.2.2.2.2.2.2.2.2.2.2.2.2.2.1, .i .i64 r.2.2.2.2.2.2.2.2.2.2.2.2.2.2.2.2.1, .s r.2.2.2.2.2.2.2.2.2.2.2.2.2.2.2.2.2.1, .i .i64 r.2.2.2.2.2.2.2.2.2.2.2.2.2.2.2.2.2.2.1, .list (r.2.2.2.2.2.2.2.2.2.2.2.2.2.2.2.2.2.2.2.1.map MV.s), .list (r.2.2.2.2.2.2.2.2.2.2.2.2.2.2.2.2.2.2.2.2.map eR)]
@[reducible] def v1 (r : (List ae) × Int × (List ay) × (List ak) × (List ai) × Int × Int × Int × (List UInt8) × (List UInt8) × Int × Int × Int × Int × Int × Int × (List UInt8) × Int × (List (List UInt8)) × (List aC)) : List MV := [.list (r.1.map aE), .i .i64 r.2.1, .list (r.2.2.1.map aQ), .list (r.2.2.2.1.map aY), .list (r.2.2.2.2.1.map aZ), .i .i64 r.2.2.2.2.2.1, .i .i64 r.2.2.2.2.2.2.1, .i .i64 r.2.2.2.2.2.2.2.1, .s r.2.2.2.2.2.2.2.2.1, .s r.2.2.2.2.2.2.2.2.2.1, .i .i64 r.2.2.2.2.2.2.2.2.2.2.1, .i .i64 r.2.2.2.2.2.2.2.2.2.2.2.1, .i .i64 r.2.2.2.2.2.2.2.2.2.2.2.2.1, .i .i64 r.2.2.2.2.2.2.2.2.2.2.2.2.2.1, .i .i64 r.2.2.2.2.2.2.2.2.2.2.2.2.2.2.1, .i .i64 r.2.2.2.2.2.2.2.2.2.2.2.2.2.2.2.1, .s r.2.2.2.2.2.2.2.2.2.2.2.2.2.2.2.2.1, .i .i64 r.2.2.2.2.2.2.2.2.2.2.2.2.2.2.2.2.2.1, .list (r.2.2.2.2.2.2.2.2.2.2.2.2.2.2.2.2.2.2.1.map MV.s), .list (r.2.2.2.2.2.2.2.2.2.2.2.2.2.2.2.2.2.2.2.map eR)]
@[reducible] def v2 (r : Int × Int × Int × (List UInt8) × Int × (List (List UInt8)) × Int × Int × Int × (List UInt8) × Int × (List (List UInt8))) : List MV := [.i .i64 r.1, .i .i64 r.2.1, .i .i64 r.2.2.1, .s r.2.2.2.1, .i .i64 r.2.2.2.2.1, .list (r.2.2.2.2.2.1.map MV.s), .i .i64 r.2.2.2.2.2.2.1, .i .i64 r.2.2.2.2.2.2.2.1, .i .i64 r.2.2.2.2.2.2.2.2.1, .s r.2.2.2.2.2.2.2.2.2.1, .i .i64 r.2.2.2.2.2.2.2.2.2.2.1, .list (r.2.2.2.2.2.2.2.2.2.2.2.map MV.s)]
@[reducible] def v3 (r : Int × Int × Int × (List UInt8) × Int × (List (List UInt8)) × Bool) : List MV := [.i .i64 r.1, .i .i64 r.2.1, .i .i64 r.2.2.1, .s r.2.2.2.1, .i .i64 r.2.2.2.2.1, .list (r.2.2.2.2.2.1.map MV.s), .b r.2.2.2.2.2.2]
theorem zN {A B:Type} {g:B→A} {T:Option B} {k0:IntKind} {x0:Int} {x1:Bool} {K:Int→Bool→Option A} (h:Sm g (K x0 x1) T):Sm g (Mk k0 [.i k0 x0,.b x1] K) T:=ah (aF (ah (aU (au h))))
theorem xO {A B:Type} {g:B→A} {T:Option B} {k0 k1:IntKind} {x0:Int} {x1:Int} {K:Int→Int→Option A} (h:Sm g (K x0 x1) T):Sm g (Kg k0 k1 [.i k0 x0,.i k1 x1] K) T:=ah (aF (ah (aF (au h))))
theorem wN {A B:Type} {g:B→A} {T:Option B} {k0 k1 k2:IntKind} {x0:Int} {x1:Int} {x2:Int} {K:Int→Int→Int→Option A} (h:Sm g (K x0 x1 x2) T):Sm g (B3 k0 k1 k2 [.i k0 x0,.i k1 x1,.i k2 x2] K) T:=ah (aF (ah (aF (ah (aF (au h))))))
theorem en {A B:Type} {g:B→A} {T:Option B} {k0 k1 k2 k4:IntKind} {x0:Int} {x1:Int} {x2:Int} {x3:List UInt8} {x4:Int} {x5:List MV} {K:Int→Int→Int→List UInt8→Int→List MV→Option A} (h:Sm g (K x0 x1 x2 x3 x4 x5) T):Sm g (fH k0 k1 k2 k4 [.i k0 x0,.i k1 x1,.i k2 x2,.s x3,.i k4 x4,.list x5] K) T:=ah (aF (ah (aF (ah (aF (ah (bI (ah (aF (ah (aX (au h))))))))))))
theorem kI {A B:Type} {g:B→A} {T:Option B} {k0 k1 k2 k5 k6 k7:IntKind} {x0:Int} {x1:Int} {x2:Int} {x3:List UInt8} {x4:List UInt8} {x5:Int} {x6:Int} {x7:Int} {K:Int→Int→Int→List UInt8→List UInt8→Int→Int→Int→Option A} (h:Sm g (K x0 x1 x2 x3 x4 x5 x6 x7) T):Sm g (kY k0 k1 k2 k5 k6 k7 [.i k0 x0,.i k1 x1,.i k2 x2,.s x3,.s x4,.i k5 x5,.i k6 x6,.i k7 x7] K) T:=ah (aF (ah (aF (ah (aF (ah (bI (ah (bI (ah (aF (ah (aF (ah (aF (au h))))))))))))))))
theorem yN {A B:Type} {g:B→A} {T:Option B} {k0:IntKind} {x0:Int} {x1:List MV} {K:Int→List MV→Option A} (h:Sm g (K x0 x1) T):Sm g (Lb k0 [.i k0 x0,.list x1] K) T:=ah (aF (ah (aX (au h))))
theorem mi {A B:Type} {g:B→A} {T:Option B} {k1:IntKind} {x0:List MV} {x1:Int} {x2:List MV} {x3:List MV} {x4:List MV} {K:List MV→Int→List MV→List MV→List MV→Option A} (h:Sm g (K x0 x1 x2 x3 x4) T):Sm g (nX k1 [.list x0,.i k1 x1,.list x2,.list x3,.list x4] K) T:=ah (aX (ah (aF (ah (aX (ah (aX (ah (aX (au h))))))))))
theorem aw {A B:Type} {g:B→A} {T:Option B} {k1 k5 k6 k7 k10 k11 k12 k13 k14 k15 k17:IntKind} {x0:List MV} {x1:Int} {x2:List MV} {x3:List MV} {x4:List MV} {x5:Int} {x6:Int} {x7:Int} {x8:List UInt8} {x9:List UInt8} {B4:Int} {DM:Int} {DN:Int} {DO:Int} {DP:Int} {DQ:Int} {Fz:List UInt8} {FA:Int} {FB:List MV} {FC:List MV} {K:List MV→Int→List MV→List MV→List MV→Int→Int→Int→List UInt8→List UInt8→Int→Int→Int→Int→Int→Int→List UInt8→Int→List MV→List MV→Option A} (h:Sm g (K x0 x1 x2 x3 x4 x5 x6 x7 x8 x9 B4 DM DN DO DP DQ Fz FA FB FC) T):Sm g (ax k1 k5 k6 k7 k10 k11 k12 k13 k14 k15 k17 [.list x0,.i k1 x1,.list x2,.list x3,.list x4,.i k5 x5,.i k6 x6,.i k7 x7,.s x8,.s x9,.i k10 B4,.i k11 DM,.i k12 DN,.i k13 DO,.i k14 DP,.i k15 DQ,.s Fz,.i k17 FA,.list FB,.list FC] K) T:=ah (aX (ah (aF (ah (aX (ah (aX (ah (aX (ah (aF (ah (aF (ah (aF (ah (bI (ah (bI (ah (aF (ah (aF (ah (aF (ah (aF (ah (aF (ah (aF (ah (bI (ah (aF (ah (aX (ah (aX (au h))))))))))))))))))))))))))))))))))))))))
theorem zO {A B:Type} {g:B→A} {T:Option B} {k1:IntKind} {x0:List UInt8} {x1:Int} {x2:Bool} {K:List UInt8→Int→Bool→Option A} (h:Sm g (K x0 x1 x2) T):Sm g (FD k1 [.s x0,.i k1 x1,.b x2] K) T:=ah (bI (ah (aF (ah (aU (au h))))))
theorem ft {A B:Type} {g:B→A} {T:Option B} {k2 k3:IntKind} {x0:List UInt8} {x1:List UInt8} {x2:Int} {x3:Int} {K:List UInt8→List UInt8→Int→Int→Option A} (h:Sm g (K x0 x1 x2 x3) T):Sm g (je k2 k3 [.s x0,.s x1,.i k2 x2,.i k3 x3] K) T:=ah (bI (ah (bI (ah (aF (ah (aF (au h))))))))
theorem PG (lA:List aB):Sm MV.b (xk (.list (lA.map cL))) (tf lA):=by
 unfold xk tf
 refine aX ?_
 refine al (cC (fun r=>[.i .i64 r]) (Sum.elim (fun r=>(2,[])) (fun r=>(1,[.b r]))) (rfl) fun st=> ?_) fun w=> ?_
 ·unfold rR
  refine ah (aF (au (a8 (n:=lA.length) (by simp only [List.length_map,List.length_cons,List.length_nil]) ?_)))
  refine aR ?_ ?_
  ·refine al (f:=fun r=>[.b r]) ?_ fun w1=> ?_
   ·refine aR ?_ ?_
    ·exact aa (rfl)
    ·refine bM (f:=cL) (rfl) fun y=> ?_
     refine aT (kI ?_)
     refine aR ?_ ?_
     ·exact aa (rfl)
     ·refine bM (f:=cL) (rfl) fun y1=> ?_
      refine aT (kI ?_)
      exact aa (rfl)
   ·refine ah (aU (au ?_))
    refine aN ?_ ?_
    ·exact aa (rfl)
    ·exact aa (rfl)
  ·exact aa (rfl)
 ·rcases w with p1|p2
  ·refine im rfl (au ?_)
   exact aa (rfl)
  ·refine iq rfl (cc rfl (ah (aU (au ?_))))
   exact aa (rfl)
theorem Ci (o:aB):Sm cL (mb (cL o)) (jG o):=by
 unfold mb jG
 refine aT (kI ?_)
 refine aR ?_ ?_
 ·exact aa (rfl)
 ·refine al (f:=(fun r=>(0,[.b r]))) ?_ fun w=> ?_
  ·refine aR ?_ ?_
   ·exact aa (rfl)
   ·refine al (f:=(fun r=>(0,[.b r]))) ?_ fun w1=> ?_
    ·refine aR ?_ ?_
     ·exact aa (rfl)
     ·refine al (f:=(fun r=>(0,[.b r]))) ?_ fun w2=> ?_
      ·refine aR ?_ ?_
       ·exact aa (rfl)
       ·exact aa (rfl)
      ·refine cc rfl (ah (aU (au ?_)))
       exact aa (rfl)
    ·refine cc rfl (ah (aU (au ?_)))
     exact aa (rfl)
  ·refine cc rfl (ah (aU (au ?_)))
   refine aN ?_ ?_
   ·exact aa (rfl)
   ·refine aR ?_ ?_
    ·exact aa (rfl)
    ·refine aR ?_ ?_
     ·exact aa (rfl)
     ·refine aR ?_ ?_
      ·exact aa (rfl)
      ·refine al (f:=(fun r=>(0,[.b r]))) ?_ fun w3=> ?_
       ·refine aR ?_ ?_
        ·exact aa (rfl)
        ·exact aa (rfl)
       ·refine cc rfl (ah (aU (au ?_)))
        refine aN ?_ ?_
        ·exact aa (rfl)
        ·refine aR ?_ ?_
         ·exact aa (rfl)
         ·exact aa (rfl)
theorem PH (o:aB):Sm MV.b (xl (cL o)) (nR o):=by
 unfold xl nR
 refine aT (kI ?_)
 refine al (f:=fun r=>[.b r]) ?_ fun w=> ?_
 ·refine aR ?_ ?_
  ·refine aR ?_ ?_
   ·refine aR ?_ ?_
    ·exact aa (rfl)
    ·exact aa (rfl)
   ·exact aa (rfl)
  ·exact aa (rfl)
 ·refine ah (aU (au ?_))
  refine al (f:=fun r=>[.b r]) ?_ fun w1=> ?_
  ·refine aN ?_ ?_
   ·refine aR ?_ ?_
    ·refine aR ?_ ?_
     ·refine aR ?_ ?_
      ·refine aR ?_ ?_
       ·refine al (Ci o) fun rA=> ?_
        refine aT (kI ?_)
        exact aa (rfl)
       ·exact aa (rfl)
      ·exact aa (rfl)
     ·exact aa (rfl)
    ·exact aa (rfl)
   ·exact aa (rfl)
  ·refine ah (aU (au ?_))
   exact aa (rfl)
theorem zP (x:Int):Sm MV.b (ng (.i .i64 x)) (mX x):=by
 unfold ng mX
 refine aF ?_
 exact aa (rfl)
theorem wO (x:Int) (y:Int):Sm (MV.i .i64) (kE (.i .i64 x) (.i .i64 y)) (iM x y):=by
 unfold kE iM
 refine aF (aF ?_)
 refine al (zP x) fun rA=> ?_
 refine aU ?_
 refine al (zP y) fun aV=> ?_
 refine aU ?_
 refine aN ?_ ?_
 ·refine aN ?_ ?_
  ·exact aa (rfl)
  ·exact aa (rfl)
 ·refine aN ?_ ?_
  ·exact aa (rfl)
  ·refine aR ?_ ?_
   ·exact aa (rfl)
   ·refine aR ?_ ?_
    ·exact aa (rfl)
    ·exact aa (rfl)
theorem yO (x:ai) (ey:Int):Sm (MV.i .i64) (jr (aZ x) (.i .i64 ey)) (cD x ey):=by
 unfold jr cD
 refine aT (en (aF ?_))
 refine al (wO x.Client ey) fun rA=> ?_
 refine aF ?_
 exact aa (rfl)
theorem lE (x:List ai) (target:Int) (cmp:ai→Int→Option Int) {It:Nat} {nL:List MV} (BO:gv It=false) (eo: ∀(u0:ai) (u1:Int),Sm (MV.i .i64) (b9 It ([aZ u0,.i .i64 u1]++nL)) (cmp u0 u1)):Sm (fun r=> .cH [.i .i64 r.1,.b r.2]) (cq (.list (x.map aZ)) (.i .i64 target) (.func It nL)) (cn x target cmp):=by
 unfold cq cn
 refine aX (aF (qt (a8 (n:=x.length) (by simp only [List.length_map,List.length_cons,List.length_nil]) ?_)))
 refine al (cC (fun r=>[.i .i64 r.1,.i .i64 r.2]) (fun r=>(2,[.i .i64 r])) (rfl) fun st=> ?_) fun w=> ?_
 ·unfold eS
  refine xO ?_
  refine aR ?_ ?_
  ·refine fg ?_
   refine bM (f:=aZ) (rfl) fun y=> ?_
   refine aT (en (qq (cc (by rw [BO];rfl) ?_)))
   refine al (eo y target) fun rA=> ?_
   refine aF ?_
   refine al (f:=(fun r=>(0,[.i .i64 r.1,.i .i64 r.2]))) ?_ fun w1=> ?_
   ·refine aR ?_ ?_
    ·exact aa (rfl)
    ·exact aa (rfl)
   ·refine cc rfl (xO ?_)
    exact aa (rfl)
  ·exact aa (rfl)
 ·refine cc rfl (ah (aF (au ?_)))
  refine al (f:=fun r=>[.i .i64 r.1,.b r.2]) ?_ fun w2=> ?_
  ·refine aR ?_ ?_
   ·refine bM (f:=aZ) (rfl) fun y1=> ?_
    refine aT (en (qq (cc (by rw [BO];rfl) ?_)))
    refine al (eo y1 target) fun aV=> ?_
    refine aF ?_
    exact aa (rfl)
   ·exact aa (rfl)
  ·refine zN ?_
   exact aa (rfl)
theorem tE (rA:aq) (ey:Int):Sm (fun r=> .cH [.i .i64 r.1,.b r.2]) (iU (eG rA) (.i .i64 ey)) (ez rA ey):=by
 unfold iU ez
 refine aT (mi (aF ?_))
 refine al (lE rA.Seen ey cD (It:=120) (nL:=[]) rfl (fun u2 u3=>Sm.at (fp _ _) (yO u2 u3))) fun aV=> ?_
 refine cO (zN ?_)
 exact aa (rfl)
theorem EA (rA:aq) (ey:Int):Sm (fun r=> .cH [aZ r.1,.b r.2]) (qH (eG rA) (.i .i64 ey)) (nS rA ey):=by
 unfold qH nS
 refine aT (mi (aF ?_))
 refine al (tE rA ey) fun aV=> ?_
 refine cO (zN ?_)
 refine aN ?_ ?_
 ·exact aa (rfl)
 ·refine bM (f:=aZ) (rfl) fun y=> ?_
  refine aT (en ?_)
  exact aa (rfl)
theorem AO (rA:aq) (o:aB):Sm (fun r=> .cH [aZ r.1,.b r.2]) (kZ (eG rA) (cL o)) (iN rA o):=by
 unfold kZ iN
 refine aT (mi (aT (kI ?_)))
 refine al (EA rA o.Client) fun aV=> ?_
 refine cO (ah (aT (en (ah (aU (au ?_))))))
 refine al (PH o) fun cP=> ?_
 refine aU ?_
 refine al (f:=(Sum.elim (fun r=>(0,(v2 r))) (fun r=>(1,(v3 r))))) ?_ fun w=> ?_
 ·refine aN ?_ ?_
  ·exact aa (rfl)
  ·refine al (f:=fun r=>[.b r]) ?_ fun w1=> ?_
   ·refine aN ?_ ?_
    ·exact aa (rfl)
    ·exact aa (rfl)
   ·refine ah (aU (au ?_))
    refine aN ?_ ?_
    ·exact aa (rfl)
    ·refine al (f:=fun r=>[.b r]) ?_ fun w2=> ?_
     ·refine aN ?_ ?_
      ·exact aa (rfl)
      ·exact aa (rfl)
     ·refine ah (aU (au ?_))
      refine al (f:=(Sum.elim (fun r=>(0,(v2 r))) (fun r=>(1,(v3 r))))) ?_ fun w3=> ?_
      ·refine aN ?_ ?_
       ·exact aa (rfl)
       ·refine al (f:=fun r=>[.b r]) ?_ fun w4=> ?_
        ·refine aN ?_ ?_
         ·refine a8 (n:=rA.Seen.length) (by simp only [List.length_map,List.length_cons,List.length_nil]) ?_
          exact aa (rfl)
         ·exact aa (rfl)
        ·refine ah (aU (au ?_))
         refine aN ?_ ?_
         ·exact aa (rfl)
         ·exact aa (rfl)
      ·rcases w3 with p2|p3
       ·refine im rfl (ah (aF (ah (aF (ah (aF (ah (bI (ah (aF (ah ?_)))))))))))
        refine aX (en ?_)
        exact aa (rfl)
       ·refine iq rfl (cc rfl (ah (aF (ah (aF (ah (aF (ah (bI (ah (aF ?_)))))))))))
        refine ah (aX (ah (aU (au ?_))))
        exact aa (rfl)
 ·rcases w with p4|p5
  ·refine im rfl (ah (aF (ah (aF (ah (aF (ah (bI (ah (aF (ah ?_)))))))))))
   refine aX (en ?_)
   exact aa (rfl)
  ·refine iq rfl (cc rfl (ah (aF (ah (aF (ah (aF (ah (bI (ah (aF ?_)))))))))))
   refine ah (aX (ah (aU (au ?_))))
   exact aa (rfl)
theorem yP (w:af):Sm (fun r=> .dL ((fun _=> .cH []) r.1) (bq r.2)) (jt (bq w)) (mu w):=by
 unfold jt mu
 refine aw ?_
 exact aa (rfl)
theorem zQ (x:ay) (id:Int):Sm (MV.i .i64) (j6 (aQ x) (.i .i64 id)) (cS x id):=by
 unfold j6 cS
 refine aT (wN (aF ?_))
 refine al (wO x.Id id) fun rA=> ?_
 refine aF ?_
 exact aa (rfl)
theorem kJ (x:List ay) (target:Int) (cmp:ay→Int→Option Int) {It:Nat} {nL:List MV} (BO:gv It=false) (dW: ∀(u0:ay) (u1:Int),Sm (MV.i .i64) (bY It ([aQ u0,.i .i64 u1]++nL)) (cmp u0 u1)):Sm (fun r=> .cH [.i .i64 r.1,.b r.2]) (ca (.list (x.map aQ)) (.i .i64 target) (.func It nL)) (b8 x target cmp):=by
 unfold ca b8
 refine aX (aF (qt (a8 (n:=x.length) (by simp only [List.length_map,List.length_cons,List.length_nil]) ?_)))
 refine al (cC (fun r=>[.i .i64 r.1,.i .i64 r.2]) (fun r=>(2,[.i .i64 r])) (rfl) fun st=> ?_) fun w=> ?_
 ·unfold ej
  refine xO ?_
  refine aR ?_ ?_
  ·refine fg ?_
   refine bM (f:=aQ) (rfl) fun y=> ?_
   refine aT (wN (qq (cc (by rw [BO];rfl) ?_)))
   refine al (dW y target) fun rA=> ?_
   refine aF ?_
   refine al (f:=(fun r=>(0,[.i .i64 r.1,.i .i64 r.2]))) ?_ fun w1=> ?_
   ·refine aR ?_ ?_
    ·exact aa (rfl)
    ·exact aa (rfl)
   ·refine cc rfl (xO ?_)
    exact aa (rfl)
  ·exact aa (rfl)
 ·refine cc rfl (ah (aF (au ?_)))
  refine al (f:=fun r=>[.i .i64 r.1,.b r.2]) ?_ fun w2=> ?_
  ·refine aR ?_ ?_
   ·refine bM (f:=aQ) (rfl) fun y1=> ?_
    refine aT (wN (qq (cc (by rw [BO];rfl) ?_)))
    refine al (dW y1 target) fun aV=> ?_
    refine aF ?_
    exact aa (rfl)
   ·exact aa (rfl)
  ·refine zN ?_
   exact aa (rfl)
theorem mj (b:az) (id:Int):Sm (fun r=> .cH [.i .i64 r.1,.b r.2]) (fq (cR b) (.i .i64 id)) (dz b id):=by
 unfold fq dz
 refine aT (yN (aF ?_))
 refine al (kJ b.L id cS (It:=144) (nL:=[]) rfl (fun u2 u3=>Sm.at (e9 _ _) (zQ u2 u3))) fun rA=> ?_
 refine cO (zN ?_)
 exact aa (rfl)
theorem G9 (b:az) (id:Int):Sm MV.b (tq (cR b) (.i .i64 id)) (p8 b id):=by
 unfold tq p8
 refine aT (yN (aF ?_))
 refine al (mj b id) fun rA=> ?_
 refine cO (zN ?_)
 exact aa (rfl)
theorem vE (sA:List UInt8) (cT:List UInt8):Sm MV.b (gk (.s sA) (.s cT)) (gf sA cT):=by
 unfold gk gf
 refine bI (bI ?_)
 refine al (f:=fun r=>[.b r]) ?_ fun w=> ?_
 ·refine aR ?_ ?_
  ·refine fg ?_
   exact aa (rfl)
  ·exact aa (rfl)
 ·refine ah (aU (au ?_))
  exact aa (rfl)
theorem vF (sA:List UInt8) (cT:List UInt8):Sm (fun r=> .cH [.s r.1,.b r.2]) (gl (.s sA) (.s cT)) (gh sA cT):=by
 unfold gl gh
 refine bI (bI ?_)
 refine al (vE sA cT) fun rA=> ?_
 refine aU ?_
 refine aN ?_ ?_
 ·exact aa (rfl)
 ·refine fg ?_
  exact aa (rfl)
theorem zR (sA:List UInt8) (cT:List UInt8):Sm (fun r=> .cH [.s r.1,.b r.2]) (j7 (.s sA) (.s cT)) (gD sA cT):=by
 unfold j7 gD
 refine bI (bI ?_)
 refine al (vF sA cT) fun rA=> ?_
 refine cO (ah (bI (ah (aU (au ?_)))))
 exact aa (rfl)
theorem FP (c:Int):Sm MV.b (oc (.i .i32 c)) (fN c):=by
 unfold oc fN
 refine aF ?_
 refine al (Pj ([97,98,99,100,101,102,103,104,105,106,107,108,109,110,111,112,113,114,115,116,117,118,119,120,121,122,48,49,50,51,52,53,54,55,56,57,45,95]:List UInt8) c) fun rA=> ?_
 refine aU ?_
 exact aa (rfl)
theorem Cj (sA:List UInt8) (f:Int→Option Bool) (BB:Bool) {wv:Nat} {oQ:List MV} (CY:gv wv=false) (ic: ∀(u0:Int),Sm MV.b (gZ wv ([.i .i32 u0]++oQ)) (f u0)):Sm (MV.i .i64) (mc (.s sA) (.func wv oQ) (.b BB)) (lZ sA f BB):=by
 unfold mc lZ
 refine bI (qt (aU ?_))
 refine al (cC (fun r=>[.list r]) (Sum.elim (fun r=>(2,[])) (fun r=>(1,[.i .i64 r]))) (rfl) fun st=> ?_) fun w=> ?_
 ·unfold gE
  refine ah (aX (au ?_))
  refine aN ?_ ?_
  ·refine qq (cc (by rw [CY];rfl) ?_)
   refine al (ic (vO st)) fun rA=> ?_
   refine aU ?_
   refine aR ?_ ?_
   ·exact aa (rfl)
   ·exact aa (rfl)
  ·exact aa (rfl)
 ·rcases w with p1|p2
  ·refine im rfl (au ?_)
   exact aa (rfl)
  ·refine iq rfl (cc rfl (ah (aF (au ?_))))
   exact aa (rfl)
theorem zS (sA:List UInt8) (f:Int→Option Bool) {wv:Nat} {oQ:List MV} (CY:gv wv=false) (ic: ∀(u0:Int),Sm MV.b (gZ wv ([.i .i32 u0]++oQ)) (f u0)):Sm (MV.i .i64) (j8 (.s sA) (.func wv oQ)) (jZ sA f):=by
 unfold j8 jZ
 refine bI (qt ?_)
 refine al (Cj sA f true CY ic) fun rA=> ?_
 refine aF ?_
 exact aa (rfl)
theorem wP (sA:List UInt8) (f:Int→Option Bool) {wv:Nat} {oQ:List MV} (CY:gv wv=false) (ic: ∀(u0:Int),Sm MV.b (gZ wv ([.i .i32 u0]++oQ)) (f u0)):Sm MV.b (hU (.s sA) (.func wv oQ)) (eT sA f):=by
 unfold hU eT
 refine bI (qt ?_)
 refine al (zS sA f CY ic) fun rA=> ?_
 refine aF ?_
 exact aa (rfl)
theorem Kr (sA:List UInt8):Sm MV.b (rV (.s sA)) (oK sA):=by
 unfold rV oK
 refine bI ?_
 refine al (f:=fun r=>[.b r]) ?_ fun w=> ?_
 ·refine aN ?_ ?_
  ·refine aR ?_ ?_
   ·refine al (Y7 sA ([97,98,99,100,101,102,103,104,105,106,107,108,109,110,111,112,113,114,115,116,117,118,119,120,121,122,48,49,50,51,52,53,54,55,56,57,45,95]:List UInt8)) fun rA=> ?_
    refine bI ?_
    refine aR ?_ ?_
    ·refine al (wP sA fN (wv:=237) (oQ:=[]) rfl (fun u1=>Sm.at (pj _) (FP u1))) fun aV=> ?_
     refine aU ?_
     exact aa (rfl)
    ·exact aa (rfl)
   ·exact aa (rfl)
  ·exact aa (rfl)
 ·refine ah (aU (au ?_))
  exact aa (rfl)
theorem Iu (sA:List UInt8):Sm MV.b (pS (.s sA)) (kV sA):=by
 unfold pS kV
 refine bI ?_
 refine al (Kr sA) fun rA=> ?_
 refine aU ?_
 exact aa (rfl)
theorem uS (sA:List (List UInt8)) (f:(List UInt8)→Option Bool) {wv:Nat} {oQ:List MV} (CY:gv wv=false) (iw: ∀(u0:List UInt8),Sm MV.b (eI wv ([.s u0]++oQ)) (f u0)):Sm (MV.i .i64) (fJ (.list (sA.map MV.s)) (.func wv oQ)) (fF sA f):=by
 unfold fJ fF
 refine aX (qt (a8 (n:=sA.length) (by simp only [List.length_map,List.length_cons,List.length_nil]) ?_))
 refine al (cC (fun r=>[.i .i64 r]) (Sum.elim (fun r=>(2,[])) (fun r=>(1,[.i .i64 r]))) (rfl) fun st=> ?_) fun w=> ?_
 ·unfold dt
  refine ah (aF (au ?_))
  refine aR ?_ ?_
  ·refine bM (f:=MV.s) (rfl) fun y=> ?_
   refine bI (qq (cc (by rw [CY];rfl) ?_))
   refine al (iw y) fun rA=> ?_
   refine aU ?_
   refine aN ?_ ?_
   ·exact aa (rfl)
   ·exact aa (rfl)
  ·exact aa (rfl)
 ·rcases w with p1|p2
  ·refine im rfl (au ?_)
   exact aa (rfl)
  ·refine iq rfl (cc rfl (ah (aF (au ?_))))
   exact aa (rfl)
theorem rq (sA:List (List UInt8)) (f:(List UInt8)→Option Bool) {wv:Nat} {oQ:List MV} (CY:gv wv=false) (iw: ∀(u0:List UInt8),Sm MV.b (eI wv ([.s u0]++oQ)) (f u0)):Sm MV.b (ec (.list (sA.map MV.s)) (.func wv oQ)) (dh sA f):=by
 unfold ec dh
 refine aX (qt ?_)
 refine al (uS sA f CY iw) fun rA=> ?_
 refine aF ?_
 exact aa (rfl)
theorem nZ (p:List UInt8):Sm (fun r=> .cH [.list (r.1.map MV.s),.b r.2]) (jv (.s p)) (fQ p):=by
 unfold jv fQ
 refine bI ?_
 refine al (zR p ([47]:List UInt8)) fun rA=> ?_
 refine cO (ah (bI (ah (aU (au ?_)))))
 refine al (f:=fun r=>[.b r]) ?_ fun w=> ?_
 ·refine aN ?_ ?_
  ·exact aa (rfl)
  ·exact aa (rfl)
 ·refine ah (aU (au ?_))
  refine aN ?_ ?_
  ·exact aa (rfl)
  ·refine aR ?_ ?_
   ·exact aa (rfl)
   ·refine al (VB rA.1 ([47]:List UInt8)) fun aV=> ?_
    refine qp ?_
    refine al (f:=fun r=>[.list (r.1.map MV.s),.b r.2.1,.list (r.2.2.map MV.s)]) ?_ fun w1=> ?_
    ·refine a8 (n:=aV.length) (by simp only [List.length_map,List.length_cons,List.length_nil]) ?_
     refine aR ?_ ?_
     ·refine al (rq aV kV (wv:=196) (oQ:=[]) rfl (fun u1=>Sm.at (mA _) (Iu u1))) fun cP=> ?_
      refine aU ?_
      exact aa (rfl)
     ·exact aa (rfl)
    ·refine ah (aX (ah (aU (ah (aX (au ?_))))))
     exact aa (rfl)
theorem vk (x:List UInt8):Sm MV.b (jM (.s x)) (jH x):=by
 unfold jM jH
 refine bI ?_
 exact aa (rfl)
theorem zT (x:List UInt8) (y:List UInt8):Sm (MV.i .i64) (j9 (.s x) (.s y)) (gG x y):=by
 unfold j9 gG
 refine bI (bI ?_)
 refine al (vk x) fun rA=> ?_
 refine aU ?_
 refine al (vk y) fun aV=> ?_
 refine aU ?_
 refine aN ?_ ?_
 ·refine aN ?_ ?_
  ·exact aa (rfl)
  ·exact aa (rfl)
 ·refine aN ?_ ?_
  ·exact aa (rfl)
  ·refine aN ?_ ?_
   ·exact aa (rfl)
   ·refine aN ?_ ?_
    ·exact aa (rfl)
    ·exact aa (rfl)
theorem wQ (s1:List (List UInt8)) (s2:List (List UInt8)):Sm (MV.i .i64) (ia (.list (s1.map MV.s)) (.list (s2.map MV.s))) (eU s1 s2):=by
 unfold ia eU
 refine aX (aX (a8 (n:=s1.length) (by simp only [List.length_map,List.length_cons,List.length_nil]) ?_))
 refine al (cC (fun r=>[.i .i64 r]) (Sum.elim (fun r=>(2,[])) (fun r=>(1,[.i .i64 r]))) (rfl) fun st=> ?_) fun w=> ?_
 ·unfold dS
  refine ah (aF (au ?_))
  refine aR ?_ ?_
  ·refine bM (f:=MV.s) (rfl) fun y=> ?_
   refine bI (a8 (n:=s2.length) (by simp only [List.length_map,List.length_cons,List.length_nil]) ?_)
   refine aR ?_ ?_
   ·exact aa (rfl)
   ·refine bM (f:=MV.s) (rfl) fun y1=> ?_
    refine bI ?_
    refine al (zT y y1) fun rA=> ?_
    refine aF ?_
    refine aN ?_ ?_
    ·exact aa (rfl)
    ·exact aa (rfl)
  ·exact aa (rfl)
 ·rcases w with p1|p2
  ·refine im rfl (au (a8 (n:=s1.length) (by simp only [List.length_map,List.length_cons,List.length_nil]) (a8 (n:=s2.length) (by simp only [List.length_map,List.length_cons,List.length_nil]) ?_)))
   refine aR ?_ ?_
   ·exact aa (rfl)
   ·exact aa (rfl)
  ·refine iq rfl (cc rfl (ah (aF (au ?_))))
   exact aa (rfl)
theorem EB (p:List UInt8) (q:List UInt8):Sm MV.b (qL (.s p) (.s q)) (nT p q):=by
 unfold qL nT
 refine bI (bI ?_)
 refine al (nZ p) fun rA=> ?_
 refine cO (ah (aX (ah (aU (au ?_)))))
 refine al (nZ q) fun aV=> ?_
 refine cO (ah (aX (ah (aU (au ?_)))))
 refine al (f:=fun r=>[.b r]) ?_ fun w=> ?_
 ·refine aN ?_ ?_
  ·refine aN ?_ ?_
   ·refine al (wQ rA.1 aV.1) fun cP=> ?_
    refine aF ?_
    exact aa (rfl)
   ·exact aa (rfl)
  ·exact aa (rfl)
 ·refine ah (aU (au ?_))
  exact aa (rfl)
theorem yQ (n:ae) (p:List UInt8):Sm (MV.i .i64) (jx (aE n) (.s p)) (bX n p):=by
 unfold jx bX
 refine aT (ft (bI ?_))
 refine aR ?_ ?_
 ·exact aa (rfl)
 ·refine al (EB n.Path p) fun rA=> ?_
  refine aU ?_
  refine aN ?_ ?_
  ·exact aa (rfl)
  ·exact aa (rfl)
theorem kK (x:List ae) (target:List UInt8) (cmp:ae→(List UInt8)→Option Int) {It:Nat} {nL:List MV} (BO:gv It=false) (dX: ∀(u0:ae) (u1:List UInt8),Sm (MV.i .i64) (bZ It ([aE u0,.s u1]++nL)) (cmp u0 u1)):Sm (fun r=> .cH [.i .i64 r.1,.b r.2]) (cb (.list (x.map aE)) (.s target) (.func It nL)) (c8 x target cmp):=by
 unfold cb c8
 refine aX (bI (qt (a8 (n:=x.length) (by simp only [List.length_map,List.length_cons,List.length_nil]) ?_)))
 refine al (cC (fun r=>[.i .i64 r.1,.i .i64 r.2]) (fun r=>(2,[.i .i64 r])) (rfl) fun st=> ?_) fun w=> ?_
 ·unfold ek
  refine xO ?_
  refine aR ?_ ?_
  ·refine fg ?_
   refine bM (f:=aE) (rfl) fun y=> ?_
   refine aT (ft (qq (cc (by rw [BO];rfl) ?_)))
   refine al (dX y target) fun rA=> ?_
   refine aF ?_
   refine al (f:=(fun r=>(0,[.i .i64 r.1,.i .i64 r.2]))) ?_ fun w1=> ?_
   ·refine aR ?_ ?_
    ·exact aa (rfl)
    ·exact aa (rfl)
   ·refine cc rfl (xO ?_)
    exact aa (rfl)
  ·exact aa (rfl)
 ·refine cc rfl (ah (aF (au ?_)))
  refine al (f:=fun r=>[.i .i64 r.1,.b r.2]) ?_ fun w2=> ?_
  ·refine aR ?_ ?_
   ·refine bM (f:=aE) (rfl) fun y1=> ?_
    refine aT (ft (qq (cc (by rw [BO];rfl) ?_)))
    refine al (dX y1 target) fun aV=> ?_
    refine aF ?_
    exact aa (rfl)
   ·exact aa (rfl)
  ·refine zN ?_
   exact aa (rfl)
theorem tF (sA:av) (p:List UInt8):Sm (fun r=> .cH [.i .i64 r.1,.b r.2]) (iW (bP sA) (.s p)) (dE sA p):=by
 unfold iW dE
 refine aT (ah (aX (au (bI ?_))))
 refine al (kK sA.L p bX (It:=245) (nL:=[]) rfl (fun u2 u3=>Sm.at (eW _ _) (yQ u2 u3))) fun rA=> ?_
 refine cO (zN ?_)
 exact aa (rfl)
theorem mD (p:List UInt8):Sm MV.b (iv (.s p)) (fR p):=by
 unfold iv fR
 refine bI ?_
 refine al (nZ p) fun rA=> ?_
 refine cO (ah (aX (ah (aU (au ?_)))))
 exact aa (rfl)
theorem pY (sA:List UInt8) (c:Int):Sm (MV.i .i64) (dH (.s sA) (.i .u8 c)) (dG sA c):=by
 unfold dH dG
 refine bI (aF ?_)
 refine al (cC (fun r=>[.i .i64 r]) (Sum.elim (fun r=>(2,[])) (fun r=>(1,[.i .i64 r]))) (rfl) fun st=> ?_) fun w=> ?_
 ·unfold dp
  refine ah (aF (au ?_))
  refine aR ?_ ?_
  ·refine fg ?_
   refine aR ?_ ?_
   ·exact aa (rfl)
   ·exact aa (rfl)
  ·exact aa (rfl)
 ·rcases w with p1|p2
  ·refine im rfl (au ?_)
   exact aa (rfl)
  ·refine iq rfl (cc rfl (ah (aF (au ?_))))
   exact aa (rfl)
theorem sK (sep:List UInt8):Sm (fun r=> .cH [.i .u32 r.1,.i .u32 r.2]) (eJ (.s sep)) (iu sep):=by
 unfold eJ iu
 refine bI ?_
 refine al (cC (fun r=>[.i .u32 r.1,.i .i64 r.2]) (fun r=>(2,[.i .u32 r])) (rfl) fun st=> ?_) fun w=> ?_
 ·unfold kr
  refine xO ?_
  refine aR ?_ ?_
  ·refine fg ?_
   exact aa (rfl)
  ·exact aa (rfl)
 ·refine cc rfl (ah (aF (au ?_)))
  refine al (cC (fun r=>[.i .u32 r.1,.i .u32 r.2.1,.i .i64 r.2.2]) (fun r=>(4,[.i .u32 r])) (rfl) fun eE=> ?_) fun w1=> ?_
  ·unfold ku
   refine wN ?_
   refine aR ?_ ?_
   ·exact Vx
   ·exact aa (rfl)
  ·refine cc rfl (ah (aF (au ?_)))
   exact aa (rfl)
theorem nt (a:List UInt8) (a1:List UInt8):Sm (MV.i .i64) (cV (.s a) (.s a1)) (dU a a1):=by
 unfold cV dU
 refine bI (bI ?_)
 refine al (sK a1) fun rA=> ?_
 refine cO (xO ?_)
 refine al (cC (fun r=>[.i .u32 r.1,.i .i64 r.2]) (fun r=>(2,[.i .u32 r])) (rfl) fun st=> ?_) fun w=> ?_
 ·unfold fS
  refine xO ?_
  refine aR ?_ ?_
  ·refine fg ?_
   exact aa (rfl)
  ·exact aa (rfl)
 ·refine cc rfl (ah (aF (au ?_)))
  refine al (f:=fun r=>[.b r]) ?_ fun w1=> ?_
  ·refine aR ?_ ?_
   ·refine fg ?_
    exact aa (rfl)
   ·exact aa (rfl)
  ·refine ah (aU (au ?_))
   refine aN ?_ ?_
   ·exact aa (rfl)
   ·refine al (cC (fun r=>[.i .u32 r.1,.i .i64 r.2]) (Sum.elim (fun r=>(4,[])) (fun r=>(1,[.i .i64 r]))) (rfl) fun eE=> ?_) fun w2=> ?_
    ·unfold fT
     refine xO ?_
     refine aR ?_ ?_
     ·refine fg (fg ?_)
      refine al (f:=fun r=>[.b r]) ?_ fun w3=> ?_
      ·refine aR ?_ ?_
       ·refine fg ?_
        exact aa (rfl)
       ·exact aa (rfl)
      ·refine ah (aU (au ?_))
       refine aN ?_ ?_
       ·exact aa (rfl)
       ·exact aa (rfl)
     ·exact aa (rfl)
    ·rcases w2 with p2|p3
     ·refine im rfl (au ?_)
      exact aa (rfl)
     ·refine iq rfl (cc rfl (ah (aF (au ?_))))
      exact aa (rfl)
theorem zU (sA:List UInt8) (substr:List UInt8):Sm (MV.i .i64) (kb (.s sA) (.s substr)) (gJ sA substr):=by
 unfold kb gJ
 refine bI (bI ?_)
 refine aR ?_ ?_
 ·exact aa (rfl)
 ·refine aR ?_ ?_
  ·refine fg ?_
   refine al (pY sA ((substr.getD (Int.toNat 0) 0).toNat:Int)) fun rA=> ?_
   refine aF ?_
   exact aa (rfl)
  ·refine aR ?_ ?_
   ·refine aR ?_ ?_
    ·exact aa (rfl)
    ·exact aa (rfl)
   ·refine aR ?_ ?_
    ·exact aa (rfl)
    ·refine al (nt sA substr) fun aV=> ?_
     refine aF ?_
     exact aa (rfl)
theorem wR (p:List UInt8):Sm (fun r=> .cH [.s r.1,.i .i64 r.2]) (mL (.s p)) (kv p):=by
 unfold mL kv
 refine bI ?_
 refine al (mD p) fun rA=> ?_
 refine aU ?_
 refine aN ?_ ?_
 ·exact aa (rfl)
 ·refine aR ?_ ?_
  ·exact aa (rfl)
  ·refine al (zU p ([47]:List UInt8)) fun aV=> ?_
   refine aF (fg ?_)
   exact aa (rfl)
theorem pA (sA:av) (p:List UInt8):Sm (fun r=> .cH [.i .i64 r.1,.i .i64 r.2]) (gx (bP sA) (.s p)) (fj sA p):=by
 unfold gx fj
 refine aT (ah (aX (au (bI ?_))))
 refine al (mD p) fun rA=> ?_
 refine aU ?_
 refine aN ?_ ?_
 ·exact aa (rfl)
 ·refine al (tF sA p) fun aV=> ?_
  refine cO (zN ?_)
  refine aN ?_ ?_
  ·exact aa (rfl)
  ·exact aa (rfl)
theorem AP (sA:av) (p:List UInt8):Sm (fun r=> .cH [aE r.1,.i .i64 r.2]) (qc (bP sA) (.s p)) (nU sA p):=by
 unfold qc nU
 refine aT (ah (aX (au (bI ?_))))
 refine al (pA sA p) fun rA=> ?_
 refine cO (xO ?_)
 refine aN ?_ ?_
 ·exact aa (rfl)
 ·refine bM (f:=aE) (rfl) fun y=> ?_
  refine aT (ft ?_)
  exact aa (rfl)
theorem EC (c:List UInt8) (c1:Bool) (c2:av) (c3:List UInt8) (c4:Int):Sm (MV.i .i64) (nl (.rp [.s c]) (.rp [.b c1]) (.rp [.list (c2.L.map aE)]) (.rp [.s c3]) (.rp [.i .i64 c4])) (fU c c1 c2 c3 c4):=by
 unfold nl fU
 refine DE (ah (bI (au (DE (ah (aU (au (DE (ah (aX (au ?_)))))))))))
 refine DE (ah (bI (au (DE (ah (aF (au ?_)))))))
 refine al (mD c) fun rA=> ?_
 refine aU ?_
 refine aN ?_ ?_
 ·exact aa (rfl)
 ·refine aN ?_ ?_
  ·exact aa (rfl)
  ·refine al (wR c) fun aV=> ?_
   refine cO (ah (bI (ah (aF (au ?_)))))
   refine al (AP c2 aV.1) fun cP=> ?_
   refine cO (ah (aT (ft (ah (aF (au ?_))))))
   refine aN ?_ ?_
   ·exact aa (rfl)
   ·refine aN ?_ ?_
    ·exact aa (rfl)
    ·refine aR ?_ ?_
     ·exact aa (rfl)
     ·refine aR ?_ ?_
      ·exact aa (rfl)
      ·refine a8 (n:=c2.L.length) (by simp only [List.length_map,List.length_cons,List.length_nil]) ?_
       refine aR ?_ ?_
       ·exact aa (rfl)
       ·exact aa (rfl)
theorem Iv (sA:av) (p:List UInt8) (value:List UInt8) (owner:Int):Sm (fun r=> .cH [bP r.1,.i .i64 r.2]) (pT (bP sA) (.s p) (.s value) (.i .i64 owner)) (kW sA p value owner):=by
 unfold pT kW
 refine aT (ah (aX (au (bI (bI (aF ?_))))))
 refine al (tF sA p) fun rA=> ?_
 refine cO (zN ?_)
 refine al (EC p rA.2 sA value owner) fun aV=> ?_
 refine aF ?_
 refine aN ?_ ?_
 ·exact aa (rfl)
 ·refine Cv ?_
  refine al (pR (size:=4) (f:=aE) (fun _=>rfl) sA.L) fun cP=> ?_
  refine qp ?_
  refine al (DF (f:=aE) cP rA.1 ([(⟨p,value,0,owner⟩:ae)]:List ae)) fun mP=> ?_
  refine qp ?_
  exact aa (rfl)
theorem mE (w:af) (kind:Int):Sm (fun r=> .dL ((fun _=> .cH []) r.1) (bq r.2)) (eD (bq w) (.i .i64 kind)) (c9 w kind):=by
 unfold eD c9
 refine aF (aw ?_)
 refine al (f:=(fun r=>(0,(v1 r)))) ?_ fun w1=> ?_
 ·refine aR ?_ ?_
  ·refine a8 (n:=w.l.length) (by simp only [List.length_map,List.length_cons,List.length_nil]) (a8 (n:=([(⟨kind,w.o.Path⟩:aC)]:List aC).length) (by simp only [List.length_map,List.length_cons,List.length_nil]) (fg ?_))
   exact aa (by simp [bq,ao,v1])
  ·exact aa (rfl)
 ·refine cc rfl (aw ?_)
  exact aa (rfl)
theorem zV (w:af):Sm (fun r=> .dL ((fun _=> .cH []) r.1) (bq r.2)) (kc (bq w)) (gK w):=by
 unfold kc gK
 refine aw ?_
 refine al (f:=fun r=>[.b r]) ?_ fun w1=> ?_
 ·refine aN ?_ ?_
  ·refine al (G9 w.r.bF w.o.Session) fun rA=> ?_
   refine aU ?_
   exact aa (rfl)
  ·exact aa (rfl)
 ·refine ah (aU (au ?_))
  refine aN ?_ ?_
  ·exact aa (rfl)
  ·refine al (Iv w.r.Shelf w.o.Path w.o.Value w.o.Session) fun aV=> ?_
   refine cO (ah (aT (ah (aX (au (ah (aF (au ?_))))))))
   refine al (mE (⟨(⟨aV.1,w.r.bF,w.r.ck,w.r.Seen⟩:aq),w.o,(⟨w.x.Client,w.x.Seq,aV.2,w.x.Value,w.x.Version,w.x.Names⟩:ai),w.l⟩:af) 1) fun cP=> ?_
   refine GR (aw ?_)
   exact aa (rfl)
theorem ED (w:af):Sm (fun r=> .dL ((fun _=> .cH []) r.1) (bq r.2)) (nm (bq w)) (kw w):=by
 unfold nm kw
 refine aw ?_
 refine al (AP w.r.Shelf w.o.Path) fun rA=> ?_
 refine cO (ah (aT (ft (ah (aF (au ?_))))))
 exact aa (rfl)
theorem o4 (sA:av) (p:List UInt8) (version:Int):Sm (fun r=> .cH [.i .i64 r.1,.i .i64 r.2]) (eY (bP sA) (.s p) (.i .i64 version)) (dF sA p version):=by
 unfold eY dF
 refine aT (ah (aX (au (bI (aF ?_)))))
 refine al (pA sA p) fun rA=> ?_
 refine cO (xO ?_)
 refine al (f:=fun r=>[.b r]) ?_ fun w=> ?_
 ·refine aR ?_ ?_
  ·refine aN ?_ ?_
   ·refine bM (f:=aE) (rfl) fun y=> ?_
    refine aT (ft ?_)
    exact aa (rfl)
   ·exact aa (rfl)
  ·exact aa (rfl)
 ·refine ah (aU (au ?_))
  refine aN ?_ ?_
  ·exact aa (rfl)
  ·exact aa (rfl)
theorem PI (sA:av) (p:List UInt8) (value:List UInt8) (version:Int):Sm (fun r=> .cH [bP r.1,.i .i64 r.2]) (xm (bP sA) (.s p) (.s value) (.i .i64 version)) (tg sA p value version):=by
 unfold xm tg
 refine aT (ah (aX (au (bI (bI (aF ?_))))))
 refine al (o4 sA p version) fun rA=> ?_
 refine cO (xO ?_)
 refine aN ?_ ?_
 ·exact aa (rfl)
 ·refine aR ?_ ?_
  ·exact aa (rfl)
  ·refine bM (f:=aE) (rfl) fun y=> ?_
   refine aT (ft ?_)
   refine aR ?_ ?_
   ·exact aa (rfl)
   ·refine al (pR (size:=4) (f:=aE) (fun _=>rfl) sA.L) fun aV=> ?_
    refine qp ?_
    refine bM (f:=aE) (rfl) fun y1=> ?_
    refine aT (ft ?_)
    refine bM (f:=aE) (by simp only [List.map_replicate,List.map_append,List.map_cons,List.map_nil,List.map_take,List.map_drop,List.map_set]) fun y2=> ?_
    refine aT (ft ?_)
    refine bM (f:=aE) (by simp only [List.map_replicate,List.map_append,List.map_cons,List.map_nil,List.map_take,List.map_drop,List.map_set]) fun y3=> ?_
    refine aT (ft ?_)
    exact aa (by simp [nD])
theorem EE (w:af):Sm (fun r=> .dL ((fun _=> .cH []) r.1) (bq r.2)) (nn (bq w)) (kz w):=by
 unfold nn kz
 refine aw ?_
 refine al (PI w.r.Shelf w.o.Path w.o.Value w.o.Version) fun rA=> ?_
 refine cO (ah (aT (ah (aX (au (ah (aF (au ?_))))))))
 refine al (mE (⟨(⟨rA.1,w.r.bF,w.r.ck,w.r.Seen⟩:aq),w.o,(⟨w.x.Client,w.x.Seq,rA.2,w.x.Value,w.x.Version,w.x.Names⟩:ai),w.l⟩:af) 2) fun aV=> ?_
 refine GR (aw ?_)
 refine al (f:=(fun r=>(0,(v1 r)))) ?_ fun w1=> ?_
 ·refine aR ?_ ?_
  ·refine al (AP aV.2.r.Shelf aV.2.o.Path) fun cP=> ?_
   refine cO (ah (aT (ft (ah (aF (au ?_))))))
   exact aa (rfl)
  ·exact aa (rfl)
 ·refine cc rfl (aw ?_)
  exact aa (rfl)
theorem qX (s1:List (List UInt8)) (s2:List (List UInt8)):Sm MV.b (fW (.list (s1.map MV.s)) (.list (s2.map MV.s))) (eA s1 s2):=by
 unfold fW eA
 refine aX (aX (a8 (n:=s1.length) (by simp only [List.length_map,List.length_cons,List.length_nil]) (a8 (n:=s2.length) (by simp only [List.length_map,List.length_cons,List.length_nil]) ?_)))
 refine aN ?_ ?_
 ·exact aa (rfl)
 ·refine a8 (n:=s1.length) (by simp only [List.length_map,List.length_cons,List.length_nil]) ?_
  refine al (cC (fun r=>[.i .i64 r]) (Sum.elim (fun r=>(2,[])) (fun r=>(1,[.b r]))) (rfl) fun st=> ?_) fun w=> ?_
  ·unfold gM
   refine ah (aF (au ?_))
   refine aR ?_ ?_
   ·refine bM (f:=MV.s) (rfl) fun y=> ?_
    refine bI ?_
    refine bM (f:=MV.s) (rfl) fun y1=> ?_
    refine bI ?_
    refine aN ?_ ?_
    ·exact aa (rfl)
    ·exact aa (rfl)
   ·exact aa (rfl)
  ·rcases w with p1|p2
   ·refine im rfl (au ?_)
    exact aa (rfl)
   ·refine iq rfl (cc rfl (ah (aU (au ?_))))
    exact aa (rfl)
theorem EF (p:List UInt8) (q:List UInt8):Sm MV.b (qQ (.s p) (.s q)) (mw p q):=by
 unfold qQ mw
 refine bI (bI ?_)
 refine al (nZ p) fun rA=> ?_
 refine cO (ah (aX (ah (aU (au ?_)))))
 refine al (nZ q) fun aV=> ?_
 refine cO (ah (aX (ah (aU (au ?_)))))
 refine al (f:=fun r=>[.b r]) ?_ fun w=> ?_
 ·refine aN ?_ ?_
  ·refine aN ?_ ?_
   ·refine a8 (n:=aV.1.length) (by simp only [List.length_map,List.length_cons,List.length_nil]) (a8 (n:=rA.1.length) (by simp only [List.length_map,List.length_cons,List.length_nil]) ?_)
    refine aR ?_ ?_
    ·refine a8 (n:=rA.1.length) (by simp only [List.length_map,List.length_cons,List.length_nil]) (a8 (n:=aV.1.length) (by simp only [List.length_map,List.length_cons,List.length_nil]) (fg ?_))
     refine al (by simpa using qX rA.1 (List.drop (Int.toNat 0) (List.take (Int.toNat (rA.1.length:Int)) aV.1))) fun cP=> ?_
     refine aU ?_
     exact aa (rfl)
    ·exact aa (rfl)
   ·exact aa (rfl)
  ·exact aa (rfl)
 ·refine ah (aU (au ?_))
  exact aa (rfl)
theorem Iw (sA:av) (p:List UInt8) (version:Int):Sm (fun r=> .cH [bP r.1,.i .i64 r.2]) (pU (bP sA) (.s p) (.i .i64 version)) (mY sA p version):=by
 unfold pU mY
 refine aT (ah (aX (au (bI (aF ?_)))))
 refine al (o4 sA p version) fun rA=> ?_
 refine cO (xO ?_)
 refine aR ?_ ?_
 ·exact aa (rfl)
 ·refine aN ?_ ?_
  ·exact aa (rfl)
  ·refine al (f:=fun r=>[.b r]) ?_ fun w=> ?_
   ·refine a8 (n:=sA.L.length) (by simp only [List.length_map,List.length_cons,List.length_nil]) ?_
    refine aR ?_ ?_
    ·refine bM (f:=aE) (rfl) fun y=> ?_
     refine aT (ft ?_)
     refine al (EF p y.Path) fun aV=> ?_
     refine aU ?_
     exact aa (rfl)
    ·exact aa (rfl)
   ·refine ah (aU (au ?_))
    refine aN ?_ ?_
    ·exact aa (rfl)
    ·refine al (pR (size:=4) (f:=aE) (fun _=>rfl) sA.L) fun cP=> ?_
     refine qp ?_
     refine al (J7 (f:=aE) cP rA.1 (IntKind.wrap .i64 (rA.1+1))) fun mP=> ?_
     refine qp ?_
     exact aa (rfl)
theorem zW (w:af):Sm (fun r=> .dL ((fun _=> .cH []) r.1) (bq r.2)) (ke (bq w)) (gO w):=by
 unfold ke gO
 refine aw ?_
 refine al (Iw w.r.Shelf w.o.Path w.o.Version) fun rA=> ?_
 refine cO (ah (aT (ah (aX (au (ah (aF (au ?_))))))))
 refine al (mE (⟨(⟨rA.1,w.r.bF,w.r.ck,w.r.Seen⟩:aq),w.o,(⟨w.x.Client,w.x.Seq,rA.2,w.x.Value,w.x.Version,w.x.Names⟩:ai),w.l⟩:af) 3) fun aV=> ?_
 refine GR (aw ?_)
 exact aa (rfl)
theorem EG (p:List UInt8):Sm (fun r=> .cH [.list (r.1.map MV.s),.i .i64 r.2]) (qR (.s p)) (nV p):=by
 unfold qR nV
 refine bI ?_
 refine al (nZ p) fun rA=> ?_
 refine cO (ah (aX (ah (aU (au ?_)))))
 refine aN ?_ ?_
 ·exact aa (rfl)
 ·exact aa (rfl)
theorem Mm (a:av) (a1:List UInt8):Sm (fun r=> .cH [.list (r.1.map MV.s),.i .i64 r.2]) (uC (bP a) (.s a1)) (qv a a1):=by
 unfold uC qv
 refine aT (ah (aX (au (bI ?_))))
 refine al (pA a a1) fun rA=> ?_
 refine cO (xO ?_)
 refine aN ?_ ?_
 ·exact aa (rfl)
 ·refine al (EG a1) fun aV=> ?_
  refine cO (ah (aX (ah (aF (au (cc (NR (rfl:_=List.map aE a.L) fun _=>rfl) (a8 (n:=a.L.length) (by simp only [List.length_map,List.length_cons,List.length_nil]) (fg (a8 (n:=(List.drop (Int.toNat (IntKind.wrap .i64 (rA.1+1))) (List.take (Int.toNat (a.L.length:Int)) a.L)).length) (by simp only [List.length_map,List.length_append,List.length_cons,List.length_nil,List.length_take,List.length_drop,List.length_set]) ?_)))))))))
  refine al (cC (fun r=>[.list (r.1.map MV.s),.i .i64 r.2]) (fun r=>(2,[.list (r.map MV.s)])) (rfl) fun st=> ?_) fun w=> ?_
  ·unfold mZ
   refine ah (aX (ah (aF (au ?_))))
   refine aR ?_ ?_
   ·refine bM (f:=aE) (by simp only [List.map_replicate,List.map_append,List.map_cons,List.map_nil,List.map_take,List.map_drop,List.map_set]) fun y=> ?_
    refine aT (ft ?_)
    refine al (EF a1 y.Path) fun cP=> ?_
    refine aU ?_
    refine aN ?_ ?_
    ·exact aa (rfl)
    ·refine al (EG y.Path) fun mP=> ?_
     refine cO (ah (aX (ah (aF (au (a8 (n:=mP.1.length) (by simp only [List.length_map,List.length_cons,List.length_nil]) (a8 (n:=aV.1.length) (by simp only [List.length_map,List.length_cons,List.length_nil]) ?_)))))))
     refine al (f:=(fun r=>(0,[.list (r.map MV.s)]))) ?_ fun w1=> ?_
     ·refine aR ?_ ?_
      ·refine a8 (n:=aV.1.length) (by simp only [List.length_map,List.length_cons,List.length_nil]) ?_
       refine bM (f:=MV.s) (rfl) fun y1=> ?_
       refine bI (a8 (n:=st.1.length) (by simp only [List.length_map,List.length_cons,List.length_nil]) (a8 (n:=([y1]:List (List UInt8)).length) (by simp only [List.length_map,List.length_cons,List.length_nil]) (fg ?_)))
       exact aa (by simp)
      ·exact aa (rfl)
     ·refine cc rfl (ah (aX (au ?_)))
      exact aa (rfl)
   ·exact aa (rfl)
  ·refine cc rfl (ah (aX (au ?_)))
   exact aa (rfl)
theorem Ck (w:af):Sm (fun r=> .dL ((fun _=> .cH []) r.1) (bq r.2)) (mf (bq w)) (jI w):=by
 unfold mf jI
 refine aw ?_
 refine al (Mm w.r.Shelf w.o.Path) fun rA=> ?_
 refine cO (ah (aX (ah (aF (au ?_)))))
 exact aa (rfl)
theorem Mn (b:az) (id:Int) (span:Int):Sm (fun r=> .cH [cR r.1,.i .i64 r.2]) (uD (cR b) (.i .i64 id) (.i .i64 span)) (qw b id span):=by
 unfold uD qw
 refine aT (yN (aF (aF ?_)))
 refine al (mj b id) fun rA=> ?_
 refine cO (zN ?_)
 refine al (f:=fun r=>[.b r]) ?_ fun w=> ?_
 ·refine aR ?_ ?_
  ·exact aa (rfl)
  ·refine aR ?_ ?_
   ·exact aa (rfl)
   ·exact aa (rfl)
 ·refine ah (aU (au ?_))
  refine aN ?_ ?_
  ·exact aa (rfl)
  ·refine aN ?_ ?_
   ·exact aa (rfl)
   ·refine a8 (n:=b.L.length) (by simp only [List.length_map,List.length_cons,List.length_nil]) ?_
    refine aR ?_ ?_
    ·exact aa (rfl)
    ·refine Cv ?_
     refine al (pR (size:=3) (f:=aQ) (fun _=>rfl) b.L) fun aV=> ?_
     refine qp ?_
     refine al (DF (f:=aQ) aV rA.1 ([(⟨id,span,IntKind.wrap .i64 (b.fE+span)⟩:ay)]:List ay)) fun cP=> ?_
     refine qp ?_
     exact aa (rfl)
theorem Cl (w:af):Sm (fun r=> .dL ((fun _=> .cH []) r.1) (bq r.2)) (mg (bq w)) (jJ w):=by
 unfold mg jJ
 refine aw ?_
 refine al (Mn w.r.bF w.o.Session w.o.Span) fun rA=> ?_
 refine cO (ah (aT (yN (ah (aF (au ?_))))))
 exact aa (rfl)
theorem Ks (b:az) (id:Int):Sm (fun r=> .cH [cR r.1,.i .i64 r.2]) (r6 (cR b) (.i .i64 id)) (oL b id):=by
 unfold r6 oL
 refine aT (yN (aF ?_))
 refine al (mj b id) fun rA=> ?_
 refine cO (zN ?_)
 refine aN ?_ ?_
 ·exact aa (rfl)
 ·refine al (pR (size:=3) (f:=aQ) (fun _=>rfl) b.L) fun aV=> ?_
  refine qp ?_
  refine bM (f:=aQ) (rfl) fun y=> ?_
  refine aT (wN ?_)
  refine bM (f:=aQ) (rfl) fun y1=> ?_
  refine aT (wN ?_)
  exact aa (by simp)
theorem AQ (w:af):Sm (fun r=> .dL ((fun _=> .cH []) r.1) (bq r.2)) (lg (bq w)) (iO w):=by
 unfold lg iO
 refine aw ?_
 refine al (Ks w.r.bF w.o.Session) fun rA=> ?_
 refine cO (ah (aT (yN (ah (aF (au ?_))))))
 exact aa (rfl)
theorem Kt (b:az) (id:Int):Sm (fun r=> .cH [cR r.1,.i .i64 r.2]) (r7 (cR b) (.i .i64 id)) (oM b id):=by
 unfold r7 oM
 refine aT (yN (aF ?_))
 refine al (mj b id) fun rA=> ?_
 refine cO (zN ?_)
 refine aN ?_ ?_
 ·exact aa (rfl)
 ·refine al (pR (size:=3) (f:=aQ) (fun _=>rfl) b.L) fun aV=> ?_
  refine qp ?_
  refine al (J7 (f:=aQ) aV rA.1 (IntKind.wrap .i64 (rA.1+1))) fun cP=> ?_
  refine qp ?_
  exact aa (rfl)
theorem Mo (sA:av) (owner:Int):Sm (fun r=> .cH [bP r.1,.list (r.2.map MV.s)]) (uE (bP sA) (.i .i64 owner)) (qx sA owner):=by
 unfold uE qx
 refine aT (ah (aX (au (aF (a8 (n:=sA.L.length) (by simp only [List.length_map,List.length_cons,List.length_nil]) ?_)))))
 refine al (cC (fun r=>[.list (r.1.map MV.s),.list (r.2.1.map aE),.i .i64 r.2.2]) (fun r=>(2,[.list (r.1.map MV.s),.list (r.2.map aE)])) (rfl) fun st=> ?_) fun w=> ?_
 ·unfold na
  refine ah (aX (ah (aX (ah (aF (au ?_))))))
  refine aR ?_ ?_
  ·refine bM (f:=aE) (rfl) fun y=> ?_
   refine aT (ft ?_)
   refine al (f:=fun r=>[.b r]) ?_ fun w1=> ?_
   ·refine aR ?_ ?_
    ·exact aa (rfl)
    ·exact aa (rfl)
   ·refine ah (aU (au ?_))
    refine aN ?_ ?_
    ·refine a8 (n:=st.1.length) (by simp only [List.length_map,List.length_cons,List.length_nil]) (a8 (n:=([y.Path]:List (List UInt8)).length) (by simp only [List.length_map,List.length_cons,List.length_nil]) (fg ?_))
     exact aa (by simp [nD])
    ·refine a8 (n:=st.2.1.length) (by simp only [List.length_map,List.length_cons,List.length_nil]) (a8 (n:=([y]:List ae).length) (by simp only [List.length_map,List.length_cons,List.length_nil]) (fg ?_))
     exact aa (by simp [nD])
  ·exact aa (rfl)
 ·refine cc rfl (ah (aX (ah (aX (au ?_)))))
  exact aa (rfl)
theorem vl (w:af) (id:Int):Sm (fun r=> .dL ((fun _=> .cH []) r.1) (bq r.2)) (jN (bq w) (.i .i64 id)) (gw w id):=by
 unfold jN gw
 refine aF (aw ?_)
 refine al (Mo w.r.Shelf id) fun rA=> ?_
 refine cO (ah (aT (ah (aX (au (ah (aX (au (a8 (n:=rA.2.length) (by simp only [List.length_map,List.length_cons,List.length_nil]) ?_)))))))))
 refine al (cC (fun r=>(v0 r)) (fun r=>(2,(v1 r))) (rfl) fun st=> ?_) fun w1=> ?_
 ·unfold gQ
  refine ah (aF (aw ?_))
  refine aR ?_ ?_
  ·refine bM (f:=MV.s) (rfl) fun y=> ?_
   refine bI (a8 (n:=st.2.2.2.2.2.2.2.2.2.2.2.2.2.2.2.2.2.2.2.2.length) (by simp only [List.length_map,List.length_cons,List.length_nil]) (a8 (n:=([(⟨3,y⟩:aC)]:List aC).length) (by simp only [List.length_map,List.length_cons,List.length_nil]) (fg ?_)))
   exact aa (by simp [bq,ao,v0,v1])
  ·exact aa (rfl)
 ·refine cc rfl (aw ?_)
  exact aa (rfl)
theorem AR (w:af):Sm (fun r=> .dL ((fun _=> .cH []) r.1) (bq r.2)) (lh (bq w)) (iP w):=by
 unfold lh iP
 refine aw ?_
 refine al (Kt w.r.bF w.o.Session) fun rA=> ?_
 refine cO (ah (aT (yN (ah (aF (au ?_))))))
 refine al (f:=(fun r=>(0,(v1 r)))) ?_ fun w1=> ?_
 ·refine aR ?_ ?_
  ·refine al (vl (⟨(⟨w.r.Shelf,rA.1,w.r.ck,w.r.Seen⟩:aq),w.o,(⟨w.x.Client,w.x.Seq,rA.2,w.x.Value,w.x.Version,w.x.Names⟩:ai),w.l⟩:af) w.o.Session) fun aV=> ?_
   refine GR (aw ?_)
   exact aa (rfl)
  ·exact aa (rfl)
 ·refine cc rfl (aw ?_)
  exact aa (rfl)
theorem Mp (b:az) (now:Int):Sm (fun r=> .cH [cR r.1,.list (r.2.1.map (MV.i .i64)),.i .i64 r.2.2]) (uF (cR b) (.i .i64 now)) (qy b now):=by
 unfold uF qy
 refine aT (yN (aF ?_))
 refine aR ?_ ?_
 ·exact aa (rfl)
 ·refine aR ?_ ?_
  ·exact aa (rfl)
  ·refine a8 (n:=b.L.length) (by simp only [List.length_map,List.length_cons,List.length_nil]) ?_
   refine al (cC (fun r=>[.list (r.1.map (MV.i .i64)),.i .i64 r.2.1,.list (r.2.2.1.map aQ),.i .i64 r.2.2.2]) (fun r=>(3,[.list (r.1.map (MV.i .i64)),.i .i64 r.2.1,.list (r.2.2.map aQ)])) (rfl) fun st=> ?_) fun w=> ?_
   ·unfold nb
    refine ah (aX (ah (aF (ah (aX (ah (aF (au ?_))))))))
    refine aR ?_ ?_
    ·refine bM (f:=aQ) (rfl) fun y=> ?_
     refine aT (wN ?_)
     refine aR ?_ ?_
     ·refine a8 (n:=st.1.length) (by simp only [List.length_map,List.length_cons,List.length_nil]) (a8 (n:=([y.Id]:List Int).length) (by simp only [List.length_map,List.length_cons,List.length_nil]) (fg ?_))
      exact aa (by simp)
     ·refine a8 (n:=st.2.2.1.length) (by simp only [List.length_map,List.length_cons,List.length_nil]) (a8 (n:=([y]:List ay).length) (by simp only [List.length_map,List.length_cons,List.length_nil]) (fg ?_))
      exact aa (by simp)
    ·exact aa (rfl)
   ·refine cc rfl (ah (aX (yN ?_)))
    exact aa (rfl)
theorem Cm (w:af):Sm (fun r=> .dL ((fun _=> .cH []) r.1) (bq r.2)) (mh (bq w)) (jK w):=by
 unfold mh jK
 refine aw ?_
 refine al (Mp w.r.bF w.o.Span) fun rA=> ?_
 refine cO (ah (aT (yN (ah (aX (ah (aF (au ?_))))))))
 refine aN ?_ ?_
 ·exact aa (rfl)
 ·refine a8 (n:=rA.2.1.length) (by simp only [List.length_map,List.length_cons,List.length_nil]) ?_
  refine al (cC (fun r=>(v0 r)) (fun r=>(2,(v1 r))) (rfl) fun st=> ?_) fun w1=> ?_
  ·unfold gU
   refine ah (aF (aw ?_))
   refine aR ?_ ?_
   ·refine bM (f:=(MV.i .i64)) (rfl) fun y=> ?_
    refine aF ?_
    refine al (vl (⟨(⟨(⟨st.2.1⟩:av),(⟨st.2.2.1,st.2.2.2.1⟩:az),(⟨st.2.2.2.2.1⟩:bo),st.2.2.2.2.2.1⟩:aq),(⟨st.2.2.2.2.2.2.1,st.2.2.2.2.2.2.2.1,st.2.2.2.2.2.2.2.2.1,st.2.2.2.2.2.2.2.2.2.1,st.2.2.2.2.2.2.2.2.2.2.1,st.2.2.2.2.2.2.2.2.2.2.2.1,st.2.2.2.2.2.2.2.2.2.2.2.2.1,st.2.2.2.2.2.2.2.2.2.2.2.2.2.1⟩:aB),(⟨st.2.2.2.2.2.2.2.2.2.2.2.2.2.2.1,st.2.2.2.2.2.2.2.2.2.2.2.2.2.2.2.1,st.2.2.2.2.2.2.2.2.2.2.2.2.2.2.2.2.1,st.2.2.2.2.2.2.2.2.2.2.2.2.2.2.2.2.2.1,st.2.2.2.2.2.2.2.2.2.2.2.2.2.2.2.2.2.2.1,st.2.2.2.2.2.2.2.2.2.2.2.2.2.2.2.2.2.2.2.1⟩:ai),st.2.2.2.2.2.2.2.2.2.2.2.2.2.2.2.2.2.2.2.2⟩:af) y) fun aV=> ?_
    refine GR (aw ?_)
    exact aa (rfl)
   ·exact aa (rfl)
  ·refine cc rfl (aw ?_)
   exact aa (rfl)
theorem uT (sA:List ak) (v:ak):Sm (MV.i .i64) (fK (.list (sA.map aY)) (aY v)) (fG sA v):=by
 unfold fK fG
 refine aX (aT (zO (a8 (n:=sA.length) (by simp only [List.length_map,List.length_cons,List.length_nil]) ?_)))
 refine al (cC (fun r=>[.i .i64 r]) (Sum.elim (fun r=>(2,[])) (fun r=>(1,[.i .i64 r]))) (rfl) fun st=> ?_) fun w=> ?_
 ·unfold du
  refine ah (aF (au ?_))
  refine aR ?_ ?_
  ·refine bM (f:=aY) (rfl) fun y=> ?_
   refine aT (zO ?_)
   refine aN ?_ ?_
   ·exact aa (rfl)
   ·exact aa (rfl)
  ·exact aa (rfl)
 ·rcases w with p1|p2
  ·refine im rfl (au ?_)
   exact aa (rfl)
  ·refine iq rfl (cc rfl (ah (aF (au ?_))))
   exact aa (rfl)
theorem rr (sA:List ak) (v:ak):Sm MV.b (ee (.list (sA.map aY)) (aY v)) (di sA v):=by
 unfold ee di
 refine aX (aT (zO ?_))
 refine al (uT sA v) fun rA=> ?_
 refine aF ?_
 exact aa (rfl)
theorem PJ (t:bo) (w:ak):Sm (fun r=> .cH [ir r.1,.i .i64 r.2]) (xn (ir t) (aY w)) (p9 t w):=by
 unfold xn p9
 refine aT (ah (aX (au (aT (zO ?_)))))
 refine al (mD w.Path) fun rA=> ?_
 refine aU ?_
 refine aN ?_ ?_
 ·exact aa (rfl)
 ·refine aR ?_ ?_
  ·exact aa (rfl)
  ·refine al (rr t.L w) fun aV=> ?_
   refine aU ?_
   refine aN ?_ ?_
   ·exact aa (rfl)
   ·refine a8 (n:=t.L.length) (by simp only [List.length_map,List.length_cons,List.length_nil]) ?_
    refine aR ?_ ?_
    ·exact aa (rfl)
    ·refine Cv ?_
     refine al (pR (size:=3) (f:=aY) (fun _=>rfl) t.L) fun cP=> ?_
     refine qp (a8 (n:=cP.length) (by simp only [List.length_map,List.length_cons,List.length_nil]) (a8 (n:=([w]:List ak).length) (by simp only [List.length_map,List.length_cons,List.length_nil]) (fg ?_)))
     exact aa (by simp)
theorem AU (w:af):Sm (fun r=> .dL ((fun _=> .cH []) r.1) (bq r.2)) (li (bq w)) (iQ w):=by
 unfold li iQ
 refine aw ?_
 refine al (PJ w.r.ck (⟨w.o.Path,w.o.Client,decide (w.o.Kind=11)⟩:ak)) fun rA=> ?_
 refine cO (ah (aT (ah (aX (au (ah (aF (au ?_))))))))
 exact aa (rfl)
theorem Mq:Sm (aca (fun x:Nat=>MV.func x [])) (uG) (qz):=by
 unfold uG qz
 exact aa (rfl)
theorem FQ (c:aC) (w:ak):Sm MV.b (om (eR c) (aY w)) (lI c w):=by
 unfold om lI
 refine aT (ah (aF (ah (bI (au (aT (zO ?_)))))))
 refine al (f:=fun r=>[.b r]) ?_ fun w1=> ?_
 ·refine aR ?_ ?_
  ·exact aa (rfl)
  ·refine aR ?_ ?_
   ·exact aa (rfl)
   ·refine al (mD c.Path) fun rA=> ?_
    refine aU ?_
    exact aa (rfl)
 ·refine ah (aU (au ?_))
  refine aN ?_ ?_
  ·exact aa (rfl)
  ·refine aN ?_ ?_
   ·exact aa (rfl)
   ·refine al (wR c.Path) fun aV=> ?_
    refine cO (ah (bI (ah (aF (au ?_)))))
    refine al (f:=fun r=>[.b r]) ?_ fun w2=> ?_
    ·refine aR ?_ ?_
     ·refine aN ?_ ?_
      ·exact aa (rfl)
      ·exact aa (rfl)
     ·exact aa (rfl)
    ·refine ah (aU (au ?_))
     exact aa (rfl)
theorem Ix (w:ak) (c:aC) (c1:List bA):Sm (fun r=> .dL (MV.b r.1) [.list (r.2.map eH)]) (nq (aY w) (.rp [.i .i64 c.Kind,.s c.Path]) [.list (c1.map eH)]) (kX w c c1):=by
 unfold nq kX
 refine aT (zO (DE (ah (aF (ah (bI (au (ah (aX (au ?_))))))))))
 refine al (FQ c w) fun rA=> ?_
 refine aU ?_
 refine al (f:=(fun r=>(0,[.list (r.map eH)]))) ?_ fun w1=> ?_
 ·refine aN ?_ ?_
  ·refine a8 (n:=c1.length) (by simp only [List.length_map,List.length_cons,List.length_nil]) (a8 (n:=([(⟨w,c⟩:bA)]:List bA).length) (by simp only [List.length_map,List.length_cons,List.length_nil]) (fg ?_))
   exact aa (by simp)
  ·exact aa (rfl)
 ·refine cc rfl (ah (aX (au ?_)))
  exact aa (rfl)
theorem Mr (t:bo) (lA:List aC):Sm (fun r=> .cH [ir r.1,.list (r.2.map eH)]) (uK (ir t) (.list (lA.map eR))) (qA t lA):=by
 unfold uK qA
 refine aT (ah (aX (au (aX ?_))))
 refine al (pR (size:=3) (f:=aY) (fun _=>rfl) t.L) fun rA=> ?_
 refine qp (a8 (n:=lA.length) (by simp only [List.length_map,List.length_cons,List.length_nil]) ?_)
 refine al (cC (fun r=>[.list (r.1.map aY),.list (r.2.1.map eH),.i .i64 r.2.2]) (fun r=>(2,[.list (r.1.map aY),.list (r.2.map eH)])) (rfl) fun st=> ?_) fun w=> ?_
 ·unfold nd
  refine ah (aX (ah (aX (ah (aF (au ?_))))))
  refine aR ?_ ?_
  ·refine bM (f:=eR) (rfl) fun y=> ?_
   refine aT (ah (aF (ah (bI (au (cc (SI (rfl:_=List.map aY st.1) fun _=>rfl) ?_))))))
   refine al (SJ (f:=aY) (lv:=(fun sA=>[.list (sA.map eH)])) (bS:=[.rp [.i .i64 y.Kind,.s y.Path]]) (fun u sA=>Sm.at (uJ (aY u) (.rp [.i .i64 y.Kind,.s y.Path]) [.list (sA.map eH)]) (Ix u y sA)) st.2.1 st.1) fun aV=> ?_
   refine ah (aX (au ?_))
   exact aa (rfl)
  ·exact aa (rfl)
 ·refine cc rfl (ah (aX (ah (aX (au ?_)))))
  exact aa (rfl)
theorem FR (k:Nat) (x0:af):Sm (fun r=> .dL ((fun _=> .cH []) r.1) [.list (r.2.r.Shelf.L.map aE),.i .i64 r.2.r.bF.fE,.list (r.2.r.bF.L.map aQ),.list (r.2.r.ck.L.map aY),.list (r.2.r.Seen.map aZ),.i .i64 r.2.o.Client,.i .i64 r.2.o.Seq,.i .i64 r.2.o.Kind,.s r.2.o.Path,.s r.2.o.Value,.i .i64 r.2.o.Version,.i .i64 r.2.o.Session,.i .i64 r.2.o.Span,.i .i64 r.2.x.Client,.i .i64 r.2.x.Seq,.i .i64 r.2.x.E,.s r.2.x.Value,.i .i64 r.2.x.Version,.list (r.2.x.Names.map MV.s),.list (r.2.l.map eR)]) (Fb [105,106,107,108,109,110,111,112,113,114,115] k fun k=>cM k [.cell (.func 0 [.list (x0.r.Shelf.L.map aE),.i .i64 x0.r.bF.fE,.list (x0.r.bF.L.map aQ),.list (x0.r.ck.L.map aY),.list (x0.r.Seen.map aZ),.i .i64 x0.o.Client,.i .i64 x0.o.Seq,.i .i64 x0.o.Kind,.s x0.o.Path,.s x0.o.Value,.i .i64 x0.o.Version,.i .i64 x0.o.Session,.i .i64 x0.o.Span,.i .i64 x0.x.Client,.i .i64 x0.x.Seq,.i .i64 x0.x.E,.s x0.x.Value,.i .i64 x0.x.Version,.list (x0.x.Names.map MV.s),.list (x0.l.map eR)])]) (lJ k x0):=by
 unfold lJ
 refine oa (fun _=>Sm.at (oX _) (yP x0)) ?_
 refine oa (fun _=>Sm.at (pu _) (zV x0)) ?_
 refine oa (fun _=>Sm.at (rl _) (ED x0)) ?_
 refine oa (fun _=>Sm.at (rm _) (EE x0)) ?_
 refine oa (fun _=>Sm.at (pv _) (zW x0)) ?_
 refine oa (fun _=>Sm.at (qT _) (Ck x0)) ?_
 refine oa (fun _=>Sm.at (qU _) (Cl x0)) ?_
 refine oa (fun _=>Sm.at (pV _) (AQ x0)) ?_
 refine oa (fun _=>Sm.at (pW _) (AR x0)) ?_
 refine oa (fun _=>Sm.at (qV _) (Cm x0)) ?_
 refine Vy (fun _=>Sm.at (pX _) (AU x0))
theorem wS (a:aq) (a1:aB):Sm (fun r=> .cH [eG r.1,aZ r.2.1,.list (r.2.2.map eH)]) (mM (eG a) (cL a1)) (kA a a1):=by
 unfold mM kA
 refine aT (mi (aT (kI ?_)))
 refine al (AO a a1) fun rA=> ?_
 refine cO (ah (aT (en (ah (aU (au ?_))))))
 refine aN ?_ ?_
 ·exact aa (rfl)
 ·refine al (Mq) fun aV=> ?_
  refine aX ?_
  refine bM (f:=(fun x:Nat=>MV.func x [])) (rfl) fun y=> ?_
  refine qt (qq (au ?_))
  refine al (FR y (⟨a,a1,rA.1,([]:List aC)⟩:af)) fun cP=> ?_
  refine GR (aw ?_)
  refine al (Mr cP.2.r.ck cP.2.l) fun mP=> ?_
  refine cO (ah (aT (ah (aX (au (ah (aX (au ?_))))))))
  refine al (pR (size:=6) (f:=aZ) (fun _=>rfl) a.Seen) fun Fy=> ?_
  refine qp ?_
  refine al (tE a a1.Client) fun Mj=> ?_
  refine cO (zN ?_)
  refine al (f:=(fun r=>(0,(v1 r)))) ?_ fun w=> ?_
  ·refine aN ?_ ?_
   ·refine bM (f:=aZ) (rfl) fun y1=> ?_
    refine aT (en ?_)
    exact aa (by simp [j0,eC,lC,ao,v1])
   ·refine al (DF (f:=aZ) Fy Mj.1 ([cP.2.x]:List ai)) fun VM=> ?_
    refine qp ?_
    exact aa (rfl)
  ·refine cc rfl (aw ?_)
   refine Cv ?_
   exact aa (rfl)
theorem PK:Sm bP (xp) (AF):=by
 unfold xp AF
 exact aa (rfl)
theorem PL:Sm cR (xq) (AG):=by
 unfold xq AG
 exact aa (rfl)
theorem Ha:Sm eG (tB) (th):=by
 unfold tB th
 refine al (PK) fun rA=> ?_
 refine aT (ah (aX (au ?_)))
 refine al (PL) fun aV=> ?_
 refine aT (yN ?_)
 exact aa (rfl)
theorem vG (s1:List ae) (s2:List ae):Sm MV.b (gm (.list (s1.map aE)) (.list (s2.map aE))) (gj s1 s2):=by
 unfold gm gj
 refine aX (aX (a8 (n:=s1.length) (by simp only [List.length_map,List.length_cons,List.length_nil]) (a8 (n:=s2.length) (by simp only [List.length_map,List.length_cons,List.length_nil]) ?_)))
 refine aN ?_ ?_
 ·exact aa (rfl)
 ·refine a8 (n:=s1.length) (by simp only [List.length_map,List.length_cons,List.length_nil]) ?_
  refine al (cC (fun r=>[.i .i64 r]) (Sum.elim (fun r=>(2,[])) (fun r=>(1,[.b r]))) (rfl) fun st=> ?_) fun w=> ?_
  ·unfold fb
   refine ah (aF (au ?_))
   refine aR ?_ ?_
   ·refine bM (f:=aE) (rfl) fun y=> ?_
    refine aT (ft ?_)
    refine bM (f:=aE) (rfl) fun y1=> ?_
    refine aT (ft ?_)
    refine aN ?_ ?_
    ·exact aa (rfl)
    ·exact aa (rfl)
   ·exact aa (rfl)
  ·rcases w with p1|p2
   ·refine im rfl (au ?_)
    exact aa (rfl)
   ·refine iq rfl (cc rfl (ah (aU (au ?_))))
    exact aa (rfl)
theorem Ms (a:av) (b:av):Sm MV.b (uL (bP a) (bP b)) (qB a b):=by
 unfold uL qB
 refine aT (ah (aX (au (aT (ah (aX (au ?_)))))))
 refine al (vG a.L b.L) fun rA=> ?_
 refine aU ?_
 exact aa (rfl)
theorem sL (s1:List ay) (s2:List ay):Sm MV.b (eK (.list (s1.map aQ)) (.list (s2.map aQ))) (dv s1 s2):=by
 unfold eK dv
 refine aX (aX (a8 (n:=s1.length) (by simp only [List.length_map,List.length_cons,List.length_nil]) (a8 (n:=s2.length) (by simp only [List.length_map,List.length_cons,List.length_nil]) ?_)))
 refine aN ?_ ?_
 ·exact aa (rfl)
 ·refine a8 (n:=s1.length) (by simp only [List.length_map,List.length_cons,List.length_nil]) ?_
  refine al (cC (fun r=>[.i .i64 r]) (Sum.elim (fun r=>(2,[])) (fun r=>(1,[.b r]))) (rfl) fun st=> ?_) fun w=> ?_
  ·unfold da
   refine ah (aF (au ?_))
   refine aR ?_ ?_
   ·refine bM (f:=aQ) (rfl) fun y=> ?_
    refine aT (wN ?_)
    refine bM (f:=aQ) (rfl) fun y1=> ?_
    refine aT (wN ?_)
    refine aN ?_ ?_
    ·exact aa (rfl)
    ·exact aa (rfl)
   ·exact aa (rfl)
  ·rcases w with p1|p2
   ·refine im rfl (au ?_)
    exact aa (rfl)
   ·refine iq rfl (cc rfl (ah (aU (au ?_))))
    exact aa (rfl)
theorem Mt (a:az) (b:az):Sm MV.b (uM (cR a) (cR b)) (qC a b):=by
 unfold uM qC
 refine aT (yN (aT (yN ?_)))
 refine al (f:=fun r=>[.b r]) ?_ fun w=> ?_
 ·refine aR ?_ ?_
  ·refine al (sL a.L b.L) fun rA=> ?_
   refine aU ?_
   exact aa (rfl)
  ·exact aa (rfl)
 ·refine ah (aU (au ?_))
  exact aa (rfl)
theorem uU (s1:List ak) (s2:List ak):Sm MV.b (fL (.list (s1.map aY)) (.list (s2.map aY))) (dV s1 s2):=by
 unfold fL dV
 refine aX (aX (a8 (n:=s1.length) (by simp only [List.length_map,List.length_cons,List.length_nil]) (a8 (n:=s2.length) (by simp only [List.length_map,List.length_cons,List.length_nil]) ?_)))
 refine aN ?_ ?_
 ·exact aa (rfl)
 ·refine a8 (n:=s1.length) (by simp only [List.length_map,List.length_cons,List.length_nil]) ?_
  refine al (cC (fun r=>[.i .i64 r]) (Sum.elim (fun r=>(2,[])) (fun r=>(1,[.b r]))) (rfl) fun st=> ?_) fun w=> ?_
  ·unfold dw
   refine ah (aF (au ?_))
   refine aR ?_ ?_
   ·refine bM (f:=aY) (rfl) fun y=> ?_
    refine aT (zO ?_)
    refine bM (f:=aY) (rfl) fun y1=> ?_
    refine aT (zO ?_)
    refine aN ?_ ?_
    ·exact aa (rfl)
    ·exact aa (rfl)
   ·exact aa (rfl)
  ·rcases w with p1|p2
   ·refine im rfl (au ?_)
    exact aa (rfl)
   ·refine iq rfl (cc rfl (ah (aU (au ?_))))
    exact aa (rfl)
theorem Mu (a:bo) (b:bo):Sm MV.b (uN (ir a) (ir b)) (qD a b):=by
 unfold uN qD
 refine aT (ah (aX (au (aT (ah (aX (au ?_)))))))
 refine al (uU a.L b.L) fun rA=> ?_
 refine aU ?_
 exact aa (rfl)
theorem Mv (a:ai) (b:ai):Sm MV.b (uO (aZ a) (aZ b)) (kC a b):=by
 unfold uO kC
 refine aT (en (aT (en ?_)))
 refine al (f:=fun r=>[.b r]) ?_ fun w=> ?_
 ·refine aR ?_ ?_
  ·refine aR ?_ ?_
   ·refine aR ?_ ?_
    ·refine aR ?_ ?_
     ·refine aR ?_ ?_
      ·refine al (qX a.Names b.Names) fun rA=> ?_
       refine aU ?_
       exact aa (rfl)
      ·exact aa (rfl)
     ·exact aa (rfl)
    ·exact aa (rfl)
   ·exact aa (rfl)
  ·exact aa (rfl)
 ·refine ah (aU (au ?_))
  exact aa (rfl)
theorem ig (s1:List ai) (s2:List ai) (eq:ai→ai→Option Bool) {It:Nat} {nL:List MV} (agr:gv It=false) (fX: ∀(u0:ai) (u1:ai),Sm MV.b (b2 It ([aZ u0,aZ u1]++nL)) (eq u0 u1)):Sm MV.b (bG (.list (s1.map aZ)) (.list (s2.map aZ)) (.func It nL)) (bl s1 s2 eq):=by
 unfold bG bl
 refine aX (aX (qt (a8 (n:=s1.length) (by simp only [List.length_map,List.length_cons,List.length_nil]) (a8 (n:=s2.length) (by simp only [List.length_map,List.length_cons,List.length_nil]) ?_))))
 refine aN ?_ ?_
 ·exact aa (rfl)
 ·refine a8 (n:=s1.length) (by simp only [List.length_map,List.length_cons,List.length_nil]) ?_
  refine al (cC (fun r=>[.i .i64 r]) (Sum.elim (fun r=>(2,[])) (fun r=>(1,[.b r]))) (rfl) fun st=> ?_) fun w=> ?_
  ·unfold bg
   refine ah (aF (au ?_))
   refine aR ?_ ?_
   ·refine bM (f:=aZ) (rfl) fun y=> ?_
    refine aT (en ?_)
    refine bM (f:=aZ) (rfl) fun y1=> ?_
    refine aT (en (qq (cc (by rw [agr];rfl) ?_)))
    refine al (fX y y1) fun rA=> ?_
    refine aU ?_
    refine aN ?_ ?_
    ·exact aa (rfl)
    ·exact aa (rfl)
   ·exact aa (rfl)
  ·rcases w with p1|p2
   ·refine im rfl (au ?_)
    exact aa (rfl)
   ·refine iq rfl (cc rfl (ah (aU (au ?_))))
    exact aa (rfl)
theorem Mw (a:aq) (b:aq):Sm MV.b (uP (eG a) (eG b)) (qE a b):=by
 unfold uP qE
 refine aT (mi (aT (mi ?_)))
 refine al (f:=fun r=>[.b r]) ?_ fun w=> ?_
 ·refine al (Ms a.Shelf b.Shelf) fun rA=> ?_
  refine aU ?_
  refine aN ?_ ?_
  ·refine al (Mt a.bF b.bF) fun aV=> ?_
   refine aU ?_
   refine aN ?_ ?_
   ·refine al (Mu a.ck b.ck) fun cP=> ?_
    refine aU ?_
    refine aN ?_ ?_
    ·refine al (ig a.Seen b.Seen kC (It:=80) (nL:=[]) rfl (fun u2 u3=>Sm.at (eL _ _) (Mv u2 u3))) fun mP=> ?_
     refine aU ?_
     exact aa (rfl)
    ·exact aa (rfl)
   ·exact aa (rfl)
  ·exact aa (rfl)
 ·refine ah (aU (au ?_))
  exact aa (rfl)
theorem Hb:Sm MV.b (tC) (qa):=by
 unfold tC qa
 refine al (Ha) fun rA=> ?_
 refine aT (mi ?_)
 refine al (wS rA (⟨1,1,1,([47,97]:List UInt8),([120]:List UInt8),0,0,0⟩:aB)) fun aV=> ?_
 refine cO (ah (aT (mi (ah (aT (en (ah (aX (au ?_)))))))))
 refine al (wS aV.1 (⟨1,1,1,([47,97]:List UInt8),([120]:List UInt8),0,0,0⟩:aB)) fun cP=> ?_
 refine cO (ah (aT (mi (ah (aT (en (ah (aX (au ?_)))))))))
 refine al (EA cP.1 1) fun mP=> ?_
 refine cO (ah (aT (en (ah (aU (au ?_))))))
 refine al (f:=fun r=>[.b r]) ?_ fun w=> ?_
 ·refine aR ?_ ?_
  ·refine aR ?_ ?_
   ·refine a8 (n:=aV.1.Shelf.L.length) (by simp only [List.length_map,List.length_cons,List.length_nil]) ?_
    refine aR ?_ ?_
    ·refine al (Mw aV.1 cP.1) fun Fy=> ?_
     refine aU ?_
     refine aN ?_ ?_
     ·refine aN ?_ ?_
      ·exact aa (rfl)
      ·exact aa (rfl)
     ·exact aa (rfl)
    ·exact aa (rfl)
   ·exact aa (rfl)
  ·exact aa (rfl)
 ·refine ah (aU (au ?_))
  exact aa (rfl)
theorem yR (x:ae) (c:List UInt8):Sm MV.b (jz (aE x) (.rp [.s c])) (eB x c):=by
 unfold jz eB
 refine aT (ft (DE (ah (bI (au ?_)))))
 exact aa (rfl)
theorem ru (sA:List ae) (f:ae→Option Bool) {wv:Nat} {oQ:List MV} (CY:gv wv=false) (pZ: ∀(u0:ae),Sm MV.b (fM wv ([aE u0]++oQ)) (f u0)):Sm (MV.i .i64) (ef (.list (sA.map aE)) (.func wv oQ)) (cA sA f):=by
 unfold ef cA
 refine aX (qt (a8 (n:=sA.length) (by simp only [List.length_map,List.length_cons,List.length_nil]) ?_))
 refine al (cC (fun r=>[.i .i64 r]) (Sum.elim (fun r=>(2,[])) (fun r=>(1,[.i .i64 r]))) (rfl) fun st=> ?_) fun w=> ?_
 ·unfold cU
  refine ah (aF (au ?_))
  refine aR ?_ ?_
  ·refine bM (f:=aE) (rfl) fun y=> ?_
   refine aT (ft (qq (cc (by rw [CY];rfl) ?_)))
   refine al (pZ y) fun rA=> ?_
   refine aU ?_
   refine aN ?_ ?_
   ·exact aa (rfl)
   ·exact aa (rfl)
  ·exact aa (rfl)
 ·rcases w with p1|p2
  ·refine im rfl (au ?_)
   exact aa (rfl)
  ·refine iq rfl (cc rfl (ah (aF (au ?_))))
   exact aa (rfl)
theorem AV (sA:av) (n:ae):Sm MV.b (lj (bP sA) (aE n)) (iR sA n):=by
 unfold lj iR
 refine aT (ah (aX (au (aT (ft ?_)))))
 refine al (wR n.Path) fun rA=> ?_
 refine cO (ah (bI (ah (aF (au ?_)))))
 refine aN ?_ ?_
 ·exact aa (rfl)
 ·refine al (ru sA.L (fun u=>eB u rA.1) (wv:=201) (oQ:=[.rp [.s rA.1]]) rfl (fun u1=>Sm.at (ja _ _) (yR u1 rA.1))) fun aV=> ?_
  refine aF ?_
  refine al (f:=fun r=>[.b r]) ?_ fun w=> ?_
  ·refine aR ?_ ?_
   ·refine bM (f:=aE) (rfl) fun y=> ?_
    refine aT (ft ?_)
    exact aa (rfl)
   ·exact aa (rfl)
  ·refine ah (aU (au ?_))
   exact aa (rfl)
theorem Ku (a:av):Sm MV.b (r8 (bP a)) (oN a):=by
 unfold r8 oN
 refine aT (ah (aX (au ?_)))
 refine al (f:=fun r=>[.b r]) ?_ fun w=> ?_
 ·refine a8 (n:=a.L.length) (by simp only [List.length_map,List.length_cons,List.length_nil]) ?_
  refine aR ?_ ?_
  ·exact aa (rfl)
  ·refine a8 (n:=a.L.length) (by simp only [List.length_map,List.length_cons,List.length_nil]) ?_
   refine aR ?_ ?_
   ·exact aa (rfl)
   ·refine bM (f:=aE) (rfl) fun y=> ?_
    refine aT (ft ?_)
    exact aa (rfl)
 ·refine ah (aU (au ?_))
  refine aN ?_ ?_
  ·exact aa (rfl)
  ·refine a8 (n:=a.L.length) (by simp only [List.length_map,List.length_cons,List.length_nil]) ?_
   refine al (cC (fun r=>[.i .i64 r]) (Sum.elim (fun r=>(2,[])) (fun r=>(1,[.b r]))) (rfl) fun st=> ?_) fun w1=> ?_
   ·unfold lK
    refine ah (aF (au ?_))
    refine aR ?_ ?_
    ·refine bM (f:=aE) (rfl) fun y1=> ?_
     refine aT (ft ?_)
     refine al (f:=fun r=>[.b r]) ?_ fun w2=> ?_
     ·refine al (mD y1.Path) fun rA=> ?_
      refine aU ?_
      refine aN ?_ ?_
      ·exact aa (rfl)
      ·refine aR ?_ ?_
       ·exact aa (rfl)
       ·refine aR ?_ ?_
        ·exact aa (rfl)
        ·refine aR ?_ ?_
         ·exact aa (rfl)
         ·refine aR ?_ ?_
          ·exact aa (rfl)
          ·refine al (AV a y1) fun aV=> ?_
           refine aU ?_
           exact aa (rfl)
     ·refine ah (aU (au ?_))
      refine aN ?_ ?_
      ·exact aa (rfl)
      ·refine al (f:=fun r=>[.b r]) ?_ fun w3=> ?_
       ·refine aR ?_ ?_
        ·refine bM (f:=aE) (rfl) fun y2=> ?_
         refine aT (ft ?_)
         refine al (EB y2.Path y1.Path) fun cP=> ?_
         refine aU ?_
         exact aa (rfl)
        ·exact aa (rfl)
       ·refine ah (aU (au ?_))
        refine aN ?_ ?_
        ·exact aa (rfl)
        ·exact aa (rfl)
    ·exact aa (rfl)
   ·rcases w1 with p1|p2
    ·refine im rfl (au ?_)
     exact aa (rfl)
    ·refine iq rfl (cc rfl (ah (aU (au ?_))))
     exact aa (rfl)
theorem Kv (a:az):Sm MV.b (r9 (cR a)) (oO a):=by
 unfold r9 oO
 refine aT (yN ?_)
 refine al (f:=fun r=>[.b r]) ?_ fun w=> ?_
 ·refine aR ?_ ?_
  ·exact aa (rfl)
  ·refine aR ?_ ?_
   ·exact aa (rfl)
   ·refine a8 (n:=a.L.length) (by simp only [List.length_map,List.length_cons,List.length_nil]) ?_
    exact aa (rfl)
 ·refine ah (aU (au ?_))
  refine aN ?_ ?_
  ·exact aa (rfl)
  ·refine a8 (n:=a.L.length) (by simp only [List.length_map,List.length_cons,List.length_nil]) ?_
   refine al (cC (fun r=>[.i .i64 r]) (Sum.elim (fun r=>(2,[])) (fun r=>(1,[.b r]))) (rfl) fun st=> ?_) fun w1=> ?_
   ·unfold lL
    refine ah (aF (au ?_))
    refine aR ?_ ?_
    ·refine bM (f:=aQ) (rfl) fun y=> ?_
     refine aT (wN ?_)
     refine al (f:=fun r=>[.b r]) ?_ fun w2=> ?_
     ·refine aR ?_ ?_
      ·exact aa (rfl)
      ·refine bM (f:=aQ) (rfl) fun y1=> ?_
       refine aT (wN ?_)
       exact aa (rfl)
     ·refine ah (aU (au ?_))
      refine al (f:=fun r=>[.b r]) ?_ fun w3=> ?_
      ·refine aN ?_ ?_
       ·exact aa (rfl)
       ·refine aR ?_ ?_
        ·exact aa (rfl)
        ·refine aR ?_ ?_
         ·exact aa (rfl)
         ·refine aR ?_ ?_
          ·exact aa (rfl)
          ·refine aR ?_ ?_
           ·exact aa (rfl)
           ·exact aa (rfl)
      ·refine ah (aU (au ?_))
       refine aN ?_ ?_
       ·exact aa (rfl)
       ·exact aa (rfl)
    ·exact aa (rfl)
   ·rcases w1 with p1|p2
    ·refine im rfl (au ?_)
     exact aa (rfl)
    ·refine iq rfl (cc rfl (ah (aU (au ?_))))
     exact aa (rfl)
theorem Kw (t:bo):Sm MV.b (sa (ir t)) (kD t):=by
 unfold sa kD
 refine aT (ah (aX (au (a8 (n:=t.L.length) (by simp only [List.length_map,List.length_cons,List.length_nil]) ?_))))
 refine al (cC (fun r=>[.list r.1,.i .i64 r.2]) (Sum.elim (fun r=>(2,[])) (fun r=>(1,[.b r]))) (rfl) fun st=> ?_) fun w=> ?_
 ·unfold sB
  refine ah (aX (ah (aF (au ?_))))
  refine aR ?_ ?_
  ·refine bM (f:=aY) (rfl) fun y=> ?_
   refine aT (zO ?_)
   refine al (f:=fun r=>[.b r]) ?_ fun w1=> ?_
   ·refine al (mD y.Path) fun rA=> ?_
    refine aU ?_
    refine aN ?_ ?_
    ·exact aa (rfl)
    ·refine aR ?_ ?_
     ·exact aa (rfl)
     ·exact aa (rfl)
   ·refine ah (aU (au ?_))
    refine aN ?_ ?_
    ·exact aa (rfl)
    ·exact aa (rfl)
  ·exact aa (rfl)
 ·rcases w with p1|p2
  ·refine im rfl (au (a8 (n:=t.L.length) (by simp only [List.length_map,List.length_cons,List.length_nil]) ?_))
   exact aa (rfl)
  ·refine iq rfl (cc rfl (ah (aU (au ?_))))
   exact aa (rfl)
theorem Kx (rA:aq):Sm MV.b (sb (eG rA)) (oP rA):=by
 unfold sb oP
 refine aT (mi ?_)
 refine al (f:=fun r=>[.b r]) ?_ fun w=> ?_
 ·refine al (Ku rA.Shelf) fun aV=> ?_
  refine aU ?_
  refine aN ?_ ?_
  ·exact aa (rfl)
  ·refine al (Kv rA.bF) fun cP=> ?_
   refine aU ?_
   refine aN ?_ ?_
   ·exact aa (rfl)
   ·refine al (Kw rA.ck) fun mP=> ?_
    refine aU ?_
    refine aN ?_ ?_
    ·exact aa (rfl)
    ·refine a8 (n:=rA.Seen.length) (by simp only [List.length_map,List.length_cons,List.length_nil]) ?_
     exact aa (rfl)
 ·refine ah (aU (au ?_))
  refine aN ?_ ?_
  ·exact aa (rfl)
  ·refine a8 (n:=rA.Seen.length) (by simp only [List.length_map,List.length_cons,List.length_nil]) ?_
   refine al (cC (fun r=>[.i .i64 r.1,.i .i64 r.2]) (Sum.elim (fun r=>(2,[])) (fun r=>(1,[.b r]))) (rfl) fun st=> ?_) fun w1=> ?_
   ·unfold lM
    refine xO ?_
    refine aR ?_ ?_
    ·refine bM (f:=aZ) (rfl) fun y=> ?_
     refine aT (en ?_)
     refine al (f:=fun r=>[.b r]) ?_ fun w2=> ?_
     ·refine aR ?_ ?_
      ·exact aa (rfl)
      ·refine aR ?_ ?_
       ·exact aa (rfl)
       ·exact aa (rfl)
     ·refine ah (aU (au ?_))
      refine aN ?_ ?_
      ·exact aa (rfl)
      ·exact aa (rfl)
    ·exact aa (rfl)
   ·rcases w1 with p1|p2
    ·refine im rfl (au ?_)
     exact aa (rfl)
    ·refine iq rfl (cc rfl (ah (aU (au ?_))))
     exact aa (rfl)
theorem Cn (a:List aB):Sm MV.b (pz (.list (a.map cL))) (ma a):=by
 unfold pz ma
 refine aX ?_
 refine al (PG a) fun rA=> ?_
 refine aU ?_
 refine aN ?_ ?_
 ·refine al (Hb) fun aV=> ?_
  refine aU ?_
  exact aa (rfl)
 ·refine al (Ha) fun cP=> ?_
  refine aT (mi ?_)
  refine al (cC (fun r=>[.list (r.1.map aE),.i .i64 r.2.1,.list (r.2.2.1.map aQ),.list (r.2.2.2.1.map aY),.list (r.2.2.2.2.1.map aZ),.i .i64 r.2.2.2.2.2]) (Sum.elim (fun r=>(2,[])) (fun r=>(1,[.b r]))) (rfl) fun st=> ?_) fun w=> ?_
  ·unfold gX
   refine ah (aX (ah (aF (ah (aX (ah (aX (ah (aX (ah (aF ?_)))))))))))
   refine au (a8 (n:=a.length) (by simp only [List.length_map,List.length_cons,List.length_nil]) ?_)
   refine aR ?_ ?_
   ·refine bM (f:=cL) (rfl) fun y=> ?_
    refine aT (kI ?_)
    refine al (wS (⟨(⟨st.1⟩:av),(⟨st.2.1,st.2.2.1⟩:az),(⟨st.2.2.2.1⟩:bo),st.2.2.2.2.1⟩:aq) y) fun mP=> ?_
    refine cO (ah (aT (mi (ah (aT (en (ah (aX (au ?_)))))))))
    refine al (cC (fun r=>[.i .i64 r]) (Sum.elim (fun r=>(4,[])) (fun r=>(1,[.b r]))) (rfl) fun eE=> ?_) fun w1=> ?_
    ·unfold gV
     refine ah (aF (au (a8 (n:=mP.1.Shelf.L.length) (by simp only [List.length_map,List.length_cons,List.length_nil]) ?_)))
     refine aR ?_ ?_
     ·refine bM (f:=aE) (rfl) fun y1=> ?_
      refine aT (ft ?_)
      refine al (f:=fun r=>[.b r]) ?_ fun w2=> ?_
      ·refine aR ?_ ?_
       ·exact aa (rfl)
       ·refine aR ?_ ?_
        ·refine al (G9 mP.1.bF y1.bj) fun Fy=> ?_
         refine aU ?_
         exact aa (rfl)
        ·exact aa (rfl)
      ·refine ah (aU (au ?_))
       refine aN ?_ ?_
       ·exact aa (rfl)
       ·exact aa (rfl)
     ·exact aa (rfl)
    ·rcases w1 with p2|p3
     ·refine im rfl (au ?_)
      refine al (Kx mP.1) fun Mj=> ?_
      refine aU ?_
      refine aN ?_ ?_
      ·exact aa (rfl)
      ·exact aa (rfl)
     ·refine iq rfl (cc rfl (ah (aU (au ?_))))
      exact aa (rfl)
   ·exact aa (rfl)
  ·rcases w with p4|p5
   ·refine im rfl (au ?_)
    refine al (Hb) fun VM=> ?_
    refine aU ?_
    exact aa (rfl)
   ·refine iq rfl (cc rfl (ah (aU (au ?_))))
    exact aa (rfl)
end Dn.S
