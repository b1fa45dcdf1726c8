import Derived.Test.YtjblhgpbkfmkoaaDnYD
/-
  Typed and plain functions agree. Conditions: none.
-/
open Go Dn
set_option linter.unusedVariables false
set_option linter.unusedSimpArgs false
set_option maxRecDepth 100000
namespace Dn.S
@[reducible] def v0 (r : Int × Int × Int × Int × Bool × Int × (List UInt8) × (List aa) × (List aa) × Int × Int × (List UInt8) × Int) : List MV := [.i .i64 r.1, .i .i64 r.2.1, .i .i64 r.2.2.1, .i .i64 r.2.2.2.1, .b r.2.2.2.2.1, .i .i64 r.2.2.2.2.2.1, .s r.2.2.2.2.2.2.1, .list (r.2.2.2.2.2.2.2.1.map ah), .list (r.2.2.2.2.2.2.2.2.1.map ah), .i .i64 r.2.2.2.2.2.2.2.2.2.1, .i .i64 r.2.2.2.2.2.2.2.2.2.2.1, .s r.2.2.2.2.2.2.2.2.2.2.2.1, .i .i64 r.2.2.2.2.2.2.2.2.2.2.2.2]
@[reducible] def v1 (r : Int × (List UInt8) × Bool) : List MV := [.i .i64 r.1, .s r.2.1, .b r.2.2]
theorem fg {A B:Type} {g:B→A} {T:Option B} {k0 k1:IntKind} {x0:Int} {x1:Int} {K:Int→Int→Option A} (h:Sm g (K x0 x1) T):Sm g (pe k0 k1 [.i k0 x0,.i k1 x1] K) T:=aj (ax (aj (ax (aB h))))
theorem ck {A B:Type} {g:B→A} {T:Option B} {k0 k1 k3:IntKind} {x0:Int} {x1:Int} {x2:Bool} {x3:Int} {x4:List UInt8} {x5:List MV} {K:Int→Int→Bool→Int→List UInt8→List MV→Option A} (h:Sm g (K x0 x1 x2 x3 x4 x5) T):Sm g (cP k0 k1 k3 [.i k0 x0,.i k1 x1,.b x2,.i k3 x3,.s x4,.list x5] K) T:=aj (ax (aj (ax (aj (aH (aj (ax (aj (df (aj (bx (aB h))))))))))))
theorem bD {A B:Type} {g:B→A} {T:Option B} {k0 k1 k2 k3 k5:IntKind} {x0:Int} {x1:Int} {x2:Int} {x3:Int} {x4:Bool} {x5:Int} {x6:List UInt8} {x7:List MV} {x8:List MV} {K:Int→Int→Int→Int→Bool→Int→List UInt8→List MV→List MV→Option A} (h:Sm g (K x0 x1 x2 x3 x4 x5 x6 x7 x8) T):Sm g (bK k0 k1 k2 k3 k5 [.i k0 x0,.i k1 x1,.i k2 x2,.i k3 x3,.b x4,.i k5 x5,.s x6,.list x7,.list x8] K) T:=aj (ax (aj (ax (aj (ax (aj (ax (aj (aH (aj (ax (aj (df (aj (bx (aj (bx (aB h))))))))))))))))))
theorem ca {A B:Type} {g:B→A} {T:Option B} {k0 k1:IntKind} {x0:Int} {x1:Int} {x2:List UInt8} {K:Int→Int→List UInt8→Option A} (h:Sm g (K x0 x1 x2) T):Sm g (dv k0 k1 [.i k0 x0,.i k1 x1,.s x2] K) T:=aj (ax (aj (ax (aj (df (aB h))))))
theorem xI {A B:Type} {g:B→A} {T:Option B} {k0:IntKind} {x0:Int} {x1:List UInt8} {x2:Bool} {K:Int→List UInt8→Bool→Option A} (h:Sm g (K x0 x1 x2) T):Sm g (Eh k0 [.i k0 x0,.s x1,.b x2] K) T:=aj (ax (aj (df (aj (aH (aB h))))))
theorem jU {A B:Type} {g:B→A} {T:Option B} {k1:IntKind} {x0:List MV} {x1:Int} {K:List MV→Int→Option A} (h:Sm g (K x0 x1) T):Sm g (vf k1 [.list x0,.i k1 x1] K) T:=aj (bx (aj (ax (aB h))))
theorem Lq (lA:List aa):Sm MV.b (sj (.list (lA.map ah))) (oP lA):=by
 unfold sj oP
 refine bx ?_
 refine ao (cT (fun r=>[.i .i64 r]) (Sum.elim (fun r=>(2,[])) (fun r=>(1,[.b r]))) (rfl) fun st=> ?_) fun w=> ?_
 ·unfold nC
  refine aj (ax (aB (aY (n:=lA.length) (by simp only [List.length_map,List.length_cons,List.length_nil]) ?_)))
  refine aK ?_ ?_
  ·refine ao (f:=fun r=>[.b r]) ?_ fun w1=> ?_
   ·refine aK ?_ ?_
    ·exact ab (rfl)
    ·refine bc (f:=ah) (rfl) fun y=> ?_
     refine aI (ca ?_)
     exact ab (rfl)
   ·refine aj (aH (aB ?_))
    refine ar ?_ ?_
    ·exact ab (rfl)
    ·exact ab (rfl)
  ·exact ab (rfl)
 ·rcases w with p1|p2
  ·refine iv rfl (aB ?_)
   exact ab (rfl)
  ·refine iw rfl (b8 rfl (aj (aH (aB ?_))))
   exact ab (rfl)
theorem BO (sA:ai):Sm (fun x:Nat×Nat=>MV.raw (.complex .f64 x.1 x.2)) (kE (bM sA)) (iF sA):=by
 unfold kE iF
 refine aI (fg ?_)
 exact ab (rfl)
theorem nN (sA:ai) (times:Nat×Nat):Sm (MV.i .i64) (gl (bM sA) (.raw (.complex .f64 times.1 times.2))) (eT sA times):=by
 unfold gl eT
 refine aI (fg (OB ?_))
 refine ao (BO sA) fun rA=> ?_
 refine OB (Ed (Ed ?_))
 refine yt fun f=> ?_
 refine Ed (Ed ?_)
 refine yt fun f1=> ?_
 refine yt fun f2=> ?_
 refine yt fun n=> ?_
 refine dM ?_
 exact ab (rfl)
theorem Eo (sA:ai):Sm (MV.i .i64) (tV (bM sA)) (n5 sA):=by
 unfold tV n5
 refine aI (fg ?_)
 refine ao (nN sA (4613937818241073152,4611686018427387904)) fun rA=> ?_
 refine ax ?_
 exact ab (rfl)
theorem qc (sA:ai):Sm MV.b (iY (bM sA)) (eo sA):=by
 unfold iY eo
 refine aI (fg ?_)
 refine ao (f:=fun r=>[.b r]) ?_ fun w=> ?_
 ·refine aK ?_ ?_
  ·refine aK ?_ ?_
   ·refine aK ?_ ?_
    ·exact ab (rfl)
    ·exact ab (rfl)
   ·exact ab (rfl)
  ·exact ab (rfl)
 ·refine aj (aH (aB ?_))
  exact ab (rfl)
theorem qd (sA:ai) (me:Int):Sm (fun r=> .dy [bq r.1,.i .i64 r.2]) (gV (bM sA) (.i .i64 me)) (dA sA me):=by
 unfold gV dA
 refine aI (fg (ax ?_))
 refine ao (f:=fun r=>[.b r]) ?_ fun w=> ?_
 ·refine ao (qc sA) fun rA=> ?_
  refine aH ?_
  refine ar ?_ ?_
  ·exact ab (rfl)
  ·refine aK ?_ ?_
   ·exact ab (rfl)
   ·refine ao (Eo sA) fun bI=> ?_
    refine ax ?_
    exact ab (rfl)
 ·refine aj (aH (aB ?_))
  refine ar ?_ ?_
  ·exact ab (rfl)
  ·exact ab (rfl)
theorem BP (a:ae):Sm aJ (kF (bq a)) (iG a):=by
 unfold kF iG
 refine aI (bD ?_)
 exact ab (rfl)
theorem ru (a:ae) (view:Int):Sm (fun r=> .dy [bq r.1,aJ r.2.1,.b r.2.2]) (gm (bq a) (.i .i64 view)) (dm a view):=by
 unfold gm dm
 refine aI (bD (ax ?_))
 refine ao (f:=fun r=>[.b r]) ?_ fun w=> ?_
 ·refine aK ?_ ?_
  ·exact ab (rfl)
  ·exact ab (rfl)
 ·refine aj (aH (aB ?_))
  refine ar ?_ ?_
  ·exact ab (rfl)
  ·refine ao (BP (⟨a.S,a.Me,view,a.Has,a.At,a.Value,a.Proof,(⟨([]:List aa)⟩:au)⟩:ae)) fun rA=> ?_
   refine aI (ck ?_)
   exact ab (rfl)
theorem Lr (sA:ai):Sm (MV.i .i64) (sk (bM sA)) (ki sA):=by
 unfold sk ki
 refine aI (fg ?_)
 refine ao (nN sA (4611686018427387904,4611686018427387904)) fun rA=> ?_
 refine ax ?_
 exact ab (rfl)
theorem ub (sA:ai):Sm (MV.i .i64) (kn (bM sA)) (fb sA):=by
 unfold kn fb
 refine aI (fg ?_)
 refine ao (nN sA (4611686018427387904,4607182418800017408)) fun rA=> ?_
 refine ax ?_
 exact ab (rfl)
theorem wO (a:aa):Sm MV.b (lX (ah a)) (jd a):=by
 unfold lX jd
 refine aI (ca ?_)
 refine ao (f:=fun r=>[.b r]) ?_ fun w=> ?_
 ·refine aK ?_ ?_
  ·refine aK ?_ ?_
   ·refine aK ?_ ?_
    ·exact ab (rfl)
    ·exact ab (rfl)
   ·exact ab (rfl)
  ·exact ab (rfl)
 ·refine aj (aH (aB ?_))
  exact ab (rfl)
theorem Gn (t:au):Sm MV.b (nJ (dE t)) (gf t):=by
 unfold nJ gf
 refine aI (aj (bx (aB (aY (n:=t.L.length) (by simp only [List.length_map,List.length_cons,List.length_nil]) ?_))))
 refine ao (cT (fun r=>[.i .i64 r]) (Sum.elim (fun r=>(2,[])) (fun r=>(1,[.b r]))) (rfl) fun st=> ?_) fun w=> ?_
 ·unfold fD
  refine aj (ax (aB ?_))
  refine aK ?_ ?_
  ·refine bc (f:=ah) (rfl) fun y=> ?_
   refine aI (ca ?_)
   refine ao (f:=fun r=>[.b r]) ?_ fun w1=> ?_
   ·refine ao (wO y) fun rA=> ?_
    refine aH ?_
    refine ar ?_ ?_
    ·exact ab (rfl)
    ·refine aK ?_ ?_
     ·refine bc (f:=ah) (rfl) fun y1=> ?_
      refine aI (ca ?_)
      exact ab (rfl)
     ·exact ab (rfl)
   ·refine aj (aH (aB ?_))
    refine ar ?_ ?_
    ·exact ab (rfl)
    ·exact ab (rfl)
  ·exact ab (rfl)
 ·rcases w with p1|p2
  ·refine iv rfl (aB ?_)
   exact ab (rfl)
  ·refine iw rfl (b8 rfl (aj (aH (aB ?_))))
   exact ab (rfl)
theorem vE (t:au) (view:Int) (value:List UInt8):Sm (Ld ah) (jI (dE t) (.i .i64 view) (.s value)) (ec t view value):=by
 unfold jI ec
 refine aI (aj (bx (aB (ax (df (aY (n:=t.L.length) (by simp only [List.length_map,List.length_cons,List.length_nil]) ?_))))))
 refine ao (cT (fun r=>[.list (r.1.map ah),.i .i64 r.2]) (fun r=>(2,[.list (r.map ah)])) (rfl) fun st=> ?_) fun w=> ?_
 ·unfold dN
  refine jU ?_
  refine aK ?_ ?_
  ·refine bc (f:=ah) (rfl) fun y=> ?_
   refine aI (ca ?_)
   refine ao (f:=fun r=>[.b r]) ?_ fun w1=> ?_
   ·refine aK ?_ ?_
    ·exact ab (rfl)
    ·exact ab (rfl)
   ·refine aj (aH (aB ?_))
    refine ao (f:=(fun r=>(0,[.list (r.map ah)]))) ?_ fun w2=> ?_
    ·refine ar ?_ ?_
     ·refine aY (n:=st.1.length) (by simp only [List.length_map,List.length_cons,List.length_nil]) (aY (n:=([y]:List aa).length) (by simp only [List.length_map,List.length_cons,List.length_nil]) (dM ?_))
      exact ab (by simp)
     ·exact ab (rfl)
    ·refine b8 rfl (aj (bx (aB ?_)))
     exact ab (rfl)
  ·exact ab (rfl)
 ·refine b8 rfl (aj (bx (aB ?_)))
  exact ab (rfl)
theorem Gp (t:au) (view:Int) (value:List UInt8):Sm (MV.i .i64) (nK (dE t) (.i .i64 view) (.s value)) (gh t view value):=by
 unfold nK gh
 refine aI (aj (bx (aB (ax (df ?_)))))
 refine ao (vE t view value) fun rA=> ?_
 refine bx (aY (n:=rA.length) (by simp only [List.length_map,List.length_cons,List.length_nil]) ?_)
 exact ab (rfl)
theorem xJ (sA:ai) (p:List aa):Sm MV.b (kU (bM sA) (.list (p.map ah))) (cW sA p):=by
 unfold kU cW
 refine aI (fg (bx ?_))
 refine ao (f:=fun r=>[.b r]) ?_ fun w=> ?_
 ·refine ao (qc sA) fun rA=> ?_
  refine aH ?_
  refine ar ?_ ?_
  ·exact ab (rfl)
  ·refine aY (n:=p.length) (by simp only [List.length_map,List.length_cons,List.length_nil]) ?_
   refine ao (ub sA) fun bI=> ?_
   refine ax ?_
   refine ar ?_ ?_
   ·exact ab (rfl)
   ·refine ao (Gn (⟨p⟩:au)) fun cJ=> ?_
    refine aH ?_
    exact ab (rfl)
 ·refine aj (aH (aB ?_))
  refine ar ?_ ?_
  ·exact ab (rfl)
  ·refine ao (f:=fun r=>[.b r]) ?_ fun w1=> ?_
   ·refine aY (n:=p.length) (by simp only [List.length_map,List.length_cons,List.length_nil]) ?_
    refine bc (f:=ah) (rfl) fun y=> ?_
    refine aI (ca ?_)
    refine ao (Eo sA) fun dL=> ?_
    refine ax ?_
    refine aK ?_ ?_
    ·refine bc (f:=ah) (rfl) fun y1=> ?_
     refine aI (ca ?_)
     refine bc (f:=ah) (rfl) fun y2=> ?_
     refine aI (ca (aY (n:=p.length) (by simp only [List.length_map,List.length_cons,List.length_nil]) ?_))
     refine ao (Gp (⟨p⟩:au) y1.View y2.Value) fun jX=> ?_
     refine ax ?_
     exact ab (rfl)
    ·exact ab (rfl)
   ·refine aj (aH (aB ?_))
    exact ab (rfl)
theorem Az (p:List aa):Sm (fun r=> .dy (v1 r)) (oX (.list (p.map ah))) (jF p):=by
 unfold oX jF
 refine bx (aY (n:=p.length) (by simp only [List.length_map,List.length_cons,List.length_nil]) ?_)
 refine aK ?_ ?_
 ·exact ab (rfl)
 ·refine bc (f:=ah) (rfl) fun y=> ?_
  refine aI (ca ?_)
  refine bc (f:=ah) (rfl) fun y1=> ?_
  refine aI (ca ?_)
  exact ab (rfl)
theorem tm (rA:al):Sm (MV.i .i64) (iK (aJ rA)) (dF rA):=by
 unfold iK dF
 refine aI (ck ?_)
 refine ao (Az rA.Proof) fun bI=> ?_
 refine fB (xI ?_)
 refine ar ?_ ?_
 ·exact ab (rfl)
 ·exact ab (rfl)
theorem Iq (a:ai) (a1:al):Sm MV.b (pV (bM a) (aJ a1)) (gj a a1):=by
 unfold pV gj
 refine aI (fg (aI (ck ?_)))
 refine ao (f:=fun r=>[.b r]) ?_ fun w=> ?_
 ·refine ao (qc a) fun rA=> ?_
  refine aH ?_
  refine ar ?_ ?_
  ·exact ab (rfl)
  ·refine aK ?_ ?_
   ·exact ab (rfl)
   ·refine ao (Eo a) fun bI=> ?_
    refine ax ?_
    refine aK ?_ ?_
    ·exact ab (rfl)
    ·refine aK ?_ ?_
     ·exact ab (rfl)
     ·exact ab (rfl)
 ·refine aj (aH (aB ?_))
  refine ar ?_ ?_
  ·exact ab (rfl)
  ·refine ao (f:=fun r=>[.b r]) ?_ fun w1=> ?_
   ·refine ar ?_ ?_
    ·refine ar ?_ ?_
     ·exact ab (rfl)
     ·exact ab (rfl)
    ·exact ab (rfl)
   ·refine aj (aH (aB ?_))
    refine ar ?_ ?_
    ·exact ab (rfl)
    ·refine ao (f:=fun r=>[.b r]) ?_ fun w2=> ?_
     ·refine ar ?_ ?_
      ·refine aK ?_ ?_
       ·exact ab (rfl)
       ·refine aK ?_ ?_
        ·exact ab (rfl)
        ·exact ab (rfl)
      ·exact ab (rfl)
     ·refine aj (aH (aB ?_))
      refine ar ?_ ?_
      ·exact ab (rfl)
      ·refine ao (f:=fun r=>[.b r]) ?_ fun w3=> ?_
       ·refine aY (n:=a1.Proof.length) (by simp only [List.length_map,List.length_cons,List.length_nil]) ?_
        refine aK ?_ ?_
        ·exact ab (rfl)
        ·refine ao (xJ a a1.Proof) fun cJ=> ?_
         refine aH ?_
         refine ar ?_ ?_
         ·refine ao (tm a1) fun dL=> ?_
          refine ax ?_
          exact ab (rfl)
         ·exact ab (rfl)
       ·refine aj (aH (aB ?_))
        exact ab (rfl)
theorem Ep (sA:ai) (view:Int) (lA:List al):Sm MV.b (lN (bM sA) (.i .i64 view) (.list (lA.map aJ))) (fc sA view lA):=by
 unfold lN fc
 refine aI (fg (ax (bx ?_)))
 refine ao (f:=fun r=>[.b r]) ?_ fun w=> ?_
 ·refine ao (qc sA) fun rA=> ?_
  refine aH ?_
  refine ar ?_ ?_
  ·exact ab (rfl)
  ·refine aY (n:=lA.length) (by simp only [List.length_map,List.length_cons,List.length_nil]) ?_
   refine ao (Lr sA) fun bI=> ?_
   refine ax ?_
   exact ab (rfl)
 ·refine aj (aH (aB ?_))
  refine ar ?_ ?_
  ·exact ab (rfl)
  ·refine aY (n:=lA.length) (by simp only [List.length_map,List.length_cons,List.length_nil]) ?_
   refine ao (cT (fun r=>[.i .i64 r.1,.i .i64 r.2]) (Sum.elim (fun r=>(2,[])) (fun r=>(1,[.b r]))) (rfl) fun st=> ?_) fun w1=> ?_
   ·unfold eJ
    refine fg ?_
    refine aK ?_ ?_
    ·refine bc (f:=aJ) (rfl) fun y=> ?_
     refine aI (ck ?_)
     refine ao (f:=fun r=>[.b r]) ?_ fun w2=> ?_
     ·refine ao (Iq sA y) fun cJ=> ?_
      refine aH ?_
      refine ar ?_ ?_
      ·exact ab (rfl)
      ·refine ar ?_ ?_
       ·exact ab (rfl)
       ·exact ab (rfl)
     ·refine aj (aH (aB ?_))
      refine ar ?_ ?_
      ·exact ab (rfl)
      ·exact ab (rfl)
    ·exact ab (rfl)
   ·rcases w1 with p1|p2
    ·refine iv rfl (aB ?_)
     exact ab (rfl)
    ·refine iw rfl (b8 rfl (aj (aH (aB ?_))))
     exact ab (rfl)
theorem Ir (sA:ai):Sm (MV.i .i64) (pW (bM sA)) (iX sA):=by
 unfold pW iX
 refine aI (fg ?_)
 refine ao (nN sA (4607182418800017408,4607182418800017408)) fun rA=> ?_
 refine ax ?_
 exact ab (rfl)
theorem Er (a:ai) (a1:List al):Sm (fun r=> .dy [.s r.1,.b r.2]) (lO (bM a) (.list (a1.map aJ))) (fe a a1):=by
 unfold lO fe
 refine aI (fg (bx (aY (n:=a1.length) (by simp only [List.length_map,List.length_cons,List.length_nil]) ?_)))
 refine ao (cT (fun r=>[.i .i64 r.1,.s r.2.1,.i .i64 r.2.2]) (fun r=>(2,[.i .i64 r.1,.s r.2])) (rfl) fun st=> ?_) fun w=> ?_
 ·unfold dO
  refine aj (ax (aj (df (aj (ax (aB ?_))))))
  refine aK ?_ ?_
  ·refine bc (f:=aJ) (rfl) fun y=> ?_
   refine aI (ck ?_)
   refine ao (tm y) fun rA=> ?_
   refine ax ?_
   refine ao (f:=(fun r=>(0,[.i .i64 r.1,.s r.2]))) ?_ fun w1=> ?_
   ·refine aK ?_ ?_
    ·refine bc (f:=ah) (rfl) fun y1=> ?_
     refine aI (ca ?_)
     exact ab (rfl)
    ·exact ab (rfl)
   ·refine b8 rfl (aj (ax (aj (df (aB ?_)))))
    exact ab (rfl)
  ·exact ab (rfl)
 ·refine b8 rfl (aj (ax (aj (df (aB (aY (n:=a1.length) (by simp only [List.length_map,List.length_cons,List.length_nil]) ?_))))))
  refine ao (cT (fun r=>[.list r.1,.i .i64 r.2]) (fun r=>(4,[.list r])) (rfl) fun cb=> ?_) fun w2=> ?_
  ·unfold eK
   refine jU ?_
   refine aK ?_ ?_
   ·refine bc (f:=aJ) (rfl) fun y2=> ?_
    refine aI (ck ?_)
    refine ao (f:=fun r=>[.b r]) ?_ fun w3=> ?_
    ·refine ar ?_ ?_
     ·exact ab (rfl)
     ·exact ab (rfl)
    ·refine aj (aH (aB ?_))
     refine ao (f:=(fun r=>(0,[.list r]))) ?_ fun w4=> ?_
     ·refine ar ?_ ?_
      ·exact ab (rfl)
      ·exact ab (rfl)
     ·refine b8 rfl (aj (bx (aB ?_)))
      exact ab (rfl)
   ·exact ab (rfl)
  ·refine b8 rfl (aj (bx (aB ?_)))
   refine ao (OL (e:=id) (f:=(Sum.elim (fun r=>(6,[])) (fun r=>(1,[.s r.1,.b r.2])))) (List.map_id _).symm ?_ fun Ia=> ?_) fun w5=> ?_
   ·exact ab (rfl)
   ·unfold eL
    refine UJ fun key n=> ?_
    refine ao (Ir a) fun bI=> ?_
    refine ax ?_
    refine aK ?_ ?_
    ·exact ab (rfl)
    ·exact ab rfl
   ·rcases w5 with p5|p6
    ·refine iv rfl (aB ?_)
     exact ab (rfl)
    ·refine iw rfl (b8 rfl (aj (df (aj (aH (aB ?_))))))
     exact ab (rfl)
theorem AA (sA:ai) (view:Int) (lA:List al) (value:List UInt8):Sm MV.b (jJ (bM sA) (.i .i64 view) (.list (lA.map aJ)) (.s value)) (dP sA view lA value):=by
 unfold jJ dP
 refine aI (fg (ax (bx (df ?_))))
 refine ao (Ep sA view lA) fun rA=> ?_
 refine aH ?_
 refine ar ?_ ?_
 ·exact ab (rfl)
 ·refine ao (Er sA lA) fun bI=> ?_
  refine fB (aj (df (aj (aH (aB ?_)))))
  refine ao (f:=fun r=>[.b r]) ?_ fun w=> ?_
  ·refine ar ?_ ?_
   ·exact ab (rfl)
   ·exact ab (rfl)
  ·refine aj (aH (aB ?_))
   exact ab (rfl)
theorem ku (a:ae) (view:Int) (value:List UInt8) (eP:List al):Sm (fun r=> .dy [bq r.1,ah r.2.1,.b r.2.2]) (dK (bq a) (.i .i64 view) (.s value) (.list (eP.map aJ))) (cn a view value eP):=by
 unfold dK cn
 refine aI (bD (ax (df (bx ?_))))
 refine ao (f:=fun r=>[.b r]) ?_ fun w=> ?_
 ·refine ar ?_ ?_
  ·exact ab (rfl)
  ·refine ar ?_ ?_
   ·refine aK ?_ ?_
    ·exact ab (rfl)
    ·exact ab (rfl)
   ·exact ab (rfl)
 ·refine aj (aH (aB ?_))
  refine ar ?_ ?_
  ·exact ab (rfl)
  ·refine ao (f:=fun r=>[.b r]) ?_ fun w1=> ?_
   ·refine aK ?_ ?_
    ·refine aY (n:=eP.length) (by simp only [List.length_map,List.length_cons,List.length_nil]) ?_
     exact ab (rfl)
    ·exact ab (rfl)
   ·refine aj (aH (aB ?_))
    refine ao (f:=(Sum.elim (fun r=>(1,[.i .i64 r.1,.i .i64 r.2.1,.i .i64 r.2.2.1,.i .i64 r.2.2.2.1,.b r.2.2.2.2.1,.i .i64 r.2.2.2.2.2.1,.s r.2.2.2.2.2.2.1,.list (r.2.2.2.2.2.2.2.1.map ah),.list (r.2.2.2.2.2.2.2.2.1.map ah),.i .i64 r.2.2.2.2.2.2.2.2.2.1,.i .i64 r.2.2.2.2.2.2.2.2.2.2.1,.s r.2.2.2.2.2.2.2.2.2.2.2.1,.b r.2.2.2.2.2.2.2.2.2.2.2.2])) (fun r=>(0,[.i .i64 r.1,.i .i64 r.2.1,.i .i64 r.2.2.1,.i .i64 r.2.2.2.1,.b r.2.2.2.2.1,.i .i64 r.2.2.2.2.2.1,.s r.2.2.2.2.2.2.1,.list (r.2.2.2.2.2.2.2.1.map ah),.list (r.2.2.2.2.2.2.2.2.1.map ah),.i .i64 r.2.2.2.2.2.2.2.2.2.1,.i .i64 r.2.2.2.2.2.2.2.2.2.2.1,.s r.2.2.2.2.2.2.2.2.2.2.2])))) ?_ fun w2=> ?_
    ·refine ar ?_ ?_
     ·exact ab (rfl)
     ·refine ao (AA a.S view eP value) fun rA=> ?_
      refine aH ?_
      refine ar ?_ ?_
      ·exact ab (rfl)
      ·exact ab (rfl)
    ·rcases w2 with p1|p2
     ·refine iv rfl (aj (ax (aj (ax (aj (ax (aj (ax (aj (aH (aj ?_)))))))))))
      refine ax (aj (df (aj (bx (aj (bx (aj (ax (xI ?_)))))))))
      exact ab (rfl)
     ·refine iw rfl (b8 rfl (aj (ax (aj (ax (aj (ax (aj (ax (aj (aH ?_)))))))))))
      refine aj (ax (aj (df (aj (bx (aj (bx (ca ?_))))))))
      exact ab (rfl)
theorem wP:Sm MV.b (lY) (je):=by
 unfold lY je
 refine ao (qd (⟨1,0⟩:ai) 2) fun rA=> ?_
 refine fB (aj (aI (bD (aj (ax (aB ?_))))))
 refine ao (ku rA.1 0 ([120]:List UInt8) ([]:List al)) fun bI=> ?_
 refine fB (aj (aI (bD (aj (aI (ca (aj (aH (aB ?_)))))))))
 refine ao (ku bI.1 0 ([121]:List UInt8) ([]:List al)) fun cJ=> ?_
 refine fB (aj (aI (bD (aj (aI (ca (aj (aH (aB ?_)))))))))
 refine ao (ru bI.1 3) fun dL=> ?_
 refine fB (aj (aI (bD (aj (aI (ck (aj (aH (aB ?_)))))))))
 refine ao (f:=fun r=>[.b r]) ?_ fun w=> ?_
 ·refine aK ?_ ?_
  ·refine ar ?_ ?_
   ·refine ar ?_ ?_
    ·refine ar ?_ ?_
     ·refine aK ?_ ?_
      ·refine aK ?_ ?_
       ·refine aK ?_ ?_
        ·refine aK ?_ ?_
         ·exact ab (rfl)
         ·exact ab (rfl)
        ·exact ab (rfl)
       ·exact ab (rfl)
      ·exact ab (rfl)
     ·exact ab (rfl)
    ·exact ab (rfl)
   ·exact ab (rfl)
  ·exact ab (rfl)
 ·refine aj (aH (aB ?_))
  exact ab (rfl)
theorem sD (sA:bP):Sm MV.b (kp (du sA)) (gM sA):=by
 unfold kp gM
 refine aI (fg ?_)
 refine ao (f:=fun r=>[.b r]) ?_ fun w=> ?_
 ·refine aK ?_ ?_
  ·refine aK ?_ ?_
   ·refine aK ?_ ?_
    ·exact ab (rfl)
    ·exact ab (rfl)
   ·exact ab (rfl)
  ·exact ab (rfl)
 ·refine aj (aH (aB ?_))
  exact ab (rfl)
theorem J4 (sA:bP):Sm (MV.i .i64) (Ak (du sA)) (ta sA):=by
 unfold Ak ta
 refine aI (fg ?_)
 exact ab (rfl)
theorem RM (sA:bP) (me:Int):Sm (fun r=> .dy [mB r.1,.i .i64 r.2]) (yv (du sA) (.i .i64 me)) (se sA me):=by
 unfold yv se
 refine aI (fg (ax ?_))
 refine ao (f:=fun r=>[.b r]) ?_ fun w=> ?_
 ·refine ao (sD sA) fun rA=> ?_
  refine aH ?_
  refine ar ?_ ?_
  ·exact ab (rfl)
  ·refine aK ?_ ?_
   ·exact ab (rfl)
   ·refine ao (J4 sA) fun bI=> ?_
    refine ax ?_
    exact ab (rfl)
 ·refine aj (aH (aB ?_))
  refine ar ?_ ?_
  ·exact ab (rfl)
  ·exact ab (rfl)
theorem C5 (sA:ai):Sm du (oZ (bM sA)) (oQ sA):=by
 unfold oZ oQ
 refine aI (fg ?_)
 exact ab (rfl)
theorem Ls (a:ae):Sm mB (sm (bq a)) (sf a):=by
 unfold sm sf
 refine aI (bD ?_)
 refine ao (C5 a.S) fun rA=> ?_
 refine aI (fg ?_)
 exact ab (rfl)
theorem qe (a:ae):Sm MV.b (dB (bq a)) (cq a):=by
 unfold dB cq
 refine aI (bD ?_)
 refine ao (f:=fun r=>[.b r]) ?_ fun w=> ?_
 ·refine aK ?_ ?_
  ·exact ab (rfl)
  ·exact ab (rfl)
 ·refine aj (aH (aB ?_))
  refine ar ?_ ?_
  ·exact ab (rfl)
  ·refine ao (f:=fun r=>[.b r]) ?_ fun w1=> ?_
   ·refine ar ?_ ?_
    ·refine aK ?_ ?_
     ·exact ab (rfl)
     ·refine aK ?_ ?_
      ·exact ab (rfl)
      ·exact ab (rfl)
    ·exact ab (rfl)
   ·refine aj (aH (aB ?_))
    refine ar ?_ ?_
    ·exact ab (rfl)
    ·refine ao (f:=fun r=>[.b r]) ?_ fun w2=> ?_
     ·refine ar ?_ ?_
      ·refine ar ?_ ?_
       ·exact ab (rfl)
       ·exact ab (rfl)
      ·exact ab (rfl)
     ·refine aj (aH (aB ?_))
      refine ar ?_ ?_
      ·exact ab (rfl)
      ·refine ao (f:=fun r=>[.b r]) ?_ fun w3=> ?_
       ·refine aY (n:=a.Proof.length) (by simp only [List.length_map,List.length_cons,List.length_nil]) ?_
        refine aK ?_ ?_
        ·exact ab (rfl)
        ·refine ao (xJ a.S a.Proof) fun rA=> ?_
         refine aH ?_
         refine ar ?_ ?_
         ·refine bc (f:=ah) (rfl) fun y=> ?_
          refine aI (ca ?_)
          exact ab (rfl)
         ·exact ab (rfl)
       ·refine aj (aH (aB ?_))
        exact ab (rfl)
theorem J5 (a:aa):Sm MV.b (vu (ah a)) (nD a):=by
 unfold vu nD
 refine aI (ca ?_)
 refine ao (f:=fun r=>[.b r]) ?_ fun w=> ?_
 ·refine aK ?_ ?_
  ·refine aK ?_ ?_
   ·refine aK ?_ ?_
    ·exact ab (rfl)
    ·exact ab (rfl)
   ·exact ab (rfl)
  ·exact ab (rfl)
 ·refine aj (aH (aB ?_))
  exact ab (rfl)
theorem Lt (t:ch):Sm MV.b (sn (Gd t)) (lU t):=by
 unfold sn lU
 refine aI (aj (bx (aB ?_)))
 refine ao (cT (fun r=>[.i .i64 r]) (Sum.elim (fun r=>(2,[])) (fun r=>(1,[.b r]))) (rfl) fun st=> ?_) fun w=> ?_
 ·unfold nE
  refine aj (ax (aB (aY (n:=t.L.length) (by simp only [List.length_map,List.length_cons,List.length_nil]) ?_)))
  refine aK ?_ ?_
  ·refine ao (f:=fun r=>[.b r]) ?_ fun w1=> ?_
   ·refine bc (f:=ah) (rfl) fun y=> ?_
    refine aI (ca ?_)
    refine ao (J5 y) fun rA=> ?_
    refine aH ?_
    refine ar ?_ ?_
    ·exact ab (rfl)
    ·refine aK ?_ ?_
     ·refine bc (f:=ah) (rfl) fun y1=> ?_
      refine aI (ca ?_)
      refine bc (f:=ah) (rfl) fun y2=> ?_
      refine aI (ca ?_)
      exact ab (rfl)
     ·exact ab (rfl)
   ·refine aj (aH (aB ?_))
    refine ar ?_ ?_
    ·exact ab (rfl)
    ·exact ab (rfl)
  ·exact ab (rfl)
 ·rcases w with p1|p2
  ·refine iv rfl (aB ?_)
   exact ab (rfl)
  ·refine iw rfl (b8 rfl (aj (aH (aB ?_))))
   exact ab (rfl)
theorem Lu (sA:bP):Sm (MV.i .i64) (sq (du sA)) (lV sA):=by
 unfold sq lV
 refine aI (fg ?_)
 exact ab (rfl)
theorem C6 (a:bP) (a1:List aa):Sm MV.b (o4 (du a) (.list (a1.map ah))) (gO a a1):=by
 unfold o4 gO
 refine aI (fg (bx ?_))
 refine ao (f:=fun r=>[.b r]) ?_ fun w=> ?_
 ·refine ao (sD a) fun rA=> ?_
  refine aH ?_
  refine ar ?_ ?_
  ·exact ab (rfl)
  ·refine aY (n:=a1.length) (by simp only [List.length_map,List.length_cons,List.length_nil]) ?_
   refine ao (Lu a) fun bI=> ?_
   refine ax ?_
   exact ab (rfl)
 ·refine aj (aH (aB ?_))
  refine ar ?_ ?_
  ·exact ab (rfl)
  ·refine ao (cT (fun r=>[.i .i64 r]) (Sum.elim (fun r=>(2,[])) (fun r=>(1,[.b r]))) (rfl) fun st=> ?_) fun w1=> ?_
   ·unfold nF
    refine aj (ax (aB (aY (n:=a1.length) (by simp only [List.length_map,List.length_cons,List.length_nil]) ?_)))
    refine aK ?_ ?_
    ·refine bc (f:=ah) (rfl) fun y=> ?_
     refine aI (ca ?_)
     refine ao (f:=fun r=>[.b r]) ?_ fun w2=> ?_
     ·refine ao (J5 y) fun cJ=> ?_
      refine aH ?_
      refine ar ?_ ?_
      ·exact ab (rfl)
      ·refine ao (J4 a) fun dL=> ?_
       refine ax ?_
       refine aK ?_ ?_
       ·exact ab (rfl)
       ·refine bc (f:=ah) (rfl) fun y1=> ?_
        refine aI (ca ?_)
        refine ar ?_ ?_
        ·exact ab (rfl)
        ·refine bc (f:=ah) (rfl) fun y2=> ?_
         refine aI (ca ?_)
         refine ar ?_ ?_
         ·exact ab (rfl)
         ·refine aK ?_ ?_
          ·refine bc (f:=ah) (rfl) fun y3=> ?_
           refine aI (ca ?_)
           exact ab (rfl)
          ·exact ab (rfl)
     ·refine aj (aH (aB ?_))
      refine ar ?_ ?_
      ·exact ab (rfl)
      ·exact ab (rfl)
    ·exact ab (rfl)
   ·rcases w1 with p1|p2
    ·refine iv rfl (aB ?_)
     exact ab (rfl)
    ·refine iw rfl (b8 rfl (aj (aH (aB ?_))))
     exact ab (rfl)
theorem Lv (a:bT):Sm MV.b (sr (mB a)) (oR a):=by
 unfold sr oR
 refine aI (bD ?_)
 refine ao (RM a.S a.Me) fun rA=> ?_
 refine fB (aj (aI (bD (aj (ax (aB ?_))))))
 refine ao (f:=fun r=>[.b r]) ?_ fun w=> ?_
 ·refine ar ?_ ?_
  ·exact ab (rfl)
  ·refine aK ?_ ?_
   ·exact ab (rfl)
   ·refine aK ?_ ?_
    ·exact ab (rfl)
    ·refine ao (Lt a.ba) fun bI=> ?_
     refine aH ?_
     exact ab (rfl)
 ·refine aj (aH (aB ?_))
  refine ar ?_ ?_
  ·exact ab (rfl)
  ·refine ao (f:=fun r=>[.b r]) ?_ fun w1=> ?_
   ·refine ar ?_ ?_
    ·refine aK ?_ ?_
     ·exact ab (rfl)
     ·refine aK ?_ ?_
      ·exact ab (rfl)
      ·refine aK ?_ ?_
       ·exact ab (rfl)
       ·refine ar ?_ ?_
        ·refine ar ?_ ?_
         ·exact ab (rfl)
         ·exact ab (rfl)
        ·exact ab (rfl)
    ·refine ar ?_ ?_
     ·refine ar ?_ ?_
      ·exact ab (rfl)
      ·exact ab (rfl)
     ·exact ab (rfl)
   ·refine aj (aH (aB ?_))
    refine ar ?_ ?_
    ·exact ab (rfl)
    ·refine ao (f:=fun r=>[.b r]) ?_ fun w2=> ?_
     ·refine aY (n:=a.Proof.length) (by simp only [List.length_map,List.length_cons,List.length_nil]) ?_
      refine aK ?_ ?_
      ·refine ao (C6 a.S a.Proof) fun cJ=> ?_
       refine aH ?_
       refine ar ?_ ?_
       ·exact ab (rfl)
       ·refine bc (f:=ah) (rfl) fun y=> ?_
        refine aI (ca ?_)
        exact ab (rfl)
      ·exact ab (rfl)
     ·refine aj (aH (aB ?_))
      refine ar ?_ ?_
      ·exact ab (rfl)
      ·refine ao (cT (fun r=>[.i .i64 r]) (Sum.elim (fun r=>(2,[])) (fun r=>(1,[.b r]))) (rfl) fun st=> ?_) fun w3=> ?_
       ·unfold jf
        refine aj (ax (aB (aY (n:=a.ba.L.length) (by simp only [List.length_map,List.length_cons,List.length_nil]) ?_)))
        refine aK ?_ ?_
        ·refine ao (f:=fun r=>[.b r]) ?_ fun w4=> ?_
         ·refine bc (f:=ah) (rfl) fun y1=> ?_
          refine aI (ca ?_)
          refine ao (J4 a.S) fun dL=> ?_
          refine ax ?_
          refine aK ?_ ?_
          ·exact ab (rfl)
          ·refine bc (f:=ah) (rfl) fun y2=> ?_
           refine aI (ca ?_)
           exact ab (rfl)
         ·refine aj (aH (aB ?_))
          refine ar ?_ ?_
          ·exact ab (rfl)
          ·exact ab (rfl)
        ·exact ab (rfl)
       ·rcases w3 with p1|p2
        ·refine iv rfl (aB ?_)
         exact ab (rfl)
        ·refine iw rfl (b8 rfl (aj (aH (aB ?_))))
         exact ab (rfl)
theorem vF (x:Int):Sm MV.b (jL (.i .i64 x)) (gQ x):=by
 unfold jL gQ
 refine ax ?_
 exact ab (rfl)
theorem AB (x:Int) (y:Int):Sm (MV.i .i64) (jM (.i .i64 x) (.i .i64 y)) (gk x y):=by
 unfold jM gk
 refine ax (ax ?_)
 refine ao (vF x) fun rA=> ?_
 refine aH ?_
 refine ao (vF y) fun bI=> ?_
 refine aH ?_
 refine ar ?_ ?_
 ·refine ar ?_ ?_
  ·exact ab (rfl)
  ·exact ab (rfl)
 ·refine ar ?_ ?_
  ·exact ab (rfl)
  ·refine aK ?_ ?_
   ·exact ab (rfl)
   ·refine aK ?_ ?_
    ·exact ab (rfl)
    ·exact ab (rfl)
theorem Gq (x:aa) (xX:Int):Sm (MV.i .i64) (nL (ah x) (.i .i64 xX)) (eU x xX):=by
 unfold nL eU
 refine aI (ca (ax ?_))
 refine ao (AB x.By xX) fun rA=> ?_
 refine ax ?_
 exact ab (rfl)
theorem iM (x:List aa) (target:Int) (cmp:aa→Int→Option Int) {Z5:Nat} {Ky:List MV} (S0:gv Z5=false) (dg: ∀(u0:aa) (u1:Int),Sm (MV.i .i64) (bQ Z5 ([ah u0,.i .i64 u1]++Ky)) (cmp u0 u1)):Sm (fun r=> .dy [.i .i64 r.1,.b r.2]) (b5 (.list (x.map ah)) (.i .i64 target) (.func Z5 Ky)) (bC x target cmp):=by
 unfold b5 bC
 refine bx (ax (UG (aY (n:=x.length) (by simp only [List.length_map,List.length_cons,List.length_nil]) ?_)))
 refine ao (cT (fun r=>[.i .i64 r.1,.i .i64 r.2]) (fun r=>(2,[.i .i64 r])) (rfl) fun st=> ?_) fun w=> ?_
 ·unfold dr
  refine fg ?_
  refine aK ?_ ?_
  ·refine dM ?_
   refine bc (f:=ah) (rfl) fun y=> ?_
   refine aI (ca (OA (b8 (by rw [S0];rfl) ?_)))
   refine ao (dg y target) fun rA=> ?_
   refine ax ?_
   refine ao (f:=(fun r=>(0,[.i .i64 r.1,.i .i64 r.2]))) ?_ fun w1=> ?_
   ·refine aK ?_ ?_
    ·exact ab (rfl)
    ·exact ab (rfl)
   ·refine b8 rfl (fg ?_)
    exact ab (rfl)
  ·exact ab (rfl)
 ·refine b8 rfl (aj (ax (aB ?_)))
  refine ao (f:=fun r=>[.i .i64 r.1,.b r.2]) ?_ fun w2=> ?_
  ·refine aK ?_ ?_
   ·refine bc (f:=ah) (rfl) fun y1=> ?_
    refine aI (ca (OA (b8 (by rw [S0];rfl) ?_)))
    refine ao (dg y1 target) fun bI=> ?_
    refine ax ?_
    exact ab (rfl)
   ·exact ab (rfl)
  ·refine aj (ax (aj (aH (aB ?_))))
   exact ab (rfl)
theorem Lw (t:au) (a:aa):Sm (fun r=> .dy [dE r.1,.b r.2]) (su (dE t) (ah a)) (kj t a):=by
 unfold su kj
 refine aI (aj (bx (aB (aI (ca ?_)))))
 refine ao (wO a) fun rA=> ?_
 refine aH ?_
 refine ar ?_ ?_
 ·exact ab (rfl)
 ·refine ao (iM t.L a.By eU (Z5:=115) (Ky:=[]) rfl (fun u2 u3=>Sm.at (er _ _) (Gq u2 u3))) fun bI=> ?_
  refine fB (aj (ax (aj (aH (aB ?_)))))
  refine ao (f:=fun r=>[.b r]) ?_ fun w=> ?_
  ·refine ar ?_ ?_
   ·refine bc (f:=ah) (rfl) fun y=> ?_
    refine aI (ca ?_)
    exact ab (rfl)
   ·exact ab (rfl)
  ·refine aj (aH (aB ?_))
   refine ar ?_ ?_
   ·exact ab (rfl)
   ·refine ao (Rr (size:=3) (f:=ah) (fun _=>rfl) t.L) fun cJ=> ?_
    refine qw ?_
    refine ao (f:=(fun r=>(0,[.list (r.map ah)]))) ?_ fun w1=> ?_
    ·refine ar ?_ ?_
     ·refine bc (f:=ah) (rfl) fun y1=> ?_
      refine aI (ca ?_)
      exact ab (by simp)
     ·refine ao (OD (f:=ah) cJ bI.1 ([a]:List aa)) fun dL=> ?_
      refine qw ?_
      exact ab (rfl)
    ·refine b8 rfl (aj (bx (aB ?_)))
     exact ab (rfl)
theorem Is (a:au) (a1:Int):Sm (fun r=> .dy (v1 r)) (pX (dE a) (.i .i64 a1)) (mC a a1):=by
 unfold pX mC
 refine aI (aj (bx (aB (ax (aY (n:=a.L.length) (by simp only [List.length_map,List.length_cons,List.length_nil]) ?_)))))
 refine ao (cT (fun r=>[.list r.1,.i .i64 r.2]) (fun r=>(2,[.list r])) (rfl) fun st=> ?_) fun w=> ?_
 ·unfold lL
  refine jU ?_
  refine aK ?_ ?_
  ·refine bc (f:=ah) (rfl) fun y=> ?_
   refine aI (ca (dM ?_))
   exact ab (rfl)
  ·exact ab (rfl)
 ·refine b8 rfl (aj (bx (aB (aY (n:=a.L.length) (by simp only [List.length_map,List.length_cons,List.length_nil]) ?_))))
  refine ao (cT (fun r=>[.i .i64 r.1,.s r.2.1,.b r.2.2.1,.i .i64 r.2.2.2]) (fun r=>(4,(v1 r))) (rfl) fun cb=> ?_) fun w1=> ?_
  ·unfold jG
   refine aj (ax (aj (df (aj (aH (aj (ax (aB ?_))))))))
   refine aK ?_ ?_
   ·refine bc (f:=ah) (rfl) fun y1=> ?_
    refine aI (ca ?_)
    refine ao (f:=fun r=>[.b r]) ?_ fun w2=> ?_
    ·refine aK ?_ ?_
     ·refine aK ?_ ?_
      ·exact ab (rfl)
      ·exact ab (rfl)
     ·exact ab (rfl)
    ·refine aj (aH (aB ?_))
     refine ao (f:=(fun r=>(0,(v1 r)))) ?_ fun w3=> ?_
     ·refine ar ?_ ?_
      ·exact ab (rfl)
      ·exact ab (rfl)
     ·refine b8 rfl (xI ?_)
      exact ab (rfl)
   ·exact ab (rfl)
  ·refine b8 rfl (xI ?_)
   refine ar ?_ ?_
   ·exact ab (rfl)
   ·exact ab (rfl)
theorem AD (b:List Int):Sm (fun r=> .dy [.i .u64 r.1,.list (r.2.1.map (MV.i .u8)),.i .i64 r.2.2]) (mK (.list (b.map (MV.i .u8)))) (kl b):=by
 unfold mK kl
 refine bx (aY (n:=b.length) (by simp only [List.length_map,List.length_cons,List.length_nil]) ?_)
 refine aK ?_ ?_
 ·exact ab (rfl)
 ·refine bc (f:=(MV.i .u8)) (rfl) fun y=> ?_
  refine ax (b8 (u9 (rfl:_=List.map (MV.i .u8) b) fun _=>rfl) (aY (n:=b.length) (by simp only [List.length_map,List.length_cons,List.length_nil]) (dM ?_)))
  refine ao (f:=fun r=>[.b r]) ?_ fun w=> ?_
  ·refine aK ?_ ?_
   ·exact ab (rfl)
   ·refine aK ?_ ?_
    ·refine aY (n:=(List.drop (Int.toNat 1) (List.take (Int.toNat (b.length:Int)) b)).length) (by simp only [List.length_map,List.length_append,List.length_cons,List.length_nil,List.length_take,List.length_drop,List.length_set]) ?_
     refine aK ?_ ?_
     ·refine bc (f:=(MV.i .u8)) (by simp only [sb,List.map_replicate,List.map_append,List.map_cons,List.map_nil,List.map_take,List.map_drop,List.map_set]) fun y1=> ?_
      refine ax ?_
      exact ab (rfl)
     ·exact ab (rfl)
    ·exact ab (rfl)
  ·refine aj (aH (aB ?_))
   refine ar ?_ ?_
   ·exact ab (rfl)
   ·refine aY (n:=(List.drop (Int.toNat 1) (List.take (Int.toNat (b.length:Int)) b)).length) (by simp only [List.length_map,List.length_append,List.length_cons,List.length_nil,List.length_take,List.length_drop,List.length_set]) ?_
    refine aK ?_ ?_
    ·exact ab (rfl)
    ·refine aY (n:=(List.drop (Int.toNat 1) (List.take (Int.toNat (b.length:Int)) b)).length) (by simp only [List.length_map,List.length_append,List.length_cons,List.length_nil,List.length_take,List.length_drop,List.length_set]) (dM (aY (n:=(List.drop (Int.toNat 0) (List.take (Int.toNat (IntKind.wrap .i64 y)) (List.drop (Int.toNat 1) (List.take (Int.toNat (b.length:Int)) b)))).length) (by simp only [List.length_map,List.length_append,List.length_cons,List.length_nil,List.length_take,List.length_drop,List.length_set]) ?_))
     refine ao (cT (fun r=>[.i .u64 r.1,.i .i64 r.2]) (fun r=>(3,[.i .u64 r])) (rfl) fun st=> ?_) fun w1=> ?_
     ·unfold jH
      refine fg ?_
      refine aK ?_ ?_
      ·refine bc (f:=(MV.i .u8)) (by simp only [sb,List.map_replicate,List.map_append,List.map_cons,List.map_nil,List.map_take,List.map_drop,List.map_set]) fun y2=> ?_
       refine ax (dM ?_)
       exact ab (rfl)
      ·exact ab (rfl)
     ·refine b8 rfl (aj (ax (aB (b8 (u9 ((by simp only [sb,List.map_replicate,List.map_append,List.map_cons,List.map_nil,List.map_take,List.map_drop,List.map_set]):_=List.map (MV.i .u8) (List.drop (Int.toNat 1) (List.take (Int.toNat (b.length:Int)) b))) fun _=>rfl) (aY (n:=(List.drop (Int.toNat 1) (List.take (Int.toNat (b.length:Int)) b)).length) (by simp only [List.length_map,List.length_append,List.length_cons,List.length_nil,List.length_take,List.length_drop,List.length_set]) (dM ?_))))))
      exact ab (by first|(simp;done)|simp only [List.map_append,List.map_cons,List.map_nil,List.map_take,List.map_drop,List.map_set])
theorem BQ (b:List Int):Sm (fun r=> .dy [.i .i64 r.1,.list (r.2.1.map (MV.i .u8)),.i .i64 r.2.2]) (kG (.list (b.map (MV.i .u8)))) (iH b):=by
 unfold kG iH
 refine bx ?_
 refine ao (AD b) fun rA=> ?_
 refine fB (aj (ax (jU (dM ?_))))
 exact ab (rfl)
theorem dc (t:az):Sm (fun r=> .mh ((MV.i .i64) r.1) (cG r.2)) (b7 (cG t)) (bp t):=by
 unfold b7 bp
 refine jU ?_
 refine ao (f:=(fun r=>(0,[.i .i64 r.1,.list (r.2.1.map (MV.i .u8)),.i .i64 r.2.2]))) ?_ fun w=> ?_
 ·refine aK ?_ ?_
  ·refine ao (BQ t.b) fun rA=> ?_
   refine fB (aj (ax (jU ?_)))
   exact ab (rfl)
  ·exact ab (rfl)
 ·refine b8 rfl (aj (ax (jU ?_)))
  exact ab (rfl)
theorem AE (b:List Int) (most:Int):Sm (fun r=> .dy [.s r.1,.list (r.2.1.map (MV.i .u8)),.i .i64 r.2.2]) (jN (.list (b.map (MV.i .u8))) (.i .i64 most)) (eM b most):=by
 unfold jN eM
 refine bx (ax ?_)
 refine ao (AD b) fun rA=> ?_
 refine fB (aj (ax (jU ?_)))
 refine ar ?_ ?_
 ·exact ab (rfl)
 ·refine aK ?_ ?_
  ·exact ab (rfl)
  ·refine aY (n:=rA.2.1.length) (by simp only [List.length_map,List.length_cons,List.length_nil]) ?_
   refine aK ?_ ?_
   ·exact ab (rfl)
   ·refine aY (n:=rA.2.1.length) (by simp only [List.length_map,List.length_cons,List.length_nil]) (dM ?_)
    refine UH (M:=List.drop (Int.toNat 0) (List.take (Int.toNat rA.1) rA.2.1)) ((by simp only [sb,List.map_replicate,List.map_append,List.map_cons,List.map_nil,List.map_take,List.map_drop,List.map_set])) fun bs=> ?_
    refine b8 (u9 (rfl:_=List.map (MV.i .u8) rA.2.1) fun _=>rfl) (aY (n:=rA.2.1.length) (by simp only [List.length_map,List.length_cons,List.length_nil]) (dM ?_))
    exact ab (by first|(simp;done)|simp only [List.map_append,List.map_cons,List.map_nil,List.map_take,List.map_drop,List.map_set])
theorem lz (t:az):Sm (fun r=> .mh (MV.s r.1) (cG r.2)) (dx (cG t)) (bV t):=by
 unfold dx bV
 refine jU ?_
 refine ao (f:=(fun r=>(0,[.s r.1,.list (r.2.1.map (MV.i .u8)),.i .i64 r.2.2]))) ?_ fun w=> ?_
 ·refine aK ?_ ?_
  ·refine ao (AE t.b 6000) fun rA=> ?_
   refine fB (aj (df (jU ?_)))
   exact ab (rfl)
  ·exact ab (rfl)
 ·refine b8 rfl (aj (df (jU ?_)))
  exact ab (rfl)
theorem rv (t:az):Sm (fun r=> .mh ((Ld ah) r.1) (cG r.2)) (ef (cG t)) (b6 t):=by
 unfold ef b6
 refine jU ?_
 refine ao (dc t) fun rA=> ?_
 refine u7 (jU (ax ?_))
 refine ao (f:=fun r=>[.b r]) ?_ fun w=> ?_
 ·refine aK ?_ ?_
  ·exact ab (rfl)
  ·exact ab (rfl)
 ·refine aj (aH (aB ?_))
  refine ao (f:=(fun r=>(0,[.list (r.1.map (MV.i .u8)),.i .i64 r.2]))) ?_ fun w1=> ?_
  ·refine ar ?_ ?_
   ·exact ab (rfl)
   ·exact ab (rfl)
  ·refine b8 rfl (jU ?_)
   refine ao (f:=fun r=>[.b r]) ?_ fun w2=> ?_
   ·refine ar ?_ ?_
    ·exact ab (rfl)
    ·exact ab (rfl)
   ·refine aj (aH (aB ?_))
    refine ar ?_ ?_
    ·exact ab (rfl)
    ·refine dM (aY (n:=(List.replicate (Int.toNat rA.1) (⟨0,0,([]:List UInt8)⟩:aa)).length) (by simp only [List.length_replicate,List.length_map,List.length_append,List.length_cons,List.length_nil,List.length_take,List.length_drop,List.length_set]) ?_)
     refine ao (cT (fun r=>[.list (r.1.map ah),.i .i64 r.2.1,.list (r.2.2.1.map (MV.i .u8)),.i .i64 r.2.2.2]) (fun r=>(2,[.list (r.1.map ah),.list (r.2.1.map (MV.i .u8)),.i .i64 r.2.2])) (by simp [cG]) fun st=> ?_) fun w3=> ?_
     ·unfold br
      refine aj (bx (aj (ax (jU ?_))))
      refine aK ?_ ?_
      ·refine ao (dc (⟨st.2.2.1,st.2.2.2⟩:az)) fun bI=> ?_
       refine u7 (jU (ax ?_))
       refine bc (f:=ah) (rfl) fun y=> ?_
       refine aI (ca ?_)
       exact ab (by simp [cG])
      ·exact ab (rfl)
     ·refine b8 rfl (aj (bx (jU ?_)))
      refine ao (dc (⟨w3.2.1,w3.2.2⟩:az)) fun cJ=> ?_
      refine u7 (jU (ax ?_))
      refine ao (lz cJ.2) fun dL=> ?_
      refine u7 (jU (df (aY (n:=w3.1.length) (by simp only [List.length_map,List.length_cons,List.length_nil]) ?_)))
      refine ao (cT (fun r=>[.list (r.1.map ah),.i .i64 r.2]) (fun r=>(4,[.list (r.map ah)])) (rfl) fun cb=> ?_) fun w4=> ?_
      ·unfold cU
       refine jU ?_
       refine aK ?_ ?_
       ·refine bc (f:=ah) (rfl) fun y1=> ?_
        refine aI (ca ?_)
        refine bc (f:=ah) (by simp only [sb,List.map_replicate,List.map_append,List.map_cons,List.map_nil,List.map_take,List.map_drop,List.map_set]) fun y2=> ?_
        refine aI (ca ?_)
        exact ab (by simp [cG])
       ·exact ab (rfl)
      ·refine b8 rfl (aj (bx (aB ?_)))
       exact ab (rfl)
theorem tp (Wl:Bool):Sm (MV.i .i64) (iL (.b Wl)) (dG Wl):=by
 unfold iL dG
 refine aH ?_
 refine ar ?_ ?_
 ·exact ab (rfl)
 ·exact ab (rfl)
theorem BR (a:ai) (a1:Int) (a2:List Int):Sm (fun r=> .dy [bq r.1,.i .i64 r.2]) (kH (bM a) (.i .i64 a1) (.list (a2.map (MV.i .u8)))) (fE a a1 a2):=by
 unfold kH fE
 refine aI (fg (ax (bx ?_)))
 refine ao (qd a a1) fun rA=> ?_
 refine fB (aj (aI (bD (aj (ax (aB ?_))))))
 refine ar ?_ ?_
 ·exact ab (rfl)
 ·refine ao (dc (⟨a2,0⟩:az)) fun bI=> ?_
  refine u7 (jU (ax ?_))
  refine ao (dc bI.2) fun cJ=> ?_
  refine u7 (jU (ax ?_))
  refine ao (dc cJ.2) fun dL=> ?_
  refine u7 (jU (ax ?_))
  refine ao (lz dL.2) fun jX=> ?_
  refine u7 (jU (df ?_))
  refine ao (rv jX.2) fun ng=> ?_
  refine u7 (jU (bx ?_))
  refine ao (f:=fun r=>[.b r]) ?_ fun w=> ?_
  ·refine ar ?_ ?_
   ·exact ab (rfl)
   ·refine ao (tp (decide (cJ.1=1))) fun Ib=> ?_
    refine ax ?_
    refine ar ?_ ?_
    ·exact ab (rfl)
    ·refine aY (n:=ng.2.b.length) (by simp only [List.length_map,List.length_cons,List.length_nil]) ?_
     refine aK ?_ ?_
     ·exact ab (rfl)
     ·refine ao (qe (⟨rA.1.S,rA.1.Me,bI.1,decide (cJ.1=1),dL.1,jX.1,ng.1,rA.1.ba⟩:ae)) fun CJ=> ?_
      refine aH ?_
      exact ab (rfl)
  ·refine aj (aH (aB ?_))
   refine ar ?_ ?_
   ·exact ab (rfl)
   ·exact ab (rfl)
theorem It (x:Int):Sm (MV.i .i64) (pZ (.i .u64 x)) (pQ x):=by
 unfold pZ pQ
 refine ax ?_
 refine ao (f:=(fun r=>(0,[.i .u64 r.1,.i .i64 r.2]))) ?_ fun w=> ?_
 ·refine aK ?_ ?_
  ·refine dM ?_
   exact ab (rfl)
  ·exact ab (rfl)
 ·refine b8 rfl (fg ?_)
  refine ao (f:=(fun r=>(0,[.i .u64 r.1,.i .i64 r.2]))) ?_ fun w1=> ?_
  ·refine aK ?_ ?_
   ·refine dM ?_
    exact ab (rfl)
   ·exact ab (rfl)
  ·refine b8 rfl (fg ?_)
   refine ao (f:=(fun r=>(0,[.i .u64 r.1,.i .i64 r.2]))) ?_ fun w2=> ?_
   ·refine aK ?_ ?_
    ·refine dM ?_
     exact ab (rfl)
    ·exact ab (rfl)
   ·refine b8 rfl (fg (dM ?_))
    exact ab (rfl)
theorem Iu (n:Int):Sm (MV.i .i64) (p0 (.i .u64 n)) (mD n):=by
 unfold p0 mD
 refine ax ?_
 refine ao (It n) fun rA=> ?_
 refine ax (Rq ?_)
 exact ab (rfl)
theorem yg (sA:List Int):Sm (Yn (MV.i .u8)) (iS (.list (sA.map (MV.i .u8)))) (iQ sA):=by
 unfold iS iQ
 refine bx (aY (n:=sA.length) (by simp only [List.length_map,List.length_cons,List.length_nil]) (aY (n:=sA.length) (by simp only [List.length_map,List.length_cons,List.length_nil]) ?_))
 refine Rt (by simp only [List.length_map]) ?_
 exact ab (rfl)
theorem C7 (b:List Int) (n:Int):Sm (Lf (MV.i .u8)) (o7 (.list (b.map (MV.i .u8))) (.i .u64 n)) (lW b n):=by
 unfold o7 lW
 refine bx (ax ?_)
 refine ao (Iu n) fun rA=> ?_
 refine ax ?_
 refine ao (yg b) fun bI=> ?_
 refine UK (b8 (u9 (rfl:_=List.map (MV.i .u8) bI) fun _=>rfl) (aY (n:=bI.length) (by simp only [List.length_map,List.length_cons,List.length_nil]) (aY (n:=([IntKind.wrap .u8 (IntKind.wrap .i64 (rA-1))]:List Int).length) (by simp only [List.length_map,List.length_cons,List.length_nil]) (dM ?_))))
 refine ao (cT (fun r=>[.list (r.1.map (MV.i .u8)),.i .i64 r.2]) (fun r=>(2,[.list (r.map (MV.i .u8))])) (by simp) fun st=> ?_) fun w=> ?_
 ·unfold kQ
  refine jU ?_
  refine aK ?_ ?_
  ·refine dM (aY (n:=st.1.length) (by simp only [List.length_map,List.length_cons,List.length_nil]) (aY (n:=([IntKind.wrap .u8 (Int.fdiv n (2^min (Int.toNat (IntKind.wrap .i64 (8 *st.2))) (IntKind.bits .u64)))]:List Int).length) (by simp only [List.length_map,List.length_cons,List.length_nil]) (dM ?_)))
   exact ab (by simp)
  ·exact ab (rfl)
 ·refine b8 rfl (aj (bx (aB ?_)))
  exact ab (rfl)
theorem lZ (b:List Int) (n:Int):Sm (Lf (MV.i .u8)) (gY (.list (b.map (MV.i .u8))) (.i .i64 n)) (fF b n):=by
 unfold gY fF
 refine bx (ax (dM (dM ?_)))
 refine ao (C7 b (vY .u64 (IntKind.wrap .u64 ((IntKind.wrap .u64 n) *2^min (Int.toNat 1) (IntKind.bits .u64))) (IntKind.wrap .u64 (Int.fdiv n (2^min (Int.toNat 63) (IntKind.bits .i64)))))) fun rA=> ?_
 refine qw ?_
 exact ab (rfl)
theorem AF (b:List Int) (sA:List UInt8):Sm (Lf (MV.i .u8)) (mM (.list (b.map (MV.i .u8))) (.s sA)) (km b sA):=by
 unfold mM km
 refine bx (df ?_)
 refine ao (C7 b (IntKind.wrap .u64 (sA.length:Int))) fun rA=> ?_
 refine qw (aY (n:=rA.length) (by simp only [List.length_map,List.length_cons,List.length_nil]) (aY (n:=(u5 sA).length) (by simp only [sb,List.length_map,List.length_append,List.length_cons,List.length_nil,List.length_take,List.length_drop,List.length_set]) (dM ?_)))
 exact ab (by simp)
theorem BS (a:ae):Sm (Ld (MV.i .u8)) (kI (bq a)) (iI a):=by
 unfold kI iI
 refine aI (bD ?_)
 refine ao (lZ ([]:List Int) a.View) fun rA=> ?_
 refine qw ?_
 refine ao (tp a.Has) fun bI=> ?_
 refine ax ?_
 refine ao (lZ rA bI) fun cJ=> ?_
 refine qw ?_
 refine ao (lZ cJ a.At) fun dL=> ?_
 refine qw (aY (n:=a.Proof.length) (by simp only [List.length_map,List.length_cons,List.length_nil]) ?_)
 refine ao (AF dL a.Value) fun jX=> ?_
 refine qw ?_
 refine ao (lZ jX (a.Proof.length:Int)) fun ng=> ?_
 refine qw (aY (n:=a.Proof.length) (by simp only [List.length_map,List.length_cons,List.length_nil]) ?_)
 refine ao (cT (fun r=>[.list (r.1.map (MV.i .u8)),.i .i64 r.2]) (fun r=>(2,[.list (r.map (MV.i .u8))])) (rfl) fun st=> ?_) fun w=> ?_
 ·unfold iR
  refine jU ?_
  refine aK ?_ ?_
  ·refine bc (f:=ah) (rfl) fun y=> ?_
   refine aI (ca ?_)
   refine ao (lZ st.1 y.By) fun Ib=> ?_
   refine qw ?_
   exact ab (rfl)
  ·exact ab (rfl)
 ·refine b8 rfl (aj (bx (aB ?_)))
  refine ao (Az a.Proof) fun CJ=> ?_
  refine fB (xI ?_)
  refine ao (f:=(fun r=>(0,[.list (r.map (MV.i .u8))]))) ?_ fun w1=> ?_
  ·refine ar ?_ ?_
   ·refine ao (lZ w CJ.1) fun xY=> ?_
    refine qw ?_
    refine ao (AF xY CJ.2.1) fun P5=> ?_
    refine qw ?_
    exact ab (rfl)
   ·exact ab (rfl)
  ·refine b8 rfl (aj (bx (aB ?_)))
   exact ab (rfl)
theorem Lx (lA:List al):Sm MV.b (sv (.list (lA.map aJ))) (oS lA):=by
 unfold sv oS
 refine bx ?_
 refine ao (cT (fun r=>[.i .i64 r]) (Sum.elim (fun r=>(2,[])) (fun r=>(1,[.b r]))) (rfl) fun st=> ?_) fun w=> ?_
 ·unfold nG
  refine aj (ax (aB (aY (n:=lA.length) (by simp only [List.length_map,List.length_cons,List.length_nil]) ?_)))
  refine aK ?_ ?_
  ·refine ao (f:=fun r=>[.b r]) ?_ fun w1=> ?_
   ·refine aK ?_ ?_
    ·exact ab (rfl)
    ·refine bc (f:=aJ) (rfl) fun y=> ?_
     refine aI (ck ?_)
     refine aK ?_ ?_
     ·exact ab (rfl)
     ·refine bc (f:=aJ) (rfl) fun y1=> ?_
      refine aI (ck ?_)
      refine ao (Lq y1.Proof) fun rA=> ?_
      refine aH ?_
      exact ab (rfl)
   ·refine aj (aH (aB ?_))
    refine ar ?_ ?_
    ·exact ab (rfl)
    ·exact ab (rfl)
  ·exact ab (rfl)
 ·rcases w with p1|p2
  ·refine iv rfl (aB ?_)
   exact ab (rfl)
  ·refine iw rfl (b8 rfl (aj (aH (aB ?_))))
   exact ab (rfl)
theorem Pq (sA:bP):Sm (MV.i .i64) (vC (du sA)) (q8 sA):=by
 unfold vC q8
 refine aI (fg ?_)
 exact ab (rfl)
theorem RN (a:bP) (a1:al):Sm MV.b (yw (du a) (aJ a1)) (vd a a1):=by
 unfold yw vd
 refine aI (fg (aI (ck ?_)))
 refine ao (f:=fun r=>[.b r]) ?_ fun w=> ?_
 ·refine ao (sD a) fun rA=> ?_
  refine aH ?_
  refine ar ?_ ?_
  ·exact ab (rfl)
  ·refine aK ?_ ?_
   ·exact ab (rfl)
   ·refine ao (J4 a) fun bI=> ?_
    refine ax ?_
    refine aK ?_ ?_
    ·exact ab (rfl)
    ·refine aK ?_ ?_
     ·exact ab (rfl)
     ·exact ab (rfl)
 ·refine aj (aH (aB ?_))
  refine ar ?_ ?_
  ·exact ab (rfl)
  ·refine ao (f:=fun r=>[.b r]) ?_ fun w1=> ?_
   ·refine ar ?_ ?_
    ·refine aK ?_ ?_
     ·exact ab (rfl)
     ·refine aK ?_ ?_
      ·exact ab (rfl)
      ·refine aK ?_ ?_
       ·exact ab (rfl)
       ·refine ar ?_ ?_
        ·refine ar ?_ ?_
         ·exact ab (rfl)
         ·exact ab (rfl)
        ·exact ab (rfl)
    ·refine ar ?_ ?_
     ·refine ar ?_ ?_
      ·exact ab (rfl)
      ·exact ab (rfl)
     ·exact ab (rfl)
   ·refine aj (aH (aB ?_))
    refine ar ?_ ?_
    ·exact ab (rfl)
    ·refine ao (f:=fun r=>[.b r]) ?_ fun w2=> ?_
     ·refine aY (n:=a1.Proof.length) (by simp only [List.length_map,List.length_cons,List.length_nil]) ?_
      refine aK ?_ ?_
      ·exact ab (rfl)
      ·refine ao (C6 a a1.Proof) fun cJ=> ?_
       refine aH ?_
       refine ar ?_ ?_
       ·refine bc (f:=ah) (rfl) fun y=> ?_
        refine aI (ca ?_)
        exact ab (rfl)
       ·exact ab (rfl)
     ·refine aj (aH (aB ?_))
      exact ab (rfl)
theorem Ly (sA:bP) (view:Int) (lA:List al):Sm MV.b (sw (du sA) (.i .i64 view) (.list (lA.map aJ))) (oT sA view lA):=by
 unfold sw oT
 refine aI (fg (ax (bx ?_)))
 refine ao (f:=fun r=>[.b r]) ?_ fun w=> ?_
 ·refine ao (sD sA) fun rA=> ?_
  refine aH ?_
  refine ar ?_ ?_
  ·exact ab (rfl)
  ·refine aY (n:=lA.length) (by simp only [List.length_map,List.length_cons,List.length_nil]) ?_
   refine ao (Pq sA) fun bI=> ?_
   refine ax ?_
   exact ab (rfl)
 ·refine aj (aH (aB ?_))
  refine ar ?_ ?_
  ·exact ab (rfl)
  ·refine ao (cT (fun r=>[.i .i64 r]) (Sum.elim (fun r=>(2,[])) (fun r=>(1,[.b r]))) (rfl) fun st=> ?_) fun w1=> ?_
   ·unfold nH
    refine aj (ax (aB (aY (n:=lA.length) (by simp only [List.length_map,List.length_cons,List.length_nil]) ?_)))
    refine aK ?_ ?_
    ·refine ao (f:=fun r=>[.b r]) ?_ fun w2=> ?_
     ·refine bc (f:=aJ) (rfl) fun y=> ?_
      refine aI (ck ?_)
      refine ao (RN sA y) fun cJ=> ?_
      refine aH ?_
      refine ar ?_ ?_
      ·exact ab (rfl)
      ·refine bc (f:=aJ) (rfl) fun y1=> ?_
       refine aI (ck ?_)
       refine ar ?_ ?_
       ·exact ab (rfl)
       ·refine aK ?_ ?_
        ·refine bc (f:=aJ) (rfl) fun y2=> ?_
         refine aI (ck ?_)
         refine bc (f:=aJ) (rfl) fun y3=> ?_
         refine aI (ck ?_)
         exact ab (rfl)
        ·exact ab (rfl)
     ·refine aj (aH (aB ?_))
      refine ar ?_ ?_
      ·exact ab (rfl)
      ·exact ab (rfl)
    ·exact ab (rfl)
   ·rcases w1 with p1|p2
    ·refine iv rfl (aB ?_)
     exact ab (rfl)
    ·refine iw rfl (b8 rfl (aj (aH (aB ?_))))
     exact ab (rfl)
theorem VJ (p:List aa):Sm (fun r=> .dy (v1 r)) (En (.list (p.map ah))) (zS p):=by
 unfold En zS
 refine bx (aY (n:=p.length) (by simp only [List.length_map,List.length_cons,List.length_nil]) ?_)
 refine aK ?_ ?_
 ·exact ab (rfl)
 ·refine bc (f:=ah) (rfl) fun y=> ?_
  refine aI (ca ?_)
  refine bc (f:=ah) (rfl) fun y1=> ?_
  refine aI (ca ?_)
  exact ab (rfl)
theorem Lz (sA:bP):Sm (MV.i .i64) (sB (du sA)) (oU sA):=by
 unfold sB oU
 refine aI (fg ?_)
 exact ab (rfl)
theorem LA (a:bP) (a1:List al):Sm (fun r=> .dy [.s r.1,.b r.2]) (sC (du a) (.list (a1.map aJ))) (oV a a1):=by
 unfold sC oV
 refine aI (fg (bx ?_))
 refine ao (cT (fun r=>[.i .i64 r.1,.s r.2.1,.i .i64 r.2.2]) (fun r=>(2,[.i .i64 r.1,.s r.2])) (rfl) fun st=> ?_) fun w=> ?_
 ·unfold kR
  refine aj (ax (aj (df (aj (ax (aB (aY (n:=a1.length) (by simp only [List.length_map,List.length_cons,List.length_nil]) ?_)))))))
  refine aK ?_ ?_
  ·refine bc (f:=aJ) (rfl) fun y=> ?_
   refine aI (ck ?_)
   refine ao (VJ y.Proof) fun rA=> ?_
   refine fB (xI ?_)
   refine ao (f:=fun r=>[.b r]) ?_ fun w1=> ?_
   ·refine ar ?_ ?_
    ·exact ab (rfl)
    ·exact ab (rfl)
   ·refine aj (aH (aB ?_))
    refine ao (f:=(fun r=>(0,[.i .i64 r.1,.s r.2]))) ?_ fun w2=> ?_
    ·refine ar ?_ ?_
     ·exact ab (rfl)
     ·exact ab (rfl)
    ·refine b8 rfl (aj (ax (aj (df (aB ?_)))))
     exact ab (rfl)
  ·exact ab (rfl)
 ·refine b8 rfl (aj (ax (aj (df (aB ?_)))))
  refine ao (cT (fun r=>[.i .i64 r]) (Sum.elim (fun r=>(4,[])) (fun r=>(1,[.s r.1,.b r.2]))) (rfl) fun cb=> ?_) fun w3=> ?_
  ·unfold nI
   refine aj (ax (aB (aY (n:=a1.length) (by simp only [List.length_map,List.length_cons,List.length_nil]) ?_)))
   refine aK ?_ ?_
   ·refine ao (cT (fun r=>[.i .i64 r.1,.i .i64 r.2]) (fun r=>(6,[.i .i64 r])) (rfl) fun cr=> ?_) fun w4=> ?_
    ·unfold kT
     refine fg (aY (n:=a1.length) (by simp only [List.length_map,List.length_cons,List.length_nil]) ?_)
     refine aK ?_ ?_
     ·refine ao (f:=fun r=>[.b r]) ?_ fun w5=> ?_
      ·refine bc (f:=aJ) (rfl) fun y1=> ?_
       refine aI (ck ?_)
       refine ar ?_ ?_
       ·refine bc (f:=aJ) (rfl) fun y2=> ?_
        refine aI (ck ?_)
        refine aK ?_ ?_
        ·refine bc (f:=aJ) (rfl) fun y3=> ?_
         refine aI (ck ?_)
         refine ar ?_ ?_
         ·refine bc (f:=aJ) (rfl) fun y4=> ?_
          refine aI (ck ?_)
          refine aK ?_ ?_
          ·refine bc (f:=aJ) (rfl) fun y5=> ?_
           refine aI (ck ?_)
           refine bc (f:=aJ) (rfl) fun y6=> ?_
           refine aI (ck ?_)
           exact ab (rfl)
          ·exact ab (rfl)
         ·exact ab (rfl)
        ·exact ab (rfl)
       ·exact ab (rfl)
      ·refine aj (aH (aB ?_))
       refine ao (f:=(fun r=>(0,[.i .i64 r]))) ?_ fun w6=> ?_
       ·refine ar ?_ ?_
        ·exact ab (rfl)
        ·exact ab (rfl)
       ·refine b8 rfl (aj (ax (aB ?_)))
        exact ab (rfl)
     ·exact ab (rfl)
    ·refine b8 rfl (aj (ax (aB ?_)))
     refine ao (Lz a) fun bI=> ?_
     refine ax ?_
     refine aK ?_ ?_
     ·refine bc (f:=aJ) (rfl) fun y7=> ?_
      refine aI (ck ?_)
      exact ab (rfl)
     ·exact ab (rfl)
   ·exact ab (rfl)
  ·rcases w3 with p5|p6
   ·refine iv rfl (aB ?_)
    exact ab (rfl)
   ·refine iw rfl (b8 rfl (aj (df (aj (aH (aB ?_))))))
    exact ab (rfl)
theorem Gr (sA:bP) (view:Int) (lA:List al) (value:List UInt8):Sm MV.b (nM (du sA) (.i .i64 view) (.list (lA.map aJ)) (.s value)) (cO sA view lA value):=by
 unfold nM cO
 refine aI (fg (ax (bx (df ?_))))
 refine ao (Ly sA view lA) fun rA=> ?_
 refine aH ?_
 refine ar ?_ ?_
 ·exact ab (rfl)
 ·refine ao (LA sA lA) fun bI=> ?_
  refine fB (aj (df (aj (aH (aB ?_)))))
  refine ao (f:=fun r=>[.b r]) ?_ fun w=> ?_
  ·refine ar ?_ ?_
   ·exact ab (rfl)
   ·exact ab (rfl)
  ·refine aj (aH (aB ?_))
   exact ab (rfl)
theorem Iv (sA:ai) (t:au):Sm (fun r=> .dy [.list (r.1.map ah),.b r.2]) (qa (bM sA) (dE t)) (mE sA t):=by
 unfold qa mE
 refine aI (fg (aI (aj (bx (aB ?_)))))
 refine ao (ub sA) fun rA=> ?_
 refine ax ?_
 refine ao (Is t rA) fun bI=> ?_
 refine fB (xI ?_)
 refine ar ?_ ?_
 ·exact ab (rfl)
 ·refine ao (vE t bI.1 bI.2.1) fun cJ=> ?_
  refine bx ?_
  refine ao (ub sA) fun dL=> ?_
  refine ax (aY (n:=cJ.length) (by simp only [List.length_map,List.length_cons,List.length_nil]) (dM ?_))
  exact ab (by first|(simp;done)|simp only [ah,bM,dE,xA,zQ,vc,List.map_append,List.map_cons,List.map_nil,List.map_take,List.map_drop,List.map_set])
theorem BT (a:ae) (a1:aa):Sm (fun r=> .dy [bq r.1,.list (r.2.1.map ah),.b r.2.2]) (kJ (bq a) (ah a1)) (iJ a a1):=by
 unfold kJ iJ
 refine aI (bD (aI (ca ?_)))
 refine ao (f:=fun r=>[.b r]) ?_ fun w=> ?_
 ·refine ao (Eo a.S) fun rA=> ?_
  refine ax ?_
  refine aK ?_ ?_
  ·exact ab (rfl)
  ·exact ab (rfl)
 ·refine aj (aH (aB ?_))
  refine ar ?_ ?_
  ·exact ab (rfl)
  ·refine ao (Lw a.ba a1) fun bI=> ?_
   refine fB (aj (aI (aj (bx (aB (aj (aH (aB ?_))))))))
   refine ao (Iv a.S bI.1) fun cJ=> ?_
   refine fB (aj (bx (aj (aH (aB ?_)))))
   refine ao (Az a.Proof) fun dL=> ?_
   refine fB (xI ?_)
   refine ao (f:=fun r=>[.b r]) ?_ fun w1=> ?_
   ·refine ao (wO a1) fun jX=> ?_
    refine aH ?_
    refine ar ?_ ?_
    ·exact ab (rfl)
    ·refine ar ?_ ?_
     ·exact ab (rfl)
     ·exact ab (rfl)
   ·refine aj (aH (aB ?_))
    refine ar ?_ ?_
    ·exact ab (rfl)
    ·exact ab (rfl)
theorem wQ (a:ai) (a1:Int) (a2:List ll):Sm MV.b (kq (bM a) (.i .i64 a1) (.list (a2.map lT))) (gU a a1 a2):=by
 unfold kq gU
 refine aI (fg (ax (bx ?_)))
 refine ao (qd a a1) fun rA=> ?_
 refine fB (aj (aI (bD (aj (ax (aB ?_))))))
 refine ao (f:=fun r=>[.b r]) ?_ fun w=> ?_
 ·refine ar ?_ ?_
  ·exact ab (rfl)
  ·refine aY (n:=a2.length) (by simp only [List.length_map,List.length_cons,List.length_nil]) ?_
   exact ab (rfl)
 ·refine aj (aH (aB ?_))
  refine ar ?_ ?_
  ·refine ao (wP) fun bI=> ?_
   refine aH ?_
   exact ab (rfl)
  ·refine ao (cT (fun r=>[.i .i64 r.1,.i .i64 r.2.1,.i .i64 r.2.2.1,.i .i64 r.2.2.2.1,.b r.2.2.2.2.1,.i .i64 r.2.2.2.2.2.1,.s r.2.2.2.2.2.2.1,.list (r.2.2.2.2.2.2.2.1.map ah),.list (r.2.2.2.2.2.2.2.2.1.map ah),.i .i64 r.2.2.2.2.2.2.2.2.2.1,.i .i64 r.2.2.2.2.2.2.2.2.2.2.1,.s r.2.2.2.2.2.2.2.2.2.2.2.1,.i .i64 r.2.2.2.2.2.2.2.2.2.2.2.2.1,.i .i64 r.2.2.2.2.2.2.2.2.2.2.2.2.2]) (Sum.elim (fun r=>(2,[])) (fun r=>(1,[.b r]))) (rfl) fun st=> ?_) fun w1=> ?_
   ·unfold dQ
    refine aj (ax (aj (ax (aj (ax (aj (ax (aj (aH (aj (ax ?_)))))))))))
    refine aj (df (aj (bx (aj (bx (aj (ax (aj (ax (aj (df ?_)))))))))))
    refine fg (aY (n:=a2.length) (by simp only [List.length_map,List.length_cons,List.length_nil]) ?_)
    refine aK ?_ ?_
    ·refine bc (f:=lT) (rfl) fun y=> ?_
     refine aI (aj (ax (aj (ax (aj (df (aj (bx (ca ?_)))))))))
     refine ao (f:=fun r=>[.b r]) ?_ fun w2=> ?_
     ·refine ao (Lx y.C.tU) fun cJ=> ?_
      refine aH ?_
      refine ar ?_ ?_
      ·exact ab (rfl)
      ·refine aK ?_ ?_
       ·exact ab (rfl)
       ·exact ab (rfl)
     ·refine aj (aH (aB ?_))
      refine ar ?_ ?_
      ·refine ao (wP) fun dL=> ?_
       refine aH ?_
       exact ab (rfl)
      ·refine bc (f:=lT) (rfl) fun y1=> ?_
       refine aI (aj (ax (aj (ax (aj (df (aj (bx (ca ?_)))))))))
       refine ao (f:=(Sum.elim (fun r=>(1,[.b r])) (fun r=>(0,(v0 r))))) ?_ fun w3=> ?_
       ·refine aK ?_ ?_
        ·refine ao (ru (⟨(⟨st.1,st.2.1⟩:ai),st.2.2.1,st.2.2.2.1,st.2.2.2.2.1,st.2.2.2.2.2.1,st.2.2.2.2.2.2.1,st.2.2.2.2.2.2.2.1,(⟨st.2.2.2.2.2.2.2.2.1⟩:au)⟩:ae) y.C.View) fun jX=> ?_
         refine fB (aj (aI (bD (aj (aI (ck (aj (aH (aB ?_)))))))))
         refine ao (f:=fun r=>[.b r]) ?_ fun w4=> ?_
         ·refine ar ?_ ?_
          ·refine aK ?_ ?_
           ·exact ab (rfl)
           ·refine ar ?_ ?_
            ·exact ab (rfl)
            ·refine ar ?_ ?_
             ·exact ab (rfl)
             ·refine ar ?_ ?_
              ·exact ab (rfl)
              ·refine ar ?_ ?_
               ·refine ar ?_ ?_
                ·exact ab (rfl)
                ·exact ab (rfl)
               ·exact ab (rfl)
          ·exact ab (rfl)
         ·refine aj (aH (aB ?_))
          refine ar ?_ ?_
          ·exact ab (rfl)
          ·refine ao (f:=fun r=>[.b r]) ?_ fun w5=> ?_
           ·refine ar ?_ ?_
            ·refine aY (n:=jX.2.1.Proof.length) (by simp only [List.length_map,List.length_cons,List.length_nil]) ?_
             refine ar ?_ ?_
             ·exact ab (rfl)
             ·refine aY (n:=jX.2.1.Proof.length) (by simp only [List.length_map,List.length_cons,List.length_nil]) ?_
              refine aK ?_ ?_
              ·refine bc (f:=ah) (rfl) fun y2=> ?_
               refine aI (ca ?_)
               exact ab (rfl)
              ·exact ab (rfl)
            ·exact ab (rfl)
           ·refine aj (aH (aB ?_))
            refine ar ?_ ?_
            ·exact ab (rfl)
            ·exact ab (rfl)
        ·refine ao (f:=(Sum.elim (fun r=>(1,[.b r])) (fun r=>(0,(v0 r))))) ?_ fun w6=> ?_
         ·refine aK ?_ ?_
          ·refine ao (ku (⟨(⟨st.1,st.2.1⟩:ai),st.2.2.1,st.2.2.2.1,st.2.2.2.2.1,st.2.2.2.2.2.1,st.2.2.2.2.2.2.1,st.2.2.2.2.2.2.2.1,(⟨st.2.2.2.2.2.2.2.2.1⟩:au)⟩:ae) y.C.View y.C.Value y.C.tU) fun ng=> ?_
           refine fB (aj (aI (bD (aj (aI (ca (aj (aH (aB ?_)))))))))
           refine ao (f:=fun r=>[.b r]) ?_ fun w7=> ?_
           ·refine ar ?_ ?_
            ·refine ar ?_ ?_
             ·exact ab (rfl)
             ·refine ar ?_ ?_
              ·exact ab (rfl)
              ·refine aK ?_ ?_
               ·exact ab (rfl)
               ·refine ar ?_ ?_
                ·exact ab (rfl)
                ·refine aK ?_ ?_
                 ·refine ao (C5 a) fun Ib=> ?_
                  refine aI (fg ?_)
                  refine ao (Gr Ib ng.2.1.View y.C.tU ng.2.1.Value) fun CJ=> ?_
                  refine aH ?_
                  exact ab (rfl)
                 ·exact ab (rfl)
            ·exact ab (rfl)
           ·refine aj (aH (aB ?_))
            refine ar ?_ ?_
            ·exact ab (rfl)
            ·refine ao (f:=(fun r=>(0,[.i .i64 r.1,.i .i64 r.2.1,.s r.2.2]))) ?_ fun w8=> ?_
             ·refine ar ?_ ?_
              ·exact ab (rfl)
              ·exact ab (rfl)
             ·refine b8 rfl (ca ?_)
              exact ab (rfl)
          ·refine ao (f:=(Sum.elim (fun r=>(1,[.b r])) (fun r=>(0,[.i .i64 r.1,.i .i64 r.2.1,.i .i64 r.2.2.1,.i .i64 r.2.2.2.1,.b r.2.2.2.2.1,.i .i64 r.2.2.2.2.2.1,.s r.2.2.2.2.2.2.1,.list (r.2.2.2.2.2.2.2.1.map ah),.list (r.2.2.2.2.2.2.2.2.1.map ah),.i .i64 r.2.2.2.2.2.2.2.2.2])))) ?_ fun w9=> ?_
           ·refine aK ?_ ?_
            ·refine ao (BT (⟨(⟨st.1,st.2.1⟩:ai),st.2.2.1,st.2.2.2.1,st.2.2.2.2.1,st.2.2.2.2.2.1,st.2.2.2.2.2.2.1,st.2.2.2.2.2.2.2.1,(⟨st.2.2.2.2.2.2.2.2.1⟩:au)⟩:ae) y.C.iy) fun xY=> ?_
             refine fB (aj (aI (bD (aj (bx (aj (aH (aB ?_))))))))
             refine ao (f:=fun r=>[.b r]) ?_ fun w10=> ?_
             ·refine ar ?_ ?_
              ·refine aY (n:=xY.2.1.length) (by simp only [List.length_map,List.length_cons,List.length_nil]) ?_
               refine aK ?_ ?_
               ·exact ab (rfl)
               ·refine bc (f:=ah) (rfl) fun y3=> ?_
                refine aI (ca ?_)
                refine ar ?_ ?_
                ·exact ab (rfl)
                ·refine bc (f:=ah) (rfl) fun y4=> ?_
                 refine aI (ca ?_)
                 exact ab (rfl)
              ·exact ab (rfl)
             ·refine aj (aH (aB ?_))
              refine ar ?_ ?_
              ·exact ab (rfl)
              ·refine ao (f:=(fun r=>(0,[.i .i64 r]))) ?_ fun w11=> ?_
               ·refine ar ?_ ?_
                ·refine bc (f:=ah) (rfl) fun y5=> ?_
                 refine aI (ca ?_)
                 exact ab (rfl)
                ·exact ab (rfl)
               ·refine b8 rfl (aj (ax (aB ?_)))
                exact ab (rfl)
            ·refine ao (f:=(Sum.elim (fun r=>(1,[.b r])) (fun r=>(0,[.i .i64 r.1,.i .i64 r.2.1,.i .i64 r.2.2.1,.i .i64 r.2.2.2.1,.b r.2.2.2.2.1,.i .i64 r.2.2.2.2.2.1,.s r.2.2.2.2.2.2.1,.list (r.2.2.2.2.2.2.2.1.map ah),.list (r.2.2.2.2.2.2.2.2.map ah)])))) ?_ fun w12=> ?_
             ·refine aK ?_ ?_
              ·refine ao (BS (⟨(⟨st.1,st.2.1⟩:ai),st.2.2.1,st.2.2.2.1,st.2.2.2.2.1,st.2.2.2.2.2.1,st.2.2.2.2.2.2.1,st.2.2.2.2.2.2.2.1,(⟨st.2.2.2.2.2.2.2.2.1⟩:au)⟩:ae)) fun P5=> ?_
               refine bx ?_
               refine ao (BR a a1 P5) fun ve=> ?_
               refine fB (aj (aI (bD (aj (ax (aB ?_))))))
               refine ao (f:=fun r=>[.b r]) ?_ fun w13=> ?_
               ·refine ar ?_ ?_
                ·exact ab (rfl)
                ·exact ab (rfl)
               ·refine aj (aH (aB ?_))
                refine ar ?_ ?_
                ·exact ab (rfl)
                ·exact ab (rfl)
              ·exact ab (rfl)
             ·rcases w12 with p7|p8
              ·refine iv rfl (aj (aH (aB ?_)))
               exact ab (rfl)
              ·refine iw rfl (b8 rfl (bD ?_))
               exact ab (rfl)
           ·rcases w9 with p9|OO
            ·refine iv rfl (aj (aH (aB ?_)))
             exact ab (rfl)
            ·refine iw rfl (b8 rfl (aj (ax (aj (ax (aj (ax (aj (ax (aj (aH ?_)))))))))))
             refine aj (ax (aj (df (aj (bx (jU ?_))))))
             exact ab (rfl)
         ·rcases w6 with p11|JP
          ·refine iv rfl (aj (aH (aB ?_)))
           exact ab (rfl)
          ·refine iw rfl (b8 rfl (aj (ax (aj (ax (aj (ax (aj (ax (aj (aH ?_)))))))))))
           refine aj (ax (aj (df (aj (bx (aj (bx (aj (ax (aj (ax ?_)))))))))))
           refine aj (df (aj (ax (aB ?_))))
           exact ab (rfl)
       ·rcases w3 with p13|sJ
        ·refine iv rfl (aj (aH (aB ?_)))
         exact ab (rfl)
        ·refine iw rfl (b8 rfl (aj (ax (aj (ax (aj (ax (aj (ax (aj (aH ?_)))))))))))
         refine aj (ax (aj (df (aj (bx (aj (bx (aj (ax (aj (ax ?_)))))))))))
         refine aj (df (aj (ax (aB ?_))))
         refine ao (f:=fun r=>[.b r]) ?_ fun w14=> ?_
         ·refine ao (Ls (⟨(⟨sJ.1,sJ.2.1⟩:ai),sJ.2.2.1,sJ.2.2.2.1,sJ.2.2.2.2.1,sJ.2.2.2.2.2.1,sJ.2.2.2.2.2.2.1,sJ.2.2.2.2.2.2.2.1,(⟨sJ.2.2.2.2.2.2.2.2.1⟩:au)⟩:ae)) fun OP=> ?_
          refine aI (bD ?_)
          refine ao (Lv OP) fun Rw=> ?_
          refine aH ?_
          refine ar ?_ ?_
          ·exact ab (rfl)
          ·exact ab (rfl)
         ·refine aj (aH (aB ?_))
          refine ar ?_ ?_
          ·exact ab (rfl)
          ·exact ab (rfl)
    ·exact ab (rfl)
   ·rcases w1 with p15|p16
    ·refine iv rfl (aB ?_)
     refine ao (wP) fun Rx=> ?_
     refine aH ?_
     exact ab (rfl)
    ·refine iw rfl (b8 rfl (aj (aH (aB ?_))))
     exact ab (rfl)
end Dn.S
