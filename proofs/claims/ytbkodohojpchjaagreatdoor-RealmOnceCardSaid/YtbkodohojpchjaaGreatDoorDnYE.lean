import Derived.Test.YtbkodohojpchjaaGreatDoorDnYD
/-
  Typed and plain functions agree. Conditions: none.
-/
open Go Dn
set_option linter.unusedVariables false
set_option linter.unusedSimpArgs false
set_option maxRecDepth 100000
namespace Dn.S
@[reducible] def v0 (r : Int × (List ae) × Int × (List av) × (List al) × (List af) × Int × Int × Int × (List UInt8) × (List UInt8) × Int × Int × Int × Int × Int × Int × (List UInt8) × Int × (List (List UInt8)) × (List aE)) : List MV := [.i .i64 r.1, .list (r.2.1.map aL), .i .i64 r.2.2.1, .list (r.2.2.2.1.map aN), .list (r.2.2.2.2.1.map aW), .list (r.2.2.2.2.2.1.map aJ), .i .i64 r.2.2.2.2.2.2.1, .i .i64 r.2.2.2.2.2.2.2.1, .i .i64 r.2.2.2.2.2.2.2.2.1, .s r.2.2.2.2.2.2.2.2.2.1, .s r.2.2.2.2.2.2.2.2.2.2.1, .i .i64 r.2.2.2.2.2.2.2.2.2.2.2.1, .i .i64 r.2.2.2.2.2.2.2.2.2.2.2.2.1, .i .i64 r.2.2.2.2.2.2.2.2.2.2.2.2.2.1, .i .i64 r.2.2.2.2.2.2.2.2.2.2.2.2.2.2.1, .i .i64 r.2.2.2.2.2.2.2.2.2.2.2.2.2.2.2.1, .i .i64 r.2.2.2.2.2.2.2.2.2.2.2.2.2.2.2.2.1, .s r.2.2.2.2.2.2.2.2.2.2.2.2.2.2.2.2.2.1, .i .i64 r.2.2.2.2.2.2.2.2.2.2.2.2.2.2.2.2.2.2.1, .list (r.2.2.2.2.2.2.2.2.2.2.2.2.2.2.2.2.2.2.2.1.map MV.s), .list (r.2.2.2.2.2.2.2.2.2.2.2.2.2.2.2.2.2.2.2.2.map fA)]
@[reducible] def v1 (r : (List ae) × Int × (List av) × (List al) × (List af) × Int × Int × Int × (List UInt8) × (List UInt8) × Int × Int × Int × Int × Int × Int × (List UInt8) × Int × (List (List UInt8)) × (List aE)) : List MV := [.list (r.1.map aL), .i .i64 r.2.1, .list (r.2.2.1.map aN), .list (r.2.2.2.1.map aW), .list (r.2.2.2.2.1.map aJ), .i .i64 r.2.2.2.2.2.1, .i .i64 r.2.2.2.2.2.2.1, .i .i64 r.2.2.2.2.2.2.2.1, .s r.2.2.2.2.2.2.2.2.1, .s r.2.2.2.2.2.2.2.2.2.1, .i .i64 r.2.2.2.2.2.2.2.2.2.2.1, .i .i64 r.2.2.2.2.2.2.2.2.2.2.2.1, .i .i64 r.2.2.2.2.2.2.2.2.2.2.2.2.1, .i .i64 r.2.2.2.2.2.2.2.2.2.2.2.2.2.1, .i .i64 r.2.2.2.2.2.2.2.2.2.2.2.2.2.2.1, .i .i64 r.2.2.2.2.2.2.2.2.2.2.2.2.2.2.2.1, .s r.2.2.2.2.2.2.2.2.2.2.2.2.2.2.2.2.1, .i .i64 r.2.2.2.2.2.2.2.2.2.2.2.2.2.2.2.2.2.1, .list (r.2.2.2.2.2.2.2.2.2.2.2.2.2.2.2.2.2.2.1.map MV.s), .list (r.2.2.2.2.2.2.2.2.2.2.2.2.2.2.2.2.2.2.2.map fA)]
@[reducible] def v2 (r : Int × Int × Int × (List UInt8) × Int × (List (List UInt8)) × Int × Int × Int × (List UInt8) × Int × (List (List UInt8))) : List MV := [.i .i64 r.1, .i .i64 r.2.1, .i .i64 r.2.2.1, .s r.2.2.2.1, .i .i64 r.2.2.2.2.1, .list (r.2.2.2.2.2.1.map MV.s), .i .i64 r.2.2.2.2.2.2.1, .i .i64 r.2.2.2.2.2.2.2.1, .i .i64 r.2.2.2.2.2.2.2.2.1, .s r.2.2.2.2.2.2.2.2.2.1, .i .i64 r.2.2.2.2.2.2.2.2.2.2.1, .list (r.2.2.2.2.2.2.2.2.2.2.2.map MV.s)]
@[reducible] def v3 (r : (List eG) × Int × (List bU) × (List bI) × (List cn) × Int) : List MV := [.list (r.1.map kO), .i .i64 r.2.1, .list (r.2.2.1.map ke), .list (r.2.2.2.1.map gn), .list (r.2.2.2.2.1.map fw), .i .i64 r.2.2.2.2.2]
@[reducible] def v4 (r : (List eG) × Int × (List bU) × (List bI) × (List cn)) : List MV := [.list (r.1.map kO), .i .i64 r.2.1, .list (r.2.2.1.map ke), .list (r.2.2.2.1.map gn), .list (r.2.2.2.2.map fw)]
@[reducible] def v5 (r : Int × Int × Int × (List UInt8) × Int × (List (List UInt8)) × Bool) : List MV := [.i .i64 r.1, .i .i64 r.2.1, .i .i64 r.2.2.1, .s r.2.2.2.1, .i .i64 r.2.2.2.2.1, .list (r.2.2.2.2.2.1.map MV.s), .b r.2.2.2.2.2.2]
theorem Bp {A B:Type} {g:B→A} {T:Option B} {k0:IntKind} {x0:Int} {x1:Bool} {K:Int→Bool→Option A} (h:Sm g (K x0 x1) T):Sm g (ON k0 [.i k0 x0,.b x1] K) T:=ah (aI (ah (aR (aq h))))
theorem Ag {A B:Type} {g:B→A} {T:Option B} {k0 k1:IntKind} {x0:Int} {x1:Int} {K:Int→Int→Option A} (h:Sm g (K x0 x1) T):Sm g (Nt k0 k1 [.i k0 x0,.i k1 x1] K) T:=ah (aI (ah (aI (aq h))))
theorem wF {A B:Type} {g:B→A} {T:Option B} {k0 k1 k2:IntKind} {x0:Int} {x1:Int} {x2:Int} {K:Int→Int→Int→Option A} (h:Sm g (K x0 x1 x2) T):Sm g (Ci k0 k1 k2 [.i k0 x0,.i k1 x1,.i k2 x2] K) T:=ah (aI (ah (aI (ah (aI (aq h))))))
theorem b6 {A B:Type} {g:B→A} {T:Option B} {k0 k1 k2 k4:IntKind} {x0:Int} {x1:Int} {x2:Int} {x3:List UInt8} {x4:Int} {x5:List MV} {K:Int→Int→Int→List UInt8→Int→List MV→Option A} (h:Sm g (K x0 x1 x2 x3 x4 x5) T):Sm g (cF k0 k1 k2 k4 [.i k0 x0,.i k1 x1,.i k2 x2,.s x3,.i k4 x4,.list x5] K) T:=ah (aI (ah (aI (ah (aI (ah (bn (ah (aI (ah (aZ (aq h))))))))))))
theorem iJ {A B:Type} {g:B→A} {T:Option B} {k0 k1 k2 k5 k6 k7:IntKind} {x0:Int} {x1:Int} {x2:Int} {x3:List UInt8} {x4:List UInt8} {x5:Int} {x6:Int} {x7:Int} {K:Int→Int→Int→List UInt8→List UInt8→Int→Int→Int→Option A} (h:Sm g (K x0 x1 x2 x3 x4 x5 x6 x7) T):Sm g (jg k0 k1 k2 k5 k6 k7 [.i k0 x0,.i k1 x1,.i k2 x2,.s x3,.s x4,.i k5 x5,.i k6 x6,.i k7 x7] K) T:=ah (aI (ah (aI (ah (aI (ah (bn (ah (bn (ah (aI (ah (aI (ah (aI (aq h))))))))))))))))
theorem Ah {A B:Type} {g:B→A} {T:Option B} {k0:IntKind} {x0:Int} {x1:List MV} {K:Int→List MV→Option A} (h:Sm g (K x0 x1) T):Sm g (Nu k0 [.i k0 x0,.list x1] K) T:=ah (aI (ah (aZ (aq h))))
theorem HH {A B:Type} {g:B→A} {T:Option B} {x0:List MV} {x1:Bool} {K:List MV→Bool→Option A} (h:Sm g (K x0 x1) T):Sm g (VE [.list x0,.b x1] K) T:=ah (aZ (ah (aR (aq h))))
theorem zm {A B:Type} {g:B→A} {T:Option B} {k1:IntKind} {x0:List MV} {x1:Int} {K:List MV→Int→Option A} (h:Sm g (K x0 x1) T):Sm g (Mn k1 [.list x0,.i k1 x1] K) T:=ah (aZ (ah (aI (aq h))))
theorem eK {A B:Type} {g:B→A} {T:Option B} {k1:IntKind} {x0:List MV} {x1:Int} {x2:List MV} {x3:List MV} {x4:List MV} {K:List MV→Int→List MV→List MV→List MV→Option A} (h:Sm g (K x0 x1 x2 x3 x4) T):Sm g (gf k1 [.list x0,.i k1 x1,.list x2,.list x3,.list x4] K) T:=ah (aZ (ah (aI (ah (aZ (ah (aZ (ah (aZ (aq h))))))))))
theorem ay {A B:Type} {g:B→A} {T:Option B} {k1 k5 k6 k7 k10 k11 k12 k13 k14 k15 k17:IntKind} {x0:List MV} {x1:Int} {x2:List MV} {x3:List MV} {x4:List MV} {x5:Int} {x6:Int} {x7:Int} {x8:List UInt8} {x9:List UInt8} {za:Int} {BN:Int} {C7:Int} {Cj:Int} {DD:Int} {DE:Int} {Ft:List UInt8} {DF:Int} {Fu:List MV} {GZ:List MV} {K:List MV→Int→List MV→List MV→List MV→Int→Int→Int→List UInt8→List UInt8→Int→Int→Int→Int→Int→Int→List UInt8→Int→List MV→List MV→Option A} (h:Sm g (K x0 x1 x2 x3 x4 x5 x6 x7 x8 x9 za BN C7 Cj DD DE Ft DF Fu GZ) T):Sm g (az k1 k5 k6 k7 k10 k11 k12 k13 k14 k15 k17 [.list x0,.i k1 x1,.list x2,.list x3,.list x4,.i k5 x5,.i k6 x6,.i k7 x7,.s x8,.s x9,.i k10 za,.i k11 BN,.i k12 C7,.i k13 Cj,.i k14 DD,.i k15 DE,.s Ft,.i k17 DF,.list Fu,.list GZ] K) T:=ah (aZ (ah (aI (ah (aZ (ah (aZ (ah (aZ (ah (aI (ah (aI (ah (aI (ah (bn (ah (bn (ah (aI (ah (aI (ah (aI (ah (aI (ah (aI (ah (aI (ah (bn (ah (aI (ah (aZ (ah (aZ (aq h))))))))))))))))))))))))))))))))))))))))
theorem rW {A B:Type} {g:B→A} {T:Option B} {k1:IntKind} {x0:List UInt8} {x1:Int} {x2:Bool} {K:List UInt8→Int→Bool→Option A} (h:Sm g (K x0 x1 x2) T):Sm g (zb k1 [.s x0,.i k1 x1,.b x2] K) T:=ah (bn (ah (aI (ah (aR (aq h))))))
theorem gm {A B:Type} {g:B→A} {T:Option B} {k2 k3:IntKind} {x0:List UInt8} {x1:List UInt8} {x2:Int} {x3:Int} {K:List UInt8→List UInt8→Int→Int→Option A} (h:Sm g (K x0 x1 x2 x3) T):Sm g (j6 k2 k3 [.s x0,.s x1,.i k2 x2,.i k3 x3] K) T:=ah (bn (ah (bn (ah (aI (ah (aI (aq h))))))))
theorem Zz (a:ak):Sm MV.b (D8 (cT a)) (A8 a):=by
 unfold D8 A8
 refine aM (eK ?_)
 refine aj (f:=fun r=>[.b r]) ?_ fun w=> ?_
 ·refine aH (n:=a.Shelf.L.length) (by simp only [List.length_map,List.length_cons,List.length_nil]) ?_
  refine aB ?_ ?_
  ·exact aa (rfl)
  ·refine aH (n:=a.bg.L.length) (by simp only [List.length_map,List.length_cons,List.length_nil]) ?_
   refine aB ?_ ?_
   ·exact aa (rfl)
   ·refine aH (n:=a.br.L.length) (by simp only [List.length_map,List.length_cons,List.length_nil]) ?_
    refine aB ?_ ?_
    ·exact aa (rfl)
    ·refine aH (n:=a.Seen.length) (by simp only [List.length_map,List.length_cons,List.length_nil]) ?_
     refine aB ?_ ?_
     ·exact aa (rfl)
     ·exact aa (rfl)
 ·refine ah (aR (aq ?_))
  refine aF ?_ ?_
  ·exact aa (rfl)
  ·refine aj (bM (fun r=>[.i .i64 r]) (Sum.elim (fun r=>(2,[])) (fun r=>(1,[.b r]))) (rfl) fun st=> ?_) fun w1=> ?_
   ·unfold yx
    refine ah (aI (aq (aH (n:=a.Shelf.L.length) (by simp only [List.length_map,List.length_cons,List.length_nil]) ?_)))
    refine aB ?_ ?_
    ·refine aj (f:=fun r=>[.b r]) ?_ fun w2=> ?_
     ·refine bj (f:=aL) (rfl) fun y=> ?_
      refine aM (gm ?_)
      refine aB ?_ ?_
      ·exact aa (rfl)
      ·refine bj (f:=aL) (rfl) fun y1=> ?_
       refine aM (gm ?_)
       exact aa (rfl)
     ·refine ah (aR (aq ?_))
      refine aF ?_ ?_
      ·exact aa (rfl)
      ·exact aa (rfl)
    ·exact aa (rfl)
   ·rcases w1 with p1|p2
    ·refine eE rfl (aq ?_)
     refine aj (bM (fun r=>[.i .i64 r]) (Sum.elim (fun r=>(4,[])) (fun r=>(1,[.b r]))) (rfl) fun ec=> ?_) fun w3=> ?_
     ·unfold yy
      refine ah (aI (aq (aH (n:=a.bg.L.length) (by simp only [List.length_map,List.length_cons,List.length_nil]) ?_)))
      refine aB ?_ ?_
      ·refine bj (f:=aW) (rfl) fun y2=> ?_
       refine aM (rW ?_)
       refine aB ?_ ?_
       ·exact aa (rfl)
       ·exact aa (rfl)
      ·exact aa (rfl)
     ·rcases w3 with p4|p5
      ·refine eE rfl (aq ?_)
       refine aj (bM (fun r=>[.i .i64 r]) (Sum.elim (fun r=>(6,[])) (fun r=>(1,[.b r]))) (rfl) fun dO=> ?_) fun w4=> ?_
       ·unfold yA
        refine ah (aI (aq (aH (n:=a.Seen.length) (by simp only [List.length_map,List.length_cons,List.length_nil]) ?_)))
        refine aB ?_ ?_
        ·refine aj (f:=fun r=>[.b r]) ?_ fun w5=> ?_
         ·refine bj (f:=aJ) (rfl) fun y3=> ?_
          refine aM (b6 ?_)
          refine aB ?_ ?_
          ·exact aa (rfl)
          ·refine bj (f:=aJ) (rfl) fun y4=> ?_
           refine aM (b6 (aH (n:=y4.Names.length) (by simp only [List.length_map,List.length_cons,List.length_nil]) ?_))
           exact aa (rfl)
         ·refine ah (aR (aq ?_))
          refine aF ?_ ?_
          ·exact aa (rfl)
          ·refine aj (bM (fun r=>[.i .i64 r]) (Sum.elim (fun r=>(8,[])) (fun r=>(1,[.b r]))) (rfl) fun nV=> ?_) fun w6=> ?_
           ·unfold yz
            refine ah (aI (aq ?_))
            refine bj (f:=aJ) (rfl) fun y5=> ?_
            refine aM (b6 (aH (n:=y5.Names.length) (by simp only [List.length_map,List.length_cons,List.length_nil]) ?_))
            refine aB ?_ ?_
            ·refine bj (f:=aJ) (rfl) fun y6=> ?_
             refine aM (b6 ?_)
             refine bj (f:=MV.s) (rfl) fun y7=> ?_
             refine bn ?_
             refine aB ?_ ?_
             ·exact aa (rfl)
             ·exact aa (rfl)
            ·exact aa (rfl)
           ·rcases w6 with p8|p9
            ·refine eE rfl (aq ?_)
             exact aa (rfl)
            ·refine eF rfl (bP rfl (ah (aR (aq ?_))))
             exact aa (rfl)
        ·exact aa (rfl)
       ·rcases w4 with p10|p11
        ·refine eE rfl (aq ?_)
         exact aa (rfl)
        ·refine eF rfl (bP rfl (ah (aR (aq ?_))))
         exact aa (rfl)
      ·refine eF rfl (bP rfl (ah (aR (aq ?_))))
       exact aa (rfl)
    ·refine eF rfl (bP rfl (ah (aR (aq ?_))))
     exact aa (rfl)
theorem Jc (lA:List au):Sm MV.b (uv (.list (lA.map cm))) (qM lA):=by
 unfold uv qM
 refine aZ ?_
 refine aj (bM (fun r=>[.i .i64 r]) (Sum.elim (fun r=>(2,[])) (fun r=>(1,[.b r]))) (rfl) fun st=> ?_) fun w=> ?_
 ·unfold sQ
  refine ah (aI (aq (aH (n:=lA.length) (by simp only [List.length_map,List.length_cons,List.length_nil]) ?_)))
  refine aB ?_ ?_
  ·refine aj (f:=fun r=>[.b r]) ?_ fun w1=> ?_
   ·refine aB ?_ ?_
    ·exact aa (rfl)
    ·refine bj (f:=cm) (rfl) fun y=> ?_
     refine aM (iJ ?_)
     refine aB ?_ ?_
     ·exact aa (rfl)
     ·refine bj (f:=cm) (rfl) fun y1=> ?_
      refine aM (iJ ?_)
      exact aa (rfl)
   ·refine ah (aR (aq ?_))
    refine aF ?_ ?_
    ·exact aa (rfl)
    ·exact aa (rfl)
  ·exact aa (rfl)
 ·rcases w with p1|p2
  ·refine eE rfl (aq ?_)
   exact aa (rfl)
  ·refine eF rfl (bP rfl (ah (aR (aq ?_))))
   exact aa (rfl)
theorem QG (p:List UInt8):Sm (fun r=> .cN [.list (r.1.map MV.s),.b r.2]) (Be (.s p)) (yB p):=by
 unfold Be yB
 refine bn ?_
 refine aj (f:=fun r=>[.b r]) ?_ fun w=> ?_
 ·refine aB ?_ ?_
  ·exact aa (rfl)
  ·refine cI ?_
   exact aa (rfl)
 ·refine ah (aR (aq ?_))
  refine aF ?_ ?_
  ·exact aa (rfl)
  ·refine aB ?_ ?_
   ·exact aa (rfl)
   ·refine aj (bM (fun r=>[.list (r.1.map MV.s),.s r.2.1,.i .i64 r.2.2]) (fun r=>(2,[.list (r.1.map MV.s),.s r.2])) (rfl) fun st=> ?_) fun w1=> ?_
    ·unfold ui
     refine ah (aZ (ah (bn (ah (aI (aq ?_))))))
     refine aB ?_ ?_
     ·refine cI ?_
      refine aj (f:=(fun r=>(0,[.list (r.1.map MV.s),.s r.2]))) ?_ fun w2=> ?_
      ·refine aB ?_ ?_
       ·refine aH (n:=st.1.length) (by simp only [List.length_map,List.length_cons,List.length_nil]) (aH (n:=([st.2.1]:List (List UInt8)).length) (by simp only [List.length_map,List.length_cons,List.length_nil]) (cI ?_))
        exact aa (by simp)
       ·refine cI ?_
        refine acv (M:=([((p.getD (Int.toNat st.2.2) 0).toNat:Int)]:List Int)) (rfl) fun bs=> ?_
        refine cI ?_
        exact aa (rfl)
      ·refine bP rfl (ah (aZ (ah (bn (aq ?_)))))
       exact aa (rfl)
     ·exact aa (rfl)
    ·refine bP rfl (ah (aZ (ah (bn (aq (aH (n:=w1.1.length) (by simp only [List.length_map,List.length_cons,List.length_nil]) (aH (n:=([w1.2]:List (List UInt8)).length) (by simp only [List.length_map,List.length_cons,List.length_nil]) (cI ?_))))))))
     exact aa (by simp)
theorem OT (sA:List UInt8):Sm MV.b (vC (.s sA)) (rk sA):=by
 unfold vC rk
 refine bn ?_
 refine aj (bM (fun r=>[.i .i64 r]) (Sum.elim (fun r=>(2,[])) (fun r=>(1,[.b r]))) (rfl) fun st=> ?_) fun w=> ?_
 ·unfold nw
  refine ah (aI (aq ?_))
  refine aB ?_ ?_
  ·refine cI ?_
   refine aj (f:=fun r=>[.b r]) ?_ fun w1=> ?_
   ·refine aB ?_ ?_
    ·refine aB ?_ ?_
     ·exact aa (rfl)
     ·refine aB ?_ ?_
      ·refine aB ?_ ?_
       ·exact aa (rfl)
       ·refine aB ?_ ?_
        ·exact aa (rfl)
        ·exact aa (rfl)
      ·refine aB ?_ ?_
       ·exact aa (rfl)
       ·exact aa (rfl)
    ·refine aB ?_ ?_
     ·refine aB ?_ ?_
      ·exact aa (rfl)
      ·refine aB ?_ ?_
       ·exact aa (rfl)
       ·exact aa (rfl)
     ·refine aB ?_ ?_
      ·exact aa (rfl)
      ·exact aa (rfl)
   ·refine ah (aR (aq ?_))
    refine aF ?_ ?_
    ·exact aa (rfl)
    ·exact aa (rfl)
  ·exact aa (rfl)
 ·rcases w with p1|p2
  ·refine eE rfl (aq ?_)
   refine aj (f:=fun r=>[.b r]) ?_ fun w2=> ?_
   ·refine aB ?_ ?_
    ·exact aa (rfl)
    ·exact aa (rfl)
   ·refine ah (aR (aq ?_))
    exact aa (rfl)
  ·refine eF rfl (bP rfl (ah (aR (aq ?_))))
   exact aa (rfl)
theorem Cs (p:List UInt8):Sm MV.b (qQ (.s p)) (ng p):=by
 unfold qQ ng
 refine bn ?_
 refine aB ?_ ?_
 ·exact aa (rfl)
 ·refine aj (QG p) fun rA=> ?_
  refine cy (HH ?_)
  refine aj (bM (fun r=>[.i .i64 r]) (Sum.elim (fun r=>(2,[])) (fun r=>(1,[.b r]))) (rfl) fun st=> ?_) fun w=> ?_
  ·unfold pk
   refine ah (aI (aq (aH (n:=rA.1.length) (by simp only [List.length_map,List.length_cons,List.length_nil]) ?_)))
   refine aB ?_ ?_
   ·refine bj (f:=MV.s) (rfl) fun y=> ?_
    refine bn ?_
    refine aj (OT y) fun aX=> ?_
    refine aR ?_
    refine aF ?_ ?_
    ·exact aa (rfl)
    ·exact aa (rfl)
   ·exact aa (rfl)
  ·rcases w with p3|p4
   ·refine eE rfl (aq ?_)
    refine aj (f:=fun r=>[.b r]) ?_ fun w1=> ?_
    ·refine aF ?_ ?_
     ·refine aH (n:=rA.1.length) (by simp only [List.length_map,List.length_cons,List.length_nil]) ?_
      exact aa (rfl)
     ·exact aa (rfl)
    ·refine ah (aR (aq ?_))
     exact aa (rfl)
   ·refine eF rfl (bP rfl (ah (aR (aq ?_))))
    exact aa (rfl)
theorem Ct (p:List UInt8):Sm (fun r=> .cN [.list (r.1.map MV.s),.i .i64 r.2]) (qR (.s p)) (oo p):=by
 unfold qR oo
 refine bn ?_
 refine aj (Cs p) fun rA=> ?_
 refine aR ?_
 refine aF ?_ ?_
 ·exact aa (rfl)
 ·refine aj (QG p) fun aX=> ?_
  refine cy (HH ?_)
  exact aa (rfl)
theorem Sj (p:List UInt8) (q:List UInt8):Sm MV.b (yD (.s p) (.s q)) (uj p q):=by
 unfold yD uj
 refine bn (bn ?_)
 refine aj (Ct p) fun rA=> ?_
 refine cy (zm ?_)
 refine aj (Ct q) fun aX=> ?_
 refine cy (zm ?_)
 refine aj (f:=fun r=>[.b r]) ?_ fun w=> ?_
 ·refine aF ?_ ?_
  ·exact aa (rfl)
  ·exact aa (rfl)
 ·refine ah (aR (aq ?_))
  refine aF ?_ ?_
  ·exact aa (rfl)
  ·refine aj (bM (fun r=>[.i .i64 r]) (Sum.elim (fun r=>(2,[])) (fun r=>(1,[.b r]))) (rfl) fun st=> ?_) fun w1=> ?_
   ·unfold pn
    refine ah (aI (aq ?_))
    refine aj (f:=fun r=>[.b r]) ?_ fun w2=> ?_
    ·refine aH (n:=rA.1.length) (by simp only [List.length_map,List.length_cons,List.length_nil]) ?_
     refine aB ?_ ?_
     ·refine aH (n:=aX.1.length) (by simp only [List.length_map,List.length_cons,List.length_nil]) ?_
      exact aa (rfl)
     ·exact aa (rfl)
    ·refine ah (aR (aq ?_))
     refine aF ?_ ?_
     ·refine bj (f:=MV.s) (rfl) fun y=> ?_
      refine bn ?_
      refine bj (f:=MV.s) (rfl) fun y1=> ?_
      refine bn ?_
      refine aF ?_ ?_
      ·refine bj (f:=MV.s) (rfl) fun y2=> ?_
       refine bn ?_
       refine bj (f:=MV.s) (rfl) fun y3=> ?_
       refine bn ?_
       exact aa (rfl)
      ·exact aa (rfl)
     ·exact aa (rfl)
   ·rcases w1 with p3|p4
    ·refine eE rfl (aq (aH (n:=rA.1.length) (by simp only [List.length_map,List.length_cons,List.length_nil]) (aH (n:=aX.1.length) (by simp only [List.length_map,List.length_cons,List.length_nil]) ?_)))
     exact aa (rfl)
    ·refine eF rfl (bP rfl (ah (aR (aq ?_))))
     exact aa (rfl)
theorem Wj (lA:List (List UInt8)):Sm MV.s (Bf (.list (lA.map MV.s))) (xz lA):=by
 unfold Bf xz
 refine aZ ?_
 refine aj (bM (fun r=>[.s r.1,.i .i64 r.2]) (fun r=>(2,[.s r])) (rfl) fun st=> ?_) fun w=> ?_
 ·unfold rl
  refine ah (bn (ah (aI (aq (aH (n:=lA.length) (by simp only [List.length_map,List.length_cons,List.length_nil]) ?_)))))
  refine aB ?_ ?_
  ·refine cI ?_
   refine bj (f:=MV.s) (rfl) fun y=> ?_
   refine bn (cI ?_)
   exact aa (rfl)
  ·exact aa (rfl)
 ·refine bP rfl (ah (bn (aq ?_)))
  refine aB ?_ ?_
  ·exact aa (rfl)
  ·exact aa (rfl)
theorem OU (p:List UInt8):Sm (fun r=> .cN [.s r.1,.i .i64 r.2]) (vD (.s p)) (oq p):=by
 unfold vD oq
 refine bn ?_
 refine aj (Ct p) fun rA=> ?_
 refine cy (zm ?_)
 refine aF ?_ ?_
 ·exact aa (rfl)
 ·refine aH (n:=rA.1.length) (by simp only [List.length_map,List.length_cons,List.length_nil]) ?_
  refine aB ?_ ?_
  ·exact aa (rfl)
  ·refine aH (n:=rA.1.length) (by simp only [List.length_map,List.length_cons,List.length_nil]) (aH (n:=rA.1.length) (by simp only [List.length_map,List.length_cons,List.length_nil]) (cI ?_))
   refine aj (by simpa using Wj (List.drop (Int.toNat 0) (List.take (Int.toNat (IntKind.wrap .i64 ((rA.1.length:Int)-1))) rA.1))) fun aX=> ?_
   refine bn ?_
   exact aa (rfl)
theorem Wk (sA:jU) (p:List UInt8):Sm (MV.i .i64) (FE (C4 sA) (.s p)) (vw sA p):=by
 unfold FE vw
 refine aM (ah (aZ (aq (bn ?_))))
 refine aj (bM (fun r=>[.i .i64 r]) (Sum.elim (fun r=>(2,[])) (fun r=>(1,[.i .i64 r]))) (rfl) fun st=> ?_) fun w=> ?_
 ·unfold xA
  refine ah (aI (aq (aH (n:=sA.L.length) (by simp only [List.length_map,List.length_cons,List.length_nil]) ?_)))
  refine aB ?_ ?_
  ·refine bj (f:=kO) (rfl) fun y=> ?_
   refine aM (gm ?_)
   refine aB ?_ ?_
   ·exact aa (rfl)
   ·exact aa (rfl)
  ·exact aa (rfl)
 ·rcases w with p3|p4
  ·refine eE rfl (aq ?_)
   exact aa (rfl)
  ·refine eF rfl (bP rfl (ah (aI (aq ?_))))
   exact aa (rfl)
theorem Sk (a:jU):Sm MV.b (yE (C4 a)) (uk a):=by
 unfold yE uk
 refine aM (ah (aZ (aq ?_)))
 refine aj (f:=fun r=>[.b r]) ?_ fun w=> ?_
 ·refine aH (n:=a.L.length) (by simp only [List.length_map,List.length_cons,List.length_nil]) ?_
  refine aB ?_ ?_
  ·exact aa (rfl)
  ·refine aH (n:=a.L.length) (by simp only [List.length_map,List.length_cons,List.length_nil]) ?_
   exact aa (rfl)
 ·refine ah (aR (aq ?_))
  refine aF ?_ ?_
  ·exact aa (rfl)
  ·refine aj (bM (fun r=>[.i .i64 r]) (Sum.elim (fun r=>(2,[])) (fun r=>(1,[.b r]))) (rfl) fun st=> ?_) fun w1=> ?_
   ·unfold po
    refine ah (aI (aq (aH (n:=a.L.length) (by simp only [List.length_map,List.length_cons,List.length_nil]) ?_)))
    refine aB ?_ ?_
    ·refine bj (f:=kO) (rfl) fun y=> ?_
     refine aM (gm ?_)
     refine aj (f:=fun r=>[.b r]) ?_ fun w2=> ?_
     ·refine aj (Cs y.Path) fun rA=> ?_
      refine aR ?_
      refine aF ?_ ?_
      ·exact aa (rfl)
      ·refine aB ?_ ?_
       ·exact aa (rfl)
       ·refine aB ?_ ?_
        ·exact aa (rfl)
        ·refine aB ?_ ?_
         ·exact aa (rfl)
         ·refine aB ?_ ?_
          ·exact aa (rfl)
          ·refine aB ?_ ?_
           ·refine bj (f:=kO) (rfl) fun y1=> ?_
            refine aM (gm ?_)
            refine aj (Sj y1.Path y.Path) fun aX=> ?_
            refine aR ?_
            exact aa (rfl)
           ·exact aa (rfl)
     ·refine ah (aR (aq ?_))
      refine aF ?_ ?_
      ·exact aa (rfl)
      ·refine aj (OU y.Path) fun da=> ?_
       refine cy (ah (bn (ah (aI (aq ?_)))))
       refine aF ?_ ?_
       ·refine aF ?_ ?_
        ·exact aa (rfl)
        ·exact aa (rfl)
       ·refine aj (Wk a da.1) fun n0=> ?_
        refine aI ?_
        refine aj (f:=fun r=>[.b r]) ?_ fun w3=> ?_
        ·refine aB ?_ ?_
         ·exact aa (rfl)
         ·refine bj (f:=kO) (rfl) fun y2=> ?_
          refine aM (gm ?_)
          exact aa (rfl)
        ·refine ah (aR (aq ?_))
         refine aF ?_ ?_
         ·exact aa (rfl)
         ·exact aa (rfl)
    ·exact aa (rfl)
   ·rcases w1 with p1|p2
    ·refine eE rfl (aq ?_)
     refine aj (Wk a ([47]:List UInt8)) fun A9=> ?_
     refine aI ?_
     exact aa (rfl)
    ·refine eF rfl (bP rfl (ah (aR (aq ?_))))
     exact aa (rfl)
theorem Sl (a:vv):Sm MV.b (yF (OG a)) (ul a):=by
 unfold yF ul
 refine aM (Ah ?_)
 refine aj (f:=fun r=>[.b r]) ?_ fun w=> ?_
 ·refine aB ?_ ?_
  ·exact aa (rfl)
  ·refine aB ?_ ?_
   ·exact aa (rfl)
   ·refine aH (n:=a.L.length) (by simp only [List.length_map,List.length_cons,List.length_nil]) ?_
    exact aa (rfl)
 ·refine ah (aR (aq ?_))
  refine aF ?_ ?_
  ·exact aa (rfl)
  ·refine aj (bM (fun r=>[.i .i64 r]) (Sum.elim (fun r=>(2,[])) (fun r=>(1,[.b r]))) (rfl) fun st=> ?_) fun w1=> ?_
   ·unfold sR
    refine ah (aI (aq (aH (n:=a.L.length) (by simp only [List.length_map,List.length_cons,List.length_nil]) ?_)))
    refine aB ?_ ?_
    ·refine bj (f:=ke) (rfl) fun y=> ?_
     refine aM (wF ?_)
     refine aj (f:=fun r=>[.b r]) ?_ fun w2=> ?_
     ·refine aB ?_ ?_
      ·exact aa (rfl)
      ·refine aB ?_ ?_
       ·exact aa (rfl)
       ·refine aB ?_ ?_
        ·exact aa (rfl)
        ·refine aB ?_ ?_
         ·exact aa (rfl)
         ·refine aB ?_ ?_
          ·exact aa (rfl)
          ·refine aB ?_ ?_
           ·refine bj (f:=ke) (rfl) fun y1=> ?_
            refine aM (wF ?_)
            exact aa (rfl)
           ·exact aa (rfl)
     ·refine ah (aR (aq ?_))
      refine aF ?_ ?_
      ·exact aa (rfl)
      ·exact aa (rfl)
    ·exact aa (rfl)
   ·rcases w1 with p1|p2
    ·refine eE rfl (aq ?_)
     exact aa (rfl)
    ·refine eF rfl (bP rfl (ah (aR (aq ?_))))
     exact aa (rfl)
theorem ZA (lA:List bI) (w:bI):Sm MV.b (D9 (.list (lA.map gn)) (gn w)) (vz lA w):=by
 unfold D9 vz
 refine aZ (aM (rW ?_))
 refine aj (bM (fun r=>[.i .i64 r]) (Sum.elim (fun r=>(2,[])) (fun r=>(1,[.b r]))) (rfl) fun st=> ?_) fun w1=> ?_
 ·unfold um
  refine ah (aI (aq (aH (n:=lA.length) (by simp only [List.length_map,List.length_cons,List.length_nil]) ?_)))
  refine aB ?_ ?_
  ·refine bj (f:=gn) (rfl) fun y=> ?_
   refine aM (rW ?_)
   refine aF ?_ ?_
   ·exact aa (rfl)
   ·exact aa (rfl)
  ·exact aa (rfl)
 ·rcases w1 with p1|p2
  ·refine eE rfl (aq ?_)
   exact aa (rfl)
  ·refine eF rfl (bP rfl (ah (aR (aq ?_))))
   exact aa (rfl)
theorem Sn (t:rj):Sm MV.b (yG (Mm t)) (uo t):=by
 unfold yG uo
 refine aM (ah (aZ (aq ?_)))
 refine aj (bM (fun r=>[.i .i64 r]) (Sum.elim (fun r=>(2,[])) (fun r=>(1,[.b r]))) (rfl) fun st=> ?_) fun w=> ?_
 ·unfold sS
  refine ah (aI (aq (aH (n:=t.L.length) (by simp only [List.length_map,List.length_cons,List.length_nil]) ?_)))
  refine aB ?_ ?_
  ·refine aj (f:=fun r=>[.b r]) ?_ fun w1=> ?_
   ·refine bj (f:=gn) (rfl) fun y=> ?_
    refine aM (rW ?_)
    refine aj (Cs y.Path) fun rA=> ?_
    refine aR ?_
    refine aF ?_ ?_
    ·exact aa (rfl)
    ·refine bj (f:=gn) (rfl) fun y1=> ?_
     refine aM (rW ?_)
     refine aB ?_ ?_
     ·exact aa (rfl)
     ·refine aH (n:=t.L.length) (by simp only [List.length_map,List.length_cons,List.length_nil]) (cI ?_)
      refine bj (f:=gn) (rfl) fun y2=> ?_
      refine aM (rW ?_)
      refine aj (by simpa using ZA (List.drop (Int.toNat 0) (List.take (Int.toNat st) t.L)) y2) fun aX=> ?_
      refine aR ?_
      exact aa (rfl)
   ·refine ah (aR (aq ?_))
    refine aF ?_ ?_
    ·exact aa (rfl)
    ·exact aa (rfl)
  ·exact aa (rfl)
 ·rcases w with p1|p2
  ·refine eE rfl (aq (aH (n:=t.L.length) (by simp only [List.length_map,List.length_cons,List.length_nil]) ?_))
   exact aa (rfl)
  ·refine eF rfl (bP rfl (ah (aR (aq ?_))))
   exact aa (rfl)
theorem Jd (a:pj):Sm MV.b (ux (C5 a)) (qN a):=by
 unfold ux qN
 refine aM (eK ?_)
 refine aj (f:=fun r=>[.b r]) ?_ fun w=> ?_
 ·refine aj (Sk a.Shelf) fun rA=> ?_
  refine aR ?_
  refine aF ?_ ?_
  ·exact aa (rfl)
  ·refine aj (Sl a.br) fun aX=> ?_
   refine aR ?_
   refine aF ?_ ?_
   ·exact aa (rfl)
   ·refine aj (Sn a.bg) fun da=> ?_
    refine aR ?_
    refine aF ?_ ?_
    ·exact aa (rfl)
    ·refine aH (n:=a.Seen.length) (by simp only [List.length_map,List.length_cons,List.length_nil]) ?_
     exact aa (rfl)
 ·refine ah (aR (aq ?_))
  refine aF ?_ ?_
  ·exact aa (rfl)
  ·refine aj (bM (fun r=>[.i .i64 r]) (Sum.elim (fun r=>(2,[])) (fun r=>(1,[.b r]))) (rfl) fun st=> ?_) fun w1=> ?_
   ·unfold sU
    refine ah (aI (aq (aH (n:=a.Seen.length) (by simp only [List.length_map,List.length_cons,List.length_nil]) ?_)))
    refine aB ?_ ?_
    ·refine bj (f:=fw) (rfl) fun y=> ?_
     refine aM (b6 ?_)
     refine aj (f:=fun r=>[.b r]) ?_ fun w2=> ?_
     ·refine aB ?_ ?_
      ·exact aa (rfl)
      ·refine aB ?_ ?_
       ·exact aa (rfl)
       ·refine aB ?_ ?_
        ·exact aa (rfl)
        ·refine aB ?_ ?_
         ·refine bj (f:=fw) (rfl) fun y1=> ?_
          refine aM (b6 ?_)
          exact aa (rfl)
         ·exact aa (rfl)
     ·refine ah (aR (aq ?_))
      refine aF ?_ ?_
      ·exact aa (rfl)
      ·exact aa (rfl)
    ·exact aa (rfl)
   ·rcases w1 with p1|p2
    ·refine eE rfl (aq ?_)
     exact aa (rfl)
    ·refine eF rfl (bP rfl (ah (aR (aq ?_))))
     exact aa (rfl)
theorem Gm (rA:af):Sm fw (uy (aJ rA)) (rm rA):=by
 unfold uy rm
 refine aM (b6 ?_)
 exact aa (rfl)
theorem MG (lA:List af):Sm (Md fw) (sV (.list (lA.map aJ))) (pq lA):=by
 unfold sV pq
 refine aZ ?_
 refine aj (bM (fun r=>[.list (r.1.map fw),.i .i64 r.2]) (fun r=>(2,[.list (r.map fw)])) (rfl) fun st=> ?_) fun w=> ?_
 ·unfold mh
  refine zm (aH (n:=lA.length) (by simp only [List.length_map,List.length_cons,List.length_nil]) ?_)
  refine aB ?_ ?_
  ·refine bj (f:=aJ) (rfl) fun y=> ?_
   refine aM (b6 ?_)
   refine aj (Gm y) fun rA=> ?_
   refine aM (b6 (aH (n:=st.1.length) (by simp only [List.length_map,List.length_cons,List.length_nil]) (aH (n:=([rA]:List cn).length) (by simp only [List.length_map,List.length_cons,List.length_nil]) (cI ?_))))
   exact aa (by simp [dM])
  ·exact aa (rfl)
 ·refine bP rfl (ah (aZ (aq ?_)))
  exact aa (rfl)
theorem Je (a:ak):Sm C5 (uz (cT a)) (qO a):=by
 unfold uz qO
 refine aM (eK ?_)
 refine aj (MG a.Seen) fun rA=> ?_
 refine aZ ?_
 refine aj (bM (fun r=>(v3 r)) (fun r=>(2,(v4 r))) (rfl) fun st=> ?_) fun w=> ?_
 ·unfold pu
  refine ah (aZ (ah (aI (ah (aZ (ah (aZ (zm (aH (n:=a.Shelf.L.length) (by simp only [List.length_map,List.length_cons,List.length_nil]) ?_)))))))))
  refine aB ?_ ?_
  ·refine bj (f:=aL) (rfl) fun y=> ?_
   refine aM (gm (aH (n:=st.1.length) (by simp only [List.length_map,List.length_cons,List.length_nil]) (aH (n:=([(⟨y.Path,y.Value,y.Version,y.bJ⟩:eG)]:List eG).length) (by simp only [List.length_map,List.length_cons,List.length_nil]) (cI ?_))))
   exact aa (by simp [cY,qA,ml,v3,v4])
  ·exact aa (rfl)
 ·refine bP rfl (eK ?_)
  refine aj (bM (fun r=>(v3 r)) (fun r=>(4,(v4 r))) (rfl) fun ec=> ?_) fun w1=> ?_
  ·unfold pv
   refine ah (aZ (ah (aI (ah (aZ (ah (aZ (zm (aH (n:=a.br.L.length) (by simp only [List.length_map,List.length_cons,List.length_nil]) ?_)))))))))
   refine aB ?_ ?_
   ·refine bj (f:=aN) (rfl) fun y1=> ?_
    refine aM (wF (aH (n:=ec.2.2.1.length) (by simp only [List.length_map,List.length_cons,List.length_nil]) (aH (n:=([(⟨y1.Id,y1.Span,y1.c9⟩:bU)]:List bU).length) (by simp only [List.length_map,List.length_cons,List.length_nil]) (cI ?_))))
    exact aa (by simp [cY,qA,ml,v3,v4])
   ·exact aa (rfl)
  ·refine bP rfl (eK ?_)
   refine aj (bM (fun r=>(v3 r)) (fun r=>(6,(v4 r))) (rfl) fun dO=> ?_) fun w2=> ?_
   ·unfold pw
    refine ah (aZ (ah (aI (ah (aZ (ah (aZ (zm (aH (n:=a.bg.L.length) (by simp only [List.length_map,List.length_cons,List.length_nil]) ?_)))))))))
    refine aB ?_ ?_
    ·refine bj (f:=aW) (rfl) fun y2=> ?_
     refine aM (rW (aH (n:=dO.2.2.2.1.length) (by simp only [List.length_map,List.length_cons,List.length_nil]) (aH (n:=([(⟨y2.Path,y2.Client,y2.Kids⟩:bI)]:List bI).length) (by simp only [List.length_map,List.length_cons,List.length_nil]) (cI ?_))))
     exact aa (by simp [cY,qA,ml,v3,v4])
    ·exact aa (rfl)
   ·refine bP rfl (eK ?_)
    exact aa (rfl)
theorem DP (o:au):Sm cm (mD (cm o)) (jV o):=by
 unfold mD jV
 refine aM (iJ ?_)
 refine aB ?_ ?_
 ·exact aa (rfl)
 ·refine aj (f:=(fun r=>(0,[.b r]))) ?_ fun w=> ?_
  ·refine aB ?_ ?_
   ·exact aa (rfl)
   ·refine aj (f:=(fun r=>(0,[.b r]))) ?_ fun w1=> ?_
    ·refine aB ?_ ?_
     ·exact aa (rfl)
     ·refine aj (f:=(fun r=>(0,[.b r]))) ?_ fun w2=> ?_
      ·refine aB ?_ ?_
       ·exact aa (rfl)
       ·exact aa (rfl)
      ·refine bP rfl (ah (aR (aq ?_)))
       exact aa (rfl)
    ·refine bP rfl (ah (aR (aq ?_)))
     exact aa (rfl)
  ·refine bP rfl (ah (aR (aq ?_)))
   refine aF ?_ ?_
   ·exact aa (rfl)
   ·refine aB ?_ ?_
    ·exact aa (rfl)
    ·refine aB ?_ ?_
     ·exact aa (rfl)
     ·refine aB ?_ ?_
      ·exact aa (rfl)
      ·refine aj (f:=(fun r=>(0,[.b r]))) ?_ fun w3=> ?_
       ·refine aB ?_ ?_
        ·exact aa (rfl)
        ·exact aa (rfl)
       ·refine bP rfl (ah (aR (aq ?_)))
        refine aF ?_ ?_
        ·exact aa (rfl)
        ·refine aB ?_ ?_
         ·exact aa (rfl)
         ·exact aa (rfl)
theorem Jf (o:au):Sm MV.b (uB (cm o)) (nh o):=by
 unfold uB nh
 refine aM (iJ ?_)
 refine aj (f:=fun r=>[.b r]) ?_ fun w=> ?_
 ·refine aB ?_ ?_
  ·refine aB ?_ ?_
   ·refine aB ?_ ?_
    ·exact aa (rfl)
    ·exact aa (rfl)
   ·exact aa (rfl)
  ·exact aa (rfl)
 ·refine ah (aR (aq ?_))
  refine aj (f:=fun r=>[.b r]) ?_ fun w1=> ?_
  ·refine aF ?_ ?_
   ·refine aB ?_ ?_
    ·refine aB ?_ ?_
     ·refine aB ?_ ?_
      ·refine aB ?_ ?_
       ·refine aj (DP o) fun rA=> ?_
        refine aM (iJ ?_)
        exact aa (rfl)
       ·exact aa (rfl)
      ·exact aa (rfl)
     ·exact aa (rfl)
    ·exact aa (rfl)
   ·exact aa (rfl)
  ·refine ah (aR (aq ?_))
   exact aa (rfl)
theorem Bq (x:Int):Sm MV.b (nF (.i .i64 x)) (nx x):=by
 unfold nF nx
 refine aI ?_
 exact aa (rfl)
theorem xT (x:Int) (y:Int):Sm (MV.i .i64) (kV (.i .i64 x) (.i .i64 y)) (jb x y):=by
 unfold kV jb
 refine aI (aI ?_)
 refine aj (Bq x) fun rA=> ?_
 refine aR ?_
 refine aj (Bq y) fun aX=> ?_
 refine aR ?_
 refine aF ?_ ?_
 ·refine aF ?_ ?_
  ·exact aa (rfl)
  ·exact aa (rfl)
 ·refine aF ?_ ?_
  ·exact aa (rfl)
  ·refine aB ?_ ?_
   ·exact aa (rfl)
   ·refine aB ?_ ?_
    ·exact aa (rfl)
    ·exact aa (rfl)
theorem Ai (x:af) (dY:Int):Sm (MV.i .i64) (jI (aJ x) (.i .i64 dY)) (cX x dY):=by
 unfold jI cX
 refine aM (b6 (aI ?_))
 refine aj (xT x.Client dY) fun rA=> ?_
 refine aI ?_
 exact aa (rfl)
theorem lV (x:List af) (target:Int) (cmp:af→Int→Option Int) {KE:Nat} {oa:List MV} (Dk:gv KE=false) (eU: ∀(u0:af) (u1:Int),Sm (MV.i .i64) (cA KE ([aJ u0,.i .i64 u1]++oa)) (cmp u0 u1)):Sm (fun r=> .cN [.i .i64 r.1,.b r.2]) (cK (.list (x.map aJ)) (.i .i64 target) (.func KE oa)) (cJ x target cmp):=by
 unfold cK cJ
 refine aZ (aI (tB (aH (n:=x.length) (by simp only [List.length_map,List.length_cons,List.length_nil]) ?_)))
 refine aj (bM (fun r=>[.i .i64 r.1,.i .i64 r.2]) (fun r=>(2,[.i .i64 r])) (rfl) fun st=> ?_) fun w=> ?_
 ·unfold fB
  refine Ag ?_
  refine aB ?_ ?_
  ·refine cI ?_
   refine bj (f:=aJ) (rfl) fun y=> ?_
   refine aM (b6 (tA (bP (by rw [Dk];rfl) ?_)))
   refine aj (eU y target) fun rA=> ?_
   refine aI ?_
   refine aj (f:=(fun r=>(0,[.i .i64 r.1,.i .i64 r.2]))) ?_ fun w1=> ?_
   ·refine aB ?_ ?_
    ·exact aa (rfl)
    ·exact aa (rfl)
   ·refine bP rfl (Ag ?_)
    exact aa (rfl)
  ·exact aa (rfl)
 ·refine bP rfl (ah (aI (aq ?_)))
  refine aj (f:=fun r=>[.i .i64 r.1,.b r.2]) ?_ fun w2=> ?_
  ·refine aB ?_ ?_
   ·refine bj (f:=aJ) (rfl) fun y1=> ?_
    refine aM (b6 (tA (bP (by rw [Dk];rfl) ?_)))
    refine aj (eU y1 target) fun aX=> ?_
    refine aI ?_
    exact aa (rfl)
   ·exact aa (rfl)
  ·refine Bp ?_
   exact aa (rfl)
theorem uK (rA:ak) (dY:Int):Sm (fun r=> .cN [.i .i64 r.1,.b r.2]) (jj (cT rA) (.i .i64 dY)) (eY rA dY):=by
 unfold jj eY
 refine aM (eK (aI ?_))
 refine aj (lV rA.Seen dY cX (KE:=120) (oa:=[]) rfl (fun u2 u3=>Sm.at (fR _ _) (Ai u2 u3))) fun aX=> ?_
 refine cy (Bp ?_)
 exact aa (rfl)
theorem Aj (rA:ak) (dY:Int):Sm (fun r=> .cN [aJ r.1,.b r.2]) (oz (cT rA) (.i .i64 dY)) (mN rA dY):=by
 unfold oz mN
 refine aM (eK (aI ?_))
 refine aj (uK rA dY) fun aX=> ?_
 refine cy (Bp ?_)
 refine aF ?_ ?_
 ·exact aa (rfl)
 ·refine bj (f:=aJ) (rfl) fun y=> ?_
  refine aM (b6 ?_)
  exact aa (rfl)
theorem Cu (rA:ak) (o:au):Sm (fun r=> .cN [aJ r.1,.b r.2]) (lC (cT rA) (cm o)) (jc rA o):=by
 unfold lC jc
 refine aM (eK (aM (iJ ?_)))
 refine aj (Aj rA o.Client) fun aX=> ?_
 refine cy (ah (aM (b6 (ah (aR (aq ?_))))))
 refine aj (Jf o) fun da=> ?_
 refine aR ?_
 refine aj (f:=(Sum.elim (fun r=>(0,(v2 r))) (fun r=>(1,(v5 r))))) ?_ fun w=> ?_
 ·refine aF ?_ ?_
  ·exact aa (rfl)
  ·refine aj (f:=fun r=>[.b r]) ?_ fun w1=> ?_
   ·refine aF ?_ ?_
    ·exact aa (rfl)
    ·exact aa (rfl)
   ·refine ah (aR (aq ?_))
    refine aF ?_ ?_
    ·exact aa (rfl)
    ·refine aj (f:=fun r=>[.b r]) ?_ fun w2=> ?_
     ·refine aF ?_ ?_
      ·exact aa (rfl)
      ·exact aa (rfl)
     ·refine ah (aR (aq ?_))
      refine aj (f:=(Sum.elim (fun r=>(0,(v2 r))) (fun r=>(1,(v5 r))))) ?_ fun w3=> ?_
      ·refine aF ?_ ?_
       ·exact aa (rfl)
       ·refine aj (f:=fun r=>[.b r]) ?_ fun w4=> ?_
        ·refine aF ?_ ?_
         ·refine aH (n:=rA.Seen.length) (by simp only [List.length_map,List.length_cons,List.length_nil]) ?_
          exact aa (rfl)
         ·exact aa (rfl)
        ·refine ah (aR (aq ?_))
         refine aF ?_ ?_
         ·exact aa (rfl)
         ·exact aa (rfl)
      ·rcases w3 with p2|p3
       ·refine eE rfl (ah (aI (ah (aI (ah (aI (ah (bn (ah (aI (ah ?_)))))))))))
        refine aZ (b6 ?_)
        exact aa (rfl)
       ·refine eF rfl (bP rfl (ah (aI (ah (aI (ah (aI (ah (bn (ah (aI ?_)))))))))))
        refine HH ?_
        exact aa (rfl)
 ·rcases w with p4|p5
  ·refine eE rfl (ah (aI (ah (aI (ah (aI (ah (bn (ah (aI (ah ?_)))))))))))
   refine aZ (b6 ?_)
   exact aa (rfl)
  ·refine eF rfl (bP rfl (ah (aI (ah (aI (ah (aI (ah (bn (ah (aI ?_)))))))))))
   refine HH ?_
   exact aa (rfl)
theorem Ak (w:ai):Sm (fun r=> .ey ((fun _=> .cN []) r.1) (bD r.2)) (jJ (bD w)) (mO w):=by
 unfold jJ mO
 refine ay ?_
 exact aa (rfl)
theorem Br (x:av) (id:Int):Sm (MV.i .i64) (kq (aN x) (.i .i64 id)) (di x id):=by
 unfold kq di
 refine aM (wF (aI ?_))
 refine aj (xT x.Id id) fun rA=> ?_
 refine aI ?_
 exact aa (rfl)
theorem kY (x:List av) (target:Int) (cmp:av→Int→Option Int) {KE:Nat} {oa:List MV} (Dk:gv KE=false) (eL: ∀(u0:av) (u1:Int),Sm (MV.i .i64) (ch KE ([aN u0,.i .i64 u1]++oa)) (cmp u0 u1)):Sm (fun r=> .cN [.i .i64 r.1,.b r.2]) (cB (.list (x.map aN)) (.i .i64 target) (.func KE oa)) (cz x target cmp):=by
 unfold cB cz
 refine aZ (aI (tB (aH (n:=x.length) (by simp only [List.length_map,List.length_cons,List.length_nil]) ?_)))
 refine aj (bM (fun r=>[.i .i64 r.1,.i .i64 r.2]) (fun r=>(2,[.i .i64 r])) (rfl) fun st=> ?_) fun w=> ?_
 ·unfold eS
  refine Ag ?_
  refine aB ?_ ?_
  ·refine cI ?_
   refine bj (f:=aN) (rfl) fun y=> ?_
   refine aM (wF (tA (bP (by rw [Dk];rfl) ?_)))
   refine aj (eL y target) fun rA=> ?_
   refine aI ?_
   refine aj (f:=(fun r=>(0,[.i .i64 r.1,.i .i64 r.2]))) ?_ fun w1=> ?_
   ·refine aB ?_ ?_
    ·exact aa (rfl)
    ·exact aa (rfl)
   ·refine bP rfl (Ag ?_)
    exact aa (rfl)
  ·exact aa (rfl)
 ·refine bP rfl (ah (aI (aq ?_)))
  refine aj (f:=fun r=>[.i .i64 r.1,.b r.2]) ?_ fun w2=> ?_
  ·refine aB ?_ ?_
   ·refine bj (f:=aN) (rfl) fun y1=> ?_
    refine aM (wF (tA (bP (by rw [Dk];rfl) ?_)))
    refine aj (eL y1 target) fun aX=> ?_
    refine aI ?_
    exact aa (rfl)
   ·exact aa (rfl)
  ·refine Bp ?_
   exact aa (rfl)
theorem mI (b:aC) (id:Int):Sm (fun r=> .cN [.i .i64 r.1,.b r.2]) (fS (dh b) (.i .i64 id)) (dX b id):=by
 unfold fS dX
 refine aM (Ah (aI ?_))
 refine aj (kY b.L id di (KE:=144) (oa:=[]) rfl (fun u2 u3=>Sm.at (fK _ _) (Br u2 u3))) fun rA=> ?_
 refine cy (Bp ?_)
 exact aa (rfl)
theorem So (b:aC) (id:Int):Sm MV.b (yH (dh b) (.i .i64 id)) (uq b id):=by
 unfold yH uq
 refine aM (Ah (aI ?_))
 refine aj (mI b id) fun rA=> ?_
 refine cy (Bp ?_)
 exact aa (rfl)
theorem wU (sA:List UInt8) (dj:List UInt8):Sm MV.b (gQ (.s sA) (.s dj)) (gK sA dj):=by
 unfold gQ gK
 refine bn (bn ?_)
 refine aj (f:=fun r=>[.b r]) ?_ fun w=> ?_
 ·refine aB ?_ ?_
  ·refine cI ?_
   exact aa (rfl)
  ·exact aa (rfl)
 ·refine ah (aR (aq ?_))
  exact aa (rfl)
theorem wV (sA:List UInt8) (dj:List UInt8):Sm (fun r=> .cN [.s r.1,.b r.2]) (gU (.s sA) (.s dj)) (gM sA dj):=by
 unfold gU gM
 refine bn (bn ?_)
 refine aj (wU sA dj) fun rA=> ?_
 refine aR ?_
 refine aF ?_ ?_
 ·exact aa (rfl)
 ·refine cI ?_
  exact aa (rfl)
theorem Bs (sA:List UInt8) (dj:List UInt8):Sm (fun r=> .cN [.s r.1,.b r.2]) (kr (.s sA) (.s dj)) (ig sA dj):=by
 unfold kr ig
 refine bn (bn ?_)
 refine aj (wV sA dj) fun rA=> ?_
 refine cy (ah (bn (ah (aR (aq ?_)))))
 exact aa (rfl)
theorem HI (c:Int):Sm MV.b (oX (.i .i32 c)) (gp c):=by
 unfold oX gp
 refine aI ?_
 refine aj (RU ([97,98,99,100,101,102,103,104,105,106,107,108,109,110,111,112,113,114,115,116,117,118,119,120,121,122,48,49,50,51,52,53,54,55,56,57,45,95]:List UInt8) c) fun rA=> ?_
 refine aR ?_
 exact aa (rfl)
theorem DQ (sA:List UInt8) (f:Int→Option Bool) (C6:Bool) {Au:Nat} {sd:List MV} (He:gv Au=false) (iD: ∀(u0:Int),Sm MV.b (iz Au ([.i .i32 u0]++sd)) (f u0)):Sm (MV.i .i64) (mE (.s sA) (.func Au sd) (.b C6)) (mC sA f C6):=by
 unfold mE mC
 refine bn (tB (aR ?_))
 refine aj (bM (fun r=>[.list r]) (Sum.elim (fun r=>(2,[])) (fun r=>(1,[.i .i64 r]))) (rfl) fun st=> ?_) fun w=> ?_
 ·unfold ik
  refine ah (aZ (aq ?_))
  refine aF ?_ ?_
  ·refine tA (bP (by rw [He];rfl) ?_)
   refine aj (iD (xb st)) fun rA=> ?_
   refine aR ?_
   refine aB ?_ ?_
   ·exact aa (rfl)
   ·exact aa (rfl)
  ·exact aa (rfl)
 ·rcases w with p1|p2
  ·refine eE rfl (aq ?_)
   exact aa (rfl)
  ·refine eF rfl (bP rfl (ah (aI (aq ?_))))
   exact aa (rfl)
theorem Bt (sA:List UInt8) (f:Int→Option Bool) {Au:Nat} {sd:List MV} (He:gv Au=false) (iD: ∀(u0:Int),Sm MV.b (iz Au ([.i .i32 u0]++sd)) (f u0)):Sm (MV.i .i64) (ku (.s sA) (.func Au sd)) (kp sA f):=by
 unfold ku kp
 refine bn (tB ?_)
 refine aj (DQ sA f true He iD) fun rA=> ?_
 refine aI ?_
 exact aa (rfl)
theorem xU (sA:List UInt8) (f:Int→Option Bool) {Au:Nat} {sd:List MV} (He:gv Au=false) (iD: ∀(u0:Int),Sm MV.b (iz Au ([.i .i32 u0]++sd)) (f u0)):Sm MV.b (iA (.s sA) (.func Au sd)) (fC sA f):=by
 unfold iA fC
 refine bn (tB ?_)
 refine aj (Bt sA f He iD) fun rA=> ?_
 refine aI ?_
 exact aa (rfl)
theorem MH (sA:List UInt8):Sm MV.b (sZ (.s sA)) (pz sA):=by
 unfold sZ pz
 refine bn ?_
 refine aj (f:=fun r=>[.b r]) ?_ fun w=> ?_
 ·refine aF ?_ ?_
  ·refine aB ?_ ?_
   ·refine aj (acx sA ([97,98,99,100,101,102,103,104,105,106,107,108,109,110,111,112,113,114,115,116,117,118,119,120,121,122,48,49,50,51,52,53,54,55,56,57,45,95]:List UInt8)) fun rA=> ?_
    refine bn ?_
    refine aB ?_ ?_
    ·refine aj (xU sA gp (Au:=237) (sd:=[]) rfl (fun u1=>Sm.at (pZ _) (HI u1))) fun aX=> ?_
     refine aR ?_
     exact aa (rfl)
    ·exact aa (rfl)
   ·exact aa (rfl)
  ·exact aa (rfl)
 ·refine ah (aR (aq ?_))
  exact aa (rfl)
theorem KF (sA:List UInt8):Sm MV.b (qB (.s sA)) (lr sA):=by
 unfold qB lr
 refine bn ?_
 refine aj (MH sA) fun rA=> ?_
 refine aR ?_
 exact aa (rfl)
theorem vZ (sA:List (List UInt8)) (f:(List UInt8)→Option Bool) {Au:Nat} {sd:List MV} (He:gv Au=false) (iK: ∀(u0:List UInt8),Sm MV.b (fb Au ([.s u0]++sd)) (f u0)):Sm (MV.i .i64) (gj (.list (sA.map MV.s)) (.func Au sd)) (ga sA f):=by
 unfold gj ga
 refine aZ (tB (aH (n:=sA.length) (by simp only [List.length_map,List.length_cons,List.length_nil]) ?_))
 refine aj (bM (fun r=>[.i .i64 r]) (Sum.elim (fun r=>(2,[])) (fun r=>(1,[.i .i64 r]))) (rfl) fun st=> ?_) fun w=> ?_
 ·unfold dR
  refine ah (aI (aq ?_))
  refine aB ?_ ?_
  ·refine bj (f:=MV.s) (rfl) fun y=> ?_
   refine bn (tA (bP (by rw [He];rfl) ?_))
   refine aj (iK y) fun rA=> ?_
   refine aR ?_
   refine aF ?_ ?_
   ·exact aa (rfl)
   ·exact aa (rfl)
  ·exact aa (rfl)
 ·rcases w with p1|p2
  ·refine eE rfl (aq ?_)
   exact aa (rfl)
  ·refine eF rfl (bP rfl (ah (aI (aq ?_))))
   exact aa (rfl)
theorem sr (sA:List (List UInt8)) (f:(List UInt8)→Option Bool) {Au:Nat} {sd:List MV} (He:gv Au=false) (iK: ∀(u0:List UInt8),Sm MV.b (fb Au ([.s u0]++sd)) (f u0)):Sm MV.b (eP (.list (sA.map MV.s)) (.func Au sd)) (dE sA f):=by
 unfold eP dE
 refine aZ (tB ?_)
 refine aj (vZ sA f He iK) fun rA=> ?_
 refine aI ?_
 exact aa (rfl)
theorem oJ (p:List UInt8):Sm (fun r=> .cN [.list (r.1.map MV.s),.b r.2]) (jL (.s p)) (gw p):=by
 unfold jL gw
 refine bn ?_
 refine aj (Bs p ([47]:List UInt8)) fun rA=> ?_
 refine cy (ah (bn (ah (aR (aq ?_)))))
 refine aj (f:=fun r=>[.b r]) ?_ fun w=> ?_
 ·refine aF ?_ ?_
  ·exact aa (rfl)
  ·exact aa (rfl)
 ·refine ah (aR (aq ?_))
  refine aF ?_ ?_
  ·exact aa (rfl)
  ·refine aB ?_ ?_
   ·exact aa (rfl)
   ·refine aj (YJ rA.1 ([47]:List UInt8)) fun aX=> ?_
    refine rf ?_
    refine aj (f:=fun r=>[.list (r.1.map MV.s),.b r.2.1,.list (r.2.2.map MV.s)]) ?_ fun w1=> ?_
    ·refine aH (n:=aX.length) (by simp only [List.length_map,List.length_cons,List.length_nil]) ?_
     refine aB ?_ ?_
     ·refine aj (sr aX lr (Au:=196) (sd:=[]) rfl (fun u1=>Sm.at (mS _) (KF u1))) fun da=> ?_
      refine aR ?_
      exact aa (rfl)
     ·exact aa (rfl)
    ·refine ah (aZ (ah (aR (ah (aZ (aq ?_))))))
     exact aa (rfl)
theorem wG (x:List UInt8):Sm MV.b (j8 (.s x)) (jW x):=by
 unfold j8 jW
 refine bn ?_
 exact aa (rfl)
theorem Bu (x:List UInt8) (y:List UInt8):Sm (MV.i .i64) (kv (.s x) (.s y)) (il x y):=by
 unfold kv il
 refine bn (bn ?_)
 refine aj (wG x) fun rA=> ?_
 refine aR ?_
 refine aj (wG y) fun aX=> ?_
 refine aR ?_
 refine aF ?_ ?_
 ·refine aF ?_ ?_
  ·exact aa (rfl)
  ·exact aa (rfl)
 ·refine aF ?_ ?_
  ·exact aa (rfl)
  ·refine aF ?_ ?_
   ·exact aa (rfl)
   ·refine aF ?_ ?_
    ·exact aa (rfl)
    ·exact aa (rfl)
theorem xV (s1:List (List UInt8)) (s2:List (List UInt8)):Sm (MV.i .i64) (iB (.list (s1.map MV.s)) (.list (s2.map MV.s))) (fD s1 s2):=by
 unfold iB fD
 refine aZ (aZ (aH (n:=s1.length) (by simp only [List.length_map,List.length_cons,List.length_nil]) ?_))
 refine aj (bM (fun r=>[.i .i64 r]) (Sum.elim (fun r=>(2,[])) (fun r=>(1,[.i .i64 r]))) (rfl) fun st=> ?_) fun w=> ?_
 ·unfold eH
  refine ah (aI (aq ?_))
  refine aB ?_ ?_
  ·refine bj (f:=MV.s) (rfl) fun y=> ?_
   refine bn (aH (n:=s2.length) (by simp only [List.length_map,List.length_cons,List.length_nil]) ?_)
   refine aB ?_ ?_
   ·exact aa (rfl)
   ·refine bj (f:=MV.s) (rfl) fun y1=> ?_
    refine bn ?_
    refine aj (Bu y y1) fun rA=> ?_
    refine aI ?_
    refine aF ?_ ?_
    ·exact aa (rfl)
    ·exact aa (rfl)
  ·exact aa (rfl)
 ·rcases w with p1|p2
  ·refine eE rfl (aq (aH (n:=s1.length) (by simp only [List.length_map,List.length_cons,List.length_nil]) (aH (n:=s2.length) (by simp only [List.length_map,List.length_cons,List.length_nil]) ?_)))
   refine aB ?_ ?_
   ·exact aa (rfl)
   ·exact aa (rfl)
  ·refine eF rfl (bP rfl (ah (aI (aq ?_))))
   exact aa (rfl)
theorem OV (p:List UInt8) (q:List UInt8):Sm MV.b (vH (.s p) (.s q)) (rn p q):=by
 unfold vH rn
 refine bn (bn ?_)
 refine aj (oJ p) fun rA=> ?_
 refine cy (HH ?_)
 refine aj (oJ q) fun aX=> ?_
 refine cy (HH ?_)
 refine aj (f:=fun r=>[.b r]) ?_ fun w=> ?_
 ·refine aF ?_ ?_
  ·refine aF ?_ ?_
   ·refine aj (xV rA.1 aX.1) fun da=> ?_
    refine aI ?_
    exact aa (rfl)
   ·exact aa (rfl)
  ·exact aa (rfl)
 ·refine ah (aR (aq ?_))
  exact aa (rfl)
theorem Al (n:ae) (p:List UInt8):Sm (MV.i .i64) (jM (aL n) (.s p)) (cg n p):=by
 unfold jM cg
 refine aM (gm (bn ?_))
 refine aB ?_ ?_
 ·exact aa (rfl)
 ·refine aj (OV n.Path p) fun rA=> ?_
  refine aR ?_
  refine aF ?_ ?_
  ·exact aa (rfl)
  ·exact aa (rfl)
theorem kZ (x:List ae) (target:List UInt8) (cmp:ae→(List UInt8)→Option Int) {KE:Nat} {oa:List MV} (Dk:gv KE=false) (eM: ∀(u0:ae) (u1:List UInt8),Sm (MV.i .i64) (cj KE ([aL u0,.s u1]++oa)) (cmp u0 u1)):Sm (fun r=> .cN [.i .i64 r.1,.b r.2]) (cC (.list (x.map aL)) (.s target) (.func KE oa)) (dv x target cmp):=by
 unfold cC dv
 refine aZ (bn (tB (aH (n:=x.length) (by simp only [List.length_map,List.length_cons,List.length_nil]) ?_)))
 refine aj (bM (fun r=>[.i .i64 r.1,.i .i64 r.2]) (fun r=>(2,[.i .i64 r])) (rfl) fun st=> ?_) fun w=> ?_
 ·unfold eT
  refine Ag ?_
  refine aB ?_ ?_
  ·refine cI ?_
   refine bj (f:=aL) (rfl) fun y=> ?_
   refine aM (gm (tA (bP (by rw [Dk];rfl) ?_)))
   refine aj (eM y target) fun rA=> ?_
   refine aI ?_
   refine aj (f:=(fun r=>(0,[.i .i64 r.1,.i .i64 r.2]))) ?_ fun w1=> ?_
   ·refine aB ?_ ?_
    ·exact aa (rfl)
    ·exact aa (rfl)
   ·refine bP rfl (Ag ?_)
    exact aa (rfl)
  ·exact aa (rfl)
 ·refine bP rfl (ah (aI (aq ?_)))
  refine aj (f:=fun r=>[.i .i64 r.1,.b r.2]) ?_ fun w2=> ?_
  ·refine aB ?_ ?_
   ·refine bj (f:=aL) (rfl) fun y1=> ?_
    refine aM (gm (tA (bP (by rw [Dk];rfl) ?_)))
    refine aj (eM y1 target) fun aX=> ?_
    refine aI ?_
    exact aa (rfl)
   ·exact aa (rfl)
  ·refine Bp ?_
   exact aa (rfl)
theorem uL (sA:ax) (p:List UInt8):Sm (fun r=> .cN [.i .i64 r.1,.b r.2]) (jk (b9 sA) (.s p)) (eg sA p):=by
 unfold jk eg
 refine aM (ah (aZ (aq (bn ?_))))
 refine aj (kZ sA.L p cg (KE:=245) (oa:=[]) rfl (fun u2 u3=>Sm.at (fF _ _) (Al u2 u3))) fun rA=> ?_
 refine cy (Bp ?_)
 exact aa (rfl)
theorem rX (p:List UInt8):Sm MV.b (kW (.s p)) (jF p):=by
 unfold kW jF
 refine bn ?_
 refine aj (oJ p) fun rA=> ?_
 refine cy (HH ?_)
 exact aa (rfl)
theorem qI (sA:List UInt8) (c:Int):Sm (MV.i .i64) (ej (.s sA) (.i .u8 c)) (ei sA c):=by
 unfold ej ei
 refine bn (aI ?_)
 refine aj (bM (fun r=>[.i .i64 r]) (Sum.elim (fun r=>(2,[])) (fun r=>(1,[.i .i64 r]))) (rfl) fun st=> ?_) fun w=> ?_
 ·unfold dL
  refine ah (aI (aq ?_))
  refine aB ?_ ?_
  ·refine cI ?_
   refine aB ?_ ?_
   ·exact aa (rfl)
   ·exact aa (rfl)
  ·exact aa (rfl)
 ·rcases w with p1|p2
  ·refine eE rfl (aq ?_)
   exact aa (rfl)
  ·refine eF rfl (bP rfl (ah (aI (aq ?_))))
   exact aa (rfl)
theorem tM (sep:List UInt8):Sm (fun r=> .cN [.i .u32 r.1,.i .u32 r.2]) (fc (.s sep)) (iI sep):=by
 unfold fc iI
 refine bn ?_
 refine aj (bM (fun r=>[.i .u32 r.1,.i .i64 r.2]) (fun r=>(2,[.i .u32 r])) (rfl) fun st=> ?_) fun w=> ?_
 ·unfold kP
  refine Ag ?_
  refine aB ?_ ?_
  ·refine cI ?_
   exact aa (rfl)
  ·exact aa (rfl)
 ·refine bP rfl (ah (aI (aq ?_)))
  refine aj (bM (fun r=>[.i .u32 r.1,.i .u32 r.2.1,.i .i64 r.2.2]) (fun r=>(4,[.i .u32 r])) (rfl) fun ec=> ?_) fun w1=> ?_
  ·unfold kQ
   refine wF ?_
   refine aB ?_ ?_
   ·exact YF
   ·exact aa (rfl)
  ·refine bP rfl (ah (aI (aq ?_)))
   exact aa (rfl)
theorem nO (a:List UInt8) (a1:List UInt8):Sm (MV.i .i64) (dk (.s a) (.s a1)) (eI a a1):=by
 unfold dk eI
 refine bn (bn ?_)
 refine aj (tM a1) fun rA=> ?_
 refine cy (Ag ?_)
 refine aj (bM (fun r=>[.i .u32 r.1,.i .i64 r.2]) (fun r=>(2,[.i .u32 r])) (rfl) fun st=> ?_) fun w=> ?_
 ·unfold gx
  refine Ag ?_
  refine aB ?_ ?_
  ·refine cI ?_
   exact aa (rfl)
  ·exact aa (rfl)
 ·refine bP rfl (ah (aI (aq ?_)))
  refine aj (f:=fun r=>[.b r]) ?_ fun w1=> ?_
  ·refine aB ?_ ?_
   ·refine cI ?_
    exact aa (rfl)
   ·exact aa (rfl)
  ·refine ah (aR (aq ?_))
   refine aF ?_ ?_
   ·exact aa (rfl)
   ·refine aj (bM (fun r=>[.i .u32 r.1,.i .i64 r.2]) (Sum.elim (fun r=>(4,[])) (fun r=>(1,[.i .i64 r]))) (rfl) fun ec=> ?_) fun w2=> ?_
    ·unfold gy
     refine Ag ?_
     refine aB ?_ ?_
     ·refine cI (cI ?_)
      refine aj (f:=fun r=>[.b r]) ?_ fun w3=> ?_
      ·refine aB ?_ ?_
       ·refine cI ?_
        exact aa (rfl)
       ·exact aa (rfl)
      ·refine ah (aR (aq ?_))
       refine aF ?_ ?_
       ·exact aa (rfl)
       ·exact aa (rfl)
     ·exact aa (rfl)
    ·rcases w2 with p2|p3
     ·refine eE rfl (aq ?_)
      exact aa (rfl)
     ·refine eF rfl (bP rfl (ah (aI (aq ?_))))
      exact aa (rfl)
theorem Bv (sA:List UInt8) (substr:List UInt8):Sm (MV.i .i64) (kz (.s sA) (.s substr)) (im sA substr):=by
 unfold kz im
 refine bn (bn ?_)
 refine aB ?_ ?_
 ·exact aa (rfl)
 ·refine aB ?_ ?_
  ·refine cI ?_
   refine aj (qI sA ((substr.getD (Int.toNat 0) 0).toNat:Int)) fun rA=> ?_
   refine aI ?_
   exact aa (rfl)
  ·refine aB ?_ ?_
   ·refine aB ?_ ?_
    ·exact aa (rfl)
    ·exact aa (rfl)
   ·refine aB ?_ ?_
    ·exact aa (rfl)
    ·refine aj (nO sA substr) fun aX=> ?_
     refine aI ?_
     exact aa (rfl)
theorem Dl (p:List UInt8):Sm (fun r=> .cN [.s r.1,.i .i64 r.2]) (pH (.s p)) (ni p):=by
 unfold pH ni
 refine bn ?_
 refine aj (rX p) fun rA=> ?_
 refine aR ?_
 refine aF ?_ ?_
 ·exact aa (rfl)
 ·refine aB ?_ ?_
  ·exact aa (rfl)
  ·refine aj (Bv p ([47]:List UInt8)) fun aX=> ?_
   refine aI (cI ?_)
   exact aa (rfl)
theorem qe (sA:ax) (p:List UInt8):Sm (fun r=> .cN [.i .i64 r.1,.i .i64 r.2]) (ib (b9 sA) (.s p)) (fQ sA p):=by
 unfold ib fQ
 refine aM (ah (aZ (aq (bn ?_))))
 refine aj (rX p) fun rA=> ?_
 refine aR ?_
 refine aF ?_ ?_
 ·exact aa (rfl)
 ·refine aj (uL sA p) fun aX=> ?_
  refine cy (Bp ?_)
  refine aF ?_ ?_
  ·exact aa (rfl)
  ·exact aa (rfl)
theorem Cv (sA:ax) (p:List UInt8):Sm (fun r=> .cN [aL r.1,.i .i64 r.2]) (qS (b9 sA) (.s p)) (ot sA p):=by
 unfold qS ot
 refine aM (ah (aZ (aq (bn ?_))))
 refine aj (qe sA p) fun rA=> ?_
 refine cy (Ag ?_)
 refine aF ?_ ?_
 ·exact aa (rfl)
 ·refine bj (f:=aL) (rfl) fun y=> ?_
  refine aM (gm ?_)
  exact aa (rfl)
theorem Gn (c:List UInt8) (c1:Bool) (c2:ax) (c3:List UInt8) (c4:Int):Sm (MV.i .i64) (nI (.rp [.s c]) (.rp [.b c1]) (.rp [.list (c2.L.map aL)]) (.rp [.s c3]) (.rp [.i .i64 c4])) (gz c c1 c2 c3 c4):=by
 unfold nI gz
 refine IH (ah (bn (aq (IH (ah (aR (aq (IH (ah (aZ (aq ?_)))))))))))
 refine IH (ah (bn (aq (IH (ah (aI (aq ?_)))))))
 refine aj (rX c) fun rA=> ?_
 refine aR ?_
 refine aF ?_ ?_
 ·exact aa (rfl)
 ·refine aF ?_ ?_
  ·exact aa (rfl)
  ·refine aj (Dl c) fun aX=> ?_
   refine cy (ah (bn (ah (aI (aq ?_)))))
   refine aj (Cv c2 aX.1) fun da=> ?_
   refine cy (ah (aM (gm (ah (aI (aq ?_))))))
   refine aF ?_ ?_
   ·exact aa (rfl)
   ·refine aF ?_ ?_
    ·exact aa (rfl)
    ·refine aB ?_ ?_
     ·exact aa (rfl)
     ·refine aB ?_ ?_
      ·exact aa (rfl)
      ·refine aH (n:=c2.L.length) (by simp only [List.length_map,List.length_cons,List.length_nil]) ?_
       refine aB ?_ ?_
       ·exact aa (rfl)
       ·exact aa (rfl)
theorem KG (sA:ax) (p:List UInt8) (value:List UInt8) (owner:Int):Sm (fun r=> .cN [b9 r.1,.i .i64 r.2]) (qC (b9 sA) (.s p) (.s value) (.i .i64 owner)) (lu sA p value owner):=by
 unfold qC lu
 refine aM (ah (aZ (aq (bn (bn (aI ?_))))))
 refine aj (uL sA p) fun rA=> ?_
 refine cy (Bp ?_)
 refine aj (Gn p rA.2 sA value owner) fun aX=> ?_
 refine aI ?_
 refine aF ?_ ?_
 ·exact aa (rfl)
 ·refine D6 ?_
  refine aj (qy (size:=4) (f:=aL) (fun _=>rfl) sA.L) fun da=> ?_
  refine rf ?_
  refine aj (Fk (f:=aL) da rA.1 ([(⟨p,value,0,owner⟩:ae)]:List ae)) fun n0=> ?_
  refine rf ?_
  exact aa (rfl)
theorem mV (w:ai) (kind:Int):Sm (fun r=> .ey ((fun _=> .cN []) r.1) (bD r.2)) (e8 (bD w) (.i .i64 kind)) (dw w kind):=by
 unfold e8 dw
 refine aI (ay ?_)
 refine aj (f:=(fun r=>(0,(v1 r)))) ?_ fun w1=> ?_
 ·refine aB ?_ ?_
  ·refine aH (n:=w.l.length) (by simp only [List.length_map,List.length_cons,List.length_nil]) (aH (n:=([(⟨kind,w.o.Path⟩:aE)]:List aE).length) (by simp only [List.length_map,List.length_cons,List.length_nil]) (cI ?_))
   exact aa (by simp [bD,ar,v1])
  ·exact aa (rfl)
 ·refine bP rfl (ay ?_)
  exact aa (rfl)
theorem Bw (w:ai):Sm (fun r=> .ey ((fun _=> .cN []) r.1) (bD r.2)) (kA (bD w)) (iq w):=by
 unfold kA iq
 refine ay ?_
 refine aj (f:=fun r=>[.b r]) ?_ fun w1=> ?_
 ·refine aF ?_ ?_
  ·refine aj (So w.r.br w.o.Session) fun rA=> ?_
   refine aR ?_
   exact aa (rfl)
  ·exact aa (rfl)
 ·refine ah (aR (aq ?_))
  refine aF ?_ ?_
  ·exact aa (rfl)
  ·refine aj (KG w.r.Shelf w.o.Path w.o.Value w.o.Session) fun aX=> ?_
   refine cy (ah (aM (ah (aZ (aq (ah (aI (aq ?_))))))))
   refine aj (mV (⟨(⟨aX.1,w.r.br,w.r.bg,w.r.Seen⟩:ak),w.o,(⟨w.x.Client,w.x.Seq,aX.2,w.x.Value,w.x.Version,w.x.Names⟩:af),w.l⟩:ai) 1) fun da=> ?_
   refine IG (ay ?_)
   exact aa (rfl)
theorem Gp (w:ai):Sm (fun r=> .ey ((fun _=> .cN []) r.1) (bD r.2)) (nJ (bD w)) (kR w):=by
 unfold nJ kR
 refine ay ?_
 refine aj (Cv w.r.Shelf w.o.Path) fun rA=> ?_
 refine cy (ah (aM (gm (ah (aI (aq ?_))))))
 exact aa (rfl)
theorem pN (sA:ax) (p:List UInt8) (version:Int):Sm (fun r=> .cN [.i .i64 r.1,.i .i64 r.2]) (fH (b9 sA) (.s p) (.i .i64 version)) (eh sA p version):=by
 unfold fH eh
 refine aM (ah (aZ (aq (bn (aI ?_)))))
 refine aj (qe sA p) fun rA=> ?_
 refine cy (Ag ?_)
 refine aj (f:=fun r=>[.b r]) ?_ fun w=> ?_
 ·refine aB ?_ ?_
  ·refine aF ?_ ?_
   ·refine bj (f:=aL) (rfl) fun y=> ?_
    refine aM (gm ?_)
    exact aa (rfl)
   ·exact aa (rfl)
  ·exact aa (rfl)
 ·refine ah (aR (aq ?_))
  refine aF ?_ ?_
  ·exact aa (rfl)
  ·exact aa (rfl)
theorem Sp (sA:ax) (p:List UInt8) (value:List UInt8) (version:Int):Sm (fun r=> .cN [b9 r.1,.i .i64 r.2]) (yI (b9 sA) (.s p) (.s value) (.i .i64 version)) (ur sA p value version):=by
 unfold yI ur
 refine aM (ah (aZ (aq (bn (bn (aI ?_))))))
 refine aj (pN sA p version) fun rA=> ?_
 refine cy (Ag ?_)
 refine aF ?_ ?_
 ·exact aa (rfl)
 ·refine aB ?_ ?_
  ·exact aa (rfl)
  ·refine bj (f:=aL) (rfl) fun y=> ?_
   refine aM (gm ?_)
   refine aB ?_ ?_
   ·exact aa (rfl)
   ·refine aj (qy (size:=4) (f:=aL) (fun _=>rfl) sA.L) fun aX=> ?_
    refine rf ?_
    refine bj (f:=aL) (rfl) fun y1=> ?_
    refine aM (gm ?_)
    refine bj (f:=aL) (by simp only [List.map_replicate,List.map_append,List.map_cons,List.map_nil,List.map_take,List.map_drop,List.map_set]) fun y2=> ?_
    refine aM (gm ?_)
    refine bj (f:=aL) (by simp only [List.map_replicate,List.map_append,List.map_cons,List.map_nil,List.map_take,List.map_drop,List.map_set]) fun y3=> ?_
    refine aM (gm ?_)
    exact aa (by simp [ml])
theorem Gq (w:ai):Sm (fun r=> .ey ((fun _=> .cN []) r.1) (bD r.2)) (nK (bD w)) (kS w):=by
 unfold nK kS
 refine ay ?_
 refine aj (Sp w.r.Shelf w.o.Path w.o.Value w.o.Version) fun rA=> ?_
 refine cy (ah (aM (ah (aZ (aq (ah (aI (aq ?_))))))))
 refine aj (mV (⟨(⟨rA.1,w.r.br,w.r.bg,w.r.Seen⟩:ak),w.o,(⟨w.x.Client,w.x.Seq,rA.2,w.x.Value,w.x.Version,w.x.Names⟩:af),w.l⟩:ai) 2) fun aX=> ?_
 refine IG (ay ?_)
 refine aj (f:=(fun r=>(0,(v1 r)))) ?_ fun w1=> ?_
 ·refine aB ?_ ?_
  ·refine aj (Cv aX.2.r.Shelf aX.2.o.Path) fun da=> ?_
   refine cy (ah (aM (gm (ah (aI (aq ?_))))))
   exact aa (rfl)
  ·exact aa (rfl)
 ·refine bP rfl (ay ?_)
  exact aa (rfl)
theorem rY (s1:List (List UInt8)) (s2:List (List UInt8)):Sm MV.b (gE (.list (s1.map MV.s)) (.list (s2.map MV.s))) (eZ s1 s2):=by
 unfold gE eZ
 refine aZ (aZ (aH (n:=s1.length) (by simp only [List.length_map,List.length_cons,List.length_nil]) (aH (n:=s2.length) (by simp only [List.length_map,List.length_cons,List.length_nil]) ?_)))
 refine aF ?_ ?_
 ·exact aa (rfl)
 ·refine aH (n:=s1.length) (by simp only [List.length_map,List.length_cons,List.length_nil]) ?_
  refine aj (bM (fun r=>[.i .i64 r]) (Sum.elim (fun r=>(2,[])) (fun r=>(1,[.b r]))) (rfl) fun st=> ?_) fun w=> ?_
  ·unfold ir
   refine ah (aI (aq ?_))
   refine aB ?_ ?_
   ·refine bj (f:=MV.s) (rfl) fun y=> ?_
    refine bn ?_
    refine bj (f:=MV.s) (rfl) fun y1=> ?_
    refine bn ?_
    refine aF ?_ ?_
    ·exact aa (rfl)
    ·exact aa (rfl)
   ·exact aa (rfl)
  ·rcases w with p1|p2
   ·refine eE rfl (aq ?_)
    exact aa (rfl)
   ·refine eF rfl (bP rfl (ah (aR (aq ?_))))
    exact aa (rfl)
theorem Gr (p:List UInt8) (q:List UInt8):Sm MV.b (rP (.s p) (.s q)) (mP p q):=by
 unfold rP mP
 refine bn (bn ?_)
 refine aj (oJ p) fun rA=> ?_
 refine cy (HH ?_)
 refine aj (oJ q) fun aX=> ?_
 refine cy (HH ?_)
 refine aj (f:=fun r=>[.b r]) ?_ fun w=> ?_
 ·refine aF ?_ ?_
  ·refine aF ?_ ?_
   ·refine aH (n:=aX.1.length) (by simp only [List.length_map,List.length_cons,List.length_nil]) (aH (n:=rA.1.length) (by simp only [List.length_map,List.length_cons,List.length_nil]) ?_)
    refine aB ?_ ?_
    ·refine aH (n:=rA.1.length) (by simp only [List.length_map,List.length_cons,List.length_nil]) (aH (n:=aX.1.length) (by simp only [List.length_map,List.length_cons,List.length_nil]) (cI ?_))
     refine aj (by simpa using rY rA.1 (List.drop (Int.toNat 0) (List.take (Int.toNat (rA.1.length:Int)) aX.1))) fun da=> ?_
     refine aR ?_
     exact aa (rfl)
    ·exact aa (rfl)
   ·exact aa (rfl)
  ·exact aa (rfl)
 ·refine ah (aR (aq ?_))
  exact aa (rfl)
theorem KH (sA:ax) (p:List UInt8) (version:Int):Sm (fun r=> .cN [b9 r.1,.i .i64 r.2]) (qD (b9 sA) (.s p) (.i .i64 version)) (ny sA p version):=by
 unfold qD ny
 refine aM (ah (aZ (aq (bn (aI ?_)))))
 refine aj (pN sA p version) fun rA=> ?_
 refine cy (Ag ?_)
 refine aB ?_ ?_
 ·exact aa (rfl)
 ·refine aF ?_ ?_
  ·exact aa (rfl)
  ·refine aj (f:=fun r=>[.b r]) ?_ fun w=> ?_
   ·refine aH (n:=sA.L.length) (by simp only [List.length_map,List.length_cons,List.length_nil]) ?_
    refine aB ?_ ?_
    ·refine bj (f:=aL) (rfl) fun y=> ?_
     refine aM (gm ?_)
     refine aj (Gr p y.Path) fun aX=> ?_
     refine aR ?_
     exact aa (rfl)
    ·exact aa (rfl)
   ·refine ah (aR (aq ?_))
    refine aF ?_ ?_
    ·exact aa (rfl)
    ·refine aj (qy (size:=4) (f:=aL) (fun _=>rfl) sA.L) fun da=> ?_
     refine rf ?_
     refine aj (Mf (f:=aL) da rA.1 (IntKind.wrap .i64 (rA.1+1))) fun n0=> ?_
     refine rf ?_
     exact aa (rfl)
theorem Bx (w:ai):Sm (fun r=> .ey ((fun _=> .cN []) r.1) (bD r.2)) (kC (bD w)) (iu w):=by
 unfold kC iu
 refine ay ?_
 refine aj (KH w.r.Shelf w.o.Path w.o.Version) fun rA=> ?_
 refine cy (ah (aM (ah (aZ (aq (ah (aI (aq ?_))))))))
 refine aj (mV (⟨(⟨rA.1,w.r.br,w.r.bg,w.r.Seen⟩:ak),w.o,(⟨w.x.Client,w.x.Seq,rA.2,w.x.Value,w.x.Version,w.x.Names⟩:af),w.l⟩:ai) 3) fun aX=> ?_
 refine IG (ay ?_)
 exact aa (rfl)
theorem Gs (p:List UInt8):Sm (fun r=> .cN [.list (r.1.map MV.s),.i .i64 r.2]) (rQ (.s p)) (ou p):=by
 unfold rQ ou
 refine bn ?_
 refine aj (oJ p) fun rA=> ?_
 refine cy (HH ?_)
 refine aF ?_ ?_
 ·exact aa (rfl)
 ·exact aa (rfl)
theorem OW (a:ax) (a1:List UInt8):Sm (fun r=> .cN [.list (r.1.map MV.s),.i .i64 r.2]) (vL (b9 a) (.s a1)) (rq a a1):=by
 unfold vL rq
 refine aM (ah (aZ (aq (bn ?_))))
 refine aj (qe a a1) fun rA=> ?_
 refine cy (Ag ?_)
 refine aF ?_ ?_
 ·exact aa (rfl)
 ·refine aj (Gs a1) fun aX=> ?_
  refine cy (zm (bP (Kk (rfl:_=List.map aL a.L) fun _=>rfl) (aH (n:=a.L.length) (by simp only [List.length_map,List.length_cons,List.length_nil]) (cI (aH (n:=(List.drop (Int.toNat (IntKind.wrap .i64 (rA.1+1))) (List.take (Int.toNat (a.L.length:Int)) a.L)).length) (by simp only [List.length_map,List.length_append,List.length_cons,List.length_nil,List.length_take,List.length_drop,List.length_set]) ?_)))))
  refine aj (bM (fun r=>[.list (r.1.map MV.s),.i .i64 r.2]) (fun r=>(2,[.list (r.map MV.s)])) (rfl) fun st=> ?_) fun w=> ?_
  ·unfold nz
   refine zm ?_
   refine aB ?_ ?_
   ·refine bj (f:=aL) (by simp only [List.map_replicate,List.map_append,List.map_cons,List.map_nil,List.map_take,List.map_drop,List.map_set]) fun y=> ?_
    refine aM (gm ?_)
    refine aj (Gr a1 y.Path) fun da=> ?_
    refine aR ?_
    refine aF ?_ ?_
    ·exact aa (rfl)
    ·refine aj (Gs y.Path) fun n0=> ?_
     refine cy (zm (aH (n:=n0.1.length) (by simp only [List.length_map,List.length_cons,List.length_nil]) (aH (n:=aX.1.length) (by simp only [List.length_map,List.length_cons,List.length_nil]) ?_)))
     refine aj (f:=(fun r=>(0,[.list (r.map MV.s)]))) ?_ fun w1=> ?_
     ·refine aB ?_ ?_
      ·refine aH (n:=aX.1.length) (by simp only [List.length_map,List.length_cons,List.length_nil]) ?_
       refine bj (f:=MV.s) (rfl) fun y1=> ?_
       refine bn (aH (n:=st.1.length) (by simp only [List.length_map,List.length_cons,List.length_nil]) (aH (n:=([y1]:List (List UInt8)).length) (by simp only [List.length_map,List.length_cons,List.length_nil]) (cI ?_)))
       exact aa (by simp)
      ·exact aa (rfl)
     ·refine bP rfl (ah (aZ (aq ?_)))
      exact aa (rfl)
   ·exact aa (rfl)
  ·refine bP rfl (ah (aZ (aq ?_)))
   exact aa (rfl)
theorem DR (w:ai):Sm (fun r=> .ey ((fun _=> .cN []) r.1) (bD r.2)) (mF (bD w)) (jX w):=by
 unfold mF jX
 refine ay ?_
 refine aj (OW w.r.Shelf w.o.Path) fun rA=> ?_
 refine cy (zm ?_)
 exact aa (rfl)
theorem OX (b:aC) (id:Int) (span:Int):Sm (fun r=> .cN [dh r.1,.i .i64 r.2]) (vM (dh b) (.i .i64 id) (.i .i64 span)) (rr b id span):=by
 unfold vM rr
 refine aM (Ah (aI (aI ?_)))
 refine aj (mI b id) fun rA=> ?_
 refine cy (Bp ?_)
 refine aj (f:=fun r=>[.b r]) ?_ fun w=> ?_
 ·refine aB ?_ ?_
  ·exact aa (rfl)
  ·refine aB ?_ ?_
   ·exact aa (rfl)
   ·exact aa (rfl)
 ·refine ah (aR (aq ?_))
  refine aF ?_ ?_
  ·exact aa (rfl)
  ·refine aF ?_ ?_
   ·exact aa (rfl)
   ·refine aH (n:=b.L.length) (by simp only [List.length_map,List.length_cons,List.length_nil]) ?_
    refine aB ?_ ?_
    ·exact aa (rfl)
    ·refine D6 ?_
     refine aj (qy (size:=3) (f:=aN) (fun _=>rfl) b.L) fun aX=> ?_
     refine rf ?_
     refine aj (Fk (f:=aN) aX rA.1 ([(⟨id,span,IntKind.wrap .i64 (b.dK+span)⟩:av)]:List av)) fun da=> ?_
     refine rf ?_
     exact aa (rfl)
theorem DS (w:ai):Sm (fun r=> .ey ((fun _=> .cN []) r.1) (bD r.2)) (mG (bD w)) (jY w):=by
 unfold mG jY
 refine ay ?_
 refine aj (OX w.r.br w.o.Session w.o.Span) fun rA=> ?_
 refine cy (ah (aM (Ah (ah (aI (aq ?_))))))
 exact aa (rfl)
theorem MI (b:aC) (id:Int):Sm (fun r=> .cN [dh r.1,.i .i64 r.2]) (s9 (dh b) (.i .i64 id)) (pA b id):=by
 unfold s9 pA
 refine aM (Ah (aI ?_))
 refine aj (mI b id) fun rA=> ?_
 refine cy (Bp ?_)
 refine aF ?_ ?_
 ·exact aa (rfl)
 ·refine aj (qy (size:=3) (f:=aN) (fun _=>rfl) b.L) fun aX=> ?_
  refine rf ?_
  refine bj (f:=aN) (rfl) fun y=> ?_
  refine aM (wF ?_)
  refine bj (f:=aN) (rfl) fun y1=> ?_
  refine aM (wF ?_)
  exact aa (by simp)
theorem Cw (w:ai):Sm (fun r=> .ey ((fun _=> .cN []) r.1) (bD r.2)) (lF (bD w)) (jd w):=by
 unfold lF jd
 refine ay ?_
 refine aj (MI w.r.br w.o.Session) fun rA=> ?_
 refine cy (ah (aM (Ah (ah (aI (aq ?_))))))
 exact aa (rfl)
theorem MJ (b:aC) (id:Int):Sm (fun r=> .cN [dh r.1,.i .i64 r.2]) (ta (dh b) (.i .i64 id)) (pB b id):=by
 unfold ta pB
 refine aM (Ah (aI ?_))
 refine aj (mI b id) fun rA=> ?_
 refine cy (Bp ?_)
 refine aF ?_ ?_
 ·exact aa (rfl)
 ·refine aj (qy (size:=3) (f:=aN) (fun _=>rfl) b.L) fun aX=> ?_
  refine rf ?_
  refine aj (Mf (f:=aN) aX rA.1 (IntKind.wrap .i64 (rA.1+1))) fun da=> ?_
  refine rf ?_
  exact aa (rfl)
theorem OY (sA:ax) (owner:Int):Sm (fun r=> .cN [b9 r.1,.list (r.2.map MV.s)]) (vN (b9 sA) (.i .i64 owner)) (ru sA owner):=by
 unfold vN ru
 refine aM (ah (aZ (aq (aI (aH (n:=sA.L.length) (by simp only [List.length_map,List.length_cons,List.length_nil]) ?_)))))
 refine aj (bM (fun r=>[.list (r.1.map MV.s),.list (r.2.1.map aL),.i .i64 r.2.2]) (fun r=>(2,[.list (r.1.map MV.s),.list (r.2.map aL)])) (rfl) fun st=> ?_) fun w=> ?_
 ·unfold nA
  refine ah (aZ (zm ?_))
  refine aB ?_ ?_
  ·refine bj (f:=aL) (rfl) fun y=> ?_
   refine aM (gm ?_)
   refine aj (f:=fun r=>[.b r]) ?_ fun w1=> ?_
   ·refine aB ?_ ?_
    ·exact aa (rfl)
    ·exact aa (rfl)
   ·refine ah (aR (aq ?_))
    refine aF ?_ ?_
    ·refine aH (n:=st.1.length) (by simp only [List.length_map,List.length_cons,List.length_nil]) (aH (n:=([y.Path]:List (List UInt8)).length) (by simp only [List.length_map,List.length_cons,List.length_nil]) (cI ?_))
     exact aa (by simp [ml])
    ·refine aH (n:=st.2.1.length) (by simp only [List.length_map,List.length_cons,List.length_nil]) (aH (n:=([y]:List ae).length) (by simp only [List.length_map,List.length_cons,List.length_nil]) (cI ?_))
     exact aa (by simp [ml])
  ·exact aa (rfl)
 ·refine bP rfl (ah (aZ (ah (aZ (aq ?_)))))
  exact aa (rfl)
theorem wH (w:ai) (id:Int):Sm (fun r=> .ey ((fun _=> .cN []) r.1) (bD r.2)) (j9 (bD w) (.i .i64 id)) (ia w id):=by
 unfold j9 ia
 refine aI (ay ?_)
 refine aj (OY w.r.Shelf id) fun rA=> ?_
 refine cy (ah (aM (ah (aZ (aq (ah (aZ (aq (aH (n:=rA.2.length) (by simp only [List.length_map,List.length_cons,List.length_nil]) ?_)))))))))
 refine aj (bM (fun r=>(v0 r)) (fun r=>(2,(v1 r))) (rfl) fun st=> ?_) fun w1=> ?_
 ·unfold iv
  refine ah (aI (ay ?_))
  refine aB ?_ ?_
  ·refine bj (f:=MV.s) (rfl) fun y=> ?_
   refine bn (aH (n:=st.2.2.2.2.2.2.2.2.2.2.2.2.2.2.2.2.2.2.2.2.length) (by simp only [List.length_map,List.length_cons,List.length_nil]) (aH (n:=([(⟨3,y⟩:aE)]:List aE).length) (by simp only [List.length_map,List.length_cons,List.length_nil]) (cI ?_)))
   exact aa (by simp [bD,ar,v0,v1])
  ·exact aa (rfl)
 ·refine bP rfl (ay ?_)
  exact aa (rfl)
theorem Cx (w:ai):Sm (fun r=> .ey ((fun _=> .cN []) r.1) (bD r.2)) (lG (bD w)) (je w):=by
 unfold lG je
 refine ay ?_
 refine aj (MJ w.r.br w.o.Session) fun rA=> ?_
 refine cy (ah (aM (Ah (ah (aI (aq ?_))))))
 refine aj (f:=(fun r=>(0,(v1 r)))) ?_ fun w1=> ?_
 ·refine aB ?_ ?_
  ·refine aj (wH (⟨(⟨w.r.Shelf,rA.1,w.r.bg,w.r.Seen⟩:ak),w.o,(⟨w.x.Client,w.x.Seq,rA.2,w.x.Value,w.x.Version,w.x.Names⟩:af),w.l⟩:ai) w.o.Session) fun aX=> ?_
   refine IG (ay ?_)
   exact aa (rfl)
  ·exact aa (rfl)
 ·refine bP rfl (ay ?_)
  exact aa (rfl)
theorem OZ (b:aC) (now:Int):Sm (fun r=> .cN [dh r.1,.list (r.2.1.map (MV.i .i64)),.i .i64 r.2.2]) (vO (dh b) (.i .i64 now)) (rv b now):=by
 unfold vO rv
 refine aM (Ah (aI ?_))
 refine aB ?_ ?_
 ·exact aa (rfl)
 ·refine aB ?_ ?_
  ·exact aa (rfl)
  ·refine aH (n:=b.L.length) (by simp only [List.length_map,List.length_cons,List.length_nil]) ?_
   refine aj (bM (fun r=>[.list (r.1.map (MV.i .i64)),.i .i64 r.2.1,.list (r.2.2.1.map aN),.i .i64 r.2.2.2]) (fun r=>(3,[.list (r.1.map (MV.i .i64)),.i .i64 r.2.1,.list (r.2.2.map aN)])) (rfl) fun st=> ?_) fun w=> ?_
   ·unfold nB
    refine ah (aZ (ah (aI (zm ?_))))
    refine aB ?_ ?_
    ·refine bj (f:=aN) (rfl) fun y=> ?_
     refine aM (wF ?_)
     refine aB ?_ ?_
     ·refine aH (n:=st.1.length) (by simp only [List.length_map,List.length_cons,List.length_nil]) (aH (n:=([y.Id]:List Int).length) (by simp only [List.length_map,List.length_cons,List.length_nil]) (cI ?_))
      exact aa (by simp)
     ·refine aH (n:=st.2.2.1.length) (by simp only [List.length_map,List.length_cons,List.length_nil]) (aH (n:=([y]:List av).length) (by simp only [List.length_map,List.length_cons,List.length_nil]) (cI ?_))
      exact aa (by simp)
    ·exact aa (rfl)
   ·refine bP rfl (ah (aZ (Ah ?_)))
    exact aa (rfl)
theorem DT (w:ai):Sm (fun r=> .ey ((fun _=> .cN []) r.1) (bD r.2)) (mH (bD w)) (jZ w):=by
 unfold mH jZ
 refine ay ?_
 refine aj (OZ w.r.br w.o.Span) fun rA=> ?_
 refine cy (ah (aM (Ah (zm ?_))))
 refine aF ?_ ?_
 ·exact aa (rfl)
 ·refine aH (n:=rA.2.1.length) (by simp only [List.length_map,List.length_cons,List.length_nil]) ?_
  refine aj (bM (fun r=>(v0 r)) (fun r=>(2,(v1 r))) (rfl) fun st=> ?_) fun w1=> ?_
  ·unfold iw
   refine ah (aI (ay ?_))
   refine aB ?_ ?_
   ·refine bj (f:=(MV.i .i64)) (rfl) fun y=> ?_
    refine aI ?_
    refine aj (wH (⟨(⟨(⟨st.2.1⟩:ax),(⟨st.2.2.1,st.2.2.2.1⟩:aC),(⟨st.2.2.2.2.1⟩:bC),st.2.2.2.2.2.1⟩:ak),(⟨st.2.2.2.2.2.2.1,st.2.2.2.2.2.2.2.1,st.2.2.2.2.2.2.2.2.1,st.2.2.2.2.2.2.2.2.2.1,st.2.2.2.2.2.2.2.2.2.2.1,st.2.2.2.2.2.2.2.2.2.2.2.1,st.2.2.2.2.2.2.2.2.2.2.2.2.1,st.2.2.2.2.2.2.2.2.2.2.2.2.2.1⟩:au),(⟨st.2.2.2.2.2.2.2.2.2.2.2.2.2.2.1,st.2.2.2.2.2.2.2.2.2.2.2.2.2.2.2.1,st.2.2.2.2.2.2.2.2.2.2.2.2.2.2.2.2.1,st.2.2.2.2.2.2.2.2.2.2.2.2.2.2.2.2.2.1,st.2.2.2.2.2.2.2.2.2.2.2.2.2.2.2.2.2.2.1,st.2.2.2.2.2.2.2.2.2.2.2.2.2.2.2.2.2.2.2.1⟩:af),st.2.2.2.2.2.2.2.2.2.2.2.2.2.2.2.2.2.2.2.2⟩:ai) y) fun aX=> ?_
    refine IG (ay ?_)
    exact aa (rfl)
   ·exact aa (rfl)
  ·refine bP rfl (ay ?_)
   exact aa (rfl)
theorem v7 (sA:List al) (v:al):Sm (MV.i .i64) (gk (.list (sA.map aW)) (aW v)) (gd sA v):=by
 unfold gk gd
 refine aZ (aM (rW (aH (n:=sA.length) (by simp only [List.length_map,List.length_cons,List.length_nil]) ?_)))
 refine aj (bM (fun r=>[.i .i64 r]) (Sum.elim (fun r=>(2,[])) (fun r=>(1,[.i .i64 r]))) (rfl) fun st=> ?_) fun w=> ?_
 ·unfold dS
  refine ah (aI (aq ?_))
  refine aB ?_ ?_
  ·refine bj (f:=aW) (rfl) fun y=> ?_
   refine aM (rW ?_)
   refine aF ?_ ?_
   ·exact aa (rfl)
   ·exact aa (rfl)
  ·exact aa (rfl)
 ·rcases w with p1|p2
  ·refine eE rfl (aq ?_)
   exact aa (rfl)
  ·refine eF rfl (bP rfl (ah (aI (aq ?_))))
   exact aa (rfl)
theorem su (sA:List al) (v:al):Sm MV.b (eQ (.list (sA.map aW)) (aW v)) (dF sA v):=by
 unfold eQ dF
 refine aZ (aM (rW ?_))
 refine aj (v7 sA v) fun rA=> ?_
 refine aI ?_
 exact aa (rfl)
theorem Sq (t:bC) (w:al):Sm (fun r=> .cN [iH r.1,.i .i64 r.2]) (yJ (iH t) (aW w)) (qP t w):=by
 unfold yJ qP
 refine aM (ah (aZ (aq (aM (rW ?_)))))
 refine aj (rX w.Path) fun rA=> ?_
 refine aR ?_
 refine aF ?_ ?_
 ·exact aa (rfl)
 ·refine aB ?_ ?_
  ·exact aa (rfl)
  ·refine aj (su t.L w) fun aX=> ?_
   refine aR ?_
   refine aF ?_ ?_
   ·exact aa (rfl)
   ·refine aH (n:=t.L.length) (by simp only [List.length_map,List.length_cons,List.length_nil]) ?_
    refine aB ?_ ?_
    ·exact aa (rfl)
    ·refine D6 ?_
     refine aj (qy (size:=3) (f:=aW) (fun _=>rfl) t.L) fun da=> ?_
     refine rf (aH (n:=da.length) (by simp only [List.length_map,List.length_cons,List.length_nil]) (aH (n:=([w]:List al).length) (by simp only [List.length_map,List.length_cons,List.length_nil]) (cI ?_)))
     exact aa (by simp)
theorem Cy (w:ai):Sm (fun r=> .ey ((fun _=> .cN []) r.1) (bD r.2)) (lH (bD w)) (jf w):=by
 unfold lH jf
 refine ay ?_
 refine aj (Sq w.r.bg (⟨w.o.Path,w.o.Client,decide (w.o.Kind=11)⟩:al)) fun rA=> ?_
 refine cy (ah (aM (ah (aZ (aq (ah (aI (aq ?_))))))))
 exact aa (rfl)
theorem O0:Sm (Md (fun x:Nat=>MV.func x [])) (vP) (rz):=by
 unfold vP rz
 exact aa (rfl)
theorem HJ (c:aE) (w:al):Sm MV.b (o7 (fA c) (aW w)) (mi c w):=by
 unfold o7 mi
 refine aM (ah (aI (ah (bn (aq (aM (rW ?_)))))))
 refine aj (f:=fun r=>[.b r]) ?_ fun w1=> ?_
 ·refine aB ?_ ?_
  ·exact aa (rfl)
  ·refine aB ?_ ?_
   ·exact aa (rfl)
   ·refine aj (rX c.Path) fun rA=> ?_
    refine aR ?_
    exact aa (rfl)
 ·refine ah (aR (aq ?_))
  refine aF ?_ ?_
  ·exact aa (rfl)
  ·refine aF ?_ ?_
   ·exact aa (rfl)
   ·refine aj (Dl c.Path) fun aX=> ?_
    refine cy (ah (bn (ah (aI (aq ?_)))))
    refine aj (f:=fun r=>[.b r]) ?_ fun w2=> ?_
    ·refine aB ?_ ?_
     ·refine aF ?_ ?_
      ·exact aa (rfl)
      ·exact aa (rfl)
     ·exact aa (rfl)
    ·refine ah (aR (aq ?_))
     exact aa (rfl)
theorem KI (w:al) (c:aE) (c1:List ba):Sm (fun r=> .ey (MV.b r.1) [.list (r.2.map dc)]) (nM (aW w) (.rp [.i .i64 c.Kind,.s c.Path]) [.list (c1.map dc)]) (lz w c c1):=by
 unfold nM lz
 refine aM (rW (IH (ah (aI (ah (bn (aq (ah (aZ (aq ?_))))))))))
 refine aj (HJ c w) fun rA=> ?_
 refine aR ?_
 refine aj (f:=(fun r=>(0,[.list (r.map dc)]))) ?_ fun w1=> ?_
 ·refine aF ?_ ?_
  ·refine aH (n:=c1.length) (by simp only [List.length_map,List.length_cons,List.length_nil]) (aH (n:=([(⟨w,c⟩:ba)]:List ba).length) (by simp only [List.length_map,List.length_cons,List.length_nil]) (cI ?_))
   exact aa (by simp)
  ·exact aa (rfl)
 ·refine bP rfl (ah (aZ (aq ?_)))
  exact aa (rfl)
theorem O1 (t:bC) (lA:List aE):Sm (fun r=> .cN [iH r.1,.list (r.2.map dc)]) (vT (iH t) (.list (lA.map fA))) (rB t lA):=by
 unfold vT rB
 refine aM (ah (aZ (aq (aZ ?_))))
 refine aj (qy (size:=3) (f:=aW) (fun _=>rfl) t.L) fun rA=> ?_
 refine rf (aH (n:=lA.length) (by simp only [List.length_map,List.length_cons,List.length_nil]) ?_)
 refine aj (bM (fun r=>[.list (r.1.map aW),.list (r.2.1.map dc),.i .i64 r.2.2]) (fun r=>(2,[.list (r.1.map aW),.list (r.2.map dc)])) (rfl) fun st=> ?_) fun w=> ?_
 ·unfold nC
  refine ah (aZ (zm ?_))
  refine aB ?_ ?_
  ·refine bj (f:=fA) (rfl) fun y=> ?_
   refine aM (ah (aI (ah (bn (aq (bP (Vr (rfl:_=List.map aW st.1) fun _=>rfl) ?_))))))
   refine aj (Vs (f:=aW) (lv:=(fun sA=>[.list (sA.map dc)])) (b8:=[.rp [.i .i64 y.Kind,.s y.Path]]) (fun u sA=>Sm.at (vS (aW u) (.rp [.i .i64 y.Kind,.s y.Path]) [.list (sA.map dc)]) (KI u y sA)) st.2.1 st.1) fun aX=> ?_
   refine ah (aZ (aq ?_))
   exact aa (rfl)
  ·exact aa (rfl)
 ·refine bP rfl (ah (aZ (ah (aZ (aq ?_)))))
  exact aa (rfl)
theorem HK (k:Nat) (x0:ai):Sm (fun r=> .ey ((fun _=> .cN []) r.1) [.list (r.2.r.Shelf.L.map aL),.i .i64 r.2.r.br.dK,.list (r.2.r.br.L.map aN),.list (r.2.r.bg.L.map aW),.list (r.2.r.Seen.map aJ),.i .i64 r.2.o.Client,.i .i64 r.2.o.Seq,.i .i64 r.2.o.Kind,.s r.2.o.Path,.s r.2.o.Value,.i .i64 r.2.o.Version,.i .i64 r.2.o.Session,.i .i64 r.2.o.Span,.i .i64 r.2.x.Client,.i .i64 r.2.x.Seq,.i .i64 r.2.x.E,.s r.2.x.Value,.i .i64 r.2.x.Version,.list (r.2.x.Names.map MV.s),.list (r.2.l.map fA)]) (G3 [105,106,107,108,109,110,111,112,113,114,115] k fun k=>df k [.cell (.func 0 [.list (x0.r.Shelf.L.map aL),.i .i64 x0.r.br.dK,.list (x0.r.br.L.map aN),.list (x0.r.bg.L.map aW),.list (x0.r.Seen.map aJ),.i .i64 x0.o.Client,.i .i64 x0.o.Seq,.i .i64 x0.o.Kind,.s x0.o.Path,.s x0.o.Value,.i .i64 x0.o.Version,.i .i64 x0.o.Session,.i .i64 x0.o.Span,.i .i64 x0.x.Client,.i .i64 x0.x.Seq,.i .i64 x0.x.E,.s x0.x.Value,.i .i64 x0.x.Version,.list (x0.x.Names.map MV.s),.list (x0.l.map fA)])]) (mj k x0):=by
 unfold mj
 refine oU (fun _=>Sm.at (pK _) (Ak x0)) ?_
 refine oU (fun _=>Sm.at (qa _) (Bw x0)) ?_
 refine oU (fun _=>Sm.at (si _) (Gp x0)) ?_
 refine oU (fun _=>Sm.at (sm _) (Gq x0)) ?_
 refine oU (fun _=>Sm.at (qc _) (Bx x0)) ?_
 refine oU (fun _=>Sm.at (rS _) (DR x0)) ?_
 refine oU (fun _=>Sm.at (rT _) (DS x0)) ?_
 refine oU (fun _=>Sm.at (qE _) (Cw x0)) ?_
 refine oU (fun _=>Sm.at (qF _) (Cx x0)) ?_
 refine oU (fun _=>Sm.at (rU _) (DT x0)) ?_
 refine YG (fun _=>Sm.at (qG _) (Cy x0))
theorem pO (a:ak) (a1:au):Sm (fun r=> .cN [cT r.1,aJ r.2.1,.list (r.2.2.map dc)]) (jx (cT a) (cm a1)) (iy a a1):=by
 unfold jx iy
 refine aM (eK (aM (iJ ?_)))
 refine aj (Cu a a1) fun rA=> ?_
 refine cy (ah (aM (b6 (ah (aR (aq ?_))))))
 refine aF ?_ ?_
 ·exact aa (rfl)
 ·refine aj (O0) fun aX=> ?_
  refine aZ ?_
  refine bj (f:=(fun x:Nat=>MV.func x [])) (rfl) fun y=> ?_
  refine tB (tA (aq ?_))
  refine aj (HK y (⟨a,a1,rA.1,([]:List aE)⟩:ai)) fun da=> ?_
  refine IG (ay ?_)
  refine aj (O1 da.2.r.bg da.2.l) fun n0=> ?_
  refine cy (ah (aM (ah (aZ (aq (ah (aZ (aq ?_))))))))
  refine aj (qy (size:=6) (f:=aJ) (fun _=>rfl) a.Seen) fun A9=> ?_
  refine rf ?_
  refine aj (uK a a1.Client) fun K7=> ?_
  refine cy (Bp ?_)
  refine aj (f:=(fun r=>(0,(v1 r)))) ?_ fun w=> ?_
  ·refine aF ?_ ?_
   ·refine bj (f:=aJ) (rfl) fun y1=> ?_
    refine aM (b6 ?_)
    exact aa (by simp [dM,dr,cY,ar,v1])
   ·refine aj (Fk (f:=aJ) A9 K7.1 ([da.2.x]:List af)) fun vA=> ?_
    refine rf ?_
    exact aa (rfl)
  ·refine bP rfl (ay ?_)
   refine D6 ?_
   exact aa (rfl)
theorem Sr:Sm b9 (yK) (Cg):=by
 unfold yK Cg
 exact aa (rfl)
theorem Ss:Sm dh (yL) (Ch):=by
 unfold yL Ch
 exact aa (rfl)
theorem Su:Sm cT (yM) (yC):=by
 unfold yM yC
 refine aj (Sr) fun rA=> ?_
 refine aM (ah (aZ (aq ?_)))
 refine aj (Ss) fun aX=> ?_
 refine aM (Ah ?_)
 exact aa (rfl)
theorem wW (s1:List ae) (s2:List ae):Sm MV.b (gV (.list (s1.map aL)) (.list (s2.map aL))) (gO s1 s2):=by
 unfold gV gO
 refine aZ (aZ (aH (n:=s1.length) (by simp only [List.length_map,List.length_cons,List.length_nil]) (aH (n:=s2.length) (by simp only [List.length_map,List.length_cons,List.length_nil]) ?_)))
 refine aF ?_ ?_
 ·exact aa (rfl)
 ·refine aH (n:=s1.length) (by simp only [List.length_map,List.length_cons,List.length_nil]) ?_
  refine aj (bM (fun r=>[.i .i64 r]) (Sum.elim (fun r=>(2,[])) (fun r=>(1,[.b r]))) (rfl) fun st=> ?_) fun w=> ?_
  ·unfold fM
   refine ah (aI (aq ?_))
   refine aB ?_ ?_
   ·refine bj (f:=aL) (rfl) fun y=> ?_
    refine aM (gm ?_)
    refine bj (f:=aL) (rfl) fun y1=> ?_
    refine aM (gm ?_)
    refine aF ?_ ?_
    ·exact aa (rfl)
    ·exact aa (rfl)
   ·exact aa (rfl)
  ·rcases w with p1|p2
   ·refine eE rfl (aq ?_)
    exact aa (rfl)
   ·refine eF rfl (bP rfl (ah (aR (aq ?_))))
    exact aa (rfl)
theorem O2 (a:ax) (b:ax):Sm MV.b (vU (b9 a) (b9 b)) (rC a b):=by
 unfold vU rC
 refine aM (ah (aZ (aq (aM (ah (aZ (aq ?_)))))))
 refine aj (wW a.L b.L) fun rA=> ?_
 refine aR ?_
 exact aa (rfl)
theorem tN (s1:List av) (s2:List av):Sm MV.b (fe (.list (s1.map aN)) (.list (s2.map aN))) (dU s1 s2):=by
 unfold fe dU
 refine aZ (aZ (aH (n:=s1.length) (by simp only [List.length_map,List.length_cons,List.length_nil]) (aH (n:=s2.length) (by simp only [List.length_map,List.length_cons,List.length_nil]) ?_)))
 refine aF ?_ ?_
 ·exact aa (rfl)
 ·refine aH (n:=s1.length) (by simp only [List.length_map,List.length_cons,List.length_nil]) ?_
  refine aj (bM (fun r=>[.i .i64 r]) (Sum.elim (fun r=>(2,[])) (fun r=>(1,[.b r]))) (rfl) fun st=> ?_) fun w=> ?_
  ·unfold dx
   refine ah (aI (aq ?_))
   refine aB ?_ ?_
   ·refine bj (f:=aN) (rfl) fun y=> ?_
    refine aM (wF ?_)
    refine bj (f:=aN) (rfl) fun y1=> ?_
    refine aM (wF ?_)
    refine aF ?_ ?_
    ·exact aa (rfl)
    ·exact aa (rfl)
   ·exact aa (rfl)
  ·rcases w with p1|p2
   ·refine eE rfl (aq ?_)
    exact aa (rfl)
   ·refine eF rfl (bP rfl (ah (aR (aq ?_))))
    exact aa (rfl)
theorem O3 (a:aC) (b:aC):Sm MV.b (vV (dh a) (dh b)) (rD a b):=by
 unfold vV rD
 refine aM (Ah (aM (Ah ?_)))
 refine aj (f:=fun r=>[.b r]) ?_ fun w=> ?_
 ·refine aB ?_ ?_
  ·refine aj (tN a.L b.L) fun rA=> ?_
   refine aR ?_
   exact aa (rfl)
  ·exact aa (rfl)
 ·refine ah (aR (aq ?_))
  exact aa (rfl)
theorem v8 (s1:List al) (s2:List al):Sm MV.b (gl (.list (s1.map aW)) (.list (s2.map aW))) (eJ s1 s2):=by
 unfold gl eJ
 refine aZ (aZ (aH (n:=s1.length) (by simp only [List.length_map,List.length_cons,List.length_nil]) (aH (n:=s2.length) (by simp only [List.length_map,List.length_cons,List.length_nil]) ?_)))
 refine aF ?_ ?_
 ·exact aa (rfl)
 ·refine aH (n:=s1.length) (by simp only [List.length_map,List.length_cons,List.length_nil]) ?_
  refine aj (bM (fun r=>[.i .i64 r]) (Sum.elim (fun r=>(2,[])) (fun r=>(1,[.b r]))) (rfl) fun st=> ?_) fun w=> ?_
  ·unfold dV
   refine ah (aI (aq ?_))
   refine aB ?_ ?_
   ·refine bj (f:=aW) (rfl) fun y=> ?_
    refine aM (rW ?_)
    refine bj (f:=aW) (rfl) fun y1=> ?_
    refine aM (rW ?_)
    refine aF ?_ ?_
    ·exact aa (rfl)
    ·exact aa (rfl)
   ·exact aa (rfl)
  ·rcases w with p1|p2
   ·refine eE rfl (aq ?_)
    exact aa (rfl)
   ·refine eF rfl (bP rfl (ah (aR (aq ?_))))
    exact aa (rfl)
theorem O4 (a:bC) (b:bC):Sm MV.b (vW (iH a) (iH b)) (rE a b):=by
 unfold vW rE
 refine aM (ah (aZ (aq (aM (ah (aZ (aq ?_)))))))
 refine aj (v8 a.L b.L) fun rA=> ?_
 refine aR ?_
 exact aa (rfl)
theorem O5 (a:af) (b:af):Sm MV.b (vX (aJ a) (aJ b)) (kT a b):=by
 unfold vX kT
 refine aM (b6 (aM (b6 ?_)))
 refine aj (f:=fun r=>[.b r]) ?_ fun w=> ?_
 ·refine aB ?_ ?_
  ·refine aB ?_ ?_
   ·refine aB ?_ ?_
    ·refine aB ?_ ?_
     ·refine aB ?_ ?_
      ·refine aj (rY a.Names b.Names) fun rA=> ?_
       refine aR ?_
       exact aa (rfl)
      ·exact aa (rfl)
     ·exact aa (rfl)
    ·exact aa (rfl)
   ·exact aa (rfl)
  ·exact aa (rfl)
 ·refine ah (aR (aq ?_))
  exact aa (rfl)
theorem iF (s1:List af) (s2:List af) (eq:af→af→Option Bool) {KE:Nat} {oa:List MV} (aj9:gv KE=false) (gG: ∀(u0:af) (u1:af),Sm MV.b (ck KE ([aJ u0,aJ u1]++oa)) (eq u0 u1)):Sm MV.b (bQ (.list (s1.map aJ)) (.list (s2.map aJ)) (.func KE oa)) (bx s1 s2 eq):=by
 unfold bQ bx
 refine aZ (aZ (tB (aH (n:=s1.length) (by simp only [List.length_map,List.length_cons,List.length_nil]) (aH (n:=s2.length) (by simp only [List.length_map,List.length_cons,List.length_nil]) ?_))))
 refine aF ?_ ?_
 ·exact aa (rfl)
 ·refine aH (n:=s1.length) (by simp only [List.length_map,List.length_cons,List.length_nil]) ?_
  refine aj (bM (fun r=>[.i .i64 r]) (Sum.elim (fun r=>(2,[])) (fun r=>(1,[.b r]))) (rfl) fun st=> ?_) fun w=> ?_
  ·unfold bp
   refine ah (aI (aq ?_))
   refine aB ?_ ?_
   ·refine bj (f:=aJ) (rfl) fun y=> ?_
    refine aM (b6 ?_)
    refine bj (f:=aJ) (rfl) fun y1=> ?_
    refine aM (b6 (tA (bP (by rw [aj9];rfl) ?_)))
    refine aj (gG y y1) fun rA=> ?_
    refine aR ?_
    refine aF ?_ ?_
    ·exact aa (rfl)
    ·exact aa (rfl)
   ·exact aa (rfl)
  ·rcases w with p1|p2
   ·refine eE rfl (aq ?_)
    exact aa (rfl)
   ·refine eF rfl (bP rfl (ah (aR (aq ?_))))
    exact aa (rfl)
theorem wa (a:ak) (b:ak):Sm MV.b (mU (cT a) (cT b)) (kU a b):=by
 unfold mU kU
 refine aM (eK (aM (eK ?_)))
 refine aj (f:=fun r=>[.b r]) ?_ fun w=> ?_
 ·refine aj (O2 a.Shelf b.Shelf) fun rA=> ?_
  refine aR ?_
  refine aF ?_ ?_
  ·refine aj (O3 a.br b.br) fun aX=> ?_
   refine aR ?_
   refine aF ?_ ?_
   ·refine aj (O4 a.bg b.bg) fun da=> ?_
    refine aR ?_
    refine aF ?_ ?_
    ·refine aj (iF a.Seen b.Seen kT (KE:=80) (oa:=[]) rfl (fun u2 u3=>Sm.at (fg _ _) (O5 u2 u3))) fun n0=> ?_
     refine aR ?_
     exact aa (rfl)
    ·exact aa (rfl)
   ·exact aa (rfl)
  ·exact aa (rfl)
 ·refine ah (aR (aq ?_))
  exact aa (rfl)
theorem uM:Sm MV.b (nj) (lB):=by
 unfold nj lB
 refine aj (Su) fun rA=> ?_
 refine aM (eK ?_)
 refine aj (pO rA (⟨1,1,1,([47,97]:List UInt8),([120]:List UInt8),0,0,0⟩:au)) fun aX=> ?_
 refine cy (ah (aM (eK (ah (aM (b6 (ah (aZ (aq ?_)))))))))
 refine aj (pO aX.1 (⟨1,1,1,([47,97]:List UInt8),([120]:List UInt8),0,0,0⟩:au)) fun da=> ?_
 refine cy (ah (aM (eK (ah (aM (b6 (ah (aZ (aq ?_)))))))))
 refine aj (Aj da.1 1) fun n0=> ?_
 refine cy (ah (aM (b6 (ah (aR (aq ?_))))))
 refine aj (f:=fun r=>[.b r]) ?_ fun w=> ?_
 ·refine aB ?_ ?_
  ·refine aB ?_ ?_
   ·refine aH (n:=aX.1.Shelf.L.length) (by simp only [List.length_map,List.length_cons,List.length_nil]) ?_
    refine aB ?_ ?_
    ·refine aj (wa aX.1 da.1) fun A9=> ?_
     refine aR ?_
     refine aF ?_ ?_
     ·refine aF ?_ ?_
      ·exact aa (rfl)
      ·exact aa (rfl)
     ·exact aa (rfl)
    ·exact aa (rfl)
   ·exact aa (rfl)
  ·exact aa (rfl)
 ·refine ah (aR (aq ?_))
  exact aa (rfl)
theorem MK (a:List (List UInt8)) (b:List (List UInt8)):Sm MV.b (tf (.list (a.map MV.s)) (.list (b.map MV.s))) (pC a b):=by
 unfold tf pC
 refine aZ (aZ (aH (n:=a.length) (by simp only [List.length_map,List.length_cons,List.length_nil]) (aH (n:=b.length) (by simp only [List.length_map,List.length_cons,List.length_nil]) ?_)))
 refine aF ?_ ?_
 ·exact aa (rfl)
 ·refine aj (bM (fun r=>[.i .i64 r]) (Sum.elim (fun r=>(2,[])) (fun r=>(1,[.b r]))) (rfl) fun st=> ?_) fun w=> ?_
  ·unfold oV
   refine ah (aI (aq (aH (n:=a.length) (by simp only [List.length_map,List.length_cons,List.length_nil]) ?_)))
   refine aB ?_ ?_
   ·refine bj (f:=MV.s) (rfl) fun y=> ?_
    refine bn ?_
    refine bj (f:=MV.s) (rfl) fun y1=> ?_
    refine bn ?_
    refine aF ?_ ?_
    ·exact aa (rfl)
    ·exact aa (rfl)
   ·exact aa (rfl)
  ·rcases w with p1|p2
   ·refine eE rfl (aq ?_)
    exact aa (rfl)
   ·refine eF rfl (bP rfl (ah (aR (aq ?_))))
    exact aa (rfl)
theorem Wl (a:cn) (b:cn):Sm MV.b (Bn (fw a) (fw b)) (xB a b):=by
 unfold Bn xB
 refine aM (b6 (aM (b6 ?_)))
 refine aj (f:=fun r=>[.b r]) ?_ fun w=> ?_
 ·refine aB ?_ ?_
  ·refine aB ?_ ?_
   ·refine aB ?_ ?_
    ·refine aB ?_ ?_
     ·refine aB ?_ ?_
      ·refine aj (MK a.Names b.Names) fun rA=> ?_
       refine aR ?_
       exact aa (rfl)
      ·exact aa (rfl)
     ·exact aa (rfl)
    ·exact aa (rfl)
   ·exact aa (rfl)
  ·exact aa (rfl)
 ·refine ah (aR (aq ?_))
  exact aa (rfl)
theorem O6 (rA:ak) (lA:List au):Sm (fun r=> .cN [cT r.1,.list (r.2.1.map aJ),.list (r.2.2.map dc)]) (vY (cT rA) (.list (lA.map cm))) (rF rA lA):=by
 unfold vY rF
 refine aM (eK (aZ (aH (n:=lA.length) (by simp only [List.length_map,List.length_cons,List.length_nil]) ?_)))
 refine aj (bM (fun r=>[.list (r.1.map aL),.i .i64 r.2.1,.list (r.2.2.1.map aN),.list (r.2.2.2.1.map aW),.list (r.2.2.2.2.1.map aJ),.list (r.2.2.2.2.2.1.map aJ),.list (r.2.2.2.2.2.2.1.map dc),.i .i64 r.2.2.2.2.2.2.2]) (fun r=>(2,[.list (r.1.map aL),.i .i64 r.2.1,.list (r.2.2.1.map aN),.list (r.2.2.2.1.map aW),.list (r.2.2.2.2.1.map aJ),.list (r.2.2.2.2.2.1.map aJ),.list (r.2.2.2.2.2.2.map dc)])) (rfl) fun st=> ?_) fun w=> ?_
 ·unfold nD
  refine ah (aZ (ah (aI (ah (aZ (ah (aZ (ah (aZ (ah (aZ ?_)))))))))))
  refine zm ?_
  refine aB ?_ ?_
  ·refine bj (f:=cm) (rfl) fun y=> ?_
   refine aM (iJ ?_)
   refine aj (pO (⟨(⟨st.1⟩:ax),(⟨st.2.1,st.2.2.1⟩:aC),(⟨st.2.2.2.1⟩:bC),st.2.2.2.2.1⟩:ak) y) fun vA=> ?_
   refine cy (ah (aM (eK (ah (aM (b6 (ah (aZ (aq (aH (n:=st.2.2.2.2.2.1.length) (by simp only [List.length_map,List.length_cons,List.length_nil]) (aH (n:=([vA.2.1]:List af).length) (by simp only [List.length_map,List.length_cons,List.length_nil]) ?_)))))))))))
   refine cI (bP (Kk (rfl:_=List.map dc vA.2.2) fun _=>rfl) (aH (n:=st.2.2.2.2.2.2.1.length) (by simp only [List.length_map,List.length_cons,List.length_nil]) (aH (n:=vA.2.2.length) (by simp only [List.length_map,List.length_cons,List.length_nil]) (cI ?_))))
   exact aa (by simp [dM,dr,cY])
  ·exact aa (rfl)
 ·refine bP rfl (ah (aZ (ah (aI (ah (aZ (ah (aZ (ah (aZ (ah ?_)))))))))))
  refine aZ (ah (aZ (aq ?_)))
  exact aa (rfl)
theorem HL (a:ak) (a1:au) (a2:List au):Sm MV.b (tL (cT a) (cm a1) (.list (a2.map cm))) (oW a a1 a2):=by
 unfold tL oW
 refine aM (eK (aM (iJ (aZ ?_))))
 refine aj (f:=fun r=>[.b r]) ?_ fun w=> ?_
 ·refine aj (Zz a) fun rA=> ?_
  refine aR ?_
  refine aF ?_ ?_
  ·exact aa (rfl)
  ·refine aj (Jc a2) fun aX=> ?_
   refine aR ?_
   refine aF ?_ ?_
   ·exact aa (rfl)
   ·refine aj (Jc ([a1]:List au)) fun da=> ?_
    refine aR ?_
    refine aF ?_ ?_
    ·exact aa (rfl)
    ·refine aj (Je a) fun n0=> ?_
     refine aM (eK ?_)
     refine aj (Jd n0) fun A9=> ?_
     refine aR ?_
     exact aa (rfl)
 ·refine ah (aR (aq ?_))
  refine aF ?_ ?_
  ·refine aj (uM) fun K7=> ?_
   refine aR ?_
   exact aa (rfl)
  ·refine aj (pO a a1) fun vA=> ?_
   refine cy (ah (aM (eK (ah (aM (b6 (ah (aZ (aq ?_)))))))))
   refine aj (Je vA.1) fun rA7=> ?_
   refine aM (eK ?_)
   refine aj (Jd rA7) fun rA8=> ?_
   refine aR ?_
   refine aF ?_ ?_
   ·exact aa (rfl)
   ·refine aj (Jf a1) fun rA9=> ?_
    refine aR ?_
    refine aF ?_ ?_
    ·refine aj (f:=fun r=>[.b r]) ?_ fun w1=> ?_
     ·refine aj (uM) fun R3=> ?_
      refine aR ?_
      refine aF ?_ ?_
      ·refine aB ?_ ?_
       ·refine aj (wa vA.1 a) fun R4=> ?_
        refine aR ?_
        exact aa (rfl)
       ·exact aa (rfl)
      ·exact aa (rfl)
     ·refine ah (aR (aq ?_))
      exact aa (rfl)
    ·refine aj (Aj vA.1 a1.Client) fun VA=> ?_
     refine cy (ah (aM (b6 (ah (aR (aq ?_))))))
     refine aj (f:=fun r=>[.b r]) ?_ fun w2=> ?_
     ·refine aF ?_ ?_
      ·exact aa (rfl)
      ·exact aa (rfl)
     ·refine ah (aR (aq ?_))
      refine aF ?_ ?_
      ·refine aj (f:=fun r=>[.b r]) ?_ fun w3=> ?_
       ·refine aj (uM) fun YU=> ?_
        refine aR ?_
        refine aF ?_ ?_
        ·refine aB ?_ ?_
         ·refine aj (wa vA.1 a) fun YV=> ?_
          refine aR ?_
          exact aa (rfl)
         ·exact aa (rfl)
        ·exact aa (rfl)
       ·refine ah (aR (aq ?_))
        exact aa (rfl)
      ·refine aj (bM (fun r=>[.i .i64 r]) (Sum.elim (fun r=>(2,[])) (fun r=>(1,[.b r]))) (rfl) fun st=> ?_) fun w4=> ?_
       ·unfold j0
        refine ah (aI (aq (aH (n:=a2.length) (by simp only [List.length_map,List.length_cons,List.length_nil]) ?_)))
        refine aB ?_ ?_
        ·refine bj (f:=cm) (rfl) fun y=> ?_
         refine aM (iJ ?_)
         refine aB ?_ ?_
         ·refine aj (uM) fun YT=> ?_
          refine aR ?_
          exact aa (rfl)
         ·exact aa (rfl)
        ·exact aa (rfl)
       ·rcases w4 with p1|p2
        ·refine eE rfl (aq ?_)
         refine aj (O6 vA.1 a2) fun OM=> ?_
         refine cy (ah (aM (eK (ah (aZ (ah (aZ (aq ?_))))))))
         refine aj (pO OM.1 a1) fun Ky=> ?_
         refine cy (ah (aM (eK (ah (aM (b6 (ah (aZ (aq ?_)))))))))
         refine aj (f:=fun r=>[.b r]) ?_ fun w5=> ?_
         ·refine aj (uM) fun YW=> ?_
          refine aR ?_
          refine aF ?_ ?_
          ·refine aj (wa Ky.1 OM.1) fun YX=> ?_
           refine aR ?_
           refine aF ?_ ?_
           ·refine aH (n:=Ky.2.2.length) (by simp only [List.length_map,List.length_cons,List.length_nil]) ?_
            refine aB ?_ ?_
            ·refine aj (Gm vA.2.1) fun VB=> ?_
             refine aM (b6 ?_)
             refine aj (Gm Ky.2.1) fun VC=> ?_
             refine aM (b6 ?_)
             refine aj (Wl VB VC) fun YY=> ?_
             refine aR ?_
             refine aF ?_ ?_
             ·exact aa (rfl)
             ·exact aa (rfl)
            ·exact aa (rfl)
           ·exact aa (rfl)
          ·exact aa (rfl)
         ·refine ah (aR (aq ?_))
          exact aa (rfl)
        ·refine eF rfl (bP rfl (ah (aR (aq ?_))))
         exact aa (rfl)
end Dn.S
