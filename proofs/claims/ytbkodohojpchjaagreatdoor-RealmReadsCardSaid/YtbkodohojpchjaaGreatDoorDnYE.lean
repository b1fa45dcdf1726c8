import Derived.Test.YtbkodohojpchjaaGreatDoorDnYD
/-
  Typed and plain functions agree. Conditions: none.
-/
open Go Dn
set_option linter.unusedVariables false
set_option linter.unusedSimpArgs false
set_option maxRecDepth 100000
namespace Dn.S
@[reducible] def v0 (r : Int × (List ae) × Int × (List aw) × (List al) × (List af) × Int × Int × Int × (List UInt8) × (List UInt8) × Int × Int × Int × Int × Int × Int × (List UInt8) × Int × (List (List UInt8)) × (List aF)) : List MV := [.i .i64 r.1, .list (r.2.1.map aM), .i .i64 r.2.2.1, .list (r.2.2.2.1.map aN), .list (r.2.2.2.2.1.map aW), .list (r.2.2.2.2.2.1.map ap), .i .i64 r.2.2.2.2.2.2.1, .i .i64 r.2.2.2.2.2.2.2.1, .i .i64 r.2.2.2.2.2.2.2.2.1, .s r.2.2.2.2.2.2.2.2.2.1, .s r.2.2.2.2.2.2.2.2.2.2.1, .i .i64 r.2.2.2.2.2.2.2.2.2.2.2.1, .i .i64 r.2.2.2.2.2.2.2.2.2.2.2.2.1, .i .i64 r.2.2.2.2.2.2.2.2.2.2.2.2.2.1, .i .i64 r.2.2.2.2.2.2.2.2.2.2.2.2.2.2.1, .i .i64 r.2.2.2.2.2.2.2.2.2.2.2.2.2.2.2.1, .i .i64 r.2.2.2.2.2.2.2.2.2.2.2.2.2.2.2.2.1, .s r.2.2.2.2.2.2.2.2.2.2.2.2.2.2.2.2.2.1, .i .i64 r.2.2.2.2.2.2.2.2.2.2.2.2.2.2.2.2.2.2.1, .list (r.2.2.2.2.2.2.2.2.2.2.2.2.2.2.2.2.2.2.2.1.map MV.s), .list (r.2.2.2.2.2.2.2.2.2.2.2.2.2.2.2.2.2.2.2.2.map fm)]
@[reducible] def v1 (r : (List ae) × Int × (List aw) × (List al) × (List af) × Int × Int × Int × (List UInt8) × (List UInt8) × Int × Int × Int × Int × Int × Int × (List UInt8) × Int × (List (List UInt8)) × (List aF)) : List MV := [.list (r.1.map aM), .i .i64 r.2.1, .list (r.2.2.1.map aN), .list (r.2.2.2.1.map aW), .list (r.2.2.2.2.1.map ap), .i .i64 r.2.2.2.2.2.1, .i .i64 r.2.2.2.2.2.2.1, .i .i64 r.2.2.2.2.2.2.2.1, .s r.2.2.2.2.2.2.2.2.1, .s r.2.2.2.2.2.2.2.2.2.1, .i .i64 r.2.2.2.2.2.2.2.2.2.2.1, .i .i64 r.2.2.2.2.2.2.2.2.2.2.2.1, .i .i64 r.2.2.2.2.2.2.2.2.2.2.2.2.1, .i .i64 r.2.2.2.2.2.2.2.2.2.2.2.2.2.1, .i .i64 r.2.2.2.2.2.2.2.2.2.2.2.2.2.2.1, .i .i64 r.2.2.2.2.2.2.2.2.2.2.2.2.2.2.2.1, .s r.2.2.2.2.2.2.2.2.2.2.2.2.2.2.2.2.1, .i .i64 r.2.2.2.2.2.2.2.2.2.2.2.2.2.2.2.2.2.1, .list (r.2.2.2.2.2.2.2.2.2.2.2.2.2.2.2.2.2.2.1.map MV.s), .list (r.2.2.2.2.2.2.2.2.2.2.2.2.2.2.2.2.2.2.2.map fm)]
@[reducible] def v2 (r : Int × Int × Int × (List UInt8) × Int × (List (List UInt8)) × Int × Int × Int × (List UInt8) × Int × (List (List UInt8))) : List MV := [.i .i64 r.1, .i .i64 r.2.1, .i .i64 r.2.2.1, .s r.2.2.2.1, .i .i64 r.2.2.2.2.1, .list (r.2.2.2.2.2.1.map MV.s), .i .i64 r.2.2.2.2.2.2.1, .i .i64 r.2.2.2.2.2.2.2.1, .i .i64 r.2.2.2.2.2.2.2.2.1, .s r.2.2.2.2.2.2.2.2.2.1, .i .i64 r.2.2.2.2.2.2.2.2.2.2.1, .list (r.2.2.2.2.2.2.2.2.2.2.2.map MV.s)]
@[reducible] def v3 (r : (List ew) × Int × (List bV) × (List bJ) × (List cS) × Int) : List MV := [.list (r.1.map kO), .i .i64 r.2.1, .list (r.2.2.1.map j9), .list (r.2.2.2.1.map gj), .list (r.2.2.2.2.1.map ik), .i .i64 r.2.2.2.2.2]
@[reducible] def v4 (r : (List ew) × Int × (List bV) × (List bJ) × (List cS)) : List MV := [.list (r.1.map kO), .i .i64 r.2.1, .list (r.2.2.1.map j9), .list (r.2.2.2.1.map gj), .list (r.2.2.2.2.map ik)]
@[reducible] def v5 (r : Int × Int × Int × (List UInt8) × Int × (List (List UInt8)) × Bool) : List MV := [.i .i64 r.1, .i .i64 r.2.1, .i .i64 r.2.2.1, .s r.2.2.2.1, .i .i64 r.2.2.2.2.1, .list (r.2.2.2.2.2.1.map MV.s), .b r.2.2.2.2.2.2]
theorem Be {A B:Type} {g:B→A} {T:Option B} {k0:IntKind} {x0:Int} {x1:Bool} {K:Int→Bool→Option A} (h:Sm g (K x0 x1) T):Sm g (Oq k0 [.i k0 x0,.b x1] K) T:=ah (aK (ah (aU (au h))))
theorem yW {A B:Type} {g:B→A} {T:Option B} {k0 k1:IntKind} {x0:Int} {x1:Int} {K:Int→Int→Option A} (h:Sm g (K x0 x1) T):Sm g (L7 k0 k1 [.i k0 x0,.i k1 x1] K) T:=ah (aK (ah (aK (au h))))
theorem wi {A B:Type} {g:B→A} {T:Option B} {k0 k1 k2:IntKind} {x0:Int} {x1:Int} {x2:Int} {K:Int→Int→Int→Option A} (h:Sm g (K x0 x1 x2) T):Sm g (B7 k0 k1 k2 [.i k0 x0,.i k1 x1,.i k2 x2] K) T:=ah (aK (ah (aK (ah (aK (au h))))))
theorem bl {A B:Type} {g:B→A} {T:Option B} {k0 k1 k2 k4:IntKind} {x0:Int} {x1:Int} {x2:Int} {x3:List UInt8} {x4:Int} {x5:List MV} {K:Int→Int→Int→List UInt8→Int→List MV→Option A} (h:Sm g (K x0 x1 x2 x3 x4 x5) T):Sm g (bK k0 k1 k2 k4 [.i k0 x0,.i k1 x1,.i k2 x2,.s x3,.i k4 x4,.list x5] K) T:=ah (aK (ah (aK (ah (aK (ah (bo (ah (aK (ah (a7 (au h))))))))))))
theorem jK {A B:Type} {g:B→A} {T:Option B} {k0 k1 k2 k5 k6 k7:IntKind} {x0:Int} {x1:Int} {x2:Int} {x3:List UInt8} {x4:List UInt8} {x5:Int} {x6:Int} {x7:Int} {K:Int→Int→Int→List UInt8→List UInt8→Int→Int→Int→Option A} (h:Sm g (K x0 x1 x2 x3 x4 x5 x6 x7) T):Sm g (ka k0 k1 k2 k5 k6 k7 [.i k0 x0,.i k1 x1,.i k2 x2,.s x3,.s x4,.i k5 x5,.i k6 x6,.i k7 x7] K) T:=ah (aK (ah (aK (ah (aK (ah (bo (ah (bo (ah (aK (ah (aK (ah (aK (au h))))))))))))))))
theorem zU {A B:Type} {g:B→A} {T:Option B} {k0:IntKind} {x0:Int} {x1:List MV} {K:Int→List MV→Option A} (h:Sm g (K x0 x1) T):Sm g (M7 k0 [.i k0 x0,.list x1] K) T:=ah (aK (ah (a7 (au h))))
theorem HG {A B:Type} {g:B→A} {T:Option B} {x0:List MV} {x1:Bool} {K:List MV→Bool→Option A} (h:Sm g (K x0 x1) T):Sm g (Vi [.list x0,.b x1] K) T:=ah (a7 (ah (aU (au h))))
theorem yX {A B:Type} {g:B→A} {T:Option B} {k1:IntKind} {x0:List MV} {x1:Int} {K:List MV→Int→Option A} (h:Sm g (K x0 x1) T):Sm g (L8 k1 [.list x0,.i k1 x1] K) T:=ah (a7 (ah (aK (au h))))
theorem fL {A B:Type} {g:B→A} {T:Option B} {k1:IntKind} {x0:List MV} {x1:Int} {x2:List MV} {x3:List MV} {x4:List MV} {K:List MV→Int→List MV→List MV→List MV→Option A} (h:Sm g (K x0 x1 x2 x3 x4) T):Sm g (iK k1 [.list x0,.i k1 x1,.list x2,.list x3,.list x4] K) T:=ah (a7 (ah (aK (ah (a7 (ah (a7 (ah (a7 (au h))))))))))
theorem az {A B:Type} {g:B→A} {T:Option B} {k1 k5 k6 k7 k10 k11 k12 k13 k14 k15 k17:IntKind} {x0:List MV} {x1:Int} {x2:List MV} {x3:List MV} {x4:List MV} {x5:Int} {x6:Int} {x7:Int} {x8:List UInt8} {x9:List UInt8} {zo:Int} {BD:Int} {C0:Int} {B8:Int} {Dw:Int} {Dx:Int} {Fq:List UInt8} {Fs:Int} {Ft:List MV} {Fu:List MV} {K:List MV→Int→List MV→List MV→List MV→Int→Int→Int→List UInt8→List UInt8→Int→Int→Int→Int→Int→Int→List UInt8→Int→List MV→List MV→Option A} (h:Sm g (K x0 x1 x2 x3 x4 x5 x6 x7 x8 x9 zo BD C0 B8 Dw Dx Fq Fs Ft Fu) T):Sm g (aA k1 k5 k6 k7 k10 k11 k12 k13 k14 k15 k17 [.list x0,.i k1 x1,.list x2,.list x3,.list x4,.i k5 x5,.i k6 x6,.i k7 x7,.s x8,.s x9,.i k10 zo,.i k11 BD,.i k12 C0,.i k13 B8,.i k14 Dw,.i k15 Dx,.s Fq,.i k17 Fs,.list Ft,.list Fu] K) T:=ah (a7 (ah (aK (ah (a7 (ah (a7 (ah (a7 (ah (aK (ah (aK (ah (aK (ah (bo (ah (bo (ah (aK (ah (aK (ah (aK (ah (aK (ah (aK (ah (aK (ah (bo (ah (aK (ah (a7 (ah (a7 (au h))))))))))))))))))))))))))))))))))))))))
theorem rQ {A B:Type} {g:B→A} {T:Option B} {k1:IntKind} {x0:List UInt8} {x1:Int} {x2:Bool} {K:List UInt8→Int→Bool→Option A} (h:Sm g (K x0 x1 x2) T):Sm g (yM k1 [.s x0,.i k1 x1,.b x2] K) T:=ah (bo (ah (aK (ah (aU (au h))))))
theorem gh {A B:Type} {g:B→A} {T:Option B} {k2 k3:IntKind} {x0:List UInt8} {x1:List UInt8} {x2:Int} {x3:Int} {K:List UInt8→List UInt8→Int→Int→Option A} (h:Sm g (K x0 x1 x2 x3) T):Sm g (jX k2 k3 [.s x0,.s x1,.i k2 x2,.i k3 x3] K) T:=ah (bo (ah (bo (ah (aK (ah (aK (au h))))))))
theorem YV (a:ak):Sm MV.b (DW (cQ a)) (AN a):=by
 unfold DW AN
 refine aJ (fL ?_)
 refine aj (f:=fun r=>[.b r]) ?_ fun w=> ?_
 ·refine aH (n:=a.Shelf.L.length) (by simp only [List.length_map,List.length_cons,List.length_nil]) ?_
  refine aB ?_ ?_
  ·exact aa (rfl)
  ·refine aH (n:=a.bh.L.length) (by simp only [List.length_map,List.length_cons,List.length_nil]) ?_
   refine aB ?_ ?_
   ·exact aa (rfl)
   ·refine aH (n:=a.bt.L.length) (by simp only [List.length_map,List.length_cons,List.length_nil]) ?_
    refine aB ?_ ?_
    ·exact aa (rfl)
    ·refine aH (n:=a.Seen.length) (by simp only [List.length_map,List.length_cons,List.length_nil]) ?_
     refine aB ?_ ?_
     ·exact aa (rfl)
     ·exact aa (rfl)
 ·refine ah (aU (au ?_))
  refine aG ?_ ?_
  ·exact aa (rfl)
  ·refine aj (bP (fun r=>[.i .i64 r]) (Sum.elim (fun r=>(2,[])) (fun r=>(1,[.b r]))) (rfl) fun st=> ?_) fun w1=> ?_
   ·unfold yd
    refine ah (aK (au (aH (n:=a.Shelf.L.length) (by simp only [List.length_map,List.length_cons,List.length_nil]) ?_)))
    refine aB ?_ ?_
    ·refine aj (f:=fun r=>[.b r]) ?_ fun w2=> ?_
     ·refine aX (f:=aM) (rfl) fun y=> ?_
      refine aJ (gh ?_)
      refine aB ?_ ?_
      ·exact aa (rfl)
      ·refine aX (f:=aM) (rfl) fun y1=> ?_
       refine aJ (gh ?_)
       exact aa (rfl)
     ·refine ah (aU (au ?_))
      refine aG ?_ ?_
      ·exact aa (rfl)
      ·exact aa (rfl)
    ·exact aa (rfl)
   ·rcases w1 with p1|p2
    ·refine eS rfl (au ?_)
     refine aj (bP (fun r=>[.i .i64 r]) (Sum.elim (fun r=>(4,[])) (fun r=>(1,[.b r]))) (rfl) fun dV=> ?_) fun w3=> ?_
     ·unfold ye
      refine ah (aK (au (aH (n:=a.bh.L.length) (by simp only [List.length_map,List.length_cons,List.length_nil]) ?_)))
      refine aB ?_ ?_
      ·refine aX (f:=aW) (rfl) fun y2=> ?_
       refine aJ (rQ ?_)
       refine aB ?_ ?_
       ·exact aa (rfl)
       ·exact aa (rfl)
      ·exact aa (rfl)
     ·rcases w3 with p4|p5
      ·refine eS rfl (au ?_)
       refine aj (bP (fun r=>[.i .i64 r]) (Sum.elim (fun r=>(6,[])) (fun r=>(1,[.b r]))) (rfl) fun dH=> ?_) fun w4=> ?_
       ·unfold yg
        refine ah (aK (au (aH (n:=a.Seen.length) (by simp only [List.length_map,List.length_cons,List.length_nil]) ?_)))
        refine aB ?_ ?_
        ·refine aj (f:=fun r=>[.b r]) ?_ fun w5=> ?_
         ·refine aX (f:=ap) (rfl) fun y3=> ?_
          refine aJ (bl ?_)
          refine aB ?_ ?_
          ·exact aa (rfl)
          ·refine aX (f:=ap) (rfl) fun y4=> ?_
           refine aJ (bl (aH (n:=y4.Names.length) (by simp only [List.length_map,List.length_cons,List.length_nil]) ?_))
           exact aa (rfl)
         ·refine ah (aU (au ?_))
          refine aG ?_ ?_
          ·exact aa (rfl)
          ·refine aj (bP (fun r=>[.i .i64 r]) (Sum.elim (fun r=>(8,[])) (fun r=>(1,[.b r]))) (rfl) fun nV=> ?_) fun w6=> ?_
           ·unfold yf
            refine ah (aK (au ?_))
            refine aX (f:=ap) (rfl) fun y5=> ?_
            refine aJ (bl (aH (n:=y5.Names.length) (by simp only [List.length_map,List.length_cons,List.length_nil]) ?_))
            refine aB ?_ ?_
            ·refine aX (f:=ap) (rfl) fun y6=> ?_
             refine aJ (bl ?_)
             refine aX (f:=MV.s) (rfl) fun y7=> ?_
             refine bo ?_
             refine aB ?_ ?_
             ·exact aa (rfl)
             ·exact aa (rfl)
            ·exact aa (rfl)
           ·rcases w6 with p8|p9
            ·refine eS rfl (au ?_)
             exact aa (rfl)
            ·refine eT rfl (bQ rfl (ah (aU (au ?_))))
             exact aa (rfl)
        ·exact aa (rfl)
       ·rcases w4 with p10|p11
        ·refine eS rfl (au ?_)
         exact aa (rfl)
        ·refine eT rfl (bQ rfl (ah (aU (au ?_))))
         exact aa (rfl)
      ·refine eT rfl (bQ rfl (ah (aU (au ?_))))
       exact aa (rfl)
    ·refine eT rfl (bQ rfl (ah (aU (au ?_))))
     exact aa (rfl)
theorem RW (lA:List av):Sm MV.b (yl (.list (lA.map du))) (tZ lA):=by
 unfold yl tZ
 refine a7 ?_
 refine aj (bP (fun r=>[.i .i64 r]) (Sum.elim (fun r=>(2,[])) (fun r=>(1,[.b r]))) (rfl) fun st=> ?_) fun w=> ?_
 ·unfold sJ
  refine ah (aK (au (aH (n:=lA.length) (by simp only [List.length_map,List.length_cons,List.length_nil]) ?_)))
  refine aB ?_ ?_
  ·refine aj (f:=fun r=>[.b r]) ?_ fun w1=> ?_
   ·refine aB ?_ ?_
    ·exact aa (rfl)
    ·refine aX (f:=du) (rfl) fun y=> ?_
     refine aJ (jK ?_)
     refine aB ?_ ?_
     ·exact aa (rfl)
     ·refine aX (f:=du) (rfl) fun y1=> ?_
      refine aJ (jK ?_)
      exact aa (rfl)
   ·refine ah (aU (au ?_))
    refine aG ?_ ?_
    ·exact aa (rfl)
    ·exact aa (rfl)
  ·exact aa (rfl)
 ·rcases w with p1|p2
  ·refine eS rfl (au ?_)
   exact aa (rfl)
  ·refine eT rfl (bQ rfl (ah (aU (au ?_))))
   exact aa (rfl)
theorem Qg (p:List UInt8):Sm (fun r=> .cK [.list (r.1.map MV.s),.b r.2]) (A0 (.s p)) (yh p):=by
 unfold A0 yh
 refine bo ?_
 refine aj (f:=fun r=>[.b r]) ?_ fun w=> ?_
 ·refine aB ?_ ?_
  ·exact aa (rfl)
  ·refine cD ?_
   exact aa (rfl)
 ·refine ah (aU (au ?_))
  refine aG ?_ ?_
  ·exact aa (rfl)
  ·refine aB ?_ ?_
   ·exact aa (rfl)
   ·refine aj (bP (fun r=>[.list (r.1.map MV.s),.s r.2.1,.i .i64 r.2.2]) (fun r=>(2,[.list (r.1.map MV.s),.s r.2])) (rfl) fun st=> ?_) fun w1=> ?_
    ·unfold ua
     refine ah (a7 (ah (bo (ah (aK (au ?_))))))
     refine aB ?_ ?_
     ·refine cD ?_
      refine aj (f:=(fun r=>(0,[.list (r.1.map MV.s),.s r.2]))) ?_ fun w2=> ?_
      ·refine aB ?_ ?_
       ·refine aH (n:=st.1.length) (by simp only [List.length_map,List.length_cons,List.length_nil]) (aH (n:=([st.2.1]:List (List UInt8)).length) (by simp only [List.length_map,List.length_cons,List.length_nil]) (cD ?_))
        exact aa (by simp)
       ·refine cD ?_
        refine abV (M:=([((p.getD (Int.toNat st.2.2) 0).toNat:Int)]:List Int)) (rfl) fun bs=> ?_
        refine cD ?_
        exact aa (rfl)
      ·refine bQ rfl (ah (a7 (ah (bo (au ?_)))))
       exact aa (rfl)
     ·exact aa (rfl)
    ·refine bQ rfl (ah (a7 (ah (bo (au (aH (n:=w1.1.length) (by simp only [List.length_map,List.length_cons,List.length_nil]) (aH (n:=([w1.2]:List (List UInt8)).length) (by simp only [List.length_map,List.length_cons,List.length_nil]) (cD ?_))))))))
     exact aa (by simp)
theorem Oz (sA:List UInt8):Sm MV.b (vm (.s sA)) (q0 sA):=by
 unfold vm q0
 refine bo ?_
 refine aj (bP (fun r=>[.i .i64 r]) (Sum.elim (fun r=>(2,[])) (fun r=>(1,[.b r]))) (rfl) fun st=> ?_) fun w=> ?_
 ·unfold nw
  refine ah (aK (au ?_))
  refine aB ?_ ?_
  ·refine cD ?_
   refine aj (f:=fun r=>[.b r]) ?_ fun w1=> ?_
   ·refine aB ?_ ?_
    ·refine aB ?_ ?_
     ·exact aa (rfl)
     ·refine aB ?_ ?_
      ·refine aB ?_ ?_
       ·exact aa (rfl)
       ·refine aB ?_ ?_
        ·exact aa (rfl)
        ·exact aa (rfl)
      ·refine aB ?_ ?_
       ·exact aa (rfl)
       ·exact aa (rfl)
    ·refine aB ?_ ?_
     ·refine aB ?_ ?_
      ·exact aa (rfl)
      ·refine aB ?_ ?_
       ·exact aa (rfl)
       ·exact aa (rfl)
     ·refine aB ?_ ?_
      ·exact aa (rfl)
      ·exact aa (rfl)
   ·refine ah (aU (au ?_))
    refine aG ?_ ?_
    ·exact aa (rfl)
    ·exact aa (rfl)
  ·exact aa (rfl)
 ·rcases w with p1|p2
  ·refine eS rfl (au ?_)
   refine aj (f:=fun r=>[.b r]) ?_ fun w2=> ?_
   ·refine aB ?_ ?_
    ·exact aa (rfl)
    ·exact aa (rfl)
   ·refine ah (aU (au ?_))
    exact aa (rfl)
  ·refine eT rfl (bQ rfl (ah (aU (au ?_))))
   exact aa (rfl)
theorem Cg (p:List UInt8):Sm MV.b (qH (.s p)) (na p):=by
 unfold qH na
 refine bo ?_
 refine aB ?_ ?_
 ·exact aa (rfl)
 ·refine aj (Qg p) fun rA=> ?_
  refine cE (HG ?_)
  refine aj (bP (fun r=>[.i .i64 r]) (Sum.elim (fun r=>(2,[])) (fun r=>(1,[.b r]))) (rfl) fun st=> ?_) fun w=> ?_
  ·unfold pe
   refine ah (aK (au (aH (n:=rA.1.length) (by simp only [List.length_map,List.length_cons,List.length_nil]) ?_)))
   refine aB ?_ ?_
   ·refine aX (f:=MV.s) (rfl) fun y=> ?_
    refine bo ?_
    refine aj (Oz y) fun aY=> ?_
    refine aU ?_
    refine aG ?_ ?_
    ·exact aa (rfl)
    ·exact aa (rfl)
   ·exact aa (rfl)
  ·rcases w with p3|p4
   ·refine eS rfl (au ?_)
    refine aj (f:=fun r=>[.b r]) ?_ fun w1=> ?_
    ·refine aG ?_ ?_
     ·refine aH (n:=rA.1.length) (by simp only [List.length_map,List.length_cons,List.length_nil]) ?_
      exact aa (rfl)
     ·exact aa (rfl)
    ·refine ah (aU (au ?_))
     exact aa (rfl)
   ·refine eT rfl (bQ rfl (ah (aU (au ?_))))
    exact aa (rfl)
theorem Ch (p:List UInt8):Sm (fun r=> .cK [.list (r.1.map MV.s),.i .i64 r.2]) (qI (.s p)) (ol p):=by
 unfold qI ol
 refine bo ?_
 refine aj (Cg p) fun rA=> ?_
 refine aU ?_
 refine aG ?_ ?_
 ·exact aa (rfl)
 ·refine aj (Qg p) fun aY=> ?_
  refine cE (HG ?_)
  exact aa (rfl)
theorem RX (p:List UInt8) (q:List UInt8):Sm MV.b (ym (.s p) (.s q)) (ub p q):=by
 unfold ym ub
 refine bo (bo ?_)
 refine aj (Ch p) fun rA=> ?_
 refine cE (yX ?_)
 refine aj (Ch q) fun aY=> ?_
 refine cE (yX ?_)
 refine aj (f:=fun r=>[.b r]) ?_ fun w=> ?_
 ·refine aG ?_ ?_
  ·exact aa (rfl)
  ·exact aa (rfl)
 ·refine ah (aU (au ?_))
  refine aG ?_ ?_
  ·exact aa (rfl)
  ·refine aj (bP (fun r=>[.i .i64 r]) (Sum.elim (fun r=>(2,[])) (fun r=>(1,[.b r]))) (rfl) fun st=> ?_) fun w1=> ?_
   ·unfold pf
    refine ah (aK (au ?_))
    refine aj (f:=fun r=>[.b r]) ?_ fun w2=> ?_
    ·refine aH (n:=rA.1.length) (by simp only [List.length_map,List.length_cons,List.length_nil]) ?_
     refine aB ?_ ?_
     ·refine aH (n:=aY.1.length) (by simp only [List.length_map,List.length_cons,List.length_nil]) ?_
      exact aa (rfl)
     ·exact aa (rfl)
    ·refine ah (aU (au ?_))
     refine aG ?_ ?_
     ·refine aX (f:=MV.s) (rfl) fun y=> ?_
      refine bo ?_
      refine aX (f:=MV.s) (rfl) fun y1=> ?_
      refine bo ?_
      refine aG ?_ ?_
      ·refine aX (f:=MV.s) (rfl) fun y2=> ?_
       refine bo ?_
       refine aX (f:=MV.s) (rfl) fun y3=> ?_
       refine bo ?_
       exact aa (rfl)
      ·exact aa (rfl)
     ·exact aa (rfl)
   ·rcases w1 with p3|p4
    ·refine eS rfl (au (aH (n:=rA.1.length) (by simp only [List.length_map,List.length_cons,List.length_nil]) (aH (n:=aY.1.length) (by simp only [List.length_map,List.length_cons,List.length_nil]) ?_)))
     exact aa (rfl)
    ·refine eT rfl (bQ rfl (ah (aU (au ?_))))
     exact aa (rfl)
theorem VP (lA:List (List UInt8)):Sm MV.s (A3 (.list (lA.map MV.s))) (xl lA):=by
 unfold A3 xl
 refine a7 ?_
 refine aj (bP (fun r=>[.s r.1,.i .i64 r.2]) (fun r=>(2,[.s r])) (rfl) fun st=> ?_) fun w=> ?_
 ·unfold q8
  refine ah (bo (ah (aK (au (aH (n:=lA.length) (by simp only [List.length_map,List.length_cons,List.length_nil]) ?_)))))
  refine aB ?_ ?_
  ·refine cD ?_
   refine aX (f:=MV.s) (rfl) fun y=> ?_
   refine bo (cD ?_)
   exact aa (rfl)
  ·exact aa (rfl)
 ·refine bQ rfl (ah (bo (au ?_)))
  refine aB ?_ ?_
  ·exact aa (rfl)
  ·exact aa (rfl)
theorem OA (p:List UInt8):Sm (fun r=> .cK [.s r.1,.i .i64 r.2]) (vn (.s p)) (om p):=by
 unfold vn om
 refine bo ?_
 refine aj (Ch p) fun rA=> ?_
 refine cE (yX ?_)
 refine aG ?_ ?_
 ·exact aa (rfl)
 ·refine aH (n:=rA.1.length) (by simp only [List.length_map,List.length_cons,List.length_nil]) ?_
  refine aB ?_ ?_
  ·exact aa (rfl)
  ·refine aH (n:=rA.1.length) (by simp only [List.length_map,List.length_cons,List.length_nil]) (aH (n:=rA.1.length) (by simp only [List.length_map,List.length_cons,List.length_nil]) (cD ?_))
   refine aj (by simpa using VP (List.drop (Int.toNat 0) (List.take (Int.toNat (IntKind.wrap .i64 ((rA.1.length:Int)-1))) rA.1))) fun aY=> ?_
   refine bo ?_
   exact aa (rfl)
theorem VQ (sA:jS) (p:List UInt8):Sm (MV.i .i64) (FB (CX sA) (.s p)) (vj sA p):=by
 unfold FB vj
 refine aJ (ah (a7 (au (bo ?_))))
 refine aj (bP (fun r=>[.i .i64 r]) (Sum.elim (fun r=>(2,[])) (fun r=>(1,[.i .i64 r]))) (rfl) fun st=> ?_) fun w=> ?_
 ·unfold xm
  refine ah (aK (au (aH (n:=sA.L.length) (by simp only [List.length_map,List.length_cons,List.length_nil]) ?_)))
  refine aB ?_ ?_
  ·refine aX (f:=kO) (rfl) fun y=> ?_
   refine aJ (gh ?_)
   refine aB ?_ ?_
   ·exact aa (rfl)
   ·exact aa (rfl)
  ·exact aa (rfl)
 ·rcases w with p3|p4
  ·refine eS rfl (au ?_)
   exact aa (rfl)
  ·refine eT rfl (bQ rfl (ah (aK (au ?_))))
   exact aa (rfl)
theorem RY (a:jS):Sm MV.b (yn (CX a)) (uc a):=by
 unfold yn uc
 refine aJ (ah (a7 (au ?_)))
 refine aj (f:=fun r=>[.b r]) ?_ fun w=> ?_
 ·refine aH (n:=a.L.length) (by simp only [List.length_map,List.length_cons,List.length_nil]) ?_
  refine aB ?_ ?_
  ·exact aa (rfl)
  ·refine aH (n:=a.L.length) (by simp only [List.length_map,List.length_cons,List.length_nil]) ?_
   exact aa (rfl)
 ·refine ah (aU (au ?_))
  refine aG ?_ ?_
  ·exact aa (rfl)
  ·refine aj (bP (fun r=>[.i .i64 r]) (Sum.elim (fun r=>(2,[])) (fun r=>(1,[.b r]))) (rfl) fun st=> ?_) fun w1=> ?_
   ·unfold pg
    refine ah (aK (au (aH (n:=a.L.length) (by simp only [List.length_map,List.length_cons,List.length_nil]) ?_)))
    refine aB ?_ ?_
    ·refine aX (f:=kO) (rfl) fun y=> ?_
     refine aJ (gh ?_)
     refine aj (f:=fun r=>[.b r]) ?_ fun w2=> ?_
     ·refine aj (Cg y.Path) fun rA=> ?_
      refine aU ?_
      refine aG ?_ ?_
      ·exact aa (rfl)
      ·refine aB ?_ ?_
       ·exact aa (rfl)
       ·refine aB ?_ ?_
        ·exact aa (rfl)
        ·refine aB ?_ ?_
         ·exact aa (rfl)
         ·refine aB ?_ ?_
          ·exact aa (rfl)
          ·refine aB ?_ ?_
           ·refine aX (f:=kO) (rfl) fun y1=> ?_
            refine aJ (gh ?_)
            refine aj (RX y1.Path y.Path) fun aY=> ?_
            refine aU ?_
            exact aa (rfl)
           ·exact aa (rfl)
     ·refine ah (aU (au ?_))
      refine aG ?_ ?_
      ·exact aa (rfl)
      ·refine aj (OA y.Path) fun cX=> ?_
       refine cE (ah (bo (ah (aK (au ?_)))))
       refine aG ?_ ?_
       ·refine aG ?_ ?_
        ·exact aa (rfl)
        ·exact aa (rfl)
       ·refine aj (VQ a cX.1) fun oo=> ?_
        refine aK ?_
        refine aj (f:=fun r=>[.b r]) ?_ fun w3=> ?_
        ·refine aB ?_ ?_
         ·exact aa (rfl)
         ·refine aX (f:=kO) (rfl) fun y2=> ?_
          refine aJ (gh ?_)
          exact aa (rfl)
        ·refine ah (aU (au ?_))
         refine aG ?_ ?_
         ·exact aa (rfl)
         ·exact aa (rfl)
    ·exact aa (rfl)
   ·rcases w1 with p1|p2
    ·refine eS rfl (au ?_)
     refine aj (VQ a ([47]:List UInt8)) fun AO=> ?_
     refine aK ?_
     exact aa (rfl)
    ·refine eT rfl (bQ rfl (ah (aU (au ?_))))
     exact aa (rfl)
theorem RZ (a:vi):Sm MV.b (yo (Ok a)) (ud a):=by
 unfold yo ud
 refine aJ (zU ?_)
 refine aj (f:=fun r=>[.b r]) ?_ fun w=> ?_
 ·refine aB ?_ ?_
  ·exact aa (rfl)
  ·refine aB ?_ ?_
   ·exact aa (rfl)
   ·refine aH (n:=a.L.length) (by simp only [List.length_map,List.length_cons,List.length_nil]) ?_
    exact aa (rfl)
 ·refine ah (aU (au ?_))
  refine aG ?_ ?_
  ·exact aa (rfl)
  ·refine aj (bP (fun r=>[.i .i64 r]) (Sum.elim (fun r=>(2,[])) (fun r=>(1,[.b r]))) (rfl) fun st=> ?_) fun w1=> ?_
   ·unfold sK
    refine ah (aK (au (aH (n:=a.L.length) (by simp only [List.length_map,List.length_cons,List.length_nil]) ?_)))
    refine aB ?_ ?_
    ·refine aX (f:=j9) (rfl) fun y=> ?_
     refine aJ (wi ?_)
     refine aj (f:=fun r=>[.b r]) ?_ fun w2=> ?_
     ·refine aB ?_ ?_
      ·exact aa (rfl)
      ·refine aB ?_ ?_
       ·exact aa (rfl)
       ·refine aB ?_ ?_
        ·exact aa (rfl)
        ·refine aB ?_ ?_
         ·exact aa (rfl)
         ·refine aB ?_ ?_
          ·exact aa (rfl)
          ·refine aB ?_ ?_
           ·refine aX (f:=j9) (rfl) fun y1=> ?_
            refine aJ (wi ?_)
            exact aa (rfl)
           ·exact aa (rfl)
     ·refine ah (aU (au ?_))
      refine aG ?_ ?_
      ·exact aa (rfl)
      ·exact aa (rfl)
    ·exact aa (rfl)
   ·rcases w1 with p1|p2
    ·refine eS rfl (au ?_)
     exact aa (rfl)
    ·refine eT rfl (bQ rfl (ah (aU (au ?_))))
     exact aa (rfl)
theorem YW (lA:List bJ) (w:bJ):Sm MV.b (DX (.list (lA.map gj)) (gj w)) (vk lA w):=by
 unfold DX vk
 refine a7 (aJ (rQ ?_))
 refine aj (bP (fun r=>[.i .i64 r]) (Sum.elim (fun r=>(2,[])) (fun r=>(1,[.b r]))) (rfl) fun st=> ?_) fun w1=> ?_
 ·unfold ue
  refine ah (aK (au (aH (n:=lA.length) (by simp only [List.length_map,List.length_cons,List.length_nil]) ?_)))
  refine aB ?_ ?_
  ·refine aX (f:=gj) (rfl) fun y=> ?_
   refine aJ (rQ ?_)
   refine aG ?_ ?_
   ·exact aa (rfl)
   ·exact aa (rfl)
  ·exact aa (rfl)
 ·rcases w1 with p1|p2
  ·refine eS rfl (au ?_)
   exact aa (rfl)
  ·refine eT rfl (bQ rfl (ah (aU (au ?_))))
   exact aa (rfl)
theorem R0 (t:qZ):Sm MV.b (yp (L6 t)) (uf t):=by
 unfold yp uf
 refine aJ (ah (a7 (au ?_)))
 refine aj (bP (fun r=>[.i .i64 r]) (Sum.elim (fun r=>(2,[])) (fun r=>(1,[.b r]))) (rfl) fun st=> ?_) fun w=> ?_
 ·unfold sL
  refine ah (aK (au (aH (n:=t.L.length) (by simp only [List.length_map,List.length_cons,List.length_nil]) ?_)))
  refine aB ?_ ?_
  ·refine aj (f:=fun r=>[.b r]) ?_ fun w1=> ?_
   ·refine aX (f:=gj) (rfl) fun y=> ?_
    refine aJ (rQ ?_)
    refine aj (Cg y.Path) fun rA=> ?_
    refine aU ?_
    refine aG ?_ ?_
    ·exact aa (rfl)
    ·refine aX (f:=gj) (rfl) fun y1=> ?_
     refine aJ (rQ ?_)
     refine aB ?_ ?_
     ·exact aa (rfl)
     ·refine aH (n:=t.L.length) (by simp only [List.length_map,List.length_cons,List.length_nil]) (cD ?_)
      refine aX (f:=gj) (rfl) fun y2=> ?_
      refine aJ (rQ ?_)
      refine aj (by simpa using YW (List.drop (Int.toNat 0) (List.take (Int.toNat st) t.L)) y2) fun aY=> ?_
      refine aU ?_
      exact aa (rfl)
   ·refine ah (aU (au ?_))
    refine aG ?_ ?_
    ·exact aa (rfl)
    ·exact aa (rfl)
  ·exact aa (rfl)
 ·rcases w with p1|p2
  ·refine eS rfl (au (aH (n:=t.L.length) (by simp only [List.length_map,List.length_cons,List.length_nil]) ?_))
   exact aa (rfl)
  ·refine eT rfl (bQ rfl (ah (aU (au ?_))))
   exact aa (rfl)
theorem R2 (a:pc):Sm MV.b (yq (CY a)) (ug a):=by
 unfold yq ug
 refine aJ (fL ?_)
 refine aj (f:=fun r=>[.b r]) ?_ fun w=> ?_
 ·refine aj (RY a.Shelf) fun rA=> ?_
  refine aU ?_
  refine aG ?_ ?_
  ·exact aa (rfl)
  ·refine aj (RZ a.bt) fun aY=> ?_
   refine aU ?_
   refine aG ?_ ?_
   ·exact aa (rfl)
   ·refine aj (R0 a.bh) fun cX=> ?_
    refine aU ?_
    refine aG ?_ ?_
    ·exact aa (rfl)
    ·refine aH (n:=a.Seen.length) (by simp only [List.length_map,List.length_cons,List.length_nil]) ?_
     exact aa (rfl)
 ·refine ah (aU (au ?_))
  refine aG ?_ ?_
  ·exact aa (rfl)
  ·refine aj (bP (fun r=>[.i .i64 r]) (Sum.elim (fun r=>(2,[])) (fun r=>(1,[.b r]))) (rfl) fun st=> ?_) fun w1=> ?_
   ·unfold sM
    refine ah (aK (au (aH (n:=a.Seen.length) (by simp only [List.length_map,List.length_cons,List.length_nil]) ?_)))
    refine aB ?_ ?_
    ·refine aX (f:=ik) (rfl) fun y=> ?_
     refine aJ (bl ?_)
     refine aj (f:=fun r=>[.b r]) ?_ fun w2=> ?_
     ·refine aB ?_ ?_
      ·exact aa (rfl)
      ·refine aB ?_ ?_
       ·exact aa (rfl)
       ·refine aB ?_ ?_
        ·exact aa (rfl)
        ·refine aB ?_ ?_
         ·refine aX (f:=ik) (rfl) fun y1=> ?_
          refine aJ (bl ?_)
          exact aa (rfl)
         ·exact aa (rfl)
     ·refine ah (aU (au ?_))
      refine aG ?_ ?_
      ·exact aa (rfl)
      ·exact aa (rfl)
    ·exact aa (rfl)
   ·rcases w1 with p1|p2
    ·refine eS rfl (au ?_)
     exact aa (rfl)
    ·refine eT rfl (bQ rfl (ah (aU (au ?_))))
     exact aa (rfl)
theorem VR (rA:af):Sm ik (A5 (ap rA)) (AP rA):=by
 unfold A5 AP
 refine aJ (bl ?_)
 exact aa (rfl)
theorem Mo (lA:List af):Sm (Of ik) (sN (.list (lA.map ap))) (pi lA):=by
 unfold sN pi
 refine a7 ?_
 refine aj (bP (fun r=>[.list (r.1.map ik),.i .i64 r.2]) (fun r=>(2,[.list (r.map ik)])) (rfl) fun st=> ?_) fun w=> ?_
 ·unfold mh
  refine yX (aH (n:=lA.length) (by simp only [List.length_map,List.length_cons,List.length_nil]) ?_)
  refine aB ?_ ?_
  ·refine aX (f:=ap) (rfl) fun y=> ?_
   refine aJ (bl ?_)
   refine aj (VR y) fun rA=> ?_
   refine aJ (bl (aH (n:=st.1.length) (by simp only [List.length_map,List.length_cons,List.length_nil]) (aH (n:=([rA]:List cS).length) (by simp only [List.length_map,List.length_cons,List.length_nil]) (cD ?_))))
   exact aa (by simp [eI])
  ·exact aa (rfl)
 ·refine bQ rfl (ah (a7 (au ?_)))
  exact aa (rfl)
theorem R3 (a:ak):Sm CY (yr (cQ a)) (uh a):=by
 unfold yr uh
 refine aJ (fL ?_)
 refine aj (Mo a.Seen) fun rA=> ?_
 refine a7 ?_
 refine aj (bP (fun r=>(v3 r)) (fun r=>(2,(v4 r))) (rfl) fun st=> ?_) fun w=> ?_
 ·unfold pj
  refine ah (a7 (ah (aK (ah (a7 (ah (a7 (yX (aH (n:=a.Shelf.L.length) (by simp only [List.length_map,List.length_cons,List.length_nil]) ?_)))))))))
  refine aB ?_ ?_
  ·refine aX (f:=aM) (rfl) fun y=> ?_
   refine aJ (gh (aH (n:=st.1.length) (by simp only [List.length_map,List.length_cons,List.length_nil]) (aH (n:=([(⟨y.Path,y.Value,y.Version,y.bI⟩:ew)]:List ew).length) (by simp only [List.length_map,List.length_cons,List.length_nil]) (cD ?_))))
   exact aa (by simp [eF,qt,ml,v3,v4])
  ·exact aa (rfl)
 ·refine bQ rfl (fL ?_)
  refine aj (bP (fun r=>(v3 r)) (fun r=>(4,(v4 r))) (rfl) fun dV=> ?_) fun w1=> ?_
  ·unfold pk
   refine ah (a7 (ah (aK (ah (a7 (ah (a7 (yX (aH (n:=a.bt.L.length) (by simp only [List.length_map,List.length_cons,List.length_nil]) ?_)))))))))
   refine aB ?_ ?_
   ·refine aX (f:=aN) (rfl) fun y1=> ?_
    refine aJ (wi (aH (n:=dV.2.2.1.length) (by simp only [List.length_map,List.length_cons,List.length_nil]) (aH (n:=([(⟨y1.Id,y1.Span,y1.cY⟩:bV)]:List bV).length) (by simp only [List.length_map,List.length_cons,List.length_nil]) (cD ?_))))
    exact aa (by simp [eF,qt,ml,v3,v4])
   ·exact aa (rfl)
  ·refine bQ rfl (fL ?_)
   refine aj (bP (fun r=>(v3 r)) (fun r=>(6,(v4 r))) (rfl) fun dH=> ?_) fun w2=> ?_
   ·unfold pn
    refine ah (a7 (ah (aK (ah (a7 (ah (a7 (yX (aH (n:=a.bh.L.length) (by simp only [List.length_map,List.length_cons,List.length_nil]) ?_)))))))))
    refine aB ?_ ?_
    ·refine aX (f:=aW) (rfl) fun y2=> ?_
     refine aJ (rQ (aH (n:=dH.2.2.2.1.length) (by simp only [List.length_map,List.length_cons,List.length_nil]) (aH (n:=([(⟨y2.Path,y2.Client,y2.Kids⟩:bJ)]:List bJ).length) (by simp only [List.length_map,List.length_cons,List.length_nil]) (cD ?_))))
     exact aa (by simp [eF,qt,ml,v3,v4])
    ·exact aa (rfl)
   ·refine bQ rfl (fL ?_)
    exact aa (rfl)
theorem DG (o:av):Sm du (mD (du o)) (ia o):=by
 unfold mD ia
 refine aJ (jK ?_)
 refine aB ?_ ?_
 ·exact aa (rfl)
 ·refine aj (f:=(fun r=>(0,[.b r]))) ?_ fun w=> ?_
  ·refine aB ?_ ?_
   ·exact aa (rfl)
   ·refine aj (f:=(fun r=>(0,[.b r]))) ?_ fun w1=> ?_
    ·refine aB ?_ ?_
     ·exact aa (rfl)
     ·refine aj (f:=(fun r=>(0,[.b r]))) ?_ fun w2=> ?_
      ·refine aB ?_ ?_
       ·exact aa (rfl)
       ·exact aa (rfl)
      ·refine bQ rfl (ah (aU (au ?_)))
       exact aa (rfl)
    ·refine bQ rfl (ah (aU (au ?_)))
     exact aa (rfl)
  ·refine bQ rfl (ah (aU (au ?_)))
   refine aG ?_ ?_
   ·exact aa (rfl)
   ·refine aB ?_ ?_
    ·exact aa (rfl)
    ·refine aB ?_ ?_
     ·exact aa (rfl)
     ·refine aB ?_ ?_
      ·exact aa (rfl)
      ·refine aj (f:=(fun r=>(0,[.b r]))) ?_ fun w3=> ?_
       ·refine aB ?_ ?_
        ·exact aa (rfl)
        ·exact aa (rfl)
       ·refine bQ rfl (ah (aU (au ?_)))
        refine aG ?_ ?_
        ·exact aa (rfl)
        ·refine aB ?_ ?_
         ·exact aa (rfl)
         ·exact aa (rfl)
theorem R4 (o:av):Sm MV.b (yt (du o)) (nb o):=by
 unfold yt nb
 refine aJ (jK ?_)
 refine aj (f:=fun r=>[.b r]) ?_ fun w=> ?_
 ·refine aB ?_ ?_
  ·refine aB ?_ ?_
   ·refine aB ?_ ?_
    ·exact aa (rfl)
    ·exact aa (rfl)
   ·exact aa (rfl)
  ·exact aa (rfl)
 ·refine ah (aU (au ?_))
  refine aj (f:=fun r=>[.b r]) ?_ fun w1=> ?_
  ·refine aG ?_ ?_
   ·refine aB ?_ ?_
    ·refine aB ?_ ?_
     ·refine aB ?_ ?_
      ·refine aB ?_ ?_
       ·refine aj (DG o) fun rA=> ?_
        refine aJ (jK ?_)
        exact aa (rfl)
       ·exact aa (rfl)
      ·exact aa (rfl)
     ·exact aa (rfl)
    ·exact aa (rfl)
   ·exact aa (rfl)
  ·refine ah (aU (au ?_))
   exact aa (rfl)
theorem Bf (x:Int):Sm MV.b (nH (.i .i64 x)) (nx x):=by
 unfold nH nx
 refine aK ?_
 exact aa (rfl)
theorem xC (x:Int) (y:Int):Sm (MV.i .i64) (kV (.i .i64 x) (.i .i64 y)) (ja x y):=by
 unfold kV ja
 refine aK (aK ?_)
 refine aj (Bf x) fun rA=> ?_
 refine aU ?_
 refine aj (Bf y) fun aY=> ?_
 refine aU ?_
 refine aG ?_ ?_
 ·refine aG ?_ ?_
  ·exact aa (rfl)
  ·exact aa (rfl)
 ·refine aG ?_ ?_
  ·exact aa (rfl)
  ·refine aB ?_ ?_
   ·exact aa (rfl)
   ·refine aB ?_ ?_
    ·exact aa (rfl)
    ·exact aa (rfl)
theorem zV (x:af) (eE:Int):Sm (MV.i .i64) (jE (ap x) (.i .i64 eE)) (cU x eE):=by
 unfold jE cU
 refine aJ (bl (aK ?_))
 refine aj (xC x.Client eE) fun rA=> ?_
 refine aK ?_
 exact aa (rfl)
theorem lV (x:List af) (target:Int) (cmp:af→Int→Option Int) {Ko:Nat} {n8:List MV} (Db:gv Ko=false) (eO: ∀(u0:af) (u1:Int),Sm (MV.i .i64) (cw Ko ([ap u0,.i .i64 u1]++n8)) (cmp u0 u1)):Sm (fun r=> .cK [.i .i64 r.1,.b r.2]) (cH (.list (x.map ap)) (.i .i64 target) (.func Ko n8)) (cF x target cmp):=by
 unfold cH cF
 refine a7 (aK (tq (aH (n:=x.length) (by simp only [List.length_map,List.length_cons,List.length_nil]) ?_)))
 refine aj (bP (fun r=>[.i .i64 r.1,.i .i64 r.2]) (fun r=>(2,[.i .i64 r])) (rfl) fun st=> ?_) fun w=> ?_
 ·unfold fp
  refine yW ?_
  refine aB ?_ ?_
  ·refine cD ?_
   refine aX (f:=ap) (rfl) fun y=> ?_
   refine aJ (bl (tp (bQ (by rw [Db];rfl) ?_)))
   refine aj (eO y target) fun rA=> ?_
   refine aK ?_
   refine aj (f:=(fun r=>(0,[.i .i64 r.1,.i .i64 r.2]))) ?_ fun w1=> ?_
   ·refine aB ?_ ?_
    ·exact aa (rfl)
    ·exact aa (rfl)
   ·refine bQ rfl (yW ?_)
    exact aa (rfl)
  ·exact aa (rfl)
 ·refine bQ rfl (ah (aK (au ?_)))
  refine aj (f:=fun r=>[.i .i64 r.1,.b r.2]) ?_ fun w2=> ?_
  ·refine aB ?_ ?_
   ·refine aX (f:=ap) (rfl) fun y1=> ?_
    refine aJ (bl (tp (bQ (by rw [Db];rfl) ?_)))
    refine aj (eO y1 target) fun aY=> ?_
    refine aK ?_
    exact aa (rfl)
   ·exact aa (rfl)
  ·refine Be ?_
   exact aa (rfl)
theorem uz (rA:ak) (eE:Int):Sm (fun r=> .cK [.i .i64 r.1,.b r.2]) (jg (cQ rA) (.i .i64 eE)) (eU rA eE):=by
 unfold jg eU
 refine aJ (fL (aK ?_))
 refine aj (lV rA.Seen eE cU (Ko:=120) (n8:=[]) rfl (fun u2 u3=>Sm.at (fP _ _) (zV u2 u3))) fun aY=> ?_
 refine cE (Be ?_)
 exact aa (rfl)
theorem Gl (rA:ak) (eE:Int):Sm (fun r=> .cK [ap r.1,.b r.2]) (rB (cQ rA) (.i .i64 eE)) (oq rA eE):=by
 unfold rB oq
 refine aJ (fL (aK ?_))
 refine aj (uz rA eE) fun aY=> ?_
 refine cE (Be ?_)
 refine aG ?_ ?_
 ·exact aa (rfl)
 ·refine aX (f:=ap) (rfl) fun y=> ?_
  refine aJ (bl ?_)
  exact aa (rfl)
theorem Ci (rA:ak) (o:av):Sm (fun r=> .cK [ap r.1,.b r.2]) (lE (cQ rA) (du o)) (jb rA o):=by
 unfold lE jb
 refine aJ (fL (aJ (jK ?_)))
 refine aj (Gl rA o.Client) fun aY=> ?_
 refine cE (ah (aJ (bl (ah (aU (au ?_))))))
 refine aj (R4 o) fun cX=> ?_
 refine aU ?_
 refine aj (f:=(Sum.elim (fun r=>(0,(v2 r))) (fun r=>(1,(v5 r))))) ?_ fun w=> ?_
 ·refine aG ?_ ?_
  ·exact aa (rfl)
  ·refine aj (f:=fun r=>[.b r]) ?_ fun w1=> ?_
   ·refine aG ?_ ?_
    ·exact aa (rfl)
    ·exact aa (rfl)
   ·refine ah (aU (au ?_))
    refine aG ?_ ?_
    ·exact aa (rfl)
    ·refine aj (f:=fun r=>[.b r]) ?_ fun w2=> ?_
     ·refine aG ?_ ?_
      ·exact aa (rfl)
      ·exact aa (rfl)
     ·refine ah (aU (au ?_))
      refine aj (f:=(Sum.elim (fun r=>(0,(v2 r))) (fun r=>(1,(v5 r))))) ?_ fun w3=> ?_
      ·refine aG ?_ ?_
       ·exact aa (rfl)
       ·refine aj (f:=fun r=>[.b r]) ?_ fun w4=> ?_
        ·refine aG ?_ ?_
         ·refine aH (n:=rA.Seen.length) (by simp only [List.length_map,List.length_cons,List.length_nil]) ?_
          exact aa (rfl)
         ·exact aa (rfl)
        ·refine ah (aU (au ?_))
         refine aG ?_ ?_
         ·exact aa (rfl)
         ·exact aa (rfl)
      ·rcases w3 with p2|p3
       ·refine eS rfl (ah (aK (ah (aK (ah (aK (ah (bo (ah (aK (ah ?_)))))))))))
        refine a7 (bl ?_)
        exact aa (rfl)
       ·refine eT rfl (bQ rfl (ah (aK (ah (aK (ah (aK (ah (bo (ah (aK ?_)))))))))))
        refine HG ?_
        exact aa (rfl)
 ·rcases w with p4|p5
  ·refine eS rfl (ah (aK (ah (aK (ah (aK (ah (bo (ah (aK (ah ?_)))))))))))
   refine a7 (bl ?_)
   exact aa (rfl)
  ·refine eT rfl (bQ rfl (ah (aK (ah (aK (ah (aK (ah (bo (ah (aK ?_)))))))))))
   refine HG ?_
   exact aa (rfl)
theorem zW (w:ai):Sm (fun r=> .ej ((fun _=> .cK []) r.1) (bC r.2)) (jF (bC w)) (mN w):=by
 unfold jF mN
 refine az ?_
 exact aa (rfl)
theorem Bg (x:aw) (id:Int):Sm (MV.i .i64) (kp (aN x) (.i .i64 id)) (df x id):=by
 unfold kp df
 refine aJ (wi (aK ?_))
 refine aj (xC x.Id id) fun rA=> ?_
 refine aK ?_
 exact aa (rfl)
theorem kY (x:List aw) (target:Int) (cmp:aw→Int→Option Int) {Ko:Nat} {n8:List MV} (Db:gv Ko=false) (eB: ∀(u0:aw) (u1:Int),Sm (MV.i .i64) (ch Ko ([aN u0,.i .i64 u1]++n8)) (cmp u0 u1)):Sm (fun r=> .cK [.i .i64 r.1,.b r.2]) (cy (.list (x.map aN)) (.i .i64 target) (.func Ko n8)) (cv x target cmp):=by
 unfold cy cv
 refine a7 (aK (tq (aH (n:=x.length) (by simp only [List.length_map,List.length_cons,List.length_nil]) ?_)))
 refine aj (bP (fun r=>[.i .i64 r.1,.i .i64 r.2]) (fun r=>(2,[.i .i64 r])) (rfl) fun st=> ?_) fun w=> ?_
 ·unfold eM
  refine yW ?_
  refine aB ?_ ?_
  ·refine cD ?_
   refine aX (f:=aN) (rfl) fun y=> ?_
   refine aJ (wi (tp (bQ (by rw [Db];rfl) ?_)))
   refine aj (eB y target) fun rA=> ?_
   refine aK ?_
   refine aj (f:=(fun r=>(0,[.i .i64 r.1,.i .i64 r.2]))) ?_ fun w1=> ?_
   ·refine aB ?_ ?_
    ·exact aa (rfl)
    ·exact aa (rfl)
   ·refine bQ rfl (yW ?_)
    exact aa (rfl)
  ·exact aa (rfl)
 ·refine bQ rfl (ah (aK (au ?_)))
  refine aj (f:=fun r=>[.i .i64 r.1,.b r.2]) ?_ fun w2=> ?_
  ·refine aB ?_ ?_
   ·refine aX (f:=aN) (rfl) fun y1=> ?_
    refine aJ (wi (tp (bQ (by rw [Db];rfl) ?_)))
    refine aj (eB y1 target) fun aY=> ?_
    refine aK ?_
    exact aa (rfl)
   ·exact aa (rfl)
  ·refine Be ?_
   exact aa (rfl)
theorem mI (b:aD) (id:Int):Sm (fun r=> .cK [.i .i64 r.1,.b r.2]) (fQ (dc b) (.i .i64 id)) (dQ b id):=by
 unfold fQ dQ
 refine aJ (zU (aK ?_))
 refine aj (kY b.L id df (Ko:=144) (n8:=[]) rfl (fun u2 u3=>Sm.at (fH _ _) (Bg u2 u3))) fun rA=> ?_
 refine cE (Be ?_)
 exact aa (rfl)
theorem R5 (b:aD) (id:Int):Sm MV.b (yu (dc b) (.i .i64 id)) (ui b id):=by
 unfold yu ui
 refine aJ (zU (aK ?_))
 refine aj (mI b id) fun rA=> ?_
 refine cE (Be ?_)
 exact aa (rfl)
theorem wH (sA:List UInt8) (dg:List UInt8):Sm MV.b (gJ (.s sA) (.s dg)) (gD sA dg):=by
 unfold gJ gD
 refine bo (bo ?_)
 refine aj (f:=fun r=>[.b r]) ?_ fun w=> ?_
 ·refine aB ?_ ?_
  ·refine cD ?_
   exact aa (rfl)
  ·exact aa (rfl)
 ·refine ah (aU (au ?_))
  exact aa (rfl)
theorem wI (sA:List UInt8) (dg:List UInt8):Sm (fun r=> .cK [.s r.1,.b r.2]) (gK (.s sA) (.s dg)) (gE sA dg):=by
 unfold gK gE
 refine bo (bo ?_)
 refine aj (wH sA dg) fun rA=> ?_
 refine aU ?_
 refine aG ?_ ?_
 ·exact aa (rfl)
 ·refine cD ?_
  exact aa (rfl)
theorem Bh (sA:List UInt8) (dg:List UInt8):Sm (fun r=> .cK [.s r.1,.b r.2]) (kq (.s sA) (.s dg)) (il sA dg):=by
 unfold kq il
 refine bo (bo ?_)
 refine aj (wI sA dg) fun rA=> ?_
 refine cE (ah (bo (ah (aU (au ?_)))))
 exact aa (rfl)
theorem HH (c:Int):Sm MV.b (oS (.i .i32 c)) (gk c):=by
 unfold oS gk
 refine aK ?_
 refine aj (Rw ([97,98,99,100,101,102,103,104,105,106,107,108,109,110,111,112,113,114,115,116,117,118,119,120,121,122,48,49,50,51,52,53,54,55,56,57,45,95]:List UInt8) c) fun rA=> ?_
 refine aU ?_
 exact aa (rfl)
theorem DH (sA:List UInt8) (f:Int→Option Bool) (CZ:Bool) {Ad:Nat} {r5:List MV} (He:gv Ad=false) (iF: ∀(u0:Int),Sm MV.b (iA Ad ([.i .i32 u0]++r5)) (f u0)):Sm (MV.i .i64) (mE (.s sA) (.func Ad r5) (.b CZ)) (mC sA f CZ):=by
 unfold mE mC
 refine bo (tq (aU ?_))
 refine aj (bP (fun r=>[.list r]) (Sum.elim (fun r=>(2,[])) (fun r=>(1,[.i .i64 r]))) (rfl) fun st=> ?_) fun w=> ?_
 ·unfold im
  refine ah (a7 (au ?_))
  refine aG ?_ ?_
  ·refine tp (bQ (by rw [He];rfl) ?_)
   refine aj (iF (wR st)) fun rA=> ?_
   refine aU ?_
   refine aB ?_ ?_
   ·exact aa (rfl)
   ·exact aa (rfl)
  ·exact aa (rfl)
 ·rcases w with p1|p2
  ·refine eS rfl (au ?_)
   exact aa (rfl)
  ·refine eT rfl (bQ rfl (ah (aK (au ?_))))
   exact aa (rfl)
theorem Bi (sA:List UInt8) (f:Int→Option Bool) {Ad:Nat} {r5:List MV} (He:gv Ad=false) (iF: ∀(u0:Int),Sm MV.b (iA Ad ([.i .i32 u0]++r5)) (f u0)):Sm (MV.i .i64) (kr (.s sA) (.func Ad r5)) (ko sA f):=by
 unfold kr ko
 refine bo (tq ?_)
 refine aj (DH sA f true He iF) fun rA=> ?_
 refine aK ?_
 exact aa (rfl)
theorem xD (sA:List UInt8) (f:Int→Option Bool) {Ad:Nat} {r5:List MV} (He:gv Ad=false) (iF: ∀(u0:Int),Sm MV.b (iA Ad ([.i .i32 u0]++r5)) (f u0)):Sm MV.b (iB (.s sA) (.func Ad r5)) (fq sA f):=by
 unfold iB fq
 refine bo (tq ?_)
 refine aj (Bi sA f He iF) fun rA=> ?_
 refine aK ?_
 exact aa (rfl)
theorem Mp (sA:List UInt8):Sm MV.b (sR (.s sA)) (po sA):=by
 unfold sR po
 refine bo ?_
 refine aj (f:=fun r=>[.b r]) ?_ fun w=> ?_
 ·refine aG ?_ ?_
  ·refine aB ?_ ?_
   ·refine aj (abX sA ([97,98,99,100,101,102,103,104,105,106,107,108,109,110,111,112,113,114,115,116,117,118,119,120,121,122,48,49,50,51,52,53,54,55,56,57,45,95]:List UInt8)) fun rA=> ?_
    refine bo ?_
    refine aB ?_ ?_
    ·refine aj (xD sA gk (Ad:=237) (r5:=[]) rfl (fun u1=>Sm.at (pT _) (HH u1))) fun aY=> ?_
     refine aU ?_
     exact aa (rfl)
    ·exact aa (rfl)
   ·exact aa (rfl)
  ·exact aa (rfl)
 ·refine ah (aU (au ?_))
  exact aa (rfl)
theorem Kp (sA:List UInt8):Sm MV.b (qu (.s sA)) (lu sA):=by
 unfold qu lu
 refine bo ?_
 refine aj (Mp sA) fun rA=> ?_
 refine aU ?_
 exact aa (rfl)
theorem vN (sA:List (List UInt8)) (f:(List UInt8)→Option Bool) {Ad:Nat} {r5:List MV} (He:gv Ad=false) (iL: ∀(u0:List UInt8),Sm MV.b (eZ Ad ([.s u0]++r5)) (f u0)):Sm (MV.i .i64) (ga (.list (sA.map MV.s)) (.func Ad r5)) (fY sA f):=by
 unfold ga fY
 refine a7 (tq (aH (n:=sA.length) (by simp only [List.length_map,List.length_cons,List.length_nil]) ?_))
 refine aj (bP (fun r=>[.i .i64 r]) (Sum.elim (fun r=>(2,[])) (fun r=>(1,[.i .i64 r]))) (rfl) fun st=> ?_) fun w=> ?_
 ·unfold dL
  refine ah (aK (au ?_))
  refine aB ?_ ?_
  ·refine aX (f:=MV.s) (rfl) fun y=> ?_
   refine bo (tp (bQ (by rw [He];rfl) ?_))
   refine aj (iL y) fun rA=> ?_
   refine aU ?_
   refine aG ?_ ?_
   ·exact aa (rfl)
   ·exact aa (rfl)
  ·exact aa (rfl)
 ·rcases w with p1|p2
  ·refine eS rfl (au ?_)
   exact aa (rfl)
  ·refine eT rfl (bQ rfl (ah (aK (au ?_))))
   exact aa (rfl)
theorem sb (sA:List (List UInt8)) (f:(List UInt8)→Option Bool) {Ad:Nat} {r5:List MV} (He:gv Ad=false) (iL: ∀(u0:List UInt8),Sm MV.b (eZ Ad ([.s u0]++r5)) (f u0)):Sm MV.b (eJ (.list (sA.map MV.s)) (.func Ad r5)) (dy sA f):=by
 unfold eJ dy
 refine a7 (tq ?_)
 refine aj (vN sA f He iL) fun rA=> ?_
 refine aK ?_
 exact aa (rfl)
theorem oz (p:List UInt8):Sm (fun r=> .cK [.list (r.1.map MV.s),.b r.2]) (jH (.s p)) (gn p):=by
 unfold jH gn
 refine bo ?_
 refine aj (Bh p ([47]:List UInt8)) fun rA=> ?_
 refine cE (ah (bo (ah (aU (au ?_)))))
 refine aj (f:=fun r=>[.b r]) ?_ fun w=> ?_
 ·refine aG ?_ ?_
  ·exact aa (rfl)
  ·exact aa (rfl)
 ·refine ah (aU (au ?_))
  refine aG ?_ ?_
  ·exact aa (rfl)
  ·refine aB ?_ ?_
   ·exact aa (rfl)
   ·refine aj (Yk rA.1 ([47]:List UInt8)) fun aY=> ?_
    refine qX ?_
    refine aj (f:=fun r=>[.list (r.1.map MV.s),.b r.2.1,.list (r.2.2.map MV.s)]) ?_ fun w1=> ?_
    ·refine aH (n:=aY.length) (by simp only [List.length_map,List.length_cons,List.length_nil]) ?_
     refine aB ?_ ?_
     ·refine aj (sb aY lu (Ad:=196) (r5:=[]) rfl (fun u1=>Sm.at (mR _) (Kp u1))) fun cX=> ?_
      refine aU ?_
      exact aa (rfl)
     ·exact aa (rfl)
    ·refine ah (a7 (ah (aU (ah (a7 (au ?_))))))
     exact aa (rfl)
theorem wj (x:List UInt8):Sm MV.b (jZ (.s x)) (jT x):=by
 unfold jZ jT
 refine bo ?_
 exact aa (rfl)
theorem Bj (x:List UInt8) (y:List UInt8):Sm (MV.i .i64) (ku (.s x) (.s y)) (iq x y):=by
 unfold ku iq
 refine bo (bo ?_)
 refine aj (wj x) fun rA=> ?_
 refine aU ?_
 refine aj (wj y) fun aY=> ?_
 refine aU ?_
 refine aG ?_ ?_
 ·refine aG ?_ ?_
  ·exact aa (rfl)
  ·exact aa (rfl)
 ·refine aG ?_ ?_
  ·exact aa (rfl)
  ·refine aG ?_ ?_
   ·exact aa (rfl)
   ·refine aG ?_ ?_
    ·exact aa (rfl)
    ·exact aa (rfl)
theorem xF (s1:List (List UInt8)) (s2:List (List UInt8)):Sm (MV.i .i64) (iC (.list (s1.map MV.s)) (.list (s2.map MV.s))) (ft s1 s2):=by
 unfold iC ft
 refine a7 (a7 (aH (n:=s1.length) (by simp only [List.length_map,List.length_cons,List.length_nil]) ?_))
 refine aj (bP (fun r=>[.i .i64 r]) (Sum.elim (fun r=>(2,[])) (fun r=>(1,[.i .i64 r]))) (rfl) fun st=> ?_) fun w=> ?_
 ·unfold ey
  refine ah (aK (au ?_))
  refine aB ?_ ?_
  ·refine aX (f:=MV.s) (rfl) fun y=> ?_
   refine bo (aH (n:=s2.length) (by simp only [List.length_map,List.length_cons,List.length_nil]) ?_)
   refine aB ?_ ?_
   ·exact aa (rfl)
   ·refine aX (f:=MV.s) (rfl) fun y1=> ?_
    refine bo ?_
    refine aj (Bj y y1) fun rA=> ?_
    refine aK ?_
    refine aG ?_ ?_
    ·exact aa (rfl)
    ·exact aa (rfl)
  ·exact aa (rfl)
 ·rcases w with p1|p2
  ·refine eS rfl (au (aH (n:=s1.length) (by simp only [List.length_map,List.length_cons,List.length_nil]) (aH (n:=s2.length) (by simp only [List.length_map,List.length_cons,List.length_nil]) ?_)))
   refine aB ?_ ?_
   ·exact aa (rfl)
   ·exact aa (rfl)
  ·refine eT rfl (bQ rfl (ah (aK (au ?_))))
   exact aa (rfl)
theorem OB (p:List UInt8) (q:List UInt8):Sm MV.b (vr (.s p) (.s q)) (q9 p q):=by
 unfold vr q9
 refine bo (bo ?_)
 refine aj (oz p) fun rA=> ?_
 refine cE (HG ?_)
 refine aj (oz q) fun aY=> ?_
 refine cE (HG ?_)
 refine aj (f:=fun r=>[.b r]) ?_ fun w=> ?_
 ·refine aG ?_ ?_
  ·refine aG ?_ ?_
   ·refine aj (xF rA.1 aY.1) fun cX=> ?_
    refine aK ?_
    exact aa (rfl)
   ·exact aa (rfl)
  ·exact aa (rfl)
 ·refine ah (aU (au ?_))
  exact aa (rfl)
theorem zX (n:ae) (p:List UInt8):Sm (MV.i .i64) (jI (aM n) (.s p)) (cf n p):=by
 unfold jI cf
 refine aJ (gh (bo ?_))
 refine aB ?_ ?_
 ·exact aa (rfl)
 ·refine aj (OB n.Path p) fun rA=> ?_
  refine aU ?_
  refine aG ?_ ?_
  ·exact aa (rfl)
  ·exact aa (rfl)
theorem kZ (x:List ae) (target:List UInt8) (cmp:ae→(List UInt8)→Option Int) {Ko:Nat} {n8:List MV} (Db:gv Ko=false) (eC: ∀(u0:ae) (u1:List UInt8),Sm (MV.i .i64) (cj Ko ([aM u0,.s u1]++n8)) (cmp u0 u1)):Sm (fun r=> .cK [.i .i64 r.1,.b r.2]) (cz (.list (x.map aM)) (.s target) (.func Ko n8)) (dp x target cmp):=by
 unfold cz dp
 refine a7 (bo (tq (aH (n:=x.length) (by simp only [List.length_map,List.length_cons,List.length_nil]) ?_)))
 refine aj (bP (fun r=>[.i .i64 r.1,.i .i64 r.2]) (fun r=>(2,[.i .i64 r])) (rfl) fun st=> ?_) fun w=> ?_
 ·unfold eN
  refine yW ?_
  refine aB ?_ ?_
  ·refine cD ?_
   refine aX (f:=aM) (rfl) fun y=> ?_
   refine aJ (gh (tp (bQ (by rw [Db];rfl) ?_)))
   refine aj (eC y target) fun rA=> ?_
   refine aK ?_
   refine aj (f:=(fun r=>(0,[.i .i64 r.1,.i .i64 r.2]))) ?_ fun w1=> ?_
   ·refine aB ?_ ?_
    ·exact aa (rfl)
    ·exact aa (rfl)
   ·refine bQ rfl (yW ?_)
    exact aa (rfl)
  ·exact aa (rfl)
 ·refine bQ rfl (ah (aK (au ?_)))
  refine aj (f:=fun r=>[.i .i64 r.1,.b r.2]) ?_ fun w2=> ?_
  ·refine aB ?_ ?_
   ·refine aX (f:=aM) (rfl) fun y1=> ?_
    refine aJ (gh (tp (bQ (by rw [Db];rfl) ?_)))
    refine aj (eC y1 target) fun aY=> ?_
    refine aK ?_
    exact aa (rfl)
   ·exact aa (rfl)
  ·refine Be ?_
   exact aa (rfl)
theorem uA (sA:ay) (p:List UInt8):Sm (fun r=> .cK [.i .i64 r.1,.b r.2]) (jh (b7 sA) (.s p)) (dY sA p):=by
 unfold jh dY
 refine aJ (ah (a7 (au (bo ?_))))
 refine aj (kZ sA.L p cf (Ko:=245) (n8:=[]) rfl (fun u2 u3=>Sm.at (fA _ _) (zX u2 u3))) fun rA=> ?_
 refine cE (Be ?_)
 exact aa (rfl)
theorem rR (p:List UInt8):Sm MV.b (kW (.s p)) (jC p):=by
 unfold kW jC
 refine bo ?_
 refine aj (oz p) fun rA=> ?_
 refine cE (HG ?_)
 exact aa (rfl)
theorem qB (sA:List UInt8) (c:Int):Sm (MV.i .i64) (ec (.s sA) (.i .u8 c)) (ea sA c):=by
 unfold ec ea
 refine bo (aK ?_)
 refine aj (bP (fun r=>[.i .i64 r]) (Sum.elim (fun r=>(2,[])) (fun r=>(1,[.i .i64 r]))) (rfl) fun st=> ?_) fun w=> ?_
 ·unfold dF
  refine ah (aK (au ?_))
  refine aB ?_ ?_
  ·refine cD ?_
   refine aB ?_ ?_
   ·exact aa (rfl)
   ·exact aa (rfl)
  ·exact aa (rfl)
 ·rcases w with p1|p2
  ·refine eS rfl (au ?_)
   exact aa (rfl)
  ·refine eT rfl (bQ rfl (ah (aK (au ?_))))
   exact aa (rfl)
theorem tE (sep:List UInt8):Sm (fun r=> .cK [.i .u32 r.1,.i .u32 r.2]) (e8 (.s sep)) (iJ sep):=by
 unfold e8 iJ
 refine bo ?_
 refine aj (bP (fun r=>[.i .u32 r.1,.i .i64 r.2]) (fun r=>(2,[.i .u32 r])) (rfl) fun st=> ?_) fun w=> ?_
 ·unfold kP
  refine yW ?_
  refine aB ?_ ?_
  ·refine cD ?_
   exact aa (rfl)
  ·exact aa (rfl)
 ·refine bQ rfl (ah (aK (au ?_)))
  refine aj (bP (fun r=>[.i .u32 r.1,.i .u32 r.2.1,.i .i64 r.2.2]) (fun r=>(4,[.i .u32 r])) (rfl) fun dV=> ?_) fun w1=> ?_
  ·unfold kQ
   refine wi ?_
   refine aB ?_ ?_
   ·exact Yg
   ·exact aa (rfl)
  ·refine bQ rfl (ah (aK (au ?_)))
   exact aa (rfl)
theorem nQ (a:List UInt8) (a1:List UInt8):Sm (MV.i .i64) (dh (.s a) (.s a1)) (ez a a1):=by
 unfold dh ez
 refine bo (bo ?_)
 refine aj (tE a1) fun rA=> ?_
 refine cE (yW ?_)
 refine aj (bP (fun r=>[.i .u32 r.1,.i .i64 r.2]) (fun r=>(2,[.i .u32 r])) (rfl) fun st=> ?_) fun w=> ?_
 ·unfold gp
  refine yW ?_
  refine aB ?_ ?_
  ·refine cD ?_
   exact aa (rfl)
  ·exact aa (rfl)
 ·refine bQ rfl (ah (aK (au ?_)))
  refine aj (f:=fun r=>[.b r]) ?_ fun w1=> ?_
  ·refine aB ?_ ?_
   ·refine cD ?_
    exact aa (rfl)
   ·exact aa (rfl)
  ·refine ah (aU (au ?_))
   refine aG ?_ ?_
   ·exact aa (rfl)
   ·refine aj (bP (fun r=>[.i .u32 r.1,.i .i64 r.2]) (Sum.elim (fun r=>(4,[])) (fun r=>(1,[.i .i64 r]))) (rfl) fun dV=> ?_) fun w2=> ?_
    ·unfold gq
     refine yW ?_
     refine aB ?_ ?_
     ·refine cD (cD ?_)
      refine aj (f:=fun r=>[.b r]) ?_ fun w3=> ?_
      ·refine aB ?_ ?_
       ·refine cD ?_
        exact aa (rfl)
       ·exact aa (rfl)
      ·refine ah (aU (au ?_))
       refine aG ?_ ?_
       ·exact aa (rfl)
       ·exact aa (rfl)
     ·exact aa (rfl)
    ·rcases w2 with p2|p3
     ·refine eS rfl (au ?_)
      exact aa (rfl)
     ·refine eT rfl (bQ rfl (ah (aK (au ?_))))
      exact aa (rfl)
theorem Bk (sA:List UInt8) (substr:List UInt8):Sm (MV.i .i64) (kw (.s sA) (.s substr)) (ir sA substr):=by
 unfold kw ir
 refine bo (bo ?_)
 refine aB ?_ ?_
 ·exact aa (rfl)
 ·refine aB ?_ ?_
  ·refine cD ?_
   refine aj (qB sA ((substr.getD (Int.toNat 0) 0).toNat:Int)) fun rA=> ?_
   refine aK ?_
   exact aa (rfl)
  ·refine aB ?_ ?_
   ·refine aB ?_ ?_
    ·exact aa (rfl)
    ·exact aa (rfl)
   ·refine aB ?_ ?_
    ·exact aa (rfl)
    ·refine aj (nQ sA substr) fun aY=> ?_
     refine aK ?_
     exact aa (rfl)
theorem Dc (p:List UInt8):Sm (fun r=> .cK [.s r.1,.i .i64 r.2]) (pB (.s p)) (nd p):=by
 unfold pB nd
 refine bo ?_
 refine aj (rR p) fun rA=> ?_
 refine aU ?_
 refine aG ?_ ?_
 ·exact aa (rfl)
 ·refine aB ?_ ?_
  ·exact aa (rfl)
  ·refine aj (Bk p ([47]:List UInt8)) fun aY=> ?_
   refine aK (cD ?_)
   exact aa (rfl)
theorem pY (sA:ay) (p:List UInt8):Sm (fun r=> .cK [.i .i64 r.1,.i .i64 r.2]) (ic (b7 sA) (.s p)) (fO sA p):=by
 unfold ic fO
 refine aJ (ah (a7 (au (bo ?_))))
 refine aj (rR p) fun rA=> ?_
 refine aU ?_
 refine aG ?_ ?_
 ·exact aa (rfl)
 ·refine aj (uA sA p) fun aY=> ?_
  refine cE (Be ?_)
  refine aG ?_ ?_
  ·exact aa (rfl)
  ·exact aa (rfl)
theorem Cj (sA:ay) (p:List UInt8):Sm (fun r=> .cK [aM r.1,.i .i64 r.2]) (qJ (b7 sA) (.s p)) (ot sA p):=by
 unfold qJ ot
 refine aJ (ah (a7 (au (bo ?_))))
 refine aj (pY sA p) fun rA=> ?_
 refine cE (yW ?_)
 refine aG ?_ ?_
 ·exact aa (rfl)
 ·refine aX (f:=aM) (rfl) fun y=> ?_
  refine aJ (gh ?_)
  exact aa (rfl)
theorem Gm (c:List UInt8) (c1:Bool) (c2:ay) (c3:List UInt8) (c4:Int):Sm (MV.i .i64) (nK (.rp [.s c]) (.rp [.b c1]) (.rp [.list (c2.L.map aM)]) (.rp [.s c3]) (.rp [.i .i64 c4])) (gu c c1 c2 c3 c4):=by
 unfold nK gu
 refine IC (ah (bo (au (IC (ah (aU (au (IC (ah (a7 (au ?_)))))))))))
 refine IC (ah (bo (au (IC (ah (aK (au ?_)))))))
 refine aj (rR c) fun rA=> ?_
 refine aU ?_
 refine aG ?_ ?_
 ·exact aa (rfl)
 ·refine aG ?_ ?_
  ·exact aa (rfl)
  ·refine aj (Dc c) fun aY=> ?_
   refine cE (ah (bo (ah (aK (au ?_)))))
   refine aj (Cj c2 aY.1) fun cX=> ?_
   refine cE (ah (aJ (gh (ah (aK (au ?_))))))
   refine aG ?_ ?_
   ·exact aa (rfl)
   ·refine aG ?_ ?_
    ·exact aa (rfl)
    ·refine aB ?_ ?_
     ·exact aa (rfl)
     ·refine aB ?_ ?_
      ·exact aa (rfl)
      ·refine aH (n:=c2.L.length) (by simp only [List.length_map,List.length_cons,List.length_nil]) ?_
       refine aB ?_ ?_
       ·exact aa (rfl)
       ·exact aa (rfl)
theorem Kq (sA:ay) (p:List UInt8) (value:List UInt8) (owner:Int):Sm (fun r=> .cK [b7 r.1,.i .i64 r.2]) (qv (b7 sA) (.s p) (.s value) (.i .i64 owner)) (lz sA p value owner):=by
 unfold qv lz
 refine aJ (ah (a7 (au (bo (bo (aK ?_))))))
 refine aj (uA sA p) fun rA=> ?_
 refine cE (Be ?_)
 refine aj (Gm p rA.2 sA value owner) fun aY=> ?_
 refine aK ?_
 refine aG ?_ ?_
 ·exact aa (rfl)
 ·refine DU ?_
  refine aj (qp (size:=4) (f:=aM) (fun _=>rfl) sA.L) fun cX=> ?_
  refine qX ?_
  refine aj (Fi (f:=aM) cX rA.1 ([(⟨p,value,0,owner⟩:ae)]:List ae)) fun oo=> ?_
  refine qX ?_
  exact aa (rfl)
theorem mT (w:ai) (kind:Int):Sm (fun r=> .ej ((fun _=> .cK []) r.1) (bC r.2)) (eX (bC w) (.i .i64 kind)) (dq w kind):=by
 unfold eX dq
 refine aK (az ?_)
 refine aj (f:=(fun r=>(0,(v1 r)))) ?_ fun w1=> ?_
 ·refine aB ?_ ?_
  ·refine aH (n:=w.l.length) (by simp only [List.length_map,List.length_cons,List.length_nil]) (aH (n:=([(⟨kind,w.o.Path⟩:aF)]:List aF).length) (by simp only [List.length_map,List.length_cons,List.length_nil]) (cD ?_))
   exact aa (by simp [bC,ar,v1])
  ·exact aa (rfl)
 ·refine bQ rfl (az ?_)
  exact aa (rfl)
theorem Bl (w:ai):Sm (fun r=> .ej ((fun _=> .cK []) r.1) (bC r.2)) (kz (bC w)) (iu w):=by
 unfold kz iu
 refine az ?_
 refine aj (f:=fun r=>[.b r]) ?_ fun w1=> ?_
 ·refine aG ?_ ?_
  ·refine aj (R5 w.r.bt w.o.Session) fun rA=> ?_
   refine aU ?_
   exact aa (rfl)
  ·exact aa (rfl)
 ·refine ah (aU (au ?_))
  refine aG ?_ ?_
  ·exact aa (rfl)
  ·refine aj (Kq w.r.Shelf w.o.Path w.o.Value w.o.Session) fun aY=> ?_
   refine cE (ah (aJ (ah (a7 (au (ah (aK (au ?_))))))))
   refine aj (mT (⟨(⟨aY.1,w.r.bt,w.r.bh,w.r.Seen⟩:ak),w.o,(⟨w.x.Client,w.x.Seq,aY.2,w.x.Value,w.x.Version,w.x.Names⟩:af),w.l⟩:ai) 1) fun cX=> ?_
   refine IB (az ?_)
   exact aa (rfl)
theorem Gn (w:ai):Sm (fun r=> .ej ((fun _=> .cK []) r.1) (bC r.2)) (nL (bC w)) (kR w):=by
 unfold nL kR
 refine az ?_
 refine aj (Cj w.r.Shelf w.o.Path) fun rA=> ?_
 refine cE (ah (aJ (gh (ah (aK (au ?_))))))
 exact aa (rfl)
theorem pG (sA:ay) (p:List UInt8) (version:Int):Sm (fun r=> .cK [.i .i64 r.1,.i .i64 r.2]) (fC (b7 sA) (.s p) (.i .i64 version)) (dZ sA p version):=by
 unfold fC dZ
 refine aJ (ah (a7 (au (bo (aK ?_)))))
 refine aj (pY sA p) fun rA=> ?_
 refine cE (yW ?_)
 refine aj (f:=fun r=>[.b r]) ?_ fun w=> ?_
 ·refine aB ?_ ?_
  ·refine aG ?_ ?_
   ·refine aX (f:=aM) (rfl) fun y=> ?_
    refine aJ (gh ?_)
    exact aa (rfl)
   ·exact aa (rfl)
  ·exact aa (rfl)
 ·refine ah (aU (au ?_))
  refine aG ?_ ?_
  ·exact aa (rfl)
  ·exact aa (rfl)
theorem R6 (sA:ay) (p:List UInt8) (value:List UInt8) (version:Int):Sm (fun r=> .cK [b7 r.1,.i .i64 r.2]) (yv (b7 sA) (.s p) (.s value) (.i .i64 version)) (uj sA p value version):=by
 unfold yv uj
 refine aJ (ah (a7 (au (bo (bo (aK ?_))))))
 refine aj (pG sA p version) fun rA=> ?_
 refine cE (yW ?_)
 refine aG ?_ ?_
 ·exact aa (rfl)
 ·refine aB ?_ ?_
  ·exact aa (rfl)
  ·refine aX (f:=aM) (rfl) fun y=> ?_
   refine aJ (gh ?_)
   refine aB ?_ ?_
   ·exact aa (rfl)
   ·refine aj (qp (size:=4) (f:=aM) (fun _=>rfl) sA.L) fun aY=> ?_
    refine qX ?_
    refine aX (f:=aM) (rfl) fun y1=> ?_
    refine aJ (gh ?_)
    refine aX (f:=aM) (by simp only [List.map_replicate,List.map_append,List.map_cons,List.map_nil,List.map_take,List.map_drop,List.map_set]) fun y2=> ?_
    refine aJ (gh ?_)
    refine aX (f:=aM) (by simp only [List.map_replicate,List.map_append,List.map_cons,List.map_nil,List.map_take,List.map_drop,List.map_set]) fun y3=> ?_
    refine aJ (gh ?_)
    exact aa (by simp [ml])
theorem Gp (w:ai):Sm (fun r=> .ej ((fun _=> .cK []) r.1) (bC r.2)) (nM (bC w)) (kS w):=by
 unfold nM kS
 refine az ?_
 refine aj (R6 w.r.Shelf w.o.Path w.o.Value w.o.Version) fun rA=> ?_
 refine cE (ah (aJ (ah (a7 (au (ah (aK (au ?_))))))))
 refine aj (mT (⟨(⟨rA.1,w.r.bt,w.r.bh,w.r.Seen⟩:ak),w.o,(⟨w.x.Client,w.x.Seq,rA.2,w.x.Value,w.x.Version,w.x.Names⟩:af),w.l⟩:ai) 2) fun aY=> ?_
 refine IB (az ?_)
 refine aj (f:=(fun r=>(0,(v1 r)))) ?_ fun w1=> ?_
 ·refine aB ?_ ?_
  ·refine aj (Cj aY.2.r.Shelf aY.2.o.Path) fun cX=> ?_
   refine cE (ah (aJ (gh (ah (aK (au ?_))))))
   exact aa (rfl)
  ·exact aa (rfl)
 ·refine bQ rfl (az ?_)
  exact aa (rfl)
theorem rS (s1:List (List UInt8)) (s2:List (List UInt8)):Sm MV.b (gx (.list (s1.map MV.s)) (.list (s2.map MV.s))) (eV s1 s2):=by
 unfold gx eV
 refine a7 (a7 (aH (n:=s1.length) (by simp only [List.length_map,List.length_cons,List.length_nil]) (aH (n:=s2.length) (by simp only [List.length_map,List.length_cons,List.length_nil]) ?_)))
 refine aG ?_ ?_
 ·exact aa (rfl)
 ·refine aH (n:=s1.length) (by simp only [List.length_map,List.length_cons,List.length_nil]) ?_
  refine aj (bP (fun r=>[.i .i64 r]) (Sum.elim (fun r=>(2,[])) (fun r=>(1,[.b r]))) (rfl) fun st=> ?_) fun w=> ?_
  ·unfold iv
   refine ah (aK (au ?_))
   refine aB ?_ ?_
   ·refine aX (f:=MV.s) (rfl) fun y=> ?_
    refine bo ?_
    refine aX (f:=MV.s) (rfl) fun y1=> ?_
    refine bo ?_
    refine aG ?_ ?_
    ·exact aa (rfl)
    ·exact aa (rfl)
   ·exact aa (rfl)
  ·rcases w with p1|p2
   ·refine eS rfl (au ?_)
    exact aa (rfl)
   ·refine eT rfl (bQ rfl (ah (aU (au ?_))))
    exact aa (rfl)
theorem Gq (p:List UInt8) (q:List UInt8):Sm MV.b (rI (.s p) (.s q)) (mO p q):=by
 unfold rI mO
 refine bo (bo ?_)
 refine aj (oz p) fun rA=> ?_
 refine cE (HG ?_)
 refine aj (oz q) fun aY=> ?_
 refine cE (HG ?_)
 refine aj (f:=fun r=>[.b r]) ?_ fun w=> ?_
 ·refine aG ?_ ?_
  ·refine aG ?_ ?_
   ·refine aH (n:=aY.1.length) (by simp only [List.length_map,List.length_cons,List.length_nil]) (aH (n:=rA.1.length) (by simp only [List.length_map,List.length_cons,List.length_nil]) ?_)
    refine aB ?_ ?_
    ·refine aH (n:=rA.1.length) (by simp only [List.length_map,List.length_cons,List.length_nil]) (aH (n:=aY.1.length) (by simp only [List.length_map,List.length_cons,List.length_nil]) (cD ?_))
     refine aj (by simpa using rS rA.1 (List.drop (Int.toNat 0) (List.take (Int.toNat (rA.1.length:Int)) aY.1))) fun cX=> ?_
     refine aU ?_
     exact aa (rfl)
    ·exact aa (rfl)
   ·exact aa (rfl)
  ·exact aa (rfl)
 ·refine ah (aU (au ?_))
  exact aa (rfl)
theorem Kr (sA:ay) (p:List UInt8) (version:Int):Sm (fun r=> .cK [b7 r.1,.i .i64 r.2]) (qw (b7 sA) (.s p) (.i .i64 version)) (ny sA p version):=by
 unfold qw ny
 refine aJ (ah (a7 (au (bo (aK ?_)))))
 refine aj (pG sA p version) fun rA=> ?_
 refine cE (yW ?_)
 refine aB ?_ ?_
 ·exact aa (rfl)
 ·refine aG ?_ ?_
  ·exact aa (rfl)
  ·refine aj (f:=fun r=>[.b r]) ?_ fun w=> ?_
   ·refine aH (n:=sA.L.length) (by simp only [List.length_map,List.length_cons,List.length_nil]) ?_
    refine aB ?_ ?_
    ·refine aX (f:=aM) (rfl) fun y=> ?_
     refine aJ (gh ?_)
     refine aj (Gq p y.Path) fun aY=> ?_
     refine aU ?_
     exact aa (rfl)
    ·exact aa (rfl)
   ·refine ah (aU (au ?_))
    refine aG ?_ ?_
    ·exact aa (rfl)
    ·refine aj (qp (size:=4) (f:=aM) (fun _=>rfl) sA.L) fun cX=> ?_
     refine qX ?_
     refine aj (LV (f:=aM) cX rA.1 (IntKind.wrap .i64 (rA.1+1))) fun oo=> ?_
     refine qX ?_
     exact aa (rfl)
theorem Bm (w:ai):Sm (fun r=> .ej ((fun _=> .cK []) r.1) (bC r.2)) (kA (bC w)) (iw w):=by
 unfold kA iw
 refine az ?_
 refine aj (Kr w.r.Shelf w.o.Path w.o.Version) fun rA=> ?_
 refine cE (ah (aJ (ah (a7 (au (ah (aK (au ?_))))))))
 refine aj (mT (⟨(⟨rA.1,w.r.bt,w.r.bh,w.r.Seen⟩:ak),w.o,(⟨w.x.Client,w.x.Seq,rA.2,w.x.Value,w.x.Version,w.x.Names⟩:af),w.l⟩:ai) 3) fun aY=> ?_
 refine IB (az ?_)
 exact aa (rfl)
theorem Gr (p:List UInt8):Sm (fun r=> .cK [.list (r.1.map MV.s),.i .i64 r.2]) (rJ (.s p)) (ou p):=by
 unfold rJ ou
 refine bo ?_
 refine aj (oz p) fun rA=> ?_
 refine cE (HG ?_)
 refine aG ?_ ?_
 ·exact aa (rfl)
 ·exact aa (rfl)
theorem OC (a:ay) (a1:List UInt8):Sm (fun r=> .cK [.list (r.1.map MV.s),.i .i64 r.2]) (vw (b7 a) (.s a1)) (ra a a1):=by
 unfold vw ra
 refine aJ (ah (a7 (au (bo ?_))))
 refine aj (pY a a1) fun rA=> ?_
 refine cE (yW ?_)
 refine aG ?_ ?_
 ·exact aa (rfl)
 ·refine aj (Gr a1) fun aY=> ?_
  refine cE (yX (bQ (J5 (rfl:_=List.map aM a.L) fun _=>rfl) (aH (n:=a.L.length) (by simp only [List.length_map,List.length_cons,List.length_nil]) (cD (aH (n:=(List.drop (Int.toNat (IntKind.wrap .i64 (rA.1+1))) (List.take (Int.toNat (a.L.length:Int)) a.L)).length) (by simp only [List.length_map,List.length_append,List.length_cons,List.length_nil,List.length_take,List.length_drop,List.length_set]) ?_)))))
  refine aj (bP (fun r=>[.list (r.1.map MV.s),.i .i64 r.2]) (fun r=>(2,[.list (r.map MV.s)])) (rfl) fun st=> ?_) fun w=> ?_
  ·unfold nz
   refine yX ?_
   refine aB ?_ ?_
   ·refine aX (f:=aM) (by simp only [List.map_replicate,List.map_append,List.map_cons,List.map_nil,List.map_take,List.map_drop,List.map_set]) fun y=> ?_
    refine aJ (gh ?_)
    refine aj (Gq a1 y.Path) fun cX=> ?_
    refine aU ?_
    refine aG ?_ ?_
    ·exact aa (rfl)
    ·refine aj (Gr y.Path) fun oo=> ?_
     refine cE (yX (aH (n:=oo.1.length) (by simp only [List.length_map,List.length_cons,List.length_nil]) (aH (n:=aY.1.length) (by simp only [List.length_map,List.length_cons,List.length_nil]) ?_)))
     refine aj (f:=(fun r=>(0,[.list (r.map MV.s)]))) ?_ fun w1=> ?_
     ·refine aB ?_ ?_
      ·refine aH (n:=aY.1.length) (by simp only [List.length_map,List.length_cons,List.length_nil]) ?_
       refine aX (f:=MV.s) (rfl) fun y1=> ?_
       refine bo (aH (n:=st.1.length) (by simp only [List.length_map,List.length_cons,List.length_nil]) (aH (n:=([y1]:List (List UInt8)).length) (by simp only [List.length_map,List.length_cons,List.length_nil]) (cD ?_)))
       exact aa (by simp)
      ·exact aa (rfl)
     ·refine bQ rfl (ah (a7 (au ?_)))
      exact aa (rfl)
   ·exact aa (rfl)
  ·refine bQ rfl (ah (a7 (au ?_)))
   exact aa (rfl)
theorem DI (w:ai):Sm (fun r=> .ej ((fun _=> .cK []) r.1) (bC r.2)) (mF (bC w)) (jU w):=by
 unfold mF jU
 refine az ?_
 refine aj (OC w.r.Shelf w.o.Path) fun rA=> ?_
 refine cE (yX ?_)
 exact aa (rfl)
theorem OD (b:aD) (id:Int) (span:Int):Sm (fun r=> .cK [dc r.1,.i .i64 r.2]) (vz (dc b) (.i .i64 id) (.i .i64 span)) (rc b id span):=by
 unfold vz rc
 refine aJ (zU (aK (aK ?_)))
 refine aj (mI b id) fun rA=> ?_
 refine cE (Be ?_)
 refine aj (f:=fun r=>[.b r]) ?_ fun w=> ?_
 ·refine aB ?_ ?_
  ·exact aa (rfl)
  ·refine aB ?_ ?_
   ·exact aa (rfl)
   ·exact aa (rfl)
 ·refine ah (aU (au ?_))
  refine aG ?_ ?_
  ·exact aa (rfl)
  ·refine aG ?_ ?_
   ·exact aa (rfl)
   ·refine aH (n:=b.L.length) (by simp only [List.length_map,List.length_cons,List.length_nil]) ?_
    refine aB ?_ ?_
    ·exact aa (rfl)
    ·refine DU ?_
     refine aj (qp (size:=3) (f:=aN) (fun _=>rfl) b.L) fun aY=> ?_
     refine qX ?_
     refine aj (Fi (f:=aN) aY rA.1 ([(⟨id,span,IntKind.wrap .i64 (b.dE+span)⟩:aw)]:List aw)) fun cX=> ?_
     refine qX ?_
     exact aa (rfl)
theorem DJ (w:ai):Sm (fun r=> .ej ((fun _=> .cK []) r.1) (bC r.2)) (mG (bC w)) (jV w):=by
 unfold mG jV
 refine az ?_
 refine aj (OD w.r.bt w.o.Session w.o.Span) fun rA=> ?_
 refine cE (ah (aJ (zU (ah (aK (au ?_))))))
 exact aa (rfl)
theorem Mq (b:aD) (id:Int):Sm (fun r=> .cK [dc r.1,.i .i64 r.2]) (sY (dc b) (.i .i64 id)) (pq b id):=by
 unfold sY pq
 refine aJ (zU (aK ?_))
 refine aj (mI b id) fun rA=> ?_
 refine cE (Be ?_)
 refine aG ?_ ?_
 ·exact aa (rfl)
 ·refine aj (qp (size:=3) (f:=aN) (fun _=>rfl) b.L) fun aY=> ?_
  refine qX ?_
  refine aX (f:=aN) (rfl) fun y=> ?_
  refine aJ (wi ?_)
  refine aX (f:=aN) (rfl) fun y1=> ?_
  refine aJ (wi ?_)
  exact aa (by simp)
theorem Ck (w:ai):Sm (fun r=> .ej ((fun _=> .cK []) r.1) (bC r.2)) (lH (bC w)) (jc w):=by
 unfold lH jc
 refine az ?_
 refine aj (Mq w.r.bt w.o.Session) fun rA=> ?_
 refine cE (ah (aJ (zU (ah (aK (au ?_))))))
 exact aa (rfl)
theorem Mr (b:aD) (id:Int):Sm (fun r=> .cK [dc r.1,.i .i64 r.2]) (sZ (dc b) (.i .i64 id)) (pu b id):=by
 unfold sZ pu
 refine aJ (zU (aK ?_))
 refine aj (mI b id) fun rA=> ?_
 refine cE (Be ?_)
 refine aG ?_ ?_
 ·exact aa (rfl)
 ·refine aj (qp (size:=3) (f:=aN) (fun _=>rfl) b.L) fun aY=> ?_
  refine qX ?_
  refine aj (LV (f:=aN) aY rA.1 (IntKind.wrap .i64 (rA.1+1))) fun cX=> ?_
  refine qX ?_
  exact aa (rfl)
theorem OE (sA:ay) (owner:Int):Sm (fun r=> .cK [b7 r.1,.list (r.2.map MV.s)]) (vA (b7 sA) (.i .i64 owner)) (re sA owner):=by
 unfold vA re
 refine aJ (ah (a7 (au (aK (aH (n:=sA.L.length) (by simp only [List.length_map,List.length_cons,List.length_nil]) ?_)))))
 refine aj (bP (fun r=>[.list (r.1.map MV.s),.list (r.2.1.map aM),.i .i64 r.2.2]) (fun r=>(2,[.list (r.1.map MV.s),.list (r.2.map aM)])) (rfl) fun st=> ?_) fun w=> ?_
 ·unfold nA
  refine ah (a7 (yX ?_))
  refine aB ?_ ?_
  ·refine aX (f:=aM) (rfl) fun y=> ?_
   refine aJ (gh ?_)
   refine aj (f:=fun r=>[.b r]) ?_ fun w1=> ?_
   ·refine aB ?_ ?_
    ·exact aa (rfl)
    ·exact aa (rfl)
   ·refine ah (aU (au ?_))
    refine aG ?_ ?_
    ·refine aH (n:=st.1.length) (by simp only [List.length_map,List.length_cons,List.length_nil]) (aH (n:=([y.Path]:List (List UInt8)).length) (by simp only [List.length_map,List.length_cons,List.length_nil]) (cD ?_))
     exact aa (by simp [ml])
    ·refine aH (n:=st.2.1.length) (by simp only [List.length_map,List.length_cons,List.length_nil]) (aH (n:=([y]:List ae).length) (by simp only [List.length_map,List.length_cons,List.length_nil]) (cD ?_))
     exact aa (by simp [ml])
  ·exact aa (rfl)
 ·refine bQ rfl (ah (a7 (ah (a7 (au ?_)))))
  exact aa (rfl)
theorem wk (w:ai) (id:Int):Sm (fun r=> .ej ((fun _=> .cK []) r.1) (bC r.2)) (j0 (bC w) (.i .i64 id)) (ib w id):=by
 unfold j0 ib
 refine aK (az ?_)
 refine aj (OE w.r.Shelf id) fun rA=> ?_
 refine cE (ah (aJ (ah (a7 (au (ah (a7 (au (aH (n:=rA.2.length) (by simp only [List.length_map,List.length_cons,List.length_nil]) ?_)))))))))
 refine aj (bP (fun r=>(v0 r)) (fun r=>(2,(v1 r))) (rfl) fun st=> ?_) fun w1=> ?_
 ·unfold iy
  refine ah (aK (az ?_))
  refine aB ?_ ?_
  ·refine aX (f:=MV.s) (rfl) fun y=> ?_
   refine bo (aH (n:=st.2.2.2.2.2.2.2.2.2.2.2.2.2.2.2.2.2.2.2.2.length) (by simp only [List.length_map,List.length_cons,List.length_nil]) (aH (n:=([(⟨3,y⟩:aF)]:List aF).length) (by simp only [List.length_map,List.length_cons,List.length_nil]) (cD ?_)))
   exact aa (by simp [bC,ar,v0,v1])
  ·exact aa (rfl)
 ·refine bQ rfl (az ?_)
  exact aa (rfl)
theorem Cl (w:ai):Sm (fun r=> .ej ((fun _=> .cK []) r.1) (bC r.2)) (lI (bC w)) (jd w):=by
 unfold lI jd
 refine az ?_
 refine aj (Mr w.r.bt w.o.Session) fun rA=> ?_
 refine cE (ah (aJ (zU (ah (aK (au ?_))))))
 refine aj (f:=(fun r=>(0,(v1 r)))) ?_ fun w1=> ?_
 ·refine aB ?_ ?_
  ·refine aj (wk (⟨(⟨w.r.Shelf,rA.1,w.r.bh,w.r.Seen⟩:ak),w.o,(⟨w.x.Client,w.x.Seq,rA.2,w.x.Value,w.x.Version,w.x.Names⟩:af),w.l⟩:ai) w.o.Session) fun aY=> ?_
   refine IB (az ?_)
   exact aa (rfl)
  ·exact aa (rfl)
 ·refine bQ rfl (az ?_)
  exact aa (rfl)
theorem OG (b:aD) (now:Int):Sm (fun r=> .cK [dc r.1,.list (r.2.1.map (MV.i .i64)),.i .i64 r.2.2]) (vB (dc b) (.i .i64 now)) (rf b now):=by
 unfold vB rf
 refine aJ (zU (aK ?_))
 refine aB ?_ ?_
 ·exact aa (rfl)
 ·refine aB ?_ ?_
  ·exact aa (rfl)
  ·refine aH (n:=b.L.length) (by simp only [List.length_map,List.length_cons,List.length_nil]) ?_
   refine aj (bP (fun r=>[.list (r.1.map (MV.i .i64)),.i .i64 r.2.1,.list (r.2.2.1.map aN),.i .i64 r.2.2.2]) (fun r=>(3,[.list (r.1.map (MV.i .i64)),.i .i64 r.2.1,.list (r.2.2.map aN)])) (rfl) fun st=> ?_) fun w=> ?_
   ·unfold nB
    refine ah (a7 (ah (aK (yX ?_))))
    refine aB ?_ ?_
    ·refine aX (f:=aN) (rfl) fun y=> ?_
     refine aJ (wi ?_)
     refine aB ?_ ?_
     ·refine aH (n:=st.1.length) (by simp only [List.length_map,List.length_cons,List.length_nil]) (aH (n:=([y.Id]:List Int).length) (by simp only [List.length_map,List.length_cons,List.length_nil]) (cD ?_))
      exact aa (by simp)
     ·refine aH (n:=st.2.2.1.length) (by simp only [List.length_map,List.length_cons,List.length_nil]) (aH (n:=([y]:List aw).length) (by simp only [List.length_map,List.length_cons,List.length_nil]) (cD ?_))
      exact aa (by simp)
    ·exact aa (rfl)
   ·refine bQ rfl (ah (a7 (zU ?_)))
    exact aa (rfl)
theorem DK (w:ai):Sm (fun r=> .ej ((fun _=> .cK []) r.1) (bC r.2)) (mH (bC w)) (jW w):=by
 unfold mH jW
 refine az ?_
 refine aj (OG w.r.bt w.o.Span) fun rA=> ?_
 refine cE (ah (aJ (zU (yX ?_))))
 refine aG ?_ ?_
 ·exact aa (rfl)
 ·refine aH (n:=rA.2.1.length) (by simp only [List.length_map,List.length_cons,List.length_nil]) ?_
  refine aj (bP (fun r=>(v0 r)) (fun r=>(2,(v1 r))) (rfl) fun st=> ?_) fun w1=> ?_
  ·unfold iz
   refine ah (aK (az ?_))
   refine aB ?_ ?_
   ·refine aX (f:=(MV.i .i64)) (rfl) fun y=> ?_
    refine aK ?_
    refine aj (wk (⟨(⟨(⟨st.2.1⟩:ay),(⟨st.2.2.1,st.2.2.2.1⟩:aD),(⟨st.2.2.2.2.1⟩:bB),st.2.2.2.2.2.1⟩:ak),(⟨st.2.2.2.2.2.2.1,st.2.2.2.2.2.2.2.1,st.2.2.2.2.2.2.2.2.1,st.2.2.2.2.2.2.2.2.2.1,st.2.2.2.2.2.2.2.2.2.2.1,st.2.2.2.2.2.2.2.2.2.2.2.1,st.2.2.2.2.2.2.2.2.2.2.2.2.1,st.2.2.2.2.2.2.2.2.2.2.2.2.2.1⟩:av),(⟨st.2.2.2.2.2.2.2.2.2.2.2.2.2.2.1,st.2.2.2.2.2.2.2.2.2.2.2.2.2.2.2.1,st.2.2.2.2.2.2.2.2.2.2.2.2.2.2.2.2.1,st.2.2.2.2.2.2.2.2.2.2.2.2.2.2.2.2.2.1,st.2.2.2.2.2.2.2.2.2.2.2.2.2.2.2.2.2.2.1,st.2.2.2.2.2.2.2.2.2.2.2.2.2.2.2.2.2.2.2.1⟩:af),st.2.2.2.2.2.2.2.2.2.2.2.2.2.2.2.2.2.2.2.2⟩:ai) y) fun aY=> ?_
    refine IB (az ?_)
    exact aa (rfl)
   ·exact aa (rfl)
  ·refine bQ rfl (az ?_)
   exact aa (rfl)
theorem vO (sA:List al) (v:al):Sm (MV.i .i64) (gd (.list (sA.map aW)) (aW v)) (fZ sA v):=by
 unfold gd fZ
 refine a7 (aJ (rQ (aH (n:=sA.length) (by simp only [List.length_map,List.length_cons,List.length_nil]) ?_)))
 refine aj (bP (fun r=>[.i .i64 r]) (Sum.elim (fun r=>(2,[])) (fun r=>(1,[.i .i64 r]))) (rfl) fun st=> ?_) fun w=> ?_
 ·unfold dM
  refine ah (aK (au ?_))
  refine aB ?_ ?_
  ·refine aX (f:=aW) (rfl) fun y=> ?_
   refine aJ (rQ ?_)
   refine aG ?_ ?_
   ·exact aa (rfl)
   ·exact aa (rfl)
  ·exact aa (rfl)
 ·rcases w with p1|p2
  ·refine eS rfl (au ?_)
   exact aa (rfl)
  ·refine eT rfl (bQ rfl (ah (aK (au ?_))))
   exact aa (rfl)
theorem sd (sA:List al) (v:al):Sm MV.b (eK (.list (sA.map aW)) (aW v)) (dz sA v):=by
 unfold eK dz
 refine a7 (aJ (rQ ?_))
 refine aj (vO sA v) fun rA=> ?_
 refine aK ?_
 exact aa (rfl)
theorem R7 (t:bB) (w:al):Sm (fun r=> .cK [iI r.1,.i .i64 r.2]) (yw (iI t) (aW w)) (qG t w):=by
 unfold yw qG
 refine aJ (ah (a7 (au (aJ (rQ ?_)))))
 refine aj (rR w.Path) fun rA=> ?_
 refine aU ?_
 refine aG ?_ ?_
 ·exact aa (rfl)
 ·refine aB ?_ ?_
  ·exact aa (rfl)
  ·refine aj (sd t.L w) fun aY=> ?_
   refine aU ?_
   refine aG ?_ ?_
   ·exact aa (rfl)
   ·refine aH (n:=t.L.length) (by simp only [List.length_map,List.length_cons,List.length_nil]) ?_
    refine aB ?_ ?_
    ·exact aa (rfl)
    ·refine DU ?_
     refine aj (qp (size:=3) (f:=aW) (fun _=>rfl) t.L) fun cX=> ?_
     refine qX (aH (n:=cX.length) (by simp only [List.length_map,List.length_cons,List.length_nil]) (aH (n:=([w]:List al).length) (by simp only [List.length_map,List.length_cons,List.length_nil]) (cD ?_)))
     exact aa (by simp)
theorem Cm (w:ai):Sm (fun r=> .ej ((fun _=> .cK []) r.1) (bC r.2)) (lJ (bC w)) (je w):=by
 unfold lJ je
 refine az ?_
 refine aj (R7 w.r.bh (⟨w.o.Path,w.o.Client,decide (w.o.Kind=11)⟩:al)) fun rA=> ?_
 refine cE (ah (aJ (ah (a7 (au (ah (aK (au ?_))))))))
 exact aa (rfl)
theorem OH:Sm (Of (fun x:Nat=>MV.func x [])) (vC) (rh):=by
 unfold vC rh
 exact aa (rfl)
theorem HI (c:aF) (w:al):Sm MV.b (oX (fm c) (aW w)) (mi c w):=by
 unfold oX mi
 refine aJ (ah (aK (ah (bo (au (aJ (rQ ?_)))))))
 refine aj (f:=fun r=>[.b r]) ?_ fun w1=> ?_
 ·refine aB ?_ ?_
  ·exact aa (rfl)
  ·refine aB ?_ ?_
   ·exact aa (rfl)
   ·refine aj (rR c.Path) fun rA=> ?_
    refine aU ?_
    exact aa (rfl)
 ·refine ah (aU (au ?_))
  refine aG ?_ ?_
  ·exact aa (rfl)
  ·refine aG ?_ ?_
   ·exact aa (rfl)
   ·refine aj (Dc c.Path) fun aY=> ?_
    refine cE (ah (bo (ah (aK (au ?_)))))
    refine aj (f:=fun r=>[.b r]) ?_ fun w2=> ?_
    ·refine aB ?_ ?_
     ·refine aG ?_ ?_
      ·exact aa (rfl)
      ·exact aa (rfl)
     ·exact aa (rfl)
    ·refine ah (aU (au ?_))
     exact aa (rfl)
theorem Ks (w:al) (c:aF) (c1:List bc):Sm (fun r=> .ej (MV.b r.1) [.list (r.2.map cZ)]) (nO (aW w) (.rp [.i .i64 c.Kind,.s c.Path]) [.list (c1.map cZ)]) (lB w c c1):=by
 unfold nO lB
 refine aJ (rQ (IC (ah (aK (ah (bo (au (ah (a7 (au ?_))))))))))
 refine aj (HI c w) fun rA=> ?_
 refine aU ?_
 refine aj (f:=(fun r=>(0,[.list (r.map cZ)]))) ?_ fun w1=> ?_
 ·refine aG ?_ ?_
  ·refine aH (n:=c1.length) (by simp only [List.length_map,List.length_cons,List.length_nil]) (aH (n:=([(⟨w,c⟩:bc)]:List bc).length) (by simp only [List.length_map,List.length_cons,List.length_nil]) (cD ?_))
   exact aa (by simp)
  ·exact aa (rfl)
 ·refine bQ rfl (ah (a7 (au ?_)))
  exact aa (rfl)
theorem OI (t:bB) (lA:List aF):Sm (fun r=> .cK [iI r.1,.list (r.2.map cZ)]) (vG (iI t) (.list (lA.map fm))) (rj t lA):=by
 unfold vG rj
 refine aJ (ah (a7 (au (a7 ?_))))
 refine aj (qp (size:=3) (f:=aW) (fun _=>rfl) t.L) fun rA=> ?_
 refine qX (aH (n:=lA.length) (by simp only [List.length_map,List.length_cons,List.length_nil]) ?_)
 refine aj (bP (fun r=>[.list (r.1.map aW),.list (r.2.1.map cZ),.i .i64 r.2.2]) (fun r=>(2,[.list (r.1.map aW),.list (r.2.map cZ)])) (rfl) fun st=> ?_) fun w=> ?_
 ·unfold nC
  refine ah (a7 (yX ?_))
  refine aB ?_ ?_
  ·refine aX (f:=fm) (rfl) fun y=> ?_
   refine aJ (ah (aK (ah (bo (au (bQ (U8 (rfl:_=List.map aW st.1) fun _=>rfl) ?_))))))
   refine aj (U9 (f:=aW) (lv:=(fun sA=>[.list (sA.map cZ)])) (b6:=[.rp [.i .i64 y.Kind,.s y.Path]]) (fun u sA=>Sm.at (vF (aW u) (.rp [.i .i64 y.Kind,.s y.Path]) [.list (sA.map cZ)]) (Ks u y sA)) st.2.1 st.1) fun aY=> ?_
   refine ah (a7 (au ?_))
   exact aa (rfl)
  ·exact aa (rfl)
 ·refine bQ rfl (ah (a7 (ah (a7 (au ?_)))))
  exact aa (rfl)
theorem HJ (k:Nat) (x0:ai):Sm (fun r=> .ej ((fun _=> .cK []) r.1) [.list (r.2.r.Shelf.L.map aM),.i .i64 r.2.r.bt.dE,.list (r.2.r.bt.L.map aN),.list (r.2.r.bh.L.map aW),.list (r.2.r.Seen.map ap),.i .i64 r.2.o.Client,.i .i64 r.2.o.Seq,.i .i64 r.2.o.Kind,.s r.2.o.Path,.s r.2.o.Value,.i .i64 r.2.o.Version,.i .i64 r.2.o.Session,.i .i64 r.2.o.Span,.i .i64 r.2.x.Client,.i .i64 r.2.x.Seq,.i .i64 r.2.x.E,.s r.2.x.Value,.i .i64 r.2.x.Version,.list (r.2.x.Names.map MV.s),.list (r.2.l.map fm)]) (G0 [105,106,107,108,109,110,111,112,113,114,115] k fun k=>c9 k [.cell (.func 0 [.list (x0.r.Shelf.L.map aM),.i .i64 x0.r.bt.dE,.list (x0.r.bt.L.map aN),.list (x0.r.bh.L.map aW),.list (x0.r.Seen.map ap),.i .i64 x0.o.Client,.i .i64 x0.o.Seq,.i .i64 x0.o.Kind,.s x0.o.Path,.s x0.o.Value,.i .i64 x0.o.Version,.i .i64 x0.o.Session,.i .i64 x0.o.Span,.i .i64 x0.x.Client,.i .i64 x0.x.Seq,.i .i64 x0.x.E,.s x0.x.Value,.i .i64 x0.x.Version,.list (x0.x.Names.map MV.s),.list (x0.l.map fm)])]) (mj k x0):=by
 unfold mj
 refine oR (fun _=>Sm.at (pE _) (zW x0)) ?_
 refine oR (fun _=>Sm.at (pV _) (Bl x0)) ?_
 refine oR (fun _=>Sm.at (r8 _) (Gn x0)) ?_
 refine oR (fun _=>Sm.at (r9 _) (Gp x0)) ?_
 refine oR (fun _=>Sm.at (pW _) (Bm x0)) ?_
 refine oR (fun _=>Sm.at (rL _) (DI x0)) ?_
 refine oR (fun _=>Sm.at (rM _) (DJ x0)) ?_
 refine oR (fun _=>Sm.at (qx _) (Ck x0)) ?_
 refine oR (fun _=>Sm.at (qy _) (Cl x0)) ?_
 refine oR (fun _=>Sm.at (rN _) (DK x0)) ?_
 refine Yh (fun _=>Sm.at (qz _) (Cm x0))
theorem xG (a:ak) (a1:av):Sm (fun r=> .cK [cQ r.1,ap r.2.1,.list (r.2.2.map cZ)]) (ng (cQ a) (du a1)) (kT a a1):=by
 unfold ng kT
 refine aJ (fL (aJ (jK ?_)))
 refine aj (Ci a a1) fun rA=> ?_
 refine cE (ah (aJ (bl (ah (aU (au ?_))))))
 refine aG ?_ ?_
 ·exact aa (rfl)
 ·refine aj (OH) fun aY=> ?_
  refine a7 ?_
  refine aX (f:=(fun x:Nat=>MV.func x [])) (rfl) fun y=> ?_
  refine tq (tp (au ?_))
  refine aj (HJ y (⟨a,a1,rA.1,([]:List aF)⟩:ai)) fun cX=> ?_
  refine IB (az ?_)
  refine aj (OI cX.2.r.bh cX.2.l) fun oo=> ?_
  refine cE (ah (aJ (ah (a7 (au (ah (a7 (au ?_))))))))
  refine aj (qp (size:=6) (f:=ap) (fun _=>rfl) a.Seen) fun AO=> ?_
  refine qX ?_
  refine aj (uz a a1.Client) fun tt=> ?_
  refine cE (Be ?_)
  refine aj (f:=(fun r=>(0,(v1 r)))) ?_ fun w=> ?_
  ·refine aG ?_ ?_
   ·refine aX (f:=ap) (rfl) fun y1=> ?_
    refine aJ (bl ?_)
    exact aa (by simp [eI,c8,eF,ar,v1])
   ·refine aj (Fi (f:=ap) AO tt.1 ([cX.2.x]:List af)) fun Dv=> ?_
    refine qX ?_
    exact aa (rfl)
  ·refine bQ rfl (az ?_)
   refine DU ?_
   exact aa (rfl)
theorem R8:Sm b7 (yx) (B5):=by
 unfold yx B5
 exact aa (rfl)
theorem R9:Sm dc (yy) (B6):=by
 unfold yy B6
 exact aa (rfl)
theorem Sa:Sm cQ (yz) (yi):=by
 unfold yz yi
 refine aj (R8) fun rA=> ?_
 refine aJ (ah (a7 (au ?_)))
 refine aj (R9) fun aY=> ?_
 refine aJ (zU ?_)
 exact aa (rfl)
theorem wJ (s1:List ae) (s2:List ae):Sm MV.b (gM (.list (s1.map aM)) (.list (s2.map aM))) (gG s1 s2):=by
 unfold gM gG
 refine a7 (a7 (aH (n:=s1.length) (by simp only [List.length_map,List.length_cons,List.length_nil]) (aH (n:=s2.length) (by simp only [List.length_map,List.length_cons,List.length_nil]) ?_)))
 refine aG ?_ ?_
 ·exact aa (rfl)
 ·refine aH (n:=s1.length) (by simp only [List.length_map,List.length_cons,List.length_nil]) ?_
  refine aj (bP (fun r=>[.i .i64 r]) (Sum.elim (fun r=>(2,[])) (fun r=>(1,[.b r]))) (rfl) fun st=> ?_) fun w=> ?_
  ·unfold fJ
   refine ah (aK (au ?_))
   refine aB ?_ ?_
   ·refine aX (f:=aM) (rfl) fun y=> ?_
    refine aJ (gh ?_)
    refine aX (f:=aM) (rfl) fun y1=> ?_
    refine aJ (gh ?_)
    refine aG ?_ ?_
    ·exact aa (rfl)
    ·exact aa (rfl)
   ·exact aa (rfl)
  ·rcases w with p1|p2
   ·refine eS rfl (au ?_)
    exact aa (rfl)
   ·refine eT rfl (bQ rfl (ah (aU (au ?_))))
    exact aa (rfl)
theorem OJ (a:ay) (b:ay):Sm MV.b (vH (b7 a) (b7 b)) (rk a b):=by
 unfold vH rk
 refine aJ (ah (a7 (au (aJ (ah (a7 (au ?_)))))))
 refine aj (wJ a.L b.L) fun rA=> ?_
 refine aU ?_
 exact aa (rfl)
theorem tF (s1:List aw) (s2:List aw):Sm MV.b (e9 (.list (s1.map aN)) (.list (s2.map aN))) (dN s1 s2):=by
 unfold e9 dN
 refine a7 (a7 (aH (n:=s1.length) (by simp only [List.length_map,List.length_cons,List.length_nil]) (aH (n:=s2.length) (by simp only [List.length_map,List.length_cons,List.length_nil]) ?_)))
 refine aG ?_ ?_
 ·exact aa (rfl)
 ·refine aH (n:=s1.length) (by simp only [List.length_map,List.length_cons,List.length_nil]) ?_
  refine aj (bP (fun r=>[.i .i64 r]) (Sum.elim (fun r=>(2,[])) (fun r=>(1,[.b r]))) (rfl) fun st=> ?_) fun w=> ?_
  ·unfold dr
   refine ah (aK (au ?_))
   refine aB ?_ ?_
   ·refine aX (f:=aN) (rfl) fun y=> ?_
    refine aJ (wi ?_)
    refine aX (f:=aN) (rfl) fun y1=> ?_
    refine aJ (wi ?_)
    refine aG ?_ ?_
    ·exact aa (rfl)
    ·exact aa (rfl)
   ·exact aa (rfl)
  ·rcases w with p1|p2
   ·refine eS rfl (au ?_)
    exact aa (rfl)
   ·refine eT rfl (bQ rfl (ah (aU (au ?_))))
    exact aa (rfl)
theorem OL (a:aD) (b:aD):Sm MV.b (vI (dc a) (dc b)) (rl a b):=by
 unfold vI rl
 refine aJ (zU (aJ (zU ?_)))
 refine aj (f:=fun r=>[.b r]) ?_ fun w=> ?_
 ·refine aB ?_ ?_
  ·refine aj (tF a.L b.L) fun rA=> ?_
   refine aU ?_
   exact aa (rfl)
  ·exact aa (rfl)
 ·refine ah (aU (au ?_))
  exact aa (rfl)
theorem vP (s1:List al) (s2:List al):Sm MV.b (gf (.list (s1.map aW)) (.list (s2.map aW))) (eA s1 s2):=by
 unfold gf eA
 refine a7 (a7 (aH (n:=s1.length) (by simp only [List.length_map,List.length_cons,List.length_nil]) (aH (n:=s2.length) (by simp only [List.length_map,List.length_cons,List.length_nil]) ?_)))
 refine aG ?_ ?_
 ·exact aa (rfl)
 ·refine aH (n:=s1.length) (by simp only [List.length_map,List.length_cons,List.length_nil]) ?_
  refine aj (bP (fun r=>[.i .i64 r]) (Sum.elim (fun r=>(2,[])) (fun r=>(1,[.b r]))) (rfl) fun st=> ?_) fun w=> ?_
  ·unfold dO
   refine ah (aK (au ?_))
   refine aB ?_ ?_
   ·refine aX (f:=aW) (rfl) fun y=> ?_
    refine aJ (rQ ?_)
    refine aX (f:=aW) (rfl) fun y1=> ?_
    refine aJ (rQ ?_)
    refine aG ?_ ?_
    ·exact aa (rfl)
    ·exact aa (rfl)
   ·exact aa (rfl)
  ·rcases w with p1|p2
   ·refine eS rfl (au ?_)
    exact aa (rfl)
   ·refine eT rfl (bQ rfl (ah (aU (au ?_))))
    exact aa (rfl)
theorem OM (a:bB) (b:bB):Sm MV.b (vJ (iI a) (iI b)) (rm a b):=by
 unfold vJ rm
 refine aJ (ah (a7 (au (aJ (ah (a7 (au ?_)))))))
 refine aj (vP a.L b.L) fun rA=> ?_
 refine aU ?_
 exact aa (rfl)
theorem ON (a:af) (b:af):Sm MV.b (vK (ap a) (ap b)) (kU a b):=by
 unfold vK kU
 refine aJ (bl (aJ (bl ?_)))
 refine aj (f:=fun r=>[.b r]) ?_ fun w=> ?_
 ·refine aB ?_ ?_
  ·refine aB ?_ ?_
   ·refine aB ?_ ?_
    ·refine aB ?_ ?_
     ·refine aB ?_ ?_
      ·refine aj (rS a.Names b.Names) fun rA=> ?_
       refine aU ?_
       exact aa (rfl)
      ·exact aa (rfl)
     ·exact aa (rfl)
    ·exact aa (rfl)
   ·exact aa (rfl)
  ·exact aa (rfl)
 ·refine ah (aU (au ?_))
  exact aa (rfl)
theorem iG (s1:List af) (s2:List af) (eq:af→af→Option Bool) {Ko:Nat} {n8:List MV} (ak4:gv Ko=false) (gy: ∀(u0:af) (u1:af),Sm MV.b (ck Ko ([ap u0,ap u1]++n8)) (eq u0 u1)):Sm MV.b (bR (.list (s1.map ap)) (.list (s2.map ap)) (.func Ko n8)) (bw s1 s2 eq):=by
 unfold bR bw
 refine a7 (a7 (tq (aH (n:=s1.length) (by simp only [List.length_map,List.length_cons,List.length_nil]) (aH (n:=s2.length) (by simp only [List.length_map,List.length_cons,List.length_nil]) ?_))))
 refine aG ?_ ?_
 ·exact aa (rfl)
 ·refine aH (n:=s1.length) (by simp only [List.length_map,List.length_cons,List.length_nil]) ?_
  refine aj (bP (fun r=>[.i .i64 r]) (Sum.elim (fun r=>(2,[])) (fun r=>(1,[.b r]))) (rfl) fun st=> ?_) fun w=> ?_
  ·unfold bp
   refine ah (aK (au ?_))
   refine aB ?_ ?_
   ·refine aX (f:=ap) (rfl) fun y=> ?_
    refine aJ (bl ?_)
    refine aX (f:=ap) (rfl) fun y1=> ?_
    refine aJ (bl (tp (bQ (by rw [ak4];rfl) ?_)))
    refine aj (gy y y1) fun rA=> ?_
    refine aU ?_
    refine aG ?_ ?_
    ·exact aa (rfl)
    ·exact aa (rfl)
   ·exact aa (rfl)
  ·rcases w with p1|p2
   ·refine eS rfl (au ?_)
    exact aa (rfl)
   ·refine eT rfl (bQ rfl (ah (aU (au ?_))))
    exact aa (rfl)
theorem OO (a:ak) (b:ak):Sm MV.b (vL (cQ a) (cQ b)) (rn a b):=by
 unfold vL rn
 refine aJ (fL (aJ (fL ?_)))
 refine aj (f:=fun r=>[.b r]) ?_ fun w=> ?_
 ·refine aj (OJ a.Shelf b.Shelf) fun rA=> ?_
  refine aU ?_
  refine aG ?_ ?_
  ·refine aj (OL a.bt b.bt) fun aY=> ?_
   refine aU ?_
   refine aG ?_ ?_
   ·refine aj (OM a.bh b.bh) fun cX=> ?_
    refine aU ?_
    refine aG ?_ ?_
    ·refine aj (iG a.Seen b.Seen kU (Ko:=80) (n8:=[]) rfl (fun u2 u3=>Sm.at (fa _ _) (ON u2 u3))) fun oo=> ?_
     refine aU ?_
     exact aa (rfl)
    ·exact aa (rfl)
   ·exact aa (rfl)
  ·exact aa (rfl)
 ·refine ah (aU (au ?_))
  exact aa (rfl)
theorem uB:Sm MV.b (nh) (lC):=by
 unfold nh lC
 refine aj (Sa) fun rA=> ?_
 refine aJ (fL ?_)
 refine aj (xG rA (⟨1,1,1,([47,97]:List UInt8),([120]:List UInt8),0,0,0⟩:av)) fun aY=> ?_
 refine cE (ah (aJ (fL (ah (aJ (bl (ah (a7 (au ?_)))))))))
 refine aj (xG aY.1 (⟨1,1,1,([47,97]:List UInt8),([120]:List UInt8),0,0,0⟩:av)) fun cX=> ?_
 refine cE (ah (aJ (fL (ah (aJ (bl (ah (a7 (au ?_)))))))))
 refine aj (Gl cX.1 1) fun oo=> ?_
 refine cE (ah (aJ (bl (ah (aU (au ?_))))))
 refine aj (f:=fun r=>[.b r]) ?_ fun w=> ?_
 ·refine aB ?_ ?_
  ·refine aB ?_ ?_
   ·refine aH (n:=aY.1.Shelf.L.length) (by simp only [List.length_map,List.length_cons,List.length_nil]) ?_
    refine aB ?_ ?_
    ·refine aj (OO aY.1 cX.1) fun AO=> ?_
     refine aU ?_
     refine aG ?_ ?_
     ·refine aG ?_ ?_
      ·exact aa (rfl)
      ·exact aa (rfl)
     ·exact aa (rfl)
    ·exact aa (rfl)
   ·exact aa (rfl)
  ·exact aa (rfl)
 ·refine ah (aU (au ?_))
  exact aa (rfl)
theorem OP (rA:ak) (lA:List av):Sm (fun r=> .cK [cQ r.1,.list (r.2.1.map ap),.list (r.2.2.map cZ)]) (vM (cQ rA) (.list (lA.map du))) (rq rA lA):=by
 unfold vM rq
 refine aJ (fL (a7 (aH (n:=lA.length) (by simp only [List.length_map,List.length_cons,List.length_nil]) ?_)))
 refine aj (bP (fun r=>[.list (r.1.map aM),.i .i64 r.2.1,.list (r.2.2.1.map aN),.list (r.2.2.2.1.map aW),.list (r.2.2.2.2.1.map ap),.list (r.2.2.2.2.2.1.map ap),.list (r.2.2.2.2.2.2.1.map cZ),.i .i64 r.2.2.2.2.2.2.2]) (fun r=>(2,[.list (r.1.map aM),.i .i64 r.2.1,.list (r.2.2.1.map aN),.list (r.2.2.2.1.map aW),.list (r.2.2.2.2.1.map ap),.list (r.2.2.2.2.2.1.map ap),.list (r.2.2.2.2.2.2.map cZ)])) (rfl) fun st=> ?_) fun w=> ?_
 ·unfold nD
  refine ah (a7 (ah (aK (ah (a7 (ah (a7 (ah (a7 (ah (a7 ?_)))))))))))
  refine yX ?_
  refine aB ?_ ?_
  ·refine aX (f:=du) (rfl) fun y=> ?_
   refine aJ (jK ?_)
   refine aj (xG (⟨(⟨st.1⟩:ay),(⟨st.2.1,st.2.2.1⟩:aD),(⟨st.2.2.2.1⟩:bB),st.2.2.2.2.1⟩:ak) y) fun Dv=> ?_
   refine cE (ah (aJ (fL (ah (aJ (bl (ah (a7 (au (aH (n:=st.2.2.2.2.2.1.length) (by simp only [List.length_map,List.length_cons,List.length_nil]) (aH (n:=([Dv.2.1]:List af).length) (by simp only [List.length_map,List.length_cons,List.length_nil]) ?_)))))))))))
   refine cD (bQ (J5 (rfl:_=List.map cZ Dv.2.2) fun _=>rfl) (aH (n:=st.2.2.2.2.2.2.1.length) (by simp only [List.length_map,List.length_cons,List.length_nil]) (aH (n:=Dv.2.2.length) (by simp only [List.length_map,List.length_cons,List.length_nil]) (cD ?_))))
   exact aa (by simp [eI,c8,eF])
  ·exact aa (rfl)
 ·refine bQ rfl (ah (a7 (ah (aK (ah (a7 (ah (a7 (ah (a7 (ah ?_)))))))))))
  refine a7 (ah (a7 (au ?_)))
  exact aa (rfl)
theorem Gs (a:ak) (a1:av) (a2:List UInt8):Sm MV.b (rP (cQ a) (du a1) (.s a2)) (nE a a1 a2):=by
 unfold rP nE
 refine aJ (fL (aJ (jK (bo ?_))))
 refine aj (f:=fun r=>[.b r]) ?_ fun w=> ?_
 ·refine aj (YV a) fun rA=> ?_
  refine aU ?_
  refine aG ?_ ?_
  ·exact aa (rfl)
  ·refine aH (n:=a.Seen.length) (by simp only [List.length_map,List.length_cons,List.length_nil]) ?_
   refine aB ?_ ?_
   ·exact aa (rfl)
   ·refine aj (RW ([a1]:List av)) fun aY=> ?_
    refine aU ?_
    refine aG ?_ ?_
    ·exact aa (rfl)
    ·refine aB ?_ ?_
     ·exact aa (rfl)
     ·refine aj (R3 a) fun cX=> ?_
      refine aJ (fL ?_)
      refine aj (R2 cX) fun oo=> ?_
      refine aU ?_
      exact aa (rfl)
 ·refine ah (aU (au ?_))
  refine aG ?_ ?_
  ·refine aj (uB) fun AO=> ?_
   refine aU ?_
   exact aa (rfl)
  ·refine aj (bP (fun r=>[.i .i64 r.1,.i .i64 r.2]) (fun r=>(2,[.i .i64 r])) (rfl) fun st=> ?_) fun w1=> ?_
   ·unfold lD
    refine yW (aH (n:=a.Seen.length) (by simp only [List.length_map,List.length_cons,List.length_nil]) ?_)
    refine aB ?_ ?_
    ·refine aX (f:=ap) (rfl) fun y=> ?_
     refine aJ (bl ?_)
     refine aj (f:=(fun r=>(0,[.i .i64 r]))) ?_ fun w2=> ?_
     ·refine aB ?_ ?_
      ·exact aa (rfl)
      ·exact aa (rfl)
     ·refine bQ rfl (ah (aK (au ?_)))
      exact aa (rfl)
    ·exact aa (rfl)
   ·refine bQ rfl (ah (aK (au ?_)))
    refine aj (OP a ([(⟨w1,1,3,a1.Path,a2,(-1),0,0⟩:av),(⟨w1,2,2,a1.Path,([]:List UInt8),0,0,0⟩:av),(⟨w1,3,4,a1.Path,([]:List UInt8),(-1),0,0⟩:av),(⟨w1,4,2,a1.Path,([]:List UInt8),0,0,0⟩:av)]:List av)) fun tt=> ?_
    refine cE (ah (aJ (fL (ah (a7 (ah (a7 (au ?_))))))))
    refine aj (f:=fun r=>[.b r]) ?_ fun w3=> ?_
    ·refine aH (n:=tt.2.1.length) (by simp only [List.length_map,List.length_cons,List.length_nil]) ?_
     refine aG ?_ ?_
     ·exact aa (rfl)
     ·exact aa (rfl)
    ·refine ah (aU (au ?_))
     refine aG ?_ ?_
     ·refine aj (f:=fun r=>[.b r]) ?_ fun w4=> ?_
      ·refine aj (uB) fun Dv=> ?_
       refine aU ?_
       refine aG ?_ ?_
       ·refine aH (n:=tt.2.1.length) (by simp only [List.length_map,List.length_cons,List.length_nil]) ?_
        exact aa (rfl)
       ·exact aa (rfl)
      ·refine ah (aU (au ?_))
       exact aa (rfl)
     ·refine aX (f:=ap) (rfl) fun y1=> ?_
      refine aJ (bl ?_)
      refine aB ?_ ?_
      ·refine aj (f:=fun r=>[.b r]) ?_ fun w5=> ?_
       ·refine aj (uB) fun rA7=> ?_
        refine aU ?_
        refine aG ?_ ?_
        ·refine aX (f:=ap) (rfl) fun y2=> ?_
         refine aJ (bl ?_)
         refine aB ?_ ?_
         ·refine aX (f:=ap) (rfl) fun y3=> ?_
          refine aJ (bl ?_)
          exact aa (rfl)
         ·exact aa (rfl)
        ·exact aa (rfl)
       ·refine ah (aU (au ?_))
        exact aa (rfl)
      ·refine aX (f:=ap) (rfl) fun y4=> ?_
       refine aJ (bl ?_)
       refine aG ?_ ?_
       ·refine aj (f:=fun r=>[.b r]) ?_ fun w6=> ?_
        ·refine aj (uB) fun rA8=> ?_
         refine aU ?_
         refine aG ?_ ?_
         ·refine aX (f:=ap) (rfl) fun y5=> ?_
          refine aJ (bl ?_)
          refine aX (f:=ap) (rfl) fun y6=> ?_
          refine aJ (bl ?_)
          refine aB ?_ ?_
          ·refine aX (f:=ap) (rfl) fun y7=> ?_
           refine aJ (bl ?_)
           refine aX (f:=ap) (rfl) fun y8=> ?_
           refine aJ (bl ?_)
           refine aB ?_ ?_
           ·refine aH (n:=tt.1.Shelf.L.length) (by simp only [List.length_map,List.length_cons,List.length_nil]) (aH (n:=a.Shelf.L.length) (by simp only [List.length_map,List.length_cons,List.length_nil]) ?_)
            exact aa (rfl)
           ·exact aa (rfl)
          ·exact aa (rfl)
         ·exact aa (rfl)
        ·refine ah (aU (au ?_))
         exact aa (rfl)
       ·refine aj (f:=fun r=>[.b r]) ?_ fun w7=> ?_
        ·refine aX (f:=ap) (rfl) fun y9=> ?_
         refine aJ (bl ?_)
         refine aB ?_ ?_
         ·refine aX (f:=ap) (rfl) fun y10=> ?_
          refine aJ (bl ?_)
          refine aB ?_ ?_
          ·refine aX (f:=ap) (rfl) fun y11=> ?_
           refine aJ (bl ?_)
           refine aX (f:=ap) (rfl) fun y12=> ?_
           refine aJ (bl ?_)
           exact aa (rfl)
          ·exact aa (rfl)
         ·exact aa (rfl)
        ·refine ah (aU (au ?_))
         refine aj (f:=fun r=>[.b r]) ?_ fun w8=> ?_
         ·refine aj (uB) fun rA9=> ?_
          refine aU ?_
          refine aG ?_ ?_
          ·refine aG ?_ ?_
           ·refine aX (f:=ap) (rfl) fun y13=> ?_
            refine aJ (bl ?_)
            refine aG ?_ ?_
            ·refine aX (f:=ap) (rfl) fun y14=> ?_
             refine aJ (bl ?_)
             refine aB ?_ ?_
             ·exact aa (rfl)
             ·refine aX (f:=ap) (rfl) fun y15=> ?_
              refine aJ (bl ?_)
              refine aB ?_ ?_
              ·refine aX (f:=ap) (rfl) fun y16=> ?_
               refine aJ (bl ?_)
               exact aa (rfl)
              ·exact aa (rfl)
            ·refine aX (f:=ap) (rfl) fun y17=> ?_
             refine aJ (bl ?_)
             refine aB ?_ ?_
             ·refine aX (f:=ap) (rfl) fun y18=> ?_
              refine aJ (bl ?_)
              refine aB ?_ ?_
              ·exact aa (rfl)
              ·refine aX (f:=ap) (rfl) fun y19=> ?_
               refine aJ (bl ?_)
               refine aB ?_ ?_
               ·refine aX (f:=ap) (rfl) fun y20=> ?_
                refine aJ (bl ?_)
                exact aa (rfl)
               ·exact aa (rfl)
             ·exact aa (rfl)
           ·exact aa (rfl)
          ·exact aa (rfl)
         ·refine ah (aU (au ?_))
          exact aa (rfl)
end Dn.S
