import Derived.Test.YtmdlghpieagfhaaGreatDnYD
/-
  Typed and plain functions agree. Conditions: none.
-/
open Go Dn
set_option linter.unusedVariables false
set_option linter.unusedSimpArgs false
set_option maxRecDepth 100000
namespace Dn.S
@[reducible] def v0 (r : Int × Int × Int × Int × Bool × Int × (List UInt8) × (List aa) × (List aa) × Int × Int × (List aa) × (List aa) × (List aa) × Bool × (List UInt8) × (List ab) × Int × (List al)) : List MV := [.i .i64 r.1, .i .i64 r.2.1, .i .i64 r.2.2.1, .i .i64 r.2.2.2.1, .b r.2.2.2.2.1, .i .i64 r.2.2.2.2.2.1, .s r.2.2.2.2.2.2.1, .list (r.2.2.2.2.2.2.2.1.map ai), .list (r.2.2.2.2.2.2.2.2.1.map ai), .i .i64 r.2.2.2.2.2.2.2.2.2.1, .i .i64 r.2.2.2.2.2.2.2.2.2.2.1, .list (r.2.2.2.2.2.2.2.2.2.2.2.1.map ai), .list (r.2.2.2.2.2.2.2.2.2.2.2.2.1.map ai), .list (r.2.2.2.2.2.2.2.2.2.2.2.2.2.1.map ai), .b r.2.2.2.2.2.2.2.2.2.2.2.2.2.2.1, .s r.2.2.2.2.2.2.2.2.2.2.2.2.2.2.2.1, .list (r.2.2.2.2.2.2.2.2.2.2.2.2.2.2.2.2.1.map aJ), .i .i64 r.2.2.2.2.2.2.2.2.2.2.2.2.2.2.2.2.2.1, .list (r.2.2.2.2.2.2.2.2.2.2.2.2.2.2.2.2.2.2.map aX)]
@[reducible] def v1 (r : Int × Int × Int × Int × Bool × Int × (List UInt8) × (List aa) × (List aa) × Int × Int × (List aa) × (List aa) × (List aa) × Bool × (List UInt8) × (List ab) × Int) : List MV := [.i .i64 r.1, .i .i64 r.2.1, .i .i64 r.2.2.1, .i .i64 r.2.2.2.1, .b r.2.2.2.2.1, .i .i64 r.2.2.2.2.2.1, .s r.2.2.2.2.2.2.1, .list (r.2.2.2.2.2.2.2.1.map ai), .list (r.2.2.2.2.2.2.2.2.1.map ai), .i .i64 r.2.2.2.2.2.2.2.2.2.1, .i .i64 r.2.2.2.2.2.2.2.2.2.2.1, .list (r.2.2.2.2.2.2.2.2.2.2.2.1.map ai), .list (r.2.2.2.2.2.2.2.2.2.2.2.2.1.map ai), .list (r.2.2.2.2.2.2.2.2.2.2.2.2.2.1.map ai), .b r.2.2.2.2.2.2.2.2.2.2.2.2.2.2.1, .s r.2.2.2.2.2.2.2.2.2.2.2.2.2.2.2.1, .list (r.2.2.2.2.2.2.2.2.2.2.2.2.2.2.2.2.1.map aJ), .i .i64 r.2.2.2.2.2.2.2.2.2.2.2.2.2.2.2.2.2]
@[reducible] def v2 (r : Int × Int × Int × (List UInt8) × (List ab) × Int × Int × (List UInt8) × (List aa) × Int × Int × Bool × Int × (List UInt8) × (List aa)) : List MV := [.i .i64 r.1, .i .i64 r.2.1, .i .i64 r.2.2.1, .s r.2.2.2.1, .list (r.2.2.2.2.1.map aJ), .i .i64 r.2.2.2.2.2.1, .i .i64 r.2.2.2.2.2.2.1, .s r.2.2.2.2.2.2.2.1, .list (r.2.2.2.2.2.2.2.2.1.map ai), .i .i64 r.2.2.2.2.2.2.2.2.2.1, .i .i64 r.2.2.2.2.2.2.2.2.2.2.1, .b r.2.2.2.2.2.2.2.2.2.2.2.1, .i .i64 r.2.2.2.2.2.2.2.2.2.2.2.2.1, .s r.2.2.2.2.2.2.2.2.2.2.2.2.2.1, .list (r.2.2.2.2.2.2.2.2.2.2.2.2.2.2.map ai)]
@[reducible] def v3 (r : Int × Int × (List Bool) × (List (List UInt8)) × (List au) × (List al) × Int) : List MV := [.i .i64 r.1, .i .i64 r.2.1, .list (r.2.2.1.map MV.b), .list (r.2.2.2.1.map MV.s), .list (r.2.2.2.2.1.map ba), .list (r.2.2.2.2.2.1.map aX), .i .i64 r.2.2.2.2.2.2]
@[reducible] def v4 (r : Int × Int × Int × (List Bool) × (List (List UInt8)) × (List au) × (List al)) : List MV := [.i .i64 r.1, .i .i64 r.2.1, .i .i64 r.2.2.1, .list (r.2.2.2.1.map MV.b), .list (r.2.2.2.2.1.map MV.s), .list (r.2.2.2.2.2.1.map ba), .list (r.2.2.2.2.2.2.map aX)]
@[reducible] def v5 (r : Int × Int × (List aa) × (List aa) × (List aa) × Bool × (List UInt8)) : List MV := [.i .i64 r.1, .i .i64 r.2.1, .list (r.2.2.1.map ai), .list (r.2.2.2.1.map ai), .list (r.2.2.2.2.1.map ai), .b r.2.2.2.2.2.1, .s r.2.2.2.2.2.2]
@[reducible] def v6 (r : Int × Int × (List Bool) × (List (List UInt8)) × (List au) × (List al)) : List MV := [.i .i64 r.1, .i .i64 r.2.1, .list (r.2.2.1.map MV.b), .list (r.2.2.2.1.map MV.s), .list (r.2.2.2.2.1.map ba), .list (r.2.2.2.2.2.map aX)]
@[reducible] def v7 (r : Int × (List UInt8) × Bool) : List MV := [.i .i64 r.1, .s r.2.1, .b r.2.2]
theorem lW {A B:Type} {g:B→A} {T:Option B} {l:List MV} {K:Nat→Option A} (n:Nat) (h:Sm g (K n) T) (e:l.length=n:=by simp only [List.length_map,List.length_cons,List.length_nil]):Sm g (bQ l K) T:=mb e h
theorem aQ {A B C:Type} {g:B→A} {T:Option B} {f:C→MV} {M:List C} {K:Nat→Option A} (h:Sm g (K M.length) T):Sm g (bQ (M.map f) K) T:=mb (List.length_map ..) h
theorem ak {A B:Type} {g:B→A} {d:A} {a:B} (e:d=g a:=by exact rfl):Sm g (some d) (some a):=fZ e
theorem kg {A B:Type} {g:B→A} {T:Option B} {k0 k1:IntKind} {x0:Int} {x1:Int} {K:Int→Int→Option A} (h:Sm g (K x0 x1) T):Sm g (Wn k0 k1 [.i k0 x0,.i k1 x1] K) T:=ah (av (ah (av (az h))))
theorem dX {A B:Type} {g:B→A} {T:Option B} {k0 k1 k3:IntKind} {x0:Int} {x1:Int} {x2:Bool} {x3:Int} {x4:List UInt8} {x5:List MV} {K:Int→Int→Bool→Int→List UInt8→List MV→Option A} (h:Sm g (K x0 x1 x2 x3 x4 x5) T):Sm g (NM k0 k1 k3 [.i k0 x0,.i k1 x1,.b x2,.i k3 x3,.s x4,.list x5] K) T:=ah (av (ah (av (ah (aD (ah (av (ah (dL (ah (aU (az h))))))))))))
theorem ez {A B:Type} {g:B→A} {T:Option B} {k0 k1 k2 k3 k5:IntKind} {x0:Int} {x1:Int} {x2:Int} {x3:Int} {x4:Bool} {x5:Int} {x6:List UInt8} {x7:List MV} {x8:List MV} {K:Int→Int→Int→Int→Bool→Int→List UInt8→List MV→List MV→Option A} (h:Sm g (K x0 x1 x2 x3 x4 x5 x6 x7 x8) T):Sm g (El k0 k1 k2 k3 k5 [.i k0 x0,.i k1 x1,.i k2 x2,.i k3 x3,.b x4,.i k5 x5,.s x6,.list x7,.list x8] K) T:=ah (av (ah (av (ah (av (ah (av (ah (aD (ah (av (ah (dL (ah (aU (ah (aU (az h))))))))))))))))))
theorem aG {A B:Type} {g:B→A} {T:Option B} {k0 k1 k2 k3 k5 k9 NN Va:IntKind} {x0:Int} {x1:Int} {x2:Int} {x3:Int} {x4:Bool} {x5:Int} {x6:List UInt8} {x7:List MV} {x8:List MV} {x9:Int} {pu:Int} {pZ:List MV} {qN:List MV} {qp:List MV} {rO:Bool} {uZ:List UInt8} {xZ:List MV} {uQ:Int} {K:Int→Int→Int→Int→Bool→Int→List UInt8→List MV→List MV→Int→Int→List MV→List MV→List MV→Bool→List UInt8→List MV→Int→Option A} (h:Sm g (K x0 x1 x2 x3 x4 x5 x6 x7 x8 x9 pu pZ qN qp rO uZ xZ uQ) T):Sm g (ek k0 k1 k2 k3 k5 k9 NN Va [.i k0 x0,.i k1 x1,.i k2 x2,.i k3 x3,.b x4,.i k5 x5,.s x6,.list x7,.list x8,.i k9 x9,.i NN pu,.list pZ,.list qN,.list qp,.b rO,.s uZ,.list xZ,.i Va uQ] K) T:=ah (av (ah (av (ah (av (ah (av (ah (aD (ah (av (ah (dL (ah (aU (ah (aU (ah (av (ah (av (ah (aU (ah (aU (ah (aU (ah (aD (ah (dL (ah (aU (ah (av (az h))))))))))))))))))))))))))))))))))))
theorem jR {A B:Type} {g:B→A} {T:Option B} {k0 k1 k2 k3 k5 k9 NN Va:IntKind} {x0:Int} {x1:Int} {x2:Int} {x3:Int} {x4:Bool} {x5:Int} {x6:List UInt8} {x7:List MV} {x8:List MV} {x9:Int} {pu:Int} {pZ:List MV} {qN:List MV} {qp:List MV} {rO:Bool} {uZ:List UInt8} {xZ:List MV} {uQ:Int} {FR:List MV} {K:Int→Int→Int→Int→Bool→Int→List UInt8→List MV→List MV→Int→Int→List MV→List MV→List MV→Bool→List UInt8→List MV→Int→List MV→Option A} (h:Sm g (K x0 x1 x2 x3 x4 x5 x6 x7 x8 x9 pu pZ qN qp rO uZ xZ uQ FR) T):Sm g (gG k0 k1 k2 k3 k5 k9 NN Va [.i k0 x0,.i k1 x1,.i k2 x2,.i k3 x3,.b x4,.i k5 x5,.s x6,.list x7,.list x8,.i k9 x9,.i NN pu,.list pZ,.list qN,.list qp,.b rO,.s uZ,.list xZ,.i Va uQ,.list FR] K) T:=ah (av (ah (av (ah (av (ah (av (ah (aD (ah (av (ah (dL (ah (aU (ah (aU (ah (av (ah (av (ah (aU (ah (aU (ah (aU (ah (aD (ah (dL (ah (aU (ah (av (ah (aU (az h))))))))))))))))))))))))))))))))))))))
theorem bN {A B:Type} {g:B→A} {T:Option B} {k0 k1 k2 k5 k6 k9 NN k12:IntKind} {x0:Int} {x1:Int} {x2:Int} {x3:List UInt8} {x4:List MV} {x5:Int} {x6:Int} {x7:List UInt8} {x8:List MV} {x9:Int} {pu:Int} {pZ:Bool} {qN:Int} {qp:List UInt8} {rO:List MV} {K:Int→Int→Int→List UInt8→List MV→Int→Int→List UInt8→List MV→Int→Int→Bool→Int→List UInt8→List MV→Option A} (h:Sm g (K x0 x1 x2 x3 x4 x5 x6 x7 x8 x9 pu pZ qN qp rO) T):Sm g (kY k0 k1 k2 k5 k6 k9 NN k12 [.i k0 x0,.i k1 x1,.i k2 x2,.s x3,.list x4,.i k5 x5,.i k6 x6,.s x7,.list x8,.i k9 x9,.i NN pu,.b pZ,.i k12 qN,.s qp,.list rO] K) T:=ah (av (ah (av (ah (av (ah (dL (ah (aU (ah (av (ah (av (ah (dL (ah (aU (ah (av (ah (av (ah (aD (ah (av (ah (dL (ah (aU (az h))))))))))))))))))))))))))))))
theorem da {A B:Type} {g:B→A} {T:Option B} {k0 k1:IntKind} {x0:Int} {x1:Int} {x2:List MV} {x3:List MV} {x4:List MV} {x5:Bool} {x6:List UInt8} {K:Int→Int→List MV→List MV→List MV→Bool→List UInt8→Option A} (h:Sm g (K x0 x1 x2 x3 x4 x5 x6) T):Sm g (vY k0 k1 [.i k0 x0,.i k1 x1,.list x2,.list x3,.list x4,.b x5,.s x6] K) T:=ah (av (ah (av (ah (aU (ah (aU (ah (aU (ah (aD (ah (dL (az h))))))))))))))
theorem bh {A B:Type} {g:B→A} {T:Option B} {k0 k1:IntKind} {x0:Int} {x1:Int} {x2:List MV} {x3:List MV} {x4:List MV} {x5:List MV} {K:Int→Int→List MV→List MV→List MV→List MV→Option A} (h:Sm g (K x0 x1 x2 x3 x4 x5) T):Sm g (gJ k0 k1 [.i k0 x0,.i k1 x1,.list x2,.list x3,.list x4,.list x5] K) T:=ah (av (ah (av (ah (aU (ah (aU (ah (aU (ah (aU (az h))))))))))))
theorem qt {A B:Type} {g:B→A} {T:Option B} {k0 k1 k6:IntKind} {x0:Int} {x1:Int} {x2:List MV} {x3:List MV} {x4:List MV} {x5:List MV} {x6:Int} {K:Int→Int→List MV→List MV→List MV→List MV→Int→Option A} (h:Sm g (K x0 x1 x2 x3 x4 x5 x6) T):Sm g (Em k0 k1 k6 [.i k0 x0,.i k1 x1,.list x2,.list x3,.list x4,.list x5,.i k6 x6] K) T:=ah (av (ah (av (ah (aU (ah (aU (ah (aU (ah (aU (ah (av (az h))))))))))))))
theorem eU {A B:Type} {g:B→A} {T:Option B} {k0 k1:IntKind} {x0:Int} {x1:Int} {x2:List UInt8} {K:Int→Int→List UInt8→Option A} (h:Sm g (K x0 x1 x2) T):Sm g (abP k0 k1 [.i k0 x0,.i k1 x1,.s x2] K) T:=ah (av (ah (av (ah (dL (az h))))))
theorem wE {A B:Type} {g:B→A} {T:Option B} {k0:IntKind} {x0:Int} {x1:List UInt8} {x2:Bool} {K:Int→List UInt8→Bool→Option A} (h:Sm g (K x0 x1 x2) T):Sm g (Vb k0 [.i k0 x0,.s x1,.b x2] K) T:=ah (av (ah (dL (ah (aD (az h))))))
theorem nH {A B:Type} {g:B→A} {T:Option B} {k1:IntKind} {x0:List MV} {x1:Int} {K:List MV→Int→Option A} (h:Sm g (K x0 x1) T):Sm g (oLI k1 [.list x0,.i k1 x1] K) T:=ah (aU (ah (av (az h))))
theorem Pq (a:gz) (a1:List dv):Sm MV.b (xm (yH a) (.list (a1.map yI))) (sY a a1):=by
 unfold xm sY
 refine aF (ah (av (ah (av (ah (aU (ah (aU (az (aU ?_))))))))))
 refine aj (f:=fun r=>[.b r]) ?_ fun w=> ?_
 ·refine aN ?_ ?_
  ·exact ak
  ·refine aQ<|aN ?_ ?_
   ·exact ak
   ·refine aQ<|aN ?_ ?_
    ·exact ak
    ·refine aQ ak
 ·refine ah (aD (az (aA ?_ ?_)))
  ·exact ak
  ·refine aj (cK (fun r=>[.i .i64 r]) (Sum.elim (fun r=>(2,[])) (fun r=>(1,[.b r]))) (rfl) fun st=> ?_) fun w1=> ?_
   ·unfold rL
    refine ah (av (az (aQ (aN ?_ ?_))))
    ·refine bx (f:=MV.s) (rfl) fun y=>dL<|aN ?_ ?_
     ·exact ak
     ·exact ak
    ·exact ak
   ·rcases w1 with p1|p2
    ·refine ku rfl (az (aj (cK (fun r=>[.i .i64 r]) (Sum.elim (fun r=>(4,[])) (fun r=>(1,[.b r]))) (rfl) fun ca=> ?_) fun w2=> ?_))
     ·unfold oY
      refine ah (av (az (aQ (aN ?_ ?_))))
      ·refine bx (f:=yI) (rfl) fun y1=>aF (ah (av (ah (av (ah (av (bN ?_)))))))
       refine aj (f:=fun r=>[.b r]) ?_ fun w3=> ?_
       ·refine aN ?_ ?_
        ·exact ak
        ·refine aN ?_ ?_
         ·exact ak
         ·refine aQ<|aN ?_ ?_
          ·exact ak
          ·refine aQ<|aN ?_ ?_
           ·exact ak
           ·refine aN ?_ ?_
            ·exact ak
            ·refine aQ ak
       ·refine ah (aD (az (aA ?_ ?_)))
        ·exact ak
        ·refine aj (cK (fun r=>[.i .i64 r]) (Sum.elim (fun r=>(6,[])) (fun r=>(1,[.b r]))) (rfl) fun cS=> ?_) fun w4=> ?_
         ·unfold oX
          refine ah (av (az (aQ (aN ?_ ?_))))
          ·refine bx (f:=aJ) (rfl) fun y2=>aF (dX (aQ (aN ?_ ?_)))
           ·exact ak
           ·exact ak
          ·exact ak
         ·rcases w4 with p5|p6
          ·refine ku rfl (az ak)
          ·refine kv rfl (br rfl (ah (aD (az ak))))
      ·exact ak
     ·rcases w2 with p7|p8
      ·refine ku rfl (az ak)
      ·refine kv rfl (br rfl (ah (aD (az ak))))
    ·refine kv rfl (br rfl (ah (aD (az ak))))
theorem F6 (sA:af):Sm (fun x:Nat×Nat=>MV.raw (.complex .f64 x.1 x.2)) (ot (bu sA)) (sd sA):=by
 unfold ot sd
 refine aF (kg ak)
theorem mC (sA:af) (times:Nat×Nat):Sm (MV.i .i64) (gM (bu sA) (.raw (.complex .f64 times.1 times.2))) (iY sA times):=by
 unfold gM iY
 refine aF (kg (R9 (aj (F6 sA) fun rA=>R9 (Ij (Ij (CW fun f=>Ij (Ij (CW fun f1=>CW fun f2=>CW fun n=>df ak))))))))
theorem sC (sA:af):Sm (MV.i .i64) (nZ (bu sA)) (mf sA):=by
 unfold nZ mf
 refine aF (kg (aj (mC sA (4613937818241073152,4611686018427387904)) fun rA=>av ak))
theorem n8 (sA:af):Sm MV.b (jn (bu sA)) (hU sA):=by
 unfold jn hU
 refine aF (kg ?_)
 refine aj (f:=fun r=>[.b r]) ?_ fun w=> ?_
 ·refine aN ?_ ?_
  ·refine aN ?_ ?_
   ·refine aN ?_ ?_
    ·exact ak
    ·exact ak
   ·exact ak
  ·exact ak
 ·refine ah (aD (az ak))
theorem Ay (sA:af) (me:Int):Sm (fun r=> .dr [bY r.1,.i .i64 r.2]) (nb (bu sA) (.i .i64 me)) (kV sA me):=by
 unfold nb kV
 refine aF (kg (av ?_))
 refine aj (f:=fun r=>[.b r]) ?_ fun w=> ?_
 ·refine aj (n8 sA) fun rA=>aD<|aA ?_ ?_
  ·exact ak
  ·refine aN ?_ ?_
   ·exact ak
   ·refine aj (sC sA) fun aY=>av ak
 ·refine ah (aD (az (aA ?_ ?_)))
  ·exact ak
  ·exact ak
theorem Cl (sA:af):Sm (fun r=> .dr [cL r.1,.i .i64 r.2]) (o6 (bu sA)) (mq sA):=by
 unfold o6 mq
 refine aF (kg (aj (n8 sA) fun rA=>aD (aA ?_ ?_)))
 ·exact ak
 ·exact ak
theorem Mn (sA:af) (i:Int):Sm (fun r=> .dr [ba r.1,.i .i64 r.2]) (ui (bu sA) (.i .i64 i)) (qH sA i):=by
 unfold ui qH
 refine aF (kg (av (aj (Ay sA i) fun rA=>dU (ah (aF (ez (ah (av (az (aA ?_ ?_))))))))))
 ·exact ak
 ·refine aj (Cl sA) fun aY=>dU (ah (aF (da (ah (av (az ak))))))
theorem Kx (a:af) (a1:List Bool) (a2:List (List UInt8)):Sm (fun r=> .dr [gD r.1,.i .i64 r.2]) (wb (bu a) (.list (a1.map MV.b)) (.list (a2.map MV.s))) (qI a a1 a2):=by
 unfold wb qI
 refine aF (kg (aU (aU ?_)))
 refine aj (f:=fun r=>[.b r]) ?_ fun w=> ?_
 ·refine aj (n8 a) fun rA=>aD<|aA ?_ ?_
  ·exact ak
  ·refine aQ<|aj (sC a) fun aY=>av<|aA ?_ ?_
   ·exact ak
   ·refine aQ (aQ ak)
 ·refine ah (aD (az (aA ?_ ?_)))
  ·exact ak
  ·refine aj (xh (size:=1) (f:=MV.b) (fun _=>rfl) a1) fun b7=>nJ<|aj (xh (size:=1) (f:=MV.s) (fun _=>rfl) a2) fun cu=>nJ (aQ (aj (cK (fun r=>[.i .i64 r.1,.i .i64 r.2.1,.list (r.2.2.1.map MV.b),.list (r.2.2.2.1.map MV.s),.list (r.2.2.2.2.1.map ba),.list (r.2.2.2.2.2.1.map aX),.i .i64 r.2.2.2.2.2.2.1,.i .i64 r.2.2.2.2.2.2.2.1,.list (r.2.2.2.2.2.2.2.2.1.map MV.b),.list (r.2.2.2.2.2.2.2.2.2.1.map MV.s),.list (r.2.2.2.2.2.2.2.2.2.2.1.map ba),.list (r.2.2.2.2.2.2.2.2.2.2.2.1.map aX),.i .i64 r.2.2.2.2.2.2.2.2.2.2.2.2.1,.i .i64 r.2.2.2.2.2.2.2.2.2.2.2.2.2]) (Sum.elim (fun r=>(2,[.i .i64 r.1,.i .i64 r.2.1,.list (r.2.2.1.map MV.b),.list (r.2.2.2.1.map MV.s),.list (r.2.2.2.2.1.map ba),.list (r.2.2.2.2.2.1.map aX),.i .i64 r.2.2.2.2.2.2.1,.i .i64 r.2.2.2.2.2.2.2.1,.list (r.2.2.2.2.2.2.2.2.1.map MV.b),.list (r.2.2.2.2.2.2.2.2.2.1.map MV.s),.list (r.2.2.2.2.2.2.2.2.2.2.1.map ba),.list (r.2.2.2.2.2.2.2.2.2.2.2.map aX)])) (fun r=>(1,(v3 r)))) (rfl) fun st=> ?_) fun w1=> ?_))
   ·unfold yL
    refine ah (av (ah (av (ah (aU (ah (aU (ah (aU (ah (aU (ah (av (ah (av (ah (aU (ah (aU (ah (aU (ah (aU (kg (aN ?_ ?_)))))))))))))))))))))))))
    ·refine bx (f:=MV.b) (rfl) fun y=>aD<|aj (f:=(fun r=>(0,[.i .i64 r]))) ?_ fun w2=> ?_
     ·refine aA ?_ ?_
      ·exact ak
      ·exact ak
     ·refine br rfl (ah (av (az ?_)))
      refine aj (f:=fun r=>[.b r]) ?_ fun w3=> ?_
      ·refine bx (f:=MV.s) (rfl) fun y1=>dL<|aN ?_ ?_
       ·exact ak
       ·exact ak
      ·refine ah (aD (az (aA ?_ ?_)))
       ·exact ak
       ·refine aj (Mn a st.2.2.2.2.2.2.2.2.2.2.2.2.2) fun fB=>dU (ah (aF (aG (ah (av (az (aQ (lW (([fB.1]:List au).length) (df (fZ (by simp [aq,aR,gK,v3])))))))))))
    ·exact ak
   ·rcases w1 with p2|p3
    ·refine ku rfl (ah (av (ah (av (ah (aU (ah (aU (ah (aU (ah (aU (bh ak)))))))))))))
    ·refine kv rfl (br rfl (qt ak))
theorem Fc (b:List Int):Sm (fun r=> .dr [.i .u64 r.1,.list (r.2.1.map (MV.i .u8)),.i .i64 r.2.2]) (qQ (.list (b.map (MV.i .u8)))) (tY b):=by
 unfold qQ tY
 refine aU (aQ (aN ?_ ?_))
 ·exact ak
 ·refine bx (f:=(MV.i .u8)) (rfl) fun y=> ?_
  refine av (br (tX (rfl:_=List.map (MV.i .u8) b) fun _=>rfl) (aQ (df ?_)))
  refine aj (f:=fun r=>[.b r]) ?_ fun w=> ?_
  ·refine aN ?_ ?_
   ·exact ak
   ·refine aN ?_ ?_
    ·refine mb (n:=(List.drop (Int.toNat 1) (List.take (Int.toNat (b.length:Int)) b)).length) (by simp only [List.length_map,List.length_append,List.length_cons,List.length_nil,List.length_take,List.length_drop,List.length_set])<|aN ?_ ?_
     ·refine bx (f:=(MV.i .u8)) (by simp only [oh,List.map_replicate,List.map_append,List.map_cons,List.map_nil,List.map_take,List.map_drop,List.map_set]) fun y1=>av ak
     ·exact ak
    ·exact ak
  ·refine ah (aD (az (aA ?_ ?_)))
   ·exact ak
   ·refine mb (n:=(List.drop (Int.toNat 1) (List.take (Int.toNat (b.length:Int)) b)).length) (by simp only [List.length_map,List.length_append,List.length_cons,List.length_nil,List.length_take,List.length_drop,List.length_set])<|aN ?_ ?_
    ·exact ak
    ·refine mb (n:=(List.drop (Int.toNat 1) (List.take (Int.toNat (b.length:Int)) b)).length) (by simp only [List.length_map,List.length_append,List.length_cons,List.length_nil,List.length_take,List.length_drop,List.length_set]) (df (mb (n:=(List.drop (Int.toNat 0) (List.take (Int.toNat (IntKind.wrap .i64 y)) (List.drop (Int.toNat 1) (List.take (Int.toNat (b.length:Int)) b)))).length) (by simp only [List.length_map,List.length_append,List.length_cons,List.length_nil,List.length_take,List.length_drop,List.length_set]) ?_))
     refine aj (cK (fun r=>[.i .u64 r.1,.i .i64 r.2]) (fun r=>(3,[.i .u64 r])) (rfl) fun st=> ?_) fun w1=> ?_
     ·unfold zZ
      refine kg<|aN ?_ ?_
      ·refine bx (f:=(MV.i .u8)) (by simp only [oh,List.map_replicate,List.map_append,List.map_cons,List.map_nil,List.map_take,List.map_drop,List.map_set]) fun y2=>av (df ak)
      ·exact ak
     ·refine br rfl (ah (av (az (br (tX ((by simp only [oh,List.map_replicate,List.map_append,List.map_cons,List.map_nil,List.map_take,List.map_drop,List.map_set]):_=List.map (MV.i .u8) (List.drop (Int.toNat 1) (List.take (Int.toNat (b.length:Int)) b))) fun _=>rfl) (mb (n:=(List.drop (Int.toNat 1) (List.take (Int.toNat (b.length:Int)) b)).length) (by simp only [List.length_map,List.length_append,List.length_cons,List.length_nil,List.length_take,List.length_drop,List.length_set]) (df ?_))))))
      exact fZ (by first|(simp;done)|simp only [List.map_append,List.map_cons,List.map_nil,List.map_take,List.map_drop,List.map_set])
theorem F7 (b:List Int):Sm (fun r=> .dr [.i .i64 r.1,.list (r.2.1.map (MV.i .u8)),.i .i64 r.2.2]) (ou (.list (b.map (MV.i .u8)))) (se b):=by
 unfold ou se
 refine aU<|aj (Fc b) fun rA=>dU (ah (av (nH (df ak))))
theorem eT (t:bC):Sm (fun r=> .eF ((MV.i .i64) r.1) (dH r.2)) (cQ (dH t)) (dg t):=by
 unfold cQ dg
 refine nH<|aj (f:=(fun r=>(0,[.i .i64 r.1,.list (r.2.1.map (MV.i .u8)),.i .i64 r.2.2]))) ?_ fun w=> ?_
 ·refine aN ?_ ?_
  ·refine aj (F7 t.b) fun rA=>dU (ah (av (nH ak)))
  ·exact ak
 ·refine br rfl (ah (av (nH ak)))
theorem Fe (b:List Int) (most:Int):Sm (fun r=> .dr [.s r.1,.list (r.2.1.map (MV.i .u8)),.i .i64 r.2.2]) (nd (.list (b.map (MV.i .u8))) (.i .i64 most)) (qJ b most):=by
 unfold nd qJ
 refine aU (av (aj (Fc b) fun rA=>dU (ah (av (nH (aA ?_ ?_))))))
 ·exact ak
 ·refine aN ?_ ?_
  ·exact ak
  ·refine aQ<|aN ?_ ?_
   ·exact ak
   ·refine aQ (df (XY (M:=List.drop (Int.toNat 0) (List.take (Int.toNat rA.1) rA.2.1)) ((by simp only [oh,List.map_replicate,List.map_append,List.map_cons,List.map_nil,List.map_take,List.map_drop,List.map_set])) fun bs=> ?_))
    refine br (tX (rfl:_=List.map (MV.i .u8) rA.2.1) fun _=>rfl) (aQ (df (fZ (by first|(simp;done)|simp only [List.map_append,List.map_cons,List.map_nil,List.map_take,List.map_drop,List.map_set]))))
theorem pI (t:bC):Sm (fun r=> .eF (MV.s r.1) (dH r.2)) (fC (dH t)) (iy t):=by
 unfold fC iy
 refine nH<|aj (f:=(fun r=>(0,[.s r.1,.list (r.2.1.map (MV.i .u8)),.i .i64 r.2.2]))) ?_ fun w=> ?_
 ·refine aN ?_ ?_
  ·refine aj (Fe t.b 6000) fun rA=>dU (ah (dL (nH ak)))
  ·exact ak
 ·refine br rfl (ah (dL (nH ak)))
theorem wF (t:bC):Sm (fun r=> .eF ((R8 ai) r.1) (dH r.2)) (gO (dH t)) (kw t):=by
 unfold gO kw
 refine nH<|aj (eT t) fun rA=>lJ (nH (av ?_))
 refine aj (f:=fun r=>[.b r]) ?_ fun w=> ?_
 ·refine aN ?_ ?_
  ·exact ak
  ·exact ak
 ·refine ah (aD (az (aj (f:=(fun r=>(0,[.list (r.1.map (MV.i .u8)),.i .i64 r.2]))) ?_ fun w1=> ?_)))
  ·refine aA ?_ ?_
   ·exact ak
   ·exact ak
  ·refine br rfl (nH ?_)
   refine aj (f:=fun r=>[.b r]) ?_ fun w2=> ?_
   ·refine aA ?_ ?_
    ·exact ak
    ·exact ak
   ·refine ah (aD (az (aA ?_ ?_)))
    ·exact ak
    ·refine df (mb (n:=(List.replicate (Int.toNat rA.1) (⟨0,0,([]:List UInt8)⟩:aa)).length) (by simp only [List.length_replicate,List.length_map,List.length_append,List.length_cons,List.length_nil,List.length_take,List.length_drop,List.length_set]) ?_)
     refine aj (cK (fun r=>[.list (r.1.map ai),.i .i64 r.2.1,.list (r.2.2.1.map (MV.i .u8)),.i .i64 r.2.2.2]) (fun r=>(2,[.list (r.1.map ai),.list (r.2.1.map (MV.i .u8)),.i .i64 r.2.2])) (by simp [dH]) fun st=> ?_) fun w3=> ?_
     ·unfold mR
      refine ah (aU (ah (av (nH (aN ?_ ?_)))))
      ·refine aj (eT (⟨st.2.2.1,st.2.2.2⟩:bC)) fun aY=>lJ (nH (av (bx (f:=ai) (rfl) fun y=>aF (eU (fZ (by simp [dH]))))))
      ·exact ak
     ·refine br rfl (ah (aU (nH (aj (eT (⟨w3.2.1,w3.2.2⟩:bC)) fun b7=>lJ (nH (av (aj (pI b7.2) fun cu=>lJ (nH (dL (aQ (aj (cK (fun r=>[.list (r.1.map ai),.i .i64 r.2]) (fun r=>(4,[.list (r.map ai)])) (rfl) fun ca=> ?_) fun w4=> ?_)))))))))))
      ·unfold mS
       refine nH<|aN ?_ ?_
       ·refine bx (f:=ai) (rfl) fun y1=>aF (eU (bx (f:=ai) (by simp only [oh,List.map_replicate,List.map_append,List.map_cons,List.map_nil,List.map_take,List.map_drop,List.map_set]) fun y2=>aF (eU (fZ (by simp [dH])))))
       ·exact ak
      ·refine br rfl (ah (aU (az ak)))
theorem yl (Zu:Bool):Sm (MV.i .i64) (lK (.b Zu)) (om Zu):=by
 unfold lK om
 refine aD<|aA ?_ ?_
 ·exact ak
 ·exact ak
theorem uz (sA:af):Sm (MV.i .i64) (mg (bu sA)) (kz sA):=by
 unfold mg kz
 refine aF (kg (aj (mC sA (4611686018427387904,4607182418800017408)) fun rA=>av ak))
theorem qu (a:aa):Sm MV.b (kZ (ai a)) (jD a):=by
 unfold kZ jD
 refine aF (eU ?_)
 refine aj (f:=fun r=>[.b r]) ?_ fun w=> ?_
 ·refine aN ?_ ?_
  ·refine aN ?_ ?_
   ·refine aN ?_ ?_
    ·exact ak
    ·exact ak
   ·exact ak
  ·exact ak
 ·refine ah (aD (az ak))
theorem Ky (t:ay):Sm MV.b (rP (fL t)) (vN t):=by
 unfold rP vN
 refine aF (ah (aU (az (aQ (aj (cK (fun r=>[.i .i64 r]) (Sum.elim (fun r=>(2,[])) (fun r=>(1,[.b r]))) (rfl) fun st=> ?_) fun w=> ?_)))))
 ·unfold xX
  refine ah (av (az (aN ?_ ?_)))
  ·refine bx (f:=ai) (rfl) fun y=>aF (eU ?_)
   refine aj (f:=fun r=>[.b r]) ?_ fun w1=> ?_
   ·refine aj (qu y) fun rA=>aD<|aA ?_ ?_
    ·exact ak
    ·refine aN ?_ ?_
     ·refine bx (f:=ai) (rfl) fun y1=>aF (eU ak)
     ·exact ak
   ·refine ah (aD (az (aA ?_ ?_)))
    ·exact ak
    ·exact ak
  ·exact ak
 ·rcases w with p1|p2
  ·refine ku rfl (az ak)
  ·refine kv rfl (br rfl (ah (aD (az ak))))
theorem Az (t:ay) (view:Int) (value:List UInt8):Sm (R8 ai) (ng (fL t) (.i .i64 view) (.s value)) (kW t view value):=by
 unfold ng kW
 refine aF (ah (aU (az (av (dL (aQ (aj (cK (fun r=>[.list (r.1.map ai),.i .i64 r.2]) (fun r=>(2,[.list (r.map ai)])) (rfl) fun st=> ?_) fun w=> ?_)))))))
 ·unfold kA
  refine nH<|aN ?_ ?_
  ·refine bx (f:=ai) (rfl) fun y=>aF (eU ?_)
   refine aj (f:=fun r=>[.b r]) ?_ fun w1=> ?_
   ·refine aN ?_ ?_
    ·exact ak
    ·exact ak
   ·refine ah (aD (az (aj (f:=(fun r=>(0,[.list (r.map ai)]))) ?_ fun w2=> ?_)))
    ·refine aA ?_ ?_
     ·refine aQ (lW (([y]:List aa).length) (df (fZ (by simp))))
     ·exact ak
    ·refine br rfl (ah (aU (az ak)))
  ·exact ak
 ·refine br rfl (ah (aU (az ak)))
theorem Kz (t:ay) (view:Int) (value:List UInt8):Sm (MV.i .i64) (rQ (fL t) (.i .i64 view) (.s value)) (vO t view value):=by
 unfold rQ vO
 refine aF (ah (aU (az (av (dL (aj (Az t view value) fun rA=>aU (aQ ak)))))))
theorem wG (sA:af) (p:List aa):Sm MV.b (mz (bu sA) (.list (p.map ai))) (oZ sA p):=by
 unfold mz oZ
 refine aF (kg (aU ?_))
 refine aj (f:=fun r=>[.b r]) ?_ fun w=> ?_
 ·refine aj (n8 sA) fun rA=>aD<|aA ?_ ?_
  ·exact ak
  ·refine aQ<|aj (uz sA) fun aY=>av<|aA ?_ ?_
   ·exact ak
   ·refine aj (Ky (⟨p⟩:ay)) fun b7=>aD ak
 ·refine ah (aD (az (aA ?_ ?_)))
  ·exact ak
  ·refine aj (f:=fun r=>[.b r]) ?_ fun w1=> ?_
   ·refine aQ<|bx (f:=ai) (rfl) fun y=>aF (eU (aj (sC sA) fun cu=>av (aN ?_ ?_)))
    ·refine bx (f:=ai) (rfl) fun y1=>aF (eU (bx (f:=ai) (rfl) fun y2=>aF (eU (aQ (aj (Kz (⟨p⟩:ay) y1.View y2.Value) fun fB=>av ak)))))
    ·exact ak
   ·refine ah (aD (az ak))
theorem uA (a:ao):Sm MV.b (fG (bY a)) (jh a):=by
 unfold fG jh
 refine aF (ez ?_)
 refine aj (f:=fun r=>[.b r]) ?_ fun w=> ?_
 ·refine aN ?_ ?_
  ·exact ak
  ·exact ak
 ·refine ah (aD (az (aA ?_ ?_)))
  ·exact ak
  ·refine aj (f:=fun r=>[.b r]) ?_ fun w1=> ?_
   ·refine aA ?_ ?_
    ·refine aN ?_ ?_
     ·exact ak
     ·refine aN ?_ ?_
      ·exact ak
      ·exact ak
    ·exact ak
   ·refine ah (aD (az (aA ?_ ?_)))
    ·exact ak
    ·refine aj (f:=fun r=>[.b r]) ?_ fun w2=> ?_
     ·refine aA ?_ ?_
      ·refine aA ?_ ?_
       ·exact ak
       ·exact ak
      ·exact ak
     ·refine ah (aD (az (aA ?_ ?_)))
      ·exact ak
      ·refine aj (f:=fun r=>[.b r]) ?_ fun w3=> ?_
       ·refine aQ<|aN ?_ ?_
        ·exact ak
        ·refine aj (wG a.S a.Proof) fun rA=>aD<|aA ?_ ?_
         ·refine bx (f:=ai) (rfl) fun y=>aF (eU ak)
         ·exact ak
       ·refine ah (aD (az ak))
theorem F8 (a:af) (a1:Int) (a2:List Int):Sm (fun r=> .dr [bY r.1,.i .i64 r.2]) (ov (bu a) (.i .i64 a1) (.list (a2.map (MV.i .u8)))) (sf a a1 a2):=by
 unfold ov sf
 refine aF (kg (av (aU (aj (Ay a a1) fun rA=>dU (ah (aF (ez (ah (av (az (aA ?_ ?_)))))))))))
 ·exact ak
 ·refine aj (eT (⟨a2,0⟩:bC)) fun aY=>lJ (nH (av (aj (eT aY.2) fun b7=>lJ (nH (av (aj (eT b7.2) fun cu=>lJ (nH (av (aj (pI cu.2) fun fB=> ?_)))))))))
  refine lJ (nH (dL (aj (wF fB.2) fun kC=>lJ (nH (aU ?_)))))
  refine aj (f:=fun r=>[.b r]) ?_ fun w=> ?_
  ·refine aA ?_ ?_
   ·exact ak
   ·refine aj (yl (decide (b7.1=1))) fun pD=>av<|aA ?_ ?_
    ·exact ak
    ·refine aQ<|aN ?_ ?_
     ·exact ak
     ·refine aj (uA (⟨rA.1.S,rA.1.Me,aY.1,decide (b7.1=1),cu.1,fB.1,kC.1,rA.1.cP⟩:ao)) fun vP=>aD ak
  ·refine ah (aD (az (aA ?_ ?_)))
   ·exact ak
   ·exact ak
theorem AA (p:List aa):Sm (fun r=> .dr (v7 r)) (qT (.list (p.map ai))) (o4 p):=by
 unfold qT o4
 refine aU (aQ (aN ?_ ?_))
 ·exact ak
 ·refine bx (f:=ai) (rfl) fun y=>aF (eU (bx (f:=ai) (rfl) fun y1=>aF (eU ak)))
theorem Mo (x:Int):Sm (MV.i .i64) (uk (.i .u64 x)) (yM x):=by
 unfold uk yM
 refine av<|aj (f:=(fun r=>(0,[.i .u64 r.1,.i .i64 r.2]))) ?_ fun w=> ?_
 ·refine aN ?_ ?_
  ·refine df ak
  ·exact ak
 ·refine br rfl (kg (aj (f:=(fun r=>(0,[.i .u64 r.1,.i .i64 r.2]))) ?_ fun w1=> ?_))
  ·refine aN ?_ ?_
   ·refine df ak
   ·exact ak
  ·refine br rfl (kg (aj (f:=(fun r=>(0,[.i .u64 r.1,.i .i64 r.2]))) ?_ fun w2=> ?_))
   ·refine aN ?_ ?_
    ·refine df ak
    ·exact ak
   ·refine br rfl (kg (df ak))
theorem Mp (n:Int):Sm (MV.i .i64) (ul (.i .u64 n)) (yN n):=by
 unfold ul yN
 refine av<|aj (Mo n) fun rA=>av (Ii ak)
theorem CL (sA:List Int):Sm (Wm (MV.i .u8)) (lR (.list (sA.map (MV.i .u8)))) (pn sA):=by
 unfold lR pn
 refine aU (aQ (aQ (NJ (by simp only [List.length_map]) ak)))
theorem Hj (b:List Int) (n:Int):Sm (O5 (MV.i .u8)) (s8 (.list (b.map (MV.i .u8))) (.i .u64 n)) (xi b n):=by
 unfold s8 xi
 refine aU (av (aj (Mp n) fun rA=>av (aj (CL b) fun aY=> ?_)))
 refine Ma (br (tX (rfl:_=List.map (MV.i .u8) aY) fun _=>rfl) (aQ (lW (([IntKind.wrap .u8 (IntKind.wrap .i64 (rA-1))]:List Int).length) (df (aj (cK (fun r=>[.list (r.1.map (MV.i .u8)),.i .i64 r.2]) (fun r=>(2,[.list (r.map (MV.i .u8))])) (by simp) fun st=> ?_) fun w=> ?_)))))
 ·unfold B7
  refine nH<|aN ?_ ?_
  ·refine df (aQ (lW (([IntKind.wrap .u8 (Int.fdiv n (2^min (Int.toNat (IntKind.wrap .i64 (8 *st.2))) (IntKind.bits .u64)))]:List Int).length) (df (fZ (by simp)))))
  ·exact ak
 ·refine br rfl (ah (aU (az ak)))
theorem qv (b:List Int) (n:Int):Sm (O5 (MV.i .u8)) (lc (.list (b.map (MV.i .u8))) (.i .i64 n)) (mr b n):=by
 unfold lc mr
 refine aU (av (df (df (aj (Hj b (K5 .u64 (IntKind.wrap .u64 ((IntKind.wrap .u64 n) *2^min (Int.toNat 1) (IntKind.bits .u64))) (IntKind.wrap .u64 (Int.fdiv n (2^min (Int.toNat 63) (IntKind.bits .i64)))))) fun rA=>nJ ak))))
theorem Ff (b:List Int) (sA:List UInt8):Sm (O5 (MV.i .u8)) (qU (.list (b.map (MV.i .u8))) (.s sA)) (tZ b sA):=by
 unfold qU tZ
 refine aU (dL (aj (Hj b (IntKind.wrap .u64 (sA.length:Int))) fun rA=>nJ (aQ (mb (n:=(R7 sA).length) (by simp only [oh,List.length_map,List.length_append,List.length_cons,List.length_nil,List.length_take,List.length_drop,List.length_set]) (df ?_)))))
 exact fZ (by simp)
theorem F9 (a:ao):Sm (R8 (MV.i .u8)) (ox (bY a)) (si a):=by
 unfold ox si
 refine aF (ez (aj (qv ([]:List Int) a.View) fun rA=>nJ (aj (yl a.Has) fun aY=>av (aj (qv rA aY) fun b7=>nJ (aj (qv b7 a.At) fun cu=>nJ (aQ (aj (Ff cu a.Value) fun fB=> ?_)))))))
 refine nJ<|aj (qv fB (a.Proof.length:Int)) fun kC=>nJ (aQ (aj (cK (fun r=>[.list (r.1.map (MV.i .u8)),.i .i64 r.2]) (fun r=>(2,[.list (r.map (MV.i .u8))])) (rfl) fun st=> ?_) fun w=> ?_))
 ·unfold uO
  refine nH<|aN ?_ ?_
  ·refine bx (f:=ai) (rfl) fun y=>aF (eU (aj (qv st.1 y.By) fun pD=>nJ ak))
  ·exact ak
 ·refine br rfl (ah (aU (az (aj (AA a.Proof) fun vP=>dU (wE (aj (f:=(fun r=>(0,[.list (r.map (MV.i .u8))]))) ?_ fun w1=> ?_))))))
  ·refine aA ?_ ?_
   ·refine aj (qv w vP.1) fun Mb=>nJ<|aj (Ff Mb vP.2.1) fun NK=>nJ ak
   ·exact ak
  ·refine br rfl (ah (aU (az ak)))
theorem Iz (sA:af) (i:Int) (n:au):Sm ba (qa (bu sA) (.i .i64 i) (ba n)) (ua sA i n):=by
 unfold qa ua
 refine aF (kg (av (aF (aG (aj (F9 n.A) fun rA=>aU (aj (F8 sA i rA) fun aY=>dU (ah (aF (ez (ah (av (az (aj (Cl sA) fun b7=>dU (ah (aF (da (ah (av (az ?_)))))))))))))))))))
 exact ak
theorem gQ (c:aw) (i:Int) (bad:Bool):Sm MV.b (ey (gD c) (.i .i64 i) (.b bad)) (dV c i bad):=by
 unfold ey dV
 refine aF (bh (av (aD ?_)))
 refine aj (f:=fun r=>[.b r]) ?_ fun w=> ?_
 ·refine aN ?_ ?_
  ·refine aQ<|aN ?_ ?_
   ·refine bx (f:=MV.b) (rfl) fun y=>aD ak
   ·exact ak
  ·exact ak
 ·refine ah (aD (az ak))
theorem vg (s1:List aa) (s2:List aa):Sm MV.b (gd (.list (s1.map ai)) (.list (s2.map ai))) (jN s1 s2):=by
 unfold gd jN
 refine aU (aU (aQ (aQ (aA ?_ ?_))))
 ·exact ak
 ·refine aQ<|aj (cK (fun r=>[.i .i64 r]) (Sum.elim (fun r=>(2,[])) (fun r=>(1,[.b r]))) (rfl) fun st=> ?_) fun w=> ?_
  ·unfold mu
   refine ah (av (az (aN ?_ ?_)))
   ·refine bx (f:=ai) (rfl) fun y=>aF (eU (bx (f:=ai) (rfl) fun y1=>aF (eU (aA ?_ ?_))))
    ·exact ak
    ·exact ak
   ·exact ak
  ·rcases w with p1|p2
   ·refine ku rfl (az ak)
   ·refine kv rfl (br rfl (ah (aD (az ak))))
theorem Mq (a:List aa) (b:List aa):Sm MV.b (um (.list (a.map ai)) (.list (b.map ai))) (yO a b):=by
 unfold um yO
 refine aU (aU (aj (vg a b) fun rA=>aD ak))
theorem Ga (x:ab) (y:ab):Sm MV.b (oz (aJ x) (aJ y)) (oo x y):=by
 unfold oz oo
 refine aF (dX (aF (dX ?_)))
 refine aj (f:=fun r=>[.b r]) ?_ fun w=> ?_
 ·refine aN ?_ ?_
  ·refine aN ?_ ?_
   ·refine aN ?_ ?_
    ·refine aN ?_ ?_
     ·refine aN ?_ ?_
      ·refine aj (Mq x.Proof y.Proof) fun rA=>aD ak
      ·exact ak
     ·exact ak
    ·exact ak
   ·exact ak
  ·exact ak
 ·refine ah (aD (az ak))
theorem iP (s1:List ab) (s2:List ab) (eq:ab→ab→Option Bool) {NT:Nat} {zx:List MV} (ahD:gv NT=false) (gU: ∀(u0:ab) (u1:ab),Sm MV.b (cr NT ([aJ u0,aJ u1]++zx)) (eq u0 u1)):Sm MV.b (bV (.list (s1.map aJ)) (.list (s2.map aJ)) (.func NT zx)) (cD s1 s2 eq):=by
 unfold bV cD
 refine aU (aU (tV (aQ (aQ (aA ?_ ?_)))))
 ·exact ak
 ·refine aQ<|aj (cK (fun r=>[.i .i64 r]) (Sum.elim (fun r=>(2,[])) (fun r=>(1,[.b r]))) (rfl) fun st=> ?_) fun w=> ?_
  ·unfold dE
   refine ah (av (az (aN ?_ ?_)))
   ·refine bx (f:=aJ) (rfl) fun y=>aF (dX (bx (f:=aJ) (rfl) fun y1=> ?_))
    refine aF (dX (vM (br (by rw [ahD];rfl) ?_)))
    refine aj (gU y y1) fun rA=>aD<|aA ?_ ?_
    ·exact ak
    ·exact ak
   ·exact ak
  ·rcases w with p1|p2
   ·refine ku rfl (az ak)
   ·refine kv rfl (br rfl (ah (aD (az ak))))
theorem KA (a:List ab) (b:List ab):Sm MV.b (rR (.list (a.map aJ)) (.list (b.map aJ))) (vQ a b):=by
 unfold rR vQ
 refine aU (aU (aj (iP a b oo (NT:=176) (zx:=[]) rfl (fun u2 u3=>Sm.at (eY _ _) (Ga u2 u3))) fun rA=>aD ak))
theorem pJ (m:al) (c:ab):Sm MV.b (iA (aX m) (.rp [.i .i64 c.By,.i .i64 c.mc,.b c.Has,.i .i64 c.View,.s c.Value,.list (c.Proof.map ai)])) (ej m c):=by
 unfold iA ej
 refine aF (bN (NI (dX ?_)))
 refine aj (f:=fun r=>[.b r]) ?_ fun w=> ?_
 ·refine aN ?_ ?_
  ·refine aj (KA ([m.R]:List ab) ([c]:List ab)) fun rA=>aD ak
  ·exact ak
 ·refine ah (aD (az ak))
theorem AB (m:al) (c:aa):Sm MV.b (jZ (aX m) (.rp [.i .i64 c.By,.i .i64 c.View,.s c.Value])) (jV m c):=by
 unfold jZ jV
 refine aF (bN (NI (eU ?_)))
 refine aj (f:=fun r=>[.b r]) ?_ fun w=> ?_
 ·refine aN ?_ ?_
  ·exact ak
  ·exact ak
 ·refine ah (aD (az ak))
theorem tl (sA:List al) (f:al→Option Bool) {xn:Nat} {pe:List MV} (Dz:gv xn=false) (gn: ∀(u0:al),Sm MV.b (dy xn ([aX u0]++pe)) (f u0)):Sm (MV.i .i64) (fp (.list (sA.map aX)) (.func xn pe)) (iJ sA f):=by
 unfold fp iJ
 refine aU (tV (aQ (aj (cK (fun r=>[.i .i64 r]) (Sum.elim (fun r=>(2,[])) (fun r=>(1,[.i .i64 r]))) (rfl) fun st=> ?_) fun w=> ?_)))
 ·unfold ll
  refine ah (av (az (aN ?_ ?_)))
  ·refine bx (f:=aX) (rfl) fun y=> ?_
   refine aF (bN (vM (br (by rw [Dz];rfl) ?_)))
   refine aj (gn y) fun rA=>aD<|aA ?_ ?_
   ·exact ak
   ·exact ak
  ·exact ak
 ·rcases w with p1|p2
  ·refine ku rfl (az ak)
  ·refine kv rfl (br rfl (ah (av (az ak))))
theorem fX (sA:List al) (f:al→Option Bool) {xn:Nat} {pe:List MV} (Dz:gv xn=false) (gn: ∀(u0:al),Sm MV.b (dy xn ([aX u0]++pe)) (f u0)):Sm MV.b (cF (.list (sA.map aX)) (.func xn pe)) (dh sA f):=by
 unfold cF dh
 refine aU (tV (aj (tl sA f Dz gn) fun rA=>av ak))
theorem CM (c:aw) (a:aa):Sm MV.b (lS (gD c) (ai a)) (po c a):=by
 unfold lS po
 refine aF (bh (aF (eU ?_)))
 refine aj (f:=fun r=>[.b r]) ?_ fun w=> ?_
 ·refine aj (gQ c a.By true) fun rA=>aD<|aA ?_ ?_
  ·exact ak
  ·refine aj (fX c.bF (fun u=>jV u a) (xn:=179) (pe:=[.rp [.i .i64 a.By,.i .i64 a.View,.s a.Value]]) rfl (fun u1=>Sm.at (jQ _ _) (AB u1 a))) fun aY=> ?_
   refine aD ak
 ·refine ah (aD (az ak))
theorem xD (a:aa) (c:aw):Sm MV.b (iB (ai a) (.rp [.i .i64 c.S.F,.i .i64 c.S.T,.list (c.cV.map MV.b),.list (c.Want.map MV.s),.list (c.N.map ba),.list (c.bF.map aX)])) (iz a c):=by
 unfold iB iz
 refine aF (eU (NI (bh (aj (CM c a) fun rA=>aD ak))))
theorem rh (sA:List aa) (f:aa→Option Bool) {xn:Nat} {pe:List MV} (Dz:gv xn=false) (fI: ∀(u0:aa),Sm MV.b (dZ xn ([ai u0]++pe)) (f u0)):Sm (MV.i .i64) (eD (.list (sA.map ai)) (.func xn pe)) (gj sA f):=by
 unfold eD gj
 refine aU (tV (aQ (aj (cK (fun r=>[.i .i64 r]) (Sum.elim (fun r=>(2,[])) (fun r=>(1,[.i .i64 r]))) (rfl) fun st=> ?_) fun w=> ?_)))
 ·unfold jW
  refine ah (av (az (aN ?_ ?_)))
  ·refine bx (f:=ai) (rfl) fun y=> ?_
   refine aF (eU (vM (br (by rw [Dz];rfl) ?_)))
   refine aj (fI y) fun rA=>aD<|aA ?_ ?_
   ·exact ak
   ·exact ak
  ·exact ak
 ·rcases w with p1|p2
  ·refine ku rfl (az ak)
  ·refine kv rfl (br rfl (ah (av (az ak))))
theorem pz (sA:List aa) (f:aa→Option Bool) {xn:Nat} {pe:List MV} (Dz:gv xn=false) (fI: ∀(u0:aa),Sm MV.b (dZ xn ([ai u0]++pe)) (f u0)):Sm MV.b (dI (.list (sA.map ai)) (.func xn pe)) (fv sA f):=by
 unfold dI fv
 refine aU (tV (aj (rh sA f Dz fI) fun rA=>av ak))
theorem nC (c:aw) (lA:List aa):Sm MV.b (fq (gD c) (.list (lA.map ai))) (gE c lA):=by
 unfold fq gE
 refine aF (bh (aU (aj (pz lA (fun u=>iz u c) (xn:=147) (pe:=[.rp [.i .i64 c.S.F,.i .i64 c.S.T,.list (c.cV.map MV.b),.list (c.Want.map MV.s),.list (c.N.map ba),.list (c.bF.map aX)]]) rfl (fun u1=>Sm.at (iO _ _) (xD u1 c))) fun rA=> ?_)))
 refine aD ak
theorem AD (c:aw) (rA:ab):Sm MV.b (j0 (gD c) (aJ rA)) (mT c rA):=by
 unfold j0 mT
 refine aF (bh (aF (dX ?_)))
 refine aj (f:=fun r=>[.b r]) ?_ fun w=> ?_
 ·refine aj (gQ c rA.By true) fun aY=>aD<|aA ?_ ?_
  ·refine aj (nC c rA.Proof) fun b7=>aD<|aA ?_ ?_
   ·exact ak
   ·refine aj (fX c.bF (fun u=>ej u rA) (xn:=143) (pe:=[.rp [.i .i64 rA.By,.i .i64 rA.mc,.b rA.Has,.i .i64 rA.View,.s rA.Value,.list (rA.Proof.map ai)]]) rfl (fun u1=>Sm.at (ei _ _) (pJ u1 rA))) fun cu=> ?_
    refine aD ak
  ·refine aj (fX c.bF (fun u2=>ej u2 rA) (xn:=143) (pe:=[.rp [.i .i64 rA.By,.i .i64 rA.mc,.b rA.Has,.i .i64 rA.View,.s rA.Value,.list (rA.Proof.map ai)]]) rfl (fun u3=>Sm.at (ei _ _) (pJ u3 rA))) fun fB=> ?_
   refine aD ak
 ·refine ah (aD (az ak))
theorem IA (rA:ab) (c:aw):Sm MV.b (qd (aJ rA) (.rp [.i .i64 c.S.F,.i .i64 c.S.T,.list (c.cV.map MV.b),.list (c.Want.map MV.s),.list (c.N.map ba),.list (c.bF.map aX)])) (pU rA c):=by
 unfold qd pU
 refine aF (dX (NI (bh (aj (AD c rA) fun aY=>aD ak))))
theorem rj (sA:List ab) (f:ab→Option Bool) {xn:Nat} {pe:List MV} (Dz:gv xn=false) (fJ: ∀(u0:ab),Sm MV.b (ec xn ([aJ u0]++pe)) (f u0)):Sm (MV.i .i64) (eE (.list (sA.map aJ)) (.func xn pe)) (gk sA f):=by
 unfold eE gk
 refine aU (tV (aQ (aj (cK (fun r=>[.i .i64 r]) (Sum.elim (fun r=>(2,[])) (fun r=>(1,[.i .i64 r]))) (rfl) fun st=> ?_) fun w=> ?_)))
 ·unfold jX
  refine ah (av (az (aN ?_ ?_)))
  ·refine bx (f:=aJ) (rfl) fun y=> ?_
   refine aF (dX (vM (br (by rw [Dz];rfl) ?_)))
   refine aj (fJ y) fun rA=>aD<|aA ?_ ?_
   ·exact ak
   ·exact ak
  ·exact ak
 ·rcases w with p1|p2
  ·refine ku rfl (az ak)
  ·refine kv rfl (br rfl (ah (av (az ak))))
theorem pA (sA:List ab) (f:ab→Option Bool) {xn:Nat} {pe:List MV} (Dz:gv xn=false) (fJ: ∀(u0:ab),Sm MV.b (ec xn ([aJ u0]++pe)) (f u0)):Sm MV.b (dJ (.list (sA.map aJ)) (.func xn pe)) (fw sA f):=by
 unfold dJ fw
 refine aU (tV (aj (rj sA f Dz fJ) fun rA=>av ak))
theorem Mr (c:aw) (m:al):Sm MV.b (uq (gD c) (aX m)) (yP c m):=by
 unfold uq yP
 refine aF (bh (aF (bN (aN ?_ ?_))))
 ·refine aj (f:=fun r=>[.b r]) ?_ fun w=> ?_
  ·refine aj (gQ c m.gh true) fun rA=>aD<|aA ?_ ?_
   ·refine aj (pA m.fE (fun u=>pU u c) (xn:=79) (pe:=[.rp [.i .i64 c.S.F,.i .i64 c.S.T,.list (c.cV.map MV.b),.list (c.Want.map MV.s),.list (c.N.map ba),.list (c.bF.map aX)]]) rfl (fun u1=>Sm.at (lf _ _) (IA u1 c))) fun aY=> ?_
    refine aD ak
   ·exact ak
  ·refine ah (aD (az ak))
 ·refine aN ?_ ?_
  ·refine aj (gQ c m.oW.By true) fun b7=>aD ak
  ·refine aN ?_ ?_
   ·refine aj (f:=fun r=>[.b r]) ?_ fun w1=> ?_
    ·refine aj (gQ c m.gh true) fun cu=>aD<|aA ?_ ?_
     ·refine aj (nC c m.Proof) fun fB=>aD ak
     ·exact ak
    ·refine ah (aD (az ak))
   ·refine aN ?_ ?_
    ·refine aj (f:=fun r=>[.b r]) ?_ fun w2=> ?_
     ·refine aj (gQ c m.R.By true) fun kC=>aD<|aA ?_ ?_
      ·refine aj (nC c m.R.Proof) fun pD=>aD ak
      ·exact ak
     ·refine ah (aD (az ak))
    ·refine aN ?_ ?_
     ·refine aj (gQ c m.gh true) fun vP=>aD ak
     ·exact ak
theorem qZ (sA:List al):Sm (Wm aX) (dN (.list (sA.map aX))) (fR sA):=by
 unfold dN fR
 refine aU (aQ (aQ (NJ (by simp only [List.length_map]) ak)))
theorem wH (sA:af) (view:Int):Sm (MV.i .i64) (mB (bu sA) (.i .i64 view)) (iZ sA view):=by
 unfold mB iZ
 refine aF (kg (av (aj (sC sA) fun rA=>av (Ii ak))))
theorem ym (rA:ab):Sm (MV.i .i64) (lL (aJ rA)) (oq rA):=by
 unfold lL oq
 refine aF (dX (aj (AA rA.Proof) fun aY=>dU (wE (aA ?_ ?_))))
 ·exact ak
 ·exact ak
theorem Ms (sA:af):Sm (MV.i .i64) (uu (bu sA)) (yQ sA):=by
 unfold uu yQ
 refine aF (kg (aj (mC sA (4607182418800017408,4607182418800017408)) fun rA=>av ak))
theorem AE (a:af) (a1:List ab):Sm (fun r=> .dr [.s r.1,.b r.2]) (nn (bu a) (.list (a1.map aJ))) (pV a a1):=by
 unfold nn pV
 refine aF (kg (aU (aQ (aj (cK (fun r=>[.i .i64 r.1,.s r.2.1,.i .i64 r.2.2]) (fun r=>(2,[.i .i64 r.1,.s r.2])) (rfl) fun st=> ?_) fun w=> ?_))))
 ·unfold vR
  refine ah (av (ah (dL (ah (av (az (aN ?_ ?_)))))))
  ·refine bx (f:=aJ) (rfl) fun y=>aF (dX (aj (ym y) fun rA=>av (aj (f:=(fun r=>(0,[.i .i64 r.1,.s r.2]))) ?_ fun w1=> ?_)))
   ·refine aN ?_ ?_
    ·refine bx (f:=ai) (rfl) fun y1=>aF (eU ak)
    ·exact ak
   ·refine br rfl (ah (av (ah (dL (az ak)))))
  ·exact ak
 ·refine br rfl (ah (av (ah (dL (az (aQ (aj (cK (fun r=>[.list r.1,.i .i64 r.2]) (fun r=>(4,[.list r])) (rfl) fun ca=> ?_) fun w2=> ?_)))))))
  ·unfold mU
   refine nH<|aN ?_ ?_
   ·refine bx (f:=aJ) (rfl) fun y2=>aF (dX ?_)
    refine aj (f:=fun r=>[.b r]) ?_ fun w3=> ?_
    ·refine aA ?_ ?_
     ·exact ak
     ·exact ak
    ·refine ah (aD (az (aj (f:=(fun r=>(0,[.list r]))) ?_ fun w4=> ?_)))
     ·refine aA ?_ ?_
      ·exact ak
      ·exact ak
     ·refine br rfl (ah (aU (az ak)))
   ·exact ak
  ·refine br rfl (ah (aU (az (aj (Se (e:=id) (f:=(Sum.elim (fun r=>(6,[])) (fun r=>(1,[.s r.1,.b r.2])))) (List.map_id _).symm ?_ fun Zv=> ?_) fun w5=> ?_))))
   ·exact ak
   ·unfold vT
    refine X0 fun key n=>aj (Ms a) fun aY=>av<|aN ?_ ?_
    ·exact ak
    ·exact fZ rfl
   ·rcases w5 with p5|p6
    ·refine ku rfl (az ak)
    ·refine kv rfl (br rfl (ah (dL (ah (aD (az ak))))))
theorem Hk (sA:af):Sm (MV.i .i64) (tc (bu sA)) (qn sA):=by
 unfold tc qn
 refine aF (kg (aj (mC sA (4611686018427387904,4611686018427387904)) fun rA=>av ak))
theorem Fg (a:af) (a1:ab):Sm MV.b (qW (bu a) (aJ a1)) (ub a a1):=by
 unfold qW ub
 refine aF (kg (aF (dX ?_)))
 refine aj (f:=fun r=>[.b r]) ?_ fun w=> ?_
 ·refine aj (n8 a) fun rA=>aD<|aA ?_ ?_
  ·exact ak
  ·refine aN ?_ ?_
   ·exact ak
   ·refine aj (sC a) fun aY=>av<|aN ?_ ?_
    ·exact ak
    ·refine aN ?_ ?_
     ·exact ak
     ·exact ak
 ·refine ah (aD (az (aA ?_ ?_)))
  ·exact ak
  ·refine aj (f:=fun r=>[.b r]) ?_ fun w1=> ?_
   ·refine aA ?_ ?_
    ·refine aA ?_ ?_
     ·exact ak
     ·exact ak
    ·exact ak
   ·refine ah (aD (az (aA ?_ ?_)))
    ·exact ak
    ·refine aj (f:=fun r=>[.b r]) ?_ fun w2=> ?_
     ·refine aA ?_ ?_
      ·refine aN ?_ ?_
       ·exact ak
       ·refine aN ?_ ?_
        ·exact ak
        ·exact ak
      ·exact ak
     ·refine ah (aD (az (aA ?_ ?_)))
      ·exact ak
      ·refine aj (f:=fun r=>[.b r]) ?_ fun w3=> ?_
       ·refine aQ<|aN ?_ ?_
        ·exact ak
        ·refine aj (wG a a1.Proof) fun b7=>aD<|aA ?_ ?_
         ·refine aj (ym a1) fun cu=>av ak
         ·exact ak
       ·refine ah (aD (az ak))
theorem IB (sA:af) (view:Int) (lA:List ab):Sm MV.b (qe (bu sA) (.i .i64 view) (.list (lA.map aJ))) (uc sA view lA):=by
 unfold qe uc
 refine aF (kg (av (aU ?_)))
 refine aj (f:=fun r=>[.b r]) ?_ fun w=> ?_
 ·refine aj (n8 sA) fun rA=>aD<|aA ?_ ?_
  ·exact ak
  ·refine aQ<|aj (Hk sA) fun aY=>av ak
 ·refine ah (aD (az (aA ?_ ?_)))
  ·exact ak
  ·refine aQ<|aj (cK (fun r=>[.i .i64 r.1,.i .i64 r.2]) (Sum.elim (fun r=>(2,[])) (fun r=>(1,[.b r]))) (rfl) fun st=> ?_) fun w1=> ?_
   ·unfold vU
    refine kg<|aN ?_ ?_
    ·refine bx (f:=aJ) (rfl) fun y=>aF (dX ?_)
     refine aj (f:=fun r=>[.b r]) ?_ fun w2=> ?_
     ·refine aj (Fg sA y) fun b7=>aD<|aA ?_ ?_
      ·exact ak
      ·refine aA ?_ ?_
       ·exact ak
       ·exact ak
     ·refine ah (aD (az (aA ?_ ?_)))
      ·exact ak
      ·exact ak
    ·exact ak
   ·rcases w1 with p1|p2
    ·refine ku rfl (az ak)
    ·refine kv rfl (br rfl (ah (aD (az ak))))
theorem Fh (sA:af) (view:Int) (lA:List ab) (value:List UInt8):Sm MV.b (np (bu sA) (.i .i64 view) (.list (lA.map aJ)) (.s value)) (qK sA view lA value):=by
 unfold np qK
 refine aF (kg (av (aU (dL (aj (IB sA view lA) fun rA=>aD (aA ?_ ?_))))))
 ·exact ak
 ·refine aj (AE sA lA) fun aY=>dU (ah (dL (ah (aD (az ?_)))))
  refine aj (f:=fun r=>[.b r]) ?_ fun w=> ?_
  ·refine aA ?_ ?_
   ·exact ak
   ·exact ak
  ·refine ah (aD (az ak))
theorem Bx (a:ao) (view:Int) (value:List UInt8) (z1:List ab):Sm (fun r=> .dr [bY r.1,ai r.2.1,.b r.2.2]) (lg (bY a) (.i .i64 view) (.s value) (.list (z1.map aJ))) (fP a view value z1):=by
 unfold lg fP
 refine aF (ez (av (dL (aU ?_))))
 refine aj (f:=fun r=>[.b r]) ?_ fun w=> ?_
 ·refine aA ?_ ?_
  ·exact ak
  ·refine aA ?_ ?_
   ·refine aN ?_ ?_
    ·exact ak
    ·exact ak
   ·exact ak
 ·refine ah (aD (az (aA ?_ ?_)))
  ·exact ak
  ·refine aj (f:=fun r=>[.b r]) ?_ fun w1=> ?_
   ·refine aN ?_ ?_
    ·refine aQ ak
    ·exact ak
   ·refine ah (aD (az (aj (f:=(Sum.elim (fun r=>(1,[.i .i64 r.1,.i .i64 r.2.1,.i .i64 r.2.2.1,.i .i64 r.2.2.2.1,.b r.2.2.2.2.1,.i .i64 r.2.2.2.2.2.1,.s r.2.2.2.2.2.2.1,.list (r.2.2.2.2.2.2.2.1.map ai),.list (r.2.2.2.2.2.2.2.2.1.map ai),.i .i64 r.2.2.2.2.2.2.2.2.2.1,.i .i64 r.2.2.2.2.2.2.2.2.2.2.1,.s r.2.2.2.2.2.2.2.2.2.2.2.1,.b r.2.2.2.2.2.2.2.2.2.2.2.2])) (fun r=>(0,[.i .i64 r.1,.i .i64 r.2.1,.i .i64 r.2.2.1,.i .i64 r.2.2.2.1,.b r.2.2.2.2.1,.i .i64 r.2.2.2.2.2.1,.s r.2.2.2.2.2.2.1,.list (r.2.2.2.2.2.2.2.1.map ai),.list (r.2.2.2.2.2.2.2.2.1.map ai),.i .i64 r.2.2.2.2.2.2.2.2.2.1,.i .i64 r.2.2.2.2.2.2.2.2.2.2.1,.s r.2.2.2.2.2.2.2.2.2.2.2])))) ?_ fun w2=> ?_)))
    ·refine aA ?_ ?_
     ·exact ak
     ·refine aj (Fh a.S view z1 value) fun rA=>aD<|aA ?_ ?_
      ·exact ak
      ·exact ak
    ·rcases w2 with p1|p2
     ·refine ku rfl (ah (av (ah (av (ah (av (ah (av (ah (aD (ah (av (ah (dL (ah (aU (ah (aU (ah (av (wE ak)))))))))))))))))))))
     ·refine kv rfl (br rfl (ah (av (ah (av (ah (av (ah (av (ah (aD (ah (av (ah (dL (ah (aU (ah (aU (eU ak))))))))))))))))))))
theorem AF (x:Int):Sm MV.b (nq (.i .i64 x)) (kX x):=by
 unfold nq kX
 refine av ak
theorem wI (x:Int) (y:Int):Sm (MV.i .i64) (kK (.i .i64 x) (.i .i64 y)) (iK x y):=by
 unfold kK iK
 refine av (av (aj (AF x) fun rA=>aD (aj (AF y) fun aY=>aD (aA ?_ ?_))))
 ·refine aA ?_ ?_
  ·exact ak
  ·exact ak
 ·refine aA ?_ ?_
  ·exact ak
  ·refine aN ?_ ?_
   ·exact ak
   ·refine aN ?_ ?_
    ·exact ak
    ·exact ak
theorem KB (x:aa) (tx:Int):Sm (MV.i .i64) (rU (ai x) (.i .i64 tx)) (ja x tx):=by
 unfold rU ja
 refine aF (eU (av (aj (wI x.By tx) fun rA=>av ak)))
theorem lM (x:List aa) (target:Int) (cmp:aa→Int→Option Int) {NT:Nat} {zx:List MV} (KC:gv NT=false) (eV: ∀(u0:aa) (u1:Int),Sm (MV.i .i64) (cy NT ([ai u0,.i .i64 u1]++zx)) (cmp u0 u1)):Sm (fun r=> .dr [.i .i64 r.1,.b r.2]) (cN (.list (x.map ai)) (.i .i64 target) (.func NT zx)) (b5 x target cmp):=by
 unfold cN b5
 refine aU (av (tV (aQ (aj (cK (fun r=>[.i .i64 r.1,.i .i64 r.2]) (fun r=>(2,[.i .i64 r])) (rfl) fun st=> ?_) fun w=> ?_))))
 ·unfold fh
  refine kg<|aN ?_ ?_
  ·refine df<|bx (f:=ai) (rfl) fun y=> ?_
   refine aF (eU (vM (br (by rw [KC];rfl) ?_)))
   refine aj (eV y target) fun rA=>av<|aj (f:=(fun r=>(0,[.i .i64 r.1,.i .i64 r.2]))) ?_ fun w1=> ?_
   ·refine aN ?_ ?_
    ·exact ak
    ·exact ak
   ·refine br rfl (kg ak)
  ·exact ak
 ·refine br rfl (ah (av (az ?_)))
  refine aj (f:=fun r=>[.i .i64 r.1,.b r.2]) ?_ fun w2=> ?_
  ·refine aN ?_ ?_
   ·refine bx (f:=ai) (rfl) fun y1=> ?_
    refine aF (eU (vM (br (by rw [KC];rfl) ?_)))
    refine aj (eV y1 target) fun aY=>av ak
   ·exact ak
  ·refine ah (av (ah (aD (az ak))))
theorem xq (t:ay) (a:aa):Sm (fun r=> .dr [fL r.1,.b r.2]) (n6 (fL t) (ai a)) (iL t a):=by
 unfold n6 iL
 refine aF (ah (aU (az (aF (eU (aj (qu a) fun rA=>aD (aA ?_ ?_)))))))
 ·exact ak
 ·refine aj (lM t.L a.By ja (NT:=155) (zx:=[]) rfl (fun u2 u3=>Sm.at (ig _ _) (KB u2 u3))) fun aY=>dU (ah (av (ah (aD (az ?_)))))
  refine aj (f:=fun r=>[.b r]) ?_ fun w=> ?_
  ·refine aA ?_ ?_
   ·refine bx (f:=ai) (rfl) fun y=>aF (eU ak)
   ·exact ak
  ·refine ah (aD (az (aA ?_ ?_)))
   ·exact ak
   ·refine aj (xh (size:=3) (f:=ai) (fun _=>rfl) t.L) fun b7=>nJ<|aj (f:=(fun r=>(0,[.list (r.map ai)]))) ?_ fun w1=> ?_
    ·refine aA ?_ ?_
     ·refine bx (f:=ai) (rfl) fun y1=>aF (eU (fZ (by simp)))
     ·refine aj (J6 (f:=ai) b7 aY.1 ([a]:List aa)) fun cu=>nJ ak
    ·refine br rfl (ah (aU (az ak)))
theorem uB (a:ay) (a1:Int):Sm (fun r=> .dr (v7 r)) (mi (fL a) (.i .i64 a1)) (ji a a1):=by
 unfold mi ji
 refine aF (ah (aU (az (av (aQ (aj (cK (fun r=>[.list r.1,.i .i64 r.2]) (fun r=>(2,[.list r])) (rfl) fun st=> ?_) fun w=> ?_))))))
 ·unfold pW
  refine nH<|aN ?_ ?_
  ·refine bx (f:=ai) (rfl) fun y=>aF (eU (df ak))
  ·exact ak
 ·refine br rfl (ah (aU (az (aQ (aj (cK (fun r=>[.i .i64 r.1,.s r.2.1,.b r.2.2.1,.i .i64 r.2.2.2]) (fun r=>(4,(v7 r))) (rfl) fun ca=> ?_) fun w1=> ?_)))))
  ·unfold mV
   refine ah (av (ah (dL (ah (aD (ah (av (az (aN ?_ ?_)))))))))
   ·refine bx (f:=ai) (rfl) fun y1=>aF (eU ?_)
    refine aj (f:=fun r=>[.b r]) ?_ fun w2=> ?_
    ·refine aN ?_ ?_
     ·refine aN ?_ ?_
      ·exact ak
      ·exact ak
     ·exact ak
    ·refine ah (aD (az (aj (f:=(fun r=>(0,(v7 r)))) ?_ fun w3=> ?_)))
     ·refine aA ?_ ?_
      ·exact ak
      ·exact ak
     ·refine br rfl (wE ak)
   ·exact ak
  ·refine br rfl (wE (aA ?_ ?_))
   ·exact ak
   ·exact ak
theorem Mt (sA:af) (t:ay):Sm (fun r=> .dr [.list (r.1.map ai),.b r.2]) (uv (bu sA) (fL t)) (qL sA t):=by
 unfold uv qL
 refine aF (kg (aF (ah (aU (az (aj (uz sA) fun rA=>av (aj (uB t rA) fun aY=>dU (wE (aA ?_ ?_)))))))))
 ·exact ak
 ·refine aj (Az t aY.1 aY.2.1) fun b7=>aU<|aj (uz sA) fun cu=>av (aQ (df (fZ (by first|(simp;done)|simp only [ai,bu,fL,B6,Eh,zY,List.map_append,List.map_cons,List.map_nil,List.map_take,List.map_drop,List.map_set]))))
theorem Gb (a:ao) (a1:aa):Sm (fun r=> .dr [bY r.1,.list (r.2.1.map ai),.b r.2.2]) (oJ (bY a) (ai a1)) (jE a a1):=by
 unfold oJ jE
 refine aF (ez (aF (eU ?_)))
 refine aj (f:=fun r=>[.b r]) ?_ fun w=> ?_
 ·refine aj (sC a.S) fun rA=>av<|aN ?_ ?_
  ·exact ak
  ·exact ak
 ·refine ah (aD (az (aA ?_ ?_)))
  ·exact ak
  ·refine aj (xq a.cP a1) fun aY=>dU (ah (aF (ah (aU (az (ah (aD (az (aj (Mt a.S aY.1) fun b7=>dU (ah (aU (ah (aD (az (aj (AA a.Proof) fun cu=>dU (wE ?_))))))))))))))))
   refine aj (f:=fun r=>[.b r]) ?_ fun w1=> ?_
   ·refine aj (qu a1) fun fB=>aD<|aA ?_ ?_
    ·exact ak
    ·refine aA ?_ ?_
     ·exact ak
     ·exact ak
   ·refine ah (aD (az (aA ?_ ?_)))
    ·exact ak
    ·exact ak
theorem Hl (sA:af):Sm (MV.i .i64) (te (bu sA)) (qo sA):=by
 unfold te qo
 refine aF (kg (aj (mC sA (4613937818241073152,4607182418800017408)) fun rA=>av ak))
theorem vh (lA:ar) (t:ar) (a:aa) (bM:Int):Sm (fun r=> .eF ((fun r=> .dr [.b r.1,.s r.2]) r.1) (eP r.2)) (eK (cL lA) (eP t) (ai a) (.i .i64 bM)) (ga lA t a bM):=by
 unfold eK ga
 refine aF (da (aF (eU (av (da ?_)))))
 refine aj (f:=fun r=>[.b r]) ?_ fun w=> ?_
 ·refine aA ?_ ?_
  ·exact ak
  ·refine aN ?_ ?_
   ·exact ak
   ·refine aj (sC lA.S) fun rA=>av<|aN ?_ ?_
    ·exact ak
    ·refine aj (qu a) fun aY=>aD ak
 ·refine ah (aD (az (aA ?_ ?_)))
  ·exact ak
  ·refine aj (xq t.aZ a) fun b7=>dU (ah (aF (ah (aU (az (ah (aD (az (aj (uB b7.1 bM) fun cu=>dU (wE ak))))))))))
theorem vi (lA:ar) (t:ar) (a:aa) (bM:Int):Sm (fun r=> .eF ((fun r=> .dr [.b r.1,.s r.2]) r.1) (eP r.2)) (eL (cL lA) (eP t) (ai a) (.i .i64 bM)) (jO lA t a bM):=by
 unfold eL jO
 refine aF (da (aF (eU (av (da ?_)))))
 refine aj (f:=fun r=>[.b r]) ?_ fun w=> ?_
 ·refine aA ?_ ?_
  ·exact ak
  ·refine aN ?_ ?_
   ·exact ak
   ·refine aj (sC lA.S) fun rA=>av<|aN ?_ ?_
    ·exact ak
    ·refine aj (qu a) fun aY=>aD ak
 ·refine ah (aD (az (aA ?_ ?_)))
  ·exact ak
  ·refine aj (xq t.bA a) fun b7=>dU (ah (aF (ah (aU (az (ah (aD (az (aj (uB b7.1 bM) fun cu=>dU (wE ak))))))))))
theorem vj (lA:ar) (t:ar) (a:aa) (bM:Int):Sm (fun r=> .eF ((fun r=> .dr [.b r.1,.s r.2]) r.1) (eP r.2)) (eM (cL lA) (eP t) (ai a) (.i .i64 bM)) (jP lA t a bM):=by
 unfold eM jP
 refine aF (da (aF (eU (av (da ?_)))))
 refine aj (f:=fun r=>[.b r]) ?_ fun w=> ?_
 ·refine aA ?_ ?_
  ·exact ak
  ·refine aN ?_ ?_
   ·exact ak
   ·refine aj (sC lA.S) fun rA=>av<|aN ?_ ?_
    ·exact ak
    ·refine aj (qu a) fun aY=>aD ak
 ·refine ah (aD (az (aA ?_ ?_)))
  ·exact ak
  ·refine aj (xq t.Told a) fun b7=>dU (ah (aF (ah (aU (az (ah (aD (az (aj (uB b7.1 bM) fun cu=>dU (wE ak))))))))))
theorem Bz (lA:ar) (a:aa):Sm cL (lh (cL lA) (ai a)) (fQ lA a):=by
 unfold lh fQ
 refine aF (da (aF (eU (aj (Hl lA.S) fun rA=>av (aj (vh lA lA a rA) fun aY=>lJ (da (dU (ah (aD (ah (dL (az (aj (f:=(fun r=>(0,(v5 r)))) ?_ fun w=> ?_)))))))))))))
 ·refine aA ?_ ?_
  ·exact ak
  ·exact ak
 ·refine br rfl (da ak)
theorem AG (lA:ar) (tx:Int) (p:List aa):Sm cL (j6 (cL lA) (.i .i64 tx) (.list (p.map ai))) (mW lA tx p):=by
 unfold j6 mW
 refine aF (da (av (aU (aj (wG lA.S p) fun rA=>aD (aA ?_ ?_)))))
 ·exact ak
 ·refine aj (AA p) fun aY=>dU (wE (aj (uz lA.S) fun b7=>av (aj (vi lA lA (⟨tx,aY.1,aY.2.1⟩:aa) b7) fun cu=>lJ (da (dU (ah (aD (ah (dL (az (aj (f:=(fun r=>(0,(v5 r)))) ?_ fun w=> ?_)))))))))))
  ·refine aA ?_ ?_
   ·exact ak
   ·exact ak
  ·refine br rfl (da ak)
theorem CN (x:ab) (tx:Int):Sm (MV.i .i64) (lT (aJ x) (.i .i64 tx)) (lQ x tx):=by
 unfold lT lQ
 refine aF (dX (av (aj (wI x.By tx) fun rA=>av ak)))
theorem lN (x:List ab) (target:Int) (cmp:ab→Int→Option Int) {NT:Nat} {zx:List MV} (KC:gv NT=false) (eW: ∀(u0:ab) (u1:Int),Sm (MV.i .i64) (cz NT ([aJ u0,.i .i64 u1]++zx)) (cmp u0 u1)):Sm (fun r=> .dr [.i .i64 r.1,.b r.2]) (cO (.list (x.map aJ)) (.i .i64 target) (.func NT zx)) (dF x target cmp):=by
 unfold cO dF
 refine aU (av (tV (aQ (aj (cK (fun r=>[.i .i64 r.1,.i .i64 r.2]) (fun r=>(2,[.i .i64 r])) (rfl) fun st=> ?_) fun w=> ?_))))
 ·unfold fj
  refine kg<|aN ?_ ?_
  ·refine df<|bx (f:=aJ) (rfl) fun y=> ?_
   refine aF (dX (vM (br (by rw [KC];rfl) ?_)))
   refine aj (eW y target) fun rA=>av<|aj (f:=(fun r=>(0,[.i .i64 r.1,.i .i64 r.2]))) ?_ fun w1=> ?_
   ·refine aN ?_ ?_
    ·exact ak
    ·exact ak
   ·refine br rfl (kg ak)
  ·exact ak
 ·refine br rfl (ah (av (az ?_)))
  refine aj (f:=fun r=>[.i .i64 r.1,.b r.2]) ?_ fun w2=> ?_
  ·refine aN ?_ ?_
   ·refine bx (f:=aJ) (rfl) fun y1=> ?_
    refine aF (dX (vM (br (by rw [KC];rfl) ?_)))
    refine aj (eW y1 target) fun aY=>av ak
   ·exact ak
  ·refine ah (av (ah (aD (az ak))))
theorem Gc (n:au) (sA:af) (i:Int) (rA:ab):Sm (fun r=> .eF ((fun _=> .dr []) r.1) (yK r.2)) (oK (yK n) (bu sA) (.i .i64 i) (aJ rA)) (sj n sA i rA):=by
 unfold oK sj
 refine aF (kg (av (aF (dX (aG (aj (lN n.iX rA.By lQ (NT:=105) (zx:=[]) rfl (fun u2 u3=>Sm.at (fU _ _) (CN u2 u3))) fun aY=> ?_))))))
 refine dU (ah (av (ah (aD (az ?_)))))
 refine aj (f:=fun r=>[.b r]) ?_ fun w=> ?_
 ·refine aA ?_ ?_
  ·refine aN ?_ ?_
   ·refine aj (wH sA rA.mc) fun b7=>av<|aN ?_ ?_
    ·refine aj (Fg sA rA) fun cu=>aD ak
    ·exact ak
   ·exact ak
  ·exact ak
 ·refine ah (aD (az (aj (f:=(fun r=>(0,(v1 r)))) ?_ fun w1=> ?_)))
  ·refine aA ?_ ?_
   ·refine zW<|aj (xh (size:=6) (f:=aJ) (fun _=>rfl) n.iX) fun fB=>nJ<|aj (J6 (f:=aJ) fB aY.1 ([rA]:List ab)) fun kC=>nJ ak
   ·exact ak
  ·refine br rfl (aG ak)
theorem Ps (sA:af):Sm (MV.i .i64) (xp (bu sA)) (Bf sA):=by
 unfold xp Bf
 refine aF (kg (aj (mC sA (4607182418800017408,0)) fun rA=>av ak))
theorem IC (lA:ar) (tx:Int) (value:List UInt8):Sm cL (qf (cL lA) (.i .i64 tx) (.s value)) (ud lA tx value):=by
 unfold qf ud
 refine aF (da (av (dL (aj (Ps lA.S) fun rA=>av (aj (vj lA lA (⟨tx,0,value⟩:aa) rA) fun aY=>lJ (da (dU (ah (aD (ah (dL (az (aj (f:=(fun r=>(0,(v5 r)))) ?_ fun w=> ?_)))))))))))))
 ·refine aA ?_ ?_
  ·exact ak
  ·exact ak
 ·refine br rfl (da ak)
theorem Mu (a:af) (a1:Int) (a2:au) (a3:al):Sm (fun r=> .dr [ba r.1,.list (r.2.map aX)]) (uw (bu a) (.i .i64 a1) (ba a2) (aX a3)) (jk a a1 a2 a3):=by
 unfold uw jk
 refine aF (kg (av (aF (aG (aF (bN (aj (f:=(Sum.elim (fun r=>(2,(v0 r))) (fun r=>(0,(v0 r))))) ?_ fun w=> ?_)))))))
 ·refine aN ?_ ?_
  ·refine aj (wH a a3.View) fun rA=>av<|aA ?_ ?_
   ·exact ak
   ·refine aj (Bx a2.A a3.View a3.Value a3.fE) fun aY=>dU (ah (aF (ez (ah (aF (eU (ah (aD (az (aj (f:=(fun r=>(0,[.list (r.map aX)]))) ?_ fun w1=> ?_))))))))))
    ·refine aA ?_ ?_
     ·refine lW (([(⟨2,0,0,([]:List UInt8),([]:List ab),aY.2.1,([]:List aa),(⟨0,0,false,0,([]:List UInt8),([]:List aa)⟩:ab)⟩:al)]:List al).length) (df ak)
     ·exact ak
    ·refine br rfl (ah (aU (az ak)))
  ·refine aj (f:=(fun r=>(0,(v0 r)))) ?_ fun w2=> ?_
   ·refine aN ?_ ?_
    ·refine aj (Gb a2.A a3.oW) fun b7=>dU (ah (aF (ez (ah (aU (ah (aD (az (aj (f:=(fun r=>(0,[.list (r.map aX)]))) ?_ fun w3=> ?_)))))))))
     ·refine aA ?_ ?_
      ·refine lW (([(⟨3,a1,0,([]:List UInt8),([]:List ab),(⟨0,0,([]:List UInt8)⟩:aa),b7.2.1,(⟨0,0,false,0,([]:List UInt8),([]:List aa)⟩:ab)⟩:al)]:List al).length) (df ak)
      ·exact ak
     ·refine br rfl (ah (aU (az (aj (Bz a2.L a3.oW) fun cu=>aF (da ak)))))
    ·refine aj (f:=(fun r=>(0,(v1 r)))) ?_ fun w4=> ?_
     ·refine aN ?_ ?_
      ·refine aj (AG a2.L a3.gh a3.Proof) fun fB=>aF (da ak)
      ·refine aj (f:=(fun r=>(0,(v1 r)))) ?_ fun w5=> ?_
       ·refine aN ?_ ?_
        ·refine aj (Gc a2 a a1 a3.R) fun kC=>lJ (aG ak)
        ·refine aj (f:=(fun r=>(0,(v1 r)))) ?_ fun w6=> ?_
         ·refine aN ?_ ?_
          ·refine aj (IC a2.L a3.gh a3.Value) fun pD=>aF (da ak)
          ·exact ak
         ·refine br rfl (aG ak)
       ·refine br rfl (aG ak)
     ·refine br rfl (aG ak)
   ·refine br rfl (jR ak)
 ·rcases w with p7|p8
  ·refine ku rfl (jR ?_)
   refine aj (f:=fun r=>[.b r]) ?_ fun w7=> ?_
   ·refine aA ?_ ?_
    ·exact ak
    ·exact ak
   ·refine ah (aD (az (aj (f:=(fun r=>(0,[.list (r.map aX)]))) ?_ fun w8=> ?_)))
    ·refine aA ?_ ?_
     ·refine aQ (lW (([(⟨5,a1,0,p7.2.2.2.2.2.2.2.2.2.2.2.2.2.2.2.1,([]:List ab),(⟨0,0,([]:List UInt8)⟩:aa),([]:List aa),(⟨0,0,false,0,([]:List UInt8),([]:List aa)⟩:ab)⟩:al)]:List al).length) (df ?_))
      exact fZ (by simp [eC,cq,aq,di,aC,cj,v0,v1])
     ·exact ak
    ·refine br rfl (ah (aU (az ak)))
  ·refine kv rfl (br rfl (jR ?_))
   refine aj (f:=fun r=>[.b r]) ?_ fun w9=> ?_
   ·refine aA ?_ ?_
    ·exact ak
    ·exact ak
   ·refine ah (aD (az (aj (f:=(fun r=>(0,[.list (r.map aX)]))) ?_ fun w10=> ?_)))
    ·refine aA ?_ ?_
     ·refine aQ (lW (([(⟨5,a1,0,p8.2.2.2.2.2.2.2.2.2.2.2.2.2.2.2.1,([]:List ab),(⟨0,0,([]:List UInt8)⟩:aa),([]:List aa),(⟨0,0,false,0,([]:List UInt8),([]:List aa)⟩:ab)⟩:al)]:List al).length) (df ?_))
      exact fZ (by simp [eC,cq,aq,di,aC,cj,v0,v1])
     ·exact ak
    ·refine br rfl (ah (aU (az ak)))
theorem Gd (a:ao):Sm aJ (oL (bY a)) (sk a):=by
 unfold oL sk
 refine aF (ez ak)
theorem Fi (a:ao) (view:Int):Sm (fun r=> .dr [bY r.1,aJ r.2.1,.b r.2.2]) (nz (bY a) (.i .i64 view)) (qM a view):=by
 unfold nz qM
 refine aF (ez (av ?_))
 refine aj (f:=fun r=>[.b r]) ?_ fun w=> ?_
 ·refine aN ?_ ?_
  ·exact ak
  ·exact ak
 ·refine ah (aD (az (aA ?_ ?_)))
  ·exact ak
  ·refine aj (Gd (⟨a.S,a.Me,view,a.Has,a.At,a.Value,a.Proof,(⟨([]:List aa)⟩:ay)⟩:ao)) fun rA=>aF (dX ak)
theorem KD (x_:af) (x_1:Int) (n:au) (view:Int):Sm (fun r=> .dr [ba r.1,.list (r.2.map aX)]) (rW (bu x_) (.i .i64 x_1) (ba n) (.i .i64 view)) (vV x_ x_1 n view):=by
 unfold rW vV
 refine aF (kg (av (aF (aG (av (aj (Fi n.A view) fun rA=>dU (ah (aF (ez (ah (aF (dX (ah (aD (az (aA ?_ ?_))))))))))))))))
 ·exact ak
 ·refine zW ak
theorem Mv (a:af) (a1:Int) (a2:au) (a3:List UInt8):Sm (fun r=> .dr [ba r.1,.list (r.2.map aX)]) (ux (bu a) (.i .i64 a1) (ba a2) (.s a3)) (nX a a1 a2 a3):=by
 unfold ux nX
 refine aF (kg (av (aF (aG (dL (aj (Hk a) fun rA=>av ?_))))))
 refine aj (f:=fun r=>[.b r]) ?_ fun w=> ?_
 ·refine aj (wH a a2.A.View) fun aY=>av<|aA ?_ ?_
  ·exact ak
  ·exact ak
 ·refine ah (aD (az (aA ?_ ?_)))
  ·exact ak
  ·refine aj (f:=fun r=>[.b r]) ?_ fun w1=> ?_
   ·refine aN ?_ ?_
    ·refine aQ ak
    ·exact ak
   ·refine ah (aD (az (aA ?_ ?_)))
    ·exact ak
    ·refine aj (f:=(fun r=>(0,(v2 r)))) ?_ fun w2=> ?_
     ·refine aN ?_ ?_
      ·refine aQ (df (aj (by simpa [aq,aC,v2] using xh (size:=6) (f:=aJ) (fun _=>rfl) (List.drop (Int.toNat 0) (List.take (Int.toNat rA) a2.iX))) fun b7=>nJ (aj (AE a b7) fun cu=> ?_)))
       refine dU (ah (dL (ah (aD (az (aj (f:=(fun r=>(0,(v2 r)))) ?_ fun w3=> ?_))))))
       ·refine aA ?_ ?_
        ·exact ak
        ·exact ak
       ·refine br rfl (bN ak)
      ·exact ak
     ·refine br rfl (bN (zW ak))
theorem uC (c:aw) (i:Int):Sm (fun r=> .dr [.s r.1,.b r.2]) (li (gD c) (.i .i64 i)) (fF c i):=by
 unfold li fF
 refine aF (bh (av ?_))
 refine aj (f:=fun r=>[.b r]) ?_ fun w=> ?_
 ·refine aj (gQ c i false) fun rA=>aD<|aA ?_ ?_
  ·exact ak
  ·refine bx (f:=ba) (rfl) fun y=>aF (aG ak)
 ·refine ah (aD (az (aA ?_ ?_)))
  ·exact ak
  ·refine bx (f:=ba) (rfl) fun y1=>aF (aG ak)
theorem Fj (c:aw) (lA:List al):Sm (fun r=> .eF ((fun _=> .dr []) r.1) (dz r.2)) (nA (dz c) (.list (lA.map aX))) (kD c lA):=by
 unfold nA kD
 refine aU (bh (aQ (aj (cK (fun r=>(v4 r)) (fun r=>(2,(v6 r))) (rfl) fun st=> ?_) fun w=> ?_)))
 ·unfold iM
  refine ah (av (bh (aN ?_ ?_)))
  ·refine bx (f:=aX) (rfl) fun y=>aF (bN (aQ (aj (f:=(fun r=>(0,(v6 r)))) ?_ fun w1=> ?_)))
   ·refine aN ?_ ?_
    ·refine zW<|aj (qZ st.2.2.2.2.2.2) fun rA=> ?_
     refine Ma (br (tX (rfl:_=List.map aX rA) fun _=>by simp only [MV.w,MV.wl,Nat.reduceAdd]) (aQ (lW (([y]:List al).length) (df (fZ (by simp [dz,aC,aR,v4,v6]))))))
    ·exact ak
   ·refine br rfl (bh ak)
  ·exact ak
 ·refine br rfl (bh ak)
theorem sD (c:aw) (i:Int) (n:au) (said:List al):Sm (fun r=> .eF ((fun _=> .dr []) r.1) (dz r.2)) (jF (dz c) (.i .i64 i) (ba n) (.list (said.map aX))) (ia c i n said):=by
 unfold jF ia
 refine av (aF (aG (aU (bh (bx (f:=ba) (rfl) fun y=>aF (aG (aj (by simpa [dz,aq,aR] using Fj (⟨c.S,c.cV,c.Want,c.N.set (Int.toNat i) n,c.bF⟩:aw) said) fun rA=> ?_)))))))
 refine lJ (bh ak)
theorem AH (c:aw) (i:Int) (m:al):Sm (fun r=> .eF ((fun _=> .dr []) r.1) (dz r.2)) (j7 (dz c) (.i .i64 i) (aX m)) (jY c i m):=by
 unfold j7 jY
 refine av (aF (bN (bh (bx (f:=ba) (rfl) fun y=>aF (aG (aj (Mu c.S i y m) fun rA=>dU (ah (aF (aG (ah (aU (az (aj (sD c i rA.1 rA.2) fun aY=> ?_)))))))))))))
 refine lJ (bh ak)
theorem CO (c:aw) (i:Int) (view:Int):Sm (fun r=> .eF ((fun _=> .dr []) r.1) (dz r.2)) (lV (dz c) (.i .i64 i) (.i .i64 view)) (pq c i view):=by
 unfold lV pq
 refine av (av (bh (bx (f:=ba) (rfl) fun y=>aF (aG (aj (KD c.S i y view) fun rA=>dU (ah (aF (aG (ah (aU (az (aj (sD c i rA.1 rA.2) fun aY=> ?_))))))))))))
 refine lJ (bh ak)
theorem Fk (c:aw) (i:Int):Sm (fun r=> .eF ((fun _=> .dr []) r.1) (dz r.2)) (nB (dz c) (.i .i64 i)) (mX c i):=by
 unfold nB mX
 refine av (bh (bx (f:=ba) (rfl) fun y=>aF (aG (bx (f:=MV.s) (rfl) fun y1=>dL (aj (Mv c.S i y y1) fun rA=>dU (ah (aF (aG (ah (aU (az (aj (sD c i rA.1 rA.2) fun aY=> ?_))))))))))))
 refine lJ (bh ak)
theorem Ge (c:aw) (lA:List al):Sm (fun r=> .eF ((fun _=> .dr []) r.1) (dz r.2)) (oM (dz c) (.list (lA.map aX))) (sm c lA):=by
 unfold oM sm
 refine aU (bh (aQ (aj (cK (fun r=>(v4 r)) (fun r=>(2,(v6 r))) (rfl) fun st=> ?_) fun w=> ?_)))
 ·unfold uP
  refine ah (av (bh (aN ?_ ?_)))
  ·refine bx (f:=aX) (rfl) fun y=>aF (bN (aQ (aj (f:=(fun r=>(0,(v6 r)))) ?_ fun w1=> ?_)))
   ·refine aN ?_ ?_
    ·refine zW<|aj (qZ st.2.2.2.2.2.2) fun rA=> ?_
     refine Ma (br (tX (rfl:_=List.map aX rA) fun _=>by simp only [MV.w,MV.wl,Nat.reduceAdd]) (aQ (lW (([y]:List al).length) (df (fZ (by simp [dz,aC,aR,v4,v6]))))))
    ·exact ak
   ·refine br rfl (bh ak)
  ·exact ak
 ·refine br rfl (bh ak)
theorem qw (a:aw) (a1:dv):Sm gD (lj (gD a) (yI a1)) (eQ a a1):=by
 unfold lj eQ
 refine aF (bh (aF (ah (av (ah (av (ah (av (bN (aN ?_ ?_))))))))))
 ·refine aj (Mr a a1.M) fun rA=>aD<|aj (f:=(fun r=>(0,(v6 r)))) ?_ fun w=> ?_
  ·refine aA ?_ ?_
   ·refine aj (Ge a ([a1.M]:List al)) fun aY=>lJ (bh ak)
   ·exact ak
  ·refine br rfl (bh ak)
 ·refine aj (gQ a a1.I false) fun b7=>aD<|aA ?_ ?_
  ·exact ak
  ·refine aj (xh (size:=18) (f:=ba) (fun _=>by simp only [MV.w,MV.wl,Nat.reduceAdd]) a.N) fun cu=>nJ<|aj (f:=(fun r=>(0,(v6 r)))) ?_ fun w1=> ?_
   ·refine aN ?_ ?_
    ·refine aj (f:=fun r=>[.b r]) ?_ fun w2=> ?_
     ·refine aN ?_ ?_
      ·refine aQ ak
      ·exact ak
     ·refine ah (aD (az (aj (f:=(fun r=>(0,(v6 r)))) ?_ fun w3=> ?_)))
      ·refine aA ?_ ?_
       ·refine bx (f:=aX) (rfl) fun y=>aF (bN (aj (AH (⟨a.S,a.cV,a.Want,cu,a.bF⟩:aw) a1.I y) fun fB=>lJ (bh ak)))
       ·exact ak
      ·refine br rfl (bh ak)
    ·refine aj (f:=(fun r=>(0,(v6 r)))) ?_ fun w4=> ?_
     ·refine aN ?_ ?_
      ·refine bx (f:=ba) (rfl) fun y1=>aF (aG (aj (CO (⟨a.S,a.cV,a.Want,cu,a.bF⟩:aw) a1.I (IntKind.wrap .i64 (y1.A.View+1))) fun kC=>lJ (bh ak)))
      ·refine aj (f:=(fun r=>(0,(v6 r)))) ?_ fun w5=> ?_
       ·refine aN ?_ ?_
        ·refine aj (Fk (⟨a.S,a.cV,a.Want,cu,a.bF⟩:aw) a1.I) fun pD=>lJ (bh ak)
        ·refine aj (f:=(fun r=>(0,(v6 r)))) ?_ fun w6=> ?_
         ·refine aN ?_ ?_
          ·refine bx (f:=ba) (rfl) fun y2=>aF (aG (aj (Iz a.S a1.I y2) fun vP=>aF (aG (bx (f:=ba) (rfl) fun y3=>aF (aG (fZ (by simp [aq,aC,aR,v6])))))))
          ·exact ak
         ·refine br rfl (bh ak)
       ·refine br rfl (bh ak)
     ·refine br rfl (bh ak)
   ·refine br rfl (bh ak)
theorem xr:Sm MV.b (n7) (my):=by
 unfold n7 my
 refine df<|aj (by simpa [cT,aR,gK,v3,v6] using Kx (⟨1,0⟩:af) (List.replicate (Int.toNat 4) false) ([([97]:List UInt8),([98]:List UInt8),([99]:List UInt8),([100]:List UInt8)]:List (List UInt8))) fun rA=> ?_
 refine dU (ah (aF (bh (ah (av (az (aj (qw rA.1 (⟨2,0,0,(⟨0,0,0,([]:List UInt8),([]:List ab),(⟨0,0,([]:List UInt8)⟩:aa),([]:List aa),(⟨0,0,false,0,([]:List UInt8),([]:List aa)⟩:ab)⟩:al)⟩:dv)) fun aY=> ?_)))))))
 refine aF (bh (aj (cK (fun r=>(v3 r)) (fun r=>(2,(v6 r))) (rfl) fun st=> ?_) fun w=> ?_))
 ·unfold rM
  refine qt<|aN ?_ ?_
  ·refine aj (qw (⟨(⟨st.1,st.2.1⟩:af),st.2.2.1,st.2.2.2.1,st.2.2.2.2.1,st.2.2.2.2.2.1⟩:aw) (⟨0,st.2.2.2.2.2.2,0,(⟨0,0,0,([]:List UInt8),([]:List ab),(⟨0,0,([]:List UInt8)⟩:aa),([]:List aa),(⟨0,0,false,0,([]:List UInt8),([]:List aa)⟩:ab)⟩:al)⟩:dv)) fun b7=> ?_
   refine aF (bh ak)
  ·exact ak
 ·refine br rfl (bh (aj (cK (fun r=>(v3 r)) (fun r=>(4,(v6 r))) (rfl) fun ca=> ?_) fun w1=> ?_))
  ·unfold rN
   refine qt<|aN ?_ ?_
   ·refine aj (qw (⟨(⟨ca.1,ca.2.1⟩:af),ca.2.2.1,ca.2.2.2.1,ca.2.2.2.2.1,ca.2.2.2.2.2.1⟩:aw) (⟨0,2,ca.2.2.2.2.2.2,(⟨0,0,0,([]:List UInt8),([]:List ab),(⟨0,0,([]:List UInt8)⟩:aa),([]:List aa),(⟨0,0,false,0,([]:List UInt8),([]:List aa)⟩:ab)⟩:al)⟩:dv)) fun cu=> ?_
    refine aF (bh ak)
   ·exact ak
  ·refine br rfl (bh (aj (uC (⟨(⟨w1.1,w1.2.1⟩:af),w1.2.2.1,w1.2.2.2.1,w1.2.2.2.2.1,w1.2.2.2.2.2⟩:aw) 2) fun fB=>dU (ah (dL (ah (aD (az (aj (uC (⟨(⟨w1.1,w1.2.1⟩:af),w1.2.2.1,w1.2.2.2.1,w1.2.2.2.2.1,w1.2.2.2.2.2⟩:aw) 1) fun kC=> ?_))))))))
   refine dU (ah (dL (ah (aD (az ?_)))))
   refine aj (f:=fun r=>[.b r]) ?_ fun w2=> ?_
   ·refine aN ?_ ?_
    ·refine aA ?_ ?_
     ·refine aN ?_ ?_
      ·exact ak
      ·exact ak
     ·exact ak
    ·exact ak
   ·refine ah (aD (az ak))
theorem ID (a:gz) (a1:Int) (a2:Bool):Sm MV.b (uy (yH a) (.i .i64 a1) (.b a2)) (pY a a1 a2):=by
 unfold uy pY
 refine aF (ah (av (ah (av (ah (aU (ah (aU (az (av (aD ?_)))))))))))
 refine aj (f:=fun r=>[.b r]) ?_ fun w=> ?_
 ·refine aj (Pq a ([]:List dv)) fun rA=>aD<|aA ?_ ?_
  ·exact ak
  ·refine aQ<|aN ?_ ?_
   ·exact ak
   ·refine aN ?_ ?_
    ·exact ak
    ·exact ak
 ·refine ah (aD (az (aA ?_ ?_)))
  ·refine aj (xr) fun aY=>aD ak
  ·refine aj (Kx a.S a.cV a.Want) fun b7=>dU (ah (aF (bh (ah (av (az ?_))))))
   refine aj (f:=fun r=>[.b r]) ?_ fun w1=> ?_
   ·refine aA ?_ ?_
    ·exact ak
    ·refine bx (f:=MV.b) (rfl) fun y=>aD ak
   ·refine ah (aD (az (aA ?_ ?_)))
    ·refine aj (xr) fun cu=>aD ak
    ·refine aj (sC a.S) fun fB=>av<|aj (Hl a.S) fun kC=>av<|aj (cK (fun r=>[.list (r.1.map (MV.i .i64)),.i .i64 r.2]) (fun r=>(2,[.list (r.map (MV.i .i64))])) (rfl) fun st=> ?_) fun w2=> ?_
     ·unfold mY
      refine nH ?_
      refine aj (f:=fun r=>[.b r]) ?_ fun w3=> ?_
      ·refine aN ?_ ?_
       ·refine aQ ak
       ·exact ak
      ·refine ah (aD (az (aA ?_ ?_)))
       ·refine Ii ?_
        refine aj (f:=fun r=>[.b r]) ?_ fun w4=> ?_
        ·refine bx (f:=MV.b) (rfl) fun y1=>aD<|aA ?_ ?_
         ·refine aA ?_ ?_
          ·refine aQ ak
          ·exact ak
         ·exact ak
        ·refine ah (aD (az (aj (f:=(fun r=>(0,[.list (r.map (MV.i .i64))]))) ?_ fun w5=> ?_)))
         ·refine aA ?_ ?_
          ·refine aQ (lW (([Int.tmod (IntKind.wrap .i64 (a1+st.2)) fB]:List Int).length) (df (fZ (by simp [cT,aR,gK,v3,v6]))))
          ·exact ak
         ·refine br rfl (ah (aU (az ak)))
       ·exact ak
     ·refine br rfl (ah (aU (az (aQ (lW (([0]:List Int).length) (df (mb (n:=(w2++([0]:List Int)).length) (by simp only [List.length_map,List.length_append,List.length_cons,List.length_nil,List.length_take,List.length_drop,List.length_set]) ?_)))))))
      refine aN ?_ ?_
      ·refine aj (xr) fun pD=>aD ak
      ·refine aj (qw b7.1 (⟨2,0,0,(⟨0,0,0,([]:List UInt8),([]:List ab),(⟨0,0,([]:List UInt8)⟩:aa),([]:List aa),(⟨0,0,false,0,([]:List UInt8),([]:List aa)⟩:ab)⟩:al)⟩:dv)) fun vP=> ?_
       refine aF (bh (aj (cK (fun r=>(v3 r)) (fun r=>(4,(v6 r))) (rfl) fun ca=> ?_) fun w6=> ?_))
       ·unfold mZ
        refine qt (mb (n:=(w2++([0]:List Int)).length) (by simp only [List.length_map,List.length_append,List.length_cons,List.length_nil,List.length_take,List.length_drop,List.length_set]) (aN ?_ ?_))
        ·refine bx (f:=(MV.i .i64)) (by simp only [oh,List.map_replicate,List.map_append,List.map_cons,List.map_nil,List.map_take,List.map_drop,List.map_set]) fun y2=>av<|aj (qw (⟨(⟨ca.1,ca.2.1⟩:af),ca.2.2.1,ca.2.2.2.1,ca.2.2.2.2.1,ca.2.2.2.2.2.1⟩:aw) (⟨0,y2,0,(⟨0,0,0,([]:List UInt8),([]:List ab),(⟨0,0,([]:List UInt8)⟩:aa),([]:List aa),(⟨0,0,false,0,([]:List UInt8),([]:List aa)⟩:ab)⟩:al)⟩:dv)) fun Mb=> ?_
         refine aF (bh ak)
        ·exact ak
       ·refine br rfl (bh (aj (cK (fun r=>(v3 r)) (Sum.elim (fun r=>(6,(v6 r))) (fun r=>(1,[.b r]))) (rfl) fun cS=> ?_) fun w7=> ?_))
        ·unfold iN
         refine qt (mb (n:=(w2++([0]:List Int)).length) (by simp only [List.length_map,List.length_append,List.length_cons,List.length_nil,List.length_take,List.length_drop,List.length_set]) (aN ?_ ?_))
         ·refine aj (cK (fun r=>(v3 r)) (Sum.elim (fun r=>(8,(v6 r))) (fun r=>(1,[.b r]))) (rfl) fun iU=> ?_) fun w8=> ?_
          ·unfold kE
           refine qt (mb (n:=(w2++([0]:List Int)).length) (by simp only [List.length_map,List.length_append,List.length_cons,List.length_nil,List.length_take,List.length_drop,List.length_set]) (aN ?_ ?_))
           ·refine aj (f:=(fun r=>(0,[.i .i64 r]))) ?_ fun w9=> ?_
            ·refine aA ?_ ?_
             ·refine mb (n:=(w2++([0]:List Int)).length) (by simp only [List.length_map,List.length_append,List.length_cons,List.length_nil,List.length_take,List.length_drop,List.length_set]) ak
             ·exact ak
            ·refine br rfl (ah (av (az ?_)))
             refine aj (f:=fun r=>[.b r]) ?_ fun w10=> ?_
             ·refine aQ<|aN ?_ ?_
              ·exact ak
              ·refine bx (f:=aX) (rfl) fun y3=>aF (bN ak)
             ·refine ah (aD (az (aA ?_ ?_)))
              ·exact ak
              ·refine bx (f:=(MV.i .i64)) (by simp only [oh,List.map_replicate,List.map_append,List.map_cons,List.map_nil,List.map_take,List.map_drop,List.map_set]) fun y4=>av<|aj (qw (⟨(⟨iU.1,iU.2.1⟩:af),iU.2.2.1,iU.2.2.2.1,iU.2.2.2.2.1,iU.2.2.2.2.2.1⟩:aw) (⟨0,y4,w9,(⟨0,0,0,([]:List UInt8),([]:List ab),(⟨0,0,([]:List UInt8)⟩:aa),([]:List aa),(⟨0,0,false,0,([]:List UInt8),([]:List aa)⟩:ab)⟩:al)⟩:dv)) fun NK=> ?_
               refine aF (bh ak)
           ·exact ak
          ·rcases w8 with p6|p7
           ·refine ku rfl (bh ak)
           ·refine kv rfl (br rfl (ah (aD (az ak))))
         ·exact ak
        ·rcases w7 with p8|p9
         ·refine ku rfl (bh (aj (cK (fun r=>[.i .i64 r]) (Sum.elim (fun r=>(10,[])) (fun r=>(1,[.b r]))) (rfl) fun JD=> ?_) fun w11=> ?_))
          ·unfold kF
           refine ah (av (az (mb (n:=(w2++([0]:List Int)).length) (by simp only [List.length_map,List.length_append,List.length_cons,List.length_nil,List.length_take,List.length_drop,List.length_set]) (aN ?_ ?_))))
           ·refine bx (f:=(MV.i .i64)) (by simp only [oh,List.map_replicate,List.map_append,List.map_cons,List.map_nil,List.map_take,List.map_drop,List.map_set]) fun y5=>av<|aj (uC (⟨(⟨p8.1,p8.2.1⟩:af),p8.2.2.1,p8.2.2.2.1,p8.2.2.2.2.1,p8.2.2.2.2.2⟩:aw) y5) fun Sj=> ?_
            refine dU (ah (dL (ah (aD (az ?_)))))
            refine aj (f:=fun r=>[.b r]) ?_ fun w12=> ?_
            ·refine aA ?_ ?_
             ·exact ak
             ·refine bx (f:=MV.s) (rfl) fun y6=>dL<|aA ?_ ?_
              ·exact ak
              ·refine bx (f:=(MV.i .i64)) (by simp only [oh,List.map_replicate,List.map_append,List.map_cons,List.map_nil,List.map_take,List.map_drop,List.map_set]) fun y7=>av<|bx (f:=ba) (rfl) fun y8=>aF (aG (aQ ?_))
               exact ak
            ·refine ah (aD (az (aA ?_ ?_)))
             ·exact ak
             ·exact ak
           ·exact ak
          ·rcases w11 with p11|p12
           ·refine ku rfl (az (aj (xr) fun U9=>aD ak))
           ·refine kv rfl (br rfl (ah (aD (az ak))))
         ·refine kv rfl (br rfl (ah (aD (az ak))))
end Dn.S
