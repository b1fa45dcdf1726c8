import Derived.Test.YtbkodohojpchjaaGreatDoorDnC
/-
  The functions, on typed values. Conditions: none.
-/
open Go Dn
set_option linter.unusedVariables false
set_option linter.unusedSimpArgs false
set_option maxRecDepth 100000
namespace Dn.S
structure ae where
 Path:List UInt8
 Value:List UInt8
 Version:Int
 bI:Int
deriving DecidableEq
@[reducible] def L0 (x : ae) : List MV := [.s x.Path, .s x.Value, .i .i64 x.Version, .i .i64 x.bI]
@[reducible] def aM (x : ae) : MV := .agg (L0 x)
structure ay where
 L:List ae
deriving DecidableEq
@[reducible] def Kb (x : ay) : List MV := [.list (x.L.map aM)]
@[reducible] def b7 (x : ay) : MV := .agg (Kb x)
structure aw where
 Id:Int
 Span:Int
 cY:Int
deriving DecidableEq
@[reducible] def Fp (x : aw) : List MV := [.i .i64 x.Id, .i .i64 x.Span, .i .i64 x.cY]
@[reducible] def aN (x : aw) : MV := .agg (Fp x)
structure aD where
 dE:Int
 L:List aw
deriving DecidableEq
@[reducible] def L5 (x : aD) : List MV := [.i .i64 x.dE, .list (x.L.map aN)]
@[reducible] def dc (x : aD) : MV := .agg (L5 x)
structure al where
 Path:List UInt8
 Client:Int
 Kids:Bool
deriving DecidableEq
@[reducible] def Kc (x : al) : List MV := [.s x.Path, .i .i64 x.Client, .b x.Kids]
@[reducible] def aW (x : al) : MV := .agg (Kc x)
structure bB where
 L:List al
deriving DecidableEq
@[reducible] def Ke (x : bB) : List MV := [.list (x.L.map aW)]
@[reducible] def iI (x : bB) : MV := .agg (Ke x)
structure af where
 Client:Int
 Seq:Int
 E:Int
 Value:List UInt8
 Version:Int
 Names:List (List UInt8)
deriving DecidableEq
@[reducible] def Kf (x : af) : List MV := [.i .i64 x.Client, .i .i64 x.Seq, .i .i64 x.E, .s x.Value, .i .i64 x.Version, .list (x.Names.map MV.s)]
@[reducible] def ap (x : af) : MV := .agg (Kf x)
structure ak where
 Shelf:ay
 bt:aD
 bh:bB
 Seen:List af
deriving DecidableEq
@[reducible] def Kg (x : ak) : List MV := [.list (x.Shelf.L.map aM), .i .i64 x.bt.dE, .list (x.bt.L.map aN), .list (x.bh.L.map aW), .list (x.Seen.map ap)]
@[reducible] def cQ (x : ak) : MV := .agg (Kg x)
structure av where
 Client:Int
 Seq:Int
 Kind:Int
 Path:List UInt8
 Value:List UInt8
 Version:Int
 Session:Int
 Span:Int
deriving DecidableEq
@[reducible] def Kh (x : av) : List MV := [.i .i64 x.Client, .i .i64 x.Seq, .i .i64 x.Kind, .s x.Path, .s x.Value, .i .i64 x.Version, .i .i64 x.Session, .i .i64 x.Span]
@[reducible] def du (x : av) : MV := .agg (Kh x)
structure ew where
 Path:List UInt8
 Value:List UInt8
 Version:Int
 bI:Int
deriving DecidableEq
@[reducible] def RC (x : ew) : List MV := [.s x.Path, .s x.Value, .i .i64 x.Version, .i .i64 x.bI]
@[reducible] def kO (x : ew) : MV := .agg (RC x)
structure jS where
 L:List ew
deriving DecidableEq
@[reducible] def Oj (x : jS) : List MV := [.list (x.L.map kO)]
@[reducible] def CX (x : jS) : MV := .agg (Oj x)
structure bV where
 Id:Int
 Span:Int
 cY:Int
deriving DecidableEq
@[reducible] def Ki (x : bV) : List MV := [.i .i64 x.Id, .i .i64 x.Span, .i .i64 x.cY]
@[reducible] def j9 (x : bV) : MV := .agg (Ki x)
structure vi where
 dE:Int
 L:List bV
deriving DecidableEq
@[reducible] def RD (x : vi) : List MV := [.i .i64 x.dE, .list (x.L.map j9)]
@[reducible] def Ok (x : vi) : MV := .agg (RD x)
structure bJ where
 Path:List UInt8
 Client:Int
 Kids:Bool
deriving DecidableEq
@[reducible] def Ol (x : bJ) : List MV := [.s x.Path, .i .i64 x.Client, .b x.Kids]
@[reducible] def gj (x : bJ) : MV := .agg (Ol x)
structure qZ where
 L:List bJ
deriving DecidableEq
@[reducible] def Om (x : qZ) : List MV := [.list (x.L.map gj)]
@[reducible] def L6 (x : qZ) : MV := .agg (Om x)
structure cS where
 Client:Int
 Seq:Int
 E:Int
 Value:List UInt8
 Version:Int
 Names:List (List UInt8)
deriving DecidableEq
@[reducible] def On (x : cS) : List MV := [.i .i64 x.Client, .i .i64 x.Seq, .i .i64 x.E, .s x.Value, .i .i64 x.Version, .list (x.Names.map MV.s)]
@[reducible] def ik (x : cS) : MV := .agg (On x)
structure pc where
 Shelf:jS
 bt:vi
 bh:qZ
 Seen:List cS
deriving DecidableEq
@[reducible] def Oo (x : pc) : List MV := [.list (x.Shelf.L.map kO), .i .i64 x.bt.dE, .list (x.bt.L.map j9), .list (x.bh.L.map gj), .list (x.Seen.map ik)]
@[reducible] def CY (x : pc) : MV := .agg (Oo x)
structure aF where
 Kind:Int
 Path:List UInt8
deriving DecidableEq
@[reducible] def Hn (x : aF) : List MV := [.i .i64 x.Kind, .s x.Path]
@[reducible] def fm (x : aF) : MV := .agg (Hn x)
structure ai where
 r:ak
 o:av
 x:af
 l:List aF
deriving DecidableEq
@[reducible] def bC (x : ai) : List MV := [.list (x.r.Shelf.L.map aM), .i .i64 x.r.bt.dE, .list (x.r.bt.L.map aN), .list (x.r.bh.L.map aW), .list (x.r.Seen.map ap), .i .i64 x.o.Client, .i .i64 x.o.Seq, .i .i64 x.o.Kind, .s x.o.Path, .s x.o.Value, .i .i64 x.o.Version, .i .i64 x.o.Session, .i .i64 x.o.Span, .i .i64 x.x.Client, .i .i64 x.x.Seq, .i .i64 x.x.E, .s x.x.Value, .i .i64 x.x.Version, .list (x.x.Names.map MV.s), .list (x.l.map fm)]
structure bc where
 W:al
 C:aF
deriving DecidableEq
@[reducible] def Kj (x : bc) : List MV := [.s x.W.Path, .i .i64 x.W.Client, .b x.W.Kids, .i .i64 x.C.Kind, .s x.C.Path]
@[reducible] def cZ (x : bc) : MV := .agg (Kj x)
structure afB where
 Client:Int
 Seq:Int
 Kind:Int
 Path:List UInt8
 Value:List UInt8
 Version:Int
 Session:Int
 Span:Int
deriving DecidableEq
structure RE where
 Kind:Int
 Path:List UInt8
deriving DecidableEq
structure afC where
 W:bJ
 C:RE
deriving DecidableEq
noncomputable def yd (a:ak) (st:Int):Option (Int⊕(Unit⊕Bool)):=
 if st<(a.Shelf.L.length:Int) then
 bd (
  ix a.Shelf.L st fun y=>
  if (200:Int)<(y.Path.length:Int) then
  some true
  else
  ix a.Shelf.L st fun y1=>
  some (decide ((1100:Int)<(y1.Value.length:Int))):Option Bool) fun w2=>
 if w2 then
 some (.inr (.inr false))
 else
 some (.inl (IntKind.wrap .i64 (st+1)))
 else
 some (.inr (.inl ()))
noncomputable def ye (a:ak) (dV:Int):Option (Int⊕(Unit⊕Bool)):=
 if dV<(a.bh.L.length:Int) then
 ix a.bh.L dV fun y2=>
 if (200:Int)<(y2.Path.length:Int) then
 some (.inr (.inr false))
 else
 some (.inl (IntKind.wrap .i64 (dV+1)))
 else
 some (.inr (.inl ()))
noncomputable def yf (a:ak) (dH:Int) (nV:Int):Option (Int⊕(Unit⊕Bool)):=
 ix a.Seen dH fun y5=>
 if nV<(y5.Names.length:Int) then
 ix a.Seen dH fun y6=>
 ix y6.Names nV fun y7=>
 if (200:Int)<(y7.length:Int) then
 some (.inr (.inr false))
 else
 some (.inl (IntKind.wrap .i64 (nV+1)))
 else
 some (.inr (.inl ()))
noncomputable def yg (a:ak) (dH:Int):Option (Int⊕(Unit⊕Bool)):=
 if dH<(a.Seen.length:Int) then
 bd (
  ix a.Seen dH fun y3=>
  if (1100:Int)<(y3.Value.length:Int) then
  some true
  else
  ix a.Seen dH fun y4=>
  some (decide ((40:Int)<(y4.Names.length:Int))):Option Bool) fun w5=>
 if w5 then
 some (.inr (.inr false))
 else
 bd (Loop (yf a dH) 0) fun w6=>
 match w6 with
 | .inl p8=>
  some (.inl (IntKind.wrap .i64 (dH+1)))
 | .inr p9=>
  some (.inr (.inr p9))
 else
 some (.inr (.inl ()))
noncomputable def AN (a:ak):Option Bool:=
 bd (
  if (40:Int)<(a.Shelf.L.length:Int) then
  some true
  else
  if (40:Int)<(a.bh.L.length:Int) then
  some true
  else
  if (60:Int)<(a.bt.L.length:Int) then
  some true
  else
  if (60:Int)<(a.Seen.length:Int) then
  some true
  else
  some (decide ((10000000000:Int)<a.bt.dE)):Option Bool) fun w=>
 if w then
 some false
 else
 bd (Loop (yd a) 0) fun w1=>
 match w1 with
 | .inl p1=>
  bd (Loop (ye a) 0) fun w3=>
  match w3 with
  | .inl p4=>
   bd (Loop (yg a) 0) fun w4=>
   match w4 with
   | .inl p10=>
    some true
   | .inr p11=>
    some p11
  | .inr p5=>
   some p5
 | .inr p2=>
  some p2
noncomputable def sJ (lA:List av) (st:Int):Option (Int⊕(Unit⊕Bool)):=
 if st<(lA.length:Int) then
 bd (
  if st=30 then
  some true
  else
  ix lA st fun y=>
  if (200:Int)<(y.Path.length:Int) then
  some true
  else
  ix lA st fun y1=>
  some (decide ((1100:Int)<(y1.Value.length:Int))):Option Bool) fun w1=>
 if w1 then
 some (.inr (.inr false))
 else
 some (.inl (IntKind.wrap .i64 (st+1)))
 else
 some (.inr (.inl ()))
noncomputable def tZ (lA:List av):Option Bool:=
 bd (Loop (sJ lA) 0) fun w=>
 match w with
 | .inl p1=>
  some true
 | .inr p2=>
  some p2
noncomputable def ua (p:List UInt8) (st:(List (List UInt8))×(List UInt8)×Int):Option (((List (List UInt8))×(List UInt8)×Int)⊕((List (List UInt8))×(List UInt8))):=
 if st.2.2<(p.length:Int) then
 if (0:Int)≤st.2.2∧st.2.2<(p.length:Int) then
 bd (
  if ((p.getD (Int.toNat st.2.2) 0).toNat:Int)=47 then
  if (st.1.length+([st.2.1]:List (List UInt8)).length) *16≤2^46 then
  some (st.1++([st.2.1]:List (List UInt8)),([]:List UInt8))
  else none
  else
  if (0:Int)≤st.2.2∧st.2.2<(p.length:Int) then
  Og ([((p.getD (Int.toNat st.2.2) 0).toNat:Int)]:List Int) fun bs=>
  if st.2.1.length+bs.length≤2^46 then
  some (st.1,st.2.1++bs)
  else none
  else none:Option ((List (List UInt8))×(List UInt8))) fun w2=>
 some (.inl (w2.1,w2.2,IntKind.wrap .i64 (st.2.2+1)))
 else none
 else
 some (.inr (st.1,st.2.1))
noncomputable def yh (p:List UInt8):Option ((List (List UInt8))×Bool):=
 bd (
  if (p.length:Int)=0 then
  some true
  else
  if (0:Int)≤0∧(0:Int)<(p.length:Int) then
  some (!decide (((p.getD (Int.toNat 0) 0).toNat:Int)=47))
  else none:Option Bool) fun w=>
 if w then
 some (([]:List (List UInt8)),false)
 else
 if p=([47]:List UInt8) then
 some (([]:List (List UInt8)),true)
 else
 bd (Loop (ua p) (([]:List (List UInt8)),([]:List UInt8),1)) fun w1=>
 if (w1.1.length+([w1.2]:List (List UInt8)).length) *16≤2^46 then
 some (w1.1++([w1.2]:List (List UInt8)),true)
 else none
noncomputable def nw (sA:List UInt8) (st:Int):Option (Int⊕(Unit⊕Bool)):=
 if st<(sA.length:Int) then
 if (0:Int)≤st∧st<(sA.length:Int) then
 bd (
  if (97:Int)≤((sA.getD (Int.toNat st) 0).toNat:Int) then
  if ((sA.getD (Int.toNat st) 0).toNat:Int)≤122 then
  some true
  else
  if (48:Int)≤((sA.getD (Int.toNat st) 0).toNat:Int) then
  if ((sA.getD (Int.toNat st) 0).toNat:Int)≤57 then
  some true
  else
  if ((sA.getD (Int.toNat st) 0).toNat:Int)=45 then
  some true
  else
  some (decide (((sA.getD (Int.toNat st) 0).toNat:Int)=95))
  else
  if ((sA.getD (Int.toNat st) 0).toNat:Int)=45 then
  some true
  else
  some (decide (((sA.getD (Int.toNat st) 0).toNat:Int)=95))
  else
  if (48:Int)≤((sA.getD (Int.toNat st) 0).toNat:Int) then
  if ((sA.getD (Int.toNat st) 0).toNat:Int)≤57 then
  some true
  else
  if ((sA.getD (Int.toNat st) 0).toNat:Int)=45 then
  some true
  else
  some (decide (((sA.getD (Int.toNat st) 0).toNat:Int)=95))
  else
  if ((sA.getD (Int.toNat st) 0).toNat:Int)=45 then
  some true
  else
  some (decide (((sA.getD (Int.toNat st) 0).toNat:Int)=95)):Option Bool) fun w1=>
 if !w1 then
 some (.inr (.inr false))
 else
 some (.inl (IntKind.wrap .i64 (st+1)))
 else none
 else
 some (.inr (.inl ()))
noncomputable def q0 (sA:List UInt8):Option Bool:=
 bd (Loop (nw sA) 0) fun w=>
 match w with
 | .inl p1=>
  bd (
   if (1:Int)≤(sA.length:Int) then
   some (decide ((sA.length:Int)≤30))
   else
   some false:Option Bool) fun w2=>
  some w2
 | .inr p2=>
  some p2
noncomputable def pe (rA:(List (List UInt8))×Bool) (st:Int):Option (Int⊕(Unit⊕Bool)):=
 if st<(rA.1.length:Int) then
 ix rA.1 st fun y=>
 bd (q0 y) fun aY=>
 if !aY then
 some (.inr (.inr false))
 else
 some (.inl (IntKind.wrap .i64 (st+1)))
 else
 some (.inr (.inl ()))
noncomputable def na (p:List UInt8):Option Bool:=
 if (100:Int)<(p.length:Int) then
 some false
 else
 bd (yh p) fun rA=>
 bd (Loop (pe rA) 0) fun w=>
 match w with
 | .inl p3=>
  bd (
   if rA.2 then
   some (decide ((rA.1.length:Int)≤8))
   else
   some false:Option Bool) fun w1=>
  some w1
 | .inr p4=>
  some p4
noncomputable def ol (p:List UInt8):Option ((List (List UInt8))×Int):=
 bd (na p) fun rA=>
 if !rA then
 some (([]:List (List UInt8)),13)
 else
 bd (yh p) fun aY=>
 some (aY.1,0)
noncomputable def pf (rA:(List (List UInt8))×Int) (aY:(List (List UInt8))×Int) (st:Int):Option (Int⊕(Unit⊕Bool)):=
 bd (
  if st<(rA.1.length:Int) then
  some (decide (st<(aY.1.length:Int)))
  else
  some false:Option Bool) fun w2=>
 if w2 then
 ix rA.1 st fun y=>
 ix aY.1 st fun y1=>
 if !decide (y=y1) then
 ix rA.1 st fun y2=>
 ix aY.1 st fun y3=>
 some (.inr (.inr (Op.bytesLess y2 y3)))
 else
 some (.inl (IntKind.wrap .i64 (st+1)))
 else
 some (.inr (.inl ()))
noncomputable def ub (p:List UInt8) (q:List UInt8):Option Bool:=
 bd (ol p) fun rA=>
 bd (ol q) fun aY=>
 bd (
  if !decide (rA.2=0) then
  some true
  else
  some (!decide (aY.2=0)):Option Bool) fun w=>
 if w then
 some false
 else
 bd (Loop (pf rA aY) 0) fun w1=>
 match w1 with
 | .inl p3=>
  some (decide ((rA.1.length:Int)<(aY.1.length:Int)))
 | .inr p4=>
  some p4
noncomputable def q8 (lA:List (List UInt8)) (st:(List UInt8)×Int):Option (((List UInt8)×Int)⊕(List UInt8)):=
 if st.2<(lA.length:Int) then
 if st.1.length+([47]:List UInt8).length≤2^46 then
 ix lA st.2 fun y=>
 if (st.1++([47]:List UInt8)).length+y.length≤2^46 then
 some (.inl ((st.1++([47]:List UInt8))++y,IntKind.wrap .i64 (st.2+1)))
 else none
 else none
 else
 some (.inr st.1)
noncomputable def xl (lA:List (List UInt8)):Option (List UInt8):=
 bd (Loop (q8 lA) (([]:List UInt8),0)) fun w=>
 if w=([]:List UInt8) then
 some ([47]:List UInt8)
 else
 some w
noncomputable def om (p:List UInt8):Option ((List UInt8)×Int):=
 bd (ol p) fun rA=>
 if !decide (rA.2=0) then
 some (([]:List UInt8),rA.2)
 else
 if (rA.1.length:Int)=0 then
 some (([]:List UInt8),6)
 else
 if (0:Int)≤0∧(0:Int)≤(IntKind.wrap .i64 ((rA.1.length:Int)-1))∧(IntKind.wrap .i64 ((rA.1.length:Int)-1))≤(rA.1.length:Int) then
 bd (xl (List.drop (Int.toNat 0) (List.take (Int.toNat (IntKind.wrap .i64 ((rA.1.length:Int)-1))) rA.1))) fun aY=>
 some (aY,0)
 else none
noncomputable def xm (sA:jS) (p:List UInt8) (st:Int):Option (Int⊕(Unit⊕Int)):=
 if st<(sA.L.length:Int) then
 ix sA.L st fun y=>
 if y.Path=p then
 some (.inr (.inr st))
 else
 some (.inl (IntKind.wrap .i64 (st+1)))
 else
 some (.inr (.inl ()))
noncomputable def vj (sA:jS) (p:List UInt8):Option Int:=
 bd (Loop (xm sA p) 0) fun w=>
 match w with
 | .inl p3=>
  some (-1)
 | .inr p4=>
  some p4
noncomputable def pg (a:jS) (st:Int):Option (Int⊕(Unit⊕Bool)):=
 if st<(a.L.length:Int) then
 ix a.L st fun y=>
 bd (
  bd (na y.Path) fun rA=>
  if !rA then
  some true
  else
  if (1000:Int)<(y.Value.length:Int) then
  some true
  else
  if y.Version<0 then
  some true
  else
  if (1000000000:Int)<y.Version then
  some true
  else
  if y.bI<0 then
  some true
  else
  if (0:Int)<st then
  ix a.L (IntKind.wrap .i64 (st-1)) fun y1=>
  bd (ub y1.Path y.Path) fun aY=>
  some (!aY)
  else
  some false:Option Bool) fun w2=>
 if w2 then
 some (.inr (.inr false))
 else
 bd (om y.Path) fun cX=>
 if !decide (cX.2=0) then
 if !decide (y.bI=0) then
 some (.inr (.inr false))
 else
 some (.inl (IntKind.wrap .i64 (st+1)))
 else
 bd (vj a cX.1) fun oo=>
 bd (
  if oo<0 then
  some true
  else
  ix a.L oo fun y2=>
  some (!decide (y2.bI=0)):Option Bool) fun w3=>
 if w3 then
 some (.inr (.inr false))
 else
 some (.inl (IntKind.wrap .i64 (st+1)))
 else
 some (.inr (.inl ()))
noncomputable def uc (a:jS):Option Bool:=
 bd (
  if (a.L.length:Int)<1 then
  some true
  else
  some (decide ((200:Int)<(a.L.length:Int))):Option Bool) fun w=>
 if w then
 some false
 else
 bd (Loop (pg a) 0) fun w1=>
 match w1 with
 | .inl p1=>
  bd (vj a ([47]:List UInt8)) fun AO=>
  some (decide (AO=0))
 | .inr p2=>
  some p2
noncomputable def sK (a:vi) (st:Int):Option (Int⊕(Unit⊕Bool)):=
 if st<(a.L.length:Int) then
 ix a.L st fun y=>
 bd (
  if y.Id<1 then
  some true
  else
  if y.Span<1 then
  some true
  else
  if (1000:Int)<y.Span then
  some true
  else
  if y.cY≤a.dE then
  some true
  else
  if (IntKind.wrap .i64 (a.dE+y.Span))<y.cY then
  some true
  else
  if (0:Int)<st then
  ix a.L (IntKind.wrap .i64 (st-1)) fun y1=>
  some (decide (y.Id≤y1.Id))
  else
  some false:Option Bool) fun w2=>
 if w2 then
 some (.inr (.inr false))
 else
 some (.inl (IntKind.wrap .i64 (st+1)))
 else
 some (.inr (.inl ()))
noncomputable def ud (a:vi):Option Bool:=
 bd (
  if a.dE<0 then
  some true
  else
  if (1000000000:Int)<a.dE then
  some true
  else
  some (decide ((50:Int)<(a.L.length:Int))):Option Bool) fun w=>
 if w then
 some false
 else
 bd (Loop (sK a) 0) fun w1=>
 match w1 with
 | .inl p1=>
  some true
 | .inr p2=>
  some p2
noncomputable def ue (lA:List bJ) (w:bJ) (st:Int):Option (Int⊕(Unit⊕Bool)):=
 if st<(lA.length:Int) then
 ix lA st fun y=>
 if ((decide (y.Path=w.Path))&&((decide (y.Client=w.Client))&&(decide (y.Kids=w.Kids)))) then
 some (.inr (.inr true))
 else
 some (.inl (IntKind.wrap .i64 (st+1)))
 else
 some (.inr (.inl ()))
noncomputable def vk (lA:List bJ) (w:bJ):Option Bool:=
 bd (Loop (ue lA w) 0) fun w1=>
 match w1 with
 | .inl p1=>
  some false
 | .inr p2=>
  some p2
noncomputable def sL (t:qZ) (st:Int):Option (Int⊕(Unit⊕Bool)):=
 if st<(t.L.length:Int) then
 bd (
  ix t.L st fun y=>
  bd (na y.Path) fun rA=>
  if !rA then
  some true
  else
  ix t.L st fun y1=>
  if y1.Client<0 then
  some true
  else
  if (0:Int)≤0∧(0:Int)≤st∧st≤(t.L.length:Int) then
  ix t.L st fun y2=>
  bd (vk (List.drop (Int.toNat 0) (List.take (Int.toNat st) t.L)) y2) fun aY=>
  some aY
  else none:Option Bool) fun w1=>
 if w1 then
 some (.inr (.inr false))
 else
 some (.inl (IntKind.wrap .i64 (st+1)))
 else
 some (.inr (.inl ()))
noncomputable def uf (t:qZ):Option Bool:=
 bd (Loop (sL t) 0) fun w=>
 match w with
 | .inl p1=>
  some (decide ((t.L.length:Int)≤200))
 | .inr p2=>
  some p2
noncomputable def sM (a:pc) (st:Int):Option (Int⊕(Unit⊕Bool)):=
 if st<(a.Seen.length:Int) then
 ix a.Seen st fun y=>
 bd (
  if y.Client<0 then
  some true
  else
  if (1000:Int)<y.Client then
  some true
  else
  if y.Seq<1 then
  some true
  else
  if (0:Int)<st then
  ix a.Seen (IntKind.wrap .i64 (st-1)) fun y1=>
  some (decide (y.Client≤y1.Client))
  else
  some false:Option Bool) fun w2=>
 if w2 then
 some (.inr (.inr false))
 else
 some (.inl (IntKind.wrap .i64 (st+1)))
 else
 some (.inr (.inl ()))
noncomputable def ug (a:pc):Option Bool:=
 bd (
  bd (uc a.Shelf) fun rA=>
  if !rA then
  some true
  else
  bd (ud a.bt) fun aY=>
  if !aY then
  some true
  else
  bd (uf a.bh) fun cX=>
  if !cX then
  some true
  else
  some (decide ((50:Int)<(a.Seen.length:Int))):Option Bool) fun w=>
 if w then
 some false
 else
 bd (Loop (sM a) 0) fun w1=>
 match w1 with
 | .inl p1=>
  some true
 | .inr p2=>
  some p2
noncomputable def AP (rA:af):Option cS:=
 some (⟨rA.Client,rA.Seq,rA.E,rA.Value,rA.Version,rA.Names⟩:cS)
noncomputable def mh (lA:List af) (st:(List cS)×Int):Option (((List cS)×Int)⊕(List cS)):=
 if st.2<(lA.length:Int) then
 ix lA st.2 fun y=>
 bd (AP y) fun rA=>
 if (st.1.length+([rA]:List cS).length) *72≤2^46 then
 some (.inl (st.1++([rA]:List cS),IntKind.wrap .i64 (st.2+1)))
 else none
 else
 some (.inr st.1)
noncomputable def pi (lA:List af):Option (List cS):=
 bd (Loop (mh lA) (([]:List cS),0)) fun w=>
 some w
noncomputable def pj (a:ak) (st:(List ew)×Int×(List bV)×(List bJ)×(List cS)×Int):Option (((List ew)×Int×(List bV)×(List bJ)×(List cS)×Int)⊕((List ew)×Int×(List bV)×(List bJ)×(List cS))):=
 if st.2.2.2.2.2<(a.Shelf.L.length:Int) then
 ix a.Shelf.L st.2.2.2.2.2 fun y=>
 if (st.1.length+([(⟨y.Path,y.Value,y.Version,y.bI⟩:ew)]:List ew).length) *48≤2^46 then
 some (.inl (st.1++([(⟨y.Path,y.Value,y.Version,y.bI⟩:ew)]:List ew),st.2.1,st.2.2.1,st.2.2.2.1,st.2.2.2.2.1,IntKind.wrap .i64 (st.2.2.2.2.2+1)))
 else none
 else
 some (.inr (st.1,st.2.1,st.2.2.1,st.2.2.2.1,st.2.2.2.2.1))
noncomputable def pk (a:ak) (dV:(List ew)×Int×(List bV)×(List bJ)×(List cS)×Int):Option (((List ew)×Int×(List bV)×(List bJ)×(List cS)×Int)⊕((List ew)×Int×(List bV)×(List bJ)×(List cS))):=
 if dV.2.2.2.2.2<(a.bt.L.length:Int) then
 ix a.bt.L dV.2.2.2.2.2 fun y1=>
 if (dV.2.2.1.length+([(⟨y1.Id,y1.Span,y1.cY⟩:bV)]:List bV).length) *24≤2^46 then
 some (.inl (dV.1,dV.2.1,dV.2.2.1++([(⟨y1.Id,y1.Span,y1.cY⟩:bV)]:List bV),dV.2.2.2.1,dV.2.2.2.2.1,IntKind.wrap .i64 (dV.2.2.2.2.2+1)))
 else none
 else
 some (.inr (dV.1,dV.2.1,dV.2.2.1,dV.2.2.2.1,dV.2.2.2.2.1))
noncomputable def pn (a:ak) (dH:(List ew)×Int×(List bV)×(List bJ)×(List cS)×Int):Option (((List ew)×Int×(List bV)×(List bJ)×(List cS)×Int)⊕((List ew)×Int×(List bV)×(List bJ)×(List cS))):=
 if dH.2.2.2.2.2<(a.bh.L.length:Int) then
 ix a.bh.L dH.2.2.2.2.2 fun y2=>
 if (dH.2.2.2.1.length+([(⟨y2.Path,y2.Client,y2.Kids⟩:bJ)]:List bJ).length) *32≤2^46 then
 some (.inl (dH.1,dH.2.1,dH.2.2.1,dH.2.2.2.1++([(⟨y2.Path,y2.Client,y2.Kids⟩:bJ)]:List bJ),dH.2.2.2.2.1,IntKind.wrap .i64 (dH.2.2.2.2.2+1)))
 else none
 else
 some (.inr (dH.1,dH.2.1,dH.2.2.1,dH.2.2.2.1,dH.2.2.2.2.1))
noncomputable def uh (a:ak):Option pc:=
 bd (pi a.Seen) fun rA=>
 bd (Loop (pj a) (([]:List ew),a.bt.dE,([]:List bV),([]:List bJ),rA,0)) fun w=>
 bd (Loop (pk a) (w.1,w.2.1,w.2.2.1,w.2.2.2.1,w.2.2.2.2,0)) fun w1=>
 bd (Loop (pn a) (w1.1,w1.2.1,w1.2.2.1,w1.2.2.2.1,w1.2.2.2.2,0)) fun w2=>
 some (⟨(⟨w2.1⟩:jS),(⟨w2.2.1,w2.2.2.1⟩:vi),(⟨w2.2.2.2.1⟩:qZ),w2.2.2.2.2⟩:pc)
noncomputable def ia (o:av):Option av:=
 if o.Kind=1 then
 some (⟨o.Client,o.Seq,o.Kind,o.Path,o.Value,0,o.Session,0⟩:av)
 else
 bd (
  if o.Kind=2 then
  some (decide (o.Kind=2))
  else
  bd (
   if o.Kind=5 then
   some (decide (o.Kind=5))
   else
   bd (
    if o.Kind=10 then
    some (decide (o.Kind=10))
    else
    some (decide (o.Kind=11)):Option Bool) fun w2=>
   some w2:Option Bool) fun w1=>
  some w1:Option Bool) fun w=>
 if w then
 some (⟨o.Client,o.Seq,o.Kind,o.Path,([]:List UInt8),0,0,0⟩:av)
 else
 if o.Kind=3 then
 some (⟨o.Client,o.Seq,o.Kind,o.Path,o.Value,o.Version,0,0⟩:av)
 else
 if o.Kind=4 then
 some (⟨o.Client,o.Seq,o.Kind,o.Path,([]:List UInt8),o.Version,0,0⟩:av)
 else
 if o.Kind=6 then
 some (⟨o.Client,o.Seq,o.Kind,([]:List UInt8),([]:List UInt8),0,o.Session,o.Span⟩:av)
 else
 bd (
  if o.Kind=7 then
  some (decide (o.Kind=7))
  else
  some (decide (o.Kind=8)):Option Bool) fun w3=>
 if w3 then
 some (⟨o.Client,o.Seq,o.Kind,([]:List UInt8),([]:List UInt8),0,o.Session,0⟩:av)
 else
 if o.Kind=9 then
 some (⟨o.Client,o.Seq,o.Kind,([]:List UInt8),([]:List UInt8),0,0,o.Span⟩:av)
 else
 some (⟨o.Client,o.Seq,o.Kind,([]:List UInt8),([]:List UInt8),0,0,0⟩:av)
noncomputable def nb (o:av):Option Bool:=
 bd (
  if (0:Int)≤o.Client then
  if o.Client≤1000 then
  if (1:Int)≤o.Seq then
  some (decide (o.Seq≤1000000000))
  else
  some false
  else
  some false
  else
  some false:Option Bool) fun w=>
 bd (
  if w then
  if (0:Int)≤o.Kind then
  if o.Kind≤11 then
  if (o.Path.length:Int)≤100 then
  if (o.Value.length:Int)≤1000 then
  bd (ia o) fun rA=>
  some ((decide (o.Client=rA.Client))&&((decide (o.Seq=rA.Seq))&&((decide (o.Kind=rA.Kind))&&((decide (o.Path=rA.Path))&&((decide (o.Value=rA.Value))&&((decide (o.Version=rA.Version))&&((decide (o.Session=rA.Session))&&(decide (o.Span=rA.Span)))))))))
  else
  some false
  else
  some false
  else
  some false
  else
  some false
  else
  some false:Option Bool) fun w1=>
 some w1
noncomputable def nx (x:Int):Option Bool:=
 some (!decide (x=x))
noncomputable def ja (x:Int) (y:Int):Option Int:=
 bd (nx x) fun rA=>
 bd (nx y) fun aY=>
 if rA then
 if aY then
 some 0
 else
 some (-1)
 else
 if aY then
 some 1
 else
 if x<y then
 some (-1)
 else
 if y<x then
 some 1
 else
 some 0
noncomputable def cU (x:af) (eE:Int):Option Int:=
 bd (ja x.Client eE) fun rA=>
 some rA
noncomputable def fp (x:List af) (target:Int) (cmp:af→Int→Option Int) (st:Int×Int):Option ((Int×Int)⊕Int):=
 if st.1<st.2 then
 if (0:Int)≤1 then
 ix x (IntKind.wrap .i64 (Int.fdiv (IntKind.wrap .u64 (IntKind.wrap .i64 (st.1+st.2))) (2^min (Int.toNat 1) (IntKind.bits .u64)))) fun y=>
 bd (cmp y target) fun rA=>
 bd (
  if rA<0 then
  some (IntKind.wrap .i64 ((IntKind.wrap .i64 (Int.fdiv (IntKind.wrap .u64 (IntKind.wrap .i64 (st.1+st.2))) (2^min (Int.toNat 1) (IntKind.bits .u64))))+1),st.2)
  else
  some (st.1,IntKind.wrap .i64 (Int.fdiv (IntKind.wrap .u64 (IntKind.wrap .i64 (st.1+st.2))) (2^min (Int.toNat 1) (IntKind.bits .u64)))):Option (Int×Int)) fun w1=>
 some (.inl (w1.1,w1.2))
 else none
 else
 some (.inr st.1)
noncomputable def cF (x:List af) (target:Int) (cmp:af→Int→Option Int):Option (Int×Bool):=
 bd (Loop (fp x target cmp) (0,(x.length:Int))) fun w=>
 bd (
  if w<(x.length:Int) then
  ix x w fun y1=>
  bd (cmp y1 target) fun aY=>
  some (w,decide (aY=0))
  else
  some (w,false):Option (Int×Bool)) fun w2=>
 some (w2.1,w2.2)
noncomputable def eU (rA:ak) (eE:Int):Option (Int×Bool):=
 bd (cF rA.Seen eE cU) fun aY=>
 some (aY.1,aY.2)
noncomputable def oq (rA:ak) (eE:Int):Option (af×Bool):=
 bd (eU rA eE) fun aY=>
 if !aY.2 then
 some ((⟨0,0,0,([]:List UInt8),0,([]:List (List UInt8))⟩:af),false)
 else
 ix rA.Seen aY.1 fun y=>
 some (y,true)
noncomputable def jb (rA:ak) (o:av):Option (af×Bool):=
 bd (oq rA o.Client) fun aY=>
 bd (nb o) fun cX=>
 bd (
  if !cX then
  some (.inl (0,0,0,([]:List UInt8),0,([]:List (List UInt8)),o.Client,o.Seq,1,([]:List UInt8),0,([]:List (List UInt8))))
  else
  bd (
   if aY.2 then
   some (decide (aY.1.Seq=o.Seq))
   else
   some false:Option Bool) fun w1=>
  if w1 then
  some (.inr (aY.1.Client,aY.1.Seq,aY.1.E,aY.1.Value,aY.1.Version,aY.1.Names,true))
  else
  bd (
   if aY.2 then
   some (decide (o.Seq<aY.1.Seq))
   else
   some false:Option Bool) fun w2=>
  bd (
   if w2 then
   some (.inl (0,0,0,([]:List UInt8),0,([]:List (List UInt8)),o.Client,o.Seq,15,([]:List UInt8),0,([]:List (List UInt8))))
   else
   bd (
    if !aY.2 then
    some (decide ((50:Int)≤(rA.Seen.length:Int)))
    else
    some false:Option Bool) fun w4=>
   if w4 then
   some (.inl (0,0,0,([]:List UInt8),0,([]:List (List UInt8)),o.Client,o.Seq,9,([]:List UInt8),0,([]:List (List UInt8))))
   else
   some (.inr (o.Client,o.Seq,0,([]:List UInt8),0,([]:List (List UInt8)),false)):Option ((Int×Int×Int×(List UInt8)×Int×(List (List UInt8))×Int×Int×Int×(List UInt8)×Int×(List (List UInt8)))⊕(Int×Int×Int×(List UInt8)×Int×(List (List UInt8))×Bool))) fun w3=>
  match w3 with
  | .inl p2=>
   some (.inl (p2.1,p2.2.1,p2.2.2.1,p2.2.2.2.1,p2.2.2.2.2.1,p2.2.2.2.2.2.1,p2.2.2.2.2.2.2.1,p2.2.2.2.2.2.2.2.1,p2.2.2.2.2.2.2.2.2.1,p2.2.2.2.2.2.2.2.2.2.1,p2.2.2.2.2.2.2.2.2.2.2.1,p2.2.2.2.2.2.2.2.2.2.2.2))
  | .inr p3=>
   some (.inr (p3.1,p3.2.1,p3.2.2.1,p3.2.2.2.1,p3.2.2.2.2.1,p3.2.2.2.2.2.1,p3.2.2.2.2.2.2)):Option ((Int×Int×Int×(List UInt8)×Int×(List (List UInt8))×Int×Int×Int×(List UInt8)×Int×(List (List UInt8)))⊕(Int×Int×Int×(List UInt8)×Int×(List (List UInt8))×Bool))) fun w=>
 match w with
 | .inl p4=>
  some ((⟨p4.2.2.2.2.2.2.1,p4.2.2.2.2.2.2.2.1,p4.2.2.2.2.2.2.2.2.1,p4.2.2.2.2.2.2.2.2.2.1,p4.2.2.2.2.2.2.2.2.2.2.1,p4.2.2.2.2.2.2.2.2.2.2.2⟩:af),true)
 | .inr p5=>
  some ((⟨p5.1,p5.2.1,p5.2.2.1,p5.2.2.2.1,p5.2.2.2.2.1,p5.2.2.2.2.2.1⟩:af),p5.2.2.2.2.2.2)
noncomputable def mN (w:ai):Option (Unit×ai):=
 some ((),w)
noncomputable def df (x:aw) (id:Int):Option Int:=
 bd (ja x.Id id) fun rA=>
 some rA
noncomputable def eM (x:List aw) (target:Int) (cmp:aw→Int→Option Int) (st:Int×Int):Option ((Int×Int)⊕Int):=
 if st.1<st.2 then
 if (0:Int)≤1 then
 ix x (IntKind.wrap .i64 (Int.fdiv (IntKind.wrap .u64 (IntKind.wrap .i64 (st.1+st.2))) (2^min (Int.toNat 1) (IntKind.bits .u64)))) fun y=>
 bd (cmp y target) fun rA=>
 bd (
  if rA<0 then
  some (IntKind.wrap .i64 ((IntKind.wrap .i64 (Int.fdiv (IntKind.wrap .u64 (IntKind.wrap .i64 (st.1+st.2))) (2^min (Int.toNat 1) (IntKind.bits .u64))))+1),st.2)
  else
  some (st.1,IntKind.wrap .i64 (Int.fdiv (IntKind.wrap .u64 (IntKind.wrap .i64 (st.1+st.2))) (2^min (Int.toNat 1) (IntKind.bits .u64)))):Option (Int×Int)) fun w1=>
 some (.inl (w1.1,w1.2))
 else none
 else
 some (.inr st.1)
noncomputable def cv (x:List aw) (target:Int) (cmp:aw→Int→Option Int):Option (Int×Bool):=
 bd (Loop (eM x target cmp) (0,(x.length:Int))) fun w=>
 bd (
  if w<(x.length:Int) then
  ix x w fun y1=>
  bd (cmp y1 target) fun aY=>
  some (w,decide (aY=0))
  else
  some (w,false):Option (Int×Bool)) fun w2=>
 some (w2.1,w2.2)
noncomputable def dQ (b:aD) (id:Int):Option (Int×Bool):=
 bd (cv b.L id df) fun rA=>
 some (rA.1,rA.2)
noncomputable def ui (b:aD) (id:Int):Option Bool:=
 bd (dQ b id) fun rA=>
 some rA.2
noncomputable def gD (sA:List UInt8) (dg:List UInt8):Option Bool:=
 bd (
  if (dg.length:Int)≤(sA.length:Int) then
  if (0:Int)≤0∧(0:Int)≤(dg.length:Int)∧(dg.length:Int)≤(sA.length:Int) then
  some (decide ((List.drop (Int.toNat 0) (List.take (Int.toNat (dg.length:Int)) sA))=dg))
  else none
  else
  some false:Option Bool) fun w=>
 some w
noncomputable def gE (sA:List UInt8) (dg:List UInt8):Option ((List UInt8)×Bool):=
 bd (gD sA dg) fun rA=>
 if !rA then
 some (sA,false)
 else
 if (0:Int)≤(dg.length:Int)∧(dg.length:Int)≤(sA.length:Int)∧(sA.length:Int)≤(sA.length:Int) then
 some (List.drop (Int.toNat (dg.length:Int)) (List.take (Int.toNat (sA.length:Int)) sA),true)
 else none
noncomputable def il (sA:List UInt8) (dg:List UInt8):Option ((List UInt8)×Bool):=
 bd (gE sA dg) fun rA=>
 some (rA.1,rA.2)
noncomputable def gk (c:Int):Option Bool:=
 bd (AM ([97,98,99,100,101,102,103,104,105,106,107,108,109,110,111,112,113,114,115,116,117,118,119,120,121,122,48,49,50,51,52,53,54,55,56,57,45,95]:List UInt8) c) fun rA=>
 some (!rA)
noncomputable def im (f:Int→Option Bool) (CZ:Bool) (st:(List MV)):Option ((List MV)⊕(Unit⊕Int)):=
 if G8 st then
 bd (f (wR st)) fun rA=>
 if rA=CZ then
 some (.inr (.inr (qc st)))
 else
 some (.inl (zx st))
 else
 some (.inr (.inl ()))
noncomputable def mC (sA:List UInt8) (f:Int→Option Bool) (CZ:Bool):Option Int:=
 bd (Loop (im f CZ) ([.s sA,.i .i64 0]:List MV)) fun w=>
 match w with
 | .inl p1=>
  some (-1)
 | .inr p2=>
  some p2
noncomputable def ko (sA:List UInt8) (f:Int→Option Bool):Option Int:=
 bd (mC sA f true) fun rA=>
 some rA
noncomputable def fq (sA:List UInt8) (f:Int→Option Bool):Option Bool:=
 bd (ko sA f) fun rA=>
 some (decide ((0:Int)≤rA))
noncomputable def po (sA:List UInt8):Option Bool:=
 bd (
  if !decide (sA=([]:List UInt8)) then
  if (sA.length:Int)≤30 then
  bd (IE sA ([97,98,99,100,101,102,103,104,105,106,107,108,109,110,111,112,113,114,115,116,117,118,119,120,121,122,48,49,50,51,52,53,54,55,56,57,45,95]:List UInt8)) fun rA=>
  if rA=([]:List UInt8) then
  bd (fq sA gk) fun aY=>
  some (!aY)
  else
  some false
  else
  some false
  else
  some false:Option Bool) fun w=>
 some w
noncomputable def lu (sA:List UInt8):Option Bool:=
 bd (po sA) fun rA=>
 some (!rA)
noncomputable def dL (sA:List (List UInt8)) (f:(List UInt8)→Option Bool) (st:Int):Option (Int⊕(Unit⊕Int)):=
 if st<(sA.length:Int) then
 ix sA st fun y=>
 bd (f y) fun rA=>
 if rA then
 some (.inr (.inr st))
 else
 some (.inl (IntKind.wrap .i64 (st+1)))
 else
 some (.inr (.inl ()))
noncomputable def fY (sA:List (List UInt8)) (f:(List UInt8)→Option Bool):Option Int:=
 bd (Loop (dL sA f) 0) fun w=>
 match w with
 | .inl p1=>
  some (-1)
 | .inr p2=>
  some p2
noncomputable def dy (sA:List (List UInt8)) (f:(List UInt8)→Option Bool):Option Bool:=
 bd (fY sA f) fun rA=>
 some (decide ((0:Int)≤rA))
noncomputable def gn (p:List UInt8):Option ((List (List UInt8))×Bool):=
 bd (il p ([47]:List UInt8)) fun rA=>
 bd (
  if !rA.2 then
  some true
  else
  some (decide ((100:Int)<(p.length:Int))):Option Bool) fun w=>
 if w then
 some (([]:List (List UInt8)),false)
 else
 if rA.1=([]:List UInt8) then
 some (([]:List (List UInt8)),true)
 else
 bd (J6 rA.1 ([47]:List UInt8)) fun aY=>
 bd (
  if (aY.length:Int)≤8 then
  bd (dy aY lu) fun cX=>
  some (aY,!cX,aY)
  else
  some (aY,false,aY):Option ((List (List UInt8))×Bool×(List (List UInt8)))) fun w1=>
 some (w1.2.2,w1.2.1)
noncomputable def jT (x:List UInt8):Option Bool:=
 some (!decide (x=x))
noncomputable def iq (x:List UInt8) (y:List UInt8):Option Int:=
 bd (jT x) fun rA=>
 bd (jT y) fun aY=>
 if rA then
 if aY then
 some 0
 else
 some (-1)
 else
 if aY then
 some 1
 else
 if Op.bytesLess x y then
 some (-1)
 else
 if !(Op.bytesLess x y||decide (x=y)) then
 some 1
 else
 some 0
noncomputable def ey (s1:List (List UInt8)) (s2:List (List UInt8)) (st:Int):Option (Int⊕(Unit⊕Int)):=
 if st<(s1.length:Int) then
 ix s1 st fun y=>
 if (s2.length:Int)≤st then
 some (.inr (.inr 1))
 else
 ix s2 st fun y1=>
 bd (iq y y1) fun rA=>
 if !decide (rA=0) then
 some (.inr (.inr rA))
 else
 some (.inl (IntKind.wrap .i64 (st+1)))
 else
 some (.inr (.inl ()))
noncomputable def ft (s1:List (List UInt8)) (s2:List (List UInt8)):Option Int:=
 bd (Loop (ey s1 s2) 0) fun w=>
 match w with
 | .inl p1=>
  if (s1.length:Int)<(s2.length:Int) then
  some (-1)
  else
  some 0
 | .inr p2=>
  some p2
noncomputable def q9 (p:List UInt8) (q:List UInt8):Option Bool:=
 bd (gn p) fun rA=>
 bd (gn q) fun aY=>
 bd (
  if rA.2 then
  if aY.2 then
  bd (ft rA.1 aY.1) fun cX=>
  some (decide (cX<0))
  else
  some false
  else
  some false:Option Bool) fun w=>
 some w
noncomputable def cf (n:ae) (p:List UInt8):Option Int:=
 if n.Path=p then
 some 0
 else
 bd (q9 n.Path p) fun rA=>
 if rA then
 some (-1)
 else
 some 1
noncomputable def eN (x:List ae) (target:List UInt8) (cmp:ae→(List UInt8)→Option Int) (st:Int×Int):Option ((Int×Int)⊕Int):=
 if st.1<st.2 then
 if (0:Int)≤1 then
 ix x (IntKind.wrap .i64 (Int.fdiv (IntKind.wrap .u64 (IntKind.wrap .i64 (st.1+st.2))) (2^min (Int.toNat 1) (IntKind.bits .u64)))) fun y=>
 bd (cmp y target) fun rA=>
 bd (
  if rA<0 then
  some (IntKind.wrap .i64 ((IntKind.wrap .i64 (Int.fdiv (IntKind.wrap .u64 (IntKind.wrap .i64 (st.1+st.2))) (2^min (Int.toNat 1) (IntKind.bits .u64))))+1),st.2)
  else
  some (st.1,IntKind.wrap .i64 (Int.fdiv (IntKind.wrap .u64 (IntKind.wrap .i64 (st.1+st.2))) (2^min (Int.toNat 1) (IntKind.bits .u64)))):Option (Int×Int)) fun w1=>
 some (.inl (w1.1,w1.2))
 else none
 else
 some (.inr st.1)
noncomputable def dp (x:List ae) (target:List UInt8) (cmp:ae→(List UInt8)→Option Int):Option (Int×Bool):=
 bd (Loop (eN x target cmp) (0,(x.length:Int))) fun w=>
 bd (
  if w<(x.length:Int) then
  ix x w fun y1=>
  bd (cmp y1 target) fun aY=>
  some (w,decide (aY=0))
  else
  some (w,false):Option (Int×Bool)) fun w2=>
 some (w2.1,w2.2)
noncomputable def dY (sA:ay) (p:List UInt8):Option (Int×Bool):=
 bd (dp sA.L p cf) fun rA=>
 some (rA.1,rA.2)
noncomputable def jC (p:List UInt8):Option Bool:=
 bd (gn p) fun rA=>
 some rA.2
noncomputable def dF (sA:List UInt8) (c:Int) (st:Int):Option (Int⊕(Unit⊕Int)):=
 if (0:Int)≤st then
 if (0:Int)≤st∧st<(sA.length:Int) then
 if ((sA.getD (Int.toNat st) 0).toNat:Int)=c then
 some (.inr (.inr st))
 else
 some (.inl (IntKind.wrap .i64 (st-1)))
 else none
 else
 some (.inr (.inl ()))
noncomputable def ea (sA:List UInt8) (c:Int):Option Int:=
 bd (Loop (dF sA c) (IntKind.wrap .i64 ((sA.length:Int)-1))) fun w=>
 match w with
 | .inl p1=>
  some (-1)
 | .inr p2=>
  some p2
noncomputable def kP (sep:List UInt8) (st:Int×Int):Option ((Int×Int)⊕Int):=
 if (0:Int)≤st.2 then
 if (0:Int)≤st.2∧st.2<(sep.length:Int) then
 some (.inl (IntKind.wrap .u32 ((IntKind.wrap .u32 (st.1 *16777619))+(IntKind.wrap .u32 ((sep.getD (Int.toNat st.2) 0).toNat:Int))),IntKind.wrap .i64 (st.2-1)))
 else none
 else
 some (.inr st.1)
noncomputable def kQ (dV:Int×Int×Int):Option ((Int×Int×Int)⊕Int):=
 if (0:Int)<dV.2.2 then
 none
 else
 some (.inr dV.1)
noncomputable def iJ (sep:List UInt8):Option (Int×Int):=
 bd (Loop (kP sep) (0,IntKind.wrap .i64 ((sep.length:Int)-1))) fun w=>
 bd (Loop kQ (1,16777619,(sep.length:Int))) fun w1=>
 some (w,w1)
noncomputable def gp (a:List UInt8) (a1:List UInt8) (st:Int×Int):Option ((Int×Int)⊕Int):=
 if (IntKind.wrap .i64 ((a.length:Int)-(a1.length:Int)))≤st.2 then
 if (0:Int)≤st.2∧st.2<(a.length:Int) then
 some (.inl (IntKind.wrap .u32 ((IntKind.wrap .u32 (st.1 *16777619))+(IntKind.wrap .u32 ((a.getD (Int.toNat st.2) 0).toNat:Int))),IntKind.wrap .i64 (st.2-1)))
 else none
 else
 some (.inr st.1)
noncomputable def gq (a:List UInt8) (a1:List UInt8) (rA:Int×Int) (dV:Int×Int):Option ((Int×Int)⊕(Unit⊕Int)):=
 if (0:Int)≤dV.2 then
 if (0:Int)≤dV.2∧dV.2<(a.length:Int) then
 if (0:Int)≤(IntKind.wrap .i64 (dV.2+(a1.length:Int)))∧(IntKind.wrap .i64 (dV.2+(a1.length:Int)))<(a.length:Int) then
 bd (
  if (IntKind.wrap .u32 ((IntKind.wrap .u32 ((IntKind.wrap .u32 (dV.1 *16777619))+(IntKind.wrap .u32 ((a.getD (Int.toNat dV.2) 0).toNat:Int))))-(IntKind.wrap .u32 (rA.2 *(IntKind.wrap .u32 ((a.getD (Int.toNat (IntKind.wrap .i64 (dV.2+(a1.length:Int)))) 0).toNat:Int))))))=rA.1 then
  if (0:Int)≤dV.2∧dV.2≤(IntKind.wrap .i64 (dV.2+(a1.length:Int)))∧(IntKind.wrap .i64 (dV.2+(a1.length:Int)))≤(a.length:Int) then
  some (decide ((List.drop (Int.toNat dV.2) (List.take (Int.toNat (IntKind.wrap .i64 (dV.2+(a1.length:Int)))) a))=a1))
  else none
  else
  some false:Option Bool) fun w3=>
 if w3 then
 some (.inr (.inr dV.2))
 else
 some (.inl (IntKind.wrap .u32 ((IntKind.wrap .u32 ((IntKind.wrap .u32 (dV.1 *16777619))+(IntKind.wrap .u32 ((a.getD (Int.toNat dV.2) 0).toNat:Int))))-(IntKind.wrap .u32 (rA.2 *(IntKind.wrap .u32 ((a.getD (Int.toNat (IntKind.wrap .i64 (dV.2+(a1.length:Int)))) 0).toNat:Int))))),IntKind.wrap .i64 (dV.2-1)))
 else none
 else none
 else
 some (.inr (.inl ()))
noncomputable def ez (a:List UInt8) (a1:List UInt8):Option Int:=
 bd (iJ a1) fun rA=>
 bd (Loop (gp a a1) (0,IntKind.wrap .i64 ((a.length:Int)-1))) fun w=>
 bd (
  if w=rA.1 then
  if (0:Int)≤(IntKind.wrap .i64 ((a.length:Int)-(a1.length:Int)))∧(IntKind.wrap .i64 ((a.length:Int)-(a1.length:Int)))≤(a.length:Int)∧(a.length:Int)≤(a.length:Int) then
  some (decide ((List.drop (Int.toNat (IntKind.wrap .i64 ((a.length:Int)-(a1.length:Int)))) (List.take (Int.toNat (a.length:Int)) a))=a1))
  else none
  else
  some false:Option Bool) fun w1=>
 if w1 then
 some (IntKind.wrap .i64 ((a.length:Int)-(a1.length:Int)))
 else
 bd (Loop (gq a a1 rA) (w,IntKind.wrap .i64 ((IntKind.wrap .i64 ((a.length:Int)-(a1.length:Int)))-1))) fun w2=>
 match w2 with
 | .inl p2=>
  some (-1)
 | .inr p3=>
  some p3
noncomputable def ir (sA:List UInt8) (substr:List UInt8):Option Int:=
 if (substr.length:Int)=0 then
 some (sA.length:Int)
 else
 if (substr.length:Int)=1 then
 if (0:Int)≤0∧(0:Int)<(substr.length:Int) then
 bd (ea sA ((substr.getD (Int.toNat 0) 0).toNat:Int)) fun rA=>
 some rA
 else none
 else
 if (substr.length:Int)=(sA.length:Int) then
 if substr=sA then
 some 0
 else
 some (-1)
 else
 if (sA.length:Int)<(substr.length:Int) then
 some (-1)
 else
 bd (ez sA substr) fun aY=>
 some aY
noncomputable def nd (p:List UInt8):Option ((List UInt8)×Int):=
 bd (jC p) fun rA=>
 if !rA then
 some (([]:List UInt8),13)
 else
 if p=([47]:List UInt8) then
 some (([]:List UInt8),6)
 else
 bd (ir p ([47]:List UInt8)) fun aY=>
 if (0:Int)≤0∧(0:Int)≤(imax 1 aY)∧(imax 1 aY)≤(p.length:Int) then
 some (List.drop (Int.toNat 0) (List.take (Int.toNat (imax 1 aY)) p),0)
 else none
noncomputable def fO (sA:ay) (p:List UInt8):Option (Int×Int):=
 bd (jC p) fun rA=>
 if !rA then
 some (0,13)
 else
 bd (dY sA p) fun aY=>
 if !aY.2 then
 some (0,6)
 else
 some (aY.1,0)
noncomputable def ot (sA:ay) (p:List UInt8):Option (ae×Int):=
 bd (fO sA p) fun rA=>
 if !decide (rA.2=0) then
 some ((⟨([]:List UInt8),([]:List UInt8),0,0⟩:ae),rA.2)
 else
 ix sA.L rA.1 fun y=>
 some (y,0)
noncomputable def gu (c:List UInt8) (c1:Bool) (c2:ay) (c3:List UInt8) (c4:Int):Option Int:=
 bd (jC c) fun rA=>
 if !rA then
 some 13
 else
 if c1 then
 some 7
 else
 bd (nd c) fun aY=>
 bd (ot c2 aY.1) fun cX=>
 if !decide (cX.2=0) then
 some 6
 else
 if !decide (cX.1.bI=0) then
 some 10
 else
 if (1000:Int)<(c3.length:Int) then
 some 5
 else
 if c4<0 then
 some 1
 else
 if (200:Int)≤(c2.L.length:Int) then
 some 9
 else
 some 0
noncomputable def lz (sA:ay) (p:List UInt8) (value:List UInt8) (owner:Int):Option (ay×Int):=
 bd (dY sA p) fun rA=>
 bd (gu p rA.2 sA value owner) fun aY=>
 if !decide (aY=0) then
 some (sA,aY)
 else
 bd (jB 48 sA.L) fun cX=>
 bd (qo 48 cX rA.1 ([(⟨p,value,0,owner⟩:ae)]:List ae)) fun oo=>
 some ((⟨oo⟩:ay),0)
noncomputable def dq (w:ai) (kind:Int):Option (Unit×ai):=
 bd (
  if w.x.E=0 then
  if (w.l.length+([(⟨kind,w.o.Path⟩:aF)]:List aF).length) *24≤2^46 then
  some (w.r.Shelf.L,w.r.bt.dE,w.r.bt.L,w.r.bh.L,w.r.Seen,w.o.Client,w.o.Seq,w.o.Kind,w.o.Path,w.o.Value,w.o.Version,w.o.Session,w.o.Span,w.x.Client,w.x.Seq,w.x.E,w.x.Value,w.x.Version,w.x.Names,w.l++([(⟨kind,w.o.Path⟩:aF)]:List aF))
  else none
  else
  some (w.r.Shelf.L,w.r.bt.dE,w.r.bt.L,w.r.bh.L,w.r.Seen,w.o.Client,w.o.Seq,w.o.Kind,w.o.Path,w.o.Value,w.o.Version,w.o.Session,w.o.Span,w.x.Client,w.x.Seq,w.x.E,w.x.Value,w.x.Version,w.x.Names,w.l):Option ((List ae)×Int×(List aw)×(List al)×(List af)×Int×Int×Int×(List UInt8)×(List UInt8)×Int×Int×Int×Int×Int×Int×(List UInt8)×Int×(List (List UInt8))×(List aF))) fun w1=>
 some ((),(⟨(⟨(⟨w1.1⟩:ay),(⟨w1.2.1,w1.2.2.1⟩:aD),(⟨w1.2.2.2.1⟩:bB),w1.2.2.2.2.1⟩:ak),(⟨w1.2.2.2.2.2.1,w1.2.2.2.2.2.2.1,w1.2.2.2.2.2.2.2.1,w1.2.2.2.2.2.2.2.2.1,w1.2.2.2.2.2.2.2.2.2.1,w1.2.2.2.2.2.2.2.2.2.2.1,w1.2.2.2.2.2.2.2.2.2.2.2.1,w1.2.2.2.2.2.2.2.2.2.2.2.2.1⟩:av),(⟨w1.2.2.2.2.2.2.2.2.2.2.2.2.2.1,w1.2.2.2.2.2.2.2.2.2.2.2.2.2.2.1,w1.2.2.2.2.2.2.2.2.2.2.2.2.2.2.2.1,w1.2.2.2.2.2.2.2.2.2.2.2.2.2.2.2.2.1,w1.2.2.2.2.2.2.2.2.2.2.2.2.2.2.2.2.2.1,w1.2.2.2.2.2.2.2.2.2.2.2.2.2.2.2.2.2.2.1⟩:af),w1.2.2.2.2.2.2.2.2.2.2.2.2.2.2.2.2.2.2.2⟩:ai))
noncomputable def iu (w:ai):Option (Unit×ai):=
 bd (
  if !decide (w.o.Session=0) then
  bd (ui w.r.bt w.o.Session) fun rA=>
  some (!rA)
  else
  some false:Option Bool) fun w1=>
 if w1 then
 some ((),(⟨w.r,w.o,(⟨w.x.Client,w.x.Seq,14,w.x.Value,w.x.Version,w.x.Names⟩:af),w.l⟩:ai))
 else
 bd (lz w.r.Shelf w.o.Path w.o.Value w.o.Session) fun aY=>
 bd (dq (⟨(⟨aY.1,w.r.bt,w.r.bh,w.r.Seen⟩:ak),w.o,(⟨w.x.Client,w.x.Seq,aY.2,w.x.Value,w.x.Version,w.x.Names⟩:af),w.l⟩:ai) 1) fun cX=>
 some ((),cX.2)
noncomputable def kR (w:ai):Option (Unit×ai):=
 bd (ot w.r.Shelf w.o.Path) fun rA=>
 some ((),(⟨w.r,w.o,(⟨w.x.Client,w.x.Seq,rA.2,rA.1.Value,rA.1.Version,w.x.Names⟩:af),w.l⟩:ai))
noncomputable def dZ (sA:ay) (p:List UInt8) (version:Int):Option (Int×Int):=
 bd (fO sA p) fun rA=>
 bd (
  if rA.2=0 then
  if !decide (version=(-1)) then
  ix sA.L rA.1 fun y=>
  some (!decide (version=y.Version))
  else
  some false
  else
  some false:Option Bool) fun w=>
 if w then
 some (rA.1,8)
 else
 some (rA.1,rA.2)
noncomputable def uj (sA:ay) (p:List UInt8) (value:List UInt8) (version:Int):Option (ay×Int):=
 bd (dZ sA p version) fun rA=>
 if !decide (rA.2=0) then
 some (sA,rA.2)
 else
 if (1000:Int)<(value.length:Int) then
 some (sA,5)
 else
 ix sA.L rA.1 fun y=>
 if (1000000000:Int)≤y.Version then
 some (sA,9)
 else
 bd (jB 48 sA.L) fun aY=>
 ix aY rA.1 fun y1=>
 ix (aY.set (Int.toNat rA.1) (⟨y1.Path,value,y1.Version,y1.bI⟩:ae)) rA.1 fun y2=>
 ix (aY.set (Int.toNat rA.1) (⟨y1.Path,value,y1.Version,y1.bI⟩:ae)) rA.1 fun y3=>
 some ((⟨(aY.set (Int.toNat rA.1) (⟨y1.Path,value,y1.Version,y1.bI⟩:ae)).set (Int.toNat rA.1) (⟨y3.Path,y3.Value,IntKind.wrap .i64 (y2.Version+1),y3.bI⟩:ae)⟩:ay),0)
noncomputable def kS (w:ai):Option (Unit×ai):=
 bd (uj w.r.Shelf w.o.Path w.o.Value w.o.Version) fun rA=>
 bd (dq (⟨(⟨rA.1,w.r.bt,w.r.bh,w.r.Seen⟩:ak),w.o,(⟨w.x.Client,w.x.Seq,rA.2,w.x.Value,w.x.Version,w.x.Names⟩:af),w.l⟩:ai) 2) fun aY=>
 bd (
  if aY.2.x.E=0 then
  bd (ot aY.2.r.Shelf aY.2.o.Path) fun cX=>
  some (aY.2.r.Shelf.L,aY.2.r.bt.dE,aY.2.r.bt.L,aY.2.r.bh.L,aY.2.r.Seen,aY.2.o.Client,aY.2.o.Seq,aY.2.o.Kind,aY.2.o.Path,aY.2.o.Value,aY.2.o.Version,aY.2.o.Session,aY.2.o.Span,aY.2.x.Client,aY.2.x.Seq,aY.2.x.E,aY.2.x.Value,cX.1.Version,aY.2.x.Names,aY.2.l)
  else
  some (aY.2.r.Shelf.L,aY.2.r.bt.dE,aY.2.r.bt.L,aY.2.r.bh.L,aY.2.r.Seen,aY.2.o.Client,aY.2.o.Seq,aY.2.o.Kind,aY.2.o.Path,aY.2.o.Value,aY.2.o.Version,aY.2.o.Session,aY.2.o.Span,aY.2.x.Client,aY.2.x.Seq,aY.2.x.E,aY.2.x.Value,aY.2.x.Version,aY.2.x.Names,aY.2.l):Option ((List ae)×Int×(List aw)×(List al)×(List af)×Int×Int×Int×(List UInt8)×(List UInt8)×Int×Int×Int×Int×Int×Int×(List UInt8)×Int×(List (List UInt8))×(List aF))) fun w1=>
 some ((),(⟨(⟨(⟨w1.1⟩:ay),(⟨w1.2.1,w1.2.2.1⟩:aD),(⟨w1.2.2.2.1⟩:bB),w1.2.2.2.2.1⟩:ak),(⟨w1.2.2.2.2.2.1,w1.2.2.2.2.2.2.1,w1.2.2.2.2.2.2.2.1,w1.2.2.2.2.2.2.2.2.1,w1.2.2.2.2.2.2.2.2.2.1,w1.2.2.2.2.2.2.2.2.2.2.1,w1.2.2.2.2.2.2.2.2.2.2.2.1,w1.2.2.2.2.2.2.2.2.2.2.2.2.1⟩:av),(⟨w1.2.2.2.2.2.2.2.2.2.2.2.2.2.1,w1.2.2.2.2.2.2.2.2.2.2.2.2.2.2.1,w1.2.2.2.2.2.2.2.2.2.2.2.2.2.2.2.1,w1.2.2.2.2.2.2.2.2.2.2.2.2.2.2.2.2.1,w1.2.2.2.2.2.2.2.2.2.2.2.2.2.2.2.2.2.1,w1.2.2.2.2.2.2.2.2.2.2.2.2.2.2.2.2.2.2.1⟩:af),w1.2.2.2.2.2.2.2.2.2.2.2.2.2.2.2.2.2.2.2⟩:ai))
noncomputable def iv (s1:List (List UInt8)) (s2:List (List UInt8)) (st:Int):Option (Int⊕(Unit⊕Bool)):=
 if st<(s1.length:Int) then
 ix s1 st fun y=>
 ix s2 st fun y1=>
 if !decide (y=y1) then
 some (.inr (.inr false))
 else
 some (.inl (IntKind.wrap .i64 (st+1)))
 else
 some (.inr (.inl ()))
noncomputable def eV (s1:List (List UInt8)) (s2:List (List UInt8)):Option Bool:=
 if !decide ((s1.length:Int)=(s2.length:Int)) then
 some false
 else
 bd (Loop (iv s1 s2) 0) fun w=>
 match w with
 | .inl p1=>
  some true
 | .inr p2=>
  some p2
noncomputable def mO (p:List UInt8) (q:List UInt8):Option Bool:=
 bd (gn p) fun rA=>
 bd (gn q) fun aY=>
 bd (
  if rA.2 then
  if aY.2 then
  if (rA.1.length:Int)<(aY.1.length:Int) then
  if (0:Int)≤0∧(0:Int)≤(rA.1.length:Int)∧(rA.1.length:Int)≤(aY.1.length:Int) then
  bd (eV rA.1 (List.drop (Int.toNat 0) (List.take (Int.toNat (rA.1.length:Int)) aY.1))) fun cX=>
  some cX
  else none
  else
  some false
  else
  some false
  else
  some false:Option Bool) fun w=>
 some w
noncomputable def ny (sA:ay) (p:List UInt8) (version:Int):Option (ay×Int):=
 bd (dZ sA p version) fun rA=>
 if p=([47]:List UInt8) then
 some (sA,13)
 else
 if !decide (rA.2=0) then
 some (sA,rA.2)
 else
 bd (
  if (IntKind.wrap .i64 (rA.1+1))<(sA.L.length:Int) then
  ix sA.L (IntKind.wrap .i64 (rA.1+1)) fun y=>
  bd (mO p y.Path) fun aY=>
  some aY
  else
  some false:Option Bool) fun w=>
 if w then
 some (sA,10)
 else
 bd (jB 48 sA.L) fun cX=>
 bd (yc cX rA.1 (IntKind.wrap .i64 (rA.1+1))) fun oo=>
 some ((⟨oo⟩:ay),0)
noncomputable def iw (w:ai):Option (Unit×ai):=
 bd (ny w.r.Shelf w.o.Path w.o.Version) fun rA=>
 bd (dq (⟨(⟨rA.1,w.r.bt,w.r.bh,w.r.Seen⟩:ak),w.o,(⟨w.x.Client,w.x.Seq,rA.2,w.x.Value,w.x.Version,w.x.Names⟩:af),w.l⟩:ai) 3) fun aY=>
 some ((),aY.2)
noncomputable def ou (p:List UInt8):Option ((List (List UInt8))×Int):=
 bd (gn p) fun rA=>
 if !rA.2 then
 some (([]:List (List UInt8)),13)
 else
 some (rA.1,0)
noncomputable def nz (a:ay) (a1:List UInt8) (rA:Int×Int) (aY:(List (List UInt8))×Int) (st:(List (List UInt8))×Int):Option (((List (List UInt8))×Int)⊕(List (List UInt8))):=
 if st.2<((List.drop (Int.toNat (IntKind.wrap .i64 (rA.1+1))) (List.take (Int.toNat (a.L.length:Int)) a.L)).length:Int) then
 ix (List.drop (Int.toNat (IntKind.wrap .i64 (rA.1+1))) (List.take (Int.toNat (a.L.length:Int)) a.L)) st.2 fun y=>
 bd (mO a1 y.Path) fun cX=>
 if !cX then
 some (.inr st.1)
 else
 bd (ou y.Path) fun oo=>
 bd (
  if (oo.1.length:Int)=(IntKind.wrap .i64 ((aY.1.length:Int)+1)) then
  ix oo.1 (aY.1.length:Int) fun y1=>
  if (st.1.length+([y1]:List (List UInt8)).length) *16≤2^46 then
  some (st.1++([y1]:List (List UInt8)))
  else none
  else
  some st.1:Option (List (List UInt8))) fun w1=>
 some (.inl (w1,IntKind.wrap .i64 (st.2+1)))
 else
 some (.inr st.1)
noncomputable def ra (a:ay) (a1:List UInt8):Option ((List (List UInt8))×Int):=
 bd (fO a a1) fun rA=>
 if !decide (rA.2=0) then
 some (([]:List (List UInt8)),rA.2)
 else
 bd (ou a1) fun aY=>
 if (0:Int)≤(IntKind.wrap .i64 (rA.1+1))∧(IntKind.wrap .i64 (rA.1+1))≤(a.L.length:Int)∧(a.L.length:Int)≤(a.L.length:Int) then
 bd (Loop (nz a a1 rA aY) (([]:List (List UInt8)),0)) fun w=>
 some (w,0)
 else none
noncomputable def jU (w:ai):Option (Unit×ai):=
 bd (ra w.r.Shelf w.o.Path) fun rA=>
 some ((),(⟨w.r,w.o,(⟨w.x.Client,w.x.Seq,rA.2,w.x.Value,w.x.Version,rA.1⟩:af),w.l⟩:ai))
noncomputable def rc (b:aD) (id:Int) (span:Int):Option (aD×Int):=
 bd (dQ b id) fun rA=>
 bd (
  if id<1 then
  some true
  else
  if span<1 then
  some true
  else
  some (decide ((1000:Int)<span)):Option Bool) fun w=>
 if w then
 some (b,1)
 else
 if rA.2 then
 some (b,7)
 else
 if (50:Int)≤(b.L.length:Int) then
 some (b,9)
 else
 bd (jB 24 b.L) fun aY=>
 bd (qo 24 aY rA.1 ([(⟨id,span,IntKind.wrap .i64 (b.dE+span)⟩:aw)]:List aw)) fun cX=>
 some ((⟨b.dE,cX⟩:aD),0)
noncomputable def jV (w:ai):Option (Unit×ai):=
 bd (rc w.r.bt w.o.Session w.o.Span) fun rA=>
 some ((),(⟨(⟨w.r.Shelf,rA.1,w.r.bh,w.r.Seen⟩:ak),w.o,(⟨w.x.Client,w.x.Seq,rA.2,w.x.Value,w.x.Version,w.x.Names⟩:af),w.l⟩:ai))
noncomputable def pq (b:aD) (id:Int):Option (aD×Int):=
 bd (dQ b id) fun rA=>
 if !rA.2 then
 some (b,14)
 else
 bd (jB 24 b.L) fun aY=>
 ix aY rA.1 fun y=>
 ix aY rA.1 fun y1=>
 some ((⟨b.dE,aY.set (Int.toNat rA.1) (⟨y1.Id,y1.Span,IntKind.wrap .i64 (b.dE+y.Span)⟩:aw)⟩:aD),0)
noncomputable def jc (w:ai):Option (Unit×ai):=
 bd (pq w.r.bt w.o.Session) fun rA=>
 some ((),(⟨(⟨w.r.Shelf,rA.1,w.r.bh,w.r.Seen⟩:ak),w.o,(⟨w.x.Client,w.x.Seq,rA.2,w.x.Value,w.x.Version,w.x.Names⟩:af),w.l⟩:ai))
noncomputable def pu (b:aD) (id:Int):Option (aD×Int):=
 bd (dQ b id) fun rA=>
 if !rA.2 then
 some (b,14)
 else
 bd (jB 24 b.L) fun aY=>
 bd (yc aY rA.1 (IntKind.wrap .i64 (rA.1+1))) fun cX=>
 some ((⟨b.dE,cX⟩:aD),0)
noncomputable def nA (sA:ay) (owner:Int) (st:(List (List UInt8))×(List ae)×Int):Option (((List (List UInt8))×(List ae)×Int)⊕((List (List UInt8))×(List ae))):=
 if st.2.2<(sA.L.length:Int) then
 ix sA.L st.2.2 fun y=>
 bd (
  if (0:Int)<owner then
  some (decide (y.bI=owner))
  else
  some false:Option Bool) fun w1=>
 if w1 then
 if (st.1.length+([y.Path]:List (List UInt8)).length) *16≤2^46 then
 some (.inl (st.1++([y.Path]:List (List UInt8)),st.2.1,IntKind.wrap .i64 (st.2.2+1)))
 else none
 else
 if (st.2.1.length+([y]:List ae).length) *48≤2^46 then
 some (.inl (st.1,st.2.1++([y]:List ae),IntKind.wrap .i64 (st.2.2+1)))
 else none
 else
 some (.inr (st.1,st.2.1))
noncomputable def re (sA:ay) (owner:Int):Option (ay×(List (List UInt8))):=
 bd (Loop (nA sA owner) (([]:List (List UInt8)),([]:List ae),0)) fun w=>
 some ((⟨w.2⟩:ay),w.1)
noncomputable def iy (rA:ay×(List (List UInt8))) (st:Int×(List ae)×Int×(List aw)×(List al)×(List af)×Int×Int×Int×(List UInt8)×(List UInt8)×Int×Int×Int×Int×Int×Int×(List UInt8)×Int×(List (List UInt8))×(List aF)):Option ((Int×(List ae)×Int×(List aw)×(List al)×(List af)×Int×Int×Int×(List UInt8)×(List UInt8)×Int×Int×Int×Int×Int×Int×(List UInt8)×Int×(List (List UInt8))×(List aF))⊕((List ae)×Int×(List aw)×(List al)×(List af)×Int×Int×Int×(List UInt8)×(List UInt8)×Int×Int×Int×Int×Int×Int×(List UInt8)×Int×(List (List UInt8))×(List aF))):=
 if st.1<(rA.2.length:Int) then
 ix rA.2 st.1 fun y=>
 if (st.2.2.2.2.2.2.2.2.2.2.2.2.2.2.2.2.2.2.2.2.length+([(⟨3,y⟩:aF)]:List aF).length) *24≤2^46 then
 some (.inl (IntKind.wrap .i64 (st.1+1),st.2.1,st.2.2.1,st.2.2.2.1,st.2.2.2.2.1,st.2.2.2.2.2.1,st.2.2.2.2.2.2.1,st.2.2.2.2.2.2.2.1,st.2.2.2.2.2.2.2.2.1,st.2.2.2.2.2.2.2.2.2.1,st.2.2.2.2.2.2.2.2.2.2.1,st.2.2.2.2.2.2.2.2.2.2.2.1,st.2.2.2.2.2.2.2.2.2.2.2.2.1,st.2.2.2.2.2.2.2.2.2.2.2.2.2.1,st.2.2.2.2.2.2.2.2.2.2.2.2.2.2.1,st.2.2.2.2.2.2.2.2.2.2.2.2.2.2.2.1,st.2.2.2.2.2.2.2.2.2.2.2.2.2.2.2.2.1,st.2.2.2.2.2.2.2.2.2.2.2.2.2.2.2.2.2.1,st.2.2.2.2.2.2.2.2.2.2.2.2.2.2.2.2.2.2.1,st.2.2.2.2.2.2.2.2.2.2.2.2.2.2.2.2.2.2.2.1,st.2.2.2.2.2.2.2.2.2.2.2.2.2.2.2.2.2.2.2.2++([(⟨3,y⟩:aF)]:List aF)))
 else none
 else
 some (.inr (st.2.1,st.2.2.1,st.2.2.2.1,st.2.2.2.2.1,st.2.2.2.2.2.1,st.2.2.2.2.2.2.1,st.2.2.2.2.2.2.2.1,st.2.2.2.2.2.2.2.2.1,st.2.2.2.2.2.2.2.2.2.1,st.2.2.2.2.2.2.2.2.2.2.1,st.2.2.2.2.2.2.2.2.2.2.2.1,st.2.2.2.2.2.2.2.2.2.2.2.2.1,st.2.2.2.2.2.2.2.2.2.2.2.2.2.1,st.2.2.2.2.2.2.2.2.2.2.2.2.2.2.1,st.2.2.2.2.2.2.2.2.2.2.2.2.2.2.2.1,st.2.2.2.2.2.2.2.2.2.2.2.2.2.2.2.2.1,st.2.2.2.2.2.2.2.2.2.2.2.2.2.2.2.2.2.1,st.2.2.2.2.2.2.2.2.2.2.2.2.2.2.2.2.2.2.1,st.2.2.2.2.2.2.2.2.2.2.2.2.2.2.2.2.2.2.2.1,st.2.2.2.2.2.2.2.2.2.2.2.2.2.2.2.2.2.2.2.2))
noncomputable def ib (w:ai) (id:Int):Option (Unit×ai):=
 bd (re w.r.Shelf id) fun rA=>
 bd (Loop (iy rA) (0,rA.1.L,w.r.bt.dE,w.r.bt.L,w.r.bh.L,w.r.Seen,w.o.Client,w.o.Seq,w.o.Kind,w.o.Path,w.o.Value,w.o.Version,w.o.Session,w.o.Span,w.x.Client,w.x.Seq,w.x.E,w.x.Value,w.x.Version,w.x.Names,w.l)) fun w1=>
 some ((),(⟨(⟨(⟨w1.1⟩:ay),(⟨w1.2.1,w1.2.2.1⟩:aD),(⟨w1.2.2.2.1⟩:bB),w1.2.2.2.2.1⟩:ak),(⟨w1.2.2.2.2.2.1,w1.2.2.2.2.2.2.1,w1.2.2.2.2.2.2.2.1,w1.2.2.2.2.2.2.2.2.1,w1.2.2.2.2.2.2.2.2.2.1,w1.2.2.2.2.2.2.2.2.2.2.1,w1.2.2.2.2.2.2.2.2.2.2.2.1,w1.2.2.2.2.2.2.2.2.2.2.2.2.1⟩:av),(⟨w1.2.2.2.2.2.2.2.2.2.2.2.2.2.1,w1.2.2.2.2.2.2.2.2.2.2.2.2.2.2.1,w1.2.2.2.2.2.2.2.2.2.2.2.2.2.2.2.1,w1.2.2.2.2.2.2.2.2.2.2.2.2.2.2.2.2.1,w1.2.2.2.2.2.2.2.2.2.2.2.2.2.2.2.2.2.1,w1.2.2.2.2.2.2.2.2.2.2.2.2.2.2.2.2.2.2.1⟩:af),w1.2.2.2.2.2.2.2.2.2.2.2.2.2.2.2.2.2.2.2⟩:ai))
noncomputable def jd (w:ai):Option (Unit×ai):=
 bd (pu w.r.bt w.o.Session) fun rA=>
 bd (
  if rA.2=0 then
  bd (ib (⟨(⟨w.r.Shelf,rA.1,w.r.bh,w.r.Seen⟩:ak),w.o,(⟨w.x.Client,w.x.Seq,rA.2,w.x.Value,w.x.Version,w.x.Names⟩:af),w.l⟩:ai) w.o.Session) fun aY=>
  some (aY.2.r.Shelf.L,aY.2.r.bt.dE,aY.2.r.bt.L,aY.2.r.bh.L,aY.2.r.Seen,aY.2.o.Client,aY.2.o.Seq,aY.2.o.Kind,aY.2.o.Path,aY.2.o.Value,aY.2.o.Version,aY.2.o.Session,aY.2.o.Span,aY.2.x.Client,aY.2.x.Seq,aY.2.x.E,aY.2.x.Value,aY.2.x.Version,aY.2.x.Names,aY.2.l)
  else
  some (w.r.Shelf.L,rA.1.dE,rA.1.L,w.r.bh.L,w.r.Seen,w.o.Client,w.o.Seq,w.o.Kind,w.o.Path,w.o.Value,w.o.Version,w.o.Session,w.o.Span,w.x.Client,w.x.Seq,rA.2,w.x.Value,w.x.Version,w.x.Names,w.l):Option ((List ae)×Int×(List aw)×(List al)×(List af)×Int×Int×Int×(List UInt8)×(List UInt8)×Int×Int×Int×Int×Int×Int×(List UInt8)×Int×(List (List UInt8))×(List aF))) fun w1=>
 some ((),(⟨(⟨(⟨w1.1⟩:ay),(⟨w1.2.1,w1.2.2.1⟩:aD),(⟨w1.2.2.2.1⟩:bB),w1.2.2.2.2.1⟩:ak),(⟨w1.2.2.2.2.2.1,w1.2.2.2.2.2.2.1,w1.2.2.2.2.2.2.2.1,w1.2.2.2.2.2.2.2.2.1,w1.2.2.2.2.2.2.2.2.2.1,w1.2.2.2.2.2.2.2.2.2.2.1,w1.2.2.2.2.2.2.2.2.2.2.2.1,w1.2.2.2.2.2.2.2.2.2.2.2.2.1⟩:av),(⟨w1.2.2.2.2.2.2.2.2.2.2.2.2.2.1,w1.2.2.2.2.2.2.2.2.2.2.2.2.2.2.1,w1.2.2.2.2.2.2.2.2.2.2.2.2.2.2.2.1,w1.2.2.2.2.2.2.2.2.2.2.2.2.2.2.2.2.1,w1.2.2.2.2.2.2.2.2.2.2.2.2.2.2.2.2.2.1,w1.2.2.2.2.2.2.2.2.2.2.2.2.2.2.2.2.2.2.1⟩:af),w1.2.2.2.2.2.2.2.2.2.2.2.2.2.2.2.2.2.2.2⟩:ai))
noncomputable def nB (b:aD) (now:Int) (st:(List Int)×Int×(List aw)×Int):Option (((List Int)×Int×(List aw)×Int)⊕((List Int)×Int×(List aw))):=
 if st.2.2.2<(b.L.length:Int) then
 ix b.L st.2.2.2 fun y=>
 if y.cY≤now then
 if (st.1.length+([y.Id]:List Int).length) *8≤2^46 then
 some (.inl (st.1++([y.Id]:List Int),st.2.1,st.2.2.1,IntKind.wrap .i64 (st.2.2.2+1)))
 else none
 else
 if (st.2.2.1.length+([y]:List aw).length) *24≤2^46 then
 some (.inl (st.1,st.2.1,st.2.2.1++([y]:List aw),IntKind.wrap .i64 (st.2.2.2+1)))
 else none
 else
 some (.inr (st.1,st.2.1,st.2.2.1))
noncomputable def rf (b:aD) (now:Int):Option (aD×(List Int)×Int):=
 if now<b.dE then
 some (b,([]:List Int),15)
 else
 if (1000000000:Int)<now then
 some (b,([]:List Int),5)
 else
 bd (Loop (nB b now) (([]:List Int),now,([]:List aw),0)) fun w=>
 some ((⟨w.2.1,w.2.2⟩:aD),w.1,0)
noncomputable def iz (rA:aD×(List Int)×Int) (st:Int×(List ae)×Int×(List aw)×(List al)×(List af)×Int×Int×Int×(List UInt8)×(List UInt8)×Int×Int×Int×Int×Int×Int×(List UInt8)×Int×(List (List UInt8))×(List aF)):Option ((Int×(List ae)×Int×(List aw)×(List al)×(List af)×Int×Int×Int×(List UInt8)×(List UInt8)×Int×Int×Int×Int×Int×Int×(List UInt8)×Int×(List (List UInt8))×(List aF))⊕((List ae)×Int×(List aw)×(List al)×(List af)×Int×Int×Int×(List UInt8)×(List UInt8)×Int×Int×Int×Int×Int×Int×(List UInt8)×Int×(List (List UInt8))×(List aF))):=
 if st.1<(rA.2.1.length:Int) then
 ix rA.2.1 st.1 fun y=>
 bd (ib (⟨(⟨(⟨st.2.1⟩:ay),(⟨st.2.2.1,st.2.2.2.1⟩:aD),(⟨st.2.2.2.2.1⟩:bB),st.2.2.2.2.2.1⟩:ak),(⟨st.2.2.2.2.2.2.1,st.2.2.2.2.2.2.2.1,st.2.2.2.2.2.2.2.2.1,st.2.2.2.2.2.2.2.2.2.1,st.2.2.2.2.2.2.2.2.2.2.1,st.2.2.2.2.2.2.2.2.2.2.2.1,st.2.2.2.2.2.2.2.2.2.2.2.2.1,st.2.2.2.2.2.2.2.2.2.2.2.2.2.1⟩:av),(⟨st.2.2.2.2.2.2.2.2.2.2.2.2.2.2.1,st.2.2.2.2.2.2.2.2.2.2.2.2.2.2.2.1,st.2.2.2.2.2.2.2.2.2.2.2.2.2.2.2.2.1,st.2.2.2.2.2.2.2.2.2.2.2.2.2.2.2.2.2.1,st.2.2.2.2.2.2.2.2.2.2.2.2.2.2.2.2.2.2.1,st.2.2.2.2.2.2.2.2.2.2.2.2.2.2.2.2.2.2.2.1⟩:af),st.2.2.2.2.2.2.2.2.2.2.2.2.2.2.2.2.2.2.2.2⟩:ai) y) fun aY=>
 some (.inl (IntKind.wrap .i64 (st.1+1),aY.2.r.Shelf.L,aY.2.r.bt.dE,aY.2.r.bt.L,aY.2.r.bh.L,aY.2.r.Seen,aY.2.o.Client,aY.2.o.Seq,aY.2.o.Kind,aY.2.o.Path,aY.2.o.Value,aY.2.o.Version,aY.2.o.Session,aY.2.o.Span,aY.2.x.Client,aY.2.x.Seq,aY.2.x.E,aY.2.x.Value,aY.2.x.Version,aY.2.x.Names,aY.2.l))
 else
 some (.inr (st.2.1,st.2.2.1,st.2.2.2.1,st.2.2.2.2.1,st.2.2.2.2.2.1,st.2.2.2.2.2.2.1,st.2.2.2.2.2.2.2.1,st.2.2.2.2.2.2.2.2.1,st.2.2.2.2.2.2.2.2.2.1,st.2.2.2.2.2.2.2.2.2.2.1,st.2.2.2.2.2.2.2.2.2.2.2.1,st.2.2.2.2.2.2.2.2.2.2.2.2.1,st.2.2.2.2.2.2.2.2.2.2.2.2.2.1,st.2.2.2.2.2.2.2.2.2.2.2.2.2.2.1,st.2.2.2.2.2.2.2.2.2.2.2.2.2.2.2.1,st.2.2.2.2.2.2.2.2.2.2.2.2.2.2.2.2.1,st.2.2.2.2.2.2.2.2.2.2.2.2.2.2.2.2.2.1,st.2.2.2.2.2.2.2.2.2.2.2.2.2.2.2.2.2.2.1,st.2.2.2.2.2.2.2.2.2.2.2.2.2.2.2.2.2.2.2.1,st.2.2.2.2.2.2.2.2.2.2.2.2.2.2.2.2.2.2.2.2))
noncomputable def jW (w:ai):Option (Unit×ai):=
 bd (rf w.r.bt w.o.Span) fun rA=>
 if !decide (rA.2.2=0) then
 some ((),(⟨w.r,w.o,(⟨w.x.Client,w.x.Seq,rA.2.2,w.x.Value,w.x.Version,w.x.Names⟩:af),w.l⟩:ai))
 else
 bd (Loop (iz rA) (0,w.r.Shelf.L,rA.1.dE,rA.1.L,w.r.bh.L,w.r.Seen,w.o.Client,w.o.Seq,w.o.Kind,w.o.Path,w.o.Value,w.o.Version,w.o.Session,w.o.Span,w.x.Client,w.x.Seq,rA.2.2,w.x.Value,rA.1.dE,w.x.Names,w.l)) fun w1=>
 some ((),(⟨(⟨(⟨w1.1⟩:ay),(⟨w1.2.1,w1.2.2.1⟩:aD),(⟨w1.2.2.2.1⟩:bB),w1.2.2.2.2.1⟩:ak),(⟨w1.2.2.2.2.2.1,w1.2.2.2.2.2.2.1,w1.2.2.2.2.2.2.2.1,w1.2.2.2.2.2.2.2.2.1,w1.2.2.2.2.2.2.2.2.2.1,w1.2.2.2.2.2.2.2.2.2.2.1,w1.2.2.2.2.2.2.2.2.2.2.2.1,w1.2.2.2.2.2.2.2.2.2.2.2.2.1⟩:av),(⟨w1.2.2.2.2.2.2.2.2.2.2.2.2.2.1,w1.2.2.2.2.2.2.2.2.2.2.2.2.2.2.1,w1.2.2.2.2.2.2.2.2.2.2.2.2.2.2.2.1,w1.2.2.2.2.2.2.2.2.2.2.2.2.2.2.2.2.1,w1.2.2.2.2.2.2.2.2.2.2.2.2.2.2.2.2.2.1,w1.2.2.2.2.2.2.2.2.2.2.2.2.2.2.2.2.2.2.1⟩:af),w1.2.2.2.2.2.2.2.2.2.2.2.2.2.2.2.2.2.2.2⟩:ai))
noncomputable def dM (sA:List al) (v:al) (st:Int):Option (Int⊕(Unit⊕Int)):=
 if st<(sA.length:Int) then
 ix sA st fun y=>
 if ((decide (v.Path=y.Path))&&((decide (v.Client=y.Client))&&(decide (v.Kids=y.Kids)))) then
 some (.inr (.inr st))
 else
 some (.inl (IntKind.wrap .i64 (st+1)))
 else
 some (.inr (.inl ()))
noncomputable def fZ (sA:List al) (v:al):Option Int:=
 bd (Loop (dM sA v) 0) fun w=>
 match w with
 | .inl p1=>
  some (-1)
 | .inr p2=>
  some p2
noncomputable def dz (sA:List al) (v:al):Option Bool:=
 bd (fZ sA v) fun rA=>
 some (decide ((0:Int)≤rA))
noncomputable def qG (t:bB) (w:al):Option (bB×Int):=
 bd (jC w.Path) fun rA=>
 if !rA then
 some (t,13)
 else
 if w.Client<0 then
 some (t,1)
 else
 bd (dz t.L w) fun aY=>
 if aY then
 some (t,0)
 else
 if (200:Int)≤(t.L.length:Int) then
 some (t,9)
 else
 bd (jB 32 t.L) fun cX=>
 if (cX.length+([w]:List al).length) *32≤2^46 then
 some ((⟨cX++([w]:List al)⟩:bB),0)
 else none
noncomputable def je (w:ai):Option (Unit×ai):=
 bd (qG w.r.bh (⟨w.o.Path,w.o.Client,decide (w.o.Kind=11)⟩:al)) fun rA=>
 some ((),(⟨(⟨w.r.Shelf,w.r.bt,rA.1,w.r.Seen⟩:ak),w.o,(⟨w.x.Client,w.x.Seq,rA.2,w.x.Value,w.x.Version,w.x.Names⟩:af),w.l⟩:ai))
noncomputable def rh:Option (List Nat):=
 some ([(105:Nat),(106:Nat),(107:Nat),(108:Nat),(109:Nat),(110:Nat),(111:Nat),(112:Nat),(113:Nat),(114:Nat),(115:Nat),(115:Nat)]:List Nat)
noncomputable def mi (c:aF) (w:al):Option Bool:=
 bd (
  if c.Kind<1 then
  some true
  else
  if (3:Int)<c.Kind then
  some true
  else
  bd (jC c.Path) fun rA=>
  some (!rA):Option Bool) fun w1=>
 if w1 then
 some false
 else
 if !w.Kids then
 some (decide (c.Path=w.Path))
 else
 bd (nd c.Path) fun aY=>
 bd (
  if aY.2=0 then
  if !decide (c.Kind=2) then
  some (decide (aY.1=w.Path))
  else
  some false
  else
  some false:Option Bool) fun w2=>
 some w2
noncomputable def lB (w:al) (c:aF) (c1:List bc):Option (Bool×(List bc)):=
 bd (mi c w) fun rA=>
 bd (
  if rA then
  if (c1.length+([(⟨w,c⟩:bc)]:List bc).length) *56≤2^46 then
  some (c1++([(⟨w,c⟩:bc)]:List bc))
  else none
  else
  some c1:Option (List bc)) fun w1=>
 some (rA,w1)
noncomputable def nC (lA:List aF) (st:(List al)×(List bc)×Int):Option (((List al)×(List bc)×Int)⊕((List al)×(List bc))):=
 if st.2.2<(lA.length:Int) then
 ix lA st.2.2 fun y=>
 bd (AL (fun u sA=>lB u y sA) st.2.1 st.1) fun aY=>
 some (.inl (aY.1,aY.2,IntKind.wrap .i64 (st.2.2+1)))
 else
 some (.inr (st.1,st.2.1))
noncomputable def rj (t:bB) (lA:List aF):Option (bB×(List bc)):=
 bd (jB 32 t.L) fun rA=>
 bd (Loop (nC lA) (rA,([]:List bc),0)) fun w=>
 some ((⟨w.1⟩:bB),w.2)
noncomputable def mj (k:Nat) (x0:ai):Option (Unit×ai):=
 if k=105 then mN x0 else if k=106 then iu x0 else if k=107 then kR x0 else if k=108 then kS x0 else if k=109 then iw x0 else if k=110 then jU x0 else if k=111 then jV x0 else if k=112 then jc x0 else if k=113 then jd x0 else if k=114 then jW x0 else if k=115 then je x0 else none
noncomputable def kT (a:ak) (a1:av):Option (ak×af×(List bc)):=
 bd (jb a a1) fun rA=>
 if rA.2 then
 some (a,rA.1,([]:List bc))
 else
 bd (rh) fun aY=>
 ix aY a1.Kind fun y=>
 bd (mj y (⟨a,a1,rA.1,([]:List aF)⟩:ai)) fun cX=>
 bd (rj cX.2.r.bh cX.2.l) fun oo=>
 bd (jB 72 a.Seen) fun AO=>
 bd (eU a a1.Client) fun tt=>
 bd (
  if tt.2 then
  ix AO tt.1 fun y1=>
  some (cX.2.r.Shelf.L,cX.2.r.bt.dE,cX.2.r.bt.L,oo.1.L,AO.set (Int.toNat tt.1) cX.2.x,cX.2.o.Client,cX.2.o.Seq,cX.2.o.Kind,cX.2.o.Path,cX.2.o.Value,cX.2.o.Version,cX.2.o.Session,cX.2.o.Span,cX.2.x.Client,cX.2.x.Seq,cX.2.x.E,cX.2.x.Value,cX.2.x.Version,cX.2.x.Names,cX.2.l)
  else
  bd (qo 72 AO tt.1 ([cX.2.x]:List af)) fun Dv=>
  some (cX.2.r.Shelf.L,cX.2.r.bt.dE,cX.2.r.bt.L,oo.1.L,Dv,cX.2.o.Client,cX.2.o.Seq,cX.2.o.Kind,cX.2.o.Path,cX.2.o.Value,cX.2.o.Version,cX.2.o.Session,cX.2.o.Span,cX.2.x.Client,cX.2.x.Seq,cX.2.x.E,cX.2.x.Value,cX.2.x.Version,cX.2.x.Names,cX.2.l):Option ((List ae)×Int×(List aw)×(List al)×(List af)×Int×Int×Int×(List UInt8)×(List UInt8)×Int×Int×Int×Int×Int×Int×(List UInt8)×Int×(List (List UInt8))×(List aF))) fun w=>
 some ((⟨(⟨w.1⟩:ay),(⟨w.2.1,w.2.2.1⟩:aD),(⟨w.2.2.2.1⟩:bB),w.2.2.2.2.1⟩:ak),(⟨w.2.2.2.2.2.2.2.2.2.2.2.2.2.1,w.2.2.2.2.2.2.2.2.2.2.2.2.2.2.1,w.2.2.2.2.2.2.2.2.2.2.2.2.2.2.2.1,w.2.2.2.2.2.2.2.2.2.2.2.2.2.2.2.2.1,w.2.2.2.2.2.2.2.2.2.2.2.2.2.2.2.2.2.1,w.2.2.2.2.2.2.2.2.2.2.2.2.2.2.2.2.2.2.1⟩:af),oo.2)
noncomputable def B5:Option ay:=
 some (⟨([(⟨([47]:List UInt8),([]:List UInt8),0,0⟩:ae)]:List ae)⟩:ay)
noncomputable def B6:Option aD:=
 some (⟨0,([]:List aw)⟩:aD)
noncomputable def yi:Option ak:=
 bd (B5) fun rA=>
 bd (B6) fun aY=>
 some (⟨rA,aY,(⟨([]:List al)⟩:bB),([]:List af)⟩:ak)
noncomputable def fJ (s1:List ae) (s2:List ae) (st:Int):Option (Int⊕(Unit⊕Bool)):=
 if st<(s1.length:Int) then
 ix s1 st fun y=>
 ix s2 st fun y1=>
 if !((decide (y.Path=y1.Path))&&((decide (y.Value=y1.Value))&&((decide (y.Version=y1.Version))&&(decide (y.bI=y1.bI))))) then
 some (.inr (.inr false))
 else
 some (.inl (IntKind.wrap .i64 (st+1)))
 else
 some (.inr (.inl ()))
noncomputable def gG (s1:List ae) (s2:List ae):Option Bool:=
 if !decide ((s1.length:Int)=(s2.length:Int)) then
 some false
 else
 bd (Loop (fJ s1 s2) 0) fun w=>
 match w with
 | .inl p1=>
  some true
 | .inr p2=>
  some p2
noncomputable def rk (a:ay) (b:ay):Option Bool:=
 bd (gG a.L b.L) fun rA=>
 some rA
noncomputable def dr (s1:List aw) (s2:List aw) (st:Int):Option (Int⊕(Unit⊕Bool)):=
 if st<(s1.length:Int) then
 ix s1 st fun y=>
 ix s2 st fun y1=>
 if !((decide (y.Id=y1.Id))&&((decide (y.Span=y1.Span))&&(decide (y.cY=y1.cY)))) then
 some (.inr (.inr false))
 else
 some (.inl (IntKind.wrap .i64 (st+1)))
 else
 some (.inr (.inl ()))
noncomputable def dN (s1:List aw) (s2:List aw):Option Bool:=
 if !decide ((s1.length:Int)=(s2.length:Int)) then
 some false
 else
 bd (Loop (dr s1 s2) 0) fun w=>
 match w with
 | .inl p1=>
  some true
 | .inr p2=>
  some p2
noncomputable def rl (a:aD) (b:aD):Option Bool:=
 bd (
  if a.dE=b.dE then
  bd (dN a.L b.L) fun rA=>
  some rA
  else
  some false:Option Bool) fun w=>
 some w
noncomputable def dO (s1:List al) (s2:List al) (st:Int):Option (Int⊕(Unit⊕Bool)):=
 if st<(s1.length:Int) then
 ix s1 st fun y=>
 ix s2 st fun y1=>
 if !((decide (y.Path=y1.Path))&&((decide (y.Client=y1.Client))&&(decide (y.Kids=y1.Kids)))) then
 some (.inr (.inr false))
 else
 some (.inl (IntKind.wrap .i64 (st+1)))
 else
 some (.inr (.inl ()))
noncomputable def eA (s1:List al) (s2:List al):Option Bool:=
 if !decide ((s1.length:Int)=(s2.length:Int)) then
 some false
 else
 bd (Loop (dO s1 s2) 0) fun w=>
 match w with
 | .inl p1=>
  some true
 | .inr p2=>
  some p2
noncomputable def rm (a:bB) (b:bB):Option Bool:=
 bd (eA a.L b.L) fun rA=>
 some rA
noncomputable def kU (a:af) (b:af):Option Bool:=
 bd (
  if a.Client=b.Client then
  if a.Seq=b.Seq then
  if a.E=b.E then
  if a.Value=b.Value then
  if a.Version=b.Version then
  bd (eV a.Names b.Names) fun rA=>
  some rA
  else
  some false
  else
  some false
  else
  some false
  else
  some false
  else
  some false:Option Bool) fun w=>
 some w
noncomputable def bp (s1:List af) (s2:List af) (eq:af→af→Option Bool) (st:Int):Option (Int⊕(Unit⊕Bool)):=
 if st<(s1.length:Int) then
 ix s1 st fun y=>
 ix s2 st fun y1=>
 bd (eq y y1) fun rA=>
 if !rA then
 some (.inr (.inr false))
 else
 some (.inl (IntKind.wrap .i64 (st+1)))
 else
 some (.inr (.inl ()))
noncomputable def bw (s1:List af) (s2:List af) (eq:af→af→Option Bool):Option Bool:=
 if !decide ((s1.length:Int)=(s2.length:Int)) then
 some false
 else
 bd (Loop (bp s1 s2 eq) 0) fun w=>
 match w with
 | .inl p1=>
  some true
 | .inr p2=>
  some p2
noncomputable def rn (a:ak) (b:ak):Option Bool:=
 bd (
  bd (rk a.Shelf b.Shelf) fun rA=>
  if rA then
  bd (rl a.bt b.bt) fun aY=>
  if aY then
  bd (rm a.bh b.bh) fun cX=>
  if cX then
  bd (bw a.Seen b.Seen kU) fun oo=>
  some oo
  else
  some false
  else
  some false
  else
  some false:Option Bool) fun w=>
 some w
noncomputable def lC:Option Bool:=
 bd (yi) fun rA=>
 bd (kT rA (⟨1,1,1,([47,97]:List UInt8),([120]:List UInt8),0,0,0⟩:av)) fun aY=>
 bd (kT aY.1 (⟨1,1,1,([47,97]:List UInt8),([120]:List UInt8),0,0,0⟩:av)) fun cX=>
 bd (oq cX.1 1) fun oo=>
 bd (
  if aY.2.1.E=0 then
  if cX.2.1.E=0 then
  if (aY.1.Shelf.L.length:Int)=2 then
  bd (rn aY.1 cX.1) fun AO=>
  if AO then
  if oo.2 then
  some (decide (oo.1.Seq=1))
  else
  some false
  else
  some false
  else
  some false
  else
  some false
  else
  some false:Option Bool) fun w=>
 some w
noncomputable def nD (lA:List av) (st:(List ae)×Int×(List aw)×(List al)×(List af)×(List af)×(List bc)×Int):Option (((List ae)×Int×(List aw)×(List al)×(List af)×(List af)×(List bc)×Int)⊕((List ae)×Int×(List aw)×(List al)×(List af)×(List af)×(List bc))):=
 if st.2.2.2.2.2.2.2<(lA.length:Int) then
 ix lA st.2.2.2.2.2.2.2 fun y=>
 bd (kT (⟨(⟨st.1⟩:ay),(⟨st.2.1,st.2.2.1⟩:aD),(⟨st.2.2.2.1⟩:bB),st.2.2.2.2.1⟩:ak) y) fun Dv=>
 if (st.2.2.2.2.2.1.length+([Dv.2.1]:List af).length) *72≤2^46 then
 if (st.2.2.2.2.2.2.1.length+Dv.2.2.length) *56≤2^46 then
 some (.inl (Dv.1.Shelf.L,Dv.1.bt.dE,Dv.1.bt.L,Dv.1.bh.L,Dv.1.Seen,st.2.2.2.2.2.1++([Dv.2.1]:List af),st.2.2.2.2.2.2.1++Dv.2.2,IntKind.wrap .i64 (st.2.2.2.2.2.2.2+1)))
 else none
 else none
 else
 some (.inr (st.1,st.2.1,st.2.2.1,st.2.2.2.1,st.2.2.2.2.1,st.2.2.2.2.2.1,st.2.2.2.2.2.2.1))
noncomputable def rq (rA:ak) (lA:List av):Option (ak×(List af)×(List bc)):=
 bd (Loop (nD lA) (rA.Shelf.L,rA.bt.dE,rA.bt.L,rA.bh.L,rA.Seen,([]:List af),([]:List bc),0)) fun w=>
 some ((⟨(⟨w.1⟩:ay),(⟨w.2.1,w.2.2.1⟩:aD),(⟨w.2.2.2.1⟩:bB),w.2.2.2.2.1⟩:ak),w.2.2.2.2.2.1,w.2.2.2.2.2.2)
noncomputable def lD (a:ak) (st:Int×Int):Option ((Int×Int)⊕Int):=
 if st.2<(a.Seen.length:Int) then
 ix a.Seen st.2 fun y=>
 bd (
  if y.Client=st.1 then
  some (IntKind.wrap .i64 (st.1+1))
  else
  some st.1:Option Int) fun w2=>
 some (.inl (w2,IntKind.wrap .i64 (st.2+1)))
 else
 some (.inr st.1)
noncomputable def nE (a:ak) (a1:av) (a2:List UInt8):Option Bool:=
 bd (
  bd (AN a) fun rA=>
  if !rA then
  some true
  else
  if (45:Int)<(a.Seen.length:Int) then
  some true
  else
  bd (tZ ([a1]:List av)) fun aY=>
  if !aY then
  some true
  else
  if (1000:Int)<(a2.length:Int) then
  some true
  else
  bd (uh a) fun cX=>
  bd (ug cX) fun oo=>
  some (!oo):Option Bool) fun w=>
 if w then
 bd (lC) fun AO=>
 some AO
 else
 bd (Loop (lD a) (0,0)) fun w1=>
 bd (rq a ([(⟨w1,1,3,a1.Path,a2,(-1),0,0⟩:av),(⟨w1,2,2,a1.Path,([]:List UInt8),0,0,0⟩:av),(⟨w1,3,4,a1.Path,([]:List UInt8),(-1),0,0⟩:av),(⟨w1,4,2,a1.Path,([]:List UInt8),0,0,0⟩:av)]:List av)) fun tt=>
 bd (
  if !decide ((tt.2.1.length:Int)=4) then
  some true
  else
  some (decide ((100:Int)<(a1.Path.length:Int))):Option Bool) fun w3=>
 if w3 then
 bd (
  bd (lC) fun Dv=>
  if Dv then
  some (decide ((tt.2.1.length:Int)=4))
  else
  some false:Option Bool) fun w4=>
 some w4
 else
 ix tt.2.1 0 fun y1=>
 if y1.E=9 then
 bd (
  bd (lC) fun rA7=>
  if rA7 then
  ix tt.2.1 1 fun y2=>
  if y2.E=0 then
  ix tt.2.1 1 fun y3=>
  some (decide (y3.Version=1000000000))
  else
  some false
  else
  some false:Option Bool) fun w5=>
 some w5
 else
 ix tt.2.1 0 fun y4=>
 if !decide (y4.E=0) then
 bd (
  bd (lC) fun rA8=>
  if rA8 then
  ix tt.2.1 1 fun y5=>
  ix tt.2.1 0 fun y6=>
  if y5.E=y6.E then
  ix tt.2.1 3 fun y7=>
  ix tt.2.1 0 fun y8=>
  if y7.E=y8.E then
  some (decide ((tt.1.Shelf.L.length:Int)=(a.Shelf.L.length:Int)))
  else
  some false
  else
  some false
  else
  some false:Option Bool) fun w6=>
 some w6
 else
 bd (
  ix tt.2.1 1 fun y9=>
  if y9.E=0 then
  ix tt.2.1 1 fun y10=>
  if y10.Value=a2 then
  ix tt.2.1 1 fun y11=>
  ix tt.2.1 0 fun y12=>
  some (decide (y11.Version=y12.Version))
  else
  some false
  else
  some false:Option Bool) fun w7=>
 bd (
  bd (lC) fun rA9=>
  if rA9 then
  if w7 then
  ix tt.2.1 2 fun y13=>
  if !decide (y13.E=0) then
  ix tt.2.1 2 fun y14=>
  if y14.E=0 then
  some true
  else
  ix tt.2.1 3 fun y15=>
  if y15.E=0 then
  ix tt.2.1 3 fun y16=>
  some (decide (y16.Value=a2))
  else
  some false
  else
  ix tt.2.1 3 fun y17=>
  if y17.E=6 then
  ix tt.2.1 2 fun y18=>
  if y18.E=0 then
  some true
  else
  ix tt.2.1 3 fun y19=>
  if y19.E=0 then
  ix tt.2.1 3 fun y20=>
  some (decide (y20.Value=a2))
  else
  some false
  else
  some false
  else
  some false
  else
  some false:Option Bool) fun w8=>
 some w8
end Dn.S
