import Derived.Test.YtbkodohojpchjaaGreatDoorDnC
/-
  The functions, on typed values. Conditions: none.
-/
set_option linter.unusedVariables false
set_option linter.unusedSimpArgs false
open Go.IntKind renaming wrap→c8,bits→AT
open Int renaming toNat→sh,fdiv→By
open List renaming drop→AI,take→AS
open Go.Op renaming bytesLess→BY
open Go Dn
set_option maxRecDepth 100000
namespace Dn.S
noncomputable section
structure af where
 Path:List UInt8
 Value:List UInt8
 Version:Int
 bF:Int
deriving DecidableEq
@[reducible] def Gk (x : af) : List MV := [.s x.Path, .s x.Value, .i .i64 x.Version, .i .i64 x.bF]
@[reducible] def aW (x : af) : MV := .agg (Gk x)
structure aA where
 L:List af
deriving DecidableEq
@[reducible] def DR (x : aA) : List MV := [.list (x.L.map aW)]
@[reducible] def cB (x : aA) : MV := .agg (DR x)
structure aC where
 Id:Int
 Span:Int
 cF:Int
deriving DecidableEq
@[reducible] def IY (x : aC) : List MV := [.i .i64 x.Id, .i .i64 x.Span, .i .i64 x.cF]
@[reducible] def a8 (x : aC) : MV := .agg (IY x)
structure aK where
 ct:Int
 L:List aC
deriving DecidableEq
@[reducible] def Qj (x : aK) : List MV := [.i .i64 x.ct, .list (x.L.map a8)]
@[reducible] def dQ (x : aK) : MV := .agg (Qj x)
structure aq where
 Path:List UInt8
 Client:Int
 Kids:Bool
deriving DecidableEq
@[reducible] def NU (x : aq) : List MV := [.s x.Path, .i .i64 x.Client, .b x.Kids]
@[reducible] def bo (x : aq) : MV := .agg (NU x)
structure cf where
 L:List aq
deriving DecidableEq
@[reducible] def NV (x : cf) : List MV := [.list (x.L.map bo)]
@[reducible] def jF (x : cf) : MV := .agg (NV x)
structure aj where
 Client:Int
 Seq:Int
 E:Int
 Value:List UInt8
 Version:Int
 Names:List (List UInt8)
deriving DecidableEq
@[reducible] def NW (x : aj) : List MV := [.i .i64 x.Client, .i .i64 x.Seq, .i .i64 x.E, .s x.Value, .i .i64 x.Version, .list (x.Names.map MV.s)]
@[reducible] def bh (x : aj) : MV := .agg (NW x)
structure au where
 Shelf:aA
 aN:aK
 aR:cf
 Seen:List aj
deriving DecidableEq
@[reducible] def NX (x : au) : List MV := [.list (x.Shelf.L.map aW), .i .i64 x.aN.ct, .list (x.aN.L.map a8), .list (x.aR.L.map bo), .list (x.Seen.map bh)]
@[reducible] def eg (x : au) : MV := .agg (NX x)
structure aB where
 Client:Int
 Seq:Int
 Kind:Int
 Path:List UInt8
 Value:List UInt8
 Version:Int
 Session:Int
 Span:Int
deriving DecidableEq
@[reducible] def NY (x : aB) : List MV := [.i .i64 x.Client, .i .i64 x.Seq, .i .i64 x.Kind, .s x.Path, .s x.Value, .i .i64 x.Version, .i .i64 x.Session, .i .i64 x.Span]
@[reducible] def eJ (x : aB) : MV := .agg (NY x)
structure aY where
 Path:List UInt8
 Value:List UInt8
 Version:Int
 bF:Int
deriving DecidableEq
@[reducible] def Mn (x : aY) : List MV := [.s x.Path, .s x.Value, .i .i64 x.Version, .i .i64 x.bF]
@[reducible] def bD (x : aY) : MV := .agg (Mn x)
structure bE where
 L:List aY
deriving DecidableEq
@[reducible] def IZ (x : bE) : List MV := [.list (x.L.map bD)]
@[reducible] def dN (x : bE) : MV := .agg (IZ x)
structure ar where
 Id:Int
 Span:Int
 cF:Int
deriving DecidableEq
@[reducible] def NZ (x : ar) : List MV := [.i .i64 x.Id, .i .i64 x.Span, .i .i64 x.cF]
@[reducible] def br (x : ar) : MV := .agg (NZ x)
structure cJ where
 ct:Int
 L:List ar
deriving DecidableEq
@[reducible] def W7 (x : cJ) : List MV := [.i .i64 x.ct, .list (x.L.map br)]
@[reducible] def jG (x : cJ) : MV := .agg (W7 x)
structure aL where
 Path:List UInt8
 Client:Int
 Kids:Bool
deriving DecidableEq
@[reducible] def Tn (x : aL) : List MV := [.s x.Path, .i .i64 x.Client, .b x.Kids]
@[reducible] def b5 (x : aL) : MV := .agg (Tn x)
structure eK where
 L:List aL
deriving DecidableEq
@[reducible] def To (x : eK) : List MV := [.list (x.L.map b5)]
@[reducible] def qU (x : eK) : MV := .agg (To x)
structure aD where
 Client:Int
 Seq:Int
 E:Int
 Value:List UInt8
 Version:Int
 Names:List (List UInt8)
deriving DecidableEq
@[reducible] def Tp (x : aD) : List MV := [.i .i64 x.Client, .i .i64 x.Seq, .i .i64 x.E, .s x.Value, .i .i64 x.Version, .list (x.Names.map MV.s)]
@[reducible] def bC (x : aD) : MV := .agg (Tp x)
structure b6 where
 Shelf:bE
 aN:cJ
 aR:eK
 Seen:List aD
deriving DecidableEq
@[reducible] def Tq (x : b6) : List MV := [.list (x.Shelf.L.map bD), .i .i64 x.aN.ct, .list (x.aN.L.map br), .list (x.aR.L.map b5), .list (x.Seen.map bC)]
@[reducible] def fH (x : b6) : MV := .agg (Tq x)
structure aF where
 Kind:Int
 Path:List UInt8
deriving DecidableEq
@[reducible] def KT (x : aF) : List MV := [.i .i64 x.Kind, .s x.Path]
@[reducible] def gq (x : aF) : MV := .agg (KT x)
structure ai where
 r:au
 o:aB
 x:aj
 l:List aF
deriving DecidableEq
@[reducible] def bV (x : ai) : List MV := [.list (x.r.Shelf.L.map aW), .i .i64 x.r.aN.ct, .list (x.r.aN.L.map a8), .list (x.r.aR.L.map bo), .list (x.r.Seen.map bh), .i .i64 x.o.Client, .i .i64 x.o.Seq, .i .i64 x.o.Kind, .s x.o.Path, .s x.o.Value, .i .i64 x.o.Version, .i .i64 x.o.Session, .i .i64 x.o.Span, .i .i64 x.x.Client, .i .i64 x.x.Seq, .i .i64 x.x.E, .s x.x.Value, .i .i64 x.x.Version, .list (x.x.Names.map MV.s), .list (x.l.map gq)]
structure bI where
 W:aq
 C:aF
deriving DecidableEq
@[reducible] def N0 (x : bI) : List MV := [.s x.W.Path, .i .i64 x.W.Client, .b x.W.Kids, .i .i64 x.C.Kind, .s x.C.Path]
@[reducible] def eh (x : bI) : MV := .agg (N0 x)
structure jZ where
 Client:Int
 Seq:Int
 Kind:Int
 Path:List UInt8
 Value:List UInt8
 Version:Int
 Session:Int
 Span:Int
deriving DecidableEq
@[reducible] def Tr (x : jZ) : List MV := [.i .i64 x.Client, .i .i64 x.Seq, .i .i64 x.Kind, .s x.Path, .s x.Value, .i .i64 x.Version, .i .i64 x.Session, .i .i64 x.Span]
@[reducible] def qV (x : jZ) : MV := .agg (Tr x)
structure bq where
 Kind:Int
 Path:List UInt8
deriving DecidableEq
@[reducible] def Qk (x : bq) : List MV := [.i .i64 x.Kind, .s x.Path]
@[reducible] def ej (x : bq) : MV := .agg (Qk x)
structure bO where
 W:aL
 C:bq
deriving DecidableEq
@[reducible] def Ts (x : bO) : List MV := [.s x.W.Path, .i .i64 x.W.Client, .b x.W.Kids, .i .i64 x.C.Kind, .s x.C.Path]
@[reducible] def eB (x : bO) : MV := .agg (Ts x)
def sW (a:au)(st:Int):Option (Int⊕(Unit⊕Bool)):=if st<(a.Shelf.L.length:Int) then
 bd (ix a.Shelf.L st λy=>
  if (200:Int)<(y.Path.length:Int) then
  some true
  else
  ix a.Shelf.L st λy1=>
  some (decide ((1100:Int)<(y1.Value.length:Int))):Option Bool) λw2=>
 if w2 then
 some (.inr (.inr false))
 else
 some (.inl (c8 .i64 (st+1)))
 else
 some (.inr (.inl ()))
def sX (a:au)(dA:Int):Option (Int⊕(Unit⊕Bool)):=if dA<(a.aR.L.length:Int) then
 ix a.aR.L dA λy2=>
 if (200:Int)<(y2.Path.length:Int) then
 some (.inr (.inr false))
 else
 some (.inl (c8 .i64 (dA+1)))
 else
 some (.inr (.inl ()))
def sY (a:au)(ei:Int)(np:Int):Option (Int⊕(Unit⊕Bool)):=ix a.Seen ei λy5=>
 if np<(y5.Names.length:Int) then
 ix a.Seen ei λy6=>
 ix y6.Names np λy7=>
 if (200:Int)<(y7.length:Int) then
 some (.inr (.inr false))
 else
 some (.inl (c8 .i64 (np+1)))
 else
 some (.inr (.inl ()))
def sZ (a:au)(ei:Int):Option (Int⊕(Unit⊕Bool)):=if ei<(a.Seen.length:Int) then
 bd (ix a.Seen ei λy3=>
  if (1100:Int)<(y3.Value.length:Int) then
  some true
  else
  ix a.Seen ei λy4=>
  some (decide ((40:Int)<(y4.Names.length:Int))):Option Bool) λw5=>
 if w5 then
 some (.inr (.inr false))
 else
 bd (Loop (sY a ei) 0) λw6=>
 match w6 with
 | .inl p8=>some (.inl (c8 .i64 (ei+1)))
 | .inr p9=>some (.inr (.inr p9))
 else
 some (.inr (.inl ()))
def yd (a:au):Option Bool:=bd (if (40:Int)<(a.Shelf.L.length:Int) then
  some true
  else
  if (40:Int)<(a.aR.L.length:Int) then
  some true
  else
  if (60:Int)<(a.aN.L.length:Int) then
  some true
  else
  if (60:Int)<(a.Seen.length:Int) then
  some true
  else
  some (decide ((10000000000:Int)<a.aN.ct)):Option Bool) λw=>
 if w then
 some false
 else
 bd (Loop (sW a) 0) λw1=>
 match w1 with
 | .inl p1=>
  bd (Loop (sX a) 0) λw3=>
  match w3 with
  | .inl p4=>
   bd (Loop (sZ a) 0) λw4=>
   match w4 with
   | .inl p10=>some true
   | .inr p11=>some p11
  | .inr p5=>some p5
 | .inr p2=>some p2
def u9 (lA:List aB)(st:Int):Option (Int⊕(Unit⊕Bool)):=if st<(lA.length:Int) then
 bd (if st=30 then
  some true
  else
  ix lA st λy=>
  if (200:Int)<(y.Path.length:Int) then
  some true
  else
  ix lA st λy1=>
  some (decide ((1100:Int)<(y1.Value.length:Int))):Option Bool) λw1=>
 if w1 then
 some (.inr (.inr false))
 else
 some (.inl (c8 .i64 (st+1)))
 else
 some (.inr (.inl ()))
def wK (lA:List aB):Option Bool:=bd (Loop (u9 lA) 0) λw=>
 match w with
 | .inl p1=>some true
 | .inr p2=>some p2
def wL (p:List UInt8)(st:(List (List UInt8))×(List UInt8)×Int):Option (((List (List UInt8))×(List UInt8)×Int)⊕((List (List UInt8))×(List UInt8))):=if st.2.2<(p.length:Int) then
 if (0:Int)<=st.2.2/\st.2.2<(p.length:Int) then
 bd (if ((p.getD (sh st.2.2) 0).toNat:Int)=47 then
  if (st.1.length+([st.2.1]:List (List UInt8)).length) *16<=2^46 then
  some (st.1++([st.2.1]:List (List UInt8)),([]:List UInt8))
  else none
  else
  if (0:Int)<=st.2.2/\st.2.2<(p.length:Int) then
  KS ([((p.getD (sh st.2.2) 0).toNat:Int)]:List Int) λbs=>
  if st.2.1.length+bs.length<=2^46 then
  some (st.1,st.2.1++bs)
  else none
  else none:Option ((List (List UInt8))×(List UInt8))) λw2=>
 some (.inl (w2.1,w2.2,c8 .i64 (st.2.2+1)))
 else none
 else
 some (.inr (st.1,st.2.1))
def Bt (p:List UInt8):Option ((List (List UInt8))×Bool):=bd (if (p.length:Int)=0 then
  some true
  else
  if (0:Int)<=0/\(0:Int)<(p.length:Int) then
  some (!decide (((p.getD (sh 0) 0).toNat:Int)=47))
  else none:Option Bool) λw=>
 if w then
 some (([]:List (List UInt8)),false)
 else
 if p=([47]:List UInt8) then
 some (([]:List (List UInt8)),true)
 else
 bd (Loop (wL p) (([]:List (List UInt8)),([]:List UInt8),1)) λw1=>
 if (w1.1.length+([w1.2]:List (List UInt8)).length) *16<=2^46 then
 some (w1.1++([w1.2]:List (List UInt8)),true)
 else none
def o6 (sA:List UInt8)(st:Int):Option (Int⊕(Unit⊕Bool)):=if st<(sA.length:Int) then
 if (0:Int)<=st/\st<(sA.length:Int) then
 bd (if (97:Int)<=((sA.getD (sh st) 0).toNat:Int) then
  if ((sA.getD (sh st) 0).toNat:Int)<=122 then
  some true
  else
  if (48:Int)<=((sA.getD (sh st) 0).toNat:Int) then
  if ((sA.getD (sh st) 0).toNat:Int)<=57 then
  some true
  else
  if ((sA.getD (sh st) 0).toNat:Int)=45 then
  some true
  else
  some (decide (((sA.getD (sh st) 0).toNat:Int)=95))
  else
  if ((sA.getD (sh st) 0).toNat:Int)=45 then
  some true
  else
  some (decide (((sA.getD (sh st) 0).toNat:Int)=95))
  else
  if (48:Int)<=((sA.getD (sh st) 0).toNat:Int) then
  if ((sA.getD (sh st) 0).toNat:Int)<=57 then
  some true
  else
  if ((sA.getD (sh st) 0).toNat:Int)=45 then
  some true
  else
  some (decide (((sA.getD (sh st) 0).toNat:Int)=95))
  else
  if ((sA.getD (sh st) 0).toNat:Int)=45 then
  some true
  else
  some (decide (((sA.getD (sh st) 0).toNat:Int)=95)):Option Bool) λw1=>
 if !w1 then
 some (.inr (.inr false))
 else
 some (.inl (c8 .i64 (st+1)))
 else none
 else
 some (.inr (.inl ()))
def tm (sA:List UInt8):Option Bool:=bd (Loop (o6 sA) 0) λw=>
 match w with
 | .inl p1=>
  bd (if (1:Int)<=(sA.length:Int) then
   some (decide ((sA.length:Int)<=30))
   else
   some false:Option Bool) λw2=>
  some w2
 | .inr p2=>some p2
def qW (rA:(List (List UInt8))×Bool)(st:Int):Option (Int⊕(Unit⊕Bool)):=if st<(rA.1.length:Int) then
 ix rA.1 st λy=>
 bd (tm y) λaT=>
 if !aT then
 some (.inr (.inr false))
 else
 some (.inl (c8 .i64 (st+1)))
 else
 some (.inr (.inl ()))
def gM (p:List UInt8):Option Bool:=if (100:Int)<(p.length:Int) then
 some false
 else
 bd (Bt p) λrA=>
 bd (Loop (qW rA) 0) λw=>
 match w with
 | .inl p3=>
  bd (if rA.2 then
   some (decide ((rA.1.length:Int)<=8))
   else
   some false:Option Bool) λw1=>
  some w1
 | .inr p4=>some p4
def ov (p:List UInt8):Option ((List (List UInt8))×Int):=bd (gM p) λrA=>
 if !rA then
 some (([]:List (List UInt8)),13)
 else
 bd (Bt p) λaT=>
 some (aT.1,0)
def qX (rA:(List (List UInt8))×Int)(aT:(List (List UInt8))×Int)(st:Int):Option (Int⊕(Unit⊕Bool)):=bd (if st<(rA.1.length:Int) then
  some (decide (st<(aT.1.length:Int)))
  else
  some false:Option Bool) λw2=>
 if w2 then
 ix rA.1 st λy=>
 ix aT.1 st λy1=>
 if !decide (y=y1) then
 ix rA.1 st λy2=>
 ix aT.1 st λy3=>
 some (.inr (.inr (BY y2 y3)))
 else
 some (.inl (c8 .i64 (st+1)))
 else
 some (.inr (.inl ()))
def s4 (p:List UInt8)(q:List UInt8):Option Bool:=bd (ov p) λrA=>
 bd (ov q) λaT=>
 bd (if !decide (rA.2=0) then
  some true
  else
  some (!decide (aT.2=0)):Option Bool) λw=>
 if w then
 some false
 else
 bd (Loop (qX rA aT) 0) λw1=>
 match w1 with
 | .inl p3=>some (decide ((rA.1.length:Int)<(aT.1.length:Int)))
 | .inr p4=>some p4
def tp (lA:List (List UInt8))(st:(List UInt8)×Int):Option (((List UInt8)×Int)⊕(List UInt8)):=if st.2<(lA.length:Int) then
 if st.1.length+([47]:List UInt8).length<=2^46 then
 ix lA st.2 λy=>
 if (st.1++([47]:List UInt8)).length+y.length<=2^46 then
 some (.inl ((st.1++([47]:List UInt8))++y,c8 .i64 (st.2+1)))
 else none
 else none
 else
 some (.inr st.1)
def Ai (lA:List (List UInt8)):Option (List UInt8):=bd (Loop (tp lA) (([]:List UInt8),0)) λw=>
 if w=([]:List UInt8) then
 some ([47]:List UInt8)
 else
 some w
def jH (p:List UInt8):Option ((List UInt8)×Int):=bd (ov p) λrA=>
 if !decide (rA.2=0) then
 some (([]:List UInt8),rA.2)
 else
 if (rA.1.length:Int)=0 then
 some (([]:List UInt8),6)
 else
 if (0:Int)<=0/\(0:Int)<=(c8 .i64 ((rA.1.length:Int)-1))/\(c8 .i64 ((rA.1.length:Int)-1))<=(rA.1.length:Int) then
 bd (Ai (AI (sh 0) (AS (sh (c8 .i64 ((rA.1.length:Int)-1))) rA.1))) λaT=>
 some (aT,0)
 else none
def Aj (sA:bE)(p:List UInt8)(st:Int):Option (Int⊕(Unit⊕Int)):=if st<(sA.L.length:Int) then
 ix sA.L st λy=>
 if y.Path=p then
 some (.inr (.inr st))
 else
 some (.inl (c8 .i64 (st+1)))
 else
 some (.inr (.inl ()))
def nh (sA:bE)(p:List UInt8):Option Int:=bd (Loop (Aj sA p) 0) λw=>
 match w with
 | .inl p3=>some (-1)
 | .inr p4=>some p4
def qY (a:bE)(st:Int):Option (Int⊕(Unit⊕Bool)):=if st<(a.L.length:Int) then
 ix a.L st λy=>
 bd (bd (gM y.Path) λrA=>
  if !rA then
  some true
  else
  if (1000:Int)<(y.Value.length:Int) then
  some true
  else
  if y.Version<0 then
  some true
  else
  if (1000000000:Int)<y.Version then
  some true
  else
  if y.bF<0 then
  some true
  else
  if (0:Int)<st then
  ix a.L (c8 .i64 (st-1)) λy1=>
  bd (s4 y1.Path y.Path) λaT=>
  some (!aT)
  else
  some false:Option Bool) λw2=>
 if w2 then
 some (.inr (.inr false))
 else
 bd (jH y.Path) λca=>
 if !decide (ca.2=0) then
 if !decide (y.bF=0) then
 some (.inr (.inr false))
 else
 some (.inl (c8 .i64 (st+1)))
 else
 bd (nh a ca.1) λgO=>
 bd (if gO<0 then
  some true
  else
  ix a.L gO λy2=>
  some (!decide (y2.bF=0)):Option Bool) λw3=>
 if w3 then
 some (.inr (.inr false))
 else
 some (.inl (c8 .i64 (st+1)))
 else
 some (.inr (.inl ()))
def wM (a:bE):Option Bool:=bd (if (a.L.length:Int)<1 then
  some true
  else
  some (decide ((200:Int)<(a.L.length:Int))):Option Bool) λw=>
 if w then
 some false
 else
 bd (Loop (qY a) 0) λw1=>
 match w1 with
 | .inl p1=>
  bd (nh a ([47]:List UInt8)) λoP=>
  some (decide (oP=0))
 | .inr p2=>some p2
def vc (a:cJ)(st:Int):Option (Int⊕(Unit⊕Bool)):=if st<(a.L.length:Int) then
 ix a.L st λy=>
 bd (if y.Id<1 then
  some true
  else
  if y.Span<1 then
  some true
  else
  if (1000:Int)<y.Span then
  some true
  else
  if y.cF<=a.ct then
  some true
  else
  if (c8 .i64 (a.ct+y.Span))<y.cF then
  some true
  else
  if (0:Int)<st then
  ix a.L (c8 .i64 (st-1)) λy1=>
  some (decide (y.Id<=y1.Id))
  else
  some false:Option Bool) λw2=>
 if w2 then
 some (.inr (.inr false))
 else
 some (.inl (c8 .i64 (st+1)))
 else
 some (.inr (.inl ()))
def wN (a:cJ):Option Bool:=bd (if a.ct<0 then
  some true
  else
  if (1000000000:Int)<a.ct then
  some true
  else
  some (decide ((50:Int)<(a.L.length:Int))):Option Bool) λw=>
 if w then
 some false
 else
 bd (Loop (vc a) 0) λw1=>
 match w1 with
 | .inl p1=>some true
 | .inr p2=>some p2
def wO (lA:List aL)(w:aL)(st:Int):Option (Int⊕(Unit⊕Bool)):=if st<(lA.length:Int) then
 ix lA st λy=>
 if ((decide (y.Path=w.Path))&&((decide (y.Client=w.Client))&&(decide (y.Kids=w.Kids)))) then
 some (.inr (.inr true))
 else
 some (.inl (c8 .i64 (st+1)))
 else
 some (.inr (.inl ()))
def sF (lA:List aL)(w:aL):Option Bool:=bd (Loop (wO lA w) 0) λw1=>
 match w1 with
 | .inl p1=>some false
 | .inr p2=>some p2
def vd (t:eK)(st:Int):Option (Int⊕(Unit⊕Bool)):=if st<(t.L.length:Int) then
 bd (ix t.L st λy=>
  bd (gM y.Path) λrA=>
  if !rA then
  some true
  else
  ix t.L st λy1=>
  if y1.Client<0 then
  some true
  else
  if (0:Int)<=0/\(0:Int)<=st/\st<=(t.L.length:Int) then
  ix t.L st λy2=>
  bd (sF (AI (sh 0) (AS (sh st) t.L)) y2) λaT=>
  some aT
  else none:Option Bool) λw1=>
 if w1 then
 some (.inr (.inr false))
 else
 some (.inl (c8 .i64 (st+1)))
 else
 some (.inr (.inl ()))
def wP (t:eK):Option Bool:=bd (Loop (vd t) 0) λw=>
 match w with
 | .inl p1=>some (decide ((t.L.length:Int)<=200))
 | .inr p2=>some p2
def ve (a:b6)(st:Int):Option (Int⊕(Unit⊕Bool)):=if st<(a.Seen.length:Int) then
 ix a.Seen st λy=>
 bd (if y.Client<0 then
  some true
  else
  if (1000:Int)<y.Client then
  some true
  else
  if y.Seq<1 then
  some true
  else
  if (0:Int)<st then
  ix a.Seen (c8 .i64 (st-1)) λy1=>
  some (decide (y.Client<=y1.Client))
  else
  some false:Option Bool) λw2=>
 if w2 then
 some (.inr (.inr false))
 else
 some (.inl (c8 .i64 (st+1)))
 else
 some (.inr (.inl ()))
def wQ (a:b6):Option Bool:=bd (bd (wM a.Shelf) λrA=>
  if !rA then
  some true
  else
  bd (wN a.aN) λaT=>
  if !aT then
  some true
  else
  bd (wP a.aR) λca=>
  if !ca then
  some true
  else
  some (decide ((50:Int)<(a.Seen.length:Int))):Option Bool) λw=>
 if w then
 some false
 else
 bd (Loop (ve a) 0) λw1=>
 match w1 with
 | .inl p1=>some true
 | .inr p2=>some p2
def wR (rA:aj):Option aD:=some (⟨rA.Client,rA.Seq,rA.E,rA.Value,rA.Version,rA.Names⟩:aD)
def nv (lA:List aj)(st:(List aD)×Int):Option (((List aD)×Int)⊕(List aD)):=if st.2<(lA.length:Int) then
 ix lA st.2 λy=>
 bd (wR y) λrA=>
 if (st.1.length+([rA]:List aD).length) *72<=2^46 then
 some (.inl (st.1++([rA]:List aD),c8 .i64 (st.2+1)))
 else none
 else
 some (.inr st.1)
def qZ (lA:List aj):Option (List aD):=bd (Loop (nv lA) (([]:List aD),0)) λw=>some w
def q0 (a:au)(st:(List aY)×Int×(List ar)×(List aL)×(List aD)×Int):Option (((List aY)×Int×(List ar)×(List aL)×(List aD)×Int)⊕((List aY)×Int×(List ar)×(List aL)×(List aD))):=if st.2.2.2.2.2<(a.Shelf.L.length:Int) then
 ix a.Shelf.L st.2.2.2.2.2 λy=>
 if (st.1.length+([(⟨y.Path,y.Value,y.Version,y.bF⟩:aY)]:List aY).length) *48<=2^46 then
 some (.inl (st.1++([(⟨y.Path,y.Value,y.Version,y.bF⟩:aY)]:List aY),st.2.1,st.2.2.1,st.2.2.2.1,st.2.2.2.2.1,c8 .i64 (st.2.2.2.2.2+1)))
 else none
 else
 some (.inr (st.1,st.2.1,st.2.2.1,st.2.2.2.1,st.2.2.2.2.1))
def q8 (a:au)(dA:(List aY)×Int×(List ar)×(List aL)×(List aD)×Int):Option (((List aY)×Int×(List ar)×(List aL)×(List aD)×Int)⊕((List aY)×Int×(List ar)×(List aL)×(List aD))):=if dA.2.2.2.2.2<(a.aN.L.length:Int) then
 ix a.aN.L dA.2.2.2.2.2 λy1=>
 if (dA.2.2.1.length+([(⟨y1.Id,y1.Span,y1.cF⟩:ar)]:List ar).length) *24<=2^46 then
 some (.inl (dA.1,dA.2.1,dA.2.2.1++([(⟨y1.Id,y1.Span,y1.cF⟩:ar)]:List ar),dA.2.2.2.1,dA.2.2.2.2.1,c8 .i64 (dA.2.2.2.2.2+1)))
 else none
 else
 some (.inr (dA.1,dA.2.1,dA.2.2.1,dA.2.2.2.1,dA.2.2.2.2.1))
def q9 (a:au)(ei:(List aY)×Int×(List ar)×(List aL)×(List aD)×Int):Option (((List aY)×Int×(List ar)×(List aL)×(List aD)×Int)⊕((List aY)×Int×(List ar)×(List aL)×(List aD))):=if ei.2.2.2.2.2<(a.aR.L.length:Int) then
 ix a.aR.L ei.2.2.2.2.2 λy2=>
 if (ei.2.2.2.1.length+([(⟨y2.Path,y2.Client,y2.Kids⟩:aL)]:List aL).length) *32<=2^46 then
 some (.inl (ei.1,ei.2.1,ei.2.2.1,ei.2.2.2.1++([(⟨y2.Path,y2.Client,y2.Kids⟩:aL)]:List aL),ei.2.2.2.2.1,c8 .i64 (ei.2.2.2.2.2+1)))
 else none
 else
 some (.inr (ei.1,ei.2.1,ei.2.2.1,ei.2.2.2.1,ei.2.2.2.2.1))
def ox (a:au):Option b6:=bd (qZ a.Seen) λrA=>
 bd (Loop (q0 a) (([]:List aY),a.aN.ct,([]:List ar),([]:List aL),rA,0)) λw=>
 bd (Loop (q8 a) (w.1,w.2.1,w.2.2.1,w.2.2.2.1,w.2.2.2.2,0)) λw1=>
 bd (Loop (q9 a) (w1.1,w1.2.1,w1.2.2.1,w1.2.2.2.1,w1.2.2.2.2,0)) λw2=>
 some (⟨(⟨w2.1⟩:bE),(⟨w2.2.1,w2.2.2.1⟩:cJ),(⟨w2.2.2.2.1⟩:eK),w2.2.2.2.2⟩:b6)
def bP (o:aB):Option aB:=if o.Kind=1 then
 some (⟨o.Client,o.Seq,o.Kind,o.Path,o.Value,0,o.Session,0⟩:aB)
 else
 bd (if o.Kind=2 then
  some (decide (o.Kind=2))
  else
  bd (if o.Kind=5 then
   some (decide (o.Kind=5))
   else
   bd (if o.Kind=10 then
    some (decide (o.Kind=10))
    else
    some (decide (o.Kind=11)):Option Bool) λw2=>
   some w2:Option Bool) λw1=>
  some w1:Option Bool) λw=>
 if w then
 some (⟨o.Client,o.Seq,o.Kind,o.Path,([]:List UInt8),0,0,0⟩:aB)
 else
 if o.Kind=3 then
 some (⟨o.Client,o.Seq,o.Kind,o.Path,o.Value,o.Version,0,0⟩:aB)
 else
 if o.Kind=4 then
 some (⟨o.Client,o.Seq,o.Kind,o.Path,([]:List UInt8),o.Version,0,0⟩:aB)
 else
 if o.Kind=6 then
 some (⟨o.Client,o.Seq,o.Kind,([]:List UInt8),([]:List UInt8),0,o.Session,o.Span⟩:aB)
 else
 bd (if o.Kind=7 then
  some (decide (o.Kind=7))
  else
  some (decide (o.Kind=8)):Option Bool) λw3=>
 if w3 then
 some (⟨o.Client,o.Seq,o.Kind,([]:List UInt8),([]:List UInt8),0,o.Session,0⟩:aB)
 else
 if o.Kind=9 then
 some (⟨o.Client,o.Seq,o.Kind,([]:List UInt8),([]:List UInt8),0,0,o.Span⟩:aB)
 else
 some (⟨o.Client,o.Seq,o.Kind,([]:List UInt8),([]:List UInt8),0,0,0⟩:aB)
def mJ (o:aB):Option Bool:=bd (if (0:Int)<=o.Client then
  if o.Client<=1000 then
  if (1:Int)<=o.Seq then
  some (decide (o.Seq<=1000000000))
  else
  some false
  else
  some false
  else
  some false:Option Bool) λw=>
 bd (if w then
  if (0:Int)<=o.Kind then
  if o.Kind<=11 then
  if (o.Path.length:Int)<=100 then
  if (o.Value.length:Int)<=1000 then
  bd (bP o) λrA=>
  some ((decide (o.Client=rA.Client))&&((decide (o.Seq=rA.Seq))&&((decide (o.Kind=rA.Kind))&&((decide (o.Path=rA.Path))&&((decide (o.Value=rA.Value))&&((decide (o.Version=rA.Version))&&((decide (o.Session=rA.Session))&&(decide (o.Span=rA.Span)))))))))
  else
  some false
  else
  some false
  else
  some false
  else
  some false
  else
  some false:Option Bool) λw1=>
 some w1
def o7 (x:Int):Option Bool:=some (!decide (x=x))
def j0 (x:Int)(y:Int):Option Int:=bd (o7 x) λrA=>
 bd (o7 y) λaT=>
 if rA then
 if aT then
 some 0
 else
 some (-1)
 else
 if aT then
 some 1
 else
 if x<y then
 some (-1)
 else
 if y<x then
 some 1
 else
 some 0
def dD (x:aj)(dI:Int):Option Int:=bd (j0 x.Client dI) λrA=>some rA
def gu (x:List aj)(target:Int)(cmp:aj->Int->Option Int)(st:Int×Int):Option ((Int×Int)⊕Int):=if st.1<st.2 then
 if (0:Int)<=1 then
 ix x (c8 .i64 (By (c8 .u64 (c8 .i64 (st.1+st.2))) (2^min (sh 1) (AT .u64)))) λy=>
 bd (cmp y target) λrA=>
 bd (if rA<0 then
  some (c8 .i64 ((c8 .i64 (By (c8 .u64 (c8 .i64 (st.1+st.2))) (2^min (sh 1) (AT .u64))))+1),st.2)
  else
  some (st.1,c8 .i64 (By (c8 .u64 (c8 .i64 (st.1+st.2))) (2^min (sh 1) (AT .u64)))):Option (Int×Int)) λw1=>
 some (.inl (w1.1,w1.2))
 else none
 else
 some (.inr st.1)
def dq (x:List aj)(target:Int)(cmp:aj->Int->Option Int):Option (Int×Bool):=bd (Loop (gu x target cmp) (0,(x.length:Int))) λw=>
 bd (if w<(x.length:Int) then
  ix x w λy1=>
  bd (cmp y1 target) λaT=>
  some (w,decide (aT=0))
  else
  some (w,false):Option (Int×Bool)) λw2=>
 some (w2.1,w2.2)
def fV (rA:au)(dI:Int):Option (Int×Bool):=bd (dq rA.Seen dI dD) λaT=>some (aT.1,aT.2)
def qk (rA:au)(dI:Int):Option (aj×Bool):=bd (fV rA dI) λaT=>
 if !aT.2 then
 some ((⟨0,0,0,([]:List UInt8),0,([]:List (List UInt8))⟩:aj),false)
 else
 ix rA.Seen aT.1 λy=>
 some (y,true)
def j5 (rA:au)(o:aB):Option (aj×Bool):=bd (qk rA o.Client) λaT=>
 bd (mJ o) λca=>
 bd (if !ca then
  some (.inl (0,0,0,([]:List UInt8),0,([]:List (List UInt8)),o.Client,o.Seq,1,([]:List UInt8),0,([]:List (List UInt8))))
  else
  bd (if aT.2 then
   some (decide (aT.1.Seq=o.Seq))
   else
   some false:Option Bool) λw1=>
  if w1 then
  some (.inr (aT.1.Client,aT.1.Seq,aT.1.E,aT.1.Value,aT.1.Version,aT.1.Names,true))
  else
  bd (if aT.2 then
   some (decide (o.Seq<aT.1.Seq))
   else
   some false:Option Bool) λw2=>
  bd (if w2 then
   some (.inl (0,0,0,([]:List UInt8),0,([]:List (List UInt8)),o.Client,o.Seq,15,([]:List UInt8),0,([]:List (List UInt8))))
   else
   bd (if !aT.2 then
    some (decide ((50:Int)<=(rA.Seen.length:Int)))
    else
    some false:Option Bool) λw4=>
   if w4 then
   some (.inl (0,0,0,([]:List UInt8),0,([]:List (List UInt8)),o.Client,o.Seq,9,([]:List UInt8),0,([]:List (List UInt8))))
   else
   some (.inr (o.Client,o.Seq,0,([]:List UInt8),0,([]:List (List UInt8)),false)):Option ((Int×Int×Int×(List UInt8)×Int×(List (List UInt8))×Int×Int×Int×(List UInt8)×Int×(List (List UInt8)))⊕(Int×Int×Int×(List UInt8)×Int×(List (List UInt8))×Bool))) λw3=>
  match w3 with
  | .inl p2=>some (.inl (p2.1,p2.2.1,p2.2.2.1,p2.2.2.2.1,p2.2.2.2.2.1,p2.2.2.2.2.2.1,p2.2.2.2.2.2.2.1,p2.2.2.2.2.2.2.2.1,p2.2.2.2.2.2.2.2.2.1,p2.2.2.2.2.2.2.2.2.2.1,p2.2.2.2.2.2.2.2.2.2.2.1,p2.2.2.2.2.2.2.2.2.2.2.2))
  | .inr p3=>some (.inr (p3.1,p3.2.1,p3.2.2.1,p3.2.2.2.1,p3.2.2.2.2.1,p3.2.2.2.2.2.1,p3.2.2.2.2.2.2)):Option ((Int×Int×Int×(List UInt8)×Int×(List (List UInt8))×Int×Int×Int×(List UInt8)×Int×(List (List UInt8)))⊕(Int×Int×Int×(List UInt8)×Int×(List (List UInt8))×Bool))) λw=>
 match w with
 | .inl p4=>some ((⟨p4.2.2.2.2.2.2.1,p4.2.2.2.2.2.2.2.1,p4.2.2.2.2.2.2.2.2.1,p4.2.2.2.2.2.2.2.2.2.1,p4.2.2.2.2.2.2.2.2.2.2.1,p4.2.2.2.2.2.2.2.2.2.2.2⟩:aj),true)
 | .inr p5=>some ((⟨p5.1,p5.2.1,p5.2.2.1,p5.2.2.2.1,p5.2.2.2.2.1,p5.2.2.2.2.2.1⟩:aj),p5.2.2.2.2.2.2)
def n6 (w:ai):Option (Unit×ai):=some ((),w)
def dR (x:aC)(id:Int):Option Int:=bd (j0 x.Id id) λrA=>some rA
def fO (x:List aC)(target:Int)(cmp:aC->Int->Option Int)(st:Int×Int):Option ((Int×Int)⊕Int):=if st.1<st.2 then
 if (0:Int)<=1 then
 ix x (c8 .i64 (By (c8 .u64 (c8 .i64 (st.1+st.2))) (2^min (sh 1) (AT .u64)))) λy=>
 bd (cmp y target) λrA=>
 bd (if rA<0 then
  some (c8 .i64 ((c8 .i64 (By (c8 .u64 (c8 .i64 (st.1+st.2))) (2^min (sh 1) (AT .u64))))+1),st.2)
  else
  some (st.1,c8 .i64 (By (c8 .u64 (c8 .i64 (st.1+st.2))) (2^min (sh 1) (AT .u64)))):Option (Int×Int)) λw1=>
 some (.inl (w1.1,w1.2))
 else none
 else
 some (.inr st.1)
def c9 (x:List aC)(target:Int)(cmp:aC->Int->Option Int):Option (Int×Bool):=bd (Loop (fO x target cmp) (0,(x.length:Int))) λw=>
 bd (if w<(x.length:Int) then
  ix x w λy1=>
  bd (cmp y1 target) λaT=>
  some (w,decide (aT=0))
  else
  some (w,false):Option (Int×Bool)) λw2=>
 some (w2.1,w2.2)
def eQ (b:aK)(id:Int):Option (Int×Bool):=bd (c9 b.L id dR) λrA=>some (rA.1,rA.2)
def wS (b:aK)(id:Int):Option Bool:=bd (eQ b id) λrA=>some rA.2
def iX (sA:List UInt8)(dS:List UInt8):Option Bool:=bd (if (dS.length:Int)<=(sA.length:Int) then
  if (0:Int)<=0/\(0:Int)<=(dS.length:Int)/\(dS.length:Int)<=(sA.length:Int) then
  some (decide ((AI (sh 0) (AS (sh (dS.length:Int)) sA))=dS))
  else none
  else
  some false:Option Bool) λw=>
 some w
def iY (sA:List UInt8)(dS:List UInt8):Option ((List UInt8)×Bool):=bd (iX sA dS) λrA=>
 if !rA then
 some (sA,false)
 else
 if (0:Int)<=(dS.length:Int)/\(dS.length:Int)<=(sA.length:Int)/\(sA.length:Int)<=(sA.length:Int) then
 some (AI (sh (dS.length:Int)) (AS (sh (sA.length:Int)) sA),true)
 else none
def jk (sA:List UInt8)(dS:List UInt8):Option ((List UInt8)×Bool):=bd (iY sA dS) λrA=>some (rA.1,rA.2)
def iI (c:Int):Option Bool:=bd (DQ ([97,98,99,100,101,102,103,104,105,106,107,108,109,110,111,112,113,114,115,116,117,118,119,120,121,122,48,49,50,51,52,53,54,55,56,57,45,95]:List UInt8) c) λrA=>some (!rA)
def jm (f:Int->Option Bool)(Gl:Bool)(st:(List MV)):Option ((List MV)⊕(Unit⊕Int)):=if KF st then
 bd (f (zQ st)) λrA=>
 if rA=Gl then
 some (.inr (.inr (r7 st)))
 else
 some (.inl (CB st))
 else
 some (.inr (.inl ()))
def nP (sA:List UInt8)(f:Int->Option Bool)(Gl:Bool):Option Int:=bd (Loop (jm f Gl) ([.s sA,.i .i64 0]:List MV)) λw=>
 match w with
 | .inl p1=>some (-1)
 | .inr p2=>some p2
def lz (sA:List UInt8)(f:Int->Option Bool):Option Int:=bd (nP sA f true) λrA=>some rA
def gw (sA:List UInt8)(f:Int->Option Bool):Option Bool:=bd (lz sA f) λrA=>some (decide ((0:Int)<=rA))
def ra (sA:List UInt8):Option Bool:=bd (if !decide (sA=([]:List UInt8)) then
  if (sA.length:Int)<=30 then
  bd (Ml sA ([97,98,99,100,101,102,103,104,105,106,107,108,109,110,111,112,113,114,115,116,117,118,119,120,121,122,48,49,50,51,52,53,54,55,56,57,45,95]:List UInt8)) λrA=>
  if rA=([]:List UInt8) then
  bd (gw sA iI) λaT=>
  some (!aT)
  else
  some false
  else
  some false
  else
  some false:Option Bool) λw=>
 some w
def mK (sA:List UInt8):Option Bool:=bd (ra sA) λrA=>some (!rA)
def eL (sA:List (List UInt8))(f:(List UInt8)->Option Bool)(st:Int):Option (Int⊕(Unit⊕Int)):=if st<(sA.length:Int) then
 ix sA st λy=>
 bd (f y) λrA=>
 if rA then
 some (.inr (.inr st))
 else
 some (.inl (c8 .i64 (st+1)))
 else
 some (.inr (.inl ()))
def iv (sA:List (List UInt8))(f:(List UInt8)->Option Bool):Option Int:=bd (Loop (eL sA f) 0) λw=>
 match w with
 | .inl p1=>some (-1)
 | .inr p2=>some p2
def et (sA:List (List UInt8))(f:(List UInt8)->Option Bool):Option Bool:=bd (iv sA f) λrA=>some (decide ((0:Int)<=rA))
def iO (p:List UInt8):Option ((List (List UInt8))×Bool):=bd (jk p ([47]:List UInt8)) λrA=>
 bd (if !rA.2 then
  some true
  else
  some (decide ((100:Int)<(p.length:Int))):Option Bool) λw=>
 if w then
 some (([]:List (List UInt8)),false)
 else
 if rA.1=([]:List UInt8) then
 some (([]:List (List UInt8)),true)
 else
 bd (NP rA.1 ([47]:List UInt8)) λaT=>
 bd (if (aT.length:Int)<=8 then
  bd (et aT mK) λca=>
  some (aT,!ca,aT)
  else
  some (aT,false,aT):Option ((List (List UInt8))×Bool×(List (List UInt8)))) λw1=>
 some (w1.2.2,w1.2.1)
def kM (x:List UInt8):Option Bool:=some (!decide (x=x))
def jn (x:List UInt8)(y:List UInt8):Option Int:=bd (kM x) λrA=>
 bd (kM y) λaT=>
 if rA then
 if aT then
 some 0
 else
 some (-1)
 else
 if aT then
 some 1
 else
 if BY x y then
 some (-1)
 else
 if !(BY x y||decide (x=y)) then
 some 1
 else
 some 0
def fj (s1:List (List UInt8))(s2:List (List UInt8))(st:Int):Option (Int⊕(Unit⊕Int)):=if st<(s1.length:Int) then
 ix s1 st λy=>
 if (s2.length:Int)<=st then
 some (.inr (.inr 1))
 else
 ix s2 st λy1=>
 bd (jn y y1) λrA=>
 if !decide (rA=0) then
 some (.inr (.inr rA))
 else
 some (.inl (c8 .i64 (st+1)))
 else
 some (.inr (.inl ()))
def gx (s1:List (List UInt8))(s2:List (List UInt8)):Option Int:=bd (Loop (fj s1 s2) 0) λw=>
 match w with
 | .inl p1=>
  if (s1.length:Int)<(s2.length:Int) then
  some (-1)
  else
  some 0
 | .inr p2=>some p2
def tq (p:List UInt8)(q:List UInt8):Option Bool:=bd (iO p) λrA=>
 bd (iO q) λaT=>
 bd (if rA.2 then
  if aT.2 then
  bd (gx rA.1 aT.1) λca=>
  some (decide (ca<0))
  else
  some false
  else
  some false:Option Bool) λw=>
 some w
def cP (n:af)(p:List UInt8):Option Int:=if n.Path=p then
 some 0
 else
 bd (tq n.Path p) λrA=>
 if rA then
 some (-1)
 else
 some 1
def fP (x:List af)(target:List UInt8)(cmp:af->(List UInt8)->Option Int)(st:Int×Int):Option ((Int×Int)⊕Int):=if st.1<st.2 then
 if (0:Int)<=1 then
 ix x (c8 .i64 (By (c8 .u64 (c8 .i64 (st.1+st.2))) (2^min (sh 1) (AT .u64)))) λy=>
 bd (cmp y target) λrA=>
 bd (if rA<0 then
  some (c8 .i64 ((c8 .i64 (By (c8 .u64 (c8 .i64 (st.1+st.2))) (2^min (sh 1) (AT .u64))))+1),st.2)
  else
  some (st.1,c8 .i64 (By (c8 .u64 (c8 .i64 (st.1+st.2))) (2^min (sh 1) (AT .u64)))):Option (Int×Int)) λw1=>
 some (.inl (w1.1,w1.2))
 else none
 else
 some (.inr st.1)
def ec (x:List af)(target:List UInt8)(cmp:af->(List UInt8)->Option Int):Option (Int×Bool):=bd (Loop (fP x target cmp) (0,(x.length:Int))) λw=>
 bd (if w<(x.length:Int) then
  ix x w λy1=>
  bd (cmp y1 target) λaT=>
  some (w,decide (aT=0))
  else
  some (w,false):Option (Int×Bool)) λw2=>
 some (w2.1,w2.2)
def eV (sA:aA)(p:List UInt8):Option (Int×Bool):=bd (ec sA.L p cP) λrA=>some (rA.1,rA.2)
def kq (p:List UInt8):Option Bool:=bd (iO p) λrA=>some rA.2
def eC (sA:List UInt8)(c:Int)(st:Int):Option (Int⊕(Unit⊕Int)):=if (0:Int)<=st then
 if (0:Int)<=st/\st<(sA.length:Int) then
 if ((sA.getD (sh st) 0).toNat:Int)=c then
 some (.inr (.inr st))
 else
 some (.inl (c8 .i64 (st-1)))
 else none
 else
 some (.inr (.inl ()))
def eX (sA:List UInt8)(c:Int):Option Int:=bd (Loop (eC sA c) (c8 .i64 ((sA.length:Int)-1))) λw=>
 match w with
 | .inl p1=>some (-1)
 | .inr p2=>some p2
def mc (sep:List UInt8)(st:Int×Int):Option ((Int×Int)⊕Int):=if (0:Int)<=st.2 then
 if (0:Int)<=st.2/\st.2<(sep.length:Int) then
 some (.inl (c8 .u32 ((c8 .u32 (st.1 *16777619))+(c8 .u32 ((sep.getD (sh st.2) 0).toNat:Int))),c8 .i64 (st.2-1)))
 else none
 else
 some (.inr st.1)
def mf (dA:Int×Int×Int):Option ((Int×Int×Int)⊕Int):=if (0:Int)<dA.2.2 then
 none
 else
 some (.inr dA.1)
def jI (sep:List UInt8):Option (Int×Int):=bd (Loop (mc sep) (0,c8 .i64 ((sep.length:Int)-1))) λw=>
 bd (Loop mf (1,16777619,(sep.length:Int))) λw1=>
 some (w,w1)
def iP (a:List UInt8)(a1:List UInt8)(st:Int×Int):Option ((Int×Int)⊕Int):=if (c8 .i64 ((a.length:Int)-(a1.length:Int)))<=st.2 then
 if (0:Int)<=st.2/\st.2<(a.length:Int) then
 some (.inl (c8 .u32 ((c8 .u32 (st.1 *16777619))+(c8 .u32 ((a.getD (sh st.2) 0).toNat:Int))),c8 .i64 (st.2-1)))
 else none
 else
 some (.inr st.1)
def iQ (a:List UInt8)(a1:List UInt8)(rA:Int×Int)(dA:Int×Int):Option ((Int×Int)⊕(Unit⊕Int)):=if (0:Int)<=dA.2 then
 if (0:Int)<=dA.2/\dA.2<(a.length:Int) then
 if (0:Int)<=(c8 .i64 (dA.2+(a1.length:Int)))/\(c8 .i64 (dA.2+(a1.length:Int)))<(a.length:Int) then
 bd (if (c8 .u32 ((c8 .u32 ((c8 .u32 (dA.1 *16777619))+(c8 .u32 ((a.getD (sh dA.2) 0).toNat:Int))))-(c8 .u32 (rA.2 *(c8 .u32 ((a.getD (sh (c8 .i64 (dA.2+(a1.length:Int)))) 0).toNat:Int))))))=rA.1 then
  if (0:Int)<=dA.2/\dA.2<=(c8 .i64 (dA.2+(a1.length:Int)))/\(c8 .i64 (dA.2+(a1.length:Int)))<=(a.length:Int) then
  some (decide ((AI (sh dA.2) (AS (sh (c8 .i64 (dA.2+(a1.length:Int)))) a))=a1))
  else none
  else
  some false:Option Bool) λw3=>
 if w3 then
 some (.inr (.inr dA.2))
 else
 some (.inl (c8 .u32 ((c8 .u32 ((c8 .u32 (dA.1 *16777619))+(c8 .u32 ((a.getD (sh dA.2) 0).toNat:Int))))-(c8 .u32 (rA.2 *(c8 .u32 ((a.getD (sh (c8 .i64 (dA.2+(a1.length:Int)))) 0).toNat:Int))))),c8 .i64 (dA.2-1)))
 else none
 else none
 else
 some (.inr (.inl ()))
def fm (a:List UInt8)(a1:List UInt8):Option Int:=bd (jI a1) λrA=>
 bd (Loop (iP a a1) (0,c8 .i64 ((a.length:Int)-1))) λw=>
 bd (if w=rA.1 then
  if (0:Int)<=(c8 .i64 ((a.length:Int)-(a1.length:Int)))/\(c8 .i64 ((a.length:Int)-(a1.length:Int)))<=(a.length:Int)/\(a.length:Int)<=(a.length:Int) then
  some (decide ((AI (sh (c8 .i64 ((a.length:Int)-(a1.length:Int)))) (AS (sh (a.length:Int)) a))=a1))
  else none
  else
  some false:Option Bool) λw1=>
 if w1 then
 some (c8 .i64 ((a.length:Int)-(a1.length:Int)))
 else
 bd (Loop (iQ a a1 rA) (w,c8 .i64 ((c8 .i64 ((a.length:Int)-(a1.length:Int)))-1))) λw2=>
 match w2 with
 | .inl p2=>some (-1)
 | .inr p3=>some p3
def jo (sA:List UInt8)(substr:List UInt8):Option Int:=if (substr.length:Int)=0 then
 some (sA.length:Int)
 else
 if (substr.length:Int)=1 then
 if (0:Int)<=0/\(0:Int)<(substr.length:Int) then
 bd (eX sA ((substr.getD (sh 0) 0).toNat:Int)) λrA=>
 some rA
 else none
 else
 if (substr.length:Int)=(sA.length:Int) then
 if substr=sA then
 some 0
 else
 some (-1)
 else
 if (sA.length:Int)<(substr.length:Int) then
 some (-1)
 else
 bd (fm sA substr) λaT=>
 some aT
def oz (p:List UInt8):Option ((List UInt8)×Int):=bd (kq p) λrA=>
 if !rA then
 some (([]:List UInt8),13)
 else
 if p=([47]:List UInt8) then
 some (([]:List UInt8),6)
 else
 bd (jo p ([47]:List UInt8)) λaT=>
 if (0:Int)<=0/\(0:Int)<=(imax 1 aT)/\(imax 1 aT)<=(p.length:Int) then
 some (AI (sh 0) (AS (sh (imax 1 aT)) p),0)
 else none
def ib (sA:aA)(p:List UInt8):Option (Int×Int):=bd (kq p) λrA=>
 if !rA then
 some (0,13)
 else
 bd (eV sA p) λaT=>
 if !aT.2 then
 some (0,6)
 else
 some (aT.1,0)
def ql (sA:aA)(p:List UInt8):Option (af×Int):=bd (ib sA p) λrA=>
 if !decide (rA.2=0) then
 some ((⟨([]:List UInt8),([]:List UInt8),0,0⟩:af),rA.2)
 else
 ix sA.L rA.1 λy=>
 some (y,0)
def iR (c:List UInt8)(c1:Bool)(c2:aA)(c3:List UInt8)(c4:Int):Option Int:=bd (kq c) λrA=>
 if !rA then
 some 13
 else
 if c1 then
 some 7
 else
 bd (oz c) λaT=>
 bd (ql c2 aT.1) λca=>
 if !decide (ca.2=0) then
 some 6
 else
 if !decide (ca.1.bF=0) then
 some 10
 else
 if (1000:Int)<(c3.length:Int) then
 some 5
 else
 if c4<0 then
 some 1
 else
 if (200:Int)<=(c2.L.length:Int) then
 some 9
 else
 some 0
def mL (sA:aA)(p:List UInt8)(value:List UInt8)(owner:Int):Option (aA×Int):=bd (eV sA p) λrA=>
 bd (iR p rA.2 sA value owner) λaT=>
 if !decide (aT=0) then
 some (sA,aT)
 else
 bd (kp 48 sA.L) λca=>
 bd (sC 48 ca rA.1 ([(⟨p,value,0,owner⟩:af)]:List af)) λgO=>
 some ((⟨gO⟩:aA),0)
def ee (w:ai)(kind:Int):Option (Unit×ai):=bd (if w.x.E=0 then
  if (w.l.length+([(⟨kind,w.o.Path⟩:aF)]:List aF).length) *24<=2^46 then
  some (w.r.Shelf.L,w.r.aN.ct,w.r.aN.L,w.r.aR.L,w.r.Seen,w.o.Client,w.o.Seq,w.o.Kind,w.o.Path,w.o.Value,w.o.Version,w.o.Session,w.o.Span,w.x.Client,w.x.Seq,w.x.E,w.x.Value,w.x.Version,w.x.Names,w.l++([(⟨kind,w.o.Path⟩:aF)]:List aF))
  else none
  else
  some (w.r.Shelf.L,w.r.aN.ct,w.r.aN.L,w.r.aR.L,w.r.Seen,w.o.Client,w.o.Seq,w.o.Kind,w.o.Path,w.o.Value,w.o.Version,w.o.Session,w.o.Span,w.x.Client,w.x.Seq,w.x.E,w.x.Value,w.x.Version,w.x.Names,w.l):Option ((List af)×Int×(List aC)×(List aq)×(List aj)×Int×Int×Int×(List UInt8)×(List UInt8)×Int×Int×Int×Int×Int×Int×(List UInt8)×Int×(List (List UInt8))×(List aF))) λw1=>
 some ((),(⟨(⟨(⟨w1.1⟩:aA),(⟨w1.2.1,w1.2.2.1⟩:aK),(⟨w1.2.2.2.1⟩:cf),w1.2.2.2.2.1⟩:au),(⟨w1.2.2.2.2.2.1,w1.2.2.2.2.2.2.1,w1.2.2.2.2.2.2.2.1,w1.2.2.2.2.2.2.2.2.1,w1.2.2.2.2.2.2.2.2.2.1,w1.2.2.2.2.2.2.2.2.2.2.1,w1.2.2.2.2.2.2.2.2.2.2.2.1,w1.2.2.2.2.2.2.2.2.2.2.2.2.1⟩:aB),(⟨w1.2.2.2.2.2.2.2.2.2.2.2.2.2.1,w1.2.2.2.2.2.2.2.2.2.2.2.2.2.2.1,w1.2.2.2.2.2.2.2.2.2.2.2.2.2.2.2.1,w1.2.2.2.2.2.2.2.2.2.2.2.2.2.2.2.2.1,w1.2.2.2.2.2.2.2.2.2.2.2.2.2.2.2.2.2.1,w1.2.2.2.2.2.2.2.2.2.2.2.2.2.2.2.2.2.2.1⟩:aj),w1.2.2.2.2.2.2.2.2.2.2.2.2.2.2.2.2.2.2.2⟩:ai))
def jq (w:ai):Option (Unit×ai):=bd (if !decide (w.o.Session=0) then
  bd (wS w.r.aN w.o.Session) λrA=>
  some (!rA)
  else
  some false:Option Bool) λw1=>
 if w1 then
 some ((),(⟨w.r,w.o,(⟨w.x.Client,w.x.Seq,14,w.x.Value,w.x.Version,w.x.Names⟩:aj),w.l⟩:ai))
 else
 bd (mL w.r.Shelf w.o.Path w.o.Value w.o.Session) λaT=>
 bd (ee (⟨(⟨aT.1,w.r.aN,w.r.aR,w.r.Seen⟩:au),w.o,(⟨w.x.Client,w.x.Seq,aT.2,w.x.Value,w.x.Version,w.x.Names⟩:aj),w.l⟩:ai) 1) λca=>
 some ((),ca.2)
def mg (w:ai):Option (Unit×ai):=bd (ql w.r.Shelf w.o.Path) λrA=>some ((),(⟨w.r,w.o,(⟨w.x.Client,w.x.Seq,rA.2,rA.1.Value,rA.1.Version,w.x.Names⟩:aj),w.l⟩:ai))
def eW (sA:aA)(p:List UInt8)(version:Int):Option (Int×Int):=bd (ib sA p) λrA=>
 bd (if rA.2=0 then
  if !decide (version=(-1)) then
  ix sA.L rA.1 λy=>
  some (!decide (version=y.Version))
  else
  some false
  else
  some false:Option Bool) λw=>
 if w then
 some (rA.1,8)
 else
 some (rA.1,rA.2)
def wT (sA:aA)(p:List UInt8)(value:List UInt8)(version:Int):Option (aA×Int):=bd (eW sA p version) λrA=>
 if !decide (rA.2=0) then
 some (sA,rA.2)
 else
 if (1000:Int)<(value.length:Int) then
 some (sA,5)
 else
 ix sA.L rA.1 λy=>
 if (1000000000:Int)<=y.Version then
 some (sA,9)
 else
 bd (kp 48 sA.L) λaT=>
 ix aT rA.1 λy1=>
 ix (aT.set (sh rA.1) (⟨y1.Path,value,y1.Version,y1.bF⟩:af)) rA.1 λy2=>
 ix (aT.set (sh rA.1) (⟨y1.Path,value,y1.Version,y1.bF⟩:af)) rA.1 λy3=>
 some ((⟨(aT.set (sh rA.1) (⟨y1.Path,value,y1.Version,y1.bF⟩:af)).set (sh rA.1) (⟨y3.Path,y3.Value,c8 .i64 (y2.Version+1),y3.bF⟩:af)⟩:aA),0)
def mh (w:ai):Option (Unit×ai):=bd (wT w.r.Shelf w.o.Path w.o.Value w.o.Version) λrA=>
 bd (ee (⟨(⟨rA.1,w.r.aN,w.r.aR,w.r.Seen⟩:au),w.o,(⟨w.x.Client,w.x.Seq,rA.2,w.x.Value,w.x.Version,w.x.Names⟩:aj),w.l⟩:ai) 2) λaT=>
 bd (if aT.2.x.E=0 then
  bd (ql aT.2.r.Shelf aT.2.o.Path) λca=>
  some (aT.2.r.Shelf.L,aT.2.r.aN.ct,aT.2.r.aN.L,aT.2.r.aR.L,aT.2.r.Seen,aT.2.o.Client,aT.2.o.Seq,aT.2.o.Kind,aT.2.o.Path,aT.2.o.Value,aT.2.o.Version,aT.2.o.Session,aT.2.o.Span,aT.2.x.Client,aT.2.x.Seq,aT.2.x.E,aT.2.x.Value,ca.1.Version,aT.2.x.Names,aT.2.l)
  else
  some (aT.2.r.Shelf.L,aT.2.r.aN.ct,aT.2.r.aN.L,aT.2.r.aR.L,aT.2.r.Seen,aT.2.o.Client,aT.2.o.Seq,aT.2.o.Kind,aT.2.o.Path,aT.2.o.Value,aT.2.o.Version,aT.2.o.Session,aT.2.o.Span,aT.2.x.Client,aT.2.x.Seq,aT.2.x.E,aT.2.x.Value,aT.2.x.Version,aT.2.x.Names,aT.2.l):Option ((List af)×Int×(List aC)×(List aq)×(List aj)×Int×Int×Int×(List UInt8)×(List UInt8)×Int×Int×Int×Int×Int×Int×(List UInt8)×Int×(List (List UInt8))×(List aF))) λw1=>
 some ((),(⟨(⟨(⟨w1.1⟩:aA),(⟨w1.2.1,w1.2.2.1⟩:aK),(⟨w1.2.2.2.1⟩:cf),w1.2.2.2.2.1⟩:au),(⟨w1.2.2.2.2.2.1,w1.2.2.2.2.2.2.1,w1.2.2.2.2.2.2.2.1,w1.2.2.2.2.2.2.2.2.1,w1.2.2.2.2.2.2.2.2.2.1,w1.2.2.2.2.2.2.2.2.2.2.1,w1.2.2.2.2.2.2.2.2.2.2.2.1,w1.2.2.2.2.2.2.2.2.2.2.2.2.1⟩:aB),(⟨w1.2.2.2.2.2.2.2.2.2.2.2.2.2.1,w1.2.2.2.2.2.2.2.2.2.2.2.2.2.2.1,w1.2.2.2.2.2.2.2.2.2.2.2.2.2.2.2.1,w1.2.2.2.2.2.2.2.2.2.2.2.2.2.2.2.2.1,w1.2.2.2.2.2.2.2.2.2.2.2.2.2.2.2.2.2.1,w1.2.2.2.2.2.2.2.2.2.2.2.2.2.2.2.2.2.2.1⟩:aj),w1.2.2.2.2.2.2.2.2.2.2.2.2.2.2.2.2.2.2.2⟩:ai))
def jr (s1:List (List UInt8))(s2:List (List UInt8))(st:Int):Option (Int⊕(Unit⊕Bool)):=if st<(s1.length:Int) then
 ix s1 st λy=>
 ix s2 st λy1=>
 if !decide (y=y1) then
 some (.inr (.inr false))
 else
 some (.inl (c8 .i64 (st+1)))
 else
 some (.inr (.inl ()))
def fW (s1:List (List UInt8))(s2:List (List UInt8)):Option Bool:=if !decide ((s1.length:Int)=(s2.length:Int)) then
 some false
 else
 bd (Loop (jr s1 s2) 0) λw=>
 match w with
 | .inl p1=>some true
 | .inr p2=>some p2
def n7 (p:List UInt8)(q:List UInt8):Option Bool:=bd (iO p) λrA=>
 bd (iO q) λaT=>
 bd (if rA.2 then
  if aT.2 then
  if (rA.1.length:Int)<(aT.1.length:Int) then
  if (0:Int)<=0/\(0:Int)<=(rA.1.length:Int)/\(rA.1.length:Int)<=(aT.1.length:Int) then
  bd (fW rA.1 (AI (sh 0) (AS (sh (rA.1.length:Int)) aT.1))) λca=>
  some ca
  else none
  else
  some false
  else
  some false
  else
  some false:Option Bool) λw=>
 some w
def o8 (sA:aA)(p:List UInt8)(version:Int):Option (aA×Int):=bd (eW sA p version) λrA=>
 if p=([47]:List UInt8) then
 some (sA,13)
 else
 if !decide (rA.2=0) then
 some (sA,rA.2)
 else
 bd (if (c8 .i64 (rA.1+1))<(sA.L.length:Int) then
  ix sA.L (c8 .i64 (rA.1+1)) λy=>
  bd (n7 p y.Path) λaT=>
  some aT
  else
  some false:Option Bool) λw=>
 if w then
 some (sA,10)
 else
 bd (kp 48 sA.L) λca=>
 bd (Br ca rA.1 (c8 .i64 (rA.1+1))) λgO=>
 some ((⟨gO⟩:aA),0)
def jt (w:ai):Option (Unit×ai):=bd (o8 w.r.Shelf w.o.Path w.o.Version) λrA=>
 bd (ee (⟨(⟨rA.1,w.r.aN,w.r.aR,w.r.Seen⟩:au),w.o,(⟨w.x.Client,w.x.Seq,rA.2,w.x.Value,w.x.Version,w.x.Names⟩:aj),w.l⟩:ai) 3) λaT=>
 some ((),aT.2)
def qm (p:List UInt8):Option ((List (List UInt8))×Int):=bd (iO p) λrA=>
 if !rA.2 then
 some (([]:List (List UInt8)),13)
 else
 some (rA.1,0)
def o9 (a:aA)(a1:List UInt8)(rA:Int×Int)(aT:(List (List UInt8))×Int)(st:(List (List UInt8))×Int):Option (((List (List UInt8))×Int)⊕(List (List UInt8))):=if st.2<((AI (sh (c8 .i64 (rA.1+1))) (AS (sh (a.L.length:Int)) a.L)).length:Int) then
 ix (AI (sh (c8 .i64 (rA.1+1))) (AS (sh (a.L.length:Int)) a.L)) st.2 λy=>
 bd (n7 a1 y.Path) λca=>
 if !ca then
 some (.inr st.1)
 else
 bd (qm y.Path) λgO=>
 bd (if (gO.1.length:Int)=(c8 .i64 ((aT.1.length:Int)+1)) then
  ix gO.1 (aT.1.length:Int) λy1=>
  if (st.1.length+([y1]:List (List UInt8)).length) *16<=2^46 then
  some (st.1++([y1]:List (List UInt8)))
  else none
  else
  some st.1:Option (List (List UInt8))) λw1=>
 some (.inl (w1,c8 .i64 (st.2+1)))
 else
 some (.inr st.1)
def tt (a:aA)(a1:List UInt8):Option ((List (List UInt8))×Int):=bd (ib a a1) λrA=>
 if !decide (rA.2=0) then
 some (([]:List (List UInt8)),rA.2)
 else
 bd (qm a1) λaT=>
 if (0:Int)<=(c8 .i64 (rA.1+1))/\(c8 .i64 (rA.1+1))<=(a.L.length:Int)/\(a.L.length:Int)<=(a.L.length:Int) then
 bd (Loop (o9 a a1 rA aT) (([]:List (List UInt8)),0)) λw=>
 some (w,0)
 else none
def kN (w:ai):Option (Unit×ai):=bd (tt w.r.Shelf w.o.Path) λrA=>some ((),(⟨w.r,w.o,(⟨w.x.Client,w.x.Seq,rA.2,w.x.Value,w.x.Version,rA.1⟩:aj),w.l⟩:ai))
def tu (b:aK)(id:Int)(span:Int):Option (aK×Int):=bd (eQ b id) λrA=>
 bd (if id<1 then
  some true
  else
  if span<1 then
  some true
  else
  some (decide ((1000:Int)<span)):Option Bool) λw=>
 if w then
 some (b,1)
 else
 if rA.2 then
 some (b,7)
 else
 if (50:Int)<=(b.L.length:Int) then
 some (b,9)
 else
 bd (kp 24 b.L) λaT=>
 bd (sC 24 aT rA.1 ([(⟨id,span,c8 .i64 (b.ct+span)⟩:aC)]:List aC)) λca=>
 some ((⟨b.ct,ca⟩:aK),0)
def kO (w:ai):Option (Unit×ai):=bd (tu w.r.aN w.o.Session w.o.Span) λrA=>some ((),(⟨(⟨w.r.Shelf,rA.1,w.r.aR,w.r.Seen⟩:au),w.o,(⟨w.x.Client,w.x.Seq,rA.2,w.x.Value,w.x.Version,w.x.Names⟩:aj),w.l⟩:ai))
def rc (b:aK)(id:Int):Option (aK×Int):=bd (eQ b id) λrA=>
 if !rA.2 then
 some (b,14)
 else
 bd (kp 24 b.L) λaT=>
 ix aT rA.1 λy=>
 ix aT rA.1 λy1=>
 some ((⟨b.ct,aT.set (sh rA.1) (⟨y1.Id,y1.Span,c8 .i64 (b.ct+y.Span)⟩:aC)⟩:aK),0)
def j6 (w:ai):Option (Unit×ai):=bd (rc w.r.aN w.o.Session) λrA=>some ((),(⟨(⟨w.r.Shelf,rA.1,w.r.aR,w.r.Seen⟩:au),w.o,(⟨w.x.Client,w.x.Seq,rA.2,w.x.Value,w.x.Version,w.x.Names⟩:aj),w.l⟩:ai))
def re (b:aK)(id:Int):Option (aK×Int):=bd (eQ b id) λrA=>
 if !rA.2 then
 some (b,14)
 else
 bd (kp 24 b.L) λaT=>
 bd (Br aT rA.1 (c8 .i64 (rA.1+1))) λca=>
 some ((⟨b.ct,ca⟩:aK),0)
def pa (sA:aA)(owner:Int)(st:(List (List UInt8))×(List af)×Int):Option (((List (List UInt8))×(List af)×Int)⊕((List (List UInt8))×(List af))):=if st.2.2<(sA.L.length:Int) then
 ix sA.L st.2.2 λy=>
 bd (if (0:Int)<owner then
  some (decide (y.bF=owner))
  else
  some false:Option Bool) λw1=>
 if w1 then
 if (st.1.length+([y.Path]:List (List UInt8)).length) *16<=2^46 then
 some (.inl (st.1++([y.Path]:List (List UInt8)),st.2.1,c8 .i64 (st.2.2+1)))
 else none
 else
 if (st.2.1.length+([y]:List af).length) *48<=2^46 then
 some (.inl (st.1,st.2.1++([y]:List af),c8 .i64 (st.2.2+1)))
 else none
 else
 some (.inr (st.1,st.2.1))
def tw (sA:aA)(owner:Int):Option (aA×(List (List UInt8))):=bd (Loop (pa sA owner) (([]:List (List UInt8)),([]:List af),0)) λw=>some ((⟨w.2⟩:aA),w.1)
def ju (rA:aA×(List (List UInt8)))(st:Int×(List af)×Int×(List aC)×(List aq)×(List aj)×Int×Int×Int×(List UInt8)×(List UInt8)×Int×Int×Int×Int×Int×Int×(List UInt8)×Int×(List (List UInt8))×(List aF)):Option ((Int×(List af)×Int×(List aC)×(List aq)×(List aj)×Int×Int×Int×(List UInt8)×(List UInt8)×Int×Int×Int×Int×Int×Int×(List UInt8)×Int×(List (List UInt8))×(List aF))⊕((List af)×Int×(List aC)×(List aq)×(List aj)×Int×Int×Int×(List UInt8)×(List UInt8)×Int×Int×Int×Int×Int×Int×(List UInt8)×Int×(List (List UInt8))×(List aF))):=if st.1<(rA.2.length:Int) then
 ix rA.2 st.1 λy=>
 if (st.2.2.2.2.2.2.2.2.2.2.2.2.2.2.2.2.2.2.2.2.length+([(⟨3,y⟩:aF)]:List aF).length) *24<=2^46 then
 some (.inl (c8 .i64 (st.1+1),st.2.1,st.2.2.1,st.2.2.2.1,st.2.2.2.2.1,st.2.2.2.2.2.1,st.2.2.2.2.2.2.1,st.2.2.2.2.2.2.2.1,st.2.2.2.2.2.2.2.2.1,st.2.2.2.2.2.2.2.2.2.1,st.2.2.2.2.2.2.2.2.2.2.1,st.2.2.2.2.2.2.2.2.2.2.2.1,st.2.2.2.2.2.2.2.2.2.2.2.2.1,st.2.2.2.2.2.2.2.2.2.2.2.2.2.1,st.2.2.2.2.2.2.2.2.2.2.2.2.2.2.1,st.2.2.2.2.2.2.2.2.2.2.2.2.2.2.2.1,st.2.2.2.2.2.2.2.2.2.2.2.2.2.2.2.2.1,st.2.2.2.2.2.2.2.2.2.2.2.2.2.2.2.2.2.1,st.2.2.2.2.2.2.2.2.2.2.2.2.2.2.2.2.2.2.1,st.2.2.2.2.2.2.2.2.2.2.2.2.2.2.2.2.2.2.2.1,st.2.2.2.2.2.2.2.2.2.2.2.2.2.2.2.2.2.2.2.2++([(⟨3,y⟩:aF)]:List aF)))
 else none
 else
 some (.inr (st.2.1,st.2.2.1,st.2.2.2.1,st.2.2.2.2.1,st.2.2.2.2.2.1,st.2.2.2.2.2.2.1,st.2.2.2.2.2.2.2.1,st.2.2.2.2.2.2.2.2.1,st.2.2.2.2.2.2.2.2.2.1,st.2.2.2.2.2.2.2.2.2.2.1,st.2.2.2.2.2.2.2.2.2.2.2.1,st.2.2.2.2.2.2.2.2.2.2.2.2.1,st.2.2.2.2.2.2.2.2.2.2.2.2.2.1,st.2.2.2.2.2.2.2.2.2.2.2.2.2.2.1,st.2.2.2.2.2.2.2.2.2.2.2.2.2.2.2.1,st.2.2.2.2.2.2.2.2.2.2.2.2.2.2.2.2.1,st.2.2.2.2.2.2.2.2.2.2.2.2.2.2.2.2.2.1,st.2.2.2.2.2.2.2.2.2.2.2.2.2.2.2.2.2.2.1,st.2.2.2.2.2.2.2.2.2.2.2.2.2.2.2.2.2.2.2.1,st.2.2.2.2.2.2.2.2.2.2.2.2.2.2.2.2.2.2.2.2))
def jh (w:ai)(id:Int):Option (Unit×ai):=bd (tw w.r.Shelf id) λrA=>
 bd (Loop (ju rA) (0,rA.1.L,w.r.aN.ct,w.r.aN.L,w.r.aR.L,w.r.Seen,w.o.Client,w.o.Seq,w.o.Kind,w.o.Path,w.o.Value,w.o.Version,w.o.Session,w.o.Span,w.x.Client,w.x.Seq,w.x.E,w.x.Value,w.x.Version,w.x.Names,w.l)) λw1=>
 some ((),(⟨(⟨(⟨w1.1⟩:aA),(⟨w1.2.1,w1.2.2.1⟩:aK),(⟨w1.2.2.2.1⟩:cf),w1.2.2.2.2.1⟩:au),(⟨w1.2.2.2.2.2.1,w1.2.2.2.2.2.2.1,w1.2.2.2.2.2.2.2.1,w1.2.2.2.2.2.2.2.2.1,w1.2.2.2.2.2.2.2.2.2.1,w1.2.2.2.2.2.2.2.2.2.2.1,w1.2.2.2.2.2.2.2.2.2.2.2.1,w1.2.2.2.2.2.2.2.2.2.2.2.2.1⟩:aB),(⟨w1.2.2.2.2.2.2.2.2.2.2.2.2.2.1,w1.2.2.2.2.2.2.2.2.2.2.2.2.2.2.1,w1.2.2.2.2.2.2.2.2.2.2.2.2.2.2.2.1,w1.2.2.2.2.2.2.2.2.2.2.2.2.2.2.2.2.1,w1.2.2.2.2.2.2.2.2.2.2.2.2.2.2.2.2.2.1,w1.2.2.2.2.2.2.2.2.2.2.2.2.2.2.2.2.2.2.1⟩:aj),w1.2.2.2.2.2.2.2.2.2.2.2.2.2.2.2.2.2.2.2⟩:ai))
def j7 (w:ai):Option (Unit×ai):=bd (re w.r.aN w.o.Session) λrA=>
 bd (if rA.2=0 then
  bd (jh (⟨(⟨w.r.Shelf,rA.1,w.r.aR,w.r.Seen⟩:au),w.o,(⟨w.x.Client,w.x.Seq,rA.2,w.x.Value,w.x.Version,w.x.Names⟩:aj),w.l⟩:ai) w.o.Session) λaT=>
  some (aT.2.r.Shelf.L,aT.2.r.aN.ct,aT.2.r.aN.L,aT.2.r.aR.L,aT.2.r.Seen,aT.2.o.Client,aT.2.o.Seq,aT.2.o.Kind,aT.2.o.Path,aT.2.o.Value,aT.2.o.Version,aT.2.o.Session,aT.2.o.Span,aT.2.x.Client,aT.2.x.Seq,aT.2.x.E,aT.2.x.Value,aT.2.x.Version,aT.2.x.Names,aT.2.l)
  else
  some (w.r.Shelf.L,rA.1.ct,rA.1.L,w.r.aR.L,w.r.Seen,w.o.Client,w.o.Seq,w.o.Kind,w.o.Path,w.o.Value,w.o.Version,w.o.Session,w.o.Span,w.x.Client,w.x.Seq,rA.2,w.x.Value,w.x.Version,w.x.Names,w.l):Option ((List af)×Int×(List aC)×(List aq)×(List aj)×Int×Int×Int×(List UInt8)×(List UInt8)×Int×Int×Int×Int×Int×Int×(List UInt8)×Int×(List (List UInt8))×(List aF))) λw1=>
 some ((),(⟨(⟨(⟨w1.1⟩:aA),(⟨w1.2.1,w1.2.2.1⟩:aK),(⟨w1.2.2.2.1⟩:cf),w1.2.2.2.2.1⟩:au),(⟨w1.2.2.2.2.2.1,w1.2.2.2.2.2.2.1,w1.2.2.2.2.2.2.2.1,w1.2.2.2.2.2.2.2.2.1,w1.2.2.2.2.2.2.2.2.2.1,w1.2.2.2.2.2.2.2.2.2.2.1,w1.2.2.2.2.2.2.2.2.2.2.2.1,w1.2.2.2.2.2.2.2.2.2.2.2.2.1⟩:aB),(⟨w1.2.2.2.2.2.2.2.2.2.2.2.2.2.1,w1.2.2.2.2.2.2.2.2.2.2.2.2.2.2.1,w1.2.2.2.2.2.2.2.2.2.2.2.2.2.2.2.1,w1.2.2.2.2.2.2.2.2.2.2.2.2.2.2.2.2.1,w1.2.2.2.2.2.2.2.2.2.2.2.2.2.2.2.2.2.1,w1.2.2.2.2.2.2.2.2.2.2.2.2.2.2.2.2.2.2.1⟩:aj),w1.2.2.2.2.2.2.2.2.2.2.2.2.2.2.2.2.2.2.2⟩:ai))
def pc (b:aK)(now:Int)(st:(List Int)×Int×(List aC)×Int):Option (((List Int)×Int×(List aC)×Int)⊕((List Int)×Int×(List aC))):=if st.2.2.2<(b.L.length:Int) then
 ix b.L st.2.2.2 λy=>
 if y.cF<=now then
 if (st.1.length+([y.Id]:List Int).length) *8<=2^46 then
 some (.inl (st.1++([y.Id]:List Int),st.2.1,st.2.2.1,c8 .i64 (st.2.2.2+1)))
 else none
 else
 if (st.2.2.1.length+([y]:List aC).length) *24<=2^46 then
 some (.inl (st.1,st.2.1,st.2.2.1++([y]:List aC),c8 .i64 (st.2.2.2+1)))
 else none
 else
 some (.inr (st.1,st.2.1,st.2.2.1))
def tx (b:aK)(now:Int):Option (aK×(List Int)×Int):=if now<b.ct then
 some (b,([]:List Int),15)
 else
 if (1000000000:Int)<now then
 some (b,([]:List Int),5)
 else
 bd (Loop (pc b now) (([]:List Int),now,([]:List aC),0)) λw=>
 some ((⟨w.2.1,w.2.2⟩:aK),w.1,0)
def jv (rA:aK×(List Int)×Int)(st:Int×(List af)×Int×(List aC)×(List aq)×(List aj)×Int×Int×Int×(List UInt8)×(List UInt8)×Int×Int×Int×Int×Int×Int×(List UInt8)×Int×(List (List UInt8))×(List aF)):Option ((Int×(List af)×Int×(List aC)×(List aq)×(List aj)×Int×Int×Int×(List UInt8)×(List UInt8)×Int×Int×Int×Int×Int×Int×(List UInt8)×Int×(List (List UInt8))×(List aF))⊕((List af)×Int×(List aC)×(List aq)×(List aj)×Int×Int×Int×(List UInt8)×(List UInt8)×Int×Int×Int×Int×Int×Int×(List UInt8)×Int×(List (List UInt8))×(List aF))):=if st.1<(rA.2.1.length:Int) then
 ix rA.2.1 st.1 λy=>
 bd (jh (⟨(⟨(⟨st.2.1⟩:aA),(⟨st.2.2.1,st.2.2.2.1⟩:aK),(⟨st.2.2.2.2.1⟩:cf),st.2.2.2.2.2.1⟩:au),(⟨st.2.2.2.2.2.2.1,st.2.2.2.2.2.2.2.1,st.2.2.2.2.2.2.2.2.1,st.2.2.2.2.2.2.2.2.2.1,st.2.2.2.2.2.2.2.2.2.2.1,st.2.2.2.2.2.2.2.2.2.2.2.1,st.2.2.2.2.2.2.2.2.2.2.2.2.1,st.2.2.2.2.2.2.2.2.2.2.2.2.2.1⟩:aB),(⟨st.2.2.2.2.2.2.2.2.2.2.2.2.2.2.1,st.2.2.2.2.2.2.2.2.2.2.2.2.2.2.2.1,st.2.2.2.2.2.2.2.2.2.2.2.2.2.2.2.2.1,st.2.2.2.2.2.2.2.2.2.2.2.2.2.2.2.2.2.1,st.2.2.2.2.2.2.2.2.2.2.2.2.2.2.2.2.2.2.1,st.2.2.2.2.2.2.2.2.2.2.2.2.2.2.2.2.2.2.2.1⟩:aj),st.2.2.2.2.2.2.2.2.2.2.2.2.2.2.2.2.2.2.2.2⟩:ai) y) λaT=>
 some (.inl (c8 .i64 (st.1+1),aT.2.r.Shelf.L,aT.2.r.aN.ct,aT.2.r.aN.L,aT.2.r.aR.L,aT.2.r.Seen,aT.2.o.Client,aT.2.o.Seq,aT.2.o.Kind,aT.2.o.Path,aT.2.o.Value,aT.2.o.Version,aT.2.o.Session,aT.2.o.Span,aT.2.x.Client,aT.2.x.Seq,aT.2.x.E,aT.2.x.Value,aT.2.x.Version,aT.2.x.Names,aT.2.l))
 else
 some (.inr (st.2.1,st.2.2.1,st.2.2.2.1,st.2.2.2.2.1,st.2.2.2.2.2.1,st.2.2.2.2.2.2.1,st.2.2.2.2.2.2.2.1,st.2.2.2.2.2.2.2.2.1,st.2.2.2.2.2.2.2.2.2.1,st.2.2.2.2.2.2.2.2.2.2.1,st.2.2.2.2.2.2.2.2.2.2.2.1,st.2.2.2.2.2.2.2.2.2.2.2.2.1,st.2.2.2.2.2.2.2.2.2.2.2.2.2.1,st.2.2.2.2.2.2.2.2.2.2.2.2.2.2.1,st.2.2.2.2.2.2.2.2.2.2.2.2.2.2.2.1,st.2.2.2.2.2.2.2.2.2.2.2.2.2.2.2.2.1,st.2.2.2.2.2.2.2.2.2.2.2.2.2.2.2.2.2.1,st.2.2.2.2.2.2.2.2.2.2.2.2.2.2.2.2.2.2.1,st.2.2.2.2.2.2.2.2.2.2.2.2.2.2.2.2.2.2.2.1,st.2.2.2.2.2.2.2.2.2.2.2.2.2.2.2.2.2.2.2.2))
def kP (w:ai):Option (Unit×ai):=bd (tx w.r.aN w.o.Span) λrA=>
 if !decide (rA.2.2=0) then
 some ((),(⟨w.r,w.o,(⟨w.x.Client,w.x.Seq,rA.2.2,w.x.Value,w.x.Version,w.x.Names⟩:aj),w.l⟩:ai))
 else
 bd (Loop (jv rA) (0,w.r.Shelf.L,rA.1.ct,rA.1.L,w.r.aR.L,w.r.Seen,w.o.Client,w.o.Seq,w.o.Kind,w.o.Path,w.o.Value,w.o.Version,w.o.Session,w.o.Span,w.x.Client,w.x.Seq,rA.2.2,w.x.Value,rA.1.ct,w.x.Names,w.l)) λw1=>
 some ((),(⟨(⟨(⟨w1.1⟩:aA),(⟨w1.2.1,w1.2.2.1⟩:aK),(⟨w1.2.2.2.1⟩:cf),w1.2.2.2.2.1⟩:au),(⟨w1.2.2.2.2.2.1,w1.2.2.2.2.2.2.1,w1.2.2.2.2.2.2.2.1,w1.2.2.2.2.2.2.2.2.1,w1.2.2.2.2.2.2.2.2.2.1,w1.2.2.2.2.2.2.2.2.2.2.1,w1.2.2.2.2.2.2.2.2.2.2.2.1,w1.2.2.2.2.2.2.2.2.2.2.2.2.1⟩:aB),(⟨w1.2.2.2.2.2.2.2.2.2.2.2.2.2.1,w1.2.2.2.2.2.2.2.2.2.2.2.2.2.2.1,w1.2.2.2.2.2.2.2.2.2.2.2.2.2.2.2.1,w1.2.2.2.2.2.2.2.2.2.2.2.2.2.2.2.2.1,w1.2.2.2.2.2.2.2.2.2.2.2.2.2.2.2.2.2.1,w1.2.2.2.2.2.2.2.2.2.2.2.2.2.2.2.2.2.2.1⟩:aj),w1.2.2.2.2.2.2.2.2.2.2.2.2.2.2.2.2.2.2.2⟩:ai))
def eM (sA:List aq)(v:aq)(st:Int):Option (Int⊕(Unit⊕Int)):=if st<(sA.length:Int) then
 ix sA st λy=>
 if ((decide (v.Path=y.Path))&&((decide (v.Client=y.Client))&&(decide (v.Kids=y.Kids)))) then
 some (.inr (.inr st))
 else
 some (.inl (c8 .i64 (st+1)))
 else
 some (.inr (.inl ()))
def iw (sA:List aq)(v:aq):Option Int:=bd (Loop (eM sA v) 0) λw=>
 match w with
 | .inl p1=>some (-1)
 | .inr p2=>some p2
def eu (sA:List aq)(v:aq):Option Bool:=bd (iw sA v) λrA=>some (decide ((0:Int)<=rA))
def s5 (t:cf)(w:aq):Option (cf×Int):=bd (kq w.Path) λrA=>
 if !rA then
 some (t,13)
 else
 if w.Client<0 then
 some (t,1)
 else
 bd (eu t.L w) λaT=>
 if aT then
 some (t,0)
 else
 if (200:Int)<=(t.L.length:Int) then
 some (t,9)
 else
 bd (kp 32 t.L) λca=>
 if (ca.length+([w]:List aq).length) *32<=2^46 then
 some ((⟨ca++([w]:List aq)⟩:cf),0)
 else none
def j8 (w:ai):Option (Unit×ai):=bd (s5 w.r.aR (⟨w.o.Path,w.o.Client,decide (w.o.Kind=11)⟩:aq)) λrA=>some ((),(⟨(⟨w.r.Shelf,w.r.aN,rA.1,w.r.Seen⟩:au),w.o,(⟨w.x.Client,w.x.Seq,rA.2,w.x.Value,w.x.Version,w.x.Names⟩:aj),w.l⟩:ai))
def tz:Option (List Nat):=some ([(105:Nat),(106:Nat),(107:Nat),(108:Nat),(109:Nat),(110:Nat),(111:Nat),(112:Nat),(113:Nat),(114:Nat),(115:Nat),(115:Nat)]:List Nat)
def nw (c:aF)(w:aq):Option Bool:=bd (if c.Kind<1 then
  some true
  else
  if (3:Int)<c.Kind then
  some true
  else
  bd (kq c.Path) λrA=>
  some (!rA):Option Bool) λw1=>
 if w1 then
 some false
 else
 if !w.Kids then
 some (decide (c.Path=w.Path))
 else
 bd (oz c.Path) λaT=>
 bd (if aT.2=0 then
  if !decide (c.Kind=2) then
  some (decide (aT.1=w.Path))
  else
  some false
  else
  some false:Option Bool) λw2=>
 some w2
def mM (w:aq)(c:aF)(c1:List bI):Option (Bool×(List bI)):=bd (nw c w) λrA=>
 bd (if rA then
  if (c1.length+([(⟨w,c⟩:bI)]:List bI).length) *56<=2^46 then
  some (c1++([(⟨w,c⟩:bI)]:List bI))
  else none
  else
  some c1:Option (List bI)) λw1=>
 some (rA,w1)
def pe (lA:List aF)(st:(List aq)×(List bI)×Int):Option (((List aq)×(List bI)×Int)⊕((List aq)×(List bI))):=if st.2.2<(lA.length:Int) then
 ix lA st.2.2 λy=>
 bd (DP (λu sA=>mM u y sA) st.2.1 st.1) λaT=>
 some (.inl (aT.1,aT.2,c8 .i64 (st.2.2+1)))
 else
 some (.inr (st.1,st.2.1))
def tA (t:cf)(lA:List aF):Option (cf×(List bI)):=bd (kp 32 t.L) λrA=>
 bd (Loop (pe lA) (rA,([]:List bI),0)) λw=>
 some ((⟨w.1⟩:cf),w.2)
def nx (k:Nat)(x0:ai):Option (Unit×ai):=if k=105 then n6 x0 else if k=106 then jq x0 else if k=107 then mg x0 else if k=108 then mh x0 else if k=109 then jt x0 else if k=110 then kN x0 else if k=111 then kO x0 else if k=112 then j6 x0 else if k=113 then j7 x0 else if k=114 then kP x0 else if k=115 then j8 x0 else none
def mi (a:au)(a1:aB):Option (au×aj×(List bI)):=bd (j5 a a1) λrA=>
 if rA.2 then
 some (a,rA.1,([]:List bI))
 else
 bd (tz) λaT=>
 ix aT a1.Kind λy=>
 bd (nx y (⟨a,a1,rA.1,([]:List aF)⟩:ai)) λca=>
 bd (tA ca.2.r.aR ca.2.l) λgO=>
 bd (kp 72 a.Seen) λoP=>
 bd (fV a a1.Client) λrR=>
 bd (if rR.2 then
  ix oP rR.1 λy1=>
  some (ca.2.r.Shelf.L,ca.2.r.aN.ct,ca.2.r.aN.L,gO.1.L,oP.set (sh rR.1) ca.2.x,ca.2.o.Client,ca.2.o.Seq,ca.2.o.Kind,ca.2.o.Path,ca.2.o.Value,ca.2.o.Version,ca.2.o.Session,ca.2.o.Span,ca.2.x.Client,ca.2.x.Seq,ca.2.x.E,ca.2.x.Value,ca.2.x.Version,ca.2.x.Names,ca.2.l)
  else
  bd (sC 72 oP rR.1 ([ca.2.x]:List aj)) λzg=>
  some (ca.2.r.Shelf.L,ca.2.r.aN.ct,ca.2.r.aN.L,gO.1.L,zg,ca.2.o.Client,ca.2.o.Seq,ca.2.o.Kind,ca.2.o.Path,ca.2.o.Value,ca.2.o.Version,ca.2.o.Session,ca.2.o.Span,ca.2.x.Client,ca.2.x.Seq,ca.2.x.E,ca.2.x.Value,ca.2.x.Version,ca.2.x.Names,ca.2.l):Option ((List af)×Int×(List aC)×(List aq)×(List aj)×Int×Int×Int×(List UInt8)×(List UInt8)×Int×Int×Int×Int×Int×Int×(List UInt8)×Int×(List (List UInt8))×(List aF))) λw=>
 some ((⟨(⟨w.1⟩:aA),(⟨w.2.1,w.2.2.1⟩:aK),(⟨w.2.2.2.1⟩:cf),w.2.2.2.2.1⟩:au),(⟨w.2.2.2.2.2.2.2.2.2.2.2.2.2.1,w.2.2.2.2.2.2.2.2.2.2.2.2.2.2.1,w.2.2.2.2.2.2.2.2.2.2.2.2.2.2.2.1,w.2.2.2.2.2.2.2.2.2.2.2.2.2.2.2.2.1,w.2.2.2.2.2.2.2.2.2.2.2.2.2.2.2.2.2.1,w.2.2.2.2.2.2.2.2.2.2.2.2.2.2.2.2.2.2.1⟩:aj),gO.2)
def Fm:Option aA:=some (⟨([(⟨([47]:List UInt8),([]:List UInt8),0,0⟩:af)]:List af)⟩:aA)
def Fo:Option aK:=some (⟨0,([]:List aC)⟩:aK)
def Bu:Option au:=bd (Fm) λrA=>
 bd (Fo) λaT=>
 some (⟨rA,aT,(⟨([]:List aq)⟩:cf),([]:List aj)⟩:au)
def gQ (s1:List af)(s2:List af)(st:Int):Option (Int⊕(Unit⊕Bool)):=if st<(s1.length:Int) then
 ix s1 st λy=>
 ix s2 st λy1=>
 if !((decide (y.Path=y1.Path))&&((decide (y.Value=y1.Value))&&((decide (y.Version=y1.Version))&&(decide (y.bF=y1.bF))))) then
 some (.inr (.inr false))
 else
 some (.inl (c8 .i64 (st+1)))
 else
 some (.inr (.inl ()))
def iZ (s1:List af)(s2:List af):Option Bool:=if !decide ((s1.length:Int)=(s2.length:Int)) then
 some false
 else
 bd (Loop (gQ s1 s2) 0) λw=>
 match w with
 | .inl p1=>some true
 | .inr p2=>some p2
def tB (a:aA)(b:aA):Option Bool:=bd (iZ a.L b.L) λrA=>some rA
def ef (s1:List aC)(s2:List aC)(st:Int):Option (Int⊕(Unit⊕Bool)):=if st<(s1.length:Int) then
 ix s1 st λy=>
 ix s2 st λy1=>
 if !((decide (y.Id=y1.Id))&&((decide (y.Span=y1.Span))&&(decide (y.cF=y1.cF)))) then
 some (.inr (.inr false))
 else
 some (.inl (c8 .i64 (st+1)))
 else
 some (.inr (.inl ()))
def eN (s1:List aC)(s2:List aC):Option Bool:=if !decide ((s1.length:Int)=(s2.length:Int)) then
 some false
 else
 bd (Loop (ef s1 s2) 0) λw=>
 match w with
 | .inl p1=>some true
 | .inr p2=>some p2
def tC (a:aK)(b:aK):Option Bool:=bd (if a.ct=b.ct then
  bd (eN a.L b.L) λrA=>
  some rA
  else
  some false:Option Bool) λw=>
 some w
def eO (s1:List aq)(s2:List aq)(st:Int):Option (Int⊕(Unit⊕Bool)):=if st<(s1.length:Int) then
 ix s1 st λy=>
 ix s2 st λy1=>
 if !((decide (y.Path=y1.Path))&&((decide (y.Client=y1.Client))&&(decide (y.Kids=y1.Kids)))) then
 some (.inr (.inr false))
 else
 some (.inl (c8 .i64 (st+1)))
 else
 some (.inr (.inl ()))
def fp (s1:List aq)(s2:List aq):Option Bool:=if !decide ((s1.length:Int)=(s2.length:Int)) then
 some false
 else
 bd (Loop (eO s1 s2) 0) λw=>
 match w with
 | .inl p1=>some true
 | .inr p2=>some p2
def tD (a:cf)(b:cf):Option Bool:=bd (fp a.L b.L) λrA=>some rA
def mj (a:aj)(b:aj):Option Bool:=bd (if a.Client=b.Client then
  if a.Seq=b.Seq then
  if a.E=b.E then
  if a.Value=b.Value then
  if a.Version=b.Version then
  bd (fW a.Names b.Names) λrA=>
  some rA
  else
  some false
  else
  some false
  else
  some false
  else
  some false
  else
  some false:Option Bool) λw=>
 some w
def bL (s1:List aj)(s2:List aj)(eq:aj->aj->Option Bool)(st:Int):Option (Int⊕(Unit⊕Bool)):=if st<(s1.length:Int) then
 ix s1 st λy=>
 ix s2 st λy1=>
 bd (eq y y1) λrA=>
 if !rA then
 some (.inr (.inr false))
 else
 some (.inl (c8 .i64 (st+1)))
 else
 some (.inr (.inl ()))
def bQ (s1:List aj)(s2:List aj)(eq:aj->aj->Option Bool):Option Bool:=if !decide ((s1.length:Int)=(s2.length:Int)) then
 some false
 else
 bd (Loop (bL s1 s2 eq) 0) λw=>
 match w with
 | .inl p1=>some true
 | .inr p2=>some p2
def tE (a:au)(b:au):Option Bool:=bd (bd (tB a.Shelf b.Shelf) λrA=>
  if rA then
  bd (tC a.aN b.aN) λaT=>
  if aT then
  bd (tD a.aR b.aR) λca=>
  if ca then
  bd (bQ a.Seen b.Seen mj) λgO=>
  some gO
  else
  some false
  else
  some false
  else
  some false:Option Bool) λw=>
 some w
def s6:Option Bool:=bd (Bu) λrA=>
 bd (mi rA (⟨1,1,1,([47,97]:List UInt8),([120]:List UInt8),0,0,0⟩:aB)) λaT=>
 bd (mi aT.1 (⟨1,1,1,([47,97]:List UInt8),([120]:List UInt8),0,0,0⟩:aB)) λca=>
 bd (qk ca.1 1) λgO=>
 bd (if aT.2.1.E=0 then
  if ca.2.1.E=0 then
  if (aT.1.Shelf.L.length:Int)=2 then
  bd (tE aT.1 ca.1) λoP=>
  if oP then
  if gO.2 then
  some (decide (gO.1.Seq=1))
  else
  some false
  else
  some false
  else
  some false
  else
  some false
  else
  some false:Option Bool) λw=>
 some w
def Ak (kind:Int):Option (List UInt8):=if kind=1 then
 some ([112,118,115]:List UInt8)
 else
 bd (if kind=2 then
  some (decide (kind=2))
  else
  bd (if kind=5 then
   some (decide (kind=5))
   else
   bd (if kind=10 then
    some (decide (kind=10))
    else
    some (decide (kind=11)):Option Bool) λw2=>
   some w2:Option Bool) λw1=>
  some w1:Option Bool) λw=>
 if w then
 some ([112]:List UInt8)
 else
 if kind=3 then
 some ([112,118,110]:List UInt8)
 else
 if kind=4 then
 some ([112,110]:List UInt8)
 else
 if kind=6 then
 some ([115,116]:List UInt8)
 else
 bd (if kind=7 then
  some (decide (kind=7))
  else
  some (decide (kind=8)):Option Bool) λw3=>
 if w3 then
 some ([115]:List UInt8)
 else
 if kind=9 then
 some ([116]:List UInt8)
 else
 some ([]:List UInt8)
def Al (sA:List UInt8)(c:Int)(st:Int):Option (Int⊕(Unit⊕Bool)):=if st<(sA.length:Int) then
 if (0:Int)<=st/\st<(sA.length:Int) then
 if ((sA.getD (sh st) 0).toNat:Int)=c then
 some (.inr (.inr true))
 else
 some (.inl (c8 .i64 (st+1)))
 else none
 else
 some (.inr (.inl ()))
def iy (sA:List UInt8)(c:Int):Option Bool:=bd (Loop (Al sA c) 0) λw=>
 match w with
 | .inl p1=>some false
 | .inr p2=>some p2
def DS (a:jZ):Option Bool:=bd (if a.Client<0 then
  some true
  else
  if (1000:Int)<a.Client then
  some true
  else
  if a.Seq<1 then
  some true
  else
  if (1000000000:Int)<a.Seq then
  some true
  else
  if a.Kind<0 then
  some true
  else
  if (11:Int)<a.Kind then
  some true
  else
  if (100:Int)<(a.Path.length:Int) then
  some true
  else
  some (decide ((1000:Int)<(a.Value.length:Int))):Option Bool) λw=>
 if w then
 some false
 else
 bd (Ak a.Kind) λrA=>
 bd (bd (iy rA 112) λaT=>
  if aT then
  bd (iy rA 118) λca=>
  if ca then
  some true
  else
  some (decide (a.Value=([]:List UInt8)))
  else
  if a.Path=([]:List UInt8) then
  bd (iy rA 118) λgO=>
  if gO then
  some true
  else
  some (decide (a.Value=([]:List UInt8)))
  else
  some false:Option Bool) λw1=>
 bd (if w1 then
  bd (iy rA 110) λoP=>
  if oP then
  bd (iy rA 115) λrR=>
  if rR then
  bd (iy rA 116) λzg=>
  if zg then
  some true
  else
  some (decide (a.Span=0))
  else
  if a.Session=0 then
  bd (iy rA 116) λHq=>
  if Hq then
  some true
  else
  some (decide (a.Span=0))
  else
  some false
  else
  if a.Version=0 then
  bd (iy rA 115) λKB=>
  if KB then
  bd (iy rA 116) λR9=>
  if R9 then
  some true
  else
  some (decide (a.Span=0))
  else
  if a.Session=0 then
  bd (iy rA 116) λAm=>
  if Am then
  some true
  else
  some (decide (a.Span=0))
  else
  some false
  else
  some false
  else
  some false:Option Bool) λw2=>
 some w2
def tF (rA:b6)(dI:Int)(st:Int×Int×Int×(List UInt8)×Int×(List (List UInt8))×Int):Option ((Int×Int×Int×(List UInt8)×Int×(List (List UInt8))×Int)⊕((Int×Int×Int×(List UInt8)×Int×(List (List UInt8)))⊕(Int×Int×Int×(List UInt8)×Int×(List (List UInt8))×Bool))):=if st.2.2.2.2.2.2<(rA.Seen.length:Int) then
 ix rA.Seen st.2.2.2.2.2.2 λy=>
 if y.Client=dI then
 ix rA.Seen st.2.2.2.2.2.2 λy1=>
 some (.inr (.inr (y1.Client,y1.Seq,y1.E,y1.Value,y1.Version,y1.Names,true)))
 else
 some (.inl (st.1,st.2.1,st.2.2.1,st.2.2.2.1,st.2.2.2.2.1,st.2.2.2.2.2.1,c8 .i64 (st.2.2.2.2.2.2+1)))
 else
 some (.inr (.inl (st.1,st.2.1,st.2.2.1,st.2.2.2.1,st.2.2.2.2.1,st.2.2.2.2.2.1)))
def wU (rA:b6)(dI:Int):Option (aD×Bool):=bd (Loop (tF rA dI) (0,0,0,([]:List UInt8),0,([]:List (List UInt8)),0)) λw=>
 match w with
 | .inl p1=>some ((⟨0,0,0,([]:List UInt8),0,([]:List (List UInt8))⟩:aD),false)
 | .inr p2=>some ((⟨p2.1,p2.2.1,p2.2.2.1,p2.2.2.2.1,p2.2.2.2.2.1,p2.2.2.2.2.2.1⟩:aD),p2.2.2.2.2.2.2)
def wV (b:cJ)(id:Int)(st:Int):Option (Int⊕(Unit⊕Bool)):=if st<(b.L.length:Int) then
 ix b.L st λy=>
 if y.Id=id then
 some (.inr (.inr true))
 else
 some (.inl (c8 .i64 (st+1)))
 else
 some (.inr (.inl ()))
def qH (b:cJ)(id:Int):Option Bool:=bd (Loop (wV b id) 0) λw=>
 match w with
 | .inl p1=>some false
 | .inr p2=>some p2
def pf (a:bE)(a1:List UInt8)(a2:List UInt8)(a3:Int)(st:(List aY)×Bool×Int):Option (((List aY)×Bool×Int)⊕((List aY)×Bool)):=if st.2.2<(a.L.length:Int) then
 bd (if !st.2.1 then
  ix a.L st.2.2 λy1=>
  bd (s4 a1 y1.Path) λoP=>
  some oP
  else
  some false:Option Bool) λw1=>
 bd (if w1 then
  if (st.1.length+([(⟨a1,a2,0,a3⟩:aY)]:List aY).length) *48<=2^46 then
  some (st.1++([(⟨a1,a2,0,a3⟩:aY)]:List aY),true)
  else none
  else
  some (st.1,st.2.1):Option ((List aY)×Bool)) λw2=>
 ix a.L st.2.2 λy2=>
 if (w2.1.length+([y2]:List aY).length) *48<=2^46 then
 some (.inl (w2.1++([y2]:List aY),w2.2,c8 .i64 (st.2.2+1)))
 else none
 else
 some (.inr (st.1,st.2.1))
def tG (a:bE)(a1:List UInt8)(a2:List UInt8)(a3:Int):Option (bE×Int):=bd (gM a1) λrA=>
 if !rA then
 some (a,13)
 else
 bd (nh a a1) λaT=>
 if (0:Int)<=aT then
 some (a,7)
 else
 bd (jH a1) λca=>
 bd (nh a ca.1) λgO=>
 if gO<0 then
 some (a,6)
 else
 ix a.L gO λy=>
 if !decide (y.bF=0) then
 some (a,10)
 else
 if (1000:Int)<(a2.length:Int) then
 some (a,5)
 else
 if a3<0 then
 some (a,1)
 else
 if (200:Int)<=(a.L.length:Int) then
 some (a,9)
 else
 bd (Loop (pf a a1 a2 a3) (([]:List aY),false,0)) λw=>
 bd (if !w.2 then
  if (w.1.length+([(⟨a1,a2,0,a3⟩:aY)]:List aY).length) *48<=2^46 then
  some (w.1++([(⟨a1,a2,0,a3⟩:aY)]:List aY))
  else none
  else
  some w.1:Option (List aY)) λw3=>
 some ((⟨w3⟩:bE),0)
def sG (sA:bE)(p:List UInt8):Option (aY×Int):=bd (gM p) λrA=>
 if !rA then
 some ((⟨([]:List UInt8),([]:List UInt8),0,0⟩:aY),13)
 else
 bd (nh sA p) λaT=>
 if aT<0 then
 some ((⟨([]:List UInt8),([]:List UInt8),0,0⟩:aY),6)
 else
 ix sA.L aT λy=>
 some (y,0)
def DT (sA:bE)(p:List UInt8)(value:List UInt8)(version:Int):Option (bE×Int):=bd (sG sA p) λrA=>
 if !decide (rA.2=0) then
 some (sA,rA.2)
 else
 bd (if !decide (version=(-1)) then
  some (!decide (version=rA.1.Version))
  else
  some false:Option Bool) λw=>
 if w then
 some (sA,8)
 else
 if (1000:Int)<(value.length:Int) then
 some (sA,5)
 else
 if rA.1.Version=1000000000 then
 some (sA,9)
 else
 if (([]:List aY).length+sA.L.length) *48<=2^46 then
 bd (nh sA p) λaT=>
 ix (([]:List aY)++sA.L) aT λy=>
 some ((⟨(([]:List aY)++sA.L).set (sh aT) (⟨p,value,c8 .i64 (rA.1.Version+1),rA.1.bF⟩:aY)⟩:bE),0)
 else none
def tH (sA:bE)(p:List UInt8)(st:(List (List UInt8))×Int):Option (((List (List UInt8))×Int)⊕(List (List UInt8))):=if st.2<(sA.L.length:Int) then
 ix sA.L st.2 λy=>
 bd (jH y.Path) λrA=>
 bd (if rA.2=0 then
  some (decide (rA.1=p))
  else
  some false:Option Bool) λw1=>
 bd (if w1 then
  ix sA.L st.2 λy1=>
  bd (ov y1.Path) λaT=>
  ix aT.1 (c8 .i64 ((aT.1.length:Int)-1)) λy2=>
  if (st.1.length+([y2]:List (List UInt8)).length) *16<=2^46 then
  some (st.1++([y2]:List (List UInt8)))
  else none
  else
  some st.1:Option (List (List UInt8))) λw2=>
 some (.inl (w2,c8 .i64 (st.2+1)))
 else
 some (.inr st.1)
def wW (sA:bE)(p:List UInt8):Option (List (List UInt8)):=bd (Loop (tH sA p) (([]:List (List UInt8)),0)) λw=>some w
def tI (sA:bE)(p:List UInt8)(version:Int):Option (bE×Int):=bd (sG sA p) λrA=>
 if !decide (rA.2=0) then
 some (sA,rA.2)
 else
 if p=([47]:List UInt8) then
 some (sA,13)
 else
 bd (if !decide (version=(-1)) then
  some (!decide (version=rA.1.Version))
  else
  some false:Option Bool) λw=>
 if w then
 some (sA,8)
 else
 bd (wW sA p) λaT=>
 if (0:Int)<(aT.length:Int) then
 some (sA,10)
 else
 bd (nh sA p) λca=>
 if (0:Int)<=0/\(0:Int)<=ca/\ca<=(sA.L.length:Int) then
 if (([]:List aY).length+(AI (sh 0) (AS (sh ca) sA.L)).length) *48<=2^46 then
 if (0:Int)<=(c8 .i64 (ca+1))/\(c8 .i64 (ca+1))<=(sA.L.length:Int)/\(sA.L.length:Int)<=(sA.L.length:Int) then
 if ((([]:List aY)++(AI (sh 0) (AS (sh ca) sA.L))).length+(AI (sh (c8 .i64 (ca+1))) (AS (sh (sA.L.length:Int)) sA.L)).length) *48<=2^46 then
 some ((⟨(([]:List aY)++(AI (sh 0) (AS (sh ca) sA.L)))++(AI (sh (c8 .i64 (ca+1))) (AS (sh (sA.L.length:Int)) sA.L))⟩:bE),0)
 else none
 else none
 else none
 else none
def An (sA:bE)(p:List UInt8):Option ((List (List UInt8))×Int):=bd (sG sA p) λrA=>
 if !decide (rA.2=0) then
 some (([]:List (List UInt8)),rA.2)
 else
 bd (wW sA p) λaT=>
 some (aT,0)
def oJ (a:b6)(a1:jZ):Option (b6×aD×(List bq)):=bd (if a1.Kind=1 then
  bd (if !decide (a1.Session=0) then
   if a1.Session<0 then
   some true
   else
   bd (qH a.aN a1.Session) λrA=>
   some (!rA)
   else
   some false:Option Bool) λw1=>
  bd (if w1 then
   some (a.Shelf.L,a.aN.ct,a.aN.L,a.aR.L,a.Seen,0,0,14,([]:List UInt8),0,([]:List (List UInt8)))
   else
   bd (tG a.Shelf a1.Path a1.Value a1.Session) λaT=>
   some (aT.1.L,a.aN.ct,a.aN.L,a.aR.L,a.Seen,0,0,aT.2,([]:List UInt8),0,([]:List (List UInt8))):Option ((List aY)×Int×(List ar)×(List aL)×(List aD)×Int×Int×Int×(List UInt8)×Int×(List (List UInt8)))) λw2=>
  some (w2.1,w2.2.1,w2.2.2.1,w2.2.2.2.1,w2.2.2.2.2.1,w2.2.2.2.2.2.1,w2.2.2.2.2.2.2.1,w2.2.2.2.2.2.2.2.1,w2.2.2.2.2.2.2.2.2.1,w2.2.2.2.2.2.2.2.2.2.1,w2.2.2.2.2.2.2.2.2.2.2,1)
  else
  bd (if a1.Kind=2 then
   bd (sG a.Shelf a1.Path) λca=>
   some (a.Shelf.L,a.aN.ct,a.aN.L,a.aR.L,a.Seen,0,0,ca.2,ca.1.Value,ca.1.Version,([]:List (List UInt8)),0)
   else
   bd (if a1.Kind=3 then
    bd (DT a.Shelf a1.Path a1.Value a1.Version) λgO=>
    bd (if gO.2=0 then
     bd (sG gO.1 a1.Path) λoP=>
     some (0,0,gO.2,([]:List UInt8),oP.1.Version,([]:List (List UInt8)))
     else
     some (0,0,gO.2,([]:List UInt8),0,([]:List (List UInt8))):Option (Int×Int×Int×(List UInt8)×Int×(List (List UInt8)))) λw5=>
    some (gO.1.L,a.aN.ct,a.aN.L,a.aR.L,a.Seen,w5.1,w5.2.1,w5.2.2.1,w5.2.2.2.1,w5.2.2.2.2.1,w5.2.2.2.2.2,2)
    else
    bd (if a1.Kind=4 then
     bd (tI a.Shelf a1.Path a1.Version) λrR=>
     some (rR.1.L,a.aN.ct,a.aN.L,a.aR.L,a.Seen,0,0,rR.2,([]:List UInt8),0,([]:List (List UInt8)),3)
     else
     bd (if a1.Kind=5 then
      bd (An a.Shelf a1.Path) λzg=>
      some (0,0,zg.2,([]:List UInt8),0,zg.1)
      else
      some (0,0,0,([]:List UInt8),0,([]:List (List UInt8))):Option (Int×Int×Int×(List UInt8)×Int×(List (List UInt8)))) λw7=>
     some (a.Shelf.L,a.aN.ct,a.aN.L,a.aR.L,a.Seen,w7.1,w7.2.1,w7.2.2.1,w7.2.2.2.1,w7.2.2.2.2.1,w7.2.2.2.2.2,0):Option ((List aY)×Int×(List ar)×(List aL)×(List aD)×Int×Int×Int×(List UInt8)×Int×(List (List UInt8))×Int)) λw6=>
    some (w6.1,w6.2.1,w6.2.2.1,w6.2.2.2.1,w6.2.2.2.2.1,w6.2.2.2.2.2.1,w6.2.2.2.2.2.2.1,w6.2.2.2.2.2.2.2.1,w6.2.2.2.2.2.2.2.2.1,w6.2.2.2.2.2.2.2.2.2.1,w6.2.2.2.2.2.2.2.2.2.2.1,w6.2.2.2.2.2.2.2.2.2.2.2):Option ((List aY)×Int×(List ar)×(List aL)×(List aD)×Int×Int×Int×(List UInt8)×Int×(List (List UInt8))×Int)) λw4=>
   some (w4.1,w4.2.1,w4.2.2.1,w4.2.2.2.1,w4.2.2.2.2.1,w4.2.2.2.2.2.1,w4.2.2.2.2.2.2.1,w4.2.2.2.2.2.2.2.1,w4.2.2.2.2.2.2.2.2.1,w4.2.2.2.2.2.2.2.2.2.1,w4.2.2.2.2.2.2.2.2.2.2.1,w4.2.2.2.2.2.2.2.2.2.2.2):Option ((List aY)×Int×(List ar)×(List aL)×(List aD)×Int×Int×Int×(List UInt8)×Int×(List (List UInt8))×Int)) λw3=>
  some (w3.1,w3.2.1,w3.2.2.1,w3.2.2.2.1,w3.2.2.2.2.1,w3.2.2.2.2.2.1,w3.2.2.2.2.2.2.1,w3.2.2.2.2.2.2.2.1,w3.2.2.2.2.2.2.2.2.1,w3.2.2.2.2.2.2.2.2.2.1,w3.2.2.2.2.2.2.2.2.2.2.1,w3.2.2.2.2.2.2.2.2.2.2.2):Option ((List aY)×Int×(List ar)×(List aL)×(List aD)×Int×Int×Int×(List UInt8)×Int×(List (List UInt8))×Int)) λw=>
 bd (if w.2.2.2.2.2.2.2.1=0 then
  some (decide ((0:Int)<w.2.2.2.2.2.2.2.2.2.2.2))
  else
  some false:Option Bool) λw8=>
 if w8 then
 some ((⟨(⟨w.1⟩:bE),(⟨w.2.1,w.2.2.1⟩:cJ),(⟨w.2.2.2.1⟩:eK),w.2.2.2.2.1⟩:b6),(⟨w.2.2.2.2.2.1,w.2.2.2.2.2.2.1,w.2.2.2.2.2.2.2.1,w.2.2.2.2.2.2.2.2.1,w.2.2.2.2.2.2.2.2.2.1,w.2.2.2.2.2.2.2.2.2.2.1⟩:aD),([(⟨w.2.2.2.2.2.2.2.2.2.2.2,a1.Path⟩:bq)]:List bq))
 else
 some ((⟨(⟨w.1⟩:bE),(⟨w.2.1,w.2.2.1⟩:cJ),(⟨w.2.2.2.1⟩:eK),w.2.2.2.2.1⟩:b6),(⟨w.2.2.2.2.2.1,w.2.2.2.2.2.2.1,w.2.2.2.2.2.2.2.1,w.2.2.2.2.2.2.2.2.1,w.2.2.2.2.2.2.2.2.2.1,w.2.2.2.2.2.2.2.2.2.2.1⟩:aD),([]:List bq))
def tJ (a:cJ)(a1:Int)(a2:Int)(st:(List ar)×Bool×Int):Option (((List ar)×Bool×Int)⊕((List ar)×Bool)):=if st.2.2<(a.L.length:Int) then
 bd (if !st.2.1 then
  ix a.L st.2.2 λy=>
  some (decide (a1<y.Id))
  else
  some false:Option Bool) λw2=>
 bd (if w2 then
  if (st.1.length+([(⟨a1,a2,c8 .i64 (a.ct+a2)⟩:ar)]:List ar).length) *24<=2^46 then
  some (st.1++([(⟨a1,a2,c8 .i64 (a.ct+a2)⟩:ar)]:List ar),true)
  else none
  else
  some (st.1,st.2.1):Option ((List ar)×Bool)) λw3=>
 ix a.L st.2.2 λy1=>
 if (w3.1.length+([y1]:List ar).length) *24<=2^46 then
 some (.inl (w3.1++([y1]:List ar),w3.2,c8 .i64 (st.2.2+1)))
 else none
 else
 some (.inr (st.1,st.2.1))
def Ao (a:cJ)(a1:Int)(a2:Int):Option (cJ×Int):=bd (if a1<1 then
  some true
  else
  if a2<1 then
  some true
  else
  some (decide ((1000:Int)<a2)):Option Bool) λw=>
 if w then
 some (a,1)
 else
 bd (qH a a1) λrA=>
 if rA then
 some (a,7)
 else
 if (50:Int)<=(a.L.length:Int) then
 some (a,9)
 else
 bd (Loop (tJ a a1 a2) (([]:List ar),false,0)) λw1=>
 bd (if !w1.2 then
  if (w1.1.length+([(⟨a1,a2,c8 .i64 (a.ct+a2)⟩:ar)]:List ar).length) *24<=2^46 then
  some (w1.1++([(⟨a1,a2,c8 .i64 (a.ct+a2)⟩:ar)]:List ar))
  else none
  else
  some w1.1:Option (List ar)) λw4=>
 some ((⟨a.ct,w4⟩:cJ),0)
def rf (b:cJ)(id:Int)(st:(List ar)×Int):Option (((List ar)×Int)⊕(List ar)):=if st.2<(b.L.length:Int) then
 ix b.L st.2 λy=>
 bd (if y.Id=id then
  some (y.Id,y.Span,c8 .i64 (b.ct+y.Span))
  else
  some (y.Id,y.Span,y.cF):Option (Int×Int×Int)) λw1=>
 if (st.1.length+([(⟨w1.1,w1.2.1,w1.2.2⟩:ar)]:List ar).length) *24<=2^46 then
 some (.inl (st.1++([(⟨w1.1,w1.2.1,w1.2.2⟩:ar)]:List ar),c8 .i64 (st.2+1)))
 else none
 else
 some (.inr st.1)
def wX (b:cJ)(id:Int):Option (cJ×Int):=bd (qH b id) λrA=>
 if !rA then
 some (b,14)
 else
 bd (Loop (rf b id) (([]:List ar),0)) λw=>
 some ((⟨b.ct,w⟩:cJ),0)
def rh (b:cJ)(id:Int)(st:(List ar)×Int):Option (((List ar)×Int)⊕(List ar)):=if st.2<(b.L.length:Int) then
 ix b.L st.2 λy=>
 bd (if !decide (y.Id=id) then
  ix b.L st.2 λy1=>
  if (st.1.length+([y1]:List ar).length) *24<=2^46 then
  some (st.1++([y1]:List ar))
  else none
  else
  some st.1:Option (List ar)) λw1=>
 some (.inl (w1,c8 .i64 (st.2+1)))
 else
 some (.inr st.1)
def wY (b:cJ)(id:Int):Option (cJ×Int):=bd (qH b id) λrA=>
 if !rA then
 some (b,14)
 else
 bd (Loop (rh b id) (([]:List ar),0)) λw=>
 some ((⟨b.ct,w⟩:cJ),0)
def tK (sA:bE)(owner:Int)(st:(List aY)×(List (List UInt8))×Int):Option (((List aY)×(List (List UInt8))×Int)⊕((List aY)×(List (List UInt8)))):=if st.2.2<(sA.L.length:Int) then
 bd (if (0:Int)<owner then
  ix sA.L st.2.2 λy=>
  some (decide (y.bF=owner))
  else
  some false:Option Bool) λw1=>
 bd (if w1 then
  ix sA.L st.2.2 λy1=>
  if (st.2.1.length+([y1.Path]:List (List UInt8)).length) *16<=2^46 then
  some (st.1,st.2.1++([y1.Path]:List (List UInt8)))
  else none
  else
  ix sA.L st.2.2 λy2=>
  if (st.1.length+([y2]:List aY).length) *48<=2^46 then
  some (st.1++([y2]:List aY),st.2.1)
  else none:Option ((List aY)×(List (List UInt8)))) λw2=>
 some (.inl (w2.1,w2.2,c8 .i64 (st.2.2+1)))
 else
 some (.inr (st.1,st.2.1))
def wZ (sA:bE)(owner:Int):Option (bE×(List (List UInt8))):=bd (Loop (tK sA owner) (([]:List aY),([]:List (List UInt8)),0)) λw=>some ((⟨w.1⟩:bE),w.2)
def rj (rA:bE×(List (List UInt8)))(dA:(List bq)×Int):Option (((List bq)×Int)⊕(List bq)):=if dA.2<(rA.2.length:Int) then
 ix rA.2 dA.2 λy1=>
 if (dA.1.length+([(⟨3,y1⟩:bq)]:List bq).length) *24<=2^46 then
 some (.inl (dA.1++([(⟨3,y1⟩:bq)]:List bq),c8 .i64 (dA.2+1)))
 else none
 else
 some (.inr dA.1)
def rk (ids:List Int)(st:(List aY)×(List bq)×Int):Option (((List aY)×(List bq)×Int)⊕((List aY)×(List bq))):=if st.2.2<(ids.length:Int) then
 ix ids st.2.2 λy=>
 bd (wZ (⟨st.1⟩:bE) y) λrA=>
 bd (Loop (rj rA) (st.2.1,0)) λw1=>
 some (.inl (rA.1.L,w1,c8 .i64 (st.2.2+1)))
 else
 some (.inr (st.1,st.2.1))
def s7 (sA:bE)(ids:List Int):Option (bE×(List bq)):=bd (Loop (rk ids) (sA.L,([]:List bq),0)) λw=>some ((⟨w.1⟩:bE),w.2)
def tL (b:cJ)(now:Int)(st:(List ar)×(List Int)×Int):Option (((List ar)×(List Int)×Int)⊕((List ar)×(List Int))):=if st.2.2<(b.L.length:Int) then
 ix b.L st.2.2 λy=>
 bd (if y.cF<=now then
  ix b.L st.2.2 λy1=>
  if (st.2.1.length+([y1.Id]:List Int).length) *8<=2^46 then
  some (st.1,st.2.1++([y1.Id]:List Int))
  else none
  else
  ix b.L st.2.2 λy2=>
  if (st.1.length+([y2]:List ar).length) *24<=2^46 then
  some (st.1++([y2]:List ar),st.2.1)
  else none:Option ((List ar)×(List Int))) λw1=>
 some (.inl (w1.1,w1.2,c8 .i64 (st.2.2+1)))
 else
 some (.inr (st.1,st.2.1))
def Ap (b:cJ)(now:Int):Option (cJ×(List Int)×Int):=if now<b.ct then
 some (b,([]:List Int),15)
 else
 if (1000000000:Int)<now then
 some (b,([]:List Int),5)
 else
 bd (Loop (tL b now) (([]:List ar),([]:List Int),0)) λw=>
 some ((⟨now,w.1⟩:cJ),w.2,0)
def DU (t:eK)(w:aL):Option (eK×Int):=bd (gM w.Path) λrA=>
 if !rA then
 some (t,13)
 else
 if w.Client<0 then
 some (t,1)
 else
 bd (sF t.L w) λaT=>
 if aT then
 some (t,0)
 else
 if (200:Int)<=(t.L.length:Int) then
 some (t,9)
 else
 if (([]:List aL).length+t.L.length) *32<=2^46 then
 if ((([]:List aL)++t.L).length+([w]:List aL).length) *32<=2^46 then
 some ((⟨(([]:List aL)++t.L)++([w]:List aL)⟩:eK),0)
 else none
 else none
def tM (a:b6)(a1:jZ):Option (b6×aD×(List bq)):=bd (if a1.Kind=1 then
  some (decide (a1.Kind=1))
  else
  bd (if a1.Kind=2 then
   some (decide (a1.Kind=2))
   else
   bd (if a1.Kind=3 then
    some (decide (a1.Kind=3))
    else
    bd (if a1.Kind=4 then
     some (decide (a1.Kind=4))
     else
     some (decide (a1.Kind=5)):Option Bool) λw3=>
    some w3:Option Bool) λw2=>
   some w2:Option Bool) λw1=>
  some w1:Option Bool) λw=>
 if w then
 bd (oJ a a1) λrA=>
 some (rA.1,rA.2.1,rA.2.2)
 else
 bd (if a1.Kind=6 then
  bd (Ao a.aN a1.Session a1.Span) λaT=>
  some (a.Shelf.L,aT.1.ct,aT.1.L,a.aR.L,a.Seen,0,0,aT.2,([]:List UInt8),0,([]:List (List UInt8)),([]:List bq))
  else
  bd (if a1.Kind=7 then
   bd (wX a.aN a1.Session) λca=>
   some (a.Shelf.L,ca.1.ct,ca.1.L,a.aR.L,a.Seen,0,0,ca.2,([]:List UInt8),0,([]:List (List UInt8)),([]:List bq))
   else
   bd (if a1.Kind=8 then
    bd (wY a.aN a1.Session) λgO=>
    bd (if gO.2=0 then
     bd (s7 a.Shelf ([a1.Session]:List Int)) λoP=>
     some (oP.1.L,gO.1.ct,gO.1.L,a.aR.L,a.Seen,oP.2)
     else
     some (a.Shelf.L,gO.1.ct,gO.1.L,a.aR.L,a.Seen,([]:List bq)):Option ((List aY)×Int×(List ar)×(List aL)×(List aD)×(List bq))) λw7=>
    some (w7.1,w7.2.1,w7.2.2.1,w7.2.2.2.1,w7.2.2.2.2.1,0,0,gO.2,([]:List UInt8),0,([]:List (List UInt8)),w7.2.2.2.2.2)
    else
    bd (if a1.Kind=9 then
     bd (Ap a.aN a1.Span) λrR=>
     bd (if rR.2.2=0 then
      bd (s7 a.Shelf rR.2.1) λzg=>
      some (zg.1.L,rR.1.ct,rR.1.L,a.aR.L,a.Seen,0,0,rR.2.2,([]:List UInt8),rR.1.ct,([]:List (List UInt8)),zg.2)
      else
      some (a.Shelf.L,rR.1.ct,rR.1.L,a.aR.L,a.Seen,0,0,rR.2.2,([]:List UInt8),0,([]:List (List UInt8)),([]:List bq)):Option ((List aY)×Int×(List ar)×(List aL)×(List aD)×Int×Int×Int×(List UInt8)×Int×(List (List UInt8))×(List bq))) λw9=>
     some (w9.1,w9.2.1,w9.2.2.1,w9.2.2.2.1,w9.2.2.2.2.1,w9.2.2.2.2.2.1,w9.2.2.2.2.2.2.1,w9.2.2.2.2.2.2.2.1,w9.2.2.2.2.2.2.2.2.1,w9.2.2.2.2.2.2.2.2.2.1,w9.2.2.2.2.2.2.2.2.2.2.1,w9.2.2.2.2.2.2.2.2.2.2.2)
     else
     bd (if a1.Kind=10 then
      some (decide (a1.Kind=10))
      else
      some (decide (a1.Kind=11)):Option Bool) λw10=>
     bd (if w10 then
      bd (DU a.aR (⟨a1.Path,a1.Client,decide (a1.Kind=11)⟩:aL)) λHq=>
      some (a.Shelf.L,a.aN.ct,a.aN.L,Hq.1.L,a.Seen,0,0,Hq.2,([]:List UInt8),0,([]:List (List UInt8)))
      else
      some (a.Shelf.L,a.aN.ct,a.aN.L,a.aR.L,a.Seen,0,0,0,([]:List UInt8),0,([]:List (List UInt8))):Option ((List aY)×Int×(List ar)×(List aL)×(List aD)×Int×Int×Int×(List UInt8)×Int×(List (List UInt8)))) λYo=>
     some (Yo.1,Yo.2.1,Yo.2.2.1,Yo.2.2.2.1,Yo.2.2.2.2.1,Yo.2.2.2.2.2.1,Yo.2.2.2.2.2.2.1,Yo.2.2.2.2.2.2.2.1,Yo.2.2.2.2.2.2.2.2.1,Yo.2.2.2.2.2.2.2.2.2.1,Yo.2.2.2.2.2.2.2.2.2.2,([]:List bq)):Option ((List aY)×Int×(List ar)×(List aL)×(List aD)×Int×Int×Int×(List UInt8)×Int×(List (List UInt8))×(List bq))) λw8=>
    some (w8.1,w8.2.1,w8.2.2.1,w8.2.2.2.1,w8.2.2.2.2.1,w8.2.2.2.2.2.1,w8.2.2.2.2.2.2.1,w8.2.2.2.2.2.2.2.1,w8.2.2.2.2.2.2.2.2.1,w8.2.2.2.2.2.2.2.2.2.1,w8.2.2.2.2.2.2.2.2.2.2.1,w8.2.2.2.2.2.2.2.2.2.2.2):Option ((List aY)×Int×(List ar)×(List aL)×(List aD)×Int×Int×Int×(List UInt8)×Int×(List (List UInt8))×(List bq))) λw6=>
   some (w6.1,w6.2.1,w6.2.2.1,w6.2.2.2.1,w6.2.2.2.2.1,w6.2.2.2.2.2.1,w6.2.2.2.2.2.2.1,w6.2.2.2.2.2.2.2.1,w6.2.2.2.2.2.2.2.2.1,w6.2.2.2.2.2.2.2.2.2.1,w6.2.2.2.2.2.2.2.2.2.2.1,w6.2.2.2.2.2.2.2.2.2.2.2):Option ((List aY)×Int×(List ar)×(List aL)×(List aD)×Int×Int×Int×(List UInt8)×Int×(List (List UInt8))×(List bq))) λw5=>
  some (w5.1,w5.2.1,w5.2.2.1,w5.2.2.2.1,w5.2.2.2.2.1,w5.2.2.2.2.2.1,w5.2.2.2.2.2.2.1,w5.2.2.2.2.2.2.2.1,w5.2.2.2.2.2.2.2.2.1,w5.2.2.2.2.2.2.2.2.2.1,w5.2.2.2.2.2.2.2.2.2.2.1,w5.2.2.2.2.2.2.2.2.2.2.2):Option ((List aY)×Int×(List ar)×(List aL)×(List aD)×Int×Int×Int×(List UInt8)×Int×(List (List UInt8))×(List bq))) λw4=>
 some ((⟨(⟨w4.1⟩:bE),(⟨w4.2.1,w4.2.2.1⟩:cJ),(⟨w4.2.2.2.1⟩:eK),w4.2.2.2.2.1⟩:b6),(⟨w4.2.2.2.2.2.1,w4.2.2.2.2.2.2.1,w4.2.2.2.2.2.2.2.1,w4.2.2.2.2.2.2.2.2.1,w4.2.2.2.2.2.2.2.2.2.1,w4.2.2.2.2.2.2.2.2.2.2.1⟩:aD),w4.2.2.2.2.2.2.2.2.2.2.2)
def rl (c:bq)(w:aL):Option Bool:=bd (if c.Kind<1 then
  some true
  else
  if (3:Int)<c.Kind then
  some true
  else
  bd (gM c.Path) λrA=>
  some (!rA):Option Bool) λw1=>
 if w1 then
 some false
 else
 if !w.Kids then
 some (decide (c.Path=w.Path))
 else
 bd (jH c.Path) λaT=>
 bd (if !decide (c.Kind=2) then
  if aT.2=0 then
  some (decide (aT.1=w.Path))
  else
  some false
  else
  some false:Option Bool) λw2=>
 some w2
def tN (lA:List bq)(st:(List aL)×(List bO)×Int)(dA:(List bO)×(List aL)×Int):Option (((List bO)×(List aL)×Int)⊕((List bO)×(List aL))):=if dA.2.2<(st.1.length:Int) then
 ix lA st.2.2 λy=>
 ix st.1 dA.2.2 λy1=>
 bd (rl y y1) λrA=>
 bd (if rA then
  ix st.1 dA.2.2 λy2=>
  ix lA st.2.2 λy3=>
  if (dA.1.length+([(⟨y2,y3⟩:bO)]:List bO).length) *56<=2^46 then
  some (dA.1++([(⟨y2,y3⟩:bO)]:List bO),dA.2.1)
  else none
  else
  ix st.1 dA.2.2 λy4=>
  if (dA.2.1.length+([y4]:List aL).length) *32<=2^46 then
  some (dA.1,dA.2.1++([y4]:List aL))
  else none:Option ((List bO)×(List aL))) λw2=>
 some (.inl (w2.1,w2.2,c8 .i64 (dA.2.2+1)))
 else
 some (.inr (dA.1,dA.2.1))
def tO (lA:List bq)(st:(List aL)×(List bO)×Int):Option (((List aL)×(List bO)×Int)⊕((List aL)×(List bO))):=if st.2.2<(lA.length:Int) then
 bd (Loop (tN lA st) (st.2.1,([]:List aL),0)) λw1=>
 some (.inl (w1.2,w1.1,c8 .i64 (st.2.2+1)))
 else
 some (.inr (st.1,st.2.1))
def tP (t:eK)(lA:List bq):Option (eK×(List bO)):=if (([]:List aL).length+t.L.length) *32<=2^46 then
 bd (Loop (tO lA) (([]:List aL)++t.L,([]:List bO),0)) λw=>
 some ((⟨w.1⟩:eK),w.2)
 else none
def tQ (lA:List aD)(x:aD)(st:(List aD)×Bool×Int):Option (((List aD)×Bool×Int)⊕((List aD)×Bool)):=if st.2.2<(lA.length:Int) then
 bd (if !st.2.1 then
  ix lA st.2.2 λy=>
  some (decide (x.Client<=y.Client))
  else
  some false:Option Bool) λw1=>
 bd (if w1 then
  if (st.1.length+([x]:List aD).length) *72<=2^46 then
  some (st.1++([x]:List aD),true)
  else none
  else
  some (st.1,st.2.1):Option ((List aD)×Bool)) λw2=>
 ix lA st.2.2 λy1=>
 bd (if !decide (y1.Client=x.Client) then
  ix lA st.2.2 λy2=>
  if (w2.1.length+([y2]:List aD).length) *72<=2^46 then
  some (w2.1++([y2]:List aD))
  else none
  else
  some w2.1:Option (List aD)) λw3=>
 some (.inl (w3,w2.2,c8 .i64 (st.2.2+1)))
 else
 some (.inr (st.1,st.2.1))
def tR (lA:List aD)(x:aD):Option (List aD):=bd (Loop (tQ lA x) (([]:List aD),false,0)) λw=>
 bd (if !w.2 then
  if (w.1.length+([x]:List aD).length) *72<=2^46 then
  some (w.1++([x]:List aD))
  else none
  else
  some w.1:Option (List aD)) λw4=>
 some w4
def xa (a:b6)(a1:jZ):Option (b6×aD×(List bO)):=bd (DS a1) λrA=>
 if !rA then
 some (a,(⟨a1.Client,a1.Seq,1,([]:List UInt8),0,([]:List (List UInt8))⟩:aD),([]:List bO))
 else
 bd (wU a a1.Client) λaT=>
 bd (if aT.2 then
  some (decide (aT.1.Seq=a1.Seq))
  else
  some false:Option Bool) λw=>
 if w then
 some (a,aT.1,([]:List bO))
 else
 bd (if aT.2 then
  some (decide (a1.Seq<aT.1.Seq))
  else
  some false:Option Bool) λw1=>
 if w1 then
 some (a,(⟨a1.Client,a1.Seq,15,([]:List UInt8),0,([]:List (List UInt8))⟩:aD),([]:List bO))
 else
 bd (if !aT.2 then
  some (decide ((50:Int)<=(a.Seen.length:Int)))
  else
  some false:Option Bool) λw2=>
 if w2 then
 some (a,(⟨a1.Client,a1.Seq,9,([]:List UInt8),0,([]:List (List UInt8))⟩:aD),([]:List bO))
 else
 bd (tM a a1) λca=>
 bd (tP ca.1.aR ca.2.2) λgO=>
 bd (tR a.Seen (⟨a1.Client,a1.Seq,ca.2.1.E,ca.2.1.Value,ca.2.1.Version,ca.2.1.Names⟩:aD)) λoP=>
 some ((⟨ca.1.Shelf,ca.1.aN,gO.1,oP⟩:b6),(⟨a1.Client,a1.Seq,ca.2.1.E,ca.2.1.Value,ca.2.1.Version,ca.2.1.Names⟩:aD),gO.2)
def Hr (o:aB):Option jZ:=some (⟨o.Client,o.Seq,o.Kind,o.Path,o.Value,o.Version,o.Session,o.Span⟩:jZ)
def CT (st:Int×Int):Option ((Int×Int)⊕Int):=if (0:Int)<st.1 then
 if !decide ((256:Int)=0) then
 some (.inl (c8 .u64 (Int.tdiv st.1 256),c8 .i64 (st.2+1)))
 else none
 else
 some (.inr st.2)
def Aq (n:Int):Option Int:=bd (Loop CT (n,1)) λw=>some w
def Fp (st:(List Int)×Int)(dA:Int×Int):Option ((Int×Int)⊕Int):=if dA.2<st.2 then
 if !decide ((256:Int)=0) then
 some (.inl (c8 .u64 (Int.tdiv dA.1 256),c8 .i64 (dA.2+1)))
 else none
 else
 some (.inr dA.1)
def Fq (n:Int)(st:(List Int)×Int):Option (((List Int)×Int)⊕(List Int)):=if (0:Int)<=st.2 then
 bd (Loop (Fp st) (n,0)) λw1=>
 if !decide ((256:Int)=0) then
 if (st.1.length+([c8 .u8 (Int.tmod w1 256)]:List Int).length) *1<=2^46 then
 some (.inl (st.1++([c8 .u8 (Int.tmod w1 256)]:List Int),c8 .i64 (st.2-1)))
 else none
 else none
 else
 some (.inr st.1)
def vf (b:List Int)(n:Int):Option (List Int):=if (([]:List Int).length+b.length) *1<=2^46 then
 bd (Aq n) λrA=>
 if ((([]:List Int)++b).length+([c8 .u8 (c8 .i64 (rA-1))]:List Int).length) *1<=2^46 then
 bd (Loop (Fq n) ((([]:List Int)++b)++([c8 .u8 (c8 .i64 (rA-1))]:List Int),c8 .i64 ((c8 .i64 (rA-1))-1))) λw=>
 some w
 else none
 else none
def ja (b:List Int)(n:Int):Option (List Int):=if n<0 then
 bd (vf b (c8 .u64 ((c8 .u64 (2 *(c8 .u64 (c8 .i64 (0-(c8 .i64 (n+1)))))))+1))) λrA=>
 some rA
 else
 bd (vf b (c8 .u64 (2 *(c8 .u64 n)))) λaT=>
 some aT
def pg (b:List Int)(sA:List UInt8):Option (List Int):=bd (vf b (c8 .u64 (sA.length:Int))) λrA=>
 if (rA.length+(Qc sA).length) *1<=2^46 then
 some (rA++(Qc sA))
 else none
def ye (lA:List (List UInt8))(st:(List Int)×Int):Option (((List Int)×Int)⊕(List Int)):=if st.2<(lA.length:Int) then
 ix lA st.2 λy=>
 bd (pg st.1 y) λaT=>
 some (.inl (aT,c8 .i64 (st.2+1)))
 else
 some (.inr st.1)
def Ar (b:List Int)(lA:List (List UInt8)):Option (List Int):=bd (vf b (c8 .u64 (lA.length:Int))) λrA=>
 bd (Loop (ye lA) (rA,0)) λw=>
 some w
def pi (rA:aD)(st:(List Int)×Int):Option (((List Int)×Int)⊕(List Int)):=if st.2<(([rA.Client,rA.Seq,rA.E,rA.Version]:List Int).length:Int) then
 ix ([rA.Client,rA.Seq,rA.E,rA.Version]:List Int) st.2 λy=>
 bd (ja st.1 y) λaT=>
 some (.inl (aT,c8 .i64 (st.2+1)))
 else
 some (.inr st.1)
def pj (b:List Int)(rA:aD):Option (List Int):=bd (Loop (pi rA) (b,0)) λw=>
 bd (pg w rA.Value) λca=>
 bd (Ar ca rA.Names) λgO=>
 some gO
def yf (a:b6)(st:(List Int)×Int):Option (((List Int)×Int)⊕(List Int)):=if st.2<(a.Shelf.L.length:Int) then
 ix a.Shelf.L st.2 λy=>
 bd (pg st.1 y.Path) λaT=>
 bd (pg aT y.Value) λca=>
 bd (ja ca y.Version) λgO=>
 bd (ja gO y.bF) λoP=>
 some (.inl (oP,c8 .i64 (st.2+1)))
 else
 some (.inr st.1)
def yg (a:b6)(dA:(List Int)×Int):Option (((List Int)×Int)⊕(List Int)):=if dA.2<(a.aN.L.length:Int) then
 ix a.aN.L dA.2 λy1=>
 bd (ja dA.1 y1.Id) λHq=>
 bd (ja Hq y1.Span) λKB=>
 bd (ja KB y1.cF) λR9=>
 some (.inl (R9,c8 .i64 (dA.2+1)))
 else
 some (.inr dA.1)
def yh (a:b6)(ei:(List Int)×Int):Option (((List Int)×Int)⊕(List Int)):=if ei.2<(a.aR.L.length:Int) then
 ix a.aR.L ei.2 λy2=>
 bd (pg ei.1 y2.Path) λKU=>
 bd (ja KU y2.Client) λFs=>
 bd (if y2.Kids then
  bd (ja Fs 1) λN1=>
  some N1
  else
  bd (ja Fs 0) λKV=>
  some KV:Option (List Int)) λw3=>
 some (.inl (w3,c8 .i64 (ei.2+1)))
 else
 some (.inr ei.1)
def yi (a:b6)(np:(List Int)×Int):Option (((List Int)×Int)⊕(List Int)):=if np.2<(a.Seen.length:Int) then
 ix a.Seen np.2 λy3=>
 bd (pj np.1 y3) λKW=>
 some (.inl (KW,c8 .i64 (np.2+1)))
 else
 some (.inr np.1)
def xb (a:b6):Option (List Int):=bd (ja ([]:List Int) (a.Shelf.L.length:Int)) λrA=>
 bd (Loop (yf a) (rA,0)) λw=>
 bd (ja w a.aN.ct) λrR=>
 bd (ja rR (a.aN.L.length:Int)) λzg=>
 bd (Loop (yg a) (zg,0)) λw1=>
 bd (ja w1 (a.aR.L.length:Int)) λAm=>
 bd (Loop (yh a) (Am,0)) λw2=>
 bd (ja w2 (a.Seen.length:Int)) λN2=>
 bd (Loop (yi a) (N2,0)) λw4=>
 some w4
def xc (a:b6)(b:b6):Option Bool:=bd (xb a) λrA=>
 KS rA λbs=>
 bd (xb b) λaT=>
 KS aT λbs1=>
 some (decide (bs=bs1))
def qI (a:List (List UInt8))(b:List (List UInt8))(st:Int):Option (Int⊕(Unit⊕Bool)):=if st<(a.length:Int) then
 ix a st λy=>
 ix b st λy1=>
 if !decide (y=y1) then
 some (.inr (.inr false))
 else
 some (.inl (c8 .i64 (st+1)))
 else
 some (.inr (.inl ()))
def rm (a:List (List UInt8))(b:List (List UInt8)):Option Bool:=if !decide ((a.length:Int)=(b.length:Int)) then
 some false
 else
 bd (Loop (qI a b) 0) λw=>
 match w with
 | .inl p1=>some true
 | .inr p2=>some p2
def As (a:aD)(b:aD):Option Bool:=bd (if a.Client=b.Client then
  if a.Seq=b.Seq then
  if a.E=b.E then
  if a.Value=b.Value then
  if a.Version=b.Version then
  bd (rm a.Names b.Names) λrA=>
  some rA
  else
  some false
  else
  some false
  else
  some false
  else
  some false
  else
  some false:Option Bool) λw=>
 some w
def pk (a:List bO)(b:List bO)(st:Int):Option (Int⊕(Unit⊕Bool)):=if st<(a.length:Int) then
 ix a st λy=>
 ix b st λy1=>
 if !((decide (y.W.Path=y1.W.Path))&&((decide (y.W.Client=y1.W.Client))&&((decide (y.W.Kids=y1.W.Kids))&&((decide (y.C.Kind=y1.C.Kind))&&(decide (y.C.Path=y1.C.Path)))))) then
 some (.inr (.inr false))
 else
 some (.inl (c8 .i64 (st+1)))
 else
 some (.inr (.inl ()))
def tS (a:List bO)(b:List bO):Option Bool:=if !decide ((a.length:Int)=(b.length:Int)) then
 some false
 else
 bd (Loop (pk a b) 0) λw=>
 match w with
 | .inl p1=>some true
 | .inr p2=>some p2
def pn (lA:List bI)(st:(List bO)×Int):Option (((List bO)×Int)⊕(List bO)):=if st.2<(lA.length:Int) then
 ix lA st.2 λy=>
 ix lA st.2 λy1=>
 if (st.1.length+([(⟨(⟨y.W.Path,y.W.Client,y.W.Kids⟩:aL),(⟨y1.C.Kind,y1.C.Path⟩:bq)⟩:bO)]:List bO).length) *56<=2^46 then
 some (.inl (st.1++([(⟨(⟨y.W.Path,y.W.Client,y.W.Kids⟩:aL),(⟨y1.C.Kind,y1.C.Path⟩:bq)⟩:bO)]:List bO),c8 .i64 (st.2+1)))
 else none
 else
 some (.inr st.1)
def tT (lA:List bI):Option (List bO):=bd (Loop (pn lA) (([]:List bO),0)) λw=>some w
def mN (a:au)(a1:aB):Option Bool:=bd (bd (yd a) λrA=>
  if !rA then
  some true
  else
  bd (wK ([a1]:List aB)) λaT=>
  if !aT then
  some true
  else
  bd (ox a) λca=>
  bd (wQ ca) λgO=>
  some (!gO):Option Bool) λw=>
 if w then
 bd (s6) λoP=>
 some oP
 else
 bd (ox a) λrR=>
 bd (mi a a1) λzg=>
 bd (Hr a1) λHq=>
 bd (xa rR Hq) λKB=>
 bd (bd (s6) λR9=>
  if R9 then
  bd (ox zg.1) λAm=>
  bd (xc Am KB.1) λKU=>
  if KU then
  bd (wR zg.2.1) λFs=>
  bd (As Fs KB.2.1) λN1=>
  if N1 then
  bd (tT zg.2.2) λKV=>
  bd (tS KV KB.2.2) λN2=>
  if N2 then
  bd (ox a) λKW=>
  bd (xc KW rR) λaee=>
  some aee
  else
  some false
  else
  some false
  else
  some false
  else
  some false:Option Bool) λw1=>
 some w1
end
end Dn.S
