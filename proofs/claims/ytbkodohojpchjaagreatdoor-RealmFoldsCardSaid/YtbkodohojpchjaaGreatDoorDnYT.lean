import Derived.Test.YtbkodohojpchjaaGreatDoorDnC
/-
  The functions, on typed values. Conditions: none.
-/
set_option linter.unusedVariables false
set_option linter.unusedSimpArgs false
open Go.IntKind renaming wrap→c9,bits→AT
open Int renaming toNat→sh,fdiv→By
open List renaming drop→AI,take→AS
open Go.Op renaming bytesLess→BY
open Go Dn
set_option maxRecDepth 100000
namespace Dn.S
noncomputable section
structure ah where
 Path:List UInt8
 Value:List UInt8
 Version:Int
 b5:Int
deriving DecidableEq
@[reducible] def Ge (x : ah) : List MV := [.s x.Path, .s x.Value, .i .i64 x.Version, .i .i64 x.b5]
@[reducible] def bj (x : ah) : MV := .agg (Ge x)
structure aD where
 L:List ah
deriving DecidableEq
@[reducible] def Dy (x : aD) : List MV := [.list (x.L.map bj)]
@[reducible] def cJ (x : aD) : MV := .agg (Dy x)
structure aE where
 Id:Int
 Span:Int
 dX:Int
deriving DecidableEq
@[reducible] def I5 (x : aE) : List MV := [.i .i64 x.Id, .i .i64 x.Span, .i .i64 x.dX]
@[reducible] def bm (x : aE) : MV := .agg (I5 x)
structure aK where
 cI:Int
 L:List aE
deriving DecidableEq
@[reducible] def Qm (x : aK) : List MV := [.i .i64 x.cI, .list (x.L.map bm)]
@[reducible] def ei (x : aK) : MV := .agg (Qm x)
structure aq where
 Path:List UInt8
 Client:Int
 Kids:Bool
deriving DecidableEq
@[reducible] def NM (x : aq) : List MV := [.s x.Path, .i .i64 x.Client, .b x.Kids]
@[reducible] def bC (x : aq) : MV := .agg (NM x)
structure ca where
 L:List aq
deriving DecidableEq
@[reducible] def NN (x : ca) : List MV := [.list (x.L.map bC)]
@[reducible] def lj (x : ca) : MV := .agg (NN x)
structure ai where
 Client:Int
 Seq:Int
 E:Int
 Value:List UInt8
 Version:Int
 Names:List (List UInt8)
deriving DecidableEq
@[reducible] def NO (x : ai) : List MV := [.i .i64 x.Client, .i .i64 x.Seq, .i .i64 x.E, .s x.Value, .i .i64 x.Version, .list (x.Names.map MV.s)]
@[reducible] def bl (x : ai) : MV := .agg (NO x)
structure ap where
 Shelf:aD
 aL:aK
 aS:ca
 Seen:List ai
deriving DecidableEq
@[reducible] def NP (x : ap) : List MV := [.list (x.Shelf.L.map bj), .i .i64 x.aL.cI, .list (x.aL.L.map bm), .list (x.aS.L.map bC), .list (x.Seen.map bl)]
@[reducible] def eJ (x : ap) : MV := .agg (NP x)
structure ar where
 Client:Int
 Seq:Int
 Kind:Int
 Path:List UInt8
 Value:List UInt8
 Version:Int
 Session:Int
 Span:Int
deriving DecidableEq
@[reducible] def NQ (x : ar) : List MV := [.i .i64 x.Client, .i .i64 x.Seq, .i .i64 x.Kind, .s x.Path, .s x.Value, .i .i64 x.Version, .i .i64 x.Session, .i .i64 x.Span]
@[reducible] def cA (x : ar) : MV := .agg (NQ x)
structure aP where
 Path:List UInt8
 Value:List UInt8
 Version:Int
 b5:Int
deriving DecidableEq
@[reducible] def Mi (x : aP) : List MV := [.s x.Path, .s x.Value, .i .i64 x.Version, .i .i64 x.b5]
@[reducible] def bJ (x : aP) : MV := .agg (Mi x)
structure bE where
 L:List aP
deriving DecidableEq
@[reducible] def I6 (x : bE) : List MV := [.list (x.L.map bJ)]
@[reducible] def dO (x : bE) : MV := .agg (I6 x)
structure al where
 Id:Int
 Span:Int
 dX:Int
deriving DecidableEq
@[reducible] def NR (x : al) : List MV := [.i .i64 x.Id, .i .i64 x.Span, .i .i64 x.dX]
@[reducible] def br (x : al) : MV := .agg (NR x)
structure cD where
 cI:Int
 L:List al
deriving DecidableEq
@[reducible] def WK (x : cD) : List MV := [.i .i64 x.cI, .list (x.L.map br)]
@[reducible] def kD (x : cD) : MV := .agg (WK x)
structure aF where
 Path:List UInt8
 Client:Int
 Kids:Bool
deriving DecidableEq
@[reducible] def S5 (x : aF) : List MV := [.s x.Path, .i .i64 x.Client, .b x.Kids]
@[reducible] def b6 (x : aF) : MV := .agg (S5 x)
structure eo where
 L:List aF
deriving DecidableEq
@[reducible] def S6 (x : eo) : List MV := [.list (x.L.map b6)]
@[reducible] def u9 (x : eo) : MV := .agg (S6 x)
structure aw where
 Client:Int
 Seq:Int
 E:Int
 Value:List UInt8
 Version:Int
 Names:List (List UInt8)
deriving DecidableEq
@[reducible] def S7 (x : aw) : List MV := [.i .i64 x.Client, .i .i64 x.Seq, .i .i64 x.E, .s x.Value, .i .i64 x.Version, .list (x.Names.map MV.s)]
@[reducible] def bo (x : aw) : MV := .agg (S7 x)
structure bM where
 Shelf:bE
 aL:cD
 aS:eo
 Seen:List aw
deriving DecidableEq
@[reducible] def S8 (x : bM) : List MV := [.list (x.Shelf.L.map bJ), .i .i64 x.aL.cI, .list (x.aL.L.map br), .list (x.aS.L.map b6), .list (x.Seen.map bo)]
@[reducible] def eD (x : bM) : MV := .agg (S8 x)
structure aG where
 Kind:Int
 Path:List UInt8
deriving DecidableEq
@[reducible] def KT (x : aG) : List MV := [.i .i64 x.Kind, .s x.Path]
@[reducible] def gp (x : aG) : MV := .agg (KT x)
structure aj where
 r:ap
 o:ar
 x:ai
 l:List aG
deriving DecidableEq
@[reducible] def bS (x : aj) : List MV := [.list (x.r.Shelf.L.map bj), .i .i64 x.r.aL.cI, .list (x.r.aL.L.map bm), .list (x.r.aS.L.map bC), .list (x.r.Seen.map bl), .i .i64 x.o.Client, .i .i64 x.o.Seq, .i .i64 x.o.Kind, .s x.o.Path, .s x.o.Value, .i .i64 x.o.Version, .i .i64 x.o.Session, .i .i64 x.o.Span, .i .i64 x.x.Client, .i .i64 x.x.Seq, .i .i64 x.x.E, .s x.x.Value, .i .i64 x.x.Version, .list (x.x.Names.map MV.s), .list (x.l.map gp)]
structure bk where
 W:aq
 C:aG
deriving DecidableEq
@[reducible] def NS (x : bk) : List MV := [.s x.W.Path, .i .i64 x.W.Client, .b x.W.Kids, .i .i64 x.C.Kind, .s x.C.Path]
@[reducible] def cW (x : bk) : MV := .agg (NS x)
structure dJ where
 Client:Int
 Seq:Int
 Kind:Int
 Path:List UInt8
 Value:List UInt8
 Version:Int
 Session:Int
 Span:Int
deriving DecidableEq
@[reducible] def S9 (x : dJ) : List MV := [.i .i64 x.Client, .i .i64 x.Seq, .i .i64 x.Kind, .s x.Path, .s x.Value, .i .i64 x.Version, .i .i64 x.Session, .i .i64 x.Span]
@[reducible] def iG (x : dJ) : MV := .agg (S9 x)
structure bq where
 Kind:Int
 Path:List UInt8
deriving DecidableEq
@[reducible] def Qn (x : bq) : List MV := [.i .i64 x.Kind, .s x.Path]
@[reducible] def ej (x : bq) : MV := .agg (Qn x)
structure bH where
 W:aF
 C:bq
deriving DecidableEq
@[reducible] def Ta (x : bH) : List MV := [.s x.W.Path, .i .i64 x.W.Client, .b x.W.Kids, .i .i64 x.C.Kind, .s x.C.Path]
@[reducible] def dq (x : bH) : MV := .agg (Ta x)
def vc (lA:List ar)(st:Int):Option (Int⊕(Unit⊕Bool)):=if st<(lA.length:Int) then
 bd (if st=30 then
  some true
  else
  ix lA st λy=>
  if (200:Int)<(y.Path.length:Int) then
  some true
  else
  ix lA st λy1=>
  some (decide ((1100:Int)<(y1.Value.length:Int))):Option Bool) λw1=>
 if w1 then
 some (.inr (.inr false))
 else
 some (.inl (c9 .i64 (st+1)))
 else
 some (.inr (.inl ()))
def wC (lA:List ar):Option Bool:=bd (Loop (vc lA) 0) λw=>
 match w with
 | .inl p1=>some true
 | .inr p2=>some p2
def wD (p:List UInt8)(st:(List (List UInt8))×(List UInt8)×Int):Option (((List (List UInt8))×(List UInt8)×Int)⊕((List (List UInt8))×(List UInt8))):=if st.2.2<(p.length:Int) then
 if (0:Int)<=st.2.2/\st.2.2<(p.length:Int) then
 bd (if ((p.getD (sh st.2.2) 0).toNat:Int)=47 then
  if (st.1.length+([st.2.1]:List (List UInt8)).length) *16<=2^46 then
  some (st.1++([st.2.1]:List (List UInt8)),([]:List UInt8))
  else none
  else
  if (0:Int)<=st.2.2/\st.2.2<(p.length:Int) then
  KS ([((p.getD (sh st.2.2) 0).toNat:Int)]:List Int) λbs=>
  if st.2.1.length+bs.length<=2^46 then
  some (st.1,st.2.1++bs)
  else none
  else none:Option ((List (List UInt8))×(List UInt8))) λw2=>
 some (.inl (w2.1,w2.2,c9 .i64 (st.2.2+1)))
 else none
 else
 some (.inr (st.1,st.2.1))
def Bf (p:List UInt8):Option ((List (List UInt8))×Bool):=bd (if (p.length:Int)=0 then
  some true
  else
  if (0:Int)<=0/\(0:Int)<(p.length:Int) then
  some (!decide (((p.getD (sh 0) 0).toNat:Int)=47))
  else none:Option Bool) λw=>
 if w then
 some (([]:List (List UInt8)),false)
 else
 if p=([47]:List UInt8) then
 some (([]:List (List UInt8)),true)
 else
 bd (Loop (wD p) (([]:List (List UInt8)),([]:List UInt8),1)) λw1=>
 if (w1.1.length+([w1.2]:List (List UInt8)).length) *16<=2^46 then
 some (w1.1++([w1.2]:List (List UInt8)),true)
 else none
def oZ (sA:List UInt8)(st:Int):Option (Int⊕(Unit⊕Bool)):=if st<(sA.length:Int) then
 if (0:Int)<=st/\st<(sA.length:Int) then
 bd (if (97:Int)<=((sA.getD (sh st) 0).toNat:Int) then
  if ((sA.getD (sh st) 0).toNat:Int)<=122 then
  some true
  else
  if (48:Int)<=((sA.getD (sh st) 0).toNat:Int) then
  if ((sA.getD (sh st) 0).toNat:Int)<=57 then
  some true
  else
  if ((sA.getD (sh st) 0).toNat:Int)=45 then
  some true
  else
  some (decide (((sA.getD (sh st) 0).toNat:Int)=95))
  else
  if ((sA.getD (sh st) 0).toNat:Int)=45 then
  some true
  else
  some (decide (((sA.getD (sh st) 0).toNat:Int)=95))
  else
  if (48:Int)<=((sA.getD (sh st) 0).toNat:Int) then
  if ((sA.getD (sh st) 0).toNat:Int)<=57 then
  some true
  else
  if ((sA.getD (sh st) 0).toNat:Int)=45 then
  some true
  else
  some (decide (((sA.getD (sh st) 0).toNat:Int)=95))
  else
  if ((sA.getD (sh st) 0).toNat:Int)=45 then
  some true
  else
  some (decide (((sA.getD (sh st) 0).toNat:Int)=95)):Option Bool) λw1=>
 if !w1 then
 some (.inr (.inr false))
 else
 some (.inl (c9 .i64 (st+1)))
 else none
 else
 some (.inr (.inl ()))
def tl (sA:List UInt8):Option Bool:=bd (Loop (oZ sA) 0) λw=>
 match w with
 | .inl p1=>
  bd (if (1:Int)<=(sA.length:Int) then
   some (decide ((sA.length:Int)<=30))
   else
   some false:Option Bool) λw2=>
  some w2
 | .inr p2=>some p2
def q8 (rA:(List (List UInt8))×Bool)(st:Int):Option (Int⊕(Unit⊕Bool)):=if st<(rA.1.length:Int) then
 ix rA.1 st λy=>
 bd (tl y) λaT=>
 if !aT then
 some (.inr (.inr false))
 else
 some (.inl (c9 .i64 (st+1)))
 else
 some (.inr (.inl ()))
def jZ (p:List UInt8):Option Bool:=if (100:Int)<(p.length:Int) then
 some false
 else
 bd (Bf p) λrA=>
 bd (Loop (q8 rA) 0) λw=>
 match w with
 | .inl p3=>
  bd (if rA.2 then
   some (decide ((rA.1.length:Int)<=8))
   else
   some false:Option Bool) λw1=>
  some w1
 | .inr p4=>some p4
def ot (p:List UInt8):Option ((List (List UInt8))×Int):=bd (jZ p) λrA=>
 if !rA then
 some (([]:List (List UInt8)),13)
 else
 bd (Bf p) λaT=>
 some (aT.1,0)
def q9 (rA:(List (List UInt8))×Int)(aT:(List (List UInt8))×Int)(st:Int):Option (Int⊕(Unit⊕Bool)):=bd (if st<(rA.1.length:Int) then
  some (decide (st<(aT.1.length:Int)))
  else
  some false:Option Bool) λw2=>
 if w2 then
 ix rA.1 st λy=>
 ix aT.1 st λy1=>
 if !decide (y=y1) then
 ix rA.1 st λy2=>
 ix aT.1 st λy3=>
 some (.inr (.inr (BY y2 y3)))
 else
 some (.inl (c9 .i64 (st+1)))
 else
 some (.inr (.inl ()))
def wE (p:List UInt8)(q:List UInt8):Option Bool:=bd (ot p) λrA=>
 bd (ot q) λaT=>
 bd (if !decide (rA.2=0) then
  some true
  else
  some (!decide (aT.2=0)):Option Bool) λw=>
 if w then
 some false
 else
 bd (Loop (q9 rA aT) 0) λw1=>
 match w1 with
 | .inl p3=>some (decide ((rA.1.length:Int)<(aT.1.length:Int)))
 | .inr p4=>some p4
def tm (lA:List (List UInt8))(st:(List UInt8)×Int):Option (((List UInt8)×Int)⊕(List UInt8)):=if st.2<(lA.length:Int) then
 if st.1.length+([47]:List UInt8).length<=2^46 then
 ix lA st.2 λy=>
 if (st.1++([47]:List UInt8)).length+y.length<=2^46 then
 some (.inl ((st.1++([47]:List UInt8))++y,c9 .i64 (st.2+1)))
 else none
 else none
 else
 some (.inr st.1)
def z1 (lA:List (List UInt8)):Option (List UInt8):=bd (Loop (tm lA) (([]:List UInt8),0)) λw=>
 if w=([]:List UInt8) then
 some ([47]:List UInt8)
 else
 some w
def lZ (p:List UInt8):Option ((List UInt8)×Int):=bd (ot p) λrA=>
 if !decide (rA.2=0) then
 some (([]:List UInt8),rA.2)
 else
 if (rA.1.length:Int)=0 then
 some (([]:List UInt8),6)
 else
 if (0:Int)<=0/\(0:Int)<=(c9 .i64 ((rA.1.length:Int)-1))/\(c9 .i64 ((rA.1.length:Int)-1))<=(rA.1.length:Int) then
 bd (z1 (AI (sh 0) (AS (sh (c9 .i64 ((rA.1.length:Int)-1))) rA.1))) λaT=>
 some (aT,0)
 else none
def z6 (sA:bE)(p:List UInt8)(st:Int):Option (Int⊕(Unit⊕Int)):=if st<(sA.L.length:Int) then
 ix sA.L st λy=>
 if y.Path=p then
 some (.inr (.inr st))
 else
 some (.inl (c9 .i64 (st+1)))
 else
 some (.inr (.inl ()))
def tp (sA:bE)(p:List UInt8):Option Int:=bd (Loop (z6 sA p) 0) λw=>
 match w with
 | .inl p3=>some (-1)
 | .inr p4=>some p4
def wF (lA:List aF)(w:aF)(st:Int):Option (Int⊕(Unit⊕Bool)):=if st<(lA.length:Int) then
 ix lA st λy=>
 if ((decide (y.Path=w.Path))&&((decide (y.Client=w.Client))&&(decide (y.Kids=w.Kids)))) then
 some (.inr (.inr true))
 else
 some (.inl (c9 .i64 (st+1)))
 else
 some (.inr (.inl ()))
def Bg (lA:List aF)(w:aF):Option Bool:=bd (Loop (wF lA w) 0) λw1=>
 match w1 with
 | .inl p1=>some false
 | .inr p2=>some p2
def Dz (rA:ai):Option aw:=some (⟨rA.Client,rA.Seq,rA.E,rA.Value,rA.Version,rA.Names⟩:aw)
def nq (lA:List ai)(st:(List aw)×Int):Option (((List aw)×Int)⊕(List aw)):=if st.2<(lA.length:Int) then
 ix lA st.2 λy=>
 bd (Dz y) λrA=>
 if (st.1.length+([rA]:List aw).length) *72<=2^46 then
 some (.inl (st.1++([rA]:List aw),c9 .i64 (st.2+1)))
 else none
 else
 some (.inr st.1)
def ko (lA:List ai):Option (List aw):=bd (Loop (nq lA) (([]:List aw),0)) λw=>some w
def ra (a:ap)(st:(List aP)×Int×(List al)×(List aF)×(List aw)×Int):Option (((List aP)×Int×(List al)×(List aF)×(List aw)×Int)⊕((List aP)×Int×(List al)×(List aF)×(List aw))):=if st.2.2.2.2.2<(a.Shelf.L.length:Int) then
 ix a.Shelf.L st.2.2.2.2.2 λy=>
 if (st.1.length+([(⟨y.Path,y.Value,y.Version,y.b5⟩:aP)]:List aP).length) *48<=2^46 then
 some (.inl (st.1++([(⟨y.Path,y.Value,y.Version,y.b5⟩:aP)]:List aP),st.2.1,st.2.2.1,st.2.2.2.1,st.2.2.2.2.1,c9 .i64 (st.2.2.2.2.2+1)))
 else none
 else
 some (.inr (st.1,st.2.1,st.2.2.1,st.2.2.2.1,st.2.2.2.2.1))
def rc (a:ap)(dH:(List aP)×Int×(List al)×(List aF)×(List aw)×Int):Option (((List aP)×Int×(List al)×(List aF)×(List aw)×Int)⊕((List aP)×Int×(List al)×(List aF)×(List aw))):=if dH.2.2.2.2.2<(a.aL.L.length:Int) then
 ix a.aL.L dH.2.2.2.2.2 λy1=>
 if (dH.2.2.1.length+([(⟨y1.Id,y1.Span,y1.dX⟩:al)]:List al).length) *24<=2^46 then
 some (.inl (dH.1,dH.2.1,dH.2.2.1++([(⟨y1.Id,y1.Span,y1.dX⟩:al)]:List al),dH.2.2.2.1,dH.2.2.2.2.1,c9 .i64 (dH.2.2.2.2.2+1)))
 else none
 else
 some (.inr (dH.1,dH.2.1,dH.2.2.1,dH.2.2.2.1,dH.2.2.2.2.1))
def re (a:ap)(eP:(List aP)×Int×(List al)×(List aF)×(List aw)×Int):Option (((List aP)×Int×(List al)×(List aF)×(List aw)×Int)⊕((List aP)×Int×(List al)×(List aF)×(List aw))):=if eP.2.2.2.2.2<(a.aS.L.length:Int) then
 ix a.aS.L eP.2.2.2.2.2 λy2=>
 if (eP.2.2.2.1.length+([(⟨y2.Path,y2.Client,y2.Kids⟩:aF)]:List aF).length) *32<=2^46 then
 some (.inl (eP.1,eP.2.1,eP.2.2.1,eP.2.2.2.1++([(⟨y2.Path,y2.Client,y2.Kids⟩:aF)]:List aF),eP.2.2.2.2.1,c9 .i64 (eP.2.2.2.2.2+1)))
 else none
 else
 some (.inr (eP.1,eP.2.1,eP.2.2.1,eP.2.2.2.1,eP.2.2.2.2.1))
def wG (a:ap):Option bM:=bd (ko a.Seen) λrA=>
 bd (Loop (ra a) (([]:List aP),a.aL.cI,([]:List al),([]:List aF),rA,0)) λw=>
 bd (Loop (rc a) (w.1,w.2.1,w.2.2.1,w.2.2.2.1,w.2.2.2.2,0)) λw1=>
 bd (Loop (re a) (w1.1,w1.2.1,w1.2.2.1,w1.2.2.2.1,w1.2.2.2.2,0)) λw2=>
 some (⟨(⟨w2.1⟩:bE),(⟨w2.2.1,w2.2.2.1⟩:cD),(⟨w2.2.2.2.1⟩:eo),w2.2.2.2.2⟩:bM)
def bO (o:ar):Option ar:=if o.Kind=1 then
 some (⟨o.Client,o.Seq,o.Kind,o.Path,o.Value,0,o.Session,0⟩:ar)
 else
 bd (if o.Kind=2 then
  some (decide (o.Kind=2))
  else
  bd (if o.Kind=5 then
   some (decide (o.Kind=5))
   else
   bd (if o.Kind=10 then
    some (decide (o.Kind=10))
    else
    some (decide (o.Kind=11)):Option Bool) λw2=>
   some w2:Option Bool) λw1=>
  some w1:Option Bool) λw=>
 if w then
 some (⟨o.Client,o.Seq,o.Kind,o.Path,([]:List UInt8),0,0,0⟩:ar)
 else
 if o.Kind=3 then
 some (⟨o.Client,o.Seq,o.Kind,o.Path,o.Value,o.Version,0,0⟩:ar)
 else
 if o.Kind=4 then
 some (⟨o.Client,o.Seq,o.Kind,o.Path,([]:List UInt8),o.Version,0,0⟩:ar)
 else
 if o.Kind=6 then
 some (⟨o.Client,o.Seq,o.Kind,([]:List UInt8),([]:List UInt8),0,o.Session,o.Span⟩:ar)
 else
 bd (if o.Kind=7 then
  some (decide (o.Kind=7))
  else
  some (decide (o.Kind=8)):Option Bool) λw3=>
 if w3 then
 some (⟨o.Client,o.Seq,o.Kind,([]:List UInt8),([]:List UInt8),0,o.Session,0⟩:ar)
 else
 if o.Kind=9 then
 some (⟨o.Client,o.Seq,o.Kind,([]:List UInt8),([]:List UInt8),0,0,o.Span⟩:ar)
 else
 some (⟨o.Client,o.Seq,o.Kind,([]:List UInt8),([]:List UInt8),0,0,0⟩:ar)
def mG (o:ar):Option Bool:=bd (if (0:Int)<=o.Client then
  if o.Client<=1000 then
  if (1:Int)<=o.Seq then
  some (decide (o.Seq<=1000000000))
  else
  some false
  else
  some false
  else
  some false:Option Bool) λw=>
 bd (if w then
  if (0:Int)<=o.Kind then
  if o.Kind<=11 then
  if (o.Path.length:Int)<=100 then
  if (o.Value.length:Int)<=1000 then
  bd (bO o) λrA=>
  some ((decide (o.Client=rA.Client))&&((decide (o.Seq=rA.Seq))&&((decide (o.Kind=rA.Kind))&&((decide (o.Path=rA.Path))&&((decide (o.Value=rA.Value))&&((decide (o.Version=rA.Version))&&((decide (o.Session=rA.Session))&&(decide (o.Span=rA.Span)))))))))
  else
  some false
  else
  some false
  else
  some false
  else
  some false
  else
  some false:Option Bool) λw1=>
 some w1
def o4 (x:Int):Option Bool:=some (!decide (x=x))
def j0 (x:Int)(y:Int):Option Int:=bd (o4 x) λrA=>
 bd (o4 y) λaT=>
 if rA then
 if aT then
 some 0
 else
 some (-1)
 else
 if aT then
 some 1
 else
 if x<y then
 some (-1)
 else
 if y<x then
 some 1
 else
 some 0
def dE (x:ai)(dK:Int):Option Int:=bd (j0 x.Client dK) λrA=>some rA
def gq (x:List ai)(target:Int)(cmp:ai->Int->Option Int)(st:Int×Int):Option ((Int×Int)⊕Int):=if st.1<st.2 then
 if (0:Int)<=1 then
 ix x (c9 .i64 (By (c9 .u64 (c9 .i64 (st.1+st.2))) (2^min (sh 1) (AT .u64)))) λy=>
 bd (cmp y target) λrA=>
 bd (if rA<0 then
  some (c9 .i64 ((c9 .i64 (By (c9 .u64 (c9 .i64 (st.1+st.2))) (2^min (sh 1) (AT .u64))))+1),st.2)
  else
  some (st.1,c9 .i64 (By (c9 .u64 (c9 .i64 (st.1+st.2))) (2^min (sh 1) (AT .u64)))):Option (Int×Int)) λw1=>
 some (.inl (w1.1,w1.2))
 else none
 else
 some (.inr st.1)
def dt (x:List ai)(target:Int)(cmp:ai->Int->Option Int):Option (Int×Bool):=bd (Loop (gq x target cmp) (0,(x.length:Int))) λw=>
 bd (if w<(x.length:Int) then
  ix x w λy1=>
  bd (cmp y1 target) λaT=>
  some (w,decide (aT=0))
  else
  some (w,false):Option (Int×Bool)) λw2=>
 some (w2.1,w2.2)
def fT (rA:ap)(dK:Int):Option (Int×Bool):=bd (dt rA.Seen dK dE) λaT=>some (aT.1,aT.2)
def qk (rA:ap)(dK:Int):Option (ai×Bool):=bd (fT rA dK) λaT=>
 if !aT.2 then
 some ((⟨0,0,0,([]:List UInt8),0,([]:List (List UInt8))⟩:ai),false)
 else
 ix rA.Seen aT.1 λy=>
 some (y,true)
def j5 (rA:ap)(o:ar):Option (ai×Bool):=bd (qk rA o.Client) λaT=>
 bd (mG o) λcf=>
 bd (if !cf then
  some (.inl (0,0,0,([]:List UInt8),0,([]:List (List UInt8)),o.Client,o.Seq,1,([]:List UInt8),0,([]:List (List UInt8))))
  else
  bd (if aT.2 then
   some (decide (aT.1.Seq=o.Seq))
   else
   some false:Option Bool) λw1=>
  if w1 then
  some (.inr (aT.1.Client,aT.1.Seq,aT.1.E,aT.1.Value,aT.1.Version,aT.1.Names,true))
  else
  bd (if aT.2 then
   some (decide (o.Seq<aT.1.Seq))
   else
   some false:Option Bool) λw2=>
  bd (if w2 then
   some (.inl (0,0,0,([]:List UInt8),0,([]:List (List UInt8)),o.Client,o.Seq,15,([]:List UInt8),0,([]:List (List UInt8))))
   else
   bd (if !aT.2 then
    some (decide ((50:Int)<=(rA.Seen.length:Int)))
    else
    some false:Option Bool) λw4=>
   if w4 then
   some (.inl (0,0,0,([]:List UInt8),0,([]:List (List UInt8)),o.Client,o.Seq,9,([]:List UInt8),0,([]:List (List UInt8))))
   else
   some (.inr (o.Client,o.Seq,0,([]:List UInt8),0,([]:List (List UInt8)),false)):Option ((Int×Int×Int×(List UInt8)×Int×(List (List UInt8))×Int×Int×Int×(List UInt8)×Int×(List (List UInt8)))⊕(Int×Int×Int×(List UInt8)×Int×(List (List UInt8))×Bool))) λw3=>
  match w3 with
  | .inl p2=>some (.inl (p2.1,p2.2.1,p2.2.2.1,p2.2.2.2.1,p2.2.2.2.2.1,p2.2.2.2.2.2.1,p2.2.2.2.2.2.2.1,p2.2.2.2.2.2.2.2.1,p2.2.2.2.2.2.2.2.2.1,p2.2.2.2.2.2.2.2.2.2.1,p2.2.2.2.2.2.2.2.2.2.2.1,p2.2.2.2.2.2.2.2.2.2.2.2))
  | .inr p3=>some (.inr (p3.1,p3.2.1,p3.2.2.1,p3.2.2.2.1,p3.2.2.2.2.1,p3.2.2.2.2.2.1,p3.2.2.2.2.2.2)):Option ((Int×Int×Int×(List UInt8)×Int×(List (List UInt8))×Int×Int×Int×(List UInt8)×Int×(List (List UInt8)))⊕(Int×Int×Int×(List UInt8)×Int×(List (List UInt8))×Bool))) λw=>
 match w with
 | .inl p4=>some ((⟨p4.2.2.2.2.2.2.1,p4.2.2.2.2.2.2.2.1,p4.2.2.2.2.2.2.2.2.1,p4.2.2.2.2.2.2.2.2.2.1,p4.2.2.2.2.2.2.2.2.2.2.1,p4.2.2.2.2.2.2.2.2.2.2.2⟩:ai),true)
 | .inr p5=>some ((⟨p5.1,p5.2.1,p5.2.2.1,p5.2.2.2.1,p5.2.2.2.2.1,p5.2.2.2.2.2.1⟩:ai),p5.2.2.2.2.2.2)
def nY (w:aj):Option (Unit×aj):=some ((),w)
def dQ (x:aE)(id:Int):Option Int:=bd (j0 x.Id id) λrA=>some rA
def fM (x:List aE)(target:Int)(cmp:aE->Int->Option Int)(st:Int×Int):Option ((Int×Int)⊕Int):=if st.1<st.2 then
 if (0:Int)<=1 then
 ix x (c9 .i64 (By (c9 .u64 (c9 .i64 (st.1+st.2))) (2^min (sh 1) (AT .u64)))) λy=>
 bd (cmp y target) λrA=>
 bd (if rA<0 then
  some (c9 .i64 ((c9 .i64 (By (c9 .u64 (c9 .i64 (st.1+st.2))) (2^min (sh 1) (AT .u64))))+1),st.2)
  else
  some (st.1,c9 .i64 (By (c9 .u64 (c9 .i64 (st.1+st.2))) (2^min (sh 1) (AT .u64)))):Option (Int×Int)) λw1=>
 some (.inl (w1.1,w1.2))
 else none
 else
 some (.inr st.1)
def da (x:List aE)(target:Int)(cmp:aE->Int->Option Int):Option (Int×Bool):=bd (Loop (fM x target cmp) (0,(x.length:Int))) λw=>
 bd (if w<(x.length:Int) then
  ix x w λy1=>
  bd (cmp y1 target) λaT=>
  some (w,decide (aT=0))
  else
  some (w,false):Option (Int×Bool)) λw2=>
 some (w2.1,w2.2)
def eQ (b:aK)(id:Int):Option (Int×Bool):=bd (da b.L id dQ) λrA=>some (rA.1,rA.2)
def wH (b:aK)(id:Int):Option Bool:=bd (eQ b id) λrA=>some rA.2
def iW (sA:List UInt8)(dR:List UInt8):Option Bool:=bd (if (dR.length:Int)<=(sA.length:Int) then
  if (0:Int)<=0/\(0:Int)<=(dR.length:Int)/\(dR.length:Int)<=(sA.length:Int) then
  some (decide ((AI (sh 0) (AS (sh (dR.length:Int)) sA))=dR))
  else none
  else
  some false:Option Bool) λw=>
 some w
def iX (sA:List UInt8)(dR:List UInt8):Option ((List UInt8)×Bool):=bd (iW sA dR) λrA=>
 if !rA then
 some (sA,false)
 else
 if (0:Int)<=(dR.length:Int)/\(dR.length:Int)<=(sA.length:Int)/\(sA.length:Int)<=(sA.length:Int) then
 some (AI (sh (dR.length:Int)) (AS (sh (sA.length:Int)) sA),true)
 else none
def jm (sA:List UInt8)(dR:List UInt8):Option ((List UInt8)×Bool):=bd (iX sA dR) λrA=>some (rA.1,rA.2)
def iH (c:Int):Option Bool:=bd (Dx ([97,98,99,100,101,102,103,104,105,106,107,108,109,110,111,112,113,114,115,116,117,118,119,120,121,122,48,49,50,51,52,53,54,55,56,57,45,95]:List UInt8) c) λrA=>some (!rA)
def jn (f:Int->Option Bool)(Gf:Bool)(st:(List MV)):Option ((List MV)⊕(Unit⊕Int)):=if KF st then
 bd (f (zD st)) λrA=>
 if rA=Gf then
 some (.inr (.inr (se st)))
 else
 some (.inl (Cj st))
 else
 some (.inr (.inl ()))
def nK (sA:List UInt8)(f:Int->Option Bool)(Gf:Bool):Option Int:=bd (Loop (jn f Gf) ([.s sA,.i .i64 0]:List MV)) λw=>
 match w with
 | .inl p1=>some (-1)
 | .inr p2=>some p2
def lC (sA:List UInt8)(f:Int->Option Bool):Option Int:=bd (nK sA f true) λrA=>some rA
def gu (sA:List UInt8)(f:Int->Option Bool):Option Bool:=bd (lC sA f) λrA=>some (decide ((0:Int)<=rA))
def rf (sA:List UInt8):Option Bool:=bd (if !decide (sA=([]:List UInt8)) then
  if (sA.length:Int)<=30 then
  bd (Mg sA ([97,98,99,100,101,102,103,104,105,106,107,108,109,110,111,112,113,114,115,116,117,118,119,120,121,122,48,49,50,51,52,53,54,55,56,57,45,95]:List UInt8)) λrA=>
  if rA=([]:List UInt8) then
  bd (gu sA iH) λaT=>
  some (!aT)
  else
  some false
  else
  some false
  else
  some false:Option Bool) λw=>
 some w
def mH (sA:List UInt8):Option Bool:=bd (rf sA) λrA=>some (!rA)
def eK (sA:List (List UInt8))(f:(List UInt8)->Option Bool)(st:Int):Option (Int⊕(Unit⊕Int)):=if st<(sA.length:Int) then
 ix sA st λy=>
 bd (f y) λrA=>
 if rA then
 some (.inr (.inr st))
 else
 some (.inl (c9 .i64 (st+1)))
 else
 some (.inr (.inl ()))
def iw (sA:List (List UInt8))(f:(List UInt8)->Option Bool):Option Int:=bd (Loop (eK sA f) 0) λw=>
 match w with
 | .inl p1=>some (-1)
 | .inr p2=>some p2
def et (sA:List (List UInt8))(f:(List UInt8)->Option Bool):Option Bool:=bd (iw sA f) λrA=>some (decide ((0:Int)<=rA))
def iN (p:List UInt8):Option ((List (List UInt8))×Bool):=bd (jm p ([47]:List UInt8)) λrA=>
 bd (if !rA.2 then
  some true
  else
  some (decide ((100:Int)<(p.length:Int))):Option Bool) λw=>
 if w then
 some (([]:List (List UInt8)),false)
 else
 if rA.1=([]:List UInt8) then
 some (([]:List (List UInt8)),true)
 else
 bd (NH rA.1 ([47]:List UInt8)) λaT=>
 bd (if (aT.length:Int)<=8 then
  bd (et aT mH) λcf=>
  some (aT,!cf,aT)
  else
  some (aT,false,aT):Option ((List (List UInt8))×Bool×(List (List UInt8)))) λw1=>
 some (w1.2.2,w1.2.1)
def kV (x:List UInt8):Option Bool:=some (!decide (x=x))
def jo (x:List UInt8)(y:List UInt8):Option Int:=bd (kV x) λrA=>
 bd (kV y) λaT=>
 if rA then
 if aT then
 some 0
 else
 some (-1)
 else
 if aT then
 some 1
 else
 if BY x y then
 some (-1)
 else
 if !(BY x y||decide (x=y)) then
 some 1
 else
 some 0
def fq (s1:List (List UInt8))(s2:List (List UInt8))(st:Int):Option (Int⊕(Unit⊕Int)):=if st<(s1.length:Int) then
 ix s1 st λy=>
 if (s2.length:Int)<=st then
 some (.inr (.inr 1))
 else
 ix s2 st λy1=>
 bd (jo y y1) λrA=>
 if !decide (rA=0) then
 some (.inr (.inr rA))
 else
 some (.inl (c9 .i64 (st+1)))
 else
 some (.inr (.inl ()))
def gw (s1:List (List UInt8))(s2:List (List UInt8)):Option Int:=bd (Loop (fq s1 s2) 0) λw=>
 match w with
 | .inl p1=>
  if (s1.length:Int)<(s2.length:Int) then
  some (-1)
  else
  some 0
 | .inr p2=>some p2
def tq (p:List UInt8)(q:List UInt8):Option Bool:=bd (iN p) λrA=>
 bd (iN q) λaT=>
 bd (if rA.2 then
  if aT.2 then
  bd (gw rA.1 aT.1) λcf=>
  some (decide (cf<0))
  else
  some false
  else
  some false:Option Bool) λw=>
 some w
def cQ (n:ah)(p:List UInt8):Option Int:=if n.Path=p then
 some 0
 else
 bd (tq n.Path p) λrA=>
 if rA then
 some (-1)
 else
 some 1
def fN (x:List ah)(target:List UInt8)(cmp:ah->(List UInt8)->Option Int)(st:Int×Int):Option ((Int×Int)⊕Int):=if st.1<st.2 then
 if (0:Int)<=1 then
 ix x (c9 .i64 (By (c9 .u64 (c9 .i64 (st.1+st.2))) (2^min (sh 1) (AT .u64)))) λy=>
 bd (cmp y target) λrA=>
 bd (if rA<0 then
  some (c9 .i64 ((c9 .i64 (By (c9 .u64 (c9 .i64 (st.1+st.2))) (2^min (sh 1) (AT .u64))))+1),st.2)
  else
  some (st.1,c9 .i64 (By (c9 .u64 (c9 .i64 (st.1+st.2))) (2^min (sh 1) (AT .u64)))):Option (Int×Int)) λw1=>
 some (.inl (w1.1,w1.2))
 else none
 else
 some (.inr st.1)
def ec (x:List ah)(target:List UInt8)(cmp:ah->(List UInt8)->Option Int):Option (Int×Bool):=bd (Loop (fN x target cmp) (0,(x.length:Int))) λw=>
 bd (if w<(x.length:Int) then
  ix x w λy1=>
  bd (cmp y1 target) λaT=>
  some (w,decide (aT=0))
  else
  some (w,false):Option (Int×Bool)) λw2=>
 some (w2.1,w2.2)
def eW (sA:aD)(p:List UInt8):Option (Int×Bool):=bd (ec sA.L p cQ) λrA=>some (rA.1,rA.2)
def kE (p:List UInt8):Option Bool:=bd (iN p) λrA=>some rA.2
def eE (sA:List UInt8)(c:Int)(st:Int):Option (Int⊕(Unit⊕Int)):=if (0:Int)<=st then
 if (0:Int)<=st/\st<(sA.length:Int) then
 if ((sA.getD (sh st) 0).toNat:Int)=c then
 some (.inr (.inr st))
 else
 some (.inl (c9 .i64 (st-1)))
 else none
 else
 some (.inr (.inl ()))
def eY (sA:List UInt8)(c:Int):Option Int:=bd (Loop (eE sA c) (c9 .i64 ((sA.length:Int)-1))) λw=>
 match w with
 | .inl p1=>some (-1)
 | .inr p2=>some p2
def ma (sep:List UInt8)(st:Int×Int):Option ((Int×Int)⊕Int):=if (0:Int)<=st.2 then
 if (0:Int)<=st.2/\st.2<(sep.length:Int) then
 some (.inl (c9 .u32 ((c9 .u32 (st.1 *16777619))+(c9 .u32 ((sep.getD (sh st.2) 0).toNat:Int))),c9 .i64 (st.2-1)))
 else none
 else
 some (.inr st.1)
def mb (dH:Int×Int×Int):Option ((Int×Int×Int)⊕Int):=if (0:Int)<dH.2.2 then
 none
 else
 some (.inr dH.1)
def jK (sep:List UInt8):Option (Int×Int):=bd (Loop (ma sep) (0,c9 .i64 ((sep.length:Int)-1))) λw=>
 bd (Loop mb (1,16777619,(sep.length:Int))) λw1=>
 some (w,w1)
def iO (a:List UInt8)(a1:List UInt8)(st:Int×Int):Option ((Int×Int)⊕Int):=if (c9 .i64 ((a.length:Int)-(a1.length:Int)))<=st.2 then
 if (0:Int)<=st.2/\st.2<(a.length:Int) then
 some (.inl (c9 .u32 ((c9 .u32 (st.1 *16777619))+(c9 .u32 ((a.getD (sh st.2) 0).toNat:Int))),c9 .i64 (st.2-1)))
 else none
 else
 some (.inr st.1)
def iP (a:List UInt8)(a1:List UInt8)(rA:Int×Int)(dH:Int×Int):Option ((Int×Int)⊕(Unit⊕Int)):=if (0:Int)<=dH.2 then
 if (0:Int)<=dH.2/\dH.2<(a.length:Int) then
 if (0:Int)<=(c9 .i64 (dH.2+(a1.length:Int)))/\(c9 .i64 (dH.2+(a1.length:Int)))<(a.length:Int) then
 bd (if (c9 .u32 ((c9 .u32 ((c9 .u32 (dH.1 *16777619))+(c9 .u32 ((a.getD (sh dH.2) 0).toNat:Int))))-(c9 .u32 (rA.2 *(c9 .u32 ((a.getD (sh (c9 .i64 (dH.2+(a1.length:Int)))) 0).toNat:Int))))))=rA.1 then
  if (0:Int)<=dH.2/\dH.2<=(c9 .i64 (dH.2+(a1.length:Int)))/\(c9 .i64 (dH.2+(a1.length:Int)))<=(a.length:Int) then
  some (decide ((AI (sh dH.2) (AS (sh (c9 .i64 (dH.2+(a1.length:Int)))) a))=a1))
  else none
  else
  some false:Option Bool) λw3=>
 if w3 then
 some (.inr (.inr dH.2))
 else
 some (.inl (c9 .u32 ((c9 .u32 ((c9 .u32 (dH.1 *16777619))+(c9 .u32 ((a.getD (sh dH.2) 0).toNat:Int))))-(c9 .u32 (rA.2 *(c9 .u32 ((a.getD (sh (c9 .i64 (dH.2+(a1.length:Int)))) 0).toNat:Int))))),c9 .i64 (dH.2-1)))
 else none
 else none
 else
 some (.inr (.inl ()))
def ft (a:List UInt8)(a1:List UInt8):Option Int:=bd (jK a1) λrA=>
 bd (Loop (iO a a1) (0,c9 .i64 ((a.length:Int)-1))) λw=>
 bd (if w=rA.1 then
  if (0:Int)<=(c9 .i64 ((a.length:Int)-(a1.length:Int)))/\(c9 .i64 ((a.length:Int)-(a1.length:Int)))<=(a.length:Int)/\(a.length:Int)<=(a.length:Int) then
  some (decide ((AI (sh (c9 .i64 ((a.length:Int)-(a1.length:Int)))) (AS (sh (a.length:Int)) a))=a1))
  else none
  else
  some false:Option Bool) λw1=>
 if w1 then
 some (c9 .i64 ((a.length:Int)-(a1.length:Int)))
 else
 bd (Loop (iP a a1 rA) (w,c9 .i64 ((c9 .i64 ((a.length:Int)-(a1.length:Int)))-1))) λw2=>
 match w2 with
 | .inl p2=>some (-1)
 | .inr p3=>some p3
def jq (sA:List UInt8)(substr:List UInt8):Option Int:=if (substr.length:Int)=0 then
 some (sA.length:Int)
 else
 if (substr.length:Int)=1 then
 if (0:Int)<=0/\(0:Int)<(substr.length:Int) then
 bd (eY sA ((substr.getD (sh 0) 0).toNat:Int)) λrA=>
 some rA
 else none
 else
 if (substr.length:Int)=(sA.length:Int) then
 if substr=sA then
 some 0
 else
 some (-1)
 else
 if (sA.length:Int)<(substr.length:Int) then
 some (-1)
 else
 bd (ft sA substr) λaT=>
 some aT
def ou (p:List UInt8):Option ((List UInt8)×Int):=bd (kE p) λrA=>
 if !rA then
 some (([]:List UInt8),13)
 else
 if p=([47]:List UInt8) then
 some (([]:List UInt8),6)
 else
 bd (jq p ([47]:List UInt8)) λaT=>
 if (0:Int)<=0/\(0:Int)<=(imax 1 aT)/\(imax 1 aT)<=(p.length:Int) then
 some (AI (sh 0) (AS (sh (imax 1 aT)) p),0)
 else none
def ig (sA:aD)(p:List UInt8):Option (Int×Int):=bd (kE p) λrA=>
 if !rA then
 some (0,13)
 else
 bd (eW sA p) λaT=>
 if !aT.2 then
 some (0,6)
 else
 some (aT.1,0)
def ql (sA:aD)(p:List UInt8):Option (ah×Int):=bd (ig sA p) λrA=>
 if !decide (rA.2=0) then
 some ((⟨([]:List UInt8),([]:List UInt8),0,0⟩:ah),rA.2)
 else
 ix sA.L rA.1 λy=>
 some (y,0)
def iQ (c:List UInt8)(c1:Bool)(c2:aD)(c3:List UInt8)(c4:Int):Option Int:=bd (kE c) λrA=>
 if !rA then
 some 13
 else
 if c1 then
 some 7
 else
 bd (ou c) λaT=>
 bd (ql c2 aT.1) λcf=>
 if !decide (cf.2=0) then
 some 6
 else
 if !decide (cf.1.b5=0) then
 some 10
 else
 if (1000:Int)<(c3.length:Int) then
 some 5
 else
 if c4<0 then
 some 1
 else
 if (200:Int)<=(c2.L.length:Int) then
 some 9
 else
 some 0
def mI (sA:aD)(p:List UInt8)(value:List UInt8)(owner:Int):Option (aD×Int):=bd (eW sA p) λrA=>
 bd (iQ p rA.2 sA value owner) λaT=>
 if !decide (aT=0) then
 some (sA,aT)
 else
 bd (kC 48 sA.L) λcf=>
 bd (sJ 48 cf rA.1 ([(⟨p,value,0,owner⟩:ah)]:List ah)) λfH=>
 some ((⟨fH⟩:aD),0)
def ee (w:aj)(kind:Int):Option (Unit×aj):=bd (if w.x.E=0 then
  if (w.l.length+([(⟨kind,w.o.Path⟩:aG)]:List aG).length) *24<=2^46 then
  some (w.r.Shelf.L,w.r.aL.cI,w.r.aL.L,w.r.aS.L,w.r.Seen,w.o.Client,w.o.Seq,w.o.Kind,w.o.Path,w.o.Value,w.o.Version,w.o.Session,w.o.Span,w.x.Client,w.x.Seq,w.x.E,w.x.Value,w.x.Version,w.x.Names,w.l++([(⟨kind,w.o.Path⟩:aG)]:List aG))
  else none
  else
  some (w.r.Shelf.L,w.r.aL.cI,w.r.aL.L,w.r.aS.L,w.r.Seen,w.o.Client,w.o.Seq,w.o.Kind,w.o.Path,w.o.Value,w.o.Version,w.o.Session,w.o.Span,w.x.Client,w.x.Seq,w.x.E,w.x.Value,w.x.Version,w.x.Names,w.l):Option ((List ah)×Int×(List aE)×(List aq)×(List ai)×Int×Int×Int×(List UInt8)×(List UInt8)×Int×Int×Int×Int×Int×Int×(List UInt8)×Int×(List (List UInt8))×(List aG))) λw1=>
 some ((),(⟨(⟨(⟨w1.1⟩:aD),(⟨w1.2.1,w1.2.2.1⟩:aK),(⟨w1.2.2.2.1⟩:ca),w1.2.2.2.2.1⟩:ap),(⟨w1.2.2.2.2.2.1,w1.2.2.2.2.2.2.1,w1.2.2.2.2.2.2.2.1,w1.2.2.2.2.2.2.2.2.1,w1.2.2.2.2.2.2.2.2.2.1,w1.2.2.2.2.2.2.2.2.2.2.1,w1.2.2.2.2.2.2.2.2.2.2.2.1,w1.2.2.2.2.2.2.2.2.2.2.2.2.1⟩:ar),(⟨w1.2.2.2.2.2.2.2.2.2.2.2.2.2.1,w1.2.2.2.2.2.2.2.2.2.2.2.2.2.2.1,w1.2.2.2.2.2.2.2.2.2.2.2.2.2.2.2.1,w1.2.2.2.2.2.2.2.2.2.2.2.2.2.2.2.2.1,w1.2.2.2.2.2.2.2.2.2.2.2.2.2.2.2.2.2.1,w1.2.2.2.2.2.2.2.2.2.2.2.2.2.2.2.2.2.2.1⟩:ai),w1.2.2.2.2.2.2.2.2.2.2.2.2.2.2.2.2.2.2.2⟩:aj))
def jr (w:aj):Option (Unit×aj):=bd (if !decide (w.o.Session=0) then
  bd (wH w.r.aL w.o.Session) λrA=>
  some (!rA)
  else
  some false:Option Bool) λw1=>
 if w1 then
 some ((),(⟨w.r,w.o,(⟨w.x.Client,w.x.Seq,14,w.x.Value,w.x.Version,w.x.Names⟩:ai),w.l⟩:aj))
 else
 bd (mI w.r.Shelf w.o.Path w.o.Value w.o.Session) λaT=>
 bd (ee (⟨(⟨aT.1,w.r.aL,w.r.aS,w.r.Seen⟩:ap),w.o,(⟨w.x.Client,w.x.Seq,aT.2,w.x.Value,w.x.Version,w.x.Names⟩:ai),w.l⟩:aj) 1) λcf=>
 some ((),cf.2)
def mc (w:aj):Option (Unit×aj):=bd (ql w.r.Shelf w.o.Path) λrA=>some ((),(⟨w.r,w.o,(⟨w.x.Client,w.x.Seq,rA.2,rA.1.Value,rA.1.Version,w.x.Names⟩:ai),w.l⟩:aj))
def eX (sA:aD)(p:List UInt8)(version:Int):Option (Int×Int):=bd (ig sA p) λrA=>
 bd (if rA.2=0 then
  if !decide (version=(-1)) then
  ix sA.L rA.1 λy=>
  some (!decide (version=y.Version))
  else
  some false
  else
  some false:Option Bool) λw=>
 if w then
 some (rA.1,8)
 else
 some (rA.1,rA.2)
def wI (sA:aD)(p:List UInt8)(value:List UInt8)(version:Int):Option (aD×Int):=bd (eX sA p version) λrA=>
 if !decide (rA.2=0) then
 some (sA,rA.2)
 else
 if (1000:Int)<(value.length:Int) then
 some (sA,5)
 else
 ix sA.L rA.1 λy=>
 if (1000000000:Int)<=y.Version then
 some (sA,9)
 else
 bd (kC 48 sA.L) λaT=>
 ix aT rA.1 λy1=>
 ix (aT.set (sh rA.1) (⟨y1.Path,value,y1.Version,y1.b5⟩:ah)) rA.1 λy2=>
 ix (aT.set (sh rA.1) (⟨y1.Path,value,y1.Version,y1.b5⟩:ah)) rA.1 λy3=>
 some ((⟨(aT.set (sh rA.1) (⟨y1.Path,value,y1.Version,y1.b5⟩:ah)).set (sh rA.1) (⟨y3.Path,y3.Value,c9 .i64 (y2.Version+1),y3.b5⟩:ah)⟩:aD),0)
def mf (w:aj):Option (Unit×aj):=bd (wI w.r.Shelf w.o.Path w.o.Value w.o.Version) λrA=>
 bd (ee (⟨(⟨rA.1,w.r.aL,w.r.aS,w.r.Seen⟩:ap),w.o,(⟨w.x.Client,w.x.Seq,rA.2,w.x.Value,w.x.Version,w.x.Names⟩:ai),w.l⟩:aj) 2) λaT=>
 bd (if aT.2.x.E=0 then
  bd (ql aT.2.r.Shelf aT.2.o.Path) λcf=>
  some (aT.2.r.Shelf.L,aT.2.r.aL.cI,aT.2.r.aL.L,aT.2.r.aS.L,aT.2.r.Seen,aT.2.o.Client,aT.2.o.Seq,aT.2.o.Kind,aT.2.o.Path,aT.2.o.Value,aT.2.o.Version,aT.2.o.Session,aT.2.o.Span,aT.2.x.Client,aT.2.x.Seq,aT.2.x.E,aT.2.x.Value,cf.1.Version,aT.2.x.Names,aT.2.l)
  else
  some (aT.2.r.Shelf.L,aT.2.r.aL.cI,aT.2.r.aL.L,aT.2.r.aS.L,aT.2.r.Seen,aT.2.o.Client,aT.2.o.Seq,aT.2.o.Kind,aT.2.o.Path,aT.2.o.Value,aT.2.o.Version,aT.2.o.Session,aT.2.o.Span,aT.2.x.Client,aT.2.x.Seq,aT.2.x.E,aT.2.x.Value,aT.2.x.Version,aT.2.x.Names,aT.2.l):Option ((List ah)×Int×(List aE)×(List aq)×(List ai)×Int×Int×Int×(List UInt8)×(List UInt8)×Int×Int×Int×Int×Int×Int×(List UInt8)×Int×(List (List UInt8))×(List aG))) λw1=>
 some ((),(⟨(⟨(⟨w1.1⟩:aD),(⟨w1.2.1,w1.2.2.1⟩:aK),(⟨w1.2.2.2.1⟩:ca),w1.2.2.2.2.1⟩:ap),(⟨w1.2.2.2.2.2.1,w1.2.2.2.2.2.2.1,w1.2.2.2.2.2.2.2.1,w1.2.2.2.2.2.2.2.2.1,w1.2.2.2.2.2.2.2.2.2.1,w1.2.2.2.2.2.2.2.2.2.2.1,w1.2.2.2.2.2.2.2.2.2.2.2.1,w1.2.2.2.2.2.2.2.2.2.2.2.2.1⟩:ar),(⟨w1.2.2.2.2.2.2.2.2.2.2.2.2.2.1,w1.2.2.2.2.2.2.2.2.2.2.2.2.2.2.1,w1.2.2.2.2.2.2.2.2.2.2.2.2.2.2.2.1,w1.2.2.2.2.2.2.2.2.2.2.2.2.2.2.2.2.1,w1.2.2.2.2.2.2.2.2.2.2.2.2.2.2.2.2.2.1,w1.2.2.2.2.2.2.2.2.2.2.2.2.2.2.2.2.2.2.1⟩:ai),w1.2.2.2.2.2.2.2.2.2.2.2.2.2.2.2.2.2.2.2⟩:aj))
def jt (s1:List (List UInt8))(s2:List (List UInt8))(st:Int):Option (Int⊕(Unit⊕Bool)):=if st<(s1.length:Int) then
 ix s1 st λy=>
 ix s2 st λy1=>
 if !decide (y=y1) then
 some (.inr (.inr false))
 else
 some (.inl (c9 .i64 (st+1)))
 else
 some (.inr (.inl ()))
def fU (s1:List (List UInt8))(s2:List (List UInt8)):Option Bool:=if !decide ((s1.length:Int)=(s2.length:Int)) then
 some false
 else
 bd (Loop (jt s1 s2) 0) λw=>
 match w with
 | .inl p1=>some true
 | .inr p2=>some p2
def nZ (p:List UInt8)(q:List UInt8):Option Bool:=bd (iN p) λrA=>
 bd (iN q) λaT=>
 bd (if rA.2 then
  if aT.2 then
  if (rA.1.length:Int)<(aT.1.length:Int) then
  if (0:Int)<=0/\(0:Int)<=(rA.1.length:Int)/\(rA.1.length:Int)<=(aT.1.length:Int) then
  bd (fU rA.1 (AI (sh 0) (AS (sh (rA.1.length:Int)) aT.1))) λcf=>
  some cf
  else none
  else
  some false
  else
  some false
  else
  some false:Option Bool) λw=>
 some w
def o6 (sA:aD)(p:List UInt8)(version:Int):Option (aD×Int):=bd (eX sA p version) λrA=>
 if p=([47]:List UInt8) then
 some (sA,13)
 else
 if !decide (rA.2=0) then
 some (sA,rA.2)
 else
 bd (if (c9 .i64 (rA.1+1))<(sA.L.length:Int) then
  ix sA.L (c9 .i64 (rA.1+1)) λy=>
  bd (nZ p y.Path) λaT=>
  some aT
  else
  some false:Option Bool) λw=>
 if w then
 some (sA,10)
 else
 bd (kC 48 sA.L) λcf=>
 bd (Bd cf rA.1 (c9 .i64 (rA.1+1))) λfH=>
 some ((⟨fH⟩:aD),0)
def ju (w:aj):Option (Unit×aj):=bd (o6 w.r.Shelf w.o.Path w.o.Version) λrA=>
 bd (ee (⟨(⟨rA.1,w.r.aL,w.r.aS,w.r.Seen⟩:ap),w.o,(⟨w.x.Client,w.x.Seq,rA.2,w.x.Value,w.x.Version,w.x.Names⟩:ai),w.l⟩:aj) 3) λaT=>
 some ((),aT.2)
def qm (p:List UInt8):Option ((List (List UInt8))×Int):=bd (iN p) λrA=>
 if !rA.2 then
 some (([]:List (List UInt8)),13)
 else
 some (rA.1,0)
def o7 (a:aD)(a1:List UInt8)(rA:Int×Int)(aT:(List (List UInt8))×Int)(st:(List (List UInt8))×Int):Option (((List (List UInt8))×Int)⊕(List (List UInt8))):=if st.2<((AI (sh (c9 .i64 (rA.1+1))) (AS (sh (a.L.length:Int)) a.L)).length:Int) then
 ix (AI (sh (c9 .i64 (rA.1+1))) (AS (sh (a.L.length:Int)) a.L)) st.2 λy=>
 bd (nZ a1 y.Path) λcf=>
 if !cf then
 some (.inr st.1)
 else
 bd (qm y.Path) λfH=>
 bd (if (fH.1.length:Int)=(c9 .i64 ((aT.1.length:Int)+1)) then
  ix fH.1 (aT.1.length:Int) λy1=>
  if (st.1.length+([y1]:List (List UInt8)).length) *16<=2^46 then
  some (st.1++([y1]:List (List UInt8)))
  else none
  else
  some st.1:Option (List (List UInt8))) λw1=>
 some (.inl (w1,c9 .i64 (st.2+1)))
 else
 some (.inr st.1)
def tt (a:aD)(a1:List UInt8):Option ((List (List UInt8))×Int):=bd (ig a a1) λrA=>
 if !decide (rA.2=0) then
 some (([]:List (List UInt8)),rA.2)
 else
 bd (qm a1) λaT=>
 if (0:Int)<=(c9 .i64 (rA.1+1))/\(c9 .i64 (rA.1+1))<=(a.L.length:Int)/\(a.L.length:Int)<=(a.L.length:Int) then
 bd (Loop (o7 a a1 rA aT) (([]:List (List UInt8)),0)) λw=>
 some (w,0)
 else none
def kW (w:aj):Option (Unit×aj):=bd (tt w.r.Shelf w.o.Path) λrA=>some ((),(⟨w.r,w.o,(⟨w.x.Client,w.x.Seq,rA.2,w.x.Value,w.x.Version,rA.1⟩:ai),w.l⟩:aj))
def tu (b:aK)(id:Int)(span:Int):Option (aK×Int):=bd (eQ b id) λrA=>
 bd (if id<1 then
  some true
  else
  if span<1 then
  some true
  else
  some (decide ((1000:Int)<span)):Option Bool) λw=>
 if w then
 some (b,1)
 else
 if rA.2 then
 some (b,7)
 else
 if (50:Int)<=(b.L.length:Int) then
 some (b,9)
 else
 bd (kC 24 b.L) λaT=>
 bd (sJ 24 aT rA.1 ([(⟨id,span,c9 .i64 (b.cI+span)⟩:aE)]:List aE)) λcf=>
 some ((⟨b.cI,cf⟩:aK),0)
def kX (w:aj):Option (Unit×aj):=bd (tu w.r.aL w.o.Session w.o.Span) λrA=>some ((),(⟨(⟨w.r.Shelf,rA.1,w.r.aS,w.r.Seen⟩:ap),w.o,(⟨w.x.Client,w.x.Seq,rA.2,w.x.Value,w.x.Version,w.x.Names⟩:ai),w.l⟩:aj))
def rh (b:aK)(id:Int):Option (aK×Int):=bd (eQ b id) λrA=>
 if !rA.2 then
 some (b,14)
 else
 bd (kC 24 b.L) λaT=>
 ix aT rA.1 λy=>
 ix aT rA.1 λy1=>
 some ((⟨b.cI,aT.set (sh rA.1) (⟨y1.Id,y1.Span,c9 .i64 (b.cI+y.Span)⟩:aE)⟩:aK),0)
def j6 (w:aj):Option (Unit×aj):=bd (rh w.r.aL w.o.Session) λrA=>some ((),(⟨(⟨w.r.Shelf,rA.1,w.r.aS,w.r.Seen⟩:ap),w.o,(⟨w.x.Client,w.x.Seq,rA.2,w.x.Value,w.x.Version,w.x.Names⟩:ai),w.l⟩:aj))
def rj (b:aK)(id:Int):Option (aK×Int):=bd (eQ b id) λrA=>
 if !rA.2 then
 some (b,14)
 else
 bd (kC 24 b.L) λaT=>
 bd (Bd aT rA.1 (c9 .i64 (rA.1+1))) λcf=>
 some ((⟨b.cI,cf⟩:aK),0)
def o8 (sA:aD)(owner:Int)(st:(List (List UInt8))×(List ah)×Int):Option (((List (List UInt8))×(List ah)×Int)⊕((List (List UInt8))×(List ah))):=if st.2.2<(sA.L.length:Int) then
 ix sA.L st.2.2 λy=>
 bd (if (0:Int)<owner then
  some (decide (y.b5=owner))
  else
  some false:Option Bool) λw1=>
 if w1 then
 if (st.1.length+([y.Path]:List (List UInt8)).length) *16<=2^46 then
 some (.inl (st.1++([y.Path]:List (List UInt8)),st.2.1,c9 .i64 (st.2.2+1)))
 else none
 else
 if (st.2.1.length+([y]:List ah).length) *48<=2^46 then
 some (.inl (st.1,st.2.1++([y]:List ah),c9 .i64 (st.2.2+1)))
 else none
 else
 some (.inr (st.1,st.2.1))
def tw (sA:aD)(owner:Int):Option (aD×(List (List UInt8))):=bd (Loop (o8 sA owner) (([]:List (List UInt8)),([]:List ah),0)) λw=>some ((⟨w.2⟩:aD),w.1)
def jv (rA:aD×(List (List UInt8)))(st:Int×(List ah)×Int×(List aE)×(List aq)×(List ai)×Int×Int×Int×(List UInt8)×(List UInt8)×Int×Int×Int×Int×Int×Int×(List UInt8)×Int×(List (List UInt8))×(List aG)):Option ((Int×(List ah)×Int×(List aE)×(List aq)×(List ai)×Int×Int×Int×(List UInt8)×(List UInt8)×Int×Int×Int×Int×Int×Int×(List UInt8)×Int×(List (List UInt8))×(List aG))⊕((List ah)×Int×(List aE)×(List aq)×(List ai)×Int×Int×Int×(List UInt8)×(List UInt8)×Int×Int×Int×Int×Int×Int×(List UInt8)×Int×(List (List UInt8))×(List aG))):=if st.1<(rA.2.length:Int) then
 ix rA.2 st.1 λy=>
 if (st.2.2.2.2.2.2.2.2.2.2.2.2.2.2.2.2.2.2.2.2.length+([(⟨3,y⟩:aG)]:List aG).length) *24<=2^46 then
 some (.inl (c9 .i64 (st.1+1),st.2.1,st.2.2.1,st.2.2.2.1,st.2.2.2.2.1,st.2.2.2.2.2.1,st.2.2.2.2.2.2.1,st.2.2.2.2.2.2.2.1,st.2.2.2.2.2.2.2.2.1,st.2.2.2.2.2.2.2.2.2.1,st.2.2.2.2.2.2.2.2.2.2.1,st.2.2.2.2.2.2.2.2.2.2.2.1,st.2.2.2.2.2.2.2.2.2.2.2.2.1,st.2.2.2.2.2.2.2.2.2.2.2.2.2.1,st.2.2.2.2.2.2.2.2.2.2.2.2.2.2.1,st.2.2.2.2.2.2.2.2.2.2.2.2.2.2.2.1,st.2.2.2.2.2.2.2.2.2.2.2.2.2.2.2.2.1,st.2.2.2.2.2.2.2.2.2.2.2.2.2.2.2.2.2.1,st.2.2.2.2.2.2.2.2.2.2.2.2.2.2.2.2.2.2.1,st.2.2.2.2.2.2.2.2.2.2.2.2.2.2.2.2.2.2.2.1,st.2.2.2.2.2.2.2.2.2.2.2.2.2.2.2.2.2.2.2.2++([(⟨3,y⟩:aG)]:List aG)))
 else none
 else
 some (.inr (st.2.1,st.2.2.1,st.2.2.2.1,st.2.2.2.2.1,st.2.2.2.2.2.1,st.2.2.2.2.2.2.1,st.2.2.2.2.2.2.2.1,st.2.2.2.2.2.2.2.2.1,st.2.2.2.2.2.2.2.2.2.1,st.2.2.2.2.2.2.2.2.2.2.1,st.2.2.2.2.2.2.2.2.2.2.2.1,st.2.2.2.2.2.2.2.2.2.2.2.2.1,st.2.2.2.2.2.2.2.2.2.2.2.2.2.1,st.2.2.2.2.2.2.2.2.2.2.2.2.2.2.1,st.2.2.2.2.2.2.2.2.2.2.2.2.2.2.2.1,st.2.2.2.2.2.2.2.2.2.2.2.2.2.2.2.2.1,st.2.2.2.2.2.2.2.2.2.2.2.2.2.2.2.2.2.1,st.2.2.2.2.2.2.2.2.2.2.2.2.2.2.2.2.2.2.1,st.2.2.2.2.2.2.2.2.2.2.2.2.2.2.2.2.2.2.2.1,st.2.2.2.2.2.2.2.2.2.2.2.2.2.2.2.2.2.2.2.2))
def ji (w:aj)(id:Int):Option (Unit×aj):=bd (tw w.r.Shelf id) λrA=>
 bd (Loop (jv rA) (0,rA.1.L,w.r.aL.cI,w.r.aL.L,w.r.aS.L,w.r.Seen,w.o.Client,w.o.Seq,w.o.Kind,w.o.Path,w.o.Value,w.o.Version,w.o.Session,w.o.Span,w.x.Client,w.x.Seq,w.x.E,w.x.Value,w.x.Version,w.x.Names,w.l)) λw1=>
 some ((),(⟨(⟨(⟨w1.1⟩:aD),(⟨w1.2.1,w1.2.2.1⟩:aK),(⟨w1.2.2.2.1⟩:ca),w1.2.2.2.2.1⟩:ap),(⟨w1.2.2.2.2.2.1,w1.2.2.2.2.2.2.1,w1.2.2.2.2.2.2.2.1,w1.2.2.2.2.2.2.2.2.1,w1.2.2.2.2.2.2.2.2.2.1,w1.2.2.2.2.2.2.2.2.2.2.1,w1.2.2.2.2.2.2.2.2.2.2.2.1,w1.2.2.2.2.2.2.2.2.2.2.2.2.1⟩:ar),(⟨w1.2.2.2.2.2.2.2.2.2.2.2.2.2.1,w1.2.2.2.2.2.2.2.2.2.2.2.2.2.2.1,w1.2.2.2.2.2.2.2.2.2.2.2.2.2.2.2.1,w1.2.2.2.2.2.2.2.2.2.2.2.2.2.2.2.2.1,w1.2.2.2.2.2.2.2.2.2.2.2.2.2.2.2.2.2.1,w1.2.2.2.2.2.2.2.2.2.2.2.2.2.2.2.2.2.2.1⟩:ai),w1.2.2.2.2.2.2.2.2.2.2.2.2.2.2.2.2.2.2.2⟩:aj))
def j7 (w:aj):Option (Unit×aj):=bd (rj w.r.aL w.o.Session) λrA=>
 bd (if rA.2=0 then
  bd (ji (⟨(⟨w.r.Shelf,rA.1,w.r.aS,w.r.Seen⟩:ap),w.o,(⟨w.x.Client,w.x.Seq,rA.2,w.x.Value,w.x.Version,w.x.Names⟩:ai),w.l⟩:aj) w.o.Session) λaT=>
  some (aT.2.r.Shelf.L,aT.2.r.aL.cI,aT.2.r.aL.L,aT.2.r.aS.L,aT.2.r.Seen,aT.2.o.Client,aT.2.o.Seq,aT.2.o.Kind,aT.2.o.Path,aT.2.o.Value,aT.2.o.Version,aT.2.o.Session,aT.2.o.Span,aT.2.x.Client,aT.2.x.Seq,aT.2.x.E,aT.2.x.Value,aT.2.x.Version,aT.2.x.Names,aT.2.l)
  else
  some (w.r.Shelf.L,rA.1.cI,rA.1.L,w.r.aS.L,w.r.Seen,w.o.Client,w.o.Seq,w.o.Kind,w.o.Path,w.o.Value,w.o.Version,w.o.Session,w.o.Span,w.x.Client,w.x.Seq,rA.2,w.x.Value,w.x.Version,w.x.Names,w.l):Option ((List ah)×Int×(List aE)×(List aq)×(List ai)×Int×Int×Int×(List UInt8)×(List UInt8)×Int×Int×Int×Int×Int×Int×(List UInt8)×Int×(List (List UInt8))×(List aG))) λw1=>
 some ((),(⟨(⟨(⟨w1.1⟩:aD),(⟨w1.2.1,w1.2.2.1⟩:aK),(⟨w1.2.2.2.1⟩:ca),w1.2.2.2.2.1⟩:ap),(⟨w1.2.2.2.2.2.1,w1.2.2.2.2.2.2.1,w1.2.2.2.2.2.2.2.1,w1.2.2.2.2.2.2.2.2.1,w1.2.2.2.2.2.2.2.2.2.1,w1.2.2.2.2.2.2.2.2.2.2.1,w1.2.2.2.2.2.2.2.2.2.2.2.1,w1.2.2.2.2.2.2.2.2.2.2.2.2.1⟩:ar),(⟨w1.2.2.2.2.2.2.2.2.2.2.2.2.2.1,w1.2.2.2.2.2.2.2.2.2.2.2.2.2.2.1,w1.2.2.2.2.2.2.2.2.2.2.2.2.2.2.2.1,w1.2.2.2.2.2.2.2.2.2.2.2.2.2.2.2.2.1,w1.2.2.2.2.2.2.2.2.2.2.2.2.2.2.2.2.2.1,w1.2.2.2.2.2.2.2.2.2.2.2.2.2.2.2.2.2.2.1⟩:ai),w1.2.2.2.2.2.2.2.2.2.2.2.2.2.2.2.2.2.2.2⟩:aj))
def o9 (b:aK)(now:Int)(st:(List Int)×Int×(List aE)×Int):Option (((List Int)×Int×(List aE)×Int)⊕((List Int)×Int×(List aE))):=if st.2.2.2<(b.L.length:Int) then
 ix b.L st.2.2.2 λy=>
 if y.dX<=now then
 if (st.1.length+([y.Id]:List Int).length) *8<=2^46 then
 some (.inl (st.1++([y.Id]:List Int),st.2.1,st.2.2.1,c9 .i64 (st.2.2.2+1)))
 else none
 else
 if (st.2.2.1.length+([y]:List aE).length) *24<=2^46 then
 some (.inl (st.1,st.2.1,st.2.2.1++([y]:List aE),c9 .i64 (st.2.2.2+1)))
 else none
 else
 some (.inr (st.1,st.2.1,st.2.2.1))
def tx (b:aK)(now:Int):Option (aK×(List Int)×Int):=if now<b.cI then
 some (b,([]:List Int),15)
 else
 if (1000000000:Int)<now then
 some (b,([]:List Int),5)
 else
 bd (Loop (o9 b now) (([]:List Int),now,([]:List aE),0)) λw=>
 some ((⟨w.2.1,w.2.2⟩:aK),w.1,0)
def jx (rA:aK×(List Int)×Int)(st:Int×(List ah)×Int×(List aE)×(List aq)×(List ai)×Int×Int×Int×(List UInt8)×(List UInt8)×Int×Int×Int×Int×Int×Int×(List UInt8)×Int×(List (List UInt8))×(List aG)):Option ((Int×(List ah)×Int×(List aE)×(List aq)×(List ai)×Int×Int×Int×(List UInt8)×(List UInt8)×Int×Int×Int×Int×Int×Int×(List UInt8)×Int×(List (List UInt8))×(List aG))⊕((List ah)×Int×(List aE)×(List aq)×(List ai)×Int×Int×Int×(List UInt8)×(List UInt8)×Int×Int×Int×Int×Int×Int×(List UInt8)×Int×(List (List UInt8))×(List aG))):=if st.1<(rA.2.1.length:Int) then
 ix rA.2.1 st.1 λy=>
 bd (ji (⟨(⟨(⟨st.2.1⟩:aD),(⟨st.2.2.1,st.2.2.2.1⟩:aK),(⟨st.2.2.2.2.1⟩:ca),st.2.2.2.2.2.1⟩:ap),(⟨st.2.2.2.2.2.2.1,st.2.2.2.2.2.2.2.1,st.2.2.2.2.2.2.2.2.1,st.2.2.2.2.2.2.2.2.2.1,st.2.2.2.2.2.2.2.2.2.2.1,st.2.2.2.2.2.2.2.2.2.2.2.1,st.2.2.2.2.2.2.2.2.2.2.2.2.1,st.2.2.2.2.2.2.2.2.2.2.2.2.2.1⟩:ar),(⟨st.2.2.2.2.2.2.2.2.2.2.2.2.2.2.1,st.2.2.2.2.2.2.2.2.2.2.2.2.2.2.2.1,st.2.2.2.2.2.2.2.2.2.2.2.2.2.2.2.2.1,st.2.2.2.2.2.2.2.2.2.2.2.2.2.2.2.2.2.1,st.2.2.2.2.2.2.2.2.2.2.2.2.2.2.2.2.2.2.1,st.2.2.2.2.2.2.2.2.2.2.2.2.2.2.2.2.2.2.2.1⟩:ai),st.2.2.2.2.2.2.2.2.2.2.2.2.2.2.2.2.2.2.2.2⟩:aj) y) λaT=>
 some (.inl (c9 .i64 (st.1+1),aT.2.r.Shelf.L,aT.2.r.aL.cI,aT.2.r.aL.L,aT.2.r.aS.L,aT.2.r.Seen,aT.2.o.Client,aT.2.o.Seq,aT.2.o.Kind,aT.2.o.Path,aT.2.o.Value,aT.2.o.Version,aT.2.o.Session,aT.2.o.Span,aT.2.x.Client,aT.2.x.Seq,aT.2.x.E,aT.2.x.Value,aT.2.x.Version,aT.2.x.Names,aT.2.l))
 else
 some (.inr (st.2.1,st.2.2.1,st.2.2.2.1,st.2.2.2.2.1,st.2.2.2.2.2.1,st.2.2.2.2.2.2.1,st.2.2.2.2.2.2.2.1,st.2.2.2.2.2.2.2.2.1,st.2.2.2.2.2.2.2.2.2.1,st.2.2.2.2.2.2.2.2.2.2.1,st.2.2.2.2.2.2.2.2.2.2.2.1,st.2.2.2.2.2.2.2.2.2.2.2.2.1,st.2.2.2.2.2.2.2.2.2.2.2.2.2.1,st.2.2.2.2.2.2.2.2.2.2.2.2.2.2.1,st.2.2.2.2.2.2.2.2.2.2.2.2.2.2.2.1,st.2.2.2.2.2.2.2.2.2.2.2.2.2.2.2.2.1,st.2.2.2.2.2.2.2.2.2.2.2.2.2.2.2.2.2.1,st.2.2.2.2.2.2.2.2.2.2.2.2.2.2.2.2.2.2.1,st.2.2.2.2.2.2.2.2.2.2.2.2.2.2.2.2.2.2.2.1,st.2.2.2.2.2.2.2.2.2.2.2.2.2.2.2.2.2.2.2.2))
def kY (w:aj):Option (Unit×aj):=bd (tx w.r.aL w.o.Span) λrA=>
 if !decide (rA.2.2=0) then
 some ((),(⟨w.r,w.o,(⟨w.x.Client,w.x.Seq,rA.2.2,w.x.Value,w.x.Version,w.x.Names⟩:ai),w.l⟩:aj))
 else
 bd (Loop (jx rA) (0,w.r.Shelf.L,rA.1.cI,rA.1.L,w.r.aS.L,w.r.Seen,w.o.Client,w.o.Seq,w.o.Kind,w.o.Path,w.o.Value,w.o.Version,w.o.Session,w.o.Span,w.x.Client,w.x.Seq,rA.2.2,w.x.Value,rA.1.cI,w.x.Names,w.l)) λw1=>
 some ((),(⟨(⟨(⟨w1.1⟩:aD),(⟨w1.2.1,w1.2.2.1⟩:aK),(⟨w1.2.2.2.1⟩:ca),w1.2.2.2.2.1⟩:ap),(⟨w1.2.2.2.2.2.1,w1.2.2.2.2.2.2.1,w1.2.2.2.2.2.2.2.1,w1.2.2.2.2.2.2.2.2.1,w1.2.2.2.2.2.2.2.2.2.1,w1.2.2.2.2.2.2.2.2.2.2.1,w1.2.2.2.2.2.2.2.2.2.2.2.1,w1.2.2.2.2.2.2.2.2.2.2.2.2.1⟩:ar),(⟨w1.2.2.2.2.2.2.2.2.2.2.2.2.2.1,w1.2.2.2.2.2.2.2.2.2.2.2.2.2.2.1,w1.2.2.2.2.2.2.2.2.2.2.2.2.2.2.2.1,w1.2.2.2.2.2.2.2.2.2.2.2.2.2.2.2.2.1,w1.2.2.2.2.2.2.2.2.2.2.2.2.2.2.2.2.2.1,w1.2.2.2.2.2.2.2.2.2.2.2.2.2.2.2.2.2.2.1⟩:ai),w1.2.2.2.2.2.2.2.2.2.2.2.2.2.2.2.2.2.2.2⟩:aj))
def eL (sA:List aq)(v:aq)(st:Int):Option (Int⊕(Unit⊕Int)):=if st<(sA.length:Int) then
 ix sA st λy=>
 if ((decide (v.Path=y.Path))&&((decide (v.Client=y.Client))&&(decide (v.Kids=y.Kids)))) then
 some (.inr (.inr st))
 else
 some (.inl (c9 .i64 (st+1)))
 else
 some (.inr (.inl ()))
def iy (sA:List aq)(v:aq):Option Int:=bd (Loop (eL sA v) 0) λw=>
 match w with
 | .inl p1=>some (-1)
 | .inr p2=>some p2
def eu (sA:List aq)(v:aq):Option Bool:=bd (iy sA v) λrA=>some (decide ((0:Int)<=rA))
def sZ (t:ca)(w:aq):Option (ca×Int):=bd (kE w.Path) λrA=>
 if !rA then
 some (t,13)
 else
 if w.Client<0 then
 some (t,1)
 else
 bd (eu t.L w) λaT=>
 if aT then
 some (t,0)
 else
 if (200:Int)<=(t.L.length:Int) then
 some (t,9)
 else
 bd (kC 32 t.L) λcf=>
 if (cf.length+([w]:List aq).length) *32<=2^46 then
 some ((⟨cf++([w]:List aq)⟩:ca),0)
 else none
def j8 (w:aj):Option (Unit×aj):=bd (sZ w.r.aS (⟨w.o.Path,w.o.Client,decide (w.o.Kind=11)⟩:aq)) λrA=>some ((),(⟨(⟨w.r.Shelf,w.r.aL,rA.1,w.r.Seen⟩:ap),w.o,(⟨w.x.Client,w.x.Seq,rA.2,w.x.Value,w.x.Version,w.x.Names⟩:ai),w.l⟩:aj))
def tz:Option (List Nat):=some ([(105:Nat),(106:Nat),(107:Nat),(108:Nat),(109:Nat),(110:Nat),(111:Nat),(112:Nat),(113:Nat),(114:Nat),(115:Nat),(115:Nat)]:List Nat)
def nr (c:aG)(w:aq):Option Bool:=bd (if c.Kind<1 then
  some true
  else
  if (3:Int)<c.Kind then
  some true
  else
  bd (kE c.Path) λrA=>
  some (!rA):Option Bool) λw1=>
 if w1 then
 some false
 else
 if !w.Kids then
 some (decide (c.Path=w.Path))
 else
 bd (ou c.Path) λaT=>
 bd (if aT.2=0 then
  if !decide (c.Kind=2) then
  some (decide (aT.1=w.Path))
  else
  some false
  else
  some false:Option Bool) λw2=>
 some w2
def mJ (w:aq)(c:aG)(c1:List bk):Option (Bool×(List bk)):=bd (nr c w) λrA=>
 bd (if rA then
  if (c1.length+([(⟨w,c⟩:bk)]:List bk).length) *56<=2^46 then
  some (c1++([(⟨w,c⟩:bk)]:List bk))
  else none
  else
  some c1:Option (List bk)) λw1=>
 some (rA,w1)
def pa (lA:List aG)(st:(List aq)×(List bk)×Int):Option (((List aq)×(List bk)×Int)⊕((List aq)×(List bk))):=if st.2.2<(lA.length:Int) then
 ix lA st.2.2 λy=>
 bd (Dw (λu sA=>mJ u y sA) st.2.1 st.1) λaT=>
 some (.inl (aT.1,aT.2,c9 .i64 (st.2.2+1)))
 else
 some (.inr (st.1,st.2.1))
def tA (t:ca)(lA:List aG):Option (ca×(List bk)):=bd (kC 32 t.L) λrA=>
 bd (Loop (pa lA) (rA,([]:List bk),0)) λw=>
 some ((⟨w.1⟩:ca),w.2)
def nt (k:Nat)(x0:aj):Option (Unit×aj):=if k=105 then nY x0 else if k=106 then jr x0 else if k=107 then mc x0 else if k=108 then mf x0 else if k=109 then ju x0 else if k=110 then kW x0 else if k=111 then kX x0 else if k=112 then j6 x0 else if k=113 then j7 x0 else if k=114 then kY x0 else if k=115 then j8 x0 else none
def mg (a:ap)(a1:ar):Option (ap×ai×(List bk)):=bd (j5 a a1) λrA=>
 if rA.2 then
 some (a,rA.1,([]:List bk))
 else
 bd (tz) λaT=>
 ix aT a1.Kind λy=>
 bd (nt y (⟨a,a1,rA.1,([]:List aG)⟩:aj)) λcf=>
 bd (tA cf.2.r.aS cf.2.l) λfH=>
 bd (kC 72 a.Seen) λn0=>
 bd (fT a a1.Client) λqn=>
 bd (if qn.2 then
  ix n0 qn.1 λy1=>
  some (cf.2.r.Shelf.L,cf.2.r.aL.cI,cf.2.r.aL.L,fH.1.L,n0.set (sh qn.1) cf.2.x,cf.2.o.Client,cf.2.o.Seq,cf.2.o.Kind,cf.2.o.Path,cf.2.o.Value,cf.2.o.Version,cf.2.o.Session,cf.2.o.Span,cf.2.x.Client,cf.2.x.Seq,cf.2.x.E,cf.2.x.Value,cf.2.x.Version,cf.2.x.Names,cf.2.l)
  else
  bd (sJ 72 n0 qn.1 ([cf.2.x]:List ai)) λmT=>
  some (cf.2.r.Shelf.L,cf.2.r.aL.cI,cf.2.r.aL.L,fH.1.L,mT,cf.2.o.Client,cf.2.o.Seq,cf.2.o.Kind,cf.2.o.Path,cf.2.o.Value,cf.2.o.Version,cf.2.o.Session,cf.2.o.Span,cf.2.x.Client,cf.2.x.Seq,cf.2.x.E,cf.2.x.Value,cf.2.x.Version,cf.2.x.Names,cf.2.l):Option ((List ah)×Int×(List aE)×(List aq)×(List ai)×Int×Int×Int×(List UInt8)×(List UInt8)×Int×Int×Int×Int×Int×Int×(List UInt8)×Int×(List (List UInt8))×(List aG))) λw=>
 some ((⟨(⟨w.1⟩:aD),(⟨w.2.1,w.2.2.1⟩:aK),(⟨w.2.2.2.1⟩:ca),w.2.2.2.2.1⟩:ap),(⟨w.2.2.2.2.2.2.2.2.2.2.2.2.2.1,w.2.2.2.2.2.2.2.2.2.2.2.2.2.2.1,w.2.2.2.2.2.2.2.2.2.2.2.2.2.2.2.1,w.2.2.2.2.2.2.2.2.2.2.2.2.2.2.2.2.1,w.2.2.2.2.2.2.2.2.2.2.2.2.2.2.2.2.2.1,w.2.2.2.2.2.2.2.2.2.2.2.2.2.2.2.2.2.2.1⟩:ai),fH.2)
def Fh:Option aD:=some (⟨([(⟨([47]:List UInt8),([]:List UInt8),0,0⟩:ah)]:List ah)⟩:aD)
def Fi:Option aK:=some (⟨0,([]:List aE)⟩:aK)
def s4:Option ap:=bd (Fh) λrA=>
 bd (Fi) λaT=>
 some (⟨rA,aT,(⟨([]:List aq)⟩:ca),([]:List ai)⟩:ap)
def gQ (s1:List ah)(s2:List ah)(st:Int):Option (Int⊕(Unit⊕Bool)):=if st<(s1.length:Int) then
 ix s1 st λy=>
 ix s2 st λy1=>
 if !((decide (y.Path=y1.Path))&&((decide (y.Value=y1.Value))&&((decide (y.Version=y1.Version))&&(decide (y.b5=y1.b5))))) then
 some (.inr (.inr false))
 else
 some (.inl (c9 .i64 (st+1)))
 else
 some (.inr (.inl ()))
def iY (s1:List ah)(s2:List ah):Option Bool:=if !decide ((s1.length:Int)=(s2.length:Int)) then
 some false
 else
 bd (Loop (gQ s1 s2) 0) λw=>
 match w with
 | .inl p1=>some true
 | .inr p2=>some p2
def tB (a:aD)(b:aD):Option Bool:=bd (iY a.L b.L) λrA=>some rA
def ef (s1:List aE)(s2:List aE)(st:Int):Option (Int⊕(Unit⊕Bool)):=if st<(s1.length:Int) then
 ix s1 st λy=>
 ix s2 st λy1=>
 if !((decide (y.Id=y1.Id))&&((decide (y.Span=y1.Span))&&(decide (y.dX=y1.dX)))) then
 some (.inr (.inr false))
 else
 some (.inl (c9 .i64 (st+1)))
 else
 some (.inr (.inl ()))
def eM (s1:List aE)(s2:List aE):Option Bool:=if !decide ((s1.length:Int)=(s2.length:Int)) then
 some false
 else
 bd (Loop (ef s1 s2) 0) λw=>
 match w with
 | .inl p1=>some true
 | .inr p2=>some p2
def tC (a:aK)(b:aK):Option Bool:=bd (if a.cI=b.cI then
  bd (eM a.L b.L) λrA=>
  some rA
  else
  some false:Option Bool) λw=>
 some w
def eN (s1:List aq)(s2:List aq)(st:Int):Option (Int⊕(Unit⊕Bool)):=if st<(s1.length:Int) then
 ix s1 st λy=>
 ix s2 st λy1=>
 if !((decide (y.Path=y1.Path))&&((decide (y.Client=y1.Client))&&(decide (y.Kids=y1.Kids)))) then
 some (.inr (.inr false))
 else
 some (.inl (c9 .i64 (st+1)))
 else
 some (.inr (.inl ()))
def fw (s1:List aq)(s2:List aq):Option Bool:=if !decide ((s1.length:Int)=(s2.length:Int)) then
 some false
 else
 bd (Loop (eN s1 s2) 0) λw=>
 match w with
 | .inl p1=>some true
 | .inr p2=>some p2
def tD (a:ca)(b:ca):Option Bool:=bd (fw a.L b.L) λrA=>some rA
def mh (a:ai)(b:ai):Option Bool:=bd (if a.Client=b.Client then
  if a.Seq=b.Seq then
  if a.E=b.E then
  if a.Value=b.Value then
  if a.Version=b.Version then
  bd (fU a.Names b.Names) λrA=>
  some rA
  else
  some false
  else
  some false
  else
  some false
  else
  some false
  else
  some false:Option Bool) λw=>
 some w
def bN (s1:List ai)(s2:List ai)(eq:ai->ai->Option Bool)(st:Int):Option (Int⊕(Unit⊕Bool)):=if st<(s1.length:Int) then
 ix s1 st λy=>
 ix s2 st λy1=>
 bd (eq y y1) λrA=>
 if !rA then
 some (.inr (.inr false))
 else
 some (.inl (c9 .i64 (st+1)))
 else
 some (.inr (.inl ()))
def bQ (s1:List ai)(s2:List ai)(eq:ai->ai->Option Bool):Option Bool:=if !decide ((s1.length:Int)=(s2.length:Int)) then
 some false
 else
 bd (Loop (bN s1 s2 eq) 0) λw=>
 match w with
 | .inl p1=>some true
 | .inr p2=>some p2
def qo (a:ap)(b:ap):Option Bool:=bd (bd (tB a.Shelf b.Shelf) λrA=>
  if rA then
  bd (tC a.aL b.aL) λaT=>
  if aT then
  bd (tD a.aS b.aS) λcf=>
  if cf then
  bd (bQ a.Seen b.Seen mh) λfH=>
  some fH
  else
  some false
  else
  some false
  else
  some false:Option Bool) λw=>
 some w
def s5:Option Bool:=bd (s4) λrA=>
 bd (mg rA (⟨1,1,1,([47,97]:List UInt8),([120]:List UInt8),0,0,0⟩:ar)) λaT=>
 bd (mg aT.1 (⟨1,1,1,([47,97]:List UInt8),([120]:List UInt8),0,0,0⟩:ar)) λcf=>
 bd (qk cf.1 1) λfH=>
 bd (if aT.2.1.E=0 then
  if cf.2.1.E=0 then
  if (aT.1.Shelf.L.length:Int)=2 then
  bd (qo aT.1 cf.1) λn0=>
  if n0 then
  if fH.2 then
  some (decide (fH.1.Seq=1))
  else
  some false
  else
  some false
  else
  some false
  else
  some false
  else
  some false:Option Bool) λw=>
 some w
def z7 (kind:Int):Option (List UInt8):=if kind=1 then
 some ([112,118,115]:List UInt8)
 else
 bd (if kind=2 then
  some (decide (kind=2))
  else
  bd (if kind=5 then
   some (decide (kind=5))
   else
   bd (if kind=10 then
    some (decide (kind=10))
    else
    some (decide (kind=11)):Option Bool) λw2=>
   some w2:Option Bool) λw1=>
  some w1:Option Bool) λw=>
 if w then
 some ([112]:List UInt8)
 else
 if kind=3 then
 some ([112,118,110]:List UInt8)
 else
 if kind=4 then
 some ([112,110]:List UInt8)
 else
 if kind=6 then
 some ([115,116]:List UInt8)
 else
 bd (if kind=7 then
  some (decide (kind=7))
  else
  some (decide (kind=8)):Option Bool) λw3=>
 if w3 then
 some ([115]:List UInt8)
 else
 if kind=9 then
 some ([116]:List UInt8)
 else
 some ([]:List UInt8)
def z8 (sA:List UInt8)(c:Int)(st:Int):Option (Int⊕(Unit⊕Bool)):=if st<(sA.length:Int) then
 if (0:Int)<=st/\st<(sA.length:Int) then
 if ((sA.getD (sh st) 0).toNat:Int)=c then
 some (.inr (.inr true))
 else
 some (.inl (c9 .i64 (st+1)))
 else none
 else
 some (.inr (.inl ()))
def iz (sA:List UInt8)(c:Int):Option Bool:=bd (Loop (z8 sA c) 0) λw=>
 match w with
 | .inl p1=>some false
 | .inr p2=>some p2
def DA (a:dJ):Option Bool:=bd (if a.Client<0 then
  some true
  else
  if (1000:Int)<a.Client then
  some true
  else
  if a.Seq<1 then
  some true
  else
  if (1000000000:Int)<a.Seq then
  some true
  else
  if a.Kind<0 then
  some true
  else
  if (11:Int)<a.Kind then
  some true
  else
  if (100:Int)<(a.Path.length:Int) then
  some true
  else
  some (decide ((1000:Int)<(a.Value.length:Int))):Option Bool) λw=>
 if w then
 some false
 else
 bd (z7 a.Kind) λrA=>
 bd (bd (iz rA 112) λaT=>
  if aT then
  bd (iz rA 118) λcf=>
  if cf then
  some true
  else
  some (decide (a.Value=([]:List UInt8)))
  else
  if a.Path=([]:List UInt8) then
  bd (iz rA 118) λfH=>
  if fH then
  some true
  else
  some (decide (a.Value=([]:List UInt8)))
  else
  some false:Option Bool) λw1=>
 bd (if w1 then
  bd (iz rA 110) λn0=>
  if n0 then
  bd (iz rA 115) λqn=>
  if qn then
  bd (iz rA 116) λmT=>
  if mT then
  some true
  else
  some (decide (a.Span=0))
  else
  if a.Session=0 then
  bd (iz rA 116) λEO=>
  if EO then
  some true
  else
  some (decide (a.Span=0))
  else
  some false
  else
  if a.Version=0 then
  bd (iz rA 115) λKU=>
  if KU then
  bd (iz rA 116) λKV=>
  if KV then
  some true
  else
  some (decide (a.Span=0))
  else
  if a.Session=0 then
  bd (iz rA 116) λwJ=>
  if wJ then
  some true
  else
  some (decide (a.Span=0))
  else
  some false
  else
  some false
  else
  some false:Option Bool) λw2=>
 some w2
def tE (rA:bM)(dK:Int)(st:Int×Int×Int×(List UInt8)×Int×(List (List UInt8))×Int):Option ((Int×Int×Int×(List UInt8)×Int×(List (List UInt8))×Int)⊕((Int×Int×Int×(List UInt8)×Int×(List (List UInt8)))⊕(Int×Int×Int×(List UInt8)×Int×(List (List UInt8))×Bool))):=if st.2.2.2.2.2.2<(rA.Seen.length:Int) then
 ix rA.Seen st.2.2.2.2.2.2 λy=>
 if y.Client=dK then
 ix rA.Seen st.2.2.2.2.2.2 λy1=>
 some (.inr (.inr (y1.Client,y1.Seq,y1.E,y1.Value,y1.Version,y1.Names,true)))
 else
 some (.inl (st.1,st.2.1,st.2.2.1,st.2.2.2.1,st.2.2.2.2.1,st.2.2.2.2.2.1,c9 .i64 (st.2.2.2.2.2.2+1)))
 else
 some (.inr (.inl (st.1,st.2.1,st.2.2.1,st.2.2.2.1,st.2.2.2.2.1,st.2.2.2.2.2.1)))
def wK (rA:bM)(dK:Int):Option (aw×Bool):=bd (Loop (tE rA dK) (0,0,0,([]:List UInt8),0,([]:List (List UInt8)),0)) λw=>
 match w with
 | .inl p1=>some ((⟨0,0,0,([]:List UInt8),0,([]:List (List UInt8))⟩:aw),false)
 | .inr p2=>some ((⟨p2.1,p2.2.1,p2.2.2.1,p2.2.2.2.1,p2.2.2.2.2.1,p2.2.2.2.2.2.1⟩:aw),p2.2.2.2.2.2.2)
def wL (b:cD)(id:Int)(st:Int):Option (Int⊕(Unit⊕Bool)):=if st<(b.L.length:Int) then
 ix b.L st λy=>
 if y.Id=id then
 some (.inr (.inr true))
 else
 some (.inl (c9 .i64 (st+1)))
 else
 some (.inr (.inl ()))
def qO (b:cD)(id:Int):Option Bool:=bd (Loop (wL b id) 0) λw=>
 match w with
 | .inl p1=>some false
 | .inr p2=>some p2
def pc (a:bE)(a1:List UInt8)(a2:List UInt8)(a3:Int)(st:(List aP)×Bool×Int):Option (((List aP)×Bool×Int)⊕((List aP)×Bool)):=if st.2.2<(a.L.length:Int) then
 bd (if !st.2.1 then
  ix a.L st.2.2 λy1=>
  bd (wE a1 y1.Path) λn0=>
  some n0
  else
  some false:Option Bool) λw1=>
 bd (if w1 then
  if (st.1.length+([(⟨a1,a2,0,a3⟩:aP)]:List aP).length) *48<=2^46 then
  some (st.1++([(⟨a1,a2,0,a3⟩:aP)]:List aP),true)
  else none
  else
  some (st.1,st.2.1):Option ((List aP)×Bool)) λw2=>
 ix a.L st.2.2 λy2=>
 if (w2.1.length+([y2]:List aP).length) *48<=2^46 then
 some (.inl (w2.1++([y2]:List aP),w2.2,c9 .i64 (st.2.2+1)))
 else none
 else
 some (.inr (st.1,st.2.1))
def tF (a:bE)(a1:List UInt8)(a2:List UInt8)(a3:Int):Option (bE×Int):=bd (jZ a1) λrA=>
 if !rA then
 some (a,13)
 else
 bd (tp a a1) λaT=>
 if (0:Int)<=aT then
 some (a,7)
 else
 bd (lZ a1) λcf=>
 bd (tp a cf.1) λfH=>
 if fH<0 then
 some (a,6)
 else
 ix a.L fH λy=>
 if !decide (y.b5=0) then
 some (a,10)
 else
 if (1000:Int)<(a2.length:Int) then
 some (a,5)
 else
 if a3<0 then
 some (a,1)
 else
 if (200:Int)<=(a.L.length:Int) then
 some (a,9)
 else
 bd (Loop (pc a a1 a2 a3) (([]:List aP),false,0)) λw=>
 bd (if !w.2 then
  if (w.1.length+([(⟨a1,a2,0,a3⟩:aP)]:List aP).length) *48<=2^46 then
  some (w.1++([(⟨a1,a2,0,a3⟩:aP)]:List aP))
  else none
  else
  some w.1:Option (List aP)) λw3=>
 some ((⟨w3⟩:bE),0)
def sL (sA:bE)(p:List UInt8):Option (aP×Int):=bd (jZ p) λrA=>
 if !rA then
 some ((⟨([]:List UInt8),([]:List UInt8),0,0⟩:aP),13)
 else
 bd (tp sA p) λaT=>
 if aT<0 then
 some ((⟨([]:List UInt8),([]:List UInt8),0,0⟩:aP),6)
 else
 ix sA.L aT λy=>
 some (y,0)
def DB (sA:bE)(p:List UInt8)(value:List UInt8)(version:Int):Option (bE×Int):=bd (sL sA p) λrA=>
 if !decide (rA.2=0) then
 some (sA,rA.2)
 else
 bd (if !decide (version=(-1)) then
  some (!decide (version=rA.1.Version))
  else
  some false:Option Bool) λw=>
 if w then
 some (sA,8)
 else
 if (1000:Int)<(value.length:Int) then
 some (sA,5)
 else
 if rA.1.Version=1000000000 then
 some (sA,9)
 else
 if (([]:List aP).length+sA.L.length) *48<=2^46 then
 bd (tp sA p) λaT=>
 ix (([]:List aP)++sA.L) aT λy=>
 some ((⟨(([]:List aP)++sA.L).set (sh aT) (⟨p,value,c9 .i64 (rA.1.Version+1),rA.1.b5⟩:aP)⟩:bE),0)
 else none
def tG (sA:bE)(p:List UInt8)(st:(List (List UInt8))×Int):Option (((List (List UInt8))×Int)⊕(List (List UInt8))):=if st.2<(sA.L.length:Int) then
 ix sA.L st.2 λy=>
 bd (lZ y.Path) λrA=>
 bd (if rA.2=0 then
  some (decide (rA.1=p))
  else
  some false:Option Bool) λw1=>
 bd (if w1 then
  ix sA.L st.2 λy1=>
  bd (ot y1.Path) λaT=>
  ix aT.1 (c9 .i64 ((aT.1.length:Int)-1)) λy2=>
  if (st.1.length+([y2]:List (List UInt8)).length) *16<=2^46 then
  some (st.1++([y2]:List (List UInt8)))
  else none
  else
  some st.1:Option (List (List UInt8))) λw2=>
 some (.inl (w2,c9 .i64 (st.2+1)))
 else
 some (.inr st.1)
def wM (sA:bE)(p:List UInt8):Option (List (List UInt8)):=bd (Loop (tG sA p) (([]:List (List UInt8)),0)) λw=>some w
def tH (sA:bE)(p:List UInt8)(version:Int):Option (bE×Int):=bd (sL sA p) λrA=>
 if !decide (rA.2=0) then
 some (sA,rA.2)
 else
 if p=([47]:List UInt8) then
 some (sA,13)
 else
 bd (if !decide (version=(-1)) then
  some (!decide (version=rA.1.Version))
  else
  some false:Option Bool) λw=>
 if w then
 some (sA,8)
 else
 bd (wM sA p) λaT=>
 if (0:Int)<(aT.length:Int) then
 some (sA,10)
 else
 bd (tp sA p) λcf=>
 if (0:Int)<=0/\(0:Int)<=cf/\cf<=(sA.L.length:Int) then
 if (([]:List aP).length+(AI (sh 0) (AS (sh cf) sA.L)).length) *48<=2^46 then
 if (0:Int)<=(c9 .i64 (cf+1))/\(c9 .i64 (cf+1))<=(sA.L.length:Int)/\(sA.L.length:Int)<=(sA.L.length:Int) then
 if ((([]:List aP)++(AI (sh 0) (AS (sh cf) sA.L))).length+(AI (sh (c9 .i64 (cf+1))) (AS (sh (sA.L.length:Int)) sA.L)).length) *48<=2^46 then
 some ((⟨(([]:List aP)++(AI (sh 0) (AS (sh cf) sA.L)))++(AI (sh (c9 .i64 (cf+1))) (AS (sh (sA.L.length:Int)) sA.L))⟩:bE),0)
 else none
 else none
 else none
 else none
def Aa (sA:bE)(p:List UInt8):Option ((List (List UInt8))×Int):=bd (sL sA p) λrA=>
 if !decide (rA.2=0) then
 some (([]:List (List UInt8)),rA.2)
 else
 bd (wM sA p) λaT=>
 some (aT,0)
def ov (a:bM)(a1:dJ):Option (bM×aw×(List bq)):=bd (if a1.Kind=1 then
  bd (if !decide (a1.Session=0) then
   if a1.Session<0 then
   some true
   else
   bd (qO a.aL a1.Session) λrA=>
   some (!rA)
   else
   some false:Option Bool) λw1=>
  bd (if w1 then
   some (a.Shelf.L,a.aL.cI,a.aL.L,a.aS.L,a.Seen,0,0,14,([]:List UInt8),0,([]:List (List UInt8)))
   else
   bd (tF a.Shelf a1.Path a1.Value a1.Session) λaT=>
   some (aT.1.L,a.aL.cI,a.aL.L,a.aS.L,a.Seen,0,0,aT.2,([]:List UInt8),0,([]:List (List UInt8))):Option ((List aP)×Int×(List al)×(List aF)×(List aw)×Int×Int×Int×(List UInt8)×Int×(List (List UInt8)))) λw2=>
  some (w2.1,w2.2.1,w2.2.2.1,w2.2.2.2.1,w2.2.2.2.2.1,w2.2.2.2.2.2.1,w2.2.2.2.2.2.2.1,w2.2.2.2.2.2.2.2.1,w2.2.2.2.2.2.2.2.2.1,w2.2.2.2.2.2.2.2.2.2.1,w2.2.2.2.2.2.2.2.2.2.2,1)
  else
  bd (if a1.Kind=2 then
   bd (sL a.Shelf a1.Path) λcf=>
   some (a.Shelf.L,a.aL.cI,a.aL.L,a.aS.L,a.Seen,0,0,cf.2,cf.1.Value,cf.1.Version,([]:List (List UInt8)),0)
   else
   bd (if a1.Kind=3 then
    bd (DB a.Shelf a1.Path a1.Value a1.Version) λfH=>
    bd (if fH.2=0 then
     bd (sL fH.1 a1.Path) λn0=>
     some (0,0,fH.2,([]:List UInt8),n0.1.Version,([]:List (List UInt8)))
     else
     some (0,0,fH.2,([]:List UInt8),0,([]:List (List UInt8))):Option (Int×Int×Int×(List UInt8)×Int×(List (List UInt8)))) λw5=>
    some (fH.1.L,a.aL.cI,a.aL.L,a.aS.L,a.Seen,w5.1,w5.2.1,w5.2.2.1,w5.2.2.2.1,w5.2.2.2.2.1,w5.2.2.2.2.2,2)
    else
    bd (if a1.Kind=4 then
     bd (tH a.Shelf a1.Path a1.Version) λqn=>
     some (qn.1.L,a.aL.cI,a.aL.L,a.aS.L,a.Seen,0,0,qn.2,([]:List UInt8),0,([]:List (List UInt8)),3)
     else
     bd (if a1.Kind=5 then
      bd (Aa a.Shelf a1.Path) λmT=>
      some (0,0,mT.2,([]:List UInt8),0,mT.1)
      else
      some (0,0,0,([]:List UInt8),0,([]:List (List UInt8))):Option (Int×Int×Int×(List UInt8)×Int×(List (List UInt8)))) λw7=>
     some (a.Shelf.L,a.aL.cI,a.aL.L,a.aS.L,a.Seen,w7.1,w7.2.1,w7.2.2.1,w7.2.2.2.1,w7.2.2.2.2.1,w7.2.2.2.2.2,0):Option ((List aP)×Int×(List al)×(List aF)×(List aw)×Int×Int×Int×(List UInt8)×Int×(List (List UInt8))×Int)) λw6=>
    some (w6.1,w6.2.1,w6.2.2.1,w6.2.2.2.1,w6.2.2.2.2.1,w6.2.2.2.2.2.1,w6.2.2.2.2.2.2.1,w6.2.2.2.2.2.2.2.1,w6.2.2.2.2.2.2.2.2.1,w6.2.2.2.2.2.2.2.2.2.1,w6.2.2.2.2.2.2.2.2.2.2.1,w6.2.2.2.2.2.2.2.2.2.2.2):Option ((List aP)×Int×(List al)×(List aF)×(List aw)×Int×Int×Int×(List UInt8)×Int×(List (List UInt8))×Int)) λw4=>
   some (w4.1,w4.2.1,w4.2.2.1,w4.2.2.2.1,w4.2.2.2.2.1,w4.2.2.2.2.2.1,w4.2.2.2.2.2.2.1,w4.2.2.2.2.2.2.2.1,w4.2.2.2.2.2.2.2.2.1,w4.2.2.2.2.2.2.2.2.2.1,w4.2.2.2.2.2.2.2.2.2.2.1,w4.2.2.2.2.2.2.2.2.2.2.2):Option ((List aP)×Int×(List al)×(List aF)×(List aw)×Int×Int×Int×(List UInt8)×Int×(List (List UInt8))×Int)) λw3=>
  some (w3.1,w3.2.1,w3.2.2.1,w3.2.2.2.1,w3.2.2.2.2.1,w3.2.2.2.2.2.1,w3.2.2.2.2.2.2.1,w3.2.2.2.2.2.2.2.1,w3.2.2.2.2.2.2.2.2.1,w3.2.2.2.2.2.2.2.2.2.1,w3.2.2.2.2.2.2.2.2.2.2.1,w3.2.2.2.2.2.2.2.2.2.2.2):Option ((List aP)×Int×(List al)×(List aF)×(List aw)×Int×Int×Int×(List UInt8)×Int×(List (List UInt8))×Int)) λw=>
 bd (if w.2.2.2.2.2.2.2.1=0 then
  some (decide ((0:Int)<w.2.2.2.2.2.2.2.2.2.2.2))
  else
  some false:Option Bool) λw8=>
 if w8 then
 some ((⟨(⟨w.1⟩:bE),(⟨w.2.1,w.2.2.1⟩:cD),(⟨w.2.2.2.1⟩:eo),w.2.2.2.2.1⟩:bM),(⟨w.2.2.2.2.2.1,w.2.2.2.2.2.2.1,w.2.2.2.2.2.2.2.1,w.2.2.2.2.2.2.2.2.1,w.2.2.2.2.2.2.2.2.2.1,w.2.2.2.2.2.2.2.2.2.2.1⟩:aw),([(⟨w.2.2.2.2.2.2.2.2.2.2.2,a1.Path⟩:bq)]:List bq))
 else
 some ((⟨(⟨w.1⟩:bE),(⟨w.2.1,w.2.2.1⟩:cD),(⟨w.2.2.2.1⟩:eo),w.2.2.2.2.1⟩:bM),(⟨w.2.2.2.2.2.1,w.2.2.2.2.2.2.1,w.2.2.2.2.2.2.2.1,w.2.2.2.2.2.2.2.2.1,w.2.2.2.2.2.2.2.2.2.1,w.2.2.2.2.2.2.2.2.2.2.1⟩:aw),([]:List bq))
def tI (a:cD)(a1:Int)(a2:Int)(st:(List al)×Bool×Int):Option (((List al)×Bool×Int)⊕((List al)×Bool)):=if st.2.2<(a.L.length:Int) then
 bd (if !st.2.1 then
  ix a.L st.2.2 λy=>
  some (decide (a1<y.Id))
  else
  some false:Option Bool) λw2=>
 bd (if w2 then
  if (st.1.length+([(⟨a1,a2,c9 .i64 (a.cI+a2)⟩:al)]:List al).length) *24<=2^46 then
  some (st.1++([(⟨a1,a2,c9 .i64 (a.cI+a2)⟩:al)]:List al),true)
  else none
  else
  some (st.1,st.2.1):Option ((List al)×Bool)) λw3=>
 ix a.L st.2.2 λy1=>
 if (w3.1.length+([y1]:List al).length) *24<=2^46 then
 some (.inl (w3.1++([y1]:List al),w3.2,c9 .i64 (st.2.2+1)))
 else none
 else
 some (.inr (st.1,st.2.1))
def Ab (a:cD)(a1:Int)(a2:Int):Option (cD×Int):=bd (if a1<1 then
  some true
  else
  if a2<1 then
  some true
  else
  some (decide ((1000:Int)<a2)):Option Bool) λw=>
 if w then
 some (a,1)
 else
 bd (qO a a1) λrA=>
 if rA then
 some (a,7)
 else
 if (50:Int)<=(a.L.length:Int) then
 some (a,9)
 else
 bd (Loop (tI a a1 a2) (([]:List al),false,0)) λw1=>
 bd (if !w1.2 then
  if (w1.1.length+([(⟨a1,a2,c9 .i64 (a.cI+a2)⟩:al)]:List al).length) *24<=2^46 then
  some (w1.1++([(⟨a1,a2,c9 .i64 (a.cI+a2)⟩:al)]:List al))
  else none
  else
  some w1.1:Option (List al)) λw4=>
 some ((⟨a.cI,w4⟩:cD),0)
def rk (b:cD)(id:Int)(st:(List al)×Int):Option (((List al)×Int)⊕(List al)):=if st.2<(b.L.length:Int) then
 ix b.L st.2 λy=>
 bd (if y.Id=id then
  some (y.Id,y.Span,c9 .i64 (b.cI+y.Span))
  else
  some (y.Id,y.Span,y.dX):Option (Int×Int×Int)) λw1=>
 if (st.1.length+([(⟨w1.1,w1.2.1,w1.2.2⟩:al)]:List al).length) *24<=2^46 then
 some (.inl (st.1++([(⟨w1.1,w1.2.1,w1.2.2⟩:al)]:List al),c9 .i64 (st.2+1)))
 else none
 else
 some (.inr st.1)
def wN (b:cD)(id:Int):Option (cD×Int):=bd (qO b id) λrA=>
 if !rA then
 some (b,14)
 else
 bd (Loop (rk b id) (([]:List al),0)) λw=>
 some ((⟨b.cI,w⟩:cD),0)
def rl (b:cD)(id:Int)(st:(List al)×Int):Option (((List al)×Int)⊕(List al)):=if st.2<(b.L.length:Int) then
 ix b.L st.2 λy=>
 bd (if !decide (y.Id=id) then
  ix b.L st.2 λy1=>
  if (st.1.length+([y1]:List al).length) *24<=2^46 then
  some (st.1++([y1]:List al))
  else none
  else
  some st.1:Option (List al)) λw1=>
 some (.inl (w1,c9 .i64 (st.2+1)))
 else
 some (.inr st.1)
def wO (b:cD)(id:Int):Option (cD×Int):=bd (qO b id) λrA=>
 if !rA then
 some (b,14)
 else
 bd (Loop (rl b id) (([]:List al),0)) λw=>
 some ((⟨b.cI,w⟩:cD),0)
def tJ (sA:bE)(owner:Int)(st:(List aP)×(List (List UInt8))×Int):Option (((List aP)×(List (List UInt8))×Int)⊕((List aP)×(List (List UInt8)))):=if st.2.2<(sA.L.length:Int) then
 bd (if (0:Int)<owner then
  ix sA.L st.2.2 λy=>
  some (decide (y.b5=owner))
  else
  some false:Option Bool) λw1=>
 bd (if w1 then
  ix sA.L st.2.2 λy1=>
  if (st.2.1.length+([y1.Path]:List (List UInt8)).length) *16<=2^46 then
  some (st.1,st.2.1++([y1.Path]:List (List UInt8)))
  else none
  else
  ix sA.L st.2.2 λy2=>
  if (st.1.length+([y2]:List aP).length) *48<=2^46 then
  some (st.1++([y2]:List aP),st.2.1)
  else none:Option ((List aP)×(List (List UInt8)))) λw2=>
 some (.inl (w2.1,w2.2,c9 .i64 (st.2.2+1)))
 else
 some (.inr (st.1,st.2.1))
def wP (sA:bE)(owner:Int):Option (bE×(List (List UInt8))):=bd (Loop (tJ sA owner) (([]:List aP),([]:List (List UInt8)),0)) λw=>some ((⟨w.1⟩:bE),w.2)
def rm (rA:bE×(List (List UInt8)))(dH:(List bq)×Int):Option (((List bq)×Int)⊕(List bq)):=if dH.2<(rA.2.length:Int) then
 ix rA.2 dH.2 λy1=>
 if (dH.1.length+([(⟨3,y1⟩:bq)]:List bq).length) *24<=2^46 then
 some (.inl (dH.1++([(⟨3,y1⟩:bq)]:List bq),c9 .i64 (dH.2+1)))
 else none
 else
 some (.inr dH.1)
def rn (ids:List Int)(st:(List aP)×(List bq)×Int):Option (((List aP)×(List bq)×Int)⊕((List aP)×(List bq))):=if st.2.2<(ids.length:Int) then
 ix ids st.2.2 λy=>
 bd (wP (⟨st.1⟩:bE) y) λrA=>
 bd (Loop (rm rA) (st.2.1,0)) λw1=>
 some (.inl (rA.1.L,w1,c9 .i64 (st.2.2+1)))
 else
 some (.inr (st.1,st.2.1))
def s6 (sA:bE)(ids:List Int):Option (bE×(List bq)):=bd (Loop (rn ids) (sA.L,([]:List bq),0)) λw=>some ((⟨w.1⟩:bE),w.2)
def tK (b:cD)(now:Int)(st:(List al)×(List Int)×Int):Option (((List al)×(List Int)×Int)⊕((List al)×(List Int))):=if st.2.2<(b.L.length:Int) then
 ix b.L st.2.2 λy=>
 bd (if y.dX<=now then
  ix b.L st.2.2 λy1=>
  if (st.2.1.length+([y1.Id]:List Int).length) *8<=2^46 then
  some (st.1,st.2.1++([y1.Id]:List Int))
  else none
  else
  ix b.L st.2.2 λy2=>
  if (st.1.length+([y2]:List al).length) *24<=2^46 then
  some (st.1++([y2]:List al),st.2.1)
  else none:Option ((List al)×(List Int))) λw1=>
 some (.inl (w1.1,w1.2,c9 .i64 (st.2.2+1)))
 else
 some (.inr (st.1,st.2.1))
def Ac (b:cD)(now:Int):Option (cD×(List Int)×Int):=if now<b.cI then
 some (b,([]:List Int),15)
 else
 if (1000000000:Int)<now then
 some (b,([]:List Int),5)
 else
 bd (Loop (tK b now) (([]:List al),([]:List Int),0)) λw=>
 some ((⟨now,w.1⟩:cD),w.2,0)
def DC (t:eo)(w:aF):Option (eo×Int):=bd (jZ w.Path) λrA=>
 if !rA then
 some (t,13)
 else
 if w.Client<0 then
 some (t,1)
 else
 bd (Bg t.L w) λaT=>
 if aT then
 some (t,0)
 else
 if (200:Int)<=(t.L.length:Int) then
 some (t,9)
 else
 if (([]:List aF).length+t.L.length) *32<=2^46 then
 if ((([]:List aF)++t.L).length+([w]:List aF).length) *32<=2^46 then
 some ((⟨(([]:List aF)++t.L)++([w]:List aF)⟩:eo),0)
 else none
 else none
def tL (a:bM)(a1:dJ):Option (bM×aw×(List bq)):=bd (if a1.Kind=1 then
  some (decide (a1.Kind=1))
  else
  bd (if a1.Kind=2 then
   some (decide (a1.Kind=2))
   else
   bd (if a1.Kind=3 then
    some (decide (a1.Kind=3))
    else
    bd (if a1.Kind=4 then
     some (decide (a1.Kind=4))
     else
     some (decide (a1.Kind=5)):Option Bool) λw3=>
    some w3:Option Bool) λw2=>
   some w2:Option Bool) λw1=>
  some w1:Option Bool) λw=>
 if w then
 bd (ov a a1) λrA=>
 some (rA.1,rA.2.1,rA.2.2)
 else
 bd (if a1.Kind=6 then
  bd (Ab a.aL a1.Session a1.Span) λaT=>
  some (a.Shelf.L,aT.1.cI,aT.1.L,a.aS.L,a.Seen,0,0,aT.2,([]:List UInt8),0,([]:List (List UInt8)),([]:List bq))
  else
  bd (if a1.Kind=7 then
   bd (wN a.aL a1.Session) λcf=>
   some (a.Shelf.L,cf.1.cI,cf.1.L,a.aS.L,a.Seen,0,0,cf.2,([]:List UInt8),0,([]:List (List UInt8)),([]:List bq))
   else
   bd (if a1.Kind=8 then
    bd (wO a.aL a1.Session) λfH=>
    bd (if fH.2=0 then
     bd (s6 a.Shelf ([a1.Session]:List Int)) λn0=>
     some (n0.1.L,fH.1.cI,fH.1.L,a.aS.L,a.Seen,n0.2)
     else
     some (a.Shelf.L,fH.1.cI,fH.1.L,a.aS.L,a.Seen,([]:List bq)):Option ((List aP)×Int×(List al)×(List aF)×(List aw)×(List bq))) λw7=>
    some (w7.1,w7.2.1,w7.2.2.1,w7.2.2.2.1,w7.2.2.2.2.1,0,0,fH.2,([]:List UInt8),0,([]:List (List UInt8)),w7.2.2.2.2.2)
    else
    bd (if a1.Kind=9 then
     bd (Ac a.aL a1.Span) λqn=>
     bd (if qn.2.2=0 then
      bd (s6 a.Shelf qn.2.1) λmT=>
      some (mT.1.L,qn.1.cI,qn.1.L,a.aS.L,a.Seen,0,0,qn.2.2,([]:List UInt8),qn.1.cI,([]:List (List UInt8)),mT.2)
      else
      some (a.Shelf.L,qn.1.cI,qn.1.L,a.aS.L,a.Seen,0,0,qn.2.2,([]:List UInt8),0,([]:List (List UInt8)),([]:List bq)):Option ((List aP)×Int×(List al)×(List aF)×(List aw)×Int×Int×Int×(List UInt8)×Int×(List (List UInt8))×(List bq))) λw9=>
     some (w9.1,w9.2.1,w9.2.2.1,w9.2.2.2.1,w9.2.2.2.2.1,w9.2.2.2.2.2.1,w9.2.2.2.2.2.2.1,w9.2.2.2.2.2.2.2.1,w9.2.2.2.2.2.2.2.2.1,w9.2.2.2.2.2.2.2.2.2.1,w9.2.2.2.2.2.2.2.2.2.2.1,w9.2.2.2.2.2.2.2.2.2.2.2)
     else
     bd (if a1.Kind=10 then
      some (decide (a1.Kind=10))
      else
      some (decide (a1.Kind=11)):Option Bool) λw10=>
     bd (if w10 then
      bd (DC a.aS (⟨a1.Path,a1.Client,decide (a1.Kind=11)⟩:aF)) λEO=>
      some (a.Shelf.L,a.aL.cI,a.aL.L,EO.1.L,a.Seen,0,0,EO.2,([]:List UInt8),0,([]:List (List UInt8)))
      else
      some (a.Shelf.L,a.aL.cI,a.aL.L,a.aS.L,a.Seen,0,0,0,([]:List UInt8),0,([]:List (List UInt8))):Option ((List aP)×Int×(List al)×(List aF)×(List aw)×Int×Int×Int×(List UInt8)×Int×(List (List UInt8)))) λX7=>
     some (X7.1,X7.2.1,X7.2.2.1,X7.2.2.2.1,X7.2.2.2.2.1,X7.2.2.2.2.2.1,X7.2.2.2.2.2.2.1,X7.2.2.2.2.2.2.2.1,X7.2.2.2.2.2.2.2.2.1,X7.2.2.2.2.2.2.2.2.2.1,X7.2.2.2.2.2.2.2.2.2.2,([]:List bq)):Option ((List aP)×Int×(List al)×(List aF)×(List aw)×Int×Int×Int×(List UInt8)×Int×(List (List UInt8))×(List bq))) λw8=>
    some (w8.1,w8.2.1,w8.2.2.1,w8.2.2.2.1,w8.2.2.2.2.1,w8.2.2.2.2.2.1,w8.2.2.2.2.2.2.1,w8.2.2.2.2.2.2.2.1,w8.2.2.2.2.2.2.2.2.1,w8.2.2.2.2.2.2.2.2.2.1,w8.2.2.2.2.2.2.2.2.2.2.1,w8.2.2.2.2.2.2.2.2.2.2.2):Option ((List aP)×Int×(List al)×(List aF)×(List aw)×Int×Int×Int×(List UInt8)×Int×(List (List UInt8))×(List bq))) λw6=>
   some (w6.1,w6.2.1,w6.2.2.1,w6.2.2.2.1,w6.2.2.2.2.1,w6.2.2.2.2.2.1,w6.2.2.2.2.2.2.1,w6.2.2.2.2.2.2.2.1,w6.2.2.2.2.2.2.2.2.1,w6.2.2.2.2.2.2.2.2.2.1,w6.2.2.2.2.2.2.2.2.2.2.1,w6.2.2.2.2.2.2.2.2.2.2.2):Option ((List aP)×Int×(List al)×(List aF)×(List aw)×Int×Int×Int×(List UInt8)×Int×(List (List UInt8))×(List bq))) λw5=>
  some (w5.1,w5.2.1,w5.2.2.1,w5.2.2.2.1,w5.2.2.2.2.1,w5.2.2.2.2.2.1,w5.2.2.2.2.2.2.1,w5.2.2.2.2.2.2.2.1,w5.2.2.2.2.2.2.2.2.1,w5.2.2.2.2.2.2.2.2.2.1,w5.2.2.2.2.2.2.2.2.2.2.1,w5.2.2.2.2.2.2.2.2.2.2.2):Option ((List aP)×Int×(List al)×(List aF)×(List aw)×Int×Int×Int×(List UInt8)×Int×(List (List UInt8))×(List bq))) λw4=>
 some ((⟨(⟨w4.1⟩:bE),(⟨w4.2.1,w4.2.2.1⟩:cD),(⟨w4.2.2.2.1⟩:eo),w4.2.2.2.2.1⟩:bM),(⟨w4.2.2.2.2.2.1,w4.2.2.2.2.2.2.1,w4.2.2.2.2.2.2.2.1,w4.2.2.2.2.2.2.2.2.1,w4.2.2.2.2.2.2.2.2.2.1,w4.2.2.2.2.2.2.2.2.2.2.1⟩:aw),w4.2.2.2.2.2.2.2.2.2.2.2)
def rq (c:bq)(w:aF):Option Bool:=bd (if c.Kind<1 then
  some true
  else
  if (3:Int)<c.Kind then
  some true
  else
  bd (jZ c.Path) λrA=>
  some (!rA):Option Bool) λw1=>
 if w1 then
 some false
 else
 if !w.Kids then
 some (decide (c.Path=w.Path))
 else
 bd (lZ c.Path) λaT=>
 bd (if !decide (c.Kind=2) then
  if aT.2=0 then
  some (decide (aT.1=w.Path))
  else
  some false
  else
  some false:Option Bool) λw2=>
 some w2
def tM (lA:List bq)(st:(List aF)×(List bH)×Int)(dH:(List bH)×(List aF)×Int):Option (((List bH)×(List aF)×Int)⊕((List bH)×(List aF))):=if dH.2.2<(st.1.length:Int) then
 ix lA st.2.2 λy=>
 ix st.1 dH.2.2 λy1=>
 bd (rq y y1) λrA=>
 bd (if rA then
  ix st.1 dH.2.2 λy2=>
  ix lA st.2.2 λy3=>
  if (dH.1.length+([(⟨y2,y3⟩:bH)]:List bH).length) *56<=2^46 then
  some (dH.1++([(⟨y2,y3⟩:bH)]:List bH),dH.2.1)
  else none
  else
  ix st.1 dH.2.2 λy4=>
  if (dH.2.1.length+([y4]:List aF).length) *32<=2^46 then
  some (dH.1,dH.2.1++([y4]:List aF))
  else none:Option ((List bH)×(List aF))) λw2=>
 some (.inl (w2.1,w2.2,c9 .i64 (dH.2.2+1)))
 else
 some (.inr (dH.1,dH.2.1))
def tN (lA:List bq)(st:(List aF)×(List bH)×Int):Option (((List aF)×(List bH)×Int)⊕((List aF)×(List bH))):=if st.2.2<(lA.length:Int) then
 bd (Loop (tM lA st) (st.2.1,([]:List aF),0)) λw1=>
 some (.inl (w1.2,w1.1,c9 .i64 (st.2.2+1)))
 else
 some (.inr (st.1,st.2.1))
def tO (t:eo)(lA:List bq):Option (eo×(List bH)):=if (([]:List aF).length+t.L.length) *32<=2^46 then
 bd (Loop (tN lA) (([]:List aF)++t.L,([]:List bH),0)) λw=>
 some ((⟨w.1⟩:eo),w.2)
 else none
def tP (lA:List aw)(x:aw)(st:(List aw)×Bool×Int):Option (((List aw)×Bool×Int)⊕((List aw)×Bool)):=if st.2.2<(lA.length:Int) then
 bd (if !st.2.1 then
  ix lA st.2.2 λy=>
  some (decide (x.Client<=y.Client))
  else
  some false:Option Bool) λw1=>
 bd (if w1 then
  if (st.1.length+([x]:List aw).length) *72<=2^46 then
  some (st.1++([x]:List aw),true)
  else none
  else
  some (st.1,st.2.1):Option ((List aw)×Bool)) λw2=>
 ix lA st.2.2 λy1=>
 bd (if !decide (y1.Client=x.Client) then
  ix lA st.2.2 λy2=>
  if (w2.1.length+([y2]:List aw).length) *72<=2^46 then
  some (w2.1++([y2]:List aw))
  else none
  else
  some w2.1:Option (List aw)) λw3=>
 some (.inl (w3,w2.2,c9 .i64 (st.2.2+1)))
 else
 some (.inr (st.1,st.2.1))
def tQ (lA:List aw)(x:aw):Option (List aw):=bd (Loop (tP lA x) (([]:List aw),false,0)) λw=>
 bd (if !w.2 then
  if (w.1.length+([x]:List aw).length) *72<=2^46 then
  some (w.1++([x]:List aw))
  else none
  else
  some w.1:Option (List aw)) λw4=>
 some w4
def wQ (a:bM)(a1:dJ):Option (bM×aw×(List bH)):=bd (DA a1) λrA=>
 if !rA then
 some (a,(⟨a1.Client,a1.Seq,1,([]:List UInt8),0,([]:List (List UInt8))⟩:aw),([]:List bH))
 else
 bd (wK a a1.Client) λaT=>
 bd (if aT.2 then
  some (decide (aT.1.Seq=a1.Seq))
  else
  some false:Option Bool) λw=>
 if w then
 some (a,aT.1,([]:List bH))
 else
 bd (if aT.2 then
  some (decide (a1.Seq<aT.1.Seq))
  else
  some false:Option Bool) λw1=>
 if w1 then
 some (a,(⟨a1.Client,a1.Seq,15,([]:List UInt8),0,([]:List (List UInt8))⟩:aw),([]:List bH))
 else
 bd (if !aT.2 then
  some (decide ((50:Int)<=(a.Seen.length:Int)))
  else
  some false:Option Bool) λw2=>
 if w2 then
 some (a,(⟨a1.Client,a1.Seq,9,([]:List UInt8),0,([]:List (List UInt8))⟩:aw),([]:List bH))
 else
 bd (tL a a1) λcf=>
 bd (tO cf.1.aS cf.2.2) λfH=>
 bd (tQ a.Seen (⟨a1.Client,a1.Seq,cf.2.1.E,cf.2.1.Value,cf.2.1.Version,cf.2.1.Names⟩:aw)) λn0=>
 some ((⟨cf.1.Shelf,cf.1.aL,fH.1,n0⟩:bM),(⟨a1.Client,a1.Seq,cf.2.1.E,cf.2.1.Value,cf.2.1.Version,cf.2.1.Names⟩:aw),fH.2)
def Hr (o:ar):Option dJ:=some (⟨o.Client,o.Seq,o.Kind,o.Path,o.Value,o.Version,o.Session,o.Span⟩:dJ)
def CA (st:Int×Int):Option ((Int×Int)⊕Int):=if (0:Int)<st.1 then
 if !decide ((256:Int)=0) then
 some (.inl (c9 .u64 (Int.tdiv st.1 256),c9 .i64 (st.2+1)))
 else none
 else
 some (.inr st.2)
def Ad (n:Int):Option Int:=bd (Loop CA (n,1)) λw=>some w
def Fj (st:(List Int)×Int)(dH:Int×Int):Option ((Int×Int)⊕Int):=if dH.2<st.2 then
 if !decide ((256:Int)=0) then
 some (.inl (c9 .u64 (Int.tdiv dH.1 256),c9 .i64 (dH.2+1)))
 else none
 else
 some (.inr dH.1)
def Fk (n:Int)(st:(List Int)×Int):Option (((List Int)×Int)⊕(List Int)):=if (0:Int)<=st.2 then
 bd (Loop (Fj st) (n,0)) λw1=>
 if !decide ((256:Int)=0) then
 if (st.1.length+([c9 .u8 (Int.tmod w1 256)]:List Int).length) *1<=2^46 then
 some (.inl (st.1++([c9 .u8 (Int.tmod w1 256)]:List Int),c9 .i64 (st.2-1)))
 else none
 else none
 else
 some (.inr st.1)
def vd (b:List Int)(n:Int):Option (List Int):=if (([]:List Int).length+b.length) *1<=2^46 then
 bd (Ad n) λrA=>
 if ((([]:List Int)++b).length+([c9 .u8 (c9 .i64 (rA-1))]:List Int).length) *1<=2^46 then
 bd (Loop (Fk n) ((([]:List Int)++b)++([c9 .u8 (c9 .i64 (rA-1))]:List Int),c9 .i64 ((c9 .i64 (rA-1))-1))) λw=>
 some w
 else none
 else none
def iZ (b:List Int)(n:Int):Option (List Int):=if n<0 then
 bd (vd b (c9 .u64 ((c9 .u64 (2 *(c9 .u64 (c9 .i64 (0-(c9 .i64 (n+1)))))))+1))) λrA=>
 some rA
 else
 bd (vd b (c9 .u64 (2 *(c9 .u64 n)))) λaT=>
 some aT
def pe (b:List Int)(sA:List UInt8):Option (List Int):=bd (vd b (c9 .u64 (sA.length:Int))) λrA=>
 if (rA.length+(Qf sA).length) *1<=2^46 then
 some (rA++(Qf sA))
 else none
def xS (lA:List (List UInt8))(st:(List Int)×Int):Option (((List Int)×Int)⊕(List Int)):=if st.2<(lA.length:Int) then
 ix lA st.2 λy=>
 bd (pe st.1 y) λaT=>
 some (.inl (aT,c9 .i64 (st.2+1)))
 else
 some (.inr st.1)
def Ae (b:List Int)(lA:List (List UInt8)):Option (List Int):=bd (vd b (c9 .u64 (lA.length:Int))) λrA=>
 bd (Loop (xS lA) (rA,0)) λw=>
 some w
def pf (rA:aw)(st:(List Int)×Int):Option (((List Int)×Int)⊕(List Int)):=if st.2<(([rA.Client,rA.Seq,rA.E,rA.Version]:List Int).length:Int) then
 ix ([rA.Client,rA.Seq,rA.E,rA.Version]:List Int) st.2 λy=>
 bd (iZ st.1 y) λaT=>
 some (.inl (aT,c9 .i64 (st.2+1)))
 else
 some (.inr st.1)
def pg (b:List Int)(rA:aw):Option (List Int):=bd (Loop (pf rA) (b,0)) λw=>
 bd (pe w rA.Value) λcf=>
 bd (Ae cf rA.Names) λfH=>
 some fH
def xT (a:bM)(st:(List Int)×Int):Option (((List Int)×Int)⊕(List Int)):=if st.2<(a.Shelf.L.length:Int) then
 ix a.Shelf.L st.2 λy=>
 bd (pe st.1 y.Path) λaT=>
 bd (pe aT y.Value) λcf=>
 bd (iZ cf y.Version) λfH=>
 bd (iZ fH y.b5) λn0=>
 some (.inl (n0,c9 .i64 (st.2+1)))
 else
 some (.inr st.1)
def xU (a:bM)(dH:(List Int)×Int):Option (((List Int)×Int)⊕(List Int)):=if dH.2<(a.aL.L.length:Int) then
 ix a.aL.L dH.2 λy1=>
 bd (iZ dH.1 y1.Id) λEO=>
 bd (iZ EO y1.Span) λKU=>
 bd (iZ KU y1.dX) λKV=>
 some (.inl (KV,c9 .i64 (dH.2+1)))
 else
 some (.inr dH.1)
def xV (a:bM)(eP:(List Int)×Int):Option (((List Int)×Int)⊕(List Int)):=if eP.2<(a.aS.L.length:Int) then
 ix a.aS.L eP.2 λy2=>
 bd (pe eP.1 y2.Path) λCB=>
 bd (iZ CB y2.Client) λGU=>
 bd (if y2.Kids then
  bd (iZ GU 1) λKW=>
  some KW
  else
  bd (iZ GU 0) λKX=>
  some KX:Option (List Int)) λw3=>
 some (.inl (w3,c9 .i64 (eP.2+1)))
 else
 some (.inr eP.1)
def xW (a:bM)(oO:(List Int)×Int):Option (((List Int)×Int)⊕(List Int)):=if oO.2<(a.Seen.length:Int) then
 ix a.Seen oO.2 λy3=>
 bd (pg oO.1 y3) λNT=>
 some (.inl (NT,c9 .i64 (oO.2+1)))
 else
 some (.inr oO.1)
def wR (a:bM):Option (List Int):=bd (iZ ([]:List Int) (a.Shelf.L.length:Int)) λrA=>
 bd (Loop (xT a) (rA,0)) λw=>
 bd (iZ w a.aL.cI) λqn=>
 bd (iZ qn (a.aL.L.length:Int)) λmT=>
 bd (Loop (xU a) (mT,0)) λw1=>
 bd (iZ w1 (a.aS.L.length:Int)) λwJ=>
 bd (Loop (xV a) (wJ,0)) λw2=>
 bd (iZ w2 (a.Seen.length:Int)) λFl=>
 bd (Loop (xW a) (Fl,0)) λw4=>
 some w4
def Af (a:bM)(b:bM):Option Bool:=bd (wR a) λrA=>
 KS rA λbs=>
 bd (wR b) λaT=>
 KS aT λbs1=>
 some (decide (bs=bs1))
def qP (a:List (List UInt8))(b:List (List UInt8))(st:Int):Option (Int⊕(Unit⊕Bool)):=if st<(a.length:Int) then
 ix a st λy=>
 ix b st λy1=>
 if !decide (y=y1) then
 some (.inr (.inr false))
 else
 some (.inl (c9 .i64 (st+1)))
 else
 some (.inr (.inl ()))
def rr (a:List (List UInt8))(b:List (List UInt8)):Option Bool:=if !decide ((a.length:Int)=(b.length:Int)) then
 some false
 else
 bd (Loop (qP a b) 0) λw=>
 match w with
 | .inl p1=>some true
 | .inr p2=>some p2
def Ag (a:aw)(b:aw):Option Bool:=bd (if a.Client=b.Client then
  if a.Seq=b.Seq then
  if a.E=b.E then
  if a.Value=b.Value then
  if a.Version=b.Version then
  bd (rr a.Names b.Names) λrA=>
  some rA
  else
  some false
  else
  some false
  else
  some false
  else
  some false
  else
  some false:Option Bool) λw=>
 some w
def pi (a:List bH)(b:List bH)(st:Int):Option (Int⊕(Unit⊕Bool)):=if st<(a.length:Int) then
 ix a st λy=>
 ix b st λy1=>
 if !((decide (y.W.Path=y1.W.Path))&&((decide (y.W.Client=y1.W.Client))&&((decide (y.W.Kids=y1.W.Kids))&&((decide (y.C.Kind=y1.C.Kind))&&(decide (y.C.Path=y1.C.Path)))))) then
 some (.inr (.inr false))
 else
 some (.inl (c9 .i64 (st+1)))
 else
 some (.inr (.inl ()))
def tR (a:List bH)(b:List bH):Option Bool:=if !decide ((a.length:Int)=(b.length:Int)) then
 some false
 else
 bd (Loop (pi a b) 0) λw=>
 match w with
 | .inl p1=>some true
 | .inr p2=>some p2
def pj (lA:List bk)(st:(List bH)×Int):Option (((List bH)×Int)⊕(List bH)):=if st.2<(lA.length:Int) then
 ix lA st.2 λy=>
 ix lA st.2 λy1=>
 if (st.1.length+([(⟨(⟨y.W.Path,y.W.Client,y.W.Kids⟩:aF),(⟨y1.C.Kind,y1.C.Path⟩:bq)⟩:bH)]:List bH).length) *56<=2^46 then
 some (.inl (st.1++([(⟨(⟨y.W.Path,y.W.Client,y.W.Kids⟩:aF),(⟨y1.C.Kind,y1.C.Path⟩:bq)⟩:bH)]:List bH),c9 .i64 (st.2+1)))
 else none
 else
 some (.inr st.1)
def qp (lA:List bk):Option (List bH):=bd (Loop (pj lA) (([]:List bH),0)) λw=>some w
def pk (lA:List ar)(st:(List ah)×Int×(List aE)×(List aq)×(List ai)×(List ai)×(List bk)×Int):Option (((List ah)×Int×(List aE)×(List aq)×(List ai)×(List ai)×(List bk)×Int)⊕((List ah)×Int×(List aE)×(List aq)×(List ai)×(List ai)×(List bk))):=if st.2.2.2.2.2.2.2<(lA.length:Int) then
 ix lA st.2.2.2.2.2.2.2 λy=>
 bd (mg (⟨(⟨st.1⟩:aD),(⟨st.2.1,st.2.2.1⟩:aK),(⟨st.2.2.2.1⟩:ca),st.2.2.2.2.1⟩:ap) y) λmT=>
 if (st.2.2.2.2.2.1.length+([mT.2.1]:List ai).length) *72<=2^46 then
 if (st.2.2.2.2.2.2.1.length+mT.2.2.length) *56<=2^46 then
 some (.inl (mT.1.Shelf.L,mT.1.aL.cI,mT.1.aL.L,mT.1.aS.L,mT.1.Seen,st.2.2.2.2.2.1++([mT.2.1]:List ai),st.2.2.2.2.2.2.1++mT.2.2,c9 .i64 (st.2.2.2.2.2.2.2+1)))
 else none
 else none
 else
 some (.inr (st.1,st.2.1,st.2.2.1,st.2.2.2.1,st.2.2.2.2.1,st.2.2.2.2.2.1,st.2.2.2.2.2.2.1))
def n5 (rA:ap)(lA:List ar):Option (ap×(List ai)×(List bk)):=bd (Loop (pk lA) (rA.Shelf.L,rA.aL.cI,rA.aL.L,rA.aS.L,rA.Seen,([]:List ai),([]:List bk),0)) λw=>some ((⟨(⟨w.1⟩:aD),(⟨w.2.1,w.2.2.1⟩:aK),(⟨w.2.2.2.1⟩:ca),w.2.2.2.2.1⟩:ap),w.2.2.2.2.2.1,w.2.2.2.2.2.2)
def tS (lA:List dJ)(st:(List aP)×Int×(List al)×(List aF)×(List aw)×(List aw)×(List bH)×Int):Option (((List aP)×Int×(List al)×(List aF)×(List aw)×(List aw)×(List bH)×Int)⊕((List aP)×Int×(List al)×(List aF)×(List aw)×(List aw)×(List bH))):=if st.2.2.2.2.2.2.2<(lA.length:Int) then
 ix lA st.2.2.2.2.2.2.2 λy=>
 bd (wQ (⟨(⟨st.1⟩:bE),(⟨st.2.1,st.2.2.1⟩:cD),(⟨st.2.2.2.1⟩:eo),st.2.2.2.2.1⟩:bM) y) λmT=>
 if (st.2.2.2.2.2.1.length+([mT.2.1]:List aw).length) *72<=2^46 then
 if (st.2.2.2.2.2.2.1.length+mT.2.2.length) *56<=2^46 then
 some (.inl (mT.1.Shelf.L,mT.1.aL.cI,mT.1.aL.L,mT.1.aS.L,mT.1.Seen,st.2.2.2.2.2.1++([mT.2.1]:List aw),st.2.2.2.2.2.2.1++mT.2.2,c9 .i64 (st.2.2.2.2.2.2.2+1)))
 else none
 else none
 else
 some (.inr (st.1,st.2.1,st.2.2.1,st.2.2.2.1,st.2.2.2.2.1,st.2.2.2.2.2.1,st.2.2.2.2.2.2.1))
def Ah (rA:bM)(lA:List dJ):Option (bM×(List aw)×(List bH)):=bd (Loop (tS lA) (rA.Shelf.L,rA.aL.cI,rA.aL.L,rA.aS.L,rA.Seen,([]:List aw),([]:List bH),0)) λw=>some ((⟨(⟨w.1⟩:bE),(⟨w.2.1,w.2.2.1⟩:cD),(⟨w.2.2.2.1⟩:eo),w.2.2.2.2.1⟩:bM),w.2.2.2.2.2.1,w.2.2.2.2.2.2)
def NU:Option bE:=some (⟨([(⟨([47]:List UInt8),([]:List UInt8),0,0⟩:aP)]:List aP)⟩:bE)
def Hs:Option bM:=bd (NU) λrA=>some (⟨rA,(⟨0,([]:List al)⟩:cD),(⟨([]:List aF)⟩:eo),([]:List aw)⟩:bM)
def wS (lA:List ar)(st:(List dJ)×Int):Option (((List dJ)×Int)⊕(List dJ)):=if st.2<(lA.length:Int) then
 ix lA st.2 λy=>
 bd (Hr y) λrA=>
 if (st.1.length+([rA]:List dJ).length) *80<=2^46 then
 some (.inl (st.1++([rA]:List dJ),c9 .i64 (st.2+1)))
 else none
 else
 some (.inr st.1)
def DD (lA:List ar):Option (List dJ):=bd (Loop (wS lA) (([]:List dJ),0)) λw=>some w
def nu (a:List aw)(b:List aw)(st:Int):Option (Int⊕(Unit⊕Bool)):=if st<(a.length:Int) then
 ix a st λy=>
 ix b st λy1=>
 bd (Ag y y1) λrA=>
 if !rA then
 some (.inr (.inr false))
 else
 some (.inl (c9 .i64 (st+1)))
 else
 some (.inr (.inl ()))
def ox (a:List aw)(b:List aw):Option Bool:=if !decide ((a.length:Int)=(b.length:Int)) then
 some false
 else
 bd (Loop (nu a b) 0) λw=>
 match w with
 | .inl p1=>some true
 | .inr p2=>some p2
def pn (a:List ar)(a1:Int):Option Bool:=bd (wC a) λrA=>
 if !rA then
 bd (s5) λaT=>
 some aT
 else
 bd (s4) λcf=>
 bd (n5 cf a) λfH=>
 bd (Hs) λn0=>
 bd (DD a) λqn=>
 bd (Ah n0 qn) λmT=>
 bd (bd (wG fH.1) λEO=>
  bd (Af EO mT.1) λKU=>
  if !KU then
  some true
  else
  bd (ko fH.2.1) λKV=>
  bd (ox KV mT.2.1) λwJ=>
  if !wJ then
  some true
  else
  bd (qp fH.2.2) λCB=>
  bd (tR CB mT.2.2) λGU=>
  some (!GU):Option Bool) λw=>
 if w then
 some false
 else
 if (0:Int)<=0/\(0:Int)<=(nT (imax a1 0) (a.length:Int))/\(nT (imax a1 0) (a.length:Int))<=(a.length:Int) then
 bd (s4) λKW=>
 bd (n5 KW (AI (sh 0) (AS (sh (nT (imax a1 0) (a.length:Int))) a))) λKX=>
 if (0:Int)<=(nT (imax a1 0) (a.length:Int))/\(nT (imax a1 0) (a.length:Int))<=(a.length:Int)/\(a.length:Int)<=(a.length:Int) then
 bd (n5 KX.1 (AI (sh (nT (imax a1 0) (a.length:Int))) (AS (sh (a.length:Int)) a))) λFl=>
 bd (bd (s5) λNT=>
  if NT then
  bd (qo Fl.1 fH.1) λadR=>
  if adR then
  if (Fl.2.1.length:Int)=(c9 .i64 ((a.length:Int)-(nT (imax a1 0) (a.length:Int)))) then
  if (0:Int)<=(nT (imax a1 0) (a.length:Int))/\(nT (imax a1 0) (a.length:Int))<=(fH.2.1.length:Int)/\(fH.2.1.length:Int)<=(fH.2.1.length:Int) then
  bd (ko Fl.2.1) λaao=>
  bd (ko (AI (sh (nT (imax a1 0) (a.length:Int))) (AS (sh (fH.2.1.length:Int)) fH.2.1))) λaap=>
  bd (ox aao aap) λadS=>
  some adS
  else none
  else
  some false
  else
  some false
  else
  some false:Option Bool) λw1=>
 some w1
 else none
 else none
end
end Dn.S
