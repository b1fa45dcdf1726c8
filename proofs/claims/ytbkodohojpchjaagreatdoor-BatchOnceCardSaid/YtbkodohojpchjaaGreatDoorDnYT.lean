import Derived.Test.YtbkodohojpchjaaGreatDoorDnD
/- Typed functions. Conditions: none. -/
set_option linter.unusedVariables false
set_option linter.unusedSimpArgs false
open Go.IntKind renaming wrap→bN,bits→AI
open Int renaming toNat→sh,fdiv→By
open List renaming drop→AS,take→AT,replicate→BY
open Go.Op renaming bytesLess→IN
open Go Dn
set_option maxRecDepth 100000
namespace Dn.S
noncomputable section
structure af where
 Path:List UInt8
 Value:List UInt8
 Version:Int
 dw:Int
deriving DecidableEq
@[reducible] def FJ (x : af) : List MV := [.s x.Path, .s x.Value, .i .i64 x.Version, .i .i64 x.dw]
@[reducible] def aS (x : af) : MV := .agg (FJ x)
structure aC where
 L:List af
deriving DecidableEq
@[reducible] def Dj (x : aC) : List MV := [.list (x.L.map aS)]
@[reducible] def cc (x : aC) : MV := .agg (Dj x)
structure aw where
 Id:Int
 Span:Int
 lz:Int
deriving DecidableEq
@[reducible] def Ip (x : aw) : List MV := [.i .i64 x.Id, .i .i64 x.Span, .i .i64 x.lz]
@[reducible] def aW (x : aw) : MV := .agg (Ip x)
structure aF where
 iT:Int
 L:List aw
deriving DecidableEq
@[reducible] def Qf (x : aF) : List MV := [.i .i64 x.iT, .list (x.L.map aW)]
@[reducible] def dB (x : aF) : MV := .agg (Qf x)
structure ar where
 Path:List UInt8
 Client:Int
 Kids:Bool
deriving DecidableEq
@[reducible] def Oa (x : ar) : List MV := [.s x.Path, .i .i64 x.Client, .b x.Kids]
@[reducible] def bk (x : ar) : MV := .agg (Oa x)
structure bI where
 L:List ar
deriving DecidableEq
@[reducible] def Ob (x : bI) : List MV := [.list (x.L.map bk)]
@[reducible] def lf (x : bI) : MV := .agg (Ob x)
structure ae where
 Client:Int
 Seq:Int
 E:Int
 Value:List UInt8
 Version:Int
 Names:List (List UInt8)
deriving DecidableEq
@[reducible] def Oc (x : ae) : List MV := [.i .i64 x.Client, .i .i64 x.Seq, .i .i64 x.E, .s x.Value, .i .i64 x.Version, .list (x.Names.map MV.s)]
@[reducible] def aU (x : ae) : MV := .agg (Oc x)
structure al where
 Shelf:aC
 ca:aF
 bJ:bI
 Seen:List ae
deriving DecidableEq
@[reducible] def Od (x : al) : List MV := [.list (x.Shelf.L.map aS), .i .i64 x.ca.iT, .list (x.ca.L.map aW), .list (x.bJ.L.map bk), .list (x.Seen.map aU)]
@[reducible] def dc (x : al) : MV := .agg (Od x)
structure aa where
 Client:Int
 Seq:Int
 Kind:Int
 Path:List UInt8
 Value:List UInt8
 Version:Int
 Session:Int
 Span:Int
deriving DecidableEq
@[reducible] def Oe (x : aa) : List MV := [.i .i64 x.Client, .i .i64 x.Seq, .i .i64 x.Kind, .s x.Path, .s x.Value, .i .i64 x.Version, .i .i64 x.Session, .i .i64 x.Span]
@[reducible] def aB (x : aa) : MV := .agg (Oe x)
structure adS where
 Path:List UInt8
 Value:List UInt8
 Version:Int
 dw:Int
deriving DecidableEq
structure Iq where
 L:List adS
deriving DecidableEq
structure Ss where
 Id:Int
 Span:Int
 lz:Int
deriving DecidableEq
structure adT where
 iT:Int
 L:List Ss
deriving DecidableEq
structure Qg where
 Path:List UInt8
 Client:Int
 Kids:Bool
deriving DecidableEq
structure aal where
 L:List Qg
deriving DecidableEq
structure aam where
 Client:Int
 Seq:Int
 E:Int
 Value:List UInt8
 Version:Int
 Names:List (List UInt8)
deriving DecidableEq
structure akR where
 Shelf:Iq
 ca:adT
 bJ:aal
 Seen:List aam
deriving DecidableEq
structure aD where
 Kind:Int
 Path:List UInt8
deriving DecidableEq
@[reducible] def KQ (x : aD) : List MV := [.i .i64 x.Kind, .s x.Path]
@[reducible] def fG (x : aD) : MV := .agg (KQ x)
structure ah where
 r:al
 o:aa
 x:ae
 l:List aD
deriving DecidableEq
@[reducible] def bD (x : ah) : List MV := [.list (x.r.Shelf.L.map aS), .i .i64 x.r.ca.iT, .list (x.r.ca.L.map aW), .list (x.r.bJ.L.map bk), .list (x.r.Seen.map aU), .i .i64 x.o.Client, .i .i64 x.o.Seq, .i .i64 x.o.Kind, .s x.o.Path, .s x.o.Value, .i .i64 x.o.Version, .i .i64 x.o.Session, .i .i64 x.o.Span, .i .i64 x.x.Client, .i .i64 x.x.Seq, .i .i64 x.x.E, .s x.x.Value, .i .i64 x.x.Version, .list (x.x.Names.map MV.s), .list (x.l.map fG)]
structure a7 where
 W:ar
 C:aD
deriving DecidableEq
@[reducible] def Of (x : a7) : List MV := [.s x.W.Path, .i .i64 x.W.Client, .b x.W.Kids, .i .i64 x.C.Kind, .s x.C.Path]
@[reducible] def df (x : a7) : MV := .agg (Of x)
structure akS where
 Client:Int
 Seq:Int
 Kind:Int
 Path:List UInt8
 Value:List UInt8
 Version:Int
 Session:Int
 Span:Int
deriving DecidableEq
structure Wd where
 Kind:Int
 Path:List UInt8
deriving DecidableEq
structure akT where
 W:Qg
 C:Wd
deriving DecidableEq
def aan (sA:Iq)(p:List UInt8)(st:Int):Option (Int⊕(Unit⊕Int)):=if st<(sA.L.length:Int) then
 ix sA.L st λy=>
 if y.Path=p then
 some (.inr (.inr st))
 else
 some (.inl (bN .i64 (st+1)))
 else
 some (.inr (.inl ()))
def api (sA:Iq)(p:List UInt8):Option Int:=bd (Loop (aan sA p) 0) λw=>
 match w with
 | .inl p3=>some (-1)
 | .inr p4=>some p4
def gj (o:aa):Option aa:=if o.Kind=1 then
 some (⟨o.Client,o.Seq,o.Kind,o.Path,o.Value,0,o.Session,0⟩:aa)
 else
 bd (if o.Kind=2 then
  some (decide (o.Kind=2))
  else
  bd (if o.Kind=5 then
   some (decide (o.Kind=5))
   else
   bd (if o.Kind=10 then
    some (decide (o.Kind=10))
    else
    some (decide (o.Kind=11)):Option Bool) λw2=>
   some w2:Option Bool) λw1=>
  some w1:Option Bool) λw=>
 if w then
 some (⟨o.Client,o.Seq,o.Kind,o.Path,([]:List UInt8),0,0,0⟩:aa)
 else
 if o.Kind=3 then
 some (⟨o.Client,o.Seq,o.Kind,o.Path,o.Value,o.Version,0,0⟩:aa)
 else
 if o.Kind=4 then
 some (⟨o.Client,o.Seq,o.Kind,o.Path,([]:List UInt8),o.Version,0,0⟩:aa)
 else
 if o.Kind=6 then
 some (⟨o.Client,o.Seq,o.Kind,([]:List UInt8),([]:List UInt8),0,o.Session,o.Span⟩:aa)
 else
 bd (if o.Kind=7 then
  some (decide (o.Kind=7))
  else
  some (decide (o.Kind=8)):Option Bool) λw3=>
 if w3 then
 some (⟨o.Client,o.Seq,o.Kind,([]:List UInt8),([]:List UInt8),0,o.Session,0⟩:aa)
 else
 if o.Kind=9 then
 some (⟨o.Client,o.Seq,o.Kind,([]:List UInt8),([]:List UInt8),0,0,o.Span⟩:aa)
 else
 some (⟨o.Client,o.Seq,o.Kind,([]:List UInt8),([]:List UInt8),0,0,0⟩:aa)
def dC (o:aa):Option Bool:=bd (if (0:Int)<=o.Client then
  if o.Client<=1000 then
  if (1:Int)<=o.Seq then
  some (decide (o.Seq<=1000000000))
  else
  some false
  else
  some false
  else
  some false:Option Bool) λw=>
 bd (if w then
  if (0:Int)<=o.Kind then
  if o.Kind<=11 then
  if (o.Path.length:Int)<=100 then
  if (o.Value.length:Int)<=1000 then
  bd (gj o) λrA=>
  some ((decide (o.Client=rA.Client))&&((decide (o.Seq=rA.Seq))&&((decide (o.Kind=rA.Kind))&&((decide (o.Path=rA.Path))&&((decide (o.Value=rA.Value))&&((decide (o.Version=rA.Version))&&((decide (o.Session=rA.Session))&&(decide (o.Span=rA.Span)))))))))
  else
  some false
  else
  some false
  else
  some false
  else
  some false
  else
  some false:Option Bool) λw1=>
 some w1
def o4 (x:Int):Option Bool:=some (!decide (x=x))
def jY (x:Int)(y:Int):Option Int:=bd (o4 x) λrA=>
 bd (o4 y) λaY=>
 if rA then
 if aY then
 some 0
 else
 some (-1)
 else
 if aY then
 some 1
 else
 if x<y then
 some (-1)
 else
 if y<x then
 some 1
 else
 some 0
def c8 (x:ae)(eF:Int):Option Int:=bd (jY x.Client eF) λrA=>some rA
def fH (x:List ae)(target:Int)(cmp:ae->Int->Option Int)(st:Int×Int):Option ((Int×Int)⊕Int):=if st.1<st.2 then
 if (0:Int)<=1 then
 ix x (bN .i64 (By (bN .u64 (bN .i64 (st.1+st.2))) (2^min (sh 1) (AI .u64)))) λy=>
 bd (cmp y target) λrA=>
 bd (if rA<0 then
  some (bN .i64 ((bN .i64 (By (bN .u64 (bN .i64 (st.1+st.2))) (2^min (sh 1) (AI .u64))))+1),st.2)
  else
  some (st.1,bN .i64 (By (bN .u64 (bN .i64 (st.1+st.2))) (2^min (sh 1) (AI .u64)))):Option (Int×Int)) λw1=>
 some (.inl (w1.1,w1.2))
 else none
 else
 some (.inr st.1)
def cS (x:List ae)(target:Int)(cmp:ae->Int->Option Int):Option (Int×Bool):=bd (Loop (fH x target cmp) (0,(x.length:Int))) λw=>
 bd (if w<(x.length:Int) then
  ix x w λy1=>
  bd (cmp y1 target) λaY=>
  some (w,decide (aY=0))
  else
  some (w,false):Option (Int×Bool)) λw2=>
 some (w2.1,w2.2)
def fg (rA:al)(eF:Int):Option (Int×Bool):=bd (cS rA.Seen eF c8) λaY=>some (aY.1,aY.2)
def nX (rA:al)(eF:Int):Option (ae×Bool):=bd (fg rA eF) λaY=>
 if !aY.2 then
 some ((⟨0,0,0,([]:List UInt8),0,([]:List (List UInt8))⟩:ae),false)
 else
 ix rA.Seen aY.1 λy=>
 some (y,true)
def jZ (rA:al)(o:aa):Option (ae×Bool):=bd (nX rA o.Client) λaY=>
 bd (dC o) λda=>
 bd (if !da then
  some (.inl (0,0,0,([]:List UInt8),0,([]:List (List UInt8)),o.Client,o.Seq,1,([]:List UInt8),0,([]:List (List UInt8))))
  else
  bd (if aY.2 then
   some (decide (aY.1.Seq=o.Seq))
   else
   some false:Option Bool) λw1=>
  if w1 then
  some (.inr (aY.1.Client,aY.1.Seq,aY.1.E,aY.1.Value,aY.1.Version,aY.1.Names,true))
  else
  bd (if aY.2 then
   some (decide (o.Seq<aY.1.Seq))
   else
   some false:Option Bool) λw2=>
  bd (if w2 then
   some (.inl (0,0,0,([]:List UInt8),0,([]:List (List UInt8)),o.Client,o.Seq,15,([]:List UInt8),0,([]:List (List UInt8))))
   else
   bd (if !aY.2 then
    some (decide ((50:Int)<=(rA.Seen.length:Int)))
    else
    some false:Option Bool) λw4=>
   if w4 then
   some (.inl (0,0,0,([]:List UInt8),0,([]:List (List UInt8)),o.Client,o.Seq,9,([]:List UInt8),0,([]:List (List UInt8))))
   else
   some (.inr (o.Client,o.Seq,0,([]:List UInt8),0,([]:List (List UInt8)),false)):Option ((Int×Int×Int×(List UInt8)×Int×(List (List UInt8))×Int×Int×Int×(List UInt8)×Int×(List (List UInt8)))⊕(Int×Int×Int×(List UInt8)×Int×(List (List UInt8))×Bool))) λw3=>
  match w3 with
  | .inl p2=>some (.inl (p2.1,p2.2.1,p2.2.2.1,p2.2.2.2.1,p2.2.2.2.2.1,p2.2.2.2.2.2.1,p2.2.2.2.2.2.2.1,p2.2.2.2.2.2.2.2.1,p2.2.2.2.2.2.2.2.2.1,p2.2.2.2.2.2.2.2.2.2.1,p2.2.2.2.2.2.2.2.2.2.2.1,p2.2.2.2.2.2.2.2.2.2.2.2))
  | .inr p3=>some (.inr (p3.1,p3.2.1,p3.2.2.1,p3.2.2.2.1,p3.2.2.2.2.1,p3.2.2.2.2.2.1,p3.2.2.2.2.2.2)):Option ((Int×Int×Int×(List UInt8)×Int×(List (List UInt8))×Int×Int×Int×(List UInt8)×Int×(List (List UInt8)))⊕(Int×Int×Int×(List UInt8)×Int×(List (List UInt8))×Bool))) λw=>
 match w with
 | .inl p4=>some ((⟨p4.2.2.2.2.2.2.1,p4.2.2.2.2.2.2.2.1,p4.2.2.2.2.2.2.2.2.1,p4.2.2.2.2.2.2.2.2.2.1,p4.2.2.2.2.2.2.2.2.2.2.1,p4.2.2.2.2.2.2.2.2.2.2.2⟩:ae),true)
 | .inr p5=>some ((⟨p5.1,p5.2.1,p5.2.2.1,p5.2.2.2.1,p5.2.2.2.2.1,p5.2.2.2.2.2.1⟩:ae),p5.2.2.2.2.2.2)
def nY (w:ah):Option (Unit×ah):=some ((),w)
def dj (x:aw)(id:Int):Option Int:=bd (jY x.Id id) λrA=>some rA
def e9 (x:List aw)(target:Int)(cmp:aw->Int->Option Int)(st:Int×Int):Option ((Int×Int)⊕Int):=if st.1<st.2 then
 if (0:Int)<=1 then
 ix x (bN .i64 (By (bN .u64 (bN .i64 (st.1+st.2))) (2^min (sh 1) (AI .u64)))) λy=>
 bd (cmp y target) λrA=>
 bd (if rA<0 then
  some (bN .i64 ((bN .i64 (By (bN .u64 (bN .i64 (st.1+st.2))) (2^min (sh 1) (AI .u64))))+1),st.2)
  else
  some (st.1,bN .i64 (By (bN .u64 (bN .i64 (st.1+st.2))) (2^min (sh 1) (AI .u64)))):Option (Int×Int)) λw1=>
 some (.inl (w1.1,w1.2))
 else none
 else
 some (.inr st.1)
def cE (x:List aw)(target:Int)(cmp:aw->Int->Option Int):Option (Int×Bool):=bd (Loop (e9 x target cmp) (0,(x.length:Int))) λw=>
 bd (if w<(x.length:Int) then
  ix x w λy1=>
  bd (cmp y1 target) λaY=>
  some (w,decide (aY=0))
  else
  some (w,false):Option (Int×Bool)) λw2=>
 some (w2.1,w2.2)
def ea (b:aF)(id:Int):Option (Int×Bool):=bd (cE b.L id dj) λrA=>some (rA.1,rA.2)
def wD (b:aF)(id:Int):Option Bool:=bd (ea b id) λrA=>some rA.2
def iA (sA:List UInt8)(dk:List UInt8):Option Bool:=bd (if (dk.length:Int)<=(sA.length:Int) then
  if (0:Int)<=0/\(0:Int)<=(dk.length:Int)/\(dk.length:Int)<=(sA.length:Int) then
  some (decide ((AS (sh 0) (AT (sh (dk.length:Int)) sA))=dk))
  else none
  else
  some false:Option Bool) λw=>
 some w
def iB (sA:List UInt8)(dk:List UInt8):Option ((List UInt8)×Bool):=bd (iA sA dk) λrA=>
 if !rA then
 some (sA,false)
 else
 if (0:Int)<=(dk.length:Int)/\(dk.length:Int)<=(sA.length:Int)/\(sA.length:Int)<=(sA.length:Int) then
 some (AS (sh (dk.length:Int)) (AT (sh (sA.length:Int)) sA),true)
 else none
def jf (sA:List UInt8)(dk:List UInt8):Option ((List UInt8)×Bool):=bd (iB sA dk) λrA=>some (rA.1,rA.2)
def gO (c:Int):Option Bool:=bd (Di ([97,98,99,100,101,102,103,104,105,106,107,108,109,110,111,112,113,114,115,116,117,118,119,120,121,122,48,49,50,51,52,53,54,55,56,57,45,95]:List UInt8) c) λrA=>some (!rA)
def jg (f:Int->Option Bool)(FK:Bool)(st:(List MV)):Option ((List MV)⊕(Unit⊕Int)):=if Kw st then
 bd (f (zA st)) λrA=>
 if rA=FK then
 some (.inr (.inr (rJ st)))
 else
 some (.inl (BU st))
 else
 some (.inr (.inl ()))
def nH (sA:List UInt8)(f:Int->Option Bool)(FK:Bool):Option Int:=bd (Loop (jg f FK) ([.s sA,.i .i64 0]:List MV)) λw=>
 match w with
 | .inl p1=>some (-1)
 | .inr p2=>some p2
def lB (sA:List UInt8)(f:Int->Option Bool):Option Int:=bd (nH sA f true) λrA=>some rA
def fJ (sA:List UInt8)(f:Int->Option Bool):Option Bool:=bd (lB sA f) λrA=>some (decide ((0:Int)<=rA))
def qO (sA:List UInt8):Option Bool:=bd (if !decide (sA=([]:List UInt8)) then
  if (sA.length:Int)<=30 then
  bd (Mj sA ([97,98,99,100,101,102,103,104,105,106,107,108,109,110,111,112,113,114,115,116,117,118,119,120,121,122,48,49,50,51,52,53,54,55,56,57,45,95]:List UInt8)) λrA=>
  if rA=([]:List UInt8) then
  bd (fJ sA gO) λaY=>
  some (!aY)
  else
  some false
  else
  some false
  else
  some false:Option Bool) λw=>
 some w
def mD (sA:List UInt8):Option Bool:=bd (qO sA) λrA=>some (!rA)
def dU (sA:List (List UInt8))(f:(List UInt8)->Option Bool)(st:Int):Option (Int⊕(Unit⊕Int)):=if st<(sA.length:Int) then
 ix sA st λy=>
 bd (f y) λrA=>
 if rA then
 some (.inr (.inr st))
 else
 some (.inl (bN .i64 (st+1)))
 else
 some (.inr (.inl ()))
def gz (sA:List (List UInt8))(f:(List UInt8)->Option Bool):Option Int:=bd (Loop (dU sA f) 0) λw=>
 match w with
 | .inl p1=>some (-1)
 | .inr p2=>some p2
def dF (sA:List (List UInt8))(f:(List UInt8)->Option Bool):Option Bool:=bd (gz sA f) λrA=>some (decide ((0:Int)<=rA))
def ig (p:List UInt8):Option ((List (List UInt8))×Bool):=bd (jf p ([47]:List UInt8)) λrA=>
 bd (if !rA.2 then
  some true
  else
  some (decide ((100:Int)<(p.length:Int))):Option Bool) λw=>
 if w then
 some (([]:List (List UInt8)),false)
 else
 if rA.1=([]:List UInt8) then
 some (([]:List (List UInt8)),true)
 else
 bd (N8 rA.1 ([47]:List UInt8)) λaY=>
 bd (if (aY.length:Int)<=8 then
  bd (dF aY mD) λda=>
  some (aY,!da,aY)
  else
  some (aY,false,aY):Option ((List (List UInt8))×Bool×(List (List UInt8)))) λw1=>
 some (w1.2.2,w1.2.1)
def kQ (x:List UInt8):Option Bool:=some (!decide (x=x))
def jh (x:List UInt8)(y:List UInt8):Option Int:=bd (kQ x) λrA=>
 bd (kQ y) λaY=>
 if rA then
 if aY then
 some 0
 else
 some (-1)
 else
 if aY then
 some 1
 else
 if IN x y then
 some (-1)
 else
 if !(IN x y||decide (x=y)) then
 some 1
 else
 some 0
def eM (s1:List (List UInt8))(s2:List (List UInt8))(st:Int):Option (Int⊕(Unit⊕Int)):=if st<(s1.length:Int) then
 ix s1 st λy=>
 if (s2.length:Int)<=st then
 some (.inr (.inr 1))
 else
 ix s2 st λy1=>
 bd (jh y y1) λrA=>
 if !decide (rA=0) then
 some (.inr (.inr rA))
 else
 some (.inl (bN .i64 (st+1)))
 else
 some (.inr (.inl ()))
def fK (s1:List (List UInt8))(s2:List (List UInt8)):Option Int:=bd (Loop (eM s1 s2) 0) λw=>
 match w with
 | .inl p1=>
  if (s1.length:Int)<(s2.length:Int) then
  some (-1)
  else
  some 0
 | .inr p2=>some p2
def s7 (p:List UInt8)(q:List UInt8):Option Bool:=bd (ig p) λrA=>
 bd (ig q) λaY=>
 bd (if rA.2 then
  if aY.2 then
  bd (fK rA.1 aY.1) λda=>
  some (decide (da<0))
  else
  some false
  else
  some false:Option Bool) λw=>
 some w
def cm (n:af)(p:List UInt8):Option Int:=if n.Path=p then
 some 0
 else
 bd (s7 n.Path p) λrA=>
 if rA then
 some (-1)
 else
 some 1
def fa (x:List af)(target:List UInt8)(cmp:af->(List UInt8)->Option Int)(st:Int×Int):Option ((Int×Int)⊕Int):=if st.1<st.2 then
 if (0:Int)<=1 then
 ix x (bN .i64 (By (bN .u64 (bN .i64 (st.1+st.2))) (2^min (sh 1) (AI .u64)))) λy=>
 bd (cmp y target) λrA=>
 bd (if rA<0 then
  some (bN .i64 ((bN .i64 (By (bN .u64 (bN .i64 (st.1+st.2))) (2^min (sh 1) (AI .u64))))+1),st.2)
  else
  some (st.1,bN .i64 (By (bN .u64 (bN .i64 (st.1+st.2))) (2^min (sh 1) (AI .u64)))):Option (Int×Int)) λw1=>
 some (.inl (w1.1,w1.2))
 else none
 else
 some (.inr st.1)
def dx (x:List af)(target:List UInt8)(cmp:af->(List UInt8)->Option Int):Option (Int×Bool):=bd (Loop (fa x target cmp) (0,(x.length:Int))) λw=>
 bd (if w<(x.length:Int) then
  ix x w λy1=>
  bd (cmp y1 target) λaY=>
  some (w,decide (aY=0))
  else
  some (w,false):Option (Int×Bool)) λw2=>
 some (w2.1,w2.2)
def eo (sA:aC)(p:List UInt8):Option (Int×Bool):=bd (dx sA.L p cm) λrA=>some (rA.1,rA.2)
def kD (p:List UInt8):Option Bool:=bd (ig p) λrA=>some rA.2
def dM (sA:List UInt8)(c:Int)(st:Int):Option (Int⊕(Unit⊕Int)):=if (0:Int)<=st then
 if (0:Int)<=st/\st<(sA.length:Int) then
 if ((sA.getD (sh st) 0).toNat:Int)=c then
 some (.inr (.inr st))
 else
 some (.inl (bN .i64 (st-1)))
 else none
 else
 some (.inr (.inl ()))
def eu (sA:List UInt8)(c:Int):Option Int:=bd (Loop (dM sA c) (bN .i64 ((sA.length:Int)-1))) λw=>
 match w with
 | .inl p1=>some (-1)
 | .inr p2=>some p2
def lX (sep:List UInt8)(st:Int×Int):Option ((Int×Int)⊕Int):=if (0:Int)<=st.2 then
 if (0:Int)<=st.2/\st.2<(sep.length:Int) then
 some (.inl (bN .u32 ((bN .u32 (st.1 *16777619))+(bN .u32 ((sep.getD (sh st.2) 0).toNat:Int))),bN .i64 (st.2-1)))
 else none
 else
 some (.inr st.1)
def lY (eJ:Int×Int×Int):Option ((Int×Int×Int)⊕Int):=if (0:Int)<eJ.2.2 then
 bd (if !decide ((M6 .i64 eJ.2.2 1)=0) then
  some (bN .u32 (eJ.1 *eJ.2.1))
  else
  some eJ.1:Option Int) λw2=>
 if (0:Int)<=1 then
 some (.inl (w2,bN .u32 (eJ.2.1 *eJ.2.1),By eJ.2.2 (2^min (sh 1) (AI .i64))))
 else none
 else
 some (.inr eJ.1)
def jE (sep:List UInt8):Option (Int×Int):=bd (Loop (lX sep) (0,bN .i64 ((sep.length:Int)-1))) λw=>
 bd (Loop lY (1,16777619,(sep.length:Int))) λw1=>
 some (w,w1)
def ik (a:List UInt8)(a1:List UInt8)(st:Int×Int):Option ((Int×Int)⊕Int):=if (bN .i64 ((a.length:Int)-(a1.length:Int)))<=st.2 then
 if (0:Int)<=st.2/\st.2<(a.length:Int) then
 some (.inl (bN .u32 ((bN .u32 (st.1 *16777619))+(bN .u32 ((a.getD (sh st.2) 0).toNat:Int))),bN .i64 (st.2-1)))
 else none
 else
 some (.inr st.1)
def il (a:List UInt8)(a1:List UInt8)(rA:Int×Int)(eJ:Int×Int):Option ((Int×Int)⊕(Unit⊕Int)):=if (0:Int)<=eJ.2 then
 if (0:Int)<=eJ.2/\eJ.2<(a.length:Int) then
 if (0:Int)<=(bN .i64 (eJ.2+(a1.length:Int)))/\(bN .i64 (eJ.2+(a1.length:Int)))<(a.length:Int) then
 bd (if (bN .u32 ((bN .u32 ((bN .u32 (eJ.1 *16777619))+(bN .u32 ((a.getD (sh eJ.2) 0).toNat:Int))))-(bN .u32 (rA.2 *(bN .u32 ((a.getD (sh (bN .i64 (eJ.2+(a1.length:Int)))) 0).toNat:Int))))))=rA.1 then
  if (0:Int)<=eJ.2/\eJ.2<=(bN .i64 (eJ.2+(a1.length:Int)))/\(bN .i64 (eJ.2+(a1.length:Int)))<=(a.length:Int) then
  some (decide ((AS (sh eJ.2) (AT (sh (bN .i64 (eJ.2+(a1.length:Int)))) a))=a1))
  else none
  else
  some false:Option Bool) λw3=>
 if w3 then
 some (.inr (.inr eJ.2))
 else
 some (.inl (bN .u32 ((bN .u32 ((bN .u32 (eJ.1 *16777619))+(bN .u32 ((a.getD (sh eJ.2) 0).toNat:Int))))-(bN .u32 (rA.2 *(bN .u32 ((a.getD (sh (bN .i64 (eJ.2+(a1.length:Int)))) 0).toNat:Int))))),bN .i64 (eJ.2-1)))
 else none
 else none
 else
 some (.inr (.inl ()))
def eN (a:List UInt8)(a1:List UInt8):Option Int:=bd (jE a1) λrA=>
 bd (Loop (ik a a1) (0,bN .i64 ((a.length:Int)-1))) λw=>
 bd (if w=rA.1 then
  if (0:Int)<=(bN .i64 ((a.length:Int)-(a1.length:Int)))/\(bN .i64 ((a.length:Int)-(a1.length:Int)))<=(a.length:Int)/\(a.length:Int)<=(a.length:Int) then
  some (decide ((AS (sh (bN .i64 ((a.length:Int)-(a1.length:Int)))) (AT (sh (a.length:Int)) a))=a1))
  else none
  else
  some false:Option Bool) λw1=>
 if w1 then
 some (bN .i64 ((a.length:Int)-(a1.length:Int)))
 else
 bd (Loop (il a a1 rA) (w,bN .i64 ((bN .i64 ((a.length:Int)-(a1.length:Int)))-1))) λw2=>
 match w2 with
 | .inl p2=>some (-1)
 | .inr p3=>some p3
def ji (sA:List UInt8)(substr:List UInt8):Option Int:=if (substr.length:Int)=0 then
 some (sA.length:Int)
 else
 if (substr.length:Int)=1 then
 if (0:Int)<=0/\(0:Int)<(substr.length:Int) then
 bd (eu sA ((substr.getD (sh 0) 0).toNat:Int)) λrA=>
 some rA
 else none
 else
 if (substr.length:Int)=(sA.length:Int) then
 if substr=sA then
 some 0
 else
 some (-1)
 else
 if (sA.length:Int)<(substr.length:Int) then
 some (-1)
 else
 bd (eN sA substr) λaY=>
 some aY
def oz (p:List UInt8):Option ((List UInt8)×Int):=bd (kD p) λrA=>
 if !rA then
 some (([]:List UInt8),13)
 else
 if p=([47]:List UInt8) then
 some (([]:List UInt8),6)
 else
 bd (ji p ([47]:List UInt8)) λaY=>
 if (0:Int)<=0/\(0:Int)<=(imax 1 aY)/\(imax 1 aY)<=(p.length:Int) then
 some (AS (sh 0) (AT (sh (imax 1 aY)) p),0)
 else none
def gk (sA:aC)(p:List UInt8):Option (Int×Int):=bd (kD p) λrA=>
 if !rA then
 some (0,13)
 else
 bd (eo sA p) λaY=>
 if !aY.2 then
 some (0,6)
 else
 some (aY.1,0)
def p0 (sA:aC)(p:List UInt8):Option (af×Int):=bd (gk sA p) λrA=>
 if !decide (rA.2=0) then
 some ((⟨([]:List UInt8),([]:List UInt8),0,0⟩:af),rA.2)
 else
 ix sA.L rA.1 λy=>
 some (y,0)
def im (c:List UInt8)(c1:Bool)(c2:aC)(c3:List UInt8)(c4:Int):Option Int:=bd (kD c) λrA=>
 if !rA then
 some 13
 else
 if c1 then
 some 7
 else
 bd (oz c) λaY=>
 bd (p0 c2 aY.1) λda=>
 if !decide (da.2=0) then
 some 6
 else
 if !decide (da.1.dw=0) then
 some 10
 else
 if (1000:Int)<(c3.length:Int) then
 some 5
 else
 if c4<0 then
 some 1
 else
 if (200:Int)<=(c2.L.length:Int) then
 some 9
 else
 some 0
def mE (sA:aC)(p:List UInt8)(value:List UInt8)(owner:Int):Option (aC×Int):=bd (eo sA p) λrA=>
 bd (im p rA.2 sA value owner) λaY=>
 if !decide (aY=0) then
 some (sA,aY)
 else
 bd (kC 48 sA.L) λda=>
 bd (rZ 48 da rA.1 ([(⟨p,value,0,owner⟩:af)]:List af)) λrO=>
 some ((⟨rO⟩:aC),0)
def dy (w:ah)(kind:Int):Option (Unit×ah):=bd (if w.x.E=0 then
  if (w.l.length+([(⟨kind,w.o.Path⟩:aD)]:List aD).length) *24<=2^46 then
  some (w.r.Shelf.L,w.r.ca.iT,w.r.ca.L,w.r.bJ.L,w.r.Seen,w.o.Client,w.o.Seq,w.o.Kind,w.o.Path,w.o.Value,w.o.Version,w.o.Session,w.o.Span,w.x.Client,w.x.Seq,w.x.E,w.x.Value,w.x.Version,w.x.Names,w.l++([(⟨kind,w.o.Path⟩:aD)]:List aD))
  else none
  else
  some (w.r.Shelf.L,w.r.ca.iT,w.r.ca.L,w.r.bJ.L,w.r.Seen,w.o.Client,w.o.Seq,w.o.Kind,w.o.Path,w.o.Value,w.o.Version,w.o.Session,w.o.Span,w.x.Client,w.x.Seq,w.x.E,w.x.Value,w.x.Version,w.x.Names,w.l):Option ((List af)×Int×(List aw)×(List ar)×(List ae)×Int×Int×Int×(List UInt8)×(List UInt8)×Int×Int×Int×Int×Int×Int×(List UInt8)×Int×(List (List UInt8))×(List aD))) λw1=>
 some ((),(⟨(⟨(⟨w1.1⟩:aC),(⟨w1.2.1,w1.2.2.1⟩:aF),(⟨w1.2.2.2.1⟩:bI),w1.2.2.2.2.1⟩:al),(⟨w1.2.2.2.2.2.1,w1.2.2.2.2.2.2.1,w1.2.2.2.2.2.2.2.1,w1.2.2.2.2.2.2.2.2.1,w1.2.2.2.2.2.2.2.2.2.1,w1.2.2.2.2.2.2.2.2.2.2.1,w1.2.2.2.2.2.2.2.2.2.2.2.1,w1.2.2.2.2.2.2.2.2.2.2.2.2.1⟩:aa),(⟨w1.2.2.2.2.2.2.2.2.2.2.2.2.2.1,w1.2.2.2.2.2.2.2.2.2.2.2.2.2.2.1,w1.2.2.2.2.2.2.2.2.2.2.2.2.2.2.2.1,w1.2.2.2.2.2.2.2.2.2.2.2.2.2.2.2.2.1,w1.2.2.2.2.2.2.2.2.2.2.2.2.2.2.2.2.2.1,w1.2.2.2.2.2.2.2.2.2.2.2.2.2.2.2.2.2.2.1⟩:ae),w1.2.2.2.2.2.2.2.2.2.2.2.2.2.2.2.2.2.2.2⟩:ah))
def jj (w:ah):Option (Unit×ah):=bd (if !decide (w.o.Session=0) then
  bd (wD w.r.ca w.o.Session) λrA=>
  some (!rA)
  else
  some false:Option Bool) λw1=>
 if w1 then
 some ((),(⟨w.r,w.o,(⟨w.x.Client,w.x.Seq,14,w.x.Value,w.x.Version,w.x.Names⟩:ae),w.l⟩:ah))
 else
 bd (mE w.r.Shelf w.o.Path w.o.Value w.o.Session) λaY=>
 bd (dy (⟨(⟨aY.1,w.r.ca,w.r.bJ,w.r.Seen⟩:al),w.o,(⟨w.x.Client,w.x.Seq,aY.2,w.x.Value,w.x.Version,w.x.Names⟩:ae),w.l⟩:ah) 1) λda=>
 some ((),da.2)
def lZ (w:ah):Option (Unit×ah):=bd (p0 w.r.Shelf w.o.Path) λrA=>some ((),(⟨w.r,w.o,(⟨w.x.Client,w.x.Seq,rA.2,rA.1.Value,rA.1.Version,w.x.Names⟩:ae),w.l⟩:ah))
def et (sA:aC)(p:List UInt8)(version:Int):Option (Int×Int):=bd (gk sA p) λrA=>
 bd (if rA.2=0 then
  if !decide (version=(-1)) then
  ix sA.L rA.1 λy=>
  some (!decide (version=y.Version))
  else
  some false
  else
  some false:Option Bool) λw=>
 if w then
 some (rA.1,8)
 else
 some (rA.1,rA.2)
def wE (sA:aC)(p:List UInt8)(value:List UInt8)(version:Int):Option (aC×Int):=bd (et sA p version) λrA=>
 if !decide (rA.2=0) then
 some (sA,rA.2)
 else
 if (1000:Int)<(value.length:Int) then
 some (sA,5)
 else
 ix sA.L rA.1 λy=>
 if (1000000000:Int)<=y.Version then
 some (sA,9)
 else
 bd (kC 48 sA.L) λaY=>
 ix aY rA.1 λy1=>
 ix (aY.set (sh rA.1) (⟨y1.Path,value,y1.Version,y1.dw⟩:af)) rA.1 λy2=>
 ix (aY.set (sh rA.1) (⟨y1.Path,value,y1.Version,y1.dw⟩:af)) rA.1 λy3=>
 some ((⟨(aY.set (sh rA.1) (⟨y1.Path,value,y1.Version,y1.dw⟩:af)).set (sh rA.1) (⟨y3.Path,y3.Value,bN .i64 (y2.Version+1),y3.dw⟩:af)⟩:aC),0)
def ma (w:ah):Option (Unit×ah):=bd (wE w.r.Shelf w.o.Path w.o.Value w.o.Version) λrA=>
 bd (dy (⟨(⟨rA.1,w.r.ca,w.r.bJ,w.r.Seen⟩:al),w.o,(⟨w.x.Client,w.x.Seq,rA.2,w.x.Value,w.x.Version,w.x.Names⟩:ae),w.l⟩:ah) 2) λaY=>
 bd (if aY.2.x.E=0 then
  bd (p0 aY.2.r.Shelf aY.2.o.Path) λda=>
  some (aY.2.r.Shelf.L,aY.2.r.ca.iT,aY.2.r.ca.L,aY.2.r.bJ.L,aY.2.r.Seen,aY.2.o.Client,aY.2.o.Seq,aY.2.o.Kind,aY.2.o.Path,aY.2.o.Value,aY.2.o.Version,aY.2.o.Session,aY.2.o.Span,aY.2.x.Client,aY.2.x.Seq,aY.2.x.E,aY.2.x.Value,da.1.Version,aY.2.x.Names,aY.2.l)
  else
  some (aY.2.r.Shelf.L,aY.2.r.ca.iT,aY.2.r.ca.L,aY.2.r.bJ.L,aY.2.r.Seen,aY.2.o.Client,aY.2.o.Seq,aY.2.o.Kind,aY.2.o.Path,aY.2.o.Value,aY.2.o.Version,aY.2.o.Session,aY.2.o.Span,aY.2.x.Client,aY.2.x.Seq,aY.2.x.E,aY.2.x.Value,aY.2.x.Version,aY.2.x.Names,aY.2.l):Option ((List af)×Int×(List aw)×(List ar)×(List ae)×Int×Int×Int×(List UInt8)×(List UInt8)×Int×Int×Int×Int×Int×Int×(List UInt8)×Int×(List (List UInt8))×(List aD))) λw1=>
 some ((),(⟨(⟨(⟨w1.1⟩:aC),(⟨w1.2.1,w1.2.2.1⟩:aF),(⟨w1.2.2.2.1⟩:bI),w1.2.2.2.2.1⟩:al),(⟨w1.2.2.2.2.2.1,w1.2.2.2.2.2.2.1,w1.2.2.2.2.2.2.2.1,w1.2.2.2.2.2.2.2.2.1,w1.2.2.2.2.2.2.2.2.2.1,w1.2.2.2.2.2.2.2.2.2.2.1,w1.2.2.2.2.2.2.2.2.2.2.2.1,w1.2.2.2.2.2.2.2.2.2.2.2.2.1⟩:aa),(⟨w1.2.2.2.2.2.2.2.2.2.2.2.2.2.1,w1.2.2.2.2.2.2.2.2.2.2.2.2.2.2.1,w1.2.2.2.2.2.2.2.2.2.2.2.2.2.2.2.1,w1.2.2.2.2.2.2.2.2.2.2.2.2.2.2.2.2.1,w1.2.2.2.2.2.2.2.2.2.2.2.2.2.2.2.2.2.1,w1.2.2.2.2.2.2.2.2.2.2.2.2.2.2.2.2.2.2.1⟩:ae),w1.2.2.2.2.2.2.2.2.2.2.2.2.2.2.2.2.2.2.2⟩:ah))
def jk (s1:List (List UInt8))(s2:List (List UInt8))(st:Int):Option (Int⊕(Unit⊕Bool)):=if st<(s1.length:Int) then
 ix s1 st λy=>
 ix s2 st λy1=>
 if !decide (y=y1) then
 some (.inr (.inr false))
 else
 some (.inl (bN .i64 (st+1)))
 else
 some (.inr (.inl ()))
def fh (s1:List (List UInt8))(s2:List (List UInt8)):Option Bool:=if !decide ((s1.length:Int)=(s2.length:Int)) then
 some false
 else
 bd (Loop (jk s1 s2) 0) λw=>
 match w with
 | .inl p1=>some true
 | .inr p2=>some p2
def nZ (p:List UInt8)(q:List UInt8):Option Bool:=bd (ig p) λrA=>
 bd (ig q) λaY=>
 bd (if rA.2 then
  if aY.2 then
  if (rA.1.length:Int)<(aY.1.length:Int) then
  if (0:Int)<=0/\(0:Int)<=(rA.1.length:Int)/\(rA.1.length:Int)<=(aY.1.length:Int) then
  bd (fh rA.1 (AS (sh 0) (AT (sh (rA.1.length:Int)) aY.1))) λda=>
  some da
  else none
  else
  some false
  else
  some false
  else
  some false:Option Bool) λw=>
 some w
def o6 (sA:aC)(p:List UInt8)(version:Int):Option (aC×Int):=bd (et sA p version) λrA=>
 if p=([47]:List UInt8) then
 some (sA,13)
 else
 if !decide (rA.2=0) then
 some (sA,rA.2)
 else
 bd (if (bN .i64 (rA.1+1))<(sA.L.length:Int) then
  ix sA.L (bN .i64 (rA.1+1)) λy=>
  bd (nZ p y.Path) λaY=>
  some aY
  else
  some false:Option Bool) λw=>
 if w then
 some (sA,10)
 else
 bd (kC 48 sA.L) λda=>
 bd (AY da rA.1 (bN .i64 (rA.1+1))) λrO=>
 some ((⟨rO⟩:aC),0)
def jm (w:ah):Option (Unit×ah):=bd (o6 w.r.Shelf w.o.Path w.o.Version) λrA=>
 bd (dy (⟨(⟨rA.1,w.r.ca,w.r.bJ,w.r.Seen⟩:al),w.o,(⟨w.x.Client,w.x.Seq,rA.2,w.x.Value,w.x.Version,w.x.Names⟩:ae),w.l⟩:ah) 3) λaY=>
 some ((),aY.2)
def p9 (p:List UInt8):Option ((List (List UInt8))×Int):=bd (ig p) λrA=>
 if !rA.2 then
 some (([]:List (List UInt8)),13)
 else
 some (rA.1,0)
def o7 (a:aC)(a1:List UInt8)(rA:Int×Int)(aY:(List (List UInt8))×Int)(st:(List (List UInt8))×Int):Option (((List (List UInt8))×Int)⊕(List (List UInt8))):=if st.2<((AS (sh (bN .i64 (rA.1+1))) (AT (sh (a.L.length:Int)) a.L)).length:Int) then
 ix (AS (sh (bN .i64 (rA.1+1))) (AT (sh (a.L.length:Int)) a.L)) st.2 λy=>
 bd (nZ a1 y.Path) λda=>
 if !da then
 some (.inr st.1)
 else
 bd (p9 y.Path) λrO=>
 bd (if (rO.1.length:Int)=(bN .i64 ((aY.1.length:Int)+1)) then
  ix rO.1 (aY.1.length:Int) λy1=>
  if (st.1.length+([y1]:List (List UInt8)).length) *16<=2^46 then
  some (st.1++([y1]:List (List UInt8)))
  else none
  else
  some st.1:Option (List (List UInt8))) λw1=>
 some (.inl (w1,bN .i64 (st.2+1)))
 else
 some (.inr st.1)
def s8 (a:aC)(a1:List UInt8):Option ((List (List UInt8))×Int):=bd (gk a a1) λrA=>
 if !decide (rA.2=0) then
 some (([]:List (List UInt8)),rA.2)
 else
 bd (p9 a1) λaY=>
 if (0:Int)<=(bN .i64 (rA.1+1))/\(bN .i64 (rA.1+1))<=(a.L.length:Int)/\(a.L.length:Int)<=(a.L.length:Int) then
 bd (Loop (o7 a a1 rA aY) (([]:List (List UInt8)),0)) λw=>
 some (w,0)
 else none
def kR (w:ah):Option (Unit×ah):=bd (s8 w.r.Shelf w.o.Path) λrA=>some ((),(⟨w.r,w.o,(⟨w.x.Client,w.x.Seq,rA.2,w.x.Value,w.x.Version,rA.1⟩:ae),w.l⟩:ah))
def s9 (b:aF)(id:Int)(span:Int):Option (aF×Int):=bd (ea b id) λrA=>
 bd (if id<1 then
  some true
  else
  if span<1 then
  some true
  else
  some (decide ((1000:Int)<span)):Option Bool) λw=>
 if w then
 some (b,1)
 else
 if rA.2 then
 some (b,7)
 else
 if (50:Int)<=(b.L.length:Int) then
 some (b,9)
 else
 bd (kC 24 b.L) λaY=>
 bd (rZ 24 aY rA.1 ([(⟨id,span,bN .i64 (b.iT+span)⟩:aw)]:List aw)) λda=>
 some ((⟨b.iT,da⟩:aF),0)
def kS (w:ah):Option (Unit×ah):=bd (s9 w.r.ca w.o.Session w.o.Span) λrA=>some ((),(⟨(⟨w.r.Shelf,rA.1,w.r.bJ,w.r.Seen⟩:al),w.o,(⟨w.x.Client,w.x.Seq,rA.2,w.x.Value,w.x.Version,w.x.Names⟩:ae),w.l⟩:ah))
def qP (b:aF)(id:Int):Option (aF×Int):=bd (ea b id) λrA=>
 if !rA.2 then
 some (b,14)
 else
 bd (kC 24 b.L) λaY=>
 ix aY rA.1 λy=>
 ix aY rA.1 λy1=>
 some ((⟨b.iT,aY.set (sh rA.1) (⟨y1.Id,y1.Span,bN .i64 (b.iT+y.Span)⟩:aw)⟩:aF),0)
def j0 (w:ah):Option (Unit×ah):=bd (qP w.r.ca w.o.Session) λrA=>some ((),(⟨(⟨w.r.Shelf,rA.1,w.r.bJ,w.r.Seen⟩:al),w.o,(⟨w.x.Client,w.x.Seq,rA.2,w.x.Value,w.x.Version,w.x.Names⟩:ae),w.l⟩:ah))
def qQ (b:aF)(id:Int):Option (aF×Int):=bd (ea b id) λrA=>
 if !rA.2 then
 some (b,14)
 else
 bd (kC 24 b.L) λaY=>
 bd (AY aY rA.1 (bN .i64 (rA.1+1))) λda=>
 some ((⟨b.iT,da⟩:aF),0)
def o8 (sA:aC)(owner:Int)(st:(List (List UInt8))×(List af)×Int):Option (((List (List UInt8))×(List af)×Int)⊕((List (List UInt8))×(List af))):=if st.2.2<(sA.L.length:Int) then
 ix sA.L st.2.2 λy=>
 bd (if (0:Int)<owner then
  some (decide (y.dw=owner))
  else
  some false:Option Bool) λw1=>
 if w1 then
 if (st.1.length+([y.Path]:List (List UInt8)).length) *16<=2^46 then
 some (.inl (st.1++([y.Path]:List (List UInt8)),st.2.1,bN .i64 (st.2.2+1)))
 else none
 else
 if (st.2.1.length+([y]:List af).length) *48<=2^46 then
 some (.inl (st.1,st.2.1++([y]:List af),bN .i64 (st.2.2+1)))
 else none
 else
 some (.inr (st.1,st.2.1))
def ta (sA:aC)(owner:Int):Option (aC×(List (List UInt8))):=bd (Loop (o8 sA owner) (([]:List (List UInt8)),([]:List af),0)) λw=>some ((⟨w.2⟩:aC),w.1)
def jn (rA:aC×(List (List UInt8)))(st:Int×(List af)×Int×(List aw)×(List ar)×(List ae)×Int×Int×Int×(List UInt8)×(List UInt8)×Int×Int×Int×Int×Int×Int×(List UInt8)×Int×(List (List UInt8))×(List aD)):Option ((Int×(List af)×Int×(List aw)×(List ar)×(List ae)×Int×Int×Int×(List UInt8)×(List UInt8)×Int×Int×Int×Int×Int×Int×(List UInt8)×Int×(List (List UInt8))×(List aD))⊕((List af)×Int×(List aw)×(List ar)×(List ae)×Int×Int×Int×(List UInt8)×(List UInt8)×Int×Int×Int×Int×Int×Int×(List UInt8)×Int×(List (List UInt8))×(List aD))):=if st.1<(rA.2.length:Int) then
 ix rA.2 st.1 λy=>
 if (st.2.2.2.2.2.2.2.2.2.2.2.2.2.2.2.2.2.2.2.2.length+([(⟨3,y⟩:aD)]:List aD).length) *24<=2^46 then
 some (.inl (bN .i64 (st.1+1),st.2.1,st.2.2.1,st.2.2.2.1,st.2.2.2.2.1,st.2.2.2.2.2.1,st.2.2.2.2.2.2.1,st.2.2.2.2.2.2.2.1,st.2.2.2.2.2.2.2.2.1,st.2.2.2.2.2.2.2.2.2.1,st.2.2.2.2.2.2.2.2.2.2.1,st.2.2.2.2.2.2.2.2.2.2.2.1,st.2.2.2.2.2.2.2.2.2.2.2.2.1,st.2.2.2.2.2.2.2.2.2.2.2.2.2.1,st.2.2.2.2.2.2.2.2.2.2.2.2.2.2.1,st.2.2.2.2.2.2.2.2.2.2.2.2.2.2.2.1,st.2.2.2.2.2.2.2.2.2.2.2.2.2.2.2.2.1,st.2.2.2.2.2.2.2.2.2.2.2.2.2.2.2.2.2.1,st.2.2.2.2.2.2.2.2.2.2.2.2.2.2.2.2.2.2.1,st.2.2.2.2.2.2.2.2.2.2.2.2.2.2.2.2.2.2.2.1,st.2.2.2.2.2.2.2.2.2.2.2.2.2.2.2.2.2.2.2.2++([(⟨3,y⟩:aD)]:List aD)))
 else none
 else
 some (.inr (st.2.1,st.2.2.1,st.2.2.2.1,st.2.2.2.2.1,st.2.2.2.2.2.1,st.2.2.2.2.2.2.1,st.2.2.2.2.2.2.2.1,st.2.2.2.2.2.2.2.2.1,st.2.2.2.2.2.2.2.2.2.1,st.2.2.2.2.2.2.2.2.2.2.1,st.2.2.2.2.2.2.2.2.2.2.2.1,st.2.2.2.2.2.2.2.2.2.2.2.2.1,st.2.2.2.2.2.2.2.2.2.2.2.2.2.1,st.2.2.2.2.2.2.2.2.2.2.2.2.2.2.1,st.2.2.2.2.2.2.2.2.2.2.2.2.2.2.2.1,st.2.2.2.2.2.2.2.2.2.2.2.2.2.2.2.2.1,st.2.2.2.2.2.2.2.2.2.2.2.2.2.2.2.2.2.1,st.2.2.2.2.2.2.2.2.2.2.2.2.2.2.2.2.2.2.1,st.2.2.2.2.2.2.2.2.2.2.2.2.2.2.2.2.2.2.2.1,st.2.2.2.2.2.2.2.2.2.2.2.2.2.2.2.2.2.2.2.2))
def iW (w:ah)(id:Int):Option (Unit×ah):=bd (ta w.r.Shelf id) λrA=>
 bd (Loop (jn rA) (0,rA.1.L,w.r.ca.iT,w.r.ca.L,w.r.bJ.L,w.r.Seen,w.o.Client,w.o.Seq,w.o.Kind,w.o.Path,w.o.Value,w.o.Version,w.o.Session,w.o.Span,w.x.Client,w.x.Seq,w.x.E,w.x.Value,w.x.Version,w.x.Names,w.l)) λw1=>
 some ((),(⟨(⟨(⟨w1.1⟩:aC),(⟨w1.2.1,w1.2.2.1⟩:aF),(⟨w1.2.2.2.1⟩:bI),w1.2.2.2.2.1⟩:al),(⟨w1.2.2.2.2.2.1,w1.2.2.2.2.2.2.1,w1.2.2.2.2.2.2.2.1,w1.2.2.2.2.2.2.2.2.1,w1.2.2.2.2.2.2.2.2.2.1,w1.2.2.2.2.2.2.2.2.2.2.1,w1.2.2.2.2.2.2.2.2.2.2.2.1,w1.2.2.2.2.2.2.2.2.2.2.2.2.1⟩:aa),(⟨w1.2.2.2.2.2.2.2.2.2.2.2.2.2.1,w1.2.2.2.2.2.2.2.2.2.2.2.2.2.2.1,w1.2.2.2.2.2.2.2.2.2.2.2.2.2.2.2.1,w1.2.2.2.2.2.2.2.2.2.2.2.2.2.2.2.2.1,w1.2.2.2.2.2.2.2.2.2.2.2.2.2.2.2.2.2.1,w1.2.2.2.2.2.2.2.2.2.2.2.2.2.2.2.2.2.2.1⟩:ae),w1.2.2.2.2.2.2.2.2.2.2.2.2.2.2.2.2.2.2.2⟩:ah))
def j6 (w:ah):Option (Unit×ah):=bd (qQ w.r.ca w.o.Session) λrA=>
 bd (if rA.2=0 then
  bd (iW (⟨(⟨w.r.Shelf,rA.1,w.r.bJ,w.r.Seen⟩:al),w.o,(⟨w.x.Client,w.x.Seq,rA.2,w.x.Value,w.x.Version,w.x.Names⟩:ae),w.l⟩:ah) w.o.Session) λaY=>
  some (aY.2.r.Shelf.L,aY.2.r.ca.iT,aY.2.r.ca.L,aY.2.r.bJ.L,aY.2.r.Seen,aY.2.o.Client,aY.2.o.Seq,aY.2.o.Kind,aY.2.o.Path,aY.2.o.Value,aY.2.o.Version,aY.2.o.Session,aY.2.o.Span,aY.2.x.Client,aY.2.x.Seq,aY.2.x.E,aY.2.x.Value,aY.2.x.Version,aY.2.x.Names,aY.2.l)
  else
  some (w.r.Shelf.L,rA.1.iT,rA.1.L,w.r.bJ.L,w.r.Seen,w.o.Client,w.o.Seq,w.o.Kind,w.o.Path,w.o.Value,w.o.Version,w.o.Session,w.o.Span,w.x.Client,w.x.Seq,rA.2,w.x.Value,w.x.Version,w.x.Names,w.l):Option ((List af)×Int×(List aw)×(List ar)×(List ae)×Int×Int×Int×(List UInt8)×(List UInt8)×Int×Int×Int×Int×Int×Int×(List UInt8)×Int×(List (List UInt8))×(List aD))) λw1=>
 some ((),(⟨(⟨(⟨w1.1⟩:aC),(⟨w1.2.1,w1.2.2.1⟩:aF),(⟨w1.2.2.2.1⟩:bI),w1.2.2.2.2.1⟩:al),(⟨w1.2.2.2.2.2.1,w1.2.2.2.2.2.2.1,w1.2.2.2.2.2.2.2.1,w1.2.2.2.2.2.2.2.2.1,w1.2.2.2.2.2.2.2.2.2.1,w1.2.2.2.2.2.2.2.2.2.2.1,w1.2.2.2.2.2.2.2.2.2.2.2.1,w1.2.2.2.2.2.2.2.2.2.2.2.2.1⟩:aa),(⟨w1.2.2.2.2.2.2.2.2.2.2.2.2.2.1,w1.2.2.2.2.2.2.2.2.2.2.2.2.2.2.1,w1.2.2.2.2.2.2.2.2.2.2.2.2.2.2.2.1,w1.2.2.2.2.2.2.2.2.2.2.2.2.2.2.2.2.1,w1.2.2.2.2.2.2.2.2.2.2.2.2.2.2.2.2.2.1,w1.2.2.2.2.2.2.2.2.2.2.2.2.2.2.2.2.2.2.1⟩:ae),w1.2.2.2.2.2.2.2.2.2.2.2.2.2.2.2.2.2.2.2⟩:ah))
def o9 (b:aF)(now:Int)(st:(List Int)×Int×(List aw)×Int):Option (((List Int)×Int×(List aw)×Int)⊕((List Int)×Int×(List aw))):=if st.2.2.2<(b.L.length:Int) then
 ix b.L st.2.2.2 λy=>
 if y.lz<=now then
 if (st.1.length+([y.Id]:List Int).length) *8<=2^46 then
 some (.inl (st.1++([y.Id]:List Int),st.2.1,st.2.2.1,bN .i64 (st.2.2.2+1)))
 else none
 else
 if (st.2.2.1.length+([y]:List aw).length) *24<=2^46 then
 some (.inl (st.1,st.2.1,st.2.2.1++([y]:List aw),bN .i64 (st.2.2.2+1)))
 else none
 else
 some (.inr (st.1,st.2.1,st.2.2.1))
def tc (b:aF)(now:Int):Option (aF×(List Int)×Int):=if now<b.iT then
 some (b,([]:List Int),15)
 else
 if (1000000000:Int)<now then
 some (b,([]:List Int),5)
 else
 bd (Loop (o9 b now) (([]:List Int),now,([]:List aw),0)) λw=>
 some ((⟨w.2.1,w.2.2⟩:aF),w.1,0)
def jo (rA:aF×(List Int)×Int)(st:Int×(List af)×Int×(List aw)×(List ar)×(List ae)×Int×Int×Int×(List UInt8)×(List UInt8)×Int×Int×Int×Int×Int×Int×(List UInt8)×Int×(List (List UInt8))×(List aD)):Option ((Int×(List af)×Int×(List aw)×(List ar)×(List ae)×Int×Int×Int×(List UInt8)×(List UInt8)×Int×Int×Int×Int×Int×Int×(List UInt8)×Int×(List (List UInt8))×(List aD))⊕((List af)×Int×(List aw)×(List ar)×(List ae)×Int×Int×Int×(List UInt8)×(List UInt8)×Int×Int×Int×Int×Int×Int×(List UInt8)×Int×(List (List UInt8))×(List aD))):=if st.1<(rA.2.1.length:Int) then
 ix rA.2.1 st.1 λy=>
 bd (iW (⟨(⟨(⟨st.2.1⟩:aC),(⟨st.2.2.1,st.2.2.2.1⟩:aF),(⟨st.2.2.2.2.1⟩:bI),st.2.2.2.2.2.1⟩:al),(⟨st.2.2.2.2.2.2.1,st.2.2.2.2.2.2.2.1,st.2.2.2.2.2.2.2.2.1,st.2.2.2.2.2.2.2.2.2.1,st.2.2.2.2.2.2.2.2.2.2.1,st.2.2.2.2.2.2.2.2.2.2.2.1,st.2.2.2.2.2.2.2.2.2.2.2.2.1,st.2.2.2.2.2.2.2.2.2.2.2.2.2.1⟩:aa),(⟨st.2.2.2.2.2.2.2.2.2.2.2.2.2.2.1,st.2.2.2.2.2.2.2.2.2.2.2.2.2.2.2.1,st.2.2.2.2.2.2.2.2.2.2.2.2.2.2.2.2.1,st.2.2.2.2.2.2.2.2.2.2.2.2.2.2.2.2.2.1,st.2.2.2.2.2.2.2.2.2.2.2.2.2.2.2.2.2.2.1,st.2.2.2.2.2.2.2.2.2.2.2.2.2.2.2.2.2.2.2.1⟩:ae),st.2.2.2.2.2.2.2.2.2.2.2.2.2.2.2.2.2.2.2.2⟩:ah) y) λaY=>
 some (.inl (bN .i64 (st.1+1),aY.2.r.Shelf.L,aY.2.r.ca.iT,aY.2.r.ca.L,aY.2.r.bJ.L,aY.2.r.Seen,aY.2.o.Client,aY.2.o.Seq,aY.2.o.Kind,aY.2.o.Path,aY.2.o.Value,aY.2.o.Version,aY.2.o.Session,aY.2.o.Span,aY.2.x.Client,aY.2.x.Seq,aY.2.x.E,aY.2.x.Value,aY.2.x.Version,aY.2.x.Names,aY.2.l))
 else
 some (.inr (st.2.1,st.2.2.1,st.2.2.2.1,st.2.2.2.2.1,st.2.2.2.2.2.1,st.2.2.2.2.2.2.1,st.2.2.2.2.2.2.2.1,st.2.2.2.2.2.2.2.2.1,st.2.2.2.2.2.2.2.2.2.1,st.2.2.2.2.2.2.2.2.2.2.1,st.2.2.2.2.2.2.2.2.2.2.2.1,st.2.2.2.2.2.2.2.2.2.2.2.2.1,st.2.2.2.2.2.2.2.2.2.2.2.2.2.1,st.2.2.2.2.2.2.2.2.2.2.2.2.2.2.1,st.2.2.2.2.2.2.2.2.2.2.2.2.2.2.2.1,st.2.2.2.2.2.2.2.2.2.2.2.2.2.2.2.2.1,st.2.2.2.2.2.2.2.2.2.2.2.2.2.2.2.2.2.1,st.2.2.2.2.2.2.2.2.2.2.2.2.2.2.2.2.2.2.1,st.2.2.2.2.2.2.2.2.2.2.2.2.2.2.2.2.2.2.2.1,st.2.2.2.2.2.2.2.2.2.2.2.2.2.2.2.2.2.2.2.2))
def kT (w:ah):Option (Unit×ah):=bd (tc w.r.ca w.o.Span) λrA=>
 if !decide (rA.2.2=0) then
 some ((),(⟨w.r,w.o,(⟨w.x.Client,w.x.Seq,rA.2.2,w.x.Value,w.x.Version,w.x.Names⟩:ae),w.l⟩:ah))
 else
 bd (Loop (jo rA) (0,w.r.Shelf.L,rA.1.iT,rA.1.L,w.r.bJ.L,w.r.Seen,w.o.Client,w.o.Seq,w.o.Kind,w.o.Path,w.o.Value,w.o.Version,w.o.Session,w.o.Span,w.x.Client,w.x.Seq,rA.2.2,w.x.Value,rA.1.iT,w.x.Names,w.l)) λw1=>
 some ((),(⟨(⟨(⟨w1.1⟩:aC),(⟨w1.2.1,w1.2.2.1⟩:aF),(⟨w1.2.2.2.1⟩:bI),w1.2.2.2.2.1⟩:al),(⟨w1.2.2.2.2.2.1,w1.2.2.2.2.2.2.1,w1.2.2.2.2.2.2.2.1,w1.2.2.2.2.2.2.2.2.1,w1.2.2.2.2.2.2.2.2.2.1,w1.2.2.2.2.2.2.2.2.2.2.1,w1.2.2.2.2.2.2.2.2.2.2.2.1,w1.2.2.2.2.2.2.2.2.2.2.2.2.1⟩:aa),(⟨w1.2.2.2.2.2.2.2.2.2.2.2.2.2.1,w1.2.2.2.2.2.2.2.2.2.2.2.2.2.2.1,w1.2.2.2.2.2.2.2.2.2.2.2.2.2.2.2.1,w1.2.2.2.2.2.2.2.2.2.2.2.2.2.2.2.2.1,w1.2.2.2.2.2.2.2.2.2.2.2.2.2.2.2.2.2.1,w1.2.2.2.2.2.2.2.2.2.2.2.2.2.2.2.2.2.2.1⟩:ae),w1.2.2.2.2.2.2.2.2.2.2.2.2.2.2.2.2.2.2.2⟩:ah))
def dV (sA:List ar)(v:ar)(st:Int):Option (Int⊕(Unit⊕Int)):=if st<(sA.length:Int) then
 ix sA st λy=>
 if ((decide (v.Path=y.Path))&&((decide (v.Client=y.Client))&&(decide (v.Kids=y.Kids)))) then
 some (.inr (.inr st))
 else
 some (.inl (bN .i64 (st+1)))
 else
 some (.inr (.inl ()))
def gD (sA:List ar)(v:ar):Option Int:=bd (Loop (dV sA v) 0) λw=>
 match w with
 | .inl p1=>some (-1)
 | .inr p2=>some p2
def dG (sA:List ar)(v:ar):Option Bool:=bd (gD sA v) λrA=>some (decide ((0:Int)<=rA))
def sB (t:bI)(w:ar):Option (bI×Int):=bd (kD w.Path) λrA=>
 if !rA then
 some (t,13)
 else
 if w.Client<0 then
 some (t,1)
 else
 bd (dG t.L w) λaY=>
 if aY then
 some (t,0)
 else
 if (200:Int)<=(t.L.length:Int) then
 some (t,9)
 else
 bd (kC 32 t.L) λda=>
 if (da.length+([w]:List ar).length) *32<=2^46 then
 some ((⟨da++([w]:List ar)⟩:bI),0)
 else none
def j7 (w:ah):Option (Unit×ah):=bd (sB w.r.bJ (⟨w.o.Path,w.o.Client,decide (w.o.Kind=11)⟩:ar)) λrA=>some ((),(⟨(⟨w.r.Shelf,w.r.ca,rA.1,w.r.Seen⟩:al),w.o,(⟨w.x.Client,w.x.Seq,rA.2,w.x.Value,w.x.Version,w.x.Names⟩:ae),w.l⟩:ah))
def td:Option (List Nat):=some ([(105:Nat),(106:Nat),(107:Nat),(108:Nat),(109:Nat),(110:Nat),(111:Nat),(112:Nat),(113:Nat),(114:Nat),(115:Nat),(115:Nat)]:List Nat)
def nt (c:aD)(w:ar):Option Bool:=bd (if c.Kind<1 then
  some true
  else
  if (3:Int)<c.Kind then
  some true
  else
  bd (kD c.Path) λrA=>
  some (!rA):Option Bool) λw1=>
 if w1 then
 some false
 else
 if !w.Kids then
 some (decide (c.Path=w.Path))
 else
 bd (oz c.Path) λaY=>
 bd (if aY.2=0 then
  if !decide (c.Kind=2) then
  some (decide (aY.1=w.Path))
  else
  some false
  else
  some false:Option Bool) λw2=>
 some w2
def mF (w:ar)(c:aD)(c1:List a7):Option (Bool×(List a7)):=bd (nt c w) λrA=>
 bd (if rA then
  if (c1.length+([(⟨w,c⟩:a7)]:List a7).length) *56<=2^46 then
  some (c1++([(⟨w,c⟩:a7)]:List a7))
  else none
  else
  some c1:Option (List a7)) λw1=>
 some (rA,w1)
def pa (lA:List aD)(st:(List ar)×(List a7)×Int):Option (((List ar)×(List a7)×Int)⊕((List ar)×(List a7))):=if st.2.2<(lA.length:Int) then
 ix lA st.2.2 λy=>
 bd (Dh (λu sA=>mF u y sA) st.2.1 st.1) λaY=>
 some (.inl (aY.1,aY.2,bN .i64 (st.2.2+1)))
 else
 some (.inr (st.1,st.2.1))
def th (t:bI)(lA:List aD):Option (bI×(List a7)):=bd (kC 32 t.L) λrA=>
 bd (Loop (pa lA) (rA,([]:List a7),0)) λw=>
 some ((⟨w.1⟩:bI),w.2)
def nu (k:Nat)(x0:ah):Option (Unit×ah):=if k=105 then nY x0 else if k=106 then jj x0 else if k=107 then lZ x0 else if k=108 then ma x0 else if k=109 then jm x0 else if k=110 then kR x0 else if k=111 then kS x0 else if k=112 then j0 x0 else if k=113 then j6 x0 else if k=114 then kT x0 else if k=115 then j7 x0 else none
def qR (a:al)(a1:aa):Option (al×ae×(List a7)):=bd (jZ a a1) λrA=>
 if rA.2 then
 some (a,rA.1,([]:List a7))
 else
 bd (td) λaY=>
 ix aY a1.Kind λy=>
 bd (nu y (⟨a,a1,rA.1,([]:List aD)⟩:ah)) λda=>
 bd (th da.2.r.bJ da.2.l) λrO=>
 bd (kC 72 a.Seen) λFL=>
 bd (fg a a1.Client) λxH=>
 bd (if xH.2 then
  ix FL xH.1 λy1=>
  some (da.2.r.Shelf.L,da.2.r.ca.iT,da.2.r.ca.L,rO.1.L,FL.set (sh xH.1) da.2.x,da.2.o.Client,da.2.o.Seq,da.2.o.Kind,da.2.o.Path,da.2.o.Value,da.2.o.Version,da.2.o.Session,da.2.o.Span,da.2.x.Client,da.2.x.Seq,da.2.x.E,da.2.x.Value,da.2.x.Version,da.2.x.Names,da.2.l)
  else
  bd (rZ 72 FL xH.1 ([da.2.x]:List ae)) λGj=>
  some (da.2.r.Shelf.L,da.2.r.ca.iT,da.2.r.ca.L,rO.1.L,Gj,da.2.o.Client,da.2.o.Seq,da.2.o.Kind,da.2.o.Path,da.2.o.Value,da.2.o.Version,da.2.o.Session,da.2.o.Span,da.2.x.Client,da.2.x.Seq,da.2.x.E,da.2.x.Value,da.2.x.Version,da.2.x.Names,da.2.l):Option ((List af)×Int×(List aw)×(List ar)×(List ae)×Int×Int×Int×(List UInt8)×(List UInt8)×Int×Int×Int×Int×Int×Int×(List UInt8)×Int×(List (List UInt8))×(List aD))) λw=>
 some ((⟨(⟨w.1⟩:aC),(⟨w.2.1,w.2.2.1⟩:aF),(⟨w.2.2.2.1⟩:bI),w.2.2.2.2.1⟩:al),(⟨w.2.2.2.2.2.2.2.2.2.2.2.2.2.1,w.2.2.2.2.2.2.2.2.2.2.2.2.2.2.1,w.2.2.2.2.2.2.2.2.2.2.2.2.2.2.2.1,w.2.2.2.2.2.2.2.2.2.2.2.2.2.2.2.2.1,w.2.2.2.2.2.2.2.2.2.2.2.2.2.2.2.2.2.1,w.2.2.2.2.2.2.2.2.2.2.2.2.2.2.2.2.2.2.1⟩:ae),rO.2)
def Ez:Option aC:=some (⟨([(⟨([47]:List UInt8),([]:List UInt8),0,0⟩:af)]:List af)⟩:aC)
def EA:Option aF:=some (⟨0,([]:List aw)⟩:aF)
def wF:Option al:=bd (Ez) λrA=>
 bd (EA) λaY=>
 some (⟨rA,aY,(⟨([]:List ar)⟩:bI),([]:List ae)⟩:al)
def fW (s1:List af)(s2:List af)(st:Int):Option (Int⊕(Unit⊕Bool)):=if st<(s1.length:Int) then
 ix s1 st λy=>
 ix s2 st λy1=>
 if !((decide (y.Path=y1.Path))&&((decide (y.Value=y1.Value))&&((decide (y.Version=y1.Version))&&(decide (y.dw=y1.dw))))) then
 some (.inr (.inr false))
 else
 some (.inl (bN .i64 (st+1)))
 else
 some (.inr (.inl ()))
def iC (s1:List af)(s2:List af):Option Bool:=if !decide ((s1.length:Int)=(s2.length:Int)) then
 some false
 else
 bd (Loop (fW s1 s2) 0) λw=>
 match w with
 | .inl p1=>some true
 | .inr p2=>some p2
def tj (a:aC)(b:aC):Option Bool:=bd (iC a.L b.L) λrA=>some rA
def dz (s1:List aw)(s2:List aw)(st:Int):Option (Int⊕(Unit⊕Bool)):=if st<(s1.length:Int) then
 ix s1 st λy=>
 ix s2 st λy1=>
 if !((decide (y.Id=y1.Id))&&((decide (y.Span=y1.Span))&&(decide (y.lz=y1.lz)))) then
 some (.inr (.inr false))
 else
 some (.inl (bN .i64 (st+1)))
 else
 some (.inr (.inl ()))
def dW (s1:List aw)(s2:List aw):Option Bool:=if !decide ((s1.length:Int)=(s2.length:Int)) then
 some false
 else
 bd (Loop (dz s1 s2) 0) λw=>
 match w with
 | .inl p1=>some true
 | .inr p2=>some p2
def tk (a:aF)(b:aF):Option Bool:=bd (if a.iT=b.iT then
  bd (dW a.L b.L) λrA=>
  some rA
  else
  some false:Option Bool) λw=>
 some w
def dX (s1:List ar)(s2:List ar)(st:Int):Option (Int⊕(Unit⊕Bool)):=if st<(s1.length:Int) then
 ix s1 st λy=>
 ix s2 st λy1=>
 if !((decide (y.Path=y1.Path))&&((decide (y.Client=y1.Client))&&(decide (y.Kids=y1.Kids)))) then
 some (.inr (.inr false))
 else
 some (.inl (bN .i64 (st+1)))
 else
 some (.inr (.inl ()))
def eO (s1:List ar)(s2:List ar):Option Bool:=if !decide ((s1.length:Int)=(s2.length:Int)) then
 some false
 else
 bd (Loop (dX s1 s2) 0) λw=>
 match w with
 | .inl p1=>some true
 | .inr p2=>some p2
def tl (a:bI)(b:bI):Option Bool:=bd (eO a.L b.L) λrA=>some rA
def mb (a:ae)(b:ae):Option Bool:=bd (if a.Client=b.Client then
  if a.Seq=b.Seq then
  if a.E=b.E then
  if a.Value=b.Value then
  if a.Version=b.Version then
  bd (fh a.Names b.Names) λrA=>
  some rA
  else
  some false
  else
  some false
  else
  some false
  else
  some false
  else
  some false:Option Bool) λw=>
 some w
def bw (s1:List ae)(s2:List ae)(eq:ae->ae->Option Bool)(st:Int):Option (Int⊕(Unit⊕Bool)):=if st<(s1.length:Int) then
 ix s1 st λy=>
 ix s2 st λy1=>
 bd (eq y y1) λrA=>
 if !rA then
 some (.inr (.inr false))
 else
 some (.inl (bN .i64 (st+1)))
 else
 some (.inr (.inl ()))
def bA (s1:List ae)(s2:List ae)(eq:ae->ae->Option Bool):Option Bool:=if !decide ((s1.length:Int)=(s2.length:Int)) then
 some false
 else
 bd (Loop (bw s1 s2 eq) 0) λw=>
 match w with
 | .inl p1=>some true
 | .inr p2=>some p2
def tp (a:al)(b:al):Option Bool:=bd (bd (tj a.Shelf b.Shelf) λrA=>
  if rA then
  bd (tk a.ca b.ca) λaY=>
  if aY then
  bd (tl a.bJ b.bJ) λda=>
  if da then
  bd (bA a.Seen b.Seen mb) λrO=>
  some rO
  else
  some false
  else
  some false
  else
  some false:Option Bool) λw=>
 some w
def pc (lA:List aa)(st:(List af)×Int×(List aw)×(List ar)×(List ae)×(List ae)×(List a7)×Int):Option (((List af)×Int×(List aw)×(List ar)×(List ae)×(List ae)×(List a7)×Int)⊕((List af)×Int×(List aw)×(List ar)×(List ae)×(List ae)×(List a7))):=if st.2.2.2.2.2.2.2<(lA.length:Int) then
 ix lA st.2.2.2.2.2.2.2 λy=>
 bd (qR (⟨(⟨st.1⟩:aC),(⟨st.2.1,st.2.2.1⟩:aF),(⟨st.2.2.2.1⟩:bI),st.2.2.2.2.1⟩:al) y) λGj=>
 if (st.2.2.2.2.2.1.length+([Gj.2.1]:List ae).length) *72<=2^46 then
 if (st.2.2.2.2.2.2.1.length+Gj.2.2.length) *56<=2^46 then
 some (.inl (Gj.1.Shelf.L,Gj.1.ca.iT,Gj.1.ca.L,Gj.1.bJ.L,Gj.1.Seen,st.2.2.2.2.2.1++([Gj.2.1]:List ae),st.2.2.2.2.2.2.1++Gj.2.2,bN .i64 (st.2.2.2.2.2.2.2+1)))
 else none
 else none
 else
 some (.inr (st.1,st.2.1,st.2.2.1,st.2.2.2.1,st.2.2.2.2.1,st.2.2.2.2.2.1,st.2.2.2.2.2.2.1))
def qd (rA:al)(lA:List aa):Option (al×(List ae)×(List a7)):=bd (Loop (pc lA) (rA.Shelf.L,rA.ca.iT,rA.ca.L,rA.bJ.L,rA.Seen,([]:List ae),([]:List a7),0)) λw=>some ((⟨(⟨w.1⟩:aC),(⟨w.2.1,w.2.2.1⟩:aF),(⟨w.2.2.2.1⟩:bI),w.2.2.2.2.1⟩:al),w.2.2.2.2.2.1,w.2.2.2.2.2.2)
def Ac (lA:List aa)(st:Int):Option (Int⊕(Unit⊕Bool)):=if st<(lA.length:Int) then
 bd (if st=30 then
  some true
  else
  ix lA st λy=>
  if (200:Int)<(y.Path.length:Int) then
  some true
  else
  ix lA st λy1=>
  some (decide ((1100:Int)<(y1.Value.length:Int))):Option Bool) λw1=>
 if w1 then
 some (.inr (.inr false))
 else
 some (.inl (bN .i64 (st+1)))
 else
 some (.inr (.inl ()))
def sC (lA:List aa):Option Bool:=bd (Loop (Ac lA) 0) λw=>
 match w with
 | .inl p1=>some true
 | .inr p2=>some p2
def xI (x:Int):Option Int:=bd (if (4294967296:Int)<=x then
  if (0:Int)<=32 then
  some (By x (2^min (sh 32) (AI .u64)),32)
  else none
  else
  some (x,0):Option (Int×Int)) λw=>
 bd (if (65536:Int)<=w.1 then
  if (0:Int)<=16 then
  some (By w.1 (2^min (sh 16) (AI .u64)),bN .i64 (w.2+16))
  else none
  else
  some (w.1,w.2):Option (Int×Int)) λw1=>
 bd (if (256:Int)<=w1.1 then
  if (0:Int)<=8 then
  some (By w1.1 (2^min (sh 8) (AI .u64)),bN .i64 (w1.2+8))
  else none
  else
  some (w1.1,w1.2):Option (Int×Int)) λw2=>
 if (0:Int)<=(bN .u8 w2.1)/\(bN .u8 w2.1)<(((([0,1,2,2,3,3,3,3,4,4,4,4,4,4,4,4,5,5,5,5,5,5,5,5,5,5,5,5,5,5,5,5,6,6,6,6,6,6,6,6,6,6,6,6,6,6,6,6,6,6,6,6,6,6,6,6,6,6,6,6,6,6,6,6]:List UInt8)++([7,7,7,7,7,7,7,7,7,7,7,7,7,7,7,7,7,7,7,7,7,7,7,7,7,7,7,7,7,7,7,7,7,7,7,7,7,7,7,7,7,7,7,7,7,7,7,7,7,7,7,7,7,7,7,7,7,7,7,7,7,7,7,7]:List UInt8))++(([8,8,8,8,8,8,8,8,8,8,8,8,8,8,8,8,8,8,8,8,8,8,8,8,8,8,8,8,8,8,8,8,8,8,8,8,8,8,8,8,8,8,8,8,8,8,8,8,8,8,8,8,8,8,8,8,8,8,8,8,8,8,8,8]:List UInt8)++([8,8,8,8,8,8,8,8,8,8,8,8,8,8,8,8,8,8,8,8,8,8,8,8,8,8,8,8,8,8,8,8,8,8,8,8,8,8,8,8,8,8,8,8,8,8,8,8,8,8,8,8,8,8,8,8,8,8,8,8,8,8,8,8]:List UInt8))).length:Int) then
 some (bN .i64 (w2.2+(bN .i64 ((((([0,1,2,2,3,3,3,3,4,4,4,4,4,4,4,4,5,5,5,5,5,5,5,5,5,5,5,5,5,5,5,5,6,6,6,6,6,6,6,6,6,6,6,6,6,6,6,6,6,6,6,6,6,6,6,6,6,6,6,6,6,6,6,6]:List UInt8)++([7,7,7,7,7,7,7,7,7,7,7,7,7,7,7,7,7,7,7,7,7,7,7,7,7,7,7,7,7,7,7,7,7,7,7,7,7,7,7,7,7,7,7,7,7,7,7,7,7,7,7,7,7,7,7,7,7,7,7,7,7,7,7,7]:List UInt8))++(([8,8,8,8,8,8,8,8,8,8,8,8,8,8,8,8,8,8,8,8,8,8,8,8,8,8,8,8,8,8,8,8,8,8,8,8,8,8,8,8,8,8,8,8,8,8,8,8,8,8,8,8,8,8,8,8,8,8,8,8,8,8,8,8]:List UInt8)++([8,8,8,8,8,8,8,8,8,8,8,8,8,8,8,8,8,8,8,8,8,8,8,8,8,8,8,8,8,8,8,8,8,8,8,8,8,8,8,8,8,8,8,8,8,8,8,8,8,8,8,8,8,8,8,8,8,8,8,8,8,8,8,8]:List UInt8))).getD (sh (bN .u8 w2.1)) 0).toNat:Int))))
 else none
def tq (n:Int):Option Int:=bd (xI n) λrA=>
 if !decide ((8:Int)=0) then
 some (bN .i64 (1+(bN .i64 (Int.tdiv (bN .i64 (rA+7)) 8))))
 else none
def nI (sA:List Int):Option (List Int):=if (sA.length:Int)=(sA.length:Int)/\(sA.length:Int)=(sA.length:Int) then
 some sA
 else none
def qS (n:Int)(st:(List Int)×Int):Option (((List Int)×Int)⊕(List Int)):=if (0:Int)<=st.2 then
 if (0:Int)<=(bN .i64 (8 *st.2)) then
 if (st.1.length+([bN .u8 (By n (2^min (sh (bN .i64 (8 *st.2))) (AI .u64)))]:List Int).length) *1<=2^46 then
 some (.inl (st.1++([bN .u8 (By n (2^min (sh (bN .i64 (8 *st.2))) (AI .u64)))]:List Int),bN .i64 (st.2-1)))
 else none
 else none
 else
 some (.inr st.1)
def qe (b:List Int)(n:Int):Option (List Int):=bd (tq n) λrA=>
 bd (nI b) λaY=>
 if 0<([bN .u8 (bN .i64 (rA-1))]:List Int).length/\(aY.length+([bN .u8 (bN .i64 (rA-1))]:List Int).length) *1<=2^46 then
 bd (Loop (qS n) (aY++([bN .u8 (bN .i64 (rA-1))]:List Int),bN .i64 ((bN .i64 (rA-1))-1))) λw=>
 some w
 else none
def qf (b:List Int)(sA:List UInt8):Option (List Int):=bd (qe b (bN .u64 (sA.length:Int))) λrA=>
 if (rA.length+(wC sA).length) *1<=2^46 then
 some (rA++(wC sA))
 else none
def wG (b:List Int)(n:Int):Option (List Int):=if (0:Int)<=1 then
 if (0:Int)<=63 then
 bd (qe b (D8 .u64 (bN .u64 ((bN .u64 n) *2^min (sh 1) (AI .u64))) (bN .u64 (By n (2^min (sh 63) (AI .i64)))))) λrA=>
 some rA
 else none
 else none
def r9 (lA:List Int)(st:(List Int)×Int):Option (((List Int)×Int)⊕(List Int)):=if st.2<(lA.length:Int) then
 ix lA st.2 λy=>
 bd (wG st.1 y) λrA=>
 some (.inl (rA,bN .i64 (st.2+1)))
 else
 some (.inr st.1)
def tt (b:List Int)(lA:List Int):Option (List Int):=bd (Loop (r9 lA) (b,0)) λw=>some w
def wH (b:List Int)(o:aa):Option (List Int):=bd (tt b ([o.Client,o.Seq,o.Kind,o.Version,o.Session,o.Span]:List Int)) λrA=>
 bd (qf rA o.Path) λaY=>
 bd (qf aY o.Value) λda=>
 some da
def j8 (lA:List aa)(st:(List Int)×Int):Option (((List Int)×Int)⊕((List Int)⊕((List UInt8)×Int))):=if st.2<(lA.length:Int) then
 ix lA st.2 λy=>
 bd (dC y) λaY=>
 if !aY then
 some (.inr (.inr (([]:List UInt8),1)))
 else
 bd (wH st.1 y) λda=>
 some (.inl (da,bN .i64 (st.2+1)))
 else
 some (.inr (.inl st.1))
def mG (lA:List aa):Option ((List UInt8)×Int):=if (10:Int)<(lA.length:Int) then
 some (([]:List UInt8),5)
 else
 bd (qe ([]:List Int) (bN .u64 (lA.length:Int))) λrA=>
 bd (Loop (j8 lA) (rA,0)) λw=>
 match w with
 | .inl p1=>
  N7 p1 λbs=>
  some (bs,0)
 | .inr p2=>some (p2.1,p2.2)
def pe (b:List Int)(y:Int)(st:Int×Int):Option ((Int×Int)⊕Int):=if st.2<((AS (sh 0) (AT (sh (bN .i64 y)) (AS (sh 1) (AT (sh (b.length:Int)) b)))).length:Int) then
 ix (AS (sh 0) (AT (sh (bN .i64 y)) (AS (sh 1) (AT (sh (b.length:Int)) b)))) st.2 λy2=>
 if (0:Int)<=8 then
 some (.inl (bOr .u64 (bN .u64 (st.1 *2^min (sh 8) (AI .u64))) (bN .u64 y2),bN .i64 (st.2+1)))
 else none
 else
 some (.inr st.1)
def n6 (b:List Int):Option (Int×(List Int)×Int):=if (b.length:Int)=0 then
 some (0,([]:List Int),2)
 else
 ix b 0 λy=>
 if (0:Int)<=1/\(1:Int)<=(b.length:Int)/\(b.length:Int)<=(b.length:Int) then
 bd (if (8:Int)<(bN .i64 y) then
  some true
  else
  if (0:Int)<(bN .i64 y) then
  if (0:Int)<((AS (sh 1) (AT (sh (b.length:Int)) b)).length:Int) then
  ix (AS (sh 1) (AT (sh (b.length:Int)) b)) 0 λy1=>
  some (decide (y1=0))
  else
  some false
  else
  some false:Option Bool) λw=>
 if w then
 some (0,([]:List Int),3)
 else
 if ((AS (sh 1) (AT (sh (b.length:Int)) b)).length:Int)<(bN .i64 y) then
 some (0,([]:List Int),2)
 else
 if (0:Int)<=0/\(0:Int)<=(bN .i64 y)/\(bN .i64 y)<=((AS (sh 1) (AT (sh (b.length:Int)) b)).length:Int) then
 bd (Loop (pe b y) (0,0)) λw1=>
 if (0:Int)<=(bN .i64 y)/\(bN .i64 y)<=((AS (sh 1) (AT (sh (b.length:Int)) b)).length:Int)/\((AS (sh 1) (AT (sh (b.length:Int)) b)).length:Int)<=((AS (sh 1) (AT (sh (b.length:Int)) b)).length:Int) then
 some (w1,AS (sh (bN .i64 y)) (AT (sh ((AS (sh 1) (AT (sh (b.length:Int)) b)).length:Int)) (AS (sh 1) (AT (sh (b.length:Int)) b))),0)
 else none
 else none
 else none
def lg (b:List Int):Option (Int×(List Int)×Int):=bd (n6 b) λrA=>
 if (0:Int)<=1 then
 some (D8 .i64 (bN .i64 (By rA.1 (2^min (sh 1) (AI .u64)))) (bN .i64 (0-(bN .i64 (M6 .u64 rA.1 1)))),rA.2.1,rA.2.2)
 else none
def j9 (b:List Int)(most:Int):Option ((List UInt8)×(List Int)×Int):=bd (n6 b) λrA=>
 if !decide (rA.2.2=0) then
 some (([]:List UInt8),([]:List Int),rA.2.2)
 else
 if (bN .u64 (imax most 0))<rA.1 then
 some (([]:List UInt8),([]:List Int),5)
 else
 if (bN .u64 (rA.2.1.length:Int))<rA.1 then
 some (([]:List UInt8),([]:List Int),2)
 else
 if (0:Int)<=0/\(0:Int)<=rA.1/\rA.1<=(rA.2.1.length:Int) then
 N7 (AS (sh 0) (AT (sh rA.1) rA.2.1)) λbs=>
 if (0:Int)<=rA.1/\rA.1<=(rA.2.1.length:Int)/\(rA.2.1.length:Int)<=(rA.2.1.length:Int) then
 some (bs,AS (sh rA.1) (AT (sh (rA.2.1.length:Int)) rA.2.1),0)
 else none
 else none
def pf (b:List Int)(e x:Int):Option (Int×List Int×Int):=if e=0 then lg b else some (x,b,e)
def tu (b:List Int)(e most:Int):Option (List UInt8×List Int×Int):=if e=0 then j9 b most else some ([],b,e)
def tw (b:List Int):Option (aa×List Int×Int):=bd (pf b 0 0) λr0=>
 bd (pf r0.2.1 r0.2.2 0) λr1=>
 bd (pf r1.2.1 r1.2.2 0) λr2=>
 bd (pf r2.2.1 r2.2.2 0) λr3=>
 bd (pf r3.2.1 r3.2.2 0) λr4=>
 bd (pf r4.2.1 r4.2.2 0) λr5=>
 bd (tu r5.2.1 r5.2.2 100) λs0=>
 bd (tu s0.2.1 s0.2.2 1000) λs1=>
 if s1.2.2=0 then
 bd (dC (⟨r0.1,r1.1,r2.1,s0.1,s1.1,r3.1,r4.1,r5.1⟩:aa)) λm=>
 if m then some ((⟨r0.1,r1.1,r2.1,s0.1,s1.1,r3.1,r4.1,r5.1⟩:aa),s1.2.1,0)
 else some ((⟨0,0,0,[],[],0,0,0⟩:aa),[],3)
 else some ((⟨0,0,0,[],[],0,0,0⟩:aa),[],s1.2.2)
def ka (rA:Int×(List Int)×Int)(st:(List Int)×(List aa)×Int):Option (((List Int)×(List aa)×Int)⊕(((List Int)×(List aa))⊕((List aa)×Int))):=if st.2.2<((BY (sh rA.1) (⟨0,0,0,([]:List UInt8),([]:List UInt8),0,0,0⟩:aa)).length:Int) then
 bd (tw st.1) λaY=>
 ix st.2.1 st.2.2 λy=>
 if !decide (aY.2.2=0) then
 some (.inr (.inr (([]:List aa),3)))
 else
 some (.inl (aY.2.1,st.2.1.set (sh st.2.2) aY.1,bN .i64 (st.2.2+1)))
 else
 some (.inr (.inl (st.1,st.2.1)))
def kE (sA:List UInt8):Option ((List aa)×Int):=bd (n6 (wC sA)) λrA=>
 bd (if !decide (rA.2.2=0) then
  some true
  else
  some (decide ((10:Int)<rA.1)):Option Bool) λw=>
 if w then
 some (([]:List aa),3)
 else
 if (0:Int)<=rA.1/\rA.1=rA.1/\rA.1 *80<=2^46 then
 bd (Loop (ka rA) (rA.2.1,BY (sh rA.1) (⟨0,0,0,([]:List UInt8),([]:List UInt8),0,0,0⟩:aa),0)) λw1=>
 match w1 with
 | .inl p1=>
  if (0:Int)<(p1.1.length:Int) then
  some (([]:List aa),3)
  else
  some (p1.2,0)
 | .inr p2=>some (p2.1,p2.2)
 else none
def kn (rA:al)(sA:List UInt8):Option (al×(List ae)×Int):=bd (kE sA) λaY=>
 if !decide (aY.2=0) then
 some (rA,([]:List ae),aY.2)
 else
 bd (qd rA aY.1) λda=>
 some (da.1,da.2.1,0)
def sD:Option Bool:=bd (mG ([(⟨1,1,1,([47,97]:List UInt8),([]:List UInt8),0,0,0⟩:aa)]:List aa)) λrA=>
 bd (wF) λaY=>
 bd (kn aY rA.1) λda=>
 bd (kE ([]:List UInt8)) λrO=>
 bd (if rA.2=0 then
  if da.2.2=0 then
  if (da.2.1.length:Int)=1 then
  if (da.1.Shelf.L.length:Int)=2 then
  some (decide (rO.2=3))
  else
  some false
  else
  some false
  else
  some false
  else
  some false:Option Bool) λw=>
 some w
def iX (x:aa)(c:aa):Option Bool:=some (decide (x.Client=c.Client))
def gl (sA:List aa)(f:aa->Option Bool)(st:Int):Option (Int⊕(Unit⊕Int)):=if st<(sA.length:Int) then
 ix sA st λy=>
 bd (f y) λrA=>
 if rA then
 some (.inr (.inr st))
 else
 some (.inl (bN .i64 (st+1)))
 else
 some (.inr (.inl ()))
def eP (sA:List aa)(f:aa->Option Bool):Option Int:=bd (Loop (gl sA f) 0) λw=>
 match w with
 | .inl p1=>some (-1)
 | .inr p2=>some p2
def cZ (sA:List aa)(f:aa->Option Bool):Option Bool:=bd (eP sA f) λrA=>some (decide ((0:Int)<=rA))
def rn (rA:al)(lA:List aa)(st:(List aa)×Int):Option (((List aa)×Int)⊕(List aa)):=if st.2<(lA.length:Int) then
 ix lA st.2 λy=>
 bd (nX rA y.Client) λaY=>
 bd (cZ st.1 (λu=>iX u y)) λda=>
 bd (if !da then
  bd (dC y) λrO=>
  if rO then
  if !aY.2 then
  some (decide ((st.1.length:Int)<10))
  else
  if aY.1.Seq<y.Seq then
  some (decide ((st.1.length:Int)<10))
  else
  some false
  else
  some false
  else
  some false:Option Bool) λw1=>
 bd (if w1 then
  if (st.1.length+([y]:List aa).length) *80<=2^46 then
  some (st.1++([y]:List aa))
  else none
  else
  some st.1:Option (List aa)) λw2=>
 some (.inl (w2,bN .i64 (st.2+1)))
 else
 some (.inr st.1)
def lh (rA:al)(lA:List aa):Option (List aa):=bd (Loop (rn rA lA) (([]:List aa),0)) λw=>some w
def rq (xH:(List aa))(st:Int)(eJ:Int):Option (Int⊕(Unit⊕Bool)):=if eJ<st then
 ix xH eJ λy=>
 ix xH st λy1=>
 if y.Client=y1.Client then
 some (.inr (.inr false))
 else
 some (.inl (bN .i64 (eJ+1)))
 else
 some (.inr (.inl ()))
def nJ (FL:al×(List ae)×(List a7))(xH:(List aa))(st:Int):Option (Int⊕(Unit⊕Bool)):=if st<(xH.length:Int) then
 bd (Loop (rq xH st) 0) λw3=>
 match w3 with
 | .inl p2=>
  ix xH st λy2=>
  bd (nX FL.1 y2.Client) λGj=>
  bd (if Gj.2 then
   ix xH st λy3=>
   if y3.Seq<=Gj.1.Seq then
   some true
   else
   ix xH st λy4=>
   bd (dC y4) λrA7=>
   some (!rA7)
   else
   ix xH st λy5=>
   bd (dC y5) λrA8=>
   some (!rA8):Option Bool) λw4=>
  if w4 then
  some (.inr (.inr false))
  else
  some (.inl (bN .i64 (st+1)))
 | .inr p3=>some (.inr (.inr p3))
 else
 some (.inr (.inl ()))
def nK (xH:(List aa))(xJ:al×(List ae)×Int)(eg:Int):Option (Int⊕(Unit⊕Bool)):=if eg<(xJ.2.1.length:Int) then
 bd (ix xJ.2.1 eg λy6=>
  ix xH eg λy7=>
  if !decide (y6.Client=y7.Client) then
  some true
  else
  ix xJ.2.1 eg λy8=>
  ix xH eg λy9=>
  some (!decide (y8.Seq=y9.Seq)):Option Bool) λw7=>
 if w7 then
 some (.inr (.inr false))
 else
 some (.inl (bN .i64 (eg+1)))
 else
 some (.inr (.inl ()))
def qv (a:List aa)(a1:List aa):Option Bool:=bd (bd (sC a) λrA=>
  if !rA then
  some true
  else
  bd (sC a1) λaY=>
  some (!aY):Option Bool) λw=>
 if w then
 bd (sD) λda=>
 some da
 else
 bd (wF) λrO=>
 bd (qd rO a) λFL=>
 bd (lh FL.1 a1) λxH=>
 bd (if (10:Int)<(xH.length:Int) then
  some true
  else
  some (decide ((a1.length:Int)<(xH.length:Int))):Option Bool) λw1=>
 if w1 then
 some false
 else
 bd (Loop (nJ FL xH) 0) λw2=>
 match w2 with
 | .inl p4=>
  bd (mG xH) λrA9=>
  bd (kn FL.1 rA9.1) λxJ=>
  bd (kn xJ.1 rA9.1) λQh=>
  bd (if !decide (rA9.2=0) then
   some true
   else
   if !decide (xJ.2.2=0) then
   some true
   else
   if !decide (Qh.2.2=0) then
   some true
   else
   if !decide ((xJ.2.1.length:Int)=(xH.length:Int)) then
   some true
   else
   bd (tp xJ.1 Qh.1) λadU=>
   some (!adU):Option Bool) λw5=>
  if w5 then
  some false
  else
  bd (Loop (nK xH xJ) 0) λw6=>
  match w6 with
  | .inl p7=>
   bd (bd (sD) λadV=>
    if adV then
    if (50:Int)<=(xJ.1.Seen.length:Int) then
    some true
    else
    bd (lh xJ.1 xH) λadW=>
    some (decide ((adW.length:Int)=0))
    else
    some false:Option Bool) λw8=>
   some w8
  | .inr p8=>some p8
 | .inr p5=>some p5
end
end Dn.S
