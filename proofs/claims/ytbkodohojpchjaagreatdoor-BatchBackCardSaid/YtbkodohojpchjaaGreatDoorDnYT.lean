import Derived.Test.YtbkodohojpchjaaGreatDoorDnD
/- Typed functions. Conditions: none. -/
set_option linter.unusedVariables false
set_option linter.unusedSimpArgs false
open Go.IntKind renaming wrap→bB,bits→AI
open Int renaming toNat→sh,fdiv→By
open List renaming drop→AS,take→AT,replicate→BY
open Go.Op renaming bytesLess→IN
open Go Dn
set_option maxRecDepth 100000
namespace Dn.S
noncomputable section
structure ab where
 Client:Int
 Seq:Int
 Kind:Int
 Path:List UInt8
 Value:List UInt8
 Version:Int
 Session:Int
 Span:Int
deriving DecidableEq
@[reducible] def ON (x : ab) : List MV := [.i .i64 x.Client, .i .i64 x.Seq, .i .i64 x.Kind, .s x.Path, .s x.Value, .i .i64 x.Version, .i .i64 x.Session, .i .i64 x.Span]
@[reducible] def a7 (x : ab) : MV := .agg (ON x)
structure av where
 Path:List UInt8
 Value:List UInt8
 Version:Int
 il:Int
deriving DecidableEq
@[reducible] def GH (x : av) : List MV := [.s x.Path, .s x.Value, .i .i64 x.Version, .i .i64 x.il]
@[reducible] def aS (x : av) : MV := .agg (GH x)
structure ap where
 L:List av
deriving DecidableEq
@[reducible] def Ee (x : ap) : List MV := [.list (x.L.map aS)]
@[reducible] def cG (x : ap) : MV := .agg (Ee x)
structure ak where
 Id:Int
 Span:Int
 At:Int
deriving DecidableEq
@[reducible] def JD (x : ak) : List MV := [.i .i64 x.Id, .i .i64 x.Span, .i .i64 x.At]
@[reducible] def aZ (x : ak) : MV := .agg (JD x)
structure aC where
 jH:Int
 L:List ak
deriving DecidableEq
@[reducible] def QD (x : aC) : List MV := [.i .i64 x.jH, .list (x.L.map aZ)]
@[reducible] def ez (x : aC) : MV := .agg (QD x)
structure aq where
 Path:List UInt8
 Client:Int
 Kids:Bool
deriving DecidableEq
@[reducible] def OO (x : aq) : List MV := [.s x.Path, .i .i64 x.Client, .b x.Kids]
@[reducible] def bp (x : aq) : MV := .agg (OO x)
structure ae where
 Client:Int
 Seq:Int
 E:Int
 Value:List UInt8
 Version:Int
 Names:List (List UInt8)
deriving DecidableEq
@[reducible] def OP (x : ae) : List MV := [.i .i64 x.Client, .i .i64 x.Seq, .i .i64 x.E, .s x.Value, .i .i64 x.Version, .list (x.Names.map MV.s)]
@[reducible] def bq (x : ae) : MV := .agg (OP x)
structure aX where
 L:List aq
deriving DecidableEq
@[reducible] def OQ (x : aX) : List MV := [.list (x.L.map bp)]
@[reducible] def qB (x : aX) : MV := .agg (OQ x)
structure ax where
 Shelf:ap
 c8:aC
 dp:aX
 Seen:List ae
deriving DecidableEq
@[reducible] def OR (x : ax) : List MV := [.list (x.Shelf.L.map aS), .i .i64 x.c8.jH, .list (x.c8.L.map aZ), .list (x.dp.L.map bp), .list (x.Seen.map bq)]
@[reducible] def eo (x : ax) : MV := .agg (OR x)
structure ay where
 Kind:Int
 Path:List UInt8
deriving DecidableEq
@[reducible] def Lv (x : ay) : List MV := [.i .i64 x.Kind, .s x.Path]
@[reducible] def fj (x : ay) : MV := .agg (Lv x)
structure ah where
 r:ax
 o:ab
 x:ae
 l:List ay
deriving DecidableEq
@[reducible] def bw (x : ah) : List MV := [.list (x.r.Shelf.L.map aS), .i .i64 x.r.c8.jH, .list (x.r.c8.L.map aZ), .list (x.r.dp.L.map bp), .list (x.r.Seen.map bq), .i .i64 x.o.Client, .i .i64 x.o.Seq, .i .i64 x.o.Kind, .s x.o.Path, .s x.o.Value, .i .i64 x.o.Version, .i .i64 x.o.Session, .i .i64 x.o.Span, .i .i64 x.x.Client, .i .i64 x.x.Seq, .i .i64 x.x.E, .s x.x.Value, .i .i64 x.x.Version, .list (x.x.Names.map MV.s), .list (x.l.map fj)]
structure aO where
 W:aq
 C:ay
deriving DecidableEq
@[reducible] def OS (x : aO) : List MV := [.s x.W.Path, .i .i64 x.W.Client, .b x.W.Kids, .i .i64 x.C.Kind, .s x.C.Path]
@[reducible] def da (x : aO) : MV := .agg (OS x)
structure dK where
 Client:Int
 Seq:Int
 Kind:Int
 Path:List UInt8
 Value:List UInt8
 Version:Int
 Session:Int
 Span:Int
deriving DecidableEq
@[reducible] def SO (x : dK) : List MV := [.i .i64 x.Client, .i .i64 x.Seq, .i .i64 x.Kind, .s x.Path, .s x.Value, .i .i64 x.Version, .i .i64 x.Session, .i .i64 x.Span]
@[reducible] def lI (x : dK) : MV := .agg (SO x)
def Au (lA:List ab)(st:Int):Option (Int⊕(Unit⊕Bool)):=if st<(lA.length:Int) then
 bd (if st=30 then
  some true
  else
  ix lA st λy=>
  if (200:Int)<(y.Path.length:Int) then
  some true
  else
  ix lA st λy1=>
  some (decide ((1100:Int)<(y1.Value.length:Int))):Option Bool) λw1=>
 if w1 then
 some (.inr (.inr false))
 else
 some (.inl (bB .i64 (st+1)))
 else
 some (.inr (.inl ()))
def wI (lA:List ab):Option Bool:=bd (Loop (Au lA) 0) λw=>
 match w with
 | .inl p1=>some true
 | .inr p2=>some p2
def wJ:Option ap:=some (⟨([(⟨([47]:List UInt8),([]:List UInt8),0,0⟩:av)]:List av)⟩:ap)
def wK:Option aC:=some (⟨0,([]:List ak)⟩:aC)
def wL:Option ax:=bd (wJ) λrA=>
 bd (wK) λaB=>
 some (⟨rA,aB,(⟨([]:List aq)⟩:aX),([]:List ae)⟩:ax)
def fT (o:ab):Option ab:=if o.Kind=1 then
 some (⟨o.Client,o.Seq,o.Kind,o.Path,o.Value,0,o.Session,0⟩:ab)
 else
 bd (if o.Kind=2 then
  some (decide (o.Kind=2))
  else
  bd (if o.Kind=5 then
   some (decide (o.Kind=5))
   else
   bd (if o.Kind=10 then
    some (decide (o.Kind=10))
    else
    some (decide (o.Kind=11)):Option Bool) λw2=>
   some w2:Option Bool) λw1=>
  some w1:Option Bool) λw=>
 if w then
 some (⟨o.Client,o.Seq,o.Kind,o.Path,([]:List UInt8),0,0,0⟩:ab)
 else
 if o.Kind=3 then
 some (⟨o.Client,o.Seq,o.Kind,o.Path,o.Value,o.Version,0,0⟩:ab)
 else
 if o.Kind=4 then
 some (⟨o.Client,o.Seq,o.Kind,o.Path,([]:List UInt8),o.Version,0,0⟩:ab)
 else
 if o.Kind=6 then
 some (⟨o.Client,o.Seq,o.Kind,([]:List UInt8),([]:List UInt8),0,o.Session,o.Span⟩:ab)
 else
 bd (if o.Kind=7 then
  some (decide (o.Kind=7))
  else
  some (decide (o.Kind=8)):Option Bool) λw3=>
 if w3 then
 some (⟨o.Client,o.Seq,o.Kind,([]:List UInt8),([]:List UInt8),0,o.Session,0⟩:ab)
 else
 if o.Kind=9 then
 some (⟨o.Client,o.Seq,o.Kind,([]:List UInt8),([]:List UInt8),0,0,o.Span⟩:ab)
 else
 some (⟨o.Client,o.Seq,o.Kind,([]:List UInt8),([]:List UInt8),0,0,0⟩:ab)
def fP (o:ab):Option Bool:=bd (if (0:Int)<=o.Client then
  if o.Client<=1000 then
  if (1:Int)<=o.Seq then
  some (decide (o.Seq<=1000000000))
  else
  some false
  else
  some false
  else
  some false:Option Bool) λw=>
 bd (if w then
  if (0:Int)<=o.Kind then
  if o.Kind<=11 then
  if (o.Path.length:Int)<=100 then
  if (o.Value.length:Int)<=1000 then
  bd (fT o) λrA=>
  some ((decide (o.Client=rA.Client))&&((decide (o.Seq=rA.Seq))&&((decide (o.Kind=rA.Kind))&&((decide (o.Path=rA.Path))&&((decide (o.Value=rA.Value))&&((decide (o.Version=rA.Version))&&((decide (o.Session=rA.Session))&&(decide (o.Span=rA.Span)))))))))
  else
  some false
  else
  some false
  else
  some false
  else
  some false
  else
  some false:Option Bool) λw1=>
 some w1
def p7 (x:Int):Option Int:=bd (if (4294967296:Int)<=x then
  if (0:Int)<=32 then
  some (By x (2^min (sh 32) (AI .u64)),32)
  else none
  else
  some (x,0):Option (Int×Int)) λw=>
 bd (if (65536:Int)<=w.1 then
  if (0:Int)<=16 then
  some (By w.1 (2^min (sh 16) (AI .u64)),bB .i64 (w.2+16))
  else none
  else
  some (w.1,w.2):Option (Int×Int)) λw1=>
 bd (if (256:Int)<=w1.1 then
  if (0:Int)<=8 then
  some (By w1.1 (2^min (sh 8) (AI .u64)),bB .i64 (w1.2+8))
  else none
  else
  some (w1.1,w1.2):Option (Int×Int)) λw2=>
 if (0:Int)<=(bB .u8 w2.1)/\(bB .u8 w2.1)<(((([0,1,2,2,3,3,3,3,4,4,4,4,4,4,4,4,5,5,5,5,5,5,5,5,5,5,5,5,5,5,5,5,6,6,6,6,6,6,6,6,6,6,6,6,6,6,6,6,6,6,6,6,6,6,6,6,6,6,6,6,6,6,6,6]:List UInt8)++([7,7,7,7,7,7,7,7,7,7,7,7,7,7,7,7,7,7,7,7,7,7,7,7,7,7,7,7,7,7,7,7,7,7,7,7,7,7,7,7,7,7,7,7,7,7,7,7,7,7,7,7,7,7,7,7,7,7,7,7,7,7,7,7]:List UInt8))++(([8,8,8,8,8,8,8,8,8,8,8,8,8,8,8,8,8,8,8,8,8,8,8,8,8,8,8,8,8,8,8,8,8,8,8,8,8,8,8,8,8,8,8,8,8,8,8,8,8,8,8,8,8,8,8,8,8,8,8,8,8,8,8,8]:List UInt8)++([8,8,8,8,8,8,8,8,8,8,8,8,8,8,8,8,8,8,8,8,8,8,8,8,8,8,8,8,8,8,8,8,8,8,8,8,8,8,8,8,8,8,8,8,8,8,8,8,8,8,8,8,8,8,8,8,8,8,8,8,8,8,8,8]:List UInt8))).length:Int) then
 some (bB .i64 (w2.2+(bB .i64 ((((([0,1,2,2,3,3,3,3,4,4,4,4,4,4,4,4,5,5,5,5,5,5,5,5,5,5,5,5,5,5,5,5,6,6,6,6,6,6,6,6,6,6,6,6,6,6,6,6,6,6,6,6,6,6,6,6,6,6,6,6,6,6,6,6]:List UInt8)++([7,7,7,7,7,7,7,7,7,7,7,7,7,7,7,7,7,7,7,7,7,7,7,7,7,7,7,7,7,7,7,7,7,7,7,7,7,7,7,7,7,7,7,7,7,7,7,7,7,7,7,7,7,7,7,7,7,7,7,7,7,7,7,7]:List UInt8))++(([8,8,8,8,8,8,8,8,8,8,8,8,8,8,8,8,8,8,8,8,8,8,8,8,8,8,8,8,8,8,8,8,8,8,8,8,8,8,8,8,8,8,8,8,8,8,8,8,8,8,8,8,8,8,8,8,8,8,8,8,8,8,8,8]:List UInt8)++([8,8,8,8,8,8,8,8,8,8,8,8,8,8,8,8,8,8,8,8,8,8,8,8,8,8,8,8,8,8,8,8,8,8,8,8,8,8,8,8,8,8,8,8,8,8,8,8,8,8,8,8,8,8,8,8,8,8,8,8,8,8,8,8]:List UInt8))).getD (sh (bB .u8 w2.1)) 0).toNat:Int))))
 else none
def nO (n:Int):Option Int:=bd (p7 n) λrA=>
 if !decide ((8:Int)=0) then
 some (bB .i64 (1+(bB .i64 (Int.tdiv (bB .i64 (rA+7)) 8))))
 else none
def iC (sA:List Int):Option (List Int):=if (sA.length:Int)=(sA.length:Int)/\(sA.length:Int)=(sA.length:Int) then
 some sA
 else none
def lJ (n:Int)(st:(List Int)×Int):Option (((List Int)×Int)⊕(List Int)):=if (0:Int)<=st.2 then
 if (0:Int)<=(bB .i64 (8 *st.2)) then
 if (st.1.length+([bB .u8 (By n (2^min (sh (bB .i64 (8 *st.2))) (AI .u64)))]:List Int).length) *1<=2^46 then
 some (.inl (st.1++([bB .u8 (By n (2^min (sh (bB .i64 (8 *st.2))) (AI .u64)))]:List Int),bB .i64 (st.2-1)))
 else none
 else none
 else
 some (.inr st.1)
def mc (b:List Int)(n:Int):Option (List Int):=bd (nO n) λrA=>
 bd (iC b) λaB=>
 if 0<([bB .u8 (bB .i64 (rA-1))]:List Int).length/\(aB.length+([bB .u8 (bB .i64 (rA-1))]:List Int).length) *1<=2^46 then
 bd (Loop (lJ n) (aB++([bB .u8 (bB .i64 (rA-1))]:List Int),bB .i64 ((bB .i64 (rA-1))-1))) λw=>
 some w
 else none
def lK (b:List Int)(sA:List UInt8):Option (List Int):=bd (mc b (bB .u64 (sA.length:Int))) λrA=>
 if (rA.length+(uu sA).length) *1<=2^46 then
 some (rA++(uu sA))
 else none
def p8 (b:List Int)(n:Int):Option (List Int):=if (0:Int)<=1 then
 if (0:Int)<=63 then
 bd (mc b (Cf .u64 (bB .u64 ((bB .u64 n) *2^min (sh 1) (AI .u64))) (bB .u64 (By n (2^min (sh 63) (AI .i64)))))) λrA=>
 some rA
 else none
 else none
def mf (lA:List Int)(st:(List Int)×Int):Option (((List Int)×Int)⊕(List Int)):=if st.2<(lA.length:Int) then
 ix lA st.2 λy=>
 bd (p8 st.1 y) λrA=>
 some (.inl (rA,bB .i64 (st.2+1)))
 else
 some (.inr st.1)
def nP (b:List Int)(lA:List Int):Option (List Int):=bd (Loop (mf lA) (b,0)) λw=>some w
def p9 (b:List Int)(o:ab):Option (List Int):=bd (nP b ([o.Client,o.Seq,o.Kind,o.Version,o.Session,o.Span]:List Int)) λrA=>
 bd (lK rA o.Path) λaB=>
 bd (lK aB o.Value) λbK=>
 some bK
def fm (lA:List ab)(st:(List Int)×Int):Option (((List Int)×Int)⊕((List Int)⊕((List UInt8)×Int))):=if st.2<(lA.length:Int) then
 ix lA st.2 λy=>
 bd (fP y) λaB=>
 if !aB then
 some (.inr (.inr (([]:List UInt8),1)))
 else
 bd (p9 st.1 y) λbK=>
 some (.inl (bK,bB .i64 (st.2+1)))
 else
 some (.inr (.inl st.1))
def dP (lA:List ab):Option ((List UInt8)×Int):=if (10:Int)<(lA.length:Int) then
 some (([]:List UInt8),5)
 else
 bd (mc ([]:List Int) (bB .u64 (lA.length:Int))) λrA=>
 bd (Loop (fm lA) (rA,0)) λw=>
 match w with
 | .inl p1=>
  Jz p1 λbs=>
  some (bs,0)
 | .inr p2=>some (p2.1,p2.2)
def ka (b:List Int)(y:Int)(st:Int×Int):Option ((Int×Int)⊕Int):=if st.2<((AS (sh 0) (AT (sh (bB .i64 y)) (AS (sh 1) (AT (sh (b.length:Int)) b)))).length:Int) then
 ix (AS (sh 0) (AT (sh (bB .i64 y)) (AS (sh 1) (AT (sh (b.length:Int)) b)))) st.2 λy2=>
 if (0:Int)<=8 then
 some (.inl (bOr .u64 (bB .u64 (st.1 *2^min (sh 8) (AI .u64))) (bB .u64 y2),bB .i64 (st.2+1)))
 else none
 else
 some (.inr st.1)
def kb (b:List Int):Option (Int×(List Int)×Int):=if (b.length:Int)=0 then
 some (0,([]:List Int),2)
 else
 ix b 0 λy=>
 if (0:Int)<=1/\(1:Int)<=(b.length:Int)/\(b.length:Int)<=(b.length:Int) then
 bd (if (8:Int)<(bB .i64 y) then
  some true
  else
  if (0:Int)<(bB .i64 y) then
  if (0:Int)<((AS (sh 1) (AT (sh (b.length:Int)) b)).length:Int) then
  ix (AS (sh 1) (AT (sh (b.length:Int)) b)) 0 λy1=>
  some (decide (y1=0))
  else
  some false
  else
  some false:Option Bool) λw=>
 if w then
 some (0,([]:List Int),3)
 else
 if ((AS (sh 1) (AT (sh (b.length:Int)) b)).length:Int)<(bB .i64 y) then
 some (0,([]:List Int),2)
 else
 if (0:Int)<=0/\(0:Int)<=(bB .i64 y)/\(bB .i64 y)<=((AS (sh 1) (AT (sh (b.length:Int)) b)).length:Int) then
 bd (Loop (ka b y) (0,0)) λw1=>
 if (0:Int)<=(bB .i64 y)/\(bB .i64 y)<=((AS (sh 1) (AT (sh (b.length:Int)) b)).length:Int)/\((AS (sh 1) (AT (sh (b.length:Int)) b)).length:Int)<=((AS (sh 1) (AT (sh (b.length:Int)) b)).length:Int) then
 some (w1,AS (sh (bB .i64 y)) (AT (sh ((AS (sh 1) (AT (sh (b.length:Int)) b)).length:Int)) (AS (sh 1) (AT (sh (b.length:Int)) b))),0)
 else none
 else none
 else none
def gy (b:List Int):Option (Int×(List Int)×Int):=bd (kb b) λrA=>
 if (0:Int)<=1 then
 some (Cf .i64 (bB .i64 (By rA.1 (2^min (sh 1) (AI .u64)))) (bB .i64 (0-(bB .i64 (H0 .u64 rA.1 1)))),rA.2.1,rA.2.2)
 else none
def fp (b:List Int)(most:Int):Option ((List UInt8)×(List Int)×Int):=bd (kb b) λrA=>
 if !decide (rA.2.2=0) then
 some (([]:List UInt8),([]:List Int),rA.2.2)
 else
 if (bB .u64 (imax most 0))<rA.1 then
 some (([]:List UInt8),([]:List Int),5)
 else
 if (bB .u64 (rA.2.1.length:Int))<rA.1 then
 some (([]:List UInt8),([]:List Int),2)
 else
 if (0:Int)<=0/\(0:Int)<=rA.1/\rA.1<=(rA.2.1.length:Int) then
 Jz (AS (sh 0) (AT (sh rA.1) rA.2.1)) λbs=>
 if (0:Int)<=rA.1/\rA.1<=(rA.2.1.length:Int)/\(rA.2.1.length:Int)<=(rA.2.1.length:Int) then
 some (bs,AS (sh rA.1) (AT (sh (rA.2.1.length:Int)) rA.2.1),0)
 else none
 else none
def nh (b:List Int)(e x:Int):Option (Int×List Int×Int):=if e=0 then gy b else some (x,b,e)
def qX (b:List Int)(e most:Int):Option (List UInt8×List Int×Int):=if e=0 then fp b most else some ([],b,e)
def nQ (b:List Int):Option (ab×List Int×Int):=bd (nh b 0 0) λr0=>
 bd (nh r0.2.1 r0.2.2 0) λr1=>
 bd (nh r1.2.1 r1.2.2 0) λr2=>
 bd (nh r2.2.1 r2.2.2 0) λr3=>
 bd (nh r3.2.1 r3.2.2 0) λr4=>
 bd (nh r4.2.1 r4.2.2 0) λr5=>
 bd (qX r5.2.1 r5.2.2 100) λs0=>
 bd (qX s0.2.1 s0.2.2 1000) λs1=>
 if s1.2.2=0 then
 bd (fP (⟨r0.1,r1.1,r2.1,s0.1,s1.1,r3.1,r4.1,r5.1⟩:ab)) λm=>
 if m then some ((⟨r0.1,r1.1,r2.1,s0.1,s1.1,r3.1,r4.1,r5.1⟩:ab),s1.2.1,0)
 else some ((⟨0,0,0,[],[],0,0,0⟩:ab),[],3)
 else some ((⟨0,0,0,[],[],0,0,0⟩:ab),[],s1.2.2)
def fq (rA:Int×(List Int)×Int)(st:(List Int)×(List ab)×Int):Option (((List Int)×(List ab)×Int)⊕(((List Int)×(List ab))⊕((List ab)×Int))):=if st.2.2<((BY (sh rA.1) (⟨0,0,0,([]:List UInt8),([]:List UInt8),0,0,0⟩:ab)).length:Int) then
 bd (nQ st.1) λaB=>
 ix st.2.1 st.2.2 λy=>
 if !decide (aB.2.2=0) then
 some (.inr (.inr (([]:List ab),3)))
 else
 some (.inl (aB.2.1,st.2.1.set (sh st.2.2) aB.1,bB .i64 (st.2.2+1)))
 else
 some (.inr (.inl (st.1,st.2.1)))
def cW (sA:List UInt8):Option ((List ab)×Int):=bd (kb (uu sA)) λrA=>
 bd (if !decide (rA.2.2=0) then
  some true
  else
  some (decide ((10:Int)<rA.1)):Option Bool) λw=>
 if w then
 some (([]:List ab),3)
 else
 if (0:Int)<=rA.1/\rA.1=rA.1/\rA.1 *80<=2^46 then
 bd (Loop (fq rA) (rA.2.1,BY (sh rA.1) (⟨0,0,0,([]:List UInt8),([]:List UInt8),0,0,0⟩:ab),0)) λw1=>
 match w1 with
 | .inl p1=>
  if (0:Int)<(p1.1.length:Int) then
  some (([]:List ab),3)
  else
  some (p1.2,0)
 | .inr p2=>some (p2.1,p2.2)
 else none
def mg (x:Int):Option Bool:=some (!decide (x=x))
def jI (x:Int)(y:Int):Option Int:=bd (mg x) λrA=>
 bd (mg y) λaB=>
 if rA then
 if aB then
 some 0
 else
 some (-1)
 else
 if aB then
 some 1
 else
 if x<y then
 some (-1)
 else
 if y<x then
 some 1
 else
 some 0
def eU (x:ae)(c9:Int):Option Int:=bd (jI x.Client c9) λrA=>some rA
def cA (x:List ae)(target:Int)(cmp:ae->Int->Option Int)(st:Int×Int):Option ((Int×Int)⊕Int):=if st.1<st.2 then
 if (0:Int)<=1 then
 ix x (bB .i64 (By (bB .u64 (bB .i64 (st.1+st.2))) (2^min (sh 1) (AI .u64)))) λy=>
 bd (cmp y target) λrA=>
 bd (if rA<0 then
  some (bB .i64 ((bB .i64 (By (bB .u64 (bB .i64 (st.1+st.2))) (2^min (sh 1) (AI .u64))))+1),st.2)
  else
  some (st.1,bB .i64 (By (bB .u64 (bB .i64 (st.1+st.2))) (2^min (sh 1) (AI .u64)))):Option (Int×Int)) λw1=>
 some (.inl (w1.1,w1.2))
 else none
 else
 some (.inr st.1)
def bV (x:List ae)(target:Int)(cmp:ae->Int->Option Int):Option (Int×Bool):=bd (Loop (cA x target cmp) (0,(x.length:Int))) λw=>
 bd (if w<(x.length:Int) then
  ix x w λy1=>
  bd (cmp y1 target) λaB=>
  some (w,decide (aB=0))
  else
  some (w,false):Option (Int×Bool)) λw2=>
 some (w2.1,w2.2)
def gD (rA:ax)(c9:Int):Option (Int×Bool):=bd (bV rA.Seen c9 eU) λaB=>some (aB.1,aB.2)
def tc (rA:ax)(c9:Int):Option (ae×Bool):=bd (gD rA c9) λaB=>
 if !aB.2 then
 some ((⟨0,0,0,([]:List UInt8),0,([]:List (List UInt8))⟩:ae),false)
 else
 ix rA.Seen aB.1 λy=>
 some (y,true)
def jJ (rA:ax)(o:ab):Option (ae×Bool):=bd (tc rA o.Client) λaB=>
 bd (fP o) λbK=>
 bd (if !bK then
  some (.inl (0,0,0,([]:List UInt8),0,([]:List (List UInt8)),o.Client,o.Seq,1,([]:List UInt8),0,([]:List (List UInt8))))
  else
  bd (if aB.2 then
   some (decide (aB.1.Seq=o.Seq))
   else
   some false:Option Bool) λw1=>
  if w1 then
  some (.inr (aB.1.Client,aB.1.Seq,aB.1.E,aB.1.Value,aB.1.Version,aB.1.Names,true))
  else
  bd (if aB.2 then
   some (decide (o.Seq<aB.1.Seq))
   else
   some false:Option Bool) λw2=>
  bd (if w2 then
   some (.inl (0,0,0,([]:List UInt8),0,([]:List (List UInt8)),o.Client,o.Seq,15,([]:List UInt8),0,([]:List (List UInt8))))
   else
   bd (if !aB.2 then
    some (decide ((50:Int)<=(rA.Seen.length:Int)))
    else
    some false:Option Bool) λw4=>
   if w4 then
   some (.inl (0,0,0,([]:List UInt8),0,([]:List (List UInt8)),o.Client,o.Seq,9,([]:List UInt8),0,([]:List (List UInt8))))
   else
   some (.inr (o.Client,o.Seq,0,([]:List UInt8),0,([]:List (List UInt8)),false)):Option ((Int×Int×Int×(List UInt8)×Int×(List (List UInt8))×Int×Int×Int×(List UInt8)×Int×(List (List UInt8)))⊕(Int×Int×Int×(List UInt8)×Int×(List (List UInt8))×Bool))) λw3=>
  match w3 with
  | .inl p2=>some (.inl (p2.1,p2.2.1,p2.2.2.1,p2.2.2.2.1,p2.2.2.2.2.1,p2.2.2.2.2.2.1,p2.2.2.2.2.2.2.1,p2.2.2.2.2.2.2.2.1,p2.2.2.2.2.2.2.2.2.1,p2.2.2.2.2.2.2.2.2.2.1,p2.2.2.2.2.2.2.2.2.2.2.1,p2.2.2.2.2.2.2.2.2.2.2.2))
  | .inr p3=>some (.inr (p3.1,p3.2.1,p3.2.2.1,p3.2.2.2.1,p3.2.2.2.2.1,p3.2.2.2.2.2.1,p3.2.2.2.2.2.2)):Option ((Int×Int×Int×(List UInt8)×Int×(List (List UInt8))×Int×Int×Int×(List UInt8)×Int×(List (List UInt8)))⊕(Int×Int×Int×(List UInt8)×Int×(List (List UInt8))×Bool))) λw=>
 match w with
 | .inl p4=>some ((⟨p4.2.2.2.2.2.2.1,p4.2.2.2.2.2.2.2.1,p4.2.2.2.2.2.2.2.2.1,p4.2.2.2.2.2.2.2.2.2.1,p4.2.2.2.2.2.2.2.2.2.2.1,p4.2.2.2.2.2.2.2.2.2.2.2⟩:ae),true)
 | .inr p5=>some ((⟨p5.1,p5.2.1,p5.2.2.1,p5.2.2.2.1,p5.2.2.2.2.1,p5.2.2.2.2.2.1⟩:ae),p5.2.2.2.2.2.2)
def gO (w:ah):Option (Unit×ah):=some ((),w)
def fQ (x:ak)(id:Int):Option Int:=bd (jI x.Id id) λrA=>some rA
def cb (x:List ak)(target:Int)(cmp:ak->Int->Option Int)(st:Int×Int):Option ((Int×Int)⊕Int):=if st.1<st.2 then
 if (0:Int)<=1 then
 ix x (bB .i64 (By (bB .u64 (bB .i64 (st.1+st.2))) (2^min (sh 1) (AI .u64)))) λy=>
 bd (cmp y target) λrA=>
 bd (if rA<0 then
  some (bB .i64 ((bB .i64 (By (bB .u64 (bB .i64 (st.1+st.2))) (2^min (sh 1) (AI .u64))))+1),st.2)
  else
  some (st.1,bB .i64 (By (bB .u64 (bB .i64 (st.1+st.2))) (2^min (sh 1) (AI .u64)))):Option (Int×Int)) λw1=>
 some (.inl (w1.1,w1.2))
 else none
 else
 some (.inr st.1)
def bP (x:List ak)(target:Int)(cmp:ak->Int->Option Int):Option (Int×Bool):=bd (Loop (cb x target cmp) (0,(x.length:Int))) λw=>
 bd (if w<(x.length:Int) then
  ix x w λy1=>
  bd (cmp y1 target) λaB=>
  some (w,decide (aB=0))
  else
  some (w,false):Option (Int×Bool)) λw2=>
 some (w2.1,w2.2)
def eK (b:aC)(id:Int):Option (Int×Bool):=bd (bP b.L id fQ) λrA=>some (rA.1,rA.2)
def wM (b:aC)(id:Int):Option Bool:=bd (eK b id) λrA=>some rA.2
def eR (sA:List UInt8)(bx:List UInt8):Option Bool:=bd (if (bx.length:Int)<=(sA.length:Int) then
  if (0:Int)<=0/\(0:Int)<=(bx.length:Int)/\(bx.length:Int)<=(sA.length:Int) then
  some (decide ((AS (sh 0) (AT (sh (bx.length:Int)) sA))=bx))
  else none
  else
  some false:Option Bool) λw=>
 some w
def eS (sA:List UInt8)(bx:List UInt8):Option ((List UInt8)×Bool):=bd (eR sA bx) λrA=>
 if !rA then
 some (sA,false)
 else
 if (0:Int)<=(bx.length:Int)/\(bx.length:Int)<=(sA.length:Int)/\(sA.length:Int)<=(sA.length:Int) then
 some (AS (sh (bx.length:Int)) (AT (sh (sA.length:Int)) sA),true)
 else none
def iQ (sA:List UInt8)(bx:List UInt8):Option ((List UInt8)×Bool):=bd (eS sA bx) λrA=>some (rA.1,rA.2)
def kN (c:Int):Option Bool:=bd (Ed ([97,98,99,100,101,102,103,104,105,106,107,108,109,110,111,112,113,114,115,116,117,118,119,120,121,122,48,49,50,51,52,53,54,55,56,57,45,95]:List UInt8) c) λrA=>some (!rA)
def kZ (f:Int->Option Bool)(pM:Bool)(st:(List MV)):Option ((List MV)⊕(Unit⊕Int)):=if RC st then
 bd (f (Ch st)) λrA=>
 if rA=pM then
 some (.inr (.inr (wj st)))
 else
 some (.inl (EY st))
 else
 some (.inr (.inl ()))
def kD (sA:List UInt8)(f:Int->Option Bool)(pM:Bool):Option Int:=bd (Loop (kZ f pM) ([.s sA,.i .i64 0]:List MV)) λw=>
 match w with
 | .inl p1=>some (-1)
 | .inr p2=>some p2
def iR (sA:List UInt8)(f:Int->Option Bool):Option Int:=bd (kD sA f true) λrA=>some rA
def ft (sA:List UInt8)(f:Int->Option Bool):Option Bool:=bd (iR sA f) λrA=>some (decide ((0:Int)<=rA))
def qY (sA:List UInt8):Option Bool:=bd (if !decide (sA=([]:List UInt8)) then
  if (sA.length:Int)<=30 then
  bd (UA sA ([97,98,99,100,101,102,103,104,105,106,107,108,109,110,111,112,113,114,115,116,117,118,119,120,121,122,48,49,50,51,52,53,54,55,56,57,45,95]:List UInt8)) λrA=>
  if rA=([]:List UInt8) then
  bd (ft sA kN) λaB=>
  some (!aB)
  else
  some false
  else
  some false
  else
  some false:Option Bool) λw=>
 some w
def mh (sA:List UInt8):Option Bool:=bd (qY sA) λrA=>some (!rA)
def eZ (sA:List (List UInt8))(f:(List UInt8)->Option Bool)(st:Int):Option (Int⊕(Unit⊕Int)):=if st<(sA.length:Int) then
 ix sA st λy=>
 bd (f y) λrA=>
 if rA then
 some (.inr (.inr st))
 else
 some (.inl (bB .i64 (st+1)))
 else
 some (.inr (.inl ()))
def eA (sA:List (List UInt8))(f:(List UInt8)->Option Bool):Option Int:=bd (Loop (eZ sA f) 0) λw=>
 match w with
 | .inl p1=>some (-1)
 | .inr p2=>some p2
def dD (sA:List (List UInt8))(f:(List UInt8)->Option Bool):Option Bool:=bd (eA sA f) λrA=>some (decide ((0:Int)<=rA))
def jh (p:List UInt8):Option ((List (List UInt8))×Bool):=bd (iQ p ([47]:List UInt8)) λrA=>
 bd (if !rA.2 then
  some true
  else
  some (decide ((100:Int)<(p.length:Int))):Option Bool) λw=>
 if w then
 some (([]:List (List UInt8)),false)
 else
 if rA.1=([]:List UInt8) then
 some (([]:List (List UInt8)),true)
 else
 bd (OL rA.1 ([47]:List UInt8)) λaB=>
 bd (if (aB.length:Int)<=8 then
  bd (dD aB mh) λbK=>
  some (aB,!bK,aB)
  else
  some (aB,false,aB):Option ((List (List UInt8))×Bool×(List (List UInt8)))) λw1=>
 some (w1.2.2,w1.2.1)
def iD (x:List UInt8):Option Bool:=some (!decide (x=x))
def iS (x:List UInt8)(y:List UInt8):Option Int:=bd (iD x) λrA=>
 bd (iD y) λaB=>
 if rA then
 if aB then
 some 0
 else
 some (-1)
 else
 if aB then
 some 1
 else
 if IN x y then
 some (-1)
 else
 if !(IN x y||decide (x=y)) then
 some 1
 else
 some 0
def gp (s1:List (List UInt8))(s2:List (List UInt8))(st:Int):Option (Int⊕(Unit⊕Int)):=if st<(s1.length:Int) then
 ix s1 st λy=>
 if (s2.length:Int)<=st then
 some (.inr (.inr 1))
 else
 ix s2 st λy1=>
 bd (iS y y1) λrA=>
 if !decide (rA=0) then
 some (.inr (.inr rA))
 else
 some (.inl (bB .i64 (st+1)))
 else
 some (.inr (.inl ()))
def fw (s1:List (List UInt8))(s2:List (List UInt8)):Option Int:=bd (Loop (gp s1 s2) 0) λw=>
 match w with
 | .inl p1=>
  if (s1.length:Int)<(s2.length:Int) then
  some (-1)
  else
  some 0
 | .inr p2=>some p2
def td (p:List UInt8)(q:List UInt8):Option Bool:=bd (jh p) λrA=>
 bd (jh q) λaB=>
 bd (if rA.2 then
  if aB.2 then
  bd (fw rA.1 aB.1) λbK=>
  some (decide (bK<0))
  else
  some false
  else
  some false:Option Bool) λw=>
 some w
def eV (n:av)(p:List UInt8):Option Int:=if n.Path=p then
 some 0
 else
 bd (td n.Path p) λrA=>
 if rA then
 some (-1)
 else
 some 1
def cc (x:List av)(target:List UInt8)(cmp:av->(List UInt8)->Option Int)(st:Int×Int):Option ((Int×Int)⊕Int):=if st.1<st.2 then
 if (0:Int)<=1 then
 ix x (bB .i64 (By (bB .u64 (bB .i64 (st.1+st.2))) (2^min (sh 1) (AI .u64)))) λy=>
 bd (cmp y target) λrA=>
 bd (if rA<0 then
  some (bB .i64 ((bB .i64 (By (bB .u64 (bB .i64 (st.1+st.2))) (2^min (sh 1) (AI .u64))))+1),st.2)
  else
  some (st.1,bB .i64 (By (bB .u64 (bB .i64 (st.1+st.2))) (2^min (sh 1) (AI .u64)))):Option (Int×Int)) λw1=>
 some (.inl (w1.1,w1.2))
 else none
 else
 some (.inr st.1)
def bQ (x:List av)(target:List UInt8)(cmp:av->(List UInt8)->Option Int):Option (Int×Bool):=bd (Loop (cc x target cmp) (0,(x.length:Int))) λw=>
 bd (if w<(x.length:Int) then
  ix x w λy1=>
  bd (cmp y1 target) λaB=>
  some (w,decide (aB=0))
  else
  some (w,false):Option (Int×Bool)) λw2=>
 some (w2.1,w2.2)
def gE (sA:ap)(p:List UInt8):Option (Int×Bool):=bd (bQ sA.L p eV) λrA=>some (rA.1,rA.2)
def kc (p:List UInt8):Option Bool:=bd (jh p) λrA=>some rA.2
def dJ (sA:List UInt8)(c:Int)(st:Int):Option (Int⊕(Unit⊕Int)):=if (0:Int)<=st then
 if (0:Int)<=st/\st<(sA.length:Int) then
 if ((sA.getD (sh st) 0).toNat:Int)=c then
 some (.inr (.inr st))
 else
 some (.inl (bB .i64 (st-1)))
 else none
 else
 some (.inr (.inl ()))
def di (sA:List UInt8)(c:Int):Option Int:=bd (Loop (dJ sA c) (bB .i64 ((sA.length:Int)-1))) λw=>
 match w with
 | .inl p1=>some (-1)
 | .inr p2=>some p2
def eB (sep:List UInt8)(st:Int×Int):Option ((Int×Int)⊕Int):=if (0:Int)<=st.2 then
 if (0:Int)<=st.2/\st.2<(sep.length:Int) then
 some (.inl (bB .u32 ((bB .u32 (st.1 *16777619))+(bB .u32 ((sep.getD (sh st.2) 0).toNat:Int))),bB .i64 (st.2-1)))
 else none
 else
 some (.inr st.1)
def eC (dc:Int×Int×Int):Option ((Int×Int×Int)⊕Int):=if (0:Int)<dc.2.2 then
 bd (if !decide ((H0 .i64 dc.2.2 1)=0) then
  some (bB .u32 (dc.1 *dc.2.1))
  else
  some dc.1:Option Int) λw2=>
 if (0:Int)<=1 then
 some (.inl (w2,bB .u32 (dc.2.1 *dc.2.1),By dc.2.2 (2^min (sh 1) (AI .i64))))
 else none
 else
 some (.inr dc.1)
def dL (sep:List UInt8):Option (Int×Int):=bd (Loop (eB sep) (0,bB .i64 ((sep.length:Int)-1))) λw=>
 bd (Loop eC (1,16777619,(sep.length:Int))) λw1=>
 some (w,w1)
def cX (a:List UInt8)(a1:List UInt8)(st:Int×Int):Option ((Int×Int)⊕Int):=if (bB .i64 ((a.length:Int)-(a1.length:Int)))<=st.2 then
 if (0:Int)<=st.2/\st.2<(a.length:Int) then
 some (.inl (bB .u32 ((bB .u32 (st.1 *16777619))+(bB .u32 ((a.getD (sh st.2) 0).toNat:Int))),bB .i64 (st.2-1)))
 else none
 else
 some (.inr st.1)
def cY (a:List UInt8)(a1:List UInt8)(rA:Int×Int)(dc:Int×Int):Option ((Int×Int)⊕(Unit⊕Int)):=if (0:Int)<=dc.2 then
 if (0:Int)<=dc.2/\dc.2<(a.length:Int) then
 if (0:Int)<=(bB .i64 (dc.2+(a1.length:Int)))/\(bB .i64 (dc.2+(a1.length:Int)))<(a.length:Int) then
 bd (if (bB .u32 ((bB .u32 ((bB .u32 (dc.1 *16777619))+(bB .u32 ((a.getD (sh dc.2) 0).toNat:Int))))-(bB .u32 (rA.2 *(bB .u32 ((a.getD (sh (bB .i64 (dc.2+(a1.length:Int)))) 0).toNat:Int))))))=rA.1 then
  if (0:Int)<=dc.2/\dc.2<=(bB .i64 (dc.2+(a1.length:Int)))/\(bB .i64 (dc.2+(a1.length:Int)))<=(a.length:Int) then
  some (decide ((AS (sh dc.2) (AT (sh (bB .i64 (dc.2+(a1.length:Int)))) a))=a1))
  else none
  else
  some false:Option Bool) λw3=>
 if w3 then
 some (.inr (.inr dc.2))
 else
 some (.inl (bB .u32 ((bB .u32 ((bB .u32 (dc.1 *16777619))+(bB .u32 ((a.getD (sh dc.2) 0).toNat:Int))))-(bB .u32 (rA.2 *(bB .u32 ((a.getD (sh (bB .i64 (dc.2+(a1.length:Int)))) 0).toNat:Int))))),bB .i64 (dc.2-1)))
 else none
 else none
 else
 some (.inr (.inl ()))
def cB (a:List UInt8)(a1:List UInt8):Option Int:=bd (dL a1) λrA=>
 bd (Loop (cX a a1) (0,bB .i64 ((a.length:Int)-1))) λw=>
 bd (if w=rA.1 then
  if (0:Int)<=(bB .i64 ((a.length:Int)-(a1.length:Int)))/\(bB .i64 ((a.length:Int)-(a1.length:Int)))<=(a.length:Int)/\(a.length:Int)<=(a.length:Int) then
  some (decide ((AS (sh (bB .i64 ((a.length:Int)-(a1.length:Int)))) (AT (sh (a.length:Int)) a))=a1))
  else none
  else
  some false:Option Bool) λw1=>
 if w1 then
 some (bB .i64 ((a.length:Int)-(a1.length:Int)))
 else
 bd (Loop (cY a a1 rA) (w,bB .i64 ((bB .i64 ((a.length:Int)-(a1.length:Int)))-1))) λw2=>
 match w2 with
 | .inl p2=>some (-1)
 | .inr p3=>some p3
def iT (sA:List UInt8)(substr:List UInt8):Option Int:=if (substr.length:Int)=0 then
 some (sA.length:Int)
 else
 if (substr.length:Int)=1 then
 if (0:Int)<=0/\(0:Int)<(substr.length:Int) then
 bd (di sA ((substr.getD (sh 0) 0).toNat:Int)) λrA=>
 some rA
 else none
 else
 if (substr.length:Int)=(sA.length:Int) then
 if substr=sA then
 some 0
 else
 some (-1)
 else
 if (sA.length:Int)<(substr.length:Int) then
 some (-1)
 else
 bd (cB sA substr) λaB=>
 some aB
def oq (p:List UInt8):Option ((List UInt8)×Int):=bd (kc p) λrA=>
 if !rA then
 some (([]:List UInt8),13)
 else
 if p=([47]:List UInt8) then
 some (([]:List UInt8),6)
 else
 bd (iT p ([47]:List UInt8)) λaB=>
 if (0:Int)<=0/\(0:Int)<=(imax 1 aB)/\(imax 1 aB)<=(p.length:Int) then
 some (AS (sh 0) (AT (sh (imax 1 aB)) p),0)
 else none
def fU (sA:ap)(p:List UInt8):Option (Int×Int):=bd (kc p) λrA=>
 if !rA then
 some (0,13)
 else
 bd (gE sA p) λaB=>
 if !aB.2 then
 some (0,6)
 else
 some (aB.1,0)
def qd (sA:ap)(p:List UInt8):Option (av×Int):=bd (fU sA p) λrA=>
 if !decide (rA.2=0) then
 some ((⟨([]:List UInt8),([]:List UInt8),0,0⟩:av),rA.2)
 else
 ix sA.L rA.1 λy=>
 some (y,0)
def lL (c:List UInt8)(c1:Bool)(c2:ap)(c3:List UInt8)(c4:Int):Option Int:=bd (kc c) λrA=>
 if !rA then
 some 13
 else
 if c1 then
 some 7
 else
 bd (oq c) λaB=>
 bd (qd c2 aB.1) λbK=>
 if !decide (bK.2=0) then
 some 6
 else
 if !decide (bK.1.il=0) then
 some 10
 else
 if (1000:Int)<(c3.length:Int) then
 some 5
 else
 if c4<0 then
 some 1
 else
 if (200:Int)<=(c2.L.length:Int) then
 some 9
 else
 some 0
def oY (sA:ap)(p:List UInt8)(value:List UInt8)(owner:Int):Option (ap×Int):=bd (gE sA p) λrA=>
 bd (lL p rA.2 sA value owner) λaB=>
 if !decide (aB=0) then
 some (sA,aB)
 else
 bd (jG 48 sA.L) λbK=>
 bd (u5 48 bK rA.1 ([(⟨p,value,0,owner⟩:av)]:List av)) λqC=>
 some ((⟨qC⟩:ap),0)
def dR (w:ah)(kind:Int):Option (Unit×ah):=bd (if w.x.E=0 then
  if (w.l.length+([(⟨kind,w.o.Path⟩:ay)]:List ay).length) *24<=2^46 then
  some (w.r.Shelf.L,w.r.c8.jH,w.r.c8.L,w.r.dp.L,w.r.Seen,w.o.Client,w.o.Seq,w.o.Kind,w.o.Path,w.o.Value,w.o.Version,w.o.Session,w.o.Span,w.x.Client,w.x.Seq,w.x.E,w.x.Value,w.x.Version,w.x.Names,w.l++([(⟨kind,w.o.Path⟩:ay)]:List ay))
  else none
  else
  some (w.r.Shelf.L,w.r.c8.jH,w.r.c8.L,w.r.dp.L,w.r.Seen,w.o.Client,w.o.Seq,w.o.Kind,w.o.Path,w.o.Value,w.o.Version,w.o.Session,w.o.Span,w.x.Client,w.x.Seq,w.x.E,w.x.Value,w.x.Version,w.x.Names,w.l):Option ((List av)×Int×(List ak)×(List aq)×(List ae)×Int×Int×Int×(List UInt8)×(List UInt8)×Int×Int×Int×Int×Int×Int×(List UInt8)×Int×(List (List UInt8))×(List ay))) λw1=>
 some ((),(⟨(⟨(⟨w1.1⟩:ap),(⟨w1.2.1,w1.2.2.1⟩:aC),(⟨w1.2.2.2.1⟩:aX),w1.2.2.2.2.1⟩:ax),(⟨w1.2.2.2.2.2.1,w1.2.2.2.2.2.2.1,w1.2.2.2.2.2.2.2.1,w1.2.2.2.2.2.2.2.2.1,w1.2.2.2.2.2.2.2.2.2.1,w1.2.2.2.2.2.2.2.2.2.2.1,w1.2.2.2.2.2.2.2.2.2.2.2.1,w1.2.2.2.2.2.2.2.2.2.2.2.2.1⟩:ab),(⟨w1.2.2.2.2.2.2.2.2.2.2.2.2.2.1,w1.2.2.2.2.2.2.2.2.2.2.2.2.2.2.1,w1.2.2.2.2.2.2.2.2.2.2.2.2.2.2.2.1,w1.2.2.2.2.2.2.2.2.2.2.2.2.2.2.2.2.1,w1.2.2.2.2.2.2.2.2.2.2.2.2.2.2.2.2.2.1,w1.2.2.2.2.2.2.2.2.2.2.2.2.2.2.2.2.2.2.1⟩:ae),w1.2.2.2.2.2.2.2.2.2.2.2.2.2.2.2.2.2.2.2⟩:ah))
def iU (w:ah):Option (Unit×ah):=bd (if !decide (w.o.Session=0) then
  bd (wM w.r.c8 w.o.Session) λrA=>
  some (!rA)
  else
  some false:Option Bool) λw1=>
 if w1 then
 some ((),(⟨w.r,w.o,(⟨w.x.Client,w.x.Seq,14,w.x.Value,w.x.Version,w.x.Names⟩:ae),w.l⟩:ah))
 else
 bd (oY w.r.Shelf w.o.Path w.o.Value w.o.Session) λaB=>
 bd (dR (⟨(⟨aB.1,w.r.c8,w.r.dp,w.r.Seen⟩:ax),w.o,(⟨w.x.Client,w.x.Seq,aB.2,w.x.Value,w.x.Version,w.x.Names⟩:ae),w.l⟩:ah) 1) λbK=>
 some ((),bK.2)
def lM (w:ah):Option (Unit×ah):=bd (qd w.r.Shelf w.o.Path) λrA=>some ((),(⟨w.r,w.o,(⟨w.x.Client,w.x.Seq,rA.2,rA.1.Value,rA.1.Version,w.x.Names⟩:ae),w.l⟩:ah))
def ec (sA:ap)(p:List UInt8)(version:Int):Option (Int×Int):=bd (fU sA p) λrA=>
 bd (if rA.2=0 then
  if !decide (version=(-1)) then
  ix sA.L rA.1 λy=>
  some (!decide (version=y.Version))
  else
  some false
  else
  some false:Option Bool) λw=>
 if w then
 some (rA.1,8)
 else
 some (rA.1,rA.2)
def wN (sA:ap)(p:List UInt8)(value:List UInt8)(version:Int):Option (ap×Int):=bd (ec sA p version) λrA=>
 if !decide (rA.2=0) then
 some (sA,rA.2)
 else
 if (1000:Int)<(value.length:Int) then
 some (sA,5)
 else
 ix sA.L rA.1 λy=>
 if (1000000000:Int)<=y.Version then
 some (sA,9)
 else
 bd (jG 48 sA.L) λaB=>
 ix aB rA.1 λy1=>
 ix (aB.set (sh rA.1) (⟨y1.Path,value,y1.Version,y1.il⟩:av)) rA.1 λy2=>
 ix (aB.set (sh rA.1) (⟨y1.Path,value,y1.Version,y1.il⟩:av)) rA.1 λy3=>
 some ((⟨(aB.set (sh rA.1) (⟨y1.Path,value,y1.Version,y1.il⟩:av)).set (sh rA.1) (⟨y3.Path,y3.Value,bB .i64 (y2.Version+1),y3.il⟩:av)⟩:ap),0)
def lN (w:ah):Option (Unit×ah):=bd (wN w.r.Shelf w.o.Path w.o.Value w.o.Version) λrA=>
 bd (dR (⟨(⟨rA.1,w.r.c8,w.r.dp,w.r.Seen⟩:ax),w.o,(⟨w.x.Client,w.x.Seq,rA.2,w.x.Value,w.x.Version,w.x.Names⟩:ae),w.l⟩:ah) 2) λaB=>
 bd (if aB.2.x.E=0 then
  bd (qd aB.2.r.Shelf aB.2.o.Path) λbK=>
  some (aB.2.r.Shelf.L,aB.2.r.c8.jH,aB.2.r.c8.L,aB.2.r.dp.L,aB.2.r.Seen,aB.2.o.Client,aB.2.o.Seq,aB.2.o.Kind,aB.2.o.Path,aB.2.o.Value,aB.2.o.Version,aB.2.o.Session,aB.2.o.Span,aB.2.x.Client,aB.2.x.Seq,aB.2.x.E,aB.2.x.Value,bK.1.Version,aB.2.x.Names,aB.2.l)
  else
  some (aB.2.r.Shelf.L,aB.2.r.c8.jH,aB.2.r.c8.L,aB.2.r.dp.L,aB.2.r.Seen,aB.2.o.Client,aB.2.o.Seq,aB.2.o.Kind,aB.2.o.Path,aB.2.o.Value,aB.2.o.Version,aB.2.o.Session,aB.2.o.Span,aB.2.x.Client,aB.2.x.Seq,aB.2.x.E,aB.2.x.Value,aB.2.x.Version,aB.2.x.Names,aB.2.l):Option ((List av)×Int×(List ak)×(List aq)×(List ae)×Int×Int×Int×(List UInt8)×(List UInt8)×Int×Int×Int×Int×Int×Int×(List UInt8)×Int×(List (List UInt8))×(List ay))) λw1=>
 some ((),(⟨(⟨(⟨w1.1⟩:ap),(⟨w1.2.1,w1.2.2.1⟩:aC),(⟨w1.2.2.2.1⟩:aX),w1.2.2.2.2.1⟩:ax),(⟨w1.2.2.2.2.2.1,w1.2.2.2.2.2.2.1,w1.2.2.2.2.2.2.2.1,w1.2.2.2.2.2.2.2.2.1,w1.2.2.2.2.2.2.2.2.2.1,w1.2.2.2.2.2.2.2.2.2.2.1,w1.2.2.2.2.2.2.2.2.2.2.2.1,w1.2.2.2.2.2.2.2.2.2.2.2.2.1⟩:ab),(⟨w1.2.2.2.2.2.2.2.2.2.2.2.2.2.1,w1.2.2.2.2.2.2.2.2.2.2.2.2.2.2.1,w1.2.2.2.2.2.2.2.2.2.2.2.2.2.2.2.1,w1.2.2.2.2.2.2.2.2.2.2.2.2.2.2.2.2.1,w1.2.2.2.2.2.2.2.2.2.2.2.2.2.2.2.2.2.1,w1.2.2.2.2.2.2.2.2.2.2.2.2.2.2.2.2.2.2.1⟩:ae),w1.2.2.2.2.2.2.2.2.2.2.2.2.2.2.2.2.2.2.2⟩:ah))
def iV (s1:List (List UInt8))(s2:List (List UInt8))(st:Int):Option (Int⊕(Unit⊕Bool)):=if st<(s1.length:Int) then
 ix s1 st λy=>
 ix s2 st λy1=>
 if !decide (y=y1) then
 some (.inr (.inr false))
 else
 some (.inl (bB .i64 (st+1)))
 else
 some (.inr (.inl ()))
def gQ (s1:List (List UInt8))(s2:List (List UInt8)):Option Bool:=if !decide ((s1.length:Int)=(s2.length:Int)) then
 some false
 else
 bd (Loop (iV s1 s2) 0) λw=>
 match w with
 | .inl p1=>some true
 | .inr p2=>some p2
def qe (p:List UInt8)(q:List UInt8):Option Bool:=bd (jh p) λrA=>
 bd (jh q) λaB=>
 bd (if rA.2 then
  if aB.2 then
  if (rA.1.length:Int)<(aB.1.length:Int) then
  if (0:Int)<=0/\(0:Int)<=(rA.1.length:Int)/\(rA.1.length:Int)<=(aB.1.length:Int) then
  bd (gQ rA.1 (AS (sh 0) (AT (sh (rA.1.length:Int)) aB.1))) λbK=>
  some bK
  else none
  else
  some false
  else
  some false
  else
  some false:Option Bool) λw=>
 some w
def oZ (sA:ap)(p:List UInt8)(version:Int):Option (ap×Int):=bd (ec sA p version) λrA=>
 if p=([47]:List UInt8) then
 some (sA,13)
 else
 if !decide (rA.2=0) then
 some (sA,rA.2)
 else
 bd (if (bB .i64 (rA.1+1))<(sA.L.length:Int) then
  ix sA.L (bB .i64 (rA.1+1)) λy=>
  bd (qe p y.Path) λaB=>
  some aB
  else
  some false:Option Bool) λw=>
 if w then
 some (sA,10)
 else
 bd (jG 48 sA.L) λbK=>
 bd (Bm bK rA.1 (bB .i64 (rA.1+1))) λqC=>
 some ((⟨qC⟩:ap),0)
def iW (w:ah):Option (Unit×ah):=bd (oZ w.r.Shelf w.o.Path w.o.Version) λrA=>
 bd (dR (⟨(⟨rA.1,w.r.c8,w.r.dp,w.r.Seen⟩:ax),w.o,(⟨w.x.Client,w.x.Seq,rA.2,w.x.Value,w.x.Version,w.x.Names⟩:ae),w.l⟩:ah) 3) λaB=>
 some ((),aB.2)
def qf (p:List UInt8):Option ((List (List UInt8))×Int):=bd (jh p) λrA=>
 if !rA.2 then
 some (([]:List (List UInt8)),13)
 else
 some (rA.1,0)
def r9 (a:ap)(a1:List UInt8)(rA:Int×Int)(aB:(List (List UInt8))×Int)(st:(List (List UInt8))×Int):Option (((List (List UInt8))×Int)⊕(List (List UInt8))):=if st.2<((AS (sh (bB .i64 (rA.1+1))) (AT (sh (a.L.length:Int)) a.L)).length:Int) then
 ix (AS (sh (bB .i64 (rA.1+1))) (AT (sh (a.L.length:Int)) a.L)) st.2 λy=>
 bd (qe a1 y.Path) λbK=>
 if !bK then
 some (.inr st.1)
 else
 bd (qf y.Path) λqC=>
 bd (if (qC.1.length:Int)=(bB .i64 ((aB.1.length:Int)+1)) then
  ix qC.1 (aB.1.length:Int) λy1=>
  if (st.1.length+([y1]:List (List UInt8)).length) *16<=2^46 then
  some (st.1++([y1]:List (List UInt8)))
  else none
  else
  some st.1:Option (List (List UInt8))) λw1=>
 some (.inl (w1,bB .i64 (st.2+1)))
 else
 some (.inr st.1)
def th (a:ap)(a1:List UInt8):Option ((List (List UInt8))×Int):=bd (fU a a1) λrA=>
 if !decide (rA.2=0) then
 some (([]:List (List UInt8)),rA.2)
 else
 bd (qf a1) λaB=>
 if (0:Int)<=(bB .i64 (rA.1+1))/\(bB .i64 (rA.1+1))<=(a.L.length:Int)/\(a.L.length:Int)<=(a.L.length:Int) then
 bd (Loop (r9 a a1 rA aB) (([]:List (List UInt8)),0)) λw=>
 some (w,0)
 else none
def kE (w:ah):Option (Unit×ah):=bd (th w.r.Shelf w.o.Path) λrA=>some ((),(⟨w.r,w.o,(⟨w.x.Client,w.x.Seq,rA.2,w.x.Value,w.x.Version,rA.1⟩:ae),w.l⟩:ah))
def tj (b:aC)(id:Int)(span:Int):Option (aC×Int):=bd (eK b id) λrA=>
 bd (if id<1 then
  some true
  else
  if span<1 then
  some true
  else
  some (decide ((1000:Int)<span)):Option Bool) λw=>
 if w then
 some (b,1)
 else
 if rA.2 then
 some (b,7)
 else
 if (50:Int)<=(b.L.length:Int) then
 some (b,9)
 else
 bd (jG 24 b.L) λaB=>
 bd (u5 24 aB rA.1 ([(⟨id,span,bB .i64 (b.jH+span)⟩:ak)]:List ak)) λbK=>
 some ((⟨b.jH,bK⟩:aC),0)
def kF (w:ah):Option (Unit×ah):=bd (tj w.r.c8 w.o.Session w.o.Span) λrA=>some ((),(⟨(⟨w.r.Shelf,rA.1,w.r.dp,w.r.Seen⟩:ax),w.o,(⟨w.x.Client,w.x.Seq,rA.2,w.x.Value,w.x.Version,w.x.Names⟩:ae),w.l⟩:ah))
def qZ (b:aC)(id:Int):Option (aC×Int):=bd (eK b id) λrA=>
 if !rA.2 then
 some (b,14)
 else
 bd (jG 24 b.L) λaB=>
 ix aB rA.1 λy=>
 ix aB rA.1 λy1=>
 some ((⟨b.jH,aB.set (sh rA.1) (⟨y1.Id,y1.Span,bB .i64 (b.jH+y.Span)⟩:ak)⟩:aC),0)
def jK (w:ah):Option (Unit×ah):=bd (qZ w.r.c8 w.o.Session) λrA=>some ((),(⟨(⟨w.r.Shelf,rA.1,w.r.dp,w.r.Seen⟩:ax),w.o,(⟨w.x.Client,w.x.Seq,rA.2,w.x.Value,w.x.Version,w.x.Names⟩:ae),w.l⟩:ah))
def q0 (b:aC)(id:Int):Option (aC×Int):=bd (eK b id) λrA=>
 if !rA.2 then
 some (b,14)
 else
 bd (jG 24 b.L) λaB=>
 bd (Bm aB rA.1 (bB .i64 (rA.1+1))) λbK=>
 some ((⟨b.jH,bK⟩:aC),0)
def sa (sA:ap)(owner:Int)(st:(List (List UInt8))×(List av)×Int):Option (((List (List UInt8))×(List av)×Int)⊕((List (List UInt8))×(List av))):=if st.2.2<(sA.L.length:Int) then
 ix sA.L st.2.2 λy=>
 bd (if (0:Int)<owner then
  some (decide (y.il=owner))
  else
  some false:Option Bool) λw1=>
 if w1 then
 if (st.1.length+([y.Path]:List (List UInt8)).length) *16<=2^46 then
 some (.inl (st.1++([y.Path]:List (List UInt8)),st.2.1,bB .i64 (st.2.2+1)))
 else none
 else
 if (st.2.1.length+([y]:List av).length) *48<=2^46 then
 some (.inl (st.1,st.2.1++([y]:List av),bB .i64 (st.2.2+1)))
 else none
 else
 some (.inr (st.1,st.2.1))
def tk (sA:ap)(owner:Int):Option (ap×(List (List UInt8))):=bd (Loop (sa sA owner) (([]:List (List UInt8)),([]:List av),0)) λw=>some ((⟨w.2⟩:ap),w.1)
def lc (rA:ap×(List (List UInt8)))(st:Int×(List av)×Int×(List ak)×(List aq)×(List ae)×Int×Int×Int×(List UInt8)×(List UInt8)×Int×Int×Int×Int×Int×Int×(List UInt8)×Int×(List (List UInt8))×(List ay)):Option ((Int×(List av)×Int×(List ak)×(List aq)×(List ae)×Int×Int×Int×(List UInt8)×(List UInt8)×Int×Int×Int×Int×Int×Int×(List UInt8)×Int×(List (List UInt8))×(List ay))⊕((List av)×Int×(List ak)×(List aq)×(List ae)×Int×Int×Int×(List UInt8)×(List UInt8)×Int×Int×Int×Int×Int×Int×(List UInt8)×Int×(List (List UInt8))×(List ay))):=if st.1<(rA.2.length:Int) then
 ix rA.2 st.1 λy=>
 if (st.2.2.2.2.2.2.2.2.2.2.2.2.2.2.2.2.2.2.2.2.length+([(⟨3,y⟩:ay)]:List ay).length) *24<=2^46 then
 some (.inl (bB .i64 (st.1+1),st.2.1,st.2.2.1,st.2.2.2.1,st.2.2.2.2.1,st.2.2.2.2.2.1,st.2.2.2.2.2.2.1,st.2.2.2.2.2.2.2.1,st.2.2.2.2.2.2.2.2.1,st.2.2.2.2.2.2.2.2.2.1,st.2.2.2.2.2.2.2.2.2.2.1,st.2.2.2.2.2.2.2.2.2.2.2.1,st.2.2.2.2.2.2.2.2.2.2.2.2.1,st.2.2.2.2.2.2.2.2.2.2.2.2.2.1,st.2.2.2.2.2.2.2.2.2.2.2.2.2.2.1,st.2.2.2.2.2.2.2.2.2.2.2.2.2.2.2.1,st.2.2.2.2.2.2.2.2.2.2.2.2.2.2.2.2.1,st.2.2.2.2.2.2.2.2.2.2.2.2.2.2.2.2.2.1,st.2.2.2.2.2.2.2.2.2.2.2.2.2.2.2.2.2.2.1,st.2.2.2.2.2.2.2.2.2.2.2.2.2.2.2.2.2.2.2.1,st.2.2.2.2.2.2.2.2.2.2.2.2.2.2.2.2.2.2.2.2++([(⟨3,y⟩:ay)]:List ay)))
 else none
 else
 some (.inr (st.2.1,st.2.2.1,st.2.2.2.1,st.2.2.2.2.1,st.2.2.2.2.2.1,st.2.2.2.2.2.2.1,st.2.2.2.2.2.2.2.1,st.2.2.2.2.2.2.2.2.1,st.2.2.2.2.2.2.2.2.2.1,st.2.2.2.2.2.2.2.2.2.2.1,st.2.2.2.2.2.2.2.2.2.2.2.1,st.2.2.2.2.2.2.2.2.2.2.2.2.1,st.2.2.2.2.2.2.2.2.2.2.2.2.2.1,st.2.2.2.2.2.2.2.2.2.2.2.2.2.2.1,st.2.2.2.2.2.2.2.2.2.2.2.2.2.2.2.1,st.2.2.2.2.2.2.2.2.2.2.2.2.2.2.2.2.1,st.2.2.2.2.2.2.2.2.2.2.2.2.2.2.2.2.2.1,st.2.2.2.2.2.2.2.2.2.2.2.2.2.2.2.2.2.2.1,st.2.2.2.2.2.2.2.2.2.2.2.2.2.2.2.2.2.2.2.1,st.2.2.2.2.2.2.2.2.2.2.2.2.2.2.2.2.2.2.2.2))
def iF (w:ah)(id:Int):Option (Unit×ah):=bd (tk w.r.Shelf id) λrA=>
 bd (Loop (lc rA) (0,rA.1.L,w.r.c8.jH,w.r.c8.L,w.r.dp.L,w.r.Seen,w.o.Client,w.o.Seq,w.o.Kind,w.o.Path,w.o.Value,w.o.Version,w.o.Session,w.o.Span,w.x.Client,w.x.Seq,w.x.E,w.x.Value,w.x.Version,w.x.Names,w.l)) λw1=>
 some ((),(⟨(⟨(⟨w1.1⟩:ap),(⟨w1.2.1,w1.2.2.1⟩:aC),(⟨w1.2.2.2.1⟩:aX),w1.2.2.2.2.1⟩:ax),(⟨w1.2.2.2.2.2.1,w1.2.2.2.2.2.2.1,w1.2.2.2.2.2.2.2.1,w1.2.2.2.2.2.2.2.2.1,w1.2.2.2.2.2.2.2.2.2.1,w1.2.2.2.2.2.2.2.2.2.2.1,w1.2.2.2.2.2.2.2.2.2.2.2.1,w1.2.2.2.2.2.2.2.2.2.2.2.2.1⟩:ab),(⟨w1.2.2.2.2.2.2.2.2.2.2.2.2.2.1,w1.2.2.2.2.2.2.2.2.2.2.2.2.2.2.1,w1.2.2.2.2.2.2.2.2.2.2.2.2.2.2.2.1,w1.2.2.2.2.2.2.2.2.2.2.2.2.2.2.2.2.1,w1.2.2.2.2.2.2.2.2.2.2.2.2.2.2.2.2.2.1,w1.2.2.2.2.2.2.2.2.2.2.2.2.2.2.2.2.2.2.1⟩:ae),w1.2.2.2.2.2.2.2.2.2.2.2.2.2.2.2.2.2.2.2⟩:ah))
def jL (w:ah):Option (Unit×ah):=bd (q0 w.r.c8 w.o.Session) λrA=>
 bd (if rA.2=0 then
  bd (iF (⟨(⟨w.r.Shelf,rA.1,w.r.dp,w.r.Seen⟩:ax),w.o,(⟨w.x.Client,w.x.Seq,rA.2,w.x.Value,w.x.Version,w.x.Names⟩:ae),w.l⟩:ah) w.o.Session) λaB=>
  some (aB.2.r.Shelf.L,aB.2.r.c8.jH,aB.2.r.c8.L,aB.2.r.dp.L,aB.2.r.Seen,aB.2.o.Client,aB.2.o.Seq,aB.2.o.Kind,aB.2.o.Path,aB.2.o.Value,aB.2.o.Version,aB.2.o.Session,aB.2.o.Span,aB.2.x.Client,aB.2.x.Seq,aB.2.x.E,aB.2.x.Value,aB.2.x.Version,aB.2.x.Names,aB.2.l)
  else
  some (w.r.Shelf.L,rA.1.jH,rA.1.L,w.r.dp.L,w.r.Seen,w.o.Client,w.o.Seq,w.o.Kind,w.o.Path,w.o.Value,w.o.Version,w.o.Session,w.o.Span,w.x.Client,w.x.Seq,rA.2,w.x.Value,w.x.Version,w.x.Names,w.l):Option ((List av)×Int×(List ak)×(List aq)×(List ae)×Int×Int×Int×(List UInt8)×(List UInt8)×Int×Int×Int×Int×Int×Int×(List UInt8)×Int×(List (List UInt8))×(List ay))) λw1=>
 some ((),(⟨(⟨(⟨w1.1⟩:ap),(⟨w1.2.1,w1.2.2.1⟩:aC),(⟨w1.2.2.2.1⟩:aX),w1.2.2.2.2.1⟩:ax),(⟨w1.2.2.2.2.2.1,w1.2.2.2.2.2.2.1,w1.2.2.2.2.2.2.2.1,w1.2.2.2.2.2.2.2.2.1,w1.2.2.2.2.2.2.2.2.2.1,w1.2.2.2.2.2.2.2.2.2.2.1,w1.2.2.2.2.2.2.2.2.2.2.2.1,w1.2.2.2.2.2.2.2.2.2.2.2.2.1⟩:ab),(⟨w1.2.2.2.2.2.2.2.2.2.2.2.2.2.1,w1.2.2.2.2.2.2.2.2.2.2.2.2.2.2.1,w1.2.2.2.2.2.2.2.2.2.2.2.2.2.2.2.1,w1.2.2.2.2.2.2.2.2.2.2.2.2.2.2.2.2.1,w1.2.2.2.2.2.2.2.2.2.2.2.2.2.2.2.2.2.1,w1.2.2.2.2.2.2.2.2.2.2.2.2.2.2.2.2.2.2.1⟩:ae),w1.2.2.2.2.2.2.2.2.2.2.2.2.2.2.2.2.2.2.2⟩:ah))
def sb (b:aC)(now:Int)(st:(List Int)×Int×(List ak)×Int):Option (((List Int)×Int×(List ak)×Int)⊕((List Int)×Int×(List ak))):=if st.2.2.2<(b.L.length:Int) then
 ix b.L st.2.2.2 λy=>
 if y.At<=now then
 if (st.1.length+([y.Id]:List Int).length) *8<=2^46 then
 some (.inl (st.1++([y.Id]:List Int),st.2.1,st.2.2.1,bB .i64 (st.2.2.2+1)))
 else none
 else
 if (st.2.2.1.length+([y]:List ak).length) *24<=2^46 then
 some (.inl (st.1,st.2.1,st.2.2.1++([y]:List ak),bB .i64 (st.2.2.2+1)))
 else none
 else
 some (.inr (st.1,st.2.1,st.2.2.1))
def tl (b:aC)(now:Int):Option (aC×(List Int)×Int):=if now<b.jH then
 some (b,([]:List Int),15)
 else
 if (1000000000:Int)<now then
 some (b,([]:List Int),5)
 else
 bd (Loop (sb b now) (([]:List Int),now,([]:List ak),0)) λw=>
 some ((⟨w.2.1,w.2.2⟩:aC),w.1,0)
def lf (rA:aC×(List Int)×Int)(st:Int×(List av)×Int×(List ak)×(List aq)×(List ae)×Int×Int×Int×(List UInt8)×(List UInt8)×Int×Int×Int×Int×Int×Int×(List UInt8)×Int×(List (List UInt8))×(List ay)):Option ((Int×(List av)×Int×(List ak)×(List aq)×(List ae)×Int×Int×Int×(List UInt8)×(List UInt8)×Int×Int×Int×Int×Int×Int×(List UInt8)×Int×(List (List UInt8))×(List ay))⊕((List av)×Int×(List ak)×(List aq)×(List ae)×Int×Int×Int×(List UInt8)×(List UInt8)×Int×Int×Int×Int×Int×Int×(List UInt8)×Int×(List (List UInt8))×(List ay))):=if st.1<(rA.2.1.length:Int) then
 ix rA.2.1 st.1 λy=>
 bd (iF (⟨(⟨(⟨st.2.1⟩:ap),(⟨st.2.2.1,st.2.2.2.1⟩:aC),(⟨st.2.2.2.2.1⟩:aX),st.2.2.2.2.2.1⟩:ax),(⟨st.2.2.2.2.2.2.1,st.2.2.2.2.2.2.2.1,st.2.2.2.2.2.2.2.2.1,st.2.2.2.2.2.2.2.2.2.1,st.2.2.2.2.2.2.2.2.2.2.1,st.2.2.2.2.2.2.2.2.2.2.2.1,st.2.2.2.2.2.2.2.2.2.2.2.2.1,st.2.2.2.2.2.2.2.2.2.2.2.2.2.1⟩:ab),(⟨st.2.2.2.2.2.2.2.2.2.2.2.2.2.2.1,st.2.2.2.2.2.2.2.2.2.2.2.2.2.2.2.1,st.2.2.2.2.2.2.2.2.2.2.2.2.2.2.2.2.1,st.2.2.2.2.2.2.2.2.2.2.2.2.2.2.2.2.2.1,st.2.2.2.2.2.2.2.2.2.2.2.2.2.2.2.2.2.2.1,st.2.2.2.2.2.2.2.2.2.2.2.2.2.2.2.2.2.2.2.1⟩:ae),st.2.2.2.2.2.2.2.2.2.2.2.2.2.2.2.2.2.2.2.2⟩:ah) y) λaB=>
 some (.inl (bB .i64 (st.1+1),aB.2.r.Shelf.L,aB.2.r.c8.jH,aB.2.r.c8.L,aB.2.r.dp.L,aB.2.r.Seen,aB.2.o.Client,aB.2.o.Seq,aB.2.o.Kind,aB.2.o.Path,aB.2.o.Value,aB.2.o.Version,aB.2.o.Session,aB.2.o.Span,aB.2.x.Client,aB.2.x.Seq,aB.2.x.E,aB.2.x.Value,aB.2.x.Version,aB.2.x.Names,aB.2.l))
 else
 some (.inr (st.2.1,st.2.2.1,st.2.2.2.1,st.2.2.2.2.1,st.2.2.2.2.2.1,st.2.2.2.2.2.2.1,st.2.2.2.2.2.2.2.1,st.2.2.2.2.2.2.2.2.1,st.2.2.2.2.2.2.2.2.2.1,st.2.2.2.2.2.2.2.2.2.2.1,st.2.2.2.2.2.2.2.2.2.2.2.1,st.2.2.2.2.2.2.2.2.2.2.2.2.1,st.2.2.2.2.2.2.2.2.2.2.2.2.2.1,st.2.2.2.2.2.2.2.2.2.2.2.2.2.2.1,st.2.2.2.2.2.2.2.2.2.2.2.2.2.2.2.1,st.2.2.2.2.2.2.2.2.2.2.2.2.2.2.2.2.1,st.2.2.2.2.2.2.2.2.2.2.2.2.2.2.2.2.2.1,st.2.2.2.2.2.2.2.2.2.2.2.2.2.2.2.2.2.2.1,st.2.2.2.2.2.2.2.2.2.2.2.2.2.2.2.2.2.2.2.1,st.2.2.2.2.2.2.2.2.2.2.2.2.2.2.2.2.2.2.2.2))
def kG (w:ah):Option (Unit×ah):=bd (tl w.r.c8 w.o.Span) λrA=>
 if !decide (rA.2.2=0) then
 some ((),(⟨w.r,w.o,(⟨w.x.Client,w.x.Seq,rA.2.2,w.x.Value,w.x.Version,w.x.Names⟩:ae),w.l⟩:ah))
 else
 bd (Loop (lf rA) (0,w.r.Shelf.L,rA.1.jH,rA.1.L,w.r.dp.L,w.r.Seen,w.o.Client,w.o.Seq,w.o.Kind,w.o.Path,w.o.Value,w.o.Version,w.o.Session,w.o.Span,w.x.Client,w.x.Seq,rA.2.2,w.x.Value,rA.1.jH,w.x.Names,w.l)) λw1=>
 some ((),(⟨(⟨(⟨w1.1⟩:ap),(⟨w1.2.1,w1.2.2.1⟩:aC),(⟨w1.2.2.2.1⟩:aX),w1.2.2.2.2.1⟩:ax),(⟨w1.2.2.2.2.2.1,w1.2.2.2.2.2.2.1,w1.2.2.2.2.2.2.2.1,w1.2.2.2.2.2.2.2.2.1,w1.2.2.2.2.2.2.2.2.2.1,w1.2.2.2.2.2.2.2.2.2.2.1,w1.2.2.2.2.2.2.2.2.2.2.2.1,w1.2.2.2.2.2.2.2.2.2.2.2.2.1⟩:ab),(⟨w1.2.2.2.2.2.2.2.2.2.2.2.2.2.1,w1.2.2.2.2.2.2.2.2.2.2.2.2.2.2.1,w1.2.2.2.2.2.2.2.2.2.2.2.2.2.2.2.1,w1.2.2.2.2.2.2.2.2.2.2.2.2.2.2.2.2.1,w1.2.2.2.2.2.2.2.2.2.2.2.2.2.2.2.2.2.1,w1.2.2.2.2.2.2.2.2.2.2.2.2.2.2.2.2.2.2.1⟩:ae),w1.2.2.2.2.2.2.2.2.2.2.2.2.2.2.2.2.2.2.2⟩:ah))
def e9 (sA:List aq)(v:aq)(st:Int):Option (Int⊕(Unit⊕Int)):=if st<(sA.length:Int) then
 ix sA st λy=>
 if ((decide (v.Path=y.Path))&&((decide (v.Client=y.Client))&&(decide (v.Kids=y.Kids)))) then
 some (.inr (.inr st))
 else
 some (.inl (bB .i64 (st+1)))
 else
 some (.inr (.inl ()))
def eD (sA:List aq)(v:aq):Option Int:=bd (Loop (e9 sA v) 0) λw=>
 match w with
 | .inl p1=>some (-1)
 | .inr p2=>some p2
def dE (sA:List aq)(v:aq):Option Bool:=bd (eD sA v) λrA=>some (decide ((0:Int)<=rA))
def wO (t:aX)(w:aq):Option (aX×Int):=bd (kc w.Path) λrA=>
 if !rA then
 some (t,13)
 else
 if w.Client<0 then
 some (t,1)
 else
 bd (dE t.L w) λaB=>
 if aB then
 some (t,0)
 else
 if (200:Int)<=(t.L.length:Int) then
 some (t,9)
 else
 bd (jG 32 t.L) λbK=>
 if (bK.length+([w]:List aq).length) *32<=2^46 then
 some ((⟨bK++([w]:List aq)⟩:aX),0)
 else none
def jM (w:ah):Option (Unit×ah):=bd (wO w.r.dp (⟨w.o.Path,w.o.Client,decide (w.o.Kind=11)⟩:aq)) λrA=>some ((),(⟨(⟨w.r.Shelf,w.r.c8,rA.1,w.r.Seen⟩:ax),w.o,(⟨w.x.Client,w.x.Seq,rA.2,w.x.Value,w.x.Version,w.x.Names⟩:ae),w.l⟩:ah))
def tp:Option (List Nat):=some ([(105:Nat),(106:Nat),(107:Nat),(108:Nat),(109:Nat),(110:Nat),(111:Nat),(112:Nat),(113:Nat),(114:Nat),(115:Nat),(115:Nat)]:List Nat)
def ni (c:ay)(w:aq):Option Bool:=bd (if c.Kind<1 then
  some true
  else
  if (3:Int)<c.Kind then
  some true
  else
  bd (kc c.Path) λrA=>
  some (!rA):Option Bool) λw1=>
 if w1 then
 some false
 else
 if !w.Kids then
 some (decide (c.Path=w.Path))
 else
 bd (oq c.Path) λaB=>
 bd (if aB.2=0 then
  if !decide (c.Kind=2) then
  some (decide (aB.1=w.Path))
  else
  some false
  else
  some false:Option Bool) λw2=>
 some w2
def o4 (w:aq)(c:ay)(c1:List aO):Option (Bool×(List aO)):=bd (ni c w) λrA=>
 bd (if rA then
  if (c1.length+([(⟨w,c⟩:aO)]:List aO).length) *56<=2^46 then
  some (c1++([(⟨w,c⟩:aO)]:List aO))
  else none
  else
  some c1:Option (List aO)) λw1=>
 some (rA,w1)
def sd (lA:List ay)(st:(List aq)×(List aO)×Int):Option (((List aq)×(List aO)×Int)⊕((List aq)×(List aO))):=if st.2.2<(lA.length:Int) then
 ix lA st.2.2 λy=>
 bd (Ec (λu sA=>o4 u y sA) st.2.1 st.1) λaB=>
 some (.inl (aB.1,aB.2,bB .i64 (st.2.2+1)))
 else
 some (.inr (st.1,st.2.1))
def tq (t:aX)(lA:List ay):Option (aX×(List aO)):=bd (jG 32 t.L) λrA=>
 bd (Loop (sd lA) (rA,([]:List aO),0)) λw=>
 some ((⟨w.1⟩:aX),w.2)
def nj (k:Nat)(x0:ah):Option (Unit×ah):=if k=105 then gO x0 else if k=106 then iU x0 else if k=107 then lM x0 else if k=108 then lN x0 else if k=109 then iW x0 else if k=110 then kE x0 else if k=111 then kF x0 else if k=112 then jK x0 else if k=113 then jL x0 else if k=114 then kG x0 else if k=115 then jM x0 else none
def q8 (a:ax)(a1:ab):Option (ax×ae×(List aO)):=bd (jJ a a1) λrA=>
 if rA.2 then
 some (a,rA.1,([]:List aO))
 else
 bd (tp) λaB=>
 ix aB a1.Kind λy=>
 bd (nj y (⟨a,a1,rA.1,([]:List ay)⟩:ah)) λbK=>
 bd (tq bK.2.r.dp bK.2.l) λqC=>
 bd (jG 72 a.Seen) λHT=>
 bd (gD a a1.Client) λHU=>
 bd (if HU.2 then
  ix HT HU.1 λy1=>
  some (bK.2.r.Shelf.L,bK.2.r.c8.jH,bK.2.r.c8.L,qC.1.L,HT.set (sh HU.1) bK.2.x,bK.2.o.Client,bK.2.o.Seq,bK.2.o.Kind,bK.2.o.Path,bK.2.o.Value,bK.2.o.Version,bK.2.o.Session,bK.2.o.Span,bK.2.x.Client,bK.2.x.Seq,bK.2.x.E,bK.2.x.Value,bK.2.x.Version,bK.2.x.Names,bK.2.l)
  else
  bd (u5 72 HT HU.1 ([bK.2.x]:List ae)) λzL=>
  some (bK.2.r.Shelf.L,bK.2.r.c8.jH,bK.2.r.c8.L,qC.1.L,zL,bK.2.o.Client,bK.2.o.Seq,bK.2.o.Kind,bK.2.o.Path,bK.2.o.Value,bK.2.o.Version,bK.2.o.Session,bK.2.o.Span,bK.2.x.Client,bK.2.x.Seq,bK.2.x.E,bK.2.x.Value,bK.2.x.Version,bK.2.x.Names,bK.2.l):Option ((List av)×Int×(List ak)×(List aq)×(List ae)×Int×Int×Int×(List UInt8)×(List UInt8)×Int×Int×Int×Int×Int×Int×(List UInt8)×Int×(List (List UInt8))×(List ay))) λw=>
 some ((⟨(⟨w.1⟩:ap),(⟨w.2.1,w.2.2.1⟩:aC),(⟨w.2.2.2.1⟩:aX),w.2.2.2.2.1⟩:ax),(⟨w.2.2.2.2.2.2.2.2.2.2.2.2.2.1,w.2.2.2.2.2.2.2.2.2.2.2.2.2.2.1,w.2.2.2.2.2.2.2.2.2.2.2.2.2.2.2.1,w.2.2.2.2.2.2.2.2.2.2.2.2.2.2.2.2.1,w.2.2.2.2.2.2.2.2.2.2.2.2.2.2.2.2.2.1,w.2.2.2.2.2.2.2.2.2.2.2.2.2.2.2.2.2.2.1⟩:ae),qC.2)
def se (lA:List ab)(st:(List av)×Int×(List ak)×(List aq)×(List ae)×(List ae)×(List aO)×Int):Option (((List av)×Int×(List ak)×(List aq)×(List ae)×(List ae)×(List aO)×Int)⊕((List av)×Int×(List ak)×(List aq)×(List ae)×(List ae)×(List aO))):=if st.2.2.2.2.2.2.2<(lA.length:Int) then
 ix lA st.2.2.2.2.2.2.2 λy=>
 bd (q8 (⟨(⟨st.1⟩:ap),(⟨st.2.1,st.2.2.1⟩:aC),(⟨st.2.2.2.1⟩:aX),st.2.2.2.2.1⟩:ax) y) λzL=>
 if (st.2.2.2.2.2.1.length+([zL.2.1]:List ae).length) *72<=2^46 then
 if (st.2.2.2.2.2.2.1.length+zL.2.2.length) *56<=2^46 then
 some (.inl (zL.1.Shelf.L,zL.1.c8.jH,zL.1.c8.L,zL.1.dp.L,zL.1.Seen,st.2.2.2.2.2.1++([zL.2.1]:List ae),st.2.2.2.2.2.2.1++zL.2.2,bB .i64 (st.2.2.2.2.2.2.2+1)))
 else none
 else none
 else
 some (.inr (st.1,st.2.1,st.2.2.1,st.2.2.2.1,st.2.2.2.2.1,st.2.2.2.2.2.1,st.2.2.2.2.2.2.1))
def tu (rA:ax)(lA:List ab):Option (ax×(List ae)×(List aO)):=bd (Loop (se lA) (rA.Shelf.L,rA.c8.jH,rA.c8.L,rA.dp.L,rA.Seen,([]:List ae),([]:List aO),0)) λw=>some ((⟨(⟨w.1⟩:ap),(⟨w.2.1,w.2.2.1⟩:aC),(⟨w.2.2.2.1⟩:aX),w.2.2.2.2.1⟩:ax),w.2.2.2.2.2.1,w.2.2.2.2.2.2)
def q9 (rA:ax)(sA:List UInt8):Option (ax×(List ae)×Int):=bd (cW sA) λaB=>
 if !decide (aB.2=0) then
 some (rA,([]:List ae),aB.2)
 else
 bd (tu rA aB.1) λbK=>
 some (bK.1,bK.2.1,0)
def qg:Option Bool:=bd (dP ([(⟨1,1,1,([47,97]:List UInt8),([]:List UInt8),0,0,0⟩:ab)]:List ab)) λrA=>
 bd (wL) λaB=>
 bd (q9 aB rA.1) λbK=>
 bd (cW ([]:List UInt8)) λqC=>
 bd (if rA.2=0 then
  if bK.2.2=0 then
  if (bK.2.1.length:Int)=1 then
  if (bK.1.Shelf.L.length:Int)=2 then
  some (decide (qC.2=3))
  else
  some false
  else
  some false
  else
  some false
  else
  some false:Option Bool) λw=>
 some w
def Cz (a:List dK)(b:List dK)(st:Int):Option (Int⊕(Unit⊕Bool)):=if st<(a.length:Int) then
 ix a st λy=>
 ix b st λy1=>
 if !((decide (y.Client=y1.Client))&&((decide (y.Seq=y1.Seq))&&((decide (y.Kind=y1.Kind))&&((decide (y.Path=y1.Path))&&((decide (y.Value=y1.Value))&&((decide (y.Version=y1.Version))&&((decide (y.Session=y1.Session))&&(decide (y.Span=y1.Span))))))))) then
 some (.inr (.inr false))
 else
 some (.inl (bB .i64 (st+1)))
 else
 some (.inr (.inl ()))
def Av (a:List dK)(b:List dK):Option Bool:=if !decide ((a.length:Int)=(b.length:Int)) then
 some false
 else
 bd (Loop (Cz a b) 0) λw=>
 match w with
 | .inl p1=>some true
 | .inr p2=>some p2
def Bn (lA:List ab)(st:(List dK)×Int):Option (((List dK)×Int)⊕(List dK)):=if st.2<(lA.length:Int) then
 ix lA st.2 λy=>
 if (st.1.length+([(⟨y.Client,y.Seq,y.Kind,y.Path,y.Value,y.Version,y.Session,y.Span⟩:dK)]:List dK).length) *80<=2^46 then
 some (.inl (st.1++([(⟨y.Client,y.Seq,y.Kind,y.Path,y.Value,y.Version,y.Session,y.Span⟩:dK)]:List dK),bB .i64 (st.2+1)))
 else none
 else
 some (.inr st.1)
def Bo (lA:List ab):Option (List dK):=bd (Loop (Bn lA) (([]:List dK),0)) λw=>some w
def qD (a:List ab)(a1:List UInt8):Option Bool:=bd (bd (wI a) λrA=>
  if !rA then
  some true
  else
  some (decide ((6000:Int)<(a1.length:Int))):Option Bool) λw=>
 if w then
 bd (qg) λaB=>
 some aB
 else
 bd (dP a) λbK=>
 bd (cW bK.1) λqC=>
 bd (if bK.2=0 then
  if !decide (qC.2=0) then
  some true
  else
  bd (Bo qC.1) λHT=>
  bd (Bo a) λHU=>
  bd (Av HT HU) λzL=>
  if !zL then
  some true
  else
  if !decide (bK.2=0) then
  some (!decide (bK.1=([]:List UInt8)))
  else
  some false
  else
  if !decide (bK.2=0) then
  some (!decide (bK.1=([]:List UInt8)))
  else
  some false:Option Bool) λw1=>
 if w1 then
 some false
 else
 bd (cW a1) λUC=>
 bd (dP UC.1) λV8=>
 bd (bd (qg) λrA9=>
  if rA9 then
  if !decide (UC.2=0) then
  some true
  else
  if V8.2=0 then
  some (decide (V8.1=a1))
  else
  some false
  else
  some false:Option Bool) λw2=>
 some w2
end
end Dn.S
