import Derived.Test.YtbkodohojpchjaaGreatDoorDnD
/-
  The functions, on typed values. Conditions: none.
-/
set_option linter.unusedVariables false
set_option linter.unusedSimpArgs false
open Go.IntKind renaming wrap→aQ,bits→AI
open Int renaming toNat→sh,tmod→By,fdiv→BY,tdiv→IN
open List renaming drop→AS,take→AT,replicate→IT
open Go Dn
set_option maxRecDepth 100000
namespace Dn.S
noncomputable section
structure dX where
 Path:List UInt8
 Value:List UInt8
 Version:Int
 Jb:Int
deriving DecidableEq
structure Lg where
 L:List dX
deriving DecidableEq
structure wE where
 Id:Int
 Span:Int
 R5:Int
deriving DecidableEq
structure Fi where
 Now:Int
 L:List wE
deriving DecidableEq
structure vl where
 Path:List UInt8
 Client:Int
 Kids:Bool
deriving DecidableEq
structure Lh where
 L:List vl
deriving DecidableEq
structure vo where
 Client:Int
 Seq:Int
 E:Int
 Value:List UInt8
 Version:Int
 Names:List (List UInt8)
deriving DecidableEq
structure qe where
 Shelf:Lg
 acM:Fi
 Xi:Lh
 Seen:List vo
deriving DecidableEq
structure ab where
 Client:Int
 Seq:Int
 Kind:Int
 Path:List UInt8
 Value:List UInt8
 Version:Int
 Session:Int
 Span:Int
deriving DecidableEq
@[reducible] def G8 (x : ab) : List MV := [.i .i64 x.Client, .i .i64 x.Seq, .i .i64 x.Kind, .s x.Path, .s x.Value, .i .i64 x.Version, .i .i64 x.Session, .i .i64 x.Span]
@[reducible] def aR (x : ab) : MV := .agg (G8 x)
structure Vq where
 Path:List UInt8
 Value:List UInt8
 Version:Int
 Jb:Int
deriving DecidableEq
structure R6 where
 L:List Vq
deriving DecidableEq
structure Li where
 Id:Int
 Span:Int
 R5:Int
deriving DecidableEq
structure Vr where
 Now:Int
 L:List Li
deriving DecidableEq
structure Jc where
 Path:List UInt8
 Client:Int
 Kids:Bool
deriving DecidableEq
structure R7 where
 L:List Jc
deriving DecidableEq
structure R8 where
 Client:Int
 Seq:Int
 E:Int
 Value:List UInt8
 Version:Int
 Names:List (List UInt8)
deriving DecidableEq
structure acN where
 Shelf:R6
 acM:Vr
 Xi:R7
 Seen:List R8
deriving DecidableEq
structure y8 where
 Kind:Int
 Path:List UInt8
deriving DecidableEq
structure aar where
 r:qe
 o:ab
 x:vo
 l:List y8
deriving DecidableEq
structure Y1 where
 W:vl
 C:y8
deriving DecidableEq
structure aF where
 Client:Int
 Seq:Int
 Kind:Int
 Path:List UInt8
 Value:List UInt8
 Version:Int
 Session:Int
 Span:Int
deriving DecidableEq
@[reducible] def Lj (x : aF) : List MV := [.i .i64 x.Client, .i .i64 x.Seq, .i .i64 x.Kind, .s x.Path, .s x.Value, .i .i64 x.Version, .i .i64 x.Session, .i .i64 x.Span]
@[reducible] def bV (x : aF) : MV := .agg (Lj x)
structure Oo where
 Kind:Int
 Path:List UInt8
deriving DecidableEq
structure acO where
 W:Jc
 C:Oo
deriving DecidableEq
structure Xj where
 b:List Int
deriving DecidableEq
structure fg where
 state:List Int
 left:List Int
 long:Int
deriving DecidableEq
@[reducible] def cQ (x : fg) : List MV := [.h .u32 6 x.state, .list (x.left.map (MV.i .u8)), .i .i64 x.long]
def aK (o:ab):Option ab:=if o.Kind=1 then
 some (⟨o.Client,o.Seq,o.Kind,o.Path,o.Value,0,o.Session,0⟩:ab)
 else
 bd (if o.Kind=2 then
  some (decide (o.Kind=2))
  else
  bd (if o.Kind=5 then
   some (decide (o.Kind=5))
   else
   bd (if o.Kind=10 then
    some (decide (o.Kind=10))
    else
    some (decide (o.Kind=11)):Option Bool) λw2=>
   some w2:Option Bool) λw1=>
  some w1:Option Bool) λw=>
 if w then
 some (⟨o.Client,o.Seq,o.Kind,o.Path,([]:List UInt8),0,0,0⟩:ab)
 else
 if o.Kind=3 then
 some (⟨o.Client,o.Seq,o.Kind,o.Path,o.Value,o.Version,0,0⟩:ab)
 else
 if o.Kind=4 then
 some (⟨o.Client,o.Seq,o.Kind,o.Path,([]:List UInt8),o.Version,0,0⟩:ab)
 else
 if o.Kind=6 then
 some (⟨o.Client,o.Seq,o.Kind,([]:List UInt8),([]:List UInt8),0,o.Session,o.Span⟩:ab)
 else
 bd (if o.Kind=7 then
  some (decide (o.Kind=7))
  else
  some (decide (o.Kind=8)):Option Bool) λw3=>
 if w3 then
 some (⟨o.Client,o.Seq,o.Kind,([]:List UInt8),([]:List UInt8),0,o.Session,0⟩:ab)
 else
 if o.Kind=9 then
 some (⟨o.Client,o.Seq,o.Kind,([]:List UInt8),([]:List UInt8),0,0,o.Span⟩:ab)
 else
 some (⟨o.Client,o.Seq,o.Kind,([]:List UInt8),([]:List UInt8),0,0,0⟩:ab)
def cE (o:ab):Option Bool:=bd (if (0:Int)<=o.Client then
  if o.Client<=1000 then
  if (1:Int)<=o.Seq then
  some (decide (o.Seq<=1000000000))
  else
  some false
  else
  some false
  else
  some false:Option Bool) λw=>
 bd (if w then
  if (0:Int)<=o.Kind then
  if o.Kind<=11 then
  if (o.Path.length:Int)<=100 then
  if (o.Value.length:Int)<=1000 then
  bd (aK o) λrA=>
  some ((decide (o.Client=rA.Client))&&((decide (o.Seq=rA.Seq))&&((decide (o.Kind=rA.Kind))&&((decide (o.Path=rA.Path))&&((decide (o.Value=rA.Value))&&((decide (o.Version=rA.Version))&&((decide (o.Session=rA.Session))&&(decide (o.Span=rA.Span)))))))))
  else
  some false
  else
  some false
  else
  some false
  else
  some false
  else
  some false:Option Bool) λw1=>
 some w1
def sD (kind:Int):Option (List UInt8):=if kind=1 then
 some ([112,118,115]:List UInt8)
 else
 bd (if kind=2 then
  some (decide (kind=2))
  else
  bd (if kind=5 then
   some (decide (kind=5))
   else
   bd (if kind=10 then
    some (decide (kind=10))
    else
    some (decide (kind=11)):Option Bool) λw2=>
   some w2:Option Bool) λw1=>
  some w1:Option Bool) λw=>
 if w then
 some ([112]:List UInt8)
 else
 if kind=3 then
 some ([112,118,110]:List UInt8)
 else
 if kind=4 then
 some ([112,110]:List UInt8)
 else
 if kind=6 then
 some ([115,116]:List UInt8)
 else
 bd (if kind=7 then
  some (decide (kind=7))
  else
  some (decide (kind=8)):Option Bool) λw3=>
 if w3 then
 some ([115]:List UInt8)
 else
 if kind=9 then
 some ([116]:List UInt8)
 else
 some ([]:List UInt8)
def sE (sA:List UInt8)(c:Int)(st:Int):Option (Int⊕(Unit⊕Bool)):=if st<(sA.length:Int) then
 if (0:Int)<=st/\st<(sA.length:Int) then
 if ((sA.getD (sh st) 0).toNat:Int)=c then
 some (.inr (.inr true))
 else
 some (.inl (aQ .i64 (st+1)))
 else none
 else
 some (.inr (.inl ()))
def dC (sA:List UInt8)(c:Int):Option Bool:=bd (Loop (sE sA c) 0) λw=>
 match w with
 | .inl p1=>some false
 | .inr p2=>some p2
def qf (a:aF):Option Bool:=bd (if a.Client<0 then
  some true
  else
  if (1000:Int)<a.Client then
  some true
  else
  if a.Seq<1 then
  some true
  else
  if (1000000000:Int)<a.Seq then
  some true
  else
  if a.Kind<0 then
  some true
  else
  if (11:Int)<a.Kind then
  some true
  else
  if (100:Int)<(a.Path.length:Int) then
  some true
  else
  some (decide ((1000:Int)<(a.Value.length:Int))):Option Bool) λw=>
 if w then
 some false
 else
 bd (sD a.Kind) λrA=>
 bd (bd (dC rA 112) λcT=>
  if cT then
  bd (dC rA 118) λfL=>
  if fL then
  some true
  else
  some (decide (a.Value=([]:List UInt8)))
  else
  if a.Path=([]:List UInt8) then
  bd (dC rA 118) λmW=>
  if mW then
  some true
  else
  some (decide (a.Value=([]:List UInt8)))
  else
  some false:Option Bool) λw1=>
 bd (if w1 then
  bd (dC rA 110) λsF=>
  if sF then
  bd (dC rA 115) λxy=>
  if xy then
  bd (dC rA 116) λxz=>
  if xz then
  some true
  else
  some (decide (a.Span=0))
  else
  if a.Session=0 then
  bd (dC rA 116) λy9=>
  if y9 then
  some true
  else
  some (decide (a.Span=0))
  else
  some false
  else
  if a.Version=0 then
  bd (dC rA 115) λPl=>
  if Pl then
  bd (dC rA 116) λR9=>
  if R9 then
  some true
  else
  some (decide (a.Span=0))
  else
  if a.Session=0 then
  bd (dC rA 116) λBP=>
  if BP then
  some true
  else
  some (decide (a.Span=0))
  else
  some false
  else
  some false
  else
  some false:Option Bool) λw2=>
 some w2
def mr (st:Int×Int):Option ((Int×Int)⊕Int):=if (0:Int)<st.1 then
 if !decide ((256:Int)=0) then
 some (.inl (aQ .u64 (IN st.1 256),aQ .i64 (st.2+1)))
 else none
 else
 some (.inr st.2)
def sG (n:Int):Option Int:=bd (Loop mr (n,1)) λw=>some w
def oX (st:(List Int)×Int)(aT:Int×Int):Option ((Int×Int)⊕Int):=if aT.2<st.2 then
 if !decide ((256:Int)=0) then
 some (.inl (aQ .u64 (IN aT.1 256),aQ .i64 (aT.2+1)))
 else none
 else
 some (.inr aT.1)
def oY (n:Int)(st:(List Int)×Int):Option (((List Int)×Int)⊕(List Int)):=if (0:Int)<=st.2 then
 bd (Loop (oX st) (n,0)) λw1=>
 if !decide ((256:Int)=0) then
 if (st.1.length+([aQ .u8 (By w1 256)]:List Int).length) *1<=2^46 then
 some (.inl (st.1++([aQ .u8 (By w1 256)]:List Int),aQ .i64 (st.2-1)))
 else none
 else none
 else
 some (.inr st.1)
def nE (b:List Int)(n:Int):Option (List Int):=if (([]:List Int).length+b.length) *1<=2^46 then
 bd (sG n) λrA=>
 if ((([]:List Int)++b).length+([aQ .u8 (aQ .i64 (rA-1))]:List Int).length) *1<=2^46 then
 bd (Loop (oY n) ((([]:List Int)++b)++([aQ .u8 (aQ .i64 (rA-1))]:List Int),aQ .i64 ((aQ .i64 (rA-1))-1))) λw=>
 some w
 else none
 else none
def wF (b:List Int)(n:Int):Option (List Int):=if n<0 then
 bd (nE b (aQ .u64 ((aQ .u64 (2 *(aQ .u64 (aQ .i64 (0-(aQ .i64 (n+1)))))))+1))) λrA=>
 some rA
 else
 bd (nE b (aQ .u64 (2 *(aQ .u64 n)))) λcT=>
 some cT
def oZ (b:List Int)(sA:List UInt8):Option (List Int):=bd (nE b (aQ .u64 (sA.length:Int))) λrA=>
 if (rA.length+(gj sA).length) *1<=2^46 then
 some (rA++(gj sA))
 else none
def sH (lA:List ab)(st:Int):Option (Int⊕(Unit⊕Bool)):=if st<(lA.length:Int) then
 bd (if st=30 then
  some true
  else
  ix lA st λy=>
  if (200:Int)<(y.Path.length:Int) then
  some true
  else
  ix lA st λy1=>
  some (decide ((1100:Int)<(y1.Value.length:Int))):Option Bool) λw1=>
 if w1 then
 some (.inr (.inr false))
 else
 some (.inl (aQ .i64 (st+1)))
 else
 some (.inr (.inl ()))
def o4 (lA:List ab):Option Bool:=bd (Loop (sH lA) 0) λw=>
 match w with
 | .inl p1=>some true
 | .inr p2=>some p2
def qg (x:Int):Option Int:=bd (if (4294967296:Int)<=x then
  if (0:Int)<=32 then
  some (BY x (2^min (sh 32) (AI .u64)),32)
  else none
  else
  some (x,0):Option (Int×Int)) λw=>
 bd (if (65536:Int)<=w.1 then
  if (0:Int)<=16 then
  some (BY w.1 (2^min (sh 16) (AI .u64)),aQ .i64 (w.2+16))
  else none
  else
  some (w.1,w.2):Option (Int×Int)) λw1=>
 bd (if (256:Int)<=w1.1 then
  if (0:Int)<=8 then
  some (BY w1.1 (2^min (sh 8) (AI .u64)),aQ .i64 (w1.2+8))
  else none
  else
  some (w1.1,w1.2):Option (Int×Int)) λw2=>
 if (0:Int)<=(aQ .u8 w2.1)/\(aQ .u8 w2.1)<(((([0,1,2,2,3,3,3,3,4,4,4,4,4,4,4,4,5,5,5,5,5,5,5,5,5,5,5,5,5,5,5,5,6,6,6,6,6,6,6,6,6,6,6,6,6,6,6,6,6,6,6,6,6,6,6,6,6,6,6,6,6,6,6,6]:List UInt8)++([7,7,7,7,7,7,7,7,7,7,7,7,7,7,7,7,7,7,7,7,7,7,7,7,7,7,7,7,7,7,7,7,7,7,7,7,7,7,7,7,7,7,7,7,7,7,7,7,7,7,7,7,7,7,7,7,7,7,7,7,7,7,7,7]:List UInt8))++(([8,8,8,8,8,8,8,8,8,8,8,8,8,8,8,8,8,8,8,8,8,8,8,8,8,8,8,8,8,8,8,8,8,8,8,8,8,8,8,8,8,8,8,8,8,8,8,8,8,8,8,8,8,8,8,8,8,8,8,8,8,8,8,8]:List UInt8)++([8,8,8,8,8,8,8,8,8,8,8,8,8,8,8,8,8,8,8,8,8,8,8,8,8,8,8,8,8,8,8,8,8,8,8,8,8,8,8,8,8,8,8,8,8,8,8,8,8,8,8,8,8,8,8,8,8,8,8,8,8,8,8,8]:List UInt8))).length:Int) then
 some (aQ .i64 (w2.2+(aQ .i64 ((((([0,1,2,2,3,3,3,3,4,4,4,4,4,4,4,4,5,5,5,5,5,5,5,5,5,5,5,5,5,5,5,5,6,6,6,6,6,6,6,6,6,6,6,6,6,6,6,6,6,6,6,6,6,6,6,6,6,6,6,6,6,6,6,6]:List UInt8)++([7,7,7,7,7,7,7,7,7,7,7,7,7,7,7,7,7,7,7,7,7,7,7,7,7,7,7,7,7,7,7,7,7,7,7,7,7,7,7,7,7,7,7,7,7,7,7,7,7,7,7,7,7,7,7,7,7,7,7,7,7,7,7,7]:List UInt8))++(([8,8,8,8,8,8,8,8,8,8,8,8,8,8,8,8,8,8,8,8,8,8,8,8,8,8,8,8,8,8,8,8,8,8,8,8,8,8,8,8,8,8,8,8,8,8,8,8,8,8,8,8,8,8,8,8,8,8,8,8,8,8,8,8]:List UInt8)++([8,8,8,8,8,8,8,8,8,8,8,8,8,8,8,8,8,8,8,8,8,8,8,8,8,8,8,8,8,8,8,8,8,8,8,8,8,8,8,8,8,8,8,8,8,8,8,8,8,8,8,8,8,8,8,8,8,8,8,8,8,8,8,8]:List UInt8))).getD (sh (aQ .u8 w2.1)) 0).toNat:Int))))
 else none
def mu (n:Int):Option Int:=bd (qg n) λrA=>
 if !decide ((8:Int)=0) then
 some (aQ .i64 (1+(aQ .i64 (IN (aQ .i64 (rA+7)) 8))))
 else none
def iX (sA:List Int):Option (List Int):=if (sA.length:Int)=(sA.length:Int)/\(sA.length:Int)=(sA.length:Int) then
 some sA
 else none
def kU (n:Int)(st:(List Int)×Int):Option (((List Int)×Int)⊕(List Int)):=if (0:Int)<=st.2 then
 if (0:Int)<=(aQ .i64 (8 *st.2)) then
 if (st.1.length+([aQ .u8 (BY n (2^min (sh (aQ .i64 (8 *st.2))) (AI .u64)))]:List Int).length) *1<=2^46 then
 some (.inl (st.1++([aQ .u8 (BY n (2^min (sh (aQ .i64 (8 *st.2))) (AI .u64)))]:List Int),aQ .i64 (st.2-1)))
 else none
 else none
 else
 some (.inr st.1)
def kj (b:List Int)(n:Int):Option (List Int):=bd (mu n) λrA=>
 bd (iX b) λcT=>
 if 0<([aQ .u8 (aQ .i64 (rA-1))]:List Int).length/\(cT.length+([aQ .u8 (aQ .i64 (rA-1))]:List Int).length) *1<=2^46 then
 bd (Loop (kU n) (cT++([aQ .u8 (aQ .i64 (rA-1))]:List Int),aQ .i64 ((aQ .i64 (rA-1))-1))) λw=>
 some w
 else none
def kl (b:List Int)(sA:List UInt8):Option (List Int):=bd (kj b (aQ .u64 (sA.length:Int))) λrA=>
 if (rA.length+(gj sA).length) *1<=2^46 then
 some (rA++(gj sA))
 else none
def o6 (b:List Int)(n:Int):Option (List Int):=if (0:Int)<=1 then
 if (0:Int)<=63 then
 bd (kj b (bn .u64 (aQ .u64 ((aQ .u64 n) *2^min (sh 1) (AI .u64))) (aQ .u64 (BY n (2^min (sh 63) (AI .i64)))))) λrA=>
 some rA
 else none
 else none
def lD (lA:List Int)(st:(List Int)×Int):Option (((List Int)×Int)⊕(List Int)):=if st.2<(lA.length:Int) then
 ix lA st.2 λy=>
 bd (o6 st.1 y) λrA=>
 some (.inl (rA,aQ .i64 (st.2+1)))
 else
 some (.inr st.1)
def mw (b:List Int)(lA:List Int):Option (List Int):=bd (Loop (lD lA) (b,0)) λw=>some w
def o8 (b:List Int)(o:ab):Option (List Int):=bd (mw b ([o.Client,o.Seq,o.Kind,o.Version,o.Session,o.Span]:List Int)) λrA=>
 bd (kl rA o.Path) λcT=>
 bd (kl cT o.Value) λfL=>
 some fL
def eI (lA:List ab)(st:(List Int)×Int):Option (((List Int)×Int)⊕((List Int)⊕((List UInt8)×Int))):=if st.2<(lA.length:Int) then
 ix lA st.2 λy=>
 bd (cE y) λcT=>
 if !cT then
 some (.inr (.inr (([]:List UInt8),1)))
 else
 bd (o8 st.1 y) λfL=>
 some (.inl (fL,aQ .i64 (st.2+1)))
 else
 some (.inr (.inl st.1))
def gY (lA:List ab):Option ((List UInt8)×Int):=if (10:Int)<(lA.length:Int) then
 some (([]:List UInt8),5)
 else
 bd (kj ([]:List Int) (aQ .u64 (lA.length:Int))) λrA=>
 bd (Loop (eI lA) (rA,0)) λw=>
 match w with
 | .inl p1=>
  BM p1 λbs=>
  some (bs,0)
 | .inr p2=>some (p2.1,p2.2)
def jE (b:List Int)(y:Int)(st:Int×Int):Option ((Int×Int)⊕Int):=if st.2<((AS (sh 0) (AT (sh (aQ .i64 y)) (AS (sh 1) (AT (sh (b.length:Int)) b)))).length:Int) then
 ix (AS (sh 0) (AT (sh (aQ .i64 y)) (AS (sh 1) (AT (sh (b.length:Int)) b)))) st.2 λy2=>
 if (0:Int)<=8 then
 some (.inl (pG .u64 (aQ .u64 (st.1 *2^min (sh 8) (AI .u64))) (aQ .u64 y2),aQ .i64 (st.2+1)))
 else none
 else
 some (.inr st.1)
def jf (b:List Int):Option (Int×(List Int)×Int):=if (b.length:Int)=0 then
 some (0,([]:List Int),2)
 else
 ix b 0 λy=>
 if (0:Int)<=1/\(1:Int)<=(b.length:Int)/\(b.length:Int)<=(b.length:Int) then
 bd (if (8:Int)<(aQ .i64 y) then
  some true
  else
  if (0:Int)<(aQ .i64 y) then
  if (0:Int)<((AS (sh 1) (AT (sh (b.length:Int)) b)).length:Int) then
  ix (AS (sh 1) (AT (sh (b.length:Int)) b)) 0 λy1=>
  some (decide (y1=0))
  else
  some false
  else
  some false:Option Bool) λw=>
 if w then
 some (0,([]:List Int),3)
 else
 if ((AS (sh 1) (AT (sh (b.length:Int)) b)).length:Int)<(aQ .i64 y) then
 some (0,([]:List Int),2)
 else
 if (0:Int)<=0/\(0:Int)<=(aQ .i64 y)/\(aQ .i64 y)<=((AS (sh 1) (AT (sh (b.length:Int)) b)).length:Int) then
 bd (Loop (jE b y) (0,0)) λw1=>
 if (0:Int)<=(aQ .i64 y)/\(aQ .i64 y)<=((AS (sh 1) (AT (sh (b.length:Int)) b)).length:Int)/\((AS (sh 1) (AT (sh (b.length:Int)) b)).length:Int)<=((AS (sh 1) (AT (sh (b.length:Int)) b)).length:Int) then
 some (w1,AS (sh (aQ .i64 y)) (AT (sh ((AS (sh 1) (AT (sh (b.length:Int)) b)).length:Int)) (AS (sh 1) (AT (sh (b.length:Int)) b))),0)
 else none
 else none
 else none
def fC (b:List Int):Option (Int×(List Int)×Int):=bd (jf b) λrA=>
 if (0:Int)<=1 then
 some (bn .i64 (aQ .i64 (BY rA.1 (2^min (sh 1) (AI .u64)))) (aQ .i64 (0-(aQ .i64 (cH .u64 rA.1 1)))),rA.2.1,rA.2.2)
 else none
def eJ (b:List Int)(most:Int):Option ((List UInt8)×(List Int)×Int):=bd (jf b) λrA=>
 if !decide (rA.2.2=0) then
 some (([]:List UInt8),([]:List Int),rA.2.2)
 else
 if (aQ .u64 (imax most 0))<rA.1 then
 some (([]:List UInt8),([]:List Int),5)
 else
 if (aQ .u64 (rA.2.1.length:Int))<rA.1 then
 some (([]:List UInt8),([]:List Int),2)
 else
 if (0:Int)<=0/\(0:Int)<=rA.1/\rA.1<=(rA.2.1.length:Int) then
 BM (AS (sh 0) (AT (sh rA.1) rA.2.1)) λbs=>
 if (0:Int)<=rA.1/\rA.1<=(rA.2.1.length:Int)/\(rA.2.1.length:Int)<=(rA.2.1.length:Int) then
 some (bs,AS (sh rA.1) (AT (sh (rA.2.1.length:Int)) rA.2.1),0)
 else none
 else none
def jF (b:List Int)(e x:Int):Option (Int×List Int×Int):=if e=0 then fC b else some (x,b,e)
def my (b:List Int)(e most:Int):Option (List UInt8×List Int×Int):=if e=0 then eJ b most else some ([],b,e)
def mz (b:List Int):Option (ab×List Int×Int):=bd (jF b 0 0) λr0=>
 bd (jF r0.2.1 r0.2.2 0) λr1=>
 bd (jF r1.2.1 r1.2.2 0) λr2=>
 bd (jF r2.2.1 r2.2.2 0) λr3=>
 bd (jF r3.2.1 r3.2.2 0) λr4=>
 bd (jF r4.2.1 r4.2.2 0) λr5=>
 bd (my r5.2.1 r5.2.2 100) λs0=>
 bd (my s0.2.1 s0.2.2 1000) λs1=>
 if s1.2.2=0 then
 bd (cE (⟨r0.1,r1.1,r2.1,s0.1,s1.1,r3.1,r4.1,r5.1⟩:ab)) λm=>
 if m then some ((⟨r0.1,r1.1,r2.1,s0.1,s1.1,r3.1,r4.1,r5.1⟩:ab),s1.2.1,0)
 else some ((⟨0,0,0,[],[],0,0,0⟩:ab),[],3)
 else some ((⟨0,0,0,[],[],0,0,0⟩:ab),[],s1.2.2)
def eK (rA:Int×(List Int)×Int)(st:(List Int)×(List ab)×Int):Option (((List Int)×(List ab)×Int)⊕(((List Int)×(List ab))⊕((List ab)×Int))):=if st.2.2<((IT (sh rA.1) (⟨0,0,0,([]:List UInt8),([]:List UInt8),0,0,0⟩:ab)).length:Int) then
 bd (mz st.1) λcT=>
 ix st.2.1 st.2.2 λy=>
 if !decide (cT.2.2=0) then
 some (.inr (.inr (([]:List ab),3)))
 else
 some (.inl (cT.2.1,st.2.1.set (sh st.2.2) cT.1,aQ .i64 (st.2.2+1)))
 else
 some (.inr (.inl (st.1,st.2.1)))
def ea (sA:List UInt8):Option ((List ab)×Int):=bd (jf (gj sA)) λrA=>
 bd (if !decide (rA.2.2=0) then
  some true
  else
  some (decide ((10:Int)<rA.1)):Option Bool) λw=>
 if w then
 some (([]:List ab),3)
 else
 if (0:Int)<=rA.1/\rA.1<=rA.1/\rA.1 *80<=2^46 then
 bd (Loop (eK rA) (rA.2.1,IT (sh rA.1) (⟨0,0,0,([]:List UInt8),([]:List UInt8),0,0,0⟩:ab),0)) λw1=>
 match w1 with
 | .inl p1=>
  if (0:Int)<(p1.1.length:Int) then
  some (([]:List ab),3)
  else
  some (p1.2,0)
 | .inr p2=>some (p2.1,p2.2)
 else none
def o9:Option Bool:=some true
def vq (a:List aF)(b:List aF)(st:Int):Option (Int⊕(Unit⊕Bool)):=if st<(a.length:Int) then
 ix a st λy=>
 ix b st λy1=>
 if !((decide (y.Client=y1.Client))&&((decide (y.Seq=y1.Seq))&&((decide (y.Kind=y1.Kind))&&((decide (y.Path=y1.Path))&&((decide (y.Value=y1.Value))&&((decide (y.Version=y1.Version))&&((decide (y.Session=y1.Session))&&(decide (y.Span=y1.Span))))))))) then
 some (.inr (.inr false))
 else
 some (.inl (aQ .i64 (st+1)))
 else
 some (.inr (.inl ()))
def sI (a:List aF)(b:List aF):Option Bool:=if !decide ((a.length:Int)=(b.length:Int)) then
 some false
 else
 bd (Loop (vq a b) 0) λw=>
 match w with
 | .inl p1=>some true
 | .inr p2=>some p2
def tK (lA:List ab)(st:(List aF)×Int):Option (((List aF)×Int)⊕(List aF)):=if st.2<(lA.length:Int) then
 ix lA st.2 λy=>
 if (st.1.length+([(⟨y.Client,y.Seq,y.Kind,y.Path,y.Value,y.Version,y.Session,y.Span⟩:aF)]:List aF).length) *80<=2^46 then
 some (.inl (st.1++([(⟨y.Client,y.Seq,y.Kind,y.Path,y.Value,y.Version,y.Session,y.Span⟩:aF)]:List aF),aQ .i64 (st.2+1)))
 else none
 else
 some (.inr st.1)
def tT (lA:List ab):Option (List aF):=bd (Loop (tK lA) (([]:List aF),0)) λw=>some w
def pa (o:aF)(st:(List Int)×Int):Option (((List Int)×Int)⊕(List Int)):=if st.2<(([o.Client,o.Seq,o.Kind,o.Version,o.Session,o.Span]:List Int).length:Int) then
 ix ([o.Client,o.Seq,o.Kind,o.Version,o.Session,o.Span]:List Int) st.2 λy=>
 bd (wF st.1 y) λrA=>
 some (.inl (rA,aQ .i64 (st.2+1)))
 else
 some (.inr st.1)
def wG (b:List Int)(o:aF):Option (List Int):=bd (Loop (pa o) (b,0)) λw=>
 bd (oZ w o.Path) λcT=>
 bd (oZ cT o.Value) λfL=>
 some fL
def gZ (lA:List aF)(st:(List Int)×Int):Option (((List Int)×Int)⊕((List Int)⊕((List UInt8)×Int))):=if st.2<(lA.length:Int) then
 ix lA st.2 λy=>
 bd (qf y) λcT=>
 if !cT then
 some (.inr (.inr (([]:List UInt8),1)))
 else
 ix lA st.2 λy1=>
 bd (wG st.1 y1) λfL=>
 some (.inl (fL,aQ .i64 (st.2+1)))
 else
 some (.inr (.inl st.1))
def mA (lA:List aF):Option ((List UInt8)×Int):=if (10:Int)<(lA.length:Int) then
 some (([]:List UInt8),5)
 else
 bd (nE ([]:List Int) (aQ .u64 (lA.length:Int))) λrA=>
 bd (Loop (gZ lA) (rA,0)) λw=>
 match w with
 | .inl p1=>
  BM p1 λbs=>
  some (bs,0)
 | .inr p2=>some (p2.1,p2.2)
def mB (b:List Int)(y:Int)(st:Int×Int):Option ((Int×Int)⊕Int):=if st.2<=(aQ .i64 y) then
 ix b st.2 λy2=>
 some (.inl (aQ .u64 ((aQ .u64 (256 *st.1))+(aQ .u64 y2)),aQ .i64 (st.2+1)))
 else
 some (.inr st.1)
def mC (b:List Int):Option (Int×(List Int)×Int):=if (b.length:Int)=0 then
 some (0,([]:List Int),2)
 else
 ix b 0 λy=>
 bd (if (8:Int)<(aQ .i64 y) then
  some true
  else
  if (0:Int)<(aQ .i64 y) then
  if (1:Int)<(b.length:Int) then
  ix b 1 λy1=>
  some (decide (y1=0))
  else
  some false
  else
  some false:Option Bool) λw=>
 if w then
 some (0,([]:List Int),3)
 else
 if (b.length:Int)<(aQ .i64 (1+(aQ .i64 y))) then
 some (0,([]:List Int),2)
 else
 bd (Loop (mB b y) (0,1)) λw1=>
 if (0:Int)<=(aQ .i64 (1+(aQ .i64 y)))/\(aQ .i64 (1+(aQ .i64 y)))<=(b.length:Int)/\(b.length:Int)<=(b.length:Int) then
 some (w1,AS (sh (aQ .i64 (1+(aQ .i64 y)))) (AT (sh (b.length:Int)) b),0)
 else none
def kV (b:List Int):Option (Int×(List Int)×Int):=bd (mC b) λrA=>
 if !decide (rA.2.2=0) then
 some (0,([]:List Int),rA.2.2)
 else
 if !decide ((2:Int)=0) then
 if (By rA.1 2)=1 then
 if !decide ((2:Int)=0) then
 some (aQ .i64 ((aQ .i64 (0-(aQ .i64 (aQ .u64 (IN rA.1 2)))))-1),rA.2.1,0)
 else none
 else
 if !decide ((2:Int)=0) then
 some (aQ .i64 (aQ .u64 (IN rA.1 2)),rA.2.1,0)
 else none
 else none
def km (many:Int)(st:(List Int)×(List Int)×Int):Option (((List Int)×(List Int)×Int)⊕(((List Int)×(List Int))⊕((List Int)×(List Int)×Int))):=if st.2.2<many then
 bd (kV st.1) λrA=>
 if !decide (rA.2.2=0) then
 some (.inr (.inr (([]:List Int),([]:List Int),rA.2.2)))
 else
 if (st.2.1.length+([rA.1]:List Int).length) *8<=2^46 then
 some (.inl (rA.2.1,st.2.1++([rA.1]:List Int),aQ .i64 (st.2.2+1)))
 else none
 else
 some (.inr (.inl (st.1,st.2.1)))
def wH (b:List Int)(many:Int):Option ((List Int)×(List Int)×Int):=bd (Loop (km many) (b,([]:List Int),0)) λw=>
 match w with
 | .inl p1=>some (p1.2,p1.1,0)
 | .inr p2=>some (p2.1,p2.2.1,p2.2.2)
def ia (b:List Int)(most:Int):Option ((List UInt8)×(List Int)×Int):=bd (mC b) λrA=>
 if !decide (rA.2.2=0) then
 some (([]:List UInt8),([]:List Int),rA.2.2)
 else
 if (aQ .u64 (imax most 0))<rA.1 then
 some (([]:List UInt8),([]:List Int),5)
 else
 if (aQ .u64 (rA.2.1.length:Int))<rA.1 then
 some (([]:List UInt8),([]:List Int),2)
 else
 if (0:Int)<=0/\(0:Int)<=rA.1/\rA.1<=(rA.2.1.length:Int) then
 BM (AS (sh 0) (AT (sh rA.1) rA.2.1)) λbs=>
 if (0:Int)<=rA.1/\rA.1<=(rA.2.1.length:Int)/\(rA.2.1.length:Int)<=(rA.2.1.length:Int) then
 some (bs,AS (sh rA.1) (AT (sh (rA.2.1.length:Int)) rA.2.1),0)
 else none
 else none
def sJ (a:List Int):Option (aF×(List Int)×Int):=bd (wH a 6) λrA=>
 if !decide (rA.2.2=0) then
 some ((⟨0,0,0,([]:List UInt8),([]:List UInt8),0,0,0⟩:aF),([]:List Int),rA.2.2)
 else
 bd (ia rA.2.1 100) λcT=>
 if !decide (cT.2.2=0) then
 some ((⟨0,0,0,([]:List UInt8),([]:List UInt8),0,0,0⟩:aF),([]:List Int),cT.2.2)
 else
 bd (ia cT.2.1 1000) λfL=>
 if !decide (fL.2.2=0) then
 some ((⟨0,0,0,([]:List UInt8),([]:List UInt8),0,0,0⟩:aF),([]:List Int),fL.2.2)
 else
 ix rA.1 0 λy=>
 ix rA.1 1 λy1=>
 ix rA.1 2 λy2=>
 ix rA.1 3 λy3=>
 ix rA.1 4 λy4=>
 ix rA.1 5 λy5=>
 bd (qf (⟨y,y1,y2,cT.1,fL.1,y3,y4,y5⟩:aF)) λmW=>
 if !mW then
 some ((⟨0,0,0,([]:List UInt8),([]:List UInt8),0,0,0⟩:aF),([]:List Int),3)
 else
 some ((⟨y,y1,y2,cT.1,fL.1,y3,y4,y5⟩:aF),fL.2.1,0)
def ib (rA:Int×(List Int)×Int)(st:(List Int)×(List aF)×Int):Option (((List Int)×(List aF)×Int)⊕(((List Int)×(List aF))⊕((List aF)×Int))):=if st.2.2<rA.1 then
 bd (sJ st.1) λcT=>
 if !decide (cT.2.2=0) then
 some (.inr (.inr (([]:List aF),3)))
 else
 if (st.2.1.length+([cT.1]:List aF).length) *80<=2^46 then
 some (.inl (cT.2.1,st.2.1++([cT.1]:List aF),aQ .u64 (st.2.2+1)))
 else none
 else
 some (.inr (.inl (st.1,st.2.1)))
def mD (sA:List UInt8):Option ((List aF)×Int):=bd (mC (gj sA)) λrA=>
 bd (if !decide (rA.2.2=0) then
  some true
  else
  some (decide ((10:Int)<rA.1)):Option Bool) λw=>
 if w then
 some (([]:List aF),3)
 else
 bd (Loop (ib rA) (rA.2.1,([]:List aF),0)) λw1=>
 match w1 with
 | .inl p1=>
  if (0:Int)<(p1.1.length:Int) then
  some (([]:List aF),3)
  else
  some (p1.2,0)
 | .inr p2=>some (p2.1,p2.2)
def fT (x:Int)(k:Int):Option Int:=if (0:Int)<=(cH .u64 (aQ .u64 k) 31) then
 if (0:Int)<=(aQ .u64 (32-(cH .u64 (aQ .u64 k) 31))) then
 some (pG .u32 (aQ .u32 (x *2^min (sh (cH .u64 (aQ .u64 k) 31)) (AI .u32))) (BY x (2^min (sh (aQ .u64 (32-(cH .u64 (aQ .u64 k) 31)))) (AI .u32))))
 else none
 else none
def bE (x:Int)(k:Int):Option Int:=bd (fT x (aQ .i64 (0-k))) λrA=>some rA
def wI (b:List Int):Option Int:=ix b 0 λy=>
 if (0:Int)<=24 then
 ix b 1 λy1=>
 if (0:Int)<=16 then
 ix b 2 λy2=>
 if (0:Int)<=8 then
 ix b 3 λy3=>
 some (pG .u32 (pG .u32 (pG .u32 (aQ .u32 ((aQ .u32 y) *2^min (sh 24) (AI .u32))) (aQ .u32 ((aQ .u32 y1) *2^min (sh 16) (AI .u32)))) (aQ .u32 ((aQ .u32 y2) *2^min (sh 8) (AI .u32)))) (aQ .u32 y3))
 else none
 else none
 else none
def dO (b:List Int)(st:(List Int)×Int):Option (((List Int)×Int)⊕(List Int)):=if st.2<16 then
 if (0:Int)<=(aQ .i64 (4 *st.2))/\(aQ .i64 (4 *st.2))<=(b.length:Int)/\(b.length:Int)<=(b.length:Int) then
 bd (wI (AS (sh (aQ .i64 (4 *st.2))) (AT (sh (b.length:Int)) b))) λrA=>
 if (0:Int)<=st.2/\st.2<64 then
 some (.inl (st.1.set (sh st.2) rA,aQ .i64 (st.2+1)))
 else none
 else none
 else
 some (.inr st.1)
def dP (aT:(List Int)×Int):Option (((List Int)×Int)⊕(List Int)):=if aT.2<64 then
 if (0:Int)<=(aQ .i64 (aT.2-15))/\(aQ .i64 (aT.2-15))<64 then
 if (0:Int)<=(aQ .i64 (aT.2-2))/\(aQ .i64 (aT.2-2))<64 then
 bd (bE (aT.1.getD (sh (aQ .i64 (aT.2-15))) 0) 7) λcT=>
 bd (bE (aT.1.getD (sh (aQ .i64 (aT.2-15))) 0) 18) λfL=>
 if (0:Int)<=3 then
 bd (bE (aT.1.getD (sh (aQ .i64 (aT.2-2))) 0) 17) λmW=>
 bd (bE (aT.1.getD (sh (aQ .i64 (aT.2-2))) 0) 19) λsF=>
 if (0:Int)<=10 then
 if (0:Int)<=(aQ .i64 (aT.2-16))/\(aQ .i64 (aT.2-16))<64 then
 if (0:Int)<=(aQ .i64 (aT.2-7))/\(aQ .i64 (aT.2-7))<64 then
 if (0:Int)<=aT.2/\aT.2<64 then
 some (.inl (aT.1.set (sh aT.2) (aQ .u32 ((aQ .u32 ((aQ .u32 ((aT.1.getD (sh (aQ .i64 (aT.2-16))) 0)+(bn .u32 (bn .u32 cT fL) (BY (aT.1.getD (sh (aQ .i64 (aT.2-15))) 0) (2^min (sh 3) (AI .u32))))))+(aT.1.getD (sh (aQ .i64 (aT.2-7))) 0)))+(bn .u32 (bn .u32 mW sF) (BY (aT.1.getD (sh (aQ .i64 (aT.2-2))) 0) (2^min (sh 10) (AI .u32)))))),aQ .i64 (aT.2+1)))
 else none
 else none
 else none
 else none
 else none
 else none
 else none
 else
 some (.inr aT.1)
def ic (b:List Int):Option (List Int):=bd (Loop (dO b) (zA 62,0)) λw=>
 bd (Loop dP (w,16)) λw3=>
 some w3
def pc:Option (List Int):=some [1116352408,1899447441,3049323471,3921009573,961987163,1508970993,2453635748,2870763221,3624381080,310598401,607225278,1426881987,1925078388,2162078206,2614888103,3248222580,3835390401,4022224774,264347078,604807628,770255983,1249150122,1555081692,1996064986,2554220882,2821834349,2952996808,3210313671,3336571891,3584528711,113926993,338241895,666307205,773529912,1294757372,1396182291,1695183700,1986661051,2177026350,2456956037,2730485921,2820302411,3259730800,3345764771,3516065817,3600352804,4094571909,275423344,430227734,506948616,659060556,883997877,958139571,1322822218,1537002063,1747873779,1955562222,2024104815,2227730452,2361852424,2428436474,2756734187,3204031479,3329325298]
def kn (n:Int)(st:(List Int)×Int):Option (((List Int)×Int)⊕(List Int)):=if (0:Int)<=st.2 then
 if (0:Int)<=(aQ .i64 (8 *st.2)) then
 if (st.1.length+([aQ .u8 (BY n (2^min (sh (aQ .i64 (8 *st.2))) (AI .u64)))]:List Int).length) *1<=2^46 then
 some (.inl (st.1++([aQ .u8 (BY n (2^min (sh (aQ .i64 (8 *st.2))) (AI .u64)))]:List Int),aQ .i64 (st.2-1)))
 else none
 else none
 else
 some (.inr st.1)
def pe (out:List Int)(n:Int)(long:Int):Option (List Int):=bd (Loop (kn n) (out,aQ .i64 (long-1))) λw=>some w
def wJ (n:Int):Option (List Int):=if !decide ((64:Int)=0) then
 if !decide ((64:Int)=0) then
 if (0:Int)<=(aQ .i64 (1+(By (aQ .i64 (119-(By (imax n 0) 64))) 64)))/\(aQ .i64 (1+(By (aQ .i64 (119-(By (imax n 0) 64))) 64)))<=(aQ .i64 ((aQ .i64 (1+(By (aQ .i64 (119-(By (imax n 0) 64))) 64)))+8))/\(aQ .i64 ((aQ .i64 (1+(By (aQ .i64 (119-(By (imax n 0) 64))) 64)))+8)) *1<=2^46 then
 ix (IT (sh (aQ .i64 (1+(By (aQ .i64 (119-(By (imax n 0) 64))) 64)))) (0:Int)) 0 λy=>
 bd (pe ((IT (sh (aQ .i64 (1+(By (aQ .i64 (119-(By (imax n 0) 64))) 64)))) (0:Int)).set (sh 0) 128) (aQ .u64 ((aQ .u64 (imax n 0)) *8)) 8) λrA=>
 some rA
 else none
 else none
 else none
def tU:Option (List Int):=some [1779033703,3144134277,1013904242,2773480762,1359893119,2600822924,528734635,1541459225]
def pf (n:Int)(st:(List Int)):Option ((List Int)⊕(List Int)):=if !decide ((64:Int)=0) then
 if !decide ((By (aQ .i64 ((aQ .i64 ((imax n 0)+(st.length:Int)))+8)) 64)=0) then
 if (st.length+([0]:List Int).length) *1<=2^46 then
 some (.inl (st++([0]:List Int)))
 else none
 else
 some (.inr st)
 else none
def xZ (n:Int)(aT:(List Int)×Int):Option (((List Int)×Int)⊕(List Int)):=if (0:Int)<=aT.2 then
 if (0:Int)<=(aQ .i64 (8 *aT.2)) then
 if (aT.1.length+([aQ .u8 (BY (aQ .u64 ((aQ .u64 (imax n 0)) *8)) (2^min (sh (aQ .i64 (8 *aT.2))) (AI .u64)))]:List Int).length) *1<=2^46 then
 some (.inl (aT.1++([aQ .u8 (BY (aQ .u64 ((aQ .u64 (imax n 0)) *8)) (2^min (sh (aQ .i64 (8 *aT.2))) (AI .u64)))]:List Int),aQ .i64 (aT.2-1)))
 else none
 else none
 else
 some (.inr aT.1)
def wK (n:Int):Option (List Int):=bd (Loop (pf n) ([128]:List Int)) λw=>
 bd (Loop (xZ n) (w,7)) λw1=>
 some w1
def bq (x:Int)(k:Int):Option Int:=if (0:Int)<=k then
 if (0:Int)<=(aQ .i64 (32-k)) then
 some (pG .u32 (BY x (2^min (sh k) (AI .u32))) (aQ .u32 (x *2^min (sh (aQ .i64 (32-k))) (AI .u32))))
 else none
 else none
def eL (a:List Int)(st:(List Int)×Int):Option (((List Int)×Int)⊕(List Int)):=if st.2<16 then
 ix a (aQ .i64 (4 *st.2)) λy=>
 if (0:Int)<=24 then
 ix a (aQ .i64 ((aQ .i64 (4 *st.2))+1)) λy1=>
 if (0:Int)<=16 then
 ix a (aQ .i64 ((aQ .i64 (4 *st.2))+2)) λy2=>
 if (0:Int)<=8 then
 ix a (aQ .i64 ((aQ .i64 (4 *st.2))+3)) λy3=>
 if (0:Int)<=st.2/\st.2<64 then
 some (.inl (st.1.set (sh st.2) (pG .u32 (pG .u32 (pG .u32 (aQ .u32 ((aQ .u32 y) *2^min (sh 24) (AI .u32))) (aQ .u32 ((aQ .u32 y1) *2^min (sh 16) (AI .u32)))) (aQ .u32 ((aQ .u32 y2) *2^min (sh 8) (AI .u32)))) (aQ .u32 y3)),aQ .i64 (st.2+1)))
 else none
 else none
 else none
 else none
 else
 some (.inr st.1)
def eM (aT:(List Int)×Int):Option (((List Int)×Int)⊕(List Int)):=if aT.2<64 then
 if (0:Int)<=(aQ .i64 (aT.2-15))/\(aQ .i64 (aT.2-15))<64 then
 if (0:Int)<=(aQ .i64 (aT.2-2))/\(aQ .i64 (aT.2-2))<64 then
 bd (bq (aT.1.getD (sh (aQ .i64 (aT.2-15))) 0) 7) λrA=>
 bd (bq (aT.1.getD (sh (aQ .i64 (aT.2-15))) 0) 18) λcT=>
 if (0:Int)<=3 then
 bd (bq (aT.1.getD (sh (aQ .i64 (aT.2-2))) 0) 17) λfL=>
 bd (bq (aT.1.getD (sh (aQ .i64 (aT.2-2))) 0) 19) λmW=>
 if (0:Int)<=10 then
 if (0:Int)<=(aQ .i64 (aT.2-7))/\(aQ .i64 (aT.2-7))<64 then
 if (0:Int)<=(aQ .i64 (aT.2-16))/\(aQ .i64 (aT.2-16))<64 then
 if (0:Int)<=aT.2/\aT.2<64 then
 some (.inl (aT.1.set (sh aT.2) (aQ .u32 ((aQ .u32 ((aQ .u32 ((bn .u32 (bn .u32 fL mW) (BY (aT.1.getD (sh (aQ .i64 (aT.2-2))) 0) (2^min (sh 10) (AI .u32))))+(aT.1.getD (sh (aQ .i64 (aT.2-7))) 0)))+(bn .u32 (bn .u32 rA cT) (BY (aT.1.getD (sh (aQ .i64 (aT.2-15))) 0) (2^min (sh 3) (AI .u32))))))+(aT.1.getD (sh (aQ .i64 (aT.2-16))) 0))),aQ .i64 (aT.2+1)))
 else none
 else none
 else none
 else none
 else none
 else none
 else none
 else
 some (.inr aT.1)
def jG (a:List Int):Option ((List Int)×Int):=if !decide ((a.length:Int)=64) then
 some (zA 62,1)
 else
 bd (Loop (eL a) (zA 62,0)) λw=>
 bd (Loop eM (w,16)) λw1=>
 some (w1,0)
def qh:Option (List Int):=some [1116352408,1899447441,3049323471,3921009573,961987163,1508970993,2453635748,2870763221,3624381080,310598401,607225278,1426881987,1925078388,2162078206,2614888103,3248222580,3835390401,4022224774,264347078,604807628,770255983,1249150122,1555081692,1996064986,2554220882,2821834349,2952996808,3210313671,3336571891,3584528711,113926993,338241895,666307205,773529912,1294757372,1396182291,1695183700,1986661051,2177026350,2456956037,2730485921,2820302411,3259730800,3345764771,3516065817,3600352804,4094571909,275423344,430227734,506948616,659060556,883997877,958139571,1322822218,1537002063,1747873779,1955562222,2024104815,2227730452,2361852424,2428436474,2756734187,3204031479,3329325298]
def gE (rA:(List Int)×Int)(cT:(List Int))(st:(List Int)×Int):Option (((List Int)×Int)⊕(List Int)):=if st.2<64 then
 if (0:Int)<=0/\(0:Int)<8 then
 if (0:Int)<=4/\(4:Int)<8 then
 if (0:Int)<=6/\(6:Int)<8 then
 bd (bq (st.1.getD (sh 4) 0) 6) λfL=>
 bd (bq (st.1.getD (sh 4) 0) 11) λmW=>
 bd (bq (st.1.getD (sh 4) 0) 25) λsF=>
 if (0:Int)<=7/\(7:Int)<8 then
 if (0:Int)<=5/\(5:Int)<8 then
 if (0:Int)<=st.2/\st.2<64 then
 if (0:Int)<=st.2/\st.2<64 then
 bd (bq (st.1.getD (sh 0) 0) 2) λxy=>
 bd (bq (st.1.getD (sh 0) 0) 13) λxz=>
 bd (bq (st.1.getD (sh 0) 0) 22) λy9=>
 if (0:Int)<=1/\(1:Int)<8 then
 if (0:Int)<=2/\(2:Int)<8 then
 if (0:Int)<=1/\(1:Int)<8 then
 if (0:Int)<=2/\(2:Int)<8 then
 if (0:Int)<=0/\(0:Int)<8 then
 if (0:Int)<=1/\(1:Int)<8 then
 if (0:Int)<=2/\(2:Int)<8 then
 if (0:Int)<=3/\(3:Int)<8 then
 if (0:Int)<=4/\(4:Int)<8 then
 if (0:Int)<=5/\(5:Int)<8 then
 if (0:Int)<=6/\(6:Int)<8 then
 some (.inl ([(aQ .u32 ((aQ .u32 ((aQ .u32 ((aQ .u32 ((aQ .u32 ((st.1.getD (sh 7) 0)+(bn .u32 (bn .u32 fL mW) sF)))+(pG .u32 (cH .u32 (st.1.getD (sh 4) 0) (st.1.getD (sh 5) 0)) (cH .u32 (bn .u32 (st.1.getD (sh 4) 0) 4294967295) (st.1.getD (sh 6) 0)))))+(cT.getD (sh st.2) 0)))+(rA.1.getD (sh st.2) 0)))+(aQ .u32 ((bn .u32 (bn .u32 xy xz) y9)+(pG .u32 (pG .u32 (cH .u32 (st.1.getD (sh 0) 0) (st.1.getD (sh 1) 0)) (cH .u32 (st.1.getD (sh 0) 0) (st.1.getD (sh 2) 0))) (cH .u32 (st.1.getD (sh 1) 0) (st.1.getD (sh 2) 0))))))),(st.1.getD (sh 0) 0),(st.1.getD (sh 1) 0),(st.1.getD (sh 2) 0),(aQ .u32 ((st.1.getD (sh 3) 0)+(aQ .u32 ((aQ .u32 ((aQ .u32 ((aQ .u32 ((st.1.getD (sh 7) 0)+(bn .u32 (bn .u32 fL mW) sF)))+(pG .u32 (cH .u32 (st.1.getD (sh 4) 0) (st.1.getD (sh 5) 0)) (cH .u32 (bn .u32 (st.1.getD (sh 4) 0) 4294967295) (st.1.getD (sh 6) 0)))))+(cT.getD (sh st.2) 0)))+(rA.1.getD (sh st.2) 0))))),(st.1.getD (sh 4) 0),(st.1.getD (sh 5) 0),(st.1.getD (sh 6) 0)],aQ .i64 (st.2+1)))
 else none
 else none
 else none
 else none
 else none
 else none
 else none
 else none
 else none
 else none
 else none
 else none
 else none
 else none
 else none
 else none
 else none
 else none
 else
 some (.inr st.1)
def sK (a:List Int)(aT:(List Int)×Int):Option (((List Int)×Int)⊕(List Int)):=if aT.2<8 then
 if (0:Int)<=aT.2/\aT.2<8 then
 if (0:Int)<=aT.2/\aT.2<8 then
 if (0:Int)<=aT.2/\aT.2<8 then
 some (.inl (aT.1.set (sh aT.2) (aQ .u32 ((aT.1.getD (sh aT.2) 0)+(a.getD (sh aT.2) 0))),aQ .i64 (aT.2+1)))
 else none
 else none
 else none
 else
 some (.inr aT.1)
def kp (a:List Int)(a1:List Int):Option ((List Int)×Int):=bd (jG a1) λrA=>
 if !decide (rA.2=0) then
 some (zA 6,rA.2)
 else
 bd (qh) λcT=>
 bd (Loop (gE rA cT) (a,0)) λw=>
 bd (Loop (sK a) (w,0)) λw1=>
 some (w1,0)
def kq (b:List Int)(rA:(List Int))(st:(List Int)×Int):Option (((List Int)×Int)⊕(List Int)):=if st.2<(((([]:List Int)++b)++rA).length:Int) then
 if (0:Int)<=st.2/\st.2<=(aQ .i64 (st.2+64))/\(aQ .i64 (st.2+64))<=(((([]:List Int)++b)++rA).length:Int) then
 bd (kp st.1 (AS (sh st.2) (AT (sh (aQ .i64 (st.2+64))) ((([]:List Int)++b)++rA)))) λcT=>
 some (.inl (cT.1,aQ .i64 (st.2+64)))
 else none
 else
 some (.inr st.1)
def lO (w:(List Int))(aT:(List Int)×Int):Option (((List Int)×Int)⊕(List Int)):=if aT.2<32 then
 if !decide ((4:Int)=0) then
 if (0:Int)<=(aQ .i64 (IN aT.2 4))/\(aQ .i64 (IN aT.2 4))<8 then
 if !decide ((4:Int)=0) then
 if (0:Int)<=(aQ .i64 (24-(aQ .i64 (8 *(By aT.2 4))))) then
 if (0:Int)<=aT.2/\aT.2<32 then
 some (.inl (aT.1.set (sh aT.2) (aQ .u8 (BY (w.getD (sh (aQ .i64 (IN aT.2 4))) 0) (2^min (sh (aQ .i64 (24-(aQ .i64 (8 *(By aT.2 4)))))) (AI .u32)))),aQ .i64 (aT.2+1)))
 else none
 else none
 else none
 else none
 else none
 else
 some (.inr aT.1)
def wL (b:List Int):Option Pn:=if (([]:List Int).length+b.length) *1<=2^46 then
 bd (wK (b.length:Int)) λrA=>
 if ((([]:List Int)++b).length+rA.length) *1<=2^46 then
 bd (Loop (kq b rA) ([1779033703,3144134277,1013904242,2773480762,1359893119,2600822924,528734635,1541459225],0)) λw=>
 bd (Loop (lO w) (zA 30,0)) λw1=>
 some w1
 else none
 else none
def mE (sA:List UInt8):Option Pn:=bd (wL (gj sA)) λrA=>some rA
def qi (rA:(List Int))(cT:(List Int))(st:Int×Int×Int×Int×Int×Int×Int×Int×Int):Option ((Int×Int×Int×Int×Int×Int×Int×Int×Int)⊕(Int×Int×Int×Int×Int×Int×Int×Int)):=if st.2.2.2.2.2.2.2.2<64 then
 if (0:Int)<=st.2.2.2.2.2.2.2.2/\st.2.2.2.2.2.2.2.2<64 then
 if (0:Int)<=st.2.2.2.2.2.2.2.2/\st.2.2.2.2.2.2.2.2<64 then
 bd (bE st.2.2.2.2.1 6) λfL=>
 bd (bE st.2.2.2.2.1 11) λmW=>
 bd (bE st.2.2.2.2.1 25) λsF=>
 bd (bE st.1 2) λxy=>
 bd (bE st.1 13) λxz=>
 bd (bE st.1 22) λy9=>
 some (.inl (aQ .u32 ((aQ .u32 ((aQ .u32 ((aQ .u32 ((aQ .u32 (st.2.2.2.2.2.2.2.1+(bn .u32 (bn .u32 fL mW) sF)))+(bn .u32 st.2.2.2.2.2.2.1 (cH .u32 st.2.2.2.2.1 (bn .u32 st.2.2.2.2.2.1 st.2.2.2.2.2.2.1)))))+(cT.getD (sh st.2.2.2.2.2.2.2.2) 0)))+(rA.getD (sh st.2.2.2.2.2.2.2.2) 0)))+(aQ .u32 ((bn .u32 (bn .u32 xy xz) y9)+(bn .u32 (bn .u32 (cH .u32 st.1 st.2.1) (cH .u32 st.1 st.2.2.1)) (cH .u32 st.2.1 st.2.2.1))))),st.1,st.2.1,st.2.2.1,aQ .u32 (st.2.2.2.1+(aQ .u32 ((aQ .u32 ((aQ .u32 ((aQ .u32 (st.2.2.2.2.2.2.2.1+(bn .u32 (bn .u32 fL mW) sF)))+(bn .u32 st.2.2.2.2.2.2.1 (cH .u32 st.2.2.2.2.1 (bn .u32 st.2.2.2.2.2.1 st.2.2.2.2.2.2.1)))))+(cT.getD (sh st.2.2.2.2.2.2.2.2) 0)))+(rA.getD (sh st.2.2.2.2.2.2.2.2) 0)))),st.2.2.2.2.1,st.2.2.2.2.2.1,st.2.2.2.2.2.2.1,aQ .i64 (st.2.2.2.2.2.2.2.2+1)))
 else none
 else none
 else
 some (.inr (st.1,st.2.1,st.2.2.1,st.2.2.2.1,st.2.2.2.2.1,st.2.2.2.2.2.1,st.2.2.2.2.2.2.1,st.2.2.2.2.2.2.2.1))
def qj (w:Int×Int×Int×Int×Int×Int×Int×Int)(aT:Int×(List Int)×(List Int)×Int):Option ((Int×(List Int)×(List Int)×Int)⊕((List Int)×(List Int)×Int)):=if aT.1<8 then
 if (0:Int)<=aT.1/\aT.1<8 then
 if (0:Int)<=aT.1/\aT.1<8 then
 if (0:Int)<=aT.1/\aT.1<8 then
 some (.inl (aQ .i64 (aT.1+1),aT.2.1.set (sh aT.1) (aQ .u32 ((aT.2.1.getD (sh aT.1) 0)+([w.1,w.2.1,w.2.2.1,w.2.2.2.1,w.2.2.2.2.1,w.2.2.2.2.2.1,w.2.2.2.2.2.2.1,w.2.2.2.2.2.2.2].getD (sh aT.1) 0))),aT.2.2.1,aT.2.2.2))
 else none
 else none
 else none
 else
 some (.inr (aT.2.1,aT.2.2.1,aT.2.2.2))
def kr (a:fg)(a1:List Int):Option (Unit×fg):=bd (ic a1) λrA=>
 bd (pc) λcT=>
 if (0:Int)<=0/\(0:Int)<8 then
 if (0:Int)<=1/\(1:Int)<8 then
 if (0:Int)<=2/\(2:Int)<8 then
 if (0:Int)<=3/\(3:Int)<8 then
 if (0:Int)<=4/\(4:Int)<8 then
 if (0:Int)<=5/\(5:Int)<8 then
 if (0:Int)<=6/\(6:Int)<8 then
 if (0:Int)<=7/\(7:Int)<8 then
 bd (Loop (qi rA cT) (a.state.getD (sh 0) 0,a.state.getD (sh 1) 0,a.state.getD (sh 2) 0,a.state.getD (sh 3) 0,a.state.getD (sh 4) 0,a.state.getD (sh 5) 0,a.state.getD (sh 6) 0,a.state.getD (sh 7) 0,0)) λw=>
 bd (Loop (qj w) (0,a.state,a.left,a.long)) λw1=>
 some ((),(⟨w1.1,w1.2.1,w1.2.2⟩:fg))
 else none
 else none
 else none
 else none
 else none
 else none
 else none
 else none
def eN (st:(List Int)×(List Int)×Int):Option (((List Int)×(List Int)×Int)⊕((List Int)×(List Int)×Int)):=if (64:Int)<=(st.2.1.length:Int) then
 if (0:Int)<=0/\(0:Int)<=64/\(64:Int)<=(st.2.1.length:Int) then
 bd (kr (⟨st.1,st.2.1,st.2.2⟩:fg) (AS (sh 0) (AT (sh 64) st.2.1))) λrA=>
 if (0:Int)<=64/\(64:Int)<=(rA.2.left.length:Int)/\(rA.2.left.length:Int)<=(rA.2.left.length:Int) then
 some (.inl (rA.2.state,AS (sh 64) (AT (sh (rA.2.left.length:Int)) rA.2.left),rA.2.long))
 else none
 else none
 else
 some (.inr (st.1,st.2.1,st.2.2))
def gG (sA:fg)(b:List Int):Option (Unit×fg):=if (sA.left.length+b.length) *1<=2^46 then
 bd (Loop eN (sA.state,sA.left++b,aQ .i64 (sA.long+(b.length:Int)))) λw=>
 some ((),(⟨w.1,w.2.1,w.2.2⟩:fg))
 else none
def dF (rA:(List Int))(cT:(List Int))(st:Int×Int×Int×Int×Int×Int×Int×Int×Int):Option ((Int×Int×Int×Int×Int×Int×Int×Int×Int)⊕(Int×Int×Int×Int×Int×Int×Int×Int)):=if st.2.2.2.2.2.2.2.2<64 then
 if (0:Int)<=st.2.2.2.2.2.2.2.2/\st.2.2.2.2.2.2.2.2<64 then
 if (0:Int)<=st.2.2.2.2.2.2.2.2/\st.2.2.2.2.2.2.2.2<64 then
 bd (bE st.2.2.2.2.1 6) λfL=>
 bd (bE st.2.2.2.2.1 11) λmW=>
 bd (bE st.2.2.2.2.1 25) λsF=>
 bd (bE st.1 2) λxy=>
 bd (bE st.1 13) λxz=>
 bd (bE st.1 22) λy9=>
 some (.inl (aQ .u32 ((aQ .u32 ((aQ .u32 ((aQ .u32 ((aQ .u32 (st.2.2.2.2.2.2.2.1+(bn .u32 (bn .u32 fL mW) sF)))+(bn .u32 st.2.2.2.2.2.2.1 (cH .u32 st.2.2.2.2.1 (bn .u32 st.2.2.2.2.2.1 st.2.2.2.2.2.2.1)))))+(cT.getD (sh st.2.2.2.2.2.2.2.2) 0)))+(rA.getD (sh st.2.2.2.2.2.2.2.2) 0)))+(aQ .u32 ((bn .u32 (bn .u32 xy xz) y9)+(bn .u32 (bn .u32 (cH .u32 st.1 st.2.1) (cH .u32 st.1 st.2.2.1)) (cH .u32 st.2.1 st.2.2.1))))),st.1,st.2.1,st.2.2.1,aQ .u32 (st.2.2.2.1+(aQ .u32 ((aQ .u32 ((aQ .u32 ((aQ .u32 (st.2.2.2.2.2.2.2.1+(bn .u32 (bn .u32 fL mW) sF)))+(bn .u32 st.2.2.2.2.2.2.1 (cH .u32 st.2.2.2.2.1 (bn .u32 st.2.2.2.2.2.1 st.2.2.2.2.2.2.1)))))+(cT.getD (sh st.2.2.2.2.2.2.2.2) 0)))+(rA.getD (sh st.2.2.2.2.2.2.2.2) 0)))),st.2.2.2.2.1,st.2.2.2.2.2.1,st.2.2.2.2.2.2.1,aQ .i64 (st.2.2.2.2.2.2.2.2+1)))
 else none
 else none
 else
 some (.inr (st.1,st.2.1,st.2.2.1,st.2.2.2.1,st.2.2.2.2.1,st.2.2.2.2.2.1,st.2.2.2.2.2.2.1,st.2.2.2.2.2.2.2.1))
def sL (w:Int×Int×Int×Int×Int×Int×Int×Int)(aT:Int×(List Int)):Option ((Int×(List Int))⊕(List Int)):=if aT.1<8 then
 if (0:Int)<=aT.1/\aT.1<8 then
 if (0:Int)<=aT.1/\aT.1<8 then
 if (0:Int)<=aT.1/\aT.1<8 then
 some (.inl (aQ .i64 (aT.1+1),aT.2.set (sh aT.1) (aQ .u32 ((aT.2.getD (sh aT.1) 0)+([w.1,w.2.1,w.2.2.1,w.2.2.2.1,w.2.2.2.2.1,w.2.2.2.2.2.1,w.2.2.2.2.2.2.1,w.2.2.2.2.2.2.2].getD (sh aT.1) 0)))))
 else none
 else none
 else none
 else
 some (.inr aT.2)
def lP (a:List Int)(a1:List Int):Option (Unit×(List Int)):=bd (ic a1) λrA=>
 bd (pc) λcT=>
 if (0:Int)<=0/\(0:Int)<8 then
 if (0:Int)<=1/\(1:Int)<8 then
 if (0:Int)<=2/\(2:Int)<8 then
 if (0:Int)<=3/\(3:Int)<8 then
 if (0:Int)<=4/\(4:Int)<8 then
 if (0:Int)<=5/\(5:Int)<8 then
 if (0:Int)<=6/\(6:Int)<8 then
 if (0:Int)<=7/\(7:Int)<8 then
 bd (Loop (dF rA cT) (a.getD (sh 0) 0,a.getD (sh 1) 0,a.getD (sh 2) 0,a.getD (sh 3) 0,a.getD (sh 4) 0,a.getD (sh 5) 0,a.getD (sh 6) 0,a.getD (sh 7) 0,0)) λw=>
 bd (Loop (sL w) (0,a)) λw1=>
 some ((),w1)
 else none
 else none
 else none
 else none
 else none
 else none
 else none
 else none
def gJ (st:(List Int)×(List Int)):Option (((List Int)×(List Int))⊕(List Int)):=if (0:Int)<(st.2.length:Int) then
 if (0:Int)<=0/\(0:Int)<=64/\(64:Int)<=(st.2.length:Int) then
 bd (lP st.1 (AS (sh 0) (AT (sh 64) st.2))) λcT=>
 if (0:Int)<=64/\(64:Int)<=(st.2.length:Int)/\(st.2.length:Int)<=(st.2.length:Int) then
 some (.inl (cT.2,AS (sh 64) (AT (sh (st.2.length:Int)) st.2)))
 else none
 else none
 else
 some (.inr st.1)
def eO (w:(List Int))(aT:(List Int)×Int):Option (((List Int)×Int)⊕(List Int)):=if aT.2<8 then
 if (0:Int)<=aT.2/\aT.2<8 then
 bd (pe aT.1 (aQ .u64 (w.getD (sh aT.2) 0)) 4) λfL=>
 some (.inl (fL,aQ .i64 (aT.2+1)))
 else none
 else
 some (.inr aT.1)
def lE (sA:fg):Option (Pn×fg):=if (sA.left.length:Int)=(sA.left.length:Int)/\(sA.left.length:Int)=(sA.left.length:Int) then
 bd (wJ sA.long) λrA=>
 if 0<rA.length/\(sA.left.length+rA.length) *1<=2^46 then
 bd (Loop gJ (sA.state,sA.left++rA)) λw=>
 bd (Loop (eO w) (([]:List Int),0)) λw1=>
 if 32<=w1.length then
 some (w1.take 32,sA)
 else none
 else none
 else none
def wM (b:List Int):Option Pn:=bd tU λs=>
 bd (gG ⟨s,[],0⟩ b) λr=>
 bd (lE r.2) λq=>some q.1
def jH (sA:List UInt8):Option Pn:=bd (wM (gj sA)) λrA=>some rA
def gK (a:List ab)(a1:List UInt8):Option Bool:=bd (bd (o4 a) λrA=>
  if !rA then
  some true
  else
  some (decide ((6000:Int)<(a1.length:Int))):Option Bool) λw=>
 if w then
 bd (o9) λcT=>
 some cT
 else
 bd (gY a) λfL=>
 bd (tT a) λmW=>
 bd (mA mW) λsF=>
 bd (ea a1) λxy=>
 bd (mD a1) λxz=>
 bd (bd (o9) λy9=>
  if y9 then
  if fL.1=sF.1 then
  if fL.2=sF.2 then
  bd (tT xy.1) λPl=>
  bd (sI Pl xz.1) λR9=>
  if R9 then
  if xy.2=xz.2 then
  bd (jH a1) λBP=>
  bd (mE a1) λVs=>
  some (decide (BP=Vs))
  else
  some false
  else
  some false
  else
  some false
  else
  some false
  else
  some false:Option Bool) λw1=>
 some w1
end
end Dn.S
