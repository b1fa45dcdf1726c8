import Derived.Test.YtmdlghpieagfhaaGreatDnD
import Derived.Test.YtmdlghpieagfhaaGreatDnC
/- Typed functions. Conditions: none. -/
set_option linter.unusedVariables false
set_option linter.unusedSimpArgs false
open Go.IntKind renaming wrap→cV,bits→AI
open Int renaming toNat→sh,fdiv→IT
open List renaming drop→AT,take→BY,replicate→No
open Go.FloatKind renaming nearest→OF
open Go Dn
set_option maxRecDepth 100000
namespace Dn.S
noncomputable section
structure ae where
 F:Int
 T:Int
deriving DecidableEq
@[reducible] def Jr (x : ae) : List MV := [.i .i64 x.F, .i .i64 x.T]
@[reducible] def bK (x : ae) : MV := .agg (Jr x)
structure mb where
 S:ae
 bY:List Bool
 Want:List (List UInt8)
deriving DecidableEq
@[reducible] def Xv (x : mb) : List MV := [.i .i64 x.S.F, .i .i64 x.S.T, .list (x.bY.map MV.b), .list (x.Want.map MV.s)]
@[reducible] def C3 (x : mb) : MV := .agg (Xv x)
structure aa where
 By:Int
 View:Int
 Value:List UInt8
deriving DecidableEq
@[reducible] def GH (x : aa) : List MV := [.i .i64 x.By, .i .i64 x.View, .s x.Value]
@[reducible] def ak (x : aa) : MV := .agg (GH x)
structure ab where
 By:Int
 fS:Int
 Has:Bool
 View:Int
 Value:List UInt8
 Proof:List aa
deriving DecidableEq
@[reducible] def Q4 (x : ab) : List MV := [.i .i64 x.By, .i .i64 x.fS, .b x.Has, .i .i64 x.View, .s x.Value, .list (x.Proof.map ak)]
@[reducible] def aG (x : ab) : MV := .agg (Q4 x)
structure ai where
 Kind:Int
 cN:Int
 View:Int
 Value:List UInt8
 fC:List ab
 bM:aa
 Proof:List aa
 R:ab
deriving DecidableEq
@[reducible] def Xw (x : ai) : List MV := [.i .i64 x.Kind, .i .i64 x.cN, .i .i64 x.View, .s x.Value, .list (x.fC.map aG), .i .i64 x.bM.By, .i .i64 x.bM.View, .s x.bM.Value, .list (x.Proof.map ak), .i .i64 x.R.By, .i .i64 x.R.fS, .b x.R.Has, .i .i64 x.R.View, .s x.R.Value, .list (x.R.Proof.map ak)]
@[reducible] def aV (x : ai) : MV := .agg (Xw x)
structure dv where
 Kind:Int
 I:Int
 J:Int
 M:ai
deriving DecidableEq
@[reducible] def Xx (x : dv) : List MV := [.i .i64 x.Kind, .i .i64 x.I, .i .i64 x.J, .i .i64 x.M.Kind, .i .i64 x.M.cN, .i .i64 x.M.View, .s x.M.Value, .list (x.M.fC.map aG), .i .i64 x.M.bM.By, .i .i64 x.M.bM.View, .s x.M.bM.Value, .list (x.M.Proof.map ak), .i .i64 x.M.R.By, .i .i64 x.M.R.fS, .b x.M.R.Has, .i .i64 x.M.R.View, .s x.M.R.Value, .list (x.M.R.Proof.map ak)]
@[reducible] def mM (x : dv) : MV := .agg (Xx x)
structure aA where
 L:List aa
deriving DecidableEq
@[reducible] def D9 (x : aA) : List MV := [.list (x.L.map ak)]
@[reducible] def iP (x : aA) : MV := .agg (D9 x)
structure af where
 S:ae
 Me:Int
 View:Int
 Has:Bool
 At:Int
 Value:List UInt8
 Proof:List aa
 bT:aA
deriving DecidableEq
@[reducible] def C4 (x : af) : List MV := [.i .i64 x.S.F, .i .i64 x.S.T, .i .i64 x.Me, .i .i64 x.View, .b x.Has, .i .i64 x.At, .s x.Value, .list (x.Proof.map ak), .list (x.bT.L.map ak)]
@[reducible] def cq (x : af) : MV := .agg (C4 x)
structure ar where
 S:ae
 aY:aA
 aR:aA
 Told:aA
 bw:Bool
 Value:List UInt8
deriving DecidableEq
@[reducible] def gD (x : ar) : List MV := [.i .i64 x.S.F, .i .i64 x.S.T, .list (x.aY.L.map ak), .list (x.aR.L.map ak), .list (x.Told.L.map ak), .b x.bw, .s x.Value]
@[reducible] def dB (x : ar) : MV := .agg (gD x)
structure ao where
 A:af
 L:ar
 dq:List ab
 et:Int
deriving DecidableEq
@[reducible] def C5 (x : ao) : List MV := [.i .i64 x.A.S.F, .i .i64 x.A.S.T, .i .i64 x.A.Me, .i .i64 x.A.View, .b x.A.Has, .i .i64 x.A.At, .s x.A.Value, .list (x.A.Proof.map ak), .list (x.A.bT.L.map ak), .i .i64 x.L.S.F, .i .i64 x.L.S.T, .list (x.L.aY.L.map ak), .list (x.L.aR.L.map ak), .list (x.L.Told.L.map ak), .b x.L.bw, .s x.L.Value, .list (x.dq.map aG), .i .i64 x.et]
@[reducible] def bj (x : ao) : MV := .agg (C5 x)
structure aj where
 S:ae
 bY:List Bool
 Want:List (List UInt8)
 N:List ao
 aC:List ai
deriving DecidableEq
@[reducible] def cO (x : aj) : List MV := [.i .i64 x.S.F, .i .i64 x.S.T, .list (x.bY.map MV.b), .list (x.Want.map MV.s), .list (x.N.map bj), .list (x.aC.map aV)]
@[reducible] def fT (x : aj) : MV := .agg (cO x)
structure aO where
 b:List Int
 e:Int
deriving DecidableEq
@[reducible] def eQ (x : aO) : List MV := [.list (x.b.map (MV.i .u8)), .i .i64 x.e]
structure eR where
 F:Int
 T:Int
deriving DecidableEq
structure eg where
 L:List aa
deriving DecidableEq
structure iQ where
 S:eR
 Me:Int
 View:Int
 Has:Bool
 At:Int
 Value:List UInt8
 Proof:List aa
 bT:eg
deriving DecidableEq
structure eM where
 S:eR
 aY:eg
 aR:eg
 Told:eg
 bw:Bool
 Value:List UInt8
deriving DecidableEq
structure yp where
 A:iQ
 L:eM
 dq:List ab
 et:Int
deriving DecidableEq
structure fD where
 Kind:Int
 cN:Int
 View:Int
 Value:List UInt8
 fC:List ab
 bM:aa
 Proof:List aa
 R:ab
deriving DecidableEq
def vH (a:mb)(st:Int):Option (Int⊕(Unit⊕Bool)):=if st<(a.Want.length:Int) then
 ix a.Want st λy=>
 if (200:Int)<(y.length:Int) then
 some (.inr (.inr false))
 else
 some (.inl (cV .i64 (st+1)))
 else
 some (.inr (.inl ()))
def rY (y1:dv)(ef:Int):Option (Int⊕(Unit⊕Bool)):=if ef<(y1.M.fC.length:Int) then
 ix y1.M.fC ef λy2=>
 if (30:Int)<(y2.Proof.length:Int) then
 some (.inr (.inr false))
 else
 some (.inl (cV .i64 (ef+1)))
 else
 some (.inr (.inl ()))
def rZ (a1:List dv)(cR:Int):Option (Int⊕(Unit⊕Bool)):=if cR<(a1.length:Int) then
 ix a1 cR λy1=>
 bd (if (200:Int)<(y1.M.Value.length:Int) then
  some true
  else
  if (200:Int)<(y1.M.bM.Value.length:Int) then
  some true
  else
  if (30:Int)<(y1.M.Proof.length:Int) then
  some true
  else
  if (30:Int)<(y1.M.fC.length:Int) then
  some true
  else
  if (200:Int)<(y1.M.R.Value.length:Int) then
  some true
  else
  some (decide ((30:Int)<(y1.M.R.Proof.length:Int))):Option Bool) λw3=>
 if w3 then
 some (.inr (.inr false))
 else
 bd (Loop (rY y1) 0) λw4=>
 match w4 with
 | .inl p5=>some (.inl (cV .i64 (cR+1)))
 | .inr p6=>some (.inr (.inr p6))
 else
 some (.inr (.inl ()))
def xf (a:mb)(a1:List dv):Option Bool:=bd (if (2:Int)<a.S.F then
  some true
  else
  if (30:Int)<(a.bY.length:Int) then
  some true
  else
  if (30:Int)<(a.Want.length:Int) then
  some true
  else
  some (decide ((80:Int)<(a1.length:Int))):Option Bool) λw=>
 if w then
 some false
 else
 bd (Loop (vH a) 0) λw1=>
 match w1 with
 | .inl p1=>
  bd (Loop (rZ a1) 0) λw2=>
  match w2 with
  | .inl p7=>some true
  | .inr p8=>some p8
 | .inr p2=>some p2
def wo (sA:ae):Option (Nat×Nat):=some (OF .f64 sA.F,OF .f64 sA.T)
def kW (sA:ae)(times:Nat×Nat):Option Int:=bd (wo sA) λrA=>
 bd (FloatKind.f64.format.mul rA.1 times.1) λf=>
 bd (FloatKind.f64.format.mul rA.2 times.2) λf1=>
 bd (FloatKind.f64.format.add f f1) λf2=>
 bd ((FloatKind.decode .f64 f2).toInt .zero) λn=>
 if IntKind.min .i64<=n/\n<=IntKind.max .i64 then
 some (cV .i64 (n+1))
 else none
def pH (sA:ae):Option Int:=bd (kW sA (4613937818241073152,4611686018427387904)) λrA=>some rA
def j9 (sA:ae):Option Bool:=bd (if (1:Int)<=sA.F then
  if sA.F<=5 then
  if (0:Int)<=sA.T then
  some (decide (sA.T<=sA.F))
  else
  some false
  else
  some false
  else
  some false:Option Bool) λw=>
 some w
def nn (sA:ae)(me:Int):Option (af×Int):=bd (bd (j9 sA) λrA=>
  if !rA then
  some true
  else
  if me<0 then
  some true
  else
  bd (pH sA) λbu=>
  some (decide (bu<=me)):Option Bool) λw=>
 if w then
 some ((⟨(⟨0,0⟩:ae),0,0,false,0,([]:List UInt8),([]:List aa),(⟨([]:List aa)⟩:aA)⟩:af),1)
 else
 some ((⟨sA,me,0,false,0,([]:List UInt8),([]:List aa),(⟨([]:List aa)⟩:aA)⟩:af),0)
def o9 (sA:ae):Option (ar×Int):=bd (j9 sA) λrA=>
 if !rA then
 some ((⟨(⟨0,0⟩:ae),(⟨([]:List aa)⟩:aA),(⟨([]:List aa)⟩:aA),(⟨([]:List aa)⟩:aA),false,([]:List UInt8)⟩:ar),1)
 else
 some ((⟨sA,(⟨([]:List aa)⟩:aA),(⟨([]:List aa)⟩:aA),(⟨([]:List aa)⟩:aA),false,([]:List UInt8)⟩:ar),0)
def uo (sA:ae)(i:Int):Option (ao×Int):=bd (nn sA i) λrA=>
 if !decide (rA.2=0) then
 some ((⟨(⟨(⟨0,0⟩:ae),0,0,false,0,([]:List UInt8),([]:List aa),(⟨([]:List aa)⟩:aA)⟩:af),(⟨(⟨0,0⟩:ae),(⟨([]:List aa)⟩:aA),(⟨([]:List aa)⟩:aA),(⟨([]:List aa)⟩:aA),false,([]:List UInt8)⟩:ar),([]:List ab),0⟩:ao),rA.2)
 else
 bd (o9 sA) λbu=>
 some ((⟨rA.1,bu.1,([]:List ab),(-1)⟩:ao),bu.2)
def yq (a:ae)(a1:List Bool)(a2:List (List UInt8))(st:Int×Int×(List Bool)×(List (List UInt8))×(List ao)×(List ai)×Int×Int×(List Bool)×(List (List UInt8))×(List ao)×(List ai)×Int×Int):Option ((Int×Int×(List Bool)×(List (List UInt8))×(List ao)×(List ai)×Int×Int×(List Bool)×(List (List UInt8))×(List ao)×(List ai)×Int×Int)⊕((Int×Int×(List Bool)×(List (List UInt8))×(List ao)×(List ai)×Int×Int×(List Bool)×(List (List UInt8))×(List ao)×(List ai))⊕(Int×Int×(List Bool)×(List (List UInt8))×(List ao)×(List ai)×Int))):=if st.2.2.2.2.2.2.2.2.2.2.2.2.2<(a1.length:Int) then
 ix a1 st.2.2.2.2.2.2.2.2.2.2.2.2.2 λy=>
 bd (if y then
  some (cV .i64 (st.2.2.2.2.2.2.2.2.2.2.2.2.1-1))
  else
  some st.2.2.2.2.2.2.2.2.2.2.2.2.1:Option Int) λw2=>
 bd (ix a2 st.2.2.2.2.2.2.2.2.2.2.2.2.2 λy1=>
  if (6000:Int)<(y1.length:Int) then
  some true
  else
  some (decide (w2<0)):Option Bool) λw3=>
 if w3 then
 some (.inr (.inr (0,0,([]:List Bool),([]:List (List UInt8)),([]:List ao),([]:List ai),1)))
 else
 bd (uo a st.2.2.2.2.2.2.2.2.2.2.2.2.2) λiR=>
 if (st.2.2.2.2.2.2.2.2.2.2.1.length+([iR.1]:List ao).length) *256<=2^46 then
 some (.inl (st.1,st.2.1,st.2.2.1,st.2.2.2.1,st.2.2.2.2.1,st.2.2.2.2.2.1,st.2.2.2.2.2.2.1,st.2.2.2.2.2.2.2.1,st.2.2.2.2.2.2.2.2.1,st.2.2.2.2.2.2.2.2.2.1,st.2.2.2.2.2.2.2.2.2.2.1++([iR.1]:List ao),st.2.2.2.2.2.2.2.2.2.2.2.1,w2,cV .i64 (st.2.2.2.2.2.2.2.2.2.2.2.2.2+1)))
 else none
 else
 some (.inr (.inl (st.1,st.2.1,st.2.2.1,st.2.2.2.1,st.2.2.2.2.1,st.2.2.2.2.2.1,st.2.2.2.2.2.2.1,st.2.2.2.2.2.2.2.1,st.2.2.2.2.2.2.2.2.1,st.2.2.2.2.2.2.2.2.2.1,st.2.2.2.2.2.2.2.2.2.2.1,st.2.2.2.2.2.2.2.2.2.2.2.1)))
def pI (a:ae)(a1:List Bool)(a2:List (List UInt8)):Option (aj×Int):=bd (bd (j9 a) λrA=>
  if !rA then
  some true
  else
  bd (pH a) λbu=>
  if !decide ((a1.length:Int)=bu) then
  some true
  else
  some (!decide ((a2.length:Int)=(a1.length:Int))):Option Bool) λw=>
 if w then
 some ((⟨(⟨0,0⟩:ae),([]:List Bool),([]:List (List UInt8)),([]:List ao),([]:List ai)⟩:aj),1)
 else
 bd (qR 1 a1) λcg=>
 bd (qR 16 a2) λcM=>
 bd (Loop (yq a a1 a2) (0,0,([]:List Bool),([]:List (List UInt8)),([]:List ao),([]:List ai),a.F,a.T,cg,cM,([]:List ao),([]:List ai),a.F,0)) λw1=>
 match w1 with
 | .inl p2=>some ((⟨(⟨p2.2.2.2.2.2.2.1,p2.2.2.2.2.2.2.2.1⟩:ae),p2.2.2.2.2.2.2.2.2.1,p2.2.2.2.2.2.2.2.2.2.1,p2.2.2.2.2.2.2.2.2.2.2.1,p2.2.2.2.2.2.2.2.2.2.2.2⟩:aj),0)
 | .inr p3=>some ((⟨(⟨p3.1,p3.2.1⟩:ae),p3.2.2.1,p3.2.2.2.1,p3.2.2.2.2.1,p3.2.2.2.2.2.1⟩:aj),p3.2.2.2.2.2.2)
def pJ (b:List Int)(y:Int)(st:Int×Int):Option ((Int×Int)⊕Int):=if st.2<((AT (sh 0) (BY (sh (cV .i64 y)) (AT (sh 1) (BY (sh (b.length:Int)) b)))).length:Int) then
 ix (AT (sh 0) (BY (sh (cV .i64 y)) (AT (sh 1) (BY (sh (b.length:Int)) b)))) st.2 λy2=>
 if (0:Int)<=8 then
 some (.inl (bOr .u64 (cV .u64 (st.1 *2^min (sh 8) (AI .u64))) (cV .u64 y2),cV .i64 (st.2+1)))
 else none
 else
 some (.inr st.1)
def qT (b:List Int):Option (Int×(List Int)×Int):=if (b.length:Int)=0 then
 some (0,([]:List Int),2)
 else
 ix b 0 λy=>
 if (0:Int)<=1/\(1:Int)<=(b.length:Int)/\(b.length:Int)<=(b.length:Int) then
 bd (if (8:Int)<(cV .i64 y) then
  some true
  else
  if (0:Int)<(cV .i64 y) then
  if (0:Int)<((AT (sh 1) (BY (sh (b.length:Int)) b)).length:Int) then
  ix (AT (sh 1) (BY (sh (b.length:Int)) b)) 0 λy1=>
  some (decide (y1=0))
  else
  some false
  else
  some false:Option Bool) λw=>
 if w then
 some (0,([]:List Int),3)
 else
 if ((AT (sh 1) (BY (sh (b.length:Int)) b)).length:Int)<(cV .i64 y) then
 some (0,([]:List Int),2)
 else
 if (0:Int)<=0/\(0:Int)<=(cV .i64 y)/\(cV .i64 y)<=((AT (sh 1) (BY (sh (b.length:Int)) b)).length:Int) then
 bd (Loop (pJ b y) (0,0)) λw1=>
 if (0:Int)<=(cV .i64 y)/\(cV .i64 y)<=((AT (sh 1) (BY (sh (b.length:Int)) b)).length:Int)/\((AT (sh 1) (BY (sh (b.length:Int)) b)).length:Int)<=((AT (sh 1) (BY (sh (b.length:Int)) b)).length:Int) then
 some (w1,AT (sh (cV .i64 y)) (BY (sh ((AT (sh 1) (BY (sh (b.length:Int)) b)).length:Int)) (AT (sh 1) (BY (sh (b.length:Int)) b))),0)
 else none
 else none
 else none
def nZ (b:List Int):Option (Int×(List Int)×Int):=bd (qT b) λrA=>
 if (0:Int)<=1 then
 some (E8 .i64 (cV .i64 (IT rA.1 (2^min (sh 1) (AI .u64)))) (cV .i64 (0-(cV .i64 (SA .u64 rA.1 1)))),rA.2.1,rA.2.2)
 else none
def b5 (t:aO):Option (Int×aO):=bd (if t.e=0 then
  bd (nZ t.b) λrA=>
  some (rA.1,rA.2.1,rA.2.2)
  else
  some (0,t.b,t.e):Option (Int×(List Int)×Int)) λw=>
 some (w.1,(⟨w.2.1,w.2.2⟩:aO))
def kI (b:List Int)(most:Int):Option ((List UInt8)×(List Int)×Int):=bd (qT b) λrA=>
 if !decide (rA.2.2=0) then
 some (([]:List UInt8),([]:List Int),rA.2.2)
 else
 if (cV .u64 (imax most 0))<rA.1 then
 some (([]:List UInt8),([]:List Int),5)
 else
 if (cV .u64 (rA.2.1.length:Int))<rA.1 then
 some (([]:List UInt8),([]:List Int),2)
 else
 if (0:Int)<=0/\(0:Int)<=rA.1/\rA.1<=(rA.2.1.length:Int) then
 Q1 (AT (sh 0) (BY (sh rA.1) rA.2.1)) λbs=>
 if (0:Int)<=rA.1/\rA.1<=(rA.2.1.length:Int)/\(rA.2.1.length:Int)<=(rA.2.1.length:Int) then
 some (bs,AT (sh rA.1) (BY (sh (rA.2.1.length:Int)) rA.2.1),0)
 else none
 else none
def dw (t:aO):Option ((List UInt8)×aO):=bd (if t.e=0 then
  bd (kI t.b 6000) λrA=>
  some (rA.1,rA.2.1,rA.2.2)
  else
  some (([]:List UInt8),t.b,t.e):Option ((List UInt8)×(List Int)×Int)) λw=>
 some (w.1,(⟨w.2.1,w.2.2⟩:aO))
def ca (rA:Int×aO)(st:(List aa)×Int×(List Int)×Int):Option (((List aa)×Int×(List Int)×Int)⊕((List aa)×(List Int)×Int)):=if st.2.1<((No (sh rA.1) (⟨0,0,([]:List UInt8)⟩:aa)).length:Int) then
 bd (b5 (⟨st.2.2.1,st.2.2.2⟩:aO)) λbu=>
 ix st.1 st.2.1 λy=>
 some (.inl (st.1.set (sh st.2.1) (⟨bu.1,y.View,y.Value⟩:aa),cV .i64 (st.2.1+1),bu.2.b,bu.2.e))
 else
 some (.inr (st.1,st.2.2.1,st.2.2.2))
def fL (w3:(List aa)×(List Int)×Int)(cg:Int×aO)(cM:(List UInt8)×aO)(cR:(List aa)×Int):Option (((List aa)×Int)⊕(List aa)):=if cR.2<(w3.1.length:Int) then
 ix cR.1 cR.2 λy1=>
 ix (cR.1.set (sh cR.2) (⟨y1.By,cg.1,y1.Value⟩:aa)) cR.2 λy2=>
 some (.inl ((cR.1.set (sh cR.2) (⟨y1.By,cg.1,y1.Value⟩:aa)).set (sh cR.2) (⟨y2.By,y2.View,cM.1⟩:aa),cV .i64 (cR.2+1)))
 else
 some (.inr cR.1)
def dE (t:aO):Option ((List aa)×aO):=bd (b5 t) λrA=>
 bd (if rA.1<0 then
  some true
  else
  some (decide ((100:Int)<rA.1)):Option Bool) λw=>
 bd (if w then
  some (rA.2.b,3)
  else
  some (rA.2.b,rA.2.e):Option ((List Int)×Int)) λw1=>
 bd (if !decide (w1.2=0) then
  some true
  else
  some (decide (rA.1=0)):Option Bool) λw2=>
 if w2 then
 some (([]:List aa),(⟨w1.1,w1.2⟩:aO))
 else
 if (0:Int)<=rA.1/\rA.1=rA.1/\rA.1 *32<=2^46 then
 bd (Loop (ca rA) (No (sh rA.1) (⟨0,0,([]:List UInt8)⟩:aa),0,w1.1,w1.2)) λw3=>
 bd (b5 (⟨w3.2.1,w3.2.2⟩:aO)) λcg=>
 bd (dw cg.2) λcM=>
 bd (Loop (fL w3 cg cM) (w3.1,0)) λw4=>
 some (w4,cM.2)
 else none
def iS (isA:Bool):Option Int:=if isA then
 some 1
 else
 some 0
def mN (sA:ae):Option Int:=bd (kW sA (4611686018427387904,4607182418800017408)) λrA=>some rA
def kJ (a:aa):Option Bool:=bd (if (0:Int)<=a.By then
  if (0:Int)<=a.View then
  if a.View<=100000 then
  some (decide ((a.Value.length:Int)<=6000))
  else
  some false
  else
  some false
  else
  some false:Option Bool) λw=>
 some w
def rq (t:aA)(st:Int):Option (Int⊕(Unit⊕Bool)):=if st<(t.L.length:Int) then
 ix t.L st λy=>
 bd (bd (kJ y) λrA=>
  if !rA then
  some true
  else
  if (0:Int)<st then
  ix t.L (cV .i64 (st-1)) λy1=>
  some (decide (y.By<=y1.By))
  else
  some false:Option Bool) λw1=>
 if w1 then
 some (.inr (.inr false))
 else
 some (.inl (cV .i64 (st+1)))
 else
 some (.inr (.inl ()))
def r6 (t:aA):Option Bool:=bd (Loop (rq t) 0) λw=>
 match w with
 | .inl p1=>some true
 | .inr p2=>some p2
def mO (t:aA)(view:Int)(value:List UInt8)(st:(List aa)×Int):Option (((List aa)×Int)⊕(List aa)):=if st.2<(t.L.length:Int) then
 ix t.L st.2 λy=>
 bd (if y.View=view then
  some (decide (y.Value=value))
  else
  some false:Option Bool) λw1=>
 bd (if w1 then
  if (st.1.length+([y]:List aa).length) *32<=2^46 then
  some (st.1++([y]:List aa))
  else none
  else
  some st.1:Option (List aa)) λw2=>
 some (.inl (w2,cV .i64 (st.2+1)))
 else
 some (.inr st.1)
def np (t:aA)(view:Int)(value:List UInt8):Option (List aa):=bd (Loop (mO t view value) (([]:List aa),0)) λw=>some w
def r7 (t:aA)(view:Int)(value:List UInt8):Option Int:=bd (np t view value) λrA=>some (rA.length:Int)
def kX (sA:ae)(p:List aa):Option Bool:=bd (bd (j9 sA) λrA=>
  if !rA then
  some true
  else
  bd (mN sA) λbu=>
  if !decide ((p.length:Int)=bu) then
  some true
  else
  bd (r6 (⟨p⟩:aA)) λcg=>
  some (!cg):Option Bool) λw=>
 if w then
 some false
 else
 bd (ix p (cV .i64 ((p.length:Int)-1)) λy=>
  bd (pH sA) λcM=>
  if y.By<cM then
  ix p 0 λy1=>
  ix p 0 λy2=>
  bd (r7 (⟨p⟩:aA) y1.View y2.Value) λiR=>
  some (decide (iR=(p.length:Int)))
  else
  some false:Option Bool) λw1=>
 some w1
def ez (a:af):Option Bool:=bd (if a.View<0 then
  some true
  else
  some (decide ((100000:Int)<a.View)):Option Bool) λw=>
 if w then
 some false
 else
 bd (if a.Has then
  if a.At<0 then
  some true
  else
  if a.View<a.At then
  some true
  else
  some (decide ((6000:Int)<(a.Value.length:Int)))
  else
  some false:Option Bool) λw1=>
 if w1 then
 some false
 else
 bd (if !a.Has then
  if !decide (a.At=0) then
  some true
  else
  some (!decide (a.Value=([]:List UInt8)))
  else
  some false:Option Bool) λw2=>
 if w2 then
 some false
 else
 bd (if (a.Proof.length:Int)=0 then
  some true
  else
  bd (kX a.S a.Proof) λrA=>
  if rA then
  ix a.Proof 0 λy=>
  some (decide (y.View<=a.View))
  else
  some false:Option Bool) λw3=>
 some w3
def lL (a:ae)(a1:Int)(a2:List Int):Option (af×Int):=bd (nn a a1) λrA=>
 if !decide (rA.2=0) then
 some ((⟨(⟨0,0⟩:ae),0,0,false,0,([]:List UInt8),([]:List aa),(⟨([]:List aa)⟩:aA)⟩:af),rA.2)
 else
 bd (b5 (⟨a2,0⟩:aO)) λbu=>
 bd (b5 bu.2) λcg=>
 bd (b5 cg.2) λcM=>
 bd (dw cM.2) λiR=>
 bd (dE iR.2) λmc=>
 bd (if !decide (mc.2.e=0) then
  some true
  else
  bd (iS (decide (cg.1=1))) λsw=>
  if !decide (cg.1=sw) then
  some true
  else
  if (0:Int)<(mc.2.b.length:Int) then
  some true
  else
  bd (ez (⟨rA.1.S,rA.1.Me,bu.1,decide (cg.1=1),cM.1,iR.1,mc.1,rA.1.bT⟩:af)) λDv=>
  some (!Dv):Option Bool) λw=>
 if w then
 some ((⟨(⟨0,0⟩:ae),0,0,false,0,([]:List UInt8),([]:List aa),(⟨([]:List aa)⟩:aA)⟩:af),3)
 else
 some ((⟨rA.1.S,rA.1.Me,bu.1,decide (cg.1=1),cM.1,iR.1,mc.1,rA.1.bT⟩:af),0)
def n4 (p:List aa):Option (Int×(List UInt8)×Bool):=if (p.length:Int)=0 then
 some ((-1),([]:List UInt8),false)
 else
 ix p 0 λy=>
 ix p 0 λy1=>
 some (y.View,y1.Value,true)
def yr (x:Int):Option Int:=bd (if (4294967296:Int)<=x then
  if (0:Int)<=32 then
  some (IT x (2^min (sh 32) (AI .u64)),32)
  else none
  else
  some (x,0):Option (Int×Int)) λw=>
 bd (if (65536:Int)<=w.1 then
  if (0:Int)<=16 then
  some (IT w.1 (2^min (sh 16) (AI .u64)),cV .i64 (w.2+16))
  else none
  else
  some (w.1,w.2):Option (Int×Int)) λw1=>
 bd (if (256:Int)<=w1.1 then
  if (0:Int)<=8 then
  some (IT w1.1 (2^min (sh 8) (AI .u64)),cV .i64 (w1.2+8))
  else none
  else
  some (w1.1,w1.2):Option (Int×Int)) λw2=>
 if (0:Int)<=(cV .u8 w2.1)/\(cV .u8 w2.1)<(((([0,1,2,2,3,3,3,3,4,4,4,4,4,4,4,4,5,5,5,5,5,5,5,5,5,5,5,5,5,5,5,5,6,6,6,6,6,6,6,6,6,6,6,6,6,6,6,6,6,6,6,6,6,6,6,6,6,6,6,6,6,6,6,6]:List UInt8)++([7,7,7,7,7,7,7,7,7,7,7,7,7,7,7,7,7,7,7,7,7,7,7,7,7,7,7,7,7,7,7,7,7,7,7,7,7,7,7,7,7,7,7,7,7,7,7,7,7,7,7,7,7,7,7,7,7,7,7,7,7,7,7,7]:List UInt8))++(([8,8,8,8,8,8,8,8,8,8,8,8,8,8,8,8,8,8,8,8,8,8,8,8,8,8,8,8,8,8,8,8,8,8,8,8,8,8,8,8,8,8,8,8,8,8,8,8,8,8,8,8,8,8,8,8,8,8,8,8,8,8,8,8]:List UInt8)++([8,8,8,8,8,8,8,8,8,8,8,8,8,8,8,8,8,8,8,8,8,8,8,8,8,8,8,8,8,8,8,8,8,8,8,8,8,8,8,8,8,8,8,8,8,8,8,8,8,8,8,8,8,8,8,8,8,8,8,8,8,8,8,8]:List UInt8))).length:Int) then
 some (cV .i64 (w2.2+(cV .i64 ((((([0,1,2,2,3,3,3,3,4,4,4,4,4,4,4,4,5,5,5,5,5,5,5,5,5,5,5,5,5,5,5,5,6,6,6,6,6,6,6,6,6,6,6,6,6,6,6,6,6,6,6,6,6,6,6,6,6,6,6,6,6,6,6,6]:List UInt8)++([7,7,7,7,7,7,7,7,7,7,7,7,7,7,7,7,7,7,7,7,7,7,7,7,7,7,7,7,7,7,7,7,7,7,7,7,7,7,7,7,7,7,7,7,7,7,7,7,7,7,7,7,7,7,7,7,7,7,7,7,7,7,7,7]:List UInt8))++(([8,8,8,8,8,8,8,8,8,8,8,8,8,8,8,8,8,8,8,8,8,8,8,8,8,8,8,8,8,8,8,8,8,8,8,8,8,8,8,8,8,8,8,8,8,8,8,8,8,8,8,8,8,8,8,8,8,8,8,8,8,8,8,8]:List UInt8)++([8,8,8,8,8,8,8,8,8,8,8,8,8,8,8,8,8,8,8,8,8,8,8,8,8,8,8,8,8,8,8,8,8,8,8,8,8,8,8,8,8,8,8,8,8,8,8,8,8,8,8,8,8,8,8,8,8,8,8,8,8,8,8,8]:List UInt8))).getD (sh (cV .u8 w2.1)) 0).toNat:Int))))
 else none
def uq (n:Int):Option Int:=bd (yr n) λrA=>
 if !decide ((8:Int)=0) then
 some (cV .i64 (1+(cV .i64 (Int.tdiv (cV .i64 (rA+7)) 8))))
 else none
def ou (sA:List Int):Option (List Int):=if (sA.length:Int)=(sA.length:Int)/\(sA.length:Int)=(sA.length:Int) then
 some sA
 else none
def r8 (n:Int)(st:(List Int)×Int):Option (((List Int)×Int)⊕(List Int)):=if (0:Int)<=st.2 then
 if (0:Int)<=(cV .i64 (8 *st.2)) then
 if (st.1.length+([cV .u8 (IT n (2^min (sh (cV .i64 (8 *st.2))) (AI .u64)))]:List Int).length) *1<=2^46 then
 some (.inl (st.1++([cV .u8 (IT n (2^min (sh (cV .i64 (8 *st.2))) (AI .u64)))]:List Int),cV .i64 (st.2-1)))
 else none
 else none
 else
 some (.inr st.1)
def tI (b:List Int)(n:Int):Option (List Int):=bd (uq n) λrA=>
 bd (ou b) λbu=>
 if 0<([cV .u8 (cV .i64 (rA-1))]:List Int).length/\(bu.length+([cV .u8 (cV .i64 (rA-1))]:List Int).length) *1<=2^46 then
 bd (Loop (r8 n) (bu++([cV .u8 (cV .i64 (rA-1))]:List Int),cV .i64 ((cV .i64 (rA-1))-1))) λw=>
 some w
 else none
def lM (b:List Int)(n:Int):Option (List Int):=if (0:Int)<=1 then
 if (0:Int)<=63 then
 bd (tI b (E8 .u64 (cV .u64 ((cV .u64 n) *2^min (sh 1) (AI .u64))) (cV .u64 (IT n (2^min (sh 63) (AI .i64)))))) λrA=>
 some rA
 else none
 else none
def qU (b:List Int)(sA:List UInt8):Option (List Int):=bd (tI b (cV .u64 (sA.length:Int))) λrA=>
 if (rA.length+(D5 sA).length) *1<=2^46 then
 some (rA++(D5 sA))
 else none
def ov (a:af)(st:(List Int)×Int):Option (((List Int)×Int)⊕(List Int)):=if st.2<(a.Proof.length:Int) then
 ix a.Proof st.2 λy=>
 bd (lM st.1 y.By) λsw=>
 some (.inl (sw,cV .i64 (st.2+1)))
 else
 some (.inr st.1)
def n5 (a:af):Option (List Int):=bd (lM ([]:List Int) a.View) λrA=>
 bd (iS a.Has) λbu=>
 bd (lM rA bu) λcg=>
 bd (lM cg a.At) λcM=>
 bd (qU cM a.Value) λiR=>
 bd (lM iR (a.Proof.length:Int)) λmc=>
 bd (Loop (ov a) (mc,0)) λw=>
 bd (n4 a.Proof) λDv=>
 bd (if Dv.2.2 then
  bd (lM w Dv.1) λrA8=>
  bd (qU rA8 Dv.2.1) λrA9=>
  some rA9
  else
  some w:Option (List Int)) λw1=>
 some w1
def nt (sA:ae)(i:Int)(n:ao):Option ao:=bd (n5 n.A) λrA=>
 bd (lL sA i rA) λbu=>
 bd (o9 sA) λcg=>
 some (⟨bu.1,cg.1,([]:List ab),bu.1.View⟩:ao)
def dF (c:aj)(i:Int)(bad:Bool):Option Bool:=bd (if (0:Int)<=i then
  if i<(c.bY.length:Int) then
  ix c.bY i λy=>
  some (decide (y=bad))
  else
  some false
  else
  some false:Option Bool) λw=>
 some w
def fh (s1:List aa)(s2:List aa)(st:Int):Option (Int⊕(Unit⊕Bool)):=if st<(s1.length:Int) then
 ix s1 st λy=>
 ix s2 st λy1=>
 if !((decide (y.By=y1.By))&&((decide (y.View=y1.View))&&(decide (y.Value=y1.Value)))) then
 some (.inr (.inr false))
 else
 some (.inl (cV .i64 (st+1)))
 else
 some (.inr (.inl ()))
def gn (s1:List aa)(s2:List aa):Option Bool:=if !decide ((s1.length:Int)=(s2.length:Int)) then
 some false
 else
 bd (Loop (fh s1 s2) 0) λw=>
 match w with
 | .inl p1=>some true
 | .inr p2=>some p2
def ur (a:List aa)(b:List aa):Option Bool:=bd (gn a b) λrA=>some rA
def kc (x:ab)(y:ab):Option Bool:=bd (if x.By=y.By then
  if x.fS=y.fS then
  if x.Has=y.Has then
  if x.View=y.View then
  if x.Value=y.Value then
  bd (ur x.Proof y.Proof) λrA=>
  some rA
  else
  some false
  else
  some false
  else
  some false
  else
  some false
  else
  some false:Option Bool) λw=>
 some w
def bp (s1:List ab)(s2:List ab)(eq:ab->ab->Option Bool)(st:Int):Option (Int⊕(Unit⊕Bool)):=if st<(s1.length:Int) then
 ix s1 st λy=>
 ix s2 st λy1=>
 bd (eq y y1) λrA=>
 if !rA then
 some (.inr (.inr false))
 else
 some (.inl (cV .i64 (st+1)))
 else
 some (.inr (.inl ()))
def bP (s1:List ab)(s2:List ab)(eq:ab->ab->Option Bool):Option Bool:=if !decide ((s1.length:Int)=(s2.length:Int)) then
 some false
 else
 bd (Loop (bp s1 s2 eq) 0) λw=>
 match w with
 | .inl p1=>some true
 | .inr p2=>some p2
def mP (a:List ab)(b:List ab):Option Bool:=bd (bP a b kc) λrA=>some rA
def cK (m:ai)(c:ab):Option Bool:=bd (if m.Kind=4 then
  bd (mP ([m.R]:List ab) ([c]:List ab)) λrA=>
  some rA
  else
  some false:Option Bool) λw=>
 some w
def il (m:ai)(c:aa):Option Bool:=bd (if m.Kind=2 then
  some ((decide (m.bM.By=c.By))&&((decide (m.bM.View=c.View))&&(decide (m.bM.Value=c.Value))))
  else
  some false:Option Bool) λw=>
 some w
def cP (sA:List ai)(f:ai->Option Bool)(st:Int):Option (Int⊕(Unit⊕Int)):=if st<(sA.length:Int) then
 ix sA st λy=>
 bd (f y) λrA=>
 if rA then
 some (.inr (.inr st))
 else
 some (.inl (cV .i64 (st+1)))
 else
 some (.inr (.inl ()))
def fj (sA:List ai)(f:ai->Option Bool):Option Int:=bd (Loop (cP sA f) 0) λw=>
 match w with
 | .inl p1=>some (-1)
 | .inr p2=>some p2
def bD (sA:List ai)(f:ai->Option Bool):Option Bool:=bd (fj sA f) λrA=>some (decide ((0:Int)<=rA))
def jH (c:aj)(a:aa):Option Bool:=bd (bd (dF c a.By true) λrA=>
  if rA then
  some true
  else
  bd (bD c.aC (λu=>il u a)) λbu=>
  some bu:Option Bool) λw=>
 some w
def fQ (a:aa)(c:aj):Option Bool:=bd (jH c a) λrA=>some (!rA)
def cu (sA:List aa)(f:aa->Option Bool)(st:Int):Option (Int⊕(Unit⊕Int)):=if st<(sA.length:Int) then
 ix sA st λy=>
 bd (f y) λrA=>
 if rA then
 some (.inr (.inr st))
 else
 some (.inl (cV .i64 (st+1)))
 else
 some (.inr (.inl ()))
def eG (sA:List aa)(f:aa->Option Bool):Option Int:=bd (Loop (cu sA f) 0) λw=>
 match w with
 | .inl p1=>some (-1)
 | .inr p2=>some p2
def ck (sA:List aa)(f:aa->Option Bool):Option Bool:=bd (eG sA f) λrA=>some (decide ((0:Int)<=rA))
def dR (c:aj)(lA:List aa):Option Bool:=bd (ck lA (λu=>fQ u c)) λrA=>some (!rA)
def fM (c:aj)(rA:ab):Option Bool:=bd (bd (dF c rA.By true) λbu=>
  if bu then
  bd (dR c rA.Proof) λcg=>
  if cg then
  some true
  else
  bd (bD c.aC (λu=>cK u rA)) λcM=>
  some cM
  else
  bd (bD c.aC (λu2=>cK u2 rA)) λiR=>
  some iR:Option Bool) λw=>
 some w
def nu (rA:ab)(c:aj):Option Bool:=bd (fM c rA) λbu=>some (!bu)
def cw (sA:List ab)(f:ab->Option Bool)(st:Int):Option (Int⊕(Unit⊕Int)):=if st<(sA.length:Int) then
 ix sA st λy=>
 bd (f y) λrA=>
 if rA then
 some (.inr (.inr st))
 else
 some (.inl (cV .i64 (st+1)))
 else
 some (.inr (.inl ()))
def eH (sA:List ab)(f:ab->Option Bool):Option Int:=bd (Loop (cw sA f) 0) λw=>
 match w with
 | .inl p1=>some (-1)
 | .inr p2=>some p2
def cm (sA:List ab)(f:ab->Option Bool):Option Bool:=bd (eH sA f) λrA=>some (decide ((0:Int)<=rA))
def lh (c:aj)(m:ai):Option Bool:=if m.Kind=1 then
 bd (bd (dF c m.cN true) λrA=>
  if rA then
  bd (cm m.fC (λu=>nu u c)) λbu=>
  some (!bu)
  else
  some false:Option Bool) λw=>
 some w
 else
 if m.Kind=2 then
 bd (dF c m.bM.By true) λcg=>
 some cg
 else
 if m.Kind=3 then
 bd (bd (dF c m.cN true) λcM=>
  if cM then
  bd (dR c m.Proof) λiR=>
  some iR
  else
  some false:Option Bool) λw1=>
 some w1
 else
 if m.Kind=4 then
 bd (bd (dF c m.R.By true) λmc=>
  if mc then
  bd (dR c m.R.Proof) λsw=>
  some sw
  else
  some false:Option Bool) λw2=>
 some w2
 else
 if m.Kind=5 then
 bd (dF c m.cN true) λDv=>
 some Dv
 else
 some false
def gE (sA:List ai):Option (List ai):=if (sA.length:Int)=(sA.length:Int)/\(sA.length:Int)=(sA.length:Int) then
 some sA
 else none
def eN (sA:ae)(view:Int):Option Int:=bd (pH sA) λrA=>
 if !decide (rA=0) then
 some (Int.tmod (imax view 0) rA)
 else none
def lN (rA:ab):Option Int:=bd (n4 rA.Proof) λbu=>
 if !bu.2.2 then
 some (-1)
 else
 some bu.1
def uu (sA:ae):Option Int:=bd (kW sA (4607182418800017408,4607182418800017408)) λrA=>some rA
def mQ (a1:List ab)(st:Int×(List UInt8)×Int):Option ((Int×(List UInt8)×Int)⊕(Int×(List UInt8))):=if st.2.2<(a1.length:Int) then
 ix a1 st.2.2 λy=>
 bd (lN y) λrA=>
 bd (if st.1<rA then
  ix y.Proof 0 λy1=>
  some (rA,y1.Value)
  else
  some (st.1,st.2.1):Option (Int×(List UInt8))) λw1=>
 some (.inl (w1.1,w1.2,cV .i64 (st.2.2+1)))
 else
 some (.inr (st.1,st.2.1))
def pK (a1:List ab)(w:Int×(List UInt8))(cR:(List MV)×Int):Option (((List MV)×Int)⊕(List MV)):=if cR.2<(a1.length:Int) then
 ix a1 cR.2 λy2=>
 bd (if y2.Has then
  some (decide (w.1<y2.View))
  else
  some false:Option Bool) λw3=>
 bd (if w3 then
  some (ua (nL cR.1 ([.s y2.Value]:List MV) (.i .i64 0)) (cE cR.1 ([.s y2.Value]:List MV)) (.i .i64 (cV .i64 ((nU cR.1 ([.s y2.Value]:List MV))+1))))
  else
  some cR.1:Option (List MV)) λw4=>
 some (.inl (w4,cV .i64 (cR.2+1)))
 else
 some (.inr cR.1)
def pL (a:ae)(m29:MV):Option (Unit⊕(Unit⊕((List UInt8)×Bool))):=QW m29 λkey n=>
 bd (uu a) λbu=>
 if bu<=n then
 some (.inr (.inr (key,true)))
 else
 some (.inl ())
def li (a:ae)(a1:List ab):Option ((List UInt8)×Bool):=bd (Loop (mQ a1) ((-1),([]:List UInt8),0)) λw=>
 bd (Loop (pK a1 w) (([]:List MV),0)) λw2=>
 bd (um (pL a) (some (.inl ())) w2) λw5=>
 match w5 with
 | .inl p5=>some (w.2,decide (((-1):Int)<w.1))
 | .inr p6=>some (p6.1,p6.2)
def tJ (sA:ae):Option Int:=bd (kW sA (4611686018427387904,4611686018427387904)) λrA=>some rA
def gG (a:ae)(a1:ab):Option Bool:=bd (bd (j9 a) λrA=>
  if !rA then
  some true
  else
  if a1.By<0 then
  some true
  else
  bd (pH a) λbu=>
  if bu<=a1.By then
  some true
  else
  if a1.fS<1 then
  some true
  else
  some (decide ((100000:Int)<a1.fS)):Option Bool) λw=>
 if w then
 some false
 else
 bd (if !a1.Has then
  if !decide (a1.View=0) then
  some true
  else
  some (!decide (a1.Value=([]:List UInt8)))
  else
  some false:Option Bool) λw1=>
 if w1 then
 some false
 else
 bd (if a1.Has then
  if a1.View<0 then
  some true
  else
  if a1.fS<=a1.View then
  some true
  else
  some (decide ((6000:Int)<(a1.Value.length:Int)))
  else
  some false:Option Bool) λw2=>
 if w2 then
 some false
 else
 bd (if (a1.Proof.length:Int)=0 then
  some true
  else
  bd (kX a a1.Proof) λcg=>
  if cg then
  bd (lN a1) λcM=>
  some (decide (cM<a1.fS))
  else
  some false:Option Bool) λw3=>
 some w3
def pM (sA:ae)(view:Int)(lA:List ab)(st:Int×Int):Option ((Int×Int)⊕(Unit⊕Bool)):=if st.2<(lA.length:Int) then
 ix lA st.2 λy=>
 bd (bd (gG sA y) λcg=>
  if !cg then
  some true
  else
  if !decide (y.fS=view) then
  some true
  else
  some (decide (y.By<=st.1)):Option Bool) λw2=>
 if w2 then
 some (.inr (.inr false))
 else
 some (.inl (y.By,cV .i64 (st.2+1)))
 else
 some (.inr (.inl ()))
def pN (sA:ae)(view:Int)(lA:List ab):Option Bool:=bd (bd (j9 sA) λrA=>
  if !rA then
  some true
  else
  bd (tJ sA) λbu=>
  some (!decide ((lA.length:Int)=bu)):Option Bool) λw=>
 if w then
 some false
 else
 bd (Loop (pM sA view lA) ((-1),0)) λw1=>
 match w1 with
 | .inl p1=>some true
 | .inr p2=>some p2
def cW (sA:ae)(view:Int)(lA:List ab)(value:List UInt8):Option Bool:=bd (pN sA view lA) λrA=>
 if !rA then
 some false
 else
 bd (li sA lA) λbu=>
 bd (if !bu.2 then
  some true
  else
  some (decide (bu.1=value)):Option Bool) λw=>
 some w
def dO (a:af)(view:Int)(value:List UInt8)(gJ:List ab):Option (af×aa×Bool):=bd (if !decide (view=a.View) then
  some true
  else
  if a.Has then
  if a.At=view then
  some true
  else
  some (decide ((6000:Int)<(value.length:Int)))
  else
  some (decide ((6000:Int)<(value.length:Int))):Option Bool) λw=>
 if w then
 some (a,(⟨0,0,([]:List UInt8)⟩:aa),false)
 else
 bd (if view=0 then
  some (decide ((gJ.length:Int)=0))
  else
  some false:Option Bool) λw1=>
 bd (if w1 then
  some (.inr (0,0,0,0,false,0,([]:List UInt8),([]:List aa),([]:List aa),0,0,([]:List UInt8)))
  else
  bd (cW a.S view gJ value) λrA=>
  if !rA then
  some (.inl (a.S.F,a.S.T,a.Me,a.View,a.Has,a.At,a.Value,a.Proof,a.bT.L,0,0,([]:List UInt8),false))
  else
  some (.inr (0,0,0,0,false,0,([]:List UInt8),([]:List aa),([]:List aa),0,0,([]:List UInt8))):Option ((Int×Int×Int×Int×Bool×Int×(List UInt8)×(List aa)×(List aa)×Int×Int×(List UInt8)×Bool)⊕(Int×Int×Int×Int×Bool×Int×(List UInt8)×(List aa)×(List aa)×Int×Int×(List UInt8)))) λw2=>
 match w2 with
 | .inl p1=>some ((⟨(⟨p1.1,p1.2.1⟩:ae),p1.2.2.1,p1.2.2.2.1,p1.2.2.2.2.1,p1.2.2.2.2.2.1,p1.2.2.2.2.2.2.1,p1.2.2.2.2.2.2.2.1,(⟨p1.2.2.2.2.2.2.2.2.1⟩:aA)⟩:af),(⟨p1.2.2.2.2.2.2.2.2.2.1,p1.2.2.2.2.2.2.2.2.2.2.1,p1.2.2.2.2.2.2.2.2.2.2.2.1⟩:aa),p1.2.2.2.2.2.2.2.2.2.2.2.2)
 | .inr p2=>some ((⟨a.S,a.Me,a.View,true,view,value,a.Proof,a.bT⟩:af),(⟨a.Me,view,value⟩:aa),true)
def nw (x:Int):Option Bool:=some (!decide (x=x))
def kK (x:Int)(y:Int):Option Int:=bd (nw x) λrA=>
 bd (nw y) λbu=>
 if rA then
 if bu then
 some 0
 else
 some (-1)
 else
 if bu then
 some 1
 else
 if x<y then
 some (-1)
 else
 if y<x then
 some 1
 else
 some 0
def kY (x:aa)(qz:Int):Option Int:=bd (kK x.By qz) λrA=>some rA
def iq (x:List aa)(target:Int)(cmp:aa->Int->Option Int)(st:Int×Int):Option ((Int×Int)⊕Int):=if st.1<st.2 then
 if (0:Int)<=1 then
 ix x (cV .i64 (IT (cV .u64 (cV .i64 (st.1+st.2))) (2^min (sh 1) (AI .u64)))) λy=>
 bd (cmp y target) λrA=>
 bd (if rA<0 then
  some (cV .i64 ((cV .i64 (IT (cV .u64 (cV .i64 (st.1+st.2))) (2^min (sh 1) (AI .u64))))+1),st.2)
  else
  some (st.1,cV .i64 (IT (cV .u64 (cV .i64 (st.1+st.2))) (2^min (sh 1) (AI .u64)))):Option (Int×Int)) λw1=>
 some (.inl (w1.1,w1.2))
 else none
 else
 some (.inr st.1)
def cz (x:List aa)(target:Int)(cmp:aa->Int->Option Int):Option (Int×Bool):=bd (Loop (iq x target cmp) (0,(x.length:Int))) λw=>
 bd (if w<(x.length:Int) then
  ix x w λy1=>
  bd (cmp y1 target) λbu=>
  some (w,decide (bu=0))
  else
  some (w,false):Option (Int×Bool)) λw2=>
 some (w2.1,w2.2)
def jb (t:aA)(a:aa):Option (aA×Bool):=bd (kJ a) λrA=>
 if !rA then
 some (t,false)
 else
 bd (cz t.L a.By kY) λbu=>
 bd (if bu.2 then
  ix t.L bu.1 λy=>
  some (decide (a.View<=y.View))
  else
  some false:Option Bool) λw=>
 if w then
 some (t,false)
 else
 bd (qR 32 t.L) λcg=>
 bd (if bu.2 then
  ix cg bu.1 λy1=>
  some (cg.set (sh bu.1) a)
  else
  bd (BH 32 cg bu.1 ([a]:List aa)) λcM=>
  some cM:Option (List aa)) λw1=>
 some ((⟨w1⟩:aA),true)
def te (a:aA)(st:(List MV)×Int):Option (((List MV)×Int)⊕(List MV)):=if st.2<(a.L.length:Int) then
 ix a.L st.2 λy=>
 if (0:Int)<=(cE st.1 ([.i .i64 y.View,.s y.Value]:List MV):Int)/\sh (cE st.1 ([.i .i64 y.View,.s y.Value]:List MV):Int)<(nL st.1 ([.i .i64 y.View,.s y.Value]:List MV) (.i .i64 0)).length then
 some (.inl (ua (nL st.1 ([.i .i64 y.View,.s y.Value]:List MV) (.i .i64 0)) (sh (cE st.1 ([.i .i64 y.View,.s y.Value]:List MV):Int)) (.i .i64 (cV .i64 ((nU st.1 ([.i .i64 y.View,.s y.Value]:List MV))+1))),cV .i64 (st.2+1)))
 else none
 else
 some (.inr st.1)
def pO (a:aA)(a1:Int)(w:(List MV))(cR:Int×(List UInt8)×Bool×Int):Option ((Int×(List UInt8)×Bool×Int)⊕(Int×(List UInt8)×Bool)):=if cR.2.2.2<(a.L.length:Int) then
 ix a.L cR.2.2.2 λy1=>
 bd (if (1:Int)<=a1 then
  if a1<=(nU w ([.i .i64 y1.View,.s y1.Value]:List MV)) then
  some (decide (cR.1<y1.View))
  else
  some false
  else
  some false:Option Bool) λw2=>
 bd (if w2 then
  some (y1.View,y1.Value,true)
  else
  some (cR.1,cR.2.1,cR.2.2.1):Option (Int×(List UInt8)×Bool)) λw3=>
 some (.inl (w3.1,w3.2.1,w3.2.2,cV .i64 (cR.2.2.2+1)))
 else
 some (.inr (cR.1,cR.2.1,cR.2.2.1))
def lj (a:aA)(a1:Int):Option (Int×(List UInt8)×Bool):=bd (Loop (te a) (([]:List MV),0)) λw=>
 bd (Loop (pO a a1 w) ((-1),([]:List UInt8),false,0)) λw1=>
 if !w1.2.2 then
 some (0,([]:List UInt8),false)
 else
 some (w1.1,w1.2.1,true)
def uv (sA:ae)(t:aA):Option ((List aa)×Bool):=bd (mN sA) λrA=>
 bd (lj t rA) λbu=>
 if !bu.2.2 then
 some (([]:List aa),false)
 else
 bd (np t bu.1 bu.2.1) λcg=>
 bd (mN sA) λcM=>
 if (0:Int)<=0/\(0:Int)<=cM/\cM<=(cg.length:Int) then
 some (AT (sh 0) (BY (sh cM) cg),true)
 else none
def lO (a:af)(a1:aa):Option (af×(List aa)×Bool):=bd (bd (pH a.S) λrA=>
  if rA<=a1.By then
  some true
  else
  some (!decide (a1.View=a.View)):Option Bool) λw=>
 if w then
 some (a,([]:List aa),false)
 else
 bd (jb a.bT a1) λbu=>
 bd (uv a.S bu.1) λcg=>
 bd (n4 a.Proof) λcM=>
 bd (bd (kJ a1) λiR=>
  if !iR then
  some true
  else
  if !cg.2 then
  some true
  else
  some (decide (a.View<=cM.1)):Option Bool) λw1=>
 if w1 then
 some ((⟨a.S,a.Me,a.View,a.Has,a.At,a.Value,a.Proof,bu.1⟩:af),([]:List aa),false)
 else
 some ((⟨a.S,a.Me,a.View,a.Has,a.At,a.Value,cg.1,bu.1⟩:af),cg.1,true)
def xg (sA:ae):Option Int:=bd (kW sA (4613937818241073152,4607182418800017408)) λrA=>some rA
def ju (lA:ar)(t:ar)(a:aa)(b6:Int):Option ((Bool×(List UInt8))×ar):=bd (if lA.bw then
  some true
  else
  if a.By<0 then
  some true
  else
  bd (pH lA.S) λrA=>
  if rA<=a.By then
  some true
  else
  bd (kJ a) λbu=>
  some (!bu):Option Bool) λw=>
 if w then
 some ((false,([]:List UInt8)),t)
 else
 bd (jb t.aY a) λcg=>
 bd (lj cg.1 b6) λcM=>
 some ((cM.2.2,cM.2.1),(⟨t.S,cg.1,t.aR,t.Told,t.bw,t.Value⟩:ar))
def jv (lA:ar)(t:ar)(a:aa)(b6:Int):Option ((Bool×(List UInt8))×ar):=bd (if lA.bw then
  some true
  else
  if a.By<0 then
  some true
  else
  bd (pH lA.S) λrA=>
  if rA<=a.By then
  some true
  else
  bd (kJ a) λbu=>
  some (!bu):Option Bool) λw=>
 if w then
 some ((false,([]:List UInt8)),t)
 else
 bd (jb t.aR a) λcg=>
 bd (lj cg.1 b6) λcM=>
 some ((cM.2.2,cM.2.1),(⟨t.S,t.aY,cg.1,t.Told,t.bw,t.Value⟩:ar))
def jx (lA:ar)(t:ar)(a:aa)(b6:Int):Option ((Bool×(List UInt8))×ar):=bd (if lA.bw then
  some true
  else
  if a.By<0 then
  some true
  else
  bd (pH lA.S) λrA=>
  if rA<=a.By then
  some true
  else
  bd (kJ a) λbu=>
  some (!bu):Option Bool) λw=>
 if w then
 some ((false,([]:List UInt8)),t)
 else
 bd (jb t.Told a) λcg=>
 bd (lj cg.1 b6) λcM=>
 some ((cM.2.2,cM.2.1),(⟨t.S,t.aY,t.aR,cg.1,t.bw,t.Value⟩:ar))
def jc (lA:ar)(a:aa):Option ar:=bd (xg lA.S) λrA=>
 bd (ju lA lA a rA) λbu=>
 bd (if bu.1.1 then
  some (bu.2.S.F,bu.2.S.T,bu.2.aY.L,bu.2.aR.L,bu.2.Told.L,true,bu.1.2)
  else
  some (bu.2.S.F,bu.2.S.T,bu.2.aY.L,bu.2.aR.L,bu.2.Told.L,bu.2.bw,bu.2.Value):Option (Int×Int×(List aa)×(List aa)×(List aa)×Bool×(List UInt8))) λw=>
 some (⟨(⟨w.1,w.2.1⟩:ae),(⟨w.2.2.1⟩:aA),(⟨w.2.2.2.1⟩:aA),(⟨w.2.2.2.2.1⟩:aA),w.2.2.2.2.2.1,w.2.2.2.2.2.2⟩:ar)
def jO (lA:ar)(qz:Int)(p:List aa):Option ar:=bd (kX lA.S p) λrA=>
 if !rA then
 some lA
 else
 bd (n4 p) λbu=>
 bd (mN lA.S) λcg=>
 bd (jv lA lA (⟨qz,bu.1,bu.2.1⟩:aa) cg) λcM=>
 bd (if cM.1.1 then
  some (cM.2.S.F,cM.2.S.T,cM.2.aY.L,cM.2.aR.L,cM.2.Told.L,true,cM.1.2)
  else
  some (cM.2.S.F,cM.2.S.T,cM.2.aY.L,cM.2.aR.L,cM.2.Told.L,cM.2.bw,cM.2.Value):Option (Int×Int×(List aa)×(List aa)×(List aa)×Bool×(List UInt8))) λw=>
 some (⟨(⟨w.1,w.2.1⟩:ae),(⟨w.2.2.1⟩:aA),(⟨w.2.2.2.1⟩:aA),(⟨w.2.2.2.2.1⟩:aA),w.2.2.2.2.2.1,w.2.2.2.2.2.2⟩:ar)
def fU (x:ab)(qz:Int):Option Int:=bd (kK x.By qz) λrA=>some rA
def ir (x:List ab)(target:Int)(cmp:ab->Int->Option Int)(st:Int×Int):Option ((Int×Int)⊕Int):=if st.1<st.2 then
 if (0:Int)<=1 then
 ix x (cV .i64 (IT (cV .u64 (cV .i64 (st.1+st.2))) (2^min (sh 1) (AI .u64)))) λy=>
 bd (cmp y target) λrA=>
 bd (if rA<0 then
  some (cV .i64 ((cV .i64 (IT (cV .u64 (cV .i64 (st.1+st.2))) (2^min (sh 1) (AI .u64))))+1),st.2)
  else
  some (st.1,cV .i64 (IT (cV .u64 (cV .i64 (st.1+st.2))) (2^min (sh 1) (AI .u64)))):Option (Int×Int)) λw1=>
 some (.inl (w1.1,w1.2))
 else none
 else
 some (.inr st.1)
def cA (x:List ab)(target:Int)(cmp:ab->Int->Option Int):Option (Int×Bool):=bd (Loop (ir x target cmp) (0,(x.length:Int))) λw=>
 bd (if w<(x.length:Int) then
  ix x w λy1=>
  bd (cmp y1 target) λbu=>
  some (w,decide (bu=0))
  else
  some (w,false):Option (Int×Bool)) λw2=>
 some (w2.1,w2.2)
def ke (n:ao)(sA:ae)(i:Int)(rA:ab):Option (Unit×ao):=bd (cA n.dq rA.By fU) λbu=>
 bd (if !bu.2 then
  if n.A.View=rA.fS then
  bd (eN sA rA.fS) λcg=>
  if cg=i then
  bd (gG sA rA) λcM=>
  some cM
  else
  some false
  else
  some false
  else
  some false:Option Bool) λw=>
 bd (if w then
  bd (qR 72 n.dq) λiR=>
  bd (BH 72 iR bu.1 ([rA]:List ab)) λmc=>
  some (n.A.S.F,n.A.S.T,n.A.Me,n.A.View,n.A.Has,n.A.At,n.A.Value,n.A.Proof,n.A.bT.L,n.L.S.F,n.L.S.T,n.L.aY.L,n.L.aR.L,n.L.Told.L,n.L.bw,n.L.Value,mc,n.et)
  else
  some (n.A.S.F,n.A.S.T,n.A.Me,n.A.View,n.A.Has,n.A.At,n.A.Value,n.A.Proof,n.A.bT.L,n.L.S.F,n.L.S.T,n.L.aY.L,n.L.aR.L,n.L.Told.L,n.L.bw,n.L.Value,n.dq,n.et):Option (Int×Int×Int×Int×Bool×Int×(List UInt8)×(List aa)×(List aa)×Int×Int×(List aa)×(List aa)×(List aa)×Bool×(List UInt8)×(List ab)×Int)) λw1=>
 some ((),(⟨(⟨(⟨w1.1,w1.2.1⟩:ae),w1.2.2.1,w1.2.2.2.1,w1.2.2.2.2.1,w1.2.2.2.2.2.1,w1.2.2.2.2.2.2.1,w1.2.2.2.2.2.2.2.1,(⟨w1.2.2.2.2.2.2.2.2.1⟩:aA)⟩:af),(⟨(⟨w1.2.2.2.2.2.2.2.2.2.1,w1.2.2.2.2.2.2.2.2.2.2.1⟩:ae),(⟨w1.2.2.2.2.2.2.2.2.2.2.2.1⟩:aA),(⟨w1.2.2.2.2.2.2.2.2.2.2.2.2.1⟩:aA),(⟨w1.2.2.2.2.2.2.2.2.2.2.2.2.2.1⟩:aA),w1.2.2.2.2.2.2.2.2.2.2.2.2.2.2.1,w1.2.2.2.2.2.2.2.2.2.2.2.2.2.2.2.1⟩:ar),w1.2.2.2.2.2.2.2.2.2.2.2.2.2.2.2.2.1,w1.2.2.2.2.2.2.2.2.2.2.2.2.2.2.2.2.2⟩:ao))
def xh (sA:ae):Option Int:=bd (kW sA (4607182418800017408,0)) λrA=>some rA
def pP (lA:ar)(qz:Int)(value:List UInt8):Option ar:=bd (xh lA.S) λrA=>
 bd (jx lA lA (⟨qz,0,value⟩:aa) rA) λbu=>
 bd (if bu.1.1 then
  some (bu.2.S.F,bu.2.S.T,bu.2.aY.L,bu.2.aR.L,bu.2.Told.L,true,bu.1.2)
  else
  some (bu.2.S.F,bu.2.S.T,bu.2.aY.L,bu.2.aR.L,bu.2.Told.L,bu.2.bw,bu.2.Value):Option (Int×Int×(List aa)×(List aa)×(List aa)×Bool×(List UInt8))) λw=>
 some (⟨(⟨w.1,w.2.1⟩:ae),(⟨w.2.2.1⟩:aA),(⟨w.2.2.2.1⟩:aA),(⟨w.2.2.2.2.1⟩:aA),w.2.2.2.2.2.1,w.2.2.2.2.2.2⟩:ar)
def bq (a:ae)(a1:Int)(a2:ao)(a3:ai):Option (ao×(List ai)):=bd (if a3.Kind=1 then
  bd (eN a a3.View) λrA=>
  if !decide (a3.cN=rA) then
  some (.inl (a2.A.S.F,a2.A.S.T,a2.A.Me,a2.A.View,a2.A.Has,a2.A.At,a2.A.Value,a2.A.Proof,a2.A.bT.L,a2.L.S.F,a2.L.S.T,a2.L.aY.L,a2.L.aR.L,a2.L.Told.L,a2.L.bw,a2.L.Value,a2.dq,a2.et,([]:List ai)))
  else
  bd (dO a2.A a3.View a3.Value a3.fC) λbu=>
  bd (if bu.2.2 then
   if ([(⟨2,0,0,([]:List UInt8),([]:List ab),bu.2.1,([]:List aa),(⟨0,0,false,0,([]:List UInt8),([]:List aa)⟩:ab)⟩:ai)]:List ai).length *192<=2^46 then
   some ([(⟨2,0,0,([]:List UInt8),([]:List ab),bu.2.1,([]:List aa),(⟨0,0,false,0,([]:List UInt8),([]:List aa)⟩:ab)⟩:ai)]:List ai)
   else none
   else
   some ([]:List ai):Option (List ai)) λw1=>
  some (.inr (bu.1.S.F,bu.1.S.T,bu.1.Me,bu.1.View,bu.1.Has,bu.1.At,bu.1.Value,bu.1.Proof,bu.1.bT.L,a2.L.S.F,a2.L.S.T,a2.L.aY.L,a2.L.aR.L,a2.L.Told.L,a2.L.bw,a2.L.Value,a2.dq,a2.et,w1))
  else
  bd (if a3.Kind=2 then
   bd (lO a2.A a3.bM) λcg=>
   bd (if cg.2.2 then
    if ([(⟨3,a1,0,([]:List UInt8),([]:List ab),(⟨0,0,([]:List UInt8)⟩:aa),cg.2.1,(⟨0,0,false,0,([]:List UInt8),([]:List aa)⟩:ab)⟩:ai)]:List ai).length *192<=2^46 then
    some ([(⟨3,a1,0,([]:List UInt8),([]:List ab),(⟨0,0,([]:List UInt8)⟩:aa),cg.2.1,(⟨0,0,false,0,([]:List UInt8),([]:List aa)⟩:ab)⟩:ai)]:List ai)
    else none
    else
    some ([]:List ai):Option (List ai)) λw3=>
   bd (jc a2.L a3.bM) λcM=>
   some (cg.1.S.F,cg.1.S.T,cg.1.Me,cg.1.View,cg.1.Has,cg.1.At,cg.1.Value,cg.1.Proof,cg.1.bT.L,cM.S.F,cM.S.T,cM.aY.L,cM.aR.L,cM.Told.L,cM.bw,cM.Value,a2.dq,a2.et,w3)
   else
   bd (if a3.Kind=3 then
    bd (jO a2.L a3.cN a3.Proof) λiR=>
    some (a2.A.S.F,a2.A.S.T,a2.A.Me,a2.A.View,a2.A.Has,a2.A.At,a2.A.Value,a2.A.Proof,a2.A.bT.L,iR.S.F,iR.S.T,iR.aY.L,iR.aR.L,iR.Told.L,iR.bw,iR.Value,a2.dq,a2.et)
    else
    bd (if a3.Kind=4 then
     bd (ke a2 a a1 a3.R) λmc=>
     some (mc.2.A.S.F,mc.2.A.S.T,mc.2.A.Me,mc.2.A.View,mc.2.A.Has,mc.2.A.At,mc.2.A.Value,mc.2.A.Proof,mc.2.A.bT.L,mc.2.L.S.F,mc.2.L.S.T,mc.2.L.aY.L,mc.2.L.aR.L,mc.2.L.Told.L,mc.2.L.bw,mc.2.L.Value,mc.2.dq,mc.2.et)
     else
     bd (if a3.Kind=5 then
      bd (pP a2.L a3.cN a3.Value) λsw=>
      some (a2.A.S.F,a2.A.S.T,a2.A.Me,a2.A.View,a2.A.Has,a2.A.At,a2.A.Value,a2.A.Proof,a2.A.bT.L,sw.S.F,sw.S.T,sw.aY.L,sw.aR.L,sw.Told.L,sw.bw,sw.Value,a2.dq,a2.et)
      else
      some (a2.A.S.F,a2.A.S.T,a2.A.Me,a2.A.View,a2.A.Has,a2.A.At,a2.A.Value,a2.A.Proof,a2.A.bT.L,a2.L.S.F,a2.L.S.T,a2.L.aY.L,a2.L.aR.L,a2.L.Told.L,a2.L.bw,a2.L.Value,a2.dq,a2.et):Option (Int×Int×Int×Int×Bool×Int×(List UInt8)×(List aa)×(List aa)×Int×Int×(List aa)×(List aa)×(List aa)×Bool×(List UInt8)×(List ab)×Int)) λw6=>
     some w6:Option (Int×Int×Int×Int×Bool×Int×(List UInt8)×(List aa)×(List aa)×Int×Int×(List aa)×(List aa)×(List aa)×Bool×(List UInt8)×(List ab)×Int)) λw5=>
    some w5:Option (Int×Int×Int×Int×Bool×Int×(List UInt8)×(List aa)×(List aa)×Int×Int×(List aa)×(List aa)×(List aa)×Bool×(List UInt8)×(List ab)×Int)) λw4=>
   some (w4.1,w4.2.1,w4.2.2.1,w4.2.2.2.1,w4.2.2.2.2.1,w4.2.2.2.2.2.1,w4.2.2.2.2.2.2.1,w4.2.2.2.2.2.2.2.1,w4.2.2.2.2.2.2.2.2.1,w4.2.2.2.2.2.2.2.2.2.1,w4.2.2.2.2.2.2.2.2.2.2.1,w4.2.2.2.2.2.2.2.2.2.2.2.1,w4.2.2.2.2.2.2.2.2.2.2.2.2.1,w4.2.2.2.2.2.2.2.2.2.2.2.2.2.1,w4.2.2.2.2.2.2.2.2.2.2.2.2.2.2.1,w4.2.2.2.2.2.2.2.2.2.2.2.2.2.2.2.1,w4.2.2.2.2.2.2.2.2.2.2.2.2.2.2.2.2.1,w4.2.2.2.2.2.2.2.2.2.2.2.2.2.2.2.2.2,([]:List ai)):Option (Int×Int×Int×Int×Bool×Int×(List UInt8)×(List aa)×(List aa)×Int×Int×(List aa)×(List aa)×(List aa)×Bool×(List UInt8)×(List ab)×Int×(List ai))) λw2=>
  some (.inr w2):Option ((Int×Int×Int×Int×Bool×Int×(List UInt8)×(List aa)×(List aa)×Int×Int×(List aa)×(List aa)×(List aa)×Bool×(List UInt8)×(List ab)×Int×(List ai))⊕(Int×Int×Int×Int×Bool×Int×(List UInt8)×(List aa)×(List aa)×Int×Int×(List aa)×(List aa)×(List aa)×Bool×(List UInt8)×(List ab)×Int×(List ai)))) λw=>
 match w with
 | .inl p7=>
  bd (if p7.2.2.2.2.2.2.2.2.2.2.2.2.2.2.1 then
   some (!a2.L.bw)
   else
   some false:Option Bool) λw7=>
  bd (if w7 then
   if (p7.2.2.2.2.2.2.2.2.2.2.2.2.2.2.2.2.2.2.length+([(⟨5,a1,0,p7.2.2.2.2.2.2.2.2.2.2.2.2.2.2.2.1,([]:List ab),(⟨0,0,([]:List UInt8)⟩:aa),([]:List aa),(⟨0,0,false,0,([]:List UInt8),([]:List aa)⟩:ab)⟩:ai)]:List ai).length) *192<=2^46 then
   some (p7.2.2.2.2.2.2.2.2.2.2.2.2.2.2.2.2.2.2++([(⟨5,a1,0,p7.2.2.2.2.2.2.2.2.2.2.2.2.2.2.2.1,([]:List ab),(⟨0,0,([]:List UInt8)⟩:aa),([]:List aa),(⟨0,0,false,0,([]:List UInt8),([]:List aa)⟩:ab)⟩:ai)]:List ai))
   else none
   else
   some p7.2.2.2.2.2.2.2.2.2.2.2.2.2.2.2.2.2.2:Option (List ai)) λw8=>
  some ((⟨(⟨(⟨p7.1,p7.2.1⟩:ae),p7.2.2.1,p7.2.2.2.1,p7.2.2.2.2.1,p7.2.2.2.2.2.1,p7.2.2.2.2.2.2.1,p7.2.2.2.2.2.2.2.1,(⟨p7.2.2.2.2.2.2.2.2.1⟩:aA)⟩:af),(⟨(⟨p7.2.2.2.2.2.2.2.2.2.1,p7.2.2.2.2.2.2.2.2.2.2.1⟩:ae),(⟨p7.2.2.2.2.2.2.2.2.2.2.2.1⟩:aA),(⟨p7.2.2.2.2.2.2.2.2.2.2.2.2.1⟩:aA),(⟨p7.2.2.2.2.2.2.2.2.2.2.2.2.2.1⟩:aA),p7.2.2.2.2.2.2.2.2.2.2.2.2.2.2.1,p7.2.2.2.2.2.2.2.2.2.2.2.2.2.2.2.1⟩:ar),p7.2.2.2.2.2.2.2.2.2.2.2.2.2.2.2.2.1,p7.2.2.2.2.2.2.2.2.2.2.2.2.2.2.2.2.2.1⟩:ao),w8)
 | .inr p8=>
  bd (if p8.2.2.2.2.2.2.2.2.2.2.2.2.2.2.1 then
   some (!a2.L.bw)
   else
   some false:Option Bool) λw9=>
  bd (if w9 then
   if (p8.2.2.2.2.2.2.2.2.2.2.2.2.2.2.2.2.2.2.length+([(⟨5,a1,0,p8.2.2.2.2.2.2.2.2.2.2.2.2.2.2.2.1,([]:List ab),(⟨0,0,([]:List UInt8)⟩:aa),([]:List aa),(⟨0,0,false,0,([]:List UInt8),([]:List aa)⟩:ab)⟩:ai)]:List ai).length) *192<=2^46 then
   some (p8.2.2.2.2.2.2.2.2.2.2.2.2.2.2.2.2.2.2++([(⟨5,a1,0,p8.2.2.2.2.2.2.2.2.2.2.2.2.2.2.2.1,([]:List ab),(⟨0,0,([]:List UInt8)⟩:aa),([]:List aa),(⟨0,0,false,0,([]:List UInt8),([]:List aa)⟩:ab)⟩:ai)]:List ai))
   else none
   else
   some p8.2.2.2.2.2.2.2.2.2.2.2.2.2.2.2.2.2.2:Option (List ai)) λw10=>
  some ((⟨(⟨(⟨p8.1,p8.2.1⟩:ae),p8.2.2.1,p8.2.2.2.1,p8.2.2.2.2.1,p8.2.2.2.2.2.1,p8.2.2.2.2.2.2.1,p8.2.2.2.2.2.2.2.1,(⟨p8.2.2.2.2.2.2.2.2.1⟩:aA)⟩:af),(⟨(⟨p8.2.2.2.2.2.2.2.2.2.1,p8.2.2.2.2.2.2.2.2.2.2.1⟩:ae),(⟨p8.2.2.2.2.2.2.2.2.2.2.2.1⟩:aA),(⟨p8.2.2.2.2.2.2.2.2.2.2.2.2.1⟩:aA),(⟨p8.2.2.2.2.2.2.2.2.2.2.2.2.2.1⟩:aA),p8.2.2.2.2.2.2.2.2.2.2.2.2.2.2.1,p8.2.2.2.2.2.2.2.2.2.2.2.2.2.2.2.1⟩:ar),p8.2.2.2.2.2.2.2.2.2.2.2.2.2.2.2.2.1,p8.2.2.2.2.2.2.2.2.2.2.2.2.2.2.2.2.2.1⟩:ao),w10)
def wu (a:af):Option ab:=some (⟨a.Me,a.View,a.Has,a.At,a.Value,a.Proof⟩:ab)
def mR (a:af)(view:Int):Option (af×ab×Bool):=bd (if view<=a.View then
  some true
  else
  some (decide ((100000:Int)<view)):Option Bool) λw=>
 if w then
 some (a,(⟨0,0,false,0,([]:List UInt8),([]:List aa)⟩:ab),false)
 else
 bd (wu (⟨a.S,a.Me,view,a.Has,a.At,a.Value,a.Proof,(⟨([]:List aa)⟩:aA)⟩:af)) λrA=>
 some ((⟨a.S,a.Me,view,a.Has,a.At,a.Value,a.Proof,(⟨([]:List aa)⟩:aA)⟩:af),rA,true)
def pa (x_:ae)(x_1:Int)(n:ao)(view:Int):Option (ao×(List ai)):=bd (mR n.A view) λrA=>
 if !rA.2.2 then
 some (n,([]:List ai))
 else
 some ((⟨rA.1,n.L,([]:List ab),n.et⟩:ao),([(⟨4,0,0,([]:List UInt8),([]:List ab),(⟨0,0,([]:List UInt8)⟩:aa),([]:List aa),rA.2.1⟩:ai)]:List ai))
def cF (a:ae)(a1:Int)(a2:ao)(a3:List UInt8):Option (ao×(List ai)):=bd (tJ a) λrA=>
 bd (bd (eN a a2.A.View) λbu=>
  if !decide (bu=a1) then
  some true
  else
  some (decide (a2.A.View<=a2.et)):Option Bool) λw=>
 if w then
 some (a2,([]:List ai))
 else
 bd (if (0:Int)<a2.A.View then
  some (decide ((a2.dq.length:Int)<rA))
  else
  some false:Option Bool) λw1=>
 if w1 then
 some (a2,([]:List ai))
 else
 bd (if (0:Int)<a2.A.View then
  if (0:Int)<=0/\(0:Int)<=rA/\rA<=(a2.dq.length:Int) then
  bd (qR 72 (AT (sh 0) (BY (sh rA) a2.dq))) λcg=>
  bd (li a cg) λcM=>
  bd (if cM.2 then
   some (1,a1,a2.A.View,cM.1,cg,0,0,([]:List UInt8),([]:List aa),0,0,false,0,([]:List UInt8),([]:List aa))
   else
   some (1,a1,a2.A.View,a3,cg,0,0,([]:List UInt8),([]:List aa),0,0,false,0,([]:List UInt8),([]:List aa)):Option (Int×Int×Int×(List UInt8)×(List ab)×Int×Int×(List UInt8)×(List aa)×Int×Int×Bool×Int×(List UInt8)×(List aa))) λw3=>
  some w3
  else none
  else
  some (1,a1,a2.A.View,a3,([]:List ab),0,0,([]:List UInt8),([]:List aa),0,0,false,0,([]:List UInt8),([]:List aa)):Option (Int×Int×Int×(List UInt8)×(List ab)×Int×Int×(List UInt8)×(List aa)×Int×Int×Bool×Int×(List UInt8)×(List aa))) λw2=>
 some ((⟨a2.A,a2.L,a2.dq,w2.2.2.1⟩:ao),([(⟨w2.1,w2.2.1,w2.2.2.1,w2.2.2.2.1,w2.2.2.2.2.1,(⟨w2.2.2.2.2.2.1,w2.2.2.2.2.2.2.1,w2.2.2.2.2.2.2.2.1⟩:aa),w2.2.2.2.2.2.2.2.2.1,(⟨w2.2.2.2.2.2.2.2.2.2.1,w2.2.2.2.2.2.2.2.2.2.2.1,w2.2.2.2.2.2.2.2.2.2.2.2.1,w2.2.2.2.2.2.2.2.2.2.2.2.2.1,w2.2.2.2.2.2.2.2.2.2.2.2.2.2.1,w2.2.2.2.2.2.2.2.2.2.2.2.2.2.2⟩:ab)⟩:ai)]:List ai))
def fN (c:aj)(i:Int):Option ((List UInt8)×Bool):=bd (bd (dF c i false) λrA=>
  if !rA then
  some true
  else
  ix c.N i λy=>
  some (!y.L.bw):Option Bool) λw=>
 if w then
 some (([]:List UInt8),false)
 else
 ix c.N i λy1=>
 some (y1.L.Value,true)
def FC (sA:eR):Option Bool:=bd (if (1:Int)<=sA.F then
  if sA.F<=5 then
  if (0:Int)<=sA.T then
  some (decide (sA.T<=sA.F))
  else
  some false
  else
  some false
  else
  some false:Option Bool) λw=>
 some w
def Js (sA:eR):Option Int:=some (cV .i64 ((cV .i64 ((cV .i64 (3 *sA.F))+(cV .i64 (2 *sA.T))))+1))
def Jt (sA:eR)(view:Int):Option Int:=bd (Js sA) λrA=>
 if !decide (rA=0) then
 some (Int.tmod (imax view 0) rA)
 else none
def abd (p:List aa):Option (Int×(List UInt8)×Bool):=if (p.length:Int)=0 then
 some ((-1),([]:List UInt8),false)
 else
 ix p 0 λy=>
 ix p 0 λy1=>
 some (y.View,y1.Value,true)
def Xy (sA:eR):Option Int:=some (cV .i64 ((cV .i64 (sA.F+sA.T))+1))
def Q5 (a1:List ab)(st:Int×(List UInt8)×Int):Option ((Int×(List UInt8)×Int)⊕(Int×(List UInt8))):=if st.2.2<(a1.length:Int) then
 ix a1 st.2.2 λy=>
 bd (abd y.Proof) λrA=>
 bd (if rA.2.2 then
  some (decide (st.1<rA.1))
  else
  some false:Option Bool) λw1=>
 bd (if w1 then
  some (rA.1,rA.2.1)
  else
  some (st.1,st.2.1):Option (Int×(List UInt8))) λw2=>
 some (.inl (w2.1,w2.2,cV .i64 (st.2.2+1)))
 else
 some (.inr (st.1,st.2.1))
def Q6 (a1:List ab)(w:Int×(List UInt8))(cR:Int)(ef:Int×Int):Option ((Int×Int)⊕Int):=if ef.2<(a1.length:Int) then
 bd (ix a1 ef.2 λy1=>
  if y1.Has then
  ix a1 ef.2 λy2=>
  if w.1<y2.View then
  ix a1 cR λy3=>
  if y3.Has then
  ix a1 cR λy4=>
  if w.1<y4.View then
  ix a1 ef.2 λy5=>
  ix a1 cR λy6=>
  some (decide (y5.Value=y6.Value))
  else
  some false
  else
  some false
  else
  some false
  else
  some false:Option Bool) λw5=>
 bd (if w5 then
  some (cV .i64 (ef.1+1))
  else
  some ef.1:Option Int) λw6=>
 some (.inl (w6,cV .i64 (ef.2+1)))
 else
 some (.inr ef.1)
def Q7 (a:eR)(a1:List ab)(w:Int×(List UInt8))(cR:Int):Option (Int⊕(Unit⊕((List UInt8)×Bool))):=if cR<(a1.length:Int) then
 bd (Loop (Q6 a1 w cR) (0,0)) λw4=>
 bd (Xy a) λbu=>
 if bu<=w4 then
 ix a1 cR λy7=>
 some (.inr (.inr (y7.Value,true)))
 else
 some (.inl (cV .i64 (cR+1)))
 else
 some (.inr (.inl ()))
def Xz (a:eR)(a1:List ab):Option ((List UInt8)×Bool):=bd (Loop (Q5 a1) ((-1),([]:List UInt8),0)) λw=>
 bd (Loop (Q7 a a1 w) 0) λw3=>
 match w3 with
 | .inl p5=>some (w.2,decide ((0:Int)<=w.1))
 | .inr p6=>some (p6.1,p6.2)
def abe (sA:eR):Option Int:=some (cV .i64 ((cV .i64 ((cV .i64 (2 *sA.F))+(cV .i64 (2 *sA.T))))+1))
def HS (a:aa):Option Bool:=bd (if (0:Int)<=a.By then
  if (0:Int)<=a.View then
  if a.View<=100000 then
  some (decide ((a.Value.length:Int)<=6000))
  else
  some false
  else
  some false
  else
  some false:Option Bool) λw=>
 some w
def FD (sA:eR):Option Int:=some (cV .i64 ((cV .i64 ((cV .i64 (2 *sA.F))+sA.T))+1))
def Q8 (a:eR)(a1:List aa)(st:Int):Option (Int⊕(Unit⊕Bool)):=if st<(a1.length:Int) then
 ix a1 st λy=>
 bd (bd (HS y) λcg=>
  if !cg then
  some true
  else
  bd (Js a) λcM=>
  if cM<=y.By then
  some true
  else
  ix a1 0 λy1=>
  if !decide (y.View=y1.View) then
  some true
  else
  ix a1 0 λy2=>
  if !decide (y.Value=y2.Value) then
  some true
  else
  if (0:Int)<st then
  ix a1 (cV .i64 (st-1)) λy3=>
  some (decide (y.By<=y3.By))
  else
  some false:Option Bool) λw2=>
 if w2 then
 some (.inr (.inr false))
 else
 some (.inl (cV .i64 (st+1)))
 else
 some (.inr (.inl ()))
def MX (a:eR)(a1:List aa):Option Bool:=bd (bd (FC a) λrA=>
  if !rA then
  some true
  else
  bd (FD a) λbu=>
  some (!decide ((a1.length:Int)=bu)):Option Bool) λw=>
 if w then
 some false
 else
 bd (Loop (Q8 a a1) 0) λw1=>
 match w1 with
 | .inl p1=>some true
 | .inr p2=>some p2
def VK (a:eR)(a1:ab):Option Bool:=bd (bd (FC a) λrA=>
  if !rA then
  some true
  else
  if a1.By<0 then
  some true
  else
  bd (Js a) λbu=>
  if bu<=a1.By then
  some true
  else
  if a1.fS<1 then
  some true
  else
  some (decide ((100000:Int)<a1.fS)):Option Bool) λw=>
 if w then
 some false
 else
 bd (if a1.Has then
  if a1.View<0 then
  some true
  else
  if a1.fS<=a1.View then
  some true
  else
  if (6000:Int)<(a1.Value.length:Int) then
  some true
  else
  if !a1.Has then
  if !decide (a1.View=0) then
  some true
  else
  some (!decide (a1.Value=([]:List UInt8)))
  else
  some false
  else
  if !a1.Has then
  if !decide (a1.View=0) then
  some true
  else
  some (!decide (a1.Value=([]:List UInt8)))
  else
  some false:Option Bool) λw1=>
 if w1 then
 some false
 else
 bd (if (a1.Proof.length:Int)=0 then
  some true
  else
  bd (MX a a1.Proof) λcg=>
  if cg then
  ix a1.Proof 0 λy=>
  some (decide (y.View<a1.fS))
  else
  some false:Option Bool) λw2=>
 some w2
def Q9 (sA:eR)(view:Int)(lA:List ab)(st:Int):Option (Int⊕(Unit⊕Bool)):=if st<(lA.length:Int) then
 bd (ix lA st λy=>
  bd (VK sA y) λcg=>
  if !cg then
  some true
  else
  ix lA st λy1=>
  if !decide (y1.fS=view) then
  some true
  else
  if (0:Int)<st then
  ix lA (cV .i64 (st-1)) λy2=>
  ix lA st λy3=>
  some (decide (y3.By<=y2.By))
  else
  some false:Option Bool) λw2=>
 if w2 then
 some (.inr (.inr false))
 else
 some (.inl (cV .i64 (st+1)))
 else
 some (.inr (.inl ()))
def XA (sA:eR)(view:Int)(lA:List ab):Option Bool:=bd (bd (FC sA) λrA=>
  if !rA then
  some true
  else
  bd (abe sA) λbu=>
  some (!decide ((lA.length:Int)=bu)):Option Bool) λw=>
 if w then
 some false
 else
 bd (Loop (Q9 sA view lA) 0) λw1=>
 match w1 with
 | .inl p1=>some true
 | .inr p2=>some p2
def GI (sA:eR)(view:Int)(lA:List ab)(value:List UInt8):Option Bool:=bd (XA sA view lA) λrA=>
 if !rA then
 some false
 else
 bd (Xz sA lA) λbu=>
 bd (if !bu.2 then
  some true
  else
  some (decide (bu.1=value)):Option Bool) λw=>
 some w
def Ra (a:iQ)(view:Int)(value:List UInt8)(gJ:List ab):Option (iQ×aa×Bool):=bd (if view=0 then
  some (decide ((gJ.length:Int)=0))
  else
  some false:Option Bool) λw=>
 bd (if !decide (view=a.View) then
  some true
  else
  if a.Has then
  if a.At=view then
  some true
  else
  if (6000:Int)<(value.length:Int) then
  some true
  else
  if !w then
  bd (GI a.S view gJ value) λrA=>
  some (!rA)
  else
  some false
  else
  if (6000:Int)<(value.length:Int) then
  some true
  else
  if !w then
  bd (GI a.S view gJ value) λbu=>
  some (!bu)
  else
  some false:Option Bool) λw1=>
 if w1 then
 some (a,(⟨0,0,([]:List UInt8)⟩:aa),false)
 else
 some ((⟨a.S,a.Me,a.View,true,view,value,a.Proof,a.bT⟩:iQ),(⟨a.Me,view,value⟩:aa),true)
def XB (a:eg)(a1:aa)(st:(List aa)×(List aa)×Bool×Int):Option (((List aa)×(List aa)×Bool×Int)⊕(((List aa)×(List aa)×Bool)⊕((List aa)×Bool))):=if st.2.2.2<(a.L.length:Int) then
 ix a.L st.2.2.2 λy=>
 bd (if y.By=a1.By then
  some (decide (a1.View<=y.View))
  else
  some false:Option Bool) λw1=>
 if w1 then
 some (.inr (.inr (a.L,false)))
 else
 bd (if !st.2.2.1 then
  some (decide (a1.By<=y.By))
  else
  some false:Option Bool) λw2=>
 bd (if w2 then
  if (st.2.1.length+([a1]:List aa).length) *32<=2^46 then
  some (st.2.1++([a1]:List aa),true)
  else none
  else
  some (st.2.1,st.2.2.1):Option ((List aa)×Bool)) λw3=>
 bd (if !decide (y.By=a1.By) then
  if (w3.1.length+([y]:List aa).length) *32<=2^46 then
  some (w3.1++([y]:List aa))
  else none
  else
  some w3.1:Option (List aa)) λw4=>
 some (.inl (st.1,w4,w3.2,cV .i64 (st.2.2.2+1)))
 else
 some (.inr (.inl (st.1,st.2.1,st.2.2.1)))
def HT (a:eg)(a1:aa):Option (eg×Bool):=bd (HS a1) λrA=>
 if !rA then
 some (a,false)
 else
 bd (Loop (XB a a1) (([]:List aa),([]:List aa),false,0)) λw=>
 match w with
 | .inl p3=>
  bd (if !p3.2.2 then
   if (p3.2.1.length+([a1]:List aa).length) *32<=2^46 then
   some (p3.2.1++([a1]:List aa))
   else none
   else
   some p3.2.1:Option (List aa)) λw5=>
  some ((⟨w5⟩:eg),true)
 | .inr p4=>some ((⟨p4.1⟩:eg),p4.2)
def OT (t:eg)(view:Int)(value:List UInt8)(st:(List aa)×Int):Option (((List aa)×Int)⊕(List aa)):=if st.2<(t.L.length:Int) then
 bd (ix t.L st.2 λy=>
  if y.View=view then
  ix t.L st.2 λy1=>
  some (decide (y1.Value=value))
  else
  some false:Option Bool) λw1=>
 bd (if w1 then
  ix t.L st.2 λy2=>
  if (st.1.length+([y2]:List aa).length) *32<=2^46 then
  some (st.1++([y2]:List aa))
  else none
  else
  some st.1:Option (List aa)) λw2=>
 some (.inl (w2,cV .i64 (st.2+1)))
 else
 some (.inr st.1)
def Ju (t:eg)(view:Int)(value:List UInt8):Option (List aa):=bd (Loop (OT t view value) (([]:List aa),0)) λw=>some w
def XC (t:eg)(view:Int)(value:List UInt8):Option Int:=bd (Ju t view value) λrA=>some (rA.length:Int)
def T5 (t:eg)(b6:Int)(st:Int×Int):Option ((Int×Int)⊕Int):=bd (if st.2<(t.L.length:Int) then
  some (decide ((1:Int)<=b6))
  else
  some false:Option Bool) λw1=>
 if w1 then
 ix t.L st.2 λy=>
 bd (bd (XC t y.View y.Value) λrA=>
  if b6<=rA then
  if st.1<0 then
  some true
  else
  ix t.L st.1 λy1=>
  some (decide (y1.View<y.View))
  else
  some false:Option Bool) λw2=>
 bd (if w2 then
  some st.2
  else
  some st.1:Option Int) λw3=>
 some (.inl (w3,cV .i64 (st.2+1)))
 else
 some (.inr st.1)
def Rb (t:eg)(b6:Int):Option (Int×(List UInt8)×Bool):=bd (Loop (T5 t b6) ((-1),0)) λw=>
 if w<0 then
 some (0,([]:List UInt8),false)
 else
 ix t.L w λy2=>
 ix t.L w λy3=>
 some (y2.View,y3.Value,true)
def abf (sA:eR)(t:eg):Option ((List aa)×Bool):=bd (FD sA) λrA=>
 bd (Rb t rA) λbu=>
 if !bu.2.2 then
 some (([]:List aa),false)
 else
 bd (Ju t bu.1 bu.2.1) λcg=>
 if (0:Int)<=0/\(0:Int)<=rA/\rA<=(cg.length:Int) then
 some (AT (sh 0) (BY (sh rA) cg),true)
 else none
def abg (a:iQ)(a1:aa):Option (iQ×(List aa)×Bool):=bd (bd (HS a1) λrA=>
  if !rA then
  some true
  else
  bd (Js a.S) λbu=>
  if bu<=a1.By then
  some true
  else
  some (!decide (a1.View=a.View)):Option Bool) λw=>
 if w then
 some (a,([]:List aa),false)
 else
 bd (HT a.bT a1) λcg=>
 bd (abf a.S cg.1) λcM=>
 bd (abd a.Proof) λiR=>
 bd (if !cM.2 then
  some true
  else
  ix cM.1 0 λy=>
  some (decide (y.View<=iR.1)):Option Bool) λw1=>
 if w1 then
 some ((⟨a.S,a.Me,a.View,a.Has,a.At,a.Value,a.Proof,cg.1⟩:iQ),([]:List aa),false)
 else
 some ((⟨a.S,a.Me,a.View,a.Has,a.At,a.Value,cM.1,cg.1⟩:iQ),cM.1,true)
def Ax (lA:eM)(t:eg)(b6:Int):Option eM:=bd (Rb t b6) λrA=>
 bd (if rA.2.2 then
  some (lA.S.F,lA.S.T,lA.aY.L,lA.aR.L,lA.Told.L,true,rA.2.1)
  else
  some (lA.S.F,lA.S.T,lA.aY.L,lA.aR.L,lA.Told.L,lA.bw,lA.Value):Option (Int×Int×(List aa)×(List aa)×(List aa)×Bool×(List UInt8))) λw=>
 some (⟨(⟨w.1,w.2.1⟩:eR),(⟨w.2.2.1⟩:eg),(⟨w.2.2.2.1⟩:eg),(⟨w.2.2.2.2.1⟩:eg),w.2.2.2.2.2.1,w.2.2.2.2.2.2⟩:eM)
def abh (sA:eR):Option Int:=some (cV .i64 ((cV .i64 ((cV .i64 (3 *sA.F))+sA.T))+1))
def OU (lA:eM)(a:aa):Option eM:=bd (if lA.bw then
  some true
  else
  bd (Js lA.S) λrA=>
  some (decide (rA<=a.By)):Option Bool) λw=>
 if w then
 some lA
 else
 bd (HT lA.aY a) λbu=>
 bd (HS a) λcg=>
 if !cg then
 some (⟨lA.S,bu.1,lA.aR,lA.Told,lA.bw,lA.Value⟩:eM)
 else
 bd (abh lA.S) λcM=>
 bd (Ax (⟨lA.S,bu.1,lA.aR,lA.Told,lA.bw,lA.Value⟩:eM) bu.1 cM) λiR=>
 some iR
def Lx (lA:eM)(qz:Int)(p:List aa):Option eM:=bd (if lA.bw then
  some true
  else
  if qz<0 then
  some true
  else
  bd (Js lA.S) λrA=>
  if rA<=qz then
  some true
  else
  bd (MX lA.S p) λbu=>
  some (!bu):Option Bool) λw=>
 if w then
 some lA
 else
 ix p 0 λy=>
 ix p 0 λy1=>
 bd (HT lA.aR (⟨qz,y.View,y1.Value⟩:aa)) λcg=>
 bd (FD lA.S) λcM=>
 bd (Ax (⟨lA.S,lA.aY,cg.1,lA.Told,lA.bw,lA.Value⟩:eM) cg.1 cM) λiR=>
 some iR
def XD (a2:yp)(a3:ab)(st:(List ab)×Bool×Int):Option (((List ab)×Bool×Int)⊕(((List ab)×Bool)⊕(List ab))):=if st.2.2<(a2.dq.length:Int) then
 ix a2.dq st.2.2 λy=>
 if y.By=a3.By then
 some (.inr (.inr a2.dq))
 else
 bd (if !st.2.1 then
  ix a2.dq st.2.2 λy1=>
  some (decide (a3.By<y1.By))
  else
  some false:Option Bool) λw2=>
 bd (if w2 then
  if (st.1.length+([a3]:List ab).length) *72<=2^46 then
  some (st.1++([a3]:List ab),true)
  else none
  else
  some (st.1,st.2.1):Option ((List ab)×Bool)) λw3=>
 ix a2.dq st.2.2 λy2=>
 if (w3.1.length+([y2]:List ab).length) *72<=2^46 then
 some (.inl (w3.1++([y2]:List ab),w3.2,cV .i64 (st.2.2+1)))
 else none
 else
 some (.inr (.inl (st.1,st.2.1)))
def aeM (a:eR)(a1:Int)(a2:yp)(a3:ab):Option (List ab):=bd (if !decide (a2.A.View=a3.fS) then
  some true
  else
  bd (Jt a a3.fS) λrA=>
  if !decide (rA=a1) then
  some true
  else
  bd (VK a a3) λbu=>
  some (!bu):Option Bool) λw=>
 if w then
 some a2.dq
 else
 bd (Loop (XD a2 a3) (([]:List ab),false,0)) λw1=>
 match w1 with
 | .inl p2=>
  bd (if !p2.2 then
   if (p2.1.length+([a3]:List ab).length) *72<=2^46 then
   some (p2.1++([a3]:List ab))
   else none
   else
   some p2.1:Option (List ab)) λw4=>
  some w4
 | .inr p3=>some p3
def abi (sA:eR):Option Int:=some (cV .i64 (sA.F+1))
def abj (lA:eM)(qz:Int)(value:List UInt8):Option eM:=bd (if lA.bw then
  some true
  else
  if qz<0 then
  some true
  else
  bd (Js lA.S) λrA=>
  if rA<=qz then
  some true
  else
  some (decide ((6000:Int)<(value.length:Int))):Option Bool) λw=>
 if w then
 some lA
 else
 bd (HT lA.Told (⟨qz,0,value⟩:aa)) λbu=>
 bd (abi lA.S) λcg=>
 bd (Ax (⟨lA.S,lA.aY,lA.aR,bu.1,lA.bw,lA.Value⟩:eM) bu.1 cg) λcM=>
 some cM
def XE (a:eR)(a1:Int)(a2:yp)(a3:fD):Option (yp×(List fD)):=bd (if a3.Kind=1 then
  bd (Jt a a3.View) λrA=>
  bd (if a3.cN=rA then
   bd (Ra a2.A a3.View a3.Value a3.fC) λbu=>
   bd (if bu.2.2 then
    if (([]:List fD).length+([(⟨2,0,0,([]:List UInt8),([]:List ab),bu.2.1,([]:List aa),(⟨0,0,false,0,([]:List UInt8),([]:List aa)⟩:ab)⟩:fD)]:List fD).length) *192<=2^46 then
    some (([]:List fD)++([(⟨2,0,0,([]:List UInt8),([]:List ab),bu.2.1,([]:List aa),(⟨0,0,false,0,([]:List UInt8),([]:List aa)⟩:ab)⟩:fD)]:List fD))
    else none
    else
    some ([]:List fD):Option (List fD)) λw2=>
   some (bu.1.S.F,bu.1.S.T,bu.1.Me,bu.1.View,bu.1.Has,bu.1.At,bu.1.Value,bu.1.Proof,bu.1.bT.L,a2.L.S.F,a2.L.S.T,a2.L.aY.L,a2.L.aR.L,a2.L.Told.L,a2.L.bw,a2.L.Value,a2.dq,a2.et,w2)
   else
   some (a2.A.S.F,a2.A.S.T,a2.A.Me,a2.A.View,a2.A.Has,a2.A.At,a2.A.Value,a2.A.Proof,a2.A.bT.L,a2.L.S.F,a2.L.S.T,a2.L.aY.L,a2.L.aR.L,a2.L.Told.L,a2.L.bw,a2.L.Value,a2.dq,a2.et,([]:List fD)):Option (Int×Int×Int×Int×Bool×Int×(List UInt8)×(List aa)×(List aa)×Int×Int×(List aa)×(List aa)×(List aa)×Bool×(List UInt8)×(List ab)×Int×(List fD))) λw1=>
  some w1
  else
  bd (if a3.Kind=2 then
   bd (abg a2.A a3.bM) λcg=>
   bd (if cg.2.2 then
    if (([]:List fD).length+([(⟨3,a1,0,([]:List UInt8),([]:List ab),(⟨0,0,([]:List UInt8)⟩:aa),cg.2.1,(⟨0,0,false,0,([]:List UInt8),([]:List aa)⟩:ab)⟩:fD)]:List fD).length) *192<=2^46 then
    some (([]:List fD)++([(⟨3,a1,0,([]:List UInt8),([]:List ab),(⟨0,0,([]:List UInt8)⟩:aa),cg.2.1,(⟨0,0,false,0,([]:List UInt8),([]:List aa)⟩:ab)⟩:fD)]:List fD))
    else none
    else
    some ([]:List fD):Option (List fD)) λw4=>
   bd (OU a2.L a3.bM) λcM=>
   some (cg.1.S.F,cg.1.S.T,cg.1.Me,cg.1.View,cg.1.Has,cg.1.At,cg.1.Value,cg.1.Proof,cg.1.bT.L,cM.S.F,cM.S.T,cM.aY.L,cM.aR.L,cM.Told.L,cM.bw,cM.Value,a2.dq,a2.et,w4)
   else
   bd (if a3.Kind=3 then
    bd (Lx a2.L a3.cN a3.Proof) λiR=>
    some (a2.A.S.F,a2.A.S.T,a2.A.Me,a2.A.View,a2.A.Has,a2.A.At,a2.A.Value,a2.A.Proof,a2.A.bT.L,iR.S.F,iR.S.T,iR.aY.L,iR.aR.L,iR.Told.L,iR.bw,iR.Value,a2.dq,a2.et)
    else
    bd (if a3.Kind=4 then
     bd (aeM a a1 a2 a3.R) λmc=>
     some (a2.A.S.F,a2.A.S.T,a2.A.Me,a2.A.View,a2.A.Has,a2.A.At,a2.A.Value,a2.A.Proof,a2.A.bT.L,a2.L.S.F,a2.L.S.T,a2.L.aY.L,a2.L.aR.L,a2.L.Told.L,a2.L.bw,a2.L.Value,mc,a2.et)
     else
     bd (if a3.Kind=5 then
      bd (abj a2.L a3.cN a3.Value) λsw=>
      some (a2.A.S.F,a2.A.S.T,a2.A.Me,a2.A.View,a2.A.Has,a2.A.At,a2.A.Value,a2.A.Proof,a2.A.bT.L,sw.S.F,sw.S.T,sw.aY.L,sw.aR.L,sw.Told.L,sw.bw,sw.Value,a2.dq,a2.et)
      else
      some (a2.A.S.F,a2.A.S.T,a2.A.Me,a2.A.View,a2.A.Has,a2.A.At,a2.A.Value,a2.A.Proof,a2.A.bT.L,a2.L.S.F,a2.L.S.T,a2.L.aY.L,a2.L.aR.L,a2.L.Told.L,a2.L.bw,a2.L.Value,a2.dq,a2.et):Option (Int×Int×Int×Int×Bool×Int×(List UInt8)×(List aa)×(List aa)×Int×Int×(List aa)×(List aa)×(List aa)×Bool×(List UInt8)×(List ab)×Int)) λw7=>
     some w7:Option (Int×Int×Int×Int×Bool×Int×(List UInt8)×(List aa)×(List aa)×Int×Int×(List aa)×(List aa)×(List aa)×Bool×(List UInt8)×(List ab)×Int)) λw6=>
    some w6:Option (Int×Int×Int×Int×Bool×Int×(List UInt8)×(List aa)×(List aa)×Int×Int×(List aa)×(List aa)×(List aa)×Bool×(List UInt8)×(List ab)×Int)) λw5=>
   some (w5.1,w5.2.1,w5.2.2.1,w5.2.2.2.1,w5.2.2.2.2.1,w5.2.2.2.2.2.1,w5.2.2.2.2.2.2.1,w5.2.2.2.2.2.2.2.1,w5.2.2.2.2.2.2.2.2.1,w5.2.2.2.2.2.2.2.2.2.1,w5.2.2.2.2.2.2.2.2.2.2.1,w5.2.2.2.2.2.2.2.2.2.2.2.1,w5.2.2.2.2.2.2.2.2.2.2.2.2.1,w5.2.2.2.2.2.2.2.2.2.2.2.2.2.1,w5.2.2.2.2.2.2.2.2.2.2.2.2.2.2.1,w5.2.2.2.2.2.2.2.2.2.2.2.2.2.2.2.1,w5.2.2.2.2.2.2.2.2.2.2.2.2.2.2.2.2.1,w5.2.2.2.2.2.2.2.2.2.2.2.2.2.2.2.2.2,([]:List fD)):Option (Int×Int×Int×Int×Bool×Int×(List UInt8)×(List aa)×(List aa)×Int×Int×(List aa)×(List aa)×(List aa)×Bool×(List UInt8)×(List ab)×Int×(List fD))) λw3=>
  some w3:Option (Int×Int×Int×Int×Bool×Int×(List UInt8)×(List aa)×(List aa)×Int×Int×(List aa)×(List aa)×(List aa)×Bool×(List UInt8)×(List ab)×Int×(List fD))) λw=>
 bd (if w.2.2.2.2.2.2.2.2.2.2.2.2.2.2.1 then
  some (!a2.L.bw)
  else
  some false:Option Bool) λw8=>
 bd (if w8 then
  if (w.2.2.2.2.2.2.2.2.2.2.2.2.2.2.2.2.2.2.length+([(⟨5,a1,0,w.2.2.2.2.2.2.2.2.2.2.2.2.2.2.2.1,([]:List ab),(⟨0,0,([]:List UInt8)⟩:aa),([]:List aa),(⟨0,0,false,0,([]:List UInt8),([]:List aa)⟩:ab)⟩:fD)]:List fD).length) *192<=2^46 then
  some (w.2.2.2.2.2.2.2.2.2.2.2.2.2.2.2.2.2.2++([(⟨5,a1,0,w.2.2.2.2.2.2.2.2.2.2.2.2.2.2.2.1,([]:List ab),(⟨0,0,([]:List UInt8)⟩:aa),([]:List aa),(⟨0,0,false,0,([]:List UInt8),([]:List aa)⟩:ab)⟩:fD)]:List fD))
  else none
  else
  some w.2.2.2.2.2.2.2.2.2.2.2.2.2.2.2.2.2.2:Option (List fD)) λw9=>
 some ((⟨(⟨(⟨w.1,w.2.1⟩:eR),w.2.2.1,w.2.2.2.1,w.2.2.2.2.1,w.2.2.2.2.2.1,w.2.2.2.2.2.2.1,w.2.2.2.2.2.2.2.1,(⟨w.2.2.2.2.2.2.2.2.1⟩:eg)⟩:iQ),(⟨(⟨w.2.2.2.2.2.2.2.2.2.1,w.2.2.2.2.2.2.2.2.2.2.1⟩:eR),(⟨w.2.2.2.2.2.2.2.2.2.2.2.1⟩:eg),(⟨w.2.2.2.2.2.2.2.2.2.2.2.2.1⟩:eg),(⟨w.2.2.2.2.2.2.2.2.2.2.2.2.2.1⟩:eg),w.2.2.2.2.2.2.2.2.2.2.2.2.2.2.1,w.2.2.2.2.2.2.2.2.2.2.2.2.2.2.2.1⟩:eM),w.2.2.2.2.2.2.2.2.2.2.2.2.2.2.2.2.1,w.2.2.2.2.2.2.2.2.2.2.2.2.2.2.2.2.2.1⟩:yp),w9)
def jQ (i:Int)(c:Int)(c1:aj):Option (Unit×Int):=ix c1.N i λy=>some ((),imax c (cV .i64 (y.A.View+1)))
def fm (lA:List ai)(st:Int×Int×Int×(List Bool)×(List (List UInt8))×(List ao)×(List ai)):Option ((Int×Int×Int×(List Bool)×(List (List UInt8))×(List ao)×(List ai))⊕(Int×Int×(List Bool)×(List (List UInt8))×(List ao)×(List ai))):=if st.1<(lA.length:Int) then
 ix lA st.1 λy=>
 bd (if (st.2.2.2.2.2.2.length:Int)<400 then
  bd (gE st.2.2.2.2.2.2) λrA=>
  if 0<([y]:List ai).length/\(rA.length+([y]:List ai).length) *192<=2^46 then
  some (st.2.1,st.2.2.1,st.2.2.2.1,st.2.2.2.2.1,st.2.2.2.2.2.1,rA++([y]:List ai))
  else none
  else
  some (st.2.1,st.2.2.1,st.2.2.2.1,st.2.2.2.2.1,st.2.2.2.2.2.1,st.2.2.2.2.2.2):Option (Int×Int×(List Bool)×(List (List UInt8))×(List ao)×(List ai))) λw1=>
 some (.inl (cV .i64 (st.1+1),w1.1,w1.2.1,w1.2.2.1,w1.2.2.2.1,w1.2.2.2.2.1,w1.2.2.2.2.2))
 else
 some (.inr (st.2.1,st.2.2.1,st.2.2.2.1,st.2.2.2.2.1,st.2.2.2.2.2.1,st.2.2.2.2.2.2))
def ig (c:aj)(lA:List ai):Option (Unit×aj):=bd (Loop (fm lA) (0,c.S.F,c.S.T,c.bY,c.Want,c.N,c.aC)) λw=>some ((),(⟨(⟨w.1,w.2.1⟩:ae),w.2.2.1,w.2.2.2.1,w.2.2.2.2.1,w.2.2.2.2.2⟩:aj))
def fH (c:aj)(i:Int)(n:ao)(said:List ai):Option (Unit×aj):=ix c.N i λy=>
 bd (ig (⟨c.S,c.bY,c.Want,c.N.set (sh i) n,c.aC⟩:aj) said) λrA=>
 some ((),rA.2)
def cD (c:aj)(i:Int)(m:ai):Option (Unit×aj):=ix c.N i λy=>
 bd (bq c.S i y m) λrA=>
 bd (fH c i rA.1 rA.2) λbu=>
 some ((),bu.2)
def dx (c:aj)(i:Int)(view:Int):Option (Unit×aj):=ix c.N i λy=>
 bd (pa c.S i y view) λrA=>
 bd (fH c i rA.1 rA.2) λbu=>
 some ((),bu.2)
def cX (c:aj)(i:Int):Option (Unit×aj):=ix c.N i λy=>
 ix c.Want i λy1=>
 bd (cF c.S i y y1) λrA=>
 bd (fH c i rA.1 rA.2) λbu=>
 some ((),bu.2)
def zg (lA:List ai)(st:Int×Int×Int×(List Bool)×(List (List UInt8))×(List ao)×(List ai)):Option ((Int×Int×Int×(List Bool)×(List (List UInt8))×(List ao)×(List ai))⊕(Int×Int×(List Bool)×(List (List UInt8))×(List ao)×(List ai))):=if st.1<(lA.length:Int) then
 ix lA st.1 λy=>
 bd (if (st.2.2.2.2.2.2.length:Int)<400 then
  bd (gE st.2.2.2.2.2.2) λrA=>
  if 0<([y]:List ai).length/\(rA.length+([y]:List ai).length) *192<=2^46 then
  some (st.2.1,st.2.2.1,st.2.2.2.1,st.2.2.2.2.1,st.2.2.2.2.2.1,rA++([y]:List ai))
  else none
  else
  some (st.2.1,st.2.2.1,st.2.2.2.1,st.2.2.2.2.1,st.2.2.2.2.2.1,st.2.2.2.2.2.2):Option (Int×Int×(List Bool)×(List (List UInt8))×(List ao)×(List ai))) λw1=>
 some (.inl (cV .i64 (st.1+1),w1.1,w1.2.1,w1.2.2.1,w1.2.2.2.1,w1.2.2.2.2.1,w1.2.2.2.2.2))
 else
 some (.inr (st.2.1,st.2.2.1,st.2.2.2.1,st.2.2.2.2.1,st.2.2.2.2.2.1,st.2.2.2.2.2.2))
def n6 (c:aj)(lA:List ai):Option (Unit×aj):=bd (Loop (zg lA) (0,c.S.F,c.S.T,c.bY,c.Want,c.N,c.aC)) λw=>some ((),(⟨(⟨w.1,w.2.1⟩:ae),w.2.2.1,w.2.2.2.1,w.2.2.2.2.1,w.2.2.2.2.2⟩:aj))
def eB (a:aj)(a1:dv):Option aj:=if a1.Kind=3 then
 bd (lh a a1.M) λrA=>
 bd (if rA then
  bd (n6 a ([a1.M]:List ai)) λbu=>
  some (bu.2.S.F,bu.2.S.T,bu.2.bY,bu.2.Want,bu.2.N,bu.2.aC)
  else
  some (a.S.F,a.S.T,a.bY,a.Want,a.N,a.aC):Option (Int×Int×(List Bool)×(List (List UInt8))×(List ao)×(List ai))) λw=>
 some (⟨(⟨w.1,w.2.1⟩:ae),w.2.2.1,w.2.2.2.1,w.2.2.2.2.1,w.2.2.2.2.2⟩:aj)
 else
 bd (dF a a1.I false) λcg=>
 if !cg then
 some a
 else
 bd (qR 256 a.N) λcM=>
 bd (if a1.Kind=0 then
  bd (if (0:Int)<=a1.J then
   some (decide (a1.J<(a.aC.length:Int)))
   else
   some false:Option Bool) λw2=>
  bd (if w2 then
   ix a.aC a1.J λy=>
   bd (cD (⟨a.S,a.bY,a.Want,cM,a.aC⟩:aj) a1.I y) λiR=>
   some (iR.2.S.F,iR.2.S.T,iR.2.bY,iR.2.Want,iR.2.N,iR.2.aC)
   else
   some (a.S.F,a.S.T,a.bY,a.Want,cM,a.aC):Option (Int×Int×(List Bool)×(List (List UInt8))×(List ao)×(List ai))) λw3=>
  some w3
  else
  bd (if a1.Kind=1 then
   ix cM a1.I λy1=>
   bd (dx (⟨a.S,a.bY,a.Want,cM,a.aC⟩:aj) a1.I (cV .i64 (y1.A.View+1))) λmc=>
   some (mc.2.S.F,mc.2.S.T,mc.2.bY,mc.2.Want,mc.2.N,mc.2.aC)
   else
   bd (if a1.Kind=2 then
    bd (cX (⟨a.S,a.bY,a.Want,cM,a.aC⟩:aj) a1.I) λsw=>
    some (sw.2.S.F,sw.2.S.T,sw.2.bY,sw.2.Want,sw.2.N,sw.2.aC)
    else
    bd (if a1.Kind=4 then
     ix cM a1.I λy2=>
     bd (nt a.S a1.I y2) λDv=>
     ix cM a1.I λy3=>
     some (a.S.F,a.S.T,a.bY,a.Want,cM.set (sh a1.I) Dv,a.aC)
     else
     some (a.S.F,a.S.T,a.bY,a.Want,cM,a.aC):Option (Int×Int×(List Bool)×(List (List UInt8))×(List ao)×(List ai))) λw6=>
    some w6:Option (Int×Int×(List Bool)×(List (List UInt8))×(List ao)×(List ai))) λw5=>
   some w5:Option (Int×Int×(List Bool)×(List (List UInt8))×(List ao)×(List ai))) λw4=>
  some w4:Option (Int×Int×(List Bool)×(List (List UInt8))×(List ao)×(List ai))) λw1=>
 some (⟨(⟨w1.1,w1.2.1⟩:ae),w1.2.2.1,w1.2.2.2.1,w1.2.2.2.2.1,w1.2.2.2.2.2⟩:aj)
def vI (st:Int×Int×(List Bool)×(List (List UInt8))×(List ao)×(List ai)×Int):Option ((Int×Int×(List Bool)×(List (List UInt8))×(List ao)×(List ai)×Int)⊕(Int×Int×(List Bool)×(List (List UInt8))×(List ao)×(List ai))):=if st.2.2.2.2.2.2<4 then
 bd (eB (⟨(⟨st.1,st.2.1⟩:ae),st.2.2.1,st.2.2.2.1,st.2.2.2.2.1,st.2.2.2.2.2.1⟩:aj) (⟨0,st.2.2.2.2.2.2,0,(⟨0,0,0,([]:List UInt8),([]:List ab),(⟨0,0,([]:List UInt8)⟩:aa),([]:List aa),(⟨0,0,false,0,([]:List UInt8),([]:List aa)⟩:ab)⟩:ai)⟩:dv)) λcg=>
 some (.inl (cg.S.F,cg.S.T,cg.bY,cg.Want,cg.N,cg.aC,cV .i64 (st.2.2.2.2.2.2+1)))
 else
 some (.inr (st.1,st.2.1,st.2.2.1,st.2.2.2.1,st.2.2.2.2.1,st.2.2.2.2.2.1))
def vJ (cR:Int×Int×(List Bool)×(List (List UInt8))×(List ao)×(List ai)×Int):Option ((Int×Int×(List Bool)×(List (List UInt8))×(List ao)×(List ai)×Int)⊕(Int×Int×(List Bool)×(List (List UInt8))×(List ao)×(List ai))):=if cR.2.2.2.2.2.2<5 then
 bd (eB (⟨(⟨cR.1,cR.2.1⟩:ae),cR.2.2.1,cR.2.2.2.1,cR.2.2.2.2.1,cR.2.2.2.2.2.1⟩:aj) (⟨0,2,cR.2.2.2.2.2.2,(⟨0,0,0,([]:List UInt8),([]:List ab),(⟨0,0,([]:List UInt8)⟩:aa),([]:List aa),(⟨0,0,false,0,([]:List UInt8),([]:List aa)⟩:ab)⟩:ai)⟩:dv)) λcM=>
 some (.inl (cM.S.F,cM.S.T,cM.bY,cM.Want,cM.N,cM.aC,cV .i64 (cR.2.2.2.2.2.2+1)))
 else
 some (.inr (cR.1,cR.2.1,cR.2.2.1,cR.2.2.2.1,cR.2.2.2.2.1,cR.2.2.2.2.2.1))
def qV:Option Bool:=if (0:Int)<=4/\(4:Int)=4/\(4:Int) *1<=2^46 then
 bd (pI (⟨1,0⟩:ae) (No (sh 4) false) ([([97]:List UInt8),([98]:List UInt8),([99]:List UInt8),([100]:List UInt8)]:List (List UInt8))) λrA=>
 bd (eB rA.1 (⟨2,0,0,(⟨0,0,0,([]:List UInt8),([]:List ab),(⟨0,0,([]:List UInt8)⟩:aa),([]:List aa),(⟨0,0,false,0,([]:List UInt8),([]:List aa)⟩:ab)⟩:ai)⟩:dv)) λbu=>
 bd (Loop vI (bu.S.F,bu.S.T,bu.bY,bu.Want,bu.N,bu.aC,0)) λw=>
 bd (Loop vJ (w.1,w.2.1,w.2.2.1,w.2.2.2.1,w.2.2.2.2.1,w.2.2.2.2.2,1)) λw1=>
 bd (fN (⟨(⟨w1.1,w1.2.1⟩:ae),w1.2.2.1,w1.2.2.2.1,w1.2.2.2.2.1,w1.2.2.2.2.2⟩:aj) 2) λiR=>
 bd (fN (⟨(⟨w1.1,w1.2.1⟩:ae),w1.2.2.1,w1.2.2.2.1,w1.2.2.2.2.1,w1.2.2.2.2.2⟩:aj) 1) λmc=>
 bd (if rA.2=0 then
  if iR.2 then
  if iR.1=([97]:List UInt8) then
  some (!mc.2)
  else
  some false
  else
  some false
  else
  some false:Option Bool) λw2=>
 some w2
 else none
def kg (c:aj)(v:Int):Option (Int⊕Int):=bd (eN c.S v) λl=>
 bd (dF c l false) λb=>
 some (if b then .inr v else .inl (cV .i64 (v+1)))
def n7 (v:Int)(p:Int×aj):Option ((Int×aj)⊕aj):=if p.1<(p.2.aC.length:Int) then
 ix p.2.aC p.1 λm=>
 if p.2.bY.length<2^32 then
 bd (iO (λi c=>bd (cD c (i:Int) m) λr=>some r.2) p.2.bY 0 p.2) λc=>
 bd (eN c.S v) λl=>
 bd (cX c l) λr=>
 some (.inl (cV .i64 (p.1+1),r.2))
 else none
 else some (.inr p.2)
def qW (a:aj):Option aj:=bd (qR 256 a.N) λnl=>
 if a.bY.length<2^32 then
 bd (iO (λi v=>bd (jQ (i:Int) v (⟨a.S,a.bY,a.Want,nl,[]⟩:aj)) λr=>some r.2) a.bY 0 (0:Int)) λv=>
 bd (Loop (kg (⟨a.S,a.bY,a.Want,nl,[]⟩:aj)) v) λv=>
 if 100000<v then some (⟨a.S,a.bY,a.Want,nl,[]⟩:aj) else
 bd (iO (λi c=>bd (dx c (i:Int) v) λr=>some r.2) a.bY 0 (⟨a.S,a.bY,a.Want,nl,[]⟩:aj)) λc=>
 Loop (n7 v) ((0:Int),c)
 else none
def uw (a1:List dv)(st:Int×Int×(List Bool)×(List (List UInt8))×(List ao)×(List ai)×Int):Option ((Int×Int×(List Bool)×(List (List UInt8))×(List ao)×(List ai)×Int)⊕(Int×Int×(List Bool)×(List (List UInt8))×(List ao)×(List ai))):=if st.2.2.2.2.2.2<(a1.length:Int) then
 ix a1 st.2.2.2.2.2.2 λy=>
 bd (eB (⟨(⟨st.1,st.2.1⟩:ae),st.2.2.1,st.2.2.2.1,st.2.2.2.2.1,st.2.2.2.2.2.1⟩:aj) y) λiR=>
 some (.inl (iR.S.F,iR.S.T,iR.bY,iR.Want,iR.N,iR.aC,cV .i64 (st.2.2.2.2.2.2+1)))
 else
 some (.inr (st.1,st.2.1,st.2.2.1,st.2.2.2.1,st.2.2.2.2.1,st.2.2.2.2.2.1))
def ux (a:mb)(mc:aj)(cR:(List UInt8)×Bool×Int):Option (((List UInt8)×Bool×Int)⊕(Bool⊕Bool)):=if cR.2.2<(a.bY.length:Int) then
 bd (fN mc cR.2.2) λsw=>
 ix a.bY cR.2.2 λy1=>
 if y1 then
 some (.inl (cR.1,cR.2.1,cV .i64 (cR.2.2+1)))
 else
 bd (if !sw.2 then
  some true
  else
  if !cR.2.1 then
  some (!decide (sw.1=cR.1))
  else
  some false:Option Bool) λw2=>
 if w2 then
 some (.inr (.inr false))
 else
 some (.inl (sw.1,false,cV .i64 (cR.2.2+1)))
 else
 some (.inr (.inl cR.2.1))
def th (a:mb)(a1:List dv):Option Bool:=bd (xf a a1) λrA=>
 if !rA then
 bd (qV) λbu=>
 some bu
 else
 bd (pI a.S a.bY a.Want) λcg=>
 if !decide (cg.2=0) then
 bd (qV) λcM=>
 some cM
 else
 bd (Loop (uw a1) (cg.1.S.F,cg.1.S.T,cg.1.bY,cg.1.Want,cg.1.N,cg.1.aC,0)) λw=>
 bd (qW (⟨(⟨w.1,w.2.1⟩:ae),w.2.2.1,w.2.2.2.1,w.2.2.2.2.1,w.2.2.2.2.2⟩:aj)) λmc=>
 bd (Loop (ux a mc) (([]:List UInt8),true,0)) λw1=>
 match w1 with
 | .inl p2=>
  bd (bd (qV) λDv=>
   if Dv then
   some (!p2)
   else
   some false:Option Bool) λw3=>
  some w3
 | .inr p3=>some p3
end
end Dn.S
