import Derived.Test.YtmdlghpieagfhaaGreatDnD
import Derived.Test.YtmdlghpieagfhaaGreatDnC
/-
  The functions, on typed values. Conditions: none.
-/
set_option linter.unusedVariables false
set_option linter.unusedSimpArgs false
open Go.IntKind renaming wrap→cM,bits→AI
open Int renaming toNat→sh,fdiv→IT
open List renaming drop→AT,take→BY,replicate→No
open Go.FloatKind renaming nearest→OF
open Go Dn
set_option maxRecDepth 100000
namespace Dn.S
noncomputable section
structure ae where
 F:Int
 T:Int
deriving DecidableEq
@[reducible] def I6 (x : ae) : List MV := [.i .i64 x.F, .i .i64 x.T]
@[reducible] def bK (x : ae) : MV := .agg (I6 x)
structure na where
 S:ae
 bY:List Bool
 Want:List (List UInt8)
deriving DecidableEq
@[reducible] def WK (x : na) : List MV := [.i .i64 x.S.F, .i .i64 x.S.T, .list (x.bY.map MV.b), .list (x.Want.map MV.s)]
@[reducible] def Cx (x : na) : MV := .agg (WK x)
structure aa where
 By:Int
 View:Int
 Value:List UInt8
deriving DecidableEq
@[reducible] def Gc (x : aa) : List MV := [.i .i64 x.By, .i .i64 x.View, .s x.Value]
@[reducible] def ak (x : aa) : MV := .agg (Gc x)
structure ab where
 By:Int
 je:Int
 Has:Bool
 View:Int
 Value:List UInt8
 Proof:List aa
deriving DecidableEq
@[reducible] def Qy (x : ab) : List MV := [.i .i64 x.By, .i .i64 x.je, .b x.Has, .i .i64 x.View, .s x.Value, .list (x.Proof.map ak)]
@[reducible] def aH (x : ab) : MV := .agg (Qy x)
structure al where
 Kind:Int
 eE:Int
 View:Int
 Value:List UInt8
 fN:List ab
 dv:aa
 Proof:List aa
 R:ab
deriving DecidableEq
@[reducible] def WL (x : al) : List MV := [.i .i64 x.Kind, .i .i64 x.eE, .i .i64 x.View, .s x.Value, .list (x.fN.map aH), .i .i64 x.dv.By, .i .i64 x.dv.View, .s x.dv.Value, .list (x.Proof.map ak), .i .i64 x.R.By, .i .i64 x.R.je, .b x.R.Has, .i .i64 x.R.View, .s x.R.Value, .list (x.R.Proof.map ak)]
@[reducible] def aR (x : al) : MV := .agg (WL x)
structure dz where
 Kind:Int
 I:Int
 J:Int
 M:al
deriving DecidableEq
@[reducible] def WM (x : dz) : List MV := [.i .i64 x.Kind, .i .i64 x.I, .i .i64 x.J, .i .i64 x.M.Kind, .i .i64 x.M.eE, .i .i64 x.M.View, .s x.M.Value, .list (x.M.fN.map aH), .i .i64 x.M.dv.By, .i .i64 x.M.dv.View, .s x.M.dv.Value, .list (x.M.Proof.map ak), .i .i64 x.M.R.By, .i .i64 x.M.R.je, .b x.M.R.Has, .i .i64 x.M.R.View, .s x.M.R.Value, .list (x.M.R.Proof.map ak)]
@[reducible] def my (x : dz) : MV := .agg (WM x)
structure aA where
 L:List aa
deriving DecidableEq
@[reducible] def DE (x : aA) : List MV := [.list (x.L.map ak)]
@[reducible] def iH (x : aA) : MV := .agg (DE x)
structure ah where
 S:ae
 Me:Int
 View:Int
 Has:Bool
 At:Int
 Value:List UInt8
 Proof:List aa
 cF:aA
deriving DecidableEq
@[reducible] def Cy (x : ah) : List MV := [.i .i64 x.S.F, .i .i64 x.S.T, .i .i64 x.Me, .i .i64 x.View, .b x.Has, .i .i64 x.At, .s x.Value, .list (x.Proof.map ak), .list (x.cF.L.map ak)]
@[reducible] def ck (x : ah) : MV := .agg (Cy x)
structure aq where
 S:ae
 aY:aA
 bn:aA
 Told:aA
 bQ:Bool
 Value:List UInt8
deriving DecidableEq
@[reducible] def gu (x : aq) : List MV := [.i .i64 x.S.F, .i .i64 x.S.T, .list (x.aY.L.map ak), .list (x.bn.L.map ak), .list (x.Told.L.map ak), .b x.bQ, .s x.Value]
@[reducible] def dp (x : aq) : MV := .agg (gu x)
structure ar where
 A:ah
 L:aq
 eH:List ab
 ir:Int
deriving DecidableEq
@[reducible] def Cz (x : ar) : List MV := [.i .i64 x.A.S.F, .i .i64 x.A.S.T, .i .i64 x.A.Me, .i .i64 x.A.View, .b x.A.Has, .i .i64 x.A.At, .s x.A.Value, .list (x.A.Proof.map ak), .list (x.A.cF.L.map ak), .i .i64 x.L.S.F, .i .i64 x.L.S.T, .list (x.L.aY.L.map ak), .list (x.L.bn.L.map ak), .list (x.L.Told.L.map ak), .b x.L.bQ, .s x.L.Value, .list (x.eH.map aH), .i .i64 x.ir]
@[reducible] def aZ (x : ar) : MV := .agg (Cz x)
structure aj where
 S:ae
 bY:List Bool
 Want:List (List UInt8)
 N:List ar
 aV:List al
deriving DecidableEq
@[reducible] def cH (x : aj) : List MV := [.i .i64 x.S.F, .i .i64 x.S.T, .list (x.bY.map MV.b), .list (x.Want.map MV.s), .list (x.N.map aZ), .list (x.aV.map aR)]
@[reducible] def eZ (x : aj) : MV := .agg (cH x)
structure aO where
 b:List Int
 e:Int
deriving DecidableEq
@[reducible] def eJ (x : aO) : List MV := [.list (x.b.map (MV.i .u8)), .i .i64 x.e]
structure eK where
 F:Int
 T:Int
deriving DecidableEq
structure dN where
 L:List aa
deriving DecidableEq
structure iI where
 S:eK
 Me:Int
 View:Int
 Has:Bool
 At:Int
 Value:List UInt8
 Proof:List aa
 cF:dN
deriving DecidableEq
structure ez where
 S:eK
 aY:dN
 bn:dN
 Told:dN
 bQ:Bool
 Value:List UInt8
deriving DecidableEq
structure xX where
 A:iI
 L:ez
 eH:List ab
 ir:Int
deriving DecidableEq
structure fA where
 Kind:Int
 eE:Int
 View:Int
 Value:List UInt8
 fN:List ab
 dv:aa
 Proof:List aa
 R:ab
deriving DecidableEq
def vo (a:na)(st:Int):Option (Int⊕(Unit⊕Bool)):=if st<(a.Want.length:Int) then
 ix a.Want st λy=>
 if (200:Int)<(y.length:Int) then
 some (.inr (.inr false))
 else
 some (.inl (cM .i64 (st+1)))
 else
 some (.inr (.inl ()))
def rM (y1:dz)(dM:Int):Option (Int⊕(Unit⊕Bool)):=if dM<(y1.M.fN.length:Int) then
 ix y1.M.fN dM λy2=>
 if (30:Int)<(y2.Proof.length:Int) then
 some (.inr (.inr false))
 else
 some (.inl (cM .i64 (dM+1)))
 else
 some (.inr (.inl ()))
def rN (a1:List dz)(dk:Int):Option (Int⊕(Unit⊕Bool)):=if dk<(a1.length:Int) then
 ix a1 dk λy1=>
 bd (if (200:Int)<(y1.M.Value.length:Int) then
  some true
  else
  if (200:Int)<(y1.M.dv.Value.length:Int) then
  some true
  else
  if (30:Int)<(y1.M.Proof.length:Int) then
  some true
  else
  if (30:Int)<(y1.M.fN.length:Int) then
  some true
  else
  if (200:Int)<(y1.M.R.Value.length:Int) then
  some true
  else
  some (decide ((30:Int)<(y1.M.R.Proof.length:Int))):Option Bool) λw3=>
 if w3 then
 some (.inr (.inr false))
 else
 bd (Loop (rM y1) 0) λw4=>
 match w4 with
 | .inl p5=>some (.inl (cM .i64 (dk+1)))
 | .inr p6=>some (.inr (.inr p6))
 else
 some (.inr (.inl ()))
def wP (a:na)(a1:List dz):Option Bool:=bd (if (2:Int)<a.S.F then
  some true
  else
  if (30:Int)<(a.bY.length:Int) then
  some true
  else
  if (30:Int)<(a.Want.length:Int) then
  some true
  else
  some (decide ((80:Int)<(a1.length:Int))):Option Bool) λw=>
 if w then
 some false
 else
 bd (Loop (vo a) 0) λw1=>
 match w1 with
 | .inl p1=>
  bd (Loop (rN a1) 0) λw2=>
  match w2 with
  | .inl p7=>some true
  | .inr p8=>some p8
 | .inr p2=>some p2
def vZ (sA:ae):Option (Nat×Nat):=some (OF .f64 sA.F,OF .f64 sA.T)
def kJ (sA:ae)(times:Nat×Nat):Option Int:=bd (vZ sA) λrA=>
 bd (FloatKind.f64.format.mul rA.1 times.1) λf=>
 bd (FloatKind.f64.format.mul rA.2 times.2) λf1=>
 bd (FloatKind.f64.format.add f f1) λf2=>
 bd ((FloatKind.decode .f64 f2).toInt .zero) λn=>
 if IntKind.min .i64<=n/\n<=IntKind.max .i64 then
 some (cM .i64 (n+1))
 else none
def pq (sA:ae):Option Int:=bd (kJ sA (4613937818241073152,4611686018427387904)) λrA=>some rA
def jX (sA:ae):Option Bool:=bd (if (1:Int)<=sA.F then
  if sA.F<=5 then
  if (0:Int)<=sA.T then
  some (decide (sA.T<=sA.F))
  else
  some false
  else
  some false
  else
  some false:Option Bool) λw=>
 some w
def nb (sA:ae)(me:Int):Option (ah×Int):=bd (bd (jX sA) λrA=>
  if !rA then
  some true
  else
  if me<0 then
  some true
  else
  bd (pq sA) λbt=>
  some (decide (bt<=me)):Option Bool) λw=>
 if w then
 some ((⟨(⟨0,0⟩:ae),0,0,false,0,([]:List UInt8),([]:List aa),(⟨([]:List aa)⟩:aA)⟩:ah),1)
 else
 some ((⟨sA,me,0,false,0,([]:List UInt8),([]:List aa),(⟨([]:List aa)⟩:aA)⟩:ah),0)
def oR (sA:ae):Option (aq×Int):=bd (jX sA) λrA=>
 if !rA then
 some ((⟨(⟨0,0⟩:ae),(⟨([]:List aa)⟩:aA),(⟨([]:List aa)⟩:aA),(⟨([]:List aa)⟩:aA),false,([]:List UInt8)⟩:aq),1)
 else
 some ((⟨sA,(⟨([]:List aa)⟩:aA),(⟨([]:List aa)⟩:aA),(⟨([]:List aa)⟩:aA),false,([]:List UInt8)⟩:aq),0)
def ud (sA:ae)(i:Int):Option (ar×Int):=bd (nb sA i) λrA=>
 if !decide (rA.2=0) then
 some ((⟨(⟨(⟨0,0⟩:ae),0,0,false,0,([]:List UInt8),([]:List aa),(⟨([]:List aa)⟩:aA)⟩:ah),(⟨(⟨0,0⟩:ae),(⟨([]:List aa)⟩:aA),(⟨([]:List aa)⟩:aA),(⟨([]:List aa)⟩:aA),false,([]:List UInt8)⟩:aq),([]:List ab),0⟩:ar),rA.2)
 else
 bd (oR sA) λbt=>
 some ((⟨rA.1,bt.1,([]:List ab),(-1)⟩:ar),bt.2)
def xY (a:ae)(a1:List Bool)(a2:List (List UInt8))(st:Int×Int×(List Bool)×(List (List UInt8))×(List ar)×(List al)×Int×Int×(List Bool)×(List (List UInt8))×(List ar)×(List al)×Int×Int):Option ((Int×Int×(List Bool)×(List (List UInt8))×(List ar)×(List al)×Int×Int×(List Bool)×(List (List UInt8))×(List ar)×(List al)×Int×Int)⊕((Int×Int×(List Bool)×(List (List UInt8))×(List ar)×(List al)×Int×Int×(List Bool)×(List (List UInt8))×(List ar)×(List al))⊕(Int×Int×(List Bool)×(List (List UInt8))×(List ar)×(List al)×Int))):=if st.2.2.2.2.2.2.2.2.2.2.2.2.2<(a1.length:Int) then
 ix a1 st.2.2.2.2.2.2.2.2.2.2.2.2.2 λy=>
 bd (if y then
  some (cM .i64 (st.2.2.2.2.2.2.2.2.2.2.2.2.1-1))
  else
  some st.2.2.2.2.2.2.2.2.2.2.2.2.1:Option Int) λw2=>
 bd (ix a2 st.2.2.2.2.2.2.2.2.2.2.2.2.2 λy1=>
  if (6000:Int)<(y1.length:Int) then
  some true
  else
  some (decide (w2<0)):Option Bool) λw3=>
 if w3 then
 some (.inr (.inr (0,0,([]:List Bool),([]:List (List UInt8)),([]:List ar),([]:List al),1)))
 else
 bd (ud a st.2.2.2.2.2.2.2.2.2.2.2.2.2) λiw=>
 if (st.2.2.2.2.2.2.2.2.2.2.1.length+([iw.1]:List ar).length) *256<=2^46 then
 some (.inl (st.1,st.2.1,st.2.2.1,st.2.2.2.1,st.2.2.2.2.1,st.2.2.2.2.2.1,st.2.2.2.2.2.2.1,st.2.2.2.2.2.2.2.1,st.2.2.2.2.2.2.2.2.1,st.2.2.2.2.2.2.2.2.2.1,st.2.2.2.2.2.2.2.2.2.2.1++([iw.1]:List ar),st.2.2.2.2.2.2.2.2.2.2.2.1,w2,cM .i64 (st.2.2.2.2.2.2.2.2.2.2.2.2.2+1)))
 else none
 else
 some (.inr (.inl (st.1,st.2.1,st.2.2.1,st.2.2.2.1,st.2.2.2.2.1,st.2.2.2.2.2.1,st.2.2.2.2.2.2.1,st.2.2.2.2.2.2.2.1,st.2.2.2.2.2.2.2.2.1,st.2.2.2.2.2.2.2.2.2.1,st.2.2.2.2.2.2.2.2.2.2.1,st.2.2.2.2.2.2.2.2.2.2.2.1)))
def pu (a:ae)(a1:List Bool)(a2:List (List UInt8)):Option (aj×Int):=bd (bd (jX a) λrA=>
  if !rA then
  some true
  else
  bd (pq a) λbt=>
  if !decide ((a1.length:Int)=bt) then
  some true
  else
  some (!decide ((a2.length:Int)=(a1.length:Int))):Option Bool) λw=>
 if w then
 some ((⟨(⟨0,0⟩:ae),([]:List Bool),([]:List (List UInt8)),([]:List ar),([]:List al)⟩:aj),1)
 else
 bd (qD 1 a1) λca=>
 bd (qD 16 a2) λcG=>
 bd (Loop (xY a a1 a2) (0,0,([]:List Bool),([]:List (List UInt8)),([]:List ar),([]:List al),a.F,a.T,ca,cG,([]:List ar),([]:List al),a.F,0)) λw1=>
 match w1 with
 | .inl p2=>some ((⟨(⟨p2.2.2.2.2.2.2.1,p2.2.2.2.2.2.2.2.1⟩:ae),p2.2.2.2.2.2.2.2.2.1,p2.2.2.2.2.2.2.2.2.2.1,p2.2.2.2.2.2.2.2.2.2.2.1,p2.2.2.2.2.2.2.2.2.2.2.2⟩:aj),0)
 | .inr p3=>some ((⟨(⟨p3.1,p3.2.1⟩:ae),p3.2.2.1,p3.2.2.2.1,p3.2.2.2.2.1,p3.2.2.2.2.2.1⟩:aj),p3.2.2.2.2.2.2)
def pv (b:List Int)(y:Int)(st:Int×Int):Option ((Int×Int)⊕Int):=if st.2<((AT (sh 0) (BY (sh (cM .i64 y)) (AT (sh 1) (BY (sh (b.length:Int)) b)))).length:Int) then
 ix (AT (sh 0) (BY (sh (cM .i64 y)) (AT (sh 1) (BY (sh (b.length:Int)) b)))) st.2 λy2=>
 if (0:Int)<=8 then
 some (.inl (bOr .u64 (cM .u64 (st.1 *2^min (sh 8) (AI .u64))) (cM .u64 y2),cM .i64 (st.2+1)))
 else none
 else
 some (.inr st.1)
def qF (b:List Int):Option (Int×(List Int)×Int):=if (b.length:Int)=0 then
 some (0,([]:List Int),2)
 else
 ix b 0 λy=>
 if (0:Int)<=1/\(1:Int)<=(b.length:Int)/\(b.length:Int)<=(b.length:Int) then
 bd (if (8:Int)<(cM .i64 y) then
  some true
  else
  if (0:Int)<(cM .i64 y) then
  if (0:Int)<((AT (sh 1) (BY (sh (b.length:Int)) b)).length:Int) then
  ix (AT (sh 1) (BY (sh (b.length:Int)) b)) 0 λy1=>
  some (decide (y1=0))
  else
  some false
  else
  some false:Option Bool) λw=>
 if w then
 some (0,([]:List Int),3)
 else
 if ((AT (sh 1) (BY (sh (b.length:Int)) b)).length:Int)<(cM .i64 y) then
 some (0,([]:List Int),2)
 else
 if (0:Int)<=0/\(0:Int)<=(cM .i64 y)/\(cM .i64 y)<=((AT (sh 1) (BY (sh (b.length:Int)) b)).length:Int) then
 bd (Loop (pv b y) (0,0)) λw1=>
 if (0:Int)<=(cM .i64 y)/\(cM .i64 y)<=((AT (sh 1) (BY (sh (b.length:Int)) b)).length:Int)/\((AT (sh 1) (BY (sh (b.length:Int)) b)).length:Int)<=((AT (sh 1) (BY (sh (b.length:Int)) b)).length:Int) then
 some (w1,AT (sh (cM .i64 y)) (BY (sh ((AT (sh 1) (BY (sh (b.length:Int)) b)).length:Int)) (AT (sh 1) (BY (sh (b.length:Int)) b))),0)
 else none
 else none
 else none
def nR (b:List Int):Option (Int×(List Int)×Int):=bd (qF b) λrA=>
 if (0:Int)<=1 then
 some (EH .i64 (cM .i64 (IT rA.1 (2^min (sh 1) (AI .u64)))) (cM .i64 (0-(cM .i64 (RV .u64 rA.1 1)))),rA.2.1,rA.2.2)
 else none
def b5 (t:aO):Option (Int×aO):=bd (if t.e=0 then
  bd (nR t.b) λrA=>
  some (rA.1,rA.2.1,rA.2.2)
  else
  some (0,t.b,t.e):Option (Int×(List Int)×Int)) λw=>
 some (w.1,(⟨w.2.1,w.2.2⟩:aO))
def kp (b:List Int)(most:Int):Option ((List UInt8)×(List Int)×Int):=bd (qF b) λrA=>
 if !decide (rA.2.2=0) then
 some (([]:List UInt8),([]:List Int),rA.2.2)
 else
 if (cM .u64 (imax most 0))<rA.1 then
 some (([]:List UInt8),([]:List Int),5)
 else
 if (cM .u64 (rA.2.1.length:Int))<rA.1 then
 some (([]:List UInt8),([]:List Int),2)
 else
 if (0:Int)<=0/\(0:Int)<=rA.1/\rA.1<=(rA.2.1.length:Int) then
 Qv (AT (sh 0) (BY (sh rA.1) rA.2.1)) λbs=>
 if (0:Int)<=rA.1/\rA.1<=(rA.2.1.length:Int)/\(rA.2.1.length:Int)<=(rA.2.1.length:Int) then
 some (bs,AT (sh rA.1) (BY (sh (rA.2.1.length:Int)) rA.2.1),0)
 else none
 else none
def df (t:aO):Option ((List UInt8)×aO):=bd (if t.e=0 then
  bd (kp t.b 6000) λrA=>
  some (rA.1,rA.2.1,rA.2.2)
  else
  some (([]:List UInt8),t.b,t.e):Option ((List UInt8)×(List Int)×Int)) λw=>
 some (w.1,(⟨w.2.1,w.2.2⟩:aO))
def b6 (rA:Int×aO)(st:(List aa)×Int×(List Int)×Int):Option (((List aa)×Int×(List Int)×Int)⊕((List aa)×(List Int)×Int)):=if st.2.1<((No (sh rA.1) (⟨0,0,([]:List UInt8)⟩:aa)).length:Int) then
 bd (b5 (⟨st.2.2.1,st.2.2.2⟩:aO)) λbt=>
 ix st.1 st.2.1 λy=>
 some (.inl (st.1.set (sh st.2.1) (⟨bt.1,y.View,y.Value⟩:aa),cM .i64 (st.2.1+1),bt.2.b,bt.2.e))
 else
 some (.inr (st.1,st.2.2.1,st.2.2.2))
def fF (w3:(List aa)×(List Int)×Int)(ca:Int×aO)(cG:(List UInt8)×aO)(dk:(List aa)×Int):Option (((List aa)×Int)⊕(List aa)):=if dk.2<(w3.1.length:Int) then
 ix dk.1 dk.2 λy1=>
 ix (dk.1.set (sh dk.2) (⟨y1.By,ca.1,y1.Value⟩:aa)) dk.2 λy2=>
 some (.inl ((dk.1.set (sh dk.2) (⟨y1.By,ca.1,y1.Value⟩:aa)).set (sh dk.2) (⟨y2.By,y2.View,cG.1⟩:aa),cM .i64 (dk.2+1)))
 else
 some (.inr dk.1)
def dw (t:aO):Option ((List aa)×aO):=bd (b5 t) λrA=>
 bd (if rA.1<0 then
  some true
  else
  some (decide ((100:Int)<rA.1)):Option Bool) λw=>
 bd (if w then
  some (rA.2.b,3)
  else
  some (rA.2.b,rA.2.e):Option ((List Int)×Int)) λw1=>
 bd (if !decide (w1.2=0) then
  some true
  else
  some (decide (rA.1=0)):Option Bool) λw2=>
 if w2 then
 some (([]:List aa),(⟨w1.1,w1.2⟩:aO))
 else
 if (0:Int)<=rA.1/\rA.1=rA.1/\rA.1 *32<=2^46 then
 bd (Loop (b6 rA) (No (sh rA.1) (⟨0,0,([]:List UInt8)⟩:aa),0,w1.1,w1.2)) λw3=>
 bd (b5 (⟨w3.2.1,w3.2.2⟩:aO)) λca=>
 bd (df ca.2) λcG=>
 bd (Loop (fF w3 ca cG) (w3.1,0)) λw4=>
 some (w4,cG.2)
 else none
def iJ (isA:Bool):Option Int:=if isA then
 some 1
 else
 some 0
def mz (sA:ae):Option Int:=bd (kJ sA (4611686018427387904,4607182418800017408)) λrA=>some rA
def kq (a:aa):Option Bool:=bd (if (0:Int)<=a.By then
  if (0:Int)<=a.View then
  if a.View<=100000 then
  some (decide ((a.Value.length:Int)<=6000))
  else
  some false
  else
  some false
  else
  some false:Option Bool) λw=>
 some w
def qY (t:aA)(st:Int):Option (Int⊕(Unit⊕Bool)):=if st<(t.L.length:Int) then
 ix t.L st λy=>
 bd (bd (kq y) λrA=>
  if !rA then
  some true
  else
  if (0:Int)<st then
  ix t.L (cM .i64 (st-1)) λy1=>
  some (decide (y.By<=y1.By))
  else
  some false:Option Bool) λw1=>
 if w1 then
 some (.inr (.inr false))
 else
 some (.inl (cM .i64 (st+1)))
 else
 some (.inr (.inl ()))
def rO (t:aA):Option Bool:=bd (Loop (qY t) 0) λw=>
 match w with
 | .inl p1=>some true
 | .inr p2=>some p2
def mA (t:aA)(view:Int)(value:List UInt8)(st:(List aa)×Int):Option (((List aa)×Int)⊕(List aa)):=if st.2<(t.L.length:Int) then
 ix t.L st.2 λy=>
 bd (if y.View=view then
  some (decide (y.Value=value))
  else
  some false:Option Bool) λw1=>
 bd (if w1 then
  if (st.1.length+([y]:List aa).length) *32<=2^46 then
  some (st.1++([y]:List aa))
  else none
  else
  some st.1:Option (List aa)) λw2=>
 some (.inl (w2,cM .i64 (st.2+1)))
 else
 some (.inr st.1)
def nd (t:aA)(view:Int)(value:List UInt8):Option (List aa):=bd (Loop (mA t view value) (([]:List aa),0)) λw=>some w
def rP (t:aA)(view:Int)(value:List UInt8):Option Int:=bd (nd t view value) λrA=>some (rA.length:Int)
def kK (sA:ae)(p:List aa):Option Bool:=bd (bd (jX sA) λrA=>
  if !rA then
  some true
  else
  bd (mz sA) λbt=>
  if !decide ((p.length:Int)=bt) then
  some true
  else
  bd (rO (⟨p⟩:aA)) λca=>
  some (!ca):Option Bool) λw=>
 if w then
 some false
 else
 bd (ix p (cM .i64 ((p.length:Int)-1)) λy=>
  bd (pq sA) λcG=>
  if y.By<cG then
  ix p 0 λy1=>
  ix p 0 λy2=>
  bd (rP (⟨p⟩:aA) y1.View y2.Value) λiw=>
  some (decide (iw=(p.length:Int)))
  else
  some false:Option Bool) λw1=>
 some w1
def dY (a:ah):Option Bool:=bd (if a.View<0 then
  some true
  else
  some (decide ((100000:Int)<a.View)):Option Bool) λw=>
 if w then
 some false
 else
 bd (if a.Has then
  if a.At<0 then
  some true
  else
  if a.View<a.At then
  some true
  else
  some (decide ((6000:Int)<(a.Value.length:Int)))
  else
  some false:Option Bool) λw1=>
 if w1 then
 some false
 else
 bd (if !a.Has then
  if !decide (a.At=0) then
  some true
  else
  some (!decide (a.Value=([]:List UInt8)))
  else
  some false:Option Bool) λw2=>
 if w2 then
 some false
 else
 bd (if (a.Proof.length:Int)=0 then
  some true
  else
  bd (kK a.S a.Proof) λrA=>
  if rA then
  ix a.Proof 0 λy=>
  some (decide (y.View<=a.View))
  else
  some false:Option Bool) λw3=>
 some w3
def lq (a:ae)(a1:Int)(a2:List Int):Option (ah×Int):=bd (nb a a1) λrA=>
 if !decide (rA.2=0) then
 some ((⟨(⟨0,0⟩:ae),0,0,false,0,([]:List UInt8),([]:List aa),(⟨([]:List aa)⟩:aA)⟩:ah),rA.2)
 else
 bd (b5 (⟨a2,0⟩:aO)) λbt=>
 bd (b5 bt.2) λca=>
 bd (b5 ca.2) λcG=>
 bd (df cG.2) λiw=>
 bd (dw iw.2) λlW=>
 bd (if !decide (lW.2.e=0) then
  some true
  else
  bd (iJ (decide (ca.1=1))) λsj=>
  if !decide (ca.1=sj) then
  some true
  else
  if (0:Int)<(lW.2.b.length:Int) then
  some true
  else
  bd (dY (⟨rA.1.S,rA.1.Me,bt.1,decide (ca.1=1),cG.1,iw.1,lW.1,rA.1.cF⟩:ah)) λC4=>
  some (!C4):Option Bool) λw=>
 if w then
 some ((⟨(⟨0,0⟩:ae),0,0,false,0,([]:List UInt8),([]:List aa),(⟨([]:List aa)⟩:aA)⟩:ah),3)
 else
 some ((⟨rA.1.S,rA.1.Me,bt.1,decide (ca.1=1),cG.1,iw.1,lW.1,rA.1.cF⟩:ah),0)
def nS (p:List aa):Option (Int×(List UInt8)×Bool):=if (p.length:Int)=0 then
 some ((-1),([]:List UInt8),false)
 else
 ix p 0 λy=>
 ix p 0 λy1=>
 some (y.View,y1.Value,true)
def xZ (x:Int):Option Int:=bd (if (4294967296:Int)<=x then
  if (0:Int)<=32 then
  some (IT x (2^min (sh 32) (AI .u64)),32)
  else none
  else
  some (x,0):Option (Int×Int)) λw=>
 bd (if (65536:Int)<=w.1 then
  if (0:Int)<=16 then
  some (IT w.1 (2^min (sh 16) (AI .u64)),cM .i64 (w.2+16))
  else none
  else
  some (w.1,w.2):Option (Int×Int)) λw1=>
 bd (if (256:Int)<=w1.1 then
  if (0:Int)<=8 then
  some (IT w1.1 (2^min (sh 8) (AI .u64)),cM .i64 (w1.2+8))
  else none
  else
  some (w1.1,w1.2):Option (Int×Int)) λw2=>
 if (0:Int)<=(cM .u8 w2.1)/\(cM .u8 w2.1)<(((([0,1,2,2,3,3,3,3,4,4,4,4,4,4,4,4,5,5,5,5,5,5,5,5,5,5,5,5,5,5,5,5,6,6,6,6,6,6,6,6,6,6,6,6,6,6,6,6,6,6,6,6,6,6,6,6,6,6,6,6,6,6,6,6]:List UInt8)++([7,7,7,7,7,7,7,7,7,7,7,7,7,7,7,7,7,7,7,7,7,7,7,7,7,7,7,7,7,7,7,7,7,7,7,7,7,7,7,7,7,7,7,7,7,7,7,7,7,7,7,7,7,7,7,7,7,7,7,7,7,7,7,7]:List UInt8))++(([8,8,8,8,8,8,8,8,8,8,8,8,8,8,8,8,8,8,8,8,8,8,8,8,8,8,8,8,8,8,8,8,8,8,8,8,8,8,8,8,8,8,8,8,8,8,8,8,8,8,8,8,8,8,8,8,8,8,8,8,8,8,8,8]:List UInt8)++([8,8,8,8,8,8,8,8,8,8,8,8,8,8,8,8,8,8,8,8,8,8,8,8,8,8,8,8,8,8,8,8,8,8,8,8,8,8,8,8,8,8,8,8,8,8,8,8,8,8,8,8,8,8,8,8,8,8,8,8,8,8,8,8]:List UInt8))).length:Int) then
 some (cM .i64 (w2.2+(cM .i64 ((((([0,1,2,2,3,3,3,3,4,4,4,4,4,4,4,4,5,5,5,5,5,5,5,5,5,5,5,5,5,5,5,5,6,6,6,6,6,6,6,6,6,6,6,6,6,6,6,6,6,6,6,6,6,6,6,6,6,6,6,6,6,6,6,6]:List UInt8)++([7,7,7,7,7,7,7,7,7,7,7,7,7,7,7,7,7,7,7,7,7,7,7,7,7,7,7,7,7,7,7,7,7,7,7,7,7,7,7,7,7,7,7,7,7,7,7,7,7,7,7,7,7,7,7,7,7,7,7,7,7,7,7,7]:List UInt8))++(([8,8,8,8,8,8,8,8,8,8,8,8,8,8,8,8,8,8,8,8,8,8,8,8,8,8,8,8,8,8,8,8,8,8,8,8,8,8,8,8,8,8,8,8,8,8,8,8,8,8,8,8,8,8,8,8,8,8,8,8,8,8,8,8]:List UInt8)++([8,8,8,8,8,8,8,8,8,8,8,8,8,8,8,8,8,8,8,8,8,8,8,8,8,8,8,8,8,8,8,8,8,8,8,8,8,8,8,8,8,8,8,8,8,8,8,8,8,8,8,8,8,8,8,8,8,8,8,8,8,8,8,8]:List UInt8))).getD (sh (cM .u8 w2.1)) 0).toNat:Int))))
 else none
def ue (n:Int):Option Int:=bd (xZ n) λrA=>
 if !decide ((8:Int)=0) then
 some (cM .i64 (1+(cM .i64 (Int.tdiv (cM .i64 (rA+7)) 8))))
 else none
def oc (sA:List Int):Option (List Int):=if (sA.length:Int)=(sA.length:Int)/\(sA.length:Int)=(sA.length:Int) then
 some sA
 else none
def rQ (n:Int)(st:(List Int)×Int):Option (((List Int)×Int)⊕(List Int)):=if (0:Int)<=st.2 then
 if (0:Int)<=(cM .i64 (8 *st.2)) then
 if (st.1.length+([cM .u8 (IT n (2^min (sh (cM .i64 (8 *st.2))) (AI .u64)))]:List Int).length) *1<=2^46 then
 some (.inl (st.1++([cM .u8 (IT n (2^min (sh (cM .i64 (8 *st.2))) (AI .u64)))]:List Int),cM .i64 (st.2-1)))
 else none
 else none
 else
 some (.inr st.1)
def tu (b:List Int)(n:Int):Option (List Int):=bd (ue n) λrA=>
 bd (oc b) λbt=>
 if 0<([cM .u8 (cM .i64 (rA-1))]:List Int).length/\(bt.length+([cM .u8 (cM .i64 (rA-1))]:List Int).length) *1<=2^46 then
 bd (Loop (rQ n) (bt++([cM .u8 (cM .i64 (rA-1))]:List Int),cM .i64 ((cM .i64 (rA-1))-1))) λw=>
 some w
 else none
def lr (b:List Int)(n:Int):Option (List Int):=if (0:Int)<=1 then
 if (0:Int)<=63 then
 bd (tu b (EH .u64 (cM .u64 ((cM .u64 n) *2^min (sh 1) (AI .u64))) (cM .u64 (IT n (2^min (sh 63) (AI .i64)))))) λrA=>
 some rA
 else none
 else none
def qG (b:List Int)(sA:List UInt8):Option (List Int):=bd (tu b (cM .u64 (sA.length:Int))) λrA=>
 if (rA.length+(DB sA).length) *1<=2^46 then
 some (rA++(DB sA))
 else none
def od (a:ah)(st:(List Int)×Int):Option (((List Int)×Int)⊕(List Int)):=if st.2<(a.Proof.length:Int) then
 ix a.Proof st.2 λy=>
 bd (lr st.1 y.By) λsj=>
 some (.inl (sj,cM .i64 (st.2+1)))
 else
 some (.inr st.1)
def nT (a:ah):Option (List Int):=bd (lr ([]:List Int) a.View) λrA=>
 bd (iJ a.Has) λbt=>
 bd (lr rA bt) λca=>
 bd (lr ca a.At) λcG=>
 bd (qG cG a.Value) λiw=>
 bd (lr iw (a.Proof.length:Int)) λlW=>
 bd (Loop (od a) (lW,0)) λw=>
 bd (nS a.Proof) λC4=>
 bd (if C4.2.2 then
  bd (lr w C4.1) λrA8=>
  bd (qG rA8 C4.2.1) λrA9=>
  some rA9
  else
  some w:Option (List Int)) λw1=>
 some w1
def ng (sA:ae)(i:Int)(n:ar):Option ar:=bd (nT n.A) λrA=>
 bd (lq sA i rA) λbt=>
 bd (oR sA) λca=>
 some (⟨bt.1,ca.1,([]:List ab),bt.1.View⟩:ar)
def dx (c:aj)(i:Int)(bad:Bool):Option Bool:=bd (if (0:Int)<=i then
  if i<(c.bY.length:Int) then
  ix c.bY i λy=>
  some (decide (y=bad))
  else
  some false
  else
  some false:Option Bool) λw=>
 some w
def fa (s1:List aa)(s2:List aa)(st:Int):Option (Int⊕(Unit⊕Bool)):=if st<(s1.length:Int) then
 ix s1 st λy=>
 ix s2 st λy1=>
 if !((decide (y.By=y1.By))&&((decide (y.View=y1.View))&&(decide (y.Value=y1.Value)))) then
 some (.inr (.inr false))
 else
 some (.inl (cM .i64 (st+1)))
 else
 some (.inr (.inl ()))
def ga (s1:List aa)(s2:List aa):Option Bool:=if !decide ((s1.length:Int)=(s2.length:Int)) then
 some false
 else
 bd (Loop (fa s1 s2) 0) λw=>
 match w with
 | .inl p1=>some true
 | .inr p2=>some p2
def uf (a:List aa)(b:List aa):Option Bool:=bd (ga a b) λrA=>some rA
def jY (x:ab)(y:ab):Option Bool:=bd (if x.By=y.By then
  if x.je=y.je then
  if x.Has=y.Has then
  if x.View=y.View then
  if x.Value=y.Value then
  bd (uf x.Proof y.Proof) λrA=>
  some rA
  else
  some false
  else
  some false
  else
  some false
  else
  some false
  else
  some false:Option Bool) λw=>
 some w
def bp (s1:List ab)(s2:List ab)(eq:ab->ab->Option Bool)(st:Int):Option (Int⊕(Unit⊕Bool)):=if st<(s1.length:Int) then
 ix s1 st λy=>
 ix s2 st λy1=>
 bd (eq y y1) λrA=>
 if !rA then
 some (.inr (.inr false))
 else
 some (.inl (cM .i64 (st+1)))
 else
 some (.inr (.inl ()))
def bN (s1:List ab)(s2:List ab)(eq:ab->ab->Option Bool):Option Bool:=if !decide ((s1.length:Int)=(s2.length:Int)) then
 some false
 else
 bd (Loop (bp s1 s2 eq) 0) λw=>
 match w with
 | .inl p1=>some true
 | .inr p2=>some p2
def mB (a:List ab)(b:List ab):Option Bool:=bd (bN a b jY) λrA=>some rA
def cD (m:al)(c:ab):Option Bool:=bd (if m.Kind=4 then
  bd (mB ([m.R]:List ab) ([c]:List ab)) λrA=>
  some rA
  else
  some false:Option Bool) λw=>
 some w
def hU (m:al)(c:aa):Option Bool:=bd (if m.Kind=2 then
  some ((decide (m.dv.By=c.By))&&((decide (m.dv.View=c.View))&&(decide (m.dv.Value=c.Value))))
  else
  some false:Option Bool) λw=>
 some w
def cI (sA:List al)(f:al->Option Bool)(st:Int):Option (Int⊕(Unit⊕Int)):=if st<(sA.length:Int) then
 ix sA st λy=>
 bd (f y) λrA=>
 if rA then
 some (.inr (.inr st))
 else
 some (.inl (cM .i64 (st+1)))
 else
 some (.inr (.inl ()))
def fb (sA:List al)(f:al->Option Bool):Option Int:=bd (Loop (cI sA f) 0) λw=>
 match w with
 | .inl p1=>some (-1)
 | .inr p2=>some p2
def bD (sA:List al)(f:al->Option Bool):Option Bool:=bd (fb sA f) λrA=>some (decide ((0:Int)<=rA))
def jv (c:aj)(a:aa):Option Bool:=bd (bd (dx c a.By true) λrA=>
  if rA then
  some true
  else
  bd (bD c.aV (λu=>hU u a)) λbt=>
  some bt:Option Bool) λw=>
 some w
def fL (a:aa)(c:aj):Option Bool:=bd (jv c a) λrA=>some (!rA)
def cn (sA:List aa)(f:aa->Option Bool)(st:Int):Option (Int⊕(Unit⊕Int)):=if st<(sA.length:Int) then
 ix sA st λy=>
 bd (f y) λrA=>
 if rA then
 some (.inr (.inr st))
 else
 some (.inl (cM .i64 (st+1)))
 else
 some (.inr (.inl ()))
def ei (sA:List aa)(f:aa->Option Bool):Option Int:=bd (Loop (cn sA f) 0) λw=>
 match w with
 | .inl p1=>some (-1)
 | .inr p2=>some p2
def cc (sA:List aa)(f:aa->Option Bool):Option Bool:=bd (ei sA f) λrA=>some (decide ((0:Int)<=rA))
def dG (c:aj)(lA:List aa):Option Bool:=bd (cc lA (λu=>fL u c)) λrA=>some (!rA)
def fG (c:aj)(rA:ab):Option Bool:=bd (bd (dx c rA.By true) λbt=>
  if bt then
  bd (dG c rA.Proof) λca=>
  if ca then
  some true
  else
  bd (bD c.aV (λu=>cD u rA)) λcG=>
  some cG
  else
  bd (bD c.aV (λu2=>cD u2 rA)) λiw=>
  some iw:Option Bool) λw=>
 some w
def nh (rA:ab)(c:aj):Option Bool:=bd (fG c rA) λbt=>some (!bt)
def cq (sA:List ab)(f:ab->Option Bool)(st:Int):Option (Int⊕(Unit⊕Int)):=if st<(sA.length:Int) then
 ix sA st λy=>
 bd (f y) λrA=>
 if rA then
 some (.inr (.inr st))
 else
 some (.inl (cM .i64 (st+1)))
 else
 some (.inr (.inl ()))
def ej (sA:List ab)(f:ab->Option Bool):Option Int:=bd (Loop (cq sA f) 0) λw=>
 match w with
 | .inl p1=>some (-1)
 | .inr p2=>some p2
def cf (sA:List ab)(f:ab->Option Bool):Option Bool:=bd (ej sA f) λrA=>some (decide ((0:Int)<=rA))
def mC (c:aj)(m:al):Option Bool:=if m.Kind=1 then
 bd (bd (dx c m.eE true) λrA=>
  if rA then
  bd (cf m.fN (λu=>nh u c)) λbt=>
  some (!bt)
  else
  some false:Option Bool) λw=>
 some w
 else
 if m.Kind=2 then
 bd (dx c m.dv.By true) λca=>
 some ca
 else
 if m.Kind=3 then
 bd (bd (dx c m.eE true) λcG=>
  if cG then
  bd (dG c m.Proof) λiw=>
  some iw
  else
  some false:Option Bool) λw1=>
 some w1
 else
 if m.Kind=4 then
 bd (bd (dx c m.R.By true) λlW=>
  if lW then
  bd (dG c m.R.Proof) λsj=>
  some sj
  else
  some false:Option Bool) λw2=>
 some w2
 else
 if m.Kind=5 then
 bd (dx c m.eE true) λC4=>
 some C4
 else
 some false
def gw (sA:List al):Option (List al):=if (sA.length:Int)=(sA.length:Int)/\(sA.length:Int)=(sA.length:Int) then
 some sA
 else none
def eC (sA:ae)(view:Int):Option Int:=bd (pq sA) λrA=>
 if !decide (rA=0) then
 some (Int.tmod (imax view 0) rA)
 else none
def lu (rA:ab):Option Int:=bd (nS rA.Proof) λbt=>
 if !bt.2.2 then
 some (-1)
 else
 some bt.1
def ug (sA:ae):Option Int:=bd (kJ sA (4607182418800017408,4607182418800017408)) λrA=>some rA
def mD (a1:List ab)(st:Int×(List UInt8)×Int):Option ((Int×(List UInt8)×Int)⊕(Int×(List UInt8))):=if st.2.2<(a1.length:Int) then
 ix a1 st.2.2 λy=>
 bd (lu y) λrA=>
 bd (if st.1<rA then
  ix y.Proof 0 λy1=>
  some (rA,y1.Value)
  else
  some (st.1,st.2.1):Option (Int×(List UInt8))) λw1=>
 some (.inl (w1.1,w1.2,cM .i64 (st.2.2+1)))
 else
 some (.inr (st.1,st.2.1))
def pw (a1:List ab)(w:Int×(List UInt8))(dk:(List MV)×Int):Option (((List MV)×Int)⊕(List MV)):=if dk.2<(a1.length:Int) then
 ix a1 dk.2 λy2=>
 bd (if y2.Has then
  some (decide (w.1<y2.View))
  else
  some false:Option Bool) λw3=>
 bd (if w3 then
  some (tJ (nE dk.1 ([.s y2.Value]:List MV) (.i .i64 0)) (cy dk.1 ([.s y2.Value]:List MV)) (.i .i64 (cM .i64 ((nN dk.1 ([.s y2.Value]:List MV))+1))))
  else
  some dk.1:Option (List MV)) λw4=>
 some (.inl (w4,cM .i64 (dk.2+1)))
 else
 some (.inr dk.1)
def pz (a:ae)(m29:MV):Option (Unit⊕(Unit⊕((List UInt8)×Bool))):=Qq m29 λkey n=>
 bd (ug a) λbt=>
 if bt<=n then
 some (.inr (.inr (key,true)))
 else
 some (.inl ())
def ni (a:ae)(a1:List ab):Option ((List UInt8)×Bool):=bd (Loop (mD a1) ((-1),([]:List UInt8),0)) λw=>
 bd (Loop (pw a1 w) (([]:List MV),0)) λw2=>
 bd (uc (pz a) (some (.inl ())) w2) λw5=>
 match w5 with
 | .inl p5=>some (w.2,decide (((-1):Int)<w.1))
 | .inr p6=>some (p6.1,p6.2)
def tw (sA:ae):Option Int:=bd (kJ sA (4611686018427387904,4611686018427387904)) λrA=>some rA
def jZ (a:ae)(a1:ab):Option Bool:=bd (bd (jX a) λrA=>
  if !rA then
  some true
  else
  if a1.By<0 then
  some true
  else
  bd (pq a) λbt=>
  if bt<=a1.By then
  some true
  else
  if a1.je<1 then
  some true
  else
  some (decide ((100000:Int)<a1.je)):Option Bool) λw=>
 if w then
 some false
 else
 bd (if !a1.Has then
  if !decide (a1.View=0) then
  some true
  else
  some (!decide (a1.Value=([]:List UInt8)))
  else
  some false:Option Bool) λw1=>
 if w1 then
 some false
 else
 bd (if a1.Has then
  if a1.View<0 then
  some true
  else
  if a1.je<=a1.View then
  some true
  else
  some (decide ((6000:Int)<(a1.Value.length:Int)))
  else
  some false:Option Bool) λw2=>
 if w2 then
 some false
 else
 bd (if (a1.Proof.length:Int)=0 then
  some true
  else
  bd (kK a a1.Proof) λca=>
  if ca then
  bd (lu a1) λcG=>
  some (decide (cG<a1.je))
  else
  some false:Option Bool) λw3=>
 some w3
def pA (sA:ae)(view:Int)(lA:List ab)(st:Int×Int):Option ((Int×Int)⊕(Unit⊕Bool)):=if st.2<(lA.length:Int) then
 ix lA st.2 λy=>
 bd (bd (jZ sA y) λca=>
  if !ca then
  some true
  else
  if !decide (y.je=view) then
  some true
  else
  some (decide (y.By<=st.1)):Option Bool) λw2=>
 if w2 then
 some (.inr (.inr false))
 else
 some (.inl (y.By,cM .i64 (st.2+1)))
 else
 some (.inr (.inl ()))
def pB (sA:ae)(view:Int)(lA:List ab):Option Bool:=bd (bd (jX sA) λrA=>
  if !rA then
  some true
  else
  bd (tw sA) λbt=>
  some (!decide ((lA.length:Int)=bt)):Option Bool) λw=>
 if w then
 some false
 else
 bd (Loop (pA sA view lA) ((-1),0)) λw1=>
 match w1 with
 | .inl p1=>some true
 | .inr p2=>some p2
def fH (sA:ae)(view:Int)(lA:List ab)(value:List UInt8):Option Bool:=bd (pB sA view lA) λrA=>
 if !rA then
 some false
 else
 bd (ni sA lA) λbt=>
 bd (if !bt.2 then
  some true
  else
  some (decide (bt.1=value)):Option Bool) λw=>
 some w
def fc (a:ah)(view:Int)(value:List UInt8)(kQ:List ab):Option (ah×aa×Bool):=bd (if !decide (view=a.View) then
  some true
  else
  if a.Has then
  if a.At=view then
  some true
  else
  some (decide ((6000:Int)<(value.length:Int)))
  else
  some (decide ((6000:Int)<(value.length:Int))):Option Bool) λw=>
 if w then
 some (a,(⟨0,0,([]:List UInt8)⟩:aa),false)
 else
 bd (if view=0 then
  some (decide ((kQ.length:Int)=0))
  else
  some false:Option Bool) λw1=>
 bd (if w1 then
  some (.inr (0,0,0,0,false,0,([]:List UInt8),([]:List aa),([]:List aa),0,0,([]:List UInt8)))
  else
  bd (fH a.S view kQ value) λrA=>
  if !rA then
  some (.inl (a.S.F,a.S.T,a.Me,a.View,a.Has,a.At,a.Value,a.Proof,a.cF.L,0,0,([]:List UInt8),false))
  else
  some (.inr (0,0,0,0,false,0,([]:List UInt8),([]:List aa),([]:List aa),0,0,([]:List UInt8))):Option ((Int×Int×Int×Int×Bool×Int×(List UInt8)×(List aa)×(List aa)×Int×Int×(List UInt8)×Bool)⊕(Int×Int×Int×Int×Bool×Int×(List UInt8)×(List aa)×(List aa)×Int×Int×(List UInt8)))) λw2=>
 match w2 with
 | .inl p1=>some ((⟨(⟨p1.1,p1.2.1⟩:ae),p1.2.2.1,p1.2.2.2.1,p1.2.2.2.2.1,p1.2.2.2.2.2.1,p1.2.2.2.2.2.2.1,p1.2.2.2.2.2.2.2.1,(⟨p1.2.2.2.2.2.2.2.2.1⟩:aA)⟩:ah),(⟨p1.2.2.2.2.2.2.2.2.2.1,p1.2.2.2.2.2.2.2.2.2.2.1,p1.2.2.2.2.2.2.2.2.2.2.2.1⟩:aa),p1.2.2.2.2.2.2.2.2.2.2.2.2)
 | .inr p2=>some ((⟨a.S,a.Me,a.View,true,view,value,a.Proof,a.cF⟩:ah),(⟨a.Me,view,value⟩:aa),true)
def nj (x:Int):Option Bool:=some (!decide (x=x))
def ku (x:Int)(y:Int):Option Int:=bd (nj x) λrA=>
 bd (nj y) λbt=>
 if rA then
 if bt then
 some 0
 else
 some (-1)
 else
 if bt then
 some 1
 else
 if x<y then
 some (-1)
 else
 if y<x then
 some 1
 else
 some 0
def kL (x:aa)(qj:Int):Option Int:=bd (ku x.By qj) λrA=>some rA
def ia (x:List aa)(target:Int)(cmp:aa->Int->Option Int)(st:Int×Int):Option ((Int×Int)⊕Int):=if st.1<st.2 then
 if (0:Int)<=1 then
 ix x (cM .i64 (IT (cM .u64 (cM .i64 (st.1+st.2))) (2^min (sh 1) (AI .u64)))) λy=>
 bd (cmp y target) λrA=>
 bd (if rA<0 then
  some (cM .i64 ((cM .i64 (IT (cM .u64 (cM .i64 (st.1+st.2))) (2^min (sh 1) (AI .u64))))+1),st.2)
  else
  some (st.1,cM .i64 (IT (cM .u64 (cM .i64 (st.1+st.2))) (2^min (sh 1) (AI .u64)))):Option (Int×Int)) λw1=>
 some (.inl (w1.1,w1.2))
 else none
 else
 some (.inr st.1)
def ct (x:List aa)(target:Int)(cmp:aa->Int->Option Int):Option (Int×Bool):=bd (Loop (ia x target cmp) (0,(x.length:Int))) λw=>
 bd (if w<(x.length:Int) then
  ix x w λy1=>
  bd (cmp y1 target) λbt=>
  some (w,decide (bt=0))
  else
  some (w,false):Option (Int×Bool)) λw2=>
 some (w2.1,w2.2)
def iS (t:aA)(a:aa):Option (aA×Bool):=bd (kq a) λrA=>
 if !rA then
 some (t,false)
 else
 bd (ct t.L a.By kL) λbt=>
 bd (if bt.2 then
  ix t.L bt.1 λy=>
  some (decide (a.View<=y.View))
  else
  some false:Option Bool) λw=>
 if w then
 some (t,false)
 else
 bd (qD 32 t.L) λca=>
 bd (if bt.2 then
  ix ca bt.1 λy1=>
  some (ca.set (sh bt.1) a)
  else
  bd (Bg 32 ca bt.1 ([a]:List aa)) λcG=>
  some cG:Option (List aa)) λw1=>
 some ((⟨w1⟩:aA),true)
def s5 (a:aA)(st:(List MV)×Int):Option (((List MV)×Int)⊕(List MV)):=if st.2<(a.L.length:Int) then
 ix a.L st.2 λy=>
 if (0:Int)<=(cy st.1 ([.i .i64 y.View,.s y.Value]:List MV):Int)/\sh (cy st.1 ([.i .i64 y.View,.s y.Value]:List MV):Int)<(nE st.1 ([.i .i64 y.View,.s y.Value]:List MV) (.i .i64 0)).length then
 some (.inl (tJ (nE st.1 ([.i .i64 y.View,.s y.Value]:List MV) (.i .i64 0)) (sh (cy st.1 ([.i .i64 y.View,.s y.Value]:List MV):Int)) (.i .i64 (cM .i64 ((nN st.1 ([.i .i64 y.View,.s y.Value]:List MV))+1))),cM .i64 (st.2+1)))
 else none
 else
 some (.inr st.1)
def pC (a:aA)(a1:Int)(w:(List MV))(dk:Int×(List UInt8)×Bool×Int):Option ((Int×(List UInt8)×Bool×Int)⊕(Int×(List UInt8)×Bool)):=if dk.2.2.2<(a.L.length:Int) then
 ix a.L dk.2.2.2 λy1=>
 bd (if (1:Int)<=a1 then
  if a1<=(nN w ([.i .i64 y1.View,.s y1.Value]:List MV)) then
  some (decide (dk.1<y1.View))
  else
  some false
  else
  some false:Option Bool) λw2=>
 bd (if w2 then
  some (y1.View,y1.Value,true)
  else
  some (dk.1,dk.2.1,dk.2.2.1):Option (Int×(List UInt8)×Bool)) λw3=>
 some (.inl (w3.1,w3.2.1,w3.2.2,cM .i64 (dk.2.2.2+1)))
 else
 some (.inr (dk.1,dk.2.1,dk.2.2.1))
def kR (a:aA)(a1:Int):Option (Int×(List UInt8)×Bool):=bd (Loop (s5 a) (([]:List MV),0)) λw=>
 bd (Loop (pC a a1 w) ((-1),([]:List UInt8),false,0)) λw1=>
 if !w1.2.2 then
 some (0,([]:List UInt8),false)
 else
 some (w1.1,w1.2.1,true)
def uh (sA:ae)(t:aA):Option ((List aa)×Bool):=bd (mz sA) λrA=>
 bd (kR t rA) λbt=>
 if !bt.2.2 then
 some (([]:List aa),false)
 else
 bd (nd t bt.1 bt.2.1) λca=>
 bd (mz sA) λcG=>
 if (0:Int)<=0/\(0:Int)<=cG/\cG<=(ca.length:Int) then
 some (AT (sh 0) (BY (sh cG) ca),true)
 else none
def lv (a:ah)(a1:aa):Option (ah×(List aa)×Bool):=bd (bd (pq a.S) λrA=>
  if rA<=a1.By then
  some true
  else
  some (!decide (a1.View=a.View)):Option Bool) λw=>
 if w then
 some (a,([]:List aa),false)
 else
 bd (iS a.cF a1) λbt=>
 bd (uh a.S bt.1) λca=>
 bd (nS a.Proof) λcG=>
 bd (bd (kq a1) λiw=>
  if !iw then
  some true
  else
  if !ca.2 then
  some true
  else
  some (decide (a.View<=cG.1)):Option Bool) λw1=>
 if w1 then
 some ((⟨a.S,a.Me,a.View,a.Has,a.At,a.Value,a.Proof,bt.1⟩:ah),([]:List aa),false)
 else
 some ((⟨a.S,a.Me,a.View,a.Has,a.At,a.Value,ca.1,bt.1⟩:ah),ca.1,true)
def wQ (sA:ae):Option Int:=bd (kJ sA (4613937818241073152,4607182418800017408)) λrA=>some rA
def jf (lA:aq)(t:aq)(a:aa)(cg:Int):Option ((Bool×(List UInt8))×aq):=bd (if lA.bQ then
  some true
  else
  if a.By<0 then
  some true
  else
  bd (pq lA.S) λrA=>
  if rA<=a.By then
  some true
  else
  bd (kq a) λbt=>
  some (!bt):Option Bool) λw=>
 if w then
 some ((false,([]:List UInt8)),t)
 else
 bd (iS t.aY a) λca=>
 bd (kR ca.1 cg) λcG=>
 some ((cG.2.2,cG.2.1),(⟨t.S,ca.1,t.bn,t.Told,t.bQ,t.Value⟩:aq))
def jg (lA:aq)(t:aq)(a:aa)(cg:Int):Option ((Bool×(List UInt8))×aq):=bd (if lA.bQ then
  some true
  else
  if a.By<0 then
  some true
  else
  bd (pq lA.S) λrA=>
  if rA<=a.By then
  some true
  else
  bd (kq a) λbt=>
  some (!bt):Option Bool) λw=>
 if w then
 some ((false,([]:List UInt8)),t)
 else
 bd (iS t.bn a) λca=>
 bd (kR ca.1 cg) λcG=>
 some ((cG.2.2,cG.2.1),(⟨t.S,t.aY,ca.1,t.Told,t.bQ,t.Value⟩:aq))
def jh (lA:aq)(t:aq)(a:aa)(cg:Int):Option ((Bool×(List UInt8))×aq):=bd (if lA.bQ then
  some true
  else
  if a.By<0 then
  some true
  else
  bd (pq lA.S) λrA=>
  if rA<=a.By then
  some true
  else
  bd (kq a) λbt=>
  some (!bt):Option Bool) λw=>
 if w then
 some ((false,([]:List UInt8)),t)
 else
 bd (iS t.Told a) λca=>
 bd (kR ca.1 cg) λcG=>
 some ((cG.2.2,cG.2.1),(⟨t.S,t.aY,t.bn,ca.1,t.bQ,t.Value⟩:aq))
def iT (lA:aq)(a:aa):Option aq:=bd (wQ lA.S) λrA=>
 bd (jf lA lA a rA) λbt=>
 bd (if bt.1.1 then
  some (bt.2.S.F,bt.2.S.T,bt.2.aY.L,bt.2.bn.L,bt.2.Told.L,true,bt.1.2)
  else
  some (bt.2.S.F,bt.2.S.T,bt.2.aY.L,bt.2.bn.L,bt.2.Told.L,bt.2.bQ,bt.2.Value):Option (Int×Int×(List aa)×(List aa)×(List aa)×Bool×(List UInt8))) λw=>
 some (⟨(⟨w.1,w.2.1⟩:ae),(⟨w.2.2.1⟩:aA),(⟨w.2.2.2.1⟩:aA),(⟨w.2.2.2.2.1⟩:aA),w.2.2.2.2.2.1,w.2.2.2.2.2.2⟩:aq)
def jH (lA:aq)(qj:Int)(p:List aa):Option aq:=bd (kK lA.S p) λrA=>
 if !rA then
 some lA
 else
 bd (nS p) λbt=>
 bd (mz lA.S) λca=>
 bd (jg lA lA (⟨qj,bt.1,bt.2.1⟩:aa) ca) λcG=>
 bd (if cG.1.1 then
  some (cG.2.S.F,cG.2.S.T,cG.2.aY.L,cG.2.bn.L,cG.2.Told.L,true,cG.1.2)
  else
  some (cG.2.S.F,cG.2.S.T,cG.2.aY.L,cG.2.bn.L,cG.2.Told.L,cG.2.bQ,cG.2.Value):Option (Int×Int×(List aa)×(List aa)×(List aa)×Bool×(List UInt8))) λw=>
 some (⟨(⟨w.1,w.2.1⟩:ae),(⟨w.2.2.1⟩:aA),(⟨w.2.2.2.1⟩:aA),(⟨w.2.2.2.2.1⟩:aA),w.2.2.2.2.2.1,w.2.2.2.2.2.2⟩:aq)
def fP (x:ab)(qj:Int):Option Int:=bd (ku x.By qj) λrA=>some rA
def ic (x:List ab)(target:Int)(cmp:ab->Int->Option Int)(st:Int×Int):Option ((Int×Int)⊕Int):=if st.1<st.2 then
 if (0:Int)<=1 then
 ix x (cM .i64 (IT (cM .u64 (cM .i64 (st.1+st.2))) (2^min (sh 1) (AI .u64)))) λy=>
 bd (cmp y target) λrA=>
 bd (if rA<0 then
  some (cM .i64 ((cM .i64 (IT (cM .u64 (cM .i64 (st.1+st.2))) (2^min (sh 1) (AI .u64))))+1),st.2)
  else
  some (st.1,cM .i64 (IT (cM .u64 (cM .i64 (st.1+st.2))) (2^min (sh 1) (AI .u64)))):Option (Int×Int)) λw1=>
 some (.inl (w1.1,w1.2))
 else none
 else
 some (.inr st.1)
def cu (x:List ab)(target:Int)(cmp:ab->Int->Option Int):Option (Int×Bool):=bd (Loop (ic x target cmp) (0,(x.length:Int))) λw=>
 bd (if w<(x.length:Int) then
  ix x w λy1=>
  bd (cmp y1 target) λbt=>
  some (w,decide (bt=0))
  else
  some (w,false):Option (Int×Bool)) λw2=>
 some (w2.1,w2.2)
def nU (n:ar)(sA:ae)(i:Int)(rA:ab):Option (Unit×ar):=bd (cu n.eH rA.By fP) λbt=>
 bd (if !bt.2 then
  if n.A.View=rA.je then
  bd (eC sA rA.je) λca=>
  if ca=i then
  bd (jZ sA rA) λcG=>
  some cG
  else
  some false
  else
  some false
  else
  some false:Option Bool) λw=>
 bd (if w then
  bd (qD 72 n.eH) λiw=>
  bd (Bg 72 iw bt.1 ([rA]:List ab)) λlW=>
  some (n.A.S.F,n.A.S.T,n.A.Me,n.A.View,n.A.Has,n.A.At,n.A.Value,n.A.Proof,n.A.cF.L,n.L.S.F,n.L.S.T,n.L.aY.L,n.L.bn.L,n.L.Told.L,n.L.bQ,n.L.Value,lW,n.ir)
  else
  some (n.A.S.F,n.A.S.T,n.A.Me,n.A.View,n.A.Has,n.A.At,n.A.Value,n.A.Proof,n.A.cF.L,n.L.S.F,n.L.S.T,n.L.aY.L,n.L.bn.L,n.L.Told.L,n.L.bQ,n.L.Value,n.eH,n.ir):Option (Int×Int×Int×Int×Bool×Int×(List UInt8)×(List aa)×(List aa)×Int×Int×(List aa)×(List aa)×(List aa)×Bool×(List UInt8)×(List ab)×Int)) λw1=>
 some ((),(⟨(⟨(⟨w1.1,w1.2.1⟩:ae),w1.2.2.1,w1.2.2.2.1,w1.2.2.2.2.1,w1.2.2.2.2.2.1,w1.2.2.2.2.2.2.1,w1.2.2.2.2.2.2.2.1,(⟨w1.2.2.2.2.2.2.2.2.1⟩:aA)⟩:ah),(⟨(⟨w1.2.2.2.2.2.2.2.2.2.1,w1.2.2.2.2.2.2.2.2.2.2.1⟩:ae),(⟨w1.2.2.2.2.2.2.2.2.2.2.2.1⟩:aA),(⟨w1.2.2.2.2.2.2.2.2.2.2.2.2.1⟩:aA),(⟨w1.2.2.2.2.2.2.2.2.2.2.2.2.2.1⟩:aA),w1.2.2.2.2.2.2.2.2.2.2.2.2.2.2.1,w1.2.2.2.2.2.2.2.2.2.2.2.2.2.2.2.1⟩:aq),w1.2.2.2.2.2.2.2.2.2.2.2.2.2.2.2.2.1,w1.2.2.2.2.2.2.2.2.2.2.2.2.2.2.2.2.2⟩:ar))
def wR (sA:ae):Option Int:=bd (kJ sA (4607182418800017408,0)) λrA=>some rA
def pD (lA:aq)(qj:Int)(value:List UInt8):Option aq:=bd (wR lA.S) λrA=>
 bd (jh lA lA (⟨qj,0,value⟩:aa) rA) λbt=>
 bd (if bt.1.1 then
  some (bt.2.S.F,bt.2.S.T,bt.2.aY.L,bt.2.bn.L,bt.2.Told.L,true,bt.1.2)
  else
  some (bt.2.S.F,bt.2.S.T,bt.2.aY.L,bt.2.bn.L,bt.2.Told.L,bt.2.bQ,bt.2.Value):Option (Int×Int×(List aa)×(List aa)×(List aa)×Bool×(List UInt8))) λw=>
 some (⟨(⟨w.1,w.2.1⟩:ae),(⟨w.2.2.1⟩:aA),(⟨w.2.2.2.1⟩:aA),(⟨w.2.2.2.2.1⟩:aA),w.2.2.2.2.2.1,w.2.2.2.2.2.2⟩:aq)
def ch (a:ae)(a1:Int)(a2:ar)(a3:al):Option (ar×(List al)):=bd (if a3.Kind=1 then
  bd (eC a a3.View) λrA=>
  if !decide (a3.eE=rA) then
  some (.inl (a2.A.S.F,a2.A.S.T,a2.A.Me,a2.A.View,a2.A.Has,a2.A.At,a2.A.Value,a2.A.Proof,a2.A.cF.L,a2.L.S.F,a2.L.S.T,a2.L.aY.L,a2.L.bn.L,a2.L.Told.L,a2.L.bQ,a2.L.Value,a2.eH,a2.ir,([]:List al)))
  else
  bd (fc a2.A a3.View a3.Value a3.fN) λbt=>
  bd (if bt.2.2 then
   if ([(⟨2,0,0,([]:List UInt8),([]:List ab),bt.2.1,([]:List aa),(⟨0,0,false,0,([]:List UInt8),([]:List aa)⟩:ab)⟩:al)]:List al).length *192<=2^46 then
   some ([(⟨2,0,0,([]:List UInt8),([]:List ab),bt.2.1,([]:List aa),(⟨0,0,false,0,([]:List UInt8),([]:List aa)⟩:ab)⟩:al)]:List al)
   else none
   else
   some ([]:List al):Option (List al)) λw1=>
  some (.inr (bt.1.S.F,bt.1.S.T,bt.1.Me,bt.1.View,bt.1.Has,bt.1.At,bt.1.Value,bt.1.Proof,bt.1.cF.L,a2.L.S.F,a2.L.S.T,a2.L.aY.L,a2.L.bn.L,a2.L.Told.L,a2.L.bQ,a2.L.Value,a2.eH,a2.ir,w1))
  else
  bd (if a3.Kind=2 then
   bd (lv a2.A a3.dv) λca=>
   bd (if ca.2.2 then
    if ([(⟨3,a1,0,([]:List UInt8),([]:List ab),(⟨0,0,([]:List UInt8)⟩:aa),ca.2.1,(⟨0,0,false,0,([]:List UInt8),([]:List aa)⟩:ab)⟩:al)]:List al).length *192<=2^46 then
    some ([(⟨3,a1,0,([]:List UInt8),([]:List ab),(⟨0,0,([]:List UInt8)⟩:aa),ca.2.1,(⟨0,0,false,0,([]:List UInt8),([]:List aa)⟩:ab)⟩:al)]:List al)
    else none
    else
    some ([]:List al):Option (List al)) λw3=>
   bd (iT a2.L a3.dv) λcG=>
   some (ca.1.S.F,ca.1.S.T,ca.1.Me,ca.1.View,ca.1.Has,ca.1.At,ca.1.Value,ca.1.Proof,ca.1.cF.L,cG.S.F,cG.S.T,cG.aY.L,cG.bn.L,cG.Told.L,cG.bQ,cG.Value,a2.eH,a2.ir,w3)
   else
   bd (if a3.Kind=3 then
    bd (jH a2.L a3.eE a3.Proof) λiw=>
    some (a2.A.S.F,a2.A.S.T,a2.A.Me,a2.A.View,a2.A.Has,a2.A.At,a2.A.Value,a2.A.Proof,a2.A.cF.L,iw.S.F,iw.S.T,iw.aY.L,iw.bn.L,iw.Told.L,iw.bQ,iw.Value,a2.eH,a2.ir)
    else
    bd (if a3.Kind=4 then
     bd (nU a2 a a1 a3.R) λlW=>
     some (lW.2.A.S.F,lW.2.A.S.T,lW.2.A.Me,lW.2.A.View,lW.2.A.Has,lW.2.A.At,lW.2.A.Value,lW.2.A.Proof,lW.2.A.cF.L,lW.2.L.S.F,lW.2.L.S.T,lW.2.L.aY.L,lW.2.L.bn.L,lW.2.L.Told.L,lW.2.L.bQ,lW.2.L.Value,lW.2.eH,lW.2.ir)
     else
     bd (if a3.Kind=5 then
      bd (pD a2.L a3.eE a3.Value) λsj=>
      some (a2.A.S.F,a2.A.S.T,a2.A.Me,a2.A.View,a2.A.Has,a2.A.At,a2.A.Value,a2.A.Proof,a2.A.cF.L,sj.S.F,sj.S.T,sj.aY.L,sj.bn.L,sj.Told.L,sj.bQ,sj.Value,a2.eH,a2.ir)
      else
      some (a2.A.S.F,a2.A.S.T,a2.A.Me,a2.A.View,a2.A.Has,a2.A.At,a2.A.Value,a2.A.Proof,a2.A.cF.L,a2.L.S.F,a2.L.S.T,a2.L.aY.L,a2.L.bn.L,a2.L.Told.L,a2.L.bQ,a2.L.Value,a2.eH,a2.ir):Option (Int×Int×Int×Int×Bool×Int×(List UInt8)×(List aa)×(List aa)×Int×Int×(List aa)×(List aa)×(List aa)×Bool×(List UInt8)×(List ab)×Int)) λw6=>
     some w6:Option (Int×Int×Int×Int×Bool×Int×(List UInt8)×(List aa)×(List aa)×Int×Int×(List aa)×(List aa)×(List aa)×Bool×(List UInt8)×(List ab)×Int)) λw5=>
    some w5:Option (Int×Int×Int×Int×Bool×Int×(List UInt8)×(List aa)×(List aa)×Int×Int×(List aa)×(List aa)×(List aa)×Bool×(List UInt8)×(List ab)×Int)) λw4=>
   some (w4.1,w4.2.1,w4.2.2.1,w4.2.2.2.1,w4.2.2.2.2.1,w4.2.2.2.2.2.1,w4.2.2.2.2.2.2.1,w4.2.2.2.2.2.2.2.1,w4.2.2.2.2.2.2.2.2.1,w4.2.2.2.2.2.2.2.2.2.1,w4.2.2.2.2.2.2.2.2.2.2.1,w4.2.2.2.2.2.2.2.2.2.2.2.1,w4.2.2.2.2.2.2.2.2.2.2.2.2.1,w4.2.2.2.2.2.2.2.2.2.2.2.2.2.1,w4.2.2.2.2.2.2.2.2.2.2.2.2.2.2.1,w4.2.2.2.2.2.2.2.2.2.2.2.2.2.2.2.1,w4.2.2.2.2.2.2.2.2.2.2.2.2.2.2.2.2.1,w4.2.2.2.2.2.2.2.2.2.2.2.2.2.2.2.2.2,([]:List al)):Option (Int×Int×Int×Int×Bool×Int×(List UInt8)×(List aa)×(List aa)×Int×Int×(List aa)×(List aa)×(List aa)×Bool×(List UInt8)×(List ab)×Int×(List al))) λw2=>
  some (.inr w2):Option ((Int×Int×Int×Int×Bool×Int×(List UInt8)×(List aa)×(List aa)×Int×Int×(List aa)×(List aa)×(List aa)×Bool×(List UInt8)×(List ab)×Int×(List al))⊕(Int×Int×Int×Int×Bool×Int×(List UInt8)×(List aa)×(List aa)×Int×Int×(List aa)×(List aa)×(List aa)×Bool×(List UInt8)×(List ab)×Int×(List al)))) λw=>
 match w with
 | .inl p7=>
  bd (if p7.2.2.2.2.2.2.2.2.2.2.2.2.2.2.1 then
   some (!a2.L.bQ)
   else
   some false:Option Bool) λw7=>
  bd (if w7 then
   if (p7.2.2.2.2.2.2.2.2.2.2.2.2.2.2.2.2.2.2.length+([(⟨5,a1,0,p7.2.2.2.2.2.2.2.2.2.2.2.2.2.2.2.1,([]:List ab),(⟨0,0,([]:List UInt8)⟩:aa),([]:List aa),(⟨0,0,false,0,([]:List UInt8),([]:List aa)⟩:ab)⟩:al)]:List al).length) *192<=2^46 then
   some (p7.2.2.2.2.2.2.2.2.2.2.2.2.2.2.2.2.2.2++([(⟨5,a1,0,p7.2.2.2.2.2.2.2.2.2.2.2.2.2.2.2.1,([]:List ab),(⟨0,0,([]:List UInt8)⟩:aa),([]:List aa),(⟨0,0,false,0,([]:List UInt8),([]:List aa)⟩:ab)⟩:al)]:List al))
   else none
   else
   some p7.2.2.2.2.2.2.2.2.2.2.2.2.2.2.2.2.2.2:Option (List al)) λw8=>
  some ((⟨(⟨(⟨p7.1,p7.2.1⟩:ae),p7.2.2.1,p7.2.2.2.1,p7.2.2.2.2.1,p7.2.2.2.2.2.1,p7.2.2.2.2.2.2.1,p7.2.2.2.2.2.2.2.1,(⟨p7.2.2.2.2.2.2.2.2.1⟩:aA)⟩:ah),(⟨(⟨p7.2.2.2.2.2.2.2.2.2.1,p7.2.2.2.2.2.2.2.2.2.2.1⟩:ae),(⟨p7.2.2.2.2.2.2.2.2.2.2.2.1⟩:aA),(⟨p7.2.2.2.2.2.2.2.2.2.2.2.2.1⟩:aA),(⟨p7.2.2.2.2.2.2.2.2.2.2.2.2.2.1⟩:aA),p7.2.2.2.2.2.2.2.2.2.2.2.2.2.2.1,p7.2.2.2.2.2.2.2.2.2.2.2.2.2.2.2.1⟩:aq),p7.2.2.2.2.2.2.2.2.2.2.2.2.2.2.2.2.1,p7.2.2.2.2.2.2.2.2.2.2.2.2.2.2.2.2.2.1⟩:ar),w8)
 | .inr p8=>
  bd (if p8.2.2.2.2.2.2.2.2.2.2.2.2.2.2.1 then
   some (!a2.L.bQ)
   else
   some false:Option Bool) λw9=>
  bd (if w9 then
   if (p8.2.2.2.2.2.2.2.2.2.2.2.2.2.2.2.2.2.2.length+([(⟨5,a1,0,p8.2.2.2.2.2.2.2.2.2.2.2.2.2.2.2.1,([]:List ab),(⟨0,0,([]:List UInt8)⟩:aa),([]:List aa),(⟨0,0,false,0,([]:List UInt8),([]:List aa)⟩:ab)⟩:al)]:List al).length) *192<=2^46 then
   some (p8.2.2.2.2.2.2.2.2.2.2.2.2.2.2.2.2.2.2++([(⟨5,a1,0,p8.2.2.2.2.2.2.2.2.2.2.2.2.2.2.2.1,([]:List ab),(⟨0,0,([]:List UInt8)⟩:aa),([]:List aa),(⟨0,0,false,0,([]:List UInt8),([]:List aa)⟩:ab)⟩:al)]:List al))
   else none
   else
   some p8.2.2.2.2.2.2.2.2.2.2.2.2.2.2.2.2.2.2:Option (List al)) λw10=>
  some ((⟨(⟨(⟨p8.1,p8.2.1⟩:ae),p8.2.2.1,p8.2.2.2.1,p8.2.2.2.2.1,p8.2.2.2.2.2.1,p8.2.2.2.2.2.2.1,p8.2.2.2.2.2.2.2.1,(⟨p8.2.2.2.2.2.2.2.2.1⟩:aA)⟩:ah),(⟨(⟨p8.2.2.2.2.2.2.2.2.2.1,p8.2.2.2.2.2.2.2.2.2.2.1⟩:ae),(⟨p8.2.2.2.2.2.2.2.2.2.2.2.1⟩:aA),(⟨p8.2.2.2.2.2.2.2.2.2.2.2.2.1⟩:aA),(⟨p8.2.2.2.2.2.2.2.2.2.2.2.2.2.1⟩:aA),p8.2.2.2.2.2.2.2.2.2.2.2.2.2.2.1,p8.2.2.2.2.2.2.2.2.2.2.2.2.2.2.2.1⟩:aq),p8.2.2.2.2.2.2.2.2.2.2.2.2.2.2.2.2.1,p8.2.2.2.2.2.2.2.2.2.2.2.2.2.2.2.2.2.1⟩:ar),w10)
def v8 (a:ah):Option ab:=some (⟨a.Me,a.View,a.Has,a.At,a.Value,a.Proof⟩:ab)
def mE (a:ah)(view:Int):Option (ah×ab×Bool):=bd (if view<=a.View then
  some true
  else
  some (decide ((100000:Int)<view)):Option Bool) λw=>
 if w then
 some (a,(⟨0,0,false,0,([]:List UInt8),([]:List aa)⟩:ab),false)
 else
 bd (v8 (⟨a.S,a.Me,view,a.Has,a.At,a.Value,a.Proof,(⟨([]:List aa)⟩:aA)⟩:ah)) λrA=>
 some ((⟨a.S,a.Me,view,a.Has,a.At,a.Value,a.Proof,(⟨([]:List aa)⟩:aA)⟩:ah),rA,true)
def oS (x_:ae)(x_1:Int)(n:ar)(view:Int):Option (ar×(List al)):=bd (mE n.A view) λrA=>
 if !rA.2.2 then
 some (n,([]:List al))
 else
 some ((⟨rA.1,n.L,([]:List ab),n.ir⟩:ar),([(⟨4,0,0,([]:List UInt8),([]:List ab),(⟨0,0,([]:List UInt8)⟩:aa),([]:List aa),rA.2.1⟩:al)]:List al))
def eB (a:ae)(a1:Int)(a2:ar)(a3:List UInt8):Option (ar×(List al)):=bd (tw a) λrA=>
 bd (bd (eC a a2.A.View) λbt=>
  if !decide (bt=a1) then
  some true
  else
  some (decide (a2.A.View<=a2.ir)):Option Bool) λw=>
 if w then
 some (a2,([]:List al))
 else
 bd (if (0:Int)<a2.A.View then
  some (decide ((a2.eH.length:Int)<rA))
  else
  some false:Option Bool) λw1=>
 if w1 then
 some (a2,([]:List al))
 else
 bd (if (0:Int)<a2.A.View then
  if (0:Int)<=0/\(0:Int)<=rA/\rA<=(a2.eH.length:Int) then
  bd (qD 72 (AT (sh 0) (BY (sh rA) a2.eH))) λca=>
  bd (ni a ca) λcG=>
  bd (if cG.2 then
   some (1,a1,a2.A.View,cG.1,ca,0,0,([]:List UInt8),([]:List aa),0,0,false,0,([]:List UInt8),([]:List aa))
   else
   some (1,a1,a2.A.View,a3,ca,0,0,([]:List UInt8),([]:List aa),0,0,false,0,([]:List UInt8),([]:List aa)):Option (Int×Int×Int×(List UInt8)×(List ab)×Int×Int×(List UInt8)×(List aa)×Int×Int×Bool×Int×(List UInt8)×(List aa))) λw3=>
  some w3
  else none
  else
  some (1,a1,a2.A.View,a3,([]:List ab),0,0,([]:List UInt8),([]:List aa),0,0,false,0,([]:List UInt8),([]:List aa)):Option (Int×Int×Int×(List UInt8)×(List ab)×Int×Int×(List UInt8)×(List aa)×Int×Int×Bool×Int×(List UInt8)×(List aa))) λw2=>
 some ((⟨a2.A,a2.L,a2.eH,w2.2.2.1⟩:ar),([(⟨w2.1,w2.2.1,w2.2.2.1,w2.2.2.2.1,w2.2.2.2.2.1,(⟨w2.2.2.2.2.2.1,w2.2.2.2.2.2.2.1,w2.2.2.2.2.2.2.2.1⟩:aa),w2.2.2.2.2.2.2.2.2.1,(⟨w2.2.2.2.2.2.2.2.2.2.1,w2.2.2.2.2.2.2.2.2.2.2.1,w2.2.2.2.2.2.2.2.2.2.2.2.1,w2.2.2.2.2.2.2.2.2.2.2.2.2.1,w2.2.2.2.2.2.2.2.2.2.2.2.2.2.1,w2.2.2.2.2.2.2.2.2.2.2.2.2.2.2⟩:ab)⟩:al)]:List al))
def fI (c:aj)(i:Int):Option ((List UInt8)×Bool):=bd (bd (dx c i false) λrA=>
  if !rA then
  some true
  else
  ix c.N i λy=>
  some (!y.L.bQ):Option Bool) λw=>
 if w then
 some (([]:List UInt8),false)
 else
 ix c.N i λy1=>
 some (y1.L.Value,true)
def E7 (sA:eK):Option Bool:=bd (if (1:Int)<=sA.F then
  if sA.F<=5 then
  if (0:Int)<=sA.T then
  some (decide (sA.T<=sA.F))
  else
  some false
  else
  some false
  else
  some false:Option Bool) λw=>
 some w
def I7 (sA:eK):Option Int:=some (cM .i64 ((cM .i64 ((cM .i64 (3 *sA.F))+(cM .i64 (2 *sA.T))))+1))
def I8 (sA:eK)(view:Int):Option Int:=bd (I7 sA) λrA=>
 if !decide (rA=0) then
 some (Int.tmod (imax view 0) rA)
 else none
def aay (p:List aa):Option (Int×(List UInt8)×Bool):=if (p.length:Int)=0 then
 some ((-1),([]:List UInt8),false)
 else
 ix p 0 λy=>
 ix p 0 λy1=>
 some (y.View,y1.Value,true)
def WN (sA:eK):Option Int:=some (cM .i64 ((cM .i64 (sA.F+sA.T))+1))
def Qz (a1:List ab)(st:Int×(List UInt8)×Int):Option ((Int×(List UInt8)×Int)⊕(Int×(List UInt8))):=if st.2.2<(a1.length:Int) then
 ix a1 st.2.2 λy=>
 bd (aay y.Proof) λrA=>
 bd (if rA.2.2 then
  some (decide (st.1<rA.1))
  else
  some false:Option Bool) λw1=>
 bd (if w1 then
  some (rA.1,rA.2.1)
  else
  some (st.1,st.2.1):Option (Int×(List UInt8))) λw2=>
 some (.inl (w2.1,w2.2,cM .i64 (st.2.2+1)))
 else
 some (.inr (st.1,st.2.1))
def QA (a1:List ab)(w:Int×(List UInt8))(dk:Int)(dM:Int×Int):Option ((Int×Int)⊕Int):=if dM.2<(a1.length:Int) then
 bd (ix a1 dM.2 λy1=>
  if y1.Has then
  ix a1 dM.2 λy2=>
  if w.1<y2.View then
  ix a1 dk λy3=>
  if y3.Has then
  ix a1 dk λy4=>
  if w.1<y4.View then
  ix a1 dM.2 λy5=>
  ix a1 dk λy6=>
  some (decide (y5.Value=y6.Value))
  else
  some false
  else
  some false
  else
  some false
  else
  some false:Option Bool) λw5=>
 bd (if w5 then
  some (cM .i64 (dM.1+1))
  else
  some dM.1:Option Int) λw6=>
 some (.inl (w6,cM .i64 (dM.2+1)))
 else
 some (.inr dM.1)
def QB (a:eK)(a1:List ab)(w:Int×(List UInt8))(dk:Int):Option (Int⊕(Unit⊕((List UInt8)×Bool))):=if dk<(a1.length:Int) then
 bd (Loop (QA a1 w dk) (0,0)) λw4=>
 bd (WN a) λbt=>
 if bt<=w4 then
 ix a1 dk λy7=>
 some (.inr (.inr (y7.Value,true)))
 else
 some (.inl (cM .i64 (dk+1)))
 else
 some (.inr (.inl ()))
def WO (a:eK)(a1:List ab):Option ((List UInt8)×Bool):=bd (Loop (Qz a1) ((-1),([]:List UInt8),0)) λw=>
 bd (Loop (QB a a1 w) 0) λw3=>
 match w3 with
 | .inl p5=>some (w.2,decide ((0:Int)<=w.1))
 | .inr p6=>some (p6.1,p6.2)
def aaz (sA:eK):Option Int:=some (cM .i64 ((cM .i64 ((cM .i64 (2 *sA.F))+(cM .i64 (2 *sA.T))))+1))
def Hp (a:aa):Option Bool:=bd (if (0:Int)<=a.By then
  if (0:Int)<=a.View then
  if a.View<=100000 then
  some (decide ((a.Value.length:Int)<=6000))
  else
  some false
  else
  some false
  else
  some false:Option Bool) λw=>
 some w
def E8 (sA:eK):Option Int:=some (cM .i64 ((cM .i64 ((cM .i64 (2 *sA.F))+sA.T))+1))
def QC (a:eK)(a1:List aa)(st:Int):Option (Int⊕(Unit⊕Bool)):=if st<(a1.length:Int) then
 ix a1 st λy=>
 bd (bd (Hp y) λca=>
  if !ca then
  some true
  else
  bd (I7 a) λcG=>
  if cG<=y.By then
  some true
  else
  ix a1 0 λy1=>
  if !decide (y.View=y1.View) then
  some true
  else
  ix a1 0 λy2=>
  if !decide (y.Value=y2.Value) then
  some true
  else
  if (0:Int)<st then
  ix a1 (cM .i64 (st-1)) λy3=>
  some (decide (y.By<=y3.By))
  else
  some false:Option Bool) λw2=>
 if w2 then
 some (.inr (.inr false))
 else
 some (.inl (cM .i64 (st+1)))
 else
 some (.inr (.inl ()))
def Mu (a:eK)(a1:List aa):Option Bool:=bd (bd (E7 a) λrA=>
  if !rA then
  some true
  else
  bd (E8 a) λbt=>
  some (!decide ((a1.length:Int)=bt)):Option Bool) λw=>
 if w then
 some false
 else
 bd (Loop (QC a a1) 0) λw1=>
 match w1 with
 | .inl p1=>some true
 | .inr p2=>some p2
def Vb (a:eK)(a1:ab):Option Bool:=bd (bd (E7 a) λrA=>
  if !rA then
  some true
  else
  if a1.By<0 then
  some true
  else
  bd (I7 a) λbt=>
  if bt<=a1.By then
  some true
  else
  if a1.je<1 then
  some true
  else
  some (decide ((100000:Int)<a1.je)):Option Bool) λw=>
 if w then
 some false
 else
 bd (if a1.Has then
  if a1.View<0 then
  some true
  else
  if a1.je<=a1.View then
  some true
  else
  if (6000:Int)<(a1.Value.length:Int) then
  some true
  else
  if !a1.Has then
  if !decide (a1.View=0) then
  some true
  else
  some (!decide (a1.Value=([]:List UInt8)))
  else
  some false
  else
  if !a1.Has then
  if !decide (a1.View=0) then
  some true
  else
  some (!decide (a1.Value=([]:List UInt8)))
  else
  some false:Option Bool) λw1=>
 if w1 then
 some false
 else
 bd (if (a1.Proof.length:Int)=0 then
  some true
  else
  bd (Mu a a1.Proof) λca=>
  if ca then
  ix a1.Proof 0 λy=>
  some (decide (y.View<a1.je))
  else
  some false:Option Bool) λw2=>
 some w2
def QD (sA:eK)(view:Int)(lA:List ab)(st:Int):Option (Int⊕(Unit⊕Bool)):=if st<(lA.length:Int) then
 bd (ix lA st λy=>
  bd (Vb sA y) λca=>
  if !ca then
  some true
  else
  ix lA st λy1=>
  if !decide (y1.je=view) then
  some true
  else
  if (0:Int)<st then
  ix lA (cM .i64 (st-1)) λy2=>
  ix lA st λy3=>
  some (decide (y3.By<=y2.By))
  else
  some false:Option Bool) λw2=>
 if w2 then
 some (.inr (.inr false))
 else
 some (.inl (cM .i64 (st+1)))
 else
 some (.inr (.inl ()))
def WQ (sA:eK)(view:Int)(lA:List ab):Option Bool:=bd (bd (E7 sA) λrA=>
  if !rA then
  some true
  else
  bd (aaz sA) λbt=>
  some (!decide ((lA.length:Int)=bt)):Option Bool) λw=>
 if w then
 some false
 else
 bd (Loop (QD sA view lA) 0) λw1=>
 match w1 with
 | .inl p1=>some true
 | .inr p2=>some p2
def Gd (sA:eK)(view:Int)(lA:List ab)(value:List UInt8):Option Bool:=bd (WQ sA view lA) λrA=>
 if !rA then
 some false
 else
 bd (WO sA lA) λbt=>
 bd (if !bt.2 then
  some true
  else
  some (decide (bt.1=value)):Option Bool) λw=>
 some w
def QE (a:iI)(view:Int)(value:List UInt8)(kQ:List ab):Option (iI×aa×Bool):=bd (if view=0 then
  some (decide ((kQ.length:Int)=0))
  else
  some false:Option Bool) λw=>
 bd (if !decide (view=a.View) then
  some true
  else
  if a.Has then
  if a.At=view then
  some true
  else
  if (6000:Int)<(value.length:Int) then
  some true
  else
  if !w then
  bd (Gd a.S view kQ value) λrA=>
  some (!rA)
  else
  some false
  else
  if (6000:Int)<(value.length:Int) then
  some true
  else
  if !w then
  bd (Gd a.S view kQ value) λbt=>
  some (!bt)
  else
  some false:Option Bool) λw1=>
 if w1 then
 some (a,(⟨0,0,([]:List UInt8)⟩:aa),false)
 else
 some ((⟨a.S,a.Me,a.View,true,view,value,a.Proof,a.cF⟩:iI),(⟨a.Me,view,value⟩:aa),true)
def WR (a:dN)(a1:aa)(st:(List aa)×(List aa)×Bool×Int):Option (((List aa)×(List aa)×Bool×Int)⊕(((List aa)×(List aa)×Bool)⊕((List aa)×Bool))):=if st.2.2.2<(a.L.length:Int) then
 ix a.L st.2.2.2 λy=>
 bd (if y.By=a1.By then
  some (decide (a1.View<=y.View))
  else
  some false:Option Bool) λw1=>
 if w1 then
 some (.inr (.inr (a.L,false)))
 else
 bd (if !st.2.2.1 then
  some (decide (a1.By<=y.By))
  else
  some false:Option Bool) λw2=>
 bd (if w2 then
  if (st.2.1.length+([a1]:List aa).length) *32<=2^46 then
  some (st.2.1++([a1]:List aa),true)
  else none
  else
  some (st.2.1,st.2.2.1):Option ((List aa)×Bool)) λw3=>
 bd (if !decide (y.By=a1.By) then
  if (w3.1.length+([y]:List aa).length) *32<=2^46 then
  some (w3.1++([y]:List aa))
  else none
  else
  some w3.1:Option (List aa)) λw4=>
 some (.inl (st.1,w4,w3.2,cM .i64 (st.2.2.2+1)))
 else
 some (.inr (.inl (st.1,st.2.1,st.2.2.1)))
def Hq (a:dN)(a1:aa):Option (dN×Bool):=bd (Hp a1) λrA=>
 if !rA then
 some (a,false)
 else
 bd (Loop (WR a a1) (([]:List aa),([]:List aa),false,0)) λw=>
 match w with
 | .inl p3=>
  bd (if !p3.2.2 then
   if (p3.2.1.length+([a1]:List aa).length) *32<=2^46 then
   some (p3.2.1++([a1]:List aa))
   else none
   else
   some p3.2.1:Option (List aa)) λw5=>
  some ((⟨w5⟩:dN),true)
 | .inr p4=>some ((⟨p4.1⟩:dN),p4.2)
def On (t:dN)(view:Int)(value:List UInt8)(st:(List aa)×Int):Option (((List aa)×Int)⊕(List aa)):=if st.2<(t.L.length:Int) then
 bd (ix t.L st.2 λy=>
  if y.View=view then
  ix t.L st.2 λy1=>
  some (decide (y1.Value=value))
  else
  some false:Option Bool) λw1=>
 bd (if w1 then
  ix t.L st.2 λy2=>
  if (st.1.length+([y2]:List aa).length) *32<=2^46 then
  some (st.1++([y2]:List aa))
  else none
  else
  some st.1:Option (List aa)) λw2=>
 some (.inl (w2,cM .i64 (st.2+1)))
 else
 some (.inr st.1)
def I9 (t:dN)(view:Int)(value:List UInt8):Option (List aa):=bd (Loop (On t view value) (([]:List aa),0)) λw=>some w
def WS (t:dN)(view:Int)(value:List UInt8):Option Int:=bd (I9 t view value) λrA=>some (rA.length:Int)
def Tq (t:dN)(cg:Int)(st:Int×Int):Option ((Int×Int)⊕Int):=bd (if st.2<(t.L.length:Int) then
  some (decide ((1:Int)<=cg))
  else
  some false:Option Bool) λw1=>
 if w1 then
 ix t.L st.2 λy=>
 bd (bd (WS t y.View y.Value) λrA=>
  if cg<=rA then
  if st.1<0 then
  some true
  else
  ix t.L st.1 λy1=>
  some (decide (y1.View<y.View))
  else
  some false:Option Bool) λw2=>
 bd (if w2 then
  some st.2
  else
  some st.1:Option Int) λw3=>
 some (.inl (w3,cM .i64 (st.2+1)))
 else
 some (.inr st.1)
def QF (t:dN)(cg:Int):Option (Int×(List UInt8)×Bool):=bd (Loop (Tq t cg) ((-1),0)) λw=>
 if w<0 then
 some (0,([]:List UInt8),false)
 else
 ix t.L w λy2=>
 ix t.L w λy3=>
 some (y2.View,y3.Value,true)
def aaA (sA:eK)(t:dN):Option ((List aa)×Bool):=bd (E8 sA) λrA=>
 bd (QF t rA) λbt=>
 if !bt.2.2 then
 some (([]:List aa),false)
 else
 bd (I9 t bt.1 bt.2.1) λca=>
 if (0:Int)<=0/\(0:Int)<=rA/\rA<=(ca.length:Int) then
 some (AT (sh 0) (BY (sh rA) ca),true)
 else none
def aaB (a:iI)(a1:aa):Option (iI×(List aa)×Bool):=bd (bd (Hp a1) λrA=>
  if !rA then
  some true
  else
  bd (I7 a.S) λbt=>
  if bt<=a1.By then
  some true
  else
  some (!decide (a1.View=a.View)):Option Bool) λw=>
 if w then
 some (a,([]:List aa),false)
 else
 bd (Hq a.cF a1) λca=>
 bd (aaA a.S ca.1) λcG=>
 bd (aay a.Proof) λiw=>
 bd (if !cG.2 then
  some true
  else
  ix cG.1 0 λy=>
  some (decide (y.View<=iw.1)):Option Bool) λw1=>
 if w1 then
 some ((⟨a.S,a.Me,a.View,a.Has,a.At,a.Value,a.Proof,ca.1⟩:iI),([]:List aa),false)
 else
 some ((⟨a.S,a.Me,a.View,a.Has,a.At,a.Value,cG.1,ca.1⟩:iI),cG.1,true)
def Ab (lA:ez)(t:dN)(cg:Int):Option ez:=bd (QF t cg) λrA=>
 bd (if rA.2.2 then
  some (lA.S.F,lA.S.T,lA.aY.L,lA.bn.L,lA.Told.L,true,rA.2.1)
  else
  some (lA.S.F,lA.S.T,lA.aY.L,lA.bn.L,lA.Told.L,lA.bQ,lA.Value):Option (Int×Int×(List aa)×(List aa)×(List aa)×Bool×(List UInt8))) λw=>
 some (⟨(⟨w.1,w.2.1⟩:eK),(⟨w.2.2.1⟩:dN),(⟨w.2.2.2.1⟩:dN),(⟨w.2.2.2.2.1⟩:dN),w.2.2.2.2.2.1,w.2.2.2.2.2.2⟩:ez)
def aaC (sA:eK):Option Int:=some (cM .i64 ((cM .i64 ((cM .i64 (3 *sA.F))+sA.T))+1))
def Oo (lA:ez)(a:aa):Option ez:=bd (if lA.bQ then
  some true
  else
  bd (I7 lA.S) λrA=>
  some (decide (rA<=a.By)):Option Bool) λw=>
 if w then
 some lA
 else
 bd (Hq lA.aY a) λbt=>
 bd (Hp a) λca=>
 if !ca then
 some (⟨lA.S,bt.1,lA.bn,lA.Told,lA.bQ,lA.Value⟩:ez)
 else
 bd (aaC lA.S) λcG=>
 bd (Ab (⟨lA.S,bt.1,lA.bn,lA.Told,lA.bQ,lA.Value⟩:ez) bt.1 cG) λiw=>
 some iw
def K4 (lA:ez)(qj:Int)(p:List aa):Option ez:=bd (if lA.bQ then
  some true
  else
  if qj<0 then
  some true
  else
  bd (I7 lA.S) λrA=>
  if rA<=qj then
  some true
  else
  bd (Mu lA.S p) λbt=>
  some (!bt):Option Bool) λw=>
 if w then
 some lA
 else
 ix p 0 λy=>
 ix p 0 λy1=>
 bd (Hq lA.bn (⟨qj,y.View,y1.Value⟩:aa)) λca=>
 bd (E8 lA.S) λcG=>
 bd (Ab (⟨lA.S,lA.aY,ca.1,lA.Told,lA.bQ,lA.Value⟩:ez) ca.1 cG) λiw=>
 some iw
def WT (a2:xX)(a3:ab)(st:(List ab)×Bool×Int):Option (((List ab)×Bool×Int)⊕(((List ab)×Bool)⊕(List ab))):=if st.2.2<(a2.eH.length:Int) then
 ix a2.eH st.2.2 λy=>
 if y.By=a3.By then
 some (.inr (.inr a2.eH))
 else
 bd (if !st.2.1 then
  ix a2.eH st.2.2 λy1=>
  some (decide (a3.By<y1.By))
  else
  some false:Option Bool) λw2=>
 bd (if w2 then
  if (st.1.length+([a3]:List ab).length) *72<=2^46 then
  some (st.1++([a3]:List ab),true)
  else none
  else
  some (st.1,st.2.1):Option ((List ab)×Bool)) λw3=>
 ix a2.eH st.2.2 λy2=>
 if (w3.1.length+([y2]:List ab).length) *72<=2^46 then
 some (.inl (w3.1++([y2]:List ab),w3.2,cM .i64 (st.2.2+1)))
 else none
 else
 some (.inr (.inl (st.1,st.2.1)))
def ad8 (a:eK)(a1:Int)(a2:xX)(a3:ab):Option (List ab):=bd (if !decide (a2.A.View=a3.je) then
  some true
  else
  bd (I8 a a3.je) λrA=>
  if !decide (rA=a1) then
  some true
  else
  bd (Vb a a3) λbt=>
  some (!bt):Option Bool) λw=>
 if w then
 some a2.eH
 else
 bd (Loop (WT a2 a3) (([]:List ab),false,0)) λw1=>
 match w1 with
 | .inl p2=>
  bd (if !p2.2 then
   if (p2.1.length+([a3]:List ab).length) *72<=2^46 then
   some (p2.1++([a3]:List ab))
   else none
   else
   some p2.1:Option (List ab)) λw4=>
  some w4
 | .inr p3=>some p3
def aaD (sA:eK):Option Int:=some (cM .i64 (sA.F+1))
def aaE (lA:ez)(qj:Int)(value:List UInt8):Option ez:=bd (if lA.bQ then
  some true
  else
  if qj<0 then
  some true
  else
  bd (I7 lA.S) λrA=>
  if rA<=qj then
  some true
  else
  some (decide ((6000:Int)<(value.length:Int))):Option Bool) λw=>
 if w then
 some lA
 else
 bd (Hq lA.Told (⟨qj,0,value⟩:aa)) λbt=>
 bd (aaD lA.S) λca=>
 bd (Ab (⟨lA.S,lA.aY,lA.bn,bt.1,lA.bQ,lA.Value⟩:ez) bt.1 ca) λcG=>
 some cG
def WU (a:eK)(a1:Int)(a2:xX)(a3:fA):Option (xX×(List fA)):=bd (if a3.Kind=1 then
  bd (I8 a a3.View) λrA=>
  bd (if a3.eE=rA then
   bd (QE a2.A a3.View a3.Value a3.fN) λbt=>
   bd (if bt.2.2 then
    if (([]:List fA).length+([(⟨2,0,0,([]:List UInt8),([]:List ab),bt.2.1,([]:List aa),(⟨0,0,false,0,([]:List UInt8),([]:List aa)⟩:ab)⟩:fA)]:List fA).length) *192<=2^46 then
    some (([]:List fA)++([(⟨2,0,0,([]:List UInt8),([]:List ab),bt.2.1,([]:List aa),(⟨0,0,false,0,([]:List UInt8),([]:List aa)⟩:ab)⟩:fA)]:List fA))
    else none
    else
    some ([]:List fA):Option (List fA)) λw2=>
   some (bt.1.S.F,bt.1.S.T,bt.1.Me,bt.1.View,bt.1.Has,bt.1.At,bt.1.Value,bt.1.Proof,bt.1.cF.L,a2.L.S.F,a2.L.S.T,a2.L.aY.L,a2.L.bn.L,a2.L.Told.L,a2.L.bQ,a2.L.Value,a2.eH,a2.ir,w2)
   else
   some (a2.A.S.F,a2.A.S.T,a2.A.Me,a2.A.View,a2.A.Has,a2.A.At,a2.A.Value,a2.A.Proof,a2.A.cF.L,a2.L.S.F,a2.L.S.T,a2.L.aY.L,a2.L.bn.L,a2.L.Told.L,a2.L.bQ,a2.L.Value,a2.eH,a2.ir,([]:List fA)):Option (Int×Int×Int×Int×Bool×Int×(List UInt8)×(List aa)×(List aa)×Int×Int×(List aa)×(List aa)×(List aa)×Bool×(List UInt8)×(List ab)×Int×(List fA))) λw1=>
  some w1
  else
  bd (if a3.Kind=2 then
   bd (aaB a2.A a3.dv) λca=>
   bd (if ca.2.2 then
    if (([]:List fA).length+([(⟨3,a1,0,([]:List UInt8),([]:List ab),(⟨0,0,([]:List UInt8)⟩:aa),ca.2.1,(⟨0,0,false,0,([]:List UInt8),([]:List aa)⟩:ab)⟩:fA)]:List fA).length) *192<=2^46 then
    some (([]:List fA)++([(⟨3,a1,0,([]:List UInt8),([]:List ab),(⟨0,0,([]:List UInt8)⟩:aa),ca.2.1,(⟨0,0,false,0,([]:List UInt8),([]:List aa)⟩:ab)⟩:fA)]:List fA))
    else none
    else
    some ([]:List fA):Option (List fA)) λw4=>
   bd (Oo a2.L a3.dv) λcG=>
   some (ca.1.S.F,ca.1.S.T,ca.1.Me,ca.1.View,ca.1.Has,ca.1.At,ca.1.Value,ca.1.Proof,ca.1.cF.L,cG.S.F,cG.S.T,cG.aY.L,cG.bn.L,cG.Told.L,cG.bQ,cG.Value,a2.eH,a2.ir,w4)
   else
   bd (if a3.Kind=3 then
    bd (K4 a2.L a3.eE a3.Proof) λiw=>
    some (a2.A.S.F,a2.A.S.T,a2.A.Me,a2.A.View,a2.A.Has,a2.A.At,a2.A.Value,a2.A.Proof,a2.A.cF.L,iw.S.F,iw.S.T,iw.aY.L,iw.bn.L,iw.Told.L,iw.bQ,iw.Value,a2.eH,a2.ir)
    else
    bd (if a3.Kind=4 then
     bd (ad8 a a1 a2 a3.R) λlW=>
     some (a2.A.S.F,a2.A.S.T,a2.A.Me,a2.A.View,a2.A.Has,a2.A.At,a2.A.Value,a2.A.Proof,a2.A.cF.L,a2.L.S.F,a2.L.S.T,a2.L.aY.L,a2.L.bn.L,a2.L.Told.L,a2.L.bQ,a2.L.Value,lW,a2.ir)
     else
     bd (if a3.Kind=5 then
      bd (aaE a2.L a3.eE a3.Value) λsj=>
      some (a2.A.S.F,a2.A.S.T,a2.A.Me,a2.A.View,a2.A.Has,a2.A.At,a2.A.Value,a2.A.Proof,a2.A.cF.L,sj.S.F,sj.S.T,sj.aY.L,sj.bn.L,sj.Told.L,sj.bQ,sj.Value,a2.eH,a2.ir)
      else
      some (a2.A.S.F,a2.A.S.T,a2.A.Me,a2.A.View,a2.A.Has,a2.A.At,a2.A.Value,a2.A.Proof,a2.A.cF.L,a2.L.S.F,a2.L.S.T,a2.L.aY.L,a2.L.bn.L,a2.L.Told.L,a2.L.bQ,a2.L.Value,a2.eH,a2.ir):Option (Int×Int×Int×Int×Bool×Int×(List UInt8)×(List aa)×(List aa)×Int×Int×(List aa)×(List aa)×(List aa)×Bool×(List UInt8)×(List ab)×Int)) λw7=>
     some w7:Option (Int×Int×Int×Int×Bool×Int×(List UInt8)×(List aa)×(List aa)×Int×Int×(List aa)×(List aa)×(List aa)×Bool×(List UInt8)×(List ab)×Int)) λw6=>
    some w6:Option (Int×Int×Int×Int×Bool×Int×(List UInt8)×(List aa)×(List aa)×Int×Int×(List aa)×(List aa)×(List aa)×Bool×(List UInt8)×(List ab)×Int)) λw5=>
   some (w5.1,w5.2.1,w5.2.2.1,w5.2.2.2.1,w5.2.2.2.2.1,w5.2.2.2.2.2.1,w5.2.2.2.2.2.2.1,w5.2.2.2.2.2.2.2.1,w5.2.2.2.2.2.2.2.2.1,w5.2.2.2.2.2.2.2.2.2.1,w5.2.2.2.2.2.2.2.2.2.2.1,w5.2.2.2.2.2.2.2.2.2.2.2.1,w5.2.2.2.2.2.2.2.2.2.2.2.2.1,w5.2.2.2.2.2.2.2.2.2.2.2.2.2.1,w5.2.2.2.2.2.2.2.2.2.2.2.2.2.2.1,w5.2.2.2.2.2.2.2.2.2.2.2.2.2.2.2.1,w5.2.2.2.2.2.2.2.2.2.2.2.2.2.2.2.2.1,w5.2.2.2.2.2.2.2.2.2.2.2.2.2.2.2.2.2,([]:List fA)):Option (Int×Int×Int×Int×Bool×Int×(List UInt8)×(List aa)×(List aa)×Int×Int×(List aa)×(List aa)×(List aa)×Bool×(List UInt8)×(List ab)×Int×(List fA))) λw3=>
  some w3:Option (Int×Int×Int×Int×Bool×Int×(List UInt8)×(List aa)×(List aa)×Int×Int×(List aa)×(List aa)×(List aa)×Bool×(List UInt8)×(List ab)×Int×(List fA))) λw=>
 bd (if w.2.2.2.2.2.2.2.2.2.2.2.2.2.2.1 then
  some (!a2.L.bQ)
  else
  some false:Option Bool) λw8=>
 bd (if w8 then
  if (w.2.2.2.2.2.2.2.2.2.2.2.2.2.2.2.2.2.2.length+([(⟨5,a1,0,w.2.2.2.2.2.2.2.2.2.2.2.2.2.2.2.1,([]:List ab),(⟨0,0,([]:List UInt8)⟩:aa),([]:List aa),(⟨0,0,false,0,([]:List UInt8),([]:List aa)⟩:ab)⟩:fA)]:List fA).length) *192<=2^46 then
  some (w.2.2.2.2.2.2.2.2.2.2.2.2.2.2.2.2.2.2++([(⟨5,a1,0,w.2.2.2.2.2.2.2.2.2.2.2.2.2.2.2.1,([]:List ab),(⟨0,0,([]:List UInt8)⟩:aa),([]:List aa),(⟨0,0,false,0,([]:List UInt8),([]:List aa)⟩:ab)⟩:fA)]:List fA))
  else none
  else
  some w.2.2.2.2.2.2.2.2.2.2.2.2.2.2.2.2.2.2:Option (List fA)) λw9=>
 some ((⟨(⟨(⟨w.1,w.2.1⟩:eK),w.2.2.1,w.2.2.2.1,w.2.2.2.2.1,w.2.2.2.2.2.1,w.2.2.2.2.2.2.1,w.2.2.2.2.2.2.2.1,(⟨w.2.2.2.2.2.2.2.2.1⟩:dN)⟩:iI),(⟨(⟨w.2.2.2.2.2.2.2.2.2.1,w.2.2.2.2.2.2.2.2.2.2.1⟩:eK),(⟨w.2.2.2.2.2.2.2.2.2.2.2.1⟩:dN),(⟨w.2.2.2.2.2.2.2.2.2.2.2.2.1⟩:dN),(⟨w.2.2.2.2.2.2.2.2.2.2.2.2.2.1⟩:dN),w.2.2.2.2.2.2.2.2.2.2.2.2.2.2.1,w.2.2.2.2.2.2.2.2.2.2.2.2.2.2.2.1⟩:ez),w.2.2.2.2.2.2.2.2.2.2.2.2.2.2.2.2.1,w.2.2.2.2.2.2.2.2.2.2.2.2.2.2.2.2.2.1⟩:xX),w9)
def ya (c:aj)(st:Bool×(List UInt8)×Int):Option ((Bool×(List UInt8)×Int)⊕((Bool×(List UInt8))⊕(Bool×Bool×(List UInt8)))):=if st.2.2<(c.N.length:Int) then
 bd (fI c st.2.2) λrA=>
 bd (if rA.2 then
  if st.1 then
  some (!decide (rA.1=st.2.1))
  else
  some false
  else
  some false:Option Bool) λw1=>
 if w1 then
 some (.inr (.inr (false,true,st.2.1)))
 else
 bd (if rA.2 then
  some (true,rA.1)
  else
  some (st.1,st.2.1):Option (Bool×(List UInt8))) λw2=>
 some (.inl (w2.1,w2.2,cM .i64 (st.2.2+1)))
 else
 some (.inr (.inl (st.1,st.2.1)))
def qH (c:aj)(EU:Bool)(value:List UInt8):Option (Bool×Bool×(List UInt8)):=bd (Loop (ya c) (EU,value,0)) λw=>
 match w with
 | .inl p2=>some (true,p2.1,p2.2)
 | .inr p3=>some (p3.1,p3.2.1,p3.2.2)
def jI (i:Int)(c:Int)(c1:aj):Option (Unit×Int):=ix c1.N i λy=>some ((),imax c (cM .i64 (y.A.View+1)))
def fe (lA:List al)(st:Int×Int×Int×(List Bool)×(List (List UInt8))×(List ar)×(List al)):Option ((Int×Int×Int×(List Bool)×(List (List UInt8))×(List ar)×(List al))⊕(Int×Int×(List Bool)×(List (List UInt8))×(List ar)×(List al))):=if st.1<(lA.length:Int) then
 ix lA st.1 λy=>
 bd (if (st.2.2.2.2.2.2.length:Int)<400 then
  bd (gw st.2.2.2.2.2.2) λrA=>
  if 0<([y]:List al).length/\(rA.length+([y]:List al).length) *192<=2^46 then
  some (st.2.1,st.2.2.1,st.2.2.2.1,st.2.2.2.2.1,st.2.2.2.2.2.1,rA++([y]:List al))
  else none
  else
  some (st.2.1,st.2.2.1,st.2.2.2.1,st.2.2.2.2.1,st.2.2.2.2.2.1,st.2.2.2.2.2.2):Option (Int×Int×(List Bool)×(List (List UInt8))×(List ar)×(List al))) λw1=>
 some (.inl (cM .i64 (st.1+1),w1.1,w1.2.1,w1.2.2.1,w1.2.2.2.1,w1.2.2.2.2.1,w1.2.2.2.2.2))
 else
 some (.inr (st.2.1,st.2.2.1,st.2.2.2.1,st.2.2.2.2.1,st.2.2.2.2.2.1,st.2.2.2.2.2.2))
def gX (c:aj)(lA:List al):Option (Unit×aj):=bd (Loop (fe lA) (0,c.S.F,c.S.T,c.bY,c.Want,c.N,c.aV)) λw=>some ((),(⟨(⟨w.1,w.2.1⟩:ae),w.2.2.1,w.2.2.2.1,w.2.2.2.2.1,w.2.2.2.2.2⟩:aj))
def gJ (c:aj)(i:Int)(n:ar)(said:List al):Option (Unit×aj):=ix c.N i λy=>
 bd (gX (⟨c.S,c.bY,c.Want,c.N.set (sh i) n,c.aV⟩:aj) said) λrA=>
 some ((),rA.2)
def cN (c:aj)(i:Int)(m:al):Option (Unit×aj):=ix c.N i λy=>
 bd (ch c.S i y m) λrA=>
 bd (gJ c i rA.1 rA.2) λbt=>
 some ((),bt.2)
def dW (c:aj)(i:Int)(view:Int):Option (Unit×aj):=ix c.N i λy=>
 bd (oS c.S i y view) λrA=>
 bd (gJ c i rA.1 rA.2) λbt=>
 some ((),bt.2)
def dO (c:aj)(i:Int):Option (Unit×aj):=ix c.N i λy=>
 ix c.Want i λy1=>
 bd (eB c.S i y y1) λrA=>
 bd (gJ c i rA.1 rA.2) λbt=>
 some ((),bt.2)
def yK (lA:List al)(st:Int×Int×Int×(List Bool)×(List (List UInt8))×(List ar)×(List al)):Option ((Int×Int×Int×(List Bool)×(List (List UInt8))×(List ar)×(List al))⊕(Int×Int×(List Bool)×(List (List UInt8))×(List ar)×(List al))):=if st.1<(lA.length:Int) then
 ix lA st.1 λy=>
 bd (if (st.2.2.2.2.2.2.length:Int)<400 then
  bd (gw st.2.2.2.2.2.2) λrA=>
  if 0<([y]:List al).length/\(rA.length+([y]:List al).length) *192<=2^46 then
  some (st.2.1,st.2.2.1,st.2.2.2.1,st.2.2.2.2.1,st.2.2.2.2.2.1,rA++([y]:List al))
  else none
  else
  some (st.2.1,st.2.2.1,st.2.2.2.1,st.2.2.2.2.1,st.2.2.2.2.2.1,st.2.2.2.2.2.2):Option (Int×Int×(List Bool)×(List (List UInt8))×(List ar)×(List al))) λw1=>
 some (.inl (cM .i64 (st.1+1),w1.1,w1.2.1,w1.2.2.1,w1.2.2.2.1,w1.2.2.2.2.1,w1.2.2.2.2.2))
 else
 some (.inr (st.2.1,st.2.2.1,st.2.2.2.1,st.2.2.2.2.1,st.2.2.2.2.2.1,st.2.2.2.2.2.2))
def nV (c:aj)(lA:List al):Option (Unit×aj):=bd (Loop (yK lA) (0,c.S.F,c.S.T,c.bY,c.Want,c.N,c.aV)) λw=>some ((),(⟨(⟨w.1,w.2.1⟩:ae),w.2.2.1,w.2.2.2.1,w.2.2.2.2.1,w.2.2.2.2.2⟩:aj))
def eF (a:aj)(a1:dz):Option aj:=if a1.Kind=3 then
 bd (mC a a1.M) λrA=>
 bd (if rA then
  bd (nV a ([a1.M]:List al)) λbt=>
  some (bt.2.S.F,bt.2.S.T,bt.2.bY,bt.2.Want,bt.2.N,bt.2.aV)
  else
  some (a.S.F,a.S.T,a.bY,a.Want,a.N,a.aV):Option (Int×Int×(List Bool)×(List (List UInt8))×(List ar)×(List al))) λw=>
 some (⟨(⟨w.1,w.2.1⟩:ae),w.2.2.1,w.2.2.2.1,w.2.2.2.2.1,w.2.2.2.2.2⟩:aj)
 else
 bd (dx a a1.I false) λca=>
 if !ca then
 some a
 else
 bd (qD 256 a.N) λcG=>
 bd (if a1.Kind=0 then
  bd (if (0:Int)<=a1.J then
   some (decide (a1.J<(a.aV.length:Int)))
   else
   some false:Option Bool) λw2=>
  bd (if w2 then
   ix a.aV a1.J λy=>
   bd (cN (⟨a.S,a.bY,a.Want,cG,a.aV⟩:aj) a1.I y) λiw=>
   some (iw.2.S.F,iw.2.S.T,iw.2.bY,iw.2.Want,iw.2.N,iw.2.aV)
   else
   some (a.S.F,a.S.T,a.bY,a.Want,cG,a.aV):Option (Int×Int×(List Bool)×(List (List UInt8))×(List ar)×(List al))) λw3=>
  some w3
  else
  bd (if a1.Kind=1 then
   ix cG a1.I λy1=>
   bd (dW (⟨a.S,a.bY,a.Want,cG,a.aV⟩:aj) a1.I (cM .i64 (y1.A.View+1))) λlW=>
   some (lW.2.S.F,lW.2.S.T,lW.2.bY,lW.2.Want,lW.2.N,lW.2.aV)
   else
   bd (if a1.Kind=2 then
    bd (dO (⟨a.S,a.bY,a.Want,cG,a.aV⟩:aj) a1.I) λsj=>
    some (sj.2.S.F,sj.2.S.T,sj.2.bY,sj.2.Want,sj.2.N,sj.2.aV)
    else
    bd (if a1.Kind=4 then
     ix cG a1.I λy2=>
     bd (ng a.S a1.I y2) λC4=>
     ix cG a1.I λy3=>
     some (a.S.F,a.S.T,a.bY,a.Want,cG.set (sh a1.I) C4,a.aV)
     else
     some (a.S.F,a.S.T,a.bY,a.Want,cG,a.aV):Option (Int×Int×(List Bool)×(List (List UInt8))×(List ar)×(List al))) λw6=>
    some w6:Option (Int×Int×(List Bool)×(List (List UInt8))×(List ar)×(List al))) λw5=>
   some w5:Option (Int×Int×(List Bool)×(List (List UInt8))×(List ar)×(List al))) λw4=>
  some w4:Option (Int×Int×(List Bool)×(List (List UInt8))×(List ar)×(List al))) λw1=>
 some (⟨(⟨w1.1,w1.2.1⟩:ae),w1.2.2.1,w1.2.2.2.1,w1.2.2.2.2.1,w1.2.2.2.2.2⟩:aj)
def vq (st:Int×Int×(List Bool)×(List (List UInt8))×(List ar)×(List al)×Int):Option ((Int×Int×(List Bool)×(List (List UInt8))×(List ar)×(List al)×Int)⊕(Int×Int×(List Bool)×(List (List UInt8))×(List ar)×(List al))):=if st.2.2.2.2.2.2<4 then
 bd (eF (⟨(⟨st.1,st.2.1⟩:ae),st.2.2.1,st.2.2.2.1,st.2.2.2.2.1,st.2.2.2.2.2.1⟩:aj) (⟨0,st.2.2.2.2.2.2,0,(⟨0,0,0,([]:List UInt8),([]:List ab),(⟨0,0,([]:List UInt8)⟩:aa),([]:List aa),(⟨0,0,false,0,([]:List UInt8),([]:List aa)⟩:ab)⟩:al)⟩:dz)) λca=>
 some (.inl (ca.S.F,ca.S.T,ca.bY,ca.Want,ca.N,ca.aV,cM .i64 (st.2.2.2.2.2.2+1)))
 else
 some (.inr (st.1,st.2.1,st.2.2.1,st.2.2.2.1,st.2.2.2.2.1,st.2.2.2.2.2.1))
def vu (dk:Int×Int×(List Bool)×(List (List UInt8))×(List ar)×(List al)×Int):Option ((Int×Int×(List Bool)×(List (List UInt8))×(List ar)×(List al)×Int)⊕(Int×Int×(List Bool)×(List (List UInt8))×(List ar)×(List al))):=if dk.2.2.2.2.2.2<5 then
 bd (eF (⟨(⟨dk.1,dk.2.1⟩:ae),dk.2.2.1,dk.2.2.2.1,dk.2.2.2.2.1,dk.2.2.2.2.2.1⟩:aj) (⟨0,2,dk.2.2.2.2.2.2,(⟨0,0,0,([]:List UInt8),([]:List ab),(⟨0,0,([]:List UInt8)⟩:aa),([]:List aa),(⟨0,0,false,0,([]:List UInt8),([]:List aa)⟩:ab)⟩:al)⟩:dz)) λcG=>
 some (.inl (cG.S.F,cG.S.T,cG.bY,cG.Want,cG.N,cG.aV,cM .i64 (dk.2.2.2.2.2.2+1)))
 else
 some (.inr (dk.1,dk.2.1,dk.2.2.1,dk.2.2.2.1,dk.2.2.2.2.1,dk.2.2.2.2.2.1))
def qI:Option Bool:=if (0:Int)<=4/\(4:Int)=4/\(4:Int) *1<=2^46 then
 bd (pu (⟨1,0⟩:ae) (No (sh 4) false) ([([97]:List UInt8),([98]:List UInt8),([99]:List UInt8),([100]:List UInt8)]:List (List UInt8))) λrA=>
 bd (eF rA.1 (⟨2,0,0,(⟨0,0,0,([]:List UInt8),([]:List ab),(⟨0,0,([]:List UInt8)⟩:aa),([]:List aa),(⟨0,0,false,0,([]:List UInt8),([]:List aa)⟩:ab)⟩:al)⟩:dz)) λbt=>
 bd (Loop vq (bt.S.F,bt.S.T,bt.bY,bt.Want,bt.N,bt.aV,0)) λw=>
 bd (Loop vu (w.1,w.2.1,w.2.2.1,w.2.2.2.1,w.2.2.2.2.1,w.2.2.2.2.2,1)) λw1=>
 bd (fI (⟨(⟨w1.1,w1.2.1⟩:ae),w1.2.2.1,w1.2.2.2.1,w1.2.2.2.2.1,w1.2.2.2.2.2⟩:aj) 2) λiw=>
 bd (fI (⟨(⟨w1.1,w1.2.1⟩:ae),w1.2.2.1,w1.2.2.2.1,w1.2.2.2.2.1,w1.2.2.2.2.2⟩:aj) 1) λlW=>
 bd (if rA.2=0 then
  if iw.2 then
  if iw.1=([97]:List UInt8) then
  some (!lW.2)
  else
  some false
  else
  some false
  else
  some false:Option Bool) λw2=>
 some w2
 else none
def j0 (c:aj)(v:Int):Option (Int⊕Int):=bd (eC c.S v) λl=>
 bd (dx c l false) λb=>
 some (if b then .inr v else .inl (cM .i64 (v+1)))
def nW (v:Int)(p:Int×aj):Option ((Int×aj)⊕aj):=if p.1<(p.2.aV.length:Int) then
 ix p.2.aV p.1 λm=>
 if p.2.bY.length<2^32 then
 bd (iG (λi c=>bd (cN c (i:Int) m) λr=>some r.2) p.2.bY 0 p.2) λc=>
 bd (eC c.S v) λl=>
 bd (dO c l) λr=>
 some (.inl (cM .i64 (p.1+1),r.2))
 else none
 else some (.inr p.2)
def qJ (a:aj):Option aj:=bd (qD 256 a.N) λnl=>
 if a.bY.length<2^32 then
 bd (iG (λi v=>bd (jI (i:Int) v (⟨a.S,a.bY,a.Want,nl,[]⟩:aj)) λr=>some r.2) a.bY 0 (0:Int)) λv=>
 bd (Loop (j0 (⟨a.S,a.bY,a.Want,nl,[]⟩:aj)) v) λv=>
 if 100000<v then some (⟨a.S,a.bY,a.Want,nl,[]⟩:aj) else
 bd (iG (λi c=>bd (dW c (i:Int) v) λr=>some r.2) a.bY 0 (⟨a.S,a.bY,a.Want,nl,[]⟩:aj)) λc=>
 Loop (nW v) ((0:Int),c)
 else none
def sm (a1:List dz)(st:Int×Int×(List Bool)×(List (List UInt8))×(List ar)×(List al)×Bool×(List UInt8)×Int):Option ((Int×Int×(List Bool)×(List (List UInt8))×(List ar)×(List al)×Bool×(List UInt8)×Int)⊕((Int×Int×(List Bool)×(List (List UInt8))×(List ar)×(List al)×Bool×(List UInt8))⊕Bool)):=if st.2.2.2.2.2.2.2.2<(a1.length:Int) then
 ix a1 st.2.2.2.2.2.2.2.2 λy=>
 bd (eF (⟨(⟨st.1,st.2.1⟩:ae),st.2.2.1,st.2.2.2.1,st.2.2.2.2.1,st.2.2.2.2.2.1⟩:aj) y) λiw=>
 bd (qH iw st.2.2.2.2.2.2.1 st.2.2.2.2.2.2.2.1) λlW=>
 if !lW.1 then
 some (.inr (.inr false))
 else
 some (.inl (iw.S.F,iw.S.T,iw.bY,iw.Want,iw.N,iw.aV,lW.2.1,lW.2.2,cM .i64 (st.2.2.2.2.2.2.2.2+1)))
 else
 some (.inr (.inl (st.1,st.2.1,st.2.2.1,st.2.2.2.1,st.2.2.2.2.1,st.2.2.2.2.2.1,st.2.2.2.2.2.2.1,st.2.2.2.2.2.2.2.1)))
def qZ (a:na)(a1:List dz):Option Bool:=bd (wP a a1) λrA=>
 if !rA then
 bd (qI) λbt=>
 some bt
 else
 bd (pu a.S a.bY a.Want) λca=>
 if !decide (ca.2=0) then
 bd (qI) λcG=>
 some cG
 else
 bd (Loop (sm a1) (ca.1.S.F,ca.1.S.T,ca.1.bY,ca.1.Want,ca.1.N,ca.1.aV,false,([]:List UInt8),0)) λw=>
 match w with
 | .inl p1=>
  bd (qJ (⟨(⟨p1.1,p1.2.1⟩:ae),p1.2.2.1,p1.2.2.2.1,p1.2.2.2.2.1,p1.2.2.2.2.2.1⟩:aj)) λsj=>
  bd (qH sj p1.2.2.2.2.2.2.1 p1.2.2.2.2.2.2.2) λC4=>
  bd (bd (qI) λrA8=>
   if rA8 then
   some C4.1
   else
   some false:Option Bool) λw1=>
  some w1
 | .inr p2=>some p2
end
end Dn.S
