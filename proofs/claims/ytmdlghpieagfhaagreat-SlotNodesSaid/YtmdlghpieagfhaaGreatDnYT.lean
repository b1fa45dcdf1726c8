import Derived.Test.YtmdlghpieagfhaaGreatDnC
/-
  The functions, on typed values. Conditions: none.
-/
set_option linter.unusedVariables false
set_option linter.unusedSimpArgs false
open Go.IntKind renaming wrap→fj,bits→BY
open Int renaming toNat→sh,fdiv→IN,tdiv→No,tmod→OF
open List renaming drop→AI,take→AT,replicate→IS
open Go.FloatKind renaming nearest→IT
open Go Dn
set_option maxRecDepth 100000
namespace Dn.S
noncomputable section
structure ak where
 F:Int
 T:Int
deriving DecidableEq
@[reducible] def KX (x : ak) : List MV := [.i .i64 x.F, .i .i64 x.T]
@[reducible] def bT (x : ak) : MV := .agg (KX x)
structure lh where
 S:ak
 fW:List Bool
 Want:List (List UInt8)
deriving DecidableEq
@[reducible] def ZQ (x : lh) : List MV := [.i .i64 x.S.F, .i .i64 x.S.T, .list (x.fW.map MV.b), .list (x.Want.map MV.s)]
@[reducible] def DZ (x : lh) : MV := .agg (ZQ x)
structure aa where
 By:Int
 View:Int
 Value:List UInt8
deriving DecidableEq
@[reducible] def sF (x : aa) : List MV := [.i .i64 x.By, .i .i64 x.View, .s x.Value]
@[reducible] def ab (x : aa) : MV := .agg (sF x)
structure ae where
 By:Int
 fP:Int
 Has:Bool
 View:Int
 Value:List UInt8
 Proof:List aa
deriving DecidableEq
@[reducible] def A7 (x : ae) : List MV := [.i .i64 x.By, .i .i64 x.fP, .b x.Has, .i .i64 x.View, .s x.Value, .list (x.Proof.map ab)]
@[reducible] def av (x : ae) : MV := .agg (A7 x)
structure aw where
 Kind:Int
 dU:Int
 View:Int
 Value:List UInt8
 dX:List ae
 fM:aa
 Proof:List aa
 R:ae
deriving DecidableEq
@[reducible] def ZR (x : aw) : List MV := [.i .i64 x.Kind, .i .i64 x.dU, .i .i64 x.View, .s x.Value, .list (x.dX.map av), .i .i64 x.fM.By, .i .i64 x.fM.View, .s x.fM.Value, .list (x.Proof.map ab), .i .i64 x.R.By, .i .i64 x.R.fP, .b x.R.Has, .i .i64 x.R.View, .s x.R.Value, .list (x.R.Proof.map ab)]
@[reducible] def bw (x : aw) : MV := .agg (ZR x)
structure eh where
 Kind:Int
 I:Int
 J:Int
 M:aw
deriving DecidableEq
@[reducible] def ZS (x : eh) : List MV := [.i .i64 x.Kind, .i .i64 x.I, .i .i64 x.J, .i .i64 x.M.Kind, .i .i64 x.M.dU, .i .i64 x.M.View, .s x.M.Value, .list (x.M.dX.map av), .i .i64 x.M.fM.By, .i .i64 x.M.fM.View, .s x.M.fM.Value, .list (x.M.Proof.map ab), .i .i64 x.M.R.By, .i .i64 x.M.R.fP, .b x.M.R.Has, .i .i64 x.M.R.View, .s x.M.R.Value, .list (x.M.R.Proof.map ab)]
@[reducible] def mP (x : eh) : MV := .agg (ZS x)
structure az where
 L:List aa
deriving DecidableEq
@[reducible] def Fi (x : az) : List MV := [.list (x.L.map ab)]
@[reducible] def iN (x : az) : MV := .agg (Fi x)
structure aj where
 S:ak
 Me:Int
 View:Int
 Has:Bool
 At:Int
 Value:List UInt8
 Proof:List aa
 bI:az
deriving DecidableEq
@[reducible] def D5 (x : aj) : List MV := [.i .i64 x.S.F, .i .i64 x.S.T, .i .i64 x.Me, .i .i64 x.View, .b x.Has, .i .i64 x.At, .s x.Value, .list (x.Proof.map ab), .list (x.bI.L.map ab)]
@[reducible] def cX (x : aj) : MV := .agg (D5 x)
structure aq where
 S:ak
 aO:az
 aP:az
 Told:az
 bE:Bool
 Value:List UInt8
deriving DecidableEq
@[reducible] def gG (x : aq) : List MV := [.i .i64 x.S.F, .i .i64 x.S.T, .list (x.aO.L.map ab), .list (x.aP.L.map ab), .list (x.Told.L.map ab), .b x.bE, .s x.Value]
@[reducible] def dM (x : aq) : MV := .agg (gG x)
structure aD where
 A:aj
 L:aq
 cy:List ae
 fh:Int
deriving DecidableEq
@[reducible] def D6 (x : aD) : List MV := [.i .i64 x.A.S.F, .i .i64 x.A.S.T, .i .i64 x.A.Me, .i .i64 x.A.View, .b x.A.Has, .i .i64 x.A.At, .s x.A.Value, .list (x.A.Proof.map ab), .list (x.A.bI.L.map ab), .i .i64 x.L.S.F, .i .i64 x.L.S.T, .list (x.L.aO.L.map ab), .list (x.L.aP.L.map ab), .list (x.L.Told.L.map ab), .b x.L.bE, .s x.L.Value, .list (x.cy.map av), .i .i64 x.fh]
@[reducible] def bL (x : aD) : MV := .agg (D6 x)
structure aQ where
 S:ak
 fW:List Bool
 Want:List (List UInt8)
 N:List aD
 cA:List aw
deriving DecidableEq
@[reducible] def eT (x : aQ) : List MV := [.i .i64 x.S.F, .i .i64 x.S.T, .list (x.fW.map MV.b), .list (x.Want.map MV.s), .list (x.N.map bL), .list (x.cA.map bw)]
@[reducible] def jB (x : aQ) : MV := .agg (eT x)
structure aZ where
 b:List Int
 e:Int
deriving DecidableEq
@[reducible] def fm (x : aZ) : List MV := [.list (x.b.map (MV.i .u8)), .i .i64 x.e]
structure aV where
 F:Int
 T:Int
deriving DecidableEq
@[reducible] def B9 (x : aV) : List MV := [.i .i64 x.F, .i .i64 x.T]
@[reducible] def cH (x : aV) : MV := .agg (B9 x)
structure aL where
 L:List aa
deriving DecidableEq
@[reducible] def KY (x : aL) : List MV := [.list (x.L.map ab)]
@[reducible] def jC (x : aL) : MV := .agg (KY x)
structure aN where
 S:aV
 Me:Int
 View:Int
 Has:Bool
 At:Int
 Value:List UInt8
 Proof:List aa
 bI:aL
deriving DecidableEq
@[reducible] def Ns (x : aN) : List MV := [.i .i64 x.S.F, .i .i64 x.S.T, .i .i64 x.Me, .i .i64 x.View, .b x.Has, .i .i64 x.At, .s x.Value, .list (x.Proof.map ab), .list (x.bI.L.map ab)]
@[reducible] def dE (x : aN) : MV := .agg (Ns x)
structure bq where
 S:aV
 aO:aL
 aP:aL
 Told:aL
 bE:Bool
 Value:List UInt8
deriving DecidableEq
@[reducible] def Q6 (x : bq) : List MV := [.i .i64 x.S.F, .i .i64 x.S.T, .list (x.aO.L.map ab), .list (x.aP.L.map ab), .list (x.Told.L.map ab), .b x.bE, .s x.Value]
@[reducible] def fe (x : bq) : MV := .agg (Q6 x)
structure cC where
 A:aN
 L:bq
 cy:List ae
 fh:Int
deriving DecidableEq
@[reducible] def Hh (x : cC) : List MV := [.i .i64 x.A.S.F, .i .i64 x.A.S.T, .i .i64 x.A.Me, .i .i64 x.A.View, .b x.A.Has, .i .i64 x.A.At, .s x.A.Value, .list (x.A.Proof.map ab), .list (x.A.bI.L.map ab), .i .i64 x.L.S.F, .i .i64 x.L.S.T, .list (x.L.aO.L.map ab), .list (x.L.aP.L.map ab), .list (x.L.Told.L.map ab), .b x.L.bE, .s x.L.Value, .list (x.cy.map av), .i .i64 x.fh]
@[reducible] def fw (x : cC) : MV := .agg (Hh x)
structure bF where
 Kind:Int
 dU:Int
 View:Int
 Value:List UInt8
 dX:List ae
 fM:aa
 Proof:List aa
 R:ae
deriving DecidableEq
@[reducible] def KZ (x : bF) : List MV := [.i .i64 x.Kind, .i .i64 x.dU, .i .i64 x.View, .s x.Value, .list (x.dX.map av), .i .i64 x.fM.By, .i .i64 x.fM.View, .s x.fM.Value, .list (x.Proof.map ab), .i .i64 x.R.By, .i .i64 x.R.fP, .b x.R.Has, .i .i64 x.R.View, .s x.R.Value, .list (x.R.Proof.map ab)]
@[reducible] def dY (x : bF) : MV := .agg (KZ x)
def wF (a:lh)(st:Int):Option (Int⊕(Unit⊕Bool)):=if st<(a.Want.length:Int) then
 ix a.Want st λy=>
 if (200:Int)<(y.length:Int) then
 some (.inr (.inr false))
 else
 some (.inl (fj .i64 (st+1)))
 else
 some (.inr (.inl ()))
def sG (y1:eh)(eM:Int):Option (Int⊕(Unit⊕Bool)):=if eM<(y1.M.dX.length:Int) then
 ix y1.M.dX eM λy2=>
 if (30:Int)<(y2.Proof.length:Int) then
 some (.inr (.inr false))
 else
 some (.inl (fj .i64 (eM+1)))
 else
 some (.inr (.inl ()))
def sH (a1:List eh)(dC:Int):Option (Int⊕(Unit⊕Bool)):=if dC<(a1.length:Int) then
 ix a1 dC λy1=>
 bd (if (200:Int)<(y1.M.Value.length:Int) then
  some true
  else
  if (200:Int)<(y1.M.fM.Value.length:Int) then
  some true
  else
  if (30:Int)<(y1.M.Proof.length:Int) then
  some true
  else
  if (30:Int)<(y1.M.dX.length:Int) then
  some true
  else
  if (200:Int)<(y1.M.R.Value.length:Int) then
  some true
  else
  some (decide ((30:Int)<(y1.M.R.Proof.length:Int))):Option Bool) λw3=>
 if w3 then
 some (.inr (.inr false))
 else
 bd (Loop (sG y1) 0) λw4=>
 match w4 with
 | .inl p5=>some (.inl (fj .i64 (dC+1)))
 | .inr p6=>some (.inr (.inr p6))
 else
 some (.inr (.inl ()))
def ya (a:lh)(a1:List eh):Option Bool:=bd (if (2:Int)<a.S.F then
  some true
  else
  if (30:Int)<(a.fW.length:Int) then
  some true
  else
  if (30:Int)<(a.Want.length:Int) then
  some true
  else
  some (decide ((80:Int)<(a1.length:Int))):Option Bool) λw=>
 if w then
 some false
 else
 bd (Loop (wF a) 0) λw1=>
 match w1 with
 | .inl p1=>
  bd (Loop (sH a1) 0) λw2=>
  match w2 with
  | .inl p7=>some true
  | .inr p8=>some p8
 | .inr p2=>some p2
def xq (sA:ak):Option (Nat×Nat):=some (IT .f64 sA.F,IT .f64 sA.T)
def kO (sA:ak)(times:Nat×Nat):Option Int:=bd (xq sA) λrA=>
 bd (FloatKind.f64.format.mul rA.1 times.1) λf=>
 bd (FloatKind.f64.format.mul rA.2 times.2) λf1=>
 bd (FloatKind.f64.format.add f f1) λf2=>
 bd ((FloatKind.decode .f64 f2).toInt .zero) λn=>
 if IntKind.min .i64<=n/\n<=IntKind.max .i64 then
 some (fj .i64 (n+1))
 else none
def qk (sA:ak):Option Int:=bd (kO sA (4613937818241073152,4611686018427387904)) λrA=>some rA
def jU (sA:ak):Option Bool:=bd (if (1:Int)<=sA.F then
  if sA.F<=5 then
  if (0:Int)<=sA.T then
  some (decide (sA.T<=sA.F))
  else
  some false
  else
  some false
  else
  some false:Option Bool) λw=>
 some w
def nu (sA:ak)(me:Int):Option (aj×Int):=bd (bd (jU sA) λrA=>
  if !rA then
  some true
  else
  if me<0 then
  some true
  else
  bd (qk sA) λaY=>
  some (decide (aY<=me)):Option Bool) λw=>
 if w then
 some ((⟨(⟨0,0⟩:ak),0,0,false,0,([]:List UInt8),([]:List aa),(⟨([]:List aa)⟩:az)⟩:aj),1)
 else
 some ((⟨sA,me,0,false,0,([]:List UInt8),([]:List aa),(⟨([]:List aa)⟩:az)⟩:aj),0)
def po (sA:ak):Option (aq×Int):=bd (jU sA) λrA=>
 if !rA then
 some ((⟨(⟨0,0⟩:ak),(⟨([]:List aa)⟩:az),(⟨([]:List aa)⟩:az),(⟨([]:List aa)⟩:az),false,([]:List UInt8)⟩:aq),1)
 else
 some ((⟨sA,(⟨([]:List aa)⟩:az),(⟨([]:List aa)⟩:az),(⟨([]:List aa)⟩:az),false,([]:List UInt8)⟩:aq),0)
def mQ (sA:ak)(i:Int):Option (aD×Int):=bd (nu sA i) λrA=>
 if !decide (rA.2=0) then
 some ((⟨(⟨(⟨0,0⟩:ak),0,0,false,0,([]:List UInt8),([]:List aa),(⟨([]:List aa)⟩:az)⟩:aj),(⟨(⟨0,0⟩:ak),(⟨([]:List aa)⟩:az),(⟨([]:List aa)⟩:az),(⟨([]:List aa)⟩:az),false,([]:List UInt8)⟩:aq),([]:List ae),0⟩:aD),rA.2)
 else
 bd (po sA) λaY=>
 some ((⟨rA.1,aY.1,([]:List ae),(-1)⟩:aD),aY.2)
def D7 (a:ak)(a1:List Bool)(a2:List (List UInt8))(st:Int×Int×(List Bool)×(List (List UInt8))×(List aD)×(List aw)×Int×Int×(List Bool)×(List (List UInt8))×(List aD)×(List aw)×Int×Int):Option ((Int×Int×(List Bool)×(List (List UInt8))×(List aD)×(List aw)×Int×Int×(List Bool)×(List (List UInt8))×(List aD)×(List aw)×Int×Int)⊕((Int×Int×(List Bool)×(List (List UInt8))×(List aD)×(List aw)×Int×Int×(List Bool)×(List (List UInt8))×(List aD)×(List aw))⊕(Int×Int×(List Bool)×(List (List UInt8))×(List aD)×(List aw)×Int))):=if st.2.2.2.2.2.2.2.2.2.2.2.2.2<(a1.length:Int) then
 ix a1 st.2.2.2.2.2.2.2.2.2.2.2.2.2 λy=>
 bd (if y then
  some (fj .i64 (st.2.2.2.2.2.2.2.2.2.2.2.2.1-1))
  else
  some st.2.2.2.2.2.2.2.2.2.2.2.2.1:Option Int) λw2=>
 bd (ix a2 st.2.2.2.2.2.2.2.2.2.2.2.2.2 λy1=>
  if (6000:Int)<(y1.length:Int) then
  some true
  else
  some (decide (w2<0)):Option Bool) λw3=>
 if w3 then
 some (.inr (.inr (0,0,([]:List Bool),([]:List (List UInt8)),([]:List aD),([]:List aw),1)))
 else
 bd (mQ a st.2.2.2.2.2.2.2.2.2.2.2.2.2) λeU=>
 if (st.2.2.2.2.2.2.2.2.2.2.1.length+([eU.1]:List aD).length) *256<=2^46 then
 some (.inl (st.1,st.2.1,st.2.2.1,st.2.2.2.1,st.2.2.2.2.1,st.2.2.2.2.2.1,st.2.2.2.2.2.2.1,st.2.2.2.2.2.2.2.1,st.2.2.2.2.2.2.2.2.1,st.2.2.2.2.2.2.2.2.2.1,st.2.2.2.2.2.2.2.2.2.2.1++([eU.1]:List aD),st.2.2.2.2.2.2.2.2.2.2.2.1,w2,fj .i64 (st.2.2.2.2.2.2.2.2.2.2.2.2.2+1)))
 else none
 else
 some (.inr (.inl (st.1,st.2.1,st.2.2.1,st.2.2.2.1,st.2.2.2.2.1,st.2.2.2.2.2.1,st.2.2.2.2.2.2.1,st.2.2.2.2.2.2.2.1,st.2.2.2.2.2.2.2.2.1,st.2.2.2.2.2.2.2.2.2.1,st.2.2.2.2.2.2.2.2.2.2.1,st.2.2.2.2.2.2.2.2.2.2.2.1)))
def yb (a:ak)(a1:List Bool)(a2:List (List UInt8)):Option (aQ×Int):=bd (bd (jU a) λrA=>
  if !rA then
  some true
  else
  bd (qk a) λaY=>
  if !decide ((a1.length:Int)=aY) then
  some true
  else
  some (!decide ((a2.length:Int)=(a1.length:Int))):Option Bool) λw=>
 if w then
 some ((⟨(⟨0,0⟩:ak),([]:List Bool),([]:List (List UInt8)),([]:List aD),([]:List aw)⟩:aQ),1)
 else
 bd (zo 1 a1) λbH=>
 bd (zo 16 a2) λcr=>
 bd (Loop (D7 a a1 a2) (0,0,([]:List Bool),([]:List (List UInt8)),([]:List aD),([]:List aw),a.F,a.T,bH,cr,([]:List aD),([]:List aw),a.F,0)) λw1=>
 match w1 with
 | .inl p2=>some ((⟨(⟨p2.2.2.2.2.2.2.1,p2.2.2.2.2.2.2.2.1⟩:ak),p2.2.2.2.2.2.2.2.2.1,p2.2.2.2.2.2.2.2.2.2.1,p2.2.2.2.2.2.2.2.2.2.2.1,p2.2.2.2.2.2.2.2.2.2.2.2⟩:aQ),0)
 | .inr p3=>some ((⟨(⟨p3.1,p3.2.1⟩:ak),p3.2.2.1,p3.2.2.2.1,p3.2.2.2.2.1,p3.2.2.2.2.2.1⟩:aQ),p3.2.2.2.2.2.2)
def ql (b:List Int)(y:Int)(st:Int×Int):Option ((Int×Int)⊕Int):=if st.2<((AI (sh 0) (AT (sh (fj .i64 y)) (AI (sh 1) (AT (sh (b.length:Int)) b)))).length:Int) then
 ix (AI (sh 0) (AT (sh (fj .i64 y)) (AI (sh 1) (AT (sh (b.length:Int)) b)))) st.2 λy2=>
 if (0:Int)<=8 then
 some (.inl (bOr .u64 (fj .u64 (st.1 *2^min (sh 8) (BY .u64))) (fj .u64 y2),fj .i64 (st.2+1)))
 else none
 else
 some (.inr st.1)
def rC (b:List Int):Option (Int×(List Int)×Int):=if (b.length:Int)=0 then
 some (0,([]:List Int),2)
 else
 ix b 0 λy=>
 if (0:Int)<=1/\(1:Int)<=(b.length:Int)/\(b.length:Int)<=(b.length:Int) then
 bd (if (8:Int)<(fj .i64 y) then
  some true
  else
  if (0:Int)<(fj .i64 y) then
  if (0:Int)<((AI (sh 1) (AT (sh (b.length:Int)) b)).length:Int) then
  ix (AI (sh 1) (AT (sh (b.length:Int)) b)) 0 λy1=>
  some (decide (y1=0))
  else
  some false
  else
  some false:Option Bool) λw=>
 if w then
 some (0,([]:List Int),3)
 else
 if ((AI (sh 1) (AT (sh (b.length:Int)) b)).length:Int)<(fj .i64 y) then
 some (0,([]:List Int),2)
 else
 if (0:Int)<=0/\(0:Int)<=(fj .i64 y)/\(fj .i64 y)<=((AI (sh 1) (AT (sh (b.length:Int)) b)).length:Int) then
 bd (Loop (ql b y) (0,0)) λw1=>
 if (0:Int)<=(fj .i64 y)/\(fj .i64 y)<=((AI (sh 1) (AT (sh (b.length:Int)) b)).length:Int)/\((AI (sh 1) (AT (sh (b.length:Int)) b)).length:Int)<=((AI (sh 1) (AT (sh (b.length:Int)) b)).length:Int) then
 some (w1,AI (sh (fj .i64 y)) (AT (sh ((AI (sh 1) (AT (sh (b.length:Int)) b)).length:Int)) (AI (sh 1) (AT (sh (b.length:Int)) b))),0)
 else none
 else none
 else none
def oo (b:List Int):Option (Int×(List Int)×Int):=bd (rC b) λrA=>
 if (0:Int)<=1 then
 some (GW .i64 (fj .i64 (IN rA.1 (2^min (sh 1) (BY .u64)))) (fj .i64 (0-(fj .i64 (Vq .u64 rA.1 1)))),rA.2.1,rA.2.2)
 else none
def cI (t:aZ):Option (Int×aZ):=bd (if t.e=0 then
  bd (oo t.b) λrA=>
  some (rA.1,rA.2.1,rA.2.2)
  else
  some (0,t.b,t.e):Option (Int×(List Int)×Int)) λw=>
 some (w.1,(⟨w.2.1,w.2.2⟩:aZ))
def ku (b:List Int)(most:Int):Option ((List UInt8)×(List Int)×Int):=bd (rC b) λrA=>
 if !decide (rA.2.2=0) then
 some (([]:List UInt8),([]:List Int),rA.2.2)
 else
 if (fj .u64 (imax most 0))<rA.1 then
 some (([]:List UInt8),([]:List Int),5)
 else
 if (fj .u64 (rA.2.1.length:Int))<rA.1 then
 some (([]:List UInt8),([]:List Int),2)
 else
 if (0:Int)<=0/\(0:Int)<=rA.1/\rA.1<=(rA.2.1.length:Int) then
 Q5 (AI (sh 0) (AT (sh rA.1) rA.2.1)) λbs=>
 if (0:Int)<=rA.1/\rA.1<=(rA.2.1.length:Int)/\(rA.2.1.length:Int)<=(rA.2.1.length:Int) then
 some (bs,AI (sh rA.1) (AT (sh (rA.2.1.length:Int)) rA.2.1),0)
 else none
 else none
def dA (t:aZ):Option ((List UInt8)×aZ):=bd (if t.e=0 then
  bd (ku t.b 6000) λrA=>
  some (rA.1,rA.2.1,rA.2.2)
  else
  some (([]:List UInt8),t.b,t.e):Option ((List UInt8)×(List Int)×Int)) λw=>
 some (w.1,(⟨w.2.1,w.2.2⟩:aZ))
def cK (rA:Int×aZ)(st:(List aa)×Int×(List Int)×Int):Option (((List aa)×Int×(List Int)×Int)⊕((List aa)×(List Int)×Int)):=if st.2.1<((IS (sh rA.1) (⟨0,0,([]:List UInt8)⟩:aa)).length:Int) then
 bd (cI (⟨st.2.2.1,st.2.2.2⟩:aZ)) λaY=>
 ix st.1 st.2.1 λy=>
 some (.inl (st.1.set (sh st.2.1) (⟨aY.1,y.View,y.Value⟩:aa),fj .i64 (st.2.1+1),aY.2.b,aY.2.e))
 else
 some (.inr (st.1,st.2.2.1,st.2.2.2))
def fR (w3:(List aa)×(List Int)×Int)(bH:Int×aZ)(cr:(List UInt8)×aZ)(dC:(List aa)×Int):Option (((List aa)×Int)⊕(List aa)):=if dC.2<(w3.1.length:Int) then
 ix dC.1 dC.2 λy1=>
 ix (dC.1.set (sh dC.2) (⟨y1.By,bH.1,y1.Value⟩:aa)) dC.2 λy2=>
 some (.inl ((dC.1.set (sh dC.2) (⟨y1.By,bH.1,y1.Value⟩:aa)).set (sh dC.2) (⟨y2.By,y2.View,cr.1⟩:aa),fj .i64 (dC.2+1)))
 else
 some (.inr dC.1)
def dP (t:aZ):Option ((List aa)×aZ):=bd (cI t) λrA=>
 bd (if rA.1<0 then
  some true
  else
  some (decide ((100:Int)<rA.1)):Option Bool) λw=>
 bd (if w then
  some (rA.2.b,3)
  else
  some (rA.2.b,rA.2.e):Option ((List Int)×Int)) λw1=>
 bd (if !decide (w1.2=0) then
  some true
  else
  some (decide (rA.1=0)):Option Bool) λw2=>
 if w2 then
 some (([]:List aa),(⟨w1.1,w1.2⟩:aZ))
 else
 if (0:Int)<=rA.1/\rA.1=rA.1/\rA.1 *32<=2^46 then
 bd (Loop (cK rA) (IS (sh rA.1) (⟨0,0,([]:List UInt8)⟩:aa),0,w1.1,w1.2)) λw3=>
 bd (cI (⟨w3.2.1,w3.2.2⟩:aZ)) λbH=>
 bd (dA bH.2) λcr=>
 bd (Loop (fR w3 bH cr) (w3.1,0)) λw4=>
 some (w4,cr.2)
 else none
def iO (isA:Bool):Option Int:=if isA then
 some 1
 else
 some 0
def mR (sA:ak):Option Int:=bd (kO sA (4611686018427387904,4607182418800017408)) λrA=>some rA
def lG (a:aa):Option Bool:=bd (if (0:Int)<=a.By then
  if (0:Int)<=a.View then
  if a.View<=100000 then
  some (decide ((a.Value.length:Int)<=6000))
  else
  some false
  else
  some false
  else
  some false:Option Bool) λw=>
 some w
def r6 (t:az)(st:Int):Option (Int⊕(Unit⊕Bool)):=if st<(t.L.length:Int) then
 ix t.L st λy=>
 bd (bd (lG y) λrA=>
  if !rA then
  some true
  else
  if (0:Int)<st then
  ix t.L (fj .i64 (st-1)) λy1=>
  some (decide (y.By<=y1.By))
  else
  some false:Option Bool) λw1=>
 if w1 then
 some (.inr (.inr false))
 else
 some (.inl (fj .i64 (st+1)))
 else
 some (.inr (.inl ()))
def sI (t:az):Option Bool:=bd (Loop (r6 t) 0) λw=>
 match w with
 | .inl p1=>some true
 | .inr p2=>some p2
def mS (t:az)(view:Int)(value:List UInt8)(st:(List aa)×Int):Option (((List aa)×Int)⊕(List aa)):=if st.2<(t.L.length:Int) then
 ix t.L st.2 λy=>
 bd (if y.View=view then
  some (decide (y.Value=value))
  else
  some false:Option Bool) λw1=>
 bd (if w1 then
  if (st.1.length+([y]:List aa).length) *32<=2^46 then
  some (st.1++([y]:List aa))
  else none
  else
  some st.1:Option (List aa)) λw2=>
 some (.inl (w2,fj .i64 (st.2+1)))
 else
 some (.inr st.1)
def nv (t:az)(view:Int)(value:List UInt8):Option (List aa):=bd (Loop (mS t view value) (([]:List aa),0)) λw=>some w
def sJ (t:az)(view:Int)(value:List UInt8):Option Int:=bd (nv t view value) λrA=>some (rA.length:Int)
def hU (sA:ak)(p:List aa):Option Bool:=bd (bd (jU sA) λrA=>
  if !rA then
  some true
  else
  bd (mR sA) λaY=>
  if !decide ((p.length:Int)=aY) then
  some true
  else
  bd (sI (⟨p⟩:az)) λbH=>
  some (!bH):Option Bool) λw=>
 if w then
 some false
 else
 bd (ix p (fj .i64 ((p.length:Int)-1)) λy=>
  bd (qk sA) λcr=>
  if y.By<cr then
  ix p 0 λy1=>
  ix p 0 λy2=>
  bd (sJ (⟨p⟩:az) y1.View y2.Value) λeU=>
  some (decide (eU=(p.length:Int)))
  else
  some false:Option Bool) λw1=>
 some w1
def eK (a:aj):Option Bool:=bd (if a.View<0 then
  some true
  else
  some (decide ((100000:Int)<a.View)):Option Bool) λw=>
 if w then
 some false
 else
 bd (if a.Has then
  if a.At<0 then
  some true
  else
  if a.View<a.At then
  some true
  else
  some (decide ((6000:Int)<(a.Value.length:Int)))
  else
  some false:Option Bool) λw1=>
 if w1 then
 some false
 else
 bd (if !a.Has then
  if !decide (a.At=0) then
  some true
  else
  some (!decide (a.Value=([]:List UInt8)))
  else
  some false:Option Bool) λw2=>
 if w2 then
 some false
 else
 bd (if (a.Proof.length:Int)=0 then
  some true
  else
  bd (hU a.S a.Proof) λrA=>
  if rA then
  ix a.Proof 0 λy=>
  some (decide (y.View<=a.View))
  else
  some false:Option Bool) λw3=>
 some w3
def lH (a:ak)(a1:Int)(a2:List Int):Option (aj×Int):=bd (nu a a1) λrA=>
 if !decide (rA.2=0) then
 some ((⟨(⟨0,0⟩:ak),0,0,false,0,([]:List UInt8),([]:List aa),(⟨([]:List aa)⟩:az)⟩:aj),rA.2)
 else
 bd (cI (⟨a2,0⟩:aZ)) λaY=>
 bd (cI aY.2) λbH=>
 bd (cI bH.2) λcr=>
 bd (dA cr.2) λeU=>
 bd (dP eU.2) λkP=>
 bd (if !decide (kP.2.e=0) then
  some true
  else
  bd (iO (decide (bH.1=1))) λqm=>
  if !decide (bH.1=qm) then
  some true
  else
  if (0:Int)<(kP.2.b.length:Int) then
  some true
  else
  bd (eK (⟨rA.1.S,rA.1.Me,aY.1,decide (bH.1=1),cr.1,eU.1,kP.1,rA.1.bI⟩:aj)) λA8=>
  some (!A8):Option Bool) λw=>
 if w then
 some ((⟨(⟨0,0⟩:ak),0,0,false,0,([]:List UInt8),([]:List aa),(⟨([]:List aa)⟩:az)⟩:aj),3)
 else
 some ((⟨rA.1.S,rA.1.Me,aY.1,decide (bH.1=1),cr.1,eU.1,kP.1,rA.1.bI⟩:aj),0)
def oq (p:List aa):Option (Int×(List UInt8)×Bool):=if (p.length:Int)=0 then
 some ((-1),([]:List UInt8),false)
 else
 ix p 0 λy=>
 ix p 0 λy1=>
 some (y.View,y1.Value,true)
def zq (x:Int):Option Int:=bd (if (4294967296:Int)<=x then
  if (0:Int)<=32 then
  some (IN x (2^min (sh 32) (BY .u64)),32)
  else none
  else
  some (x,0):Option (Int×Int)) λw=>
 bd (if (65536:Int)<=w.1 then
  if (0:Int)<=16 then
  some (IN w.1 (2^min (sh 16) (BY .u64)),fj .i64 (w.2+16))
  else none
  else
  some (w.1,w.2):Option (Int×Int)) λw1=>
 bd (if (256:Int)<=w1.1 then
  if (0:Int)<=8 then
  some (IN w1.1 (2^min (sh 8) (BY .u64)),fj .i64 (w1.2+8))
  else none
  else
  some (w1.1,w1.2):Option (Int×Int)) λw2=>
 if (0:Int)<=(fj .u8 w2.1)/\(fj .u8 w2.1)<(((([0,1,2,2,3,3,3,3,4,4,4,4,4,4,4,4,5,5,5,5,5,5,5,5,5,5,5,5,5,5,5,5,6,6,6,6,6,6,6,6,6,6,6,6,6,6,6,6,6,6,6,6,6,6,6,6,6,6,6,6,6,6,6,6]:List UInt8)++([7,7,7,7,7,7,7,7,7,7,7,7,7,7,7,7,7,7,7,7,7,7,7,7,7,7,7,7,7,7,7,7,7,7,7,7,7,7,7,7,7,7,7,7,7,7,7,7,7,7,7,7,7,7,7,7,7,7,7,7,7,7,7,7]:List UInt8))++(([8,8,8,8,8,8,8,8,8,8,8,8,8,8,8,8,8,8,8,8,8,8,8,8,8,8,8,8,8,8,8,8,8,8,8,8,8,8,8,8,8,8,8,8,8,8,8,8,8,8,8,8,8,8,8,8,8,8,8,8,8,8,8,8]:List UInt8)++([8,8,8,8,8,8,8,8,8,8,8,8,8,8,8,8,8,8,8,8,8,8,8,8,8,8,8,8,8,8,8,8,8,8,8,8,8,8,8,8,8,8,8,8,8,8,8,8,8,8,8,8,8,8,8,8,8,8,8,8,8,8,8,8]:List UInt8))).length:Int) then
 some (fj .i64 (w2.2+(fj .i64 ((((([0,1,2,2,3,3,3,3,4,4,4,4,4,4,4,4,5,5,5,5,5,5,5,5,5,5,5,5,5,5,5,5,6,6,6,6,6,6,6,6,6,6,6,6,6,6,6,6,6,6,6,6,6,6,6,6,6,6,6,6,6,6,6,6]:List UInt8)++([7,7,7,7,7,7,7,7,7,7,7,7,7,7,7,7,7,7,7,7,7,7,7,7,7,7,7,7,7,7,7,7,7,7,7,7,7,7,7,7,7,7,7,7,7,7,7,7,7,7,7,7,7,7,7,7,7,7,7,7,7,7,7,7]:List UInt8))++(([8,8,8,8,8,8,8,8,8,8,8,8,8,8,8,8,8,8,8,8,8,8,8,8,8,8,8,8,8,8,8,8,8,8,8,8,8,8,8,8,8,8,8,8,8,8,8,8,8,8,8,8,8,8,8,8,8,8,8,8,8,8,8,8]:List UInt8)++([8,8,8,8,8,8,8,8,8,8,8,8,8,8,8,8,8,8,8,8,8,8,8,8,8,8,8,8,8,8,8,8,8,8,8,8,8,8,8,8,8,8,8,8,8,8,8,8,8,8,8,8,8,8,8,8,8,8,8,8,8,8,8,8]:List UInt8))).getD (sh (fj .u8 w2.1)) 0).toNat:Int))))
 else none
def uV (n:Int):Option Int:=bd (zq n) λrA=>
 if !decide ((8:Int)=0) then
 some (fj .i64 (1+(fj .i64 (No (fj .i64 (rA+7)) 8))))
 else none
def oQ (sA:List Int):Option (List Int):=if (sA.length:Int)=(sA.length:Int)/\(sA.length:Int)=(sA.length:Int) then
 some sA
 else none
def sK (n:Int)(st:(List Int)×Int):Option (((List Int)×Int)⊕(List Int)):=if (0:Int)<=st.2 then
 if (0:Int)<=(fj .i64 (8 *st.2)) then
 if (st.1.length+([fj .u8 (IN n (2^min (sh (fj .i64 (8 *st.2))) (BY .u64)))]:List Int).length) *1<=2^46 then
 some (.inl (st.1++([fj .u8 (IN n (2^min (sh (fj .i64 (8 *st.2))) (BY .u64)))]:List Int),fj .i64 (st.2-1)))
 else none
 else none
 else
 some (.inr st.1)
def uj (b:List Int)(n:Int):Option (List Int):=bd (uV n) λrA=>
 bd (oQ b) λaY=>
 if 0<([fj .u8 (fj .i64 (rA-1))]:List Int).length/\(aY.length+([fj .u8 (fj .i64 (rA-1))]:List Int).length) *1<=2^46 then
 bd (Loop (sK n) (aY++([fj .u8 (fj .i64 (rA-1))]:List Int),fj .i64 ((fj .i64 (rA-1))-1))) λw=>
 some w
 else none
def lI (b:List Int)(n:Int):Option (List Int):=if (0:Int)<=1 then
 if (0:Int)<=63 then
 bd (uj b (GW .u64 (fj .u64 ((fj .u64 n) *2^min (sh 1) (BY .u64))) (fj .u64 (IN n (2^min (sh 63) (BY .i64)))))) λrA=>
 some rA
 else none
 else none
def rD (b:List Int)(sA:List UInt8):Option (List Int):=bd (uj b (fj .u64 (sA.length:Int))) λrA=>
 if (rA.length+(A5 sA).length) *1<=2^46 then
 some (rA++(A5 sA))
 else none
def oR (a:aj)(st:(List Int)×Int):Option (((List Int)×Int)⊕(List Int)):=if st.2<(a.Proof.length:Int) then
 ix a.Proof st.2 λy=>
 bd (lI st.1 y.By) λqm=>
 some (.inl (qm,fj .i64 (st.2+1)))
 else
 some (.inr st.1)
def ot (a:aj):Option (List Int):=bd (lI ([]:List Int) a.View) λrA=>
 bd (iO a.Has) λaY=>
 bd (lI rA aY) λbH=>
 bd (lI bH a.At) λcr=>
 bd (rD cr a.Value) λeU=>
 bd (lI eU (a.Proof.length:Int)) λkP=>
 bd (Loop (oR a) (kP,0)) λw=>
 bd (oq a.Proof) λA8=>
 bd (if A8.2.2 then
  bd (lI w A8.1) λGR=>
  bd (rD GR A8.2.1) λrA9=>
  some rA9
  else
  some w:Option (List Int)) λw1=>
 some w1
def nw (sA:ak)(i:Int)(n:aD):Option aD:=bd (ot n.A) λrA=>
 bd (lH sA i rA) λaY=>
 bd (po sA) λbH=>
 some (⟨aY.1,bH.1,([]:List ae),aY.1.View⟩:aD)
def fG (c:aQ)(i:Int)(bad:Bool):Option Bool:=bd (if (0:Int)<=i then
  if i<(c.fW.length:Int) then
  ix c.fW i λy=>
  some (decide (y=bad))
  else
  some false
  else
  some false:Option Bool) λw=>
 some w
def pq (s1:List aa)(s2:List aa)(st:Int):Option (Int⊕(Unit⊕Bool)):=if st<(s1.length:Int) then
 ix s1 st λy=>
 ix s2 st λy1=>
 if !((decide (y.By=y1.By))&&((decide (y.View=y1.View))&&(decide (y.Value=y1.Value)))) then
 some (.inr (.inr false))
 else
 some (.inl (fj .i64 (st+1)))
 else
 some (.inr (.inl ()))
def lX (s1:List aa)(s2:List aa):Option Bool:=if !decide ((s1.length:Int)=(s2.length:Int)) then
 some false
 else
 bd (Loop (pq s1 s2) 0) λw=>
 match w with
 | .inl p1=>some true
 | .inr p2=>some p2
def D8 (a:List aa)(b:List aa):Option Bool:=bd (lX a b) λrA=>some rA
def r7 (x:ae)(y:ae):Option Bool:=bd (if x.By=y.By then
  if x.fP=y.fP then
  if x.Has=y.Has then
  if x.View=y.View then
  if x.Value=y.Value then
  bd (D8 x.Proof y.Proof) λrA=>
  some rA
  else
  some false
  else
  some false
  else
  some false
  else
  some false
  else
  some false:Option Bool) λw=>
 some w
def fg (s1:List ae)(s2:List ae)(eq:ae->ae->Option Bool)(st:Int):Option (Int⊕(Unit⊕Bool)):=if st<(s1.length:Int) then
 ix s1 st λy=>
 ix s2 st λy1=>
 bd (eq y y1) λrA=>
 if !rA then
 some (.inr (.inr false))
 else
 some (.inl (fj .i64 (st+1)))
 else
 some (.inr (.inl ()))
def dF (s1:List ae)(s2:List ae)(eq:ae->ae->Option Bool):Option Bool:=if !decide ((s1.length:Int)=(s2.length:Int)) then
 some false
 else
 bd (Loop (fg s1 s2 eq) 0) λw=>
 match w with
 | .inl p1=>some true
 | .inr p2=>some p2
def A9 (a:List ae)(b:List ae):Option Bool:=bd (dF a b r7) λrA=>some rA
def fX (m:aw)(c:ae):Option Bool:=bd (if m.Kind=4 then
  bd (A9 ([m.R]:List ae) ([c]:List ae)) λrA=>
  some rA
  else
  some false:Option Bool) λw=>
 some w
def mg (m:aw)(c:aa):Option Bool:=bd (if m.Kind=2 then
  some ((decide (m.fM.By=c.By))&&((decide (m.fM.View=c.View))&&(decide (m.fM.Value=c.Value))))
  else
  some false:Option Bool) λw=>
 some w
def nN (sA:List aw)(f:aw->Option Bool)(st:Int):Option (Int⊕(Unit⊕Int)):=if st<(sA.length:Int) then
 ix sA st λy=>
 bd (f y) λrA=>
 if rA then
 some (.inr (.inr st))
 else
 some (.inl (fj .i64 (st+1)))
 else
 some (.inr (.inl ()))
def kv (sA:List aw)(f:aw->Option Bool):Option Int:=bd (Loop (nN sA f) 0) λw=>
 match w with
 | .inl p1=>some (-1)
 | .inr p2=>some p2
def eH (sA:List aw)(f:aw->Option Bool):Option Bool:=bd (kv sA f) λrA=>some (decide ((0:Int)<=rA))
def te (c:aQ)(a:aa):Option Bool:=bd (bd (fG c a.By true) λrA=>
  if rA then
  some true
  else
  bd (eH c.cA (λu=>mg u a)) λaY=>
  some aY:Option Bool) λw=>
 some w
def ke (a:aa)(c:aQ):Option Bool:=bd (te c a) λrA=>some (!rA)
def mh (sA:List aa)(f:aa->Option Bool)(st:Int):Option (Int⊕(Unit⊕Int)):=if st<(sA.length:Int) then
 ix sA st λy=>
 bd (f y) λrA=>
 if rA then
 some (.inr (.inr st))
 else
 some (.inl (fj .i64 (st+1)))
 else
 some (.inr (.inl ()))
def ji (sA:List aa)(f:aa->Option Bool):Option Int:=bd (Loop (mh sA f) 0) λw=>
 match w with
 | .inl p1=>some (-1)
 | .inr p2=>some p2
def iy (sA:List aa)(f:aa->Option Bool):Option Bool:=bd (ji sA f) λrA=>some (decide ((0:Int)<=rA))
def jD (c:aQ)(lA:List aa):Option Bool:=bd (iy lA (λu=>ke u c)) λrA=>some (!rA)
def qn (c:aQ)(rA:ae):Option Bool:=bd (bd (fG c rA.By true) λaY=>
  if aY then
  bd (jD c rA.Proof) λbH=>
  if bH then
  some true
  else
  bd (eH c.cA (λu=>fX u rA)) λcr=>
  some cr
  else
  bd (eH c.cA (λu2=>fX u2 rA)) λeU=>
  some eU:Option Bool) λw=>
 some w
def tR (rA:ae)(c:aQ):Option Bool:=bd (qn c rA) λaY=>some (!aY)
def mi (sA:List ae)(f:ae->Option Bool)(st:Int):Option (Int⊕(Unit⊕Int)):=if st<(sA.length:Int) then
 ix sA st λy=>
 bd (f y) λrA=>
 if rA then
 some (.inr (.inr st))
 else
 some (.inl (fj .i64 (st+1)))
 else
 some (.inr (.inl ()))
def jk (sA:List ae)(f:ae->Option Bool):Option Int:=bd (Loop (mi sA f) 0) λw=>
 match w with
 | .inl p1=>some (-1)
 | .inr p2=>some p2
def iz (sA:List ae)(f:ae->Option Bool):Option Bool:=bd (jk sA f) λrA=>some (decide ((0:Int)<=rA))
def D9 (c:aQ)(m:aw):Option Bool:=if m.Kind=1 then
 bd (bd (fG c m.dU true) λrA=>
  if rA then
  bd (iz m.dX (λu=>tR u c)) λaY=>
  some (!aY)
  else
  some false:Option Bool) λw=>
 some w
 else
 if m.Kind=2 then
 bd (fG c m.fM.By true) λbH=>
 some bH
 else
 if m.Kind=3 then
 bd (bd (fG c m.dU true) λcr=>
  if cr then
  bd (jD c m.Proof) λeU=>
  some eU
  else
  some false:Option Bool) λw1=>
 some w1
 else
 if m.Kind=4 then
 bd (bd (fG c m.R.By true) λkP=>
  if kP then
  bd (jD c m.R.Proof) λqm=>
  some qm
  else
  some false:Option Bool) λw2=>
 some w2
 else
 if m.Kind=5 then
 bd (fG c m.dU true) λA8=>
 some A8
 else
 some false
def iW (sA:List aw):Option (List aw):=if (sA.length:Int)=(sA.length:Int)/\(sA.length:Int)=(sA.length:Int) then
 some sA
 else none
def kQ (sA:ak)(view:Int):Option Int:=bd (qk sA) λrA=>
 if !decide (rA=0) then
 some (OF (imax view 0) rA)
 else none
def lJ (rA:ae):Option Int:=bd (oq rA.Proof) λaY=>
 if !aY.2.2 then
 some (-1)
 else
 some aY.1
def uW (sA:ak):Option Int:=bd (kO sA (4607182418800017408,4607182418800017408)) λrA=>some rA
def mT (a1:List ae)(st:Int×(List UInt8)×Int):Option ((Int×(List UInt8)×Int)⊕(Int×(List UInt8))):=if st.2.2<(a1.length:Int) then
 ix a1 st.2.2 λy=>
 bd (lJ y) λrA=>
 bd (if st.1<rA then
  ix y.Proof 0 λy1=>
  some (rA,y1.Value)
  else
  some (st.1,st.2.1):Option (Int×(List UInt8))) λw1=>
 some (.inl (w1.1,w1.2,fj .i64 (st.2.2+1)))
 else
 some (.inr (st.1,st.2.1))
def qo (a1:List ae)(w:Int×(List UInt8))(dC:(List MV)×Int):Option (((List MV)×Int)⊕(List MV)):=if dC.2<(a1.length:Int) then
 ix a1 dC.2 λy2=>
 bd (if y2.Has then
  some (decide (w.1<y2.View))
  else
  some false:Option Bool) λw3=>
 bd (if w3 then
  some (uI (nU dC.1 ([.s y2.Value]:List MV) (.i .i64 0)) (df dC.1 ([.s y2.Value]:List MV)) (.i .i64 (fj .i64 ((oc dC.1 ([.s y2.Value]:List MV))+1))))
  else
  some dC.1:Option (List MV)) λw4=>
 some (.inl (w4,fj .i64 (dC.2+1)))
 else
 some (.inr dC.1)
def qp (a:ak)(m29:MV):Option (Unit⊕(Unit⊕((List UInt8)×Bool))):=Tn m29 λkey n=>
 bd (uW a) λaY=>
 if aY<=n then
 some (.inr (.inr (key,true)))
 else
 some (.inl ())
def ny (a:ak)(a1:List ae):Option ((List UInt8)×Bool):=bd (Loop (mT a1) ((-1),([]:List UInt8),0)) λw=>
 bd (Loop (qo a1 w) (([]:List MV),0)) λw2=>
 bd (uS (qp a) (some (.inl ())) w2) λw5=>
 match w5 with
 | .inl p5=>some (w.2,decide (((-1):Int)<w.1))
 | .inr p6=>some (p6.1,p6.2)
def uk (sA:ak):Option Int:=bd (kO sA (4611686018427387904,4611686018427387904)) λrA=>some rA
def o8 (a:ak)(a1:ae):Option Bool:=bd (bd (jU a) λrA=>
  if !rA then
  some true
  else
  if a1.By<0 then
  some true
  else
  bd (qk a) λaY=>
  if aY<=a1.By then
  some true
  else
  if a1.fP<1 then
  some true
  else
  some (decide ((100000:Int)<a1.fP)):Option Bool) λw=>
 if w then
 some false
 else
 bd (if !a1.Has then
  if !decide (a1.View=0) then
  some true
  else
  some (!decide (a1.Value=([]:List UInt8)))
  else
  some false:Option Bool) λw1=>
 if w1 then
 some false
 else
 bd (if a1.Has then
  if a1.View<0 then
  some true
  else
  if a1.fP<=a1.View then
  some true
  else
  some (decide ((6000:Int)<(a1.Value.length:Int)))
  else
  some false:Option Bool) λw2=>
 if w2 then
 some false
 else
 bd (if (a1.Proof.length:Int)=0 then
  some true
  else
  bd (hU a a1.Proof) λbH=>
  if bH then
  bd (lJ a1) λcr=>
  some (decide (cr<a1.fP))
  else
  some false:Option Bool) λw3=>
 some w3
def qq (sA:ak)(view:Int)(lA:List ae)(st:Int×Int):Option ((Int×Int)⊕(Unit⊕Bool)):=if st.2<(lA.length:Int) then
 ix lA st.2 λy=>
 bd (bd (o8 sA y) λbH=>
  if !bH then
  some true
  else
  if !decide (y.fP=view) then
  some true
  else
  some (decide (y.By<=st.1)):Option Bool) λw2=>
 if w2 then
 some (.inr (.inr false))
 else
 some (.inl (y.By,fj .i64 (st.2+1)))
 else
 some (.inr (.inl ()))
def qt (sA:ak)(view:Int)(lA:List ae):Option Bool:=bd (bd (jU sA) λrA=>
  if !rA then
  some true
  else
  bd (uk sA) λaY=>
  some (!decide ((lA.length:Int)=aY)):Option Bool) λw=>
 if w then
 some false
 else
 bd (Loop (qq sA view lA) ((-1),0)) λw1=>
 match w1 with
 | .inl p1=>some true
 | .inr p2=>some p2
def mU (sA:ak)(view:Int)(lA:List ae)(value:List UInt8):Option Bool:=bd (qt sA view lA) λrA=>
 if !rA then
 some false
 else
 bd (ny sA lA) λaY=>
 bd (if !aY.2 then
  some true
  else
  some (decide (aY.1=value)):Option Bool) λw=>
 some w
def fH (a:aj)(view:Int)(value:List UInt8)(jE:List ae):Option (aj×aa×Bool):=bd (if !decide (view=a.View) then
  some true
  else
  if a.Has then
  if a.At=view then
  some true
  else
  some (decide ((6000:Int)<(value.length:Int)))
  else
  some (decide ((6000:Int)<(value.length:Int))):Option Bool) λw=>
 if w then
 some (a,(⟨0,0,([]:List UInt8)⟩:aa),false)
 else
 bd (if view=0 then
  some (decide ((jE.length:Int)=0))
  else
  some false:Option Bool) λw1=>
 bd (if w1 then
  some (.inr (0,0,0,0,false,0,([]:List UInt8),([]:List aa),([]:List aa),0,0,([]:List UInt8)))
  else
  bd (mU a.S view jE value) λrA=>
  if !rA then
  some (.inl (a.S.F,a.S.T,a.Me,a.View,a.Has,a.At,a.Value,a.Proof,a.bI.L,0,0,([]:List UInt8),false))
  else
  some (.inr (0,0,0,0,false,0,([]:List UInt8),([]:List aa),([]:List aa),0,0,([]:List UInt8))):Option ((Int×Int×Int×Int×Bool×Int×(List UInt8)×(List aa)×(List aa)×Int×Int×(List UInt8)×Bool)⊕(Int×Int×Int×Int×Bool×Int×(List UInt8)×(List aa)×(List aa)×Int×Int×(List UInt8)))) λw2=>
 match w2 with
 | .inl p1=>some ((⟨(⟨p1.1,p1.2.1⟩:ak),p1.2.2.1,p1.2.2.2.1,p1.2.2.2.2.1,p1.2.2.2.2.2.1,p1.2.2.2.2.2.2.1,p1.2.2.2.2.2.2.2.1,(⟨p1.2.2.2.2.2.2.2.2.1⟩:az)⟩:aj),(⟨p1.2.2.2.2.2.2.2.2.2.1,p1.2.2.2.2.2.2.2.2.2.2.1,p1.2.2.2.2.2.2.2.2.2.2.2.1⟩:aa),p1.2.2.2.2.2.2.2.2.2.2.2.2)
 | .inr p2=>some ((⟨a.S,a.Me,a.View,true,view,value,a.Proof,a.bI⟩:aj),(⟨a.Me,view,value⟩:aa),true)
def nz (x:Int):Option Bool:=some (!decide (x=x))
def kw (x:Int)(y:Int):Option Int:=bd (nz x) λrA=>
 bd (nz y) λaY=>
 if rA then
 if aY then
 some 0
 else
 some (-1)
 else
 if aY then
 some 1
 else
 if x<y then
 some (-1)
 else
 if y<x then
 some 1
 else
 some 0
def kR (x:aa)(nA:Int):Option Int:=bd (kw x.By nA) λrA=>some rA
def ig (x:List aa)(target:Int)(cmp:aa->Int->Option Int)(st:Int×Int):Option ((Int×Int)⊕Int):=if st.1<st.2 then
 if (0:Int)<=1 then
 ix x (fj .i64 (IN (fj .u64 (fj .i64 (st.1+st.2))) (2^min (sh 1) (BY .u64)))) λy=>
 bd (cmp y target) λrA=>
 bd (if rA<0 then
  some (fj .i64 ((fj .i64 (IN (fj .u64 (fj .i64 (st.1+st.2))) (2^min (sh 1) (BY .u64))))+1),st.2)
  else
  some (st.1,fj .i64 (IN (fj .u64 (fj .i64 (st.1+st.2))) (2^min (sh 1) (BY .u64)))):Option (Int×Int)) λw1=>
 some (.inl (w1.1,w1.2))
 else none
 else
 some (.inr st.1)
def cZ (x:List aa)(target:Int)(cmp:aa->Int->Option Int):Option (Int×Bool):=bd (Loop (ig x target cmp) (0,(x.length:Int))) λw=>
 bd (if w<(x.length:Int) then
  ix x w λy1=>
  bd (cmp y1 target) λaY=>
  some (w,decide (aY=0))
  else
  some (w,false):Option (Int×Bool)) λw2=>
 some (w2.1,w2.2)
def iU (t:az)(a:aa):Option (az×Bool):=bd (lG a) λrA=>
 if !rA then
 some (t,false)
 else
 bd (cZ t.L a.By kR) λaY=>
 bd (if aY.2 then
  ix t.L aY.1 λy=>
  some (decide (a.View<=y.View))
  else
  some false:Option Bool) λw=>
 if w then
 some (t,false)
 else
 bd (zo 32 t.L) λbH=>
 bd (if aY.2 then
  ix bH aY.1 λy1=>
  some (bH.set (sh aY.1) a)
  else
  bd (B7 32 bH aY.1 ([a]:List aa)) λcr=>
  some cr:Option (List aa)) λw1=>
 some ((⟨w1⟩:az),true)
def tS (a:az)(st:(List MV)×Int):Option (((List MV)×Int)⊕(List MV)):=if st.2<(a.L.length:Int) then
 ix a.L st.2 λy=>
 if (0:Int)<=(df st.1 ([.i .i64 y.View,.s y.Value]:List MV):Int)/\sh (df st.1 ([.i .i64 y.View,.s y.Value]:List MV):Int)<(nU st.1 ([.i .i64 y.View,.s y.Value]:List MV) (.i .i64 0)).length then
 some (.inl (uI (nU st.1 ([.i .i64 y.View,.s y.Value]:List MV) (.i .i64 0)) (sh (df st.1 ([.i .i64 y.View,.s y.Value]:List MV):Int)) (.i .i64 (fj .i64 ((oc st.1 ([.i .i64 y.View,.s y.Value]:List MV))+1))),fj .i64 (st.2+1)))
 else none
 else
 some (.inr st.1)
def qu (a:az)(a1:Int)(w:(List MV))(dC:Int×(List UInt8)×Bool×Int):Option ((Int×(List UInt8)×Bool×Int)⊕(Int×(List UInt8)×Bool)):=if dC.2.2.2<(a.L.length:Int) then
 ix a.L dC.2.2.2 λy1=>
 bd (if (1:Int)<=a1 then
  if a1<=(oc w ([.i .i64 y1.View,.s y1.Value]:List MV)) then
  some (decide (dC.1<y1.View))
  else
  some false
  else
  some false:Option Bool) λw2=>
 bd (if w2 then
  some (y1.View,y1.Value,true)
  else
  some (dC.1,dC.2.1,dC.2.2.1):Option (Int×(List UInt8)×Bool)) λw3=>
 some (.inl (w3.1,w3.2.1,w3.2.2,fj .i64 (dC.2.2.2+1)))
 else
 some (.inr (dC.1,dC.2.1,dC.2.2.1))
def li (a:az)(a1:Int):Option (Int×(List UInt8)×Bool):=bd (Loop (tS a) (([]:List MV),0)) λw=>
 bd (Loop (qu a a1 w) ((-1),([]:List UInt8),false,0)) λw1=>
 if !w1.2.2 then
 some (0,([]:List UInt8),false)
 else
 some (w1.1,w1.2.1,true)
def uX (sA:ak)(t:az):Option ((List aa)×Bool):=bd (mR sA) λrA=>
 bd (li t rA) λaY=>
 if !aY.2.2 then
 some (([]:List aa),false)
 else
 bd (nv t aY.1 aY.2.1) λbH=>
 bd (mR sA) λcr=>
 if (0:Int)<=0/\(0:Int)<=cr/\cr<=(bH.length:Int) then
 some (AI (sh 0) (AT (sh cr) bH),true)
 else none
def lK (a:aj)(a1:aa):Option (aj×(List aa)×Bool):=bd (bd (qk a.S) λrA=>
  if rA<=a1.By then
  some true
  else
  some (!decide (a1.View=a.View)):Option Bool) λw=>
 if w then
 some (a,([]:List aa),false)
 else
 bd (iU a.bI a1) λaY=>
 bd (uX a.S aY.1) λbH=>
 bd (oq a.Proof) λcr=>
 bd (bd (lG a1) λeU=>
  if !eU then
  some true
  else
  if !bH.2 then
  some true
  else
  some (decide (a.View<=cr.1)):Option Bool) λw1=>
 if w1 then
 some ((⟨a.S,a.Me,a.View,a.Has,a.At,a.Value,a.Proof,aY.1⟩:aj),([]:List aa),false)
 else
 some ((⟨a.S,a.Me,a.View,a.Has,a.At,a.Value,bH.1,aY.1⟩:aj),bH.1,true)
def yc (sA:ak):Option Int:=bd (kO sA (4613937818241073152,4607182418800017408)) λrA=>some rA
def jb (lA:aq)(t:aq)(a:aa)(bY:Int):Option ((Bool×(List UInt8))×aq):=bd (if lA.bE then
  some true
  else
  if a.By<0 then
  some true
  else
  bd (qk lA.S) λrA=>
  if rA<=a.By then
  some true
  else
  bd (lG a) λaY=>
  some (!aY):Option Bool) λw=>
 if w then
 some ((false,([]:List UInt8)),t)
 else
 bd (iU t.aO a) λbH=>
 bd (li bH.1 bY) λcr=>
 some ((cr.2.2,cr.2.1),(⟨t.S,bH.1,t.aP,t.Told,t.bE,t.Value⟩:aq))
def jc (lA:aq)(t:aq)(a:aa)(bY:Int):Option ((Bool×(List UInt8))×aq):=bd (if lA.bE then
  some true
  else
  if a.By<0 then
  some true
  else
  bd (qk lA.S) λrA=>
  if rA<=a.By then
  some true
  else
  bd (lG a) λaY=>
  some (!aY):Option Bool) λw=>
 if w then
 some ((false,([]:List UInt8)),t)
 else
 bd (iU t.aP a) λbH=>
 bd (li bH.1 bY) λcr=>
 some ((cr.2.2,cr.2.1),(⟨t.S,t.aO,bH.1,t.Told,t.bE,t.Value⟩:aq))
def jd (lA:aq)(t:aq)(a:aa)(bY:Int):Option ((Bool×(List UInt8))×aq):=bd (if lA.bE then
  some true
  else
  if a.By<0 then
  some true
  else
  bd (qk lA.S) λrA=>
  if rA<=a.By then
  some true
  else
  bd (lG a) λaY=>
  some (!aY):Option Bool) λw=>
 if w then
 some ((false,([]:List UInt8)),t)
 else
 bd (iU t.Told a) λbH=>
 bd (li bH.1 bY) λcr=>
 some ((cr.2.2,cr.2.1),(⟨t.S,t.aO,t.aP,bH.1,t.bE,t.Value⟩:aq))
def iV (lA:aq)(a:aa):Option aq:=bd (yc lA.S) λrA=>
 bd (jb lA lA a rA) λaY=>
 bd (if aY.1.1 then
  some (aY.2.S.F,aY.2.S.T,aY.2.aO.L,aY.2.aP.L,aY.2.Told.L,true,aY.1.2)
  else
  some (aY.2.S.F,aY.2.S.T,aY.2.aO.L,aY.2.aP.L,aY.2.Told.L,aY.2.bE,aY.2.Value):Option (Int×Int×(List aa)×(List aa)×(List aa)×Bool×(List UInt8))) λw=>
 some (⟨(⟨w.1,w.2.1⟩:ak),(⟨w.2.2.1⟩:az),(⟨w.2.2.2.1⟩:az),(⟨w.2.2.2.2.1⟩:az),w.2.2.2.2.2.1,w.2.2.2.2.2.2⟩:aq)
def jF (lA:aq)(nA:Int)(p:List aa):Option aq:=bd (hU lA.S p) λrA=>
 if !rA then
 some lA
 else
 bd (oq p) λaY=>
 bd (mR lA.S) λbH=>
 bd (jc lA lA (⟨nA,aY.1,aY.2.1⟩:aa) bH) λcr=>
 bd (if cr.1.1 then
  some (cr.2.S.F,cr.2.S.T,cr.2.aO.L,cr.2.aP.L,cr.2.Told.L,true,cr.1.2)
  else
  some (cr.2.S.F,cr.2.S.T,cr.2.aO.L,cr.2.aP.L,cr.2.Told.L,cr.2.bE,cr.2.Value):Option (Int×Int×(List aa)×(List aa)×(List aa)×Bool×(List UInt8))) λw=>
 some (⟨(⟨w.1,w.2.1⟩:ak),(⟨w.2.2.1⟩:az),(⟨w.2.2.2.1⟩:az),(⟨w.2.2.2.2.1⟩:az),w.2.2.2.2.2.1,w.2.2.2.2.2.2⟩:aq)
def ga (x:ae)(nA:Int):Option Int:=bd (kw x.By nA) λrA=>some rA
def ik (x:List ae)(target:Int)(cmp:ae->Int->Option Int)(st:Int×Int):Option ((Int×Int)⊕Int):=if st.1<st.2 then
 if (0:Int)<=1 then
 ix x (fj .i64 (IN (fj .u64 (fj .i64 (st.1+st.2))) (2^min (sh 1) (BY .u64)))) λy=>
 bd (cmp y target) λrA=>
 bd (if rA<0 then
  some (fj .i64 ((fj .i64 (IN (fj .u64 (fj .i64 (st.1+st.2))) (2^min (sh 1) (BY .u64))))+1),st.2)
  else
  some (st.1,fj .i64 (IN (fj .u64 (fj .i64 (st.1+st.2))) (2^min (sh 1) (BY .u64)))):Option (Int×Int)) λw1=>
 some (.inl (w1.1,w1.2))
 else none
 else
 some (.inr st.1)
def da (x:List ae)(target:Int)(cmp:ae->Int->Option Int):Option (Int×Bool):=bd (Loop (ik x target cmp) (0,(x.length:Int))) λw=>
 bd (if w<(x.length:Int) then
  ix x w λy1=>
  bd (cmp y1 target) λaY=>
  some (w,decide (aY=0))
  else
  some (w,false):Option (Int×Bool)) λw2=>
 some (w2.1,w2.2)
def ou (n:aD)(sA:ak)(i:Int)(rA:ae):Option (Unit×aD):=bd (da n.cy rA.By ga) λaY=>
 bd (if !aY.2 then
  if n.A.View=rA.fP then
  bd (kQ sA rA.fP) λbH=>
  if bH=i then
  bd (o8 sA rA) λcr=>
  some cr
  else
  some false
  else
  some false
  else
  some false:Option Bool) λw=>
 bd (if w then
  bd (zo 72 n.cy) λeU=>
  bd (B7 72 eU aY.1 ([rA]:List ae)) λkP=>
  some (n.A.S.F,n.A.S.T,n.A.Me,n.A.View,n.A.Has,n.A.At,n.A.Value,n.A.Proof,n.A.bI.L,n.L.S.F,n.L.S.T,n.L.aO.L,n.L.aP.L,n.L.Told.L,n.L.bE,n.L.Value,kP,n.fh)
  else
  some (n.A.S.F,n.A.S.T,n.A.Me,n.A.View,n.A.Has,n.A.At,n.A.Value,n.A.Proof,n.A.bI.L,n.L.S.F,n.L.S.T,n.L.aO.L,n.L.aP.L,n.L.Told.L,n.L.bE,n.L.Value,n.cy,n.fh):Option (Int×Int×Int×Int×Bool×Int×(List UInt8)×(List aa)×(List aa)×Int×Int×(List aa)×(List aa)×(List aa)×Bool×(List UInt8)×(List ae)×Int)) λw1=>
 some ((),(⟨(⟨(⟨w1.1,w1.2.1⟩:ak),w1.2.2.1,w1.2.2.2.1,w1.2.2.2.2.1,w1.2.2.2.2.2.1,w1.2.2.2.2.2.2.1,w1.2.2.2.2.2.2.2.1,(⟨w1.2.2.2.2.2.2.2.2.1⟩:az)⟩:aj),(⟨(⟨w1.2.2.2.2.2.2.2.2.2.1,w1.2.2.2.2.2.2.2.2.2.2.1⟩:ak),(⟨w1.2.2.2.2.2.2.2.2.2.2.2.1⟩:az),(⟨w1.2.2.2.2.2.2.2.2.2.2.2.2.1⟩:az),(⟨w1.2.2.2.2.2.2.2.2.2.2.2.2.2.1⟩:az),w1.2.2.2.2.2.2.2.2.2.2.2.2.2.2.1,w1.2.2.2.2.2.2.2.2.2.2.2.2.2.2.2.1⟩:aq),w1.2.2.2.2.2.2.2.2.2.2.2.2.2.2.2.2.1,w1.2.2.2.2.2.2.2.2.2.2.2.2.2.2.2.2.2⟩:aD))
def yd (sA:ak):Option Int:=bd (kO sA (4607182418800017408,0)) λrA=>some rA
def qv (lA:aq)(nA:Int)(value:List UInt8):Option aq:=bd (yd lA.S) λrA=>
 bd (jd lA lA (⟨nA,0,value⟩:aa) rA) λaY=>
 bd (if aY.1.1 then
  some (aY.2.S.F,aY.2.S.T,aY.2.aO.L,aY.2.aP.L,aY.2.Told.L,true,aY.1.2)
  else
  some (aY.2.S.F,aY.2.S.T,aY.2.aO.L,aY.2.aP.L,aY.2.Told.L,aY.2.bE,aY.2.Value):Option (Int×Int×(List aa)×(List aa)×(List aa)×Bool×(List UInt8))) λw=>
 some (⟨(⟨w.1,w.2.1⟩:ak),(⟨w.2.2.1⟩:az),(⟨w.2.2.2.1⟩:az),(⟨w.2.2.2.2.1⟩:az),w.2.2.2.2.2.1,w.2.2.2.2.2.2⟩:aq)
def eI (a:ak)(a1:Int)(a2:aD)(a3:aw):Option (aD×(List aw)):=bd (if a3.Kind=1 then
  bd (kQ a a3.View) λrA=>
  if !decide (a3.dU=rA) then
  some (.inl (a2.A.S.F,a2.A.S.T,a2.A.Me,a2.A.View,a2.A.Has,a2.A.At,a2.A.Value,a2.A.Proof,a2.A.bI.L,a2.L.S.F,a2.L.S.T,a2.L.aO.L,a2.L.aP.L,a2.L.Told.L,a2.L.bE,a2.L.Value,a2.cy,a2.fh,([]:List aw)))
  else
  bd (fH a2.A a3.View a3.Value a3.dX) λaY=>
  bd (if aY.2.2 then
   if ([(⟨2,0,0,([]:List UInt8),([]:List ae),aY.2.1,([]:List aa),(⟨0,0,false,0,([]:List UInt8),([]:List aa)⟩:ae)⟩:aw)]:List aw).length *192<=2^46 then
   some ([(⟨2,0,0,([]:List UInt8),([]:List ae),aY.2.1,([]:List aa),(⟨0,0,false,0,([]:List UInt8),([]:List aa)⟩:ae)⟩:aw)]:List aw)
   else none
   else
   some ([]:List aw):Option (List aw)) λw1=>
  some (.inr (aY.1.S.F,aY.1.S.T,aY.1.Me,aY.1.View,aY.1.Has,aY.1.At,aY.1.Value,aY.1.Proof,aY.1.bI.L,a2.L.S.F,a2.L.S.T,a2.L.aO.L,a2.L.aP.L,a2.L.Told.L,a2.L.bE,a2.L.Value,a2.cy,a2.fh,w1))
  else
  bd (if a3.Kind=2 then
   bd (lK a2.A a3.fM) λbH=>
   bd (if bH.2.2 then
    if ([(⟨3,a1,0,([]:List UInt8),([]:List ae),(⟨0,0,([]:List UInt8)⟩:aa),bH.2.1,(⟨0,0,false,0,([]:List UInt8),([]:List aa)⟩:ae)⟩:aw)]:List aw).length *192<=2^46 then
    some ([(⟨3,a1,0,([]:List UInt8),([]:List ae),(⟨0,0,([]:List UInt8)⟩:aa),bH.2.1,(⟨0,0,false,0,([]:List UInt8),([]:List aa)⟩:ae)⟩:aw)]:List aw)
    else none
    else
    some ([]:List aw):Option (List aw)) λw3=>
   bd (iV a2.L a3.fM) λcr=>
   some (bH.1.S.F,bH.1.S.T,bH.1.Me,bH.1.View,bH.1.Has,bH.1.At,bH.1.Value,bH.1.Proof,bH.1.bI.L,cr.S.F,cr.S.T,cr.aO.L,cr.aP.L,cr.Told.L,cr.bE,cr.Value,a2.cy,a2.fh,w3)
   else
   bd (if a3.Kind=3 then
    bd (jF a2.L a3.dU a3.Proof) λeU=>
    some (a2.A.S.F,a2.A.S.T,a2.A.Me,a2.A.View,a2.A.Has,a2.A.At,a2.A.Value,a2.A.Proof,a2.A.bI.L,eU.S.F,eU.S.T,eU.aO.L,eU.aP.L,eU.Told.L,eU.bE,eU.Value,a2.cy,a2.fh)
    else
    bd (if a3.Kind=4 then
     bd (ou a2 a a1 a3.R) λkP=>
     some (kP.2.A.S.F,kP.2.A.S.T,kP.2.A.Me,kP.2.A.View,kP.2.A.Has,kP.2.A.At,kP.2.A.Value,kP.2.A.Proof,kP.2.A.bI.L,kP.2.L.S.F,kP.2.L.S.T,kP.2.L.aO.L,kP.2.L.aP.L,kP.2.L.Told.L,kP.2.L.bE,kP.2.L.Value,kP.2.cy,kP.2.fh)
     else
     bd (if a3.Kind=5 then
      bd (qv a2.L a3.dU a3.Value) λqm=>
      some (a2.A.S.F,a2.A.S.T,a2.A.Me,a2.A.View,a2.A.Has,a2.A.At,a2.A.Value,a2.A.Proof,a2.A.bI.L,qm.S.F,qm.S.T,qm.aO.L,qm.aP.L,qm.Told.L,qm.bE,qm.Value,a2.cy,a2.fh)
      else
      some (a2.A.S.F,a2.A.S.T,a2.A.Me,a2.A.View,a2.A.Has,a2.A.At,a2.A.Value,a2.A.Proof,a2.A.bI.L,a2.L.S.F,a2.L.S.T,a2.L.aO.L,a2.L.aP.L,a2.L.Told.L,a2.L.bE,a2.L.Value,a2.cy,a2.fh):Option (Int×Int×Int×Int×Bool×Int×(List UInt8)×(List aa)×(List aa)×Int×Int×(List aa)×(List aa)×(List aa)×Bool×(List UInt8)×(List ae)×Int)) λw6=>
     some w6:Option (Int×Int×Int×Int×Bool×Int×(List UInt8)×(List aa)×(List aa)×Int×Int×(List aa)×(List aa)×(List aa)×Bool×(List UInt8)×(List ae)×Int)) λw5=>
    some w5:Option (Int×Int×Int×Int×Bool×Int×(List UInt8)×(List aa)×(List aa)×Int×Int×(List aa)×(List aa)×(List aa)×Bool×(List UInt8)×(List ae)×Int)) λw4=>
   some (w4.1,w4.2.1,w4.2.2.1,w4.2.2.2.1,w4.2.2.2.2.1,w4.2.2.2.2.2.1,w4.2.2.2.2.2.2.1,w4.2.2.2.2.2.2.2.1,w4.2.2.2.2.2.2.2.2.1,w4.2.2.2.2.2.2.2.2.2.1,w4.2.2.2.2.2.2.2.2.2.2.1,w4.2.2.2.2.2.2.2.2.2.2.2.1,w4.2.2.2.2.2.2.2.2.2.2.2.2.1,w4.2.2.2.2.2.2.2.2.2.2.2.2.2.1,w4.2.2.2.2.2.2.2.2.2.2.2.2.2.2.1,w4.2.2.2.2.2.2.2.2.2.2.2.2.2.2.2.1,w4.2.2.2.2.2.2.2.2.2.2.2.2.2.2.2.2.1,w4.2.2.2.2.2.2.2.2.2.2.2.2.2.2.2.2.2,([]:List aw)):Option (Int×Int×Int×Int×Bool×Int×(List UInt8)×(List aa)×(List aa)×Int×Int×(List aa)×(List aa)×(List aa)×Bool×(List UInt8)×(List ae)×Int×(List aw))) λw2=>
  some (.inr w2):Option ((Int×Int×Int×Int×Bool×Int×(List UInt8)×(List aa)×(List aa)×Int×Int×(List aa)×(List aa)×(List aa)×Bool×(List UInt8)×(List ae)×Int×(List aw))⊕(Int×Int×Int×Int×Bool×Int×(List UInt8)×(List aa)×(List aa)×Int×Int×(List aa)×(List aa)×(List aa)×Bool×(List UInt8)×(List ae)×Int×(List aw)))) λw=>
 match w with
 | .inl p7=>
  bd (if p7.2.2.2.2.2.2.2.2.2.2.2.2.2.2.1 then
   some (!a2.L.bE)
   else
   some false:Option Bool) λw7=>
  bd (if w7 then
   if (p7.2.2.2.2.2.2.2.2.2.2.2.2.2.2.2.2.2.2.length+([(⟨5,a1,0,p7.2.2.2.2.2.2.2.2.2.2.2.2.2.2.2.1,([]:List ae),(⟨0,0,([]:List UInt8)⟩:aa),([]:List aa),(⟨0,0,false,0,([]:List UInt8),([]:List aa)⟩:ae)⟩:aw)]:List aw).length) *192<=2^46 then
   some (p7.2.2.2.2.2.2.2.2.2.2.2.2.2.2.2.2.2.2++([(⟨5,a1,0,p7.2.2.2.2.2.2.2.2.2.2.2.2.2.2.2.1,([]:List ae),(⟨0,0,([]:List UInt8)⟩:aa),([]:List aa),(⟨0,0,false,0,([]:List UInt8),([]:List aa)⟩:ae)⟩:aw)]:List aw))
   else none
   else
   some p7.2.2.2.2.2.2.2.2.2.2.2.2.2.2.2.2.2.2:Option (List aw)) λw8=>
  some ((⟨(⟨(⟨p7.1,p7.2.1⟩:ak),p7.2.2.1,p7.2.2.2.1,p7.2.2.2.2.1,p7.2.2.2.2.2.1,p7.2.2.2.2.2.2.1,p7.2.2.2.2.2.2.2.1,(⟨p7.2.2.2.2.2.2.2.2.1⟩:az)⟩:aj),(⟨(⟨p7.2.2.2.2.2.2.2.2.2.1,p7.2.2.2.2.2.2.2.2.2.2.1⟩:ak),(⟨p7.2.2.2.2.2.2.2.2.2.2.2.1⟩:az),(⟨p7.2.2.2.2.2.2.2.2.2.2.2.2.1⟩:az),(⟨p7.2.2.2.2.2.2.2.2.2.2.2.2.2.1⟩:az),p7.2.2.2.2.2.2.2.2.2.2.2.2.2.2.1,p7.2.2.2.2.2.2.2.2.2.2.2.2.2.2.2.1⟩:aq),p7.2.2.2.2.2.2.2.2.2.2.2.2.2.2.2.2.1,p7.2.2.2.2.2.2.2.2.2.2.2.2.2.2.2.2.2.1⟩:aD),w8)
 | .inr p8=>
  bd (if p8.2.2.2.2.2.2.2.2.2.2.2.2.2.2.1 then
   some (!a2.L.bE)
   else
   some false:Option Bool) λw9=>
  bd (if w9 then
   if (p8.2.2.2.2.2.2.2.2.2.2.2.2.2.2.2.2.2.2.length+([(⟨5,a1,0,p8.2.2.2.2.2.2.2.2.2.2.2.2.2.2.2.1,([]:List ae),(⟨0,0,([]:List UInt8)⟩:aa),([]:List aa),(⟨0,0,false,0,([]:List UInt8),([]:List aa)⟩:ae)⟩:aw)]:List aw).length) *192<=2^46 then
   some (p8.2.2.2.2.2.2.2.2.2.2.2.2.2.2.2.2.2.2++([(⟨5,a1,0,p8.2.2.2.2.2.2.2.2.2.2.2.2.2.2.2.1,([]:List ae),(⟨0,0,([]:List UInt8)⟩:aa),([]:List aa),(⟨0,0,false,0,([]:List UInt8),([]:List aa)⟩:ae)⟩:aw)]:List aw))
   else none
   else
   some p8.2.2.2.2.2.2.2.2.2.2.2.2.2.2.2.2.2.2:Option (List aw)) λw10=>
  some ((⟨(⟨(⟨p8.1,p8.2.1⟩:ak),p8.2.2.1,p8.2.2.2.1,p8.2.2.2.2.1,p8.2.2.2.2.2.1,p8.2.2.2.2.2.2.1,p8.2.2.2.2.2.2.2.1,(⟨p8.2.2.2.2.2.2.2.2.1⟩:az)⟩:aj),(⟨(⟨p8.2.2.2.2.2.2.2.2.2.1,p8.2.2.2.2.2.2.2.2.2.2.1⟩:ak),(⟨p8.2.2.2.2.2.2.2.2.2.2.2.1⟩:az),(⟨p8.2.2.2.2.2.2.2.2.2.2.2.2.1⟩:az),(⟨p8.2.2.2.2.2.2.2.2.2.2.2.2.2.1⟩:az),p8.2.2.2.2.2.2.2.2.2.2.2.2.2.2.1,p8.2.2.2.2.2.2.2.2.2.2.2.2.2.2.2.1⟩:aq),p8.2.2.2.2.2.2.2.2.2.2.2.2.2.2.2.2.1,p8.2.2.2.2.2.2.2.2.2.2.2.2.2.2.2.2.2.1⟩:aD),w10)
def xr (a:aj):Option ae:=some (⟨a.Me,a.View,a.Has,a.At,a.Value,a.Proof⟩:ae)
def mV (a:aj)(view:Int):Option (aj×ae×Bool):=bd (if view<=a.View then
  some true
  else
  some (decide ((100000:Int)<view)):Option Bool) λw=>
 if w then
 some (a,(⟨0,0,false,0,([]:List UInt8),([]:List aa)⟩:ae),false)
 else
 bd (xr (⟨a.S,a.Me,view,a.Has,a.At,a.Value,a.Proof,(⟨([]:List aa)⟩:az)⟩:aj)) λrA=>
 some ((⟨a.S,a.Me,view,a.Has,a.At,a.Value,a.Proof,(⟨([]:List aa)⟩:az)⟩:aj),rA,true)
def pu (x_:ak)(x_1:Int)(n:aD)(view:Int):Option (aD×(List aw)):=bd (mV n.A view) λrA=>
 if !rA.2.2 then
 some (n,([]:List aw))
 else
 some ((⟨rA.1,n.L,([]:List ae),n.fh⟩:aD),([(⟨4,0,0,([]:List UInt8),([]:List ae),(⟨0,0,([]:List UInt8)⟩:aa),([]:List aa),rA.2.1⟩:aw)]:List aw))
def iA (a:ak)(a1:Int)(a2:aD)(a3:List UInt8):Option (aD×(List aw)):=bd (uk a) λrA=>
 bd (bd (kQ a a2.A.View) λaY=>
  if !decide (aY=a1) then
  some true
  else
  some (decide (a2.A.View<=a2.fh)):Option Bool) λw=>
 if w then
 some (a2,([]:List aw))
 else
 bd (if (0:Int)<a2.A.View then
  some (decide ((a2.cy.length:Int)<rA))
  else
  some false:Option Bool) λw1=>
 if w1 then
 some (a2,([]:List aw))
 else
 bd (if (0:Int)<a2.A.View then
  if (0:Int)<=0/\(0:Int)<=rA/\rA<=(a2.cy.length:Int) then
  bd (zo 72 (AI (sh 0) (AT (sh rA) a2.cy))) λbH=>
  bd (ny a bH) λcr=>
  bd (if cr.2 then
   some (1,a1,a2.A.View,cr.1,bH,0,0,([]:List UInt8),([]:List aa),0,0,false,0,([]:List UInt8),([]:List aa))
   else
   some (1,a1,a2.A.View,a3,bH,0,0,([]:List UInt8),([]:List aa),0,0,false,0,([]:List UInt8),([]:List aa)):Option (Int×Int×Int×(List UInt8)×(List ae)×Int×Int×(List UInt8)×(List aa)×Int×Int×Bool×Int×(List UInt8)×(List aa))) λw3=>
  some w3
  else none
  else
  some (1,a1,a2.A.View,a3,([]:List ae),0,0,([]:List UInt8),([]:List aa),0,0,false,0,([]:List UInt8),([]:List aa)):Option (Int×Int×Int×(List UInt8)×(List ae)×Int×Int×(List UInt8)×(List aa)×Int×Int×Bool×Int×(List UInt8)×(List aa))) λw2=>
 some ((⟨a2.A,a2.L,a2.cy,w2.2.2.1⟩:aD),([(⟨w2.1,w2.2.1,w2.2.2.1,w2.2.2.2.1,w2.2.2.2.2.1,(⟨w2.2.2.2.2.2.1,w2.2.2.2.2.2.2.1,w2.2.2.2.2.2.2.2.1⟩:aa),w2.2.2.2.2.2.2.2.2.1,(⟨w2.2.2.2.2.2.2.2.2.2.1,w2.2.2.2.2.2.2.2.2.2.2.1,w2.2.2.2.2.2.2.2.2.2.2.2.1,w2.2.2.2.2.2.2.2.2.2.2.2.2.1,w2.2.2.2.2.2.2.2.2.2.2.2.2.2.1,w2.2.2.2.2.2.2.2.2.2.2.2.2.2.2⟩:ae)⟩:aw)]:List aw))
def jG (c:aQ)(i:Int):Option ((List UInt8)×Bool):=bd (bd (fG c i false) λrA=>
  if !rA then
  some true
  else
  ix c.N i λy=>
  some (!y.L.bE):Option Bool) λw=>
 if w then
 some (([]:List UInt8),false)
 else
 ix c.N i λy1=>
 some (y1.L.Value,true)
def lL (sA:aV):Option Bool:=bd (if (1:Int)<=sA.F then
  if sA.F<=5 then
  if (0:Int)<=sA.T then
  some (decide (sA.T<=sA.F))
  else
  some false
  else
  some false
  else
  some false:Option Bool) λw=>
 some w
def sL (sA:aV):Option Int:=some (fj .i64 ((fj .i64 ((fj .i64 (3 *sA.F))+(fj .i64 (2 *sA.T))))+1))
def wG (sA:aV)(me:Int):Option (aN×Int):=bd (bd (lL sA) λrA=>
  if !rA then
  some true
  else
  if me<0 then
  some true
  else
  bd (sL sA) λaY=>
  some (decide (aY<=me)):Option Bool) λw=>
 if w then
 some ((⟨(⟨0,0⟩:aV),0,0,false,0,([]:List UInt8),([]:List aa),(⟨([]:List aa)⟩:aL)⟩:aN),1)
 else
 some ((⟨sA,me,0,false,0,([]:List UInt8),([]:List aa),(⟨([]:List aa)⟩:aL)⟩:aN),0)
def Ca (sA:aV):Option (bq×Int):=bd (lL sA) λrA=>
 if !rA then
 some ((⟨(⟨0,0⟩:aV),(⟨([]:List aa)⟩:aL),(⟨([]:List aa)⟩:aL),(⟨([]:List aa)⟩:aL),false,([]:List UInt8)⟩:bq),1)
 else
 some ((⟨sA,(⟨([]:List aa)⟩:aL),(⟨([]:List aa)⟩:aL),(⟨([]:List aa)⟩:aL),false,([]:List UInt8)⟩:bq),0)
def rE (sA:aV)(i:Int):Option (cC×Int):=bd (wG sA i) λrA=>
 if !decide (rA.2=0) then
 some ((⟨(⟨(⟨0,0⟩:aV),0,0,false,0,([]:List UInt8),([]:List aa),(⟨([]:List aa)⟩:aL)⟩:aN),(⟨(⟨0,0⟩:aV),(⟨([]:List aa)⟩:aL),(⟨([]:List aa)⟩:aL),(⟨([]:List aa)⟩:aL),false,([]:List UInt8)⟩:bq),([]:List ae),0⟩:cC),rA.2)
 else
 bd (Ca sA) λaY=>
 some ((⟨rA.1,aY.1,([]:List ae),(-1)⟩:cC),0)
def lM (sA:ak):Option aV:=some (⟨sA.F,sA.T⟩:aV)
def uY (a:List aa)(b:List aa)(st:Int):Option (Int⊕(Unit⊕Bool)):=if st<(a.length:Int) then
 ix a st λy=>
 ix b st λy1=>
 if !((decide (y.By=y1.By))&&((decide (y.View=y1.View))&&(decide (y.Value=y1.Value)))) then
 some (.inr (.inr false))
 else
 some (.inl (fj .i64 (st+1)))
 else
 some (.inr (.inl ()))
def lB (a:List aa)(b:List aa):Option Bool:=if !decide ((a.length:Int)=(b.length:Int)) then
 some false
 else
 bd (Loop (uY a b) 0) λw=>
 match w with
 | .inl p1=>some true
 | .inr p2=>some p2
def qw (a:aN)(b:aN):Option Bool:=bd (if ((decide (a.S.F=b.S.F))&&(decide (a.S.T=b.S.T))) then
  if a.Me=b.Me then
  if a.View=b.View then
  if a.Has=b.Has then
  if a.At=b.At then
  some (decide (a.Value=b.Value))
  else
  some false
  else
  some false
  else
  some false
  else
  some false
  else
  some false:Option Bool) λw=>
 bd (if w then
  bd (lB a.Proof b.Proof) λrA=>
  if rA then
  bd (lB a.bI.L b.bI.L) λaY=>
  some aY
  else
  some false
  else
  some false:Option Bool) λw1=>
 some w1
def sM (a:bq)(b:bq):Option Bool:=bd (if ((decide (a.S.F=b.S.F))&&(decide (a.S.T=b.S.T))) then
  if a.bE=b.bE then
  some (decide (a.Value=b.Value))
  else
  some false
  else
  some false:Option Bool) λw=>
 bd (if w then
  bd (lB a.aO.L b.aO.L) λrA=>
  if rA then
  bd (lB a.aP.L b.aP.L) λaY=>
  if aY then
  bd (lB a.Told.L b.Told.L) λbH=>
  some bH
  else
  some false
  else
  some false
  else
  some false:Option Bool) λw1=>
 some w1
def zr (a:ae)(b:ae):Option Bool:=bd (if a.By=b.By then
  if a.fP=b.fP then
  if a.Has=b.Has then
  if a.View=b.View then
  if a.Value=b.Value then
  bd (lB a.Proof b.Proof) λrA=>
  some rA
  else
  some false
  else
  some false
  else
  some false
  else
  some false
  else
  some false:Option Bool) λw=>
 some w
def uZ (a:List ae)(b:List ae)(st:Int):Option (Int⊕(Unit⊕Bool)):=if st<(a.length:Int) then
 ix a st λy=>
 ix b st λy1=>
 bd (zr y y1) λrA=>
 if !rA then
 some (.inr (.inr false))
 else
 some (.inl (fj .i64 (st+1)))
 else
 some (.inr (.inl ()))
def qx (a:List ae)(b:List ae):Option Bool:=if !decide ((a.length:Int)=(b.length:Int)) then
 some false
 else
 bd (Loop (uZ a b) 0) λw=>
 match w with
 | .inl p1=>some true
 | .inr p2=>some p2
def pv (x:cC)(y:cC):Option Bool:=bd (bd (qw x.A y.A) λrA=>
  if rA then
  bd (sM x.L y.L) λaY=>
  if aY then
  bd (qx x.cy y.cy) λbH=>
  if bH then
  some (decide (x.fh=y.fh))
  else
  some false
  else
  some false
  else
  some false:Option Bool) λw=>
 some w
def Ba (n:aD):Option cC:=bd (lM n.A.S) λrA=>
 bd (lM n.L.S) λaY=>
 some (⟨(⟨rA,n.A.Me,n.A.View,n.A.Has,n.A.At,n.A.Value,n.A.Proof,(⟨n.A.bI.L⟩:aL)⟩:aN),(⟨aY,(⟨n.L.aO.L⟩:aL),(⟨n.L.aP.L⟩:aL),(⟨n.L.Told.L⟩:aL),n.L.bE,n.L.Value⟩:bq),n.cy,n.fh⟩:cC)
def o9 (sA:aV)(view:Int):Option Int:=bd (sL sA) λrA=>
 if !decide (rA=0) then
 some (OF (imax view 0) rA)
 else none
def K0 (p:List aa):Option (Int×(List UInt8)×Bool):=if (p.length:Int)=0 then
 some ((-1),([]:List UInt8),false)
 else
 ix p 0 λy=>
 ix p 0 λy1=>
 some (y.View,y1.Value,true)
def ye (sA:aV):Option Int:=some (fj .i64 ((fj .i64 (sA.F+sA.T))+1))
def sN (a1:List ae)(st:Int×(List UInt8)×Int):Option ((Int×(List UInt8)×Int)⊕(Int×(List UInt8))):=if st.2.2<(a1.length:Int) then
 ix a1 st.2.2 λy=>
 bd (K0 y.Proof) λrA=>
 bd (if rA.2.2 then
  some (decide (st.1<rA.1))
  else
  some false:Option Bool) λw1=>
 bd (if w1 then
  some (rA.1,rA.2.1)
  else
  some (st.1,st.2.1):Option (Int×(List UInt8))) λw2=>
 some (.inl (w2.1,w2.2,fj .i64 (st.2.2+1)))
 else
 some (.inr (st.1,st.2.1))
def sO (a1:List ae)(w:Int×(List UInt8))(dC:Int)(eM:Int×Int):Option ((Int×Int)⊕Int):=if eM.2<(a1.length:Int) then
 bd (ix a1 eM.2 λy1=>
  if y1.Has then
  ix a1 eM.2 λy2=>
  if w.1<y2.View then
  ix a1 dC λy3=>
  if y3.Has then
  ix a1 dC λy4=>
  if w.1<y4.View then
  ix a1 eM.2 λy5=>
  ix a1 dC λy6=>
  some (decide (y5.Value=y6.Value))
  else
  some false
  else
  some false
  else
  some false
  else
  some false:Option Bool) λw5=>
 bd (if w5 then
  some (fj .i64 (eM.1+1))
  else
  some eM.1:Option Int) λw6=>
 some (.inl (w6,fj .i64 (eM.2+1)))
 else
 some (.inr eM.1)
def wH (a:aV)(a1:List ae)(w:Int×(List UInt8))(dC:Int):Option (Int⊕(Unit⊕((List UInt8)×Bool))):=if dC<(a1.length:Int) then
 bd (Loop (sO a1 w dC) (0,0)) λw4=>
 bd (ye a) λaY=>
 if aY<=w4 then
 ix a1 dC λy7=>
 some (.inr (.inr (y7.Value,true)))
 else
 some (.inl (fj .i64 (dC+1)))
 else
 some (.inr (.inl ()))
def ul (a:aV)(a1:List ae):Option ((List UInt8)×Bool):=bd (Loop (sN a1) ((-1),([]:List UInt8),0)) λw=>
 bd (Loop (wH a a1 w) 0) λw3=>
 match w3 with
 | .inl p5=>some (w.2,decide ((0:Int)<=w.1))
 | .inr p6=>some (p6.1,p6.2)
def yf (sA:aV):Option Int:=some (fj .i64 ((fj .i64 ((fj .i64 (2 *sA.F))+(fj .i64 (2 *sA.T))))+1))
def tT (a:aa):Option Bool:=bd (if (0:Int)<=a.By then
  if (0:Int)<=a.View then
  if a.View<=100000 then
  some (decide ((a.Value.length:Int)<=6000))
  else
  some false
  else
  some false
  else
  some false:Option Bool) λw=>
 some w
def pw (sA:aV):Option Int:=some (fj .i64 ((fj .i64 ((fj .i64 (2 *sA.F))+sA.T))+1))
def wI (a:aV)(a1:List aa)(st:Int):Option (Int⊕(Unit⊕Bool)):=if st<(a1.length:Int) then
 ix a1 st λy=>
 bd (bd (tT y) λbH=>
  if !bH then
  some true
  else
  bd (sL a) λcr=>
  if cr<=y.By then
  some true
  else
  ix a1 0 λy1=>
  if !decide (y.View=y1.View) then
  some true
  else
  ix a1 0 λy2=>
  if !decide (y.Value=y2.Value) then
  some true
  else
  if (0:Int)<st then
  ix a1 (fj .i64 (st-1)) λy3=>
  some (decide (y.By<=y3.By))
  else
  some false:Option Bool) λw2=>
 if w2 then
 some (.inr (.inr false))
 else
 some (.inl (fj .i64 (st+1)))
 else
 some (.inr (.inl ()))
def kz (a:aV)(a1:List aa):Option Bool:=bd (bd (lL a) λrA=>
  if !rA then
  some true
  else
  bd (pw a) λaY=>
  some (!decide ((a1.length:Int)=aY)):Option Bool) λw=>
 if w then
 some false
 else
 bd (Loop (wI a a1) 0) λw1=>
 match w1 with
 | .inl p1=>some true
 | .inr p2=>some p2
def Cb (a:aV)(a1:ae):Option Bool:=bd (bd (lL a) λrA=>
  if !rA then
  some true
  else
  if a1.By<0 then
  some true
  else
  bd (sL a) λaY=>
  if aY<=a1.By then
  some true
  else
  if a1.fP<1 then
  some true
  else
  some (decide ((100000:Int)<a1.fP)):Option Bool) λw=>
 if w then
 some false
 else
 bd (if a1.Has then
  if a1.View<0 then
  some true
  else
  if a1.fP<=a1.View then
  some true
  else
  if (6000:Int)<(a1.Value.length:Int) then
  some true
  else
  if !a1.Has then
  if !decide (a1.View=0) then
  some true
  else
  some (!decide (a1.Value=([]:List UInt8)))
  else
  some false
  else
  if !a1.Has then
  if !decide (a1.View=0) then
  some true
  else
  some (!decide (a1.Value=([]:List UInt8)))
  else
  some false:Option Bool) λw1=>
 if w1 then
 some false
 else
 bd (if (a1.Proof.length:Int)=0 then
  some true
  else
  bd (kz a a1.Proof) λbH=>
  if bH then
  ix a1.Proof 0 λy=>
  some (decide (y.View<a1.fP))
  else
  some false:Option Bool) λw2=>
 some w2
def wJ (sA:aV)(view:Int)(lA:List ae)(st:Int):Option (Int⊕(Unit⊕Bool)):=if st<(lA.length:Int) then
 bd (ix lA st λy=>
  bd (Cb sA y) λbH=>
  if !bH then
  some true
  else
  ix lA st λy1=>
  if !decide (y1.fP=view) then
  some true
  else
  if (0:Int)<st then
  ix lA (fj .i64 (st-1)) λy2=>
  ix lA st λy3=>
  some (decide (y3.By<=y2.By))
  else
  some false:Option Bool) λw2=>
 if w2 then
 some (.inr (.inr false))
 else
 some (.inl (fj .i64 (st+1)))
 else
 some (.inr (.inl ()))
def yg (sA:aV)(view:Int)(lA:List ae):Option Bool:=bd (bd (lL sA) λrA=>
  if !rA then
  some true
  else
  bd (yf sA) λaY=>
  some (!decide ((lA.length:Int)=aY)):Option Bool) λw=>
 if w then
 some false
 else
 bd (Loop (wJ sA view lA) 0) λw1=>
 match w1 with
 | .inl p1=>some true
 | .inr p2=>some p2
def ia (sA:aV)(view:Int)(lA:List ae)(value:List UInt8):Option Bool:=bd (yg sA view lA) λrA=>
 if !rA then
 some false
 else
 bd (ul sA lA) λaY=>
 bd (if !aY.2 then
  some true
  else
  some (decide (aY.1=value)):Option Bool) λw=>
 some w
def sP (a:aN)(view:Int)(value:List UInt8)(jE:List ae):Option (aN×aa×Bool):=bd (if view=0 then
  some (decide ((jE.length:Int)=0))
  else
  some false:Option Bool) λw=>
 bd (if !decide (view=a.View) then
  some true
  else
  if a.Has then
  if a.At=view then
  some true
  else
  if (6000:Int)<(value.length:Int) then
  some true
  else
  if !w then
  bd (ia a.S view jE value) λrA=>
  some (!rA)
  else
  some false
  else
  if (6000:Int)<(value.length:Int) then
  some true
  else
  if !w then
  bd (ia a.S view jE value) λaY=>
  some (!aY)
  else
  some false:Option Bool) λw1=>
 if w1 then
 some (a,(⟨0,0,([]:List UInt8)⟩:aa),false)
 else
 some ((⟨a.S,a.Me,a.View,true,view,value,a.Proof,a.bI⟩:aN),(⟨a.Me,view,value⟩:aa),true)
def yh (a:aL)(a1:aa)(st:(List aa)×(List aa)×Bool×Int):Option (((List aa)×(List aa)×Bool×Int)⊕(((List aa)×(List aa)×Bool)⊕((List aa)×Bool))):=if st.2.2.2<(a.L.length:Int) then
 ix a.L st.2.2.2 λy=>
 bd (if y.By=a1.By then
  some (decide (a1.View<=y.View))
  else
  some false:Option Bool) λw1=>
 if w1 then
 some (.inr (.inr (a.L,false)))
 else
 bd (if !st.2.2.1 then
  some (decide (a1.By<=y.By))
  else
  some false:Option Bool) λw2=>
 bd (if w2 then
  if (st.2.1.length+([a1]:List aa).length) *32<=2^46 then
  some (st.2.1++([a1]:List aa),true)
  else none
  else
  some (st.2.1,st.2.2.1):Option ((List aa)×Bool)) λw3=>
 bd (if !decide (y.By=a1.By) then
  if (w3.1.length+([y]:List aa).length) *32<=2^46 then
  some (w3.1++([y]:List aa))
  else none
  else
  some w3.1:Option (List aa)) λw4=>
 some (.inl (st.1,w4,w3.2,fj .i64 (st.2.2.2+1)))
 else
 some (.inr (.inl (st.1,st.2.1,st.2.2.1)))
def oS (a:aL)(a1:aa):Option (aL×Bool):=bd (tT a1) λrA=>
 if !rA then
 some (a,false)
 else
 bd (Loop (yh a a1) (([]:List aa),([]:List aa),false,0)) λw=>
 match w with
 | .inl p3=>
  bd (if !p3.2.2 then
   if (p3.2.1.length+([a1]:List aa).length) *32<=2^46 then
   some (p3.2.1++([a1]:List aa))
   else none
   else
   some p3.2.1:Option (List aa)) λw5=>
  some ((⟨w5⟩:aL),true)
 | .inr p4=>some ((⟨p4.1⟩:aL),p4.2)
def qy (t:aL)(view:Int)(value:List UInt8)(st:(List aa)×Int):Option (((List aa)×Int)⊕(List aa)):=if st.2<(t.L.length:Int) then
 bd (ix t.L st.2 λy=>
  if y.View=view then
  ix t.L st.2 λy1=>
  some (decide (y1.Value=value))
  else
  some false:Option Bool) λw1=>
 bd (if w1 then
  ix t.L st.2 λy2=>
  if (st.1.length+([y2]:List aa).length) *32<=2^46 then
  some (st.1++([y2]:List aa))
  else none
  else
  some st.1:Option (List aa)) λw2=>
 some (.inl (w2,fj .i64 (st.2+1)))
 else
 some (.inr st.1)
def rF (t:aL)(view:Int)(value:List UInt8):Option (List aa):=bd (Loop (qy t view value) (([]:List aa),0)) λw=>some w
def yi (t:aL)(view:Int)(value:List UInt8):Option Int:=bd (rF t view value) λrA=>some (rA.length:Int)
def u5 (t:aL)(bY:Int)(st:Int×Int):Option ((Int×Int)⊕Int):=bd (if st.2<(t.L.length:Int) then
  some (decide ((1:Int)<=bY))
  else
  some false:Option Bool) λw1=>
 if w1 then
 ix t.L st.2 λy=>
 bd (bd (yi t y.View y.Value) λrA=>
  if bY<=rA then
  if st.1<0 then
  some true
  else
  ix t.L st.1 λy1=>
  some (decide (y1.View<y.View))
  else
  some false:Option Bool) λw2=>
 bd (if w2 then
  some st.2
  else
  some st.1:Option Int) λw3=>
 some (.inl (w3,fj .i64 (st.2+1)))
 else
 some (.inr st.1)
def yj (t:aL)(bY:Int):Option (Int×(List UInt8)×Bool):=bd (Loop (u5 t bY) ((-1),0)) λw=>
 if w<0 then
 some (0,([]:List UInt8),false)
 else
 ix t.L w λy2=>
 ix t.L w λy3=>
 some (y2.View,y3.Value,true)
def Bb (sA:aV)(t:aL):Option ((List aa)×Bool):=bd (pw sA) λrA=>
 bd (yj t rA) λaY=>
 if !aY.2.2 then
 some (([]:List aa),false)
 else
 bd (rF t aY.1 aY.2.1) λbH=>
 if (0:Int)<=0/\(0:Int)<=rA/\rA<=(bH.length:Int) then
 some (AI (sh 0) (AT (sh rA) bH),true)
 else none
def Bc (a:aN)(a1:aa):Option (aN×(List aa)×Bool):=bd (bd (tT a1) λrA=>
  if !rA then
  some true
  else
  bd (sL a.S) λaY=>
  if aY<=a1.By then
  some true
  else
  some (!decide (a1.View=a.View)):Option Bool) λw=>
 if w then
 some (a,([]:List aa),false)
 else
 bd (oS a.bI a1) λbH=>
 bd (Bb a.S bH.1) λcr=>
 bd (K0 a.Proof) λeU=>
 bd (if !cr.2 then
  some true
  else
  ix cr.1 0 λy=>
  some (decide (y.View<=eU.1)):Option Bool) λw1=>
 if w1 then
 some ((⟨a.S,a.Me,a.View,a.Has,a.At,a.Value,a.Proof,bH.1⟩:aN),([]:List aa),false)
 else
 some ((⟨a.S,a.Me,a.View,a.Has,a.At,a.Value,cr.1,bH.1⟩:aN),cr.1,true)
def iP (lA:bq)(t:aL)(bY:Int):Option bq:=bd (yj t bY) λrA=>
 bd (if rA.2.2 then
  some (lA.S.F,lA.S.T,lA.aO.L,lA.aP.L,lA.Told.L,true,rA.2.1)
  else
  some (lA.S.F,lA.S.T,lA.aO.L,lA.aP.L,lA.Told.L,lA.bE,lA.Value):Option (Int×Int×(List aa)×(List aa)×(List aa)×Bool×(List UInt8))) λw=>
 some (⟨(⟨w.1,w.2.1⟩:aV),(⟨w.2.2.1⟩:aL),(⟨w.2.2.2.1⟩:aL),(⟨w.2.2.2.2.1⟩:aL),w.2.2.2.2.2.1,w.2.2.2.2.2.2⟩:bq)
def yk (sA:aV):Option Int:=some (fj .i64 ((fj .i64 ((fj .i64 (3 *sA.F))+sA.T))+1))
def qz (lA:bq)(a:aa):Option bq:=bd (if lA.bE then
  some true
  else
  bd (sL lA.S) λrA=>
  some (decide (rA<=a.By)):Option Bool) λw=>
 if w then
 some lA
 else
 bd (oS lA.aO a) λaY=>
 bd (tT a) λbH=>
 if !bH then
 some (⟨lA.S,aY.1,lA.aP,lA.Told,lA.bE,lA.Value⟩:bq)
 else
 bd (yk lA.S) λcr=>
 bd (iP (⟨lA.S,aY.1,lA.aP,lA.Told,lA.bE,lA.Value⟩:bq) aY.1 cr) λeU=>
 some eU
def ov (lA:bq)(nA:Int)(p:List aa):Option bq:=bd (if lA.bE then
  some true
  else
  if nA<0 then
  some true
  else
  bd (sL lA.S) λrA=>
  if rA<=nA then
  some true
  else
  bd (kz lA.S p) λaY=>
  some (!aY):Option Bool) λw=>
 if w then
 some lA
 else
 ix p 0 λy=>
 ix p 0 λy1=>
 bd (oS lA.aP (⟨nA,y.View,y1.Value⟩:aa)) λbH=>
 bd (pw lA.S) λcr=>
 bd (iP (⟨lA.S,lA.aO,bH.1,lA.Told,lA.bE,lA.Value⟩:bq) bH.1 cr) λeU=>
 some eU
def yl (a2:cC)(a3:ae)(st:(List ae)×Bool×Int):Option (((List ae)×Bool×Int)⊕(((List ae)×Bool)⊕(List ae))):=if st.2.2<(a2.cy.length:Int) then
 ix a2.cy st.2.2 λy=>
 if y.By=a3.By then
 some (.inr (.inr a2.cy))
 else
 bd (if !st.2.1 then
  ix a2.cy st.2.2 λy1=>
  some (decide (a3.By<y1.By))
  else
  some false:Option Bool) λw2=>
 bd (if w2 then
  if (st.1.length+([a3]:List ae).length) *72<=2^46 then
  some (st.1++([a3]:List ae),true)
  else none
  else
  some (st.1,st.2.1):Option ((List ae)×Bool)) λw3=>
 ix a2.cy st.2.2 λy2=>
 if (w3.1.length+([y2]:List ae).length) *72<=2^46 then
 some (.inl (w3.1++([y2]:List ae),w3.2,fj .i64 (st.2.2+1)))
 else none
 else
 some (.inr (.inl (st.1,st.2.1)))
def Fj (a:aV)(a1:Int)(a2:cC)(a3:ae):Option (List ae):=bd (if !decide (a2.A.View=a3.fP) then
  some true
  else
  bd (o9 a a3.fP) λrA=>
  if !decide (rA=a1) then
  some true
  else
  bd (Cb a a3) λaY=>
  some (!aY):Option Bool) λw=>
 if w then
 some a2.cy
 else
 bd (Loop (yl a2 a3) (([]:List ae),false,0)) λw1=>
 match w1 with
 | .inl p2=>
  bd (if !p2.2 then
   if (p2.1.length+([a3]:List ae).length) *72<=2^46 then
   some (p2.1++([a3]:List ae))
   else none
   else
   some p2.1:Option (List ae)) λw4=>
  some w4
 | .inr p3=>some p3
def ym (sA:aV):Option Int:=some (fj .i64 (sA.F+1))
def Bd (lA:bq)(nA:Int)(value:List UInt8):Option bq:=bd (if lA.bE then
  some true
  else
  if nA<0 then
  some true
  else
  bd (sL lA.S) λrA=>
  if rA<=nA then
  some true
  else
  some (decide ((6000:Int)<(value.length:Int))):Option Bool) λw=>
 if w then
 some lA
 else
 bd (oS lA.Told (⟨nA,0,value⟩:aa)) λaY=>
 bd (ym lA.S) λbH=>
 bd (iP (⟨lA.S,lA.aO,lA.aP,aY.1,lA.bE,lA.Value⟩:bq) aY.1 bH) λcr=>
 some cr
def kA (a:aV)(a1:Int)(a2:cC)(a3:bF):Option (cC×(List bF)):=bd (if a3.Kind=1 then
  bd (o9 a a3.View) λrA=>
  bd (if a3.dU=rA then
   bd (sP a2.A a3.View a3.Value a3.dX) λaY=>
   bd (if aY.2.2 then
    if (([]:List bF).length+([(⟨2,0,0,([]:List UInt8),([]:List ae),aY.2.1,([]:List aa),(⟨0,0,false,0,([]:List UInt8),([]:List aa)⟩:ae)⟩:bF)]:List bF).length) *192<=2^46 then
    some (([]:List bF)++([(⟨2,0,0,([]:List UInt8),([]:List ae),aY.2.1,([]:List aa),(⟨0,0,false,0,([]:List UInt8),([]:List aa)⟩:ae)⟩:bF)]:List bF))
    else none
    else
    some ([]:List bF):Option (List bF)) λw2=>
   some (aY.1.S.F,aY.1.S.T,aY.1.Me,aY.1.View,aY.1.Has,aY.1.At,aY.1.Value,aY.1.Proof,aY.1.bI.L,a2.L.S.F,a2.L.S.T,a2.L.aO.L,a2.L.aP.L,a2.L.Told.L,a2.L.bE,a2.L.Value,a2.cy,a2.fh,w2)
   else
   some (a2.A.S.F,a2.A.S.T,a2.A.Me,a2.A.View,a2.A.Has,a2.A.At,a2.A.Value,a2.A.Proof,a2.A.bI.L,a2.L.S.F,a2.L.S.T,a2.L.aO.L,a2.L.aP.L,a2.L.Told.L,a2.L.bE,a2.L.Value,a2.cy,a2.fh,([]:List bF)):Option (Int×Int×Int×Int×Bool×Int×(List UInt8)×(List aa)×(List aa)×Int×Int×(List aa)×(List aa)×(List aa)×Bool×(List UInt8)×(List ae)×Int×(List bF))) λw1=>
  some w1
  else
  bd (if a3.Kind=2 then
   bd (Bc a2.A a3.fM) λbH=>
   bd (if bH.2.2 then
    if (([]:List bF).length+([(⟨3,a1,0,([]:List UInt8),([]:List ae),(⟨0,0,([]:List UInt8)⟩:aa),bH.2.1,(⟨0,0,false,0,([]:List UInt8),([]:List aa)⟩:ae)⟩:bF)]:List bF).length) *192<=2^46 then
    some (([]:List bF)++([(⟨3,a1,0,([]:List UInt8),([]:List ae),(⟨0,0,([]:List UInt8)⟩:aa),bH.2.1,(⟨0,0,false,0,([]:List UInt8),([]:List aa)⟩:ae)⟩:bF)]:List bF))
    else none
    else
    some ([]:List bF):Option (List bF)) λw4=>
   bd (qz a2.L a3.fM) λcr=>
   some (bH.1.S.F,bH.1.S.T,bH.1.Me,bH.1.View,bH.1.Has,bH.1.At,bH.1.Value,bH.1.Proof,bH.1.bI.L,cr.S.F,cr.S.T,cr.aO.L,cr.aP.L,cr.Told.L,cr.bE,cr.Value,a2.cy,a2.fh,w4)
   else
   bd (if a3.Kind=3 then
    bd (ov a2.L a3.dU a3.Proof) λeU=>
    some (a2.A.S.F,a2.A.S.T,a2.A.Me,a2.A.View,a2.A.Has,a2.A.At,a2.A.Value,a2.A.Proof,a2.A.bI.L,eU.S.F,eU.S.T,eU.aO.L,eU.aP.L,eU.Told.L,eU.bE,eU.Value,a2.cy,a2.fh)
    else
    bd (if a3.Kind=4 then
     bd (Fj a a1 a2 a3.R) λkP=>
     some (a2.A.S.F,a2.A.S.T,a2.A.Me,a2.A.View,a2.A.Has,a2.A.At,a2.A.Value,a2.A.Proof,a2.A.bI.L,a2.L.S.F,a2.L.S.T,a2.L.aO.L,a2.L.aP.L,a2.L.Told.L,a2.L.bE,a2.L.Value,kP,a2.fh)
     else
     bd (if a3.Kind=5 then
      bd (Bd a2.L a3.dU a3.Value) λqm=>
      some (a2.A.S.F,a2.A.S.T,a2.A.Me,a2.A.View,a2.A.Has,a2.A.At,a2.A.Value,a2.A.Proof,a2.A.bI.L,qm.S.F,qm.S.T,qm.aO.L,qm.aP.L,qm.Told.L,qm.bE,qm.Value,a2.cy,a2.fh)
      else
      some (a2.A.S.F,a2.A.S.T,a2.A.Me,a2.A.View,a2.A.Has,a2.A.At,a2.A.Value,a2.A.Proof,a2.A.bI.L,a2.L.S.F,a2.L.S.T,a2.L.aO.L,a2.L.aP.L,a2.L.Told.L,a2.L.bE,a2.L.Value,a2.cy,a2.fh):Option (Int×Int×Int×Int×Bool×Int×(List UInt8)×(List aa)×(List aa)×Int×Int×(List aa)×(List aa)×(List aa)×Bool×(List UInt8)×(List ae)×Int)) λw7=>
     some w7:Option (Int×Int×Int×Int×Bool×Int×(List UInt8)×(List aa)×(List aa)×Int×Int×(List aa)×(List aa)×(List aa)×Bool×(List UInt8)×(List ae)×Int)) λw6=>
    some w6:Option (Int×Int×Int×Int×Bool×Int×(List UInt8)×(List aa)×(List aa)×Int×Int×(List aa)×(List aa)×(List aa)×Bool×(List UInt8)×(List ae)×Int)) λw5=>
   some (w5.1,w5.2.1,w5.2.2.1,w5.2.2.2.1,w5.2.2.2.2.1,w5.2.2.2.2.2.1,w5.2.2.2.2.2.2.1,w5.2.2.2.2.2.2.2.1,w5.2.2.2.2.2.2.2.2.1,w5.2.2.2.2.2.2.2.2.2.1,w5.2.2.2.2.2.2.2.2.2.2.1,w5.2.2.2.2.2.2.2.2.2.2.2.1,w5.2.2.2.2.2.2.2.2.2.2.2.2.1,w5.2.2.2.2.2.2.2.2.2.2.2.2.2.1,w5.2.2.2.2.2.2.2.2.2.2.2.2.2.2.1,w5.2.2.2.2.2.2.2.2.2.2.2.2.2.2.2.1,w5.2.2.2.2.2.2.2.2.2.2.2.2.2.2.2.2.1,w5.2.2.2.2.2.2.2.2.2.2.2.2.2.2.2.2.2,([]:List bF)):Option (Int×Int×Int×Int×Bool×Int×(List UInt8)×(List aa)×(List aa)×Int×Int×(List aa)×(List aa)×(List aa)×Bool×(List UInt8)×(List ae)×Int×(List bF))) λw3=>
  some w3:Option (Int×Int×Int×Int×Bool×Int×(List UInt8)×(List aa)×(List aa)×Int×Int×(List aa)×(List aa)×(List aa)×Bool×(List UInt8)×(List ae)×Int×(List bF))) λw=>
 bd (if w.2.2.2.2.2.2.2.2.2.2.2.2.2.2.1 then
  some (!a2.L.bE)
  else
  some false:Option Bool) λw8=>
 bd (if w8 then
  if (w.2.2.2.2.2.2.2.2.2.2.2.2.2.2.2.2.2.2.length+([(⟨5,a1,0,w.2.2.2.2.2.2.2.2.2.2.2.2.2.2.2.1,([]:List ae),(⟨0,0,([]:List UInt8)⟩:aa),([]:List aa),(⟨0,0,false,0,([]:List UInt8),([]:List aa)⟩:ae)⟩:bF)]:List bF).length) *192<=2^46 then
  some (w.2.2.2.2.2.2.2.2.2.2.2.2.2.2.2.2.2.2++([(⟨5,a1,0,w.2.2.2.2.2.2.2.2.2.2.2.2.2.2.2.1,([]:List ae),(⟨0,0,([]:List UInt8)⟩:aa),([]:List aa),(⟨0,0,false,0,([]:List UInt8),([]:List aa)⟩:ae)⟩:bF)]:List bF))
  else none
  else
  some w.2.2.2.2.2.2.2.2.2.2.2.2.2.2.2.2.2.2:Option (List bF)) λw9=>
 some ((⟨(⟨(⟨w.1,w.2.1⟩:aV),w.2.2.1,w.2.2.2.1,w.2.2.2.2.1,w.2.2.2.2.2.1,w.2.2.2.2.2.2.1,w.2.2.2.2.2.2.2.1,(⟨w.2.2.2.2.2.2.2.2.1⟩:aL)⟩:aN),(⟨(⟨w.2.2.2.2.2.2.2.2.2.1,w.2.2.2.2.2.2.2.2.2.2.1⟩:aV),(⟨w.2.2.2.2.2.2.2.2.2.2.2.1⟩:aL),(⟨w.2.2.2.2.2.2.2.2.2.2.2.2.1⟩:aL),(⟨w.2.2.2.2.2.2.2.2.2.2.2.2.2.1⟩:aL),w.2.2.2.2.2.2.2.2.2.2.2.2.2.2.1,w.2.2.2.2.2.2.2.2.2.2.2.2.2.2.2.1⟩:bq),w.2.2.2.2.2.2.2.2.2.2.2.2.2.2.2.2.1,w.2.2.2.2.2.2.2.2.2.2.2.2.2.2.2.2.2.1⟩:cC),w9)
def Fk (m:aw):Option bF:=some (⟨m.Kind,m.dU,m.View,m.Value,m.dX,m.fM,m.Proof,m.R⟩:bF)
def K1 (a:aN):Option ae:=some (⟨a.Me,a.View,a.Has,a.At,a.Value,a.Proof⟩:ae)
def yn (a:aN)(view:Int):Option (aN×ae×Bool):=bd (if view<=a.View then
  some true
  else
  some (decide ((100000:Int)<view)):Option Bool) λw=>
 if w then
 some (a,(⟨0,0,false,0,([]:List UInt8),([]:List aa)⟩:ae),false)
 else
 bd (K1 (⟨a.S,a.Me,view,a.Has,a.At,a.Value,a.Proof,(⟨([]:List aa)⟩:aL)⟩:aN)) λrA=>
 some ((⟨a.S,a.Me,view,a.Has,a.At,a.Value,a.Proof,(⟨([]:List aa)⟩:aL)⟩:aN),rA,true)
def u6 (sA:aV)(i:Int)(n:cC)(view:Int):Option (cC×(List bF)):=bd (yn n.A view) λrA=>
 if !rA.2.2 then
 some (n,([]:List bF))
 else
 some ((⟨rA.1,n.L,([]:List ae),n.fh⟩:cC),([(⟨4,0,0,([]:List UInt8),([]:List ae),(⟨0,0,([]:List UInt8)⟩:aa),([]:List aa),rA.2.1⟩:bF)]:List bF))
def pz (sA:aV)(i:Int)(n:cC)(want:List UInt8):Option (cC×(List bF)):=bd (bd (o9 sA n.A.View) λrA=>
  if !decide (rA=i) then
  some true
  else
  some (decide (n.A.View<=n.fh)):Option Bool) λw=>
 if w then
 some (n,([]:List bF))
 else
 bd (if (0:Int)<n.A.View then
  bd (yf sA) λaY=>
  if (n.cy.length:Int)<aY then
  some (.inl (n.A.S.F,n.A.S.T,n.A.Me,n.A.View,n.A.Has,n.A.At,n.A.Value,n.A.Proof,n.A.bI.L,n.L.S.F,n.L.S.T,n.L.aO.L,n.L.aP.L,n.L.Told.L,n.L.bE,n.L.Value,n.cy,n.fh,([]:List bF)))
  else
  if (0:Int)<=0/\(0:Int)<=aY/\aY<=(n.cy.length:Int) then
  bd (ul sA (AI (sh 0) (AT (sh aY) n.cy))) λbH=>
  bd (if bH.2 then
   some (1,i,n.A.View,bH.1,AI (sh 0) (AT (sh aY) n.cy),0,0,([]:List UInt8),([]:List aa),0,0,false,0,([]:List UInt8),([]:List aa))
   else
   some (1,i,n.A.View,want,AI (sh 0) (AT (sh aY) n.cy),0,0,([]:List UInt8),([]:List aa),0,0,false,0,([]:List UInt8),([]:List aa)):Option (Int×Int×Int×(List UInt8)×(List ae)×Int×Int×(List UInt8)×(List aa)×Int×Int×Bool×Int×(List UInt8)×(List aa))) λw2=>
  some (.inr (0,0,0,0,false,0,([]:List UInt8),([]:List aa),([]:List aa),0,0,([]:List aa),([]:List aa),([]:List aa),false,([]:List UInt8),([]:List ae),0,w2.1,w2.2.1,w2.2.2.1,w2.2.2.2.1,w2.2.2.2.2.1,w2.2.2.2.2.2.1,w2.2.2.2.2.2.2.1,w2.2.2.2.2.2.2.2.1,w2.2.2.2.2.2.2.2.2.1,w2.2.2.2.2.2.2.2.2.2.1,w2.2.2.2.2.2.2.2.2.2.2.1,w2.2.2.2.2.2.2.2.2.2.2.2.1,w2.2.2.2.2.2.2.2.2.2.2.2.2.1,w2.2.2.2.2.2.2.2.2.2.2.2.2.2.1,w2.2.2.2.2.2.2.2.2.2.2.2.2.2.2))
  else none
  else
  some (.inr (0,0,0,0,false,0,([]:List UInt8),([]:List aa),([]:List aa),0,0,([]:List aa),([]:List aa),([]:List aa),false,([]:List UInt8),([]:List ae),0,1,i,n.A.View,want,([]:List ae),0,0,([]:List UInt8),([]:List aa),0,0,false,0,([]:List UInt8),([]:List aa))):Option ((Int×Int×Int×Int×Bool×Int×(List UInt8)×(List aa)×(List aa)×Int×Int×(List aa)×(List aa)×(List aa)×Bool×(List UInt8)×(List ae)×Int×(List bF))⊕(Int×Int×Int×Int×Bool×Int×(List UInt8)×(List aa)×(List aa)×Int×Int×(List aa)×(List aa)×(List aa)×Bool×(List UInt8)×(List ae)×Int×Int×Int×Int×(List UInt8)×(List ae)×Int×Int×(List UInt8)×(List aa)×Int×Int×Bool×Int×(List UInt8)×(List aa)))) λw1=>
 match w1 with
 | .inl p2=>some ((⟨(⟨(⟨p2.1,p2.2.1⟩:aV),p2.2.2.1,p2.2.2.2.1,p2.2.2.2.2.1,p2.2.2.2.2.2.1,p2.2.2.2.2.2.2.1,p2.2.2.2.2.2.2.2.1,(⟨p2.2.2.2.2.2.2.2.2.1⟩:aL)⟩:aN),(⟨(⟨p2.2.2.2.2.2.2.2.2.2.1,p2.2.2.2.2.2.2.2.2.2.2.1⟩:aV),(⟨p2.2.2.2.2.2.2.2.2.2.2.2.1⟩:aL),(⟨p2.2.2.2.2.2.2.2.2.2.2.2.2.1⟩:aL),(⟨p2.2.2.2.2.2.2.2.2.2.2.2.2.2.1⟩:aL),p2.2.2.2.2.2.2.2.2.2.2.2.2.2.2.1,p2.2.2.2.2.2.2.2.2.2.2.2.2.2.2.2.1⟩:bq),p2.2.2.2.2.2.2.2.2.2.2.2.2.2.2.2.2.1,p2.2.2.2.2.2.2.2.2.2.2.2.2.2.2.2.2.2.1⟩:cC),p2.2.2.2.2.2.2.2.2.2.2.2.2.2.2.2.2.2.2)
 | .inr p3=>some ((⟨n.A,n.L,n.cy,n.A.View⟩:cC),([(⟨p3.2.2.2.2.2.2.2.2.2.2.2.2.2.2.2.2.2.2.1,p3.2.2.2.2.2.2.2.2.2.2.2.2.2.2.2.2.2.2.2.1,p3.2.2.2.2.2.2.2.2.2.2.2.2.2.2.2.2.2.2.2.2.1,p3.2.2.2.2.2.2.2.2.2.2.2.2.2.2.2.2.2.2.2.2.2.1,p3.2.2.2.2.2.2.2.2.2.2.2.2.2.2.2.2.2.2.2.2.2.2.1,(⟨p3.2.2.2.2.2.2.2.2.2.2.2.2.2.2.2.2.2.2.2.2.2.2.2.1,p3.2.2.2.2.2.2.2.2.2.2.2.2.2.2.2.2.2.2.2.2.2.2.2.2.1,p3.2.2.2.2.2.2.2.2.2.2.2.2.2.2.2.2.2.2.2.2.2.2.2.2.2.1⟩:aa),p3.2.2.2.2.2.2.2.2.2.2.2.2.2.2.2.2.2.2.2.2.2.2.2.2.2.2.1,(⟨p3.2.2.2.2.2.2.2.2.2.2.2.2.2.2.2.2.2.2.2.2.2.2.2.2.2.2.2.1,p3.2.2.2.2.2.2.2.2.2.2.2.2.2.2.2.2.2.2.2.2.2.2.2.2.2.2.2.2.1,p3.2.2.2.2.2.2.2.2.2.2.2.2.2.2.2.2.2.2.2.2.2.2.2.2.2.2.2.2.2.1,p3.2.2.2.2.2.2.2.2.2.2.2.2.2.2.2.2.2.2.2.2.2.2.2.2.2.2.2.2.2.2.1,p3.2.2.2.2.2.2.2.2.2.2.2.2.2.2.2.2.2.2.2.2.2.2.2.2.2.2.2.2.2.2.2.1,p3.2.2.2.2.2.2.2.2.2.2.2.2.2.2.2.2.2.2.2.2.2.2.2.2.2.2.2.2.2.2.2.2⟩:ae)⟩:bF)]:List bF))
def u7 (b:List Int)(y:Int)(st:Int×Int):Option ((Int×Int)⊕Int):=if st.2<=(fj .i64 y) then
 ix b st.2 λy2=>
 some (.inl (fj .u64 ((fj .u64 (256 *st.1))+(fj .u64 y2)),fj .i64 (st.2+1)))
 else
 some (.inr st.1)
def yo (b:List Int):Option (Int×(List Int)×Int):=if (b.length:Int)=0 then
 some (0,([]:List Int),2)
 else
 ix b 0 λy=>
 bd (if (8:Int)<(fj .i64 y) then
  some true
  else
  if (0:Int)<(fj .i64 y) then
  if (1:Int)<(b.length:Int) then
  ix b 1 λy1=>
  some (decide (y1=0))
  else
  some false
  else
  some false:Option Bool) λw=>
 if w then
 some (0,([]:List Int),3)
 else
 if (b.length:Int)<(fj .i64 (1+(fj .i64 y))) then
 some (0,([]:List Int),2)
 else
 bd (Loop (u7 b y) (0,1)) λw1=>
 if (0:Int)<=(fj .i64 (1+(fj .i64 y)))/\(fj .i64 (1+(fj .i64 y)))<=(b.length:Int)/\(b.length:Int)<=(b.length:Int) then
 some (w1,AI (sh (fj .i64 (1+(fj .i64 y)))) (AT (sh (b.length:Int)) b),0)
 else none
def sQ (b:List Int):Option (Int×(List Int)×Int):=bd (yo b) λrA=>
 if !decide (rA.2.2=0) then
 some (0,([]:List Int),rA.2.2)
 else
 if !decide ((2:Int)=0) then
 if (OF rA.1 2)=1 then
 if !decide ((2:Int)=0) then
 some (fj .i64 ((fj .i64 (0-(fj .i64 (fj .u64 (No rA.1 2)))))-1),rA.2.1,0)
 else none
 else
 if !decide ((2:Int)=0) then
 some (fj .i64 (fj .u64 (No rA.1 2)),rA.2.1,0)
 else none
 else none
def pA (many:Int)(st:(List Int)×(List Int)×Int):Option (((List Int)×(List Int)×Int)⊕(((List Int)×(List Int))⊕((List Int)×(List Int)×Bool))):=if st.2.2<many then
 bd (sQ st.1) λrA=>
 if !decide (rA.2.2=0) then
 some (.inr (.inr (([]:List Int),([]:List Int),false)))
 else
 if (st.2.1.length+([rA.1]:List Int).length) *8<=2^46 then
 some (.inl (rA.2.1,st.2.1++([rA.1]:List Int),fj .i64 (st.2.2+1)))
 else none
 else
 some (.inr (.inl (st.1,st.2.1)))
def pB (b:List Int)(many:Int):Option ((List Int)×(List Int)×Bool):=bd (Loop (pA many) (b,([]:List Int),0)) λw=>
 match w with
 | .inl p1=>some (p1.2,p1.1,true)
 | .inr p2=>some (p2.1,p2.2.1,p2.2.2)
def jH (b:List Int)(most:Int):Option ((List UInt8)×(List Int)×Int):=bd (yo b) λrA=>
 if !decide (rA.2.2=0) then
 some (([]:List UInt8),([]:List Int),rA.2.2)
 else
 if (fj .u64 (imax most 0))<rA.1 then
 some (([]:List UInt8),([]:List Int),5)
 else
 if (fj .u64 (rA.2.1.length:Int))<rA.1 then
 some (([]:List UInt8),([]:List Int),2)
 else
 if (0:Int)<=0/\(0:Int)<=rA.1/\rA.1<=(rA.2.1.length:Int) then
 Q5 (AI (sh 0) (AT (sh rA.1) rA.2.1)) λbs=>
 if (0:Int)<=rA.1/\rA.1<=(rA.2.1.length:Int)/\(rA.2.1.length:Int)<=(rA.2.1.length:Int) then
 some (bs,AI (sh rA.1) (AT (sh (rA.2.1.length:Int)) rA.2.1),0)
 else none
 else none
def qA (aY:(List Int)×(List Int)×Bool)(bH:(List Int)×(List Int)×Bool)(cr:(List UInt8)×(List Int)×Int)(st:(List aa)×Int):Option (((List aa)×Int)⊕(List aa)):=if st.2<(aY.1.length:Int) then
 ix aY.1 st.2 λy4=>
 ix bH.1 0 λy5=>
 if (st.1.length+([(⟨y4,y5,cr.1⟩:aa)]:List aa).length) *32<=2^46 then
 some (.inl (st.1++([(⟨y4,y5,cr.1⟩:aa)]:List aa),fj .i64 (st.2+1)))
 else none
 else
 some (.inr st.1)
def u9 (a:List Int):Option ((List aa)×(List Int)×Bool):=bd (pB a 1) λrA=>
 bd (if !rA.2.2 then
  some true
  else
  ix rA.1 0 λy=>
  if y<0 then
  some true
  else
  ix rA.1 0 λy1=>
  some (decide ((100:Int)<y1)):Option Bool) λw=>
 if w then
 some (([]:List aa),([]:List Int),false)
 else
 ix rA.1 0 λy2=>
 if y2=0 then
 some (([]:List aa),rA.2.1,true)
 else
 ix rA.1 0 λy3=>
 bd (pB rA.2.1 y3) λaY=>
 if !aY.2.2 then
 some (([]:List aa),([]:List Int),false)
 else
 bd (pB aY.2.1 1) λbH=>
 if !bH.2.2 then
 some (([]:List aa),([]:List Int),false)
 else
 bd (jH bH.2.1 6000) λcr=>
 if !decide (cr.2.2=0) then
 some (([]:List aa),([]:List Int),false)
 else
 bd (Loop (qA aY bH cr) (([]:List aa),0)) λw1=>
 some (w1,cr.2.1,true)
def wK (t:aL)(st:Int):Option (Int⊕(Unit⊕Bool)):=if st<(t.L.length:Int) then
 bd (ix t.L st λy=>
  bd (tT y) λrA=>
  if !rA then
  some true
  else
  if (0:Int)<st then
  ix t.L (fj .i64 (st-1)) λy1=>
  ix t.L st λy2=>
  some (decide (y2.By<=y1.By))
  else
  some false:Option Bool) λw1=>
 if w1 then
 some (.inr (.inr false))
 else
 some (.inl (fj .i64 (st+1)))
 else
 some (.inr (.inl ()))
def um (t:aL):Option Bool:=bd (Loop (wK t) 0) λw=>
 match w with
 | .inl p1=>some true
 | .inr p2=>some p2
def pC (a:aN)(st:Int):Option (Int⊕(Unit⊕Bool)):=if st<(a.bI.L.length:Int) then
 bd (ix a.bI.L st λy1=>
  bd (sL a.S) λcr=>
  if cr<=y1.By then
  some true
  else
  ix a.bI.L st λy2=>
  some (!decide (y2.View=a.View)):Option Bool) λw4=>
 if w4 then
 some (.inr (.inr false))
 else
 some (.inl (fj .i64 (st+1)))
 else
 some (.inr (.inl ()))
def uo (a:aN):Option Bool:=bd (wG a.S a.Me) λrA=>
 bd (if !decide (rA.2=0) then
  some true
  else
  if a.View<0 then
  some true
  else
  if (100000:Int)<a.View then
  some true
  else
  bd (um a.bI) λaY=>
  some (!aY):Option Bool) λw=>
 if w then
 some false
 else
 bd (if a.Has then
  if a.At<0 then
  some true
  else
  if a.View<a.At then
  some true
  else
  if (6000:Int)<(a.Value.length:Int) then
  some true
  else
  if !a.Has then
  if !decide (a.At=0) then
  some true
  else
  some (!decide (a.Value=([]:List UInt8)))
  else
  some false
  else
  if !a.Has then
  if !decide (a.At=0) then
  some true
  else
  some (!decide (a.Value=([]:List UInt8)))
  else
  some false:Option Bool) λw1=>
 if w1 then
 some false
 else
 bd (if (0:Int)<(a.Proof.length:Int) then
  bd (kz a.S a.Proof) λbH=>
  if !bH then
  some true
  else
  ix a.Proof 0 λy=>
  some (decide (a.View<y.View))
  else
  some false:Option Bool) λw2=>
 if w2 then
 some false
 else
 bd (Loop (pC a) 0) λw3=>
 match w3 with
 | .inl p1=>some true
 | .inr p2=>some p2
def Be (a:aV)(a1:Int)(a2:List Int):Option (aN×Int):=bd (wG a a1) λrA=>
 if !decide (rA.2=0) then
 some ((⟨(⟨0,0⟩:aV),0,0,false,0,([]:List UInt8),([]:List aa),(⟨([]:List aa)⟩:aL)⟩:aN),rA.2)
 else
 bd (pB a2 3) λaY=>
 bd (if !aY.2.2 then
  some true
  else
  ix aY.1 1 λy=>
  if !decide (y=0) then
  ix aY.1 1 λy1=>
  some (!decide (y1=1))
  else
  some false:Option Bool) λw=>
 if w then
 some ((⟨(⟨0,0⟩:aV),0,0,false,0,([]:List UInt8),([]:List aa),(⟨([]:List aa)⟩:aL)⟩:aN),3)
 else
 bd (jH aY.2.1 6000) λbH=>
 if !decide (bH.2.2=0) then
 some ((⟨(⟨0,0⟩:aV),0,0,false,0,([]:List UInt8),([]:List aa),(⟨([]:List aa)⟩:aL)⟩:aN),3)
 else
 bd (u9 bH.2.1) λcr=>
 bd (if !cr.2.2 then
  some true
  else
  some (decide ((0:Int)<(cr.2.1.length:Int))):Option Bool) λw1=>
 if w1 then
 some ((⟨(⟨0,0⟩:aV),0,0,false,0,([]:List UInt8),([]:List aa),(⟨([]:List aa)⟩:aL)⟩:aN),3)
 else
 ix aY.1 0 λy2=>
 ix aY.1 1 λy3=>
 ix aY.1 2 λy4=>
 bd (uo (⟨rA.1.S,rA.1.Me,y2,decide (y3=1),y4,bH.1,cr.1,rA.1.bI⟩:aN)) λeU=>
 if !eU then
 some ((⟨(⟨0,0⟩:aV),0,0,false,0,([]:List UInt8),([]:List aa),(⟨([]:List aa)⟩:aL)⟩:aN),3)
 else
 some ((⟨rA.1.S,rA.1.Me,y2,decide (y3=1),y4,bH.1,cr.1,rA.1.bI⟩:aN),0)
def vc (st:Int×Int):Option ((Int×Int)⊕Int):=if (0:Int)<st.1 then
 if !decide ((256:Int)=0) then
 some (.inl (fj .u64 (No st.1 256),fj .i64 (st.2+1)))
 else none
 else
 some (.inr st.2)
def Bf (n:Int):Option Int:=bd (Loop vc (n,1)) λw=>some w
def yp (st:(List Int)×Int)(dC:Int×Int):Option ((Int×Int)⊕Int):=if dC.2<st.2 then
 if !decide ((256:Int)=0) then
 some (.inl (fj .u64 (No dC.1 256),fj .i64 (dC.2+1)))
 else none
 else
 some (.inr dC.1)
def yq (n:Int)(st:(List Int)×Int):Option (((List Int)×Int)⊕(List Int)):=if (0:Int)<=st.2 then
 bd (Loop (yp st) (n,0)) λw1=>
 if !decide ((256:Int)=0) then
 if (st.1.length+([fj .u8 (OF w1 256)]:List Int).length) *1<=2^46 then
 some (.inl (st.1++([fj .u8 (OF w1 256)]:List Int),fj .i64 (st.2-1)))
 else none
 else none
 else
 some (.inr st.1)
def zt (b:List Int)(n:Int):Option (List Int):=if (([]:List Int).length+b.length) *1<=2^46 then
 bd (Bf n) λrA=>
 if ((([]:List Int)++b).length+([fj .u8 (fj .i64 (rA-1))]:List Int).length) *1<=2^46 then
 bd (Loop (yq n) ((([]:List Int)++b)++([fj .u8 (fj .i64 (rA-1))]:List Int),fj .i64 ((fj .i64 (rA-1))-1))) λw=>
 some w
 else none
 else none
def r8 (b:List Int)(n:Int):Option (List Int):=if n<0 then
 bd (zt b (fj .u64 ((fj .u64 (2 *(fj .u64 (fj .i64 (0-(fj .i64 (n+1)))))))+1))) λrA=>
 some rA
 else
 bd (zt b (fj .u64 (2 *(fj .u64 n)))) λaY=>
 some aY
def yr (b:List Int)(sA:List UInt8):Option (List Int):=bd (zt b (fj .u64 (sA.length:Int))) λrA=>
 if (rA.length+(A5 sA).length) *1<=2^46 then
 some (rA++(A5 sA))
 else none
def zu (a:aN)(st:(List Int)×Int):Option (((List Int)×Int)⊕(List Int)):=if st.2<(a.Proof.length:Int) then
 ix a.Proof st.2 λy=>
 bd (r8 st.1 y.By) λkP=>
 some (.inl (kP,fj .i64 (st.2+1)))
 else
 some (.inr st.1)
def Bg (a:aN):Option (List Int):=bd (if a.Has then
  some 1
  else
  some 0:Option Int) λw=>
 bd (r8 ([]:List Int) a.View) λrA=>
 bd (r8 rA w) λaY=>
 bd (r8 aY a.At) λbH=>
 bd (yr bH a.Value) λcr=>
 bd (r8 cr (a.Proof.length:Int)) λeU=>
 bd (Loop (zu a) (eU,0)) λw1=>
 bd (if (0:Int)<(a.Proof.length:Int) then
  ix a.Proof 0 λy1=>
  bd (r8 w1 y1.View) λqm=>
  ix a.Proof 0 λy2=>
  bd (yr qm y2.Value) λA8=>
  some A8
  else
  some w1:Option (List Int)) λw2=>
 some w2
def sR (sA:aV)(i:Int)(n:cC):Option cC:=bd (Bg n.A) λrA=>
 bd (Be sA i rA) λaY=>
 bd (Ca sA) λbH=>
 some (⟨aY.1,bH.1,([]:List ae),aY.1.View⟩:cC)
def Fl (a:bF)(b:bF):Option Bool:=bd (if a.Kind=b.Kind then
  if a.dU=b.dU then
  if a.View=b.View then
  if a.Value=b.Value then
  some ((decide (a.fM.By=b.fM.By))&&((decide (a.fM.View=b.fM.View))&&(decide (a.fM.Value=b.fM.Value))))
  else
  some false
  else
  some false
  else
  some false
  else
  some false:Option Bool) λw=>
 bd (if w then
  bd (qx a.dX b.dX) λrA=>
  if rA then
  bd (lB a.Proof b.Proof) λaY=>
  if aY then
  bd (zr a.R b.R) λbH=>
  some bH
  else
  some false
  else
  some false
  else
  some false:Option Bool) λw1=>
 some w1
def sS (a:List bF)(b:List bF)(st:Int):Option (Int⊕(Unit⊕Bool)):=if st<(a.length:Int) then
 ix a st λy=>
 ix b st λy1=>
 bd (Fl y y1) λrA=>
 if !rA then
 some (.inr (.inr false))
 else
 some (.inl (fj .i64 (st+1)))
 else
 some (.inr (.inl ()))
def yt (a:List bF)(b:List bF):Option Bool:=if !decide ((a.length:Int)=(b.length:Int)) then
 some false
 else
 bd (Loop (sS a b) 0) λw=>
 match w with
 | .inl p1=>some true
 | .inr p2=>some p2
def vd (lA:List aw)(st:(List bF)×Int):Option (((List bF)×Int)⊕(List bF)):=if st.2<(lA.length:Int) then
 ix lA st.2 λy=>
 bd (Fk y) λrA=>
 if (st.1.length+([rA]:List bF).length) *192<=2^46 then
 some (.inl (st.1++([rA]:List bF),fj .i64 (st.2+1)))
 else none
 else
 some (.inr st.1)
def Bh (lA:List aw):Option (List bF):=bd (Loop (vd lA) (([]:List bF),0)) λw=>some w
def kC (lA:List aw)(st:Int×Int×Int×(List Bool)×(List (List UInt8))×(List aD)×(List aw)):Option ((Int×Int×Int×(List Bool)×(List (List UInt8))×(List aD)×(List aw))⊕(Int×Int×(List Bool)×(List (List UInt8))×(List aD)×(List aw))):=if st.1<(lA.length:Int) then
 ix lA st.1 λy=>
 bd (if (st.2.2.2.2.2.2.length:Int)<400 then
  bd (iW st.2.2.2.2.2.2) λrA=>
  if 0<([y]:List aw).length/\(rA.length+([y]:List aw).length) *192<=2^46 then
  some (st.2.1,st.2.2.1,st.2.2.2.1,st.2.2.2.2.1,st.2.2.2.2.2.1,rA++([y]:List aw))
  else none
  else
  some (st.2.1,st.2.2.1,st.2.2.2.1,st.2.2.2.2.1,st.2.2.2.2.2.1,st.2.2.2.2.2.2):Option (Int×Int×(List Bool)×(List (List UInt8))×(List aD)×(List aw))) λw1=>
 some (.inl (fj .i64 (st.1+1),w1.1,w1.2.1,w1.2.2.1,w1.2.2.2.1,w1.2.2.2.2.1,w1.2.2.2.2.2))
 else
 some (.inr (st.2.1,st.2.2.1,st.2.2.2.1,st.2.2.2.2.1,st.2.2.2.2.2.1,st.2.2.2.2.2.2))
def mW (c:aQ)(lA:List aw):Option (Unit×aQ):=bd (Loop (kC lA) (0,c.S.F,c.S.T,c.fW,c.Want,c.N,c.cA)) λw=>some ((),(⟨(⟨w.1,w.2.1⟩:ak),w.2.2.1,w.2.2.2.1,w.2.2.2.2.1,w.2.2.2.2.2⟩:aQ))
def jV (c:aQ)(i:Int)(n:aD)(said:List aw):Option (Unit×aQ):=ix c.N i λy=>
 bd (mW (⟨c.S,c.fW,c.Want,c.N.set (sh i) n,c.cA⟩:aQ) said) λrA=>
 some ((),rA.2)
def mj (c:aQ)(i:Int)(m:aw):Option (Unit×aQ):=ix c.N i λy=>
 bd (eI c.S i y m) λrA=>
 bd (jV c i rA.1 rA.2) λaY=>
 some ((),aY.2)
def tg (c:aQ)(i:Int)(view:Int):Option (Unit×aQ):=ix c.N i λy=>
 bd (pu c.S i y view) λrA=>
 bd (jV c i rA.1 rA.2) λaY=>
 some ((),aY.2)
def qB (c:aQ)(i:Int):Option (Unit×aQ):=ix c.N i λy=>
 ix c.Want i λy1=>
 bd (iA c.S i y y1) λrA=>
 bd (jV c i rA.1 rA.2) λaY=>
 some ((),aY.2)
def Ae (lA:List aw)(st:Int×Int×Int×(List Bool)×(List (List UInt8))×(List aD)×(List aw)):Option ((Int×Int×Int×(List Bool)×(List (List UInt8))×(List aD)×(List aw))⊕(Int×Int×(List Bool)×(List (List UInt8))×(List aD)×(List aw))):=if st.1<(lA.length:Int) then
 ix lA st.1 λy=>
 bd (if (st.2.2.2.2.2.2.length:Int)<400 then
  bd (iW st.2.2.2.2.2.2) λrA=>
  if 0<([y]:List aw).length/\(rA.length+([y]:List aw).length) *192<=2^46 then
  some (st.2.1,st.2.2.1,st.2.2.2.1,st.2.2.2.2.1,st.2.2.2.2.2.1,rA++([y]:List aw))
  else none
  else
  some (st.2.1,st.2.2.1,st.2.2.2.1,st.2.2.2.2.1,st.2.2.2.2.2.1,st.2.2.2.2.2.2):Option (Int×Int×(List Bool)×(List (List UInt8))×(List aD)×(List aw))) λw1=>
 some (.inl (fj .i64 (st.1+1),w1.1,w1.2.1,w1.2.2.1,w1.2.2.2.1,w1.2.2.2.2.1,w1.2.2.2.2.2))
 else
 some (.inr (st.2.1,st.2.2.1,st.2.2.2.1,st.2.2.2.2.1,st.2.2.2.2.2.1,st.2.2.2.2.2.2))
def xt (c:aQ)(lA:List aw):Option (Unit×aQ):=bd (Loop (Ae lA) (0,c.S.F,c.S.T,c.fW,c.Want,c.N,c.cA)) λw=>some ((),(⟨(⟨w.1,w.2.1⟩:ak),w.2.2.1,w.2.2.2.1,w.2.2.2.2.1,w.2.2.2.2.2⟩:aQ))
def jo (a:aQ)(a1:eh):Option aQ:=if a1.Kind=3 then
 bd (D9 a a1.M) λrA=>
 bd (if rA then
  bd (xt a ([a1.M]:List aw)) λaY=>
  some (aY.2.S.F,aY.2.S.T,aY.2.fW,aY.2.Want,aY.2.N,aY.2.cA)
  else
  some (a.S.F,a.S.T,a.fW,a.Want,a.N,a.cA):Option (Int×Int×(List Bool)×(List (List UInt8))×(List aD)×(List aw))) λw=>
 some (⟨(⟨w.1,w.2.1⟩:ak),w.2.2.1,w.2.2.2.1,w.2.2.2.2.1,w.2.2.2.2.2⟩:aQ)
 else
 bd (fG a a1.I false) λbH=>
 if !bH then
 some a
 else
 bd (zo 256 a.N) λcr=>
 bd (if a1.Kind=0 then
  bd (if (0:Int)<=a1.J then
   some (decide (a1.J<(a.cA.length:Int)))
   else
   some false:Option Bool) λw2=>
  bd (if w2 then
   ix a.cA a1.J λy=>
   bd (mj (⟨a.S,a.fW,a.Want,cr,a.cA⟩:aQ) a1.I y) λeU=>
   some (eU.2.S.F,eU.2.S.T,eU.2.fW,eU.2.Want,eU.2.N,eU.2.cA)
   else
   some (a.S.F,a.S.T,a.fW,a.Want,cr,a.cA):Option (Int×Int×(List Bool)×(List (List UInt8))×(List aD)×(List aw))) λw3=>
  some w3
  else
  bd (if a1.Kind=1 then
   ix cr a1.I λy1=>
   bd (tg (⟨a.S,a.fW,a.Want,cr,a.cA⟩:aQ) a1.I (fj .i64 (y1.A.View+1))) λkP=>
   some (kP.2.S.F,kP.2.S.T,kP.2.fW,kP.2.Want,kP.2.N,kP.2.cA)
   else
   bd (if a1.Kind=2 then
    bd (qB (⟨a.S,a.fW,a.Want,cr,a.cA⟩:aQ) a1.I) λqm=>
    some (qm.2.S.F,qm.2.S.T,qm.2.fW,qm.2.Want,qm.2.N,qm.2.cA)
    else
    bd (if a1.Kind=4 then
     ix cr a1.I λy2=>
     bd (nw a.S a1.I y2) λA8=>
     ix cr a1.I λy3=>
     some (a.S.F,a.S.T,a.fW,a.Want,cr.set (sh a1.I) A8,a.cA)
     else
     some (a.S.F,a.S.T,a.fW,a.Want,cr,a.cA):Option (Int×Int×(List Bool)×(List (List UInt8))×(List aD)×(List aw))) λw6=>
    some w6:Option (Int×Int×(List Bool)×(List (List UInt8))×(List aD)×(List aw))) λw5=>
   some w5:Option (Int×Int×(List Bool)×(List (List UInt8))×(List aD)×(List aw))) λw4=>
  some w4:Option (Int×Int×(List Bool)×(List (List UInt8))×(List aD)×(List aw))) λw1=>
 some (⟨(⟨w1.1,w1.2.1⟩:ak),w1.2.2.1,w1.2.2.2.1,w1.2.2.2.2.1,w1.2.2.2.2.2⟩:aQ)
def wL (st:Int×Int×(List Bool)×(List (List UInt8))×(List aD)×(List aw)×Int):Option ((Int×Int×(List Bool)×(List (List UInt8))×(List aD)×(List aw)×Int)⊕(Int×Int×(List Bool)×(List (List UInt8))×(List aD)×(List aw))):=if st.2.2.2.2.2.2<4 then
 bd (jo (⟨(⟨st.1,st.2.1⟩:ak),st.2.2.1,st.2.2.2.1,st.2.2.2.2.1,st.2.2.2.2.2.1⟩:aQ) (⟨0,st.2.2.2.2.2.2,0,(⟨0,0,0,([]:List UInt8),([]:List ae),(⟨0,0,([]:List UInt8)⟩:aa),([]:List aa),(⟨0,0,false,0,([]:List UInt8),([]:List aa)⟩:ae)⟩:aw)⟩:eh)) λbH=>
 some (.inl (bH.S.F,bH.S.T,bH.fW,bH.Want,bH.N,bH.cA,fj .i64 (st.2.2.2.2.2.2+1)))
 else
 some (.inr (st.1,st.2.1,st.2.2.1,st.2.2.2.1,st.2.2.2.2.1,st.2.2.2.2.2.1))
def wM (dC:Int×Int×(List Bool)×(List (List UInt8))×(List aD)×(List aw)×Int):Option ((Int×Int×(List Bool)×(List (List UInt8))×(List aD)×(List aw)×Int)⊕(Int×Int×(List Bool)×(List (List UInt8))×(List aD)×(List aw))):=if dC.2.2.2.2.2.2<5 then
 bd (jo (⟨(⟨dC.1,dC.2.1⟩:ak),dC.2.2.1,dC.2.2.2.1,dC.2.2.2.2.1,dC.2.2.2.2.2.1⟩:aQ) (⟨0,2,dC.2.2.2.2.2.2,(⟨0,0,0,([]:List UInt8),([]:List ae),(⟨0,0,([]:List UInt8)⟩:aa),([]:List aa),(⟨0,0,false,0,([]:List UInt8),([]:List aa)⟩:ae)⟩:aw)⟩:eh)) λcr=>
 some (.inl (cr.S.F,cr.S.T,cr.fW,cr.Want,cr.N,cr.cA,fj .i64 (dC.2.2.2.2.2.2+1)))
 else
 some (.inr (dC.1,dC.2.1,dC.2.2.1,dC.2.2.2.1,dC.2.2.2.2.1,dC.2.2.2.2.2.1))
def rG:Option Bool:=if (0:Int)<=4/\(4:Int)=4/\(4:Int) *1<=2^46 then
 bd (yb (⟨1,0⟩:ak) (IS (sh 4) false) ([([97]:List UInt8),([98]:List UInt8),([99]:List UInt8),([100]:List UInt8)]:List (List UInt8))) λrA=>
 bd (jo rA.1 (⟨2,0,0,(⟨0,0,0,([]:List UInt8),([]:List ae),(⟨0,0,([]:List UInt8)⟩:aa),([]:List aa),(⟨0,0,false,0,([]:List UInt8),([]:List aa)⟩:ae)⟩:aw)⟩:eh)) λaY=>
 bd (Loop wL (aY.S.F,aY.S.T,aY.fW,aY.Want,aY.N,aY.cA,0)) λw=>
 bd (Loop wM (w.1,w.2.1,w.2.2.1,w.2.2.2.1,w.2.2.2.2.1,w.2.2.2.2.2,1)) λw1=>
 bd (jG (⟨(⟨w1.1,w1.2.1⟩:ak),w1.2.2.1,w1.2.2.2.1,w1.2.2.2.2.1,w1.2.2.2.2.2⟩:aQ) 2) λeU=>
 bd (jG (⟨(⟨w1.1,w1.2.1⟩:ak),w1.2.2.1,w1.2.2.2.1,w1.2.2.2.2.1,w1.2.2.2.2.2⟩:aQ) 1) λkP=>
 bd (if rA.2=0 then
  if eU.2 then
  if eU.1=([97]:List UInt8) then
  some (!kP.2)
  else
  some false
  else
  some false
  else
  some false:Option Bool) λw2=>
 some w2
 else none
def lC (a:lh)(a1:Int)(a2:List eh)(st:Int×Int×Int×Int×Bool×Int×(List UInt8)×(List aa)×(List aa)×Int×Int×(List aa)×(List aa)×(List aa)×Bool×(List UInt8)×(List ae)×Int×Int×Int×Int×Int×Bool×Int×(List UInt8)×(List aa)×(List aa)×Int×Int×(List aa)×(List aa)×(List aa)×Bool×(List UInt8)×(List ae)×Int×Int):Option ((Int×Int×Int×Int×Bool×Int×(List UInt8)×(List aa)×(List aa)×Int×Int×(List aa)×(List aa)×(List aa)×Bool×(List UInt8)×(List ae)×Int×Int×Int×Int×Int×Bool×Int×(List UInt8)×(List aa)×(List aa)×Int×Int×(List aa)×(List aa)×(List aa)×Bool×(List UInt8)×(List ae)×Int×Int)⊕(Unit⊕Bool)):=if st.2.2.2.2.2.2.2.2.2.2.2.2.2.2.2.2.2.2.2.2.2.2.2.2.2.2.2.2.2.2.2.2.2.2.2.2<(a2.length:Int) then
 ix a2 st.2.2.2.2.2.2.2.2.2.2.2.2.2.2.2.2.2.2.2.2.2.2.2.2.2.2.2.2.2.2.2.2.2.2.2.2 λy=>
 bd (if y.Kind=0 then
  some (decide (y.Kind=0))
  else
  some (decide (y.Kind=3)):Option Bool) λw2=>
 bd (if w2 then
  bd (eI a.S a1 (⟨(⟨(⟨st.1,st.2.1⟩:ak),st.2.2.1,st.2.2.2.1,st.2.2.2.2.1,st.2.2.2.2.2.1,st.2.2.2.2.2.2.1,st.2.2.2.2.2.2.2.1,(⟨st.2.2.2.2.2.2.2.2.1⟩:az)⟩:aj),(⟨(⟨st.2.2.2.2.2.2.2.2.2.1,st.2.2.2.2.2.2.2.2.2.2.1⟩:ak),(⟨st.2.2.2.2.2.2.2.2.2.2.2.1⟩:az),(⟨st.2.2.2.2.2.2.2.2.2.2.2.2.1⟩:az),(⟨st.2.2.2.2.2.2.2.2.2.2.2.2.2.1⟩:az),st.2.2.2.2.2.2.2.2.2.2.2.2.2.2.1,st.2.2.2.2.2.2.2.2.2.2.2.2.2.2.2.1⟩:aq),st.2.2.2.2.2.2.2.2.2.2.2.2.2.2.2.2.1,st.2.2.2.2.2.2.2.2.2.2.2.2.2.2.2.2.2.1⟩:aD) y.M) λGR=>
  bd (lM a.S) λrA9=>
  bd (Fk y.M) λadj=>
  bd (kA rA9 a1 (⟨(⟨(⟨st.2.2.2.2.2.2.2.2.2.2.2.2.2.2.2.2.2.2.1,st.2.2.2.2.2.2.2.2.2.2.2.2.2.2.2.2.2.2.2.1⟩:aV),st.2.2.2.2.2.2.2.2.2.2.2.2.2.2.2.2.2.2.2.2.1,st.2.2.2.2.2.2.2.2.2.2.2.2.2.2.2.2.2.2.2.2.2.1,st.2.2.2.2.2.2.2.2.2.2.2.2.2.2.2.2.2.2.2.2.2.2.1,st.2.2.2.2.2.2.2.2.2.2.2.2.2.2.2.2.2.2.2.2.2.2.2.1,st.2.2.2.2.2.2.2.2.2.2.2.2.2.2.2.2.2.2.2.2.2.2.2.2.1,st.2.2.2.2.2.2.2.2.2.2.2.2.2.2.2.2.2.2.2.2.2.2.2.2.2.1,(⟨st.2.2.2.2.2.2.2.2.2.2.2.2.2.2.2.2.2.2.2.2.2.2.2.2.2.2.1⟩:aL)⟩:aN),(⟨(⟨st.2.2.2.2.2.2.2.2.2.2.2.2.2.2.2.2.2.2.2.2.2.2.2.2.2.2.2.1,st.2.2.2.2.2.2.2.2.2.2.2.2.2.2.2.2.2.2.2.2.2.2.2.2.2.2.2.2.1⟩:aV),(⟨st.2.2.2.2.2.2.2.2.2.2.2.2.2.2.2.2.2.2.2.2.2.2.2.2.2.2.2.2.2.1⟩:aL),(⟨st.2.2.2.2.2.2.2.2.2.2.2.2.2.2.2.2.2.2.2.2.2.2.2.2.2.2.2.2.2.2.1⟩:aL),(⟨st.2.2.2.2.2.2.2.2.2.2.2.2.2.2.2.2.2.2.2.2.2.2.2.2.2.2.2.2.2.2.2.1⟩:aL),st.2.2.2.2.2.2.2.2.2.2.2.2.2.2.2.2.2.2.2.2.2.2.2.2.2.2.2.2.2.2.2.2.1,st.2.2.2.2.2.2.2.2.2.2.2.2.2.2.2.2.2.2.2.2.2.2.2.2.2.2.2.2.2.2.2.2.2.1⟩:bq),st.2.2.2.2.2.2.2.2.2.2.2.2.2.2.2.2.2.2.2.2.2.2.2.2.2.2.2.2.2.2.2.2.2.2.1,st.2.2.2.2.2.2.2.2.2.2.2.2.2.2.2.2.2.2.2.2.2.2.2.2.2.2.2.2.2.2.2.2.2.2.2.1⟩:cC) adj) λvQ=>
  some (GR.1.A.S.F,GR.1.A.S.T,GR.1.A.Me,GR.1.A.View,GR.1.A.Has,GR.1.A.At,GR.1.A.Value,GR.1.A.Proof,GR.1.A.bI.L,GR.1.L.S.F,GR.1.L.S.T,GR.1.L.aO.L,GR.1.L.aP.L,GR.1.L.Told.L,GR.1.L.bE,GR.1.L.Value,GR.1.cy,GR.1.fh,vQ.1.A.S.F,vQ.1.A.S.T,vQ.1.A.Me,vQ.1.A.View,vQ.1.A.Has,vQ.1.A.At,vQ.1.A.Value,vQ.1.A.Proof,vQ.1.A.bI.L,vQ.1.L.S.F,vQ.1.L.S.T,vQ.1.L.aO.L,vQ.1.L.aP.L,vQ.1.L.Told.L,vQ.1.L.bE,vQ.1.L.Value,vQ.1.cy,vQ.1.fh,GR.2,vQ.2)
  else
  bd (if y.Kind=1 then
   bd (pu a.S a1 (⟨(⟨(⟨st.1,st.2.1⟩:ak),st.2.2.1,st.2.2.2.1,st.2.2.2.2.1,st.2.2.2.2.2.1,st.2.2.2.2.2.2.1,st.2.2.2.2.2.2.2.1,(⟨st.2.2.2.2.2.2.2.2.1⟩:az)⟩:aj),(⟨(⟨st.2.2.2.2.2.2.2.2.2.1,st.2.2.2.2.2.2.2.2.2.2.1⟩:ak),(⟨st.2.2.2.2.2.2.2.2.2.2.2.1⟩:az),(⟨st.2.2.2.2.2.2.2.2.2.2.2.2.1⟩:az),(⟨st.2.2.2.2.2.2.2.2.2.2.2.2.2.1⟩:az),st.2.2.2.2.2.2.2.2.2.2.2.2.2.2.1,st.2.2.2.2.2.2.2.2.2.2.2.2.2.2.2.1⟩:aq),st.2.2.2.2.2.2.2.2.2.2.2.2.2.2.2.2.1,st.2.2.2.2.2.2.2.2.2.2.2.2.2.2.2.2.2.1⟩:aD) y.I) λvR=>
   bd (lM a.S) λadk=>
   bd (u6 adk a1 (⟨(⟨(⟨st.2.2.2.2.2.2.2.2.2.2.2.2.2.2.2.2.2.2.1,st.2.2.2.2.2.2.2.2.2.2.2.2.2.2.2.2.2.2.2.1⟩:aV),st.2.2.2.2.2.2.2.2.2.2.2.2.2.2.2.2.2.2.2.2.1,st.2.2.2.2.2.2.2.2.2.2.2.2.2.2.2.2.2.2.2.2.2.1,st.2.2.2.2.2.2.2.2.2.2.2.2.2.2.2.2.2.2.2.2.2.2.1,st.2.2.2.2.2.2.2.2.2.2.2.2.2.2.2.2.2.2.2.2.2.2.2.1,st.2.2.2.2.2.2.2.2.2.2.2.2.2.2.2.2.2.2.2.2.2.2.2.2.1,st.2.2.2.2.2.2.2.2.2.2.2.2.2.2.2.2.2.2.2.2.2.2.2.2.2.1,(⟨st.2.2.2.2.2.2.2.2.2.2.2.2.2.2.2.2.2.2.2.2.2.2.2.2.2.2.1⟩:aL)⟩:aN),(⟨(⟨st.2.2.2.2.2.2.2.2.2.2.2.2.2.2.2.2.2.2.2.2.2.2.2.2.2.2.2.1,st.2.2.2.2.2.2.2.2.2.2.2.2.2.2.2.2.2.2.2.2.2.2.2.2.2.2.2.2.1⟩:aV),(⟨st.2.2.2.2.2.2.2.2.2.2.2.2.2.2.2.2.2.2.2.2.2.2.2.2.2.2.2.2.2.1⟩:aL),(⟨st.2.2.2.2.2.2.2.2.2.2.2.2.2.2.2.2.2.2.2.2.2.2.2.2.2.2.2.2.2.2.1⟩:aL),(⟨st.2.2.2.2.2.2.2.2.2.2.2.2.2.2.2.2.2.2.2.2.2.2.2.2.2.2.2.2.2.2.2.1⟩:aL),st.2.2.2.2.2.2.2.2.2.2.2.2.2.2.2.2.2.2.2.2.2.2.2.2.2.2.2.2.2.2.2.2.1,st.2.2.2.2.2.2.2.2.2.2.2.2.2.2.2.2.2.2.2.2.2.2.2.2.2.2.2.2.2.2.2.2.2.1⟩:bq),st.2.2.2.2.2.2.2.2.2.2.2.2.2.2.2.2.2.2.2.2.2.2.2.2.2.2.2.2.2.2.2.2.2.2.1,st.2.2.2.2.2.2.2.2.2.2.2.2.2.2.2.2.2.2.2.2.2.2.2.2.2.2.2.2.2.2.2.2.2.2.2.1⟩:cC) y.I) λvT=>
   some (vR.1.A.S.F,vR.1.A.S.T,vR.1.A.Me,vR.1.A.View,vR.1.A.Has,vR.1.A.At,vR.1.A.Value,vR.1.A.Proof,vR.1.A.bI.L,vR.1.L.S.F,vR.1.L.S.T,vR.1.L.aO.L,vR.1.L.aP.L,vR.1.L.Told.L,vR.1.L.bE,vR.1.L.Value,vR.1.cy,vR.1.fh,vT.1.A.S.F,vT.1.A.S.T,vT.1.A.Me,vT.1.A.View,vT.1.A.Has,vT.1.A.At,vT.1.A.Value,vT.1.A.Proof,vT.1.A.bI.L,vT.1.L.S.F,vT.1.L.S.T,vT.1.L.aO.L,vT.1.L.aP.L,vT.1.L.Told.L,vT.1.L.bE,vT.1.L.Value,vT.1.cy,vT.1.fh,vR.2,vT.2)
   else
   bd (if y.Kind=2 then
    bd (iA a.S a1 (⟨(⟨(⟨st.1,st.2.1⟩:ak),st.2.2.1,st.2.2.2.1,st.2.2.2.2.1,st.2.2.2.2.2.1,st.2.2.2.2.2.2.1,st.2.2.2.2.2.2.2.1,(⟨st.2.2.2.2.2.2.2.2.1⟩:az)⟩:aj),(⟨(⟨st.2.2.2.2.2.2.2.2.2.1,st.2.2.2.2.2.2.2.2.2.2.1⟩:ak),(⟨st.2.2.2.2.2.2.2.2.2.2.2.1⟩:az),(⟨st.2.2.2.2.2.2.2.2.2.2.2.2.1⟩:az),(⟨st.2.2.2.2.2.2.2.2.2.2.2.2.2.1⟩:az),st.2.2.2.2.2.2.2.2.2.2.2.2.2.2.1,st.2.2.2.2.2.2.2.2.2.2.2.2.2.2.2.1⟩:aq),st.2.2.2.2.2.2.2.2.2.2.2.2.2.2.2.2.1,st.2.2.2.2.2.2.2.2.2.2.2.2.2.2.2.2.2.1⟩:aD) y.M.Value) λvU=>
    bd (lM a.S) λadl=>
    bd (pz adl a1 (⟨(⟨(⟨st.2.2.2.2.2.2.2.2.2.2.2.2.2.2.2.2.2.2.1,st.2.2.2.2.2.2.2.2.2.2.2.2.2.2.2.2.2.2.2.1⟩:aV),st.2.2.2.2.2.2.2.2.2.2.2.2.2.2.2.2.2.2.2.2.1,st.2.2.2.2.2.2.2.2.2.2.2.2.2.2.2.2.2.2.2.2.2.1,st.2.2.2.2.2.2.2.2.2.2.2.2.2.2.2.2.2.2.2.2.2.2.1,st.2.2.2.2.2.2.2.2.2.2.2.2.2.2.2.2.2.2.2.2.2.2.2.1,st.2.2.2.2.2.2.2.2.2.2.2.2.2.2.2.2.2.2.2.2.2.2.2.2.1,st.2.2.2.2.2.2.2.2.2.2.2.2.2.2.2.2.2.2.2.2.2.2.2.2.2.1,(⟨st.2.2.2.2.2.2.2.2.2.2.2.2.2.2.2.2.2.2.2.2.2.2.2.2.2.2.1⟩:aL)⟩:aN),(⟨(⟨st.2.2.2.2.2.2.2.2.2.2.2.2.2.2.2.2.2.2.2.2.2.2.2.2.2.2.2.1,st.2.2.2.2.2.2.2.2.2.2.2.2.2.2.2.2.2.2.2.2.2.2.2.2.2.2.2.2.1⟩:aV),(⟨st.2.2.2.2.2.2.2.2.2.2.2.2.2.2.2.2.2.2.2.2.2.2.2.2.2.2.2.2.2.1⟩:aL),(⟨st.2.2.2.2.2.2.2.2.2.2.2.2.2.2.2.2.2.2.2.2.2.2.2.2.2.2.2.2.2.2.1⟩:aL),(⟨st.2.2.2.2.2.2.2.2.2.2.2.2.2.2.2.2.2.2.2.2.2.2.2.2.2.2.2.2.2.2.2.1⟩:aL),st.2.2.2.2.2.2.2.2.2.2.2.2.2.2.2.2.2.2.2.2.2.2.2.2.2.2.2.2.2.2.2.2.1,st.2.2.2.2.2.2.2.2.2.2.2.2.2.2.2.2.2.2.2.2.2.2.2.2.2.2.2.2.2.2.2.2.2.1⟩:bq),st.2.2.2.2.2.2.2.2.2.2.2.2.2.2.2.2.2.2.2.2.2.2.2.2.2.2.2.2.2.2.2.2.2.2.1,st.2.2.2.2.2.2.2.2.2.2.2.2.2.2.2.2.2.2.2.2.2.2.2.2.2.2.2.2.2.2.2.2.2.2.2.1⟩:cC) y.M.Value) λvV=>
    some (vU.1.A.S.F,vU.1.A.S.T,vU.1.A.Me,vU.1.A.View,vU.1.A.Has,vU.1.A.At,vU.1.A.Value,vU.1.A.Proof,vU.1.A.bI.L,vU.1.L.S.F,vU.1.L.S.T,vU.1.L.aO.L,vU.1.L.aP.L,vU.1.L.Told.L,vU.1.L.bE,vU.1.L.Value,vU.1.cy,vU.1.fh,vV.1.A.S.F,vV.1.A.S.T,vV.1.A.Me,vV.1.A.View,vV.1.A.Has,vV.1.A.At,vV.1.A.Value,vV.1.A.Proof,vV.1.A.bI.L,vV.1.L.S.F,vV.1.L.S.T,vV.1.L.aO.L,vV.1.L.aP.L,vV.1.L.Told.L,vV.1.L.bE,vV.1.L.Value,vV.1.cy,vV.1.fh,vU.2,vV.2)
    else
    bd (if y.Kind=4 then
     bd (nw a.S a1 (⟨(⟨(⟨st.1,st.2.1⟩:ak),st.2.2.1,st.2.2.2.1,st.2.2.2.2.1,st.2.2.2.2.2.1,st.2.2.2.2.2.2.1,st.2.2.2.2.2.2.2.1,(⟨st.2.2.2.2.2.2.2.2.1⟩:az)⟩:aj),(⟨(⟨st.2.2.2.2.2.2.2.2.2.1,st.2.2.2.2.2.2.2.2.2.2.1⟩:ak),(⟨st.2.2.2.2.2.2.2.2.2.2.2.1⟩:az),(⟨st.2.2.2.2.2.2.2.2.2.2.2.2.1⟩:az),(⟨st.2.2.2.2.2.2.2.2.2.2.2.2.2.1⟩:az),st.2.2.2.2.2.2.2.2.2.2.2.2.2.2.1,st.2.2.2.2.2.2.2.2.2.2.2.2.2.2.2.1⟩:aq),st.2.2.2.2.2.2.2.2.2.2.2.2.2.2.2.2.1,st.2.2.2.2.2.2.2.2.2.2.2.2.2.2.2.2.2.1⟩:aD)) λxu=>
     bd (lM a.S) λadm=>
     bd (sR adm a1 (⟨(⟨(⟨st.2.2.2.2.2.2.2.2.2.2.2.2.2.2.2.2.2.2.1,st.2.2.2.2.2.2.2.2.2.2.2.2.2.2.2.2.2.2.2.1⟩:aV),st.2.2.2.2.2.2.2.2.2.2.2.2.2.2.2.2.2.2.2.2.1,st.2.2.2.2.2.2.2.2.2.2.2.2.2.2.2.2.2.2.2.2.2.1,st.2.2.2.2.2.2.2.2.2.2.2.2.2.2.2.2.2.2.2.2.2.2.1,st.2.2.2.2.2.2.2.2.2.2.2.2.2.2.2.2.2.2.2.2.2.2.2.1,st.2.2.2.2.2.2.2.2.2.2.2.2.2.2.2.2.2.2.2.2.2.2.2.2.1,st.2.2.2.2.2.2.2.2.2.2.2.2.2.2.2.2.2.2.2.2.2.2.2.2.2.1,(⟨st.2.2.2.2.2.2.2.2.2.2.2.2.2.2.2.2.2.2.2.2.2.2.2.2.2.2.1⟩:aL)⟩:aN),(⟨(⟨st.2.2.2.2.2.2.2.2.2.2.2.2.2.2.2.2.2.2.2.2.2.2.2.2.2.2.2.1,st.2.2.2.2.2.2.2.2.2.2.2.2.2.2.2.2.2.2.2.2.2.2.2.2.2.2.2.2.1⟩:aV),(⟨st.2.2.2.2.2.2.2.2.2.2.2.2.2.2.2.2.2.2.2.2.2.2.2.2.2.2.2.2.2.1⟩:aL),(⟨st.2.2.2.2.2.2.2.2.2.2.2.2.2.2.2.2.2.2.2.2.2.2.2.2.2.2.2.2.2.2.1⟩:aL),(⟨st.2.2.2.2.2.2.2.2.2.2.2.2.2.2.2.2.2.2.2.2.2.2.2.2.2.2.2.2.2.2.2.1⟩:aL),st.2.2.2.2.2.2.2.2.2.2.2.2.2.2.2.2.2.2.2.2.2.2.2.2.2.2.2.2.2.2.2.2.1,st.2.2.2.2.2.2.2.2.2.2.2.2.2.2.2.2.2.2.2.2.2.2.2.2.2.2.2.2.2.2.2.2.2.1⟩:bq),st.2.2.2.2.2.2.2.2.2.2.2.2.2.2.2.2.2.2.2.2.2.2.2.2.2.2.2.2.2.2.2.2.2.2.1,st.2.2.2.2.2.2.2.2.2.2.2.2.2.2.2.2.2.2.2.2.2.2.2.2.2.2.2.2.2.2.2.2.2.2.2.1⟩:cC)) λxv=>
     some (xu.A.S.F,xu.A.S.T,xu.A.Me,xu.A.View,xu.A.Has,xu.A.At,xu.A.Value,xu.A.Proof,xu.A.bI.L,xu.L.S.F,xu.L.S.T,xu.L.aO.L,xu.L.aP.L,xu.L.Told.L,xu.L.bE,xu.L.Value,xu.cy,xu.fh,xv.A.S.F,xv.A.S.T,xv.A.Me,xv.A.View,xv.A.Has,xv.A.At,xv.A.Value,xv.A.Proof,xv.A.bI.L,xv.L.S.F,xv.L.S.T,xv.L.aO.L,xv.L.aP.L,xv.L.Told.L,xv.L.bE,xv.L.Value,xv.cy,xv.fh)
     else
     some (st.1,st.2.1,st.2.2.1,st.2.2.2.1,st.2.2.2.2.1,st.2.2.2.2.2.1,st.2.2.2.2.2.2.1,st.2.2.2.2.2.2.2.1,st.2.2.2.2.2.2.2.2.1,st.2.2.2.2.2.2.2.2.2.1,st.2.2.2.2.2.2.2.2.2.2.1,st.2.2.2.2.2.2.2.2.2.2.2.1,st.2.2.2.2.2.2.2.2.2.2.2.2.1,st.2.2.2.2.2.2.2.2.2.2.2.2.2.1,st.2.2.2.2.2.2.2.2.2.2.2.2.2.2.1,st.2.2.2.2.2.2.2.2.2.2.2.2.2.2.2.1,st.2.2.2.2.2.2.2.2.2.2.2.2.2.2.2.2.1,st.2.2.2.2.2.2.2.2.2.2.2.2.2.2.2.2.2.1,st.2.2.2.2.2.2.2.2.2.2.2.2.2.2.2.2.2.2.1,st.2.2.2.2.2.2.2.2.2.2.2.2.2.2.2.2.2.2.2.1,st.2.2.2.2.2.2.2.2.2.2.2.2.2.2.2.2.2.2.2.2.1,st.2.2.2.2.2.2.2.2.2.2.2.2.2.2.2.2.2.2.2.2.2.1,st.2.2.2.2.2.2.2.2.2.2.2.2.2.2.2.2.2.2.2.2.2.2.1,st.2.2.2.2.2.2.2.2.2.2.2.2.2.2.2.2.2.2.2.2.2.2.2.1,st.2.2.2.2.2.2.2.2.2.2.2.2.2.2.2.2.2.2.2.2.2.2.2.2.1,st.2.2.2.2.2.2.2.2.2.2.2.2.2.2.2.2.2.2.2.2.2.2.2.2.2.1,st.2.2.2.2.2.2.2.2.2.2.2.2.2.2.2.2.2.2.2.2.2.2.2.2.2.2.1,st.2.2.2.2.2.2.2.2.2.2.2.2.2.2.2.2.2.2.2.2.2.2.2.2.2.2.2.1,st.2.2.2.2.2.2.2.2.2.2.2.2.2.2.2.2.2.2.2.2.2.2.2.2.2.2.2.2.1,st.2.2.2.2.2.2.2.2.2.2.2.2.2.2.2.2.2.2.2.2.2.2.2.2.2.2.2.2.2.1,st.2.2.2.2.2.2.2.2.2.2.2.2.2.2.2.2.2.2.2.2.2.2.2.2.2.2.2.2.2.2.1,st.2.2.2.2.2.2.2.2.2.2.2.2.2.2.2.2.2.2.2.2.2.2.2.2.2.2.2.2.2.2.2.1,st.2.2.2.2.2.2.2.2.2.2.2.2.2.2.2.2.2.2.2.2.2.2.2.2.2.2.2.2.2.2.2.2.1,st.2.2.2.2.2.2.2.2.2.2.2.2.2.2.2.2.2.2.2.2.2.2.2.2.2.2.2.2.2.2.2.2.2.1,st.2.2.2.2.2.2.2.2.2.2.2.2.2.2.2.2.2.2.2.2.2.2.2.2.2.2.2.2.2.2.2.2.2.2.1,st.2.2.2.2.2.2.2.2.2.2.2.2.2.2.2.2.2.2.2.2.2.2.2.2.2.2.2.2.2.2.2.2.2.2.2.1):Option (Int×Int×Int×Int×Bool×Int×(List UInt8)×(List aa)×(List aa)×Int×Int×(List aa)×(List aa)×(List aa)×Bool×(List UInt8)×(List ae)×Int×Int×Int×Int×Int×Bool×Int×(List UInt8)×(List aa)×(List aa)×Int×Int×(List aa)×(List aa)×(List aa)×Bool×(List UInt8)×(List ae)×Int)) λw6=>
    some (w6.1,w6.2.1,w6.2.2.1,w6.2.2.2.1,w6.2.2.2.2.1,w6.2.2.2.2.2.1,w6.2.2.2.2.2.2.1,w6.2.2.2.2.2.2.2.1,w6.2.2.2.2.2.2.2.2.1,w6.2.2.2.2.2.2.2.2.2.1,w6.2.2.2.2.2.2.2.2.2.2.1,w6.2.2.2.2.2.2.2.2.2.2.2.1,w6.2.2.2.2.2.2.2.2.2.2.2.2.1,w6.2.2.2.2.2.2.2.2.2.2.2.2.2.1,w6.2.2.2.2.2.2.2.2.2.2.2.2.2.2.1,w6.2.2.2.2.2.2.2.2.2.2.2.2.2.2.2.1,w6.2.2.2.2.2.2.2.2.2.2.2.2.2.2.2.2.1,w6.2.2.2.2.2.2.2.2.2.2.2.2.2.2.2.2.2.1,w6.2.2.2.2.2.2.2.2.2.2.2.2.2.2.2.2.2.2.1,w6.2.2.2.2.2.2.2.2.2.2.2.2.2.2.2.2.2.2.2.1,w6.2.2.2.2.2.2.2.2.2.2.2.2.2.2.2.2.2.2.2.2.1,w6.2.2.2.2.2.2.2.2.2.2.2.2.2.2.2.2.2.2.2.2.2.1,w6.2.2.2.2.2.2.2.2.2.2.2.2.2.2.2.2.2.2.2.2.2.2.1,w6.2.2.2.2.2.2.2.2.2.2.2.2.2.2.2.2.2.2.2.2.2.2.2.1,w6.2.2.2.2.2.2.2.2.2.2.2.2.2.2.2.2.2.2.2.2.2.2.2.2.1,w6.2.2.2.2.2.2.2.2.2.2.2.2.2.2.2.2.2.2.2.2.2.2.2.2.2.1,w6.2.2.2.2.2.2.2.2.2.2.2.2.2.2.2.2.2.2.2.2.2.2.2.2.2.2.1,w6.2.2.2.2.2.2.2.2.2.2.2.2.2.2.2.2.2.2.2.2.2.2.2.2.2.2.2.1,w6.2.2.2.2.2.2.2.2.2.2.2.2.2.2.2.2.2.2.2.2.2.2.2.2.2.2.2.2.1,w6.2.2.2.2.2.2.2.2.2.2.2.2.2.2.2.2.2.2.2.2.2.2.2.2.2.2.2.2.2.1,w6.2.2.2.2.2.2.2.2.2.2.2.2.2.2.2.2.2.2.2.2.2.2.2.2.2.2.2.2.2.2.1,w6.2.2.2.2.2.2.2.2.2.2.2.2.2.2.2.2.2.2.2.2.2.2.2.2.2.2.2.2.2.2.2.1,w6.2.2.2.2.2.2.2.2.2.2.2.2.2.2.2.2.2.2.2.2.2.2.2.2.2.2.2.2.2.2.2.2.1,w6.2.2.2.2.2.2.2.2.2.2.2.2.2.2.2.2.2.2.2.2.2.2.2.2.2.2.2.2.2.2.2.2.2.1,w6.2.2.2.2.2.2.2.2.2.2.2.2.2.2.2.2.2.2.2.2.2.2.2.2.2.2.2.2.2.2.2.2.2.2.1,w6.2.2.2.2.2.2.2.2.2.2.2.2.2.2.2.2.2.2.2.2.2.2.2.2.2.2.2.2.2.2.2.2.2.2.2,([]:List aw),([]:List bF)):Option (Int×Int×Int×Int×Bool×Int×(List UInt8)×(List aa)×(List aa)×Int×Int×(List aa)×(List aa)×(List aa)×Bool×(List UInt8)×(List ae)×Int×Int×Int×Int×Int×Bool×Int×(List UInt8)×(List aa)×(List aa)×Int×Int×(List aa)×(List aa)×(List aa)×Bool×(List UInt8)×(List ae)×Int×(List aw)×(List bF))) λw5=>
   some w5:Option (Int×Int×Int×Int×Bool×Int×(List UInt8)×(List aa)×(List aa)×Int×Int×(List aa)×(List aa)×(List aa)×Bool×(List UInt8)×(List ae)×Int×Int×Int×Int×Int×Bool×Int×(List UInt8)×(List aa)×(List aa)×Int×Int×(List aa)×(List aa)×(List aa)×Bool×(List UInt8)×(List ae)×Int×(List aw)×(List bF))) λw4=>
  some w4:Option (Int×Int×Int×Int×Bool×Int×(List UInt8)×(List aa)×(List aa)×Int×Int×(List aa)×(List aa)×(List aa)×Bool×(List UInt8)×(List ae)×Int×Int×Int×Int×Int×Bool×Int×(List UInt8)×(List aa)×(List aa)×Int×Int×(List aa)×(List aa)×(List aa)×Bool×(List UInt8)×(List ae)×Int×(List aw)×(List bF))) λw3=>
 bd (bd (Ba (⟨(⟨(⟨w3.1,w3.2.1⟩:ak),w3.2.2.1,w3.2.2.2.1,w3.2.2.2.2.1,w3.2.2.2.2.2.1,w3.2.2.2.2.2.2.1,w3.2.2.2.2.2.2.2.1,(⟨w3.2.2.2.2.2.2.2.2.1⟩:az)⟩:aj),(⟨(⟨w3.2.2.2.2.2.2.2.2.2.1,w3.2.2.2.2.2.2.2.2.2.2.1⟩:ak),(⟨w3.2.2.2.2.2.2.2.2.2.2.2.1⟩:az),(⟨w3.2.2.2.2.2.2.2.2.2.2.2.2.1⟩:az),(⟨w3.2.2.2.2.2.2.2.2.2.2.2.2.2.1⟩:az),w3.2.2.2.2.2.2.2.2.2.2.2.2.2.2.1,w3.2.2.2.2.2.2.2.2.2.2.2.2.2.2.2.1⟩:aq),w3.2.2.2.2.2.2.2.2.2.2.2.2.2.2.2.2.1,w3.2.2.2.2.2.2.2.2.2.2.2.2.2.2.2.2.2.1⟩:aD)) λadn=>
  bd (pv adn (⟨(⟨(⟨w3.2.2.2.2.2.2.2.2.2.2.2.2.2.2.2.2.2.2.1,w3.2.2.2.2.2.2.2.2.2.2.2.2.2.2.2.2.2.2.2.1⟩:aV),w3.2.2.2.2.2.2.2.2.2.2.2.2.2.2.2.2.2.2.2.2.1,w3.2.2.2.2.2.2.2.2.2.2.2.2.2.2.2.2.2.2.2.2.2.1,w3.2.2.2.2.2.2.2.2.2.2.2.2.2.2.2.2.2.2.2.2.2.2.1,w3.2.2.2.2.2.2.2.2.2.2.2.2.2.2.2.2.2.2.2.2.2.2.2.1,w3.2.2.2.2.2.2.2.2.2.2.2.2.2.2.2.2.2.2.2.2.2.2.2.2.1,w3.2.2.2.2.2.2.2.2.2.2.2.2.2.2.2.2.2.2.2.2.2.2.2.2.2.1,(⟨w3.2.2.2.2.2.2.2.2.2.2.2.2.2.2.2.2.2.2.2.2.2.2.2.2.2.2.1⟩:aL)⟩:aN),(⟨(⟨w3.2.2.2.2.2.2.2.2.2.2.2.2.2.2.2.2.2.2.2.2.2.2.2.2.2.2.2.1,w3.2.2.2.2.2.2.2.2.2.2.2.2.2.2.2.2.2.2.2.2.2.2.2.2.2.2.2.2.1⟩:aV),(⟨w3.2.2.2.2.2.2.2.2.2.2.2.2.2.2.2.2.2.2.2.2.2.2.2.2.2.2.2.2.2.1⟩:aL),(⟨w3.2.2.2.2.2.2.2.2.2.2.2.2.2.2.2.2.2.2.2.2.2.2.2.2.2.2.2.2.2.2.1⟩:aL),(⟨w3.2.2.2.2.2.2.2.2.2.2.2.2.2.2.2.2.2.2.2.2.2.2.2.2.2.2.2.2.2.2.2.1⟩:aL),w3.2.2.2.2.2.2.2.2.2.2.2.2.2.2.2.2.2.2.2.2.2.2.2.2.2.2.2.2.2.2.2.2.1,w3.2.2.2.2.2.2.2.2.2.2.2.2.2.2.2.2.2.2.2.2.2.2.2.2.2.2.2.2.2.2.2.2.2.1⟩:bq),w3.2.2.2.2.2.2.2.2.2.2.2.2.2.2.2.2.2.2.2.2.2.2.2.2.2.2.2.2.2.2.2.2.2.2.1,w3.2.2.2.2.2.2.2.2.2.2.2.2.2.2.2.2.2.2.2.2.2.2.2.2.2.2.2.2.2.2.2.2.2.2.2.1⟩:cC)) λaha=>
  if !aha then
  some true
  else
  bd (Bh w3.2.2.2.2.2.2.2.2.2.2.2.2.2.2.2.2.2.2.2.2.2.2.2.2.2.2.2.2.2.2.2.2.2.2.2.2.1) λado=>
  bd (yt ado w3.2.2.2.2.2.2.2.2.2.2.2.2.2.2.2.2.2.2.2.2.2.2.2.2.2.2.2.2.2.2.2.2.2.2.2.2.2) λahb=>
  some (!ahb):Option Bool) λw7=>
 if w7 then
 some (.inr (.inr false))
 else
 some (.inl (w3.1,w3.2.1,w3.2.2.1,w3.2.2.2.1,w3.2.2.2.2.1,w3.2.2.2.2.2.1,w3.2.2.2.2.2.2.1,w3.2.2.2.2.2.2.2.1,w3.2.2.2.2.2.2.2.2.1,w3.2.2.2.2.2.2.2.2.2.1,w3.2.2.2.2.2.2.2.2.2.2.1,w3.2.2.2.2.2.2.2.2.2.2.2.1,w3.2.2.2.2.2.2.2.2.2.2.2.2.1,w3.2.2.2.2.2.2.2.2.2.2.2.2.2.1,w3.2.2.2.2.2.2.2.2.2.2.2.2.2.2.1,w3.2.2.2.2.2.2.2.2.2.2.2.2.2.2.2.1,w3.2.2.2.2.2.2.2.2.2.2.2.2.2.2.2.2.1,w3.2.2.2.2.2.2.2.2.2.2.2.2.2.2.2.2.2.1,w3.2.2.2.2.2.2.2.2.2.2.2.2.2.2.2.2.2.2.1,w3.2.2.2.2.2.2.2.2.2.2.2.2.2.2.2.2.2.2.2.1,w3.2.2.2.2.2.2.2.2.2.2.2.2.2.2.2.2.2.2.2.2.1,w3.2.2.2.2.2.2.2.2.2.2.2.2.2.2.2.2.2.2.2.2.2.1,w3.2.2.2.2.2.2.2.2.2.2.2.2.2.2.2.2.2.2.2.2.2.2.1,w3.2.2.2.2.2.2.2.2.2.2.2.2.2.2.2.2.2.2.2.2.2.2.2.1,w3.2.2.2.2.2.2.2.2.2.2.2.2.2.2.2.2.2.2.2.2.2.2.2.2.1,w3.2.2.2.2.2.2.2.2.2.2.2.2.2.2.2.2.2.2.2.2.2.2.2.2.2.1,w3.2.2.2.2.2.2.2.2.2.2.2.2.2.2.2.2.2.2.2.2.2.2.2.2.2.2.1,w3.2.2.2.2.2.2.2.2.2.2.2.2.2.2.2.2.2.2.2.2.2.2.2.2.2.2.2.1,w3.2.2.2.2.2.2.2.2.2.2.2.2.2.2.2.2.2.2.2.2.2.2.2.2.2.2.2.2.1,w3.2.2.2.2.2.2.2.2.2.2.2.2.2.2.2.2.2.2.2.2.2.2.2.2.2.2.2.2.2.1,w3.2.2.2.2.2.2.2.2.2.2.2.2.2.2.2.2.2.2.2.2.2.2.2.2.2.2.2.2.2.2.1,w3.2.2.2.2.2.2.2.2.2.2.2.2.2.2.2.2.2.2.2.2.2.2.2.2.2.2.2.2.2.2.2.1,w3.2.2.2.2.2.2.2.2.2.2.2.2.2.2.2.2.2.2.2.2.2.2.2.2.2.2.2.2.2.2.2.2.1,w3.2.2.2.2.2.2.2.2.2.2.2.2.2.2.2.2.2.2.2.2.2.2.2.2.2.2.2.2.2.2.2.2.2.1,w3.2.2.2.2.2.2.2.2.2.2.2.2.2.2.2.2.2.2.2.2.2.2.2.2.2.2.2.2.2.2.2.2.2.2.1,w3.2.2.2.2.2.2.2.2.2.2.2.2.2.2.2.2.2.2.2.2.2.2.2.2.2.2.2.2.2.2.2.2.2.2.2.1,fj .i64 (st.2.2.2.2.2.2.2.2.2.2.2.2.2.2.2.2.2.2.2.2.2.2.2.2.2.2.2.2.2.2.2.2.2.2.2.2+1)))
 else
 some (.inr (.inl ()))
def r9 (a:lh)(a1:Int)(a2:List eh):Option Bool:=bd (ya a a2) λrA=>
 if !rA then
 bd (rG) λaY=>
 some aY
 else
 bd (mQ a.S a1) λbH=>
 bd (lM a.S) λcr=>
 bd (rE cr a1) λeU=>
 bd (if !decide (bH.2=eU.2) then
  some true
  else
  bd (Ba bH.1) λkP=>
  bd (pv kP eU.1) λqm=>
  some (!qm):Option Bool) λw=>
 if w then
 some false
 else
 if !decide (bH.2=0) then
 bd (rG) λA8=>
 some A8
 else
 bd (Loop (lC a a1 a2) (bH.1.A.S.F,bH.1.A.S.T,bH.1.A.Me,bH.1.A.View,bH.1.A.Has,bH.1.A.At,bH.1.A.Value,bH.1.A.Proof,bH.1.A.bI.L,bH.1.L.S.F,bH.1.L.S.T,bH.1.L.aO.L,bH.1.L.aP.L,bH.1.L.Told.L,bH.1.L.bE,bH.1.L.Value,bH.1.cy,bH.1.fh,eU.1.A.S.F,eU.1.A.S.T,eU.1.A.Me,eU.1.A.View,eU.1.A.Has,eU.1.A.At,eU.1.A.Value,eU.1.A.Proof,eU.1.A.bI.L,eU.1.L.S.F,eU.1.L.S.T,eU.1.L.aO.L,eU.1.L.aP.L,eU.1.L.Told.L,eU.1.L.bE,eU.1.L.Value,eU.1.cy,eU.1.fh,0)) λw1=>
 match w1 with
 | .inl p6=>
  bd (rG) λahc=>
  some ahc
 | .inr p7=>some p7
end
end Dn.S
