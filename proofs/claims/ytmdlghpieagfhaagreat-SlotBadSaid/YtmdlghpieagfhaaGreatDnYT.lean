import Derived.Test.YtmdlghpieagfhaaGreatDnC
/-
  The functions, on typed values. Conditions: none.
-/
set_option linter.unusedVariables false
set_option linter.unusedSimpArgs false
open Go.IntKind renaming wrap→eJ,bits→BY
open Int renaming toNat→sh,fdiv→IN,tmod→No
open List renaming drop→AI,take→AT,replicate→IS
open Go.FloatKind renaming nearest→IT
open Go Dn
set_option maxRecDepth 100000
namespace Dn.S
noncomputable section
structure af where
 F:Int
 T:Int
deriving DecidableEq
@[reducible] def IF (x : af) : List MV := [.i .i64 x.F, .i .i64 x.T]
@[reducible] def bP (x : af) : MV := .agg (IF x)
structure jg where
 S:af
 cQ:List Bool
 Want:List (List UInt8)
deriving DecidableEq
@[reducible] def UU (x : jg) : List MV := [.i .i64 x.S.F, .i .i64 x.S.T, .list (x.cQ.map MV.b), .list (x.Want.map MV.s)]
@[reducible] def CA (x : jg) : MV := .agg (UU x)
structure aa where
 By:Int
 View:Int
 Value:List UInt8
deriving DecidableEq
@[reducible] def Gh (x : aa) : List MV := [.i .i64 x.By, .i .i64 x.View, .s x.Value]
@[reducible] def ak (x : aa) : MV := .agg (Gh x)
structure ab where
 By:Int
 jo:Int
 Has:Bool
 View:Int
 Value:List UInt8
 Proof:List aa
deriving DecidableEq
@[reducible] def PE (x : ab) : List MV := [.i .i64 x.By, .i .i64 x.jo, .b x.Has, .i .i64 x.View, .s x.Value, .list (x.Proof.map ak)]
@[reducible] def aF (x : ab) : MV := .agg (PE x)
structure al where
 Kind:Int
 eQ:Int
 View:Int
 Value:List UInt8
 dP:List ab
 cf:aa
 Proof:List aa
 R:ab
deriving DecidableEq
@[reducible] def UW (x : al) : List MV := [.i .i64 x.Kind, .i .i64 x.eQ, .i .i64 x.View, .s x.Value, .list (x.dP.map aF), .i .i64 x.cf.By, .i .i64 x.cf.View, .s x.cf.Value, .list (x.Proof.map ak), .i .i64 x.R.By, .i .i64 x.R.jo, .b x.R.Has, .i .i64 x.R.View, .s x.R.Value, .list (x.R.Proof.map ak)]
@[reducible] def aX (x : al) : MV := .agg (UW x)
structure dy where
 Kind:Int
 I:Int
 J:Int
 M:al
deriving DecidableEq
@[reducible] def UX (x : dy) : List MV := [.i .i64 x.Kind, .i .i64 x.I, .i .i64 x.J, .i .i64 x.M.Kind, .i .i64 x.M.eQ, .i .i64 x.M.View, .s x.M.Value, .list (x.M.dP.map aF), .i .i64 x.M.cf.By, .i .i64 x.M.cf.View, .s x.M.cf.Value, .list (x.M.Proof.map ak), .i .i64 x.M.R.By, .i .i64 x.M.R.jo, .b x.M.R.Has, .i .i64 x.M.R.View, .s x.M.R.Value, .list (x.M.R.Proof.map ak)]
@[reducible] def mS (x : dy) : MV := .agg (UX x)
structure aD where
 L:List aa
deriving DecidableEq
@[reducible] def DM (x : aD) : List MV := [.list (x.L.map ak)]
@[reducible] def iM (x : aD) : MV := .agg (DM x)
structure ae where
 S:af
 Me:Int
 View:Int
 Has:Bool
 At:Int
 Value:List UInt8
 Proof:List aa
 bV:aD
deriving DecidableEq
@[reducible] def CB (x : ae) : List MV := [.i .i64 x.S.F, .i .i64 x.S.T, .i .i64 x.Me, .i .i64 x.View, .b x.Has, .i .i64 x.At, .s x.Value, .list (x.Proof.map ak), .list (x.bV.L.map ak)]
@[reducible] def bY (x : ae) : MV := .agg (CB x)
structure ar where
 S:af
 bj:aD
 bp:aD
 Told:aD
 cq:Bool
 Value:List UInt8
deriving DecidableEq
@[reducible] def gp (x : ar) : List MV := [.i .i64 x.S.F, .i .i64 x.S.T, .list (x.bj.L.map ak), .list (x.bp.L.map ak), .list (x.Told.L.map ak), .b x.cq, .s x.Value]
@[reducible] def cF (x : ar) : MV := .agg (gp x)
structure aq where
 A:ae
 L:ar
 df:List ab
 jy:Int
deriving DecidableEq
@[reducible] def CC (x : aq) : List MV := [.i .i64 x.A.S.F, .i .i64 x.A.S.T, .i .i64 x.A.Me, .i .i64 x.A.View, .b x.A.Has, .i .i64 x.A.At, .s x.A.Value, .list (x.A.Proof.map ak), .list (x.A.bV.L.map ak), .i .i64 x.L.S.F, .i .i64 x.L.S.T, .list (x.L.bj.L.map ak), .list (x.L.bp.L.map ak), .list (x.L.Told.L.map ak), .b x.L.cq, .s x.L.Value, .list (x.df.map aF), .i .i64 x.jy]
@[reducible] def bk (x : aq) : MV := .agg (CC x)
structure au where
 S:af
 cQ:List Bool
 Want:List (List UInt8)
 N:List aq
 bg:List al
deriving DecidableEq
@[reducible] def eD (x : au) : List MV := [.i .i64 x.S.F, .i .i64 x.S.T, .list (x.cQ.map MV.b), .list (x.Want.map MV.s), .list (x.N.map bk), .list (x.bg.map aX)]
@[reducible] def gU (x : au) : MV := .agg (eD x)
structure aO where
 b:List Int
 e:Int
deriving DecidableEq
@[reducible] def eL (x : aO) : List MV := [.list (x.b.map (MV.i .u8)), .i .i64 x.e]
structure cu where
 F:Int
 T:Int
deriving DecidableEq
structure bF where
 L:List aa
deriving DecidableEq
structure br where
 S:cu
 Me:Int
 View:Int
 Has:Bool
 At:Int
 Value:List UInt8
 Proof:List aa
 bV:bF
deriving DecidableEq
structure dj where
 S:cu
 bj:bF
 bp:bF
 Told:bF
 cq:Bool
 Value:List UInt8
deriving DecidableEq
structure km where
 A:br
 L:dj
 df:List ab
 jy:Int
deriving DecidableEq
structure eo where
 Kind:Int
 eQ:Int
 View:Int
 Value:List UInt8
 dP:List ab
 cf:aa
 Proof:List aa
 R:ab
deriving DecidableEq
def vB (a:jg)(st:Int):Option (Int⊕(Unit⊕Bool)):=if st<(a.Want.length:Int) then
 ix a.Want st λy=>
 if (200:Int)<(y.length:Int) then
 some (.inr (.inr false))
 else
 some (.inl (eJ .i64 (st+1)))
 else
 some (.inr (.inl ()))
def rV (y1:dy)(dV:Int):Option (Int⊕(Unit⊕Bool)):=if dV<(y1.M.dP.length:Int) then
 ix y1.M.dP dV λy2=>
 if (30:Int)<(y2.Proof.length:Int) then
 some (.inr (.inr false))
 else
 some (.inl (eJ .i64 (dV+1)))
 else
 some (.inr (.inl ()))
def rW (a1:List dy)(cR:Int):Option (Int⊕(Unit⊕Bool)):=if cR<(a1.length:Int) then
 ix a1 cR λy1=>
 bd (if (200:Int)<(y1.M.Value.length:Int) then
  some true
  else
  if (200:Int)<(y1.M.cf.Value.length:Int) then
  some true
  else
  if (30:Int)<(y1.M.Proof.length:Int) then
  some true
  else
  if (30:Int)<(y1.M.dP.length:Int) then
  some true
  else
  if (200:Int)<(y1.M.R.Value.length:Int) then
  some true
  else
  some (decide ((30:Int)<(y1.M.R.Proof.length:Int))):Option Bool) λw3=>
 if w3 then
 some (.inr (.inr false))
 else
 bd (Loop (rV y1) 0) λw4=>
 match w4 with
 | .inl p5=>some (.inl (eJ .i64 (cR+1)))
 | .inr p6=>some (.inr (.inr p6))
 else
 some (.inr (.inl ()))
def xb (a:jg)(a1:List dy):Option Bool:=bd (if (2:Int)<a.S.F then
  some true
  else
  if (30:Int)<(a.cQ.length:Int) then
  some true
  else
  if (30:Int)<(a.Want.length:Int) then
  some true
  else
  some (decide ((80:Int)<(a1.length:Int))):Option Bool) λw=>
 if w then
 some false
 else
 bd (Loop (vB a) 0) λw1=>
 match w1 with
 | .inl p1=>
  bd (Loop (rW a1) 0) λw2=>
  match w2 with
  | .inl p7=>some true
  | .inr p8=>some p8
 | .inr p2=>some p2
def wi (sA:af):Option (Nat×Nat):=some (IT .f64 sA.F,IT .f64 sA.T)
def kO (sA:af)(times:Nat×Nat):Option Int:=bd (wi sA) λrA=>
 bd (FloatKind.f64.format.mul rA.1 times.1) λf=>
 bd (FloatKind.f64.format.mul rA.2 times.2) λf1=>
 bd (FloatKind.f64.format.add f f1) λf2=>
 bd ((FloatKind.decode .f64 f2).toInt .zero) λn=>
 if IntKind.min .i64<=n/\n<=IntKind.max .i64 then
 some (eJ .i64 (n+1))
 else none
def pT (sA:af):Option Int:=bd (kO sA (4613937818241073152,4611686018427387904)) λrA=>some rA
def j0 (sA:af):Option Bool:=bd (if (1:Int)<=sA.F then
  if sA.F<=5 then
  if (0:Int)<=sA.T then
  some (decide (sA.T<=sA.F))
  else
  some false
  else
  some false
  else
  some false:Option Bool) λw=>
 some w
def nw (sA:af)(me:Int):Option (ae×Int):=bd (bd (j0 sA) λrA=>
  if !rA then
  some true
  else
  if me<0 then
  some true
  else
  bd (pT sA) λbc=>
  some (decide (bc<=me)):Option Bool) λw=>
 if w then
 some ((⟨(⟨0,0⟩:af),0,0,false,0,([]:List UInt8),([]:List aa),(⟨([]:List aa)⟩:aD)⟩:ae),1)
 else
 some ((⟨sA,me,0,false,0,([]:List UInt8),([]:List aa),(⟨([]:List aa)⟩:aD)⟩:ae),0)
def pj (sA:af):Option (ar×Int):=bd (j0 sA) λrA=>
 if !rA then
 some ((⟨(⟨0,0⟩:af),(⟨([]:List aa)⟩:aD),(⟨([]:List aa)⟩:aD),(⟨([]:List aa)⟩:aD),false,([]:List UInt8)⟩:ar),1)
 else
 some ((⟨sA,(⟨([]:List aa)⟩:aD),(⟨([]:List aa)⟩:aD),(⟨([]:List aa)⟩:aD),false,([]:List UInt8)⟩:ar),0)
def uc (sA:af)(i:Int):Option (aq×Int):=bd (nw sA i) λrA=>
 if !decide (rA.2=0) then
 some ((⟨(⟨(⟨0,0⟩:af),0,0,false,0,([]:List UInt8),([]:List aa),(⟨([]:List aa)⟩:aD)⟩:ae),(⟨(⟨0,0⟩:af),(⟨([]:List aa)⟩:aD),(⟨([]:List aa)⟩:aD),(⟨([]:List aa)⟩:aD),false,([]:List UInt8)⟩:ar),([]:List ab),0⟩:aq),rA.2)
 else
 bd (pj sA) λbc=>
 some ((⟨rA.1,bc.1,([]:List ab),(-1)⟩:aq),bc.2)
def CD (a:af)(a1:List Bool)(a2:List (List UInt8))(st:Int×Int×(List Bool)×(List (List UInt8))×(List aq)×(List al)×Int×Int×(List Bool)×(List (List UInt8))×(List aq)×(List al)×Int×Int):Option ((Int×Int×(List Bool)×(List (List UInt8))×(List aq)×(List al)×Int×Int×(List Bool)×(List (List UInt8))×(List aq)×(List al)×Int×Int)⊕((Int×Int×(List Bool)×(List (List UInt8))×(List aq)×(List al)×Int×Int×(List Bool)×(List (List UInt8))×(List aq)×(List al))⊕(Int×Int×(List Bool)×(List (List UInt8))×(List aq)×(List al)×Int))):=if st.2.2.2.2.2.2.2.2.2.2.2.2.2<(a1.length:Int) then
 ix a1 st.2.2.2.2.2.2.2.2.2.2.2.2.2 λy=>
 bd (if y then
  some (eJ .i64 (st.2.2.2.2.2.2.2.2.2.2.2.2.1-1))
  else
  some st.2.2.2.2.2.2.2.2.2.2.2.2.1:Option Int) λw2=>
 bd (ix a2 st.2.2.2.2.2.2.2.2.2.2.2.2.2 λy1=>
  if (6000:Int)<(y1.length:Int) then
  some true
  else
  some (decide (w2<0)):Option Bool) λw3=>
 if w3 then
 some (.inr (.inr (0,0,([]:List Bool),([]:List (List UInt8)),([]:List aq),([]:List al),1)))
 else
 bd (uc a st.2.2.2.2.2.2.2.2.2.2.2.2.2) λgm=>
 if (st.2.2.2.2.2.2.2.2.2.2.1.length+([gm.1]:List aq).length) *256<=2^46 then
 some (.inl (st.1,st.2.1,st.2.2.1,st.2.2.2.1,st.2.2.2.2.1,st.2.2.2.2.2.1,st.2.2.2.2.2.2.1,st.2.2.2.2.2.2.2.1,st.2.2.2.2.2.2.2.2.1,st.2.2.2.2.2.2.2.2.2.1,st.2.2.2.2.2.2.2.2.2.2.1++([gm.1]:List aq),st.2.2.2.2.2.2.2.2.2.2.2.1,w2,eJ .i64 (st.2.2.2.2.2.2.2.2.2.2.2.2.2+1)))
 else none
 else
 some (.inr (.inl (st.1,st.2.1,st.2.2.1,st.2.2.2.1,st.2.2.2.2.1,st.2.2.2.2.2.1,st.2.2.2.2.2.2.1,st.2.2.2.2.2.2.2.1,st.2.2.2.2.2.2.2.2.1,st.2.2.2.2.2.2.2.2.2.1,st.2.2.2.2.2.2.2.2.2.2.1,st.2.2.2.2.2.2.2.2.2.2.2.1)))
def ud (a:af)(a1:List Bool)(a2:List (List UInt8)):Option (au×Int):=bd (bd (j0 a) λrA=>
  if !rA then
  some true
  else
  bd (pT a) λbc=>
  if !decide ((a1.length:Int)=bc) then
  some true
  else
  some (!decide ((a2.length:Int)=(a1.length:Int))):Option Bool) λw=>
 if w then
 some ((⟨(⟨0,0⟩:af),([]:List Bool),([]:List (List UInt8)),([]:List aq),([]:List al)⟩:au),1)
 else
 bd (yd 1 a1) λbQ=>
 bd (yd 16 a2) λct=>
 bd (Loop (CD a a1 a2) (0,0,([]:List Bool),([]:List (List UInt8)),([]:List aq),([]:List al),a.F,a.T,bQ,ct,([]:List aq),([]:List al),a.F,0)) λw1=>
 match w1 with
 | .inl p2=>some ((⟨(⟨p2.2.2.2.2.2.2.1,p2.2.2.2.2.2.2.2.1⟩:af),p2.2.2.2.2.2.2.2.2.1,p2.2.2.2.2.2.2.2.2.2.1,p2.2.2.2.2.2.2.2.2.2.2.1,p2.2.2.2.2.2.2.2.2.2.2.2⟩:au),0)
 | .inr p3=>some ((⟨(⟨p3.1,p3.2.1⟩:af),p3.2.2.1,p3.2.2.2.1,p3.2.2.2.2.1,p3.2.2.2.2.2.1⟩:au),p3.2.2.2.2.2.2)
def pU (b:List Int)(y:Int)(st:Int×Int):Option ((Int×Int)⊕Int):=if st.2<((AI (sh 0) (AT (sh (eJ .i64 y)) (AI (sh 1) (AT (sh (b.length:Int)) b)))).length:Int) then
 ix (AI (sh 0) (AT (sh (eJ .i64 y)) (AI (sh 1) (AT (sh (b.length:Int)) b)))) st.2 λy2=>
 if (0:Int)<=8 then
 some (.inl (bOr .u64 (eJ .u64 (st.1 *2^min (sh 8) (BY .u64))) (eJ .u64 y2),eJ .i64 (st.2+1)))
 else none
 else
 some (.inr st.1)
def qZ (b:List Int):Option (Int×(List Int)×Int):=if (b.length:Int)=0 then
 some (0,([]:List Int),2)
 else
 ix b 0 λy=>
 if (0:Int)<=1/\(1:Int)<=(b.length:Int)/\(b.length:Int)<=(b.length:Int) then
 bd (if (8:Int)<(eJ .i64 y) then
  some true
  else
  if (0:Int)<(eJ .i64 y) then
  if (0:Int)<((AI (sh 1) (AT (sh (b.length:Int)) b)).length:Int) then
  ix (AI (sh 1) (AT (sh (b.length:Int)) b)) 0 λy1=>
  some (decide (y1=0))
  else
  some false
  else
  some false:Option Bool) λw=>
 if w then
 some (0,([]:List Int),3)
 else
 if ((AI (sh 1) (AT (sh (b.length:Int)) b)).length:Int)<(eJ .i64 y) then
 some (0,([]:List Int),2)
 else
 if (0:Int)<=0/\(0:Int)<=(eJ .i64 y)/\(eJ .i64 y)<=((AI (sh 1) (AT (sh (b.length:Int)) b)).length:Int) then
 bd (Loop (pU b y) (0,0)) λw1=>
 if (0:Int)<=(eJ .i64 y)/\(eJ .i64 y)<=((AI (sh 1) (AT (sh (b.length:Int)) b)).length:Int)/\((AI (sh 1) (AT (sh (b.length:Int)) b)).length:Int)<=((AI (sh 1) (AT (sh (b.length:Int)) b)).length:Int) then
 some (w1,AI (sh (eJ .i64 y)) (AT (sh ((AI (sh 1) (AT (sh (b.length:Int)) b)).length:Int)) (AI (sh 1) (AT (sh (b.length:Int)) b))),0)
 else none
 else none
 else none
def oe (b:List Int):Option (Int×(List Int)×Int):=bd (qZ b) λrA=>
 if (0:Int)<=1 then
 some (ET .i64 (eJ .i64 (IN rA.1 (2^min (sh 1) (BY .u64)))) (eJ .i64 (0-(eJ .i64 (QU .u64 rA.1 1)))),rA.2.1,rA.2.2)
 else none
def cg (t:aO):Option (Int×aO):=bd (if t.e=0 then
  bd (oe t.b) λrA=>
  some (rA.1,rA.2.1,rA.2.2)
  else
  some (0,t.b,t.e):Option (Int×(List Int)×Int)) λw=>
 some (w.1,(⟨w.2.1,w.2.2⟩:aO))
def kE (b:List Int)(most:Int):Option ((List UInt8)×(List Int)×Int):=bd (qZ b) λrA=>
 if !decide (rA.2.2=0) then
 some (([]:List UInt8),([]:List Int),rA.2.2)
 else
 if (eJ .u64 (imax most 0))<rA.1 then
 some (([]:List UInt8),([]:List Int),5)
 else
 if (eJ .u64 (rA.2.1.length:Int))<rA.1 then
 some (([]:List UInt8),([]:List Int),2)
 else
 if (0:Int)<=0/\(0:Int)<=rA.1/\rA.1<=(rA.2.1.length:Int) then
 NB (AI (sh 0) (AT (sh rA.1) rA.2.1)) λbs=>
 if (0:Int)<=rA.1/\rA.1<=(rA.2.1.length:Int)/\(rA.2.1.length:Int)<=(rA.2.1.length:Int) then
 some (bs,AI (sh rA.1) (AT (sh (rA.2.1.length:Int)) rA.2.1),0)
 else none
 else none
def dh (t:aO):Option ((List UInt8)×aO):=bd (if t.e=0 then
  bd (kE t.b 6000) λrA=>
  some (rA.1,rA.2.1,rA.2.2)
  else
  some (([]:List UInt8),t.b,t.e):Option ((List UInt8)×(List Int)×Int)) λw=>
 some (w.1,(⟨w.2.1,w.2.2⟩:aO))
def cj (rA:Int×aO)(st:(List aa)×Int×(List Int)×Int):Option (((List aa)×Int×(List Int)×Int)⊕((List aa)×(List Int)×Int)):=if st.2.1<((IS (sh rA.1) (⟨0,0,([]:List UInt8)⟩:aa)).length:Int) then
 bd (cg (⟨st.2.2.1,st.2.2.2⟩:aO)) λbc=>
 ix st.1 st.2.1 λy=>
 some (.inl (st.1.set (sh st.2.1) (⟨bc.1,y.View,y.Value⟩:aa),eJ .i64 (st.2.1+1),bc.2.b,bc.2.e))
 else
 some (.inr (st.1,st.2.2.1,st.2.2.2))
def fG (w3:(List aa)×(List Int)×Int)(bQ:Int×aO)(ct:(List UInt8)×aO)(cR:(List aa)×Int):Option (((List aa)×Int)⊕(List aa)):=if cR.2<(w3.1.length:Int) then
 ix cR.1 cR.2 λy1=>
 ix (cR.1.set (sh cR.2) (⟨y1.By,bQ.1,y1.Value⟩:aa)) cR.2 λy2=>
 some (.inl ((cR.1.set (sh cR.2) (⟨y1.By,bQ.1,y1.Value⟩:aa)).set (sh cR.2) (⟨y2.By,y2.View,ct.1⟩:aa),eJ .i64 (cR.2+1)))
 else
 some (.inr cR.1)
def dw (t:aO):Option ((List aa)×aO):=bd (cg t) λrA=>
 bd (if rA.1<0 then
  some true
  else
  some (decide ((100:Int)<rA.1)):Option Bool) λw=>
 bd (if w then
  some (rA.2.b,3)
  else
  some (rA.2.b,rA.2.e):Option ((List Int)×Int)) λw1=>
 bd (if !decide (w1.2=0) then
  some true
  else
  some (decide (rA.1=0)):Option Bool) λw2=>
 if w2 then
 some (([]:List aa),(⟨w1.1,w1.2⟩:aO))
 else
 if (0:Int)<=rA.1/\rA.1=rA.1/\rA.1 *32<=2^46 then
 bd (Loop (cj rA) (IS (sh rA.1) (⟨0,0,([]:List UInt8)⟩:aa),0,w1.1,w1.2)) λw3=>
 bd (cg (⟨w3.2.1,w3.2.2⟩:aO)) λbQ=>
 bd (dh bQ.2) λct=>
 bd (Loop (fG w3 bQ ct) (w3.1,0)) λw4=>
 some (w4,ct.2)
 else none
def iN (isA:Bool):Option Int:=if isA then
 some 1
 else
 some 0
def mT (sA:af):Option Int:=bd (kO sA (4611686018427387904,4607182418800017408)) λrA=>some rA
def lK (a:aa):Option Bool:=bd (if (0:Int)<=a.By then
  if (0:Int)<=a.View then
  if a.View<=100000 then
  some (decide ((a.Value.length:Int)<=6000))
  else
  some false
  else
  some false
  else
  some false:Option Bool) λw=>
 some w
def rv (t:aD)(st:Int):Option (Int⊕(Unit⊕Bool)):=if st<(t.L.length:Int) then
 ix t.L st λy=>
 bd (bd (lK y) λrA=>
  if !rA then
  some true
  else
  if (0:Int)<st then
  ix t.L (eJ .i64 (st-1)) λy1=>
  some (decide (y.By<=y1.By))
  else
  some false:Option Bool) λw1=>
 if w1 then
 some (.inr (.inr false))
 else
 some (.inl (eJ .i64 (st+1)))
 else
 some (.inr (.inl ()))
def rX (t:aD):Option Bool:=bd (Loop (rv t) 0) λw=>
 match w with
 | .inl p1=>some true
 | .inr p2=>some p2
def mU (t:aD)(view:Int)(value:List UInt8)(st:(List aa)×Int):Option (((List aa)×Int)⊕(List aa)):=if st.2<(t.L.length:Int) then
 ix t.L st.2 λy=>
 bd (if y.View=view then
  some (decide (y.Value=value))
  else
  some false:Option Bool) λw1=>
 bd (if w1 then
  if (st.1.length+([y]:List aa).length) *32<=2^46 then
  some (st.1++([y]:List aa))
  else none
  else
  some st.1:Option (List aa)) λw2=>
 some (.inl (w2,eJ .i64 (st.2+1)))
 else
 some (.inr st.1)
def ny (t:aD)(view:Int)(value:List UInt8):Option (List aa):=bd (Loop (mU t view value) (([]:List aa),0)) λw=>some w
def rY (t:aD)(view:Int)(value:List UInt8):Option Int:=bd (ny t view value) λrA=>some (rA.length:Int)
def gV (sA:af)(p:List aa):Option Bool:=bd (bd (j0 sA) λrA=>
  if !rA then
  some true
  else
  bd (mT sA) λbc=>
  if !decide ((p.length:Int)=bc) then
  some true
  else
  bd (rX (⟨p⟩:aD)) λbQ=>
  some (!bQ):Option Bool) λw=>
 if w then
 some false
 else
 bd (ix p (eJ .i64 ((p.length:Int)-1)) λy=>
  bd (pT sA) λct=>
  if y.By<ct then
  ix p 0 λy1=>
  ix p 0 λy2=>
  bd (rY (⟨p⟩:aD) y1.View y2.Value) λgm=>
  some (decide (gm=(p.length:Int)))
  else
  some false:Option Bool) λw1=>
 some w1
def et (a:ae):Option Bool:=bd (if a.View<0 then
  some true
  else
  some (decide ((100000:Int)<a.View)):Option Bool) λw=>
 if w then
 some false
 else
 bd (if a.Has then
  if a.At<0 then
  some true
  else
  if a.View<a.At then
  some true
  else
  some (decide ((6000:Int)<(a.Value.length:Int)))
  else
  some false:Option Bool) λw1=>
 if w1 then
 some false
 else
 bd (if !a.Has then
  if !decide (a.At=0) then
  some true
  else
  some (!decide (a.Value=([]:List UInt8)))
  else
  some false:Option Bool) λw2=>
 if w2 then
 some false
 else
 bd (if (a.Proof.length:Int)=0 then
  some true
  else
  bd (gV a.S a.Proof) λrA=>
  if rA then
  ix a.Proof 0 λy=>
  some (decide (y.View<=a.View))
  else
  some false:Option Bool) λw3=>
 some w3
def lL (a:af)(a1:Int)(a2:List Int):Option (ae×Int):=bd (nw a a1) λrA=>
 if !decide (rA.2=0) then
 some ((⟨(⟨0,0⟩:af),0,0,false,0,([]:List UInt8),([]:List aa),(⟨([]:List aa)⟩:aD)⟩:ae),rA.2)
 else
 bd (cg (⟨a2,0⟩:aO)) λbc=>
 bd (cg bc.2) λbQ=>
 bd (cg bQ.2) λct=>
 bd (dh ct.2) λgm=>
 bd (dw gm.2) λlz=>
 bd (if !decide (lz.2.e=0) then
  some true
  else
  bd (iN (decide (bQ.1=1))) λqK=>
  if !decide (bQ.1=qK) then
  some true
  else
  if (0:Int)<(lz.2.b.length:Int) then
  some true
  else
  bd (et (⟨rA.1.S,rA.1.Me,bc.1,decide (bQ.1=1),ct.1,gm.1,lz.1,rA.1.bV⟩:ae)) λzw=>
  some (!zw):Option Bool) λw=>
 if w then
 some ((⟨(⟨0,0⟩:af),0,0,false,0,([]:List UInt8),([]:List aa),(⟨([]:List aa)⟩:aD)⟩:ae),3)
 else
 some ((⟨rA.1.S,rA.1.Me,bc.1,decide (bQ.1=1),ct.1,gm.1,lz.1,rA.1.bV⟩:ae),0)
def oh (p:List aa):Option (Int×(List UInt8)×Bool):=if (p.length:Int)=0 then
 some ((-1),([]:List UInt8),false)
 else
 ix p 0 λy=>
 ix p 0 λy1=>
 some (y.View,y1.Value,true)
def yf (x:Int):Option Int:=bd (if (4294967296:Int)<=x then
  if (0:Int)<=32 then
  some (IN x (2^min (sh 32) (BY .u64)),32)
  else none
  else
  some (x,0):Option (Int×Int)) λw=>
 bd (if (65536:Int)<=w.1 then
  if (0:Int)<=16 then
  some (IN w.1 (2^min (sh 16) (BY .u64)),eJ .i64 (w.2+16))
  else none
  else
  some (w.1,w.2):Option (Int×Int)) λw1=>
 bd (if (256:Int)<=w1.1 then
  if (0:Int)<=8 then
  some (IN w1.1 (2^min (sh 8) (BY .u64)),eJ .i64 (w1.2+8))
  else none
  else
  some (w1.1,w1.2):Option (Int×Int)) λw2=>
 if (0:Int)<=(eJ .u8 w2.1)/\(eJ .u8 w2.1)<(((([0,1,2,2,3,3,3,3,4,4,4,4,4,4,4,4,5,5,5,5,5,5,5,5,5,5,5,5,5,5,5,5,6,6,6,6,6,6,6,6,6,6,6,6,6,6,6,6,6,6,6,6,6,6,6,6,6,6,6,6,6,6,6,6]:List UInt8)++([7,7,7,7,7,7,7,7,7,7,7,7,7,7,7,7,7,7,7,7,7,7,7,7,7,7,7,7,7,7,7,7,7,7,7,7,7,7,7,7,7,7,7,7,7,7,7,7,7,7,7,7,7,7,7,7,7,7,7,7,7,7,7,7]:List UInt8))++(([8,8,8,8,8,8,8,8,8,8,8,8,8,8,8,8,8,8,8,8,8,8,8,8,8,8,8,8,8,8,8,8,8,8,8,8,8,8,8,8,8,8,8,8,8,8,8,8,8,8,8,8,8,8,8,8,8,8,8,8,8,8,8,8]:List UInt8)++([8,8,8,8,8,8,8,8,8,8,8,8,8,8,8,8,8,8,8,8,8,8,8,8,8,8,8,8,8,8,8,8,8,8,8,8,8,8,8,8,8,8,8,8,8,8,8,8,8,8,8,8,8,8,8,8,8,8,8,8,8,8,8,8]:List UInt8))).length:Int) then
 some (eJ .i64 (w2.2+(eJ .i64 ((((([0,1,2,2,3,3,3,3,4,4,4,4,4,4,4,4,5,5,5,5,5,5,5,5,5,5,5,5,5,5,5,5,6,6,6,6,6,6,6,6,6,6,6,6,6,6,6,6,6,6,6,6,6,6,6,6,6,6,6,6,6,6,6,6]:List UInt8)++([7,7,7,7,7,7,7,7,7,7,7,7,7,7,7,7,7,7,7,7,7,7,7,7,7,7,7,7,7,7,7,7,7,7,7,7,7,7,7,7,7,7,7,7,7,7,7,7,7,7,7,7,7,7,7,7,7,7,7,7,7,7,7,7]:List UInt8))++(([8,8,8,8,8,8,8,8,8,8,8,8,8,8,8,8,8,8,8,8,8,8,8,8,8,8,8,8,8,8,8,8,8,8,8,8,8,8,8,8,8,8,8,8,8,8,8,8,8,8,8,8,8,8,8,8,8,8,8,8,8,8,8,8]:List UInt8)++([8,8,8,8,8,8,8,8,8,8,8,8,8,8,8,8,8,8,8,8,8,8,8,8,8,8,8,8,8,8,8,8,8,8,8,8,8,8,8,8,8,8,8,8,8,8,8,8,8,8,8,8,8,8,8,8,8,8,8,8,8,8,8,8]:List UInt8))).getD (sh (eJ .u8 w2.1)) 0).toNat:Int))))
 else none
def ue (n:Int):Option Int:=bd (yf n) λrA=>
 if !decide ((8:Int)=0) then
 some (eJ .i64 (1+(eJ .i64 (Int.tdiv (eJ .i64 (rA+7)) 8))))
 else none
def oM (sA:List Int):Option (List Int):=if (sA.length:Int)=(sA.length:Int)/\(sA.length:Int)=(sA.length:Int) then
 some sA
 else none
def rZ (n:Int)(st:(List Int)×Int):Option (((List Int)×Int)⊕(List Int)):=if (0:Int)<=st.2 then
 if (0:Int)<=(eJ .i64 (8 *st.2)) then
 if (st.1.length+([eJ .u8 (IN n (2^min (sh (eJ .i64 (8 *st.2))) (BY .u64)))]:List Int).length) *1<=2^46 then
 some (.inl (st.1++([eJ .u8 (IN n (2^min (sh (eJ .i64 (8 *st.2))) (BY .u64)))]:List Int),eJ .i64 (st.2-1)))
 else none
 else none
 else
 some (.inr st.1)
def tw (b:List Int)(n:Int):Option (List Int):=bd (ue n) λrA=>
 bd (oM b) λbc=>
 if 0<([eJ .u8 (eJ .i64 (rA-1))]:List Int).length/\(bc.length+([eJ .u8 (eJ .i64 (rA-1))]:List Int).length) *1<=2^46 then
 bd (Loop (rZ n) (bc++([eJ .u8 (eJ .i64 (rA-1))]:List Int),eJ .i64 ((eJ .i64 (rA-1))-1))) λw=>
 some w
 else none
def lM (b:List Int)(n:Int):Option (List Int):=if (0:Int)<=1 then
 if (0:Int)<=63 then
 bd (tw b (ET .u64 (eJ .u64 ((eJ .u64 n) *2^min (sh 1) (BY .u64))) (eJ .u64 (IN n (2^min (sh 63) (BY .i64)))))) λrA=>
 some rA
 else none
 else none
def q0 (b:List Int)(sA:List UInt8):Option (List Int):=bd (tw b (eJ .u64 (sA.length:Int))) λrA=>
 if (rA.length+(Bu sA).length) *1<=2^46 then
 some (rA++(Bu sA))
 else none
def oN (a:ae)(st:(List Int)×Int):Option (((List Int)×Int)⊕(List Int)):=if st.2<(a.Proof.length:Int) then
 ix a.Proof st.2 λy=>
 bd (lM st.1 y.By) λqK=>
 some (.inl (qK,eJ .i64 (st.2+1)))
 else
 some (.inr st.1)
def ol (a:ae):Option (List Int):=bd (lM ([]:List Int) a.View) λrA=>
 bd (iN a.Has) λbc=>
 bd (lM rA bc) λbQ=>
 bd (lM bQ a.At) λct=>
 bd (q0 ct a.Value) λgm=>
 bd (lM gm (a.Proof.length:Int)) λlz=>
 bd (Loop (oN a) (lz,0)) λw=>
 bd (oh a.Proof) λzw=>
 bd (if zw.2.2 then
  bd (lM w zw.1) λTG=>
  bd (q0 TG zw.2.1) λYl=>
  some Yl
  else
  some w:Option (List Int)) λw1=>
 some w1
def nz (sA:af)(i:Int)(n:aq):Option aq:=bd (ol n.A) λrA=>
 bd (lL sA i rA) λbc=>
 bd (pj sA) λbQ=>
 some (⟨bc.1,bQ.1,([]:List ab),bc.1.View⟩:aq)
def dY (c:au)(i:Int)(bad:Bool):Option Bool:=bd (if (0:Int)<=i then
  if i<(c.cQ.length:Int) then
  ix c.cQ i λy=>
  some (decide (y=bad))
  else
  some false
  else
  some false:Option Bool) λw=>
 some w
def fc (s1:List aa)(s2:List aa)(st:Int):Option (Int⊕(Unit⊕Bool)):=if st<(s1.length:Int) then
 ix s1 st λy=>
 ix s2 st λy1=>
 if !((decide (y.By=y1.By))&&((decide (y.View=y1.View))&&(decide (y.Value=y1.Value)))) then
 some (.inr (.inr false))
 else
 some (.inl (eJ .i64 (st+1)))
 else
 some (.inr (.inl ()))
def gf (s1:List aa)(s2:List aa):Option Bool:=if !decide ((s1.length:Int)=(s2.length:Int)) then
 some false
 else
 bd (Loop (fc s1 s2) 0) λw=>
 match w with
 | .inl p1=>some true
 | .inr p2=>some p2
def iT (a:List aa)(b:List aa):Option Bool:=bd (gf a b) λrA=>some rA
def lN (x:ab)(y:ab):Option Bool:=bd (if x.By=y.By then
  if x.jo=y.jo then
  if x.Has=y.Has then
  if x.View=y.View then
  if x.Value=y.Value then
  bd (iT x.Proof y.Proof) λrA=>
  some rA
  else
  some false
  else
  some false
  else
  some false
  else
  some false
  else
  some false:Option Bool) λw=>
 some w
def bo (s1:List ab)(s2:List ab)(eq:ab->ab->Option Bool)(st:Int):Option (Int⊕(Unit⊕Bool)):=if st<(s1.length:Int) then
 ix s1 st λy=>
 ix s2 st λy1=>
 bd (eq y y1) λrA=>
 if !rA then
 some (.inr (.inr false))
 else
 some (.inl (eJ .i64 (st+1)))
 else
 some (.inr (.inl ()))
def bA (s1:List ab)(s2:List ab)(eq:ab->ab->Option Bool):Option Bool:=if !decide ((s1.length:Int)=(s2.length:Int)) then
 some false
 else
 bd (Loop (bo s1 s2 eq) 0) λw=>
 match w with
 | .inl p1=>some true
 | .inr p2=>some p2
def gX (a:List ab)(b:List ab):Option Bool:=bd (bA a b lN) λrA=>some rA
def dL (m:al)(c:ab):Option Bool:=bd (if m.Kind=4 then
  bd (gX ([m.R]:List ab) ([c]:List ab)) λrA=>
  some rA
  else
  some false:Option Bool) λw=>
 some w
def jI (m:al)(c:aa):Option Bool:=bd (if m.Kind=2 then
  some ((decide (m.cf.By=c.By))&&((decide (m.cf.View=c.View))&&(decide (m.cf.Value=c.Value))))
  else
  some false:Option Bool) λw=>
 some w
def fU (sA:List al)(f:al->Option Bool)(st:Int):Option (Int⊕(Unit⊕Int)):=if st<(sA.length:Int) then
 ix sA st λy=>
 bd (f y) λrA=>
 if rA then
 some (.inr (.inr st))
 else
 some (.inl (eJ .i64 (st+1)))
 else
 some (.inr (.inl ()))
def ic (sA:List al)(f:al->Option Bool):Option Int:=bd (Loop (fU sA f) 0) λw=>
 match w with
 | .inl p1=>some (-1)
 | .inr p2=>some p2
def cm (sA:List al)(f:al->Option Bool):Option Bool:=bd (ic sA f) λrA=>some (decide ((0:Int)<=rA))
def oO (c:au)(a:aa):Option Bool:=bd (bd (dY c a.By true) λrA=>
  if rA then
  some true
  else
  bd (cm c.bg (λu=>jI u a)) λbc=>
  some bc:Option Bool) λw=>
 some w
def iB (a:aa)(c:au):Option Bool:=bd (oO c a) λrA=>some (!rA)
def fv (sA:List aa)(f:aa->Option Bool)(st:Int):Option (Int⊕(Unit⊕Int)):=if st<(sA.length:Int) then
 ix sA st λy=>
 bd (f y) λrA=>
 if rA then
 some (.inr (.inr st))
 else
 some (.inl (eJ .i64 (st+1)))
 else
 some (.inr (.inl ()))
def fV (sA:List aa)(f:aa->Option Bool):Option Int:=bd (Loop (fv sA f) 0) λw=>
 match w with
 | .inl p1=>some (-1)
 | .inr p2=>some p2
def dC (sA:List aa)(f:aa->Option Bool):Option Bool:=bd (fV sA f) λrA=>some (decide ((0:Int)<=rA))
def fH (c:au)(lA:List aa):Option Bool:=bd (dC lA (λu=>iB u c)) λrA=>some (!rA)
def jJ (c:au)(rA:ab):Option Bool:=bd (bd (dY c rA.By true) λbc=>
  if bc then
  bd (fH c rA.Proof) λbQ=>
  if bQ then
  some true
  else
  bd (cm c.bg (λu=>dL u rA)) λct=>
  some ct
  else
  bd (cm c.bg (λu2=>dL u2 rA)) λgm=>
  some gm:Option Bool) λw=>
 some w
def pV (rA:ab)(c:au):Option Bool:=bd (jJ c rA) λbc=>some (!bc)
def fw (sA:List ab)(f:ab->Option Bool)(st:Int):Option (Int⊕(Unit⊕Int)):=if st<(sA.length:Int) then
 ix sA st λy=>
 bd (f y) λrA=>
 if rA then
 some (.inr (.inr st))
 else
 some (.inl (eJ .i64 (st+1)))
 else
 some (.inr (.inl ()))
def fW (sA:List ab)(f:ab->Option Bool):Option Int:=bd (Loop (fw sA f) 0) λw=>
 match w with
 | .inl p1=>some (-1)
 | .inr p2=>some p2
def dD (sA:List ab)(f:ab->Option Bool):Option Bool:=bd (fW sA f) λrA=>some (decide ((0:Int)<=rA))
def mV (c:au)(m:al):Option Bool:=if m.Kind=1 then
 bd (bd (dY c m.eQ true) λrA=>
  if rA then
  bd (dD m.dP (λu=>pV u c)) λbc=>
  some (!bc)
  else
  some false:Option Bool) λw=>
 some w
 else
 if m.Kind=2 then
 bd (dY c m.cf.By true) λbQ=>
 some bQ
 else
 if m.Kind=3 then
 bd (bd (dY c m.eQ true) λct=>
  if ct then
  bd (fH c m.Proof) λgm=>
  some gm
  else
  some false:Option Bool) λw1=>
 some w1
 else
 if m.Kind=4 then
 bd (bd (dY c m.R.By true) λlz=>
  if lz then
  bd (fH c m.R.Proof) λqK=>
  some qK
  else
  some false:Option Bool) λw2=>
 some w2
 else
 if m.Kind=5 then
 bd (dY c m.eQ true) λzw=>
 some zw
 else
 some false
def gq (sA:List al):Option (List al):=if (sA.length:Int)=(sA.length:Int)/\(sA.length:Int)=(sA.length:Int) then
 some sA
 else none
def kP (sA:af)(view:Int):Option Int:=bd (pT sA) λrA=>
 if !decide (rA=0) then
 some (No (imax view 0) rA)
 else none
def lO (rA:ab):Option Int:=bd (oh rA.Proof) λbc=>
 if !bc.2.2 then
 some (-1)
 else
 some bc.1
def uf (sA:af):Option Int:=bd (kO sA (4607182418800017408,4607182418800017408)) λrA=>some rA
def mW (a1:List ab)(st:Int×(List UInt8)×Int):Option ((Int×(List UInt8)×Int)⊕(Int×(List UInt8))):=if st.2.2<(a1.length:Int) then
 ix a1 st.2.2 λy=>
 bd (lO y) λrA=>
 bd (if st.1<rA then
  ix y.Proof 0 λy1=>
  some (rA,y1.Value)
  else
  some (st.1,st.2.1):Option (Int×(List UInt8))) λw1=>
 some (.inl (w1.1,w1.2,eJ .i64 (st.2.2+1)))
 else
 some (.inr (st.1,st.2.1))
def pW (a1:List ab)(w:Int×(List UInt8))(cR:(List MV)×Int):Option (((List MV)×Int)⊕(List MV)):=if cR.2<(a1.length:Int) then
 ix a1 cR.2 λy2=>
 bd (if y2.Has then
  some (decide (w.1<y2.View))
  else
  some false:Option Bool) λw3=>
 bd (if w3 then
  some (tM (nY cR.1 ([.s y2.Value]:List MV) (.i .i64 0)) (cI cR.1 ([.s y2.Value]:List MV)) (.i .i64 (eJ .i64 ((n8 cR.1 ([.s y2.Value]:List MV))+1))))
  else
  some cR.1:Option (List MV)) λw4=>
 some (.inl (w4,eJ .i64 (cR.2+1)))
 else
 some (.inr cR.1)
def pX (a:af)(m29:MV):Option (Unit⊕(Unit⊕((List UInt8)×Bool))):=Px m29 λkey n=>
 bd (uf a) λbc=>
 if bc<=n then
 some (.inr (.inr (key,true)))
 else
 some (.inl ())
def nA (a:af)(a1:List ab):Option ((List UInt8)×Bool):=bd (Loop (mW a1) ((-1),([]:List UInt8),0)) λw=>
 bd (Loop (pW a1 w) (([]:List MV),0)) λw2=>
 bd (tZ (pX a) (some (.inl ())) w2) λw5=>
 match w5 with
 | .inl p5=>some (w.2,decide (((-1):Int)<w.1))
 | .inr p6=>some (p6.1,p6.2)
def tx (sA:af):Option Int:=bd (kO sA (4611686018427387904,4611686018427387904)) λrA=>some rA
def oZ (a:af)(a1:ab):Option Bool:=bd (bd (j0 a) λrA=>
  if !rA then
  some true
  else
  if a1.By<0 then
  some true
  else
  bd (pT a) λbc=>
  if bc<=a1.By then
  some true
  else
  if a1.jo<1 then
  some true
  else
  some (decide ((100000:Int)<a1.jo)):Option Bool) λw=>
 if w then
 some false
 else
 bd (if !a1.Has then
  if !decide (a1.View=0) then
  some true
  else
  some (!decide (a1.Value=([]:List UInt8)))
  else
  some false:Option Bool) λw1=>
 if w1 then
 some false
 else
 bd (if a1.Has then
  if a1.View<0 then
  some true
  else
  if a1.jo<=a1.View then
  some true
  else
  some (decide ((6000:Int)<(a1.Value.length:Int)))
  else
  some false:Option Bool) λw2=>
 if w2 then
 some false
 else
 bd (if (a1.Proof.length:Int)=0 then
  some true
  else
  bd (gV a a1.Proof) λbQ=>
  if bQ then
  bd (lO a1) λct=>
  some (decide (ct<a1.jo))
  else
  some false:Option Bool) λw3=>
 some w3
def pY (sA:af)(view:Int)(lA:List ab)(st:Int×Int):Option ((Int×Int)⊕(Unit⊕Bool)):=if st.2<(lA.length:Int) then
 ix lA st.2 λy=>
 bd (bd (oZ sA y) λbQ=>
  if !bQ then
  some true
  else
  if !decide (y.jo=view) then
  some true
  else
  some (decide (y.By<=st.1)):Option Bool) λw2=>
 if w2 then
 some (.inr (.inr false))
 else
 some (.inl (y.By,eJ .i64 (st.2+1)))
 else
 some (.inr (.inl ()))
def pZ (sA:af)(view:Int)(lA:List ab):Option Bool:=bd (bd (j0 sA) λrA=>
  if !rA then
  some true
  else
  bd (tx sA) λbc=>
  some (!decide ((lA.length:Int)=bc)):Option Bool) λw=>
 if w then
 some false
 else
 bd (Loop (pY sA view lA) ((-1),0)) λw1=>
 match w1 with
 | .inl p1=>some true
 | .inr p2=>some p2
def mX (sA:af)(view:Int)(lA:List ab)(value:List UInt8):Option Bool:=bd (pZ sA view lA) λrA=>
 if !rA then
 some false
 else
 bd (nA sA lA) λbc=>
 bd (if !bc.2 then
  some true
  else
  some (decide (bc.1=value)):Option Bool) λw=>
 some w
def fe (a:ae)(view:Int)(value:List UInt8)(kZ:List ab):Option (ae×aa×Bool):=bd (if !decide (view=a.View) then
  some true
  else
  if a.Has then
  if a.At=view then
  some true
  else
  some (decide ((6000:Int)<(value.length:Int)))
  else
  some (decide ((6000:Int)<(value.length:Int))):Option Bool) λw=>
 if w then
 some (a,(⟨0,0,([]:List UInt8)⟩:aa),false)
 else
 bd (if view=0 then
  some (decide ((kZ.length:Int)=0))
  else
  some false:Option Bool) λw1=>
 bd (if w1 then
  some (.inr (0,0,0,0,false,0,([]:List UInt8),([]:List aa),([]:List aa),0,0,([]:List UInt8)))
  else
  bd (mX a.S view kZ value) λrA=>
  if !rA then
  some (.inl (a.S.F,a.S.T,a.Me,a.View,a.Has,a.At,a.Value,a.Proof,a.bV.L,0,0,([]:List UInt8),false))
  else
  some (.inr (0,0,0,0,false,0,([]:List UInt8),([]:List aa),([]:List aa),0,0,([]:List UInt8))):Option ((Int×Int×Int×Int×Bool×Int×(List UInt8)×(List aa)×(List aa)×Int×Int×(List UInt8)×Bool)⊕(Int×Int×Int×Int×Bool×Int×(List UInt8)×(List aa)×(List aa)×Int×Int×(List UInt8)))) λw2=>
 match w2 with
 | .inl p1=>some ((⟨(⟨p1.1,p1.2.1⟩:af),p1.2.2.1,p1.2.2.2.1,p1.2.2.2.2.1,p1.2.2.2.2.2.1,p1.2.2.2.2.2.2.1,p1.2.2.2.2.2.2.2.1,(⟨p1.2.2.2.2.2.2.2.2.1⟩:aD)⟩:ae),(⟨p1.2.2.2.2.2.2.2.2.2.1,p1.2.2.2.2.2.2.2.2.2.2.1,p1.2.2.2.2.2.2.2.2.2.2.2.1⟩:aa),p1.2.2.2.2.2.2.2.2.2.2.2.2)
 | .inr p2=>some ((⟨a.S,a.Me,a.View,true,view,value,a.Proof,a.bV⟩:ae),(⟨a.Me,view,value⟩:aa),true)
def nB (x:Int):Option Bool:=some (!decide (x=x))
def kF (x:Int)(y:Int):Option Int:=bd (nB x) λrA=>
 bd (nB y) λbc=>
 if rA then
 if bc then
 some 0
 else
 some (-1)
 else
 if bc then
 some 1
 else
 if x<y then
 some (-1)
 else
 if y<x then
 some 1
 else
 some 0
def kQ (x:aa)(qF:Int):Option Int:=bd (kF x.By qF) λrA=>some rA
def ig (x:List aa)(target:Int)(cmp:aa->Int->Option Int)(st:Int×Int):Option ((Int×Int)⊕Int):=if st.1<st.2 then
 if (0:Int)<=1 then
 ix x (eJ .i64 (IN (eJ .u64 (eJ .i64 (st.1+st.2))) (2^min (sh 1) (BY .u64)))) λy=>
 bd (cmp y target) λrA=>
 bd (if rA<0 then
  some (eJ .i64 ((eJ .i64 (IN (eJ .u64 (eJ .i64 (st.1+st.2))) (2^min (sh 1) (BY .u64))))+1),st.2)
  else
  some (st.1,eJ .i64 (IN (eJ .u64 (eJ .i64 (st.1+st.2))) (2^min (sh 1) (BY .u64)))):Option (Int×Int)) λw1=>
 some (.inl (w1.1,w1.2))
 else none
 else
 some (.inr st.1)
def cC (x:List aa)(target:Int)(cmp:aa->Int->Option Int):Option (Int×Bool):=bd (Loop (ig x target cmp) (0,(x.length:Int))) λw=>
 bd (if w<(x.length:Int) then
  ix x w λy1=>
  bd (cmp y1 target) λbc=>
  some (w,decide (bc=0))
  else
  some (w,false):Option (Int×Bool)) λw2=>
 some (w2.1,w2.2)
def iR (t:aD)(a:aa):Option (aD×Bool):=bd (lK a) λrA=>
 if !rA then
 some (t,false)
 else
 bd (cC t.L a.By kQ) λbc=>
 bd (if bc.2 then
  ix t.L bc.1 λy=>
  some (decide (a.View<=y.View))
  else
  some false:Option Bool) λw=>
 if w then
 some (t,false)
 else
 bd (yd 32 t.L) λbQ=>
 bd (if bc.2 then
  ix bQ bc.1 λy1=>
  some (bQ.set (sh bc.1) a)
  else
  bd (A5 32 bQ bc.1 ([a]:List aa)) λct=>
  some ct:Option (List aa)) λw1=>
 some ((⟨w1⟩:aD),true)
def s5 (a:aD)(st:(List MV)×Int):Option (((List MV)×Int)⊕(List MV)):=if st.2<(a.L.length:Int) then
 ix a.L st.2 λy=>
 if (0:Int)<=(cI st.1 ([.i .i64 y.View,.s y.Value]:List MV):Int)/\sh (cI st.1 ([.i .i64 y.View,.s y.Value]:List MV):Int)<(nY st.1 ([.i .i64 y.View,.s y.Value]:List MV) (.i .i64 0)).length then
 some (.inl (tM (nY st.1 ([.i .i64 y.View,.s y.Value]:List MV) (.i .i64 0)) (sh (cI st.1 ([.i .i64 y.View,.s y.Value]:List MV):Int)) (.i .i64 (eJ .i64 ((n8 st.1 ([.i .i64 y.View,.s y.Value]:List MV))+1))),eJ .i64 (st.2+1)))
 else none
 else
 some (.inr st.1)
def p0 (a:aD)(a1:Int)(w:(List MV))(cR:Int×(List UInt8)×Bool×Int):Option ((Int×(List UInt8)×Bool×Int)⊕(Int×(List UInt8)×Bool)):=if cR.2.2.2<(a.L.length:Int) then
 ix a.L cR.2.2.2 λy1=>
 bd (if (1:Int)<=a1 then
  if a1<=(n8 w ([.i .i64 y1.View,.s y1.Value]:List MV)) then
  some (decide (cR.1<y1.View))
  else
  some false
  else
  some false:Option Bool) λw2=>
 bd (if w2 then
  some (y1.View,y1.Value,true)
  else
  some (cR.1,cR.2.1,cR.2.2.1):Option (Int×(List UInt8)×Bool)) λw3=>
 some (.inl (w3.1,w3.2.1,w3.2.2,eJ .i64 (cR.2.2.2+1)))
 else
 some (.inr (cR.1,cR.2.1,cR.2.2.1))
def lc (a:aD)(a1:Int):Option (Int×(List UInt8)×Bool):=bd (Loop (s5 a) (([]:List MV),0)) λw=>
 bd (Loop (p0 a a1 w) ((-1),([]:List UInt8),false,0)) λw1=>
 if !w1.2.2 then
 some (0,([]:List UInt8),false)
 else
 some (w1.1,w1.2.1,true)
def ug (sA:af)(t:aD):Option ((List aa)×Bool):=bd (mT sA) λrA=>
 bd (lc t rA) λbc=>
 if !bc.2.2 then
 some (([]:List aa),false)
 else
 bd (ny t bc.1 bc.2.1) λbQ=>
 bd (mT sA) λct=>
 if (0:Int)<=0/\(0:Int)<=ct/\ct<=(bQ.length:Int) then
 some (AI (sh 0) (AT (sh ct) bQ),true)
 else none
def lP (a:ae)(a1:aa):Option (ae×(List aa)×Bool):=bd (bd (pT a.S) λrA=>
  if rA<=a1.By then
  some true
  else
  some (!decide (a1.View=a.View)):Option Bool) λw=>
 if w then
 some (a,([]:List aa),false)
 else
 bd (iR a.bV a1) λbc=>
 bd (ug a.S bc.1) λbQ=>
 bd (oh a.Proof) λct=>
 bd (bd (lK a1) λgm=>
  if !gm then
  some true
  else
  if !bQ.2 then
  some true
  else
  some (decide (a.View<=ct.1)):Option Bool) λw1=>
 if w1 then
 some ((⟨a.S,a.Me,a.View,a.Has,a.At,a.Value,a.Proof,bc.1⟩:ae),([]:List aa),false)
 else
 some ((⟨a.S,a.Me,a.View,a.Has,a.At,a.Value,bQ.1,bc.1⟩:ae),bQ.1,true)
def xc (sA:af):Option Int:=bd (kO sA (4613937818241073152,4607182418800017408)) λrA=>some rA
def jh (lA:ar)(t:ar)(a:aa)(b9:Int):Option ((Bool×(List UInt8))×ar):=bd (if lA.cq then
  some true
  else
  if a.By<0 then
  some true
  else
  bd (pT lA.S) λrA=>
  if rA<=a.By then
  some true
  else
  bd (lK a) λbc=>
  some (!bc):Option Bool) λw=>
 if w then
 some ((false,([]:List UInt8)),t)
 else
 bd (iR t.bj a) λbQ=>
 bd (lc bQ.1 b9) λct=>
 some ((ct.2.2,ct.2.1),(⟨t.S,bQ.1,t.bp,t.Told,t.cq,t.Value⟩:ar))
def ji (lA:ar)(t:ar)(a:aa)(b9:Int):Option ((Bool×(List UInt8))×ar):=bd (if lA.cq then
  some true
  else
  if a.By<0 then
  some true
  else
  bd (pT lA.S) λrA=>
  if rA<=a.By then
  some true
  else
  bd (lK a) λbc=>
  some (!bc):Option Bool) λw=>
 if w then
 some ((false,([]:List UInt8)),t)
 else
 bd (iR t.bp a) λbQ=>
 bd (lc bQ.1 b9) λct=>
 some ((ct.2.2,ct.2.1),(⟨t.S,t.bj,bQ.1,t.Told,t.cq,t.Value⟩:ar))
def jk (lA:ar)(t:ar)(a:aa)(b9:Int):Option ((Bool×(List UInt8))×ar):=bd (if lA.cq then
  some true
  else
  if a.By<0 then
  some true
  else
  bd (pT lA.S) λrA=>
  if rA<=a.By then
  some true
  else
  bd (lK a) λbc=>
  some (!bc):Option Bool) λw=>
 if w then
 some ((false,([]:List UInt8)),t)
 else
 bd (iR t.Told a) λbQ=>
 bd (lc bQ.1 b9) λct=>
 some ((ct.2.2,ct.2.1),(⟨t.S,t.bj,t.bp,bQ.1,t.cq,t.Value⟩:ar))
def iS (lA:ar)(a:aa):Option ar:=bd (xc lA.S) λrA=>
 bd (jh lA lA a rA) λbc=>
 bd (if bc.1.1 then
  some (bc.2.S.F,bc.2.S.T,bc.2.bj.L,bc.2.bp.L,bc.2.Told.L,true,bc.1.2)
  else
  some (bc.2.S.F,bc.2.S.T,bc.2.bj.L,bc.2.bp.L,bc.2.Told.L,bc.2.cq,bc.2.Value):Option (Int×Int×(List aa)×(List aa)×(List aa)×Bool×(List UInt8))) λw=>
 some (⟨(⟨w.1,w.2.1⟩:af),(⟨w.2.2.1⟩:aD),(⟨w.2.2.2.1⟩:aD),(⟨w.2.2.2.2.1⟩:aD),w.2.2.2.2.2.1,w.2.2.2.2.2.2⟩:ar)
def jK (lA:ar)(qF:Int)(p:List aa):Option ar:=bd (gV lA.S p) λrA=>
 if !rA then
 some lA
 else
 bd (oh p) λbc=>
 bd (mT lA.S) λbQ=>
 bd (ji lA lA (⟨qF,bc.1,bc.2.1⟩:aa) bQ) λct=>
 bd (if ct.1.1 then
  some (ct.2.S.F,ct.2.S.T,ct.2.bj.L,ct.2.bp.L,ct.2.Told.L,true,ct.1.2)
  else
  some (ct.2.S.F,ct.2.S.T,ct.2.bj.L,ct.2.bp.L,ct.2.Told.L,ct.2.cq,ct.2.Value):Option (Int×Int×(List aa)×(List aa)×(List aa)×Bool×(List UInt8))) λw=>
 some (⟨(⟨w.1,w.2.1⟩:af),(⟨w.2.2.1⟩:aD),(⟨w.2.2.2.1⟩:aD),(⟨w.2.2.2.2.1⟩:aD),w.2.2.2.2.2.1,w.2.2.2.2.2.2⟩:ar)
def fQ (x:ab)(qF:Int):Option Int:=bd (kF x.By qF) λrA=>some rA
def ik (x:List ab)(target:Int)(cmp:ab->Int->Option Int)(st:Int×Int):Option ((Int×Int)⊕Int):=if st.1<st.2 then
 if (0:Int)<=1 then
 ix x (eJ .i64 (IN (eJ .u64 (eJ .i64 (st.1+st.2))) (2^min (sh 1) (BY .u64)))) λy=>
 bd (cmp y target) λrA=>
 bd (if rA<0 then
  some (eJ .i64 ((eJ .i64 (IN (eJ .u64 (eJ .i64 (st.1+st.2))) (2^min (sh 1) (BY .u64))))+1),st.2)
  else
  some (st.1,eJ .i64 (IN (eJ .u64 (eJ .i64 (st.1+st.2))) (2^min (sh 1) (BY .u64)))):Option (Int×Int)) λw1=>
 some (.inl (w1.1,w1.2))
 else none
 else
 some (.inr st.1)
def cD (x:List ab)(target:Int)(cmp:ab->Int->Option Int):Option (Int×Bool):=bd (Loop (ik x target cmp) (0,(x.length:Int))) λw=>
 bd (if w<(x.length:Int) then
  ix x w λy1=>
  bd (cmp y1 target) λbc=>
  some (w,decide (bc=0))
  else
  some (w,false):Option (Int×Bool)) λw2=>
 some (w2.1,w2.2)
def om (n:aq)(sA:af)(i:Int)(rA:ab):Option (Unit×aq):=bd (cD n.df rA.By fQ) λbc=>
 bd (if !bc.2 then
  if n.A.View=rA.jo then
  bd (kP sA rA.jo) λbQ=>
  if bQ=i then
  bd (oZ sA rA) λct=>
  some ct
  else
  some false
  else
  some false
  else
  some false:Option Bool) λw=>
 bd (if w then
  bd (yd 72 n.df) λgm=>
  bd (A5 72 gm bc.1 ([rA]:List ab)) λlz=>
  some (n.A.S.F,n.A.S.T,n.A.Me,n.A.View,n.A.Has,n.A.At,n.A.Value,n.A.Proof,n.A.bV.L,n.L.S.F,n.L.S.T,n.L.bj.L,n.L.bp.L,n.L.Told.L,n.L.cq,n.L.Value,lz,n.jy)
  else
  some (n.A.S.F,n.A.S.T,n.A.Me,n.A.View,n.A.Has,n.A.At,n.A.Value,n.A.Proof,n.A.bV.L,n.L.S.F,n.L.S.T,n.L.bj.L,n.L.bp.L,n.L.Told.L,n.L.cq,n.L.Value,n.df,n.jy):Option (Int×Int×Int×Int×Bool×Int×(List UInt8)×(List aa)×(List aa)×Int×Int×(List aa)×(List aa)×(List aa)×Bool×(List UInt8)×(List ab)×Int)) λw1=>
 some ((),(⟨(⟨(⟨w1.1,w1.2.1⟩:af),w1.2.2.1,w1.2.2.2.1,w1.2.2.2.2.1,w1.2.2.2.2.2.1,w1.2.2.2.2.2.2.1,w1.2.2.2.2.2.2.2.1,(⟨w1.2.2.2.2.2.2.2.2.1⟩:aD)⟩:ae),(⟨(⟨w1.2.2.2.2.2.2.2.2.2.1,w1.2.2.2.2.2.2.2.2.2.2.1⟩:af),(⟨w1.2.2.2.2.2.2.2.2.2.2.2.1⟩:aD),(⟨w1.2.2.2.2.2.2.2.2.2.2.2.2.1⟩:aD),(⟨w1.2.2.2.2.2.2.2.2.2.2.2.2.2.1⟩:aD),w1.2.2.2.2.2.2.2.2.2.2.2.2.2.2.1,w1.2.2.2.2.2.2.2.2.2.2.2.2.2.2.2.1⟩:ar),w1.2.2.2.2.2.2.2.2.2.2.2.2.2.2.2.2.1,w1.2.2.2.2.2.2.2.2.2.2.2.2.2.2.2.2.2⟩:aq))
def xd (sA:af):Option Int:=bd (kO sA (4607182418800017408,0)) λrA=>some rA
def qa (lA:ar)(qF:Int)(value:List UInt8):Option ar:=bd (xd lA.S) λrA=>
 bd (jk lA lA (⟨qF,0,value⟩:aa) rA) λbc=>
 bd (if bc.1.1 then
  some (bc.2.S.F,bc.2.S.T,bc.2.bj.L,bc.2.bp.L,bc.2.Told.L,true,bc.1.2)
  else
  some (bc.2.S.F,bc.2.S.T,bc.2.bj.L,bc.2.bp.L,bc.2.Told.L,bc.2.cq,bc.2.Value):Option (Int×Int×(List aa)×(List aa)×(List aa)×Bool×(List UInt8))) λw=>
 some (⟨(⟨w.1,w.2.1⟩:af),(⟨w.2.2.1⟩:aD),(⟨w.2.2.2.1⟩:aD),(⟨w.2.2.2.2.1⟩:aD),w.2.2.2.2.2.1,w.2.2.2.2.2.2⟩:ar)
def dZ (a:af)(a1:Int)(a2:aq)(a3:al):Option (aq×(List al)):=bd (if a3.Kind=1 then
  bd (kP a a3.View) λrA=>
  if !decide (a3.eQ=rA) then
  some (.inl (a2.A.S.F,a2.A.S.T,a2.A.Me,a2.A.View,a2.A.Has,a2.A.At,a2.A.Value,a2.A.Proof,a2.A.bV.L,a2.L.S.F,a2.L.S.T,a2.L.bj.L,a2.L.bp.L,a2.L.Told.L,a2.L.cq,a2.L.Value,a2.df,a2.jy,([]:List al)))
  else
  bd (fe a2.A a3.View a3.Value a3.dP) λbc=>
  bd (if bc.2.2 then
   if ([(⟨2,0,0,([]:List UInt8),([]:List ab),bc.2.1,([]:List aa),(⟨0,0,false,0,([]:List UInt8),([]:List aa)⟩:ab)⟩:al)]:List al).length *192<=2^46 then
   some ([(⟨2,0,0,([]:List UInt8),([]:List ab),bc.2.1,([]:List aa),(⟨0,0,false,0,([]:List UInt8),([]:List aa)⟩:ab)⟩:al)]:List al)
   else none
   else
   some ([]:List al):Option (List al)) λw1=>
  some (.inr (bc.1.S.F,bc.1.S.T,bc.1.Me,bc.1.View,bc.1.Has,bc.1.At,bc.1.Value,bc.1.Proof,bc.1.bV.L,a2.L.S.F,a2.L.S.T,a2.L.bj.L,a2.L.bp.L,a2.L.Told.L,a2.L.cq,a2.L.Value,a2.df,a2.jy,w1))
  else
  bd (if a3.Kind=2 then
   bd (lP a2.A a3.cf) λbQ=>
   bd (if bQ.2.2 then
    if ([(⟨3,a1,0,([]:List UInt8),([]:List ab),(⟨0,0,([]:List UInt8)⟩:aa),bQ.2.1,(⟨0,0,false,0,([]:List UInt8),([]:List aa)⟩:ab)⟩:al)]:List al).length *192<=2^46 then
    some ([(⟨3,a1,0,([]:List UInt8),([]:List ab),(⟨0,0,([]:List UInt8)⟩:aa),bQ.2.1,(⟨0,0,false,0,([]:List UInt8),([]:List aa)⟩:ab)⟩:al)]:List al)
    else none
    else
    some ([]:List al):Option (List al)) λw3=>
   bd (iS a2.L a3.cf) λct=>
   some (bQ.1.S.F,bQ.1.S.T,bQ.1.Me,bQ.1.View,bQ.1.Has,bQ.1.At,bQ.1.Value,bQ.1.Proof,bQ.1.bV.L,ct.S.F,ct.S.T,ct.bj.L,ct.bp.L,ct.Told.L,ct.cq,ct.Value,a2.df,a2.jy,w3)
   else
   bd (if a3.Kind=3 then
    bd (jK a2.L a3.eQ a3.Proof) λgm=>
    some (a2.A.S.F,a2.A.S.T,a2.A.Me,a2.A.View,a2.A.Has,a2.A.At,a2.A.Value,a2.A.Proof,a2.A.bV.L,gm.S.F,gm.S.T,gm.bj.L,gm.bp.L,gm.Told.L,gm.cq,gm.Value,a2.df,a2.jy)
    else
    bd (if a3.Kind=4 then
     bd (om a2 a a1 a3.R) λlz=>
     some (lz.2.A.S.F,lz.2.A.S.T,lz.2.A.Me,lz.2.A.View,lz.2.A.Has,lz.2.A.At,lz.2.A.Value,lz.2.A.Proof,lz.2.A.bV.L,lz.2.L.S.F,lz.2.L.S.T,lz.2.L.bj.L,lz.2.L.bp.L,lz.2.L.Told.L,lz.2.L.cq,lz.2.L.Value,lz.2.df,lz.2.jy)
     else
     bd (if a3.Kind=5 then
      bd (qa a2.L a3.eQ a3.Value) λqK=>
      some (a2.A.S.F,a2.A.S.T,a2.A.Me,a2.A.View,a2.A.Has,a2.A.At,a2.A.Value,a2.A.Proof,a2.A.bV.L,qK.S.F,qK.S.T,qK.bj.L,qK.bp.L,qK.Told.L,qK.cq,qK.Value,a2.df,a2.jy)
      else
      some (a2.A.S.F,a2.A.S.T,a2.A.Me,a2.A.View,a2.A.Has,a2.A.At,a2.A.Value,a2.A.Proof,a2.A.bV.L,a2.L.S.F,a2.L.S.T,a2.L.bj.L,a2.L.bp.L,a2.L.Told.L,a2.L.cq,a2.L.Value,a2.df,a2.jy):Option (Int×Int×Int×Int×Bool×Int×(List UInt8)×(List aa)×(List aa)×Int×Int×(List aa)×(List aa)×(List aa)×Bool×(List UInt8)×(List ab)×Int)) λw6=>
     some w6:Option (Int×Int×Int×Int×Bool×Int×(List UInt8)×(List aa)×(List aa)×Int×Int×(List aa)×(List aa)×(List aa)×Bool×(List UInt8)×(List ab)×Int)) λw5=>
    some w5:Option (Int×Int×Int×Int×Bool×Int×(List UInt8)×(List aa)×(List aa)×Int×Int×(List aa)×(List aa)×(List aa)×Bool×(List UInt8)×(List ab)×Int)) λw4=>
   some (w4.1,w4.2.1,w4.2.2.1,w4.2.2.2.1,w4.2.2.2.2.1,w4.2.2.2.2.2.1,w4.2.2.2.2.2.2.1,w4.2.2.2.2.2.2.2.1,w4.2.2.2.2.2.2.2.2.1,w4.2.2.2.2.2.2.2.2.2.1,w4.2.2.2.2.2.2.2.2.2.2.1,w4.2.2.2.2.2.2.2.2.2.2.2.1,w4.2.2.2.2.2.2.2.2.2.2.2.2.1,w4.2.2.2.2.2.2.2.2.2.2.2.2.2.1,w4.2.2.2.2.2.2.2.2.2.2.2.2.2.2.1,w4.2.2.2.2.2.2.2.2.2.2.2.2.2.2.2.1,w4.2.2.2.2.2.2.2.2.2.2.2.2.2.2.2.2.1,w4.2.2.2.2.2.2.2.2.2.2.2.2.2.2.2.2.2,([]:List al)):Option (Int×Int×Int×Int×Bool×Int×(List UInt8)×(List aa)×(List aa)×Int×Int×(List aa)×(List aa)×(List aa)×Bool×(List UInt8)×(List ab)×Int×(List al))) λw2=>
  some (.inr w2):Option ((Int×Int×Int×Int×Bool×Int×(List UInt8)×(List aa)×(List aa)×Int×Int×(List aa)×(List aa)×(List aa)×Bool×(List UInt8)×(List ab)×Int×(List al))⊕(Int×Int×Int×Int×Bool×Int×(List UInt8)×(List aa)×(List aa)×Int×Int×(List aa)×(List aa)×(List aa)×Bool×(List UInt8)×(List ab)×Int×(List al)))) λw=>
 match w with
 | .inl p7=>
  bd (if p7.2.2.2.2.2.2.2.2.2.2.2.2.2.2.1 then
   some (!a2.L.cq)
   else
   some false:Option Bool) λw7=>
  bd (if w7 then
   if (p7.2.2.2.2.2.2.2.2.2.2.2.2.2.2.2.2.2.2.length+([(⟨5,a1,0,p7.2.2.2.2.2.2.2.2.2.2.2.2.2.2.2.1,([]:List ab),(⟨0,0,([]:List UInt8)⟩:aa),([]:List aa),(⟨0,0,false,0,([]:List UInt8),([]:List aa)⟩:ab)⟩:al)]:List al).length) *192<=2^46 then
   some (p7.2.2.2.2.2.2.2.2.2.2.2.2.2.2.2.2.2.2++([(⟨5,a1,0,p7.2.2.2.2.2.2.2.2.2.2.2.2.2.2.2.1,([]:List ab),(⟨0,0,([]:List UInt8)⟩:aa),([]:List aa),(⟨0,0,false,0,([]:List UInt8),([]:List aa)⟩:ab)⟩:al)]:List al))
   else none
   else
   some p7.2.2.2.2.2.2.2.2.2.2.2.2.2.2.2.2.2.2:Option (List al)) λw8=>
  some ((⟨(⟨(⟨p7.1,p7.2.1⟩:af),p7.2.2.1,p7.2.2.2.1,p7.2.2.2.2.1,p7.2.2.2.2.2.1,p7.2.2.2.2.2.2.1,p7.2.2.2.2.2.2.2.1,(⟨p7.2.2.2.2.2.2.2.2.1⟩:aD)⟩:ae),(⟨(⟨p7.2.2.2.2.2.2.2.2.2.1,p7.2.2.2.2.2.2.2.2.2.2.1⟩:af),(⟨p7.2.2.2.2.2.2.2.2.2.2.2.1⟩:aD),(⟨p7.2.2.2.2.2.2.2.2.2.2.2.2.1⟩:aD),(⟨p7.2.2.2.2.2.2.2.2.2.2.2.2.2.1⟩:aD),p7.2.2.2.2.2.2.2.2.2.2.2.2.2.2.1,p7.2.2.2.2.2.2.2.2.2.2.2.2.2.2.2.1⟩:ar),p7.2.2.2.2.2.2.2.2.2.2.2.2.2.2.2.2.1,p7.2.2.2.2.2.2.2.2.2.2.2.2.2.2.2.2.2.1⟩:aq),w8)
 | .inr p8=>
  bd (if p8.2.2.2.2.2.2.2.2.2.2.2.2.2.2.1 then
   some (!a2.L.cq)
   else
   some false:Option Bool) λw9=>
  bd (if w9 then
   if (p8.2.2.2.2.2.2.2.2.2.2.2.2.2.2.2.2.2.2.length+([(⟨5,a1,0,p8.2.2.2.2.2.2.2.2.2.2.2.2.2.2.2.1,([]:List ab),(⟨0,0,([]:List UInt8)⟩:aa),([]:List aa),(⟨0,0,false,0,([]:List UInt8),([]:List aa)⟩:ab)⟩:al)]:List al).length) *192<=2^46 then
   some (p8.2.2.2.2.2.2.2.2.2.2.2.2.2.2.2.2.2.2++([(⟨5,a1,0,p8.2.2.2.2.2.2.2.2.2.2.2.2.2.2.2.1,([]:List ab),(⟨0,0,([]:List UInt8)⟩:aa),([]:List aa),(⟨0,0,false,0,([]:List UInt8),([]:List aa)⟩:ab)⟩:al)]:List al))
   else none
   else
   some p8.2.2.2.2.2.2.2.2.2.2.2.2.2.2.2.2.2.2:Option (List al)) λw10=>
  some ((⟨(⟨(⟨p8.1,p8.2.1⟩:af),p8.2.2.1,p8.2.2.2.1,p8.2.2.2.2.1,p8.2.2.2.2.2.1,p8.2.2.2.2.2.2.1,p8.2.2.2.2.2.2.2.1,(⟨p8.2.2.2.2.2.2.2.2.1⟩:aD)⟩:ae),(⟨(⟨p8.2.2.2.2.2.2.2.2.2.1,p8.2.2.2.2.2.2.2.2.2.2.1⟩:af),(⟨p8.2.2.2.2.2.2.2.2.2.2.2.1⟩:aD),(⟨p8.2.2.2.2.2.2.2.2.2.2.2.2.1⟩:aD),(⟨p8.2.2.2.2.2.2.2.2.2.2.2.2.2.1⟩:aD),p8.2.2.2.2.2.2.2.2.2.2.2.2.2.2.1,p8.2.2.2.2.2.2.2.2.2.2.2.2.2.2.2.1⟩:ar),p8.2.2.2.2.2.2.2.2.2.2.2.2.2.2.2.2.1,p8.2.2.2.2.2.2.2.2.2.2.2.2.2.2.2.2.2.1⟩:aq),w10)
def wj (a:ae):Option ab:=some (⟨a.Me,a.View,a.Has,a.At,a.Value,a.Proof⟩:ab)
def mY (a:ae)(view:Int):Option (ae×ab×Bool):=bd (if view<=a.View then
  some true
  else
  some (decide ((100000:Int)<view)):Option Bool) λw=>
 if w then
 some (a,(⟨0,0,false,0,([]:List UInt8),([]:List aa)⟩:ab),false)
 else
 bd (wj (⟨a.S,a.Me,view,a.Has,a.At,a.Value,a.Proof,(⟨([]:List aa)⟩:aD)⟩:ae)) λrA=>
 some ((⟨a.S,a.Me,view,a.Has,a.At,a.Value,a.Proof,(⟨([]:List aa)⟩:aD)⟩:ae),rA,true)
def pk (x_:af)(x_1:Int)(n:aq)(view:Int):Option (aq×(List al)):=bd (mY n.A view) λrA=>
 if !rA.2.2 then
 some (n,([]:List al))
 else
 some ((⟨rA.1,n.L,([]:List ab),n.jy⟩:aq),([(⟨4,0,0,([]:List UInt8),([]:List ab),(⟨0,0,([]:List UInt8)⟩:aa),([]:List aa),rA.2.1⟩:al)]:List al))
def iU (a:af)(a1:Int)(a2:aq)(a3:List UInt8):Option (aq×(List al)):=bd (tx a) λrA=>
 bd (bd (kP a a2.A.View) λbc=>
  if !decide (bc=a1) then
  some true
  else
  some (decide (a2.A.View<=a2.jy)):Option Bool) λw=>
 if w then
 some (a2,([]:List al))
 else
 bd (if (0:Int)<a2.A.View then
  some (decide ((a2.df.length:Int)<rA))
  else
  some false:Option Bool) λw1=>
 if w1 then
 some (a2,([]:List al))
 else
 bd (if (0:Int)<a2.A.View then
  if (0:Int)<=0/\(0:Int)<=rA/\rA<=(a2.df.length:Int) then
  bd (yd 72 (AI (sh 0) (AT (sh rA) a2.df))) λbQ=>
  bd (nA a bQ) λct=>
  bd (if ct.2 then
   some (1,a1,a2.A.View,ct.1,bQ,0,0,([]:List UInt8),([]:List aa),0,0,false,0,([]:List UInt8),([]:List aa))
   else
   some (1,a1,a2.A.View,a3,bQ,0,0,([]:List UInt8),([]:List aa),0,0,false,0,([]:List UInt8),([]:List aa)):Option (Int×Int×Int×(List UInt8)×(List ab)×Int×Int×(List UInt8)×(List aa)×Int×Int×Bool×Int×(List UInt8)×(List aa))) λw3=>
  some w3
  else none
  else
  some (1,a1,a2.A.View,a3,([]:List ab),0,0,([]:List UInt8),([]:List aa),0,0,false,0,([]:List UInt8),([]:List aa)):Option (Int×Int×Int×(List UInt8)×(List ab)×Int×Int×(List UInt8)×(List aa)×Int×Int×Bool×Int×(List UInt8)×(List aa))) λw2=>
 some ((⟨a2.A,a2.L,a2.df,w2.2.2.1⟩:aq),([(⟨w2.1,w2.2.1,w2.2.2.1,w2.2.2.2.1,w2.2.2.2.2.1,(⟨w2.2.2.2.2.2.1,w2.2.2.2.2.2.2.1,w2.2.2.2.2.2.2.2.1⟩:aa),w2.2.2.2.2.2.2.2.2.1,(⟨w2.2.2.2.2.2.2.2.2.2.1,w2.2.2.2.2.2.2.2.2.2.2.1,w2.2.2.2.2.2.2.2.2.2.2.2.1,w2.2.2.2.2.2.2.2.2.2.2.2.2.1,w2.2.2.2.2.2.2.2.2.2.2.2.2.2.1,w2.2.2.2.2.2.2.2.2.2.2.2.2.2.2⟩:ab)⟩:al)]:List al))
def jL (c:au)(i:Int):Option ((List UInt8)×Bool):=bd (bd (dY c i false) λrA=>
  if !rA then
  some true
  else
  ix c.N i λy=>
  some (!y.L.cq):Option Bool) λw=>
 if w then
 some (([]:List UInt8),false)
 else
 ix c.N i λy1=>
 some (y1.L.Value,true)
def pn (sA:cu):Option Bool:=bd (if (1:Int)<=sA.F then
  if sA.F<=5 then
  if (0:Int)<=sA.T then
  some (decide (sA.T<=sA.F))
  else
  some false
  else
  some false
  else
  some false:Option Bool) λw=>
 some w
def yP (sA:cu):Option Int:=some (eJ .i64 ((eJ .i64 ((eJ .i64 (3 *sA.F))+(eJ .i64 (2 *sA.T))))+1))
def A7 (sA:cu)(me:Int):Option (br×Int):=bd (bd (pn sA) λrA=>
  if !rA then
  some true
  else
  if me<0 then
  some true
  else
  bd (yP sA) λbc=>
  some (decide (bc<=me)):Option Bool) λw=>
 if w then
 some ((⟨(⟨0,0⟩:cu),0,0,false,0,([]:List UInt8),([]:List aa),(⟨([]:List aa)⟩:bF)⟩:br),1)
 else
 some ((⟨sA,me,0,false,0,([]:List UInt8),([]:List aa),(⟨([]:List aa)⟩:bF)⟩:br),0)
def Hj (sA:cu):Option (dj×Int):=bd (pn sA) λrA=>
 if !rA then
 some ((⟨(⟨0,0⟩:cu),(⟨([]:List aa)⟩:bF),(⟨([]:List aa)⟩:bF),(⟨([]:List aa)⟩:bF),false,([]:List UInt8)⟩:dj),1)
 else
 some ((⟨sA,(⟨([]:List aa)⟩:bF),(⟨([]:List aa)⟩:bF),(⟨([]:List aa)⟩:bF),false,([]:List UInt8)⟩:dj),0)
def LP (sA:cu)(i:Int):Option (km×Int):=bd (A7 sA i) λrA=>
 if !decide (rA.2=0) then
 some ((⟨(⟨(⟨0,0⟩:cu),0,0,false,0,([]:List UInt8),([]:List aa),(⟨([]:List aa)⟩:bF)⟩:br),(⟨(⟨0,0⟩:cu),(⟨([]:List aa)⟩:bF),(⟨([]:List aa)⟩:bF),(⟨([]:List aa)⟩:bF),false,([]:List UInt8)⟩:dj),([]:List ab),0⟩:km),rA.2)
 else
 bd (Hj sA) λbc=>
 some ((⟨rA.1,bc.1,([]:List ab),(-1)⟩:km),0)
def yg (sA:cu)(view:Int):Option Int:=bd (yP sA) λrA=>
 if !decide (rA=0) then
 some (No (imax view 0) rA)
 else none
def R0 (p:List aa):Option (Int×(List UInt8)×Bool):=if (p.length:Int)=0 then
 some ((-1),([]:List UInt8),false)
 else
 ix p 0 λy=>
 ix p 0 λy1=>
 some (y.View,y1.Value,true)
def Fe (sA:cu):Option Int:=some (eJ .i64 ((eJ .i64 (sA.F+sA.T))+1))
def vC (a1:List ab)(st:Int×(List UInt8)×Int):Option ((Int×(List UInt8)×Int)⊕(Int×(List UInt8))):=if st.2.2<(a1.length:Int) then
 ix a1 st.2.2 λy=>
 bd (R0 y.Proof) λrA=>
 bd (if rA.2.2 then
  some (decide (st.1<rA.1))
  else
  some false:Option Bool) λw1=>
 bd (if w1 then
  some (rA.1,rA.2.1)
  else
  some (st.1,st.2.1):Option (Int×(List UInt8))) λw2=>
 some (.inl (w2.1,w2.2,eJ .i64 (st.2.2+1)))
 else
 some (.inr (st.1,st.2.1))
def vD (a1:List ab)(w:Int×(List UInt8))(cR:Int)(dV:Int×Int):Option ((Int×Int)⊕Int):=if dV.2<(a1.length:Int) then
 bd (ix a1 dV.2 λy1=>
  if y1.Has then
  ix a1 dV.2 λy2=>
  if w.1<y2.View then
  ix a1 cR λy3=>
  if y3.Has then
  ix a1 cR λy4=>
  if w.1<y4.View then
  ix a1 dV.2 λy5=>
  ix a1 cR λy6=>
  some (decide (y5.Value=y6.Value))
  else
  some false
  else
  some false
  else
  some false
  else
  some false:Option Bool) λw5=>
 bd (if w5 then
  some (eJ .i64 (dV.1+1))
  else
  some dV.1:Option Int) λw6=>
 some (.inl (w6,eJ .i64 (dV.2+1)))
 else
 some (.inr dV.1)
def zY (a:cu)(a1:List ab)(w:Int×(List UInt8))(cR:Int):Option (Int⊕(Unit⊕((List UInt8)×Bool))):=if cR<(a1.length:Int) then
 bd (Loop (vD a1 w cR) (0,0)) λw4=>
 bd (Fe a) λbc=>
 if bc<=w4 then
 ix a1 cR λy7=>
 some (.inr (.inr (y7.Value,true)))
 else
 some (.inl (eJ .i64 (cR+1)))
 else
 some (.inr (.inl ()))
def Ff (a:cu)(a1:List ab):Option ((List UInt8)×Bool):=bd (Loop (vC a1) ((-1),([]:List UInt8),0)) λw=>
 bd (Loop (zY a a1 w) 0) λw3=>
 match w3 with
 | .inl p5=>some (w.2,decide ((0:Int)<=w.1))
 | .inr p6=>some (p6.1,p6.2)
def IG (sA:cu):Option Int:=some (eJ .i64 ((eJ .i64 ((eJ .i64 (2 *sA.F))+(eJ .i64 (2 *sA.T))))+1))
def yh (a:aa):Option Bool:=bd (if (0:Int)<=a.By then
  if (0:Int)<=a.View then
  if a.View<=100000 then
  some (decide ((a.Value.length:Int)<=6000))
  else
  some false
  else
  some false
  else
  some false:Option Bool) λw=>
 some w
def xe (sA:cu):Option Int:=some (eJ .i64 ((eJ .i64 ((eJ .i64 (2 *sA.F))+sA.T))+1))
def zZ (a:cu)(a1:List aa)(st:Int):Option (Int⊕(Unit⊕Bool)):=if st<(a1.length:Int) then
 ix a1 st λy=>
 bd (bd (yh y) λbQ=>
  if !bQ then
  some true
  else
  bd (yP a) λct=>
  if ct<=y.By then
  some true
  else
  ix a1 0 λy1=>
  if !decide (y.View=y1.View) then
  some true
  else
  ix a1 0 λy2=>
  if !decide (y.Value=y2.Value) then
  some true
  else
  if (0:Int)<st then
  ix a1 (eJ .i64 (st-1)) λy3=>
  some (decide (y.By<=y3.By))
  else
  some false:Option Bool) λw2=>
 if w2 then
 some (.inr (.inr false))
 else
 some (.inl (eJ .i64 (st+1)))
 else
 some (.inr (.inl ()))
def po (a:cu)(a1:List aa):Option Bool:=bd (bd (pn a) λrA=>
  if !rA then
  some true
  else
  bd (xe a) λbc=>
  some (!decide ((a1.length:Int)=bc)):Option Bool) λw=>
 if w then
 some false
 else
 bd (Loop (zZ a a1) 0) λw1=>
 match w1 with
 | .inl p1=>some true
 | .inr p2=>some p2
def Hk (a:cu)(a1:ab):Option Bool:=bd (bd (pn a) λrA=>
  if !rA then
  some true
  else
  if a1.By<0 then
  some true
  else
  bd (yP a) λbc=>
  if bc<=a1.By then
  some true
  else
  if a1.jo<1 then
  some true
  else
  some (decide ((100000:Int)<a1.jo)):Option Bool) λw=>
 if w then
 some false
 else
 bd (if a1.Has then
  if a1.View<0 then
  some true
  else
  if a1.jo<=a1.View then
  some true
  else
  if (6000:Int)<(a1.Value.length:Int) then
  some true
  else
  if !a1.Has then
  if !decide (a1.View=0) then
  some true
  else
  some (!decide (a1.Value=([]:List UInt8)))
  else
  some false
  else
  if !a1.Has then
  if !decide (a1.View=0) then
  some true
  else
  some (!decide (a1.Value=([]:List UInt8)))
  else
  some false:Option Bool) λw1=>
 if w1 then
 some false
 else
 bd (if (a1.Proof.length:Int)=0 then
  some true
  else
  bd (po a a1.Proof) λbQ=>
  if bQ then
  ix a1.Proof 0 λy=>
  some (decide (y.View<a1.jo))
  else
  some false:Option Bool) λw2=>
 some w2
def z1 (sA:cu)(view:Int)(lA:List ab)(st:Int):Option (Int⊕(Unit⊕Bool)):=if st<(lA.length:Int) then
 bd (ix lA st λy=>
  bd (Hk sA y) λbQ=>
  if !bQ then
  some true
  else
  ix lA st λy1=>
  if !decide (y1.jo=view) then
  some true
  else
  if (0:Int)<st then
  ix lA (eJ .i64 (st-1)) λy2=>
  ix lA st λy3=>
  some (decide (y3.By<=y2.By))
  else
  some false:Option Bool) λw2=>
 if w2 then
 some (.inr (.inr false))
 else
 some (.inl (eJ .i64 (st+1)))
 else
 some (.inr (.inl ()))
def Fg (sA:cu)(view:Int)(lA:List ab):Option Bool:=bd (bd (pn sA) λrA=>
  if !rA then
  some true
  else
  bd (IG sA) λbc=>
  some (!decide ((lA.length:Int)=bc)):Option Bool) λw=>
 if w then
 some false
 else
 bd (Loop (z1 sA view lA) 0) λw1=>
 match w1 with
 | .inl p1=>some true
 | .inr p2=>some p2
def jM (sA:cu)(view:Int)(lA:List ab)(value:List UInt8):Option Bool:=bd (Fg sA view lA) λrA=>
 if !rA then
 some false
 else
 bd (Ff sA lA) λbc=>
 bd (if !bc.2 then
  some true
  else
  some (decide (bc.1=value)):Option Bool) λw=>
 some w
def z6 (a:br)(view:Int)(value:List UInt8)(kZ:List ab):Option (br×aa×Bool):=bd (if view=0 then
  some (decide ((kZ.length:Int)=0))
  else
  some false:Option Bool) λw=>
 bd (if !decide (view=a.View) then
  some true
  else
  if a.Has then
  if a.At=view then
  some true
  else
  if (6000:Int)<(value.length:Int) then
  some true
  else
  if !w then
  bd (jM a.S view kZ value) λrA=>
  some (!rA)
  else
  some false
  else
  if (6000:Int)<(value.length:Int) then
  some true
  else
  if !w then
  bd (jM a.S view kZ value) λbc=>
  some (!bc)
  else
  some false:Option Bool) λw1=>
 if w1 then
 some (a,(⟨0,0,([]:List UInt8)⟩:aa),false)
 else
 some ((⟨a.S,a.Me,a.View,true,view,value,a.Proof,a.bV⟩:br),(⟨a.Me,view,value⟩:aa),true)
def A8 (a:bF)(a1:aa)(st:(List aa)×(List aa)×Bool×Int):Option (((List aa)×(List aa)×Bool×Int)⊕(((List aa)×(List aa)×Bool)⊕((List aa)×Bool))):=if st.2.2.2<(a.L.length:Int) then
 ix a.L st.2.2.2 λy=>
 bd (if y.By=a1.By then
  some (decide (a1.View<=y.View))
  else
  some false:Option Bool) λw1=>
 if w1 then
 some (.inr (.inr (a.L,false)))
 else
 bd (if !st.2.2.1 then
  some (decide (a1.By<=y.By))
  else
  some false:Option Bool) λw2=>
 bd (if w2 then
  if (st.2.1.length+([a1]:List aa).length) *32<=2^46 then
  some (st.2.1++([a1]:List aa),true)
  else none
  else
  some (st.2.1,st.2.2.1):Option ((List aa)×Bool)) λw3=>
 bd (if !decide (y.By=a1.By) then
  if (w3.1.length+([y]:List aa).length) *32<=2^46 then
  some (w3.1++([y]:List aa))
  else none
  else
  some w3.1:Option (List aa)) λw4=>
 some (.inl (st.1,w4,w3.2,eJ .i64 (st.2.2.2+1)))
 else
 some (.inr (.inl (st.1,st.2.1,st.2.2.1)))
def A9 (a:bF)(a1:aa):Option (bF×Bool):=bd (yh a1) λrA=>
 if !rA then
 some (a,false)
 else
 bd (Loop (A8 a a1) (([]:List aa),([]:List aa),false,0)) λw=>
 match w with
 | .inl p3=>
  bd (if !p3.2.2 then
   if (p3.2.1.length+([a1]:List aa).length) *32<=2^46 then
   some (p3.2.1++([a1]:List aa))
   else none
   else
   some p3.2.1:Option (List aa)) λw5=>
  some ((⟨w5⟩:bF),true)
 | .inr p4=>some ((⟨p4.1⟩:bF),p4.2)
def s6 (t:bF)(view:Int)(value:List UInt8)(st:(List aa)×Int):Option (((List aa)×Int)⊕(List aa)):=if st.2<(t.L.length:Int) then
 bd (ix t.L st.2 λy=>
  if y.View=view then
  ix t.L st.2 λy1=>
  some (decide (y1.Value=value))
  else
  some false:Option Bool) λw1=>
 bd (if w1 then
  ix t.L st.2 λy2=>
  if (st.1.length+([y2]:List aa).length) *32<=2^46 then
  some (st.1++([y2]:List aa))
  else none
  else
  some st.1:Option (List aa)) λw2=>
 some (.inl (w2,eJ .i64 (st.2+1)))
 else
 some (.inr st.1)
def yi (t:bF)(view:Int)(value:List UInt8):Option (List aa):=bd (Loop (s6 t view value) (([]:List aa),0)) λw=>some w
def Fh (t:bF)(view:Int)(value:List UInt8):Option Int:=bd (yi t view value) λrA=>some (rA.length:Int)
def yj (t:bF)(b9:Int)(st:Int×Int):Option ((Int×Int)⊕Int):=bd (if st.2<(t.L.length:Int) then
  some (decide ((1:Int)<=b9))
  else
  some false:Option Bool) λw1=>
 if w1 then
 ix t.L st.2 λy=>
 bd (bd (Fh t y.View y.Value) λrA=>
  if b9<=rA then
  if st.1<0 then
  some true
  else
  ix t.L st.1 λy1=>
  some (decide (y1.View<y.View))
  else
  some false:Option Bool) λw2=>
 bd (if w2 then
  some st.2
  else
  some st.1:Option Int) λw3=>
 some (.inl (w3,eJ .i64 (st.2+1)))
 else
 some (.inr st.1)
def DN (t:bF)(b9:Int):Option (Int×(List UInt8)×Bool):=bd (Loop (yj t b9) ((-1),0)) λw=>
 if w<0 then
 some (0,([]:List UInt8),false)
 else
 ix t.L w λy2=>
 ix t.L w λy3=>
 some (y2.View,y3.Value,true)
def IH (sA:cu)(t:bF):Option ((List aa)×Bool):=bd (xe sA) λrA=>
 bd (DN t rA) λbc=>
 if !bc.2.2 then
 some (([]:List aa),false)
 else
 bd (yi t bc.1 bc.2.1) λbQ=>
 if (0:Int)<=0/\(0:Int)<=rA/\rA<=(bQ.length:Int) then
 some (AI (sh 0) (AT (sh rA) bQ),true)
 else none
def II (a:br)(a1:aa):Option (br×(List aa)×Bool):=bd (bd (yh a1) λrA=>
  if !rA then
  some true
  else
  bd (yP a.S) λbc=>
  if bc<=a1.By then
  some true
  else
  some (!decide (a1.View=a.View)):Option Bool) λw=>
 if w then
 some (a,([]:List aa),false)
 else
 bd (A9 a.bV a1) λbQ=>
 bd (IH a.S bQ.1) λct=>
 bd (R0 a.Proof) λgm=>
 bd (if !ct.2 then
  some true
  else
  ix ct.1 0 λy=>
  some (decide (y.View<=gm.1)):Option Bool) λw1=>
 if w1 then
 some ((⟨a.S,a.Me,a.View,a.Has,a.At,a.Value,a.Proof,bQ.1⟩:br),([]:List aa),false)
 else
 some ((⟨a.S,a.Me,a.View,a.Has,a.At,a.Value,ct.1,bQ.1⟩:br),ct.1,true)
def z7 (lA:dj)(t:bF)(b9:Int):Option dj:=bd (DN t b9) λrA=>
 bd (if rA.2.2 then
  some (lA.S.F,lA.S.T,lA.bj.L,lA.bp.L,lA.Told.L,true,rA.2.1)
  else
  some (lA.S.F,lA.S.T,lA.bj.L,lA.bp.L,lA.Told.L,lA.cq,lA.Value):Option (Int×Int×(List aa)×(List aa)×(List aa)×Bool×(List UInt8))) λw=>
 some (⟨(⟨w.1,w.2.1⟩:cu),(⟨w.2.2.1⟩:bF),(⟨w.2.2.2.1⟩:bF),(⟨w.2.2.2.2.1⟩:bF),w.2.2.2.2.2.1,w.2.2.2.2.2.2⟩:dj)
def Ym (sA:cu):Option Int:=some (eJ .i64 ((eJ .i64 ((eJ .i64 (3 *sA.F))+sA.T))+1))
def ND (lA:dj)(a:aa):Option dj:=bd (if lA.cq then
  some true
  else
  bd (yP lA.S) λrA=>
  some (decide (rA<=a.By)):Option Bool) λw=>
 if w then
 some lA
 else
 bd (A9 lA.bj a) λbc=>
 bd (yh a) λbQ=>
 if !bQ then
 some (⟨lA.S,bc.1,lA.bp,lA.Told,lA.cq,lA.Value⟩:dj)
 else
 bd (Ym lA.S) λct=>
 bd (z7 (⟨lA.S,bc.1,lA.bp,lA.Told,lA.cq,lA.Value⟩:dj) bc.1 ct) λgm=>
 some gm
def Ky (lA:dj)(qF:Int)(p:List aa):Option dj:=bd (if lA.cq then
  some true
  else
  if qF<0 then
  some true
  else
  bd (yP lA.S) λrA=>
  if rA<=qF then
  some true
  else
  bd (po lA.S p) λbc=>
  some (!bc):Option Bool) λw=>
 if w then
 some lA
 else
 ix p 0 λy=>
 ix p 0 λy1=>
 bd (A9 lA.bp (⟨qF,y.View,y1.Value⟩:aa)) λbQ=>
 bd (xe lA.S) λct=>
 bd (z7 (⟨lA.S,lA.bj,bQ.1,lA.Told,lA.cq,lA.Value⟩:dj) bQ.1 ct) λgm=>
 some gm
def Ba (a2:km)(a3:ab)(st:(List ab)×Bool×Int):Option (((List ab)×Bool×Int)⊕(((List ab)×Bool)⊕(List ab))):=if st.2.2<(a2.df.length:Int) then
 ix a2.df st.2.2 λy=>
 if y.By=a3.By then
 some (.inr (.inr a2.df))
 else
 bd (if !st.2.1 then
  ix a2.df st.2.2 λy1=>
  some (decide (a3.By<y1.By))
  else
  some false:Option Bool) λw2=>
 bd (if w2 then
  if (st.1.length+([a3]:List ab).length) *72<=2^46 then
  some (st.1++([a3]:List ab),true)
  else none
  else
  some (st.1,st.2.1):Option ((List ab)×Bool)) λw3=>
 ix a2.df st.2.2 λy2=>
 if (w3.1.length+([y2]:List ab).length) *72<=2^46 then
 some (.inl (w3.1++([y2]:List ab),w3.2,eJ .i64 (st.2.2+1)))
 else none
 else
 some (.inr (.inl (st.1,st.2.1)))
def NE (a:cu)(a1:Int)(a2:km)(a3:ab):Option (List ab):=bd (if !decide (a2.A.View=a3.jo) then
  some true
  else
  bd (yg a a3.jo) λrA=>
  if !decide (rA=a1) then
  some true
  else
  bd (Hk a a3) λbc=>
  some (!bc):Option Bool) λw=>
 if w then
 some a2.df
 else
 bd (Loop (Ba a2 a3) (([]:List ab),false,0)) λw1=>
 match w1 with
 | .inl p2=>
  bd (if !p2.2 then
   if (p2.1.length+([a3]:List ab).length) *72<=2^46 then
   some (p2.1++([a3]:List ab))
   else none
   else
   some p2.1:Option (List ab)) λw4=>
  some w4
 | .inr p3=>some p3
def Yn (sA:cu):Option Int:=some (eJ .i64 (sA.F+1))
def Yo (lA:dj)(qF:Int)(value:List UInt8):Option dj:=bd (if lA.cq then
  some true
  else
  if qF<0 then
  some true
  else
  bd (yP lA.S) λrA=>
  if rA<=qF then
  some true
  else
  some (decide ((6000:Int)<(value.length:Int))):Option Bool) λw=>
 if w then
 some lA
 else
 bd (A9 lA.Told (⟨qF,0,value⟩:aa)) λbc=>
 bd (Yn lA.S) λbQ=>
 bd (z7 (⟨lA.S,lA.bj,lA.bp,bc.1,lA.cq,lA.Value⟩:dj) bc.1 bQ) λct=>
 some ct
def UY (a:cu)(a1:Int)(a2:km)(a3:eo):Option (km×(List eo)):=bd (if a3.Kind=1 then
  bd (yg a a3.View) λrA=>
  bd (if a3.eQ=rA then
   bd (z6 a2.A a3.View a3.Value a3.dP) λbc=>
   bd (if bc.2.2 then
    if (([]:List eo).length+([(⟨2,0,0,([]:List UInt8),([]:List ab),bc.2.1,([]:List aa),(⟨0,0,false,0,([]:List UInt8),([]:List aa)⟩:ab)⟩:eo)]:List eo).length) *192<=2^46 then
    some (([]:List eo)++([(⟨2,0,0,([]:List UInt8),([]:List ab),bc.2.1,([]:List aa),(⟨0,0,false,0,([]:List UInt8),([]:List aa)⟩:ab)⟩:eo)]:List eo))
    else none
    else
    some ([]:List eo):Option (List eo)) λw2=>
   some (bc.1.S.F,bc.1.S.T,bc.1.Me,bc.1.View,bc.1.Has,bc.1.At,bc.1.Value,bc.1.Proof,bc.1.bV.L,a2.L.S.F,a2.L.S.T,a2.L.bj.L,a2.L.bp.L,a2.L.Told.L,a2.L.cq,a2.L.Value,a2.df,a2.jy,w2)
   else
   some (a2.A.S.F,a2.A.S.T,a2.A.Me,a2.A.View,a2.A.Has,a2.A.At,a2.A.Value,a2.A.Proof,a2.A.bV.L,a2.L.S.F,a2.L.S.T,a2.L.bj.L,a2.L.bp.L,a2.L.Told.L,a2.L.cq,a2.L.Value,a2.df,a2.jy,([]:List eo)):Option (Int×Int×Int×Int×Bool×Int×(List UInt8)×(List aa)×(List aa)×Int×Int×(List aa)×(List aa)×(List aa)×Bool×(List UInt8)×(List ab)×Int×(List eo))) λw1=>
  some w1
  else
  bd (if a3.Kind=2 then
   bd (II a2.A a3.cf) λbQ=>
   bd (if bQ.2.2 then
    if (([]:List eo).length+([(⟨3,a1,0,([]:List UInt8),([]:List ab),(⟨0,0,([]:List UInt8)⟩:aa),bQ.2.1,(⟨0,0,false,0,([]:List UInt8),([]:List aa)⟩:ab)⟩:eo)]:List eo).length) *192<=2^46 then
    some (([]:List eo)++([(⟨3,a1,0,([]:List UInt8),([]:List ab),(⟨0,0,([]:List UInt8)⟩:aa),bQ.2.1,(⟨0,0,false,0,([]:List UInt8),([]:List aa)⟩:ab)⟩:eo)]:List eo))
    else none
    else
    some ([]:List eo):Option (List eo)) λw4=>
   bd (ND a2.L a3.cf) λct=>
   some (bQ.1.S.F,bQ.1.S.T,bQ.1.Me,bQ.1.View,bQ.1.Has,bQ.1.At,bQ.1.Value,bQ.1.Proof,bQ.1.bV.L,ct.S.F,ct.S.T,ct.bj.L,ct.bp.L,ct.Told.L,ct.cq,ct.Value,a2.df,a2.jy,w4)
   else
   bd (if a3.Kind=3 then
    bd (Ky a2.L a3.eQ a3.Proof) λgm=>
    some (a2.A.S.F,a2.A.S.T,a2.A.Me,a2.A.View,a2.A.Has,a2.A.At,a2.A.Value,a2.A.Proof,a2.A.bV.L,gm.S.F,gm.S.T,gm.bj.L,gm.bp.L,gm.Told.L,gm.cq,gm.Value,a2.df,a2.jy)
    else
    bd (if a3.Kind=4 then
     bd (NE a a1 a2 a3.R) λlz=>
     some (a2.A.S.F,a2.A.S.T,a2.A.Me,a2.A.View,a2.A.Has,a2.A.At,a2.A.Value,a2.A.Proof,a2.A.bV.L,a2.L.S.F,a2.L.S.T,a2.L.bj.L,a2.L.bp.L,a2.L.Told.L,a2.L.cq,a2.L.Value,lz,a2.jy)
     else
     bd (if a3.Kind=5 then
      bd (Yo a2.L a3.eQ a3.Value) λqK=>
      some (a2.A.S.F,a2.A.S.T,a2.A.Me,a2.A.View,a2.A.Has,a2.A.At,a2.A.Value,a2.A.Proof,a2.A.bV.L,qK.S.F,qK.S.T,qK.bj.L,qK.bp.L,qK.Told.L,qK.cq,qK.Value,a2.df,a2.jy)
      else
      some (a2.A.S.F,a2.A.S.T,a2.A.Me,a2.A.View,a2.A.Has,a2.A.At,a2.A.Value,a2.A.Proof,a2.A.bV.L,a2.L.S.F,a2.L.S.T,a2.L.bj.L,a2.L.bp.L,a2.L.Told.L,a2.L.cq,a2.L.Value,a2.df,a2.jy):Option (Int×Int×Int×Int×Bool×Int×(List UInt8)×(List aa)×(List aa)×Int×Int×(List aa)×(List aa)×(List aa)×Bool×(List UInt8)×(List ab)×Int)) λw7=>
     some w7:Option (Int×Int×Int×Int×Bool×Int×(List UInt8)×(List aa)×(List aa)×Int×Int×(List aa)×(List aa)×(List aa)×Bool×(List UInt8)×(List ab)×Int)) λw6=>
    some w6:Option (Int×Int×Int×Int×Bool×Int×(List UInt8)×(List aa)×(List aa)×Int×Int×(List aa)×(List aa)×(List aa)×Bool×(List UInt8)×(List ab)×Int)) λw5=>
   some (w5.1,w5.2.1,w5.2.2.1,w5.2.2.2.1,w5.2.2.2.2.1,w5.2.2.2.2.2.1,w5.2.2.2.2.2.2.1,w5.2.2.2.2.2.2.2.1,w5.2.2.2.2.2.2.2.2.1,w5.2.2.2.2.2.2.2.2.2.1,w5.2.2.2.2.2.2.2.2.2.2.1,w5.2.2.2.2.2.2.2.2.2.2.2.1,w5.2.2.2.2.2.2.2.2.2.2.2.2.1,w5.2.2.2.2.2.2.2.2.2.2.2.2.2.1,w5.2.2.2.2.2.2.2.2.2.2.2.2.2.2.1,w5.2.2.2.2.2.2.2.2.2.2.2.2.2.2.2.1,w5.2.2.2.2.2.2.2.2.2.2.2.2.2.2.2.2.1,w5.2.2.2.2.2.2.2.2.2.2.2.2.2.2.2.2.2,([]:List eo)):Option (Int×Int×Int×Int×Bool×Int×(List UInt8)×(List aa)×(List aa)×Int×Int×(List aa)×(List aa)×(List aa)×Bool×(List UInt8)×(List ab)×Int×(List eo))) λw3=>
  some w3:Option (Int×Int×Int×Int×Bool×Int×(List UInt8)×(List aa)×(List aa)×Int×Int×(List aa)×(List aa)×(List aa)×Bool×(List UInt8)×(List ab)×Int×(List eo))) λw=>
 bd (if w.2.2.2.2.2.2.2.2.2.2.2.2.2.2.1 then
  some (!a2.L.cq)
  else
  some false:Option Bool) λw8=>
 bd (if w8 then
  if (w.2.2.2.2.2.2.2.2.2.2.2.2.2.2.2.2.2.2.length+([(⟨5,a1,0,w.2.2.2.2.2.2.2.2.2.2.2.2.2.2.2.1,([]:List ab),(⟨0,0,([]:List UInt8)⟩:aa),([]:List aa),(⟨0,0,false,0,([]:List UInt8),([]:List aa)⟩:ab)⟩:eo)]:List eo).length) *192<=2^46 then
  some (w.2.2.2.2.2.2.2.2.2.2.2.2.2.2.2.2.2.2++([(⟨5,a1,0,w.2.2.2.2.2.2.2.2.2.2.2.2.2.2.2.1,([]:List ab),(⟨0,0,([]:List UInt8)⟩:aa),([]:List aa),(⟨0,0,false,0,([]:List UInt8),([]:List aa)⟩:ab)⟩:eo)]:List eo))
  else none
  else
  some w.2.2.2.2.2.2.2.2.2.2.2.2.2.2.2.2.2.2:Option (List eo)) λw9=>
 some ((⟨(⟨(⟨w.1,w.2.1⟩:cu),w.2.2.1,w.2.2.2.1,w.2.2.2.2.1,w.2.2.2.2.2.1,w.2.2.2.2.2.2.1,w.2.2.2.2.2.2.2.1,(⟨w.2.2.2.2.2.2.2.2.1⟩:bF)⟩:br),(⟨(⟨w.2.2.2.2.2.2.2.2.2.1,w.2.2.2.2.2.2.2.2.2.2.1⟩:cu),(⟨w.2.2.2.2.2.2.2.2.2.2.2.1⟩:bF),(⟨w.2.2.2.2.2.2.2.2.2.2.2.2.1⟩:bF),(⟨w.2.2.2.2.2.2.2.2.2.2.2.2.2.1⟩:bF),w.2.2.2.2.2.2.2.2.2.2.2.2.2.2.1,w.2.2.2.2.2.2.2.2.2.2.2.2.2.2.2.1⟩:dj),w.2.2.2.2.2.2.2.2.2.2.2.2.2.2.2.2.1,w.2.2.2.2.2.2.2.2.2.2.2.2.2.2.2.2.2.1⟩:km),w9)
def Yp (a:br):Option ab:=some (⟨a.Me,a.View,a.Has,a.At,a.Value,a.Proof⟩:ab)
def Fi (a:br)(view:Int):Option (br×ab×Bool):=bd (if view<=a.View then
  some true
  else
  some (decide ((100000:Int)<view)):Option Bool) λw=>
 if w then
 some (a,(⟨0,0,false,0,([]:List UInt8),([]:List aa)⟩:ab),false)
 else
 bd (Yp (⟨a.S,a.Me,view,a.Has,a.At,a.Value,a.Proof,(⟨([]:List aa)⟩:bF)⟩:br)) λrA=>
 some ((⟨a.S,a.Me,view,a.Has,a.At,a.Value,a.Proof,(⟨([]:List aa)⟩:bF)⟩:br),rA,true)
def IJ (sA:cu)(i:Int)(n:km)(view:Int):Option (km×(List eo)):=bd (Fi n.A view) λrA=>
 if !rA.2.2 then
 some (n,([]:List eo))
 else
 some ((⟨rA.1,n.L,([]:List ab),n.jy⟩:km),([(⟨4,0,0,([]:List UInt8),([]:List ab),(⟨0,0,([]:List UInt8)⟩:aa),([]:List aa),rA.2.1⟩:eo)]:List eo))
def yk (b:List Int)(y:Int)(st:Int×Int):Option ((Int×Int)⊕Int):=if st.2<=(eJ .i64 y) then
 ix b st.2 λy2=>
 some (.inl (eJ .u64 ((eJ .u64 (256 *st.1))+(eJ .u64 y2)),eJ .i64 (st.2+1)))
 else
 some (.inr st.1)
def DO (b:List Int):Option (Int×(List Int)×Int):=if (b.length:Int)=0 then
 some (0,([]:List Int),2)
 else
 ix b 0 λy=>
 bd (if (8:Int)<(eJ .i64 y) then
  some true
  else
  if (0:Int)<(eJ .i64 y) then
  if (1:Int)<(b.length:Int) then
  ix b 1 λy1=>
  some (decide (y1=0))
  else
  some false
  else
  some false:Option Bool) λw=>
 if w then
 some (0,([]:List Int),3)
 else
 if (b.length:Int)<(eJ .i64 (1+(eJ .i64 y))) then
 some (0,([]:List Int),2)
 else
 bd (Loop (yk b y) (0,1)) λw1=>
 if (0:Int)<=(eJ .i64 (1+(eJ .i64 y)))/\(eJ .i64 (1+(eJ .i64 y)))<=(b.length:Int)/\(b.length:Int)<=(b.length:Int) then
 some (w1,AI (sh (eJ .i64 (1+(eJ .i64 y)))) (AT (sh (b.length:Int)) b),0)
 else none
def z8 (b:List Int):Option (Int×(List Int)×Int):=bd (DO b) λrA=>
 if !decide (rA.2.2=0) then
 some (0,([]:List Int),rA.2.2)
 else
 if !decide ((2:Int)=0) then
 if (No rA.1 2)=1 then
 if !decide ((2:Int)=0) then
 some (eJ .i64 ((eJ .i64 (0-(eJ .i64 (eJ .u64 (Int.tdiv rA.1 2)))))-1),rA.2.1,0)
 else none
 else
 if !decide ((2:Int)=0) then
 some (eJ .i64 (eJ .u64 (Int.tdiv rA.1 2)),rA.2.1,0)
 else none
 else none
def r6 (many:Int)(st:(List Int)×(List Int)×Int):Option (((List Int)×(List Int)×Int)⊕(((List Int)×(List Int))⊕((List Int)×(List Int)×Bool))):=if st.2.2<many then
 bd (z8 st.1) λrA=>
 if !decide (rA.2.2=0) then
 some (.inr (.inr (([]:List Int),([]:List Int),false)))
 else
 if (st.2.1.length+([rA.1]:List Int).length) *8<=2^46 then
 some (.inl (rA.2.1,st.2.1++([rA.1]:List Int),eJ .i64 (st.2.2+1)))
 else none
 else
 some (.inr (.inl (st.1,st.2.1)))
def tz (b:List Int)(many:Int):Option ((List Int)×(List Int)×Bool):=bd (Loop (r6 many) (b,([]:List Int),0)) λw=>
 match w with
 | .inl p1=>some (p1.2,p1.1,true)
 | .inr p2=>some (p2.1,p2.2.1,p2.2.2)
def nC (b:List Int)(most:Int):Option ((List UInt8)×(List Int)×Int):=bd (DO b) λrA=>
 if !decide (rA.2.2=0) then
 some (([]:List UInt8),([]:List Int),rA.2.2)
 else
 if (eJ .u64 (imax most 0))<rA.1 then
 some (([]:List UInt8),([]:List Int),5)
 else
 if (eJ .u64 (rA.2.1.length:Int))<rA.1 then
 some (([]:List UInt8),([]:List Int),2)
 else
 if (0:Int)<=0/\(0:Int)<=rA.1/\rA.1<=(rA.2.1.length:Int) then
 NB (AI (sh 0) (AT (sh rA.1) rA.2.1)) λbs=>
 if (0:Int)<=rA.1/\rA.1<=(rA.2.1.length:Int)/\(rA.2.1.length:Int)<=(rA.2.1.length:Int) then
 some (bs,AI (sh rA.1) (AT (sh (rA.2.1.length:Int)) rA.2.1),0)
 else none
 else none
def s7 (bc:(List Int)×(List Int)×Bool)(bQ:(List Int)×(List Int)×Bool)(ct:(List UInt8)×(List Int)×Int)(st:(List aa)×Int):Option (((List aa)×Int)⊕(List aa)):=if st.2<(bc.1.length:Int) then
 ix bc.1 st.2 λy4=>
 ix bQ.1 0 λy5=>
 if (st.1.length+([(⟨y4,y5,ct.1⟩:aa)]:List aa).length) *32<=2^46 then
 some (.inl (st.1++([(⟨y4,y5,ct.1⟩:aa)]:List aa),eJ .i64 (st.2+1)))
 else none
 else
 some (.inr st.1)
def CE (a:List Int):Option ((List aa)×(List Int)×Bool):=bd (tz a 1) λrA=>
 bd (if !rA.2.2 then
  some true
  else
  ix rA.1 0 λy=>
  if y<0 then
  some true
  else
  ix rA.1 0 λy1=>
  some (decide ((100:Int)<y1)):Option Bool) λw=>
 if w then
 some (([]:List aa),([]:List Int),false)
 else
 ix rA.1 0 λy2=>
 if y2=0 then
 some (([]:List aa),rA.2.1,true)
 else
 ix rA.1 0 λy3=>
 bd (tz rA.2.1 y3) λbc=>
 if !bc.2.2 then
 some (([]:List aa),([]:List Int),false)
 else
 bd (tz bc.2.1 1) λbQ=>
 if !bQ.2.2 then
 some (([]:List aa),([]:List Int),false)
 else
 bd (nC bQ.2.1 6000) λct=>
 if !decide (ct.2.2=0) then
 some (([]:List aa),([]:List Int),false)
 else
 bd (Loop (s7 bc bQ ct) (([]:List aa),0)) λw1=>
 some (w1,ct.2.1,true)
def Aa (t:bF)(st:Int):Option (Int⊕(Unit⊕Bool)):=if st<(t.L.length:Int) then
 bd (ix t.L st λy=>
  bd (yh y) λrA=>
  if !rA then
  some true
  else
  if (0:Int)<st then
  ix t.L (eJ .i64 (st-1)) λy1=>
  ix t.L st λy2=>
  some (decide (y2.By<=y1.By))
  else
  some false:Option Bool) λw1=>
 if w1 then
 some (.inr (.inr false))
 else
 some (.inl (eJ .i64 (st+1)))
 else
 some (.inr (.inl ()))
def Bb (t:bF):Option Bool:=bd (Loop (Aa t) 0) λw=>
 match w with
 | .inl p1=>some true
 | .inr p2=>some p2
def r7 (a:br)(st:Int):Option (Int⊕(Unit⊕Bool)):=if st<(a.bV.L.length:Int) then
 bd (ix a.bV.L st λy1=>
  bd (yP a.S) λct=>
  if ct<=y1.By then
  some true
  else
  ix a.bV.L st λy2=>
  some (!decide (y2.View=a.View)):Option Bool) λw4=>
 if w4 then
 some (.inr (.inr false))
 else
 some (.inl (eJ .i64 (st+1)))
 else
 some (.inr (.inl ()))
def Bc (a:br):Option Bool:=bd (A7 a.S a.Me) λrA=>
 bd (if !decide (rA.2=0) then
  some true
  else
  if a.View<0 then
  some true
  else
  if (100000:Int)<a.View then
  some true
  else
  bd (Bb a.bV) λbc=>
  some (!bc):Option Bool) λw=>
 if w then
 some false
 else
 bd (if a.Has then
  if a.At<0 then
  some true
  else
  if a.View<a.At then
  some true
  else
  if (6000:Int)<(a.Value.length:Int) then
  some true
  else
  if !a.Has then
  if !decide (a.At=0) then
  some true
  else
  some (!decide (a.Value=([]:List UInt8)))
  else
  some false
  else
  if !a.Has then
  if !decide (a.At=0) then
  some true
  else
  some (!decide (a.Value=([]:List UInt8)))
  else
  some false:Option Bool) λw1=>
 if w1 then
 some false
 else
 bd (if (0:Int)<(a.Proof.length:Int) then
  bd (po a.S a.Proof) λbQ=>
  if !bQ then
  some true
  else
  ix a.Proof 0 λy=>
  some (decide (a.View<y.View))
  else
  some false:Option Bool) λw2=>
 if w2 then
 some false
 else
 bd (Loop (r7 a) 0) λw3=>
 match w3 with
 | .inl p1=>some true
 | .inr p2=>some p2
def IK (a:cu)(a1:Int)(a2:List Int):Option (br×Int):=bd (A7 a a1) λrA=>
 if !decide (rA.2=0) then
 some ((⟨(⟨0,0⟩:cu),0,0,false,0,([]:List UInt8),([]:List aa),(⟨([]:List aa)⟩:bF)⟩:br),rA.2)
 else
 bd (tz a2 3) λbc=>
 bd (if !bc.2.2 then
  some true
  else
  ix bc.1 1 λy=>
  if !decide (y=0) then
  ix bc.1 1 λy1=>
  some (!decide (y1=1))
  else
  some false:Option Bool) λw=>
 if w then
 some ((⟨(⟨0,0⟩:cu),0,0,false,0,([]:List UInt8),([]:List aa),(⟨([]:List aa)⟩:bF)⟩:br),3)
 else
 bd (nC bc.2.1 6000) λbQ=>
 if !decide (bQ.2.2=0) then
 some ((⟨(⟨0,0⟩:cu),0,0,false,0,([]:List UInt8),([]:List aa),(⟨([]:List aa)⟩:bF)⟩:br),3)
 else
 bd (CE bQ.2.1) λct=>
 bd (if !ct.2.2 then
  some true
  else
  some (decide ((0:Int)<(ct.2.1.length:Int))):Option Bool) λw1=>
 if w1 then
 some ((⟨(⟨0,0⟩:cu),0,0,false,0,([]:List UInt8),([]:List aa),(⟨([]:List aa)⟩:bF)⟩:br),3)
 else
 ix bc.1 0 λy2=>
 ix bc.1 1 λy3=>
 ix bc.1 2 λy4=>
 bd (Bc (⟨rA.1.S,rA.1.Me,y2,decide (y3=1),y4,bQ.1,ct.1,rA.1.bV⟩:br)) λgm=>
 if !gm then
 some ((⟨(⟨0,0⟩:cu),0,0,false,0,([]:List UInt8),([]:List aa),(⟨([]:List aa)⟩:bF)⟩:br),3)
 else
 some ((⟨rA.1.S,rA.1.Me,y2,decide (y3=1),y4,bQ.1,ct.1,rA.1.bV⟩:br),0)
def yl (st:Int×Int):Option ((Int×Int)⊕Int):=if (0:Int)<st.1 then
 if !decide ((256:Int)=0) then
 some (.inl (eJ .u64 (Int.tdiv st.1 256),eJ .i64 (st.2+1)))
 else none
 else
 some (.inr st.2)
def IL (n:Int):Option Int:=bd (Loop yl (n,1)) λw=>some w
def Bd (st:(List Int)×Int)(cR:Int×Int):Option ((Int×Int)⊕Int):=if cR.2<st.2 then
 if !decide ((256:Int)=0) then
 some (.inl (eJ .u64 (Int.tdiv cR.1 256),eJ .i64 (cR.2+1)))
 else none
 else
 some (.inr cR.1)
def Be (n:Int)(st:(List Int)×Int):Option (((List Int)×Int)⊕(List Int)):=if (0:Int)<=st.2 then
 bd (Loop (Bd st) (n,0)) λw1=>
 if !decide ((256:Int)=0) then
 if (st.1.length+([eJ .u8 (No w1 256)]:List Int).length) *1<=2^46 then
 some (.inl (st.1++([eJ .u8 (No w1 256)]:List Int),eJ .i64 (st.2-1)))
 else none
 else none
 else
 some (.inr st.1)
def DP (b:List Int)(n:Int):Option (List Int):=if (([]:List Int).length+b.length) *1<=2^46 then
 bd (IL n) λrA=>
 if ((([]:List Int)++b).length+([eJ .u8 (eJ .i64 (rA-1))]:List Int).length) *1<=2^46 then
 bd (Loop (Be n) ((([]:List Int)++b)++([eJ .u8 (eJ .i64 (rA-1))]:List Int),eJ .i64 ((eJ .i64 (rA-1))-1))) λw=>
 some w
 else none
 else none
def vE (b:List Int)(n:Int):Option (List Int):=if n<0 then
 bd (DP b (eJ .u64 ((eJ .u64 (2 *(eJ .u64 (eJ .i64 (0-(eJ .i64 (n+1)))))))+1))) λrA=>
 some rA
 else
 bd (DP b (eJ .u64 (2 *(eJ .u64 n)))) λbc=>
 some bc
def DQ (b:List Int)(sA:List UInt8):Option (List Int):=bd (DP b (eJ .u64 (sA.length:Int))) λrA=>
 if (rA.length+(Bu sA).length) *1<=2^46 then
 some (rA++(Bu sA))
 else none
def CF (a:br)(st:(List Int)×Int):Option (((List Int)×Int)⊕(List Int)):=if st.2<(a.Proof.length:Int) then
 ix a.Proof st.2 λy=>
 bd (vE st.1 y.By) λlz=>
 some (.inl (lz,eJ .i64 (st.2+1)))
 else
 some (.inr st.1)
def IM (a:br):Option (List Int):=bd (if a.Has then
  some 1
  else
  some 0:Option Int) λw=>
 bd (vE ([]:List Int) a.View) λrA=>
 bd (vE rA w) λbc=>
 bd (vE bc a.At) λbQ=>
 bd (DQ bQ a.Value) λct=>
 bd (vE ct (a.Proof.length:Int)) λgm=>
 bd (Loop (CF a) (gm,0)) λw1=>
 bd (if (0:Int)<(a.Proof.length:Int) then
  ix a.Proof 0 λy1=>
  bd (vE w1 y1.View) λqK=>
  ix a.Proof 0 λy2=>
  bd (DQ qK y2.Value) λzw=>
  some zw
  else
  some w1:Option (List Int)) λw2=>
 some w2
def Gi (sA:cu)(i:Int)(n:km):Option km:=bd (IM n.A) λrA=>
 bd (IK sA i rA) λbc=>
 bd (Hj sA) λbQ=>
 some (⟨bc.1,bQ.1,([]:List ab),bc.1.View⟩:km)
def iV (s1:List Bool)(s2:List Bool)(st:Int):Option (Int⊕(Unit⊕Bool)):=if st<(s1.length:Int) then
 ix s1 st λy=>
 ix s2 st λy1=>
 if !(decide (y=y1)) then
 some (.inr (.inr false))
 else
 some (.inl (eJ .i64 (st+1)))
 else
 some (.inr (.inl ()))
def kG (s1:List Bool)(s2:List Bool):Option Bool:=if !decide ((s1.length:Int)=(s2.length:Int)) then
 some false
 else
 bd (Loop (iV s1 s2) 0) λw=>
 match w with
 | .inl p1=>some true
 | .inr p2=>some p2
def gY (s1:List (List UInt8))(s2:List (List UInt8))(st:Int):Option (Int⊕(Unit⊕Bool)):=if st<(s1.length:Int) then
 ix s1 st λy=>
 ix s2 st λy1=>
 if !decide (y=y1) then
 some (.inr (.inr false))
 else
 some (.inl (eJ .i64 (st+1)))
 else
 some (.inr (.inl ()))
def iW (s1:List (List UInt8))(s2:List (List UInt8)):Option Bool:=if !decide ((s1.length:Int)=(s2.length:Int)) then
 some false
 else
 bd (Loop (gY s1 s2) 0) λw=>
 match w with
 | .inl p1=>some true
 | .inr p2=>some p2
def oo (a:ae)(b:ae):Option Bool:=bd (if ((decide (a.S.F=b.S.F))&&(decide (a.S.T=b.S.T))) then
  if a.Me=b.Me then
  if a.View=b.View then
  if a.Has=b.Has then
  if a.At=b.At then
  some (decide (a.Value=b.Value))
  else
  some false
  else
  some false
  else
  some false
  else
  some false
  else
  some false:Option Bool) λw=>
 bd (if w then
  bd (iT a.Proof b.Proof) λrA=>
  if rA then
  bd (iT a.bV.L b.bV.L) λbc=>
  some bc
  else
  some false
  else
  some false:Option Bool) λw1=>
 some w1
def qc (a:ar)(b:ar):Option Bool:=bd (if ((decide (a.S.F=b.S.F))&&(decide (a.S.T=b.S.T))) then
  if a.cq=b.cq then
  some (decide (a.Value=b.Value))
  else
  some false
  else
  some false:Option Bool) λw=>
 bd (if w then
  bd (iT a.bj.L b.bj.L) λrA=>
  if rA then
  bd (iT a.bp.L b.bp.L) λbc=>
  if bc then
  bd (iT a.Told.L b.Told.L) λbQ=>
  some bQ
  else
  some false
  else
  some false
  else
  some false:Option Bool) λw1=>
 some w1
def lQ (n:aq)(x:aq):Option Bool:=bd (bd (oo n.A x.A) λrA=>
  if rA then
  bd (qc n.L x.L) λbc=>
  if bc then
  bd (gX n.df x.df) λbQ=>
  if bQ then
  some (decide (n.jy=x.jy))
  else
  some false
  else
  some false
  else
  some false:Option Bool) λw=>
 some w
def gZ (sA:List ab):Option (List ab):=if (sA.length:Int)=(sA.length:Int)/\(sA.length:Int)=(sA.length:Int) then
 some sA
 else none
def nD (m:al)(x:al):Option Bool:=bd (if m.Kind=x.Kind then
  if m.eQ=x.eQ then
  if m.View=x.View then
  if m.Value=x.Value then
  some ((decide (m.cf.By=x.cf.By))&&((decide (m.cf.View=x.cf.View))&&(decide (m.cf.Value=x.cf.Value))))
  else
  some false
  else
  some false
  else
  some false
  else
  some false:Option Bool) λw=>
 bd (if w then
  bd (gZ m.dP) λrA=>
  if 0<([m.R]:List ab).length/\(rA.length+([m.R]:List ab).length) *72<=2^46 then
  bd (gZ x.dP) λbc=>
  if 0<([x.R]:List ab).length/\(bc.length+([x.R]:List ab).length) *72<=2^46 then
  bd (gX (rA++([m.R]:List ab)) (bc++([x.R]:List ab))) λbQ=>
  if bQ then
  bd (iT m.Proof x.Proof) λct=>
  some ct
  else
  some false
  else none
  else none
  else
  some false:Option Bool) λw1=>
 some w1
def bW (s1:List aq)(s2:List aq)(eq:aq->aq->Option Bool)(st:Int):Option (Int⊕(Unit⊕Bool)):=if st<(s1.length:Int) then
 ix s1 st λy=>
 ix s2 st λy1=>
 bd (eq y y1) λrA=>
 if !rA then
 some (.inr (.inr false))
 else
 some (.inl (eJ .i64 (st+1)))
 else
 some (.inr (.inl ()))
def bZ (s1:List aq)(s2:List aq)(eq:aq->aq->Option Bool):Option Bool:=if !decide ((s1.length:Int)=(s2.length:Int)) then
 some false
 else
 bd (Loop (bW s1 s2 eq) 0) λw=>
 match w with
 | .inl p1=>some true
 | .inr p2=>some p2
def b8 (s1:List al)(s2:List al)(eq:al->al->Option Bool)(st:Int):Option (Int⊕(Unit⊕Bool)):=if st<(s1.length:Int) then
 ix s1 st λy=>
 ix s2 st λy1=>
 bd (eq y y1) λrA=>
 if !rA then
 some (.inr (.inr false))
 else
 some (.inl (eJ .i64 (st+1)))
 else
 some (.inr (.inl ()))
def cn (s1:List al)(s2:List al)(eq:al->al->Option Bool):Option Bool:=if !decide ((s1.length:Int)=(s2.length:Int)) then
 some false
 else
 bd (Loop (b8 s1 s2 eq) 0) λw=>
 match w with
 | .inl p1=>some true
 | .inr p2=>some p2
def lR (a:au)(b:au):Option Bool:=bd (if !((decide (a.S.F=b.S.F))&&(decide (a.S.T=b.S.T))) then
  some true
  else
  bd (kG a.cQ b.cQ) λrA=>
  if !rA then
  some true
  else
  bd (iW a.Want b.Want) λbc=>
  some (!bc):Option Bool) λw=>
 if w then
 some false
 else
 bd (bd (bZ a.N b.N lQ) λbQ=>
  if bQ then
  bd (cn a.bg b.bg nD) λct=>
  some ct
  else
  some false:Option Bool) λw1=>
 some w1
def fg (lA:List al)(st:Int×Int×Int×(List Bool)×(List (List UInt8))×(List aq)×(List al)):Option ((Int×Int×Int×(List Bool)×(List (List UInt8))×(List aq)×(List al))⊕(Int×Int×(List Bool)×(List (List UInt8))×(List aq)×(List al))):=if st.1<(lA.length:Int) then
 ix lA st.1 λy=>
 bd (if (st.2.2.2.2.2.2.length:Int)<400 then
  bd (gq st.2.2.2.2.2.2) λrA=>
  if 0<([y]:List al).length/\(rA.length+([y]:List al).length) *192<=2^46 then
  some (st.2.1,st.2.2.1,st.2.2.2.1,st.2.2.2.2.1,st.2.2.2.2.2.1,rA++([y]:List al))
  else none
  else
  some (st.2.1,st.2.2.1,st.2.2.2.1,st.2.2.2.2.1,st.2.2.2.2.2.1,st.2.2.2.2.2.2):Option (Int×Int×(List Bool)×(List (List UInt8))×(List aq)×(List al))) λw1=>
 some (.inl (eJ .i64 (st.1+1),w1.1,w1.2.1,w1.2.2.1,w1.2.2.2.1,w1.2.2.2.2.1,w1.2.2.2.2.2))
 else
 some (.inr (st.2.1,st.2.2.1,st.2.2.2.1,st.2.2.2.2.1,st.2.2.2.2.2.1,st.2.2.2.2.2.2))
def hM (c:au)(lA:List al):Option (Unit×au):=bd (Loop (fg lA) (0,c.S.F,c.S.T,c.cQ,c.Want,c.N,c.bg)) λw=>some ((),(⟨(⟨w.1,w.2.1⟩:af),w.2.2.1,w.2.2.2.1,w.2.2.2.2.1,w.2.2.2.2.2⟩:au))
def gE (c:au)(i:Int)(n:aq)(said:List al):Option (Unit×au):=ix c.N i λy=>
 bd (hM (⟨c.S,c.cQ,c.Want,c.N.set (sh i) n,c.bg⟩:au) said) λrA=>
 some ((),rA.2)
def jN (c:au)(i:Int)(m:al):Option (Unit×au):=ix c.N i λy=>
 bd (dZ c.S i y m) λrA=>
 bd (gE c i rA.1 rA.2) λbc=>
 some ((),bc.2)
def oP (c:au)(i:Int)(view:Int):Option (Unit×au):=ix c.N i λy=>
 bd (pk c.S i y view) λrA=>
 bd (gE c i rA.1 rA.2) λbc=>
 some ((),bc.2)
def mZ (c:au)(i:Int):Option (Unit×au):=ix c.N i λy=>
 ix c.Want i λy1=>
 bd (iU c.S i y y1) λrA=>
 bd (gE c i rA.1 rA.2) λbc=>
 some ((),bc.2)
def yQ (lA:List al)(st:Int×Int×Int×(List Bool)×(List (List UInt8))×(List aq)×(List al)):Option ((Int×Int×Int×(List Bool)×(List (List UInt8))×(List aq)×(List al))⊕(Int×Int×(List Bool)×(List (List UInt8))×(List aq)×(List al))):=if st.1<(lA.length:Int) then
 ix lA st.1 λy=>
 bd (if (st.2.2.2.2.2.2.length:Int)<400 then
  bd (gq st.2.2.2.2.2.2) λrA=>
  if 0<([y]:List al).length/\(rA.length+([y]:List al).length) *192<=2^46 then
  some (st.2.1,st.2.2.1,st.2.2.2.1,st.2.2.2.2.1,st.2.2.2.2.2.1,rA++([y]:List al))
  else none
  else
  some (st.2.1,st.2.2.1,st.2.2.2.1,st.2.2.2.2.1,st.2.2.2.2.2.1,st.2.2.2.2.2.2):Option (Int×Int×(List Bool)×(List (List UInt8))×(List aq)×(List al))) λw1=>
 some (.inl (eJ .i64 (st.1+1),w1.1,w1.2.1,w1.2.2.1,w1.2.2.2.1,w1.2.2.2.2.1,w1.2.2.2.2.2))
 else
 some (.inr (st.2.1,st.2.2.1,st.2.2.2.1,st.2.2.2.2.1,st.2.2.2.2.2.1,st.2.2.2.2.2.2))
def oq (c:au)(lA:List al):Option (Unit×au):=bd (Loop (yQ lA) (0,c.S.F,c.S.T,c.cQ,c.Want,c.N,c.bg)) λw=>some ((),(⟨(⟨w.1,w.2.1⟩:af),w.2.2.1,w.2.2.2.1,w.2.2.2.2.1,w.2.2.2.2.2⟩:au))
def gu (a:au)(a1:dy):Option au:=if a1.Kind=3 then
 bd (mV a a1.M) λrA=>
 bd (if rA then
  bd (oq a ([a1.M]:List al)) λbc=>
  some (bc.2.S.F,bc.2.S.T,bc.2.cQ,bc.2.Want,bc.2.N,bc.2.bg)
  else
  some (a.S.F,a.S.T,a.cQ,a.Want,a.N,a.bg):Option (Int×Int×(List Bool)×(List (List UInt8))×(List aq)×(List al))) λw=>
 some (⟨(⟨w.1,w.2.1⟩:af),w.2.2.1,w.2.2.2.1,w.2.2.2.2.1,w.2.2.2.2.2⟩:au)
 else
 bd (dY a a1.I false) λbQ=>
 if !bQ then
 some a
 else
 bd (yd 256 a.N) λct=>
 bd (if a1.Kind=0 then
  bd (if (0:Int)<=a1.J then
   some (decide (a1.J<(a.bg.length:Int)))
   else
   some false:Option Bool) λw2=>
  bd (if w2 then
   ix a.bg a1.J λy=>
   bd (jN (⟨a.S,a.cQ,a.Want,ct,a.bg⟩:au) a1.I y) λgm=>
   some (gm.2.S.F,gm.2.S.T,gm.2.cQ,gm.2.Want,gm.2.N,gm.2.bg)
   else
   some (a.S.F,a.S.T,a.cQ,a.Want,ct,a.bg):Option (Int×Int×(List Bool)×(List (List UInt8))×(List aq)×(List al))) λw3=>
  some w3
  else
  bd (if a1.Kind=1 then
   ix ct a1.I λy1=>
   bd (oP (⟨a.S,a.cQ,a.Want,ct,a.bg⟩:au) a1.I (eJ .i64 (y1.A.View+1))) λlz=>
   some (lz.2.S.F,lz.2.S.T,lz.2.cQ,lz.2.Want,lz.2.N,lz.2.bg)
   else
   bd (if a1.Kind=2 then
    bd (mZ (⟨a.S,a.cQ,a.Want,ct,a.bg⟩:au) a1.I) λqK=>
    some (qK.2.S.F,qK.2.S.T,qK.2.cQ,qK.2.Want,qK.2.N,qK.2.bg)
    else
    bd (if a1.Kind=4 then
     ix ct a1.I λy2=>
     bd (nz a.S a1.I y2) λzw=>
     ix ct a1.I λy3=>
     some (a.S.F,a.S.T,a.cQ,a.Want,ct.set (sh a1.I) zw,a.bg)
     else
     some (a.S.F,a.S.T,a.cQ,a.Want,ct,a.bg):Option (Int×Int×(List Bool)×(List (List UInt8))×(List aq)×(List al))) λw6=>
    some w6:Option (Int×Int×(List Bool)×(List (List UInt8))×(List aq)×(List al))) λw5=>
   some w5:Option (Int×Int×(List Bool)×(List (List UInt8))×(List aq)×(List al))) λw4=>
  some w4:Option (Int×Int×(List Bool)×(List (List UInt8))×(List aq)×(List al))) λw1=>
 some (⟨(⟨w1.1,w1.2.1⟩:af),w1.2.2.1,w1.2.2.2.1,w1.2.2.2.2.1,w1.2.2.2.2.2⟩:au)
def vF (st:Int×Int×(List Bool)×(List (List UInt8))×(List aq)×(List al)×Int):Option ((Int×Int×(List Bool)×(List (List UInt8))×(List aq)×(List al)×Int)⊕(Int×Int×(List Bool)×(List (List UInt8))×(List aq)×(List al))):=if st.2.2.2.2.2.2<4 then
 bd (gu (⟨(⟨st.1,st.2.1⟩:af),st.2.2.1,st.2.2.2.1,st.2.2.2.2.1,st.2.2.2.2.2.1⟩:au) (⟨0,st.2.2.2.2.2.2,0,(⟨0,0,0,([]:List UInt8),([]:List ab),(⟨0,0,([]:List UInt8)⟩:aa),([]:List aa),(⟨0,0,false,0,([]:List UInt8),([]:List aa)⟩:ab)⟩:al)⟩:dy)) λbQ=>
 some (.inl (bQ.S.F,bQ.S.T,bQ.cQ,bQ.Want,bQ.N,bQ.bg,eJ .i64 (st.2.2.2.2.2.2+1)))
 else
 some (.inr (st.1,st.2.1,st.2.2.1,st.2.2.2.1,st.2.2.2.2.1,st.2.2.2.2.2.1))
def vG (cR:Int×Int×(List Bool)×(List (List UInt8))×(List aq)×(List al)×Int):Option ((Int×Int×(List Bool)×(List (List UInt8))×(List aq)×(List al)×Int)⊕(Int×Int×(List Bool)×(List (List UInt8))×(List aq)×(List al))):=if cR.2.2.2.2.2.2<5 then
 bd (gu (⟨(⟨cR.1,cR.2.1⟩:af),cR.2.2.1,cR.2.2.2.1,cR.2.2.2.2.1,cR.2.2.2.2.2.1⟩:au) (⟨0,2,cR.2.2.2.2.2.2,(⟨0,0,0,([]:List UInt8),([]:List ab),(⟨0,0,([]:List UInt8)⟩:aa),([]:List aa),(⟨0,0,false,0,([]:List UInt8),([]:List aa)⟩:ab)⟩:al)⟩:dy)) λct=>
 some (.inl (ct.S.F,ct.S.T,ct.cQ,ct.Want,ct.N,ct.bg,eJ .i64 (cR.2.2.2.2.2.2+1)))
 else
 some (.inr (cR.1,cR.2.1,cR.2.2.1,cR.2.2.2.1,cR.2.2.2.2.1,cR.2.2.2.2.2.1))
def q8:Option Bool:=if (0:Int)<=4/\(4:Int)=4/\(4:Int) *1<=2^46 then
 bd (ud (⟨1,0⟩:af) (IS (sh 4) false) ([([97]:List UInt8),([98]:List UInt8),([99]:List UInt8),([100]:List UInt8)]:List (List UInt8))) λrA=>
 bd (gu rA.1 (⟨2,0,0,(⟨0,0,0,([]:List UInt8),([]:List ab),(⟨0,0,([]:List UInt8)⟩:aa),([]:List aa),(⟨0,0,false,0,([]:List UInt8),([]:List aa)⟩:ab)⟩:al)⟩:dy)) λbc=>
 bd (Loop vF (bc.S.F,bc.S.T,bc.cQ,bc.Want,bc.N,bc.bg,0)) λw=>
 bd (Loop vG (w.1,w.2.1,w.2.2.1,w.2.2.2.1,w.2.2.2.2.1,w.2.2.2.2.2,1)) λw1=>
 bd (jL (⟨(⟨w1.1,w1.2.1⟩:af),w1.2.2.1,w1.2.2.2.1,w1.2.2.2.2.1,w1.2.2.2.2.2⟩:au) 2) λgm=>
 bd (jL (⟨(⟨w1.1,w1.2.1⟩:af),w1.2.2.1,w1.2.2.2.1,w1.2.2.2.2.1,w1.2.2.2.2.2⟩:au) 1) λlz=>
 bd (if rA.2=0 then
  if gm.2 then
  if gm.1=([97]:List UInt8) then
  some (!lz.2)
  else
  some false
  else
  some false
  else
  some false:Option Bool) λw2=>
 some w2
 else none
def rz (a:jg)(a1:List dy)(st:Int×Int×(List Bool)×(List (List UInt8))×(List aq)×(List al)×Int):Option ((Int×Int×(List Bool)×(List (List UInt8))×(List aq)×(List al)×Int)⊕((Int×Int×(List Bool)×(List (List UInt8))×(List aq)×(List al))⊕Bool)):=if st.2.2.2.2.2.2<(a1.length:Int) then
 ix a1 st.2.2.2.2.2.2 λy=>
 bd (gu (⟨(⟨st.1,st.2.1⟩:af),st.2.2.1,st.2.2.2.1,st.2.2.2.2.1,st.2.2.2.2.2.1⟩:au) y) λgm=>
 bd (if y.I<0 then
  some true
  else
  if (a.cQ.length:Int)<=y.I then
  some true
  else
  ix a.cQ y.I λy1=>
  some y1:Option Bool) λw1=>
 bd (if y.Kind=3 then
  bd (mV (⟨(⟨st.1,st.2.1⟩:af),st.2.2.1,st.2.2.2.1,st.2.2.2.2.1,st.2.2.2.2.2.1⟩:au) y.M) λlz=>
  if !lz then
  bd (lR (⟨(⟨st.1,st.2.1⟩:af),st.2.2.1,st.2.2.2.1,st.2.2.2.2.1,st.2.2.2.2.2.1⟩:au) gm) λqK=>
  some (!qK)
  else
  if !decide (y.Kind=3) then
  if w1 then
  bd (lR (⟨(⟨st.1,st.2.1⟩:af),st.2.2.1,st.2.2.2.1,st.2.2.2.2.1,st.2.2.2.2.2.1⟩:au) gm) λzw=>
  some (!zw)
  else
  some false
  else
  some false
  else
  if !decide (y.Kind=3) then
  if w1 then
  bd (lR (⟨(⟨st.1,st.2.1⟩:af),st.2.2.1,st.2.2.2.1,st.2.2.2.2.1,st.2.2.2.2.2.1⟩:au) gm) λTG=>
  some (!TG)
  else
  some false
  else
  some false:Option Bool) λw2=>
 if w2 then
 some (.inr (.inr false))
 else
 bd (if (gm.bg.length:Int)<(st.2.2.2.2.2.1.length:Int) then
  some true
  else
  some (decide ((400:Int)<(gm.bg.length:Int))):Option Bool) λw3=>
 if w3 then
 some (.inr (.inr false))
 else
 some (.inl (gm.S.F,gm.S.T,gm.cQ,gm.Want,gm.N,gm.bg,eJ .i64 (st.2.2.2.2.2.2+1)))
 else
 some (.inr (.inl (st.1,st.2.1,st.2.2.1,st.2.2.2.1,st.2.2.2.2.1,st.2.2.2.2.2.1)))
def ot (a:jg)(p1:Int×Int×(List Bool)×(List (List UInt8))×(List aq)×(List al))(cR:Int)(dV:Int):Option (Int⊕(Unit⊕Bool)):=if dV<cR then
 ix p1.2.2.2.2.2 cR λy2=>
 ix p1.2.2.2.2.2 dV λy3=>
 bd (if y2.Kind=2 then
  if y3.Kind=2 then
  if y2.cf.By=y3.cf.By then
  if y2.cf.View=y3.cf.View then
  some (!decide (y2.cf.Value=y3.cf.Value))
  else
  some false
  else
  some false
  else
  some false
  else
  some false:Option Bool) λw6=>
 bd (if w6 then
  if y2.cf.By<0 then
  some true
  else
  if (a.cQ.length:Int)<=y2.cf.By then
  some true
  else
  ix a.cQ y2.cf.By λy4=>
  some (!y4)
  else
  some false:Option Bool) λw7=>
 if w7 then
 some (.inr (.inr false))
 else
 some (.inl (eJ .i64 (dV+1)))
 else
 some (.inr (.inl ()))
def ou (a:jg)(p1:Int×Int×(List Bool)×(List (List UInt8))×(List aq)×(List al))(cR:Int):Option (Int⊕(Unit⊕Bool)):=if cR<(p1.2.2.2.2.2.length:Int) then
 bd (Loop (ot a p1 cR) 0) λw5=>
 match w5 with
 | .inl p5=>some (.inl (eJ .i64 (cR+1)))
 | .inr p6=>some (.inr (.inr p6))
 else
 some (.inr (.inl ()))
def vH (a:jg)(a1:List dy):Option Bool:=bd (xb a a1) λrA=>
 if !rA then
 bd (q8) λbc=>
 some bc
 else
 bd (ud a.S a.cQ a.Want) λbQ=>
 if !decide (bQ.2=0) then
 bd (q8) λct=>
 some ct
 else
 bd (Loop (rz a a1) (bQ.1.S.F,bQ.1.S.T,bQ.1.cQ,bQ.1.Want,bQ.1.N,bQ.1.bg,0)) λw=>
 match w with
 | .inl p1=>
  bd (Loop (ou a p1) 0) λw4=>
  match w4 with
  | .inl p7=>
   bd (q8) λYl=>
   some Yl
  | .inr p8=>some p8
 | .inr p2=>some p2
end
end Dn.S
