import Derived.Test.YtmdlghpieagfhaaGreatDnD
import Derived.Test.YtmdlghpieagfhaaGreatDnC
/-
  The functions, on typed values. Conditions: none.
-/
open Go Dn
set_option linter.unusedVariables false
set_option linter.unusedSimpArgs false
set_option maxRecDepth 100000
namespace Dn.S
structure af where
 F:Int
 T:Int
deriving DecidableEq
@[reducible] def Eh (x : af) : List MV := [.i .i64 x.F, .i .i64 x.T]
@[reducible] def bu (x : af) : MV := .agg (Eh x)
structure gz where
 S:af
 cV:List Bool
 Want:List (List UInt8)
deriving DecidableEq
@[reducible] def O6 (x : gz) : List MV := [.i .i64 x.S.F, .i .i64 x.S.T, .list (x.cV.map MV.b), .list (x.Want.map MV.s)]
@[reducible] def yH (x : gz) : MV := .agg (O6 x)
structure aa where
 By:Int
 View:Int
 Value:List UInt8
deriving DecidableEq
@[reducible] def B6 (x : aa) : List MV := [.i .i64 x.By, .i .i64 x.View, .s x.Value]
@[reducible] def ai (x : aa) : MV := .agg (B6 x)
structure ab where
 By:Int
 mc:Int
 Has:Bool
 View:Int
 Value:List UInt8
 Proof:List aa
deriving DecidableEq
@[reducible] def J7 (x : ab) : List MV := [.i .i64 x.By, .i .i64 x.mc, .b x.Has, .i .i64 x.View, .s x.Value, .list (x.Proof.map ai)]
@[reducible] def aJ (x : ab) : MV := .agg (J7 x)
structure al where
 Kind:Int
 gh:Int
 View:Int
 Value:List UInt8
 fE:List ab
 oW:aa
 Proof:List aa
 R:ab
deriving DecidableEq
@[reducible] def O7 (x : al) : List MV := [.i .i64 x.Kind, .i .i64 x.gh, .i .i64 x.View, .s x.Value, .list (x.fE.map aJ), .i .i64 x.oW.By, .i .i64 x.oW.View, .s x.oW.Value, .list (x.Proof.map ai), .i .i64 x.R.By, .i .i64 x.R.mc, .b x.R.Has, .i .i64 x.R.View, .s x.R.Value, .list (x.R.Proof.map ai)]
@[reducible] def aX (x : al) : MV := .agg (O7 x)
structure dv where
 Kind:Int
 I:Int
 J:Int
 M:al
deriving DecidableEq
@[reducible] def O8 (x : dv) : List MV := [.i .i64 x.Kind, .i .i64 x.I, .i .i64 x.J, .i .i64 x.M.Kind, .i .i64 x.M.gh, .i .i64 x.M.View, .s x.M.Value, .list (x.M.fE.map aJ), .i .i64 x.M.oW.By, .i .i64 x.M.oW.View, .s x.M.oW.Value, .list (x.M.Proof.map ai), .i .i64 x.M.R.By, .i .i64 x.M.R.mc, .b x.M.R.Has, .i .i64 x.M.R.View, .s x.M.R.Value, .list (x.M.R.Proof.map ai)]
@[reducible] def yI (x : dv) : MV := .agg (O8 x)
structure ay where
 L:List aa
deriving DecidableEq
@[reducible] def zY (x : ay) : List MV := [.list (x.L.map ai)]
@[reducible] def fL (x : ay) : MV := .agg (zY x)
structure ao where
 S:af
 Me:Int
 View:Int
 Has:Bool
 At:Int
 Value:List UInt8
 Proof:List aa
 cP:ay
deriving DecidableEq
@[reducible] def yJ (x : ao) : List MV := [.i .i64 x.S.F, .i .i64 x.S.T, .i .i64 x.Me, .i .i64 x.View, .b x.Has, .i .i64 x.At, .s x.Value, .list (x.Proof.map ai), .list (x.cP.L.map ai)]
@[reducible] def bY (x : ao) : MV := .agg (yJ x)
structure ar where
 S:af
 aZ:ay
 bA:ay
 Told:ay
 ch:Bool
 Value:List UInt8
deriving DecidableEq
@[reducible] def eP (x : ar) : List MV := [.i .i64 x.S.F, .i .i64 x.S.T, .list (x.aZ.L.map ai), .list (x.bA.L.map ai), .list (x.Told.L.map ai), .b x.ch, .s x.Value]
@[reducible] def cL (x : ar) : MV := .agg (eP x)
structure au where
 A:ao
 L:ar
 iX:List ab
 mE:Int
deriving DecidableEq
@[reducible] def yK (x : au) : List MV := [.i .i64 x.A.S.F, .i .i64 x.A.S.T, .i .i64 x.A.Me, .i .i64 x.A.View, .b x.A.Has, .i .i64 x.A.At, .s x.A.Value, .list (x.A.Proof.map ai), .list (x.A.cP.L.map ai), .i .i64 x.L.S.F, .i .i64 x.L.S.T, .list (x.L.aZ.L.map ai), .list (x.L.bA.L.map ai), .list (x.L.Told.L.map ai), .b x.L.ch, .s x.L.Value, .list (x.iX.map aJ), .i .i64 x.mE]
@[reducible] def ba (x : au) : MV := .agg (yK x)
structure aw where
 S:af
 cV:List Bool
 Want:List (List UInt8)
 N:List au
 bF:List al
deriving DecidableEq
@[reducible] def dz (x : aw) : List MV := [.i .i64 x.S.F, .i .i64 x.S.T, .list (x.cV.map MV.b), .list (x.Want.map MV.s), .list (x.N.map ba), .list (x.bF.map aX)]
@[reducible] def gD (x : aw) : MV := .agg (dz x)
structure bC where
 b:List Int
 e:Int
deriving DecidableEq
@[reducible] def dH (x : bC) : List MV := [.list (x.b.map (MV.i .u8)), .i .i64 x.e]
structure cM where
 F:Int
 T:Int
deriving DecidableEq
structure bS where
 L:List aa
deriving DecidableEq
structure dA where
 S:cM
 Me:Int
 View:Int
 Has:Bool
 At:Int
 Value:List UInt8
 Proof:List aa
 cP:bS
deriving DecidableEq
structure cC where
 S:cM
 aZ:bS
 bA:bS
 Told:bS
 ch:Bool
 Value:List UInt8
deriving DecidableEq
structure ol where
 A:dA
 L:cC
 iX:List ab
 mE:Int
deriving DecidableEq
structure eg where
 Kind:Int
 gh:Int
 View:Int
 Value:List UInt8
 fE:List ab
 oW:aa
 Proof:List aa
 R:ab
deriving DecidableEq
noncomputable def rL (a:gz) (st:Int):Option (Int⊕(Unit⊕Bool)):=
 if st<(a.Want.length:Int) then
 ix a.Want st fun y=>
 if (200:Int)<(y.length:Int) then
 some (.inr (.inr false))
 else
 some (.inl (IntKind.wrap .i64 (st+1)))
 else
 some (.inr (.inl ()))
noncomputable def oX (y1:dv) (cS:Int):Option (Int⊕(Unit⊕Bool)):=
 if cS<(y1.M.fE.length:Int) then
 ix y1.M.fE cS fun y2=>
 if (30:Int)<(y2.Proof.length:Int) then
 some (.inr (.inr false))
 else
 some (.inl (IntKind.wrap .i64 (cS+1)))
 else
 some (.inr (.inl ()))
noncomputable def oY (a1:List dv) (ca:Int):Option (Int⊕(Unit⊕Bool)):=
 if ca<(a1.length:Int) then
 ix a1 ca fun y1=>
 bd (
  if (200:Int)<(y1.M.Value.length:Int) then
  some true
  else
  if (200:Int)<(y1.M.oW.Value.length:Int) then
  some true
  else
  if (30:Int)<(y1.M.Proof.length:Int) then
  some true
  else
  if (30:Int)<(y1.M.fE.length:Int) then
  some true
  else
  if (200:Int)<(y1.M.R.Value.length:Int) then
  some true
  else
  some (decide ((30:Int)<(y1.M.R.Proof.length:Int))):Option Bool) fun w3=>
 if w3 then
 some (.inr (.inr false))
 else
 bd (Loop (oX y1) 0) fun w4=>
 match w4 with
 | .inl p5=>
  some (.inl (IntKind.wrap .i64 (ca+1)))
 | .inr p6=>
  some (.inr (.inr p6))
 else
 some (.inr (.inl ()))
noncomputable def sY (a:gz) (a1:List dv):Option Bool:=
 bd (
  if (2:Int)<a.S.F then
  some true
  else
  if (30:Int)<(a.cV.length:Int) then
  some true
  else
  if (30:Int)<(a.Want.length:Int) then
  some true
  else
  some (decide ((80:Int)<(a1.length:Int))):Option Bool) fun w=>
 if w then
 some false
 else
 bd (Loop (rL a) 0) fun w1=>
 match w1 with
 | .inl p1=>
  bd (Loop (oY a1) 0) fun w2=>
  match w2 with
  | .inl p7=>
   some true
  | .inr p8=>
   some p8
 | .inr p2=>
  some p2
noncomputable def sd (sA:af):Option (Nat×Nat):=
 some (FloatKind.nearest .f64 sA.F,FloatKind.nearest .f64 sA.T)
noncomputable def iY (sA:af) (times:Nat×Nat):Option Int:=
 bd (sd sA) fun rA=>
 bd (FloatKind.f64.format.mul rA.1 times.1) fun f=>
 bd (FloatKind.f64.format.mul rA.2 times.2) fun f1=>
 bd (FloatKind.f64.format.add f f1) fun f2=>
 bd ((FloatKind.decode .f64 f2).toInt .zero) fun n=>
 if IntKind.min .i64≤n∧n≤IntKind.max .i64 then
 some (IntKind.wrap .i64 (n+1))
 else none
noncomputable def mf (sA:af):Option Int:=
 bd (iY sA (4613937818241073152,4611686018427387904)) fun rA=>
 some rA
noncomputable def hU (sA:af):Option Bool:=
 bd (
  if (1:Int)≤sA.F then
  if sA.F≤5 then
  if (0:Int)≤sA.T then
  some (decide (sA.T≤sA.F))
  else
  some false
  else
  some false
  else
  some false:Option Bool) fun w=>
 some w
noncomputable def kV (sA:af) (me:Int):Option (ao×Int):=
 bd (
  bd (hU sA) fun rA=>
  if !rA then
  some true
  else
  if me<0 then
  some true
  else
  bd (mf sA) fun aY=>
  some (decide (aY≤me)):Option Bool) fun w=>
 if w then
 some ((⟨(⟨0,0⟩:af),0,0,false,0,([]:List UInt8),([]:List aa),(⟨([]:List aa)⟩:ay)⟩:ao),1)
 else
 some ((⟨sA,me,0,false,0,([]:List UInt8),([]:List aa),(⟨([]:List aa)⟩:ay)⟩:ao),0)
noncomputable def mq (sA:af):Option (ar×Int):=
 bd (hU sA) fun rA=>
 if !rA then
 some ((⟨(⟨0,0⟩:af),(⟨([]:List aa)⟩:ay),(⟨([]:List aa)⟩:ay),(⟨([]:List aa)⟩:ay),false,([]:List UInt8)⟩:ar),1)
 else
 some ((⟨sA,(⟨([]:List aa)⟩:ay),(⟨([]:List aa)⟩:ay),(⟨([]:List aa)⟩:ay),false,([]:List UInt8)⟩:ar),0)
noncomputable def qH (sA:af) (i:Int):Option (au×Int):=
 bd (kV sA i) fun rA=>
 if !decide (rA.2=0) then
 some ((⟨(⟨(⟨0,0⟩:af),0,0,false,0,([]:List UInt8),([]:List aa),(⟨([]:List aa)⟩:ay)⟩:ao),(⟨(⟨0,0⟩:af),(⟨([]:List aa)⟩:ay),(⟨([]:List aa)⟩:ay),(⟨([]:List aa)⟩:ay),false,([]:List UInt8)⟩:ar),([]:List ab),0⟩:au),rA.2)
 else
 bd (mq sA) fun aY=>
 some ((⟨rA.1,aY.1,([]:List ab),(-1)⟩:au),aY.2)
noncomputable def yL (a:af) (a1:List Bool) (a2:List (List UInt8)) (st:Int×Int×(List Bool)×(List (List UInt8))×(List au)×(List al)×Int×Int×(List Bool)×(List (List UInt8))×(List au)×(List al)×Int×Int):Option ((Int×Int×(List Bool)×(List (List UInt8))×(List au)×(List al)×Int×Int×(List Bool)×(List (List UInt8))×(List au)×(List al)×Int×Int)⊕((Int×Int×(List Bool)×(List (List UInt8))×(List au)×(List al)×Int×Int×(List Bool)×(List (List UInt8))×(List au)×(List al))⊕(Int×Int×(List Bool)×(List (List UInt8))×(List au)×(List al)×Int))):=
 if st.2.2.2.2.2.2.2.2.2.2.2.2.2<(a1.length:Int) then
 ix a1 st.2.2.2.2.2.2.2.2.2.2.2.2.2 fun y=>
 bd (
  if y then
  some (IntKind.wrap .i64 (st.2.2.2.2.2.2.2.2.2.2.2.2.1-1))
  else
  some st.2.2.2.2.2.2.2.2.2.2.2.2.1:Option Int) fun w2=>
 bd (
  ix a2 st.2.2.2.2.2.2.2.2.2.2.2.2.2 fun y1=>
  if (6000:Int)<(y1.length:Int) then
  some true
  else
  some (decide (w2<0)):Option Bool) fun w3=>
 if w3 then
 some (.inr (.inr (0,0,([]:List Bool),([]:List (List UInt8)),([]:List au),([]:List al),1)))
 else
 bd (qH a st.2.2.2.2.2.2.2.2.2.2.2.2.2) fun fB=>
 if (st.2.2.2.2.2.2.2.2.2.2.1.length+([fB.1]:List au).length) *256≤2^46 then
 some (.inl (st.1,st.2.1,st.2.2.1,st.2.2.2.1,st.2.2.2.2.1,st.2.2.2.2.2.1,st.2.2.2.2.2.2.1,st.2.2.2.2.2.2.2.1,st.2.2.2.2.2.2.2.2.1,st.2.2.2.2.2.2.2.2.2.1,st.2.2.2.2.2.2.2.2.2.2.1++([fB.1]:List au),st.2.2.2.2.2.2.2.2.2.2.2.1,w2,IntKind.wrap .i64 (st.2.2.2.2.2.2.2.2.2.2.2.2.2+1)))
 else none
 else
 some (.inr (.inl (st.1,st.2.1,st.2.2.1,st.2.2.2.1,st.2.2.2.2.1,st.2.2.2.2.2.1,st.2.2.2.2.2.2.1,st.2.2.2.2.2.2.2.1,st.2.2.2.2.2.2.2.2.1,st.2.2.2.2.2.2.2.2.2.1,st.2.2.2.2.2.2.2.2.2.2.1,st.2.2.2.2.2.2.2.2.2.2.2.1)))
noncomputable def qI (a:af) (a1:List Bool) (a2:List (List UInt8)):Option (aw×Int):=
 bd (
  bd (hU a) fun rA=>
  if !rA then
  some true
  else
  bd (mf a) fun aY=>
  if !decide ((a1.length:Int)=aY) then
  some true
  else
  some (!decide ((a2.length:Int)=(a1.length:Int))):Option Bool) fun w=>
 if w then
 some ((⟨(⟨0,0⟩:af),([]:List Bool),([]:List (List UInt8)),([]:List au),([]:List al)⟩:aw),1)
 else
 bd (tU 1 a1) fun b7=>
 bd (tU 16 a2) fun cu=>
 bd (Loop (yL a a1 a2) (0,0,([]:List Bool),([]:List (List UInt8)),([]:List au),([]:List al),a.F,a.T,b7,cu,([]:List au),([]:List al),a.F,0)) fun w1=>
 match w1 with
 | .inl p2=>
  some ((⟨(⟨p2.2.2.2.2.2.2.1,p2.2.2.2.2.2.2.2.1⟩:af),p2.2.2.2.2.2.2.2.2.1,p2.2.2.2.2.2.2.2.2.2.1,p2.2.2.2.2.2.2.2.2.2.2.1,p2.2.2.2.2.2.2.2.2.2.2.2⟩:aw),0)
 | .inr p3=>
  some ((⟨(⟨p3.1,p3.2.1⟩:af),p3.2.2.1,p3.2.2.2.1,p3.2.2.2.2.1,p3.2.2.2.2.2.1⟩:aw),p3.2.2.2.2.2.2)
noncomputable def zZ (b:List Int) (y:Int) (st:Int×Int):Option ((Int×Int)⊕Int):=
 if st.2<((List.drop (Int.toNat 0) (List.take (Int.toNat (IntKind.wrap .i64 y)) (List.drop (Int.toNat 1) (List.take (Int.toNat (b.length:Int)) b)))).length:Int) then
 ix (List.drop (Int.toNat 0) (List.take (Int.toNat (IntKind.wrap .i64 y)) (List.drop (Int.toNat 1) (List.take (Int.toNat (b.length:Int)) b)))) st.2 fun y2=>
 if (0:Int)≤8 then
 some (.inl (bOr .u64 (IntKind.wrap .u64 (st.1 *2^min (Int.toNat 8) (IntKind.bits .u64))) (IntKind.wrap .u64 y2),IntKind.wrap .i64 (st.2+1)))
 else none
 else
 some (.inr st.1)
noncomputable def tY (b:List Int):Option (Int×(List Int)×Int):=
 if (b.length:Int)=0 then
 some (0,([]:List Int),2)
 else
 ix b 0 fun y=>
 if (0:Int)≤1∧(1:Int)≤(b.length:Int)∧(b.length:Int)≤(b.length:Int) then
 bd (
  if (8:Int)<(IntKind.wrap .i64 y) then
  some true
  else
  if (0:Int)<(IntKind.wrap .i64 y) then
  if (0:Int)<((List.drop (Int.toNat 1) (List.take (Int.toNat (b.length:Int)) b)).length:Int) then
  ix (List.drop (Int.toNat 1) (List.take (Int.toNat (b.length:Int)) b)) 0 fun y1=>
  some (decide (y1=0))
  else
  some false
  else
  some false:Option Bool) fun w=>
 if w then
 some (0,([]:List Int),3)
 else
 if ((List.drop (Int.toNat 1) (List.take (Int.toNat (b.length:Int)) b)).length:Int)<(IntKind.wrap .i64 y) then
 some (0,([]:List Int),2)
 else
 if (0:Int)≤0∧(0:Int)≤(IntKind.wrap .i64 y)∧(IntKind.wrap .i64 y)≤((List.drop (Int.toNat 1) (List.take (Int.toNat (b.length:Int)) b)).length:Int) then
 bd (Loop (zZ b y) (0,0)) fun w1=>
 if (0:Int)≤(IntKind.wrap .i64 y)∧(IntKind.wrap .i64 y)≤((List.drop (Int.toNat 1) (List.take (Int.toNat (b.length:Int)) b)).length:Int)∧((List.drop (Int.toNat 1) (List.take (Int.toNat (b.length:Int)) b)).length:Int)≤((List.drop (Int.toNat 1) (List.take (Int.toNat (b.length:Int)) b)).length:Int) then
 some (w1,List.drop (Int.toNat (IntKind.wrap .i64 y)) (List.take (Int.toNat ((List.drop (Int.toNat 1) (List.take (Int.toNat (b.length:Int)) b)).length:Int)) (List.drop (Int.toNat 1) (List.take (Int.toNat (b.length:Int)) b))),0)
 else none
 else none
 else none
noncomputable def se (b:List Int):Option (Int×(List Int)×Int):=
 bd (tY b) fun rA=>
 if (0:Int)≤1 then
 some (K5 .i64 (IntKind.wrap .i64 (Int.fdiv rA.1 (2^min (Int.toNat 1) (IntKind.bits .u64)))) (IntKind.wrap .i64 (0-(IntKind.wrap .i64 (TJ .u64 rA.1 1)))),rA.2.1,rA.2.2)
 else none
noncomputable def dg (t:bC):Option (Int×bC):=
 bd (
  if t.e=0 then
  bd (se t.b) fun rA=>
  some (rA.1,rA.2.1,rA.2.2)
  else
  some (0,t.b,t.e):Option (Int×(List Int)×Int)) fun w=>
 some (w.1,(⟨w.2.1,w.2.2⟩:bC))
noncomputable def qJ (b:List Int) (most:Int):Option ((List UInt8)×(List Int)×Int):=
 bd (tY b) fun rA=>
 if !decide (rA.2.2=0) then
 some (([]:List UInt8),([]:List Int),rA.2.2)
 else
 if (IntKind.wrap .u64 (imax most 0))<rA.1 then
 some (([]:List UInt8),([]:List Int),5)
 else
 if (IntKind.wrap .u64 (rA.2.1.length:Int))<rA.1 then
 some (([]:List UInt8),([]:List Int),2)
 else
 if (0:Int)≤0∧(0:Int)≤rA.1∧rA.1≤(rA.2.1.length:Int) then
 Sa (List.drop (Int.toNat 0) (List.take (Int.toNat rA.1) rA.2.1)) fun bs=>
 if (0:Int)≤rA.1∧rA.1≤(rA.2.1.length:Int)∧(rA.2.1.length:Int)≤(rA.2.1.length:Int) then
 some (bs,List.drop (Int.toNat rA.1) (List.take (Int.toNat (rA.2.1.length:Int)) rA.2.1),0)
 else none
 else none
noncomputable def iy (t:bC):Option ((List UInt8)×bC):=
 bd (
  if t.e=0 then
  bd (qJ t.b 6000) fun rA=>
  some (rA.1,rA.2.1,rA.2.2)
  else
  some (([]:List UInt8),t.b,t.e):Option ((List UInt8)×(List Int)×Int)) fun w=>
 some (w.1,(⟨w.2.1,w.2.2⟩:bC))
noncomputable def mR (rA:Int×bC) (st:(List aa)×Int×(List Int)×Int):Option (((List aa)×Int×(List Int)×Int)⊕((List aa)×(List Int)×Int)):=
 if st.2.1<((List.replicate (Int.toNat rA.1) (⟨0,0,([]:List UInt8)⟩:aa)).length:Int) then
 bd (dg (⟨st.2.2.1,st.2.2.2⟩:bC)) fun aY=>
 ix st.1 st.2.1 fun y=>
 some (.inl (st.1.set (Int.toNat st.2.1) (⟨aY.1,y.View,y.Value⟩:aa),IntKind.wrap .i64 (st.2.1+1),aY.2.b,aY.2.e))
 else
 some (.inr (st.1,st.2.2.1,st.2.2.2))
noncomputable def mS (w3:(List aa)×(List Int)×Int) (b7:Int×bC) (cu:(List UInt8)×bC) (ca:(List aa)×Int):Option (((List aa)×Int)⊕(List aa)):=
 if ca.2<(w3.1.length:Int) then
 ix ca.1 ca.2 fun y1=>
 ix (ca.1.set (Int.toNat ca.2) (⟨y1.By,b7.1,y1.Value⟩:aa)) ca.2 fun y2=>
 some (.inl ((ca.1.set (Int.toNat ca.2) (⟨y1.By,b7.1,y1.Value⟩:aa)).set (Int.toNat ca.2) (⟨y2.By,y2.View,cu.1⟩:aa),IntKind.wrap .i64 (ca.2+1)))
 else
 some (.inr ca.1)
noncomputable def kw (t:bC):Option ((List aa)×bC):=
 bd (dg t) fun rA=>
 bd (
  if rA.1<0 then
  some true
  else
  some (decide ((100:Int)<rA.1)):Option Bool) fun w=>
 bd (
  if w then
  some (rA.2.b,3)
  else
  some (rA.2.b,rA.2.e):Option ((List Int)×Int)) fun w1=>
 bd (
  if !decide (w1.2=0) then
  some true
  else
  some (decide (rA.1=0)):Option Bool) fun w2=>
 if w2 then
 some (([]:List aa),(⟨w1.1,w1.2⟩:bC))
 else
 if (0:Int)≤rA.1∧rA.1=rA.1∧rA.1 *32≤2^46 then
 bd (Loop (mR rA) (List.replicate (Int.toNat rA.1) (⟨0,0,([]:List UInt8)⟩:aa),0,w1.1,w1.2)) fun w3=>
 bd (dg (⟨w3.2.1,w3.2.2⟩:bC)) fun b7=>
 bd (iy b7.2) fun cu=>
 bd (Loop (mS w3 b7 cu) (w3.1,0)) fun w4=>
 some (w4,cu.2)
 else none
noncomputable def om (Zu:Bool):Option Int:=
 if Zu then
 some 1
 else
 some 0
noncomputable def kz (sA:af):Option Int:=
 bd (iY sA (4611686018427387904,4607182418800017408)) fun rA=>
 some rA
noncomputable def jD (a:aa):Option Bool:=
 bd (
  if (0:Int)≤a.By then
  if (0:Int)≤a.View then
  if a.View≤100000 then
  some (decide ((a.Value.length:Int)≤6000))
  else
  some false
  else
  some false
  else
  some false:Option Bool) fun w=>
 some w
noncomputable def xX (t:ay) (st:Int):Option (Int⊕(Unit⊕Bool)):=
 if st<(t.L.length:Int) then
 ix t.L st fun y=>
 bd (
  bd (jD y) fun rA=>
  if !rA then
  some true
  else
  if (0:Int)<st then
  ix t.L (IntKind.wrap .i64 (st-1)) fun y1=>
  some (decide (y.By≤y1.By))
  else
  some false:Option Bool) fun w1=>
 if w1 then
 some (.inr (.inr false))
 else
 some (.inl (IntKind.wrap .i64 (st+1)))
 else
 some (.inr (.inl ()))
noncomputable def vN (t:ay):Option Bool:=
 bd (Loop (xX t) 0) fun w=>
 match w with
 | .inl p1=>
  some true
 | .inr p2=>
  some p2
noncomputable def kA (t:ay) (view:Int) (value:List UInt8) (st:(List aa)×Int):Option (((List aa)×Int)⊕(List aa)):=
 if st.2<(t.L.length:Int) then
 ix t.L st.2 fun y=>
 bd (
  if y.View=view then
  some (decide (y.Value=value))
  else
  some false:Option Bool) fun w1=>
 bd (
  if w1 then
  if (st.1.length+([y]:List aa).length) *32≤2^46 then
  some (st.1++([y]:List aa))
  else none
  else
  some st.1:Option (List aa)) fun w2=>
 some (.inl (w2,IntKind.wrap .i64 (st.2+1)))
 else
 some (.inr st.1)
noncomputable def kW (t:ay) (view:Int) (value:List UInt8):Option (List aa):=
 bd (Loop (kA t view value) (([]:List aa),0)) fun w=>
 some w
noncomputable def vO (t:ay) (view:Int) (value:List UInt8):Option Int:=
 bd (kW t view value) fun rA=>
 some (rA.length:Int)
noncomputable def oZ (sA:af) (p:List aa):Option Bool:=
 bd (
  bd (hU sA) fun rA=>
  if !rA then
  some true
  else
  bd (kz sA) fun aY=>
  if !decide ((p.length:Int)=aY) then
  some true
  else
  bd (vN (⟨p⟩:ay)) fun b7=>
  some (!b7):Option Bool) fun w=>
 if w then
 some false
 else
 bd (
  ix p (IntKind.wrap .i64 ((p.length:Int)-1)) fun y=>
  bd (mf sA) fun cu=>
  if y.By<cu then
  ix p 0 fun y1=>
  ix p 0 fun y2=>
  bd (vO (⟨p⟩:ay) y1.View y2.Value) fun fB=>
  some (decide (fB=(p.length:Int)))
  else
  some false:Option Bool) fun w1=>
 some w1
noncomputable def jh (a:ao):Option Bool:=
 bd (
  if a.View<0 then
  some true
  else
  some (decide ((100000:Int)<a.View)):Option Bool) fun w=>
 if w then
 some false
 else
 bd (
  if a.Has then
  if a.At<0 then
  some true
  else
  if a.View<a.At then
  some true
  else
  some (decide ((6000:Int)<(a.Value.length:Int)))
  else
  some false:Option Bool) fun w1=>
 if w1 then
 some false
 else
 bd (
  if !a.Has then
  if !decide (a.At=0) then
  some true
  else
  some (!decide (a.Value=([]:List UInt8)))
  else
  some false:Option Bool) fun w2=>
 if w2 then
 some false
 else
 bd (
  if (a.Proof.length:Int)=0 then
  some true
  else
  bd (oZ a.S a.Proof) fun rA=>
  if rA then
  ix a.Proof 0 fun y=>
  some (decide (y.View≤a.View))
  else
  some false:Option Bool) fun w3=>
 some w3
noncomputable def sf (a:af) (a1:Int) (a2:List Int):Option (ao×Int):=
 bd (kV a a1) fun rA=>
 if !decide (rA.2=0) then
 some ((⟨(⟨0,0⟩:af),0,0,false,0,([]:List UInt8),([]:List aa),(⟨([]:List aa)⟩:ay)⟩:ao),rA.2)
 else
 bd (dg (⟨a2,0⟩:bC)) fun aY=>
 bd (dg aY.2) fun b7=>
 bd (dg b7.2) fun cu=>
 bd (iy cu.2) fun fB=>
 bd (kw fB.2) fun kC=>
 bd (
  if !decide (kC.2.e=0) then
  some true
  else
  bd (om (decide (b7.1=1))) fun pD=>
  if !decide (b7.1=pD) then
  some true
  else
  if (0:Int)<(kC.2.b.length:Int) then
  some true
  else
  bd (jh (⟨rA.1.S,rA.1.Me,aY.1,decide (b7.1=1),cu.1,fB.1,kC.1,rA.1.cP⟩:ao)) fun vP=>
  some (!vP):Option Bool) fun w=>
 if w then
 some ((⟨(⟨0,0⟩:af),0,0,false,0,([]:List UInt8),([]:List aa),(⟨([]:List aa)⟩:ay)⟩:ao),3)
 else
 some ((⟨rA.1.S,rA.1.Me,aY.1,decide (b7.1=1),cu.1,fB.1,kC.1,rA.1.cP⟩:ao),0)
noncomputable def o4 (p:List aa):Option (Int×(List UInt8)×Bool):=
 if (p.length:Int)=0 then
 some ((-1),([]:List UInt8),false)
 else
 ix p 0 fun y=>
 ix p 0 fun y1=>
 some (y.View,y1.Value,true)
noncomputable def yM (x:Int):Option Int:=
 bd (
  if (4294967296:Int)≤x then
  if (0:Int)≤32 then
  some (Int.fdiv x (2^min (Int.toNat 32) (IntKind.bits .u64)),32)
  else none
  else
  some (x,0):Option (Int×Int)) fun w=>
 bd (
  if (65536:Int)≤w.1 then
  if (0:Int)≤16 then
  some (Int.fdiv w.1 (2^min (Int.toNat 16) (IntKind.bits .u64)),IntKind.wrap .i64 (w.2+16))
  else none
  else
  some (w.1,w.2):Option (Int×Int)) fun w1=>
 bd (
  if (256:Int)≤w1.1 then
  if (0:Int)≤8 then
  some (Int.fdiv w1.1 (2^min (Int.toNat 8) (IntKind.bits .u64)),IntKind.wrap .i64 (w1.2+8))
  else none
  else
  some (w1.1,w1.2):Option (Int×Int)) fun w2=>
 if (0:Int)≤(IntKind.wrap .u8 w2.1)∧(IntKind.wrap .u8 w2.1)<(((([0,1,2,2,3,3,3,3,4,4,4,4,4,4,4,4,5,5,5,5,5,5,5,5,5,5,5,5,5,5,5,5,6,6,6,6,6,6,6,6,6,6,6,6,6,6,6,6,6,6,6,6,6,6,6,6,6,6,6,6,6,6,6,6]:List UInt8)++([7,7,7,7,7,7,7,7,7,7,7,7,7,7,7,7,7,7,7,7,7,7,7,7,7,7,7,7,7,7,7,7,7,7,7,7,7,7,7,7,7,7,7,7,7,7,7,7,7,7,7,7,7,7,7,7,7,7,7,7,7,7,7,7]:List UInt8))++(([8,8,8,8,8,8,8,8,8,8,8,8,8,8,8,8,8,8,8,8,8,8,8,8,8,8,8,8,8,8,8,8,8,8,8,8,8,8,8,8,8,8,8,8,8,8,8,8,8,8,8,8,8,8,8,8,8,8,8,8,8,8,8,8]:List UInt8)++([8,8,8,8,8,8,8,8,8,8,8,8,8,8,8,8,8,8,8,8,8,8,8,8,8,8,8,8,8,8,8,8,8,8,8,8,8,8,8,8,8,8,8,8,8,8,8,8,8,8,8,8,8,8,8,8,8,8,8,8,8,8,8,8]:List UInt8))).length:Int) then
 some (IntKind.wrap .i64 (w2.2+(IntKind.wrap .i64 ((((([0,1,2,2,3,3,3,3,4,4,4,4,4,4,4,4,5,5,5,5,5,5,5,5,5,5,5,5,5,5,5,5,6,6,6,6,6,6,6,6,6,6,6,6,6,6,6,6,6,6,6,6,6,6,6,6,6,6,6,6,6,6,6,6]:List UInt8)++([7,7,7,7,7,7,7,7,7,7,7,7,7,7,7,7,7,7,7,7,7,7,7,7,7,7,7,7,7,7,7,7,7,7,7,7,7,7,7,7,7,7,7,7,7,7,7,7,7,7,7,7,7,7,7,7,7,7,7,7,7,7,7,7]:List UInt8))++(([8,8,8,8,8,8,8,8,8,8,8,8,8,8,8,8,8,8,8,8,8,8,8,8,8,8,8,8,8,8,8,8,8,8,8,8,8,8,8,8,8,8,8,8,8,8,8,8,8,8,8,8,8,8,8,8,8,8,8,8,8,8,8,8]:List UInt8)++([8,8,8,8,8,8,8,8,8,8,8,8,8,8,8,8,8,8,8,8,8,8,8,8,8,8,8,8,8,8,8,8,8,8,8,8,8,8,8,8,8,8,8,8,8,8,8,8,8,8,8,8,8,8,8,8,8,8,8,8,8,8,8,8]:List UInt8))).getD (Int.toNat (IntKind.wrap .u8 w2.1)) 0).toNat:Int))))
 else none
noncomputable def yN (n:Int):Option Int:=
 bd (yM n) fun rA=>
 if !decide ((8:Int)=0) then
 some (IntKind.wrap .i64 (1+(IntKind.wrap .i64 (Int.tdiv (IntKind.wrap .i64 (rA+7)) 8))))
 else none
noncomputable def pn (sA:List Int):Option (List Int):=
 if (sA.length:Int)=(sA.length:Int)∧(sA.length:Int)=(sA.length:Int) then
 some sA
 else none
noncomputable def B7 (n:Int) (st:(List Int)×Int):Option (((List Int)×Int)⊕(List Int)):=
 if (0:Int)≤st.2 then
 if (0:Int)≤(IntKind.wrap .i64 (8 *st.2)) then
 if (st.1.length+([IntKind.wrap .u8 (Int.fdiv n (2^min (Int.toNat (IntKind.wrap .i64 (8 *st.2))) (IntKind.bits .u64)))]:List Int).length) *1≤2^46 then
 some (.inl (st.1++([IntKind.wrap .u8 (Int.fdiv n (2^min (Int.toNat (IntKind.wrap .i64 (8 *st.2))) (IntKind.bits .u64)))]:List Int),IntKind.wrap .i64 (st.2-1)))
 else none
 else none
 else
 some (.inr st.1)
noncomputable def xi (b:List Int) (n:Int):Option (List Int):=
 bd (yN n) fun rA=>
 bd (pn b) fun aY=>
 if 0<([IntKind.wrap .u8 (IntKind.wrap .i64 (rA-1))]:List Int).length∧(aY.length+([IntKind.wrap .u8 (IntKind.wrap .i64 (rA-1))]:List Int).length) *1≤2^46 then
 bd (Loop (B7 n) (aY++([IntKind.wrap .u8 (IntKind.wrap .i64 (rA-1))]:List Int),IntKind.wrap .i64 ((IntKind.wrap .i64 (rA-1))-1))) fun w=>
 some w
 else none
noncomputable def mr (b:List Int) (n:Int):Option (List Int):=
 if (0:Int)≤1 then
 if (0:Int)≤63 then
 bd (xi b (K5 .u64 (IntKind.wrap .u64 ((IntKind.wrap .u64 n) *2^min (Int.toNat 1) (IntKind.bits .u64))) (IntKind.wrap .u64 (Int.fdiv n (2^min (Int.toNat 63) (IntKind.bits .i64)))))) fun rA=>
 some rA
 else none
 else none
noncomputable def tZ (b:List Int) (sA:List UInt8):Option (List Int):=
 bd (xi b (IntKind.wrap .u64 (sA.length:Int))) fun rA=>
 if (rA.length+(R7 sA).length) *1≤2^46 then
 some (rA++(R7 sA))
 else none
noncomputable def uO (a:ao) (st:(List Int)×Int):Option (((List Int)×Int)⊕(List Int)):=
 if st.2<(a.Proof.length:Int) then
 ix a.Proof st.2 fun y=>
 bd (mr st.1 y.By) fun pD=>
 some (.inl (pD,IntKind.wrap .i64 (st.2+1)))
 else
 some (.inr st.1)
noncomputable def si (a:ao):Option (List Int):=
 bd (mr ([]:List Int) a.View) fun rA=>
 bd (om a.Has) fun aY=>
 bd (mr rA aY) fun b7=>
 bd (mr b7 a.At) fun cu=>
 bd (tZ cu a.Value) fun fB=>
 bd (mr fB (a.Proof.length:Int)) fun kC=>
 bd (Loop (uO a) (kC,0)) fun w=>
 bd (o4 a.Proof) fun vP=>
 bd (
  if vP.2.2 then
  bd (mr w vP.1) fun Mb=>
  bd (tZ Mb vP.2.1) fun NK=>
  some NK
  else
  some w:Option (List Int)) fun w1=>
 some w1
noncomputable def ua (sA:af) (i:Int) (n:au):Option au:=
 bd (si n.A) fun rA=>
 bd (sf sA i rA) fun aY=>
 bd (mq sA) fun b7=>
 some (⟨aY.1,b7.1,([]:List ab),aY.1.View⟩:au)
noncomputable def dV (c:aw) (i:Int) (bad:Bool):Option Bool:=
 bd (
  if (0:Int)≤i then
  if i<(c.cV.length:Int) then
  ix c.cV i fun y=>
  some (decide (y=bad))
  else
  some false
  else
  some false:Option Bool) fun w=>
 some w
noncomputable def mu (s1:List aa) (s2:List aa) (st:Int):Option (Int⊕(Unit⊕Bool)):=
 if st<(s1.length:Int) then
 ix s1 st fun y=>
 ix s2 st fun y1=>
 if !((decide (y.By=y1.By))&&((decide (y.View=y1.View))&&(decide (y.Value=y1.Value)))) then
 some (.inr (.inr false))
 else
 some (.inl (IntKind.wrap .i64 (st+1)))
 else
 some (.inr (.inl ()))
noncomputable def jN (s1:List aa) (s2:List aa):Option Bool:=
 if !decide ((s1.length:Int)=(s2.length:Int)) then
 some false
 else
 bd (Loop (mu s1 s2) 0) fun w=>
 match w with
 | .inl p1=>
  some true
 | .inr p2=>
  some p2
noncomputable def yO (a:List aa) (b:List aa):Option Bool:=
 bd (jN a b) fun rA=>
 some rA
noncomputable def oo (x:ab) (y:ab):Option Bool:=
 bd (
  if x.By=y.By then
  if x.mc=y.mc then
  if x.Has=y.Has then
  if x.View=y.View then
  if x.Value=y.Value then
  bd (yO x.Proof y.Proof) fun rA=>
  some rA
  else
  some false
  else
  some false
  else
  some false
  else
  some false
  else
  some false:Option Bool) fun w=>
 some w
noncomputable def dE (s1:List ab) (s2:List ab) (eq:ab→ab→Option Bool) (st:Int):Option (Int⊕(Unit⊕Bool)):=
 if st<(s1.length:Int) then
 ix s1 st fun y=>
 ix s2 st fun y1=>
 bd (eq y y1) fun rA=>
 if !rA then
 some (.inr (.inr false))
 else
 some (.inl (IntKind.wrap .i64 (st+1)))
 else
 some (.inr (.inl ()))
noncomputable def cD (s1:List ab) (s2:List ab) (eq:ab→ab→Option Bool):Option Bool:=
 if !decide ((s1.length:Int)=(s2.length:Int)) then
 some false
 else
 bd (Loop (dE s1 s2 eq) 0) fun w=>
 match w with
 | .inl p1=>
  some true
 | .inr p2=>
  some p2
noncomputable def vQ (a:List ab) (b:List ab):Option Bool:=
 bd (cD a b oo) fun rA=>
 some rA
noncomputable def ej (m:al) (c:ab):Option Bool:=
 bd (
  if m.Kind=4 then
  bd (vQ ([m.R]:List ab) ([c]:List ab)) fun rA=>
  some rA
  else
  some false:Option Bool) fun w=>
 some w
noncomputable def jV (m:al) (c:aa):Option Bool:=
 bd (
  if m.Kind=2 then
  some ((decide (m.oW.By=c.By))&&((decide (m.oW.View=c.View))&&(decide (m.oW.Value=c.Value))))
  else
  some false:Option Bool) fun w=>
 some w
noncomputable def ll (sA:List al) (f:al→Option Bool) (st:Int):Option (Int⊕(Unit⊕Int)):=
 if st<(sA.length:Int) then
 ix sA st fun y=>
 bd (f y) fun rA=>
 if rA then
 some (.inr (.inr st))
 else
 some (.inl (IntKind.wrap .i64 (st+1)))
 else
 some (.inr (.inl ()))
noncomputable def iJ (sA:List al) (f:al→Option Bool):Option Int:=
 bd (Loop (ll sA f) 0) fun w=>
 match w with
 | .inl p1=>
  some (-1)
 | .inr p2=>
  some p2
noncomputable def dh (sA:List al) (f:al→Option Bool):Option Bool:=
 bd (iJ sA f) fun rA=>
 some (decide ((0:Int)≤rA))
noncomputable def po (c:aw) (a:aa):Option Bool:=
 bd (
  bd (dV c a.By true) fun rA=>
  if rA then
  some true
  else
  bd (dh c.bF (fun u=>jV u a)) fun aY=>
  some aY:Option Bool) fun w=>
 some w
noncomputable def iz (a:aa) (c:aw):Option Bool:=
 bd (po c a) fun rA=>
 some (!rA)
noncomputable def jW (sA:List aa) (f:aa→Option Bool) (st:Int):Option (Int⊕(Unit⊕Int)):=
 if st<(sA.length:Int) then
 ix sA st fun y=>
 bd (f y) fun rA=>
 if rA then
 some (.inr (.inr st))
 else
 some (.inl (IntKind.wrap .i64 (st+1)))
 else
 some (.inr (.inl ()))
noncomputable def gj (sA:List aa) (f:aa→Option Bool):Option Int:=
 bd (Loop (jW sA f) 0) fun w=>
 match w with
 | .inl p1=>
  some (-1)
 | .inr p2=>
  some p2
noncomputable def fv (sA:List aa) (f:aa→Option Bool):Option Bool:=
 bd (gj sA f) fun rA=>
 some (decide ((0:Int)≤rA))
noncomputable def gE (c:aw) (lA:List aa):Option Bool:=
 bd (fv lA (fun u=>iz u c)) fun rA=>
 some (!rA)
noncomputable def mT (c:aw) (rA:ab):Option Bool:=
 bd (
  bd (dV c rA.By true) fun aY=>
  if aY then
  bd (gE c rA.Proof) fun b7=>
  if b7 then
  some true
  else
  bd (dh c.bF (fun u=>ej u rA)) fun cu=>
  some cu
  else
  bd (dh c.bF (fun u2=>ej u2 rA)) fun fB=>
  some fB:Option Bool) fun w=>
 some w
noncomputable def pU (rA:ab) (c:aw):Option Bool:=
 bd (mT c rA) fun aY=>
 some (!aY)
noncomputable def jX (sA:List ab) (f:ab→Option Bool) (st:Int):Option (Int⊕(Unit⊕Int)):=
 if st<(sA.length:Int) then
 ix sA st fun y=>
 bd (f y) fun rA=>
 if rA then
 some (.inr (.inr st))
 else
 some (.inl (IntKind.wrap .i64 (st+1)))
 else
 some (.inr (.inl ()))
noncomputable def gk (sA:List ab) (f:ab→Option Bool):Option Int:=
 bd (Loop (jX sA f) 0) fun w=>
 match w with
 | .inl p1=>
  some (-1)
 | .inr p2=>
  some p2
noncomputable def fw (sA:List ab) (f:ab→Option Bool):Option Bool:=
 bd (gk sA f) fun rA=>
 some (decide ((0:Int)≤rA))
noncomputable def yP (c:aw) (m:al):Option Bool:=
 if m.Kind=1 then
 bd (
  bd (dV c m.gh true) fun rA=>
  if rA then
  bd (fw m.fE (fun u=>pU u c)) fun aY=>
  some (!aY)
  else
  some false:Option Bool) fun w=>
 some w
 else
 if m.Kind=2 then
 bd (dV c m.oW.By true) fun b7=>
 some b7
 else
 if m.Kind=3 then
 bd (
  bd (dV c m.gh true) fun cu=>
  if cu then
  bd (gE c m.Proof) fun fB=>
  some fB
  else
  some false:Option Bool) fun w1=>
 some w1
 else
 if m.Kind=4 then
 bd (
  bd (dV c m.R.By true) fun kC=>
  if kC then
  bd (gE c m.R.Proof) fun pD=>
  some pD
  else
  some false:Option Bool) fun w2=>
 some w2
 else
 if m.Kind=5 then
 bd (dV c m.gh true) fun vP=>
 some vP
 else
 some false
noncomputable def fR (sA:List al):Option (List al):=
 if (sA.length:Int)=(sA.length:Int)∧(sA.length:Int)=(sA.length:Int) then
 some sA
 else none
noncomputable def iZ (sA:af) (view:Int):Option Int:=
 bd (mf sA) fun rA=>
 if !decide (rA=0) then
 some (Int.tmod (imax view 0) rA)
 else none
noncomputable def oq (rA:ab):Option Int:=
 bd (o4 rA.Proof) fun aY=>
 if !aY.2.2 then
 some (-1)
 else
 some aY.1
noncomputable def yQ (sA:af):Option Int:=
 bd (iY sA (4607182418800017408,4607182418800017408)) fun rA=>
 some rA
noncomputable def vR (a1:List ab) (st:Int×(List UInt8)×Int):Option ((Int×(List UInt8)×Int)⊕(Int×(List UInt8))):=
 if st.2.2<(a1.length:Int) then
 ix a1 st.2.2 fun y=>
 bd (oq y) fun rA=>
 bd (
  if st.1<rA then
  ix y.Proof 0 fun y1=>
  some (rA,y1.Value)
  else
  some (st.1,st.2.1):Option (Int×(List UInt8))) fun w1=>
 some (.inl (w1.1,w1.2,IntKind.wrap .i64 (st.2.2+1)))
 else
 some (.inr (st.1,st.2.1))
noncomputable def mU (a1:List ab) (w:Int×(List UInt8)) (ca:(List MV)×Int):Option (((List MV)×Int)⊕(List MV)):=
 if ca.2<(a1.length:Int) then
 ix a1 ca.2 fun y2=>
 bd (
  if y2.Has then
  some (decide (w.1<y2.View))
  else
  some false:Option Bool) fun w3=>
 bd (
  if w3 then
  some (qy (lv ca.1 ([.s y2.Value]:List MV) (.i .i64 0)) (b8 ca.1 ([.s y2.Value]:List MV)) (.i .i64 (IntKind.wrap .i64 ((lE ca.1 ([.s y2.Value]:List MV))+1))))
  else
  some ca.1:Option (List MV)) fun w4=>
 some (.inl (w4,IntKind.wrap .i64 (ca.2+1)))
 else
 some (.inr ca.1)
noncomputable def vT (a:af) (Zv:MV):Option (Unit⊕(Unit⊕((List UInt8)×Bool))):=
 L3 Zv fun key n=>
 bd (yQ a) fun aY=>
 if aY≤n then
 some (.inr (.inr (key,true)))
 else
 some (.inl ())
noncomputable def pV (a:af) (a1:List ab):Option ((List UInt8)×Bool):=
 bd (Loop (vR a1) ((-1),([]:List UInt8),0)) fun w=>
 bd (Loop (mU a1 w) (([]:List MV),0)) fun w2=>
 bd (tS (vT a) (
  some (.inl ())) w2) fun w5=>
 match w5 with
 | .inl p5=>
  some (w.2,decide (((-1):Int)<w.1))
 | .inr p6=>
  some (p6.1,p6.2)
noncomputable def qn (sA:af):Option Int:=
 bd (iY sA (4611686018427387904,4611686018427387904)) fun rA=>
 some rA
noncomputable def ub (a:af) (a1:ab):Option Bool:=
 bd (
  bd (hU a) fun rA=>
  if !rA then
  some true
  else
  if a1.By<0 then
  some true
  else
  bd (mf a) fun aY=>
  if aY≤a1.By then
  some true
  else
  if a1.mc<1 then
  some true
  else
  some (decide ((100000:Int)<a1.mc)):Option Bool) fun w=>
 if w then
 some false
 else
 bd (
  if !a1.Has then
  if !decide (a1.View=0) then
  some true
  else
  some (!decide (a1.Value=([]:List UInt8)))
  else
  some false:Option Bool) fun w1=>
 if w1 then
 some false
 else
 bd (
  if a1.Has then
  if a1.View<0 then
  some true
  else
  if a1.mc≤a1.View then
  some true
  else
  some (decide ((6000:Int)<(a1.Value.length:Int)))
  else
  some false:Option Bool) fun w2=>
 if w2 then
 some false
 else
 bd (
  if (a1.Proof.length:Int)=0 then
  some true
  else
  bd (oZ a a1.Proof) fun b7=>
  if b7 then
  bd (oq a1) fun cu=>
  some (decide (cu<a1.mc))
  else
  some false:Option Bool) fun w3=>
 some w3
noncomputable def vU (sA:af) (view:Int) (lA:List ab) (st:Int×Int):Option ((Int×Int)⊕(Unit⊕Bool)):=
 if st.2<(lA.length:Int) then
 ix lA st.2 fun y=>
 bd (
  bd (ub sA y) fun b7=>
  if !b7 then
  some true
  else
  if !decide (y.mc=view) then
  some true
  else
  some (decide (y.By≤st.1)):Option Bool) fun w2=>
 if w2 then
 some (.inr (.inr false))
 else
 some (.inl (y.By,IntKind.wrap .i64 (st.2+1)))
 else
 some (.inr (.inl ()))
noncomputable def uc (sA:af) (view:Int) (lA:List ab):Option Bool:=
 bd (
  bd (hU sA) fun rA=>
  if !rA then
  some true
  else
  bd (qn sA) fun aY=>
  some (!decide ((lA.length:Int)=aY)):Option Bool) fun w=>
 if w then
 some false
 else
 bd (Loop (vU sA view lA) ((-1),0)) fun w1=>
 match w1 with
 | .inl p1=>
  some true
 | .inr p2=>
  some p2
noncomputable def qK (sA:af) (view:Int) (lA:List ab) (value:List UInt8):Option Bool:=
 bd (uc sA view lA) fun rA=>
 if !rA then
 some false
 else
 bd (pV sA lA) fun aY=>
 bd (
  if !aY.2 then
  some true
  else
  some (decide (aY.1=value)):Option Bool) fun w=>
 some w
noncomputable def fP (a:ao) (view:Int) (value:List UInt8) (z1:List ab):Option (ao×aa×Bool):=
 bd (
  if !decide (view=a.View) then
  some true
  else
  if a.Has then
  if a.At=view then
  some true
  else
  some (decide ((6000:Int)<(value.length:Int)))
  else
  some (decide ((6000:Int)<(value.length:Int))):Option Bool) fun w=>
 if w then
 some (a,(⟨0,0,([]:List UInt8)⟩:aa),false)
 else
 bd (
  if view=0 then
  some (decide ((z1.length:Int)=0))
  else
  some false:Option Bool) fun w1=>
 bd (
  if w1 then
  some (.inr (0,0,0,0,false,0,([]:List UInt8),([]:List aa),([]:List aa),0,0,([]:List UInt8)))
  else
  bd (qK a.S view z1 value) fun rA=>
  if !rA then
  some (.inl (a.S.F,a.S.T,a.Me,a.View,a.Has,a.At,a.Value,a.Proof,a.cP.L,0,0,([]:List UInt8),false))
  else
  some (.inr (0,0,0,0,false,0,([]:List UInt8),([]:List aa),([]:List aa),0,0,([]:List UInt8))):Option ((Int×Int×Int×Int×Bool×Int×(List UInt8)×(List aa)×(List aa)×Int×Int×(List UInt8)×Bool)⊕(Int×Int×Int×Int×Bool×Int×(List UInt8)×(List aa)×(List aa)×Int×Int×(List UInt8)))) fun w2=>
 match w2 with
 | .inl p1=>
  some ((⟨(⟨p1.1,p1.2.1⟩:af),p1.2.2.1,p1.2.2.2.1,p1.2.2.2.2.1,p1.2.2.2.2.2.1,p1.2.2.2.2.2.2.1,p1.2.2.2.2.2.2.2.1,(⟨p1.2.2.2.2.2.2.2.2.1⟩:ay)⟩:ao),(⟨p1.2.2.2.2.2.2.2.2.2.1,p1.2.2.2.2.2.2.2.2.2.2.1,p1.2.2.2.2.2.2.2.2.2.2.2.1⟩:aa),p1.2.2.2.2.2.2.2.2.2.2.2.2)
 | .inr p2=>
  some ((⟨a.S,a.Me,a.View,true,view,value,a.Proof,a.cP⟩:ao),(⟨a.Me,view,value⟩:aa),true)
noncomputable def kX (x:Int):Option Bool:=
 some (!decide (x=x))
noncomputable def iK (x:Int) (y:Int):Option Int:=
 bd (kX x) fun rA=>
 bd (kX y) fun aY=>
 if rA then
 if aY then
 some 0
 else
 some (-1)
 else
 if aY then
 some 1
 else
 if x<y then
 some (-1)
 else
 if y<x then
 some 1
 else
 some 0
noncomputable def ja (x:aa) (tx:Int):Option Int:=
 bd (iK x.By tx) fun rA=>
 some rA
noncomputable def fh (x:List aa) (target:Int) (cmp:aa→Int→Option Int) (st:Int×Int):Option ((Int×Int)⊕Int):=
 if st.1<st.2 then
 if (0:Int)≤1 then
 ix x (IntKind.wrap .i64 (Int.fdiv (IntKind.wrap .u64 (IntKind.wrap .i64 (st.1+st.2))) (2^min (Int.toNat 1) (IntKind.bits .u64)))) fun y=>
 bd (cmp y target) fun rA=>
 bd (
  if rA<0 then
  some (IntKind.wrap .i64 ((IntKind.wrap .i64 (Int.fdiv (IntKind.wrap .u64 (IntKind.wrap .i64 (st.1+st.2))) (2^min (Int.toNat 1) (IntKind.bits .u64))))+1),st.2)
  else
  some (st.1,IntKind.wrap .i64 (Int.fdiv (IntKind.wrap .u64 (IntKind.wrap .i64 (st.1+st.2))) (2^min (Int.toNat 1) (IntKind.bits .u64)))):Option (Int×Int)) fun w1=>
 some (.inl (w1.1,w1.2))
 else none
 else
 some (.inr st.1)
noncomputable def b5 (x:List aa) (target:Int) (cmp:aa→Int→Option Int):Option (Int×Bool):=
 bd (Loop (fh x target cmp) (0,(x.length:Int))) fun w=>
 bd (
  if w<(x.length:Int) then
  ix x w fun y1=>
  bd (cmp y1 target) fun aY=>
  some (w,decide (aY=0))
  else
  some (w,false):Option (Int×Bool)) fun w2=>
 some (w2.1,w2.2)
noncomputable def iL (t:ay) (a:aa):Option (ay×Bool):=
 bd (jD a) fun rA=>
 if !rA then
 some (t,false)
 else
 bd (b5 t.L a.By ja) fun aY=>
 bd (
  if aY.2 then
  ix t.L aY.1 fun y=>
  some (decide (a.View≤y.View))
  else
  some false:Option Bool) fun w=>
 if w then
 some (t,false)
 else
 bd (tU 32 t.L) fun b7=>
 bd (
  if aY.2 then
  ix b7 aY.1 fun y1=>
  some (b7.set (Int.toNat aY.1) a)
  else
  bd (xg 32 b7 aY.1 ([a]:List aa)) fun cu=>
  some cu:Option (List aa)) fun w1=>
 some ((⟨w1⟩:ay),true)
noncomputable def pW (a:ay) (st:(List MV)×Int):Option (((List MV)×Int)⊕(List MV)):=
 if st.2<(a.L.length:Int) then
 ix a.L st.2 fun y=>
 if (0:Int)≤(b8 st.1 ([.i .i64 y.View,.s y.Value]:List MV):Int)∧Int.toNat (b8 st.1 ([.i .i64 y.View,.s y.Value]:List MV):Int)<(lv st.1 ([.i .i64 y.View,.s y.Value]:List MV) (.i .i64 0)).length then
 some (.inl (qy (lv st.1 ([.i .i64 y.View,.s y.Value]:List MV) (.i .i64 0)) (Int.toNat (b8 st.1 ([.i .i64 y.View,.s y.Value]:List MV):Int)) (.i .i64 (IntKind.wrap .i64 ((lE st.1 ([.i .i64 y.View,.s y.Value]:List MV))+1))),IntKind.wrap .i64 (st.2+1)))
 else none
 else
 some (.inr st.1)
noncomputable def mV (a:ay) (a1:Int) (w:(List MV)) (ca:Int×(List UInt8)×Bool×Int):Option ((Int×(List UInt8)×Bool×Int)⊕(Int×(List UInt8)×Bool)):=
 if ca.2.2.2<(a.L.length:Int) then
 ix a.L ca.2.2.2 fun y1=>
 bd (
  if (1:Int)≤a1 then
  if a1≤(lE w ([.i .i64 y1.View,.s y1.Value]:List MV)) then
  some (decide (ca.1<y1.View))
  else
  some false
  else
  some false:Option Bool) fun w2=>
 bd (
  if w2 then
  some (y1.View,y1.Value,true)
  else
  some (ca.1,ca.2.1,ca.2.2.1):Option (Int×(List UInt8)×Bool)) fun w3=>
 some (.inl (w3.1,w3.2.1,w3.2.2,IntKind.wrap .i64 (ca.2.2.2+1)))
 else
 some (.inr (ca.1,ca.2.1,ca.2.2.1))
noncomputable def ji (a:ay) (a1:Int):Option (Int×(List UInt8)×Bool):=
 bd (Loop (pW a) (([]:List MV),0)) fun w=>
 bd (Loop (mV a a1 w) ((-1),([]:List UInt8),false,0)) fun w1=>
 if !w1.2.2 then
 some (0,([]:List UInt8),false)
 else
 some (w1.1,w1.2.1,true)
noncomputable def qL (sA:af) (t:ay):Option ((List aa)×Bool):=
 bd (kz sA) fun rA=>
 bd (ji t rA) fun aY=>
 if !aY.2.2 then
 some (([]:List aa),false)
 else
 bd (kW t aY.1 aY.2.1) fun b7=>
 bd (kz sA) fun cu=>
 if (0:Int)≤0∧(0:Int)≤cu∧cu≤(b7.length:Int) then
 some (List.drop (Int.toNat 0) (List.take (Int.toNat cu) b7),true)
 else none
noncomputable def jE (a:ao) (a1:aa):Option (ao×(List aa)×Bool):=
 bd (
  bd (mf a.S) fun rA=>
  if rA≤a1.By then
  some true
  else
  some (!decide (a1.View=a.View)):Option Bool) fun w=>
 if w then
 some (a,([]:List aa),false)
 else
 bd (iL a.cP a1) fun aY=>
 bd (qL a.S aY.1) fun b7=>
 bd (o4 a.Proof) fun cu=>
 bd (
  bd (jD a1) fun fB=>
  if !fB then
  some true
  else
  if !b7.2 then
  some true
  else
  some (decide (a.View≤cu.1)):Option Bool) fun w1=>
 if w1 then
 some ((⟨a.S,a.Me,a.View,a.Has,a.At,a.Value,a.Proof,aY.1⟩:ao),([]:List aa),false)
 else
 some ((⟨a.S,a.Me,a.View,a.Has,a.At,a.Value,b7.1,aY.1⟩:ao),b7.1,true)
noncomputable def qo (sA:af):Option Int:=
 bd (iY sA (4613937818241073152,4607182418800017408)) fun rA=>
 some rA
noncomputable def ga (lA:ar) (t:ar) (a:aa) (bM:Int):Option ((Bool×(List UInt8))×ar):=
 bd (
  if lA.ch then
  some true
  else
  if a.By<0 then
  some true
  else
  bd (mf lA.S) fun rA=>
  if rA≤a.By then
  some true
  else
  bd (jD a) fun aY=>
  some (!aY):Option Bool) fun w=>
 if w then
 some ((false,([]:List UInt8)),t)
 else
 bd (iL t.aZ a) fun b7=>
 bd (ji b7.1 bM) fun cu=>
 some ((cu.2.2,cu.2.1),(⟨t.S,b7.1,t.bA,t.Told,t.ch,t.Value⟩:ar))
noncomputable def jO (lA:ar) (t:ar) (a:aa) (bM:Int):Option ((Bool×(List UInt8))×ar):=
 bd (
  if lA.ch then
  some true
  else
  if a.By<0 then
  some true
  else
  bd (mf lA.S) fun rA=>
  if rA≤a.By then
  some true
  else
  bd (jD a) fun aY=>
  some (!aY):Option Bool) fun w=>
 if w then
 some ((false,([]:List UInt8)),t)
 else
 bd (iL t.bA a) fun b7=>
 bd (ji b7.1 bM) fun cu=>
 some ((cu.2.2,cu.2.1),(⟨t.S,t.aZ,b7.1,t.Told,t.ch,t.Value⟩:ar))
noncomputable def jP (lA:ar) (t:ar) (a:aa) (bM:Int):Option ((Bool×(List UInt8))×ar):=
 bd (
  if lA.ch then
  some true
  else
  if a.By<0 then
  some true
  else
  bd (mf lA.S) fun rA=>
  if rA≤a.By then
  some true
  else
  bd (jD a) fun aY=>
  some (!aY):Option Bool) fun w=>
 if w then
 some ((false,([]:List UInt8)),t)
 else
 bd (iL t.Told a) fun b7=>
 bd (ji b7.1 bM) fun cu=>
 some ((cu.2.2,cu.2.1),(⟨t.S,t.aZ,t.bA,b7.1,t.ch,t.Value⟩:ar))
noncomputable def fQ (lA:ar) (a:aa):Option ar:=
 bd (qo lA.S) fun rA=>
 bd (ga lA lA a rA) fun aY=>
 bd (
  if aY.1.1 then
  some (aY.2.S.F,aY.2.S.T,aY.2.aZ.L,aY.2.bA.L,aY.2.Told.L,true,aY.1.2)
  else
  some (aY.2.S.F,aY.2.S.T,aY.2.aZ.L,aY.2.bA.L,aY.2.Told.L,aY.2.ch,aY.2.Value):Option (Int×Int×(List aa)×(List aa)×(List aa)×Bool×(List UInt8))) fun w=>
 some (⟨(⟨w.1,w.2.1⟩:af),(⟨w.2.2.1⟩:ay),(⟨w.2.2.2.1⟩:ay),(⟨w.2.2.2.2.1⟩:ay),w.2.2.2.2.2.1,w.2.2.2.2.2.2⟩:ar)
noncomputable def mW (lA:ar) (tx:Int) (p:List aa):Option ar:=
 bd (oZ lA.S p) fun rA=>
 if !rA then
 some lA
 else
 bd (o4 p) fun aY=>
 bd (kz lA.S) fun b7=>
 bd (jO lA lA (⟨tx,aY.1,aY.2.1⟩:aa) b7) fun cu=>
 bd (
  if cu.1.1 then
  some (cu.2.S.F,cu.2.S.T,cu.2.aZ.L,cu.2.bA.L,cu.2.Told.L,true,cu.1.2)
  else
  some (cu.2.S.F,cu.2.S.T,cu.2.aZ.L,cu.2.bA.L,cu.2.Told.L,cu.2.ch,cu.2.Value):Option (Int×Int×(List aa)×(List aa)×(List aa)×Bool×(List UInt8))) fun w=>
 some (⟨(⟨w.1,w.2.1⟩:af),(⟨w.2.2.1⟩:ay),(⟨w.2.2.2.1⟩:ay),(⟨w.2.2.2.2.1⟩:ay),w.2.2.2.2.2.1,w.2.2.2.2.2.2⟩:ar)
noncomputable def lQ (x:ab) (tx:Int):Option Int:=
 bd (iK x.By tx) fun rA=>
 some rA
noncomputable def fj (x:List ab) (target:Int) (cmp:ab→Int→Option Int) (st:Int×Int):Option ((Int×Int)⊕Int):=
 if st.1<st.2 then
 if (0:Int)≤1 then
 ix x (IntKind.wrap .i64 (Int.fdiv (IntKind.wrap .u64 (IntKind.wrap .i64 (st.1+st.2))) (2^min (Int.toNat 1) (IntKind.bits .u64)))) fun y=>
 bd (cmp y target) fun rA=>
 bd (
  if rA<0 then
  some (IntKind.wrap .i64 ((IntKind.wrap .i64 (Int.fdiv (IntKind.wrap .u64 (IntKind.wrap .i64 (st.1+st.2))) (2^min (Int.toNat 1) (IntKind.bits .u64))))+1),st.2)
  else
  some (st.1,IntKind.wrap .i64 (Int.fdiv (IntKind.wrap .u64 (IntKind.wrap .i64 (st.1+st.2))) (2^min (Int.toNat 1) (IntKind.bits .u64)))):Option (Int×Int)) fun w1=>
 some (.inl (w1.1,w1.2))
 else none
 else
 some (.inr st.1)
noncomputable def dF (x:List ab) (target:Int) (cmp:ab→Int→Option Int):Option (Int×Bool):=
 bd (Loop (fj x target cmp) (0,(x.length:Int))) fun w=>
 bd (
  if w<(x.length:Int) then
  ix x w fun y1=>
  bd (cmp y1 target) fun aY=>
  some (w,decide (aY=0))
  else
  some (w,false):Option (Int×Bool)) fun w2=>
 some (w2.1,w2.2)
noncomputable def sj (n:au) (sA:af) (i:Int) (rA:ab):Option (Unit×au):=
 bd (dF n.iX rA.By lQ) fun aY=>
 bd (
  if !aY.2 then
  if n.A.View=rA.mc then
  bd (iZ sA rA.mc) fun b7=>
  if b7=i then
  bd (ub sA rA) fun cu=>
  some cu
  else
  some false
  else
  some false
  else
  some false:Option Bool) fun w=>
 bd (
  if w then
  bd (tU 72 n.iX) fun fB=>
  bd (xg 72 fB aY.1 ([rA]:List ab)) fun kC=>
  some (n.A.S.F,n.A.S.T,n.A.Me,n.A.View,n.A.Has,n.A.At,n.A.Value,n.A.Proof,n.A.cP.L,n.L.S.F,n.L.S.T,n.L.aZ.L,n.L.bA.L,n.L.Told.L,n.L.ch,n.L.Value,kC,n.mE)
  else
  some (n.A.S.F,n.A.S.T,n.A.Me,n.A.View,n.A.Has,n.A.At,n.A.Value,n.A.Proof,n.A.cP.L,n.L.S.F,n.L.S.T,n.L.aZ.L,n.L.bA.L,n.L.Told.L,n.L.ch,n.L.Value,n.iX,n.mE):Option (Int×Int×Int×Int×Bool×Int×(List UInt8)×(List aa)×(List aa)×Int×Int×(List aa)×(List aa)×(List aa)×Bool×(List UInt8)×(List ab)×Int)) fun w1=>
 some ((),(⟨(⟨(⟨w1.1,w1.2.1⟩:af),w1.2.2.1,w1.2.2.2.1,w1.2.2.2.2.1,w1.2.2.2.2.2.1,w1.2.2.2.2.2.2.1,w1.2.2.2.2.2.2.2.1,(⟨w1.2.2.2.2.2.2.2.2.1⟩:ay)⟩:ao),(⟨(⟨w1.2.2.2.2.2.2.2.2.2.1,w1.2.2.2.2.2.2.2.2.2.2.1⟩:af),(⟨w1.2.2.2.2.2.2.2.2.2.2.2.1⟩:ay),(⟨w1.2.2.2.2.2.2.2.2.2.2.2.2.1⟩:ay),(⟨w1.2.2.2.2.2.2.2.2.2.2.2.2.2.1⟩:ay),w1.2.2.2.2.2.2.2.2.2.2.2.2.2.2.1,w1.2.2.2.2.2.2.2.2.2.2.2.2.2.2.2.1⟩:ar),w1.2.2.2.2.2.2.2.2.2.2.2.2.2.2.2.2.1,w1.2.2.2.2.2.2.2.2.2.2.2.2.2.2.2.2.2⟩:au))
noncomputable def Bf (sA:af):Option Int:=
 bd (iY sA (4607182418800017408,0)) fun rA=>
 some rA
noncomputable def ud (lA:ar) (tx:Int) (value:List UInt8):Option ar:=
 bd (Bf lA.S) fun rA=>
 bd (jP lA lA (⟨tx,0,value⟩:aa) rA) fun aY=>
 bd (
  if aY.1.1 then
  some (aY.2.S.F,aY.2.S.T,aY.2.aZ.L,aY.2.bA.L,aY.2.Told.L,true,aY.1.2)
  else
  some (aY.2.S.F,aY.2.S.T,aY.2.aZ.L,aY.2.bA.L,aY.2.Told.L,aY.2.ch,aY.2.Value):Option (Int×Int×(List aa)×(List aa)×(List aa)×Bool×(List UInt8))) fun w=>
 some (⟨(⟨w.1,w.2.1⟩:af),(⟨w.2.2.1⟩:ay),(⟨w.2.2.2.1⟩:ay),(⟨w.2.2.2.2.1⟩:ay),w.2.2.2.2.2.1,w.2.2.2.2.2.2⟩:ar)
noncomputable def jk (a:af) (a1:Int) (a2:au) (a3:al):Option (au×(List al)):=
 bd (
  if a3.Kind=1 then
  bd (iZ a a3.View) fun rA=>
  if !decide (a3.gh=rA) then
  some (.inl (a2.A.S.F,a2.A.S.T,a2.A.Me,a2.A.View,a2.A.Has,a2.A.At,a2.A.Value,a2.A.Proof,a2.A.cP.L,a2.L.S.F,a2.L.S.T,a2.L.aZ.L,a2.L.bA.L,a2.L.Told.L,a2.L.ch,a2.L.Value,a2.iX,a2.mE,([]:List al)))
  else
  bd (fP a2.A a3.View a3.Value a3.fE) fun aY=>
  bd (
   if aY.2.2 then
   if ([(⟨2,0,0,([]:List UInt8),([]:List ab),aY.2.1,([]:List aa),(⟨0,0,false,0,([]:List UInt8),([]:List aa)⟩:ab)⟩:al)]:List al).length *192≤2^46 then
   some ([(⟨2,0,0,([]:List UInt8),([]:List ab),aY.2.1,([]:List aa),(⟨0,0,false,0,([]:List UInt8),([]:List aa)⟩:ab)⟩:al)]:List al)
   else none
   else
   some ([]:List al):Option (List al)) fun w1=>
  some (.inr (aY.1.S.F,aY.1.S.T,aY.1.Me,aY.1.View,aY.1.Has,aY.1.At,aY.1.Value,aY.1.Proof,aY.1.cP.L,a2.L.S.F,a2.L.S.T,a2.L.aZ.L,a2.L.bA.L,a2.L.Told.L,a2.L.ch,a2.L.Value,a2.iX,a2.mE,w1))
  else
  bd (
   if a3.Kind=2 then
   bd (jE a2.A a3.oW) fun b7=>
   bd (
    if b7.2.2 then
    if ([(⟨3,a1,0,([]:List UInt8),([]:List ab),(⟨0,0,([]:List UInt8)⟩:aa),b7.2.1,(⟨0,0,false,0,([]:List UInt8),([]:List aa)⟩:ab)⟩:al)]:List al).length *192≤2^46 then
    some ([(⟨3,a1,0,([]:List UInt8),([]:List ab),(⟨0,0,([]:List UInt8)⟩:aa),b7.2.1,(⟨0,0,false,0,([]:List UInt8),([]:List aa)⟩:ab)⟩:al)]:List al)
    else none
    else
    some ([]:List al):Option (List al)) fun w3=>
   bd (fQ a2.L a3.oW) fun cu=>
   some (b7.1.S.F,b7.1.S.T,b7.1.Me,b7.1.View,b7.1.Has,b7.1.At,b7.1.Value,b7.1.Proof,b7.1.cP.L,cu.S.F,cu.S.T,cu.aZ.L,cu.bA.L,cu.Told.L,cu.ch,cu.Value,a2.iX,a2.mE,w3)
   else
   bd (
    if a3.Kind=3 then
    bd (mW a2.L a3.gh a3.Proof) fun fB=>
    some (a2.A.S.F,a2.A.S.T,a2.A.Me,a2.A.View,a2.A.Has,a2.A.At,a2.A.Value,a2.A.Proof,a2.A.cP.L,fB.S.F,fB.S.T,fB.aZ.L,fB.bA.L,fB.Told.L,fB.ch,fB.Value,a2.iX,a2.mE)
    else
    bd (
     if a3.Kind=4 then
     bd (sj a2 a a1 a3.R) fun kC=>
     some (kC.2.A.S.F,kC.2.A.S.T,kC.2.A.Me,kC.2.A.View,kC.2.A.Has,kC.2.A.At,kC.2.A.Value,kC.2.A.Proof,kC.2.A.cP.L,kC.2.L.S.F,kC.2.L.S.T,kC.2.L.aZ.L,kC.2.L.bA.L,kC.2.L.Told.L,kC.2.L.ch,kC.2.L.Value,kC.2.iX,kC.2.mE)
     else
     bd (
      if a3.Kind=5 then
      bd (ud a2.L a3.gh a3.Value) fun pD=>
      some (a2.A.S.F,a2.A.S.T,a2.A.Me,a2.A.View,a2.A.Has,a2.A.At,a2.A.Value,a2.A.Proof,a2.A.cP.L,pD.S.F,pD.S.T,pD.aZ.L,pD.bA.L,pD.Told.L,pD.ch,pD.Value,a2.iX,a2.mE)
      else
      some (a2.A.S.F,a2.A.S.T,a2.A.Me,a2.A.View,a2.A.Has,a2.A.At,a2.A.Value,a2.A.Proof,a2.A.cP.L,a2.L.S.F,a2.L.S.T,a2.L.aZ.L,a2.L.bA.L,a2.L.Told.L,a2.L.ch,a2.L.Value,a2.iX,a2.mE):Option (Int×Int×Int×Int×Bool×Int×(List UInt8)×(List aa)×(List aa)×Int×Int×(List aa)×(List aa)×(List aa)×Bool×(List UInt8)×(List ab)×Int)) fun w6=>
     some w6:Option (Int×Int×Int×Int×Bool×Int×(List UInt8)×(List aa)×(List aa)×Int×Int×(List aa)×(List aa)×(List aa)×Bool×(List UInt8)×(List ab)×Int)) fun w5=>
    some w5:Option (Int×Int×Int×Int×Bool×Int×(List UInt8)×(List aa)×(List aa)×Int×Int×(List aa)×(List aa)×(List aa)×Bool×(List UInt8)×(List ab)×Int)) fun w4=>
   some (w4.1,w4.2.1,w4.2.2.1,w4.2.2.2.1,w4.2.2.2.2.1,w4.2.2.2.2.2.1,w4.2.2.2.2.2.2.1,w4.2.2.2.2.2.2.2.1,w4.2.2.2.2.2.2.2.2.1,w4.2.2.2.2.2.2.2.2.2.1,w4.2.2.2.2.2.2.2.2.2.2.1,w4.2.2.2.2.2.2.2.2.2.2.2.1,w4.2.2.2.2.2.2.2.2.2.2.2.2.1,w4.2.2.2.2.2.2.2.2.2.2.2.2.2.1,w4.2.2.2.2.2.2.2.2.2.2.2.2.2.2.1,w4.2.2.2.2.2.2.2.2.2.2.2.2.2.2.2.1,w4.2.2.2.2.2.2.2.2.2.2.2.2.2.2.2.2.1,w4.2.2.2.2.2.2.2.2.2.2.2.2.2.2.2.2.2,([]:List al)):Option (Int×Int×Int×Int×Bool×Int×(List UInt8)×(List aa)×(List aa)×Int×Int×(List aa)×(List aa)×(List aa)×Bool×(List UInt8)×(List ab)×Int×(List al))) fun w2=>
  some (.inr w2):Option ((Int×Int×Int×Int×Bool×Int×(List UInt8)×(List aa)×(List aa)×Int×Int×(List aa)×(List aa)×(List aa)×Bool×(List UInt8)×(List ab)×Int×(List al))⊕(Int×Int×Int×Int×Bool×Int×(List UInt8)×(List aa)×(List aa)×Int×Int×(List aa)×(List aa)×(List aa)×Bool×(List UInt8)×(List ab)×Int×(List al)))) fun w=>
 match w with
 | .inl p7=>
  bd (
   if p7.2.2.2.2.2.2.2.2.2.2.2.2.2.2.1 then
   some (!a2.L.ch)
   else
   some false:Option Bool) fun w7=>
  bd (
   if w7 then
   if (p7.2.2.2.2.2.2.2.2.2.2.2.2.2.2.2.2.2.2.length+([(⟨5,a1,0,p7.2.2.2.2.2.2.2.2.2.2.2.2.2.2.2.1,([]:List ab),(⟨0,0,([]:List UInt8)⟩:aa),([]:List aa),(⟨0,0,false,0,([]:List UInt8),([]:List aa)⟩:ab)⟩:al)]:List al).length) *192≤2^46 then
   some (p7.2.2.2.2.2.2.2.2.2.2.2.2.2.2.2.2.2.2++([(⟨5,a1,0,p7.2.2.2.2.2.2.2.2.2.2.2.2.2.2.2.1,([]:List ab),(⟨0,0,([]:List UInt8)⟩:aa),([]:List aa),(⟨0,0,false,0,([]:List UInt8),([]:List aa)⟩:ab)⟩:al)]:List al))
   else none
   else
   some p7.2.2.2.2.2.2.2.2.2.2.2.2.2.2.2.2.2.2:Option (List al)) fun w8=>
  some ((⟨(⟨(⟨p7.1,p7.2.1⟩:af),p7.2.2.1,p7.2.2.2.1,p7.2.2.2.2.1,p7.2.2.2.2.2.1,p7.2.2.2.2.2.2.1,p7.2.2.2.2.2.2.2.1,(⟨p7.2.2.2.2.2.2.2.2.1⟩:ay)⟩:ao),(⟨(⟨p7.2.2.2.2.2.2.2.2.2.1,p7.2.2.2.2.2.2.2.2.2.2.1⟩:af),(⟨p7.2.2.2.2.2.2.2.2.2.2.2.1⟩:ay),(⟨p7.2.2.2.2.2.2.2.2.2.2.2.2.1⟩:ay),(⟨p7.2.2.2.2.2.2.2.2.2.2.2.2.2.1⟩:ay),p7.2.2.2.2.2.2.2.2.2.2.2.2.2.2.1,p7.2.2.2.2.2.2.2.2.2.2.2.2.2.2.2.1⟩:ar),p7.2.2.2.2.2.2.2.2.2.2.2.2.2.2.2.2.1,p7.2.2.2.2.2.2.2.2.2.2.2.2.2.2.2.2.2.1⟩:au),w8)
 | .inr p8=>
  bd (
   if p8.2.2.2.2.2.2.2.2.2.2.2.2.2.2.1 then
   some (!a2.L.ch)
   else
   some false:Option Bool) fun w9=>
  bd (
   if w9 then
   if (p8.2.2.2.2.2.2.2.2.2.2.2.2.2.2.2.2.2.2.length+([(⟨5,a1,0,p8.2.2.2.2.2.2.2.2.2.2.2.2.2.2.2.1,([]:List ab),(⟨0,0,([]:List UInt8)⟩:aa),([]:List aa),(⟨0,0,false,0,([]:List UInt8),([]:List aa)⟩:ab)⟩:al)]:List al).length) *192≤2^46 then
   some (p8.2.2.2.2.2.2.2.2.2.2.2.2.2.2.2.2.2.2++([(⟨5,a1,0,p8.2.2.2.2.2.2.2.2.2.2.2.2.2.2.2.1,([]:List ab),(⟨0,0,([]:List UInt8)⟩:aa),([]:List aa),(⟨0,0,false,0,([]:List UInt8),([]:List aa)⟩:ab)⟩:al)]:List al))
   else none
   else
   some p8.2.2.2.2.2.2.2.2.2.2.2.2.2.2.2.2.2.2:Option (List al)) fun w10=>
  some ((⟨(⟨(⟨p8.1,p8.2.1⟩:af),p8.2.2.1,p8.2.2.2.1,p8.2.2.2.2.1,p8.2.2.2.2.2.1,p8.2.2.2.2.2.2.1,p8.2.2.2.2.2.2.2.1,(⟨p8.2.2.2.2.2.2.2.2.1⟩:ay)⟩:ao),(⟨(⟨p8.2.2.2.2.2.2.2.2.2.1,p8.2.2.2.2.2.2.2.2.2.2.1⟩:af),(⟨p8.2.2.2.2.2.2.2.2.2.2.2.1⟩:ay),(⟨p8.2.2.2.2.2.2.2.2.2.2.2.2.1⟩:ay),(⟨p8.2.2.2.2.2.2.2.2.2.2.2.2.2.1⟩:ay),p8.2.2.2.2.2.2.2.2.2.2.2.2.2.2.1,p8.2.2.2.2.2.2.2.2.2.2.2.2.2.2.2.1⟩:ar),p8.2.2.2.2.2.2.2.2.2.2.2.2.2.2.2.2.1,p8.2.2.2.2.2.2.2.2.2.2.2.2.2.2.2.2.2.1⟩:au),w10)
noncomputable def sk (a:ao):Option ab:=
 some (⟨a.Me,a.View,a.Has,a.At,a.Value,a.Proof⟩:ab)
noncomputable def qM (a:ao) (view:Int):Option (ao×ab×Bool):=
 bd (
  if view≤a.View then
  some true
  else
  some (decide ((100000:Int)<view)):Option Bool) fun w=>
 if w then
 some (a,(⟨0,0,false,0,([]:List UInt8),([]:List aa)⟩:ab),false)
 else
 bd (sk (⟨a.S,a.Me,view,a.Has,a.At,a.Value,a.Proof,(⟨([]:List aa)⟩:ay)⟩:ao)) fun rA=>
 some ((⟨a.S,a.Me,view,a.Has,a.At,a.Value,a.Proof,(⟨([]:List aa)⟩:ay)⟩:ao),rA,true)
noncomputable def vV (x_:af) (x_1:Int) (n:au) (view:Int):Option (au×(List al)):=
 bd (qM n.A view) fun rA=>
 if !rA.2.2 then
 some (n,([]:List al))
 else
 some ((⟨rA.1,n.L,([]:List ab),n.mE⟩:au),([(⟨4,0,0,([]:List UInt8),([]:List ab),(⟨0,0,([]:List UInt8)⟩:aa),([]:List aa),rA.2.1⟩:al)]:List al))
noncomputable def nX (a:af) (a1:Int) (a2:au) (a3:List UInt8):Option (au×(List al)):=
 bd (qn a) fun rA=>
 bd (
  bd (iZ a a2.A.View) fun aY=>
  if !decide (aY=a1) then
  some true
  else
  some (decide (a2.A.View≤a2.mE)):Option Bool) fun w=>
 if w then
 some (a2,([]:List al))
 else
 bd (
  if (0:Int)<a2.A.View then
  some (decide ((a2.iX.length:Int)<rA))
  else
  some false:Option Bool) fun w1=>
 if w1 then
 some (a2,([]:List al))
 else
 bd (
  if (0:Int)<a2.A.View then
  if (0:Int)≤0∧(0:Int)≤rA∧rA≤(a2.iX.length:Int) then
  bd (tU 72 (List.drop (Int.toNat 0) (List.take (Int.toNat rA) a2.iX))) fun b7=>
  bd (pV a b7) fun cu=>
  bd (
   if cu.2 then
   some (1,a1,a2.A.View,cu.1,b7,0,0,([]:List UInt8),([]:List aa),0,0,false,0,([]:List UInt8),([]:List aa))
   else
   some (1,a1,a2.A.View,a3,b7,0,0,([]:List UInt8),([]:List aa),0,0,false,0,([]:List UInt8),([]:List aa)):Option (Int×Int×Int×(List UInt8)×(List ab)×Int×Int×(List UInt8)×(List aa)×Int×Int×Bool×Int×(List UInt8)×(List aa))) fun w3=>
  some w3
  else none
  else
  some (1,a1,a2.A.View,a3,([]:List ab),0,0,([]:List UInt8),([]:List aa),0,0,false,0,([]:List UInt8),([]:List aa)):Option (Int×Int×Int×(List UInt8)×(List ab)×Int×Int×(List UInt8)×(List aa)×Int×Int×Bool×Int×(List UInt8)×(List aa))) fun w2=>
 some ((⟨a2.A,a2.L,a2.iX,w2.2.2.1⟩:au),([(⟨w2.1,w2.2.1,w2.2.2.1,w2.2.2.2.1,w2.2.2.2.2.1,(⟨w2.2.2.2.2.2.1,w2.2.2.2.2.2.2.1,w2.2.2.2.2.2.2.2.1⟩:aa),w2.2.2.2.2.2.2.2.2.1,(⟨w2.2.2.2.2.2.2.2.2.2.1,w2.2.2.2.2.2.2.2.2.2.2.1,w2.2.2.2.2.2.2.2.2.2.2.2.1,w2.2.2.2.2.2.2.2.2.2.2.2.2.1,w2.2.2.2.2.2.2.2.2.2.2.2.2.2.1,w2.2.2.2.2.2.2.2.2.2.2.2.2.2.2⟩:ab)⟩:al)]:List al))
noncomputable def fF (c:aw) (i:Int):Option ((List UInt8)×Bool):=
 bd (
  bd (dV c i false) fun rA=>
  if !rA then
  some true
  else
  ix c.N i fun y=>
  some (!y.L.ch):Option Bool) fun w=>
 if w then
 some (([]:List UInt8),false)
 else
 ix c.N i fun y1=>
 some (y1.L.Value,true)
noncomputable def mw (sA:cM):Option Bool:=
 bd (
  if (1:Int)≤sA.F then
  if sA.F≤5 then
  if (0:Int)≤sA.T then
  some (decide (sA.T≤sA.F))
  else
  some false
  else
  some false
  else
  some false:Option Bool) fun w=>
 some w
noncomputable def xY (sA:cM):Option Int:=
 some (IntKind.wrap .i64 ((IntKind.wrap .i64 ((IntKind.wrap .i64 (3 *sA.F))+(IntKind.wrap .i64 (2 *sA.T))))+1))
noncomputable def Ik (sA:cM) (me:Int):Option (dA×Int):=
 bd (
  bd (mw sA) fun rA=>
  if !rA then
  some true
  else
  if me<0 then
  some true
  else
  bd (xY sA) fun aY=>
  some (decide (aY≤me)):Option Bool) fun w=>
 if w then
 some ((⟨(⟨0,0⟩:cM),0,0,false,0,([]:List UInt8),([]:List aa),(⟨([]:List aa)⟩:bS)⟩:dA),1)
 else
 some ((⟨sA,me,0,false,0,([]:List UInt8),([]:List aa),(⟨([]:List aa)⟩:bS)⟩:dA),0)
noncomputable def Il (sA:cM):Option (cC×Int):=
 bd (mw sA) fun rA=>
 if !rA then
 some ((⟨(⟨0,0⟩:cM),(⟨([]:List aa)⟩:bS),(⟨([]:List aa)⟩:bS),(⟨([]:List aa)⟩:bS),false,([]:List UInt8)⟩:cC),1)
 else
 some ((⟨sA,(⟨([]:List aa)⟩:bS),(⟨([]:List aa)⟩:bS),(⟨([]:List aa)⟩:bS),false,([]:List UInt8)⟩:cC),0)
noncomputable def GY (sA:cM) (i:Int):Option (ol×Int):=
 bd (Ik sA i) fun rA=>
 if !decide (rA.2=0) then
 some ((⟨(⟨(⟨0,0⟩:cM),0,0,false,0,([]:List UInt8),([]:List aa),(⟨([]:List aa)⟩:bS)⟩:dA),(⟨(⟨0,0⟩:cM),(⟨([]:List aa)⟩:bS),(⟨([]:List aa)⟩:bS),(⟨([]:List aa)⟩:bS),false,([]:List UInt8)⟩:cC),([]:List ab),0⟩:ol),rA.2)
 else
 bd (Il sA) fun aY=>
 some ((⟨rA.1,aY.1,([]:List ab),(-1)⟩:ol),0)
noncomputable def Ei (sA:cM) (view:Int):Option Int:=
 bd (xY sA) fun rA=>
 if !decide (rA=0) then
 some (Int.tmod (imax view 0) rA)
 else none
noncomputable def Mc (p:List aa):Option (Int×(List UInt8)×Bool):=
 if (p.length:Int)=0 then
 some ((-1),([]:List UInt8),false)
 else
 ix p 0 fun y=>
 ix p 0 fun y1=>
 some (y.View,y1.Value,true)
noncomputable def O9 (sA:cM):Option Int:=
 some (IntKind.wrap .i64 ((IntKind.wrap .i64 (sA.F+sA.T))+1))
noncomputable def J8 (a1:List ab) (st:Int×(List UInt8)×Int):Option ((Int×(List UInt8)×Int)⊕(Int×(List UInt8))):=
 if st.2.2<(a1.length:Int) then
 ix a1 st.2.2 fun y=>
 bd (Mc y.Proof) fun rA=>
 bd (
  if rA.2.2 then
  some (decide (st.1<rA.1))
  else
  some false:Option Bool) fun w1=>
 bd (
  if w1 then
  some (rA.1,rA.2.1)
  else
  some (st.1,st.2.1):Option (Int×(List UInt8))) fun w2=>
 some (.inl (w2.1,w2.2,IntKind.wrap .i64 (st.2.2+1)))
 else
 some (.inr (st.1,st.2.1))
noncomputable def J9 (a1:List ab) (w:Int×(List UInt8)) (ca:Int) (cS:Int×Int):Option ((Int×Int)⊕Int):=
 if cS.2<(a1.length:Int) then
 bd (
  ix a1 cS.2 fun y1=>
  if y1.Has then
  ix a1 cS.2 fun y2=>
  if w.1<y2.View then
  ix a1 ca fun y3=>
  if y3.Has then
  ix a1 ca fun y4=>
  if w.1<y4.View then
  ix a1 cS.2 fun y5=>
  ix a1 ca fun y6=>
  some (decide (y5.Value=y6.Value))
  else
  some false
  else
  some false
  else
  some false
  else
  some false:Option Bool) fun w5=>
 bd (
  if w5 then
  some (IntKind.wrap .i64 (cS.1+1))
  else
  some cS.1:Option Int) fun w6=>
 some (.inl (w6,IntKind.wrap .i64 (cS.2+1)))
 else
 some (.inr cS.1)
noncomputable def Ka (a:cM) (a1:List ab) (w:Int×(List UInt8)) (ca:Int):Option (Int⊕(Unit⊕((List UInt8)×Bool))):=
 if ca<(a1.length:Int) then
 bd (Loop (J9 a1 w ca) (0,0)) fun w4=>
 bd (O9 a) fun aY=>
 if aY≤w4 then
 ix a1 ca fun y7=>
 some (.inr (.inr (y7.Value,true)))
 else
 some (.inl (IntKind.wrap .i64 (ca+1)))
 else
 some (.inr (.inl ()))
noncomputable def Pa (a:cM) (a1:List ab):Option ((List UInt8)×Bool):=
 bd (Loop (J8 a1) ((-1),([]:List UInt8),0)) fun w=>
 bd (Loop (Ka a a1 w) 0) fun w3=>
 match w3 with
 | .inl p5=>
  some (w.2,decide ((0:Int)≤w.1))
 | .inr p6=>
  some (p6.1,p6.2)
noncomputable def Sf (sA:cM):Option Int:=
 some (IntKind.wrap .i64 ((IntKind.wrap .i64 ((IntKind.wrap .i64 (2 *sA.F))+(IntKind.wrap .i64 (2 *sA.T))))+1))
noncomputable def xj (a:aa):Option Bool:=
 bd (
  if (0:Int)≤a.By then
  if (0:Int)≤a.View then
  if a.View≤100000 then
  some (decide ((a.Value.length:Int)≤6000))
  else
  some false
  else
  some false
  else
  some false:Option Bool) fun w=>
 some w
noncomputable def sZ (sA:cM):Option Int:=
 some (IntKind.wrap .i64 ((IntKind.wrap .i64 ((IntKind.wrap .i64 (2 *sA.F))+sA.T))+1))
noncomputable def Kb (a:cM) (a1:List aa) (st:Int):Option (Int⊕(Unit⊕Bool)):=
 if st<(a1.length:Int) then
 ix a1 st fun y=>
 bd (
  bd (xj y) fun b7=>
  if !b7 then
  some true
  else
  bd (xY a) fun cu=>
  if cu≤y.By then
  some true
  else
  ix a1 0 fun y1=>
  if !decide (y.View=y1.View) then
  some true
  else
  ix a1 0 fun y2=>
  if !decide (y.Value=y2.Value) then
  some true
  else
  if (0:Int)<st then
  ix a1 (IntKind.wrap .i64 (st-1)) fun y3=>
  some (decide (y.By≤y3.By))
  else
  some false:Option Bool) fun w2=>
 if w2 then
 some (.inr (.inr false))
 else
 some (.inl (IntKind.wrap .i64 (st+1)))
 else
 some (.inr (.inl ()))
noncomputable def GZ (a:cM) (a1:List aa):Option Bool:=
 bd (
  bd (mw a) fun rA=>
  if !rA then
  some true
  else
  bd (sZ a) fun aY=>
  some (!decide ((a1.length:Int)=aY)):Option Bool) fun w=>
 if w then
 some false
 else
 bd (Loop (Kb a a1) 0) fun w1=>
 match w1 with
 | .inl p1=>
  some true
 | .inr p2=>
  some p2
noncomputable def NL (a:cM) (a1:ab):Option Bool:=
 bd (
  bd (mw a) fun rA=>
  if !rA then
  some true
  else
  if a1.By<0 then
  some true
  else
  bd (xY a) fun aY=>
  if aY≤a1.By then
  some true
  else
  if a1.mc<1 then
  some true
  else
  some (decide ((100000:Int)<a1.mc)):Option Bool) fun w=>
 if w then
 some false
 else
 bd (
  if a1.Has then
  if a1.View<0 then
  some true
  else
  if a1.mc≤a1.View then
  some true
  else
  if (6000:Int)<(a1.Value.length:Int) then
  some true
  else
  if !a1.Has then
  if !decide (a1.View=0) then
  some true
  else
  some (!decide (a1.Value=([]:List UInt8)))
  else
  some false
  else
  if !a1.Has then
  if !decide (a1.View=0) then
  some true
  else
  some (!decide (a1.Value=([]:List UInt8)))
  else
  some false:Option Bool) fun w1=>
 if w1 then
 some false
 else
 bd (
  if (a1.Proof.length:Int)=0 then
  some true
  else
  bd (GZ a a1.Proof) fun b7=>
  if b7 then
  ix a1.Proof 0 fun y=>
  some (decide (y.View<a1.mc))
  else
  some false:Option Bool) fun w2=>
 some w2
noncomputable def Kc (sA:cM) (view:Int) (lA:List ab) (st:Int):Option (Int⊕(Unit⊕Bool)):=
 if st<(lA.length:Int) then
 bd (
  ix lA st fun y=>
  bd (NL sA y) fun b7=>
  if !b7 then
  some true
  else
  ix lA st fun y1=>
  if !decide (y1.mc=view) then
  some true
  else
  if (0:Int)<st then
  ix lA (IntKind.wrap .i64 (st-1)) fun y2=>
  ix lA st fun y3=>
  some (decide (y3.By≤y2.By))
  else
  some false:Option Bool) fun w2=>
 if w2 then
 some (.inr (.inr false))
 else
 some (.inl (IntKind.wrap .i64 (st+1)))
 else
 some (.inr (.inl ()))
noncomputable def Pb (sA:cM) (view:Int) (lA:List ab):Option Bool:=
 bd (
  bd (mw sA) fun rA=>
  if !rA then
  some true
  else
  bd (Sf sA) fun aY=>
  some (!decide ((lA.length:Int)=aY)):Option Bool) fun w=>
 if w then
 some false
 else
 bd (Loop (Kc sA view lA) 0) fun w1=>
 match w1 with
 | .inl p1=>
  some true
 | .inr p2=>
  some p2
noncomputable def B8 (sA:cM) (view:Int) (lA:List ab) (value:List UInt8):Option Bool:=
 bd (Pb sA view lA) fun rA=>
 if !rA then
 some false
 else
 bd (Pa sA lA) fun aY=>
 bd (
  if !aY.2 then
  some true
  else
  some (decide (aY.1=value)):Option Bool) fun w=>
 some w
noncomputable def Ke (a:dA) (view:Int) (value:List UInt8) (z1:List ab):Option (dA×aa×Bool):=
 bd (
  if view=0 then
  some (decide ((z1.length:Int)=0))
  else
  some false:Option Bool) fun w=>
 bd (
  if !decide (view=a.View) then
  some true
  else
  if a.Has then
  if a.At=view then
  some true
  else
  if (6000:Int)<(value.length:Int) then
  some true
  else
  if !w then
  bd (B8 a.S view z1 value) fun rA=>
  some (!rA)
  else
  some false
  else
  if (6000:Int)<(value.length:Int) then
  some true
  else
  if !w then
  bd (B8 a.S view z1 value) fun aY=>
  some (!aY)
  else
  some false:Option Bool) fun w1=>
 if w1 then
 some (a,(⟨0,0,([]:List UInt8)⟩:aa),false)
 else
 some ((⟨a.S,a.Me,a.View,true,view,value,a.Proof,a.cP⟩:dA),(⟨a.Me,view,value⟩:aa),true)
noncomputable def xk (a:bS) (a1:aa) (st:(List aa)×(List aa)×Bool×Int):Option (((List aa)×(List aa)×Bool×Int)⊕(((List aa)×(List aa)×Bool)⊕((List aa)×Bool))):=
 if st.2.2.2<(a.L.length:Int) then
 ix a.L st.2.2.2 fun y=>
 bd (
  if y.By=a1.By then
  some (decide (a1.View≤y.View))
  else
  some false:Option Bool) fun w1=>
 if w1 then
 some (.inr (.inr (a.L,false)))
 else
 bd (
  if !st.2.2.1 then
  some (decide (a1.By≤y.By))
  else
  some false:Option Bool) fun w2=>
 bd (
  if w2 then
  if (st.2.1.length+([a1]:List aa).length) *32≤2^46 then
  some (st.2.1++([a1]:List aa),true)
  else none
  else
  some (st.2.1,st.2.2.1):Option ((List aa)×Bool)) fun w3=>
 bd (
  if !decide (y.By=a1.By) then
  if (w3.1.length+([y]:List aa).length) *32≤2^46 then
  some (w3.1++([y]:List aa))
  else none
  else
  some w3.1:Option (List aa)) fun w4=>
 some (.inl (st.1,w4,w3.2,IntKind.wrap .i64 (st.2.2.2+1)))
 else
 some (.inr (.inl (st.1,st.2.1,st.2.2.1)))
noncomputable def xl (a:bS) (a1:aa):Option (bS×Bool):=
 bd (xj a1) fun rA=>
 if !rA then
 some (a,false)
 else
 bd (Loop (xk a a1) (([]:List aa),([]:List aa),false,0)) fun w=>
 match w with
 | .inl p3=>
  bd (
   if !p3.2.2 then
   if (p3.2.1.length+([a1]:List aa).length) *32≤2^46 then
   some (p3.2.1++([a1]:List aa))
   else none
   else
   some p3.2.1:Option (List aa)) fun w5=>
  some ((⟨w5⟩:bS),true)
 | .inr p4=>
  some ((⟨p4.1⟩:bS),p4.2)
noncomputable def pX (t:bS) (view:Int) (value:List UInt8) (st:(List aa)×Int):Option (((List aa)×Int)⊕(List aa)):=
 if st.2<(t.L.length:Int) then
 bd (
  ix t.L st.2 fun y=>
  if y.View=view then
  ix t.L st.2 fun y1=>
  some (decide (y1.Value=value))
  else
  some false:Option Bool) fun w1=>
 bd (
  if w1 then
  ix t.L st.2 fun y2=>
  if (st.1.length+([y2]:List aa).length) *32≤2^46 then
  some (st.1++([y2]:List aa))
  else none
  else
  some st.1:Option (List aa)) fun w2=>
 some (.inl (w2,IntKind.wrap .i64 (st.2+1)))
 else
 some (.inr st.1)
noncomputable def ue (t:bS) (view:Int) (value:List UInt8):Option (List aa):=
 bd (Loop (pX t view value) (([]:List aa),0)) fun w=>
 some w
noncomputable def Bg (t:bS) (view:Int) (value:List UInt8):Option Int:=
 bd (ue t view value) fun rA=>
 some (rA.length:Int)
noncomputable def uf (t:bS) (bM:Int) (st:Int×Int):Option ((Int×Int)⊕Int):=
 bd (
  if st.2<(t.L.length:Int) then
  some (decide ((1:Int)≤bM))
  else
  some false:Option Bool) fun w1=>
 if w1 then
 ix t.L st.2 fun y=>
 bd (
  bd (Bg t y.View y.Value) fun rA=>
  if bM≤rA then
  if st.1<0 then
  some true
  else
  ix t.L st.1 fun y1=>
  some (decide (y1.View<y.View))
  else
  some false:Option Bool) fun w2=>
 bd (
  if w2 then
  some st.2
  else
  some st.1:Option Int) fun w3=>
 some (.inl (w3,IntKind.wrap .i64 (st.2+1)))
 else
 some (.inr st.1)
noncomputable def z6 (t:bS) (bM:Int):Option (Int×(List UInt8)×Bool):=
 bd (Loop (uf t bM) ((-1),0)) fun w=>
 if w<0 then
 some (0,([]:List UInt8),false)
 else
 ix t.L w fun y2=>
 ix t.L w fun y3=>
 some (y2.View,y3.Value,true)
noncomputable def Ej (sA:cM) (t:bS):Option ((List aa)×Bool):=
 bd (sZ sA) fun rA=>
 bd (z6 t rA) fun aY=>
 if !aY.2.2 then
 some (([]:List aa),false)
 else
 bd (ue t aY.1 aY.2.1) fun b7=>
 if (0:Int)≤0∧(0:Int)≤rA∧rA≤(b7.length:Int) then
 some (List.drop (Int.toNat 0) (List.take (Int.toNat rA) b7),true)
 else none
noncomputable def Ek (a:dA) (a1:aa):Option (dA×(List aa)×Bool):=
 bd (
  bd (xj a1) fun rA=>
  if !rA then
  some true
  else
  bd (xY a.S) fun aY=>
  if aY≤a1.By then
  some true
  else
  some (!decide (a1.View=a.View)):Option Bool) fun w=>
 if w then
 some (a,([]:List aa),false)
 else
 bd (xl a.cP a1) fun b7=>
 bd (Ej a.S b7.1) fun cu=>
 bd (Mc a.Proof) fun fB=>
 bd (
  if !cu.2 then
  some true
  else
  ix cu.1 0 fun y=>
  some (decide (y.View≤fB.1)):Option Bool) fun w1=>
 if w1 then
 some ((⟨a.S,a.Me,a.View,a.Has,a.At,a.Value,a.Proof,b7.1⟩:dA),([]:List aa),false)
 else
 some ((⟨a.S,a.Me,a.View,a.Has,a.At,a.Value,cu.1,b7.1⟩:dA),cu.1,true)
noncomputable def vW (lA:cC) (t:bS) (bM:Int):Option cC:=
 bd (z6 t bM) fun rA=>
 bd (
  if rA.2.2 then
  some (lA.S.F,lA.S.T,lA.aZ.L,lA.bA.L,lA.Told.L,true,rA.2.1)
  else
  some (lA.S.F,lA.S.T,lA.aZ.L,lA.bA.L,lA.Told.L,lA.ch,lA.Value):Option (Int×Int×(List aa)×(List aa)×(List aa)×Bool×(List UInt8))) fun w=>
 some (⟨(⟨w.1,w.2.1⟩:cM),(⟨w.2.2.1⟩:bS),(⟨w.2.2.2.1⟩:bS),(⟨w.2.2.2.2.1⟩:bS),w.2.2.2.2.2.1,w.2.2.2.2.2.2⟩:cC)
noncomputable def Sg (sA:cM):Option Int:=
 some (IntKind.wrap .i64 ((IntKind.wrap .i64 ((IntKind.wrap .i64 (3 *sA.F))+sA.T))+1))
noncomputable def Im (lA:cC) (a:aa):Option cC:=
 bd (
  if lA.ch then
  some true
  else
  bd (xY lA.S) fun rA=>
  some (decide (rA≤a.By)):Option Bool) fun w=>
 if w then
 some lA
 else
 bd (xl lA.aZ a) fun aY=>
 bd (xj a) fun b7=>
 if !b7 then
 some (⟨lA.S,aY.1,lA.bA,lA.Told,lA.ch,lA.Value⟩:cC)
 else
 bd (Sg lA.S) fun cu=>
 bd (vW (⟨lA.S,aY.1,lA.bA,lA.Told,lA.ch,lA.Value⟩:cC) aY.1 cu) fun fB=>
 some fB
noncomputable def FP (lA:cC) (tx:Int) (p:List aa):Option cC:=
 bd (
  if lA.ch then
  some true
  else
  if tx<0 then
  some true
  else
  bd (xY lA.S) fun rA=>
  if rA≤tx then
  some true
  else
  bd (GZ lA.S p) fun aY=>
  some (!aY):Option Bool) fun w=>
 if w then
 some lA
 else
 ix p 0 fun y=>
 ix p 0 fun y1=>
 bd (xl lA.bA (⟨tx,y.View,y1.Value⟩:aa)) fun b7=>
 bd (sZ lA.S) fun cu=>
 bd (vW (⟨lA.S,lA.aZ,b7.1,lA.Told,lA.ch,lA.Value⟩:cC) b7.1 cu) fun fB=>
 some fB
noncomputable def Pc (a2:ol) (a3:ab) (st:(List ab)×Bool×Int):Option (((List ab)×Bool×Int)⊕(((List ab)×Bool)⊕(List ab))):=
 if st.2.2<(a2.iX.length:Int) then
 ix a2.iX st.2.2 fun y=>
 if y.By=a3.By then
 some (.inr (.inr a2.iX))
 else
 bd (
  if !st.2.1 then
  ix a2.iX st.2.2 fun y1=>
  some (decide (a3.By<y1.By))
  else
  some false:Option Bool) fun w2=>
 bd (
  if w2 then
  if (st.1.length+([a3]:List ab).length) *72≤2^46 then
  some (st.1++([a3]:List ab),true)
  else none
  else
  some (st.1,st.2.1):Option ((List ab)×Bool)) fun w3=>
 ix a2.iX st.2.2 fun y2=>
 if (w3.1.length+([y2]:List ab).length) *72≤2^46 then
 some (.inl (w3.1++([y2]:List ab),w3.2,IntKind.wrap .i64 (st.2.2+1)))
 else none
 else
 some (.inr (.inl (st.1,st.2.1)))
noncomputable def U8 (a:cM) (a1:Int) (a2:ol) (a3:ab):Option (List ab):=
 bd (
  if !decide (a2.A.View=a3.mc) then
  some true
  else
  bd (Ei a a3.mc) fun rA=>
  if !decide (rA=a1) then
  some true
  else
  bd (NL a a3) fun aY=>
  some (!aY):Option Bool) fun w=>
 if w then
 some a2.iX
 else
 bd (Loop (Pc a2 a3) (([]:List ab),false,0)) fun w1=>
 match w1 with
 | .inl p2=>
  bd (
   if !p2.2 then
   if (p2.1.length+([a3]:List ab).length) *72≤2^46 then
   some (p2.1++([a3]:List ab))
   else none
   else
   some p2.1:Option (List ab)) fun w4=>
  some w4
 | .inr p3=>
  some p3
noncomputable def Sh (sA:cM):Option Int:=
 some (IntKind.wrap .i64 (sA.F+1))
noncomputable def Si (lA:cC) (tx:Int) (value:List UInt8):Option cC:=
 bd (
  if lA.ch then
  some true
  else
  if tx<0 then
  some true
  else
  bd (xY lA.S) fun rA=>
  if rA≤tx then
  some true
  else
  some (decide ((6000:Int)<(value.length:Int))):Option Bool) fun w=>
 if w then
 some lA
 else
 bd (xl lA.Told (⟨tx,0,value⟩:aa)) fun aY=>
 bd (Sh lA.S) fun b7=>
 bd (vW (⟨lA.S,lA.aZ,lA.bA,aY.1,lA.ch,lA.Value⟩:cC) aY.1 b7) fun cu=>
 some cu
noncomputable def Pd (a:cM) (a1:Int) (a2:ol) (a3:eg):Option (ol×(List eg)):=
 bd (
  if a3.Kind=1 then
  bd (Ei a a3.View) fun rA=>
  bd (
   if a3.gh=rA then
   bd (Ke a2.A a3.View a3.Value a3.fE) fun aY=>
   bd (
    if aY.2.2 then
    if (([]:List eg).length+([(⟨2,0,0,([]:List UInt8),([]:List ab),aY.2.1,([]:List aa),(⟨0,0,false,0,([]:List UInt8),([]:List aa)⟩:ab)⟩:eg)]:List eg).length) *192≤2^46 then
    some (([]:List eg)++([(⟨2,0,0,([]:List UInt8),([]:List ab),aY.2.1,([]:List aa),(⟨0,0,false,0,([]:List UInt8),([]:List aa)⟩:ab)⟩:eg)]:List eg))
    else none
    else
    some ([]:List eg):Option (List eg)) fun w2=>
   some (aY.1.S.F,aY.1.S.T,aY.1.Me,aY.1.View,aY.1.Has,aY.1.At,aY.1.Value,aY.1.Proof,aY.1.cP.L,a2.L.S.F,a2.L.S.T,a2.L.aZ.L,a2.L.bA.L,a2.L.Told.L,a2.L.ch,a2.L.Value,a2.iX,a2.mE,w2)
   else
   some (a2.A.S.F,a2.A.S.T,a2.A.Me,a2.A.View,a2.A.Has,a2.A.At,a2.A.Value,a2.A.Proof,a2.A.cP.L,a2.L.S.F,a2.L.S.T,a2.L.aZ.L,a2.L.bA.L,a2.L.Told.L,a2.L.ch,a2.L.Value,a2.iX,a2.mE,([]:List eg)):Option (Int×Int×Int×Int×Bool×Int×(List UInt8)×(List aa)×(List aa)×Int×Int×(List aa)×(List aa)×(List aa)×Bool×(List UInt8)×(List ab)×Int×(List eg))) fun w1=>
  some w1
  else
  bd (
   if a3.Kind=2 then
   bd (Ek a2.A a3.oW) fun b7=>
   bd (
    if b7.2.2 then
    if (([]:List eg).length+([(⟨3,a1,0,([]:List UInt8),([]:List ab),(⟨0,0,([]:List UInt8)⟩:aa),b7.2.1,(⟨0,0,false,0,([]:List UInt8),([]:List aa)⟩:ab)⟩:eg)]:List eg).length) *192≤2^46 then
    some (([]:List eg)++([(⟨3,a1,0,([]:List UInt8),([]:List ab),(⟨0,0,([]:List UInt8)⟩:aa),b7.2.1,(⟨0,0,false,0,([]:List UInt8),([]:List aa)⟩:ab)⟩:eg)]:List eg))
    else none
    else
    some ([]:List eg):Option (List eg)) fun w4=>
   bd (Im a2.L a3.oW) fun cu=>
   some (b7.1.S.F,b7.1.S.T,b7.1.Me,b7.1.View,b7.1.Has,b7.1.At,b7.1.Value,b7.1.Proof,b7.1.cP.L,cu.S.F,cu.S.T,cu.aZ.L,cu.bA.L,cu.Told.L,cu.ch,cu.Value,a2.iX,a2.mE,w4)
   else
   bd (
    if a3.Kind=3 then
    bd (FP a2.L a3.gh a3.Proof) fun fB=>
    some (a2.A.S.F,a2.A.S.T,a2.A.Me,a2.A.View,a2.A.Has,a2.A.At,a2.A.Value,a2.A.Proof,a2.A.cP.L,fB.S.F,fB.S.T,fB.aZ.L,fB.bA.L,fB.Told.L,fB.ch,fB.Value,a2.iX,a2.mE)
    else
    bd (
     if a3.Kind=4 then
     bd (U8 a a1 a2 a3.R) fun kC=>
     some (a2.A.S.F,a2.A.S.T,a2.A.Me,a2.A.View,a2.A.Has,a2.A.At,a2.A.Value,a2.A.Proof,a2.A.cP.L,a2.L.S.F,a2.L.S.T,a2.L.aZ.L,a2.L.bA.L,a2.L.Told.L,a2.L.ch,a2.L.Value,kC,a2.mE)
     else
     bd (
      if a3.Kind=5 then
      bd (Si a2.L a3.gh a3.Value) fun pD=>
      some (a2.A.S.F,a2.A.S.T,a2.A.Me,a2.A.View,a2.A.Has,a2.A.At,a2.A.Value,a2.A.Proof,a2.A.cP.L,pD.S.F,pD.S.T,pD.aZ.L,pD.bA.L,pD.Told.L,pD.ch,pD.Value,a2.iX,a2.mE)
      else
      some (a2.A.S.F,a2.A.S.T,a2.A.Me,a2.A.View,a2.A.Has,a2.A.At,a2.A.Value,a2.A.Proof,a2.A.cP.L,a2.L.S.F,a2.L.S.T,a2.L.aZ.L,a2.L.bA.L,a2.L.Told.L,a2.L.ch,a2.L.Value,a2.iX,a2.mE):Option (Int×Int×Int×Int×Bool×Int×(List UInt8)×(List aa)×(List aa)×Int×Int×(List aa)×(List aa)×(List aa)×Bool×(List UInt8)×(List ab)×Int)) fun w7=>
     some w7:Option (Int×Int×Int×Int×Bool×Int×(List UInt8)×(List aa)×(List aa)×Int×Int×(List aa)×(List aa)×(List aa)×Bool×(List UInt8)×(List ab)×Int)) fun w6=>
    some w6:Option (Int×Int×Int×Int×Bool×Int×(List UInt8)×(List aa)×(List aa)×Int×Int×(List aa)×(List aa)×(List aa)×Bool×(List UInt8)×(List ab)×Int)) fun w5=>
   some (w5.1,w5.2.1,w5.2.2.1,w5.2.2.2.1,w5.2.2.2.2.1,w5.2.2.2.2.2.1,w5.2.2.2.2.2.2.1,w5.2.2.2.2.2.2.2.1,w5.2.2.2.2.2.2.2.2.1,w5.2.2.2.2.2.2.2.2.2.1,w5.2.2.2.2.2.2.2.2.2.2.1,w5.2.2.2.2.2.2.2.2.2.2.2.1,w5.2.2.2.2.2.2.2.2.2.2.2.2.1,w5.2.2.2.2.2.2.2.2.2.2.2.2.2.1,w5.2.2.2.2.2.2.2.2.2.2.2.2.2.2.1,w5.2.2.2.2.2.2.2.2.2.2.2.2.2.2.2.1,w5.2.2.2.2.2.2.2.2.2.2.2.2.2.2.2.2.1,w5.2.2.2.2.2.2.2.2.2.2.2.2.2.2.2.2.2,([]:List eg)):Option (Int×Int×Int×Int×Bool×Int×(List UInt8)×(List aa)×(List aa)×Int×Int×(List aa)×(List aa)×(List aa)×Bool×(List UInt8)×(List ab)×Int×(List eg))) fun w3=>
  some w3:Option (Int×Int×Int×Int×Bool×Int×(List UInt8)×(List aa)×(List aa)×Int×Int×(List aa)×(List aa)×(List aa)×Bool×(List UInt8)×(List ab)×Int×(List eg))) fun w=>
 bd (
  if w.2.2.2.2.2.2.2.2.2.2.2.2.2.2.1 then
  some (!a2.L.ch)
  else
  some false:Option Bool) fun w8=>
 bd (
  if w8 then
  if (w.2.2.2.2.2.2.2.2.2.2.2.2.2.2.2.2.2.2.length+([(⟨5,a1,0,w.2.2.2.2.2.2.2.2.2.2.2.2.2.2.2.1,([]:List ab),(⟨0,0,([]:List UInt8)⟩:aa),([]:List aa),(⟨0,0,false,0,([]:List UInt8),([]:List aa)⟩:ab)⟩:eg)]:List eg).length) *192≤2^46 then
  some (w.2.2.2.2.2.2.2.2.2.2.2.2.2.2.2.2.2.2++([(⟨5,a1,0,w.2.2.2.2.2.2.2.2.2.2.2.2.2.2.2.1,([]:List ab),(⟨0,0,([]:List UInt8)⟩:aa),([]:List aa),(⟨0,0,false,0,([]:List UInt8),([]:List aa)⟩:ab)⟩:eg)]:List eg))
  else none
  else
  some w.2.2.2.2.2.2.2.2.2.2.2.2.2.2.2.2.2.2:Option (List eg)) fun w9=>
 some ((⟨(⟨(⟨w.1,w.2.1⟩:cM),w.2.2.1,w.2.2.2.1,w.2.2.2.2.1,w.2.2.2.2.2.1,w.2.2.2.2.2.2.1,w.2.2.2.2.2.2.2.1,(⟨w.2.2.2.2.2.2.2.2.1⟩:bS)⟩:dA),(⟨(⟨w.2.2.2.2.2.2.2.2.2.1,w.2.2.2.2.2.2.2.2.2.2.1⟩:cM),(⟨w.2.2.2.2.2.2.2.2.2.2.2.1⟩:bS),(⟨w.2.2.2.2.2.2.2.2.2.2.2.2.1⟩:bS),(⟨w.2.2.2.2.2.2.2.2.2.2.2.2.2.1⟩:bS),w.2.2.2.2.2.2.2.2.2.2.2.2.2.2.1,w.2.2.2.2.2.2.2.2.2.2.2.2.2.2.2.1⟩:cC),w.2.2.2.2.2.2.2.2.2.2.2.2.2.2.2.2.1,w.2.2.2.2.2.2.2.2.2.2.2.2.2.2.2.2.2.1⟩:ol),w9)
noncomputable def iM (lA:List al) (st:Int×Int×Int×(List Bool)×(List (List UInt8))×(List au)×(List al)):Option ((Int×Int×Int×(List Bool)×(List (List UInt8))×(List au)×(List al))⊕(Int×Int×(List Bool)×(List (List UInt8))×(List au)×(List al))):=
 if st.1<(lA.length:Int) then
 ix lA st.1 fun y=>
 bd (
  if (st.2.2.2.2.2.2.length:Int)<400 then
  bd (fR st.2.2.2.2.2.2) fun rA=>
  if 0<([y]:List al).length∧(rA.length+([y]:List al).length) *192≤2^46 then
  some (st.2.1,st.2.2.1,st.2.2.2.1,st.2.2.2.2.1,st.2.2.2.2.2.1,rA++([y]:List al))
  else none
  else
  some (st.2.1,st.2.2.1,st.2.2.2.1,st.2.2.2.2.1,st.2.2.2.2.2.1,st.2.2.2.2.2.2):Option (Int×Int×(List Bool)×(List (List UInt8))×(List au)×(List al))) fun w1=>
 some (.inl (IntKind.wrap .i64 (st.1+1),w1.1,w1.2.1,w1.2.2.1,w1.2.2.2.1,w1.2.2.2.2.1,w1.2.2.2.2.2))
 else
 some (.inr (st.2.1,st.2.2.1,st.2.2.2.1,st.2.2.2.2.1,st.2.2.2.2.2.1,st.2.2.2.2.2.2))
noncomputable def kD (c:aw) (lA:List al):Option (Unit×aw):=
 bd (Loop (iM lA) (0,c.S.F,c.S.T,c.cV,c.Want,c.N,c.bF)) fun w=>
 some ((),(⟨(⟨w.1,w.2.1⟩:af),w.2.2.1,w.2.2.2.1,w.2.2.2.2.1,w.2.2.2.2.2⟩:aw))
noncomputable def ia (c:aw) (i:Int) (n:au) (said:List al):Option (Unit×aw):=
 ix c.N i fun y=>
 bd (kD (⟨c.S,c.cV,c.Want,c.N.set (Int.toNat i) n,c.bF⟩:aw) said) fun rA=>
 some ((),rA.2)
noncomputable def jY (c:aw) (i:Int) (m:al):Option (Unit×aw):=
 ix c.N i fun y=>
 bd (jk c.S i y m) fun rA=>
 bd (ia c i rA.1 rA.2) fun aY=>
 some ((),aY.2)
noncomputable def pq (c:aw) (i:Int) (view:Int):Option (Unit×aw):=
 ix c.N i fun y=>
 bd (vV c.S i y view) fun rA=>
 bd (ia c i rA.1 rA.2) fun aY=>
 some ((),aY.2)
noncomputable def mX (c:aw) (i:Int):Option (Unit×aw):=
 ix c.N i fun y=>
 ix c.Want i fun y1=>
 bd (nX c.S i y y1) fun rA=>
 bd (ia c i rA.1 rA.2) fun aY=>
 some ((),aY.2)
noncomputable def uP (lA:List al) (st:Int×Int×Int×(List Bool)×(List (List UInt8))×(List au)×(List al)):Option ((Int×Int×Int×(List Bool)×(List (List UInt8))×(List au)×(List al))⊕(Int×Int×(List Bool)×(List (List UInt8))×(List au)×(List al))):=
 if st.1<(lA.length:Int) then
 ix lA st.1 fun y=>
 bd (
  if (st.2.2.2.2.2.2.length:Int)<400 then
  bd (fR st.2.2.2.2.2.2) fun rA=>
  if 0<([y]:List al).length∧(rA.length+([y]:List al).length) *192≤2^46 then
  some (st.2.1,st.2.2.1,st.2.2.2.1,st.2.2.2.2.1,st.2.2.2.2.2.1,rA++([y]:List al))
  else none
  else
  some (st.2.1,st.2.2.1,st.2.2.2.1,st.2.2.2.2.1,st.2.2.2.2.2.1,st.2.2.2.2.2.2):Option (Int×Int×(List Bool)×(List (List UInt8))×(List au)×(List al))) fun w1=>
 some (.inl (IntKind.wrap .i64 (st.1+1),w1.1,w1.2.1,w1.2.2.1,w1.2.2.2.1,w1.2.2.2.2.1,w1.2.2.2.2.2))
 else
 some (.inr (st.2.1,st.2.2.1,st.2.2.2.1,st.2.2.2.2.1,st.2.2.2.2.2.1,st.2.2.2.2.2.2))
noncomputable def sm (c:aw) (lA:List al):Option (Unit×aw):=
 bd (Loop (uP lA) (0,c.S.F,c.S.T,c.cV,c.Want,c.N,c.bF)) fun w=>
 some ((),(⟨(⟨w.1,w.2.1⟩:af),w.2.2.1,w.2.2.2.1,w.2.2.2.2.1,w.2.2.2.2.2⟩:aw))
noncomputable def eQ (a:aw) (a1:dv):Option aw:=
 if a1.Kind=3 then
 bd (yP a a1.M) fun rA=>
 bd (
  if rA then
  bd (sm a ([a1.M]:List al)) fun aY=>
  some (aY.2.S.F,aY.2.S.T,aY.2.cV,aY.2.Want,aY.2.N,aY.2.bF)
  else
  some (a.S.F,a.S.T,a.cV,a.Want,a.N,a.bF):Option (Int×Int×(List Bool)×(List (List UInt8))×(List au)×(List al))) fun w=>
 some (⟨(⟨w.1,w.2.1⟩:af),w.2.2.1,w.2.2.2.1,w.2.2.2.2.1,w.2.2.2.2.2⟩:aw)
 else
 bd (dV a a1.I false) fun b7=>
 if !b7 then
 some a
 else
 bd (tU 256 a.N) fun cu=>
 bd (
  if a1.Kind=0 then
  bd (
   if (0:Int)≤a1.J then
   some (decide (a1.J<(a.bF.length:Int)))
   else
   some false:Option Bool) fun w2=>
  bd (
   if w2 then
   ix a.bF a1.J fun y=>
   bd (jY (⟨a.S,a.cV,a.Want,cu,a.bF⟩:aw) a1.I y) fun fB=>
   some (fB.2.S.F,fB.2.S.T,fB.2.cV,fB.2.Want,fB.2.N,fB.2.bF)
   else
   some (a.S.F,a.S.T,a.cV,a.Want,cu,a.bF):Option (Int×Int×(List Bool)×(List (List UInt8))×(List au)×(List al))) fun w3=>
  some w3
  else
  bd (
   if a1.Kind=1 then
   ix cu a1.I fun y1=>
   bd (pq (⟨a.S,a.cV,a.Want,cu,a.bF⟩:aw) a1.I (IntKind.wrap .i64 (y1.A.View+1))) fun kC=>
   some (kC.2.S.F,kC.2.S.T,kC.2.cV,kC.2.Want,kC.2.N,kC.2.bF)
   else
   bd (
    if a1.Kind=2 then
    bd (mX (⟨a.S,a.cV,a.Want,cu,a.bF⟩:aw) a1.I) fun pD=>
    some (pD.2.S.F,pD.2.S.T,pD.2.cV,pD.2.Want,pD.2.N,pD.2.bF)
    else
    bd (
     if a1.Kind=4 then
     ix cu a1.I fun y2=>
     bd (ua a.S a1.I y2) fun vP=>
     ix cu a1.I fun y3=>
     some (a.S.F,a.S.T,a.cV,a.Want,cu.set (Int.toNat a1.I) vP,a.bF)
     else
     some (a.S.F,a.S.T,a.cV,a.Want,cu,a.bF):Option (Int×Int×(List Bool)×(List (List UInt8))×(List au)×(List al))) fun w6=>
    some w6:Option (Int×Int×(List Bool)×(List (List UInt8))×(List au)×(List al))) fun w5=>
   some w5:Option (Int×Int×(List Bool)×(List (List UInt8))×(List au)×(List al))) fun w4=>
  some w4:Option (Int×Int×(List Bool)×(List (List UInt8))×(List au)×(List al))) fun w1=>
 some (⟨(⟨w1.1,w1.2.1⟩:af),w1.2.2.1,w1.2.2.2.1,w1.2.2.2.2.1,w1.2.2.2.2.2⟩:aw)
noncomputable def rM (st:Int×Int×(List Bool)×(List (List UInt8))×(List au)×(List al)×Int):Option ((Int×Int×(List Bool)×(List (List UInt8))×(List au)×(List al)×Int)⊕(Int×Int×(List Bool)×(List (List UInt8))×(List au)×(List al))):=
 if st.2.2.2.2.2.2<4 then
 bd (eQ (⟨(⟨st.1,st.2.1⟩:af),st.2.2.1,st.2.2.2.1,st.2.2.2.2.1,st.2.2.2.2.2.1⟩:aw) (⟨0,st.2.2.2.2.2.2,0,(⟨0,0,0,([]:List UInt8),([]:List ab),(⟨0,0,([]:List UInt8)⟩:aa),([]:List aa),(⟨0,0,false,0,([]:List UInt8),([]:List aa)⟩:ab)⟩:al)⟩:dv)) fun b7=>
 some (.inl (b7.S.F,b7.S.T,b7.cV,b7.Want,b7.N,b7.bF,IntKind.wrap .i64 (st.2.2.2.2.2.2+1)))
 else
 some (.inr (st.1,st.2.1,st.2.2.1,st.2.2.2.1,st.2.2.2.2.1,st.2.2.2.2.2.1))
noncomputable def rN (ca:Int×Int×(List Bool)×(List (List UInt8))×(List au)×(List al)×Int):Option ((Int×Int×(List Bool)×(List (List UInt8))×(List au)×(List al)×Int)⊕(Int×Int×(List Bool)×(List (List UInt8))×(List au)×(List al))):=
 if ca.2.2.2.2.2.2<5 then
 bd (eQ (⟨(⟨ca.1,ca.2.1⟩:af),ca.2.2.1,ca.2.2.2.1,ca.2.2.2.2.1,ca.2.2.2.2.2.1⟩:aw) (⟨0,2,ca.2.2.2.2.2.2,(⟨0,0,0,([]:List UInt8),([]:List ab),(⟨0,0,([]:List UInt8)⟩:aa),([]:List aa),(⟨0,0,false,0,([]:List UInt8),([]:List aa)⟩:ab)⟩:al)⟩:dv)) fun cu=>
 some (.inl (cu.S.F,cu.S.T,cu.cV,cu.Want,cu.N,cu.bF,IntKind.wrap .i64 (ca.2.2.2.2.2.2+1)))
 else
 some (.inr (ca.1,ca.2.1,ca.2.2.1,ca.2.2.2.1,ca.2.2.2.2.1,ca.2.2.2.2.2.1))
noncomputable def my:Option Bool:=
 if (0:Int)≤4∧(4:Int)=4∧(4:Int) *1≤2^46 then
 bd (qI (⟨1,0⟩:af) (List.replicate (Int.toNat 4) false) ([([97]:List UInt8),([98]:List UInt8),([99]:List UInt8),([100]:List UInt8)]:List (List UInt8))) fun rA=>
 bd (eQ rA.1 (⟨2,0,0,(⟨0,0,0,([]:List UInt8),([]:List ab),(⟨0,0,([]:List UInt8)⟩:aa),([]:List aa),(⟨0,0,false,0,([]:List UInt8),([]:List aa)⟩:ab)⟩:al)⟩:dv)) fun aY=>
 bd (Loop rM (aY.S.F,aY.S.T,aY.cV,aY.Want,aY.N,aY.bF,0)) fun w=>
 bd (Loop rN (w.1,w.2.1,w.2.2.1,w.2.2.2.1,w.2.2.2.2.1,w.2.2.2.2.2,1)) fun w1=>
 bd (fF (⟨(⟨w1.1,w1.2.1⟩:af),w1.2.2.1,w1.2.2.2.1,w1.2.2.2.2.1,w1.2.2.2.2.2⟩:aw) 2) fun fB=>
 bd (fF (⟨(⟨w1.1,w1.2.1⟩:af),w1.2.2.1,w1.2.2.2.1,w1.2.2.2.2.1,w1.2.2.2.2.2⟩:aw) 1) fun kC=>
 bd (
  if rA.2=0 then
  if fB.2 then
  if fB.1=([97]:List UInt8) then
  some (!kC.2)
  else
  some false
  else
  some false
  else
  some false:Option Bool) fun w2=>
 some w2
 else none
noncomputable def mY (a:gz) (a1:Int) (fB:Int) (kC:Int) (st:(List Int)×Int):Option (((List Int)×Int)⊕(List Int)):=
 bd (
  if st.2<fB then
  some (decide ((st.1.length:Int)<kC))
  else
  some false:Option Bool) fun w3=>
 if w3 then
 if !decide (fB=0) then
 bd (
  ix a.cV (Int.tmod (IntKind.wrap .i64 (a1+st.2)) fB) fun y1=>
  if !y1 then
  if !decide ((Int.tmod (IntKind.wrap .i64 (a1+st.2)) fB)=0) then
  some (decide ((st.1.length:Int)<(IntKind.wrap .i64 (kC-1))))
  else
  some false
  else
  some false:Option Bool) fun w4=>
 bd (
  if w4 then
  if (st.1.length+([Int.tmod (IntKind.wrap .i64 (a1+st.2)) fB]:List Int).length) *8≤2^46 then
  some (st.1++([Int.tmod (IntKind.wrap .i64 (a1+st.2)) fB]:List Int))
  else none
  else
  some st.1:Option (List Int)) fun w5=>
 some (.inl (w5,IntKind.wrap .i64 (st.2+1)))
 else none
 else
 some (.inr st.1)
noncomputable def mZ (w2:(List Int)) (ca:Int×Int×(List Bool)×(List (List UInt8))×(List au)×(List al)×Int):Option ((Int×Int×(List Bool)×(List (List UInt8))×(List au)×(List al)×Int)⊕(Int×Int×(List Bool)×(List (List UInt8))×(List au)×(List al))):=
 if ca.2.2.2.2.2.2<((w2++([0]:List Int)).length:Int) then
 ix (w2++([0]:List Int)) ca.2.2.2.2.2.2 fun y2=>
 bd (eQ (⟨(⟨ca.1,ca.2.1⟩:af),ca.2.2.1,ca.2.2.2.1,ca.2.2.2.2.1,ca.2.2.2.2.2.1⟩:aw) (⟨0,y2,0,(⟨0,0,0,([]:List UInt8),([]:List ab),(⟨0,0,([]:List UInt8)⟩:aa),([]:List aa),(⟨0,0,false,0,([]:List UInt8),([]:List aa)⟩:ab)⟩:al)⟩:dv)) fun Mb=>
 some (.inl (Mb.S.F,Mb.S.T,Mb.cV,Mb.Want,Mb.N,Mb.bF,IntKind.wrap .i64 (ca.2.2.2.2.2.2+1)))
 else
 some (.inr (ca.1,ca.2.1,ca.2.2.1,ca.2.2.2.1,ca.2.2.2.2.1,ca.2.2.2.2.2.1))
noncomputable def kE (a2:Bool) (w2:(List Int)) (cS:Int×Int×(List Bool)×(List (List UInt8))×(List au)×(List al)×Int) (iU:Int×Int×(List Bool)×(List (List UInt8))×(List au)×(List al)×Int):Option ((Int×Int×(List Bool)×(List (List UInt8))×(List au)×(List al)×Int)⊕((Int×Int×(List Bool)×(List (List UInt8))×(List au)×(List al))⊕Bool)):=
 if iU.2.2.2.2.2.2≤((w2++([0]:List Int)).length:Int) then
 bd (
  if a2 then
  some (IntKind.wrap .i64 ((IntKind.wrap .i64 (((w2++([0]:List Int)).length:Int)+1))-iU.2.2.2.2.2.2))
  else
  some iU.2.2.2.2.2.2:Option Int) fun w9=>
 bd (
  if (iU.2.2.2.2.2.1.length:Int)≤w9 then
  some true
  else
  ix iU.2.2.2.2.2.1 w9 fun y3=>
  some (!decide (y3.Kind=2)):Option Bool) fun w10=>
 if w10 then
 some (.inr (.inr false))
 else
 ix (w2++([0]:List Int)) cS.2.2.2.2.2.2 fun y4=>
 bd (eQ (⟨(⟨iU.1,iU.2.1⟩:af),iU.2.2.1,iU.2.2.2.1,iU.2.2.2.2.1,iU.2.2.2.2.2.1⟩:aw) (⟨0,y4,w9,(⟨0,0,0,([]:List UInt8),([]:List ab),(⟨0,0,([]:List UInt8)⟩:aa),([]:List aa),(⟨0,0,false,0,([]:List UInt8),([]:List aa)⟩:ab)⟩:al)⟩:dv)) fun NK=>
 some (.inl (NK.S.F,NK.S.T,NK.cV,NK.Want,NK.N,NK.bF,IntKind.wrap .i64 (iU.2.2.2.2.2.2+1)))
 else
 some (.inr (.inl (iU.1,iU.2.1,iU.2.2.1,iU.2.2.2.1,iU.2.2.2.2.1,iU.2.2.2.2.2.1)))
noncomputable def iN (a2:Bool) (w2:(List Int)) (cS:Int×Int×(List Bool)×(List (List UInt8))×(List au)×(List al)×Int):Option ((Int×Int×(List Bool)×(List (List UInt8))×(List au)×(List al)×Int)⊕((Int×Int×(List Bool)×(List (List UInt8))×(List au)×(List al))⊕Bool)):=
 if cS.2.2.2.2.2.2<((w2++([0]:List Int)).length:Int) then
 bd (Loop (kE a2 w2 cS) (cS.1,cS.2.1,cS.2.2.1,cS.2.2.2.1,cS.2.2.2.2.1,cS.2.2.2.2.2.1,1)) fun w8=>
 match w8 with
 | .inl p6=>
  some (.inl (p6.1,p6.2.1,p6.2.2.1,p6.2.2.2.1,p6.2.2.2.2.1,p6.2.2.2.2.2,IntKind.wrap .i64 (cS.2.2.2.2.2.2+1)))
 | .inr p7=>
  some (.inr (.inr p7))
 else
 some (.inr (.inl (cS.1,cS.2.1,cS.2.2.1,cS.2.2.2.1,cS.2.2.2.2.1,cS.2.2.2.2.2.1)))
noncomputable def kF (a:gz) (w2:(List Int)) (p8:Int×Int×(List Bool)×(List (List UInt8))×(List au)×(List al)) (JD:Int):Option (Int⊕(Unit⊕Bool)):=
 if JD<((w2++([0]:List Int)).length:Int) then
 ix (w2++([0]:List Int)) JD fun y5=>
 bd (fF (⟨(⟨p8.1,p8.2.1⟩:af),p8.2.2.1,p8.2.2.2.1,p8.2.2.2.2.1,p8.2.2.2.2.2⟩:aw) y5) fun Sj=>
 bd (
  if !Sj.2 then
  some true
  else
  ix a.Want 0 fun y6=>
  if !decide (Sj.1=y6) then
  some true
  else
  ix (w2++([0]:List Int)) JD fun y7=>
  ix p8.2.2.2.2.1 y7 fun y8=>
  some (!decide ((y8.L.bA.L.length:Int)=0)):Option Bool) fun w12=>
 if w12 then
 some (.inr (.inr false))
 else
 some (.inl (IntKind.wrap .i64 (JD+1)))
 else
 some (.inr (.inl ()))
noncomputable def pY (a:gz) (a1:Int) (a2:Bool):Option Bool:=
 bd (
  bd (sY a ([]:List dv)) fun rA=>
  if !rA then
  some true
  else
  if (a.cV.length:Int)<1 then
  some true
  else
  if a1<0 then
  some true
  else
  some (decide ((1000000:Int)<a1)):Option Bool) fun w=>
 if w then
 bd (my) fun aY=>
 some aY
 else
 bd (qI a.S a.cV a.Want) fun b7=>
 bd (
  if !decide (b7.2=0) then
  some true
  else
  ix a.cV 0 fun y=>
  some y:Option Bool) fun w1=>
 if w1 then
 bd (my) fun cu=>
 some cu
 else
 bd (mf a.S) fun fB=>
 bd (qo a.S) fun kC=>
 bd (Loop (mY a a1 fB kC) (([]:List Int),0)) fun w2=>
 if (w2.length+([0]:List Int).length) *8≤2^46 then
 if ((w2++([0]:List Int)).length:Int)<kC then
 bd (my) fun pD=>
 some pD
 else
 bd (eQ b7.1 (⟨2,0,0,(⟨0,0,0,([]:List UInt8),([]:List ab),(⟨0,0,([]:List UInt8)⟩:aa),([]:List aa),(⟨0,0,false,0,([]:List UInt8),([]:List aa)⟩:ab)⟩:al)⟩:dv)) fun vP=>
 bd (Loop (mZ w2) (vP.S.F,vP.S.T,vP.cV,vP.Want,vP.N,vP.bF,0)) fun w6=>
 bd (Loop (iN a2 w2) (w6.1,w6.2.1,w6.2.2.1,w6.2.2.2.1,w6.2.2.2.2.1,w6.2.2.2.2.2,0)) fun w7=>
 match w7 with
 | .inl p8=>
  bd (Loop (kF a w2 p8) 0) fun w11=>
  match w11 with
  | .inl p11=>
   bd (my) fun U9=>
   some U9
  | .inr p12=>
   some p12
 | .inr p9=>
  some p9
 else none
end Dn.S
