import Derived.Test.YtjblhgpbkfmkoaaDnC
/-
  The functions, on typed values. Conditions: none.
-/
open Go Dn
set_option linter.unusedVariables false
set_option linter.unusedSimpArgs false
set_option maxRecDepth 100000
namespace Dn.S
structure ab where
 By:Int
 View:Int
 Value:List UInt8
deriving DecidableEq
@[reducible] def Da (x : ab) : List MV := [.i .i64 x.By, .i .i64 x.View, .s x.Value]
@[reducible] def ai (x : ab) : MV := .agg (Da x)
structure aj where
 F:Int
 T:Int
deriving DecidableEq
@[reducible] def Fo (x : aj) : List MV := [.i .i64 x.F, .i .i64 x.T]
@[reducible] def bT (x : aj) : MV := .agg (Fo x)
structure aD where
 L:List ab
deriving DecidableEq
@[reducible] def BA (x : aD) : List MV := [.list (x.L.map ai)]
@[reducible] def jt (x : aD) : MV := .agg (BA x)
structure af where
 S:aj
 Me:Int
 View:Int
 Has:Bool
 At:Int
 Value:List UInt8
 Proof:List ab
 bS:aD
deriving DecidableEq
@[reducible] def rW (x : af) : List MV := [.i .i64 x.S.F, .i .i64 x.S.T, .i .i64 x.Me, .i .i64 x.View, .b x.Has, .i .i64 x.At, .s x.Value, .list (x.Proof.map ai), .list (x.bS.L.map ai)]
@[reducible] def aZ (x : af) : MV := .agg (rW x)
structure aw where
 By:Int
 sX:Int
 Has:Bool
 View:Int
 Value:List UInt8
 Proof:List ab
deriving DecidableEq
@[reducible] def Db (x : aw) : List MV := [.i .i64 x.By, .i .i64 x.sX, .b x.Has, .i .i64 x.View, .s x.Value, .list (x.Proof.map ai)]
@[reducible] def cB (x : aw) : MV := .agg (Db x)
structure bZ where
 F:Int
 T:Int
deriving DecidableEq
@[reducible] def H7 (x : bZ) : List MV := [.i .i64 x.F, .i .i64 x.T]
@[reducible] def gw (x : bZ) : MV := .agg (H7 x)
structure ct where
 L:List ab
deriving DecidableEq
@[reducible] def Fp (x : ct) : List MV := [.list (x.L.map ai)]
@[reducible] def Dc (x : ct) : MV := .agg (Fp x)
structure aK where
 S:bZ
 Me:Int
 View:Int
 Has:Bool
 At:Int
 Value:List UInt8
 Proof:List ab
 bS:ct
deriving DecidableEq
@[reducible] def yV (x : aK) : List MV := [.i .i64 x.S.F, .i .i64 x.S.T, .i .i64 x.Me, .i .i64 x.View, .b x.Has, .i .i64 x.At, .s x.Value, .list (x.Proof.map ai), .list (x.bS.L.map ai)]
@[reducible] def dj (x : aK) : MV := .agg (yV x)
structure Ll where
 S:aj
 NH:aD
 NI:aD
 Told:aD
 Wr:Bool
 Value:List UInt8
deriving DecidableEq
structure QD where
 S:bZ
 NH:ct
 NI:ct
 Told:ct
 Wr:Bool
 Value:List UInt8
deriving DecidableEq
structure au where
 b:List Int
 e:Int
deriving DecidableEq
@[reducible] def cg (x : au) : List MV := [.list (x.b.map (MV.i .u8)), .i .i64 x.e]
structure UB where
 Kind:Int
 By:Int
 A:ab
 P:List ab
deriving DecidableEq
structure NJ where
 View:Int
 Value:List UInt8
 aaG:List aw
 aaH:ab
deriving DecidableEq
structure Ws where
 Kind:Int
 C:NJ
deriving DecidableEq
noncomputable def lY (lA:List ab) (st:Int):Option (Int⊕(Unit⊕Bool)):=
 if st<(lA.length:Int) then
 bd (
  if st=40 then
  some true
  else
  ix lA st fun y=>
  some (decide ((6100:Int)<(y.Value.length:Int))):Option Bool) fun w1=>
 if w1 then
 some (.inr (.inr false))
 else
 some (.inl (IntKind.wrap .i64 (st+1)))
 else
 some (.inr (.inl ()))
noncomputable def kn (lA:List ab):Option Bool:=
 bd (Loop (lY lA) 0) fun w=>
 match w with
 | .inl p1=>
  some true
 | .inr p2=>
  some p2
noncomputable def sY (a:af):Option Bool:=
 bd (
  if (a.Value.length:Int)≤6100 then
  bd (kn a.Proof) fun rA=>
  if rA then
  bd (kn a.bS.L) fun bL=>
  some bL
  else
  some false
  else
  some false:Option Bool) fun w=>
 some w
noncomputable def fY (sA:aj):Option (Nat×Nat):=
 some (FloatKind.nearest .f64 sA.F,FloatKind.nearest .f64 sA.T)
noncomputable def eg (sA:aj) (times:Nat×Nat):Option Int:=
 bd (fY sA) fun rA=>
 bd (FloatKind.f64.format.mul rA.1 times.1) fun f=>
 bd (FloatKind.f64.format.mul rA.2 times.2) fun f1=>
 bd (FloatKind.f64.format.add f f1) fun f2=>
 bd ((FloatKind.decode .f64 f2).toInt .zero) fun n=>
 if IntKind.min .i64≤n∧n≤IntKind.max .i64 then
 some (IntKind.wrap .i64 (n+1))
 else none
noncomputable def oe (sA:aj):Option Int:=
 bd (eg sA (4613937818241073152,4611686018427387904)) fun rA=>
 some rA
noncomputable def dH (sA:aj):Option Bool:=
 bd (
  if (1:Int)≤sA.F then
  if sA.F≤5 then
  if (0:Int)≤sA.T then
  some (decide (sA.T≤sA.F))
  else
  some false
  else
  some false
  else
  some false:Option Bool) fun w=>
 some w
noncomputable def dy (sA:aj) (me:Int):Option (af×Int):=
 bd (
  bd (dH sA) fun rA=>
  if !rA then
  some true
  else
  if me<0 then
  some true
  else
  bd (oe sA) fun bL=>
  some (decide (bL≤me)):Option Bool) fun w=>
 if w then
 some ((⟨(⟨0,0⟩:aj),0,0,false,0,([]:List UInt8),([]:List ab),(⟨([]:List ab)⟩:aD)⟩:af),1)
 else
 some ((⟨sA,me,0,false,0,([]:List UInt8),([]:List ab),(⟨([]:List ab)⟩:aD)⟩:af),0)
noncomputable def fZ (a:af):Option aw:=
 some (⟨a.Me,a.View,a.Has,a.At,a.Value,a.Proof⟩:aw)
noncomputable def fm (a:af) (view:Int):Option (af×aw×Bool):=
 bd (
  if view≤a.View then
  some true
  else
  some (decide ((100000:Int)<view)):Option Bool) fun w=>
 if w then
 some (a,(⟨0,0,false,0,([]:List UInt8),([]:List ab)⟩:aw),false)
 else
 bd (fZ (⟨a.S,a.Me,view,a.Has,a.At,a.Value,a.Proof,(⟨([]:List ab)⟩:aD)⟩:af)) fun rA=>
 some ((⟨a.S,a.Me,view,a.Has,a.At,a.Value,a.Proof,(⟨([]:List ab)⟩:aD)⟩:af),rA,true)
noncomputable def ng (sA:aj):Option Int:=
 bd (eg sA (4611686018427387904,4611686018427387904)) fun rA=>
 some rA
noncomputable def gx (sA:aj):Option Int:=
 bd (eg sA (4611686018427387904,4607182418800017408)) fun rA=>
 some rA
noncomputable def ko (a:ab):Option Bool:=
 bd (
  if (0:Int)≤a.By then
  if (0:Int)≤a.View then
  if a.View≤100000 then
  some (decide ((a.Value.length:Int)≤6000))
  else
  some false
  else
  some false
  else
  some false:Option Bool) fun w=>
 some w
noncomputable def eI (t:aD) (st:Int):Option (Int⊕(Unit⊕Bool)):=
 if st<(t.L.length:Int) then
 ix t.L st fun y=>
 bd (
  bd (ko y) fun rA=>
  if !rA then
  some true
  else
  if (0:Int)<st then
  ix t.L (IntKind.wrap .i64 (st-1)) fun y1=>
  some (decide (y.By≤y1.By))
  else
  some false:Option Bool) fun w1=>
 if w1 then
 some (.inr (.inr false))
 else
 some (.inl (IntKind.wrap .i64 (st+1)))
 else
 some (.inr (.inl ()))
noncomputable def fp (t:aD):Option Bool:=
 bd (Loop (eI t) 0) fun w=>
 match w with
 | .inl p1=>
  some true
 | .inr p2=>
  some p2
noncomputable def dk (t:aD) (view:Int) (value:List UInt8) (st:(List ab)×Int):Option (((List ab)×Int)⊕(List ab)):=
 if st.2<(t.L.length:Int) then
 ix t.L st.2 fun y=>
 bd (
  if y.View=view then
  some (decide (y.Value=value))
  else
  some false:Option Bool) fun w1=>
 bd (
  if w1 then
  if (st.1.length+([y]:List ab).length) *32≤2^46 then
  some (st.1++([y]:List ab))
  else none
  else
  some st.1:Option (List ab)) fun w2=>
 some (.inl (w2,IntKind.wrap .i64 (st.2+1)))
 else
 some (.inr st.1)
noncomputable def et (t:aD) (view:Int) (value:List UInt8):Option (List ab):=
 bd (Loop (dk t view value) (([]:List ab),0)) fun w=>
 some w
noncomputable def fq (t:aD) (view:Int) (value:List UInt8):Option Int:=
 bd (et t view value) fun rA=>
 some (rA.length:Int)
noncomputable def dz (sA:aj) (p:List ab):Option Bool:=
 bd (
  bd (dH sA) fun rA=>
  if !rA then
  some true
  else
  bd (gx sA) fun bL=>
  if !decide ((p.length:Int)=bL) then
  some true
  else
  bd (fp (⟨p⟩:aD)) fun cL=>
  some (!cL):Option Bool) fun w=>
 if w then
 some false
 else
 bd (
  ix p (IntKind.wrap .i64 ((p.length:Int)-1)) fun y=>
  bd (oe sA) fun cZ=>
  if y.By<cZ then
  ix p 0 fun y1=>
  ix p 0 fun y2=>
  bd (fq (⟨p⟩:aD) y1.View y2.Value) fun nh=>
  some (decide (nh=(p.length:Int)))
  else
  some false:Option Bool) fun w1=>
 some w1
noncomputable def jH (p:List ab):Option (Int×(List UInt8)×Bool):=
 if (p.length:Int)=0 then
 some ((-1),([]:List UInt8),false)
 else
 ix p 0 fun y=>
 ix p 0 fun y1=>
 some (y.View,y1.Value,true)
noncomputable def eJ (rA:aw):Option Int:=
 bd (jH rA.Proof) fun bL=>
 if !bL.2.2 then
 some (-1)
 else
 some bL.1
noncomputable def kT (a:aj) (a1:aw):Option Bool:=
 bd (
  bd (dH a) fun rA=>
  if !rA then
  some true
  else
  if a1.By<0 then
  some true
  else
  bd (oe a) fun bL=>
  if bL≤a1.By then
  some true
  else
  if a1.sX<1 then
  some true
  else
  some (decide ((100000:Int)<a1.sX)):Option Bool) fun w=>
 if w then
 some false
 else
 bd (
  if !a1.Has then
  if !decide (a1.View=0) then
  some true
  else
  some (!decide (a1.Value=([]:List UInt8)))
  else
  some false:Option Bool) fun w1=>
 if w1 then
 some false
 else
 bd (
  if a1.Has then
  if a1.View<0 then
  some true
  else
  if a1.sX≤a1.View then
  some true
  else
  some (decide ((6000:Int)<(a1.Value.length:Int)))
  else
  some false:Option Bool) fun w2=>
 if w2 then
 some false
 else
 bd (
  if (a1.Proof.length:Int)=0 then
  some true
  else
  bd (dz a a1.Proof) fun cL=>
  if cL then
  bd (eJ a1) fun cZ=>
  some (decide (cZ<a1.sX))
  else
  some false:Option Bool) fun w3=>
 some w3
noncomputable def ir (sA:aj) (view:Int) (lA:List aw) (st:Int×Int):Option ((Int×Int)⊕(Unit⊕Bool)):=
 if st.2<(lA.length:Int) then
 ix lA st.2 fun y=>
 bd (
  bd (kT sA y) fun cL=>
  if !cL then
  some true
  else
  if !decide (y.sX=view) then
  some true
  else
  some (decide (y.By≤st.1)):Option Bool) fun w2=>
 if w2 then
 some (.inr (.inr false))
 else
 some (.inl (y.By,IntKind.wrap .i64 (st.2+1)))
 else
 some (.inr (.inl ()))
noncomputable def iu (sA:aj) (view:Int) (lA:List aw):Option Bool:=
 bd (
  bd (dH sA) fun rA=>
  if !rA then
  some true
  else
  bd (ng sA) fun bL=>
  some (!decide ((lA.length:Int)=bL)):Option Bool) fun w=>
 if w then
 some false
 else
 bd (Loop (ir sA view lA) ((-1),0)) fun w1=>
 match w1 with
 | .inl p1=>
  some true
 | .inr p2=>
  some p2
noncomputable def kU (sA:aj):Option Int:=
 bd (eg sA (4607182418800017408,4607182418800017408)) fun rA=>
 some rA
noncomputable def iv (a1:List aw) (st:Int×(List UInt8)×Int):Option ((Int×(List UInt8)×Int)⊕(Int×(List UInt8))):=
 if st.2.2<(a1.length:Int) then
 ix a1 st.2.2 fun y=>
 bd (eJ y) fun rA=>
 bd (
  if st.1<rA then
  ix y.Proof 0 fun y1=>
  some (rA,y1.Value)
  else
  some (st.1,st.2.1):Option (Int×(List UInt8))) fun w1=>
 some (.inl (w1.1,w1.2,IntKind.wrap .i64 (st.2.2+1)))
 else
 some (.inr (st.1,st.2.1))
noncomputable def dV (a1:List aw) (w:Int×(List UInt8)) (ca:(List MV)×Int):Option (((List MV)×Int)⊕(List MV)):=
 if ca.2<(a1.length:Int) then
 ix a1 ca.2 fun y2=>
 bd (
  if y2.Has then
  some (decide (w.1<y2.View))
  else
  some false:Option Bool) fun w3=>
 bd (
  if w3 then
  some (rF (jZ ca.1 ([.s y2.Value]:List MV) (.i .i64 0)) (cF ca.1 ([.s y2.Value]:List MV)) (.i .i64 (IntKind.wrap .i64 ((oN ca.1 ([.s y2.Value]:List MV))+1))))
  else
  some ca.1:Option (List MV)) fun w4=>
 some (.inl (w4,IntKind.wrap .i64 (ca.2+1)))
 else
 some (.inr ca.1)
noncomputable def iw (a:aj) (H8:MV):Option (Unit⊕(Unit⊕((List UInt8)×Bool))):=
 C6 H8 fun key n=>
 bd (kU a) fun bL=>
 if bL≤n then
 some (.inr (.inr (key,true)))
 else
 some (.inl ())
noncomputable def iy (a:aj) (a1:List aw):Option ((List UInt8)×Bool):=
 bd (Loop (iv a1) ((-1),([]:List UInt8),0)) fun w=>
 bd (Loop (dV a1 w) (([]:List MV),0)) fun w2=>
 bd (mD (iw a) (
  some (.inl ())) w2) fun w5=>
 match w5 with
 | .inl p5=>
  some (w.2,decide (((-1):Int)<w.1))
 | .inr p6=>
  some (p6.1,p6.2)
noncomputable def ft (sA:aj) (view:Int) (lA:List aw) (value:List UInt8):Option Bool:=
 bd (iu sA view lA) fun rA=>
 if !rA then
 some false
 else
 bd (iy sA lA) fun bL=>
 bd (
  if !bL.2 then
  some true
  else
  some (decide (bL.1=value)):Option Bool) fun w=>
 some w
noncomputable def di (a:af) (view:Int) (value:List UInt8) (rX:List aw):Option (af×ab×Bool):=
 bd (
  if !decide (view=a.View) then
  some true
  else
  if a.Has then
  if a.At=view then
  some true
  else
  some (decide ((6000:Int)<(value.length:Int)))
  else
  some (decide ((6000:Int)<(value.length:Int))):Option Bool) fun w=>
 if w then
 some (a,(⟨0,0,([]:List UInt8)⟩:ab),false)
 else
 bd (
  if view=0 then
  some (decide ((rX.length:Int)=0))
  else
  some false:Option Bool) fun w1=>
 bd (
  if w1 then
  some (.inr (0,0,0,0,false,0,([]:List UInt8),([]:List ab),([]:List ab),0,0,([]:List UInt8)))
  else
  bd (ft a.S view rX value) fun rA=>
  if !rA then
  some (.inl (a.S.F,a.S.T,a.Me,a.View,a.Has,a.At,a.Value,a.Proof,a.bS.L,0,0,([]:List UInt8),false))
  else
  some (.inr (0,0,0,0,false,0,([]:List UInt8),([]:List ab),([]:List ab),0,0,([]:List UInt8))):Option ((Int×Int×Int×Int×Bool×Int×(List UInt8)×(List ab)×(List ab)×Int×Int×(List UInt8)×Bool)⊕(Int×Int×Int×Int×Bool×Int×(List UInt8)×(List ab)×(List ab)×Int×Int×(List UInt8)))) fun w2=>
 match w2 with
 | .inl p1=>
  some ((⟨(⟨p1.1,p1.2.1⟩:aj),p1.2.2.1,p1.2.2.2.1,p1.2.2.2.2.1,p1.2.2.2.2.2.1,p1.2.2.2.2.2.2.1,p1.2.2.2.2.2.2.2.1,(⟨p1.2.2.2.2.2.2.2.2.1⟩:aD)⟩:af),(⟨p1.2.2.2.2.2.2.2.2.2.1,p1.2.2.2.2.2.2.2.2.2.2.1,p1.2.2.2.2.2.2.2.2.2.2.2.1⟩:ab),p1.2.2.2.2.2.2.2.2.2.2.2.2)
 | .inr p2=>
  some ((⟨a.S,a.Me,a.View,true,view,value,a.Proof,a.bS⟩:af),(⟨a.Me,view,value⟩:ab),true)
noncomputable def jb:Option Bool:=
 bd (dy (⟨1,0⟩:aj) 2) fun rA=>
 bd (di rA.1 0 ([120]:List UInt8) ([]:List aw)) fun bL=>
 bd (di bL.1 0 ([121]:List UInt8) ([]:List aw)) fun cL=>
 bd (fm bL.1 3) fun cZ=>
 bd (
  if rA.2=0 then
  if bL.2.2 then
  if !cL.2.2 then
  if cZ.2.2 then
  if bL.2.1.By=2 then
  if bL.2.1.Value=([120]:List UInt8) then
  if cZ.1.View=3 then
  if cZ.2.1.sX=3 then
  some (decide (cZ.2.1.Value=([120]:List UInt8)))
  else
  some false
  else
  some false
  else
  some false
  else
  some false
  else
  some false
  else
  some false
  else
  some false
  else
  some false:Option Bool) fun w=>
 some w
noncomputable def jc (sA:bZ):Option Bool:=
 bd (
  if (1:Int)≤sA.F then
  if sA.F≤5 then
  if (0:Int)≤sA.T then
  some (decide (sA.T≤sA.F))
  else
  some false
  else
  some false
  else
  some false:Option Bool) fun w=>
 some w
noncomputable def vd (sA:bZ):Option Int:=
 some (IntKind.wrap .i64 ((IntKind.wrap .i64 ((IntKind.wrap .i64 (3 *sA.F))+(IntKind.wrap .i64 (2 *sA.T))))+1))
noncomputable def oh (sA:bZ) (me:Int):Option (aK×Int):=
 bd (
  bd (jc sA) fun rA=>
  if !rA then
  some true
  else
  if me<0 then
  some true
  else
  bd (vd sA) fun bL=>
  some (decide (bL≤me)):Option Bool) fun w=>
 if w then
 some ((⟨(⟨0,0⟩:bZ),0,0,false,0,([]:List UInt8),([]:List ab),(⟨([]:List ab)⟩:ct)⟩:aK),1)
 else
 some ((⟨sA,me,0,false,0,([]:List UInt8),([]:List ab),(⟨([]:List ab)⟩:ct)⟩:aK),0)
noncomputable def ni (sA:aj):Option bZ:=
 some (⟨sA.F,sA.T⟩:bZ)
noncomputable def kV (a:List ab) (b:List ab) (st:Int):Option (Int⊕(Unit⊕Bool)):=
 if st<(a.length:Int) then
 ix a st fun y=>
 ix b st fun y1=>
 if !((decide (y.By=y1.By))&&((decide (y.View=y1.View))&&(decide (y.Value=y1.Value)))) then
 some (.inr (.inr false))
 else
 some (.inl (IntKind.wrap .i64 (st+1)))
 else
 some (.inr (.inl ()))
noncomputable def nj (a:List ab) (b:List ab):Option Bool:=
 if !decide ((a.length:Int)=(b.length:Int)) then
 some false
 else
 bd (Loop (kV a b) 0) fun w=>
 match w with
 | .inl p1=>
  some true
 | .inr p2=>
  some p2
noncomputable def kW (a:aK) (b:aK):Option Bool:=
 bd (
  if ((decide (a.S.F=b.S.F))&&(decide (a.S.T=b.S.T))) then
  if a.Me=b.Me then
  if a.View=b.View then
  if a.Has=b.Has then
  if a.At=b.At then
  some (decide (a.Value=b.Value))
  else
  some false
  else
  some false
  else
  some false
  else
  some false
  else
  some false:Option Bool) fun w=>
 bd (
  if w then
  bd (nj a.Proof b.Proof) fun rA=>
  if rA then
  bd (nj a.bS.L b.bS.L) fun bL=>
  some bL
  else
  some false
  else
  some false:Option Bool) fun w1=>
 some w1
noncomputable def gJ (a:af):Option aK:=
 bd (ni a.S) fun rA=>
 some (⟨rA,a.Me,a.View,a.Has,a.At,a.Value,a.Proof,(⟨a.bS.L⟩:ct)⟩:aK)
noncomputable def b5 (a:af):Option Bool:=
 bd (
  if a.View<0 then
  some true
  else
  some (decide ((100000:Int)<a.View)):Option Bool) fun w=>
 if w then
 some false
 else
 bd (
  if a.Has then
  if a.At<0 then
  some true
  else
  if a.View<a.At then
  some true
  else
  some (decide ((6000:Int)<(a.Value.length:Int)))
  else
  some false:Option Bool) fun w1=>
 if w1 then
 some false
 else
 bd (
  if !a.Has then
  if !decide (a.At=0) then
  some true
  else
  some (!decide (a.Value=([]:List UInt8)))
  else
  some false:Option Bool) fun w2=>
 if w2 then
 some false
 else
 bd (
  if (a.Proof.length:Int)=0 then
  some true
  else
  bd (dz a.S a.Proof) fun rA=>
  if rA then
  ix a.Proof 0 fun y=>
  some (decide (y.View≤a.View))
  else
  some false:Option Bool) fun w3=>
 some w3
noncomputable def qz (a:ab):Option Bool:=
 bd (
  if (0:Int)≤a.By then
  if (0:Int)≤a.View then
  if a.View≤100000 then
  some (decide ((a.Value.length:Int)≤6000))
  else
  some false
  else
  some false
  else
  some false:Option Bool) fun w=>
 some w
noncomputable def lZ (t:ct) (st:Int):Option (Int⊕(Unit⊕Bool)):=
 if st<(t.L.length:Int) then
 bd (
  ix t.L st fun y=>
  bd (qz y) fun rA=>
  if !rA then
  some true
  else
  if (0:Int)<st then
  ix t.L (IntKind.wrap .i64 (st-1)) fun y1=>
  ix t.L st fun y2=>
  some (decide (y2.By≤y1.By))
  else
  some false:Option Bool) fun w1=>
 if w1 then
 some (.inr (.inr false))
 else
 some (.inl (IntKind.wrap .i64 (st+1)))
 else
 some (.inr (.inl ()))
noncomputable def kp (t:ct):Option Bool:=
 bd (Loop (lZ t) 0) fun w=>
 match w with
 | .inl p1=>
  some true
 | .inr p2=>
  some p2
noncomputable def nk (sA:bZ):Option Int:=
 some (IntKind.wrap .i64 ((IntKind.wrap .i64 ((IntKind.wrap .i64 (2 *sA.F))+sA.T))+1))
noncomputable def ma (a:bZ) (a1:List ab) (st:Int):Option (Int⊕(Unit⊕Bool)):=
 if st<(a1.length:Int) then
 ix a1 st fun y=>
 bd (
  bd (qz y) fun cL=>
  if !cL then
  some true
  else
  bd (vd a) fun cZ=>
  if cZ≤y.By then
  some true
  else
  ix a1 0 fun y1=>
  if !decide (y.View=y1.View) then
  some true
  else
  ix a1 0 fun y2=>
  if !decide (y.Value=y2.Value) then
  some true
  else
  if (0:Int)<st then
  ix a1 (IntKind.wrap .i64 (st-1)) fun y3=>
  some (decide (y.By≤y3.By))
  else
  some false:Option Bool) fun w2=>
 if w2 then
 some (.inr (.inr false))
 else
 some (.inl (IntKind.wrap .i64 (st+1)))
 else
 some (.inr (.inl ()))
noncomputable def jd (a:bZ) (a1:List ab):Option Bool:=
 bd (
  bd (jc a) fun rA=>
  if !rA then
  some true
  else
  bd (nk a) fun bL=>
  some (!decide ((a1.length:Int)=bL)):Option Bool) fun w=>
 if w then
 some false
 else
 bd (Loop (ma a a1) 0) fun w1=>
 match w1 with
 | .inl p1=>
  some true
 | .inr p2=>
  some p2
noncomputable def gK (a:aK) (st:Int):Option (Int⊕(Unit⊕Bool)):=
 if st<(a.bS.L.length:Int) then
 bd (
  ix a.bS.L st fun y1=>
  bd (vd a.S) fun cZ=>
  if cZ≤y1.By then
  some true
  else
  ix a.bS.L st fun y2=>
  some (!decide (y2.View=a.View)):Option Bool) fun w4=>
 if w4 then
 some (.inr (.inr false))
 else
 some (.inl (IntKind.wrap .i64 (st+1)))
 else
 some (.inr (.inl ()))
noncomputable def je (a:aK):Option Bool:=
 bd (oh a.S a.Me) fun rA=>
 bd (
  if !decide (rA.2=0) then
  some true
  else
  if a.View<0 then
  some true
  else
  if (100000:Int)<a.View then
  some true
  else
  bd (kp a.bS) fun bL=>
  some (!bL):Option Bool) fun w=>
 if w then
 some false
 else
 bd (
  if a.Has then
  if a.At<0 then
  some true
  else
  if a.View<a.At then
  some true
  else
  if (6000:Int)<(a.Value.length:Int) then
  some true
  else
  if !a.Has then
  if !decide (a.At=0) then
  some true
  else
  some (!decide (a.Value=([]:List UInt8)))
  else
  some false
  else
  if !a.Has then
  if !decide (a.At=0) then
  some true
  else
  some (!decide (a.Value=([]:List UInt8)))
  else
  some false:Option Bool) fun w1=>
 if w1 then
 some false
 else
 bd (
  if (0:Int)<(a.Proof.length:Int) then
  bd (jd a.S a.Proof) fun cL=>
  if !cL then
  some true
  else
  ix a.Proof 0 fun y=>
  some (decide (a.View<y.View))
  else
  some false:Option Bool) fun w2=>
 if w2 then
 some false
 else
 bd (Loop (gK a) 0) fun w3=>
 match w3 with
 | .inl p1=>
  some true
 | .inr p2=>
  some p2
noncomputable def iz (b:List Int) (y:Int) (st:Int×Int):Option ((Int×Int)⊕Int):=
 if st.2<((List.drop (Int.toNat 0) (List.take (Int.toNat (IntKind.wrap .i64 y)) (List.drop (Int.toNat 1) (List.take (Int.toNat (b.length:Int)) b)))).length:Int) then
 ix (List.drop (Int.toNat 0) (List.take (Int.toNat (IntKind.wrap .i64 y)) (List.drop (Int.toNat 1) (List.take (Int.toNat (b.length:Int)) b)))) st.2 fun y2=>
 if (0:Int)≤8 then
 some (.inl (O8 .u64 (IntKind.wrap .u64 (st.1 *2^min (Int.toNat 8) (IntKind.bits .u64))) (IntKind.wrap .u64 y2),IntKind.wrap .i64 (st.2+1)))
 else none
 else
 some (.inr st.1)
noncomputable def jf (b:List Int):Option (Int×(List Int)×Int):=
 if (b.length:Int)=0 then
 some (0,([]:List Int),2)
 else
 ix b 0 fun y=>
 if (0:Int)≤1∧(1:Int)≤(b.length:Int)∧(b.length:Int)≤(b.length:Int) then
 bd (
  if (8:Int)<(IntKind.wrap .i64 y) then
  some true
  else
  if (0:Int)<(IntKind.wrap .i64 y) then
  if (0:Int)<((List.drop (Int.toNat 1) (List.take (Int.toNat (b.length:Int)) b)).length:Int) then
  ix (List.drop (Int.toNat 1) (List.take (Int.toNat (b.length:Int)) b)) 0 fun y1=>
  some (decide (y1=0))
  else
  some false
  else
  some false:Option Bool) fun w=>
 if w then
 some (0,([]:List Int),3)
 else
 if ((List.drop (Int.toNat 1) (List.take (Int.toNat (b.length:Int)) b)).length:Int)<(IntKind.wrap .i64 y) then
 some (0,([]:List Int),2)
 else
 if (0:Int)≤0∧(0:Int)≤(IntKind.wrap .i64 y)∧(IntKind.wrap .i64 y)≤((List.drop (Int.toNat 1) (List.take (Int.toNat (b.length:Int)) b)).length:Int) then
 bd (Loop (iz b y) (0,0)) fun w1=>
 if (0:Int)≤(IntKind.wrap .i64 y)∧(IntKind.wrap .i64 y)≤((List.drop (Int.toNat 1) (List.take (Int.toNat (b.length:Int)) b)).length:Int)∧((List.drop (Int.toNat 1) (List.take (Int.toNat (b.length:Int)) b)).length:Int)≤((List.drop (Int.toNat 1) (List.take (Int.toNat (b.length:Int)) b)).length:Int) then
 some (w1,List.drop (Int.toNat (IntKind.wrap .i64 y)) (List.take (Int.toNat ((List.drop (Int.toNat 1) (List.take (Int.toNat (b.length:Int)) b)).length:Int)) (List.drop (Int.toNat 1) (List.take (Int.toNat (b.length:Int)) b))),0)
 else none
 else none
 else none
noncomputable def ga (b:List Int):Option (Int×(List Int)×Int):=
 bd (jf b) fun rA=>
 if (0:Int)≤1 then
 some (tN .i64 (IntKind.wrap .i64 (Int.fdiv rA.1 (2^min (Int.toNat 1) (IntKind.bits .u64)))) (IntKind.wrap .i64 (0-(IntKind.wrap .i64 (Ed .u64 rA.1 1)))),rA.2.1,rA.2.2)
 else none
noncomputable def bl (t:au):Option (Int×au):=
 bd (
  if t.e=0 then
  bd (ga t.b) fun rA=>
  some (rA.1,rA.2.1,rA.2.2)
  else
  some (0,t.b,t.e):Option (Int×(List Int)×Int)) fun w=>
 some (w.1,(⟨w.2.1,w.2.2⟩:au))
noncomputable def dW (b:List Int) (most:Int):Option ((List UInt8)×(List Int)×Int):=
 bd (jf b) fun rA=>
 if !decide (rA.2.2=0) then
 some (([]:List UInt8),([]:List Int),rA.2.2)
 else
 if (IntKind.wrap .u64 (imax most 0))<rA.1 then
 some (([]:List UInt8),([]:List Int),5)
 else
 if (IntKind.wrap .u64 (rA.2.1.length:Int))<rA.1 then
 some (([]:List UInt8),([]:List Int),2)
 else
 if (0:Int)≤0∧(0:Int)≤rA.1∧rA.1≤(rA.2.1.length:Int) then
 uk (List.drop (Int.toNat 0) (List.take (Int.toNat rA.1) rA.2.1)) fun bs=>
 if (0:Int)≤rA.1∧rA.1≤(rA.2.1.length:Int)∧(rA.2.1.length:Int)≤(rA.2.1.length:Int) then
 some (bs,List.drop (Int.toNat rA.1) (List.take (Int.toNat (rA.2.1.length:Int)) rA.2.1),0)
 else none
 else none
noncomputable def bJ (t:au):Option ((List UInt8)×au):=
 bd (
  if t.e=0 then
  bd (dW t.b 6000) fun rA=>
  some (rA.1,rA.2.1,rA.2.2)
  else
  some (([]:List UInt8),t.b,t.e):Option ((List UInt8)×(List Int)×Int)) fun w=>
 some (w.1,(⟨w.2.1,w.2.2⟩:au))
noncomputable def bn (rA:Int×au) (st:(List ab)×Int×(List Int)×Int):Option (((List ab)×Int×(List Int)×Int)⊕((List ab)×(List Int)×Int)):=
 if st.2.1<((List.replicate (Int.toNat rA.1) (⟨0,0,([]:List UInt8)⟩:ab)).length:Int) then
 bd (bl (⟨st.2.2.1,st.2.2.2⟩:au)) fun bL=>
 ix st.1 st.2.1 fun y=>
 some (.inl (st.1.set (Int.toNat st.2.1) (⟨bL.1,y.View,y.Value⟩:ab),IntKind.wrap .i64 (st.2.1+1),bL.2.b,bL.2.e))
 else
 some (.inr (st.1,st.2.2.1,st.2.2.2))
noncomputable def cC (w3:(List ab)×(List Int)×Int) (cL:Int×au) (cZ:(List UInt8)×au) (ca:(List ab)×Int):Option (((List ab)×Int)⊕(List ab)):=
 if ca.2<(w3.1.length:Int) then
 ix ca.1 ca.2 fun y1=>
 ix (ca.1.set (Int.toNat ca.2) (⟨y1.By,cL.1,y1.Value⟩:ab)) ca.2 fun y2=>
 some (.inl ((ca.1.set (Int.toNat ca.2) (⟨y1.By,cL.1,y1.Value⟩:ab)).set (Int.toNat ca.2) (⟨y2.By,y2.View,cZ.1⟩:ab),IntKind.wrap .i64 (ca.2+1)))
 else
 some (.inr ca.1)
noncomputable def bP (t:au):Option ((List ab)×au):=
 bd (bl t) fun rA=>
 bd (
  if rA.1<0 then
  some true
  else
  some (decide ((100:Int)<rA.1)):Option Bool) fun w=>
 bd (
  if w then
  some (rA.2.b,3)
  else
  some (rA.2.b,rA.2.e):Option ((List Int)×Int)) fun w1=>
 bd (
  if !decide (w1.2=0) then
  some true
  else
  some (decide (rA.1=0)):Option Bool) fun w2=>
 if w2 then
 some (([]:List ab),(⟨w1.1,w1.2⟩:au))
 else
 if (0:Int)≤rA.1∧rA.1=rA.1∧rA.1 *32≤2^46 then
 bd (Loop (bn rA) (List.replicate (Int.toNat rA.1) (⟨0,0,([]:List UInt8)⟩:ab),0,w1.1,w1.2)) fun w3=>
 bd (bl (⟨w3.2.1,w3.2.2⟩:au)) fun cL=>
 bd (bJ cL.2) fun cZ=>
 bd (Loop (cC w3 cL cZ) (w3.1,0)) fun w4=>
 some (w4,cZ.2)
 else none
noncomputable def dg (Rw:Bool):Option Int:=
 if Rw then
 some 1
 else
 some 0
noncomputable def dI (a:aj) (a1:Int) (a2:List Int):Option (af×Int):=
 bd (dy a a1) fun rA=>
 if !decide (rA.2=0) then
 some ((⟨(⟨0,0⟩:aj),0,0,false,0,([]:List UInt8),([]:List ab),(⟨([]:List ab)⟩:aD)⟩:af),rA.2)
 else
 bd (bl (⟨a2,0⟩:au)) fun bL=>
 bd (bl bL.2) fun cL=>
 bd (bl cL.2) fun cZ=>
 bd (bJ cZ.2) fun nh=>
 bd (bP nh.2) fun sZ=>
 bd (
  if !decide (sZ.2.e=0) then
  some true
  else
  bd (dg (decide (cL.1=1))) fun yF=>
  if !decide (cL.1=yF) then
  some true
  else
  if (0:Int)<(sZ.2.b.length:Int) then
  some true
  else
  bd (b5 (⟨rA.1.S,rA.1.Me,bL.1,decide (cL.1=1),cZ.1,nh.1,sZ.1,rA.1.bS⟩:af)) fun ve=>
  some (!ve):Option Bool) fun w=>
 if w then
 some ((⟨(⟨0,0⟩:aj),0,0,false,0,([]:List UInt8),([]:List ab),(⟨([]:List ab)⟩:aD)⟩:af),3)
 else
 some ((⟨rA.1.S,rA.1.Me,bL.1,decide (cL.1=1),cZ.1,nh.1,sZ.1,rA.1.bS⟩:af),0)
noncomputable def kX (b:List Int) (y:Int) (st:Int×Int):Option ((Int×Int)⊕Int):=
 if st.2≤(IntKind.wrap .i64 y) then
 ix b st.2 fun y2=>
 some (.inl (IntKind.wrap .u64 ((IntKind.wrap .u64 (256 *st.1))+(IntKind.wrap .u64 y2)),IntKind.wrap .i64 (st.2+1)))
 else
 some (.inr st.1)
noncomputable def nm (b:List Int):Option (Int×(List Int)×Int):=
 if (b.length:Int)=0 then
 some (0,([]:List Int),2)
 else
 ix b 0 fun y=>
 bd (
  if (8:Int)<(IntKind.wrap .i64 y) then
  some true
  else
  if (0:Int)<(IntKind.wrap .i64 y) then
  if (1:Int)<(b.length:Int) then
  ix b 1 fun y1=>
  some (decide (y1=0))
  else
  some false
  else
  some false:Option Bool) fun w=>
 if w then
 some (0,([]:List Int),3)
 else
 if (b.length:Int)<(IntKind.wrap .i64 (1+(IntKind.wrap .i64 y))) then
 some (0,([]:List Int),2)
 else
 bd (Loop (kX b y) (0,1)) fun w1=>
 if (0:Int)≤(IntKind.wrap .i64 (1+(IntKind.wrap .i64 y)))∧(IntKind.wrap .i64 (1+(IntKind.wrap .i64 y)))≤(b.length:Int)∧(b.length:Int)≤(b.length:Int) then
 some (w1,List.drop (Int.toNat (IntKind.wrap .i64 (1+(IntKind.wrap .i64 y)))) (List.take (Int.toNat (b.length:Int)) b),0)
 else none
noncomputable def jI (b:List Int):Option (Int×(List Int)×Int):=
 bd (nm b) fun rA=>
 if !decide (rA.2.2=0) then
 some (0,([]:List Int),rA.2.2)
 else
 if !decide ((2:Int)=0) then
 if (Int.tmod rA.1 2)=1 then
 if !decide ((2:Int)=0) then
 some (IntKind.wrap .i64 ((IntKind.wrap .i64 (0-(IntKind.wrap .i64 (IntKind.wrap .u64 (Int.tdiv rA.1 2)))))-1),rA.2.1,0)
 else none
 else
 if !decide ((2:Int)=0) then
 some (IntKind.wrap .i64 (IntKind.wrap .u64 (Int.tdiv rA.1 2)),rA.2.1,0)
 else none
 else none
noncomputable def gM (many:Int) (st:(List Int)×(List Int)×Int):Option (((List Int)×(List Int)×Int)⊕(((List Int)×(List Int))⊕((List Int)×(List Int)×Bool))):=
 if st.2.2<many then
 bd (jI st.1) fun rA=>
 if !decide (rA.2.2=0) then
 some (.inr (.inr (([]:List Int),([]:List Int),false)))
 else
 if (st.2.1.length+([rA.1]:List Int).length) *8≤2^46 then
 some (.inl (rA.2.1,st.2.1++([rA.1]:List Int),IntKind.wrap .i64 (st.2.2+1)))
 else none
 else
 some (.inr (.inl (st.1,st.2.1)))
noncomputable def gO (b:List Int) (many:Int):Option ((List Int)×(List Int)×Bool):=
 bd (Loop (gM many) (b,([]:List Int),0)) fun w=>
 match w with
 | .inl p1=>
  some (p1.2,p1.1,true)
 | .inr p2=>
  some (p2.1,p2.2.1,p2.2.2)
noncomputable def dA (b:List Int) (most:Int):Option ((List UInt8)×(List Int)×Int):=
 bd (nm b) fun rA=>
 if !decide (rA.2.2=0) then
 some (([]:List UInt8),([]:List Int),rA.2.2)
 else
 if (IntKind.wrap .u64 (imax most 0))<rA.1 then
 some (([]:List UInt8),([]:List Int),5)
 else
 if (IntKind.wrap .u64 (rA.2.1.length:Int))<rA.1 then
 some (([]:List UInt8),([]:List Int),2)
 else
 if (0:Int)≤0∧(0:Int)≤rA.1∧rA.1≤(rA.2.1.length:Int) then
 uk (List.drop (Int.toNat 0) (List.take (Int.toNat rA.1) rA.2.1)) fun bs=>
 if (0:Int)≤rA.1∧rA.1≤(rA.2.1.length:Int)∧(rA.2.1.length:Int)≤(rA.2.1.length:Int) then
 some (bs,List.drop (Int.toNat rA.1) (List.take (Int.toNat (rA.2.1.length:Int)) rA.2.1),0)
 else none
 else none
noncomputable def iA (bL:(List Int)×(List Int)×Bool) (cL:(List Int)×(List Int)×Bool) (cZ:(List UInt8)×(List Int)×Int) (st:(List ab)×Int):Option (((List ab)×Int)⊕(List ab)):=
 if st.2<(bL.1.length:Int) then
 ix bL.1 st.2 fun y4=>
 ix cL.1 0 fun y5=>
 if (st.1.length+([(⟨y4,y5,cZ.1⟩:ab)]:List ab).length) *32≤2^46 then
 some (.inl (st.1++([(⟨y4,y5,cZ.1⟩:ab)]:List ab),IntKind.wrap .i64 (st.2+1)))
 else none
 else
 some (.inr st.1)
noncomputable def kY (a:List Int):Option ((List ab)×(List Int)×Bool):=
 bd (gO a 1) fun rA=>
 bd (
  if !rA.2.2 then
  some true
  else
  ix rA.1 0 fun y=>
  if y<0 then
  some true
  else
  ix rA.1 0 fun y1=>
  some (decide ((100:Int)<y1)):Option Bool) fun w=>
 if w then
 some (([]:List ab),([]:List Int),false)
 else
 ix rA.1 0 fun y2=>
 if y2=0 then
 some (([]:List ab),rA.2.1,true)
 else
 ix rA.1 0 fun y3=>
 bd (gO rA.2.1 y3) fun bL=>
 if !bL.2.2 then
 some (([]:List ab),([]:List Int),false)
 else
 bd (gO bL.2.1 1) fun cL=>
 if !cL.2.2 then
 some (([]:List ab),([]:List Int),false)
 else
 bd (dA cL.2.1 6000) fun cZ=>
 if !decide (cZ.2.2=0) then
 some (([]:List ab),([]:List Int),false)
 else
 bd (Loop (iA bL cL cZ) (([]:List ab),0)) fun w1=>
 some (w1,cZ.2.1,true)
noncomputable def pJ (a:bZ) (a1:Int) (a2:List Int):Option (aK×Int):=
 bd (oh a a1) fun rA=>
 if !decide (rA.2=0) then
 some ((⟨(⟨0,0⟩:bZ),0,0,false,0,([]:List UInt8),([]:List ab),(⟨([]:List ab)⟩:ct)⟩:aK),rA.2)
 else
 bd (gO a2 3) fun bL=>
 bd (
  if !bL.2.2 then
  some true
  else
  ix bL.1 1 fun y=>
  if !decide (y=0) then
  ix bL.1 1 fun y1=>
  some (!decide (y1=1))
  else
  some false:Option Bool) fun w=>
 if w then
 some ((⟨(⟨0,0⟩:bZ),0,0,false,0,([]:List UInt8),([]:List ab),(⟨([]:List ab)⟩:ct)⟩:aK),3)
 else
 bd (dA bL.2.1 6000) fun cL=>
 if !decide (cL.2.2=0) then
 some ((⟨(⟨0,0⟩:bZ),0,0,false,0,([]:List UInt8),([]:List ab),(⟨([]:List ab)⟩:ct)⟩:aK),3)
 else
 bd (kY cL.2.1) fun cZ=>
 bd (
  if !cZ.2.2 then
  some true
  else
  some (decide ((0:Int)<(cZ.2.1.length:Int))):Option Bool) fun w1=>
 if w1 then
 some ((⟨(⟨0,0⟩:bZ),0,0,false,0,([]:List UInt8),([]:List ab),(⟨([]:List ab)⟩:ct)⟩:aK),3)
 else
 ix bL.1 0 fun y2=>
 ix bL.1 1 fun y3=>
 ix bL.1 2 fun y4=>
 bd (je (⟨rA.1.S,rA.1.Me,y2,decide (y3=1),y4,cL.1,cZ.1,rA.1.bS⟩:aK)) fun nh=>
 if !nh then
 some ((⟨(⟨0,0⟩:bZ),0,0,false,0,([]:List UInt8),([]:List ab),(⟨([]:List ab)⟩:ct)⟩:aK),3)
 else
 some ((⟨rA.1.S,rA.1.Me,y2,decide (y3=1),y4,cL.1,cZ.1,rA.1.bS⟩:aK),0)
noncomputable def ol (x:Int):Option Int:=
 bd (
  if (4294967296:Int)≤x then
  if (0:Int)≤32 then
  some (Int.fdiv x (2^min (Int.toNat 32) (IntKind.bits .u64)),32)
  else none
  else
  some (x,0):Option (Int×Int)) fun w=>
 bd (
  if (65536:Int)≤w.1 then
  if (0:Int)≤16 then
  some (Int.fdiv w.1 (2^min (Int.toNat 16) (IntKind.bits .u64)),IntKind.wrap .i64 (w.2+16))
  else none
  else
  some (w.1,w.2):Option (Int×Int)) fun w1=>
 bd (
  if (256:Int)≤w1.1 then
  if (0:Int)≤8 then
  some (Int.fdiv w1.1 (2^min (Int.toNat 8) (IntKind.bits .u64)),IntKind.wrap .i64 (w1.2+8))
  else none
  else
  some (w1.1,w1.2):Option (Int×Int)) fun w2=>
 if (0:Int)≤(IntKind.wrap .u8 w2.1)∧(IntKind.wrap .u8 w2.1)<(((([0,1,2,2,3,3,3,3,4,4,4,4,4,4,4,4,5,5,5,5,5,5,5,5,5,5,5,5,5,5,5,5,6,6,6,6,6,6,6,6,6,6,6,6,6,6,6,6,6,6,6,6,6,6,6,6,6,6,6,6,6,6,6,6]:List UInt8)++([7,7,7,7,7,7,7,7,7,7,7,7,7,7,7,7,7,7,7,7,7,7,7,7,7,7,7,7,7,7,7,7,7,7,7,7,7,7,7,7,7,7,7,7,7,7,7,7,7,7,7,7,7,7,7,7,7,7,7,7,7,7,7,7]:List UInt8))++(([8,8,8,8,8,8,8,8,8,8,8,8,8,8,8,8,8,8,8,8,8,8,8,8,8,8,8,8,8,8,8,8,8,8,8,8,8,8,8,8,8,8,8,8,8,8,8,8,8,8,8,8,8,8,8,8,8,8,8,8,8,8,8,8]:List UInt8)++([8,8,8,8,8,8,8,8,8,8,8,8,8,8,8,8,8,8,8,8,8,8,8,8,8,8,8,8,8,8,8,8,8,8,8,8,8,8,8,8,8,8,8,8,8,8,8,8,8,8,8,8,8,8,8,8,8,8,8,8,8,8,8,8]:List UInt8))).length:Int) then
 some (IntKind.wrap .i64 (w2.2+(IntKind.wrap .i64 ((((([0,1,2,2,3,3,3,3,4,4,4,4,4,4,4,4,5,5,5,5,5,5,5,5,5,5,5,5,5,5,5,5,6,6,6,6,6,6,6,6,6,6,6,6,6,6,6,6,6,6,6,6,6,6,6,6,6,6,6,6,6,6,6,6]:List UInt8)++([7,7,7,7,7,7,7,7,7,7,7,7,7,7,7,7,7,7,7,7,7,7,7,7,7,7,7,7,7,7,7,7,7,7,7,7,7,7,7,7,7,7,7,7,7,7,7,7,7,7,7,7,7,7,7,7,7,7,7,7,7,7,7,7]:List UInt8))++(([8,8,8,8,8,8,8,8,8,8,8,8,8,8,8,8,8,8,8,8,8,8,8,8,8,8,8,8,8,8,8,8,8,8,8,8,8,8,8,8,8,8,8,8,8,8,8,8,8,8,8,8,8,8,8,8,8,8,8,8,8,8,8,8]:List UInt8)++([8,8,8,8,8,8,8,8,8,8,8,8,8,8,8,8,8,8,8,8,8,8,8,8,8,8,8,8,8,8,8,8,8,8,8,8,8,8,8,8,8,8,8,8,8,8,8,8,8,8,8,8,8,8,8,8,8,8,8,8,8,8,8,8]:List UInt8))).getD (Int.toNat (IntKind.wrap .u8 w2.1)) 0).toNat:Int))))
 else none
noncomputable def kZ (n:Int):Option Int:=
 bd (ol n) fun rA=>
 if !decide ((8:Int)=0) then
 some (IntKind.wrap .i64 (1+(IntKind.wrap .i64 (Int.tdiv (IntKind.wrap .i64 (rA+7)) 8))))
 else none
noncomputable def gk (sA:List Int):Option (List Int):=
 if (sA.length:Int)=(sA.length:Int)∧(sA.length:Int)=(sA.length:Int) then
 some sA
 else none
noncomputable def jJ (n:Int) (st:(List Int)×Int):Option (((List Int)×Int)⊕(List Int)):=
 if (0:Int)≤st.2 then
 if (0:Int)≤(IntKind.wrap .i64 (8 *st.2)) then
 if (st.1.length+([IntKind.wrap .u8 (Int.fdiv n (2^min (Int.toNat (IntKind.wrap .i64 (8 *st.2))) (IntKind.bits .u64)))]:List Int).length) *1≤2^46 then
 some (.inl (st.1++([IntKind.wrap .u8 (Int.fdiv n (2^min (Int.toNat (IntKind.wrap .i64 (8 *st.2))) (IntKind.bits .u64)))]:List Int),IntKind.wrap .i64 (st.2-1)))
 else none
 else none
 else
 some (.inr st.1)
noncomputable def kq (b:List Int) (n:Int):Option (List Int):=
 bd (kZ n) fun rA=>
 bd (gk b) fun bL=>
 if 0<([IntKind.wrap .u8 (IntKind.wrap .i64 (rA-1))]:List Int).length∧(bL.length+([IntKind.wrap .u8 (IntKind.wrap .i64 (rA-1))]:List Int).length) *1≤2^46 then
 bd (Loop (jJ n) (bL++([IntKind.wrap .u8 (IntKind.wrap .i64 (rA-1))]:List Int),IntKind.wrap .i64 ((IntKind.wrap .i64 (rA-1))-1))) fun w=>
 some w
 else none
noncomputable def eK (b:List Int) (n:Int):Option (List Int):=
 if (0:Int)≤1 then
 if (0:Int)≤63 then
 bd (kq b (tN .u64 (IntKind.wrap .u64 ((IntKind.wrap .u64 n) *2^min (Int.toNat 1) (IntKind.bits .u64))) (IntKind.wrap .u64 (Int.fdiv n (2^min (Int.toNat 63) (IntKind.bits .i64)))))) fun rA=>
 some rA
 else none
 else none
noncomputable def jg (b:List Int) (sA:List UInt8):Option (List Int):=
 bd (kq b (IntKind.wrap .u64 (sA.length:Int))) fun rA=>
 if (rA.length+(pI sA).length) *1≤2^46 then
 some (rA++(pI sA))
 else none
noncomputable def gl (a:af) (st:(List Int)×Int):Option (((List Int)×Int)⊕(List Int)):=
 if st.2<(a.Proof.length:Int) then
 ix a.Proof st.2 fun y=>
 bd (eK st.1 y.By) fun yF=>
 some (.inl (yF,IntKind.wrap .i64 (st.2+1)))
 else
 some (.inr st.1)
noncomputable def dJ (a:af):Option (List Int):=
 bd (eK ([]:List Int) a.View) fun rA=>
 bd (dg a.Has) fun bL=>
 bd (eK rA bL) fun cL=>
 bd (eK cL a.At) fun cZ=>
 bd (jg cZ a.Value) fun nh=>
 bd (eK nh (a.Proof.length:Int)) fun sZ=>
 bd (Loop (gl a) (sZ,0)) fun w=>
 bd (jH a.Proof) fun ve=>
 bd (
  if ve.2.2 then
  bd (eK w ve.1) fun Lm=>
  bd (jg Lm ve.2.1) fun NK=>
  some NK
  else
  some w:Option (List Int)) fun w1=>
 some w1
noncomputable def lc (st:Int×Int):Option ((Int×Int)⊕Int):=
 if (0:Int)<st.1 then
 if !decide ((256:Int)=0) then
 some (.inl (IntKind.wrap .u64 (Int.tdiv st.1 256),IntKind.wrap .i64 (st.2+1)))
 else none
 else
 some (.inr st.2)
noncomputable def pK (n:Int):Option Int:=
 bd (Loop lc (n,1)) fun w=>
 some w
noncomputable def nn (st:(List Int)×Int) (ca:Int×Int):Option ((Int×Int)⊕Int):=
 if ca.2<st.2 then
 if !decide ((256:Int)=0) then
 some (.inl (IntKind.wrap .u64 (Int.tdiv ca.1 256),IntKind.wrap .i64 (ca.2+1)))
 else none
 else
 some (.inr ca.1)
noncomputable def np (n:Int) (st:(List Int)×Int):Option (((List Int)×Int)⊕(List Int)):=
 if (0:Int)≤st.2 then
 bd (Loop (nn st) (n,0)) fun w1=>
 if !decide ((256:Int)=0) then
 if (st.1.length+([IntKind.wrap .u8 (Int.tmod w1 256)]:List Int).length) *1≤2^46 then
 some (.inl (st.1++([IntKind.wrap .u8 (Int.tmod w1 256)]:List Int),IntKind.wrap .i64 (st.2-1)))
 else none
 else none
 else
 some (.inr st.1)
noncomputable def om (b:List Int) (n:Int):Option (List Int):=
 if (([]:List Int).length+b.length) *1≤2^46 then
 bd (pK n) fun rA=>
 if ((([]:List Int)++b).length+([IntKind.wrap .u8 (IntKind.wrap .i64 (rA-1))]:List Int).length) *1≤2^46 then
 bd (Loop (np n) ((([]:List Int)++b)++([IntKind.wrap .u8 (IntKind.wrap .i64 (rA-1))]:List Int),IntKind.wrap .i64 ((IntKind.wrap .i64 (rA-1))-1))) fun w=>
 some w
 else none
 else none
noncomputable def ju (b:List Int) (n:Int):Option (List Int):=
 if n<0 then
 bd (om b (IntKind.wrap .u64 ((IntKind.wrap .u64 (2 *(IntKind.wrap .u64 (IntKind.wrap .i64 (0-(IntKind.wrap .i64 (n+1)))))))+1))) fun rA=>
 some rA
 else
 bd (om b (IntKind.wrap .u64 (2 *(IntKind.wrap .u64 n)))) fun bL=>
 some bL
noncomputable def nq (b:List Int) (sA:List UInt8):Option (List Int):=
 bd (om b (IntKind.wrap .u64 (sA.length:Int))) fun rA=>
 if (rA.length+(pI sA).length) *1≤2^46 then
 some (rA++(pI sA))
 else none
noncomputable def oo (a:aK) (st:(List Int)×Int):Option (((List Int)×Int)⊕(List Int)):=
 if st.2<(a.Proof.length:Int) then
 ix a.Proof st.2 fun y=>
 bd (ju st.1 y.By) fun sZ=>
 some (.inl (sZ,IntKind.wrap .i64 (st.2+1)))
 else
 some (.inr st.1)
noncomputable def pL (a:aK):Option (List Int):=
 bd (
  if a.Has then
  some 1
  else
  some 0:Option Int) fun w=>
 bd (ju ([]:List Int) a.View) fun rA=>
 bd (ju rA w) fun bL=>
 bd (ju bL a.At) fun cL=>
 bd (nq cL a.Value) fun cZ=>
 bd (ju cZ (a.Proof.length:Int)) fun nh=>
 bd (Loop (oo a) (nh,0)) fun w1=>
 bd (
  if (0:Int)<(a.Proof.length:Int) then
  ix a.Proof 0 fun y1=>
  bd (ju w1 y1.View) fun yF=>
  ix a.Proof 0 fun y2=>
  bd (nq yF y2.Value) fun ve=>
  some ve
  else
  some w1:Option (List Int)) fun w2=>
 some w2
noncomputable def dB (a:af) (a1:List Int):Option Bool:=
 bd (
  bd (sY a) fun rA=>
  if !rA then
  some true
  else
  if (7000:Int)<(a1.length:Int) then
  some true
  else
  bd (gJ a) fun bL=>
  bd (je bL) fun cL=>
  some (!cL):Option Bool) fun w=>
 if w then
 bd (jb) fun cZ=>
 some cZ
 else
 bd (dI a.S a.Me a1) fun nh=>
 bd (ni a.S) fun sZ=>
 bd (pJ sZ a.Me a1) fun yF=>
 bd (dJ a) fun ve=>
 bd (
  bd (gJ nh.1) fun Lm=>
  bd (kW Lm yF.1) fun NK=>
  if !NK then
  some true
  else
  if !decide (nh.2=yF.2) then
  some true
  else
  uk ve fun bs=>
  bd (gJ a) fun Ln=>
  bd (pL Ln) fun Lo=>
  uk Lo fun UC=>
  some (!decide (bs=UC)):Option Bool) fun w1=>
 if w1 then
 some false
 else
 bd (
  if nh.2=0 then
  uk a1 fun UD=>
  bd (dJ nh.1) fun Lp=>
  uk Lp fun UE=>
  some (!decide (UE=UD))
  else
  some false:Option Bool) fun w2=>
 if w2 then
 some false
 else
 bd (dI a.S a.Me ve) fun H9=>
 bd (gJ a) fun pM=>
 bd (
  bd (jb) fun NL=>
  if NL then
  if H9.2=0 then
  bd (gJ H9.1) fun Lq=>
  bd (kW Lq (⟨pM.S,pM.Me,pM.View,pM.Has,pM.At,pM.Value,pM.Proof,(⟨([]:List ab)⟩:ct)⟩:aK)) fun NM=>
  some NM
  else
  some false
  else
  some false:Option Bool) fun w3=>
 some w3
end Dn.S
