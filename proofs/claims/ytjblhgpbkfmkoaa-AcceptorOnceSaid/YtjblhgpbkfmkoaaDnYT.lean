import Derived.Test.YtjblhgpbkfmkoaaDnD
/-
  The functions, on typed values. Conditions: none.
-/
open Go Dn
set_option linter.unusedVariables false
set_option linter.unusedSimpArgs false
set_option maxRecDepth 100000
namespace Dn.S
structure aa where
 By:Int
 View:Int
 Value:List UInt8
deriving DecidableEq
@[reducible] def xA (x : aa) : List MV := [.i .i64 x.By, .i .i64 x.View, .s x.Value]
@[reducible] def ah (x : aa) : MV := .agg (xA x)
structure ai where
 F:Int
 T:Int
deriving DecidableEq
@[reducible] def zQ (x : ai) : List MV := [.i .i64 x.F, .i .i64 x.T]
@[reducible] def bM (x : ai) : MV := .agg (zQ x)
structure au where
 L:List aa
deriving DecidableEq
@[reducible] def vc (x : au) : List MV := [.list (x.L.map ah)]
@[reducible] def dE (x : au) : MV := .agg (vc x)
structure ae where
 S:ai
 Me:Int
 View:Int
 Has:Bool
 At:Int
 Value:List UInt8
 Proof:List aa
 ba:au
deriving DecidableEq
@[reducible] def tT (x : ae) : List MV := [.i .i64 x.S.F, .i .i64 x.S.T, .i .i64 x.Me, .i .i64 x.View, .b x.Has, .i .i64 x.At, .s x.Value, .list (x.Proof.map ah), .list (x.ba.L.map ah)]
@[reducible] def bq (x : ae) : MV := .agg (tT x)
structure al where
 By:Int
 jW:Int
 Has:Bool
 View:Int
 Value:List UInt8
 Proof:List aa
deriving DecidableEq
@[reducible] def Gc (x : al) : List MV := [.i .i64 x.By, .i .i64 x.jW, .b x.Has, .i .i64 x.View, .s x.Value, .list (x.Proof.map ah)]
@[reducible] def aJ (x : al) : MV := .agg (Gc x)
structure bP where
 F:Int
 T:Int
deriving DecidableEq
@[reducible] def Lg (x : bP) : List MV := [.i .i64 x.F, .i .i64 x.T]
@[reducible] def du (x : bP) : MV := .agg (Lg x)
structure ch where
 L:List aa
deriving DecidableEq
@[reducible] def H8 (x : ch) : List MV := [.list (x.L.map ah)]
@[reducible] def Gd (x : ch) : MV := .agg (H8 x)
structure bT where
 S:bP
 Me:Int
 View:Int
 Has:Bool
 At:Int
 Value:List UInt8
 Proof:List aa
 ba:ch
deriving DecidableEq
@[reducible] def Bu (x : bT) : List MV := [.i .i64 x.S.F, .i .i64 x.S.T, .i .i64 x.Me, .i .i64 x.View, .b x.Has, .i .i64 x.At, .s x.Value, .list (x.Proof.map ah), .list (x.ba.L.map ah)]
@[reducible] def mB (x : bT) : MV := .agg (Bu x)
structure OM where
 S:ai
 Ru:au
 Rv:au
 Told:au
 acf:Bool
 Value:List UInt8
deriving DecidableEq
structure UL where
 S:bP
 Ru:ch
 Rv:ch
 Told:ch
 acf:Bool
 Value:List UInt8
deriving DecidableEq
structure az where
 b:List Int
 e:Int
deriving DecidableEq
@[reducible] def cG (x : az) : List MV := [.list (x.b.map (MV.i .u8)), .i .i64 x.e]
structure ZX where
 Kind:Int
 By:Int
 A:aa
 P:List aa
deriving DecidableEq
structure sd where
 View:Int
 Value:List UInt8
 tU:List al
 iy:aa
deriving DecidableEq
@[reducible] def Lh (x : sd) : List MV := [.i .i64 x.View, .s x.Value, .list (x.tU.map aJ), .i .i64 x.iy.By, .i .i64 x.iy.View, .s x.iy.Value]
@[reducible] def H9 (x : sd) : MV := .agg (Lh x)
structure ll where
 Kind:Int
 C:sd
deriving DecidableEq
@[reducible] def ON (x : ll) : List MV := [.i .i64 x.Kind, .i .i64 x.C.View, .s x.C.Value, .list (x.C.tU.map aJ), .i .i64 x.C.iy.By, .i .i64 x.C.iy.View, .s x.C.iy.Value]
@[reducible] def lT (x : ll) : MV := .agg (ON x)
noncomputable def nC (lA:List aa) (st:Int):Option (Int⊕(Unit⊕Bool)):=
 if st<(lA.length:Int) then
 bd (
  if st=40 then
  some true
  else
  ix lA st fun y=>
  some (decide ((6100:Int)<(y.Value.length:Int))):Option Bool) fun w1=>
 if w1 then
 some (.inr (.inr false))
 else
 some (.inl (IntKind.wrap .i64 (st+1)))
 else
 some (.inr (.inl ()))
noncomputable def oP (lA:List aa):Option Bool:=
 bd (Loop (nC lA) 0) fun w=>
 match w with
 | .inl p1=>
  some true
 | .inr p2=>
  some p2
noncomputable def iF (sA:ai):Option (Nat×Nat):=
 some (FloatKind.nearest .f64 sA.F,FloatKind.nearest .f64 sA.T)
noncomputable def eT (sA:ai) (times:Nat×Nat):Option Int:=
 bd (iF sA) fun rA=>
 bd (FloatKind.f64.format.mul rA.1 times.1) fun f=>
 bd (FloatKind.f64.format.mul rA.2 times.2) fun f1=>
 bd (FloatKind.f64.format.add f f1) fun f2=>
 bd ((FloatKind.decode .f64 f2).toInt .zero) fun n=>
 if IntKind.min .i64≤n∧n≤IntKind.max .i64 then
 some (IntKind.wrap .i64 (n+1))
 else none
noncomputable def n5 (sA:ai):Option Int:=
 bd (eT sA (4613937818241073152,4611686018427387904)) fun rA=>
 some rA
noncomputable def eo (sA:ai):Option Bool:=
 bd (
  if (1:Int)≤sA.F then
  if sA.F≤5 then
  if (0:Int)≤sA.T then
  some (decide (sA.T≤sA.F))
  else
  some false
  else
  some false
  else
  some false:Option Bool) fun w=>
 some w
noncomputable def dA (sA:ai) (me:Int):Option (ae×Int):=
 bd (
  bd (eo sA) fun rA=>
  if !rA then
  some true
  else
  if me<0 then
  some true
  else
  bd (n5 sA) fun bI=>
  some (decide (bI≤me)):Option Bool) fun w=>
 if w then
 some ((⟨(⟨0,0⟩:ai),0,0,false,0,([]:List UInt8),([]:List aa),(⟨([]:List aa)⟩:au)⟩:ae),1)
 else
 some ((⟨sA,me,0,false,0,([]:List UInt8),([]:List aa),(⟨([]:List aa)⟩:au)⟩:ae),0)
noncomputable def iG (a:ae):Option al:=
 some (⟨a.Me,a.View,a.Has,a.At,a.Value,a.Proof⟩:al)
noncomputable def dm (a:ae) (view:Int):Option (ae×al×Bool):=
 bd (
  if view≤a.View then
  some true
  else
  some (decide ((100000:Int)<view)):Option Bool) fun w=>
 if w then
 some (a,(⟨0,0,false,0,([]:List UInt8),([]:List aa)⟩:al),false)
 else
 bd (iG (⟨a.S,a.Me,view,a.Has,a.At,a.Value,a.Proof,(⟨([]:List aa)⟩:au)⟩:ae)) fun rA=>
 some ((⟨a.S,a.Me,view,a.Has,a.At,a.Value,a.Proof,(⟨([]:List aa)⟩:au)⟩:ae),rA,true)
noncomputable def ki (sA:ai):Option Int:=
 bd (eT sA (4611686018427387904,4611686018427387904)) fun rA=>
 some rA
noncomputable def fb (sA:ai):Option Int:=
 bd (eT sA (4611686018427387904,4607182418800017408)) fun rA=>
 some rA
noncomputable def jd (a:aa):Option Bool:=
 bd (
  if (0:Int)≤a.By then
  if (0:Int)≤a.View then
  if a.View≤100000 then
  some (decide ((a.Value.length:Int)≤6000))
  else
  some false
  else
  some false
  else
  some false:Option Bool) fun w=>
 some w
noncomputable def fD (t:au) (st:Int):Option (Int⊕(Unit⊕Bool)):=
 if st<(t.L.length:Int) then
 ix t.L st fun y=>
 bd (
  bd (jd y) fun rA=>
  if !rA then
  some true
  else
  if (0:Int)<st then
  ix t.L (IntKind.wrap .i64 (st-1)) fun y1=>
  some (decide (y.By≤y1.By))
  else
  some false:Option Bool) fun w1=>
 if w1 then
 some (.inr (.inr false))
 else
 some (.inl (IntKind.wrap .i64 (st+1)))
 else
 some (.inr (.inl ()))
noncomputable def gf (t:au):Option Bool:=
 bd (Loop (fD t) 0) fun w=>
 match w with
 | .inl p1=>
  some true
 | .inr p2=>
  some p2
noncomputable def dN (t:au) (view:Int) (value:List UInt8) (st:(List aa)×Int):Option (((List aa)×Int)⊕(List aa)):=
 if st.2<(t.L.length:Int) then
 ix t.L st.2 fun y=>
 bd (
  if y.View=view then
  some (decide (y.Value=value))
  else
  some false:Option Bool) fun w1=>
 bd (
  if w1 then
  if (st.1.length+([y]:List aa).length) *32≤2^46 then
  some (st.1++([y]:List aa))
  else none
  else
  some st.1:Option (List aa)) fun w2=>
 some (.inl (w2,IntKind.wrap .i64 (st.2+1)))
 else
 some (.inr st.1)
noncomputable def ec (t:au) (view:Int) (value:List UInt8):Option (List aa):=
 bd (Loop (dN t view value) (([]:List aa),0)) fun w=>
 some w
noncomputable def gh (t:au) (view:Int) (value:List UInt8):Option Int:=
 bd (ec t view value) fun rA=>
 some (rA.length:Int)
noncomputable def cW (sA:ai) (p:List aa):Option Bool:=
 bd (
  bd (eo sA) fun rA=>
  if !rA then
  some true
  else
  bd (fb sA) fun bI=>
  if !decide ((p.length:Int)=bI) then
  some true
  else
  bd (gf (⟨p⟩:au)) fun cJ=>
  some (!cJ):Option Bool) fun w=>
 if w then
 some false
 else
 bd (
  ix p (IntKind.wrap .i64 ((p.length:Int)-1)) fun y=>
  bd (n5 sA) fun dL=>
  if y.By<dL then
  ix p 0 fun y1=>
  ix p 0 fun y2=>
  bd (gh (⟨p⟩:au) y1.View y2.Value) fun jX=>
  some (decide (jX=(p.length:Int)))
  else
  some false:Option Bool) fun w1=>
 some w1
noncomputable def jF (p:List aa):Option (Int×(List UInt8)×Bool):=
 if (p.length:Int)=0 then
 some ((-1),([]:List UInt8),false)
 else
 ix p 0 fun y=>
 ix p 0 fun y1=>
 some (y.View,y1.Value,true)
noncomputable def dF (rA:al):Option Int:=
 bd (jF rA.Proof) fun bI=>
 if !bI.2.2 then
 some (-1)
 else
 some bI.1
noncomputable def gj (a:ai) (a1:al):Option Bool:=
 bd (
  bd (eo a) fun rA=>
  if !rA then
  some true
  else
  if a1.By<0 then
  some true
  else
  bd (n5 a) fun bI=>
  if bI≤a1.By then
  some true
  else
  if a1.jW<1 then
  some true
  else
  some (decide ((100000:Int)<a1.jW)):Option Bool) fun w=>
 if w then
 some false
 else
 bd (
  if !a1.Has then
  if !decide (a1.View=0) then
  some true
  else
  some (!decide (a1.Value=([]:List UInt8)))
  else
  some false:Option Bool) fun w1=>
 if w1 then
 some false
 else
 bd (
  if a1.Has then
  if a1.View<0 then
  some true
  else
  if a1.jW≤a1.View then
  some true
  else
  some (decide ((6000:Int)<(a1.Value.length:Int)))
  else
  some false:Option Bool) fun w2=>
 if w2 then
 some false
 else
 bd (
  if (a1.Proof.length:Int)=0 then
  some true
  else
  bd (cW a a1.Proof) fun cJ=>
  if cJ then
  bd (dF a1) fun dL=>
  some (decide (dL<a1.jW))
  else
  some false:Option Bool) fun w3=>
 some w3
noncomputable def eJ (sA:ai) (view:Int) (lA:List al) (st:Int×Int):Option ((Int×Int)⊕(Unit⊕Bool)):=
 if st.2<(lA.length:Int) then
 ix lA st.2 fun y=>
 bd (
  bd (gj sA y) fun cJ=>
  if !cJ then
  some true
  else
  if !decide (y.jW=view) then
  some true
  else
  some (decide (y.By≤st.1)):Option Bool) fun w2=>
 if w2 then
 some (.inr (.inr false))
 else
 some (.inl (y.By,IntKind.wrap .i64 (st.2+1)))
 else
 some (.inr (.inl ()))
noncomputable def fc (sA:ai) (view:Int) (lA:List al):Option Bool:=
 bd (
  bd (eo sA) fun rA=>
  if !rA then
  some true
  else
  bd (ki sA) fun bI=>
  some (!decide ((lA.length:Int)=bI)):Option Bool) fun w=>
 if w then
 some false
 else
 bd (Loop (eJ sA view lA) ((-1),0)) fun w1=>
 match w1 with
 | .inl p1=>
  some true
 | .inr p2=>
  some p2
noncomputable def iX (sA:ai):Option Int:=
 bd (eT sA (4607182418800017408,4607182418800017408)) fun rA=>
 some rA
noncomputable def dO (a1:List al) (st:Int×(List UInt8)×Int):Option ((Int×(List UInt8)×Int)⊕(Int×(List UInt8))):=
 if st.2.2<(a1.length:Int) then
 ix a1 st.2.2 fun y=>
 bd (dF y) fun rA=>
 bd (
  if st.1<rA then
  ix y.Proof 0 fun y1=>
  some (rA,y1.Value)
  else
  some (st.1,st.2.1):Option (Int×(List UInt8))) fun w1=>
 some (.inl (w1.1,w1.2,IntKind.wrap .i64 (st.2.2+1)))
 else
 some (.inr (st.1,st.2.1))
noncomputable def eK (a1:List al) (w:Int×(List UInt8)) (cb:(List MV)×Int):Option (((List MV)×Int)⊕(List MV)):=
 if cb.2<(a1.length:Int) then
 ix a1 cb.2 fun y2=>
 bd (
  if y2.Has then
  some (decide (w.1<y2.View))
  else
  some false:Option Bool) fun w3=>
 bd (
  if w3 then
  some (lC (gz cb.1 ([.s y2.Value]:List MV) (.i .i64 0)) (bE cb.1 ([.s y2.Value]:List MV)) (.i .i64 (IntKind.wrap .i64 ((hU cb.1 ([.s y2.Value]:List MV))+1))))
  else
  some cb.1:Option (List MV)) fun w4=>
 some (.inl (w4,IntKind.wrap .i64 (cb.2+1)))
 else
 some (.inr cb.1)
noncomputable def eL (a:ai) (Ia:MV):Option (Unit⊕(Unit⊕((List UInt8)×Bool))):=
 D8 Ia fun key n=>
 bd (iX a) fun bI=>
 if bI≤n then
 some (.inr (.inr (key,true)))
 else
 some (.inl ())
noncomputable def fe (a:ai) (a1:List al):Option ((List UInt8)×Bool):=
 bd (Loop (dO a1) ((-1),([]:List UInt8),0)) fun w=>
 bd (Loop (eK a1 w) (([]:List MV),0)) fun w2=>
 bd (lk (eL a) (
  some (.inl ())) w2) fun w5=>
 match w5 with
 | .inl p5=>
  some (w.2,decide (((-1):Int)<w.1))
 | .inr p6=>
  some (p6.1,p6.2)
noncomputable def dP (sA:ai) (view:Int) (lA:List al) (value:List UInt8):Option Bool:=
 bd (fc sA view lA) fun rA=>
 if !rA then
 some false
 else
 bd (fe sA lA) fun bI=>
 bd (
  if !bI.2 then
  some true
  else
  some (decide (bI.1=value)):Option Bool) fun w=>
 some w
noncomputable def cn (a:ae) (view:Int) (value:List UInt8) (eP:List al):Option (ae×aa×Bool):=
 bd (
  if !decide (view=a.View) then
  some true
  else
  if a.Has then
  if a.At=view then
  some true
  else
  some (decide ((6000:Int)<(value.length:Int)))
  else
  some (decide ((6000:Int)<(value.length:Int))):Option Bool) fun w=>
 if w then
 some (a,(⟨0,0,([]:List UInt8)⟩:aa),false)
 else
 bd (
  if view=0 then
  some (decide ((eP.length:Int)=0))
  else
  some false:Option Bool) fun w1=>
 bd (
  if w1 then
  some (.inr (0,0,0,0,false,0,([]:List UInt8),([]:List aa),([]:List aa),0,0,([]:List UInt8)))
  else
  bd (dP a.S view eP value) fun rA=>
  if !rA then
  some (.inl (a.S.F,a.S.T,a.Me,a.View,a.Has,a.At,a.Value,a.Proof,a.ba.L,0,0,([]:List UInt8),false))
  else
  some (.inr (0,0,0,0,false,0,([]:List UInt8),([]:List aa),([]:List aa),0,0,([]:List UInt8))):Option ((Int×Int×Int×Int×Bool×Int×(List UInt8)×(List aa)×(List aa)×Int×Int×(List UInt8)×Bool)⊕(Int×Int×Int×Int×Bool×Int×(List UInt8)×(List aa)×(List aa)×Int×Int×(List UInt8)))) fun w2=>
 match w2 with
 | .inl p1=>
  some ((⟨(⟨p1.1,p1.2.1⟩:ai),p1.2.2.1,p1.2.2.2.1,p1.2.2.2.2.1,p1.2.2.2.2.2.1,p1.2.2.2.2.2.2.1,p1.2.2.2.2.2.2.2.1,(⟨p1.2.2.2.2.2.2.2.2.1⟩:au)⟩:ae),(⟨p1.2.2.2.2.2.2.2.2.2.1,p1.2.2.2.2.2.2.2.2.2.2.1,p1.2.2.2.2.2.2.2.2.2.2.2.1⟩:aa),p1.2.2.2.2.2.2.2.2.2.2.2.2)
 | .inr p2=>
  some ((⟨a.S,a.Me,a.View,true,view,value,a.Proof,a.ba⟩:ae),(⟨a.Me,view,value⟩:aa),true)
noncomputable def je:Option Bool:=
 bd (dA (⟨1,0⟩:ai) 2) fun rA=>
 bd (cn rA.1 0 ([120]:List UInt8) ([]:List al)) fun bI=>
 bd (cn bI.1 0 ([121]:List UInt8) ([]:List al)) fun cJ=>
 bd (dm bI.1 3) fun dL=>
 bd (
  if rA.2=0 then
  if bI.2.2 then
  if !cJ.2.2 then
  if dL.2.2 then
  if bI.2.1.By=2 then
  if bI.2.1.Value=([120]:List UInt8) then
  if dL.1.View=3 then
  if dL.2.1.jW=3 then
  some (decide (dL.2.1.Value=([120]:List UInt8)))
  else
  some false
  else
  some false
  else
  some false
  else
  some false
  else
  some false
  else
  some false
  else
  some false
  else
  some false:Option Bool) fun w=>
 some w
noncomputable def gM (sA:bP):Option Bool:=
 bd (
  if (1:Int)≤sA.F then
  if sA.F≤5 then
  if (0:Int)≤sA.T then
  some (decide (sA.T≤sA.F))
  else
  some false
  else
  some false
  else
  some false:Option Bool) fun w=>
 some w
noncomputable def ta (sA:bP):Option Int:=
 some (IntKind.wrap .i64 ((IntKind.wrap .i64 ((IntKind.wrap .i64 (3 *sA.F))+(IntKind.wrap .i64 (2 *sA.T))))+1))
noncomputable def se (sA:bP) (me:Int):Option (bT×Int):=
 bd (
  bd (gM sA) fun rA=>
  if !rA then
  some true
  else
  if me<0 then
  some true
  else
  bd (ta sA) fun bI=>
  some (decide (bI≤me)):Option Bool) fun w=>
 if w then
 some ((⟨(⟨0,0⟩:bP),0,0,false,0,([]:List UInt8),([]:List aa),(⟨([]:List aa)⟩:ch)⟩:bT),1)
 else
 some ((⟨sA,me,0,false,0,([]:List UInt8),([]:List aa),(⟨([]:List aa)⟩:ch)⟩:bT),0)
noncomputable def oQ (sA:ai):Option bP:=
 some (⟨sA.F,sA.T⟩:bP)
noncomputable def sf (a:ae):Option bT:=
 bd (oQ a.S) fun rA=>
 some (⟨rA,a.Me,a.View,a.Has,a.At,a.Value,a.Proof,(⟨a.ba.L⟩:ch)⟩:bT)
noncomputable def cq (a:ae):Option Bool:=
 bd (
  if a.View<0 then
  some true
  else
  some (decide ((100000:Int)<a.View)):Option Bool) fun w=>
 if w then
 some false
 else
 bd (
  if a.Has then
  if a.At<0 then
  some true
  else
  if a.View<a.At then
  some true
  else
  some (decide ((6000:Int)<(a.Value.length:Int)))
  else
  some false:Option Bool) fun w1=>
 if w1 then
 some false
 else
 bd (
  if !a.Has then
  if !decide (a.At=0) then
  some true
  else
  some (!decide (a.Value=([]:List UInt8)))
  else
  some false:Option Bool) fun w2=>
 if w2 then
 some false
 else
 bd (
  if (a.Proof.length:Int)=0 then
  some true
  else
  bd (cW a.S a.Proof) fun rA=>
  if rA then
  ix a.Proof 0 fun y=>
  some (decide (y.View≤a.View))
  else
  some false:Option Bool) fun w3=>
 some w3
noncomputable def nD (a:aa):Option Bool:=
 bd (
  if (0:Int)≤a.By then
  if (0:Int)≤a.View then
  if a.View≤100000 then
  some (decide ((a.Value.length:Int)≤6000))
  else
  some false
  else
  some false
  else
  some false:Option Bool) fun w=>
 some w
noncomputable def nE (t:ch) (st:Int):Option (Int⊕(Unit⊕Bool)):=
 if st<(t.L.length:Int) then
 bd (
  ix t.L st fun y=>
  bd (nD y) fun rA=>
  if !rA then
  some true
  else
  if (0:Int)<st then
  ix t.L (IntKind.wrap .i64 (st-1)) fun y1=>
  ix t.L st fun y2=>
  some (decide (y2.By≤y1.By))
  else
  some false:Option Bool) fun w1=>
 if w1 then
 some (.inr (.inr false))
 else
 some (.inl (IntKind.wrap .i64 (st+1)))
 else
 some (.inr (.inl ()))
noncomputable def lU (t:ch):Option Bool:=
 bd (Loop (nE t) 0) fun w=>
 match w with
 | .inl p1=>
  some true
 | .inr p2=>
  some p2
noncomputable def lV (sA:bP):Option Int:=
 some (IntKind.wrap .i64 ((IntKind.wrap .i64 ((IntKind.wrap .i64 (2 *sA.F))+sA.T))+1))
noncomputable def nF (a:bP) (a1:List aa) (st:Int):Option (Int⊕(Unit⊕Bool)):=
 if st<(a1.length:Int) then
 ix a1 st fun y=>
 bd (
  bd (nD y) fun cJ=>
  if !cJ then
  some true
  else
  bd (ta a) fun dL=>
  if dL≤y.By then
  some true
  else
  ix a1 0 fun y1=>
  if !decide (y.View=y1.View) then
  some true
  else
  ix a1 0 fun y2=>
  if !decide (y.Value=y2.Value) then
  some true
  else
  if (0:Int)<st then
  ix a1 (IntKind.wrap .i64 (st-1)) fun y3=>
  some (decide (y.By≤y3.By))
  else
  some false:Option Bool) fun w2=>
 if w2 then
 some (.inr (.inr false))
 else
 some (.inl (IntKind.wrap .i64 (st+1)))
 else
 some (.inr (.inl ()))
noncomputable def gO (a:bP) (a1:List aa):Option Bool:=
 bd (
  bd (gM a) fun rA=>
  if !rA then
  some true
  else
  bd (lV a) fun bI=>
  some (!decide ((a1.length:Int)=bI)):Option Bool) fun w=>
 if w then
 some false
 else
 bd (Loop (nF a a1) 0) fun w1=>
 match w1 with
 | .inl p1=>
  some true
 | .inr p2=>
  some p2
noncomputable def jf (a:bT) (st:Int):Option (Int⊕(Unit⊕Bool)):=
 if st<(a.ba.L.length:Int) then
 bd (
  ix a.ba.L st fun y1=>
  bd (ta a.S) fun dL=>
  if dL≤y1.By then
  some true
  else
  ix a.ba.L st fun y2=>
  some (!decide (y2.View=a.View)):Option Bool) fun w4=>
 if w4 then
 some (.inr (.inr false))
 else
 some (.inl (IntKind.wrap .i64 (st+1)))
 else
 some (.inr (.inl ()))
noncomputable def oR (a:bT):Option Bool:=
 bd (se a.S a.Me) fun rA=>
 bd (
  if !decide (rA.2=0) then
  some true
  else
  if a.View<0 then
  some true
  else
  if (100000:Int)<a.View then
  some true
  else
  bd (lU a.ba) fun bI=>
  some (!bI):Option Bool) fun w=>
 if w then
 some false
 else
 bd (
  if a.Has then
  if a.At<0 then
  some true
  else
  if a.View<a.At then
  some true
  else
  if (6000:Int)<(a.Value.length:Int) then
  some true
  else
  if !a.Has then
  if !decide (a.At=0) then
  some true
  else
  some (!decide (a.Value=([]:List UInt8)))
  else
  some false
  else
  if !a.Has then
  if !decide (a.At=0) then
  some true
  else
  some (!decide (a.Value=([]:List UInt8)))
  else
  some false:Option Bool) fun w1=>
 if w1 then
 some false
 else
 bd (
  if (0:Int)<(a.Proof.length:Int) then
  bd (gO a.S a.Proof) fun cJ=>
  if !cJ then
  some true
  else
  ix a.Proof 0 fun y=>
  some (decide (a.View<y.View))
  else
  some false:Option Bool) fun w2=>
 if w2 then
 some false
 else
 bd (Loop (jf a) 0) fun w3=>
 match w3 with
 | .inl p1=>
  some true
 | .inr p2=>
  some p2
noncomputable def gQ (x:Int):Option Bool:=
 some (!decide (x=x))
noncomputable def gk (x:Int) (y:Int):Option Int:=
 bd (gQ x) fun rA=>
 bd (gQ y) fun bI=>
 if rA then
 if bI then
 some 0
 else
 some (-1)
 else
 if bI then
 some 1
 else
 if x<y then
 some (-1)
 else
 if y<x then
 some 1
 else
 some 0
noncomputable def eU (x:aa) (xX:Int):Option Int:=
 bd (gk x.By xX) fun rA=>
 some rA
noncomputable def dr (x:List aa) (target:Int) (cmp:aa→Int→Option Int) (st:Int×Int):Option ((Int×Int)⊕Int):=
 if st.1<st.2 then
 if (0:Int)≤1 then
 ix x (IntKind.wrap .i64 (Int.fdiv (IntKind.wrap .u64 (IntKind.wrap .i64 (st.1+st.2))) (2^min (Int.toNat 1) (IntKind.bits .u64)))) fun y=>
 bd (cmp y target) fun rA=>
 bd (
  if rA<0 then
  some (IntKind.wrap .i64 ((IntKind.wrap .i64 (Int.fdiv (IntKind.wrap .u64 (IntKind.wrap .i64 (st.1+st.2))) (2^min (Int.toNat 1) (IntKind.bits .u64))))+1),st.2)
  else
  some (st.1,IntKind.wrap .i64 (Int.fdiv (IntKind.wrap .u64 (IntKind.wrap .i64 (st.1+st.2))) (2^min (Int.toNat 1) (IntKind.bits .u64)))):Option (Int×Int)) fun w1=>
 some (.inl (w1.1,w1.2))
 else none
 else
 some (.inr st.1)
noncomputable def bC (x:List aa) (target:Int) (cmp:aa→Int→Option Int):Option (Int×Bool):=
 bd (Loop (dr x target cmp) (0,(x.length:Int))) fun w=>
 bd (
  if w<(x.length:Int) then
  ix x w fun y1=>
  bd (cmp y1 target) fun bI=>
  some (w,decide (bI=0))
  else
  some (w,false):Option (Int×Bool)) fun w2=>
 some (w2.1,w2.2)
noncomputable def kj (t:au) (a:aa):Option (au×Bool):=
 bd (jd a) fun rA=>
 if !rA then
 some (t,false)
 else
 bd (bC t.L a.By eU) fun bI=>
 bd (
  if bI.2 then
  ix t.L bI.1 fun y=>
  some (decide (a.View≤y.View))
  else
  some false:Option Bool) fun w=>
 if w then
 some (t,false)
 else
 bd (Ec 32 t.L) fun cJ=>
 bd (
  if bI.2 then
  ix cJ bI.1 fun y1=>
  some (cJ.set (Int.toNat bI.1) a)
  else
  bd (u6 32 cJ bI.1 ([a]:List aa)) fun dL=>
  some dL:Option (List aa)) fun w1=>
 some ((⟨w1⟩:au),true)
noncomputable def lL (a:au) (st:(List MV)×Int):Option (((List MV)×Int)⊕(List MV)):=
 if st.2<(a.L.length:Int) then
 ix a.L st.2 fun y=>
 if (0:Int)≤(bE st.1 ([.i .i64 y.View,.s y.Value]:List MV):Int)∧Int.toNat (bE st.1 ([.i .i64 y.View,.s y.Value]:List MV):Int)<(gz st.1 ([.i .i64 y.View,.s y.Value]:List MV) (.i .i64 0)).length then
 some (.inl (lC (gz st.1 ([.i .i64 y.View,.s y.Value]:List MV) (.i .i64 0)) (Int.toNat (bE st.1 ([.i .i64 y.View,.s y.Value]:List MV):Int)) (.i .i64 (IntKind.wrap .i64 ((hU st.1 ([.i .i64 y.View,.s y.Value]:List MV))+1))),IntKind.wrap .i64 (st.2+1)))
 else none
 else
 some (.inr st.1)
noncomputable def jG (a:au) (a1:Int) (w:(List MV)) (cb:Int×(List UInt8)×Bool×Int):Option ((Int×(List UInt8)×Bool×Int)⊕(Int×(List UInt8)×Bool)):=
 if cb.2.2.2<(a.L.length:Int) then
 ix a.L cb.2.2.2 fun y1=>
 bd (
  if (1:Int)≤a1 then
  if a1≤(hU w ([.i .i64 y1.View,.s y1.Value]:List MV)) then
  some (decide (cb.1<y1.View))
  else
  some false
  else
  some false:Option Bool) fun w2=>
 bd (
  if w2 then
  some (y1.View,y1.Value,true)
  else
  some (cb.1,cb.2.1,cb.2.2.1):Option (Int×(List UInt8)×Bool)) fun w3=>
 some (.inl (w3.1,w3.2.1,w3.2.2,IntKind.wrap .i64 (cb.2.2.2+1)))
 else
 some (.inr (cb.1,cb.2.1,cb.2.2.1))
noncomputable def mC (a:au) (a1:Int):Option (Int×(List UInt8)×Bool):=
 bd (Loop (lL a) (([]:List MV),0)) fun w=>
 bd (Loop (jG a a1 w) ((-1),([]:List UInt8),false,0)) fun w1=>
 if !w1.2.2 then
 some (0,([]:List UInt8),false)
 else
 some (w1.1,w1.2.1,true)
noncomputable def jH (b:List Int) (y:Int) (st:Int×Int):Option ((Int×Int)⊕Int):=
 if st.2<((List.drop (Int.toNat 0) (List.take (Int.toNat (IntKind.wrap .i64 y)) (List.drop (Int.toNat 1) (List.take (Int.toNat (b.length:Int)) b)))).length:Int) then
 ix (List.drop (Int.toNat 0) (List.take (Int.toNat (IntKind.wrap .i64 y)) (List.drop (Int.toNat 1) (List.take (Int.toNat (b.length:Int)) b)))) st.2 fun y2=>
 if (0:Int)≤8 then
 some (.inl (S5 .u64 (IntKind.wrap .u64 (st.1 *2^min (Int.toNat 8) (IntKind.bits .u64))) (IntKind.wrap .u64 y2),IntKind.wrap .i64 (st.2+1)))
 else none
 else
 some (.inr st.1)
noncomputable def kl (b:List Int):Option (Int×(List Int)×Int):=
 if (b.length:Int)=0 then
 some (0,([]:List Int),2)
 else
 ix b 0 fun y=>
 if (0:Int)≤1∧(1:Int)≤(b.length:Int)∧(b.length:Int)≤(b.length:Int) then
 bd (
  if (8:Int)<(IntKind.wrap .i64 y) then
  some true
  else
  if (0:Int)<(IntKind.wrap .i64 y) then
  if (0:Int)<((List.drop (Int.toNat 1) (List.take (Int.toNat (b.length:Int)) b)).length:Int) then
  ix (List.drop (Int.toNat 1) (List.take (Int.toNat (b.length:Int)) b)) 0 fun y1=>
  some (decide (y1=0))
  else
  some false
  else
  some false:Option Bool) fun w=>
 if w then
 some (0,([]:List Int),3)
 else
 if ((List.drop (Int.toNat 1) (List.take (Int.toNat (b.length:Int)) b)).length:Int)<(IntKind.wrap .i64 y) then
 some (0,([]:List Int),2)
 else
 if (0:Int)≤0∧(0:Int)≤(IntKind.wrap .i64 y)∧(IntKind.wrap .i64 y)≤((List.drop (Int.toNat 1) (List.take (Int.toNat (b.length:Int)) b)).length:Int) then
 bd (Loop (jH b y) (0,0)) fun w1=>
 if (0:Int)≤(IntKind.wrap .i64 y)∧(IntKind.wrap .i64 y)≤((List.drop (Int.toNat 1) (List.take (Int.toNat (b.length:Int)) b)).length:Int)∧((List.drop (Int.toNat 1) (List.take (Int.toNat (b.length:Int)) b)).length:Int)≤((List.drop (Int.toNat 1) (List.take (Int.toNat (b.length:Int)) b)).length:Int) then
 some (w1,List.drop (Int.toNat (IntKind.wrap .i64 y)) (List.take (Int.toNat ((List.drop (Int.toNat 1) (List.take (Int.toNat (b.length:Int)) b)).length:Int)) (List.drop (Int.toNat 1) (List.take (Int.toNat (b.length:Int)) b))),0)
 else none
 else none
 else none
noncomputable def iH (b:List Int):Option (Int×(List Int)×Int):=
 bd (kl b) fun rA=>
 if (0:Int)≤1 then
 some (vY .i64 (IntKind.wrap .i64 (Int.fdiv rA.1 (2^min (Int.toNat 1) (IntKind.bits .u64)))) (IntKind.wrap .i64 (0-(IntKind.wrap .i64 (G5 .u64 rA.1 1)))),rA.2.1,rA.2.2)
 else none
noncomputable def bp (t:az):Option (Int×az):=
 bd (
  if t.e=0 then
  bd (iH t.b) fun rA=>
  some (rA.1,rA.2.1,rA.2.2)
  else
  some (0,t.b,t.e):Option (Int×(List Int)×Int)) fun w=>
 some (w.1,(⟨w.2.1,w.2.2⟩:az))
noncomputable def eM (b:List Int) (most:Int):Option ((List UInt8)×(List Int)×Int):=
 bd (kl b) fun rA=>
 if !decide (rA.2.2=0) then
 some (([]:List UInt8),([]:List Int),rA.2.2)
 else
 if (IntKind.wrap .u64 (imax most 0))<rA.1 then
 some (([]:List UInt8),([]:List Int),5)
 else
 if (IntKind.wrap .u64 (rA.2.1.length:Int))<rA.1 then
 some (([]:List UInt8),([]:List Int),2)
 else
 if (0:Int)≤0∧(0:Int)≤rA.1∧rA.1≤(rA.2.1.length:Int) then
 Ga (List.drop (Int.toNat 0) (List.take (Int.toNat rA.1) rA.2.1)) fun bs=>
 if (0:Int)≤rA.1∧rA.1≤(rA.2.1.length:Int)∧(rA.2.1.length:Int)≤(rA.2.1.length:Int) then
 some (bs,List.drop (Int.toNat rA.1) (List.take (Int.toNat (rA.2.1.length:Int)) rA.2.1),0)
 else none
 else none
noncomputable def bV (t:az):Option ((List UInt8)×az):=
 bd (
  if t.e=0 then
  bd (eM t.b 6000) fun rA=>
  some (rA.1,rA.2.1,rA.2.2)
  else
  some (([]:List UInt8),t.b,t.e):Option ((List UInt8)×(List Int)×Int)) fun w=>
 some (w.1,(⟨w.2.1,w.2.2⟩:az))
noncomputable def br (rA:Int×az) (st:(List aa)×Int×(List Int)×Int):Option (((List aa)×Int×(List Int)×Int)⊕((List aa)×(List Int)×Int)):=
 if st.2.1<((List.replicate (Int.toNat rA.1) (⟨0,0,([]:List UInt8)⟩:aa)).length:Int) then
 bd (bp (⟨st.2.2.1,st.2.2.2⟩:az)) fun bI=>
 ix st.1 st.2.1 fun y=>
 some (.inl (st.1.set (Int.toNat st.2.1) (⟨bI.1,y.View,y.Value⟩:aa),IntKind.wrap .i64 (st.2.1+1),bI.2.b,bI.2.e))
 else
 some (.inr (st.1,st.2.2.1,st.2.2.2))
noncomputable def cU (w3:(List aa)×(List Int)×Int) (cJ:Int×az) (dL:(List UInt8)×az) (cb:(List aa)×Int):Option (((List aa)×Int)⊕(List aa)):=
 if cb.2<(w3.1.length:Int) then
 ix cb.1 cb.2 fun y1=>
 ix (cb.1.set (Int.toNat cb.2) (⟨y1.By,cJ.1,y1.Value⟩:aa)) cb.2 fun y2=>
 some (.inl ((cb.1.set (Int.toNat cb.2) (⟨y1.By,cJ.1,y1.Value⟩:aa)).set (Int.toNat cb.2) (⟨y2.By,y2.View,dL.1⟩:aa),IntKind.wrap .i64 (cb.2+1)))
 else
 some (.inr cb.1)
noncomputable def b6 (t:az):Option ((List aa)×az):=
 bd (bp t) fun rA=>
 bd (
  if rA.1<0 then
  some true
  else
  some (decide ((100:Int)<rA.1)):Option Bool) fun w=>
 bd (
  if w then
  some (rA.2.b,3)
  else
  some (rA.2.b,rA.2.e):Option ((List Int)×Int)) fun w1=>
 bd (
  if !decide (w1.2=0) then
  some true
  else
  some (decide (rA.1=0)):Option Bool) fun w2=>
 if w2 then
 some (([]:List aa),(⟨w1.1,w1.2⟩:az))
 else
 if (0:Int)≤rA.1∧rA.1=rA.1∧rA.1 *32≤2^46 then
 bd (Loop (br rA) (List.replicate (Int.toNat rA.1) (⟨0,0,([]:List UInt8)⟩:aa),0,w1.1,w1.2)) fun w3=>
 bd (bp (⟨w3.2.1,w3.2.2⟩:az)) fun cJ=>
 bd (bV cJ.2) fun dL=>
 bd (Loop (cU w3 cJ dL) (w3.1,0)) fun w4=>
 some (w4,dL.2)
 else none
noncomputable def dG (Wl:Bool):Option Int:=
 if Wl then
 some 1
 else
 some 0
noncomputable def fE (a:ai) (a1:Int) (a2:List Int):Option (ae×Int):=
 bd (dA a a1) fun rA=>
 if !decide (rA.2=0) then
 some ((⟨(⟨0,0⟩:ai),0,0,false,0,([]:List UInt8),([]:List aa),(⟨([]:List aa)⟩:au)⟩:ae),rA.2)
 else
 bd (bp (⟨a2,0⟩:az)) fun bI=>
 bd (bp bI.2) fun cJ=>
 bd (bp cJ.2) fun dL=>
 bd (bV dL.2) fun jX=>
 bd (b6 jX.2) fun ng=>
 bd (
  if !decide (ng.2.e=0) then
  some true
  else
  bd (dG (decide (cJ.1=1))) fun Ib=>
  if !decide (cJ.1=Ib) then
  some true
  else
  if (0:Int)<(ng.2.b.length:Int) then
  some true
  else
  bd (cq (⟨rA.1.S,rA.1.Me,bI.1,decide (cJ.1=1),dL.1,jX.1,ng.1,rA.1.ba⟩:ae)) fun CJ=>
  some (!CJ):Option Bool) fun w=>
 if w then
 some ((⟨(⟨0,0⟩:ai),0,0,false,0,([]:List UInt8),([]:List aa),(⟨([]:List aa)⟩:au)⟩:ae),3)
 else
 some ((⟨rA.1.S,rA.1.Me,bI.1,decide (cJ.1=1),dL.1,jX.1,ng.1,rA.1.ba⟩:ae),0)
noncomputable def pQ (x:Int):Option Int:=
 bd (
  if (4294967296:Int)≤x then
  if (0:Int)≤32 then
  some (Int.fdiv x (2^min (Int.toNat 32) (IntKind.bits .u64)),32)
  else none
  else
  some (x,0):Option (Int×Int)) fun w=>
 bd (
  if (65536:Int)≤w.1 then
  if (0:Int)≤16 then
  some (Int.fdiv w.1 (2^min (Int.toNat 16) (IntKind.bits .u64)),IntKind.wrap .i64 (w.2+16))
  else none
  else
  some (w.1,w.2):Option (Int×Int)) fun w1=>
 bd (
  if (256:Int)≤w1.1 then
  if (0:Int)≤8 then
  some (Int.fdiv w1.1 (2^min (Int.toNat 8) (IntKind.bits .u64)),IntKind.wrap .i64 (w1.2+8))
  else none
  else
  some (w1.1,w1.2):Option (Int×Int)) fun w2=>
 if (0:Int)≤(IntKind.wrap .u8 w2.1)∧(IntKind.wrap .u8 w2.1)<(((([0,1,2,2,3,3,3,3,4,4,4,4,4,4,4,4,5,5,5,5,5,5,5,5,5,5,5,5,5,5,5,5,6,6,6,6,6,6,6,6,6,6,6,6,6,6,6,6,6,6,6,6,6,6,6,6,6,6,6,6,6,6,6,6]:List UInt8)++([7,7,7,7,7,7,7,7,7,7,7,7,7,7,7,7,7,7,7,7,7,7,7,7,7,7,7,7,7,7,7,7,7,7,7,7,7,7,7,7,7,7,7,7,7,7,7,7,7,7,7,7,7,7,7,7,7,7,7,7,7,7,7,7]:List UInt8))++(([8,8,8,8,8,8,8,8,8,8,8,8,8,8,8,8,8,8,8,8,8,8,8,8,8,8,8,8,8,8,8,8,8,8,8,8,8,8,8,8,8,8,8,8,8,8,8,8,8,8,8,8,8,8,8,8,8,8,8,8,8,8,8,8]:List UInt8)++([8,8,8,8,8,8,8,8,8,8,8,8,8,8,8,8,8,8,8,8,8,8,8,8,8,8,8,8,8,8,8,8,8,8,8,8,8,8,8,8,8,8,8,8,8,8,8,8,8,8,8,8,8,8,8,8,8,8,8,8,8,8,8,8]:List UInt8))).length:Int) then
 some (IntKind.wrap .i64 (w2.2+(IntKind.wrap .i64 ((((([0,1,2,2,3,3,3,3,4,4,4,4,4,4,4,4,5,5,5,5,5,5,5,5,5,5,5,5,5,5,5,5,6,6,6,6,6,6,6,6,6,6,6,6,6,6,6,6,6,6,6,6,6,6,6,6,6,6,6,6,6,6,6,6]:List UInt8)++([7,7,7,7,7,7,7,7,7,7,7,7,7,7,7,7,7,7,7,7,7,7,7,7,7,7,7,7,7,7,7,7,7,7,7,7,7,7,7,7,7,7,7,7,7,7,7,7,7,7,7,7,7,7,7,7,7,7,7,7,7,7,7,7]:List UInt8))++(([8,8,8,8,8,8,8,8,8,8,8,8,8,8,8,8,8,8,8,8,8,8,8,8,8,8,8,8,8,8,8,8,8,8,8,8,8,8,8,8,8,8,8,8,8,8,8,8,8,8,8,8,8,8,8,8,8,8,8,8,8,8,8,8]:List UInt8)++([8,8,8,8,8,8,8,8,8,8,8,8,8,8,8,8,8,8,8,8,8,8,8,8,8,8,8,8,8,8,8,8,8,8,8,8,8,8,8,8,8,8,8,8,8,8,8,8,8,8,8,8,8,8,8,8,8,8,8,8,8,8,8,8]:List UInt8))).getD (Int.toNat (IntKind.wrap .u8 w2.1)) 0).toNat:Int))))
 else none
noncomputable def mD (n:Int):Option Int:=
 bd (pQ n) fun rA=>
 if !decide ((8:Int)=0) then
 some (IntKind.wrap .i64 (1+(IntKind.wrap .i64 (Int.tdiv (IntKind.wrap .i64 (rA+7)) 8))))
 else none
noncomputable def iQ (sA:List Int):Option (List Int):=
 if (sA.length:Int)=(sA.length:Int)∧(sA.length:Int)=(sA.length:Int) then
 some sA
 else none
noncomputable def kQ (n:Int) (st:(List Int)×Int):Option (((List Int)×Int)⊕(List Int)):=
 if (0:Int)≤st.2 then
 if (0:Int)≤(IntKind.wrap .i64 (8 *st.2)) then
 if (st.1.length+([IntKind.wrap .u8 (Int.fdiv n (2^min (Int.toNat (IntKind.wrap .i64 (8 *st.2))) (IntKind.bits .u64)))]:List Int).length) *1≤2^46 then
 some (.inl (st.1++([IntKind.wrap .u8 (Int.fdiv n (2^min (Int.toNat (IntKind.wrap .i64 (8 *st.2))) (IntKind.bits .u64)))]:List Int),IntKind.wrap .i64 (st.2-1)))
 else none
 else none
 else
 some (.inr st.1)
noncomputable def lW (b:List Int) (n:Int):Option (List Int):=
 bd (mD n) fun rA=>
 bd (iQ b) fun bI=>
 if 0<([IntKind.wrap .u8 (IntKind.wrap .i64 (rA-1))]:List Int).length∧(bI.length+([IntKind.wrap .u8 (IntKind.wrap .i64 (rA-1))]:List Int).length) *1≤2^46 then
 bd (Loop (kQ n) (bI++([IntKind.wrap .u8 (IntKind.wrap .i64 (rA-1))]:List Int),IntKind.wrap .i64 ((IntKind.wrap .i64 (rA-1))-1))) fun w=>
 some w
 else none
noncomputable def fF (b:List Int) (n:Int):Option (List Int):=
 if (0:Int)≤1 then
 if (0:Int)≤63 then
 bd (lW b (vY .u64 (IntKind.wrap .u64 ((IntKind.wrap .u64 n) *2^min (Int.toNat 1) (IntKind.bits .u64))) (IntKind.wrap .u64 (Int.fdiv n (2^min (Int.toNat 63) (IntKind.bits .i64)))))) fun rA=>
 some rA
 else none
 else none
noncomputable def km (b:List Int) (sA:List UInt8):Option (List Int):=
 bd (lW b (IntKind.wrap .u64 (sA.length:Int))) fun rA=>
 if (rA.length+(u5 sA).length) *1≤2^46 then
 some (rA++(u5 sA))
 else none
noncomputable def iR (a:ae) (st:(List Int)×Int):Option (((List Int)×Int)⊕(List Int)):=
 if st.2<(a.Proof.length:Int) then
 ix a.Proof st.2 fun y=>
 bd (fF st.1 y.By) fun Ib=>
 some (.inl (Ib,IntKind.wrap .i64 (st.2+1)))
 else
 some (.inr st.1)
noncomputable def iI (a:ae):Option (List Int):=
 bd (fF ([]:List Int) a.View) fun rA=>
 bd (dG a.Has) fun bI=>
 bd (fF rA bI) fun cJ=>
 bd (fF cJ a.At) fun dL=>
 bd (km dL a.Value) fun jX=>
 bd (fF jX (a.Proof.length:Int)) fun ng=>
 bd (Loop (iR a) (ng,0)) fun w=>
 bd (jF a.Proof) fun CJ=>
 bd (
  if CJ.2.2 then
  bd (fF w CJ.1) fun xY=>
  bd (km xY CJ.2.1) fun P5=>
  some P5
  else
  some w:Option (List Int)) fun w1=>
 some w1
noncomputable def si (a:ch) (a1:aa) (st:(List aa)×(List aa)×Bool×Int):Option (((List aa)×(List aa)×Bool×Int)⊕(((List aa)×(List aa)×Bool)⊕((List aa)×Bool))):=
 if st.2.2.2<(a.L.length:Int) then
 ix a.L st.2.2.2 fun y=>
 bd (
  if y.By=a1.By then
  some (decide (a1.View≤y.View))
  else
  some false:Option Bool) fun w1=>
 if w1 then
 some (.inr (.inr (a.L,false)))
 else
 bd (
  if !st.2.2.1 then
  some (decide (a1.By≤y.By))
  else
  some false:Option Bool) fun w2=>
 bd (
  if w2 then
  if (st.2.1.length+([a1]:List aa).length) *32≤2^46 then
  some (st.2.1++([a1]:List aa),true)
  else none
  else
  some (st.2.1,st.2.2.1):Option ((List aa)×Bool)) fun w3=>
 bd (
  if !decide (y.By=a1.By) then
  if (w3.1.length+([y]:List aa).length) *32≤2^46 then
  some (w3.1++([y]:List aa))
  else none
  else
  some w3.1:Option (List aa)) fun w4=>
 some (.inl (st.1,w4,w3.2,IntKind.wrap .i64 (st.2.2.2+1)))
 else
 some (.inr (.inl (st.1,st.2.1,st.2.2.1)))
noncomputable def Eg (a:ch) (a1:aa):Option (ch×Bool):=
 bd (nD a1) fun rA=>
 if !rA then
 some (a,false)
 else
 bd (Loop (si a a1) (([]:List aa),([]:List aa),false,0)) fun w=>
 match w with
 | .inl p3=>
  bd (
   if !p3.2.2 then
   if (p3.2.1.length+([a1]:List aa).length) *32≤2^46 then
   some (p3.2.1++([a1]:List aa))
   else none
   else
   some p3.2.1:Option (List aa)) fun w5=>
  some ((⟨w5⟩:ch),true)
 | .inr p4=>
  some ((⟨p4.1⟩:ch),p4.2)
noncomputable def lM (t:ch) (view:Int) (value:List UInt8) (st:(List aa)×Int):Option (((List aa)×Int)⊕(List aa)):=
 if st.2<(t.L.length:Int) then
 bd (
  ix t.L st.2 fun y=>
  if y.View=view then
  ix t.L st.2 fun y1=>
  some (decide (y1.Value=value))
  else
  some false:Option Bool) fun w1=>
 bd (
  if w1 then
  ix t.L st.2 fun y2=>
  if (st.1.length+([y2]:List aa).length) *32≤2^46 then
  some (st.1++([y2]:List aa))
  else none
  else
  some st.1:Option (List aa)) fun w2=>
 some (.inl (w2,IntKind.wrap .i64 (st.2+1)))
 else
 some (.inr st.1)
noncomputable def pR (t:ch) (view:Int) (value:List UInt8):Option (List aa):=
 bd (Loop (lM t view value) (([]:List aa),0)) fun w=>
 some w
noncomputable def wB (t:ch) (view:Int) (value:List UInt8):Option Int:=
 bd (pR t view value) fun rA=>
 some (rA.length:Int)
noncomputable def pS (t:ch) (cz:Int) (st:Int×Int):Option ((Int×Int)⊕Int):=
 bd (
  if st.2<(t.L.length:Int) then
  some (decide ((1:Int)≤cz))
  else
  some false:Option Bool) fun w1=>
 if w1 then
 ix t.L st.2 fun y=>
 bd (
  bd (wB t y.View y.Value) fun rA=>
  if cz≤rA then
  if st.1<0 then
  some true
  else
  ix t.L st.1 fun y1=>
  some (decide (y1.View<y.View))
  else
  some false:Option Bool) fun w2=>
 bd (
  if w2 then
  some st.2
  else
  some st.1:Option Int) fun w3=>
 some (.inl (w3,IntKind.wrap .i64 (st.2+1)))
 else
 some (.inr st.1)
noncomputable def zR (t:ch) (cz:Int):Option (Int×(List UInt8)×Bool):=
 bd (Loop (pS t cz) ((-1),0)) fun w=>
 if w<0 then
 some (0,([]:List UInt8),false)
 else
 ix t.L w fun y2=>
 ix t.L w fun y3=>
 some (y2.View,y3.Value,true)
noncomputable def nG (lA:List al) (st:Int):Option (Int⊕(Unit⊕Bool)):=
 if st<(lA.length:Int) then
 bd (
  if st=30 then
  some true
  else
  ix lA st fun y=>
  if (6100:Int)<(y.Value.length:Int) then
  some true
  else
  ix lA st fun y1=>
  bd (oP y1.Proof) fun rA=>
  some (!rA):Option Bool) fun w1=>
 if w1 then
 some (.inr (.inr false))
 else
 some (.inl (IntKind.wrap .i64 (st+1)))
 else
 some (.inr (.inl ()))
noncomputable def oS (lA:List al):Option Bool:=
 bd (Loop (nG lA) 0) fun w=>
 match w with
 | .inl p1=>
  some true
 | .inr p2=>
  some p2
noncomputable def q8 (sA:bP):Option Int:=
 some (IntKind.wrap .i64 ((IntKind.wrap .i64 ((IntKind.wrap .i64 (2 *sA.F))+(IntKind.wrap .i64 (2 *sA.T))))+1))
noncomputable def vd (a:bP) (a1:al):Option Bool:=
 bd (
  bd (gM a) fun rA=>
  if !rA then
  some true
  else
  if a1.By<0 then
  some true
  else
  bd (ta a) fun bI=>
  if bI≤a1.By then
  some true
  else
  if a1.jW<1 then
  some true
  else
  some (decide ((100000:Int)<a1.jW)):Option Bool) fun w=>
 if w then
 some false
 else
 bd (
  if a1.Has then
  if a1.View<0 then
  some true
  else
  if a1.jW≤a1.View then
  some true
  else
  if (6000:Int)<(a1.Value.length:Int) then
  some true
  else
  if !a1.Has then
  if !decide (a1.View=0) then
  some true
  else
  some (!decide (a1.Value=([]:List UInt8)))
  else
  some false
  else
  if !a1.Has then
  if !decide (a1.View=0) then
  some true
  else
  some (!decide (a1.Value=([]:List UInt8)))
  else
  some false:Option Bool) fun w1=>
 if w1 then
 some false
 else
 bd (
  if (a1.Proof.length:Int)=0 then
  some true
  else
  bd (gO a a1.Proof) fun cJ=>
  if cJ then
  ix a1.Proof 0 fun y=>
  some (decide (y.View<a1.jW))
  else
  some false:Option Bool) fun w2=>
 some w2
noncomputable def nH (sA:bP) (view:Int) (lA:List al) (st:Int):Option (Int⊕(Unit⊕Bool)):=
 if st<(lA.length:Int) then
 bd (
  ix lA st fun y=>
  bd (vd sA y) fun cJ=>
  if !cJ then
  some true
  else
  ix lA st fun y1=>
  if !decide (y1.jW=view) then
  some true
  else
  if (0:Int)<st then
  ix lA (IntKind.wrap .i64 (st-1)) fun y2=>
  ix lA st fun y3=>
  some (decide (y3.By≤y2.By))
  else
  some false:Option Bool) fun w2=>
 if w2 then
 some (.inr (.inr false))
 else
 some (.inl (IntKind.wrap .i64 (st+1)))
 else
 some (.inr (.inl ()))
noncomputable def oT (sA:bP) (view:Int) (lA:List al):Option Bool:=
 bd (
  bd (gM sA) fun rA=>
  if !rA then
  some true
  else
  bd (q8 sA) fun bI=>
  some (!decide ((lA.length:Int)=bI)):Option Bool) fun w=>
 if w then
 some false
 else
 bd (Loop (nH sA view lA) 0) fun w1=>
 match w1 with
 | .inl p1=>
  some true
 | .inr p2=>
  some p2
noncomputable def zS (p:List aa):Option (Int×(List UInt8)×Bool):=
 if (p.length:Int)=0 then
 some ((-1),([]:List UInt8),false)
 else
 ix p 0 fun y=>
 ix p 0 fun y1=>
 some (y.View,y1.Value,true)
noncomputable def oU (sA:bP):Option Int:=
 some (IntKind.wrap .i64 ((IntKind.wrap .i64 (sA.F+sA.T))+1))
noncomputable def kR (a1:List al) (st:Int×(List UInt8)×Int):Option ((Int×(List UInt8)×Int)⊕(Int×(List UInt8))):=
 if st.2.2<(a1.length:Int) then
 ix a1 st.2.2 fun y=>
 bd (zS y.Proof) fun rA=>
 bd (
  if rA.2.2 then
  some (decide (st.1<rA.1))
  else
  some false:Option Bool) fun w1=>
 bd (
  if w1 then
  some (rA.1,rA.2.1)
  else
  some (st.1,st.2.1):Option (Int×(List UInt8))) fun w2=>
 some (.inl (w2.1,w2.2,IntKind.wrap .i64 (st.2.2+1)))
 else
 some (.inr (st.1,st.2.1))
noncomputable def kT (a1:List al) (w:Int×(List UInt8)) (cb:Int) (cr:Int×Int):Option ((Int×Int)⊕Int):=
 if cr.2<(a1.length:Int) then
 bd (
  ix a1 cr.2 fun y1=>
  if y1.Has then
  ix a1 cr.2 fun y2=>
  if w.1<y2.View then
  ix a1 cb fun y3=>
  if y3.Has then
  ix a1 cb fun y4=>
  if w.1<y4.View then
  ix a1 cr.2 fun y5=>
  ix a1 cb fun y6=>
  some (decide (y5.Value=y6.Value))
  else
  some false
  else
  some false
  else
  some false
  else
  some false:Option Bool) fun w5=>
 bd (
  if w5 then
  some (IntKind.wrap .i64 (cr.1+1))
  else
  some cr.1:Option Int) fun w6=>
 some (.inl (w6,IntKind.wrap .i64 (cr.2+1)))
 else
 some (.inr cr.1)
noncomputable def nI (a:bP) (a1:List al) (w:Int×(List UInt8)) (cb:Int):Option (Int⊕(Unit⊕((List UInt8)×Bool))):=
 if cb<(a1.length:Int) then
 bd (Loop (kT a1 w cb) (0,0)) fun w4=>
 bd (oU a) fun bI=>
 if bI≤w4 then
 ix a1 cb fun y7=>
 some (.inr (.inr (y7.Value,true)))
 else
 some (.inl (IntKind.wrap .i64 (cb+1)))
 else
 some (.inr (.inl ()))
noncomputable def oV (a:bP) (a1:List al):Option ((List UInt8)×Bool):=
 bd (Loop (kR a1) ((-1),([]:List UInt8),0)) fun w=>
 bd (Loop (nI a a1 w) 0) fun w3=>
 match w3 with
 | .inl p5=>
  some (w.2,decide ((0:Int)≤w.1))
 | .inr p6=>
  some (p6.1,p6.2)
noncomputable def cO (sA:bP) (view:Int) (lA:List al) (value:List UInt8):Option Bool:=
 bd (oT sA view lA) fun rA=>
 if !rA then
 some false
 else
 bd (oV sA lA) fun bI=>
 bd (
  if !bI.2 then
  some true
  else
  some (decide (bI.1=value)):Option Bool) fun w=>
 some w
noncomputable def xB (a:bT) (view:Int) (value:List UInt8) (eP:List al):Option (bT×aa×Bool):=
 bd (
  if view=0 then
  some (decide ((eP.length:Int)=0))
  else
  some false:Option Bool) fun w=>
 bd (
  if !decide (view=a.View) then
  some true
  else
  if a.Has then
  if a.At=view then
  some true
  else
  if (6000:Int)<(value.length:Int) then
  some true
  else
  if !w then
  bd (cO a.S view eP value) fun rA=>
  some (!rA)
  else
  some false
  else
  if (6000:Int)<(value.length:Int) then
  some true
  else
  if !w then
  bd (cO a.S view eP value) fun bI=>
  some (!bI)
  else
  some false:Option Bool) fun w1=>
 if w1 then
 some (a,(⟨0,0,([]:List UInt8)⟩:aa),false)
 else
 some ((⟨a.S,a.Me,a.View,true,view,value,a.Proof,a.ba⟩:bT),(⟨a.Me,view,value⟩:aa),true)
noncomputable def mE (sA:ai) (t:au):Option ((List aa)×Bool):=
 bd (fb sA) fun rA=>
 bd (mC t rA) fun bI=>
 if !bI.2.2 then
 some (([]:List aa),false)
 else
 bd (ec t bI.1 bI.2.1) fun cJ=>
 bd (fb sA) fun dL=>
 if (0:Int)≤0∧(0:Int)≤dL∧dL≤(cJ.length:Int) then
 some (List.drop (Int.toNat 0) (List.take (Int.toNat dL) cJ),true)
 else none
noncomputable def iJ (a:ae) (a1:aa):Option (ae×(List aa)×Bool):=
 bd (
  bd (n5 a.S) fun rA=>
  if rA≤a1.By then
  some true
  else
  some (!decide (a1.View=a.View)):Option Bool) fun w=>
 if w then
 some (a,([]:List aa),false)
 else
 bd (kj a.ba a1) fun bI=>
 bd (mE a.S bI.1) fun cJ=>
 bd (jF a.Proof) fun dL=>
 bd (
  bd (jd a1) fun jX=>
  if !jX then
  some true
  else
  if !cJ.2 then
  some true
  else
  some (decide (a.View≤dL.1)):Option Bool) fun w1=>
 if w1 then
 some ((⟨a.S,a.Me,a.View,a.Has,a.At,a.Value,a.Proof,bI.1⟩:ae),([]:List aa),false)
 else
 some ((⟨a.S,a.Me,a.View,a.Has,a.At,a.Value,cJ.1,bI.1⟩:ae),cJ.1,true)
noncomputable def zT (sA:bP) (t:ch):Option ((List aa)×Bool):=
 bd (lV sA) fun rA=>
 bd (zR t rA) fun bI=>
 if !bI.2.2 then
 some (([]:List aa),false)
 else
 bd (pR t bI.1 bI.2.1) fun cJ=>
 if (0:Int)≤0∧(0:Int)≤rA∧rA≤(cJ.length:Int) then
 some (List.drop (Int.toNat 0) (List.take (Int.toNat rA) cJ),true)
 else none
noncomputable def Ge (a:bT) (a1:aa):Option (bT×(List aa)×Bool):=
 bd (
  bd (nD a1) fun rA=>
  if !rA then
  some true
  else
  bd (ta a.S) fun bI=>
  if bI≤a1.By then
  some true
  else
  some (!decide (a1.View=a.View)):Option Bool) fun w=>
 if w then
 some (a,([]:List aa),false)
 else
 bd (Eg a.ba a1) fun cJ=>
 bd (zT a.S cJ.1) fun dL=>
 bd (zS a.Proof) fun jX=>
 bd (
  if !dL.2 then
  some true
  else
  ix dL.1 0 fun y=>
  some (decide (y.View≤jX.1)):Option Bool) fun w1=>
 if w1 then
 some ((⟨a.S,a.Me,a.View,a.Has,a.At,a.Value,a.Proof,cJ.1⟩:bT),([]:List aa),false)
 else
 some ((⟨a.S,a.Me,a.View,a.Has,a.At,a.Value,dL.1,cJ.1⟩:bT),dL.1,true)
noncomputable def dQ (a:ai) (a1:Int) (a2:List ll) (st:Int×Int×Int×Int×Bool×Int×(List UInt8)×(List aa)×(List aa)×Int×Int×(List UInt8)×Int×Int):Option ((Int×Int×Int×Int×Bool×Int×(List UInt8)×(List aa)×(List aa)×Int×Int×(List UInt8)×Int×Int)⊕(Unit⊕Bool)):=
 if st.2.2.2.2.2.2.2.2.2.2.2.2.2<(a2.length:Int) then
 ix a2 st.2.2.2.2.2.2.2.2.2.2.2.2.2 fun y=>
 bd (
  bd (oS y.C.tU) fun cJ=>
  if !cJ then
  some true
  else
  if (6100:Int)<(y.C.Value.length:Int) then
  some true
  else
  some (decide ((6100:Int)<(y.C.iy.Value.length:Int))):Option Bool) fun w2=>
 if w2 then
 bd (je) fun dL=>
 some (.inr (.inr dL))
 else
 ix a2 st.2.2.2.2.2.2.2.2.2.2.2.2.2 fun y1=>
 bd (
  if y1.Kind=0 then
  bd (dm (⟨(⟨st.1,st.2.1⟩:ai),st.2.2.1,st.2.2.2.1,st.2.2.2.2.1,st.2.2.2.2.2.1,st.2.2.2.2.2.2.1,st.2.2.2.2.2.2.2.1,(⟨st.2.2.2.2.2.2.2.2.1⟩:au)⟩:ae) y.C.View) fun jX=>
  bd (
   if jX.2.2 then
   if jX.1.View≤st.2.2.2.1 then
   some true
   else
   if !decide (jX.2.1.jW=jX.1.View) then
   some true
   else
   if !decide (jX.2.1.By=a1) then
   some true
   else
   if !(decide (jX.2.1.Has=(decide ((0:Int)≤st.2.2.2.2.2.2.2.2.2.2.1)))) then
   some true
   else
   if jX.2.1.Has then
   if !decide (jX.2.1.View=st.2.2.2.2.2.2.2.2.2.2.1) then
   some true
   else
   some (!decide (jX.2.1.Value=st.2.2.2.2.2.2.2.2.2.2.2.1))
   else
   some false
   else
   some false:Option Bool) fun w4=>
  if w4 then
  some (.inl false)
  else
  bd (
   if jX.2.2 then
   if !(decide ((decide ((0:Int)≤st.2.2.2.2.2.2.2.2.2.2.2.2.1))=(decide ((0:Int)<(jX.2.1.Proof.length:Int))))) then
   some true
   else
   if (0:Int)<(jX.2.1.Proof.length:Int) then
   ix jX.2.1.Proof 0 fun y2=>
   some (!decide (y2.View=st.2.2.2.2.2.2.2.2.2.2.2.2.1))
   else
   some false
   else
   some false:Option Bool) fun w5=>
  if w5 then
  some (.inl false)
  else
  some (.inr (jX.1.S.F,jX.1.S.T,jX.1.Me,jX.1.View,jX.1.Has,jX.1.At,jX.1.Value,jX.1.Proof,jX.1.ba.L,st.2.2.2.2.2.2.2.2.2.1,st.2.2.2.2.2.2.2.2.2.2.1,st.2.2.2.2.2.2.2.2.2.2.2.1,st.2.2.2.2.2.2.2.2.2.2.2.2.1))
  else
  bd (
   if y1.Kind=1 then
   bd (cn (⟨(⟨st.1,st.2.1⟩:ai),st.2.2.1,st.2.2.2.1,st.2.2.2.2.1,st.2.2.2.2.2.1,st.2.2.2.2.2.2.1,st.2.2.2.2.2.2.2.1,(⟨st.2.2.2.2.2.2.2.2.1⟩:au)⟩:ae) y.C.View y.C.Value y.C.tU) fun ng=>
   bd (
    if ng.2.2 then
    if !decide (ng.2.1.By=a1) then
    some true
    else
    if !decide (ng.2.1.View=st.2.2.2.1) then
    some true
    else
    if ng.2.1.View≤st.2.2.2.2.2.2.2.2.2.2.1 then
    some true
    else
    if !decide (ng.2.1.Value=y.C.Value) then
    some true
    else
    if (0:Int)<ng.2.1.View then
    bd (oQ a) fun Ib=>
    bd (cO Ib ng.2.1.View y.C.tU ng.2.1.Value) fun CJ=>
    some (!CJ)
    else
    some false
    else
    some false:Option Bool) fun w7=>
   if w7 then
   some (.inl false)
   else
   bd (
    if ng.2.2 then
    some (ng.2.1.By,ng.2.1.View,ng.2.1.Value)
    else
    some (st.2.2.2.2.2.2.2.2.2.1,st.2.2.2.2.2.2.2.2.2.2.1,st.2.2.2.2.2.2.2.2.2.2.2.1):Option (Int×Int×(List UInt8))) fun w8=>
   some (.inr (ng.1.S.F,ng.1.S.T,ng.1.Me,ng.1.View,ng.1.Has,ng.1.At,ng.1.Value,ng.1.Proof,ng.1.ba.L,w8.1,w8.2.1,w8.2.2,st.2.2.2.2.2.2.2.2.2.2.2.2.1))
   else
   bd (
    if y1.Kind=2 then
    bd (iJ (⟨(⟨st.1,st.2.1⟩:ai),st.2.2.1,st.2.2.2.1,st.2.2.2.2.1,st.2.2.2.2.2.1,st.2.2.2.2.2.2.1,st.2.2.2.2.2.2.2.1,(⟨st.2.2.2.2.2.2.2.2.1⟩:au)⟩:ae) y.C.iy) fun xY=>
    bd (
     if xY.2.2 then
     if (xY.2.1.length:Int)=0 then
     some true
     else
     ix xY.2.1 0 fun y3=>
     if !decide (y3.View=st.2.2.2.1) then
     some true
     else
     ix xY.2.1 0 fun y4=>
     some (decide (y4.View≤st.2.2.2.2.2.2.2.2.2.2.2.2.1))
     else
     some false:Option Bool) fun w10=>
    if w10 then
    some (.inl false)
    else
    bd (
     if xY.2.2 then
     ix xY.2.1 0 fun y5=>
     some y5.View
     else
     some st.2.2.2.2.2.2.2.2.2.2.2.2.1:Option Int) fun w11=>
    some (.inr (xY.1.S.F,xY.1.S.T,xY.1.Me,xY.1.View,xY.1.Has,xY.1.At,xY.1.Value,xY.1.Proof,xY.1.ba.L,w11))
    else
    bd (
     if y1.Kind=3 then
     bd (iI (⟨(⟨st.1,st.2.1⟩:ai),st.2.2.1,st.2.2.2.1,st.2.2.2.2.1,st.2.2.2.2.2.1,st.2.2.2.2.2.2.1,st.2.2.2.2.2.2.2.1,(⟨st.2.2.2.2.2.2.2.2.1⟩:au)⟩:ae)) fun P5=>
     bd (fE a a1 P5) fun ve=>
     bd (
      if !decide (ve.2=0) then
      some true
      else
      some (!decide (ve.1.View=st.2.2.2.1)):Option Bool) fun w13=>
     if w13 then
     some (.inl false)
     else
     some (.inr (ve.1.S.F,ve.1.S.T,ve.1.Me,ve.1.View,ve.1.Has,ve.1.At,ve.1.Value,ve.1.Proof,ve.1.ba.L))
     else
     some (.inr (st.1,st.2.1,st.2.2.1,st.2.2.2.1,st.2.2.2.2.1,st.2.2.2.2.2.1,st.2.2.2.2.2.2.1,st.2.2.2.2.2.2.2.1,st.2.2.2.2.2.2.2.2.1)):Option (Bool⊕(Int×Int×Int×Int×Bool×Int×(List UInt8)×(List aa)×(List aa)))) fun w12=>
    match w12 with
    | .inl p7=>
     some (.inl p7)
    | .inr p8=>
     some (.inr (p8.1,p8.2.1,p8.2.2.1,p8.2.2.2.1,p8.2.2.2.2.1,p8.2.2.2.2.2.1,p8.2.2.2.2.2.2.1,p8.2.2.2.2.2.2.2.1,p8.2.2.2.2.2.2.2.2,st.2.2.2.2.2.2.2.2.2.2.2.2.1)):Option (Bool⊕(Int×Int×Int×Int×Bool×Int×(List UInt8)×(List aa)×(List aa)×Int))) fun w9=>
   match w9 with
   | .inl p9=>
    some (.inl p9)
   | .inr OO=>
    some (.inr (OO.1,OO.2.1,OO.2.2.1,OO.2.2.2.1,OO.2.2.2.2.1,OO.2.2.2.2.2.1,OO.2.2.2.2.2.2.1,OO.2.2.2.2.2.2.2.1,OO.2.2.2.2.2.2.2.2.1,st.2.2.2.2.2.2.2.2.2.1,st.2.2.2.2.2.2.2.2.2.2.1,st.2.2.2.2.2.2.2.2.2.2.2.1,OO.2.2.2.2.2.2.2.2.2)):Option (Bool⊕(Int×Int×Int×Int×Bool×Int×(List UInt8)×(List aa)×(List aa)×Int×Int×(List UInt8)×Int))) fun w6=>
  match w6 with
  | .inl p11=>
   some (.inl p11)
  | .inr JP=>
   some (.inr (JP.1,JP.2.1,JP.2.2.1,JP.2.2.2.1,JP.2.2.2.2.1,JP.2.2.2.2.2.1,JP.2.2.2.2.2.2.1,JP.2.2.2.2.2.2.2.1,JP.2.2.2.2.2.2.2.2.1,JP.2.2.2.2.2.2.2.2.2.1,JP.2.2.2.2.2.2.2.2.2.2.1,JP.2.2.2.2.2.2.2.2.2.2.2.1,JP.2.2.2.2.2.2.2.2.2.2.2.2)):Option (Bool⊕(Int×Int×Int×Int×Bool×Int×(List UInt8)×(List aa)×(List aa)×Int×Int×(List UInt8)×Int))) fun w3=>
 match w3 with
 | .inl p13=>
  some (.inr (.inr p13))
 | .inr sJ=>
  bd (
   bd (sf (⟨(⟨sJ.1,sJ.2.1⟩:ai),sJ.2.2.1,sJ.2.2.2.1,sJ.2.2.2.2.1,sJ.2.2.2.2.2.1,sJ.2.2.2.2.2.2.1,sJ.2.2.2.2.2.2.2.1,(⟨sJ.2.2.2.2.2.2.2.2.1⟩:au)⟩:ae)) fun OP=>
   bd (oR OP) fun Rw=>
   if !Rw then
   some true
   else
   some (decide (sJ.2.2.2.1<st.2.2.2.1)):Option Bool) fun w14=>
  if w14 then
  some (.inr (.inr false))
  else
  some (.inl (sJ.1,sJ.2.1,sJ.2.2.1,sJ.2.2.2.1,sJ.2.2.2.2.1,sJ.2.2.2.2.2.1,sJ.2.2.2.2.2.2.1,sJ.2.2.2.2.2.2.2.1,sJ.2.2.2.2.2.2.2.2.1,sJ.2.2.2.2.2.2.2.2.2.1,sJ.2.2.2.2.2.2.2.2.2.2.1,sJ.2.2.2.2.2.2.2.2.2.2.2.1,sJ.2.2.2.2.2.2.2.2.2.2.2.2,IntKind.wrap .i64 (st.2.2.2.2.2.2.2.2.2.2.2.2.2+1)))
 else
 some (.inr (.inl ()))
noncomputable def gU (a:ai) (a1:Int) (a2:List ll):Option Bool:=
 bd (dA a a1) fun rA=>
 bd (
  if !decide (rA.2=0) then
  some true
  else
  some (decide ((40:Int)<(a2.length:Int))):Option Bool) fun w=>
 if w then
 bd (je) fun bI=>
 some bI
 else
 bd (Loop (dQ a a1 a2) (rA.1.S.F,rA.1.S.T,rA.1.Me,rA.1.View,rA.1.Has,rA.1.At,rA.1.Value,rA.1.Proof,rA.1.ba.L,a1,(-1),([]:List UInt8),(-1),0)) fun w1=>
 match w1 with
 | .inl p15=>
  bd (je) fun Rx=>
  some Rx
 | .inr p16=>
  some p16
end Dn.S
