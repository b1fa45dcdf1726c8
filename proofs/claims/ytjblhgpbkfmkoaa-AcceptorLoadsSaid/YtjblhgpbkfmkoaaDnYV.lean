import Derived.Test.YtjblhgpbkfmkoaaDnYT
import Derived.Test.YtjblhgpbkfmkoaaDnC
/-
  The functions, with a bound on their rounds. Conditions: none.
-/
open Go Dn
set_option linter.unusedVariables false
set_option linter.unusedSimpArgs false
set_option maxRecDepth 100000
namespace Dn.S
def mJ (fuel:Nat) (sA:aj):Option (Nat×Nat):=
 some (FloatKind.nearest .f64 sA.F,FloatKind.nearest .f64 sA.T)
theorem yf (fuel:Nat) (sA:aj):Le (mJ fuel sA) (fY sA):=by
 unfold mJ fY
 repeat' (first|with_reducible exact Le.rfl' _|refine Le.bd ?_ fun _=> ?_|refine Le.ite ?_ ?_|refine Le.ix fun _=> ?_|refine Le.loop fun _=> ?_|refine Le.gY (fun _=> ?_) _|refine Le.gZ (fun _ _=> ?_) _ _|refine Le.sum (fun _=> ?_) (fun _=> ?_)|exact Le.rfl' _|intro _)
def gV (fuel:Nat) (sA:aj) (times:Nat×Nat):Option Int:=
 bd ((mJ fuel) sA) fun rA=>
 bd (FloatKind.f64.format.mul rA.1 times.1) fun f=>
 bd (FloatKind.f64.format.mul rA.2 times.2) fun f1=>
 bd (FloatKind.f64.format.add f f1) fun f2=>
 bd ((FloatKind.decode .f64 f2).toInt .zero) fun n=>
 if IntKind.min .i64≤n∧n≤IntKind.max .i64 then
 some (IntKind.wrap .i64 (n+1))
 else none
theorem kj (fuel:Nat) (sA:aj) (times:Nat×Nat):Le (gV fuel sA times) (eg sA times):=by
 unfold gV eg
 repeat' (first|with_reducible exact Le.rfl' _|with_reducible apply yf|refine Le.bd ?_ fun _=> ?_|refine Le.ite ?_ ?_|refine Le.ix fun _=> ?_|refine Le.loop fun _=> ?_|refine Le.gY (fun _=> ?_) _|refine Le.gZ (fun _ _=> ?_) _ _|refine Le.sum (fun _=> ?_) (fun _=> ?_)|exact Le.rfl' _|intro _)
def yg (fuel:Nat) (sA:aj):Option Int:=
 bd ((gV fuel) sA (4613937818241073152,4611686018427387904)) fun rA=>
 some rA
theorem BV (fuel:Nat) (sA:aj):Le (yg fuel sA) (oe sA):=by
 unfold yg oe
 repeat' (first|with_reducible exact Le.rfl' _|with_reducible apply kj|refine Le.bd ?_ fun _=> ?_|refine Le.ite ?_ ?_|refine Le.ix fun _=> ?_|refine Le.loop fun _=> ?_|refine Le.gY (fun _=> ?_) _|refine Le.gZ (fun _ _=> ?_) _ _|refine Le.sum (fun _=> ?_) (fun _=> ?_)|exact Le.rfl' _|intro _)
def jn (fuel:Nat) (sA:aj):Option Bool:=
 bd (
  if (1:Int)≤sA.F then
  if sA.F≤5 then
  if (0:Int)≤sA.T then
  some (decide (sA.T≤sA.F))
  else
  some false
  else
  some false
  else
  some false:Option Bool) fun w=>
 some w
theorem mj (fuel:Nat) (sA:aj):Le (jn fuel sA) (dH sA):=by
 unfold jn dH
 repeat' (first|with_reducible exact Le.rfl' _|refine Le.bd ?_ fun _=> ?_|refine Le.ite ?_ ?_|refine Le.ix fun _=> ?_|refine Le.loop fun _=> ?_|refine Le.gY (fun _=> ?_) _|refine Le.gZ (fun _ _=> ?_) _ _|refine Le.sum (fun _=> ?_) (fun _=> ?_)|exact Le.rfl' _|intro _)
def oF (fuel:Nat) (sA:aj) (me:Int):Option (af×Int):=
 bd (
  bd ((jn fuel) sA) fun rA=>
  if !rA then
  some true
  else
  if me<0 then
  some true
  else
  bd ((yg fuel) sA) fun bL=>
  some (decide (bL≤me)):Option Bool) fun w=>
 if w then
 some ((⟨(⟨0,0⟩:aj),0,0,false,0,([]:List UInt8),([]:List ab),(⟨([]:List ab)⟩:aD)⟩:af),1)
 else
 some ((⟨sA,me,0,false,0,([]:List UInt8),([]:List ab),(⟨([]:List ab)⟩:aD)⟩:af),0)
theorem zo (fuel:Nat) (sA:aj) (me:Int):Le (oF fuel sA me) (dy sA me):=by
 unfold oF dy
 repeat' (first|with_reducible exact Le.rfl' _|with_reducible apply BV|with_reducible apply mj|refine Le.bd ?_ fun _=> ?_|refine Le.ite ?_ ?_|refine Le.ix fun _=> ?_|refine Le.loop fun _=> ?_|refine Le.gY (fun _=> ?_) _|refine Le.gZ (fun _ _=> ?_) _ _|refine Le.sum (fun _=> ?_) (fun _=> ?_)|exact Le.rfl' _|intro _)
def mK (fuel:Nat) (a:af):Option aw:=
 some (⟨a.Me,a.View,a.Has,a.At,a.Value,a.Proof⟩:aw)
theorem yh (fuel:Nat) (a:af):Le (mK fuel a) (fZ a):=by
 unfold mK fZ
 repeat' (first|with_reducible exact Le.rfl' _|refine Le.bd ?_ fun _=> ?_|refine Le.ite ?_ ?_|refine Le.ix fun _=> ?_|refine Le.loop fun _=> ?_|refine Le.gY (fun _=> ?_) _|refine Le.gZ (fun _ _=> ?_) _ _|refine Le.sum (fun _=> ?_) (fun _=> ?_)|exact Le.rfl' _|intro _)
def ll (fuel:Nat) (a:af) (view:Int):Option (af×aw×Bool):=
 bd (
  if view≤a.View then
  some true
  else
  some (decide ((100000:Int)<view)):Option Bool) fun w=>
 if w then
 some (a,(⟨0,0,false,0,([]:List UInt8),([]:List ab)⟩:aw),false)
 else
 bd ((mK fuel) (⟨a.S,a.Me,view,a.Has,a.At,a.Value,a.Proof,(⟨([]:List ab)⟩:aD)⟩:af)) fun rA=>
 some ((⟨a.S,a.Me,view,a.Has,a.At,a.Value,a.Proof,(⟨([]:List ab)⟩:aD)⟩:af),rA,true)
theorem vG (fuel:Nat) (a:af) (view:Int):Le (ll fuel a view) (fm a view):=by
 unfold ll fm
 repeat' (first|with_reducible exact Le.rfl' _|with_reducible apply yh|refine Le.bd ?_ fun _=> ?_|refine Le.ite ?_ ?_|refine Le.ix fun _=> ?_|refine Le.loop fun _=> ?_|refine Le.gY (fun _=> ?_) _|refine Le.gZ (fun _ _=> ?_) _ _|refine Le.sum (fun _=> ?_) (fun _=> ?_)|exact Le.rfl' _|intro _)
def uC (fuel:Nat) (sA:aj):Option Int:=
 bd ((gV fuel) sA (4611686018427387904,4611686018427387904)) fun rA=>
 some rA
theorem FH (fuel:Nat) (sA:aj):Le (uC fuel sA) (ng sA):=by
 unfold uC ng
 repeat' (first|with_reducible exact Le.rfl' _|with_reducible apply kj|refine Le.bd ?_ fun _=> ?_|refine Le.ite ?_ ?_|refine Le.ix fun _=> ?_|refine Le.loop fun _=> ?_|refine Le.gY (fun _=> ?_) _|refine Le.gZ (fun _ _=> ?_) _ _|refine Le.sum (fun _=> ?_) (fun _=> ?_)|exact Le.rfl' _|intro _)
def r9 (fuel:Nat) (sA:aj):Option Int:=
 bd ((gV fuel) sA (4611686018427387904,4607182418800017408)) fun rA=>
 some rA
theorem DL (fuel:Nat) (sA:aj):Le (r9 fuel sA) (gx sA):=by
 unfold r9 gx
 repeat' (first|with_reducible exact Le.rfl' _|with_reducible apply kj|refine Le.bd ?_ fun _=> ?_|refine Le.ite ?_ ?_|refine Le.ix fun _=> ?_|refine Le.loop fun _=> ?_|refine Le.gY (fun _=> ?_) _|refine Le.gZ (fun _ _=> ?_) _ _|refine Le.sum (fun _=> ?_) (fun _=> ?_)|exact Le.rfl' _|intro _)
def uD (fuel:Nat) (a:ab):Option Bool:=
 bd (
  if (0:Int)≤a.By then
  if (0:Int)≤a.View then
  if a.View≤100000 then
  some (decide ((a.Value.length:Int)≤6000))
  else
  some false
  else
  some false
  else
  some false:Option Bool) fun w=>
 some w
theorem FI (fuel:Nat) (a:ab):Le (uD fuel a) (ko a):=by
 unfold uD ko
 repeat' (first|with_reducible exact Le.rfl' _|refine Le.bd ?_ fun _=> ?_|refine Le.ite ?_ ?_|refine Le.ix fun _=> ?_|refine Le.loop fun _=> ?_|refine Le.gY (fun _=> ?_) _|refine Le.gZ (fun _ _=> ?_) _ _|refine Le.sum (fun _=> ?_) (fun _=> ?_)|exact Le.rfl' _|intro _)
def mL (fuel:Nat) (t:aD) (st:Int):Option (Int⊕(Unit⊕Bool)):=
 if st<(t.L.length:Int) then
 ix t.L st fun y=>
 bd (
  bd ((uD fuel) y) fun rA=>
  if !rA then
  some true
  else
  if (0:Int)<st then
  ix t.L (IntKind.wrap .i64 (st-1)) fun y1=>
  some (decide (y.By≤y1.By))
  else
  some false:Option Bool) fun w1=>
 if w1 then
 some (.inr (.inr false))
 else
 some (.inl (IntKind.wrap .i64 (st+1)))
 else
 some (.inr (.inl ()))
theorem yi (fuel:Nat) (t:aD) (st:Int):Le (mL fuel t st) (eI t st):=by
 unfold mL eI
 repeat' (first|with_reducible exact Le.rfl' _|with_reducible apply FI|refine Le.bd ?_ fun _=> ?_|refine Le.ite ?_ ?_|refine Le.ix fun _=> ?_|refine Le.loop fun _=> ?_|refine Le.gY (fun _=> ?_) _|refine Le.gZ (fun _ _=> ?_) _ _|refine Le.sum (fun _=> ?_) (fun _=> ?_)|exact Le.rfl' _|intro _)
def p9 (fuel:Nat) (t:aD):Option Bool:=
 bd (AD fuel ((mL fuel) t) 0) fun w=>
 match w with
 | .inl p1=>
  some true
 | .inr p2=>
  some p2
theorem BW (fuel:Nat) (t:aD):Le (p9 fuel t) (fp t):=by
 unfold p9 fp
 repeat' (first|with_reducible exact Le.rfl' _|with_reducible apply yi|refine Le.bd ?_ fun _=> ?_|refine Le.ite ?_ ?_|refine Le.ix fun _=> ?_|refine Le.loop fun _=> ?_|refine Le.gY (fun _=> ?_) _|refine Le.gZ (fun _ _=> ?_) _ _|refine Le.sum (fun _=> ?_) (fun _=> ?_)|exact Le.rfl' _|intro _)
def lm (fuel:Nat) (t:aD) (view:Int) (value:List UInt8) (st:(List ab)×Int):Option (((List ab)×Int)⊕(List ab)):=
 if st.2<(t.L.length:Int) then
 ix t.L st.2 fun y=>
 bd (
  if y.View=view then
  some (decide (y.Value=value))
  else
  some false:Option Bool) fun w1=>
 bd (
  if w1 then
  if (st.1.length+([y]:List ab).length) *32≤2^46 then
  some (st.1++([y]:List ab))
  else none
  else
  some st.1:Option (List ab)) fun w2=>
 some (.inl (w2,IntKind.wrap .i64 (st.2+1)))
 else
 some (.inr st.1)
theorem vH (fuel:Nat) (t:aD) (view:Int) (value:List UInt8) (st:(List ab)×Int):Le (lm fuel t view value st) (dk t view value st):=by
 unfold lm dk
 repeat' (first|with_reducible exact Le.rfl' _|refine Le.bd ?_ fun _=> ?_|refine Le.ite ?_ ?_|refine Le.ix fun _=> ?_|refine Le.loop fun _=> ?_|refine Le.gY (fun _=> ?_) _|refine Le.gZ (fun _ _=> ?_) _ _|refine Le.sum (fun _=> ?_) (fun _=> ?_)|exact Le.rfl' _|intro _)
def oG (fuel:Nat) (t:aD) (view:Int) (value:List UInt8):Option (List ab):=
 bd (AD fuel ((lm fuel) t view value) (([]:List ab),0)) fun w=>
 some w
theorem zp (fuel:Nat) (t:aD) (view:Int) (value:List UInt8):Le (oG fuel t view value) (et t view value):=by
 unfold oG et
 repeat' (first|with_reducible exact Le.rfl' _|with_reducible apply vH|refine Le.bd ?_ fun _=> ?_|refine Le.ite ?_ ?_|refine Le.ix fun _=> ?_|refine Le.loop fun _=> ?_|refine Le.gY (fun _=> ?_) _|refine Le.gZ (fun _ _=> ?_) _ _|refine Le.sum (fun _=> ?_) (fun _=> ?_)|exact Le.rfl' _|intro _)
def qa (fuel:Nat) (t:aD) (view:Int) (value:List UInt8):Option Int:=
 bd ((oG fuel) t view value) fun rA=>
 some (rA.length:Int)
theorem BX (fuel:Nat) (t:aD) (view:Int) (value:List UInt8):Le (qa fuel t view value) (fq t view value):=by
 unfold qa fq
 repeat' (first|with_reducible exact Le.rfl' _|with_reducible apply zp|refine Le.bd ?_ fun _=> ?_|refine Le.ite ?_ ?_|refine Le.ix fun _=> ?_|refine Le.loop fun _=> ?_|refine Le.gY (fun _=> ?_) _|refine Le.gZ (fun _ _=> ?_) _ _|refine Le.sum (fun _=> ?_) (fun _=> ?_)|exact Le.rfl' _|intro _)
def qc (fuel:Nat) (sA:aj) (p:List ab):Option Bool:=
 bd (
  bd ((jn fuel) sA) fun rA=>
  if !rA then
  some true
  else
  bd ((r9 fuel) sA) fun bL=>
  if !decide ((p.length:Int)=bL) then
  some true
  else
  bd ((p9 fuel) (⟨p⟩:aD)) fun cL=>
  some (!cL):Option Bool) fun w=>
 if w then
 some false
 else
 bd (
  ix p (IntKind.wrap .i64 ((p.length:Int)-1)) fun y=>
  bd ((yg fuel) sA) fun cZ=>
  if y.By<cZ then
  ix p 0 fun y1=>
  ix p 0 fun y2=>
  bd ((qa fuel) (⟨p⟩:aD) y1.View y2.Value) fun nh=>
  some (decide (nh=(p.length:Int)))
  else
  some false:Option Bool) fun w1=>
 some w1
theorem BZ (fuel:Nat) (sA:aj) (p:List ab):Le (qc fuel sA p) (dz sA p):=by
 unfold qc dz
 repeat' (first|with_reducible exact Le.rfl' _|with_reducible apply BV|with_reducible apply mj|with_reducible apply DL|with_reducible apply BW|with_reducible apply BX|refine Le.bd ?_ fun _=> ?_|refine Le.ite ?_ ?_|refine Le.ix fun _=> ?_|refine Le.loop fun _=> ?_|refine Le.gY (fun _=> ?_) _|refine Le.gZ (fun _ _=> ?_) _ _|refine Le.sum (fun _=> ?_) (fun _=> ?_)|exact Le.rfl' _|intro _)
def yj (fuel:Nat) (p:List ab):Option (Int×(List UInt8)×Bool):=
 if (p.length:Int)=0 then
 some ((-1),([]:List UInt8),false)
 else
 ix p 0 fun y=>
 ix p 0 fun y1=>
 some (y.View,y1.Value,true)
theorem Iq (fuel:Nat) (p:List ab):Le (yj fuel p) (jH p):=by
 unfold yj jH
 repeat' (first|with_reducible exact Le.rfl' _|refine Le.bd ?_ fun _=> ?_|refine Le.ite ?_ ?_|refine Le.ix fun _=> ?_|refine Le.loop fun _=> ?_|refine Le.gY (fun _=> ?_) _|refine Le.gZ (fun _ _=> ?_) _ _|refine Le.sum (fun _=> ?_) (fun _=> ?_)|exact Le.rfl' _|intro _)
def jz (fuel:Nat) (rA:aw):Option Int:=
 bd ((yj fuel) rA.Proof) fun bL=>
 if !bL.2.2 then
 some (-1)
 else
 some bL.1
theorem qd (fuel:Nat) (rA:aw):Le (jz fuel rA) (eJ rA):=by
 unfold jz eJ
 repeat' (first|with_reducible exact Le.rfl' _|with_reducible apply Iq|refine Le.bd ?_ fun _=> ?_|refine Le.ite ?_ ?_|refine Le.ix fun _=> ?_|refine Le.loop fun _=> ?_|refine Le.gY (fun _=> ?_) _|refine Le.gZ (fun _ _=> ?_) _ _|refine Le.sum (fun _=> ?_) (fun _=> ?_)|exact Le.rfl' _|intro _)
def sa (fuel:Nat) (a:aj) (a1:aw):Option Bool:=
 bd (
  bd ((jn fuel) a) fun rA=>
  if !rA then
  some true
  else
  if a1.By<0 then
  some true
  else
  bd ((yg fuel) a) fun bL=>
  if bL≤a1.By then
  some true
  else
  if a1.sX<1 then
  some true
  else
  some (decide ((100000:Int)<a1.sX)):Option Bool) fun w=>
 if w then
 some false
 else
 bd (
  if !a1.Has then
  if !decide (a1.View=0) then
  some true
  else
  some (!decide (a1.Value=([]:List UInt8)))
  else
  some false:Option Bool) fun w1=>
 if w1 then
 some false
 else
 bd (
  if a1.Has then
  if a1.View<0 then
  some true
  else
  if a1.sX≤a1.View then
  some true
  else
  some (decide ((6000:Int)<(a1.Value.length:Int)))
  else
  some false:Option Bool) fun w2=>
 if w2 then
 some false
 else
 bd (
  if (a1.Proof.length:Int)=0 then
  some true
  else
  bd ((qc fuel) a a1.Proof) fun cL=>
  if cL then
  bd ((jz fuel) a1) fun cZ=>
  some (decide (cZ<a1.sX))
  else
  some false:Option Bool) fun w3=>
 some w3
theorem DM (fuel:Nat) (a:aj) (a1:aw):Le (sa fuel a a1) (kT a a1):=by
 unfold sa kT
 repeat' (first|with_reducible exact Le.rfl' _|with_reducible apply BV|with_reducible apply mj|with_reducible apply BZ|with_reducible apply qd|refine Le.bd ?_ fun _=> ?_|refine Le.ite ?_ ?_|refine Le.ix fun _=> ?_|refine Le.loop fun _=> ?_|refine Le.gY (fun _=> ?_) _|refine Le.gZ (fun _ _=> ?_) _ _|refine Le.sum (fun _=> ?_) (fun _=> ?_)|exact Le.rfl' _|intro _)
def ln (fuel:Nat) (sA:aj) (view:Int) (lA:List aw) (st:Int×Int):Option ((Int×Int)⊕(Unit⊕Bool)):=
 if st.2<(lA.length:Int) then
 ix lA st.2 fun y=>
 bd (
  bd ((sa fuel) sA y) fun cL=>
  if !cL then
  some true
  else
  if !decide (y.sX=view) then
  some true
  else
  some (decide (y.By≤st.1)):Option Bool) fun w2=>
 if w2 then
 some (.inr (.inr false))
 else
 some (.inl (y.By,IntKind.wrap .i64 (st.2+1)))
 else
 some (.inr (.inl ()))
theorem vI (fuel:Nat) (sA:aj) (view:Int) (lA:List aw) (st:Int×Int):Le (ln fuel sA view lA st) (ir sA view lA st):=by
 unfold ln ir
 repeat' (first|with_reducible exact Le.rfl' _|with_reducible apply DM|refine Le.bd ?_ fun _=> ?_|refine Le.ite ?_ ?_|refine Le.ix fun _=> ?_|refine Le.loop fun _=> ?_|refine Le.gY (fun _=> ?_) _|refine Le.gZ (fun _ _=> ?_) _ _|refine Le.sum (fun _=> ?_) (fun _=> ?_)|exact Le.rfl' _|intro _)
def oH (fuel:Nat) (sA:aj) (view:Int) (lA:List aw):Option Bool:=
 bd (
  bd ((jn fuel) sA) fun rA=>
  if !rA then
  some true
  else
  bd ((uC fuel) sA) fun bL=>
  some (!decide ((lA.length:Int)=bL)):Option Bool) fun w=>
 if w then
 some false
 else
 bd (AD fuel ((ln fuel) sA view lA) ((-1),0)) fun w1=>
 match w1 with
 | .inl p1=>
  some true
 | .inr p2=>
  some p2
theorem zq (fuel:Nat) (sA:aj) (view:Int) (lA:List aw):Le (oH fuel sA view lA) (iu sA view lA):=by
 unfold oH iu
 repeat' (first|with_reducible exact Le.rfl' _|with_reducible apply mj|with_reducible apply FH|with_reducible apply vI|refine Le.bd ?_ fun _=> ?_|refine Le.ite ?_ ?_|refine Le.ix fun _=> ?_|refine Le.loop fun _=> ?_|refine Le.gY (fun _=> ?_) _|refine Le.gZ (fun _ _=> ?_) _ _|refine Le.sum (fun _=> ?_) (fun _=> ?_)|exact Le.rfl' _|intro _)
def sb (fuel:Nat) (sA:aj):Option Int:=
 bd ((gV fuel) sA (4607182418800017408,4607182418800017408)) fun rA=>
 some rA
theorem DN (fuel:Nat) (sA:aj):Le (sb fuel sA) (kU sA):=by
 unfold sb kU
 repeat' (first|with_reducible exact Le.rfl' _|with_reducible apply kj|refine Le.bd ?_ fun _=> ?_|refine Le.ite ?_ ?_|refine Le.ix fun _=> ?_|refine Le.loop fun _=> ?_|refine Le.gY (fun _=> ?_) _|refine Le.gZ (fun _ _=> ?_) _ _|refine Le.sum (fun _=> ?_) (fun _=> ?_)|exact Le.rfl' _|intro _)
def lp (fuel:Nat) (a1:List aw) (st:Int×(List UInt8)×Int):Option ((Int×(List UInt8)×Int)⊕(Int×(List UInt8))):=
 if st.2.2<(a1.length:Int) then
 ix a1 st.2.2 fun y=>
 bd ((jz fuel) y) fun rA=>
 bd (
  if st.1<rA then
  ix y.Proof 0 fun y1=>
  some (rA,y1.Value)
  else
  some (st.1,st.2.1):Option (Int×(List UInt8))) fun w1=>
 some (.inl (w1.1,w1.2,IntKind.wrap .i64 (st.2.2+1)))
 else
 some (.inr (st.1,st.2.1))
theorem vJ (fuel:Nat) (a1:List aw) (st:Int×(List UInt8)×Int):Le (lp fuel a1 st) (iv a1 st):=by
 unfold lp iv
 repeat' (first|with_reducible exact Le.rfl' _|with_reducible apply qd|refine Le.bd ?_ fun _=> ?_|refine Le.ite ?_ ?_|refine Le.ix fun _=> ?_|refine Le.loop fun _=> ?_|refine Le.gY (fun _=> ?_) _|refine Le.gZ (fun _ _=> ?_) _ _|refine Le.sum (fun _=> ?_) (fun _=> ?_)|exact Le.rfl' _|intro _)
def lq (fuel:Nat) (a1:List aw) (w:Int×(List UInt8)) (ca:(List MV)×Int):Option (((List MV)×Int)⊕(List MV)):=
 if ca.2<(a1.length:Int) then
 ix a1 ca.2 fun y2=>
 bd (
  if y2.Has then
  some (decide (w.1<y2.View))
  else
  some false:Option Bool) fun w3=>
 bd (
  if w3 then
  some (rF (jZ ca.1 ([.s y2.Value]:List MV) (.i .i64 0)) (cF ca.1 ([.s y2.Value]:List MV)) (.i .i64 (IntKind.wrap .i64 ((oN ca.1 ([.s y2.Value]:List MV))+1))))
  else
  some ca.1:Option (List MV)) fun w4=>
 some (.inl (w4,IntKind.wrap .i64 (ca.2+1)))
 else
 some (.inr ca.1)
theorem vK (fuel:Nat) (a1:List aw) (w:Int×(List UInt8)) (ca:(List MV)×Int):Le (lq fuel a1 w ca) (dV a1 w ca):=by
 unfold lq dV
 repeat' (first|with_reducible exact Le.rfl' _|refine Le.bd ?_ fun _=> ?_|refine Le.ite ?_ ?_|refine Le.ix fun _=> ?_|refine Le.loop fun _=> ?_|refine Le.gY (fun _=> ?_) _|refine Le.gZ (fun _ _=> ?_) _ _|refine Le.sum (fun _=> ?_) (fun _=> ?_)|exact Le.rfl' _|intro _)
def lr (fuel:Nat) (a:aj) (H8:MV):Option (Unit⊕(Unit⊕((List UInt8)×Bool))):=
 C6 H8 fun key n=>
 bd ((sb fuel) a) fun bL=>
 if bL≤n then
 some (.inr (.inr (key,true)))
 else
 some (.inl ())
theorem vL (fuel:Nat) (a:aj) (H8:MV):Le (lr fuel a H8) (iw a H8):=by
 unfold lr iw
 repeat' (first|with_reducible exact Le.rfl' _|with_reducible apply DN|refine Le.bd ?_ fun _=> ?_|refine Le.ite ?_ ?_|refine Le.ix fun _=> ?_|refine Le.loop fun _=> ?_|refine Le.gY (fun _=> ?_) _|refine Le.gZ (fun _ _=> ?_) _ _|refine Le.sum (fun _=> ?_) (fun _=> ?_)|exact Le.rfl' _|intro _)
def oJ (fuel:Nat) (a:aj) (a1:List aw):Option ((List UInt8)×Bool):=
 bd (AD fuel ((lp fuel) a1) ((-1),([]:List UInt8),0)) fun w=>
 bd (AD fuel ((lq fuel) a1 w) (([]:List MV),0)) fun w2=>
 bd (mD ((lr fuel) a) (
  some (.inl ())) w2) fun w5=>
 match w5 with
 | .inl p5=>
  some (w.2,decide (((-1):Int)<w.1))
 | .inr p6=>
  some (p6.1,p6.2)
theorem zr (fuel:Nat) (a:aj) (a1:List aw):Le (oJ fuel a a1) (iy a a1):=by
 unfold oJ iy
 repeat' (first|with_reducible exact Le.rfl' _|with_reducible apply vJ|with_reducible apply vK|with_reducible apply vL|refine Le.bd ?_ fun _=> ?_|refine Le.ite ?_ ?_|refine Le.ix fun _=> ?_|refine Le.loop fun _=> ?_|refine Le.gY (fun _=> ?_) _|refine Le.gZ (fun _ _=> ?_) _ _|refine Le.sum (fun _=> ?_) (fun _=> ?_)|exact Le.rfl' _|intro _)
def lu (fuel:Nat) (sA:aj) (view:Int) (lA:List aw) (value:List UInt8):Option Bool:=
 bd ((oH fuel) sA view lA) fun rA=>
 if !rA then
 some false
 else
 bd ((oJ fuel) sA lA) fun bL=>
 bd (
  if !bL.2 then
  some true
  else
  some (decide (bL.1=value)):Option Bool) fun w=>
 some w
theorem vM (fuel:Nat) (sA:aj) (view:Int) (lA:List aw) (value:List UInt8):Le (lu fuel sA view lA value) (ft sA view lA value):=by
 unfold lu ft
 repeat' (first|with_reducible exact Le.rfl' _|with_reducible apply zq|with_reducible apply zr|refine Le.bd ?_ fun _=> ?_|refine Le.ite ?_ ?_|refine Le.ix fun _=> ?_|refine Le.loop fun _=> ?_|refine Le.gY (fun _=> ?_) _|refine Le.gZ (fun _ _=> ?_) _ _|refine Le.sum (fun _=> ?_) (fun _=> ?_)|exact Le.rfl' _|intro _)
def fH (fuel:Nat) (a:af) (view:Int) (value:List UInt8) (rX:List aw):Option (af×ab×Bool):=
 bd (
  if !decide (view=a.View) then
  some true
  else
  if a.Has then
  if a.At=view then
  some true
  else
  some (decide ((6000:Int)<(value.length:Int)))
  else
  some (decide ((6000:Int)<(value.length:Int))):Option Bool) fun w=>
 if w then
 some (a,(⟨0,0,([]:List UInt8)⟩:ab),false)
 else
 bd (
  if view=0 then
  some (decide ((rX.length:Int)=0))
  else
  some false:Option Bool) fun w1=>
 bd (
  if w1 then
  some (.inr (0,0,0,0,false,0,([]:List UInt8),([]:List ab),([]:List ab),0,0,([]:List UInt8)))
  else
  bd ((lu fuel) a.S view rX value) fun rA=>
  if !rA then
  some (.inl (a.S.F,a.S.T,a.Me,a.View,a.Has,a.At,a.Value,a.Proof,a.bS.L,0,0,([]:List UInt8),false))
  else
  some (.inr (0,0,0,0,false,0,([]:List UInt8),([]:List ab),([]:List ab),0,0,([]:List UInt8))):Option ((Int×Int×Int×Int×Bool×Int×(List UInt8)×(List ab)×(List ab)×Int×Int×(List UInt8)×Bool)⊕(Int×Int×Int×Int×Bool×Int×(List UInt8)×(List ab)×(List ab)×Int×Int×(List UInt8)))) fun w2=>
 match w2 with
 | .inl p1=>
  some ((⟨(⟨p1.1,p1.2.1⟩:aj),p1.2.2.1,p1.2.2.2.1,p1.2.2.2.2.1,p1.2.2.2.2.2.1,p1.2.2.2.2.2.2.1,p1.2.2.2.2.2.2.2.1,(⟨p1.2.2.2.2.2.2.2.2.1⟩:aD)⟩:af),(⟨p1.2.2.2.2.2.2.2.2.2.1,p1.2.2.2.2.2.2.2.2.2.2.1,p1.2.2.2.2.2.2.2.2.2.2.2.1⟩:ab),p1.2.2.2.2.2.2.2.2.2.2.2.2)
 | .inr p2=>
  some ((⟨a.S,a.Me,a.View,true,view,value,a.Proof,a.bS⟩:af),(⟨a.Me,view,value⟩:ab),true)
theorem tB (fuel:Nat) (a:af) (view:Int) (value:List UInt8) (rX:List aw):Le (fH fuel a view value rX) (di a view value rX):=by
 unfold fH di
 repeat' (first|with_reducible exact Le.rfl' _|with_reducible apply vM|refine Le.bd ?_ fun _=> ?_|refine Le.ite ?_ ?_|refine Le.ix fun _=> ?_|refine Le.loop fun _=> ?_|refine Le.gY (fun _=> ?_) _|refine Le.gZ (fun _ _=> ?_) _ _|refine Le.sum (fun _=> ?_) (fun _=> ?_)|exact Le.rfl' _|intro _)
def AE (fuel:Nat):Option Bool:=
 bd ((oF fuel) (⟨1,0⟩:aj) 2) fun rA=>
 bd ((fH fuel) rA.1 0 ([120]:List UInt8) ([]:List aw)) fun bL=>
 bd ((fH fuel) bL.1 0 ([121]:List UInt8) ([]:List aw)) fun cL=>
 bd ((ll fuel) bL.1 3) fun cZ=>
 bd (
  if rA.2=0 then
  if bL.2.2 then
  if !cL.2.2 then
  if cZ.2.2 then
  if bL.2.1.By=2 then
  if bL.2.1.Value=([120]:List UInt8) then
  if cZ.1.View=3 then
  if cZ.2.1.sX=3 then
  some (decide (cZ.2.1.Value=([120]:List UInt8)))
  else
  some false
  else
  some false
  else
  some false
  else
  some false
  else
  some false
  else
  some false
  else
  some false
  else
  some false:Option Bool) fun w=>
 some w
theorem FJ (fuel:Nat):Le (AE fuel) (jb):=by
 unfold AE jb
 repeat' (first|with_reducible exact Le.rfl' _|with_reducible apply zo|with_reducible apply vG|with_reducible apply tB|refine Le.bd ?_ fun _=> ?_|refine Le.ite ?_ ?_|refine Le.ix fun _=> ?_|refine Le.loop fun _=> ?_|refine Le.gY (fun _=> ?_) _|refine Le.gZ (fun _ _=> ?_) _ _|refine Le.sum (fun _=> ?_) (fun _=> ?_)|exact Le.rfl' _|intro _)
theorem FK:jb=some true:=FJ 200 _ (by decide+kernel)
end Dn.S
