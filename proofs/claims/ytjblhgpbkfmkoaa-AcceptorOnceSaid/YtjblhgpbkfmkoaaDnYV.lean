import Derived.Test.YtjblhgpbkfmkoaaDnYT
import Derived.Test.YtjblhgpbkfmkoaaDnD
/-
  The functions, with a bound on their rounds. Conditions: none.
-/
open Go Dn
set_option linter.unusedVariables false
set_option linter.unusedSimpArgs false
set_option maxRecDepth 100000
namespace Dn.S
def n9 (fuel:Nat) (sA:ai):Option (Nat×Nat):=
 some (FloatKind.nearest .f64 sA.F,FloatKind.nearest .f64 sA.T)
theorem AL (fuel:Nat) (sA:ai):Le (n9 fuel sA) (iF sA):=by
 unfold n9 iF
 repeat' (first|with_reducible exact Le.rfl' _|refine Le.bd ?_ fun _=> ?_|refine Le.ite ?_ ?_|refine Le.ix fun _=> ?_|refine Le.loop fun _=> ?_|refine Le.jo (fun _=> ?_) _|refine Le.jq (fun _ _=> ?_) _ _|refine Le.sum (fun _=> ?_) (fun _=> ?_)|exact Le.rfl' _|intro _)
def jk (fuel:Nat) (sA:ai) (times:Nat×Nat):Option Int:=
 bd ((n9 fuel) sA) fun rA=>
 bd (FloatKind.f64.format.mul rA.1 times.1) fun f=>
 bd (FloatKind.f64.format.mul rA.2 times.2) fun f1=>
 bd (FloatKind.f64.format.add f f1) fun f2=>
 bd ((FloatKind.decode .f64 f2).toInt .zero) fun n=>
 if IntKind.min .i64≤n∧n≤IntKind.max .i64 then
 some (IntKind.wrap .i64 (n+1))
 else none
theorem lQ (fuel:Nat) (sA:ai) (times:Nat×Nat):Le (jk fuel sA times) (eT sA times):=by
 unfold jk eT
 repeat' (first|with_reducible exact Le.rfl' _|with_reducible apply AL|refine Le.bd ?_ fun _=> ?_|refine Le.ite ?_ ?_|refine Le.ix fun _=> ?_|refine Le.loop fun _=> ?_|refine Le.jo (fun _=> ?_) _|refine Le.jq (fun _ _=> ?_) _ _|refine Le.sum (fun _=> ?_) (fun _=> ?_)|exact Le.rfl' _|intro _)
def AM (fuel:Nat) (sA:ai):Option Int:=
 bd ((jk fuel) sA (4613937818241073152,4611686018427387904)) fun rA=>
 some rA
theorem Eu (fuel:Nat) (sA:ai):Le (AM fuel sA) (n5 sA):=by
 unfold AM n5
 repeat' (first|with_reducible exact Le.rfl' _|with_reducible apply lQ|refine Le.bd ?_ fun _=> ?_|refine Le.ite ?_ ?_|refine Le.ix fun _=> ?_|refine Le.loop fun _=> ?_|refine Le.jo (fun _=> ?_) _|refine Le.jq (fun _ _=> ?_) _ _|refine Le.sum (fun _=> ?_) (fun _=> ?_)|exact Le.rfl' _|intro _)
def kv (fuel:Nat) (sA:ai):Option Bool:=
 bd (
  if (1:Int)≤sA.F then
  if sA.F≤5 then
  if (0:Int)≤sA.T then
  some (decide (sA.T≤sA.F))
  else
  some false
  else
  some false
  else
  some false:Option Bool) fun w=>
 some w
theorem nO (fuel:Nat) (sA:ai):Le (kv fuel sA) (eo sA):=by
 unfold kv eo
 repeat' (first|with_reducible exact Le.rfl' _|refine Le.bd ?_ fun _=> ?_|refine Le.ite ?_ ?_|refine Le.ix fun _=> ?_|refine Le.loop fun _=> ?_|refine Le.jo (fun _=> ?_) _|refine Le.jq (fun _ _=> ?_) _ _|refine Le.sum (fun _=> ?_) (fun _=> ?_)|exact Le.rfl' _|intro _)
def qh (fuel:Nat) (sA:ai) (me:Int):Option (ae×Int):=
 bd (
  bd ((kv fuel) sA) fun rA=>
  if !rA then
  some true
  else
  if me<0 then
  some true
  else
  bd ((AM fuel) sA) fun bI=>
  some (decide (bI≤me)):Option Bool) fun w=>
 if w then
 some ((⟨(⟨0,0⟩:ai),0,0,false,0,([]:List UInt8),([]:List aa),(⟨([]:List aa)⟩:au)⟩:ae),1)
 else
 some ((⟨sA,me,0,false,0,([]:List UInt8),([]:List aa),(⟨([]:List aa)⟩:au)⟩:ae),0)
theorem BX (fuel:Nat) (sA:ai) (me:Int):Le (qh fuel sA me) (dA sA me):=by
 unfold qh dA
 repeat' (first|with_reducible exact Le.rfl' _|with_reducible apply Eu|with_reducible apply nO|refine Le.bd ?_ fun _=> ?_|refine Le.ite ?_ ?_|refine Le.ix fun _=> ?_|refine Le.loop fun _=> ?_|refine Le.jo (fun _=> ?_) _|refine Le.jq (fun _ _=> ?_) _ _|refine Le.sum (fun _=> ?_) (fun _=> ?_)|exact Le.rfl' _|intro _)
def oa (fuel:Nat) (a:ae):Option al:=
 some (⟨a.Me,a.View,a.Has,a.At,a.Value,a.Proof⟩:al)
theorem AN (fuel:Nat) (a:ae):Le (oa fuel a) (iG a):=by
 unfold oa iG
 repeat' (first|with_reducible exact Le.rfl' _|refine Le.bd ?_ fun _=> ?_|refine Le.ite ?_ ?_|refine Le.ix fun _=> ?_|refine Le.loop fun _=> ?_|refine Le.jo (fun _=> ?_) _|refine Le.jq (fun _ _=> ?_) _ _|refine Le.sum (fun _=> ?_) (fun _=> ?_)|exact Le.rfl' _|intro _)
def mP (fuel:Nat) (a:ae) (view:Int):Option (ae×al×Bool):=
 bd (
  if view≤a.View then
  some true
  else
  some (decide ((100000:Int)<view)):Option Bool) fun w=>
 if w then
 some (a,(⟨0,0,false,0,([]:List UInt8),([]:List aa)⟩:al),false)
 else
 bd ((oa fuel) (⟨a.S,a.Me,view,a.Has,a.At,a.Value,a.Proof,(⟨([]:List aa)⟩:au)⟩:ae)) fun rA=>
 some ((⟨a.S,a.Me,view,a.Has,a.At,a.Value,a.Proof,(⟨([]:List aa)⟩:au)⟩:ae),rA,true)
theorem yh (fuel:Nat) (a:ae) (view:Int):Le (mP fuel a view) (dm a view):=by
 unfold mP dm
 repeat' (first|with_reducible exact Le.rfl' _|with_reducible apply AN|refine Le.bd ?_ fun _=> ?_|refine Le.ite ?_ ?_|refine Le.ix fun _=> ?_|refine Le.loop fun _=> ?_|refine Le.jo (fun _=> ?_) _|refine Le.jq (fun _ _=> ?_) _ _|refine Le.sum (fun _=> ?_) (fun _=> ?_)|exact Le.rfl' _|intro _)
def wV (fuel:Nat) (sA:ai):Option Int:=
 bd ((jk fuel) sA (4611686018427387904,4611686018427387904)) fun rA=>
 some rA
theorem ID (fuel:Nat) (sA:ai):Le (wV fuel sA) (ki sA):=by
 unfold wV ki
 repeat' (first|with_reducible exact Le.rfl' _|with_reducible apply lQ|refine Le.bd ?_ fun _=> ?_|refine Le.ite ?_ ?_|refine Le.ix fun _=> ?_|refine Le.loop fun _=> ?_|refine Le.jo (fun _=> ?_) _|refine Le.jq (fun _ _=> ?_) _ _|refine Le.sum (fun _=> ?_) (fun _=> ?_)|exact Le.rfl' _|intro _)
def uf (fuel:Nat) (sA:ai):Option Int:=
 bd ((jk fuel) sA (4611686018427387904,4607182418800017408)) fun rA=>
 some rA
theorem GA (fuel:Nat) (sA:ai):Le (uf fuel sA) (fb sA):=by
 unfold uf fb
 repeat' (first|with_reducible exact Le.rfl' _|with_reducible apply lQ|refine Le.bd ?_ fun _=> ?_|refine Le.ite ?_ ?_|refine Le.ix fun _=> ?_|refine Le.loop fun _=> ?_|refine Le.jo (fun _=> ?_) _|refine Le.jq (fun _ _=> ?_) _ _|refine Le.sum (fun _=> ?_) (fun _=> ?_)|exact Le.rfl' _|intro _)
def wW (fuel:Nat) (a:aa):Option Bool:=
 bd (
  if (0:Int)≤a.By then
  if (0:Int)≤a.View then
  if a.View≤100000 then
  some (decide ((a.Value.length:Int)≤6000))
  else
  some false
  else
  some false
  else
  some false:Option Bool) fun w=>
 some w
theorem IE (fuel:Nat) (a:aa):Le (wW fuel a) (jd a):=by
 unfold wW jd
 repeat' (first|with_reducible exact Le.rfl' _|refine Le.bd ?_ fun _=> ?_|refine Le.ite ?_ ?_|refine Le.ix fun _=> ?_|refine Le.loop fun _=> ?_|refine Le.jo (fun _=> ?_) _|refine Le.jq (fun _ _=> ?_) _ _|refine Le.sum (fun _=> ?_) (fun _=> ?_)|exact Le.rfl' _|intro _)
def oc (fuel:Nat) (t:au) (st:Int):Option (Int⊕(Unit⊕Bool)):=
 if st<(t.L.length:Int) then
 ix t.L st fun y=>
 bd (
  bd ((wW fuel) y) fun rA=>
  if !rA then
  some true
  else
  if (0:Int)<st then
  ix t.L (IntKind.wrap .i64 (st-1)) fun y1=>
  some (decide (y.By≤y1.By))
  else
  some false:Option Bool) fun w1=>
 if w1 then
 some (.inr (.inr false))
 else
 some (.inl (IntKind.wrap .i64 (st+1)))
 else
 some (.inr (.inl ()))
theorem AO (fuel:Nat) (t:au) (st:Int):Le (oc fuel t st) (fD t st):=by
 unfold oc fD
 repeat' (first|with_reducible exact Le.rfl' _|with_reducible apply IE|refine Le.bd ?_ fun _=> ?_|refine Le.ite ?_ ?_|refine Le.ix fun _=> ?_|refine Le.loop fun _=> ?_|refine Le.jo (fun _=> ?_) _|refine Le.jq (fun _ _=> ?_) _ _|refine Le.sum (fun _=> ?_) (fun _=> ?_)|exact Le.rfl' _|intro _)
def rE (fuel:Nat) (t:au):Option Bool:=
 bd (Da fuel ((oc fuel) t) 0) fun w=>
 match w with
 | .inl p1=>
  some true
 | .inr p2=>
  some p2
theorem Ew (fuel:Nat) (t:au):Le (rE fuel t) (gf t):=by
 unfold rE gf
 repeat' (first|with_reducible exact Le.rfl' _|with_reducible apply AO|refine Le.bd ?_ fun _=> ?_|refine Le.ite ?_ ?_|refine Le.ix fun _=> ?_|refine Le.loop fun _=> ?_|refine Le.jo (fun _=> ?_) _|refine Le.jq (fun _ _=> ?_) _ _|refine Le.sum (fun _=> ?_) (fun _=> ?_)|exact Le.rfl' _|intro _)
def mQ (fuel:Nat) (t:au) (view:Int) (value:List UInt8) (st:(List aa)×Int):Option (((List aa)×Int)⊕(List aa)):=
 if st.2<(t.L.length:Int) then
 ix t.L st.2 fun y=>
 bd (
  if y.View=view then
  some (decide (y.Value=value))
  else
  some false:Option Bool) fun w1=>
 bd (
  if w1 then
  if (st.1.length+([y]:List aa).length) *32≤2^46 then
  some (st.1++([y]:List aa))
  else none
  else
  some st.1:Option (List aa)) fun w2=>
 some (.inl (w2,IntKind.wrap .i64 (st.2+1)))
 else
 some (.inr st.1)
theorem yi (fuel:Nat) (t:au) (view:Int) (value:List UInt8) (st:(List aa)×Int):Le (mQ fuel t view value st) (dN t view value st):=by
 unfold mQ dN
 repeat' (first|with_reducible exact Le.rfl' _|refine Le.bd ?_ fun _=> ?_|refine Le.ite ?_ ?_|refine Le.ix fun _=> ?_|refine Le.loop fun _=> ?_|refine Le.jo (fun _=> ?_) _|refine Le.jq (fun _ _=> ?_) _ _|refine Le.sum (fun _=> ?_) (fun _=> ?_)|exact Le.rfl' _|intro _)
def qi (fuel:Nat) (t:au) (view:Int) (value:List UInt8):Option (List aa):=
 bd (Da fuel ((mQ fuel) t view value) (([]:List aa),0)) fun w=>
 some w
theorem BZ (fuel:Nat) (t:au) (view:Int) (value:List UInt8):Le (qi fuel t view value) (ec t view value):=by
 unfold qi ec
 repeat' (first|with_reducible exact Le.rfl' _|with_reducible apply yi|refine Le.bd ?_ fun _=> ?_|refine Le.ite ?_ ?_|refine Le.ix fun _=> ?_|refine Le.loop fun _=> ?_|refine Le.jo (fun _=> ?_) _|refine Le.jq (fun _ _=> ?_) _ _|refine Le.sum (fun _=> ?_) (fun _=> ?_)|exact Le.rfl' _|intro _)
def rF (fuel:Nat) (t:au) (view:Int) (value:List UInt8):Option Int:=
 bd ((qi fuel) t view value) fun rA=>
 some (rA.length:Int)
theorem Ex (fuel:Nat) (t:au) (view:Int) (value:List UInt8):Le (rF fuel t view value) (gh t view value):=by
 unfold rF gh
 repeat' (first|with_reducible exact Le.rfl' _|with_reducible apply BZ|refine Le.bd ?_ fun _=> ?_|refine Le.ite ?_ ?_|refine Le.ix fun _=> ?_|refine Le.loop fun _=> ?_|refine Le.jo (fun _=> ?_) _|refine Le.jq (fun _ _=> ?_) _ _|refine Le.sum (fun _=> ?_) (fun _=> ?_)|exact Le.rfl' _|intro _)
def rG (fuel:Nat) (sA:ai) (p:List aa):Option Bool:=
 bd (
  bd ((kv fuel) sA) fun rA=>
  if !rA then
  some true
  else
  bd ((uf fuel) sA) fun bI=>
  if !decide ((p.length:Int)=bI) then
  some true
  else
  bd ((rE fuel) (⟨p⟩:au)) fun cJ=>
  some (!cJ):Option Bool) fun w=>
 if w then
 some false
 else
 bd (
  ix p (IntKind.wrap .i64 ((p.length:Int)-1)) fun y=>
  bd ((AM fuel) sA) fun dL=>
  if y.By<dL then
  ix p 0 fun y1=>
  ix p 0 fun y2=>
  bd ((rF fuel) (⟨p⟩:au) y1.View y2.Value) fun jX=>
  some (decide (jX=(p.length:Int)))
  else
  some false:Option Bool) fun w1=>
 some w1
theorem Ey (fuel:Nat) (sA:ai) (p:List aa):Le (rG fuel sA p) (cW sA p):=by
 unfold rG cW
 repeat' (first|with_reducible exact Le.rfl' _|with_reducible apply Eu|with_reducible apply nO|with_reducible apply GA|with_reducible apply Ew|with_reducible apply Ex|refine Le.bd ?_ fun _=> ?_|refine Le.ite ?_ ?_|refine Le.ix fun _=> ?_|refine Le.loop fun _=> ?_|refine Le.jo (fun _=> ?_) _|refine Le.jq (fun _ _=> ?_) _ _|refine Le.sum (fun _=> ?_) (fun _=> ?_)|exact Le.rfl' _|intro _)
def AP (fuel:Nat) (p:List aa):Option (Int×(List UInt8)×Bool):=
 if (p.length:Int)=0 then
 some ((-1),([]:List UInt8),false)
 else
 ix p 0 fun y=>
 ix p 0 fun y1=>
 some (y.View,y1.Value,true)
theorem LD (fuel:Nat) (p:List aa):Le (AP fuel p) (jF p):=by
 unfold AP jF
 repeat' (first|with_reducible exact Le.rfl' _|refine Le.bd ?_ fun _=> ?_|refine Le.ite ?_ ?_|refine Le.ix fun _=> ?_|refine Le.loop fun _=> ?_|refine Le.jo (fun _=> ?_) _|refine Le.jq (fun _ _=> ?_) _ _|refine Le.sum (fun _=> ?_) (fun _=> ?_)|exact Le.rfl' _|intro _)
def kK (fuel:Nat) (rA:al):Option Int:=
 bd ((AP fuel) rA.Proof) fun bI=>
 if !bI.2.2 then
 some (-1)
 else
 some bI.1
theorem rH (fuel:Nat) (rA:al):Le (kK fuel rA) (dF rA):=by
 unfold kK dF
 repeat' (first|with_reducible exact Le.rfl' _|with_reducible apply LD|refine Le.bd ?_ fun _=> ?_|refine Le.ite ?_ ?_|refine Le.ix fun _=> ?_|refine Le.loop fun _=> ?_|refine Le.jo (fun _=> ?_) _|refine Le.jq (fun _ _=> ?_) _ _|refine Le.sum (fun _=> ?_) (fun _=> ?_)|exact Le.rfl' _|intro _)
def ug (fuel:Nat) (a:ai) (a1:al):Option Bool:=
 bd (
  bd ((kv fuel) a) fun rA=>
  if !rA then
  some true
  else
  if a1.By<0 then
  some true
  else
  bd ((AM fuel) a) fun bI=>
  if bI≤a1.By then
  some true
  else
  if a1.jW<1 then
  some true
  else
  some (decide ((100000:Int)<a1.jW)):Option Bool) fun w=>
 if w then
 some false
 else
 bd (
  if !a1.Has then
  if !decide (a1.View=0) then
  some true
  else
  some (!decide (a1.Value=([]:List UInt8)))
  else
  some false:Option Bool) fun w1=>
 if w1 then
 some false
 else
 bd (
  if a1.Has then
  if a1.View<0 then
  some true
  else
  if a1.jW≤a1.View then
  some true
  else
  some (decide ((6000:Int)<(a1.Value.length:Int)))
  else
  some false:Option Bool) fun w2=>
 if w2 then
 some false
 else
 bd (
  if (a1.Proof.length:Int)=0 then
  some true
  else
  bd ((rG fuel) a a1.Proof) fun cJ=>
  if cJ then
  bd ((kK fuel) a1) fun dL=>
  some (decide (dL<a1.jW))
  else
  some false:Option Bool) fun w3=>
 some w3
theorem GB (fuel:Nat) (a:ai) (a1:al):Le (ug fuel a a1) (gj a a1):=by
 unfold ug gj
 repeat' (first|with_reducible exact Le.rfl' _|with_reducible apply Eu|with_reducible apply nO|with_reducible apply Ey|with_reducible apply rH|refine Le.bd ?_ fun _=> ?_|refine Le.ite ?_ ?_|refine Le.ix fun _=> ?_|refine Le.loop fun _=> ?_|refine Le.jo (fun _=> ?_) _|refine Le.jq (fun _ _=> ?_) _ _|refine Le.sum (fun _=> ?_) (fun _=> ?_)|exact Le.rfl' _|intro _)
def mR (fuel:Nat) (sA:ai) (view:Int) (lA:List al) (st:Int×Int):Option ((Int×Int)⊕(Unit⊕Bool)):=
 if st.2<(lA.length:Int) then
 ix lA st.2 fun y=>
 bd (
  bd ((ug fuel) sA y) fun cJ=>
  if !cJ then
  some true
  else
  if !decide (y.jW=view) then
  some true
  else
  some (decide (y.By≤st.1)):Option Bool) fun w2=>
 if w2 then
 some (.inr (.inr false))
 else
 some (.inl (y.By,IntKind.wrap .i64 (st.2+1)))
 else
 some (.inr (.inl ()))
theorem yj (fuel:Nat) (sA:ai) (view:Int) (lA:List al) (st:Int×Int):Le (mR fuel sA view lA st) (eJ sA view lA st):=by
 unfold mR eJ
 repeat' (first|with_reducible exact Le.rfl' _|with_reducible apply GB|refine Le.bd ?_ fun _=> ?_|refine Le.ite ?_ ?_|refine Le.ix fun _=> ?_|refine Le.loop fun _=> ?_|refine Le.jo (fun _=> ?_) _|refine Le.jq (fun _ _=> ?_) _ _|refine Le.sum (fun _=> ?_) (fun _=> ?_)|exact Le.rfl' _|intro _)
def qj (fuel:Nat) (sA:ai) (view:Int) (lA:List al):Option Bool:=
 bd (
  bd ((kv fuel) sA) fun rA=>
  if !rA then
  some true
  else
  bd ((wV fuel) sA) fun bI=>
  some (!decide ((lA.length:Int)=bI)):Option Bool) fun w=>
 if w then
 some false
 else
 bd (Da fuel ((mR fuel) sA view lA) ((-1),0)) fun w1=>
 match w1 with
 | .inl p1=>
  some true
 | .inr p2=>
  some p2
theorem B0 (fuel:Nat) (sA:ai) (view:Int) (lA:List al):Le (qj fuel sA view lA) (fc sA view lA):=by
 unfold qj fc
 repeat' (first|with_reducible exact Le.rfl' _|with_reducible apply nO|with_reducible apply ID|with_reducible apply yj|refine Le.bd ?_ fun _=> ?_|refine Le.ite ?_ ?_|refine Le.ix fun _=> ?_|refine Le.loop fun _=> ?_|refine Le.jo (fun _=> ?_) _|refine Le.jq (fun _ _=> ?_) _ _|refine Le.sum (fun _=> ?_) (fun _=> ?_)|exact Le.rfl' _|intro _)
def uh (fuel:Nat) (sA:ai):Option Int:=
 bd ((jk fuel) sA (4607182418800017408,4607182418800017408)) fun rA=>
 some rA
theorem GC (fuel:Nat) (sA:ai):Le (uh fuel sA) (iX sA):=by
 unfold uh iX
 repeat' (first|with_reducible exact Le.rfl' _|with_reducible apply lQ|refine Le.bd ?_ fun _=> ?_|refine Le.ite ?_ ?_|refine Le.ix fun _=> ?_|refine Le.loop fun _=> ?_|refine Le.jo (fun _=> ?_) _|refine Le.jq (fun _ _=> ?_) _ _|refine Le.sum (fun _=> ?_) (fun _=> ?_)|exact Le.rfl' _|intro _)
def mS (fuel:Nat) (a1:List al) (st:Int×(List UInt8)×Int):Option ((Int×(List UInt8)×Int)⊕(Int×(List UInt8))):=
 if st.2.2<(a1.length:Int) then
 ix a1 st.2.2 fun y=>
 bd ((kK fuel) y) fun rA=>
 bd (
  if st.1<rA then
  ix y.Proof 0 fun y1=>
  some (rA,y1.Value)
  else
  some (st.1,st.2.1):Option (Int×(List UInt8))) fun w1=>
 some (.inl (w1.1,w1.2,IntKind.wrap .i64 (st.2.2+1)))
 else
 some (.inr (st.1,st.2.1))
theorem yk (fuel:Nat) (a1:List al) (st:Int×(List UInt8)×Int):Le (mS fuel a1 st) (dO a1 st):=by
 unfold mS dO
 repeat' (first|with_reducible exact Le.rfl' _|with_reducible apply rH|refine Le.bd ?_ fun _=> ?_|refine Le.ite ?_ ?_|refine Le.ix fun _=> ?_|refine Le.loop fun _=> ?_|refine Le.jo (fun _=> ?_) _|refine Le.jq (fun _ _=> ?_) _ _|refine Le.sum (fun _=> ?_) (fun _=> ?_)|exact Le.rfl' _|intro _)
def mT (fuel:Nat) (a1:List al) (w:Int×(List UInt8)) (cb:(List MV)×Int):Option (((List MV)×Int)⊕(List MV)):=
 if cb.2<(a1.length:Int) then
 ix a1 cb.2 fun y2=>
 bd (
  if y2.Has then
  some (decide (w.1<y2.View))
  else
  some false:Option Bool) fun w3=>
 bd (
  if w3 then
  some (lC (gz cb.1 ([.s y2.Value]:List MV) (.i .i64 0)) (bE cb.1 ([.s y2.Value]:List MV)) (.i .i64 (IntKind.wrap .i64 ((hU cb.1 ([.s y2.Value]:List MV))+1))))
  else
  some cb.1:Option (List MV)) fun w4=>
 some (.inl (w4,IntKind.wrap .i64 (cb.2+1)))
 else
 some (.inr cb.1)
theorem yl (fuel:Nat) (a1:List al) (w:Int×(List UInt8)) (cb:(List MV)×Int):Le (mT fuel a1 w cb) (eK a1 w cb):=by
 unfold mT eK
 repeat' (first|with_reducible exact Le.rfl' _|refine Le.bd ?_ fun _=> ?_|refine Le.ite ?_ ?_|refine Le.ix fun _=> ?_|refine Le.loop fun _=> ?_|refine Le.jo (fun _=> ?_) _|refine Le.jq (fun _ _=> ?_) _ _|refine Le.sum (fun _=> ?_) (fun _=> ?_)|exact Le.rfl' _|intro _)
def mU (fuel:Nat) (a:ai) (Ia:MV):Option (Unit⊕(Unit⊕((List UInt8)×Bool))):=
 D8 Ia fun key n=>
 bd ((uh fuel) a) fun bI=>
 if bI≤n then
 some (.inr (.inr (key,true)))
 else
 some (.inl ())
theorem ym (fuel:Nat) (a:ai) (Ia:MV):Le (mU fuel a Ia) (eL a Ia):=by
 unfold mU eL
 repeat' (first|with_reducible exact Le.rfl' _|with_reducible apply GC|refine Le.bd ?_ fun _=> ?_|refine Le.ite ?_ ?_|refine Le.ix fun _=> ?_|refine Le.loop fun _=> ?_|refine Le.jo (fun _=> ?_) _|refine Le.jq (fun _ _=> ?_) _ _|refine Le.sum (fun _=> ?_) (fun _=> ?_)|exact Le.rfl' _|intro _)
def qk (fuel:Nat) (a:ai) (a1:List al):Option ((List UInt8)×Bool):=
 bd (Da fuel ((mS fuel) a1) ((-1),([]:List UInt8),0)) fun w=>
 bd (Da fuel ((mT fuel) a1 w) (([]:List MV),0)) fun w2=>
 bd (lk ((mU fuel) a) (
  some (.inl ())) w2) fun w5=>
 match w5 with
 | .inl p5=>
  some (w.2,decide (((-1):Int)<w.1))
 | .inr p6=>
  some (p6.1,p6.2)
theorem B1 (fuel:Nat) (a:ai) (a1:List al):Le (qk fuel a a1) (fe a a1):=by
 unfold qk fe
 repeat' (first|with_reducible exact Le.rfl' _|with_reducible apply yk|with_reducible apply yl|with_reducible apply ym|refine Le.bd ?_ fun _=> ?_|refine Le.ite ?_ ?_|refine Le.ix fun _=> ?_|refine Le.loop fun _=> ?_|refine Le.jo (fun _=> ?_) _|refine Le.jq (fun _ _=> ?_) _ _|refine Le.sum (fun _=> ?_) (fun _=> ?_)|exact Le.rfl' _|intro _)
def mV (fuel:Nat) (sA:ai) (view:Int) (lA:List al) (value:List UInt8):Option Bool:=
 bd ((qj fuel) sA view lA) fun rA=>
 if !rA then
 some false
 else
 bd ((qk fuel) sA lA) fun bI=>
 bd (
  if !bI.2 then
  some true
  else
  some (decide (bI.1=value)):Option Bool) fun w=>
 some w
theorem yn (fuel:Nat) (sA:ai) (view:Int) (lA:List al) (value:List UInt8):Le (mV fuel sA view lA value) (dP sA view lA value):=by
 unfold mV dP
 repeat' (first|with_reducible exact Le.rfl' _|with_reducible apply B0|with_reducible apply B1|refine Le.bd ?_ fun _=> ?_|refine Le.ite ?_ ?_|refine Le.ix fun _=> ?_|refine Le.loop fun _=> ?_|refine Le.jo (fun _=> ?_) _|refine Le.jq (fun _ _=> ?_) _ _|refine Le.sum (fun _=> ?_) (fun _=> ?_)|exact Le.rfl' _|intro _)
def hM (fuel:Nat) (a:ae) (view:Int) (value:List UInt8) (eP:List al):Option (ae×aa×Bool):=
 bd (
  if !decide (view=a.View) then
  some true
  else
  if a.Has then
  if a.At=view then
  some true
  else
  some (decide ((6000:Int)<(value.length:Int)))
  else
  some (decide ((6000:Int)<(value.length:Int))):Option Bool) fun w=>
 if w then
 some (a,(⟨0,0,([]:List UInt8)⟩:aa),false)
 else
 bd (
  if view=0 then
  some (decide ((eP.length:Int)=0))
  else
  some false:Option Bool) fun w1=>
 bd (
  if w1 then
  some (.inr (0,0,0,0,false,0,([]:List UInt8),([]:List aa),([]:List aa),0,0,([]:List UInt8)))
  else
  bd ((mV fuel) a.S view eP value) fun rA=>
  if !rA then
  some (.inl (a.S.F,a.S.T,a.Me,a.View,a.Has,a.At,a.Value,a.Proof,a.ba.L,0,0,([]:List UInt8),false))
  else
  some (.inr (0,0,0,0,false,0,([]:List UInt8),([]:List aa),([]:List aa),0,0,([]:List UInt8))):Option ((Int×Int×Int×Int×Bool×Int×(List UInt8)×(List aa)×(List aa)×Int×Int×(List UInt8)×Bool)⊕(Int×Int×Int×Int×Bool×Int×(List UInt8)×(List aa)×(List aa)×Int×Int×(List UInt8)))) fun w2=>
 match w2 with
 | .inl p1=>
  some ((⟨(⟨p1.1,p1.2.1⟩:ai),p1.2.2.1,p1.2.2.2.1,p1.2.2.2.2.1,p1.2.2.2.2.2.1,p1.2.2.2.2.2.2.1,p1.2.2.2.2.2.2.2.1,(⟨p1.2.2.2.2.2.2.2.2.1⟩:au)⟩:ae),(⟨p1.2.2.2.2.2.2.2.2.2.1,p1.2.2.2.2.2.2.2.2.2.2.1,p1.2.2.2.2.2.2.2.2.2.2.2.1⟩:aa),p1.2.2.2.2.2.2.2.2.2.2.2.2)
 | .inr p2=>
  some ((⟨a.S,a.Me,a.View,true,view,value,a.Proof,a.ba⟩:ae),(⟨a.Me,view,value⟩:aa),true)
theorem vM (fuel:Nat) (a:ae) (view:Int) (value:List UInt8) (eP:List al):Le (hM fuel a view value eP) (cn a view value eP):=by
 unfold hM cn
 repeat' (first|with_reducible exact Le.rfl' _|with_reducible apply yn|refine Le.bd ?_ fun _=> ?_|refine Le.ite ?_ ?_|refine Le.ix fun _=> ?_|refine Le.loop fun _=> ?_|refine Le.jo (fun _=> ?_) _|refine Le.jq (fun _ _=> ?_) _ _|refine Le.sum (fun _=> ?_) (fun _=> ?_)|exact Le.rfl' _|intro _)
def Db (fuel:Nat):Option Bool:=
 bd ((qh fuel) (⟨1,0⟩:ai) 2) fun rA=>
 bd ((hM fuel) rA.1 0 ([120]:List UInt8) ([]:List al)) fun bI=>
 bd ((hM fuel) bI.1 0 ([121]:List UInt8) ([]:List al)) fun cJ=>
 bd ((mP fuel) bI.1 3) fun dL=>
 bd (
  if rA.2=0 then
  if bI.2.2 then
  if !cJ.2.2 then
  if dL.2.2 then
  if bI.2.1.By=2 then
  if bI.2.1.Value=([120]:List UInt8) then
  if dL.1.View=3 then
  if dL.2.1.jW=3 then
  some (decide (dL.2.1.Value=([120]:List UInt8)))
  else
  some false
  else
  some false
  else
  some false
  else
  some false
  else
  some false
  else
  some false
  else
  some false
  else
  some false:Option Bool) fun w=>
 some w
theorem IF (fuel:Nat):Le (Db fuel) (je):=by
 unfold Db je
 repeat' (first|with_reducible exact Le.rfl' _|with_reducible apply BX|with_reducible apply yh|with_reducible apply vM|refine Le.bd ?_ fun _=> ?_|refine Le.ite ?_ ?_|refine Le.ix fun _=> ?_|refine Le.loop fun _=> ?_|refine Le.jo (fun _=> ?_) _|refine Le.jq (fun _ _=> ?_) _ _|refine Le.sum (fun _=> ?_) (fun _=> ?_)|exact Le.rfl' _|intro _)
theorem AQ:je=some true:=IF 200 _ (by decide+kernel)
end Dn.S
