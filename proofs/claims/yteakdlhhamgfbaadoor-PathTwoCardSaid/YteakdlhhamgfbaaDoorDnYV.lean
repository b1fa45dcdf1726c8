import Derived.Test.YteakdlhhamgfbaaDoorDnYT
import Derived.Test.YteakdlhhamgfbaaDoorDnC
/-
  The functions, with a bound on their rounds. Conditions: none.
-/
open Go Dn
set_option linter.unusedVariables false
set_option linter.unusedSimpArgs false
set_option maxRecDepth 100000
namespace Dn.S
def et (fuel:Nat) (sA:List UInt8) (aC:List UInt8):Option Bool:=
 bd (
  if (aC.length:Int)≤(sA.length:Int) then
  if (0:Int)≤0∧(0:Int)≤(aC.length:Int)∧(aC.length:Int)≤(sA.length:Int) then
  some (decide ((List.drop (Int.toNat 0) (List.take (Int.toNat (aC.length:Int)) sA))=aC))
  else none
  else
  some false:Option Bool) fun w=>
 some w
theorem mh (fuel:Nat) (sA:List UInt8) (aC:List UInt8):Le (et fuel sA aC) (bN sA aC):=by
 unfold et bN
 repeat' (first|with_reducible exact Le.rfl' _|refine Le.bd ?_ fun _=> ?_|refine Le.ite ?_ ?_|refine Le.ix fun _=> ?_|refine Le.loop fun _=> ?_|refine Le.fC (fun _=> ?_) _|refine Le.fD (fun _ _=> ?_) _ _|refine Le.sum (fun _=> ?_) (fun _=> ?_)|exact Le.rfl' _|intro _)
def eu (fuel:Nat) (sA:List UInt8) (aC:List UInt8):Option ((List UInt8)×Bool):=
 bd ((et fuel) sA aC) fun rA=>
 if !rA then
 some (sA,false)
 else
 if (0:Int)≤(aC.length:Int)∧(aC.length:Int)≤(sA.length:Int)∧(sA.length:Int)≤(sA.length:Int) then
 some (List.drop (Int.toNat (aC.length:Int)) (List.take (Int.toNat (sA.length:Int)) sA),true)
 else none
theorem mi (fuel:Nat) (sA:List UInt8) (aC:List UInt8):Le (eu fuel sA aC) (bO sA aC):=by
 unfold eu bO
 repeat' (first|with_reducible exact Le.rfl' _|with_reducible apply mh|refine Le.bd ?_ fun _=> ?_|refine Le.ite ?_ ?_|refine Le.ix fun _=> ?_|refine Le.loop fun _=> ?_|refine Le.fC (fun _=> ?_) _|refine Le.fD (fun _ _=> ?_) _ _|refine Le.sum (fun _=> ?_) (fun _=> ?_)|exact Le.rfl' _|intro _)
def gD (fuel:Nat) (sA:List UInt8) (aC:List UInt8):Option ((List UInt8)×Bool):=
 bd ((eu fuel) sA aC) fun rA=>
 some (rA.1,rA.2)
theorem oO (fuel:Nat) (sA:List UInt8) (aC:List UInt8):Le (gD fuel sA aC) (cb sA aC):=by
 unfold gD cb
 repeat' (first|with_reducible exact Le.rfl' _|with_reducible apply mi|refine Le.bd ?_ fun _=> ?_|refine Le.ite ?_ ?_|refine Le.ix fun _=> ?_|refine Le.loop fun _=> ?_|refine Le.fC (fun _=> ?_) _|refine Le.fD (fun _ _=> ?_) _ _|refine Le.sum (fun _=> ?_) (fun _=> ?_)|exact Le.rfl' _|intro _)
def kU (fuel:Nat) (c:Int):Option Bool:=
 bd (nt ([97,98,99,100,101,102,103,104,105,106,107,108,109,110,111,112,113,114,115,116,117,118,119,120,121,122,48,49,50,51,52,53,54,55,56,57,45,95]:List UInt8) c) fun rA=>
 some (!rA)
theorem tf (fuel:Nat) (c:Int):Le (kU fuel c) (b8 c):=by
 unfold kU b8
 repeat' (first|with_reducible exact Le.rfl' _|refine Le.bd ?_ fun _=> ?_|refine Le.ite ?_ ?_|refine Le.ix fun _=> ?_|refine Le.loop fun _=> ?_|refine Le.fC (fun _=> ?_) _|refine Le.fD (fun _ _=> ?_) _ _|refine Le.sum (fun _=> ?_) (fun _=> ?_)|exact Le.rfl' _|intro _)
def gE (fuel:Nat) (f:Int→Option Bool) (gY:Bool) (st:(List MV)):Option ((List MV)⊕(Unit⊕Int)):=
 if rH st then
 bd (f (lI st)) fun rA=>
 if rA=gY then
 some (.inr (.inr (iy st)))
 else
 some (.inl (mW st))
 else
 some (.inr (.inl ()))
theorem oP (fuel:Nat) (f fA:Int→Option Bool) (hf: ∀u0,Le (f u0) (fA u0)) (gY:Bool) (st:(List MV)):Le (gE fuel f gY st) (cc fA gY st):=by
 unfold gE cc
 repeat' (first|with_reducible exact Le.rfl' _|exact hf _ _ _|exact hf _ _|exact hf _|exact hf|refine Le.bd ?_ fun _=> ?_|refine Le.ite ?_ ?_|refine Le.ix fun _=> ?_|refine Le.loop fun _=> ?_|refine Le.fC (fun _=> ?_) _|refine Le.fD (fun _ _=> ?_) _ _|refine Le.sum (fun _=> ?_) (fun _=> ?_)|exact Le.rfl' _|intro _)
def jd (fuel:Nat) (sA:List UInt8) (f:Int→Option Bool) (gY:Bool):Option Int:=
 bd (pP fuel ((gE fuel) f gY) ([.s sA,.i .i64 0]:List MV)) fun w=>
 match w with
 | .inl p1=>
  some (-1)
 | .inr p2=>
  some p2
theorem qq (fuel:Nat) (sA:List UInt8) (f fA:Int→Option Bool) (hf: ∀u0,Le (f u0) (fA u0)) (gY:Bool):Le (jd fuel sA f gY) (db sA fA gY):=by
 unfold jd db
 repeat' (first|with_reducible exact Le.rfl' _|with_reducible apply oP|exact hf _ _ _|exact hf _ _|exact hf _|exact hf|refine Le.bd ?_ fun _=> ?_|refine Le.ite ?_ ?_|refine Le.ix fun _=> ?_|refine Le.loop fun _=> ?_|refine Le.fC (fun _=> ?_) _|refine Le.fD (fun _ _=> ?_) _ _|refine Le.sum (fun _=> ?_) (fun _=> ?_)|exact Le.rfl' _|intro _)
def gG (fuel:Nat) (sA:List UInt8) (f:Int→Option Bool):Option Int:=
 bd ((jd fuel) sA f true) fun rA=>
 some rA
theorem oQ (fuel:Nat) (sA:List UInt8) (f fA:Int→Option Bool) (hf: ∀u0,Le (f u0) (fA u0)):Le (gG fuel sA f) (cG sA fA):=by
 unfold gG cG
 repeat' (first|with_reducible exact Le.rfl' _|with_reducible apply qq|exact hf _ _ _|exact hf _ _|exact hf _|exact hf|refine Le.bd ?_ fun _=> ?_|refine Le.ite ?_ ?_|refine Le.ix fun _=> ?_|refine Le.loop fun _=> ?_|refine Le.fC (fun _=> ?_) _|refine Le.fD (fun _ _=> ?_) _ _|refine Le.sum (fun _=> ?_) (fun _=> ?_)|exact Le.rfl' _|intro _)
def eT (fuel:Nat) (sA:List UInt8) (f:Int→Option Bool):Option Bool:=
 bd ((gG fuel) sA f) fun rA=>
 some (decide ((0:Int)≤rA))
theorem mM (fuel:Nat) (sA:List UInt8) (f fA:Int→Option Bool) (hf: ∀u0,Le (f u0) (fA u0)):Le (eT fuel sA f) (bF sA fA):=by
 unfold eT bF
 repeat' (first|with_reducible exact Le.rfl' _|with_reducible apply oQ|exact hf _ _ _|exact hf _ _|exact hf _|exact hf|refine Le.bd ?_ fun _=> ?_|refine Le.ite ?_ ?_|refine Le.ix fun _=> ?_|refine Le.loop fun _=> ?_|refine Le.fC (fun _=> ?_) _|refine Le.fD (fun _ _=> ?_) _ _|refine Le.sum (fun _=> ?_) (fun _=> ?_)|exact Le.rfl' _|intro _)
def ny (fuel:Nat) (sA:List UInt8):Option Bool:=
 bd (
  if !decide (sA=([]:List UInt8)) then
  if (sA.length:Int)≤30 then
  bd (sT sA ([97,98,99,100,101,102,103,104,105,106,107,108,109,110,111,112,113,114,115,116,117,118,119,120,121,122,48,49,50,51,52,53,54,55,56,57,45,95]:List UInt8)) fun rA=>
  if rA=([]:List UInt8) then
  bd ((eT fuel) sA (kU fuel)) fun bR=>
  some (!bR)
  else
  some false
  else
  some false
  else
  some false:Option Bool) fun w=>
 some w
theorem vZ (fuel:Nat) (sA:List UInt8):Le (ny fuel sA) (dN sA):=by
 unfold ny dN
 repeat' (first|with_reducible exact Le.rfl' _|with_reducible apply tf|with_reducible apply mM|refine Le.bd ?_ fun _=> ?_|refine Le.ite ?_ ?_|refine Le.ix fun _=> ?_|refine Le.loop fun _=> ?_|refine Le.fC (fun _=> ?_) _|refine Le.fD (fun _ _=> ?_) _ _|refine Le.sum (fun _=> ?_) (fun _=> ?_)|exact Le.rfl' _|intro _)
def mj (fuel:Nat) (sA:List UInt8):Option Bool:=
 bd ((ny fuel) sA) fun rA=>
 some (!rA)
theorem tV (fuel:Nat) (sA:List UInt8):Le (mj fuel sA) (dh sA):=by
 unfold mj dh
 repeat' (first|with_reducible exact Le.rfl' _|with_reducible apply vZ|refine Le.bd ?_ fun _=> ?_|refine Le.ite ?_ ?_|refine Le.ix fun _=> ?_|refine Le.loop fun _=> ?_|refine Le.fC (fun _=> ?_) _|refine Le.fD (fun _ _=> ?_) _ _|refine Le.sum (fun _=> ?_) (fun _=> ?_)|exact Le.rfl' _|intro _)
def dy (fuel:Nat) (sA:List (List UInt8)) (f:(List UInt8)→Option Bool) (st:Int):Option (Int⊕(Unit⊕Int)):=
 if st<(sA.length:Int) then
 ix sA st fun y=>
 bd (f y) fun rA=>
 if rA then
 some (.inr (.inr st))
 else
 some (.inl (IntKind.wrap .i64 (st+1)))
 else
 some (.inr (.inl ()))
theorem ke (fuel:Nat) (sA:List (List UInt8)) (f fA:(List UInt8)→Option Bool) (hf: ∀u0,Le (f u0) (fA u0)) (st:Int):Le (dy fuel sA f st) (bg sA fA st):=by
 unfold dy bg
 repeat' (first|with_reducible exact Le.rfl' _|exact hf _ _ _|exact hf _ _|exact hf _|exact hf|refine Le.bd ?_ fun _=> ?_|refine Le.ite ?_ ?_|refine Le.ix fun _=> ?_|refine Le.loop fun _=> ?_|refine Le.fC (fun _=> ?_) _|refine Le.fD (fun _ _=> ?_) _ _|refine Le.sum (fun _=> ?_) (fun _=> ?_)|exact Le.rfl' _|intro _)
def dU (fuel:Nat) (sA:List (List UInt8)) (f:(List UInt8)→Option Bool):Option Int:=
 bd (pP fuel ((dy fuel) sA f) 0) fun w=>
 match w with
 | .inl p1=>
  some (-1)
 | .inr p2=>
  some p2
theorem lF (fuel:Nat) (sA:List (List UInt8)) (f fA:(List UInt8)→Option Bool) (hf: ∀u0,Le (f u0) (fA u0)):Le (dU fuel sA f) (bI sA fA):=by
 unfold dU bI
 repeat' (first|with_reducible exact Le.rfl' _|with_reducible apply ke|exact hf _ _ _|exact hf _ _|exact hf _|exact hf|refine Le.bd ?_ fun _=> ?_|refine Le.ite ?_ ?_|refine Le.ix fun _=> ?_|refine Le.loop fun _=> ?_|refine Le.fC (fun _=> ?_) _|refine Le.fD (fun _ _=> ?_) _ _|refine Le.sum (fun _=> ?_) (fun _=> ?_)|exact Le.rfl' _|intro _)
def da (fuel:Nat) (sA:List (List UInt8)) (f:(List UInt8)→Option Bool):Option Bool:=
 bd ((dU fuel) sA f) fun rA=>
 some (decide ((0:Int)≤rA))
theorem jV (fuel:Nat) (sA:List (List UInt8)) (f fA:(List UInt8)→Option Bool) (hf: ∀u0,Le (f u0) (fA u0)):Le (da fuel sA f) (aZ sA fA):=by
 unfold da aZ
 repeat' (first|with_reducible exact Le.rfl' _|with_reducible apply lF|exact hf _ _ _|exact hf _ _|exact hf _|exact hf|refine Le.bd ?_ fun _=> ?_|refine Le.ite ?_ ?_|refine Le.ix fun _=> ?_|refine Le.loop fun _=> ?_|refine Le.fC (fun _=> ?_) _|refine Le.fD (fun _ _=> ?_) _ _|refine Le.sum (fun _=> ?_) (fun _=> ?_)|exact Le.rfl' _|intro _)
def jW (fuel:Nat) (p:List UInt8):Option ((List (List UInt8))×Bool):=
 bd ((gD fuel) p ([47]:List UInt8)) fun rA=>
 bd (
  if !rA.2 then
  some true
  else
  some (decide ((100:Int)<(p.length:Int))):Option Bool) fun w=>
 if w then
 some (([]:List (List UInt8)),false)
 else
 if rA.1=([]:List UInt8) then
 some (([]:List (List UInt8)),true)
 else
 bd (sU rA.1 ([47]:List UInt8)) fun bR=>
 bd (
  if (bR.length:Int)≤8 then
  bd ((da fuel) bR (mj fuel)) fun kP=>
  some (bR,!kP,bR)
  else
  some (bR,false,bR):Option ((List (List UInt8))×Bool×(List (List UInt8)))) fun w1=>
 some (w1.2.2,w1.2.1)
theorem qZ (fuel:Nat) (p:List UInt8):Le (jW fuel p) (cH p):=by
 unfold jW cH
 repeat' (first|with_reducible exact Le.rfl' _|with_reducible apply oO|with_reducible apply tV|with_reducible apply jV|refine Le.bd ?_ fun _=> ?_|refine Le.ite ?_ ?_|refine Le.ix fun _=> ?_|refine Le.loop fun _=> ?_|refine Le.fC (fun _=> ?_) _|refine Le.fD (fun _ _=> ?_) _ _|refine Le.sum (fun _=> ?_) (fun _=> ?_)|exact Le.rfl' _|intro _)
def jX (fuel:Nat) (p:List UInt8):Option Bool:=
 bd ((jW fuel) p) fun rA=>
 some rA.2
theorem q0 (fuel:Nat) (p:List UInt8):Le (jX fuel p) (cT p):=by
 unfold jX cT
 repeat' (first|with_reducible exact Le.rfl' _|with_reducible apply qZ|refine Le.bd ?_ fun _=> ?_|refine Le.ite ?_ ?_|refine Le.ix fun _=> ?_|refine Le.loop fun _=> ?_|refine Le.fC (fun _=> ?_) _|refine Le.fD (fun _ _=> ?_) _ _|refine Le.sum (fun _=> ?_) (fun _=> ?_)|exact Le.rfl' _|intro _)
def cD (fuel:Nat) (sA:List UInt8) (c:Int) (st:Int):Option (Int⊕(Unit⊕Int)):=
 if (0:Int)≤st then
 if (0:Int)≤st∧st<(sA.length:Int) then
 if ((sA.getD (Int.toNat st) 0).toNat:Int)=c then
 some (.inr (.inr st))
 else
 some (.inl (IntKind.wrap .i64 (st-1)))
 else none
 else
 some (.inr (.inl ()))
theorem im (fuel:Nat) (sA:List UInt8) (c:Int) (st:Int):Le (cD fuel sA c st) (bM sA c st):=by
 unfold cD bM
 repeat' (first|with_reducible exact Le.rfl' _|refine Le.bd ?_ fun _=> ?_|refine Le.ite ?_ ?_|refine Le.ix fun _=> ?_|refine Le.loop fun _=> ?_|refine Le.fC (fun _=> ?_) _|refine Le.fD (fun _ _=> ?_) _ _|refine Le.sum (fun _=> ?_) (fun _=> ?_)|exact Le.rfl' _|intro _)
def cP (fuel:Nat) (sA:List UInt8) (c:Int):Option Int:=
 bd (pP fuel ((cD fuel) sA c) (IntKind.wrap .i64 ((sA.length:Int)-1))) fun w=>
 match w with
 | .inl p1=>
  some (-1)
 | .inr p2=>
  some p2
theorem je (fuel:Nat) (sA:List UInt8) (c:Int):Le (cP fuel sA c) (bA sA c):=by
 unfold cP bA
 repeat' (first|with_reducible exact Le.rfl' _|with_reducible apply im|refine Le.bd ?_ fun _=> ?_|refine Le.ite ?_ ?_|refine Le.ix fun _=> ?_|refine Le.loop fun _=> ?_|refine Le.fC (fun _=> ?_) _|refine Le.fD (fun _ _=> ?_) _ _|refine Le.sum (fun _=> ?_) (fun _=> ?_)|exact Le.rfl' _|intro _)
def cX (fuel:Nat) (sep:List UInt8) (st:Int×Int):Option ((Int×Int)⊕Int):=
 if (0:Int)≤st.2 then
 if (0:Int)≤st.2∧st.2<(sep.length:Int) then
 some (.inl (IntKind.wrap .u32 ((IntKind.wrap .u32 (st.1 *16777619))+(IntKind.wrap .u32 ((sep.getD (Int.toNat st.2) 0).toNat:Int))),IntKind.wrap .i64 (st.2-1)))
 else none
 else
 some (.inr st.1)
theorem jr (fuel:Nat) (sep:List UInt8) (st:Int×Int):Le (cX fuel sep st) (cf sep st):=by
 unfold cX cf
 repeat' (first|with_reducible exact Le.rfl' _|refine Le.bd ?_ fun _=> ?_|refine Le.ite ?_ ?_|refine Le.ix fun _=> ?_|refine Le.loop fun _=> ?_|refine Le.fC (fun _=> ?_) _|refine Le.fD (fun _ _=> ?_) _ _|refine Le.sum (fun _=> ?_) (fun _=> ?_)|exact Le.rfl' _|intro _)
def cY (fuel:Nat) (bw:Int×Int×Int):Option ((Int×Int×Int)⊕Int):=
 if (0:Int)<bw.2.2 then
 bd (
  if !decide ((BI .i64 bw.2.2 1)=0) then
  some (IntKind.wrap .u32 (bw.1 *bw.2.1))
  else
  some bw.1:Option Int) fun w2=>
 if (0:Int)≤1 then
 some (.inl (w2,IntKind.wrap .u32 (bw.2.1 *bw.2.1),Int.fdiv bw.2.2 (2^min (Int.toNat 1) (IntKind.bits .i64))))
 else none
 else
 some (.inr bw.1)
theorem jt (fuel:Nat) (bw:Int×Int×Int):Le (cY fuel bw) (cg bw):=by
 unfold cY cg
 repeat' (first|with_reducible exact Le.rfl' _|refine Le.bd ?_ fun _=> ?_|refine Le.ite ?_ ?_|refine Le.ix fun _=> ?_|refine Le.loop fun _=> ?_|refine Le.fC (fun _=> ?_) _|refine Le.fD (fun _ _=> ?_) _ _|refine Le.sum (fun _=> ?_) (fun _=> ?_)|exact Le.rfl' _|intro _)
def dz (fuel:Nat) (sep:List UInt8):Option (Int×Int):=
 bd (pP fuel ((cX fuel) sep) (0,IntKind.wrap .i64 ((sep.length:Int)-1))) fun w=>
 bd (pP fuel (cY fuel) (1,16777619,(sep.length:Int))) fun w1=>
 some (w,w1)
theorem kf (fuel:Nat) (sep:List UInt8):Le (dz fuel sep) (bP sep):=by
 unfold dz bP
 repeat' (first|with_reducible exact Le.rfl' _|with_reducible apply jr|with_reducible apply jt|refine Le.bd ?_ fun _=> ?_|refine Le.ite ?_ ?_|refine Le.ix fun _=> ?_|refine Le.loop fun _=> ?_|refine Le.fC (fun _=> ?_) _|refine Le.fD (fun _ _=> ?_) _ _|refine Le.sum (fun _=> ?_) (fun _=> ?_)|exact Le.rfl' _|intro _)
def bS (fuel:Nat) (a:List UInt8) (a1:List UInt8) (st:Int×Int):Option ((Int×Int)⊕Int):=
 if (IntKind.wrap .i64 ((a.length:Int)-(a1.length:Int)))≤st.2 then
 if (0:Int)≤st.2∧st.2<(a.length:Int) then
 some (.inl (IntKind.wrap .u32 ((IntKind.wrap .u32 (st.1 *16777619))+(IntKind.wrap .u32 ((a.getD (Int.toNat st.2) 0).toNat:Int))),IntKind.wrap .i64 (st.2-1)))
 else none
 else
 some (.inr st.1)
theorem fE (fuel:Nat) (a:List UInt8) (a1:List UInt8) (st:Int×Int):Le (bS fuel a a1 st) (bq a a1 st):=by
 unfold bS bq
 repeat' (first|with_reducible exact Le.rfl' _|refine Le.bd ?_ fun _=> ?_|refine Le.ite ?_ ?_|refine Le.ix fun _=> ?_|refine Le.loop fun _=> ?_|refine Le.fC (fun _=> ?_) _|refine Le.fD (fun _ _=> ?_) _ _|refine Le.sum (fun _=> ?_) (fun _=> ?_)|exact Le.rfl' _|intro _)
def bT (fuel:Nat) (a:List UInt8) (a1:List UInt8) (rA:Int×Int) (bw:Int×Int):Option ((Int×Int)⊕(Unit⊕Int)):=
 if (0:Int)≤bw.2 then
 if (0:Int)≤bw.2∧bw.2<(a.length:Int) then
 if (0:Int)≤(IntKind.wrap .i64 (bw.2+(a1.length:Int)))∧(IntKind.wrap .i64 (bw.2+(a1.length:Int)))<(a.length:Int) then
 bd (
  if (IntKind.wrap .u32 ((IntKind.wrap .u32 ((IntKind.wrap .u32 (bw.1 *16777619))+(IntKind.wrap .u32 ((a.getD (Int.toNat bw.2) 0).toNat:Int))))-(IntKind.wrap .u32 (rA.2 *(IntKind.wrap .u32 ((a.getD (Int.toNat (IntKind.wrap .i64 (bw.2+(a1.length:Int)))) 0).toNat:Int))))))=rA.1 then
  if (0:Int)≤bw.2∧bw.2≤(IntKind.wrap .i64 (bw.2+(a1.length:Int)))∧(IntKind.wrap .i64 (bw.2+(a1.length:Int)))≤(a.length:Int) then
  some (decide ((List.drop (Int.toNat bw.2) (List.take (Int.toNat (IntKind.wrap .i64 (bw.2+(a1.length:Int)))) a))=a1))
  else none
  else
  some false:Option Bool) fun w3=>
 if w3 then
 some (.inr (.inr bw.2))
 else
 some (.inl (IntKind.wrap .u32 ((IntKind.wrap .u32 ((IntKind.wrap .u32 (bw.1 *16777619))+(IntKind.wrap .u32 ((a.getD (Int.toNat bw.2) 0).toNat:Int))))-(IntKind.wrap .u32 (rA.2 *(IntKind.wrap .u32 ((a.getD (Int.toNat (IntKind.wrap .i64 (bw.2+(a1.length:Int)))) 0).toNat:Int))))),IntKind.wrap .i64 (bw.2-1)))
 else none
 else none
 else
 some (.inr (.inl ()))
theorem fF (fuel:Nat) (a:List UInt8) (a1:List UInt8) (rA:Int×Int) (bw:Int×Int):Le (bT fuel a a1 rA bw) (br a a1 rA bw):=by
 unfold bT br
 repeat' (first|with_reducible exact Le.rfl' _|refine Le.bd ?_ fun _=> ?_|refine Le.ite ?_ ?_|refine Le.ix fun _=> ?_|refine Le.loop fun _=> ?_|refine Le.fC (fun _=> ?_) _|refine Le.fD (fun _ _=> ?_) _ _|refine Le.sum (fun _=> ?_) (fun _=> ?_)|exact Le.rfl' _|intro _)
def cj (fuel:Nat) (a:List UInt8) (a1:List UInt8):Option Int:=
 bd ((dz fuel) a1) fun rA=>
 bd (pP fuel ((bS fuel) a a1) (0,IntKind.wrap .i64 ((a.length:Int)-1))) fun w=>
 bd (
  if w=rA.1 then
  if (0:Int)≤(IntKind.wrap .i64 ((a.length:Int)-(a1.length:Int)))∧(IntKind.wrap .i64 ((a.length:Int)-(a1.length:Int)))≤(a.length:Int)∧(a.length:Int)≤(a.length:Int) then
  some (decide ((List.drop (Int.toNat (IntKind.wrap .i64 ((a.length:Int)-(a1.length:Int)))) (List.take (Int.toNat (a.length:Int)) a))=a1))
  else none
  else
  some false:Option Bool) fun w1=>
 if w1 then
 some (IntKind.wrap .i64 ((a.length:Int)-(a1.length:Int)))
 else
 bd (pP fuel ((bT fuel) a a1 rA) (w,IntKind.wrap .i64 ((IntKind.wrap .i64 ((a.length:Int)-(a1.length:Int)))-1))) fun w2=>
 match w2 with
 | .inl p2=>
  some (-1)
 | .inr p3=>
  some p3
theorem fW (fuel:Nat) (a:List UInt8) (a1:List UInt8):Le (cj fuel a a1) (a8 a a1):=by
 unfold cj a8
 repeat' (first|with_reducible exact Le.rfl' _|with_reducible apply kf|with_reducible apply fE|with_reducible apply fF|refine Le.bd ?_ fun _=> ?_|refine Le.ite ?_ ?_|refine Le.ix fun _=> ?_|refine Le.loop fun _=> ?_|refine Le.fC (fun _=> ?_) _|refine Le.fD (fun _ _=> ?_) _ _|refine Le.sum (fun _=> ?_) (fun _=> ?_)|exact Le.rfl' _|intro _)
def gJ (fuel:Nat) (sA:List UInt8) (substr:List UInt8):Option Int:=
 if (substr.length:Int)=0 then
 some (sA.length:Int)
 else
 if (substr.length:Int)=1 then
 if (0:Int)≤0∧(0:Int)<(substr.length:Int) then
 bd ((cP fuel) sA ((substr.getD (Int.toNat 0) 0).toNat:Int)) fun rA=>
 some rA
 else none
 else
 if (substr.length:Int)=(sA.length:Int) then
 if substr=sA then
 some 0
 else
 some (-1)
 else
 if (sA.length:Int)<(substr.length:Int) then
 some (-1)
 else
 bd ((cj fuel) sA substr) fun bR=>
 some bR
theorem oR (fuel:Nat) (sA:List UInt8) (substr:List UInt8):Le (gJ fuel sA substr) (di sA substr):=by
 unfold gJ di
 repeat' (first|with_reducible exact Le.rfl' _|with_reducible apply je|with_reducible apply fW|refine Le.bd ?_ fun _=> ?_|refine Le.ite ?_ ?_|refine Le.ix fun _=> ?_|refine Le.loop fun _=> ?_|refine Le.fC (fun _=> ?_) _|refine Le.fD (fun _ _=> ?_) _ _|refine Le.sum (fun _=> ?_) (fun _=> ?_)|exact Le.rfl' _|intro _)
def kF (fuel:Nat) (p:List UInt8):Option ((List UInt8)×Int):=
 bd ((jX fuel) p) fun rA=>
 if !rA then
 some (([]:List UInt8),13)
 else
 if p=([47]:List UInt8) then
 some (([]:List UInt8),6)
 else
 bd ((gJ fuel) p ([47]:List UInt8)) fun bR=>
 if (0:Int)≤0∧(0:Int)≤(imax 1 bR)∧(imax 1 bR)≤(p.length:Int) then
 some (List.drop (Int.toNat 0) (List.take (Int.toNat (imax 1 bR)) p),0)
 else none
theorem v7 (fuel:Nat) (p:List UInt8):Le (kF fuel p) (fQ p):=by
 unfold kF fQ
 repeat' (first|with_reducible exact Le.rfl' _|with_reducible apply q0|with_reducible apply oR|refine Le.bd ?_ fun _=> ?_|refine Le.ite ?_ ?_|refine Le.ix fun _=> ?_|refine Le.loop fun _=> ?_|refine Le.fC (fun _=> ?_) _|refine Le.fD (fun _ _=> ?_) _ _|refine Le.sum (fun _=> ?_) (fun _=> ?_)|exact Le.rfl' _|intro _)
def fJ (fuel:Nat) (x:List UInt8):Option Bool:=
 some (!decide (x=x))
theorem qt (fuel:Nat) (x:List UInt8):Le (fJ fuel x) (cI x):=by
 unfold fJ cI
 repeat' (first|with_reducible exact Le.rfl' _|refine Le.bd ?_ fun _=> ?_|refine Le.ite ?_ ?_|refine Le.ix fun _=> ?_|refine Le.loop fun _=> ?_|refine Le.fC (fun _=> ?_) _|refine Le.fD (fun _ _=> ?_) _ _|refine Le.sum (fun _=> ?_) (fun _=> ?_)|exact Le.rfl' _|intro _)
def gK (fuel:Nat) (x:List UInt8) (y:List UInt8):Option Int:=
 bd ((fJ fuel) x) fun rA=>
 bd ((fJ fuel) y) fun bR=>
 if rA then
 if bR then
 some 0
 else
 some (-1)
 else
 if bR then
 some 1
 else
 if Op.bytesLess x y then
 some (-1)
 else
 if !(Op.bytesLess x y||decide (x=y)) then
 some 1
 else
 some 0
theorem oS (fuel:Nat) (x:List UInt8) (y:List UInt8):Le (gK fuel x y) (ch x y):=by
 unfold gK ch
 repeat' (first|with_reducible exact Le.rfl' _|with_reducible apply qt|refine Le.bd ?_ fun _=> ?_|refine Le.ite ?_ ?_|refine Le.ix fun _=> ?_|refine Le.loop fun _=> ?_|refine Le.fC (fun _=> ?_) _|refine Le.fD (fun _ _=> ?_) _ _|refine Le.sum (fun _=> ?_) (fun _=> ?_)|exact Le.rfl' _|intro _)
def dV (fuel:Nat) (s1:List (List UInt8)) (s2:List (List UInt8)) (st:Int):Option (Int⊕(Unit⊕Int)):=
 if st<(s1.length:Int) then
 ix s1 st fun y=>
 if (s2.length:Int)≤st then
 some (.inr (.inr 1))
 else
 ix s2 st fun y1=>
 bd ((gK fuel) y y1) fun rA=>
 if !decide (rA=0) then
 some (.inr (.inr rA))
 else
 some (.inl (IntKind.wrap .i64 (st+1)))
 else
 some (.inr (.inl ()))
theorem lG (fuel:Nat) (s1:List (List UInt8)) (s2:List (List UInt8)) (st:Int):Le (dV fuel s1 s2 st) (bt s1 s2 st):=by
 unfold dV bt
 repeat' (first|with_reducible exact Le.rfl' _|with_reducible apply oS|refine Le.bd ?_ fun _=> ?_|refine Le.ite ?_ ?_|refine Le.ix fun _=> ?_|refine Le.loop fun _=> ?_|refine Le.fC (fun _=> ?_) _|refine Le.fD (fun _ _=> ?_) _ _|refine Le.sum (fun _=> ?_) (fun _=> ?_)|exact Le.rfl' _|intro _)
def eU (fuel:Nat) (s1:List (List UInt8)) (s2:List (List UInt8)):Option Int:=
 bd (pP fuel ((dV fuel) s1 s2) 0) fun w=>
 match w with
 | .inl p1=>
  if (s1.length:Int)<(s2.length:Int) then
  some (-1)
  else
  some 0
 | .inr p2=>
  some p2
theorem mN (fuel:Nat) (s1:List (List UInt8)) (s2:List (List UInt8)):Le (eU fuel s1 s2) (bG s1 s2):=by
 unfold eU bG
 repeat' (first|with_reducible exact Le.rfl' _|with_reducible apply lG|refine Le.bd ?_ fun _=> ?_|refine Le.ite ?_ ?_|refine Le.ix fun _=> ?_|refine Le.loop fun _=> ?_|refine Le.fC (fun _=> ?_) _|refine Le.fD (fun _ _=> ?_) _ _|refine Le.sum (fun _=> ?_) (fun _=> ?_)|exact Le.rfl' _|intro _)
def oT (fuel:Nat) (p:List UInt8) (q:List UInt8):Option Bool:=
 bd ((jW fuel) p) fun rA=>
 bd ((jW fuel) q) fun bR=>
 bd (
  if rA.2 then
  if bR.2 then
  bd ((eU fuel) rA.1 bR.1) fun kP=>
  some (decide (kP<0))
  else
  some false
  else
  some false:Option Bool) fun w=>
 some w
theorem xK (fuel:Nat) (p:List UInt8) (q:List UInt8):Le (oT fuel p q) (eP p q):=by
 unfold oT eP
 repeat' (first|with_reducible exact Le.rfl' _|with_reducible apply qZ|with_reducible apply mN|refine Le.bd ?_ fun _=> ?_|refine Le.ite ?_ ?_|refine Le.ix fun _=> ?_|refine Le.loop fun _=> ?_|refine Le.fC (fun _=> ?_) _|refine Le.fD (fun _ _=> ?_) _ _|refine Le.sum (fun _=> ?_) (fun _=> ?_)|exact Le.rfl' _|intro _)
def uY (fuel:Nat):Option Bool:=
 bd ((kF fuel) ([47,97,47,98]:List UInt8)) fun rA=>
 bd ((kF fuel) ([47]:List UInt8)) fun bR=>
 bd (
  if rA.1=([47,97]:List UInt8) then
  if rA.2=0 then
  if bR.2=6 then
  bd ((jX fuel) ([47]:List UInt8)) fun kP=>
  if kP then
  bd ((jX fuel) ([97]:List UInt8)) fun tM=>
  if !tM then
  bd ((oT fuel) ([47,97,47,98]:List UInt8) ([47,97,45,98]:List UInt8)) fun DX=>
  some DX
  else
  some false
  else
  some false
  else
  some false
  else
  some false
  else
  some false:Option Bool) fun w=>
 some w
theorem zd (fuel:Nat):Le (uY fuel) (ik):=by
 unfold uY ik
 repeat' (first|with_reducible exact Le.rfl' _|with_reducible apply q0|with_reducible apply v7|with_reducible apply xK|refine Le.bd ?_ fun _=> ?_|refine Le.ite ?_ ?_|refine Le.ix fun _=> ?_|refine Le.loop fun _=> ?_|refine Le.fC (fun _=> ?_) _|refine Le.fD (fun _ _=> ?_) _ _|refine Le.sum (fun _=> ?_) (fun _=> ?_)|exact Le.rfl' _|intro _)
theorem oU:ik=some true:=zd 200 _ (by decide+kernel)
end Dn.S
