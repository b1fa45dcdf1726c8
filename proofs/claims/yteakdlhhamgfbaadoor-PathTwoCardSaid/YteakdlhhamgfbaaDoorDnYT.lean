import Derived.Test.YteakdlhhamgfbaaDoorDnC
/-
  The functions, on typed values. Conditions: none.
-/
open Go Dn
set_option linter.unusedVariables false
set_option linter.unusedSimpArgs false
set_option maxRecDepth 100000
namespace Dn.S
noncomputable def bN (sA:List UInt8) (aC:List UInt8):Option Bool:=
 bd (
  if (aC.length:Int)≤(sA.length:Int) then
  if (0:Int)≤0∧(0:Int)≤(aC.length:Int)∧(aC.length:Int)≤(sA.length:Int) then
  some (decide ((List.drop (Int.toNat 0) (List.take (Int.toNat (aC.length:Int)) sA))=aC))
  else none
  else
  some false:Option Bool) fun w=>
 some w
noncomputable def bO (sA:List UInt8) (aC:List UInt8):Option ((List UInt8)×Bool):=
 bd (bN sA aC) fun rA=>
 if !rA then
 some (sA,false)
 else
 if (0:Int)≤(aC.length:Int)∧(aC.length:Int)≤(sA.length:Int)∧(sA.length:Int)≤(sA.length:Int) then
 some (List.drop (Int.toNat (aC.length:Int)) (List.take (Int.toNat (sA.length:Int)) sA),true)
 else none
noncomputable def cb (sA:List UInt8) (aC:List UInt8):Option ((List UInt8)×Bool):=
 bd (bO sA aC) fun rA=>
 some (rA.1,rA.2)
noncomputable def b8 (c:Int):Option Bool:=
 bd (nt ([97,98,99,100,101,102,103,104,105,106,107,108,109,110,111,112,113,114,115,116,117,118,119,120,121,122,48,49,50,51,52,53,54,55,56,57,45,95]:List UInt8) c) fun rA=>
 some (!rA)
noncomputable def cc (f:Int→Option Bool) (gY:Bool) (st:(List MV)):Option ((List MV)⊕(Unit⊕Int)):=
 if rH st then
 bd (f (lI st)) fun rA=>
 if rA=gY then
 some (.inr (.inr (iy st)))
 else
 some (.inl (mW st))
 else
 some (.inr (.inl ()))
noncomputable def db (sA:List UInt8) (f:Int→Option Bool) (gY:Bool):Option Int:=
 bd (Loop (cc f gY) ([.s sA,.i .i64 0]:List MV)) fun w=>
 match w with
 | .inl p1=>
  some (-1)
 | .inr p2=>
  some p2
noncomputable def cG (sA:List UInt8) (f:Int→Option Bool):Option Int:=
 bd (db sA f true) fun rA=>
 some rA
noncomputable def bF (sA:List UInt8) (f:Int→Option Bool):Option Bool:=
 bd (cG sA f) fun rA=>
 some (decide ((0:Int)≤rA))
noncomputable def dN (sA:List UInt8):Option Bool:=
 bd (
  if !decide (sA=([]:List UInt8)) then
  if (sA.length:Int)≤30 then
  bd (sT sA ([97,98,99,100,101,102,103,104,105,106,107,108,109,110,111,112,113,114,115,116,117,118,119,120,121,122,48,49,50,51,52,53,54,55,56,57,45,95]:List UInt8)) fun rA=>
  if rA=([]:List UInt8) then
  bd (bF sA b8) fun bR=>
  some (!bR)
  else
  some false
  else
  some false
  else
  some false:Option Bool) fun w=>
 some w
noncomputable def dh (sA:List UInt8):Option Bool:=
 bd (dN sA) fun rA=>
 some (!rA)
noncomputable def bg (sA:List (List UInt8)) (f:(List UInt8)→Option Bool) (st:Int):Option (Int⊕(Unit⊕Int)):=
 if st<(sA.length:Int) then
 ix sA st fun y=>
 bd (f y) fun rA=>
 if rA then
 some (.inr (.inr st))
 else
 some (.inl (IntKind.wrap .i64 (st+1)))
 else
 some (.inr (.inl ()))
noncomputable def bI (sA:List (List UInt8)) (f:(List UInt8)→Option Bool):Option Int:=
 bd (Loop (bg sA f) 0) fun w=>
 match w with
 | .inl p1=>
  some (-1)
 | .inr p2=>
  some p2
noncomputable def aZ (sA:List (List UInt8)) (f:(List UInt8)→Option Bool):Option Bool:=
 bd (bI sA f) fun rA=>
 some (decide ((0:Int)≤rA))
noncomputable def cH (p:List UInt8):Option ((List (List UInt8))×Bool):=
 bd (cb p ([47]:List UInt8)) fun rA=>
 bd (
  if !rA.2 then
  some true
  else
  some (decide ((100:Int)<(p.length:Int))):Option Bool) fun w=>
 if w then
 some (([]:List (List UInt8)),false)
 else
 if rA.1=([]:List UInt8) then
 some (([]:List (List UInt8)),true)
 else
 bd (sU rA.1 ([47]:List UInt8)) fun bR=>
 bd (
  if (bR.length:Int)≤8 then
  bd (aZ bR dh) fun kP=>
  some (bR,!kP,bR)
  else
  some (bR,false,bR):Option ((List (List UInt8))×Bool×(List (List UInt8)))) fun w1=>
 some (w1.2.2,w1.2.1)
noncomputable def cT (p:List UInt8):Option Bool:=
 bd (cH p) fun rA=>
 some rA.2
noncomputable def bM (sA:List UInt8) (c:Int) (st:Int):Option (Int⊕(Unit⊕Int)):=
 if (0:Int)≤st then
 if (0:Int)≤st∧st<(sA.length:Int) then
 if ((sA.getD (Int.toNat st) 0).toNat:Int)=c then
 some (.inr (.inr st))
 else
 some (.inl (IntKind.wrap .i64 (st-1)))
 else none
 else
 some (.inr (.inl ()))
noncomputable def bA (sA:List UInt8) (c:Int):Option Int:=
 bd (Loop (bM sA c) (IntKind.wrap .i64 ((sA.length:Int)-1))) fun w=>
 match w with
 | .inl p1=>
  some (-1)
 | .inr p2=>
  some p2
noncomputable def cf (sep:List UInt8) (st:Int×Int):Option ((Int×Int)⊕Int):=
 if (0:Int)≤st.2 then
 if (0:Int)≤st.2∧st.2<(sep.length:Int) then
 some (.inl (IntKind.wrap .u32 ((IntKind.wrap .u32 (st.1 *16777619))+(IntKind.wrap .u32 ((sep.getD (Int.toNat st.2) 0).toNat:Int))),IntKind.wrap .i64 (st.2-1)))
 else none
 else
 some (.inr st.1)
noncomputable def cg (bw:Int×Int×Int):Option ((Int×Int×Int)⊕Int):=
 if (0:Int)<bw.2.2 then
 bd (
  if !decide ((BI .i64 bw.2.2 1)=0) then
  some (IntKind.wrap .u32 (bw.1 *bw.2.1))
  else
  some bw.1:Option Int) fun w2=>
 if (0:Int)≤1 then
 some (.inl (w2,IntKind.wrap .u32 (bw.2.1 *bw.2.1),Int.fdiv bw.2.2 (2^min (Int.toNat 1) (IntKind.bits .i64))))
 else none
 else
 some (.inr bw.1)
noncomputable def bP (sep:List UInt8):Option (Int×Int):=
 bd (Loop (cf sep) (0,IntKind.wrap .i64 ((sep.length:Int)-1))) fun w=>
 bd (Loop cg (1,16777619,(sep.length:Int))) fun w1=>
 some (w,w1)
noncomputable def bq (a:List UInt8) (a1:List UInt8) (st:Int×Int):Option ((Int×Int)⊕Int):=
 if (IntKind.wrap .i64 ((a.length:Int)-(a1.length:Int)))≤st.2 then
 if (0:Int)≤st.2∧st.2<(a.length:Int) then
 some (.inl (IntKind.wrap .u32 ((IntKind.wrap .u32 (st.1 *16777619))+(IntKind.wrap .u32 ((a.getD (Int.toNat st.2) 0).toNat:Int))),IntKind.wrap .i64 (st.2-1)))
 else none
 else
 some (.inr st.1)
noncomputable def br (a:List UInt8) (a1:List UInt8) (rA:Int×Int) (bw:Int×Int):Option ((Int×Int)⊕(Unit⊕Int)):=
 if (0:Int)≤bw.2 then
 if (0:Int)≤bw.2∧bw.2<(a.length:Int) then
 if (0:Int)≤(IntKind.wrap .i64 (bw.2+(a1.length:Int)))∧(IntKind.wrap .i64 (bw.2+(a1.length:Int)))<(a.length:Int) then
 bd (
  if (IntKind.wrap .u32 ((IntKind.wrap .u32 ((IntKind.wrap .u32 (bw.1 *16777619))+(IntKind.wrap .u32 ((a.getD (Int.toNat bw.2) 0).toNat:Int))))-(IntKind.wrap .u32 (rA.2 *(IntKind.wrap .u32 ((a.getD (Int.toNat (IntKind.wrap .i64 (bw.2+(a1.length:Int)))) 0).toNat:Int))))))=rA.1 then
  if (0:Int)≤bw.2∧bw.2≤(IntKind.wrap .i64 (bw.2+(a1.length:Int)))∧(IntKind.wrap .i64 (bw.2+(a1.length:Int)))≤(a.length:Int) then
  some (decide ((List.drop (Int.toNat bw.2) (List.take (Int.toNat (IntKind.wrap .i64 (bw.2+(a1.length:Int)))) a))=a1))
  else none
  else
  some false:Option Bool) fun w3=>
 if w3 then
 some (.inr (.inr bw.2))
 else
 some (.inl (IntKind.wrap .u32 ((IntKind.wrap .u32 ((IntKind.wrap .u32 (bw.1 *16777619))+(IntKind.wrap .u32 ((a.getD (Int.toNat bw.2) 0).toNat:Int))))-(IntKind.wrap .u32 (rA.2 *(IntKind.wrap .u32 ((a.getD (Int.toNat (IntKind.wrap .i64 (bw.2+(a1.length:Int)))) 0).toNat:Int))))),IntKind.wrap .i64 (bw.2-1)))
 else none
 else none
 else
 some (.inr (.inl ()))
noncomputable def a8 (a:List UInt8) (a1:List UInt8):Option Int:=
 bd (bP a1) fun rA=>
 bd (Loop (bq a a1) (0,IntKind.wrap .i64 ((a.length:Int)-1))) fun w=>
 bd (
  if w=rA.1 then
  if (0:Int)≤(IntKind.wrap .i64 ((a.length:Int)-(a1.length:Int)))∧(IntKind.wrap .i64 ((a.length:Int)-(a1.length:Int)))≤(a.length:Int)∧(a.length:Int)≤(a.length:Int) then
  some (decide ((List.drop (Int.toNat (IntKind.wrap .i64 ((a.length:Int)-(a1.length:Int)))) (List.take (Int.toNat (a.length:Int)) a))=a1))
  else none
  else
  some false:Option Bool) fun w1=>
 if w1 then
 some (IntKind.wrap .i64 ((a.length:Int)-(a1.length:Int)))
 else
 bd (Loop (br a a1 rA) (w,IntKind.wrap .i64 ((IntKind.wrap .i64 ((a.length:Int)-(a1.length:Int)))-1))) fun w2=>
 match w2 with
 | .inl p2=>
  some (-1)
 | .inr p3=>
  some p3
noncomputable def di (sA:List UInt8) (substr:List UInt8):Option Int:=
 if (substr.length:Int)=0 then
 some (sA.length:Int)
 else
 if (substr.length:Int)=1 then
 if (0:Int)≤0∧(0:Int)<(substr.length:Int) then
 bd (bA sA ((substr.getD (Int.toNat 0) 0).toNat:Int)) fun rA=>
 some rA
 else none
 else
 if (substr.length:Int)=(sA.length:Int) then
 if substr=sA then
 some 0
 else
 some (-1)
 else
 if (sA.length:Int)<(substr.length:Int) then
 some (-1)
 else
 bd (a8 sA substr) fun bR=>
 some bR
noncomputable def fQ (p:List UInt8):Option ((List UInt8)×Int):=
 bd (cT p) fun rA=>
 if !rA then
 some (([]:List UInt8),13)
 else
 if p=([47]:List UInt8) then
 some (([]:List UInt8),6)
 else
 bd (di p ([47]:List UInt8)) fun bR=>
 if (0:Int)≤0∧(0:Int)≤(imax 1 bR)∧(imax 1 bR)≤(p.length:Int) then
 some (List.drop (Int.toNat 0) (List.take (Int.toNat (imax 1 bR)) p),0)
 else none
noncomputable def cI (x:List UInt8):Option Bool:=
 some (!decide (x=x))
noncomputable def ch (x:List UInt8) (y:List UInt8):Option Int:=
 bd (cI x) fun rA=>
 bd (cI y) fun bR=>
 if rA then
 if bR then
 some 0
 else
 some (-1)
 else
 if bR then
 some 1
 else
 if Op.bytesLess x y then
 some (-1)
 else
 if !(Op.bytesLess x y||decide (x=y)) then
 some 1
 else
 some 0
noncomputable def bt (s1:List (List UInt8)) (s2:List (List UInt8)) (st:Int):Option (Int⊕(Unit⊕Int)):=
 if st<(s1.length:Int) then
 ix s1 st fun y=>
 if (s2.length:Int)≤st then
 some (.inr (.inr 1))
 else
 ix s2 st fun y1=>
 bd (ch y y1) fun rA=>
 if !decide (rA=0) then
 some (.inr (.inr rA))
 else
 some (.inl (IntKind.wrap .i64 (st+1)))
 else
 some (.inr (.inl ()))
noncomputable def bG (s1:List (List UInt8)) (s2:List (List UInt8)):Option Int:=
 bd (Loop (bt s1 s2) 0) fun w=>
 match w with
 | .inl p1=>
  if (s1.length:Int)<(s2.length:Int) then
  some (-1)
  else
  some 0
 | .inr p2=>
  some p2
noncomputable def eP (p:List UInt8) (q:List UInt8):Option Bool:=
 bd (cH p) fun rA=>
 bd (cH q) fun bR=>
 bd (
  if rA.2 then
  if bR.2 then
  bd (bG rA.1 bR.1) fun kP=>
  some (decide (kP<0))
  else
  some false
  else
  some false:Option Bool) fun w=>
 some w
noncomputable def ik:Option Bool:=
 bd (fQ ([47,97,47,98]:List UInt8)) fun rA=>
 bd (fQ ([47]:List UInt8)) fun bR=>
 bd (
  if rA.1=([47,97]:List UInt8) then
  if rA.2=0 then
  if bR.2=6 then
  bd (cT ([47]:List UInt8)) fun kP=>
  if kP then
  bd (cT ([97]:List UInt8)) fun tM=>
  if !tM then
  bd (eP ([47,97,47,98]:List UInt8) ([47,97,45,98]:List UInt8)) fun DX=>
  some DX
  else
  some false
  else
  some false
  else
  some false
  else
  some false
  else
  some false:Option Bool) fun w=>
 some w
noncomputable def gq (sA:List UInt8) (st:Int):Option (Int⊕(Unit⊕Bool)):=
 if st<(sA.length:Int) then
 if (0:Int)≤st∧st<(sA.length:Int) then
 bd (
  if (97:Int)≤((sA.getD (Int.toNat st) 0).toNat:Int) then
  if ((sA.getD (Int.toNat st) 0).toNat:Int)≤122 then
  some true
  else
  if (48:Int)≤((sA.getD (Int.toNat st) 0).toNat:Int) then
  if ((sA.getD (Int.toNat st) 0).toNat:Int)≤57 then
  some true
  else
  if ((sA.getD (Int.toNat st) 0).toNat:Int)=45 then
  some true
  else
  some (decide (((sA.getD (Int.toNat st) 0).toNat:Int)=95))
  else
  if ((sA.getD (Int.toNat st) 0).toNat:Int)=45 then
  some true
  else
  some (decide (((sA.getD (Int.toNat st) 0).toNat:Int)=95))
  else
  if (48:Int)≤((sA.getD (Int.toNat st) 0).toNat:Int) then
  if ((sA.getD (Int.toNat st) 0).toNat:Int)≤57 then
  some true
  else
  if ((sA.getD (Int.toNat st) 0).toNat:Int)=45 then
  some true
  else
  some (decide (((sA.getD (Int.toNat st) 0).toNat:Int)=95))
  else
  if ((sA.getD (Int.toNat st) 0).toNat:Int)=45 then
  some true
  else
  some (decide (((sA.getD (Int.toNat st) 0).toNat:Int)=95)):Option Bool) fun w1=>
 if !w1 then
 some (.inr (.inr false))
 else
 some (.inl (IntKind.wrap .i64 (st+1)))
 else none
 else
 some (.inr (.inl ()))
noncomputable def il (sA:List UInt8):Option Bool:=
 bd (Loop (gq sA) 0) fun w=>
 match w with
 | .inl p1=>
  bd (
   if (1:Int)≤(sA.length:Int) then
   some (decide ((sA.length:Int)≤30))
   else
   some false:Option Bool) fun w2=>
  some w2
 | .inr p2=>
  some p2
noncomputable def lq (p:List UInt8) (st:(List (List UInt8))×(List UInt8)×Int):Option (((List (List UInt8))×(List UInt8)×Int)⊕((List (List UInt8))×(List UInt8))):=
 if st.2.2<(p.length:Int) then
 if (0:Int)≤st.2.2∧st.2.2<(p.length:Int) then
 bd (
  if ((p.getD (Int.toNat st.2.2) 0).toNat:Int)=47 then
  if (st.1.length+([st.2.1]:List (List UInt8)).length) *16≤2^46 then
  some (st.1++([st.2.1]:List (List UInt8)),([]:List UInt8))
  else none
  else
  if (0:Int)≤st.2.2∧st.2.2<(p.length:Int) then
  yX ([((p.getD (Int.toNat st.2.2) 0).toNat:Int)]:List Int) fun bs=>
  if st.2.1.length+bs.length≤2^46 then
  some (st.1,st.2.1++bs)
  else none
  else none:Option ((List (List UInt8))×(List UInt8))) fun w2=>
 some (.inl (w2.1,w2.2,IntKind.wrap .i64 (st.2.2+1)))
 else none
 else
 some (.inr (st.1,st.2.1))
noncomputable def nO (p:List UInt8):Option ((List (List UInt8))×Bool):=
 bd (
  if (p.length:Int)=0 then
  some true
  else
  if (0:Int)≤0∧(0:Int)<(p.length:Int) then
  some (!decide (((p.getD (Int.toNat 0) 0).toNat:Int)=47))
  else none:Option Bool) fun w=>
 if w then
 some (([]:List (List UInt8)),false)
 else
 if p=([47]:List UInt8) then
 some (([]:List (List UInt8)),true)
 else
 bd (Loop (lq p) (([]:List (List UInt8)),([]:List UInt8),1)) fun w1=>
 if (w1.1.length+([w1.2]:List (List UInt8)).length) *16≤2^46 then
 some (w1.1++([w1.2]:List (List UInt8)),true)
 else none
noncomputable def iH (rA:(List (List UInt8))×Bool) (st:Int):Option (Int⊕(Unit⊕Bool)):=
 if st<(rA.1.length:Int) then
 ix rA.1 st fun y=>
 bd (il y) fun bR=>
 if !bR then
 some (.inr (.inr false))
 else
 some (.inl (IntKind.wrap .i64 (st+1)))
 else
 some (.inr (.inl ()))
noncomputable def ju (p:List UInt8):Option Bool:=
 if (100:Int)<(p.length:Int) then
 some false
 else
 bd (nO p) fun rA=>
 bd (Loop (iH rA) 0) fun w=>
 match w with
 | .inl p3=>
  bd (
   if rA.2 then
   some (decide ((rA.1.length:Int)≤8))
   else
   some false:Option Bool) fun w1=>
  some w1
 | .inr p4=>
  some p4
noncomputable def e9 (p:List UInt8):Option ((List (List UInt8))×Int):=
 bd (ju p) fun rA=>
 if !rA then
 some (([]:List (List UInt8)),13)
 else
 bd (nO p) fun bR=>
 some (bR.1,0)
noncomputable def jK (lA:List (List UInt8)) (st:(List UInt8)×Int):Option (((List UInt8)×Int)⊕(List UInt8)):=
 if st.2<(lA.length:Int) then
 if st.1.length+([47]:List UInt8).length≤2^46 then
 ix lA st.2 fun y=>
 if (st.1++([47]:List UInt8)).length+y.length≤2^46 then
 some (.inl ((st.1++([47]:List UInt8))++y,IntKind.wrap .i64 (st.2+1)))
 else none
 else none
 else
 some (.inr st.1)
noncomputable def lr (lA:List (List UInt8)):Option (List UInt8):=
 bd (Loop (jK lA) (([]:List UInt8),0)) fun w=>
 if w=([]:List UInt8) then
 some ([47]:List UInt8)
 else
 some w
noncomputable def dj (s1:List (List UInt8)) (s2:List (List UInt8)) (st:Int):Option (Int⊕(Unit⊕Bool)):=
 if st<(s1.length:Int) then
 ix s1 st fun y=>
 ix s2 st fun y1=>
 if !decide (y=y1) then
 some (.inr (.inr false))
 else
 some (.inl (IntKind.wrap .i64 (st+1)))
 else
 some (.inr (.inl ()))
noncomputable def cU (s1:List (List UInt8)) (s2:List (List UInt8)):Option Bool:=
 if !decide ((s1.length:Int)=(s2.length:Int)) then
 some false
 else
 bd (Loop (dj s1 s2) 0) fun w=>
 match w with
 | .inl p1=>
  some true
 | .inr p2=>
  some p2
noncomputable def jL (p:List UInt8) (q:List UInt8):Option Bool:=
 bd (cH p) fun rA=>
 bd (cH q) fun bR=>
 bd (
  if rA.2 then
  if bR.2 then
  if (rA.1.length:Int)<(bR.1.length:Int) then
  if (0:Int)≤0∧(0:Int)≤(rA.1.length:Int)∧(rA.1.length:Int)≤(bR.1.length:Int) then
  bd (cU rA.1 (List.drop (Int.toNat 0) (List.take (Int.toNat (rA.1.length:Int)) bR.1))) fun kP=>
  some kP
  else none
  else
  some false
  else
  some false
  else
  some false:Option Bool) fun w=>
 some w
noncomputable def c3 (sA:List UInt8) (suffix:List UInt8):Option Bool:=
 bd (
  if (suffix.length:Int)≤(sA.length:Int) then
  if (0:Int)≤(IntKind.wrap .i64 ((sA.length:Int)-(suffix.length:Int)))∧(IntKind.wrap .i64 ((sA.length:Int)-(suffix.length:Int)))≤(sA.length:Int)∧(sA.length:Int)≤(sA.length:Int) then
  some (decide ((List.drop (Int.toNat (IntKind.wrap .i64 ((sA.length:Int)-(suffix.length:Int)))) (List.take (Int.toNat (sA.length:Int)) sA))=suffix))
  else none
  else
  some false:Option Bool) fun w=>
 some w
noncomputable def cM (sA:List UInt8) (suffix:List UInt8):Option (List UInt8):=
 bd (c3 sA suffix) fun rA=>
 if rA then
 if (0:Int)≤0∧(0:Int)≤(IntKind.wrap .i64 ((sA.length:Int)-(suffix.length:Int)))∧(IntKind.wrap .i64 ((sA.length:Int)-(suffix.length:Int)))≤(sA.length:Int) then
 some (List.drop (Int.toNat 0) (List.take (Int.toNat (IntKind.wrap .i64 ((sA.length:Int)-(suffix.length:Int)))) sA))
 else none
 else
 some sA
noncomputable def cV (sA:List UInt8) (suffix:List UInt8):Option (List UInt8):=
 bd (cM sA suffix) fun rA=>
 some rA
noncomputable def lu (p:List UInt8) (name:List UInt8):Option ((List UInt8)×Int):=
 bd (cV p ([47]:List UInt8)) fun rA=>
 if rA.length+([47]:List UInt8).length≤2^46 then
 if (rA++([47]:List UInt8)).length+name.length≤2^46 then
 bd (
  bd (cT p) fun bR=>
  if !bR then
  some true
  else
  bd (dN name) fun kP=>
  if !kP then
  some true
  else
  bd (cT ((rA++([47]:List UInt8))++name)) fun tM=>
  some (!tM):Option Bool) fun w=>
 if w then
 some (([]:List UInt8),13)
 else
 some ((rA++([47]:List UInt8))++name,0)
 else none
 else none
noncomputable def nu (p:List UInt8) (name:List UInt8):Option ((List UInt8)×Int):=
 bd (e9 p) fun rA=>
 bd (
  if !decide (rA.2=0) then
  some true
  else
  bd (il name) fun bR=>
  some (!bR):Option Bool) fun w=>
 if w then
 some (([]:List UInt8),13)
 else
 if (rA.1.length+([name]:List (List UInt8)).length) *16≤2^46 then
 bd (lr (rA.1++([name]:List (List UInt8)))) fun kP=>
 bd (ju kP) fun tM=>
 if !tM then
 some (([]:List UInt8),13)
 else
 some (kP,0)
 else none
noncomputable def iI (rA:(List (List UInt8))×Int) (bR:(List (List UInt8))×Int) (st:Int):Option (Int⊕(Unit⊕Bool)):=
 if st<(rA.1.length:Int) then
 ix rA.1 st fun y=>
 ix bR.1 st fun y1=>
 if !decide (y=y1) then
 some (.inr (.inr false))
 else
 some (.inl (IntKind.wrap .i64 (st+1)))
 else
 some (.inr (.inl ()))
noncomputable def lv (p:List UInt8) (q:List UInt8):Option Bool:=
 bd (e9 p) fun rA=>
 bd (e9 q) fun bR=>
 bd (
  if !decide (rA.2=0) then
  some true
  else
  if !decide (bR.2=0) then
  some true
  else
  some (decide ((bR.1.length:Int)≤(rA.1.length:Int))):Option Bool) fun w=>
 if w then
 some false
 else
 bd (Loop (iI rA bR) 0) fun w1=>
 match w1 with
 | .inl p3=>
  some true
 | .inr p4=>
  some p4
noncomputable def iJ (rA:(List (List UInt8))×Int) (bR:(List (List UInt8))×Int) (st:Int):Option (Int⊕(Unit⊕Bool)):=
 bd (
  if st<(rA.1.length:Int) then
  some (decide (st<(bR.1.length:Int)))
  else
  some false:Option Bool) fun w2=>
 if w2 then
 ix rA.1 st fun y=>
 ix bR.1 st fun y1=>
 if !decide (y=y1) then
 ix rA.1 st fun y2=>
 ix bR.1 st fun y3=>
 some (.inr (.inr (Op.bytesLess y2 y3)))
 else
 some (.inl (IntKind.wrap .i64 (st+1)))
 else
 some (.inr (.inl ()))
noncomputable def lz (p:List UInt8) (q:List UInt8):Option Bool:=
 bd (e9 p) fun rA=>
 bd (e9 q) fun bR=>
 bd (
  if !decide (rA.2=0) then
  some true
  else
  some (!decide (bR.2=0)):Option Bool) fun w=>
 if w then
 some false
 else
 bd (Loop (iJ rA bR) 0) fun w1=>
 match w1 with
 | .inl p3=>
  some (decide ((rA.1.length:Int)<(bR.1.length:Int)))
 | .inr p4=>
  some p4
noncomputable def kw (p:List UInt8) (q:List UInt8):Option Bool:=
 bd (
  if (1000:Int)<(p.length:Int) then
  some true
  else
  some (decide ((1000:Int)<(q.length:Int))):Option Bool) fun w=>
 if w then
 bd (ik) fun rA=>
 some rA
 else
 bd (lu p q) fun bR=>
 bd (nu p q) fun kP=>
 bd (
  bd (ik) fun tM=>
  if tM then
  if bR.1=kP.1 then
  if bR.2=kP.2 then
  bd (jL p q) fun DX=>
  bd (lv p q) fun Lm=>
  if DX=Lm then
  bd (eP p q) fun Ln=>
  bd (lz p q) fun Lo=>
  some (decide (Ln=Lo))
  else
  some false
  else
  some false
  else
  some false
  else
  some false:Option Bool) fun w1=>
 some w1
end Dn.S
