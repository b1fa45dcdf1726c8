import Derived.Test.YtbkodohojpchjaaGreatDoorDnC
/-
  The functions, on typed values. Conditions: none.
-/
open Go Dn
set_option linter.unusedVariables false
set_option linter.unusedSimpArgs false
set_option maxRecDepth 100000
namespace Dn.S
structure ae where
 Path:List UInt8
 Value:List UInt8
 Version:Int
 bj:Int
deriving DecidableEq
@[reducible] def Kc (x : ae) : List MV := [.s x.Path, .s x.Value, .i .i64 x.Version, .i .i64 x.bj]
@[reducible] def aE (x : ae) : MV := .agg (Kc x)
structure av where
 L:List ae
deriving DecidableEq
@[reducible] def Ih (x : av) : List MV := [.list (x.L.map aE)]
@[reducible] def bP (x : av) : MV := .agg (Ih x)
structure ay where
 Id:Int
 Span:Int
 gz:Int
deriving DecidableEq
@[reducible] def DK (x : ay) : List MV := [.i .i64 x.Id, .i .i64 x.Span, .i .i64 x.gz]
@[reducible] def aQ (x : ay) : MV := .agg (DK x)
structure az where
 fE:Int
 L:List ay
deriving DecidableEq
@[reducible] def Ke (x : az) : List MV := [.i .i64 x.fE, .list (x.L.map aQ)]
@[reducible] def cR (x : az) : MV := .agg (Ke x)
structure ak where
 Path:List UInt8
 Client:Int
 Kids:Bool
deriving DecidableEq
@[reducible] def Ii (x : ak) : List MV := [.s x.Path, .i .i64 x.Client, .b x.Kids]
@[reducible] def aY (x : ak) : MV := .agg (Ii x)
structure bo where
 L:List ak
deriving DecidableEq
@[reducible] def Ij (x : bo) : List MV := [.list (x.L.map aY)]
@[reducible] def ir (x : bo) : MV := .agg (Ij x)
structure ai where
 Client:Int
 Seq:Int
 E:Int
 Value:List UInt8
 Version:Int
 Names:List (List UInt8)
deriving DecidableEq
@[reducible] def Ik (x : ai) : List MV := [.i .i64 x.Client, .i .i64 x.Seq, .i .i64 x.E, .s x.Value, .i .i64 x.Version, .list (x.Names.map MV.s)]
@[reducible] def aZ (x : ai) : MV := .agg (Ik x)
structure aq where
 Shelf:av
 bF:az
 ck:bo
 Seen:List ai
deriving DecidableEq
@[reducible] def Il (x : aq) : List MV := [.list (x.Shelf.L.map aE), .i .i64 x.bF.fE, .list (x.bF.L.map aQ), .list (x.ck.L.map aY), .list (x.Seen.map aZ)]
@[reducible] def eG (x : aq) : MV := .agg (Il x)
structure aB where
 Client:Int
 Seq:Int
 Kind:Int
 Path:List UInt8
 Value:List UInt8
 Version:Int
 Session:Int
 Span:Int
deriving DecidableEq
@[reducible] def Im (x : aB) : List MV := [.i .i64 x.Client, .i .i64 x.Seq, .i .i64 x.Kind, .s x.Path, .s x.Value, .i .i64 x.Version, .i .i64 x.Session, .i .i64 x.Span]
@[reducible] def cL (x : aB) : MV := .agg (Im x)
structure VK where
 Path:List UInt8
 Value:List UInt8
 Version:Int
 bj:Int
deriving DecidableEq
structure DL where
 L:List VK
deriving DecidableEq
structure Mi where
 Id:Int
 Span:Int
 gz:Int
deriving DecidableEq
structure VL where
 fE:Int
 L:List Mi
deriving DecidableEq
structure Kf where
 Path:List UInt8
 Client:Int
 Kids:Bool
deriving DecidableEq
structure SR where
 L:List Kf
deriving DecidableEq
structure SS where
 Client:Int
 Seq:Int
 E:Int
 Value:List UInt8
 Version:Int
 Names:List (List UInt8)
deriving DecidableEq
structure aco where
 Shelf:DL
 bF:VL
 ck:SR
 Seen:List SS
deriving DecidableEq
structure aC where
 Kind:Int
 Path:List UInt8
deriving DecidableEq
@[reducible] def Fx (x : aC) : List MV := [.i .i64 x.Kind, .s x.Path]
@[reducible] def eR (x : aC) : MV := .agg (Fx x)
structure af where
 r:aq
 o:aB
 x:ai
 l:List aC
deriving DecidableEq
@[reducible] def bq (x : af) : List MV := [.list (x.r.Shelf.L.map aE), .i .i64 x.r.bF.fE, .list (x.r.bF.L.map aQ), .list (x.r.ck.L.map aY), .list (x.r.Seen.map aZ), .i .i64 x.o.Client, .i .i64 x.o.Seq, .i .i64 x.o.Kind, .s x.o.Path, .s x.o.Value, .i .i64 x.o.Version, .i .i64 x.o.Session, .i .i64 x.o.Span, .i .i64 x.x.Client, .i .i64 x.x.Seq, .i .i64 x.x.E, .s x.x.Value, .i .i64 x.x.Version, .list (x.x.Names.map MV.s), .list (x.l.map eR)]
structure bA where
 W:ak
 C:aC
deriving DecidableEq
@[reducible] def Io (x : bA) : List MV := [.s x.W.Path, .i .i64 x.W.Client, .b x.W.Kids, .i .i64 x.C.Kind, .s x.C.Path]
@[reducible] def eH (x : bA) : MV := .agg (Io x)
structure acp where
 Client:Int
 Seq:Int
 Kind:Int
 Path:List UInt8
 Value:List UInt8
 Version:Int
 Session:Int
 Span:Int
deriving DecidableEq
structure Po where
 Kind:Int
 Path:List UInt8
deriving DecidableEq
structure acq where
 W:Kf
 C:Po
deriving DecidableEq
noncomputable def rR (lA:List aB) (st:Int):Option (Int⊕(Unit⊕Bool)):=
 if st<(lA.length:Int) then
 bd (
  if st=30 then
  some true
  else
  ix lA st fun y=>
  if (200:Int)<(y.Path.length:Int) then
  some true
  else
  ix lA st fun y1=>
  some (decide ((1100:Int)<(y1.Value.length:Int))):Option Bool) fun w1=>
 if w1 then
 some (.inr (.inr false))
 else
 some (.inl (IntKind.wrap .i64 (st+1)))
 else
 some (.inr (.inl ()))
noncomputable def tf (lA:List aB):Option Bool:=
 bd (Loop (rR lA) 0) fun w=>
 match w with
 | .inl p1=>
  some true
 | .inr p2=>
  some p2
noncomputable def SU (sA:DL) (p:List UInt8) (st:Int):Option (Int⊕(Unit⊕Int)):=
 if st<(sA.L.length:Int) then
 ix sA.L st fun y=>
 if y.Path=p then
 some (.inr (.inr st))
 else
 some (.inl (IntKind.wrap .i64 (st+1)))
 else
 some (.inr (.inl ()))
noncomputable def af3 (sA:DL) (p:List UInt8):Option Int:=
 bd (Loop (SU sA p) 0) fun w=>
 match w with
 | .inl p3=>
  some (-1)
 | .inr p4=>
  some p4
noncomputable def jG (o:aB):Option aB:=
 if o.Kind=1 then
 some (⟨o.Client,o.Seq,o.Kind,o.Path,o.Value,0,o.Session,0⟩:aB)
 else
 bd (
  if o.Kind=2 then
  some (decide (o.Kind=2))
  else
  bd (
   if o.Kind=5 then
   some (decide (o.Kind=5))
   else
   bd (
    if o.Kind=10 then
    some (decide (o.Kind=10))
    else
    some (decide (o.Kind=11)):Option Bool) fun w2=>
   some w2:Option Bool) fun w1=>
  some w1:Option Bool) fun w=>
 if w then
 some (⟨o.Client,o.Seq,o.Kind,o.Path,([]:List UInt8),0,0,0⟩:aB)
 else
 if o.Kind=3 then
 some (⟨o.Client,o.Seq,o.Kind,o.Path,o.Value,o.Version,0,0⟩:aB)
 else
 if o.Kind=4 then
 some (⟨o.Client,o.Seq,o.Kind,o.Path,([]:List UInt8),o.Version,0,0⟩:aB)
 else
 if o.Kind=6 then
 some (⟨o.Client,o.Seq,o.Kind,([]:List UInt8),([]:List UInt8),0,o.Session,o.Span⟩:aB)
 else
 bd (
  if o.Kind=7 then
  some (decide (o.Kind=7))
  else
  some (decide (o.Kind=8)):Option Bool) fun w3=>
 if w3 then
 some (⟨o.Client,o.Seq,o.Kind,([]:List UInt8),([]:List UInt8),0,o.Session,0⟩:aB)
 else
 if o.Kind=9 then
 some (⟨o.Client,o.Seq,o.Kind,([]:List UInt8),([]:List UInt8),0,0,o.Span⟩:aB)
 else
 some (⟨o.Client,o.Seq,o.Kind,([]:List UInt8),([]:List UInt8),0,0,0⟩:aB)
noncomputable def nR (o:aB):Option Bool:=
 bd (
  if (0:Int)≤o.Client then
  if o.Client≤1000 then
  if (1:Int)≤o.Seq then
  some (decide (o.Seq≤1000000000))
  else
  some false
  else
  some false
  else
  some false:Option Bool) fun w=>
 bd (
  if w then
  if (0:Int)≤o.Kind then
  if o.Kind≤11 then
  if (o.Path.length:Int)≤100 then
  if (o.Value.length:Int)≤1000 then
  bd (jG o) fun rA=>
  some ((decide (o.Client=rA.Client))&&((decide (o.Seq=rA.Seq))&&((decide (o.Kind=rA.Kind))&&((decide (o.Path=rA.Path))&&((decide (o.Value=rA.Value))&&((decide (o.Version=rA.Version))&&((decide (o.Session=rA.Session))&&(decide (o.Span=rA.Span)))))))))
  else
  some false
  else
  some false
  else
  some false
  else
  some false
  else
  some false:Option Bool) fun w1=>
 some w1
noncomputable def mX (x:Int):Option Bool:=
 some (!decide (x=x))
noncomputable def iM (x:Int) (y:Int):Option Int:=
 bd (mX x) fun rA=>
 bd (mX y) fun aV=>
 if rA then
 if aV then
 some 0
 else
 some (-1)
 else
 if aV then
 some 1
 else
 if x<y then
 some (-1)
 else
 if y<x then
 some 1
 else
 some 0
noncomputable def cD (x:ai) (ey:Int):Option Int:=
 bd (iM x.Client ey) fun rA=>
 some rA
noncomputable def eS (x:List ai) (target:Int) (cmp:ai→Int→Option Int) (st:Int×Int):Option ((Int×Int)⊕Int):=
 if st.1<st.2 then
 if (0:Int)≤1 then
 ix x (IntKind.wrap .i64 (Int.fdiv (IntKind.wrap .u64 (IntKind.wrap .i64 (st.1+st.2))) (2^min (Int.toNat 1) (IntKind.bits .u64)))) fun y=>
 bd (cmp y target) fun rA=>
 bd (
  if rA<0 then
  some (IntKind.wrap .i64 ((IntKind.wrap .i64 (Int.fdiv (IntKind.wrap .u64 (IntKind.wrap .i64 (st.1+st.2))) (2^min (Int.toNat 1) (IntKind.bits .u64))))+1),st.2)
  else
  some (st.1,IntKind.wrap .i64 (Int.fdiv (IntKind.wrap .u64 (IntKind.wrap .i64 (st.1+st.2))) (2^min (Int.toNat 1) (IntKind.bits .u64)))):Option (Int×Int)) fun w1=>
 some (.inl (w1.1,w1.2))
 else none
 else
 some (.inr st.1)
noncomputable def cn (x:List ai) (target:Int) (cmp:ai→Int→Option Int):Option (Int×Bool):=
 bd (Loop (eS x target cmp) (0,(x.length:Int))) fun w=>
 bd (
  if w<(x.length:Int) then
  ix x w fun y1=>
  bd (cmp y1 target) fun aV=>
  some (w,decide (aV=0))
  else
  some (w,false):Option (Int×Bool)) fun w2=>
 some (w2.1,w2.2)
noncomputable def ez (rA:aq) (ey:Int):Option (Int×Bool):=
 bd (cn rA.Seen ey cD) fun aV=>
 some (aV.1,aV.2)
noncomputable def nS (rA:aq) (ey:Int):Option (ai×Bool):=
 bd (ez rA ey) fun aV=>
 if !aV.2 then
 some ((⟨0,0,0,([]:List UInt8),0,([]:List (List UInt8))⟩:ai),false)
 else
 ix rA.Seen aV.1 fun y=>
 some (y,true)
noncomputable def iN (rA:aq) (o:aB):Option (ai×Bool):=
 bd (nS rA o.Client) fun aV=>
 bd (nR o) fun cP=>
 bd (
  if !cP then
  some (.inl (0,0,0,([]:List UInt8),0,([]:List (List UInt8)),o.Client,o.Seq,1,([]:List UInt8),0,([]:List (List UInt8))))
  else
  bd (
   if aV.2 then
   some (decide (aV.1.Seq=o.Seq))
   else
   some false:Option Bool) fun w1=>
  if w1 then
  some (.inr (aV.1.Client,aV.1.Seq,aV.1.E,aV.1.Value,aV.1.Version,aV.1.Names,true))
  else
  bd (
   if aV.2 then
   some (decide (o.Seq<aV.1.Seq))
   else
   some false:Option Bool) fun w2=>
  bd (
   if w2 then
   some (.inl (0,0,0,([]:List UInt8),0,([]:List (List UInt8)),o.Client,o.Seq,15,([]:List UInt8),0,([]:List (List UInt8))))
   else
   bd (
    if !aV.2 then
    some (decide ((50:Int)≤(rA.Seen.length:Int)))
    else
    some false:Option Bool) fun w4=>
   if w4 then
   some (.inl (0,0,0,([]:List UInt8),0,([]:List (List UInt8)),o.Client,o.Seq,9,([]:List UInt8),0,([]:List (List UInt8))))
   else
   some (.inr (o.Client,o.Seq,0,([]:List UInt8),0,([]:List (List UInt8)),false)):Option ((Int×Int×Int×(List UInt8)×Int×(List (List UInt8))×Int×Int×Int×(List UInt8)×Int×(List (List UInt8)))⊕(Int×Int×Int×(List UInt8)×Int×(List (List UInt8))×Bool))) fun w3=>
  match w3 with
  | .inl p2=>
   some (.inl (p2.1,p2.2.1,p2.2.2.1,p2.2.2.2.1,p2.2.2.2.2.1,p2.2.2.2.2.2.1,p2.2.2.2.2.2.2.1,p2.2.2.2.2.2.2.2.1,p2.2.2.2.2.2.2.2.2.1,p2.2.2.2.2.2.2.2.2.2.1,p2.2.2.2.2.2.2.2.2.2.2.1,p2.2.2.2.2.2.2.2.2.2.2.2))
  | .inr p3=>
   some (.inr (p3.1,p3.2.1,p3.2.2.1,p3.2.2.2.1,p3.2.2.2.2.1,p3.2.2.2.2.2.1,p3.2.2.2.2.2.2)):Option ((Int×Int×Int×(List UInt8)×Int×(List (List UInt8))×Int×Int×Int×(List UInt8)×Int×(List (List UInt8)))⊕(Int×Int×Int×(List UInt8)×Int×(List (List UInt8))×Bool))) fun w=>
 match w with
 | .inl p4=>
  some ((⟨p4.2.2.2.2.2.2.1,p4.2.2.2.2.2.2.2.1,p4.2.2.2.2.2.2.2.2.1,p4.2.2.2.2.2.2.2.2.2.1,p4.2.2.2.2.2.2.2.2.2.2.1,p4.2.2.2.2.2.2.2.2.2.2.2⟩:ai),true)
 | .inr p5=>
  some ((⟨p5.1,p5.2.1,p5.2.2.1,p5.2.2.2.1,p5.2.2.2.2.1,p5.2.2.2.2.2.1⟩:ai),p5.2.2.2.2.2.2)
noncomputable def mu (w:af):Option (Unit×af):=
 some ((),w)
noncomputable def cS (x:ay) (id:Int):Option Int:=
 bd (iM x.Id id) fun rA=>
 some rA
noncomputable def ej (x:List ay) (target:Int) (cmp:ay→Int→Option Int) (st:Int×Int):Option ((Int×Int)⊕Int):=
 if st.1<st.2 then
 if (0:Int)≤1 then
 ix x (IntKind.wrap .i64 (Int.fdiv (IntKind.wrap .u64 (IntKind.wrap .i64 (st.1+st.2))) (2^min (Int.toNat 1) (IntKind.bits .u64)))) fun y=>
 bd (cmp y target) fun rA=>
 bd (
  if rA<0 then
  some (IntKind.wrap .i64 ((IntKind.wrap .i64 (Int.fdiv (IntKind.wrap .u64 (IntKind.wrap .i64 (st.1+st.2))) (2^min (Int.toNat 1) (IntKind.bits .u64))))+1),st.2)
  else
  some (st.1,IntKind.wrap .i64 (Int.fdiv (IntKind.wrap .u64 (IntKind.wrap .i64 (st.1+st.2))) (2^min (Int.toNat 1) (IntKind.bits .u64)))):Option (Int×Int)) fun w1=>
 some (.inl (w1.1,w1.2))
 else none
 else
 some (.inr st.1)
noncomputable def b8 (x:List ay) (target:Int) (cmp:ay→Int→Option Int):Option (Int×Bool):=
 bd (Loop (ej x target cmp) (0,(x.length:Int))) fun w=>
 bd (
  if w<(x.length:Int) then
  ix x w fun y1=>
  bd (cmp y1 target) fun aV=>
  some (w,decide (aV=0))
  else
  some (w,false):Option (Int×Bool)) fun w2=>
 some (w2.1,w2.2)
noncomputable def dz (b:az) (id:Int):Option (Int×Bool):=
 bd (b8 b.L id cS) fun rA=>
 some (rA.1,rA.2)
noncomputable def p8 (b:az) (id:Int):Option Bool:=
 bd (dz b id) fun rA=>
 some rA.2
noncomputable def gf (sA:List UInt8) (cT:List UInt8):Option Bool:=
 bd (
  if (cT.length:Int)≤(sA.length:Int) then
  if (0:Int)≤0∧(0:Int)≤(cT.length:Int)∧(cT.length:Int)≤(sA.length:Int) then
  some (decide ((List.drop (Int.toNat 0) (List.take (Int.toNat (cT.length:Int)) sA))=cT))
  else none
  else
  some false:Option Bool) fun w=>
 some w
noncomputable def gh (sA:List UInt8) (cT:List UInt8):Option ((List UInt8)×Bool):=
 bd (gf sA cT) fun rA=>
 if !rA then
 some (sA,false)
 else
 if (0:Int)≤(cT.length:Int)∧(cT.length:Int)≤(sA.length:Int)∧(sA.length:Int)≤(sA.length:Int) then
 some (List.drop (Int.toNat (cT.length:Int)) (List.take (Int.toNat (sA.length:Int)) sA),true)
 else none
noncomputable def gD (sA:List UInt8) (cT:List UInt8):Option ((List UInt8)×Bool):=
 bd (gh sA cT) fun rA=>
 some (rA.1,rA.2)
noncomputable def fN (c:Int):Option Bool:=
 bd (zD ([97,98,99,100,101,102,103,104,105,106,107,108,109,110,111,112,113,114,115,116,117,118,119,120,121,122,48,49,50,51,52,53,54,55,56,57,45,95]:List UInt8) c) fun rA=>
 some (!rA)
noncomputable def gE (f:Int→Option Bool) (BB:Bool) (st:(List MV)):Option ((List MV)⊕(Unit⊕Int)):=
 if Fg st then
 bd (f (vO st)) fun rA=>
 if rA=BB then
 some (.inr (.inr (pD st)))
 else
 some (.inl (yr st))
 else
 some (.inr (.inl ()))
noncomputable def lZ (sA:List UInt8) (f:Int→Option Bool) (BB:Bool):Option Int:=
 bd (Loop (gE f BB) ([.s sA,.i .i64 0]:List MV)) fun w=>
 match w with
 | .inl p1=>
  some (-1)
 | .inr p2=>
  some p2
noncomputable def jZ (sA:List UInt8) (f:Int→Option Bool):Option Int:=
 bd (lZ sA f true) fun rA=>
 some rA
noncomputable def eT (sA:List UInt8) (f:Int→Option Bool):Option Bool:=
 bd (jZ sA f) fun rA=>
 some (decide ((0:Int)≤rA))
noncomputable def oK (sA:List UInt8):Option Bool:=
 bd (
  if !decide (sA=([]:List UInt8)) then
  if (sA.length:Int)≤30 then
  bd (GU sA ([97,98,99,100,101,102,103,104,105,106,107,108,109,110,111,112,113,114,115,116,117,118,119,120,121,122,48,49,50,51,52,53,54,55,56,57,45,95]:List UInt8)) fun rA=>
  if rA=([]:List UInt8) then
  bd (eT sA fN) fun aV=>
  some (!aV)
  else
  some false
  else
  some false
  else
  some false:Option Bool) fun w=>
 some w
noncomputable def kV (sA:List UInt8):Option Bool:=
 bd (oK sA) fun rA=>
 some (!rA)
noncomputable def dt (sA:List (List UInt8)) (f:(List UInt8)→Option Bool) (st:Int):Option (Int⊕(Unit⊕Int)):=
 if st<(sA.length:Int) then
 ix sA st fun y=>
 bd (f y) fun rA=>
 if rA then
 some (.inr (.inr st))
 else
 some (.inl (IntKind.wrap .i64 (st+1)))
 else
 some (.inr (.inl ()))
noncomputable def fF (sA:List (List UInt8)) (f:(List UInt8)→Option Bool):Option Int:=
 bd (Loop (dt sA f) 0) fun w=>
 match w with
 | .inl p1=>
  some (-1)
 | .inr p2=>
  some p2
noncomputable def dh (sA:List (List UInt8)) (f:(List UInt8)→Option Bool):Option Bool:=
 bd (fF sA f) fun rA=>
 some (decide ((0:Int)≤rA))
noncomputable def fQ (p:List UInt8):Option ((List (List UInt8))×Bool):=
 bd (gD p ([47]:List UInt8)) fun rA=>
 bd (
  if !rA.2 then
  some true
  else
  some (decide ((100:Int)<(p.length:Int))):Option Bool) fun w=>
 if w then
 some (([]:List (List UInt8)),false)
 else
 if rA.1=([]:List UInt8) then
 some (([]:List (List UInt8)),true)
 else
 bd (Ia rA.1 ([47]:List UInt8)) fun aV=>
 bd (
  if (aV.length:Int)≤8 then
  bd (dh aV kV) fun cP=>
  some (aV,!cP,aV)
  else
  some (aV,false,aV):Option ((List (List UInt8))×Bool×(List (List UInt8)))) fun w1=>
 some (w1.2.2,w1.2.1)
noncomputable def jH (x:List UInt8):Option Bool:=
 some (!decide (x=x))
noncomputable def gG (x:List UInt8) (y:List UInt8):Option Int:=
 bd (jH x) fun rA=>
 bd (jH y) fun aV=>
 if rA then
 if aV then
 some 0
 else
 some (-1)
 else
 if aV then
 some 1
 else
 if Op.bytesLess x y then
 some (-1)
 else
 if !(Op.bytesLess x y||decide (x=y)) then
 some 1
 else
 some 0
noncomputable def dS (s1:List (List UInt8)) (s2:List (List UInt8)) (st:Int):Option (Int⊕(Unit⊕Int)):=
 if st<(s1.length:Int) then
 ix s1 st fun y=>
 if (s2.length:Int)≤st then
 some (.inr (.inr 1))
 else
 ix s2 st fun y1=>
 bd (gG y y1) fun rA=>
 if !decide (rA=0) then
 some (.inr (.inr rA))
 else
 some (.inl (IntKind.wrap .i64 (st+1)))
 else
 some (.inr (.inl ()))
noncomputable def eU (s1:List (List UInt8)) (s2:List (List UInt8)):Option Int:=
 bd (Loop (dS s1 s2) 0) fun w=>
 match w with
 | .inl p1=>
  if (s1.length:Int)<(s2.length:Int) then
  some (-1)
  else
  some 0
 | .inr p2=>
  some p2
noncomputable def nT (p:List UInt8) (q:List UInt8):Option Bool:=
 bd (fQ p) fun rA=>
 bd (fQ q) fun aV=>
 bd (
  if rA.2 then
  if aV.2 then
  bd (eU rA.1 aV.1) fun cP=>
  some (decide (cP<0))
  else
  some false
  else
  some false:Option Bool) fun w=>
 some w
noncomputable def bX (n:ae) (p:List UInt8):Option Int:=
 if n.Path=p then
 some 0
 else
 bd (nT n.Path p) fun rA=>
 if rA then
 some (-1)
 else
 some 1
noncomputable def ek (x:List ae) (target:List UInt8) (cmp:ae→(List UInt8)→Option Int) (st:Int×Int):Option ((Int×Int)⊕Int):=
 if st.1<st.2 then
 if (0:Int)≤1 then
 ix x (IntKind.wrap .i64 (Int.fdiv (IntKind.wrap .u64 (IntKind.wrap .i64 (st.1+st.2))) (2^min (Int.toNat 1) (IntKind.bits .u64)))) fun y=>
 bd (cmp y target) fun rA=>
 bd (
  if rA<0 then
  some (IntKind.wrap .i64 ((IntKind.wrap .i64 (Int.fdiv (IntKind.wrap .u64 (IntKind.wrap .i64 (st.1+st.2))) (2^min (Int.toNat 1) (IntKind.bits .u64))))+1),st.2)
  else
  some (st.1,IntKind.wrap .i64 (Int.fdiv (IntKind.wrap .u64 (IntKind.wrap .i64 (st.1+st.2))) (2^min (Int.toNat 1) (IntKind.bits .u64)))):Option (Int×Int)) fun w1=>
 some (.inl (w1.1,w1.2))
 else none
 else
 some (.inr st.1)
noncomputable def c8 (x:List ae) (target:List UInt8) (cmp:ae→(List UInt8)→Option Int):Option (Int×Bool):=
 bd (Loop (ek x target cmp) (0,(x.length:Int))) fun w=>
 bd (
  if w<(x.length:Int) then
  ix x w fun y1=>
  bd (cmp y1 target) fun aV=>
  some (w,decide (aV=0))
  else
  some (w,false):Option (Int×Bool)) fun w2=>
 some (w2.1,w2.2)
noncomputable def dE (sA:av) (p:List UInt8):Option (Int×Bool):=
 bd (c8 sA.L p bX) fun rA=>
 some (rA.1,rA.2)
noncomputable def fR (p:List UInt8):Option Bool:=
 bd (fQ p) fun rA=>
 some rA.2
noncomputable def dp (sA:List UInt8) (c:Int) (st:Int):Option (Int⊕(Unit⊕Int)):=
 if (0:Int)≤st then
 if (0:Int)≤st∧st<(sA.length:Int) then
 if ((sA.getD (Int.toNat st) 0).toNat:Int)=c then
 some (.inr (.inr st))
 else
 some (.inl (IntKind.wrap .i64 (st-1)))
 else none
 else
 some (.inr (.inl ()))
noncomputable def dG (sA:List UInt8) (c:Int):Option Int:=
 bd (Loop (dp sA c) (IntKind.wrap .i64 ((sA.length:Int)-1))) fun w=>
 match w with
 | .inl p1=>
  some (-1)
 | .inr p2=>
  some p2
noncomputable def kr (sep:List UInt8) (st:Int×Int):Option ((Int×Int)⊕Int):=
 if (0:Int)≤st.2 then
 if (0:Int)≤st.2∧st.2<(sep.length:Int) then
 some (.inl (IntKind.wrap .u32 ((IntKind.wrap .u32 (st.1 *16777619))+(IntKind.wrap .u32 ((sep.getD (Int.toNat st.2) 0).toNat:Int))),IntKind.wrap .i64 (st.2-1)))
 else none
 else
 some (.inr st.1)
noncomputable def ku (eE:Int×Int×Int):Option ((Int×Int×Int)⊕Int):=
 if (0:Int)<eE.2.2 then
 none
 else
 some (.inr eE.1)
noncomputable def iu (sep:List UInt8):Option (Int×Int):=
 bd (Loop (kr sep) (0,IntKind.wrap .i64 ((sep.length:Int)-1))) fun w=>
 bd (Loop ku (1,16777619,(sep.length:Int))) fun w1=>
 some (w,w1)
noncomputable def fS (a:List UInt8) (a1:List UInt8) (st:Int×Int):Option ((Int×Int)⊕Int):=
 if (IntKind.wrap .i64 ((a.length:Int)-(a1.length:Int)))≤st.2 then
 if (0:Int)≤st.2∧st.2<(a.length:Int) then
 some (.inl (IntKind.wrap .u32 ((IntKind.wrap .u32 (st.1 *16777619))+(IntKind.wrap .u32 ((a.getD (Int.toNat st.2) 0).toNat:Int))),IntKind.wrap .i64 (st.2-1)))
 else none
 else
 some (.inr st.1)
noncomputable def fT (a:List UInt8) (a1:List UInt8) (rA:Int×Int) (eE:Int×Int):Option ((Int×Int)⊕(Unit⊕Int)):=
 if (0:Int)≤eE.2 then
 if (0:Int)≤eE.2∧eE.2<(a.length:Int) then
 if (0:Int)≤(IntKind.wrap .i64 (eE.2+(a1.length:Int)))∧(IntKind.wrap .i64 (eE.2+(a1.length:Int)))<(a.length:Int) then
 bd (
  if (IntKind.wrap .u32 ((IntKind.wrap .u32 ((IntKind.wrap .u32 (eE.1 *16777619))+(IntKind.wrap .u32 ((a.getD (Int.toNat eE.2) 0).toNat:Int))))-(IntKind.wrap .u32 (rA.2 *(IntKind.wrap .u32 ((a.getD (Int.toNat (IntKind.wrap .i64 (eE.2+(a1.length:Int)))) 0).toNat:Int))))))=rA.1 then
  if (0:Int)≤eE.2∧eE.2≤(IntKind.wrap .i64 (eE.2+(a1.length:Int)))∧(IntKind.wrap .i64 (eE.2+(a1.length:Int)))≤(a.length:Int) then
  some (decide ((List.drop (Int.toNat eE.2) (List.take (Int.toNat (IntKind.wrap .i64 (eE.2+(a1.length:Int)))) a))=a1))
  else none
  else
  some false:Option Bool) fun w3=>
 if w3 then
 some (.inr (.inr eE.2))
 else
 some (.inl (IntKind.wrap .u32 ((IntKind.wrap .u32 ((IntKind.wrap .u32 (eE.1 *16777619))+(IntKind.wrap .u32 ((a.getD (Int.toNat eE.2) 0).toNat:Int))))-(IntKind.wrap .u32 (rA.2 *(IntKind.wrap .u32 ((a.getD (Int.toNat (IntKind.wrap .i64 (eE.2+(a1.length:Int)))) 0).toNat:Int))))),IntKind.wrap .i64 (eE.2-1)))
 else none
 else none
 else
 some (.inr (.inl ()))
noncomputable def dU (a:List UInt8) (a1:List UInt8):Option Int:=
 bd (iu a1) fun rA=>
 bd (Loop (fS a a1) (0,IntKind.wrap .i64 ((a.length:Int)-1))) fun w=>
 bd (
  if w=rA.1 then
  if (0:Int)≤(IntKind.wrap .i64 ((a.length:Int)-(a1.length:Int)))∧(IntKind.wrap .i64 ((a.length:Int)-(a1.length:Int)))≤(a.length:Int)∧(a.length:Int)≤(a.length:Int) then
  some (decide ((List.drop (Int.toNat (IntKind.wrap .i64 ((a.length:Int)-(a1.length:Int)))) (List.take (Int.toNat (a.length:Int)) a))=a1))
  else none
  else
  some false:Option Bool) fun w1=>
 if w1 then
 some (IntKind.wrap .i64 ((a.length:Int)-(a1.length:Int)))
 else
 bd (Loop (fT a a1 rA) (w,IntKind.wrap .i64 ((IntKind.wrap .i64 ((a.length:Int)-(a1.length:Int)))-1))) fun w2=>
 match w2 with
 | .inl p2=>
  some (-1)
 | .inr p3=>
  some p3
noncomputable def gJ (sA:List UInt8) (substr:List UInt8):Option Int:=
 if (substr.length:Int)=0 then
 some (sA.length:Int)
 else
 if (substr.length:Int)=1 then
 if (0:Int)≤0∧(0:Int)<(substr.length:Int) then
 bd (dG sA ((substr.getD (Int.toNat 0) 0).toNat:Int)) fun rA=>
 some rA
 else none
 else
 if (substr.length:Int)=(sA.length:Int) then
 if substr=sA then
 some 0
 else
 some (-1)
 else
 if (sA.length:Int)<(substr.length:Int) then
 some (-1)
 else
 bd (dU sA substr) fun aV=>
 some aV
noncomputable def kv (p:List UInt8):Option ((List UInt8)×Int):=
 bd (fR p) fun rA=>
 if !rA then
 some (([]:List UInt8),13)
 else
 if p=([47]:List UInt8) then
 some (([]:List UInt8),6)
 else
 bd (gJ p ([47]:List UInt8)) fun aV=>
 if (0:Int)≤0∧(0:Int)≤(imax 1 aV)∧(imax 1 aV)≤(p.length:Int) then
 some (List.drop (Int.toNat 0) (List.take (Int.toNat (imax 1 aV)) p),0)
 else none
noncomputable def fj (sA:av) (p:List UInt8):Option (Int×Int):=
 bd (fR p) fun rA=>
 if !rA then
 some (0,13)
 else
 bd (dE sA p) fun aV=>
 if !aV.2 then
 some (0,6)
 else
 some (aV.1,0)
noncomputable def nU (sA:av) (p:List UInt8):Option (ae×Int):=
 bd (fj sA p) fun rA=>
 if !decide (rA.2=0) then
 some ((⟨([]:List UInt8),([]:List UInt8),0,0⟩:ae),rA.2)
 else
 ix sA.L rA.1 fun y=>
 some (y,0)
noncomputable def fU (c:List UInt8) (c1:Bool) (c2:av) (c3:List UInt8) (c4:Int):Option Int:=
 bd (fR c) fun rA=>
 if !rA then
 some 13
 else
 if c1 then
 some 7
 else
 bd (kv c) fun aV=>
 bd (nU c2 aV.1) fun cP=>
 if !decide (cP.2=0) then
 some 6
 else
 if !decide (cP.1.bj=0) then
 some 10
 else
 if (1000:Int)<(c3.length:Int) then
 some 5
 else
 if c4<0 then
 some 1
 else
 if (200:Int)≤(c2.L.length:Int) then
 some 9
 else
 some 0
noncomputable def kW (sA:av) (p:List UInt8) (value:List UInt8) (owner:Int):Option (av×Int):=
 bd (dE sA p) fun rA=>
 bd (fU p rA.2 sA value owner) fun aV=>
 if !decide (aV=0) then
 some (sA,aV)
 else
 bd (jo 48 sA.L) fun cP=>
 bd (pQ 48 cP rA.1 ([(⟨p,value,0,owner⟩:ae)]:List ae)) fun mP=>
 some ((⟨mP⟩:av),0)
noncomputable def c9 (w:af) (kind:Int):Option (Unit×af):=
 bd (
  if w.x.E=0 then
  if (w.l.length+([(⟨kind,w.o.Path⟩:aC)]:List aC).length) *24≤2^46 then
  some (w.r.Shelf.L,w.r.bF.fE,w.r.bF.L,w.r.ck.L,w.r.Seen,w.o.Client,w.o.Seq,w.o.Kind,w.o.Path,w.o.Value,w.o.Version,w.o.Session,w.o.Span,w.x.Client,w.x.Seq,w.x.E,w.x.Value,w.x.Version,w.x.Names,w.l++([(⟨kind,w.o.Path⟩:aC)]:List aC))
  else none
  else
  some (w.r.Shelf.L,w.r.bF.fE,w.r.bF.L,w.r.ck.L,w.r.Seen,w.o.Client,w.o.Seq,w.o.Kind,w.o.Path,w.o.Value,w.o.Version,w.o.Session,w.o.Span,w.x.Client,w.x.Seq,w.x.E,w.x.Value,w.x.Version,w.x.Names,w.l):Option ((List ae)×Int×(List ay)×(List ak)×(List ai)×Int×Int×Int×(List UInt8)×(List UInt8)×Int×Int×Int×Int×Int×Int×(List UInt8)×Int×(List (List UInt8))×(List aC))) fun w1=>
 some ((),(⟨(⟨(⟨w1.1⟩:av),(⟨w1.2.1,w1.2.2.1⟩:az),(⟨w1.2.2.2.1⟩:bo),w1.2.2.2.2.1⟩:aq),(⟨w1.2.2.2.2.2.1,w1.2.2.2.2.2.2.1,w1.2.2.2.2.2.2.2.1,w1.2.2.2.2.2.2.2.2.1,w1.2.2.2.2.2.2.2.2.2.1,w1.2.2.2.2.2.2.2.2.2.2.1,w1.2.2.2.2.2.2.2.2.2.2.2.1,w1.2.2.2.2.2.2.2.2.2.2.2.2.1⟩:aB),(⟨w1.2.2.2.2.2.2.2.2.2.2.2.2.2.1,w1.2.2.2.2.2.2.2.2.2.2.2.2.2.2.1,w1.2.2.2.2.2.2.2.2.2.2.2.2.2.2.2.1,w1.2.2.2.2.2.2.2.2.2.2.2.2.2.2.2.2.1,w1.2.2.2.2.2.2.2.2.2.2.2.2.2.2.2.2.2.1,w1.2.2.2.2.2.2.2.2.2.2.2.2.2.2.2.2.2.2.1⟩:ai),w1.2.2.2.2.2.2.2.2.2.2.2.2.2.2.2.2.2.2.2⟩:af))
noncomputable def gK (w:af):Option (Unit×af):=
 bd (
  if !decide (w.o.Session=0) then
  bd (p8 w.r.bF w.o.Session) fun rA=>
  some (!rA)
  else
  some false:Option Bool) fun w1=>
 if w1 then
 some ((),(⟨w.r,w.o,(⟨w.x.Client,w.x.Seq,14,w.x.Value,w.x.Version,w.x.Names⟩:ai),w.l⟩:af))
 else
 bd (kW w.r.Shelf w.o.Path w.o.Value w.o.Session) fun aV=>
 bd (c9 (⟨(⟨aV.1,w.r.bF,w.r.ck,w.r.Seen⟩:aq),w.o,(⟨w.x.Client,w.x.Seq,aV.2,w.x.Value,w.x.Version,w.x.Names⟩:ai),w.l⟩:af) 1) fun cP=>
 some ((),cP.2)
noncomputable def kw (w:af):Option (Unit×af):=
 bd (nU w.r.Shelf w.o.Path) fun rA=>
 some ((),(⟨w.r,w.o,(⟨w.x.Client,w.x.Seq,rA.2,rA.1.Value,rA.1.Version,w.x.Names⟩:ai),w.l⟩:af))
noncomputable def dF (sA:av) (p:List UInt8) (version:Int):Option (Int×Int):=
 bd (fj sA p) fun rA=>
 bd (
  if rA.2=0 then
  if !decide (version=(-1)) then
  ix sA.L rA.1 fun y=>
  some (!decide (version=y.Version))
  else
  some false
  else
  some false:Option Bool) fun w=>
 if w then
 some (rA.1,8)
 else
 some (rA.1,rA.2)
noncomputable def tg (sA:av) (p:List UInt8) (value:List UInt8) (version:Int):Option (av×Int):=
 bd (dF sA p version) fun rA=>
 if !decide (rA.2=0) then
 some (sA,rA.2)
 else
 if (1000:Int)<(value.length:Int) then
 some (sA,5)
 else
 ix sA.L rA.1 fun y=>
 if (1000000000:Int)≤y.Version then
 some (sA,9)
 else
 bd (jo 48 sA.L) fun aV=>
 ix aV rA.1 fun y1=>
 ix (aV.set (Int.toNat rA.1) (⟨y1.Path,value,y1.Version,y1.bj⟩:ae)) rA.1 fun y2=>
 ix (aV.set (Int.toNat rA.1) (⟨y1.Path,value,y1.Version,y1.bj⟩:ae)) rA.1 fun y3=>
 some ((⟨(aV.set (Int.toNat rA.1) (⟨y1.Path,value,y1.Version,y1.bj⟩:ae)).set (Int.toNat rA.1) (⟨y3.Path,y3.Value,IntKind.wrap .i64 (y2.Version+1),y3.bj⟩:ae)⟩:av),0)
noncomputable def kz (w:af):Option (Unit×af):=
 bd (tg w.r.Shelf w.o.Path w.o.Value w.o.Version) fun rA=>
 bd (c9 (⟨(⟨rA.1,w.r.bF,w.r.ck,w.r.Seen⟩:aq),w.o,(⟨w.x.Client,w.x.Seq,rA.2,w.x.Value,w.x.Version,w.x.Names⟩:ai),w.l⟩:af) 2) fun aV=>
 bd (
  if aV.2.x.E=0 then
  bd (nU aV.2.r.Shelf aV.2.o.Path) fun cP=>
  some (aV.2.r.Shelf.L,aV.2.r.bF.fE,aV.2.r.bF.L,aV.2.r.ck.L,aV.2.r.Seen,aV.2.o.Client,aV.2.o.Seq,aV.2.o.Kind,aV.2.o.Path,aV.2.o.Value,aV.2.o.Version,aV.2.o.Session,aV.2.o.Span,aV.2.x.Client,aV.2.x.Seq,aV.2.x.E,aV.2.x.Value,cP.1.Version,aV.2.x.Names,aV.2.l)
  else
  some (aV.2.r.Shelf.L,aV.2.r.bF.fE,aV.2.r.bF.L,aV.2.r.ck.L,aV.2.r.Seen,aV.2.o.Client,aV.2.o.Seq,aV.2.o.Kind,aV.2.o.Path,aV.2.o.Value,aV.2.o.Version,aV.2.o.Session,aV.2.o.Span,aV.2.x.Client,aV.2.x.Seq,aV.2.x.E,aV.2.x.Value,aV.2.x.Version,aV.2.x.Names,aV.2.l):Option ((List ae)×Int×(List ay)×(List ak)×(List ai)×Int×Int×Int×(List UInt8)×(List UInt8)×Int×Int×Int×Int×Int×Int×(List UInt8)×Int×(List (List UInt8))×(List aC))) fun w1=>
 some ((),(⟨(⟨(⟨w1.1⟩:av),(⟨w1.2.1,w1.2.2.1⟩:az),(⟨w1.2.2.2.1⟩:bo),w1.2.2.2.2.1⟩:aq),(⟨w1.2.2.2.2.2.1,w1.2.2.2.2.2.2.1,w1.2.2.2.2.2.2.2.1,w1.2.2.2.2.2.2.2.2.1,w1.2.2.2.2.2.2.2.2.2.1,w1.2.2.2.2.2.2.2.2.2.2.1,w1.2.2.2.2.2.2.2.2.2.2.2.1,w1.2.2.2.2.2.2.2.2.2.2.2.2.1⟩:aB),(⟨w1.2.2.2.2.2.2.2.2.2.2.2.2.2.1,w1.2.2.2.2.2.2.2.2.2.2.2.2.2.2.1,w1.2.2.2.2.2.2.2.2.2.2.2.2.2.2.2.1,w1.2.2.2.2.2.2.2.2.2.2.2.2.2.2.2.2.1,w1.2.2.2.2.2.2.2.2.2.2.2.2.2.2.2.2.2.1,w1.2.2.2.2.2.2.2.2.2.2.2.2.2.2.2.2.2.2.1⟩:ai),w1.2.2.2.2.2.2.2.2.2.2.2.2.2.2.2.2.2.2.2⟩:af))
noncomputable def gM (s1:List (List UInt8)) (s2:List (List UInt8)) (st:Int):Option (Int⊕(Unit⊕Bool)):=
 if st<(s1.length:Int) then
 ix s1 st fun y=>
 ix s2 st fun y1=>
 if !decide (y=y1) then
 some (.inr (.inr false))
 else
 some (.inl (IntKind.wrap .i64 (st+1)))
 else
 some (.inr (.inl ()))
noncomputable def eA (s1:List (List UInt8)) (s2:List (List UInt8)):Option Bool:=
 if !decide ((s1.length:Int)=(s2.length:Int)) then
 some false
 else
 bd (Loop (gM s1 s2) 0) fun w=>
 match w with
 | .inl p1=>
  some true
 | .inr p2=>
  some p2
noncomputable def mw (p:List UInt8) (q:List UInt8):Option Bool:=
 bd (fQ p) fun rA=>
 bd (fQ q) fun aV=>
 bd (
  if rA.2 then
  if aV.2 then
  if (rA.1.length:Int)<(aV.1.length:Int) then
  if (0:Int)≤0∧(0:Int)≤(rA.1.length:Int)∧(rA.1.length:Int)≤(aV.1.length:Int) then
  bd (eA rA.1 (List.drop (Int.toNat 0) (List.take (Int.toNat (rA.1.length:Int)) aV.1))) fun cP=>
  some cP
  else none
  else
  some false
  else
  some false
  else
  some false:Option Bool) fun w=>
 some w
noncomputable def mY (sA:av) (p:List UInt8) (version:Int):Option (av×Int):=
 bd (dF sA p version) fun rA=>
 if p=([47]:List UInt8) then
 some (sA,13)
 else
 if !decide (rA.2=0) then
 some (sA,rA.2)
 else
 bd (
  if (IntKind.wrap .i64 (rA.1+1))<(sA.L.length:Int) then
  ix sA.L (IntKind.wrap .i64 (rA.1+1)) fun y=>
  bd (mw p y.Path) fun aV=>
  some aV
  else
  some false:Option Bool) fun w=>
 if w then
 some (sA,10)
 else
 bd (jo 48 sA.L) fun cP=>
 bd (xj cP rA.1 (IntKind.wrap .i64 (rA.1+1))) fun mP=>
 some ((⟨mP⟩:av),0)
noncomputable def gO (w:af):Option (Unit×af):=
 bd (mY w.r.Shelf w.o.Path w.o.Version) fun rA=>
 bd (c9 (⟨(⟨rA.1,w.r.bF,w.r.ck,w.r.Seen⟩:aq),w.o,(⟨w.x.Client,w.x.Seq,rA.2,w.x.Value,w.x.Version,w.x.Names⟩:ai),w.l⟩:af) 3) fun aV=>
 some ((),aV.2)
noncomputable def nV (p:List UInt8):Option ((List (List UInt8))×Int):=
 bd (fQ p) fun rA=>
 if !rA.2 then
 some (([]:List (List UInt8)),13)
 else
 some (rA.1,0)
noncomputable def mZ (a:av) (a1:List UInt8) (rA:Int×Int) (aV:(List (List UInt8))×Int) (st:(List (List UInt8))×Int):Option (((List (List UInt8))×Int)⊕(List (List UInt8))):=
 if st.2<((List.drop (Int.toNat (IntKind.wrap .i64 (rA.1+1))) (List.take (Int.toNat (a.L.length:Int)) a.L)).length:Int) then
 ix (List.drop (Int.toNat (IntKind.wrap .i64 (rA.1+1))) (List.take (Int.toNat (a.L.length:Int)) a.L)) st.2 fun y=>
 bd (mw a1 y.Path) fun cP=>
 if !cP then
 some (.inr st.1)
 else
 bd (nV y.Path) fun mP=>
 bd (
  if (mP.1.length:Int)=(IntKind.wrap .i64 ((aV.1.length:Int)+1)) then
  ix mP.1 (aV.1.length:Int) fun y1=>
  if (st.1.length+([y1]:List (List UInt8)).length) *16≤2^46 then
  some (st.1++([y1]:List (List UInt8)))
  else none
  else
  some st.1:Option (List (List UInt8))) fun w1=>
 some (.inl (w1,IntKind.wrap .i64 (st.2+1)))
 else
 some (.inr st.1)
noncomputable def qv (a:av) (a1:List UInt8):Option ((List (List UInt8))×Int):=
 bd (fj a a1) fun rA=>
 if !decide (rA.2=0) then
 some (([]:List (List UInt8)),rA.2)
 else
 bd (nV a1) fun aV=>
 if (0:Int)≤(IntKind.wrap .i64 (rA.1+1))∧(IntKind.wrap .i64 (rA.1+1))≤(a.L.length:Int)∧(a.L.length:Int)≤(a.L.length:Int) then
 bd (Loop (mZ a a1 rA aV) (([]:List (List UInt8)),0)) fun w=>
 some (w,0)
 else none
noncomputable def jI (w:af):Option (Unit×af):=
 bd (qv w.r.Shelf w.o.Path) fun rA=>
 some ((),(⟨w.r,w.o,(⟨w.x.Client,w.x.Seq,rA.2,w.x.Value,w.x.Version,rA.1⟩:ai),w.l⟩:af))
noncomputable def qw (b:az) (id:Int) (span:Int):Option (az×Int):=
 bd (dz b id) fun rA=>
 bd (
  if id<1 then
  some true
  else
  if span<1 then
  some true
  else
  some (decide ((1000:Int)<span)):Option Bool) fun w=>
 if w then
 some (b,1)
 else
 if rA.2 then
 some (b,7)
 else
 if (50:Int)≤(b.L.length:Int) then
 some (b,9)
 else
 bd (jo 24 b.L) fun aV=>
 bd (pQ 24 aV rA.1 ([(⟨id,span,IntKind.wrap .i64 (b.fE+span)⟩:ay)]:List ay)) fun cP=>
 some ((⟨b.fE,cP⟩:az),0)
noncomputable def jJ (w:af):Option (Unit×af):=
 bd (qw w.r.bF w.o.Session w.o.Span) fun rA=>
 some ((),(⟨(⟨w.r.Shelf,rA.1,w.r.ck,w.r.Seen⟩:aq),w.o,(⟨w.x.Client,w.x.Seq,rA.2,w.x.Value,w.x.Version,w.x.Names⟩:ai),w.l⟩:af))
noncomputable def oL (b:az) (id:Int):Option (az×Int):=
 bd (dz b id) fun rA=>
 if !rA.2 then
 some (b,14)
 else
 bd (jo 24 b.L) fun aV=>
 ix aV rA.1 fun y=>
 ix aV rA.1 fun y1=>
 some ((⟨b.fE,aV.set (Int.toNat rA.1) (⟨y1.Id,y1.Span,IntKind.wrap .i64 (b.fE+y.Span)⟩:ay)⟩:az),0)
noncomputable def iO (w:af):Option (Unit×af):=
 bd (oL w.r.bF w.o.Session) fun rA=>
 some ((),(⟨(⟨w.r.Shelf,rA.1,w.r.ck,w.r.Seen⟩:aq),w.o,(⟨w.x.Client,w.x.Seq,rA.2,w.x.Value,w.x.Version,w.x.Names⟩:ai),w.l⟩:af))
noncomputable def oM (b:az) (id:Int):Option (az×Int):=
 bd (dz b id) fun rA=>
 if !rA.2 then
 some (b,14)
 else
 bd (jo 24 b.L) fun aV=>
 bd (xj aV rA.1 (IntKind.wrap .i64 (rA.1+1))) fun cP=>
 some ((⟨b.fE,cP⟩:az),0)
noncomputable def na (sA:av) (owner:Int) (st:(List (List UInt8))×(List ae)×Int):Option (((List (List UInt8))×(List ae)×Int)⊕((List (List UInt8))×(List ae))):=
 if st.2.2<(sA.L.length:Int) then
 ix sA.L st.2.2 fun y=>
 bd (
  if (0:Int)<owner then
  some (decide (y.bj=owner))
  else
  some false:Option Bool) fun w1=>
 if w1 then
 if (st.1.length+([y.Path]:List (List UInt8)).length) *16≤2^46 then
 some (.inl (st.1++([y.Path]:List (List UInt8)),st.2.1,IntKind.wrap .i64 (st.2.2+1)))
 else none
 else
 if (st.2.1.length+([y]:List ae).length) *48≤2^46 then
 some (.inl (st.1,st.2.1++([y]:List ae),IntKind.wrap .i64 (st.2.2+1)))
 else none
 else
 some (.inr (st.1,st.2.1))
noncomputable def qx (sA:av) (owner:Int):Option (av×(List (List UInt8))):=
 bd (Loop (na sA owner) (([]:List (List UInt8)),([]:List ae),0)) fun w=>
 some ((⟨w.2⟩:av),w.1)
noncomputable def gQ (rA:av×(List (List UInt8))) (st:Int×(List ae)×Int×(List ay)×(List ak)×(List ai)×Int×Int×Int×(List UInt8)×(List UInt8)×Int×Int×Int×Int×Int×Int×(List UInt8)×Int×(List (List UInt8))×(List aC)):Option ((Int×(List ae)×Int×(List ay)×(List ak)×(List ai)×Int×Int×Int×(List UInt8)×(List UInt8)×Int×Int×Int×Int×Int×Int×(List UInt8)×Int×(List (List UInt8))×(List aC))⊕((List ae)×Int×(List ay)×(List ak)×(List ai)×Int×Int×Int×(List UInt8)×(List UInt8)×Int×Int×Int×Int×Int×Int×(List UInt8)×Int×(List (List UInt8))×(List aC))):=
 if st.1<(rA.2.length:Int) then
 ix rA.2 st.1 fun y=>
 if (st.2.2.2.2.2.2.2.2.2.2.2.2.2.2.2.2.2.2.2.2.length+([(⟨3,y⟩:aC)]:List aC).length) *24≤2^46 then
 some (.inl (IntKind.wrap .i64 (st.1+1),st.2.1,st.2.2.1,st.2.2.2.1,st.2.2.2.2.1,st.2.2.2.2.2.1,st.2.2.2.2.2.2.1,st.2.2.2.2.2.2.2.1,st.2.2.2.2.2.2.2.2.1,st.2.2.2.2.2.2.2.2.2.1,st.2.2.2.2.2.2.2.2.2.2.1,st.2.2.2.2.2.2.2.2.2.2.2.1,st.2.2.2.2.2.2.2.2.2.2.2.2.1,st.2.2.2.2.2.2.2.2.2.2.2.2.2.1,st.2.2.2.2.2.2.2.2.2.2.2.2.2.2.1,st.2.2.2.2.2.2.2.2.2.2.2.2.2.2.2.1,st.2.2.2.2.2.2.2.2.2.2.2.2.2.2.2.2.1,st.2.2.2.2.2.2.2.2.2.2.2.2.2.2.2.2.2.1,st.2.2.2.2.2.2.2.2.2.2.2.2.2.2.2.2.2.2.1,st.2.2.2.2.2.2.2.2.2.2.2.2.2.2.2.2.2.2.2.1,st.2.2.2.2.2.2.2.2.2.2.2.2.2.2.2.2.2.2.2.2++([(⟨3,y⟩:aC)]:List aC)))
 else none
 else
 some (.inr (st.2.1,st.2.2.1,st.2.2.2.1,st.2.2.2.2.1,st.2.2.2.2.2.1,st.2.2.2.2.2.2.1,st.2.2.2.2.2.2.2.1,st.2.2.2.2.2.2.2.2.1,st.2.2.2.2.2.2.2.2.2.1,st.2.2.2.2.2.2.2.2.2.2.1,st.2.2.2.2.2.2.2.2.2.2.2.1,st.2.2.2.2.2.2.2.2.2.2.2.2.1,st.2.2.2.2.2.2.2.2.2.2.2.2.2.1,st.2.2.2.2.2.2.2.2.2.2.2.2.2.2.1,st.2.2.2.2.2.2.2.2.2.2.2.2.2.2.2.1,st.2.2.2.2.2.2.2.2.2.2.2.2.2.2.2.2.1,st.2.2.2.2.2.2.2.2.2.2.2.2.2.2.2.2.2.1,st.2.2.2.2.2.2.2.2.2.2.2.2.2.2.2.2.2.2.1,st.2.2.2.2.2.2.2.2.2.2.2.2.2.2.2.2.2.2.2.1,st.2.2.2.2.2.2.2.2.2.2.2.2.2.2.2.2.2.2.2.2))
noncomputable def gw (w:af) (id:Int):Option (Unit×af):=
 bd (qx w.r.Shelf id) fun rA=>
 bd (Loop (gQ rA) (0,rA.1.L,w.r.bF.fE,w.r.bF.L,w.r.ck.L,w.r.Seen,w.o.Client,w.o.Seq,w.o.Kind,w.o.Path,w.o.Value,w.o.Version,w.o.Session,w.o.Span,w.x.Client,w.x.Seq,w.x.E,w.x.Value,w.x.Version,w.x.Names,w.l)) fun w1=>
 some ((),(⟨(⟨(⟨w1.1⟩:av),(⟨w1.2.1,w1.2.2.1⟩:az),(⟨w1.2.2.2.1⟩:bo),w1.2.2.2.2.1⟩:aq),(⟨w1.2.2.2.2.2.1,w1.2.2.2.2.2.2.1,w1.2.2.2.2.2.2.2.1,w1.2.2.2.2.2.2.2.2.1,w1.2.2.2.2.2.2.2.2.2.1,w1.2.2.2.2.2.2.2.2.2.2.1,w1.2.2.2.2.2.2.2.2.2.2.2.1,w1.2.2.2.2.2.2.2.2.2.2.2.2.1⟩:aB),(⟨w1.2.2.2.2.2.2.2.2.2.2.2.2.2.1,w1.2.2.2.2.2.2.2.2.2.2.2.2.2.2.1,w1.2.2.2.2.2.2.2.2.2.2.2.2.2.2.2.1,w1.2.2.2.2.2.2.2.2.2.2.2.2.2.2.2.2.1,w1.2.2.2.2.2.2.2.2.2.2.2.2.2.2.2.2.2.1,w1.2.2.2.2.2.2.2.2.2.2.2.2.2.2.2.2.2.2.1⟩:ai),w1.2.2.2.2.2.2.2.2.2.2.2.2.2.2.2.2.2.2.2⟩:af))
noncomputable def iP (w:af):Option (Unit×af):=
 bd (oM w.r.bF w.o.Session) fun rA=>
 bd (
  if rA.2=0 then
  bd (gw (⟨(⟨w.r.Shelf,rA.1,w.r.ck,w.r.Seen⟩:aq),w.o,(⟨w.x.Client,w.x.Seq,rA.2,w.x.Value,w.x.Version,w.x.Names⟩:ai),w.l⟩:af) w.o.Session) fun aV=>
  some (aV.2.r.Shelf.L,aV.2.r.bF.fE,aV.2.r.bF.L,aV.2.r.ck.L,aV.2.r.Seen,aV.2.o.Client,aV.2.o.Seq,aV.2.o.Kind,aV.2.o.Path,aV.2.o.Value,aV.2.o.Version,aV.2.o.Session,aV.2.o.Span,aV.2.x.Client,aV.2.x.Seq,aV.2.x.E,aV.2.x.Value,aV.2.x.Version,aV.2.x.Names,aV.2.l)
  else
  some (w.r.Shelf.L,rA.1.fE,rA.1.L,w.r.ck.L,w.r.Seen,w.o.Client,w.o.Seq,w.o.Kind,w.o.Path,w.o.Value,w.o.Version,w.o.Session,w.o.Span,w.x.Client,w.x.Seq,rA.2,w.x.Value,w.x.Version,w.x.Names,w.l):Option ((List ae)×Int×(List ay)×(List ak)×(List ai)×Int×Int×Int×(List UInt8)×(List UInt8)×Int×Int×Int×Int×Int×Int×(List UInt8)×Int×(List (List UInt8))×(List aC))) fun w1=>
 some ((),(⟨(⟨(⟨w1.1⟩:av),(⟨w1.2.1,w1.2.2.1⟩:az),(⟨w1.2.2.2.1⟩:bo),w1.2.2.2.2.1⟩:aq),(⟨w1.2.2.2.2.2.1,w1.2.2.2.2.2.2.1,w1.2.2.2.2.2.2.2.1,w1.2.2.2.2.2.2.2.2.1,w1.2.2.2.2.2.2.2.2.2.1,w1.2.2.2.2.2.2.2.2.2.2.1,w1.2.2.2.2.2.2.2.2.2.2.2.1,w1.2.2.2.2.2.2.2.2.2.2.2.2.1⟩:aB),(⟨w1.2.2.2.2.2.2.2.2.2.2.2.2.2.1,w1.2.2.2.2.2.2.2.2.2.2.2.2.2.2.1,w1.2.2.2.2.2.2.2.2.2.2.2.2.2.2.2.1,w1.2.2.2.2.2.2.2.2.2.2.2.2.2.2.2.2.1,w1.2.2.2.2.2.2.2.2.2.2.2.2.2.2.2.2.2.1,w1.2.2.2.2.2.2.2.2.2.2.2.2.2.2.2.2.2.2.1⟩:ai),w1.2.2.2.2.2.2.2.2.2.2.2.2.2.2.2.2.2.2.2⟩:af))
noncomputable def nb (b:az) (now:Int) (st:(List Int)×Int×(List ay)×Int):Option (((List Int)×Int×(List ay)×Int)⊕((List Int)×Int×(List ay))):=
 if st.2.2.2<(b.L.length:Int) then
 ix b.L st.2.2.2 fun y=>
 if y.gz≤now then
 if (st.1.length+([y.Id]:List Int).length) *8≤2^46 then
 some (.inl (st.1++([y.Id]:List Int),st.2.1,st.2.2.1,IntKind.wrap .i64 (st.2.2.2+1)))
 else none
 else
 if (st.2.2.1.length+([y]:List ay).length) *24≤2^46 then
 some (.inl (st.1,st.2.1,st.2.2.1++([y]:List ay),IntKind.wrap .i64 (st.2.2.2+1)))
 else none
 else
 some (.inr (st.1,st.2.1,st.2.2.1))
noncomputable def qy (b:az) (now:Int):Option (az×(List Int)×Int):=
 if now<b.fE then
 some (b,([]:List Int),15)
 else
 if (1000000000:Int)<now then
 some (b,([]:List Int),5)
 else
 bd (Loop (nb b now) (([]:List Int),now,([]:List ay),0)) fun w=>
 some ((⟨w.2.1,w.2.2⟩:az),w.1,0)
noncomputable def gU (rA:az×(List Int)×Int) (st:Int×(List ae)×Int×(List ay)×(List ak)×(List ai)×Int×Int×Int×(List UInt8)×(List UInt8)×Int×Int×Int×Int×Int×Int×(List UInt8)×Int×(List (List UInt8))×(List aC)):Option ((Int×(List ae)×Int×(List ay)×(List ak)×(List ai)×Int×Int×Int×(List UInt8)×(List UInt8)×Int×Int×Int×Int×Int×Int×(List UInt8)×Int×(List (List UInt8))×(List aC))⊕((List ae)×Int×(List ay)×(List ak)×(List ai)×Int×Int×Int×(List UInt8)×(List UInt8)×Int×Int×Int×Int×Int×Int×(List UInt8)×Int×(List (List UInt8))×(List aC))):=
 if st.1<(rA.2.1.length:Int) then
 ix rA.2.1 st.1 fun y=>
 bd (gw (⟨(⟨(⟨st.2.1⟩:av),(⟨st.2.2.1,st.2.2.2.1⟩:az),(⟨st.2.2.2.2.1⟩:bo),st.2.2.2.2.2.1⟩:aq),(⟨st.2.2.2.2.2.2.1,st.2.2.2.2.2.2.2.1,st.2.2.2.2.2.2.2.2.1,st.2.2.2.2.2.2.2.2.2.1,st.2.2.2.2.2.2.2.2.2.2.1,st.2.2.2.2.2.2.2.2.2.2.2.1,st.2.2.2.2.2.2.2.2.2.2.2.2.1,st.2.2.2.2.2.2.2.2.2.2.2.2.2.1⟩:aB),(⟨st.2.2.2.2.2.2.2.2.2.2.2.2.2.2.1,st.2.2.2.2.2.2.2.2.2.2.2.2.2.2.2.1,st.2.2.2.2.2.2.2.2.2.2.2.2.2.2.2.2.1,st.2.2.2.2.2.2.2.2.2.2.2.2.2.2.2.2.2.1,st.2.2.2.2.2.2.2.2.2.2.2.2.2.2.2.2.2.2.1,st.2.2.2.2.2.2.2.2.2.2.2.2.2.2.2.2.2.2.2.1⟩:ai),st.2.2.2.2.2.2.2.2.2.2.2.2.2.2.2.2.2.2.2.2⟩:af) y) fun aV=>
 some (.inl (IntKind.wrap .i64 (st.1+1),aV.2.r.Shelf.L,aV.2.r.bF.fE,aV.2.r.bF.L,aV.2.r.ck.L,aV.2.r.Seen,aV.2.o.Client,aV.2.o.Seq,aV.2.o.Kind,aV.2.o.Path,aV.2.o.Value,aV.2.o.Version,aV.2.o.Session,aV.2.o.Span,aV.2.x.Client,aV.2.x.Seq,aV.2.x.E,aV.2.x.Value,aV.2.x.Version,aV.2.x.Names,aV.2.l))
 else
 some (.inr (st.2.1,st.2.2.1,st.2.2.2.1,st.2.2.2.2.1,st.2.2.2.2.2.1,st.2.2.2.2.2.2.1,st.2.2.2.2.2.2.2.1,st.2.2.2.2.2.2.2.2.1,st.2.2.2.2.2.2.2.2.2.1,st.2.2.2.2.2.2.2.2.2.2.1,st.2.2.2.2.2.2.2.2.2.2.2.1,st.2.2.2.2.2.2.2.2.2.2.2.2.1,st.2.2.2.2.2.2.2.2.2.2.2.2.2.1,st.2.2.2.2.2.2.2.2.2.2.2.2.2.2.1,st.2.2.2.2.2.2.2.2.2.2.2.2.2.2.2.1,st.2.2.2.2.2.2.2.2.2.2.2.2.2.2.2.2.1,st.2.2.2.2.2.2.2.2.2.2.2.2.2.2.2.2.2.1,st.2.2.2.2.2.2.2.2.2.2.2.2.2.2.2.2.2.2.1,st.2.2.2.2.2.2.2.2.2.2.2.2.2.2.2.2.2.2.2.1,st.2.2.2.2.2.2.2.2.2.2.2.2.2.2.2.2.2.2.2.2))
noncomputable def jK (w:af):Option (Unit×af):=
 bd (qy w.r.bF w.o.Span) fun rA=>
 if !decide (rA.2.2=0) then
 some ((),(⟨w.r,w.o,(⟨w.x.Client,w.x.Seq,rA.2.2,w.x.Value,w.x.Version,w.x.Names⟩:ai),w.l⟩:af))
 else
 bd (Loop (gU rA) (0,w.r.Shelf.L,rA.1.fE,rA.1.L,w.r.ck.L,w.r.Seen,w.o.Client,w.o.Seq,w.o.Kind,w.o.Path,w.o.Value,w.o.Version,w.o.Session,w.o.Span,w.x.Client,w.x.Seq,rA.2.2,w.x.Value,rA.1.fE,w.x.Names,w.l)) fun w1=>
 some ((),(⟨(⟨(⟨w1.1⟩:av),(⟨w1.2.1,w1.2.2.1⟩:az),(⟨w1.2.2.2.1⟩:bo),w1.2.2.2.2.1⟩:aq),(⟨w1.2.2.2.2.2.1,w1.2.2.2.2.2.2.1,w1.2.2.2.2.2.2.2.1,w1.2.2.2.2.2.2.2.2.1,w1.2.2.2.2.2.2.2.2.2.1,w1.2.2.2.2.2.2.2.2.2.2.1,w1.2.2.2.2.2.2.2.2.2.2.2.1,w1.2.2.2.2.2.2.2.2.2.2.2.2.1⟩:aB),(⟨w1.2.2.2.2.2.2.2.2.2.2.2.2.2.1,w1.2.2.2.2.2.2.2.2.2.2.2.2.2.2.1,w1.2.2.2.2.2.2.2.2.2.2.2.2.2.2.2.1,w1.2.2.2.2.2.2.2.2.2.2.2.2.2.2.2.2.1,w1.2.2.2.2.2.2.2.2.2.2.2.2.2.2.2.2.2.1,w1.2.2.2.2.2.2.2.2.2.2.2.2.2.2.2.2.2.2.1⟩:ai),w1.2.2.2.2.2.2.2.2.2.2.2.2.2.2.2.2.2.2.2⟩:af))
noncomputable def du (sA:List ak) (v:ak) (st:Int):Option (Int⊕(Unit⊕Int)):=
 if st<(sA.length:Int) then
 ix sA st fun y=>
 if ((decide (v.Path=y.Path))&&((decide (v.Client=y.Client))&&(decide (v.Kids=y.Kids)))) then
 some (.inr (.inr st))
 else
 some (.inl (IntKind.wrap .i64 (st+1)))
 else
 some (.inr (.inl ()))
noncomputable def fG (sA:List ak) (v:ak):Option Int:=
 bd (Loop (du sA v) 0) fun w=>
 match w with
 | .inl p1=>
  some (-1)
 | .inr p2=>
  some p2
noncomputable def di (sA:List ak) (v:ak):Option Bool:=
 bd (fG sA v) fun rA=>
 some (decide ((0:Int)≤rA))
noncomputable def p9 (t:bo) (w:ak):Option (bo×Int):=
 bd (fR w.Path) fun rA=>
 if !rA then
 some (t,13)
 else
 if w.Client<0 then
 some (t,1)
 else
 bd (di t.L w) fun aV=>
 if aV then
 some (t,0)
 else
 if (200:Int)≤(t.L.length:Int) then
 some (t,9)
 else
 bd (jo 32 t.L) fun cP=>
 if (cP.length+([w]:List ak).length) *32≤2^46 then
 some ((⟨cP++([w]:List ak)⟩:bo),0)
 else none
noncomputable def iQ (w:af):Option (Unit×af):=
 bd (p9 w.r.ck (⟨w.o.Path,w.o.Client,decide (w.o.Kind=11)⟩:ak)) fun rA=>
 some ((),(⟨(⟨w.r.Shelf,w.r.bF,rA.1,w.r.Seen⟩:aq),w.o,(⟨w.x.Client,w.x.Seq,rA.2,w.x.Value,w.x.Version,w.x.Names⟩:ai),w.l⟩:af))
noncomputable def qz:Option (List Nat):=
 some ([(105:Nat),(106:Nat),(107:Nat),(108:Nat),(109:Nat),(110:Nat),(111:Nat),(112:Nat),(113:Nat),(114:Nat),(115:Nat),(115:Nat)]:List Nat)
noncomputable def lI (c:aC) (w:ak):Option Bool:=
 bd (
  if c.Kind<1 then
  some true
  else
  if (3:Int)<c.Kind then
  some true
  else
  bd (fR c.Path) fun rA=>
  some (!rA):Option Bool) fun w1=>
 if w1 then
 some false
 else
 if !w.Kids then
 some (decide (c.Path=w.Path))
 else
 bd (kv c.Path) fun aV=>
 bd (
  if aV.2=0 then
  if !decide (c.Kind=2) then
  some (decide (aV.1=w.Path))
  else
  some false
  else
  some false:Option Bool) fun w2=>
 some w2
noncomputable def kX (w:ak) (c:aC) (c1:List bA):Option (Bool×(List bA)):=
 bd (lI c w) fun rA=>
 bd (
  if rA then
  if (c1.length+([(⟨w,c⟩:bA)]:List bA).length) *56≤2^46 then
  some (c1++([(⟨w,c⟩:bA)]:List bA))
  else none
  else
  some c1:Option (List bA)) fun w1=>
 some (rA,w1)
noncomputable def nd (lA:List aC) (st:(List ak)×(List bA)×Int):Option (((List ak)×(List bA)×Int)⊕((List ak)×(List bA))):=
 if st.2.2<(lA.length:Int) then
 ix lA st.2.2 fun y=>
 bd (zC (fun u sA=>kX u y sA) st.2.1 st.1) fun aV=>
 some (.inl (aV.1,aV.2,IntKind.wrap .i64 (st.2.2+1)))
 else
 some (.inr (st.1,st.2.1))
noncomputable def qA (t:bo) (lA:List aC):Option (bo×(List bA)):=
 bd (jo 32 t.L) fun rA=>
 bd (Loop (nd lA) (rA,([]:List bA),0)) fun w=>
 some ((⟨w.1⟩:bo),w.2)
noncomputable def lJ (k:Nat) (x0:af):Option (Unit×af):=
 if k=105 then mu x0 else if k=106 then gK x0 else if k=107 then kw x0 else if k=108 then kz x0 else if k=109 then gO x0 else if k=110 then jI x0 else if k=111 then jJ x0 else if k=112 then iO x0 else if k=113 then iP x0 else if k=114 then jK x0 else if k=115 then iQ x0 else none
noncomputable def kA (a:aq) (a1:aB):Option (aq×ai×(List bA)):=
 bd (iN a a1) fun rA=>
 if rA.2 then
 some (a,rA.1,([]:List bA))
 else
 bd (qz) fun aV=>
 ix aV a1.Kind fun y=>
 bd (lJ y (⟨a,a1,rA.1,([]:List aC)⟩:af)) fun cP=>
 bd (qA cP.2.r.ck cP.2.l) fun mP=>
 bd (jo 72 a.Seen) fun Fy=>
 bd (ez a a1.Client) fun Mj=>
 bd (
  if Mj.2 then
  ix Fy Mj.1 fun y1=>
  some (cP.2.r.Shelf.L,cP.2.r.bF.fE,cP.2.r.bF.L,mP.1.L,Fy.set (Int.toNat Mj.1) cP.2.x,cP.2.o.Client,cP.2.o.Seq,cP.2.o.Kind,cP.2.o.Path,cP.2.o.Value,cP.2.o.Version,cP.2.o.Session,cP.2.o.Span,cP.2.x.Client,cP.2.x.Seq,cP.2.x.E,cP.2.x.Value,cP.2.x.Version,cP.2.x.Names,cP.2.l)
  else
  bd (pQ 72 Fy Mj.1 ([cP.2.x]:List ai)) fun VM=>
  some (cP.2.r.Shelf.L,cP.2.r.bF.fE,cP.2.r.bF.L,mP.1.L,VM,cP.2.o.Client,cP.2.o.Seq,cP.2.o.Kind,cP.2.o.Path,cP.2.o.Value,cP.2.o.Version,cP.2.o.Session,cP.2.o.Span,cP.2.x.Client,cP.2.x.Seq,cP.2.x.E,cP.2.x.Value,cP.2.x.Version,cP.2.x.Names,cP.2.l):Option ((List ae)×Int×(List ay)×(List ak)×(List ai)×Int×Int×Int×(List UInt8)×(List UInt8)×Int×Int×Int×Int×Int×Int×(List UInt8)×Int×(List (List UInt8))×(List aC))) fun w=>
 some ((⟨(⟨w.1⟩:av),(⟨w.2.1,w.2.2.1⟩:az),(⟨w.2.2.2.1⟩:bo),w.2.2.2.2.1⟩:aq),(⟨w.2.2.2.2.2.2.2.2.2.2.2.2.2.1,w.2.2.2.2.2.2.2.2.2.2.2.2.2.2.1,w.2.2.2.2.2.2.2.2.2.2.2.2.2.2.2.1,w.2.2.2.2.2.2.2.2.2.2.2.2.2.2.2.2.1,w.2.2.2.2.2.2.2.2.2.2.2.2.2.2.2.2.2.1,w.2.2.2.2.2.2.2.2.2.2.2.2.2.2.2.2.2.2.1⟩:ai),mP.2)
noncomputable def AF:Option av:=
 some (⟨([(⟨([47]:List UInt8),([]:List UInt8),0,0⟩:ae)]:List ae)⟩:av)
noncomputable def AG:Option az:=
 some (⟨0,([]:List ay)⟩:az)
noncomputable def th:Option aq:=
 bd (AF) fun rA=>
 bd (AG) fun aV=>
 some (⟨rA,aV,(⟨([]:List ak)⟩:bo),([]:List ai)⟩:aq)
noncomputable def fb (s1:List ae) (s2:List ae) (st:Int):Option (Int⊕(Unit⊕Bool)):=
 if st<(s1.length:Int) then
 ix s1 st fun y=>
 ix s2 st fun y1=>
 if !((decide (y.Path=y1.Path))&&((decide (y.Value=y1.Value))&&((decide (y.Version=y1.Version))&&(decide (y.bj=y1.bj))))) then
 some (.inr (.inr false))
 else
 some (.inl (IntKind.wrap .i64 (st+1)))
 else
 some (.inr (.inl ()))
noncomputable def gj (s1:List ae) (s2:List ae):Option Bool:=
 if !decide ((s1.length:Int)=(s2.length:Int)) then
 some false
 else
 bd (Loop (fb s1 s2) 0) fun w=>
 match w with
 | .inl p1=>
  some true
 | .inr p2=>
  some p2
noncomputable def qB (a:av) (b:av):Option Bool:=
 bd (gj a.L b.L) fun rA=>
 some rA
noncomputable def da (s1:List ay) (s2:List ay) (st:Int):Option (Int⊕(Unit⊕Bool)):=
 if st<(s1.length:Int) then
 ix s1 st fun y=>
 ix s2 st fun y1=>
 if !((decide (y.Id=y1.Id))&&((decide (y.Span=y1.Span))&&(decide (y.gz=y1.gz)))) then
 some (.inr (.inr false))
 else
 some (.inl (IntKind.wrap .i64 (st+1)))
 else
 some (.inr (.inl ()))
noncomputable def dv (s1:List ay) (s2:List ay):Option Bool:=
 if !decide ((s1.length:Int)=(s2.length:Int)) then
 some false
 else
 bd (Loop (da s1 s2) 0) fun w=>
 match w with
 | .inl p1=>
  some true
 | .inr p2=>
  some p2
noncomputable def qC (a:az) (b:az):Option Bool:=
 bd (
  if a.fE=b.fE then
  bd (dv a.L b.L) fun rA=>
  some rA
  else
  some false:Option Bool) fun w=>
 some w
noncomputable def dw (s1:List ak) (s2:List ak) (st:Int):Option (Int⊕(Unit⊕Bool)):=
 if st<(s1.length:Int) then
 ix s1 st fun y=>
 ix s2 st fun y1=>
 if !((decide (y.Path=y1.Path))&&((decide (y.Client=y1.Client))&&(decide (y.Kids=y1.Kids)))) then
 some (.inr (.inr false))
 else
 some (.inl (IntKind.wrap .i64 (st+1)))
 else
 some (.inr (.inl ()))
noncomputable def dV (s1:List ak) (s2:List ak):Option Bool:=
 if !decide ((s1.length:Int)=(s2.length:Int)) then
 some false
 else
 bd (Loop (dw s1 s2) 0) fun w=>
 match w with
 | .inl p1=>
  some true
 | .inr p2=>
  some p2
noncomputable def qD (a:bo) (b:bo):Option Bool:=
 bd (dV a.L b.L) fun rA=>
 some rA
noncomputable def kC (a:ai) (b:ai):Option Bool:=
 bd (
  if a.Client=b.Client then
  if a.Seq=b.Seq then
  if a.E=b.E then
  if a.Value=b.Value then
  if a.Version=b.Version then
  bd (eA a.Names b.Names) fun rA=>
  some rA
  else
  some false
  else
  some false
  else
  some false
  else
  some false
  else
  some false:Option Bool) fun w=>
 some w
noncomputable def bg (s1:List ai) (s2:List ai) (eq:ai→ai→Option Bool) (st:Int):Option (Int⊕(Unit⊕Bool)):=
 if st<(s1.length:Int) then
 ix s1 st fun y=>
 ix s2 st fun y1=>
 bd (eq y y1) fun rA=>
 if !rA then
 some (.inr (.inr false))
 else
 some (.inl (IntKind.wrap .i64 (st+1)))
 else
 some (.inr (.inl ()))
noncomputable def bl (s1:List ai) (s2:List ai) (eq:ai→ai→Option Bool):Option Bool:=
 if !decide ((s1.length:Int)=(s2.length:Int)) then
 some false
 else
 bd (Loop (bg s1 s2 eq) 0) fun w=>
 match w with
 | .inl p1=>
  some true
 | .inr p2=>
  some p2
noncomputable def qE (a:aq) (b:aq):Option Bool:=
 bd (
  bd (qB a.Shelf b.Shelf) fun rA=>
  if rA then
  bd (qC a.bF b.bF) fun aV=>
  if aV then
  bd (qD a.ck b.ck) fun cP=>
  if cP then
  bd (bl a.Seen b.Seen kC) fun mP=>
  some mP
  else
  some false
  else
  some false
  else
  some false:Option Bool) fun w=>
 some w
noncomputable def qa:Option Bool:=
 bd (th) fun rA=>
 bd (kA rA (⟨1,1,1,([47,97]:List UInt8),([120]:List UInt8),0,0,0⟩:aB)) fun aV=>
 bd (kA aV.1 (⟨1,1,1,([47,97]:List UInt8),([120]:List UInt8),0,0,0⟩:aB)) fun cP=>
 bd (nS cP.1 1) fun mP=>
 bd (
  if aV.2.1.E=0 then
  if cP.2.1.E=0 then
  if (aV.1.Shelf.L.length:Int)=2 then
  bd (qE aV.1 cP.1) fun Fy=>
  if Fy then
  if mP.2 then
  some (decide (mP.1.Seq=1))
  else
  some false
  else
  some false
  else
  some false
  else
  some false
  else
  some false:Option Bool) fun w=>
 some w
noncomputable def eB (x:ae) (c:List UInt8):Option Bool:=
 some (decide (x.Path=c))
noncomputable def cU (sA:List ae) (f:ae→Option Bool) (st:Int):Option (Int⊕(Unit⊕Int)):=
 if st<(sA.length:Int) then
 ix sA st fun y=>
 bd (f y) fun rA=>
 if rA then
 some (.inr (.inr st))
 else
 some (.inl (IntKind.wrap .i64 (st+1)))
 else
 some (.inr (.inl ()))
noncomputable def cA (sA:List ae) (f:ae→Option Bool):Option Int:=
 bd (Loop (cU sA f) 0) fun w=>
 match w with
 | .inl p1=>
  some (-1)
 | .inr p2=>
  some p2
noncomputable def iR (sA:av) (n:ae):Option Bool:=
 bd (kv n.Path) fun rA=>
 if !decide (rA.2=0) then
 some (decide (n.bj=0))
 else
 bd (cA sA.L (fun u=>eB u rA.1)) fun aV=>
 bd (
  if (0:Int)≤aV then
  ix sA.L aV fun y=>
  some (decide (y.bj=0))
  else
  some false:Option Bool) fun w=>
 some w
noncomputable def lK (a:av) (st:Int):Option (Int⊕(Unit⊕Bool)):=
 if st<(a.L.length:Int) then
 ix a.L st fun y1=>
 bd (
  bd (fR y1.Path) fun rA=>
  if !rA then
  some true
  else
  if (1000:Int)<(y1.Value.length:Int) then
  some true
  else
  if y1.Version<0 then
  some true
  else
  if (1000000000:Int)<y1.Version then
  some true
  else
  if y1.bj<0 then
  some true
  else
  bd (iR a y1) fun aV=>
  some (!aV):Option Bool) fun w2=>
 if w2 then
 some (.inr (.inr false))
 else
 bd (
  if (0:Int)<st then
  ix a.L (IntKind.wrap .i64 (st-1)) fun y2=>
  bd (nT y2.Path y1.Path) fun cP=>
  some (!cP)
  else
  some false:Option Bool) fun w3=>
 if w3 then
 some (.inr (.inr false))
 else
 some (.inl (IntKind.wrap .i64 (st+1)))
 else
 some (.inr (.inl ()))
noncomputable def oN (a:av):Option Bool:=
 bd (
  if (a.L.length:Int)<1 then
  some true
  else
  if (200:Int)<(a.L.length:Int) then
  some true
  else
  ix a.L 0 fun y=>
  some (!decide (y.Path=([47]:List UInt8))):Option Bool) fun w=>
 if w then
 some false
 else
 bd (Loop (lK a) 0) fun w1=>
 match w1 with
 | .inl p1=>
  some true
 | .inr p2=>
  some p2
noncomputable def lL (a:az) (st:Int):Option (Int⊕(Unit⊕Bool)):=
 if st<(a.L.length:Int) then
 ix a.L st fun y=>
 bd (
  if st=0 then
  some true
  else
  ix a.L (IntKind.wrap .i64 (st-1)) fun y1=>
  some (decide (y1.Id<y.Id)):Option Bool) fun w2=>
 bd (
  if !w2 then
  some true
  else
  if y.Id<1 then
  some true
  else
  if y.Span<1 then
  some true
  else
  if (1000:Int)<y.Span then
  some true
  else
  if y.gz≤a.fE then
  some true
  else
  some (decide ((IntKind.wrap .i64 (a.fE+y.Span))<y.gz)):Option Bool) fun w3=>
 if w3 then
 some (.inr (.inr false))
 else
 some (.inl (IntKind.wrap .i64 (st+1)))
 else
 some (.inr (.inl ()))
noncomputable def oO (a:az):Option Bool:=
 bd (
  if a.fE<0 then
  some true
  else
  if (1000000000:Int)<a.fE then
  some true
  else
  some (decide ((50:Int)<(a.L.length:Int))):Option Bool) fun w=>
 if w then
 some false
 else
 bd (Loop (lL a) 0) fun w1=>
 match w1 with
 | .inl p1=>
  some true
 | .inr p2=>
  some p2
noncomputable def sB (t:bo) (st:(List MV)×Int):Option (((List MV)×Int)⊕(Unit⊕Bool)):=
 if st.2<(t.L.length:Int) then
 ix t.L st.2 fun y=>
 bd (
  bd (fR y.Path) fun rA=>
  if !rA then
  some true
  else
  if y.Client<0 then
  some true
  else
  some (vN st.1 ([.s y.Path,.i .i64 y.Client,.b y.Kids]:List MV)):Option Bool) fun w1=>
 if w1 then
 some (.inr (.inr false))
 else
 some (.inl (tQ (tP st.1 ([.s y.Path,.i .i64 y.Client,.b y.Kids]:List MV) (.b false)) (cJ st.1 ([.s y.Path,.i .i64 y.Client,.b y.Kids]:List MV)) (.b true),IntKind.wrap .i64 (st.2+1)))
 else
 some (.inr (.inl ()))
noncomputable def kD (t:bo):Option Bool:=
 bd (Loop (sB t) (([]:List MV),0)) fun w=>
 match w with
 | .inl p1=>
  some (decide ((t.L.length:Int)≤200))
 | .inr p2=>
  some p2
noncomputable def lM (rA:aq) (st:Int×Int):Option ((Int×Int)⊕(Unit⊕Bool)):=
 if st.2<(rA.Seen.length:Int) then
 ix rA.Seen st.2 fun y=>
 bd (
  if y.Client≤st.1 then
  some true
  else
  if (1000:Int)<y.Client then
  some true
  else
  some (decide (y.Seq<1)):Option Bool) fun w2=>
 if w2 then
 some (.inr (.inr false))
 else
 some (.inl (y.Client,IntKind.wrap .i64 (st.2+1)))
 else
 some (.inr (.inl ()))
noncomputable def oP (rA:aq):Option Bool:=
 bd (
  bd (oN rA.Shelf) fun aV=>
  if !aV then
  some true
  else
  bd (oO rA.bF) fun cP=>
  if !cP then
  some true
  else
  bd (kD rA.ck) fun mP=>
  if !mP then
  some true
  else
  some (decide ((50:Int)<(rA.Seen.length:Int))):Option Bool) fun w=>
 if w then
 some false
 else
 bd (Loop (lM rA) ((-1),0)) fun w1=>
 match w1 with
 | .inl p1=>
  some true
 | .inr p2=>
  some p2
noncomputable def gV (mP:aq×ai×(List bA)) (eE:Int):Option (Int⊕(Unit⊕Bool)):=
 if eE<(mP.1.Shelf.L.length:Int) then
 ix mP.1.Shelf.L eE fun y1=>
 bd (
  if y1.bj<0 then
  some true
  else
  if (0:Int)<y1.bj then
  bd (p8 mP.1.bF y1.bj) fun Fy=>
  some (!Fy)
  else
  some false:Option Bool) fun w2=>
 if w2 then
 some (.inr (.inr false))
 else
 some (.inl (IntKind.wrap .i64 (eE+1)))
 else
 some (.inr (.inl ()))
noncomputable def gX (a:List aB) (st:(List ae)×Int×(List ay)×(List ak)×(List ai)×Int):Option (((List ae)×Int×(List ay)×(List ak)×(List ai)×Int)⊕(Unit⊕Bool)):=
 if st.2.2.2.2.2<(a.length:Int) then
 ix a st.2.2.2.2.2 fun y=>
 bd (kA (⟨(⟨st.1⟩:av),(⟨st.2.1,st.2.2.1⟩:az),(⟨st.2.2.2.1⟩:bo),st.2.2.2.2.1⟩:aq) y) fun mP=>
 bd (Loop (gV mP) 0) fun w1=>
 match w1 with
 | .inl p2=>
  bd (oP mP.1) fun Mj=>
  if !Mj then
  some (.inr (.inr false))
  else
  some (.inl (mP.1.Shelf.L,mP.1.bF.fE,mP.1.bF.L,mP.1.ck.L,mP.1.Seen,IntKind.wrap .i64 (st.2.2.2.2.2+1)))
 | .inr p3=>
  some (.inr (.inr p3))
 else
 some (.inr (.inl ()))
noncomputable def ma (a:List aB):Option Bool:=
 bd (tf a) fun rA=>
 if !rA then
 bd (qa) fun aV=>
 some aV
 else
 bd (th) fun cP=>
 bd (Loop (gX a) (cP.Shelf.L,cP.bF.fE,cP.bF.L,cP.ck.L,cP.Seen,0)) fun w=>
 match w with
 | .inl p4=>
  bd (qa) fun VM=>
  some VM
 | .inr p5=>
  some p5
end Dn.S
