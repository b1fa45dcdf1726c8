import Derived.Test.YtbkodohojpchjaaGreatDoorDnC
/-
  The functions, on typed values. Conditions: none.
-/
open Go Dn
set_option linter.unusedVariables false
set_option linter.unusedSimpArgs false
set_option maxRecDepth 100000
namespace Dn.S
structure ae where
 Path:List UInt8
 Value:List UInt8
 Version:Int
 cS:Int
deriving DecidableEq
@[reducible] def Je (x : ae) : List MV := [.s x.Path, .s x.Value, .i .i64 x.Version, .i .i64 x.cS]
@[reducible] def aP (x : ae) : MV := .agg (Je x)
structure aB where
 L:List ae
deriving DecidableEq
@[reducible] def Hh (x : aB) : List MV := [.list (x.L.map aP)]
@[reducible] def b2 (x : aB) : MV := .agg (Hh x)
structure ar where
 Id:Int
 Span:Int
 jJ:Int
deriving DecidableEq
@[reducible] def CY (x : ar) : List MV := [.i .i64 x.Id, .i .i64 x.Span, .i .i64 x.jJ]
@[reducible] def aQ (x : ar) : MV := .agg (CY x)
structure aD where
 fQ:Int
 L:List ar
deriving DecidableEq
@[reducible] def Jf (x : aD) : List MV := [.i .i64 x.fQ, .list (x.L.map aQ)]
@[reducible] def c8 (x : aD) : MV := .agg (Jf x)
structure ak where
 Path:List UInt8
 Client:Int
 Kids:Bool
deriving DecidableEq
@[reducible] def Hi (x : ak) : List MV := [.s x.Path, .i .i64 x.Client, .b x.Kids]
@[reducible] def aW (x : ak) : MV := .agg (Hi x)
structure bB where
 L:List ak
deriving DecidableEq
@[reducible] def Hj (x : bB) : List MV := [.list (x.L.map aW)]
@[reducible] def jt (x : bB) : MV := .agg (Hj x)
structure ai where
 Client:Int
 Seq:Int
 E:Int
 Value:List UInt8
 Version:Int
 Names:List (List UInt8)
deriving DecidableEq
@[reducible] def Hk (x : ai) : List MV := [.i .i64 x.Client, .i .i64 x.Seq, .i .i64 x.E, .s x.Value, .i .i64 x.Version, .list (x.Names.map MV.s)]
@[reducible] def aY (x : ai) : MV := .agg (Hk x)
structure au where
 Shelf:aB
 bM:aD
 bk:bB
 Seen:List ai
deriving DecidableEq
@[reducible] def Hl (x : au) : List MV := [.list (x.Shelf.L.map aP), .i .i64 x.bM.fQ, .list (x.bM.L.map aQ), .list (x.bk.L.map aW), .list (x.Seen.map aY)]
@[reducible] def fp (x : au) : MV := .agg (Hl x)
structure av where
 Client:Int
 Seq:Int
 Kind:Int
 Path:List UInt8
 Value:List UInt8
 Version:Int
 Session:Int
 Span:Int
deriving DecidableEq
@[reducible] def Hm (x : av) : List MV := [.i .i64 x.Client, .i .i64 x.Seq, .i .i64 x.Kind, .s x.Path, .s x.Value, .i .i64 x.Version, .i .i64 x.Session, .i .i64 x.Span]
@[reducible] def cy (x : av) : MV := .agg (Hm x)
structure UH where
 Path:List UInt8
 Value:List UInt8
 Version:Int
 cS:Int
deriving DecidableEq
structure CZ where
 L:List UH
deriving DecidableEq
structure K7 where
 Id:Int
 Span:Int
 jJ:Int
deriving DecidableEq
structure UI where
 fQ:Int
 L:List K7
deriving DecidableEq
structure Jg where
 Path:List UInt8
 Client:Int
 Kids:Bool
deriving DecidableEq
structure RD where
 L:List Jg
deriving DecidableEq
structure RE where
 Client:Int
 Seq:Int
 E:Int
 Value:List UInt8
 Version:Int
 Names:List (List UInt8)
deriving DecidableEq
structure abi where
 Shelf:CZ
 bM:UI
 bk:RD
 Seen:List RE
deriving DecidableEq
structure aA where
 Kind:Int
 Path:List UInt8
deriving DecidableEq
@[reducible] def EG (x : aA) : List MV := [.i .i64 x.Kind, .s x.Path]
@[reducible] def eG (x : aA) : MV := .agg (EG x)
structure af where
 r:au
 o:av
 x:ai
 l:List aA
deriving DecidableEq
@[reducible] def bo (x : af) : List MV := [.list (x.r.Shelf.L.map aP), .i .i64 x.r.bM.fQ, .list (x.r.bM.L.map aQ), .list (x.r.bk.L.map aW), .list (x.r.Seen.map aY), .i .i64 x.o.Client, .i .i64 x.o.Seq, .i .i64 x.o.Kind, .s x.o.Path, .s x.o.Value, .i .i64 x.o.Version, .i .i64 x.o.Session, .i .i64 x.o.Span, .i .i64 x.x.Client, .i .i64 x.x.Seq, .i .i64 x.x.E, .s x.x.Value, .i .i64 x.x.Version, .list (x.x.Names.map MV.s), .list (x.l.map eG)]
structure bn where
 W:ak
 C:aA
deriving DecidableEq
@[reducible] def Hn (x : bn) : List MV := [.s x.W.Path, .i .i64 x.W.Client, .b x.W.Kids, .i .i64 x.C.Kind, .s x.C.Path]
@[reducible] def cf (x : bn) : MV := .agg (Hn x)
structure abj where
 Client:Int
 Seq:Int
 Kind:Int
 Path:List UInt8
 Value:List UInt8
 Version:Int
 Session:Int
 Span:Int
deriving DecidableEq
structure Ob where
 Kind:Int
 Path:List UInt8
deriving DecidableEq
structure abk where
 W:Jg
 C:Ob
deriving DecidableEq
noncomputable def q0 (lA:List av) (st:Int):Option (Int⊕(Unit⊕Bool)):=
 if st<(lA.length:Int) then
 bd (
  if st=30 then
  some true
  else
  ix lA st fun y=>
  if (200:Int)<(y.Path.length:Int) then
  some true
  else
  ix lA st fun y1=>
  some (decide ((1100:Int)<(y1.Value.length:Int))):Option Bool) fun w1=>
 if w1 then
 some (.inr (.inr false))
 else
 some (.inl (IntKind.wrap .i64 (st+1)))
 else
 some (.inr (.inl ()))
noncomputable def sD (lA:List av):Option Bool:=
 bd (Loop (q0 lA) 0) fun w=>
 match w with
 | .inl p1=>
  some true
 | .inr p2=>
  some p2
noncomputable def RF (sA:CZ) (p:List UInt8) (st:Int):Option (Int⊕(Unit⊕Int)):=
 if st<(sA.L.length:Int) then
 ix sA.L st fun y=>
 if y.Path=p then
 some (.inr (.inr st))
 else
 some (.inl (IntKind.wrap .i64 (st+1)))
 else
 some (.inr (.inl ()))
noncomputable def aff (sA:CZ) (p:List UInt8):Option Int:=
 bd (Loop (RF sA p) 0) fun w=>
 match w with
 | .inl p3=>
  some (-1)
 | .inr p4=>
  some p4
noncomputable def ji (o:av):Option av:=
 if o.Kind=1 then
 some (⟨o.Client,o.Seq,o.Kind,o.Path,o.Value,0,o.Session,0⟩:av)
 else
 bd (
  if o.Kind=2 then
  some (decide (o.Kind=2))
  else
  bd (
   if o.Kind=5 then
   some (decide (o.Kind=5))
   else
   bd (
    if o.Kind=10 then
    some (decide (o.Kind=10))
    else
    some (decide (o.Kind=11)):Option Bool) fun w2=>
   some w2:Option Bool) fun w1=>
  some w1:Option Bool) fun w=>
 if w then
 some (⟨o.Client,o.Seq,o.Kind,o.Path,([]:List UInt8),0,0,0⟩:av)
 else
 if o.Kind=3 then
 some (⟨o.Client,o.Seq,o.Kind,o.Path,o.Value,o.Version,0,0⟩:av)
 else
 if o.Kind=4 then
 some (⟨o.Client,o.Seq,o.Kind,o.Path,([]:List UInt8),o.Version,0,0⟩:av)
 else
 if o.Kind=6 then
 some (⟨o.Client,o.Seq,o.Kind,([]:List UInt8),([]:List UInt8),0,o.Session,o.Span⟩:av)
 else
 bd (
  if o.Kind=7 then
  some (decide (o.Kind=7))
  else
  some (decide (o.Kind=8)):Option Bool) fun w3=>
 if w3 then
 some (⟨o.Client,o.Seq,o.Kind,([]:List UInt8),([]:List UInt8),0,o.Session,0⟩:av)
 else
 if o.Kind=9 then
 some (⟨o.Client,o.Seq,o.Kind,([]:List UInt8),([]:List UInt8),0,0,o.Span⟩:av)
 else
 some (⟨o.Client,o.Seq,o.Kind,([]:List UInt8),([]:List UInt8),0,0,0⟩:av)
noncomputable def ny (o:av):Option Bool:=
 bd (
  if (0:Int)≤o.Client then
  if o.Client≤1000 then
  if (1:Int)≤o.Seq then
  some (decide (o.Seq≤1000000000))
  else
  some false
  else
  some false
  else
  some false:Option Bool) fun w=>
 bd (
  if w then
  if (0:Int)≤o.Kind then
  if o.Kind≤11 then
  if (o.Path.length:Int)≤100 then
  if (o.Value.length:Int)≤1000 then
  bd (ji o) fun rA=>
  some ((decide (o.Client=rA.Client))&&((decide (o.Seq=rA.Seq))&&((decide (o.Kind=rA.Kind))&&((decide (o.Path=rA.Path))&&((decide (o.Value=rA.Value))&&((decide (o.Version=rA.Version))&&((decide (o.Session=rA.Session))&&(decide (o.Span=rA.Span)))))))))
  else
  some false
  else
  some false
  else
  some false
  else
  some false
  else
  some false:Option Bool) fun w1=>
 some w1
noncomputable def mE (x:Int):Option Bool:=
 some (!decide (x=x))
noncomputable def ig (x:Int) (y:Int):Option Int:=
 bd (mE x) fun rA=>
 bd (mE y) fun aV=>
 if rA then
 if aV then
 some 0
 else
 some (-1)
 else
 if aV then
 some 1
 else
 if x<y then
 some (-1)
 else
 if y<x then
 some 1
 else
 some 0
noncomputable def cz (x:ai) (eh:Int):Option Int:=
 bd (ig x.Client eh) fun rA=>
 some rA
noncomputable def eH (x:List ai) (target:Int) (cmp:ai→Int→Option Int) (st:Int×Int):Option ((Int×Int)⊕Int):=
 if st.1<st.2 then
 if (0:Int)≤1 then
 ix x (IntKind.wrap .i64 (Int.fdiv (IntKind.wrap .u64 (IntKind.wrap .i64 (st.1+st.2))) (2^min (Int.toNat 1) (IntKind.bits .u64)))) fun y=>
 bd (cmp y target) fun rA=>
 bd (
  if rA<0 then
  some (IntKind.wrap .i64 ((IntKind.wrap .i64 (Int.fdiv (IntKind.wrap .u64 (IntKind.wrap .i64 (st.1+st.2))) (2^min (Int.toNat 1) (IntKind.bits .u64))))+1),st.2)
  else
  some (st.1,IntKind.wrap .i64 (Int.fdiv (IntKind.wrap .u64 (IntKind.wrap .i64 (st.1+st.2))) (2^min (Int.toNat 1) (IntKind.bits .u64)))):Option (Int×Int)) fun w1=>
 some (.inl (w1.1,w1.2))
 else none
 else
 some (.inr st.1)
noncomputable def ck (x:List ai) (target:Int) (cmp:ai→Int→Option Int):Option (Int×Bool):=
 bd (Loop (eH x target cmp) (0,(x.length:Int))) fun w=>
 bd (
  if w<(x.length:Int) then
  ix x w fun y1=>
  bd (cmp y1 target) fun aV=>
  some (w,decide (aV=0))
  else
  some (w,false):Option (Int×Bool)) fun w2=>
 some (w2.1,w2.2)
noncomputable def ei (rA:au) (eh:Int):Option (Int×Bool):=
 bd (ck rA.Seen eh cz) fun aV=>
 some (aV.1,aV.2)
noncomputable def nz (rA:au) (eh:Int):Option (ai×Bool):=
 bd (ei rA eh) fun aV=>
 if !aV.2 then
 some ((⟨0,0,0,([]:List UInt8),0,([]:List (List UInt8))⟩:ai),false)
 else
 ix rA.Seen aV.1 fun y=>
 some (y,true)
noncomputable def ik (rA:au) (o:av):Option (ai×Bool):=
 bd (nz rA o.Client) fun aV=>
 bd (ny o) fun cY=>
 bd (
  if !cY then
  some (.inl (0,0,0,([]:List UInt8),0,([]:List (List UInt8)),o.Client,o.Seq,1,([]:List UInt8),0,([]:List (List UInt8))))
  else
  bd (
   if aV.2 then
   some (decide (aV.1.Seq=o.Seq))
   else
   some false:Option Bool) fun w1=>
  if w1 then
  some (.inr (aV.1.Client,aV.1.Seq,aV.1.E,aV.1.Value,aV.1.Version,aV.1.Names,true))
  else
  bd (
   if aV.2 then
   some (decide (o.Seq<aV.1.Seq))
   else
   some false:Option Bool) fun w2=>
  bd (
   if w2 then
   some (.inl (0,0,0,([]:List UInt8),0,([]:List (List UInt8)),o.Client,o.Seq,15,([]:List UInt8),0,([]:List (List UInt8))))
   else
   bd (
    if !aV.2 then
    some (decide ((50:Int)≤(rA.Seen.length:Int)))
    else
    some false:Option Bool) fun w4=>
   if w4 then
   some (.inl (0,0,0,([]:List UInt8),0,([]:List (List UInt8)),o.Client,o.Seq,9,([]:List UInt8),0,([]:List (List UInt8))))
   else
   some (.inr (o.Client,o.Seq,0,([]:List UInt8),0,([]:List (List UInt8)),false)):Option ((Int×Int×Int×(List UInt8)×Int×(List (List UInt8))×Int×Int×Int×(List UInt8)×Int×(List (List UInt8)))⊕(Int×Int×Int×(List UInt8)×Int×(List (List UInt8))×Bool))) fun w3=>
  match w3 with
  | .inl p2=>
   some (.inl (p2.1,p2.2.1,p2.2.2.1,p2.2.2.2.1,p2.2.2.2.2.1,p2.2.2.2.2.2.1,p2.2.2.2.2.2.2.1,p2.2.2.2.2.2.2.2.1,p2.2.2.2.2.2.2.2.2.1,p2.2.2.2.2.2.2.2.2.2.1,p2.2.2.2.2.2.2.2.2.2.2.1,p2.2.2.2.2.2.2.2.2.2.2.2))
  | .inr p3=>
   some (.inr (p3.1,p3.2.1,p3.2.2.1,p3.2.2.2.1,p3.2.2.2.2.1,p3.2.2.2.2.2.1,p3.2.2.2.2.2.2)):Option ((Int×Int×Int×(List UInt8)×Int×(List (List UInt8))×Int×Int×Int×(List UInt8)×Int×(List (List UInt8)))⊕(Int×Int×Int×(List UInt8)×Int×(List (List UInt8))×Bool))) fun w=>
 match w with
 | .inl p4=>
  some ((⟨p4.2.2.2.2.2.2.1,p4.2.2.2.2.2.2.2.1,p4.2.2.2.2.2.2.2.2.1,p4.2.2.2.2.2.2.2.2.2.1,p4.2.2.2.2.2.2.2.2.2.2.1,p4.2.2.2.2.2.2.2.2.2.2.2⟩:ai),true)
 | .inr p5=>
  some ((⟨p5.1,p5.2.1,p5.2.2.1,p5.2.2.2.1,p5.2.2.2.2.1,p5.2.2.2.2.2.1⟩:ai),p5.2.2.2.2.2.2)
noncomputable def lS (w:af):Option (Unit×af):=
 some ((),w)
noncomputable def cI (x:ar) (id:Int):Option Int:=
 bd (ig x.Id id) fun rA=>
 some rA
noncomputable def dZ (x:List ar) (target:Int) (cmp:ar→Int→Option Int) (st:Int×Int):Option ((Int×Int)⊕Int):=
 if st.1<st.2 then
 if (0:Int)≤1 then
 ix x (IntKind.wrap .i64 (Int.fdiv (IntKind.wrap .u64 (IntKind.wrap .i64 (st.1+st.2))) (2^min (Int.toNat 1) (IntKind.bits .u64)))) fun y=>
 bd (cmp y target) fun rA=>
 bd (
  if rA<0 then
  some (IntKind.wrap .i64 ((IntKind.wrap .i64 (Int.fdiv (IntKind.wrap .u64 (IntKind.wrap .i64 (st.1+st.2))) (2^min (Int.toNat 1) (IntKind.bits .u64))))+1),st.2)
  else
  some (st.1,IntKind.wrap .i64 (Int.fdiv (IntKind.wrap .u64 (IntKind.wrap .i64 (st.1+st.2))) (2^min (Int.toNat 1) (IntKind.bits .u64)))):Option (Int×Int)) fun w1=>
 some (.inl (w1.1,w1.2))
 else none
 else
 some (.inr st.1)
noncomputable def b8 (x:List ar) (target:Int) (cmp:ar→Int→Option Int):Option (Int×Bool):=
 bd (Loop (dZ x target cmp) (0,(x.length:Int))) fun w=>
 bd (
  if w<(x.length:Int) then
  ix x w fun y1=>
  bd (cmp y1 target) fun aV=>
  some (w,decide (aV=0))
  else
  some (w,false):Option (Int×Bool)) fun w2=>
 some (w2.1,w2.2)
noncomputable def dt (b:aD) (id:Int):Option (Int×Bool):=
 bd (b8 b.L id cI) fun rA=>
 some (rA.1,rA.2)
noncomputable def sE (b:aD) (id:Int):Option Bool:=
 bd (dt b id) fun rA=>
 some rA.2
noncomputable def fI (sA:List UInt8) (cJ:List UInt8):Option Bool:=
 bd (
  if (cJ.length:Int)≤(sA.length:Int) then
  if (0:Int)≤0∧(0:Int)≤(cJ.length:Int)∧(cJ.length:Int)≤(sA.length:Int) then
  some (decide ((List.drop (Int.toNat 0) (List.take (Int.toNat (cJ.length:Int)) sA))=cJ))
  else none
  else
  some false:Option Bool) fun w=>
 some w
noncomputable def fJ (sA:List UInt8) (cJ:List UInt8):Option ((List UInt8)×Bool):=
 bd (fI sA cJ) fun rA=>
 if !rA then
 some (sA,false)
 else
 if (0:Int)≤(cJ.length:Int)∧(cJ.length:Int)≤(sA.length:Int)∧(sA.length:Int)≤(sA.length:Int) then
 some (List.drop (Int.toNat (cJ.length:Int)) (List.take (Int.toNat (sA.length:Int)) sA),true)
 else none
noncomputable def fW (sA:List UInt8) (cJ:List UInt8):Option ((List UInt8)×Bool):=
 bd (fJ sA cJ) fun rA=>
 some (rA.1,rA.2)
noncomputable def fq (c:Int):Option Bool:=
 bd (yP ([97,98,99,100,101,102,103,104,105,106,107,108,109,110,111,112,113,114,115,116,117,118,119,120,121,122,48,49,50,51,52,53,54,55,56,57,45,95]:List UInt8) c) fun rA=>
 some (!rA)
noncomputable def fX (f:Int→Option Bool) (AW:Bool) (st:(List MV)):Option ((List MV)⊕(Unit⊕Int)):=
 if Ep st then
 bd (f (u6 st)) fun rA=>
 if rA=AW then
 some (.inr (.inr (oU st)))
 else
 some (.inl (xx st))
 else
 some (.inr (.inl ()))
noncomputable def lF (sA:List UInt8) (f:Int→Option Bool) (AW:Bool):Option Int:=
 bd (Loop (fX f AW) ([.s sA,.i .i64 0]:List MV)) fun w=>
 match w with
 | .inl p1=>
  some (-1)
 | .inr p2=>
  some p2
noncomputable def jK (sA:List UInt8) (f:Int→Option Bool):Option Int:=
 bd (lF sA f true) fun rA=>
 some rA
noncomputable def eI (sA:List UInt8) (f:Int→Option Bool):Option Bool:=
 bd (jK sA f) fun rA=>
 some (decide ((0:Int)≤rA))
noncomputable def n3 (sA:List UInt8):Option Bool:=
 bd (
  if !decide (sA=([]:List UInt8)) then
  if (sA.length:Int)≤30 then
  bd (FQ sA ([97,98,99,100,101,102,103,104,105,106,107,108,109,110,111,112,113,114,115,116,117,118,119,120,121,122,48,49,50,51,52,53,54,55,56,57,45,95]:List UInt8)) fun rA=>
  if rA=([]:List UInt8) then
  bd (eI sA fq) fun aV=>
  some (!aV)
  else
  some false
  else
  some false
  else
  some false:Option Bool) fun w=>
 some w
noncomputable def kG (sA:List UInt8):Option Bool:=
 bd (n3 sA) fun rA=>
 some (!rA)
noncomputable def dm (sA:List (List UInt8)) (f:(List UInt8)→Option Bool) (st:Int):Option (Int⊕(Unit⊕Int)):=
 if st<(sA.length:Int) then
 ix sA st fun y=>
 bd (f y) fun rA=>
 if rA then
 some (.inr (.inr st))
 else
 some (.inl (IntKind.wrap .i64 (st+1)))
 else
 some (.inr (.inl ()))
noncomputable def fc (sA:List (List UInt8)) (f:(List UInt8)→Option Bool):Option Int:=
 bd (Loop (dm sA f) 0) fun w=>
 match w with
 | .inl p1=>
  some (-1)
 | .inr p2=>
  some p2
noncomputable def da (sA:List (List UInt8)) (f:(List UInt8)→Option Bool):Option Bool:=
 bd (fc sA f) fun rA=>
 some (decide ((0:Int)≤rA))
noncomputable def fB (p:List UInt8):Option ((List (List UInt8))×Bool):=
 bd (fW p ([47]:List UInt8)) fun rA=>
 bd (
  if !rA.2 then
  some true
  else
  some (decide ((100:Int)<(p.length:Int))):Option Bool) fun w=>
 if w then
 some (([]:List (List UInt8)),false)
 else
 if rA.1=([]:List UInt8) then
 some (([]:List (List UInt8)),true)
 else
 bd (Hc rA.1 ([47]:List UInt8)) fun aV=>
 bd (
  if (aV.length:Int)≤8 then
  bd (da aV kG) fun cY=>
  some (aV,!cY,aV)
  else
  some (aV,false,aV):Option ((List (List UInt8))×Bool×(List (List UInt8)))) fun w1=>
 some (w1.2.2,w1.2.1)
noncomputable def jj (x:List UInt8):Option Bool:=
 some (!decide (x=x))
noncomputable def fY (x:List UInt8) (y:List UInt8):Option Int:=
 bd (jj x) fun rA=>
 bd (jj y) fun aV=>
 if rA then
 if aV then
 some 0
 else
 some (-1)
 else
 if aV then
 some 1
 else
 if Op.bytesLess x y then
 some (-1)
 else
 if !(Op.bytesLess x y||decide (x=y)) then
 some 1
 else
 some 0
noncomputable def dL (s1:List (List UInt8)) (s2:List (List UInt8)) (st:Int):Option (Int⊕(Unit⊕Int)):=
 if st<(s1.length:Int) then
 ix s1 st fun y=>
 if (s2.length:Int)≤st then
 some (.inr (.inr 1))
 else
 ix s2 st fun y1=>
 bd (fY y y1) fun rA=>
 if !decide (rA=0) then
 some (.inr (.inr rA))
 else
 some (.inl (IntKind.wrap .i64 (st+1)))
 else
 some (.inr (.inl ()))
noncomputable def eJ (s1:List (List UInt8)) (s2:List (List UInt8)):Option Int:=
 bd (Loop (dL s1 s2) 0) fun w=>
 match w with
 | .inl p1=>
  if (s1.length:Int)<(s2.length:Int) then
  some (-1)
  else
  some 0
 | .inr p2=>
  some p2
noncomputable def pO (p:List UInt8) (q:List UInt8):Option Bool:=
 bd (fB p) fun rA=>
 bd (fB q) fun aV=>
 bd (
  if rA.2 then
  if aV.2 then
  bd (eJ rA.1 aV.1) fun cY=>
  some (decide (cY<0))
  else
  some false
  else
  some false:Option Bool) fun w=>
 some w
noncomputable def bW (n:ae) (p:List UInt8):Option Int:=
 if n.Path=p then
 some 0
 else
 bd (pO n.Path p) fun rA=>
 if rA then
 some (-1)
 else
 some 1
noncomputable def ea (x:List ae) (target:List UInt8) (cmp:ae→(List UInt8)→Option Int) (st:Int×Int):Option ((Int×Int)⊕Int):=
 if st.1<st.2 then
 if (0:Int)≤1 then
 ix x (IntKind.wrap .i64 (Int.fdiv (IntKind.wrap .u64 (IntKind.wrap .i64 (st.1+st.2))) (2^min (Int.toNat 1) (IntKind.bits .u64)))) fun y=>
 bd (cmp y target) fun rA=>
 bd (
  if rA<0 then
  some (IntKind.wrap .i64 ((IntKind.wrap .i64 (Int.fdiv (IntKind.wrap .u64 (IntKind.wrap .i64 (st.1+st.2))) (2^min (Int.toNat 1) (IntKind.bits .u64))))+1),st.2)
  else
  some (st.1,IntKind.wrap .i64 (Int.fdiv (IntKind.wrap .u64 (IntKind.wrap .i64 (st.1+st.2))) (2^min (Int.toNat 1) (IntKind.bits .u64)))):Option (Int×Int)) fun w1=>
 some (.inl (w1.1,w1.2))
 else none
 else
 some (.inr st.1)
noncomputable def cT (x:List ae) (target:List UInt8) (cmp:ae→(List UInt8)→Option Int):Option (Int×Bool):=
 bd (Loop (ea x target cmp) (0,(x.length:Int))) fun w=>
 bd (
  if w<(x.length:Int) then
  ix x w fun y1=>
  bd (cmp y1 target) fun aV=>
  some (w,decide (aV=0))
  else
  some (w,false):Option (Int×Bool)) fun w2=>
 some (w2.1,w2.2)
noncomputable def dz (sA:aB) (p:List UInt8):Option (Int×Bool):=
 bd (cT sA.L p bW) fun rA=>
 some (rA.1,rA.2)
noncomputable def iQ (p:List UInt8):Option Bool:=
 bd (fB p) fun rA=>
 some rA.2
noncomputable def di (sA:List UInt8) (c:Int) (st:Int):Option (Int⊕(Unit⊕Int)):=
 if (0:Int)≤st then
 if (0:Int)≤st∧st<(sA.length:Int) then
 if ((sA.getD (Int.toNat st) 0).toNat:Int)=c then
 some (.inr (.inr st))
 else
 some (.inl (IntKind.wrap .i64 (st-1)))
 else none
 else
 some (.inr (.inl ()))
noncomputable def dB (sA:List UInt8) (c:Int):Option Int:=
 bd (Loop (di sA c) (IntKind.wrap .i64 ((sA.length:Int)-1))) fun w=>
 match w with
 | .inl p1=>
  some (-1)
 | .inr p2=>
  some p2
noncomputable def ka (sep:List UInt8) (st:Int×Int):Option ((Int×Int)⊕Int):=
 if (0:Int)≤st.2 then
 if (0:Int)≤st.2∧st.2<(sep.length:Int) then
 some (.inl (IntKind.wrap .u32 ((IntKind.wrap .u32 (st.1 *16777619))+(IntKind.wrap .u32 ((sep.getD (Int.toNat st.2) 0).toNat:Int))),IntKind.wrap .i64 (st.2-1)))
 else none
 else
 some (.inr st.1)
noncomputable def kb (dR:Int×Int×Int):Option ((Int×Int×Int)⊕Int):=
 if (0:Int)<dR.2.2 then
 none
 else
 some (.inr dR.1)
noncomputable def gD (sep:List UInt8):Option (Int×Int):=
 bd (Loop (ka sep) (0,IntKind.wrap .i64 ((sep.length:Int)-1))) fun w=>
 bd (Loop kb (1,16777619,(sep.length:Int))) fun w1=>
 some (w,w1)
noncomputable def fC (a:List UInt8) (a1:List UInt8) (st:Int×Int):Option ((Int×Int)⊕Int):=
 if (IntKind.wrap .i64 ((a.length:Int)-(a1.length:Int)))≤st.2 then
 if (0:Int)≤st.2∧st.2<(a.length:Int) then
 some (.inl (IntKind.wrap .u32 ((IntKind.wrap .u32 (st.1 *16777619))+(IntKind.wrap .u32 ((a.getD (Int.toNat st.2) 0).toNat:Int))),IntKind.wrap .i64 (st.2-1)))
 else none
 else
 some (.inr st.1)
noncomputable def fD (a:List UInt8) (a1:List UInt8) (rA:Int×Int) (dR:Int×Int):Option ((Int×Int)⊕(Unit⊕Int)):=
 if (0:Int)≤dR.2 then
 if (0:Int)≤dR.2∧dR.2<(a.length:Int) then
 if (0:Int)≤(IntKind.wrap .i64 (dR.2+(a1.length:Int)))∧(IntKind.wrap .i64 (dR.2+(a1.length:Int)))<(a.length:Int) then
 bd (
  if (IntKind.wrap .u32 ((IntKind.wrap .u32 ((IntKind.wrap .u32 (dR.1 *16777619))+(IntKind.wrap .u32 ((a.getD (Int.toNat dR.2) 0).toNat:Int))))-(IntKind.wrap .u32 (rA.2 *(IntKind.wrap .u32 ((a.getD (Int.toNat (IntKind.wrap .i64 (dR.2+(a1.length:Int)))) 0).toNat:Int))))))=rA.1 then
  if (0:Int)≤dR.2∧dR.2≤(IntKind.wrap .i64 (dR.2+(a1.length:Int)))∧(IntKind.wrap .i64 (dR.2+(a1.length:Int)))≤(a.length:Int) then
  some (decide ((List.drop (Int.toNat dR.2) (List.take (Int.toNat (IntKind.wrap .i64 (dR.2+(a1.length:Int)))) a))=a1))
  else none
  else
  some false:Option Bool) fun w3=>
 if w3 then
 some (.inr (.inr dR.2))
 else
 some (.inl (IntKind.wrap .u32 ((IntKind.wrap .u32 ((IntKind.wrap .u32 (dR.1 *16777619))+(IntKind.wrap .u32 ((a.getD (Int.toNat dR.2) 0).toNat:Int))))-(IntKind.wrap .u32 (rA.2 *(IntKind.wrap .u32 ((a.getD (Int.toNat (IntKind.wrap .i64 (dR.2+(a1.length:Int)))) 0).toNat:Int))))),IntKind.wrap .i64 (dR.2-1)))
 else none
 else none
 else
 some (.inr (.inl ()))
noncomputable def dM (a:List UInt8) (a1:List UInt8):Option Int:=
 bd (gD a1) fun rA=>
 bd (Loop (fC a a1) (0,IntKind.wrap .i64 ((a.length:Int)-1))) fun w=>
 bd (
  if w=rA.1 then
  if (0:Int)≤(IntKind.wrap .i64 ((a.length:Int)-(a1.length:Int)))∧(IntKind.wrap .i64 ((a.length:Int)-(a1.length:Int)))≤(a.length:Int)∧(a.length:Int)≤(a.length:Int) then
  some (decide ((List.drop (Int.toNat (IntKind.wrap .i64 ((a.length:Int)-(a1.length:Int)))) (List.take (Int.toNat (a.length:Int)) a))=a1))
  else none
  else
  some false:Option Bool) fun w1=>
 if w1 then
 some (IntKind.wrap .i64 ((a.length:Int)-(a1.length:Int)))
 else
 bd (Loop (fD a a1 rA) (w,IntKind.wrap .i64 ((IntKind.wrap .i64 ((a.length:Int)-(a1.length:Int)))-1))) fun w2=>
 match w2 with
 | .inl p2=>
  some (-1)
 | .inr p3=>
  some p3
noncomputable def fZ (sA:List UInt8) (substr:List UInt8):Option Int:=
 if (substr.length:Int)=0 then
 some (sA.length:Int)
 else
 if (substr.length:Int)=1 then
 if (0:Int)≤0∧(0:Int)<(substr.length:Int) then
 bd (dB sA ((substr.getD (Int.toNat 0) 0).toNat:Int)) fun rA=>
 some rA
 else none
 else
 if (substr.length:Int)=(sA.length:Int) then
 if substr=sA then
 some 0
 else
 some (-1)
 else
 if (sA.length:Int)<(substr.length:Int) then
 some (-1)
 else
 bd (dM sA substr) fun aV=>
 some aV
noncomputable def mj (p:List UInt8):Option ((List UInt8)×Int):=
 bd (iQ p) fun rA=>
 if !rA then
 some (([]:List UInt8),13)
 else
 if p=([47]:List UInt8) then
 some (([]:List UInt8),6)
 else
 bd (fZ p ([47]:List UInt8)) fun aV=>
 if (0:Int)≤0∧(0:Int)≤(imax 1 aV)∧(imax 1 aV)≤(p.length:Int) then
 some (List.drop (Int.toNat 0) (List.take (Int.toNat (imax 1 aV)) p),0)
 else none
noncomputable def eW (sA:aB) (p:List UInt8):Option (Int×Int):=
 bd (iQ p) fun rA=>
 if !rA then
 some (0,13)
 else
 bd (dz sA p) fun aV=>
 if !aV.2 then
 some (0,6)
 else
 some (aV.1,0)
noncomputable def nA (sA:aB) (p:List UInt8):Option (ae×Int):=
 bd (eW sA p) fun rA=>
 if !decide (rA.2=0) then
 some ((⟨([]:List UInt8),([]:List UInt8),0,0⟩:ae),rA.2)
 else
 ix sA.L rA.1 fun y=>
 some (y,0)
noncomputable def fE (c:List UInt8) (c1:Bool) (c2:aB) (c3:List UInt8) (c4:Int):Option Int:=
 bd (iQ c) fun rA=>
 if !rA then
 some 13
 else
 if c1 then
 some 7
 else
 bd (mj c) fun aV=>
 bd (nA c2 aV.1) fun cY=>
 if !decide (cY.2=0) then
 some 6
 else
 if !decide (cY.1.cS=0) then
 some 10
 else
 if (1000:Int)<(c3.length:Int) then
 some 5
 else
 if c4<0 then
 some 1
 else
 if (200:Int)≤(c2.L.length:Int) then
 some 9
 else
 some 0
noncomputable def kH (sA:aB) (p:List UInt8) (value:List UInt8) (owner:Int):Option (aB×Int):=
 bd (dz sA p) fun rA=>
 bd (fE p rA.2 sA value owner) fun aV=>
 if !decide (aV=0) then
 some (sA,aV)
 else
 bd (iP 48 sA.L) fun cY=>
 bd (pc 48 cY rA.1 ([(⟨p,value,0,owner⟩:ae)]:List ae)) fun kw=>
 some ((⟨kw⟩:aB),0)
noncomputable def cU (w:af) (kind:Int):Option (Unit×af):=
 bd (
  if w.x.E=0 then
  if (w.l.length+([(⟨kind,w.o.Path⟩:aA)]:List aA).length) *24≤2^46 then
  some (w.r.Shelf.L,w.r.bM.fQ,w.r.bM.L,w.r.bk.L,w.r.Seen,w.o.Client,w.o.Seq,w.o.Kind,w.o.Path,w.o.Value,w.o.Version,w.o.Session,w.o.Span,w.x.Client,w.x.Seq,w.x.E,w.x.Value,w.x.Version,w.x.Names,w.l++([(⟨kind,w.o.Path⟩:aA)]:List aA))
  else none
  else
  some (w.r.Shelf.L,w.r.bM.fQ,w.r.bM.L,w.r.bk.L,w.r.Seen,w.o.Client,w.o.Seq,w.o.Kind,w.o.Path,w.o.Value,w.o.Version,w.o.Session,w.o.Span,w.x.Client,w.x.Seq,w.x.E,w.x.Value,w.x.Version,w.x.Names,w.l):Option ((List ae)×Int×(List ar)×(List ak)×(List ai)×Int×Int×Int×(List UInt8)×(List UInt8)×Int×Int×Int×Int×Int×Int×(List UInt8)×Int×(List (List UInt8))×(List aA))) fun w1=>
 some ((),(⟨(⟨(⟨w1.1⟩:aB),(⟨w1.2.1,w1.2.2.1⟩:aD),(⟨w1.2.2.2.1⟩:bB),w1.2.2.2.2.1⟩:au),(⟨w1.2.2.2.2.2.1,w1.2.2.2.2.2.2.1,w1.2.2.2.2.2.2.2.1,w1.2.2.2.2.2.2.2.2.1,w1.2.2.2.2.2.2.2.2.2.1,w1.2.2.2.2.2.2.2.2.2.2.1,w1.2.2.2.2.2.2.2.2.2.2.2.1,w1.2.2.2.2.2.2.2.2.2.2.2.2.1⟩:av),(⟨w1.2.2.2.2.2.2.2.2.2.2.2.2.2.1,w1.2.2.2.2.2.2.2.2.2.2.2.2.2.2.1,w1.2.2.2.2.2.2.2.2.2.2.2.2.2.2.2.1,w1.2.2.2.2.2.2.2.2.2.2.2.2.2.2.2.2.1,w1.2.2.2.2.2.2.2.2.2.2.2.2.2.2.2.2.2.1,w1.2.2.2.2.2.2.2.2.2.2.2.2.2.2.2.2.2.2.1⟩:ai),w1.2.2.2.2.2.2.2.2.2.2.2.2.2.2.2.2.2.2.2⟩:af))
noncomputable def ga (w:af):Option (Unit×af):=
 bd (
  if !decide (w.o.Session=0) then
  bd (sE w.r.bM w.o.Session) fun rA=>
  some (!rA)
  else
  some false:Option Bool) fun w1=>
 if w1 then
 some ((),(⟨w.r,w.o,(⟨w.x.Client,w.x.Seq,14,w.x.Value,w.x.Version,w.x.Names⟩:ai),w.l⟩:af))
 else
 bd (kH w.r.Shelf w.o.Path w.o.Value w.o.Session) fun aV=>
 bd (cU (⟨(⟨aV.1,w.r.bM,w.r.bk,w.r.Seen⟩:au),w.o,(⟨w.x.Client,w.x.Seq,aV.2,w.x.Value,w.x.Version,w.x.Names⟩:ai),w.l⟩:af) 1) fun cY=>
 some ((),cY.2)
noncomputable def kc (w:af):Option (Unit×af):=
 bd (nA w.r.Shelf w.o.Path) fun rA=>
 some ((),(⟨w.r,w.o,(⟨w.x.Client,w.x.Seq,rA.2,rA.1.Value,rA.1.Version,w.x.Names⟩:ai),w.l⟩:af))
noncomputable def dA (sA:aB) (p:List UInt8) (version:Int):Option (Int×Int):=
 bd (eW sA p) fun rA=>
 bd (
  if rA.2=0 then
  if !decide (version=(-1)) then
  ix sA.L rA.1 fun y=>
  some (!decide (version=y.Version))
  else
  some false
  else
  some false:Option Bool) fun w=>
 if w then
 some (rA.1,8)
 else
 some (rA.1,rA.2)
noncomputable def sF (sA:aB) (p:List UInt8) (value:List UInt8) (version:Int):Option (aB×Int):=
 bd (dA sA p version) fun rA=>
 if !decide (rA.2=0) then
 some (sA,rA.2)
 else
 if (1000:Int)<(value.length:Int) then
 some (sA,5)
 else
 ix sA.L rA.1 fun y=>
 if (1000000000:Int)≤y.Version then
 some (sA,9)
 else
 bd (iP 48 sA.L) fun aV=>
 ix aV rA.1 fun y1=>
 ix (aV.set (Int.toNat rA.1) (⟨y1.Path,value,y1.Version,y1.cS⟩:ae)) rA.1 fun y2=>
 ix (aV.set (Int.toNat rA.1) (⟨y1.Path,value,y1.Version,y1.cS⟩:ae)) rA.1 fun y3=>
 some ((⟨(aV.set (Int.toNat rA.1) (⟨y1.Path,value,y1.Version,y1.cS⟩:ae)).set (Int.toNat rA.1) (⟨y3.Path,y3.Value,IntKind.wrap .i64 (y2.Version+1),y3.cS⟩:ae)⟩:aB),0)
noncomputable def ke (w:af):Option (Unit×af):=
 bd (sF w.r.Shelf w.o.Path w.o.Value w.o.Version) fun rA=>
 bd (cU (⟨(⟨rA.1,w.r.bM,w.r.bk,w.r.Seen⟩:au),w.o,(⟨w.x.Client,w.x.Seq,rA.2,w.x.Value,w.x.Version,w.x.Names⟩:ai),w.l⟩:af) 2) fun aV=>
 bd (
  if aV.2.x.E=0 then
  bd (nA aV.2.r.Shelf aV.2.o.Path) fun cY=>
  some (aV.2.r.Shelf.L,aV.2.r.bM.fQ,aV.2.r.bM.L,aV.2.r.bk.L,aV.2.r.Seen,aV.2.o.Client,aV.2.o.Seq,aV.2.o.Kind,aV.2.o.Path,aV.2.o.Value,aV.2.o.Version,aV.2.o.Session,aV.2.o.Span,aV.2.x.Client,aV.2.x.Seq,aV.2.x.E,aV.2.x.Value,cY.1.Version,aV.2.x.Names,aV.2.l)
  else
  some (aV.2.r.Shelf.L,aV.2.r.bM.fQ,aV.2.r.bM.L,aV.2.r.bk.L,aV.2.r.Seen,aV.2.o.Client,aV.2.o.Seq,aV.2.o.Kind,aV.2.o.Path,aV.2.o.Value,aV.2.o.Version,aV.2.o.Session,aV.2.o.Span,aV.2.x.Client,aV.2.x.Seq,aV.2.x.E,aV.2.x.Value,aV.2.x.Version,aV.2.x.Names,aV.2.l):Option ((List ae)×Int×(List ar)×(List ak)×(List ai)×Int×Int×Int×(List UInt8)×(List UInt8)×Int×Int×Int×Int×Int×Int×(List UInt8)×Int×(List (List UInt8))×(List aA))) fun w1=>
 some ((),(⟨(⟨(⟨w1.1⟩:aB),(⟨w1.2.1,w1.2.2.1⟩:aD),(⟨w1.2.2.2.1⟩:bB),w1.2.2.2.2.1⟩:au),(⟨w1.2.2.2.2.2.1,w1.2.2.2.2.2.2.1,w1.2.2.2.2.2.2.2.1,w1.2.2.2.2.2.2.2.2.1,w1.2.2.2.2.2.2.2.2.2.1,w1.2.2.2.2.2.2.2.2.2.2.1,w1.2.2.2.2.2.2.2.2.2.2.2.1,w1.2.2.2.2.2.2.2.2.2.2.2.2.1⟩:av),(⟨w1.2.2.2.2.2.2.2.2.2.2.2.2.2.1,w1.2.2.2.2.2.2.2.2.2.2.2.2.2.2.1,w1.2.2.2.2.2.2.2.2.2.2.2.2.2.2.2.1,w1.2.2.2.2.2.2.2.2.2.2.2.2.2.2.2.2.1,w1.2.2.2.2.2.2.2.2.2.2.2.2.2.2.2.2.2.1,w1.2.2.2.2.2.2.2.2.2.2.2.2.2.2.2.2.2.2.1⟩:ai),w1.2.2.2.2.2.2.2.2.2.2.2.2.2.2.2.2.2.2.2⟩:af))
noncomputable def gd (s1:List (List UInt8)) (s2:List (List UInt8)) (st:Int):Option (Int⊕(Unit⊕Bool)):=
 if st<(s1.length:Int) then
 ix s1 st fun y=>
 ix s2 st fun y1=>
 if !decide (y=y1) then
 some (.inr (.inr false))
 else
 some (.inl (IntKind.wrap .i64 (st+1)))
 else
 some (.inr (.inl ()))
noncomputable def ej (s1:List (List UInt8)) (s2:List (List UInt8)):Option Bool:=
 if !decide ((s1.length:Int)=(s2.length:Int)) then
 some false
 else
 bd (Loop (gd s1 s2) 0) fun w=>
 match w with
 | .inl p1=>
  some true
 | .inr p2=>
  some p2
noncomputable def lT (p:List UInt8) (q:List UInt8):Option Bool:=
 bd (fB p) fun rA=>
 bd (fB q) fun aV=>
 bd (
  if rA.2 then
  if aV.2 then
  if (rA.1.length:Int)<(aV.1.length:Int) then
  if (0:Int)≤0∧(0:Int)≤(rA.1.length:Int)∧(rA.1.length:Int)≤(aV.1.length:Int) then
  bd (ej rA.1 (List.drop (Int.toNat 0) (List.take (Int.toNat (rA.1.length:Int)) aV.1))) fun cY=>
  some cY
  else none
  else
  some false
  else
  some false
  else
  some false:Option Bool) fun w=>
 some w
noncomputable def mF (sA:aB) (p:List UInt8) (version:Int):Option (aB×Int):=
 bd (dA sA p version) fun rA=>
 if p=([47]:List UInt8) then
 some (sA,13)
 else
 if !decide (rA.2=0) then
 some (sA,rA.2)
 else
 bd (
  if (IntKind.wrap .i64 (rA.1+1))<(sA.L.length:Int) then
  ix sA.L (IntKind.wrap .i64 (rA.1+1)) fun y=>
  bd (lT p y.Path) fun aV=>
  some aV
  else
  some false:Option Bool) fun w=>
 if w then
 some (sA,10)
 else
 bd (iP 48 sA.L) fun cY=>
 bd (wk cY rA.1 (IntKind.wrap .i64 (rA.1+1))) fun kw=>
 some ((⟨kw⟩:aB),0)
noncomputable def gf (w:af):Option (Unit×af):=
 bd (mF w.r.Shelf w.o.Path w.o.Version) fun rA=>
 bd (cU (⟨(⟨rA.1,w.r.bM,w.r.bk,w.r.Seen⟩:au),w.o,(⟨w.x.Client,w.x.Seq,rA.2,w.x.Value,w.x.Version,w.x.Names⟩:ai),w.l⟩:af) 3) fun aV=>
 some ((),aV.2)
noncomputable def nB (p:List UInt8):Option ((List (List UInt8))×Int):=
 bd (fB p) fun rA=>
 if !rA.2 then
 some (([]:List (List UInt8)),13)
 else
 some (rA.1,0)
noncomputable def mG (a:aB) (a1:List UInt8) (rA:Int×Int) (aV:(List (List UInt8))×Int) (st:(List (List UInt8))×Int):Option (((List (List UInt8))×Int)⊕(List (List UInt8))):=
 if st.2<((List.drop (Int.toNat (IntKind.wrap .i64 (rA.1+1))) (List.take (Int.toNat (a.L.length:Int)) a.L)).length:Int) then
 ix (List.drop (Int.toNat (IntKind.wrap .i64 (rA.1+1))) (List.take (Int.toNat (a.L.length:Int)) a.L)) st.2 fun y=>
 bd (lT a1 y.Path) fun cY=>
 if !cY then
 some (.inr st.1)
 else
 bd (nB y.Path) fun kw=>
 bd (
  if (kw.1.length:Int)=(IntKind.wrap .i64 ((aV.1.length:Int)+1)) then
  ix kw.1 (aV.1.length:Int) fun y1=>
  if (st.1.length+([y1]:List (List UInt8)).length) *16≤2^46 then
  some (st.1++([y1]:List (List UInt8)))
  else none
  else
  some st.1:Option (List (List UInt8))) fun w1=>
 some (.inl (w1,IntKind.wrap .i64 (st.2+1)))
 else
 some (.inr st.1)
noncomputable def pP (a:aB) (a1:List UInt8):Option ((List (List UInt8))×Int):=
 bd (eW a a1) fun rA=>
 if !decide (rA.2=0) then
 some (([]:List (List UInt8)),rA.2)
 else
 bd (nB a1) fun aV=>
 if (0:Int)≤(IntKind.wrap .i64 (rA.1+1))∧(IntKind.wrap .i64 (rA.1+1))≤(a.L.length:Int)∧(a.L.length:Int)≤(a.L.length:Int) then
 bd (Loop (mG a a1 rA aV) (([]:List (List UInt8)),0)) fun w=>
 some (w,0)
 else none
noncomputable def jk (w:af):Option (Unit×af):=
 bd (pP w.r.Shelf w.o.Path) fun rA=>
 some ((),(⟨w.r,w.o,(⟨w.x.Client,w.x.Seq,rA.2,w.x.Value,w.x.Version,rA.1⟩:ai),w.l⟩:af))
noncomputable def pQ (b:aD) (id:Int) (span:Int):Option (aD×Int):=
 bd (dt b id) fun rA=>
 bd (
  if id<1 then
  some true
  else
  if span<1 then
  some true
  else
  some (decide ((1000:Int)<span)):Option Bool) fun w=>
 if w then
 some (b,1)
 else
 if rA.2 then
 some (b,7)
 else
 if (50:Int)≤(b.L.length:Int) then
 some (b,9)
 else
 bd (iP 24 b.L) fun aV=>
 bd (pc 24 aV rA.1 ([(⟨id,span,IntKind.wrap .i64 (b.fQ+span)⟩:ar)]:List ar)) fun cY=>
 some ((⟨b.fQ,cY⟩:aD),0)
noncomputable def jm (w:af):Option (Unit×af):=
 bd (pQ w.r.bM w.o.Session w.o.Span) fun rA=>
 some ((),(⟨(⟨w.r.Shelf,rA.1,w.r.bk,w.r.Seen⟩:au),w.o,(⟨w.x.Client,w.x.Seq,rA.2,w.x.Value,w.x.Version,w.x.Names⟩:ai),w.l⟩:af))
noncomputable def n4 (b:aD) (id:Int):Option (aD×Int):=
 bd (dt b id) fun rA=>
 if !rA.2 then
 some (b,14)
 else
 bd (iP 24 b.L) fun aV=>
 ix aV rA.1 fun y=>
 ix aV rA.1 fun y1=>
 some ((⟨b.fQ,aV.set (Int.toNat rA.1) (⟨y1.Id,y1.Span,IntKind.wrap .i64 (b.fQ+y.Span)⟩:ar)⟩:aD),0)
noncomputable def il (w:af):Option (Unit×af):=
 bd (n4 w.r.bM w.o.Session) fun rA=>
 some ((),(⟨(⟨w.r.Shelf,rA.1,w.r.bk,w.r.Seen⟩:au),w.o,(⟨w.x.Client,w.x.Seq,rA.2,w.x.Value,w.x.Version,w.x.Names⟩:ai),w.l⟩:af))
noncomputable def n5 (b:aD) (id:Int):Option (aD×Int):=
 bd (dt b id) fun rA=>
 if !rA.2 then
 some (b,14)
 else
 bd (iP 24 b.L) fun aV=>
 bd (wk aV rA.1 (IntKind.wrap .i64 (rA.1+1))) fun cY=>
 some ((⟨b.fQ,cY⟩:aD),0)
noncomputable def mH (sA:aB) (owner:Int) (st:(List (List UInt8))×(List ae)×Int):Option (((List (List UInt8))×(List ae)×Int)⊕((List (List UInt8))×(List ae))):=
 if st.2.2<(sA.L.length:Int) then
 ix sA.L st.2.2 fun y=>
 bd (
  if (0:Int)<owner then
  some (decide (y.cS=owner))
  else
  some false:Option Bool) fun w1=>
 if w1 then
 if (st.1.length+([y.Path]:List (List UInt8)).length) *16≤2^46 then
 some (.inl (st.1++([y.Path]:List (List UInt8)),st.2.1,IntKind.wrap .i64 (st.2.2+1)))
 else none
 else
 if (st.2.1.length+([y]:List ae).length) *48≤2^46 then
 some (.inl (st.1,st.2.1++([y]:List ae),IntKind.wrap .i64 (st.2.2+1)))
 else none
 else
 some (.inr (st.1,st.2.1))
noncomputable def pR (sA:aB) (owner:Int):Option (aB×(List (List UInt8))):=
 bd (Loop (mH sA owner) (([]:List (List UInt8)),([]:List ae),0)) fun w=>
 some ((⟨w.2⟩:aB),w.1)
noncomputable def gh (rA:aB×(List (List UInt8))) (st:Int×(List ae)×Int×(List ar)×(List ak)×(List ai)×Int×Int×Int×(List UInt8)×(List UInt8)×Int×Int×Int×Int×Int×Int×(List UInt8)×Int×(List (List UInt8))×(List aA)):Option ((Int×(List ae)×Int×(List ar)×(List ak)×(List ai)×Int×Int×Int×(List UInt8)×(List UInt8)×Int×Int×Int×Int×Int×Int×(List UInt8)×Int×(List (List UInt8))×(List aA))⊕((List ae)×Int×(List ar)×(List ak)×(List ai)×Int×Int×Int×(List UInt8)×(List UInt8)×Int×Int×Int×Int×Int×Int×(List UInt8)×Int×(List (List UInt8))×(List aA))):=
 if st.1<(rA.2.length:Int) then
 ix rA.2 st.1 fun y=>
 if (st.2.2.2.2.2.2.2.2.2.2.2.2.2.2.2.2.2.2.2.2.length+([(⟨3,y⟩:aA)]:List aA).length) *24≤2^46 then
 some (.inl (IntKind.wrap .i64 (st.1+1),st.2.1,st.2.2.1,st.2.2.2.1,st.2.2.2.2.1,st.2.2.2.2.2.1,st.2.2.2.2.2.2.1,st.2.2.2.2.2.2.2.1,st.2.2.2.2.2.2.2.2.1,st.2.2.2.2.2.2.2.2.2.1,st.2.2.2.2.2.2.2.2.2.2.1,st.2.2.2.2.2.2.2.2.2.2.2.1,st.2.2.2.2.2.2.2.2.2.2.2.2.1,st.2.2.2.2.2.2.2.2.2.2.2.2.2.1,st.2.2.2.2.2.2.2.2.2.2.2.2.2.2.1,st.2.2.2.2.2.2.2.2.2.2.2.2.2.2.2.1,st.2.2.2.2.2.2.2.2.2.2.2.2.2.2.2.2.1,st.2.2.2.2.2.2.2.2.2.2.2.2.2.2.2.2.2.1,st.2.2.2.2.2.2.2.2.2.2.2.2.2.2.2.2.2.2.1,st.2.2.2.2.2.2.2.2.2.2.2.2.2.2.2.2.2.2.2.1,st.2.2.2.2.2.2.2.2.2.2.2.2.2.2.2.2.2.2.2.2++([(⟨3,y⟩:aA)]:List aA)))
 else none
 else
 some (.inr (st.2.1,st.2.2.1,st.2.2.2.1,st.2.2.2.2.1,st.2.2.2.2.2.1,st.2.2.2.2.2.2.1,st.2.2.2.2.2.2.2.1,st.2.2.2.2.2.2.2.2.1,st.2.2.2.2.2.2.2.2.2.1,st.2.2.2.2.2.2.2.2.2.2.1,st.2.2.2.2.2.2.2.2.2.2.2.1,st.2.2.2.2.2.2.2.2.2.2.2.2.1,st.2.2.2.2.2.2.2.2.2.2.2.2.2.1,st.2.2.2.2.2.2.2.2.2.2.2.2.2.2.1,st.2.2.2.2.2.2.2.2.2.2.2.2.2.2.2.1,st.2.2.2.2.2.2.2.2.2.2.2.2.2.2.2.2.1,st.2.2.2.2.2.2.2.2.2.2.2.2.2.2.2.2.2.1,st.2.2.2.2.2.2.2.2.2.2.2.2.2.2.2.2.2.2.1,st.2.2.2.2.2.2.2.2.2.2.2.2.2.2.2.2.2.2.2.1,st.2.2.2.2.2.2.2.2.2.2.2.2.2.2.2.2.2.2.2.2))
noncomputable def fT (w:af) (id:Int):Option (Unit×af):=
 bd (pR w.r.Shelf id) fun rA=>
 bd (Loop (gh rA) (0,rA.1.L,w.r.bM.fQ,w.r.bM.L,w.r.bk.L,w.r.Seen,w.o.Client,w.o.Seq,w.o.Kind,w.o.Path,w.o.Value,w.o.Version,w.o.Session,w.o.Span,w.x.Client,w.x.Seq,w.x.E,w.x.Value,w.x.Version,w.x.Names,w.l)) fun w1=>
 some ((),(⟨(⟨(⟨w1.1⟩:aB),(⟨w1.2.1,w1.2.2.1⟩:aD),(⟨w1.2.2.2.1⟩:bB),w1.2.2.2.2.1⟩:au),(⟨w1.2.2.2.2.2.1,w1.2.2.2.2.2.2.1,w1.2.2.2.2.2.2.2.1,w1.2.2.2.2.2.2.2.2.1,w1.2.2.2.2.2.2.2.2.2.1,w1.2.2.2.2.2.2.2.2.2.2.1,w1.2.2.2.2.2.2.2.2.2.2.2.1,w1.2.2.2.2.2.2.2.2.2.2.2.2.1⟩:av),(⟨w1.2.2.2.2.2.2.2.2.2.2.2.2.2.1,w1.2.2.2.2.2.2.2.2.2.2.2.2.2.2.1,w1.2.2.2.2.2.2.2.2.2.2.2.2.2.2.2.1,w1.2.2.2.2.2.2.2.2.2.2.2.2.2.2.2.2.1,w1.2.2.2.2.2.2.2.2.2.2.2.2.2.2.2.2.2.1,w1.2.2.2.2.2.2.2.2.2.2.2.2.2.2.2.2.2.2.1⟩:ai),w1.2.2.2.2.2.2.2.2.2.2.2.2.2.2.2.2.2.2.2⟩:af))
noncomputable def im (w:af):Option (Unit×af):=
 bd (n5 w.r.bM w.o.Session) fun rA=>
 bd (
  if rA.2=0 then
  bd (fT (⟨(⟨w.r.Shelf,rA.1,w.r.bk,w.r.Seen⟩:au),w.o,(⟨w.x.Client,w.x.Seq,rA.2,w.x.Value,w.x.Version,w.x.Names⟩:ai),w.l⟩:af) w.o.Session) fun aV=>
  some (aV.2.r.Shelf.L,aV.2.r.bM.fQ,aV.2.r.bM.L,aV.2.r.bk.L,aV.2.r.Seen,aV.2.o.Client,aV.2.o.Seq,aV.2.o.Kind,aV.2.o.Path,aV.2.o.Value,aV.2.o.Version,aV.2.o.Session,aV.2.o.Span,aV.2.x.Client,aV.2.x.Seq,aV.2.x.E,aV.2.x.Value,aV.2.x.Version,aV.2.x.Names,aV.2.l)
  else
  some (w.r.Shelf.L,rA.1.fQ,rA.1.L,w.r.bk.L,w.r.Seen,w.o.Client,w.o.Seq,w.o.Kind,w.o.Path,w.o.Value,w.o.Version,w.o.Session,w.o.Span,w.x.Client,w.x.Seq,rA.2,w.x.Value,w.x.Version,w.x.Names,w.l):Option ((List ae)×Int×(List ar)×(List ak)×(List ai)×Int×Int×Int×(List UInt8)×(List UInt8)×Int×Int×Int×Int×Int×Int×(List UInt8)×Int×(List (List UInt8))×(List aA))) fun w1=>
 some ((),(⟨(⟨(⟨w1.1⟩:aB),(⟨w1.2.1,w1.2.2.1⟩:aD),(⟨w1.2.2.2.1⟩:bB),w1.2.2.2.2.1⟩:au),(⟨w1.2.2.2.2.2.1,w1.2.2.2.2.2.2.1,w1.2.2.2.2.2.2.2.1,w1.2.2.2.2.2.2.2.2.1,w1.2.2.2.2.2.2.2.2.2.1,w1.2.2.2.2.2.2.2.2.2.2.1,w1.2.2.2.2.2.2.2.2.2.2.2.1,w1.2.2.2.2.2.2.2.2.2.2.2.2.1⟩:av),(⟨w1.2.2.2.2.2.2.2.2.2.2.2.2.2.1,w1.2.2.2.2.2.2.2.2.2.2.2.2.2.2.1,w1.2.2.2.2.2.2.2.2.2.2.2.2.2.2.2.1,w1.2.2.2.2.2.2.2.2.2.2.2.2.2.2.2.2.1,w1.2.2.2.2.2.2.2.2.2.2.2.2.2.2.2.2.2.1,w1.2.2.2.2.2.2.2.2.2.2.2.2.2.2.2.2.2.2.1⟩:ai),w1.2.2.2.2.2.2.2.2.2.2.2.2.2.2.2.2.2.2.2⟩:af))
noncomputable def mI (b:aD) (now:Int) (st:(List Int)×Int×(List ar)×Int):Option (((List Int)×Int×(List ar)×Int)⊕((List Int)×Int×(List ar))):=
 if st.2.2.2<(b.L.length:Int) then
 ix b.L st.2.2.2 fun y=>
 if y.jJ≤now then
 if (st.1.length+([y.Id]:List Int).length) *8≤2^46 then
 some (.inl (st.1++([y.Id]:List Int),st.2.1,st.2.2.1,IntKind.wrap .i64 (st.2.2.2+1)))
 else none
 else
 if (st.2.2.1.length+([y]:List ar).length) *24≤2^46 then
 some (.inl (st.1,st.2.1,st.2.2.1++([y]:List ar),IntKind.wrap .i64 (st.2.2.2+1)))
 else none
 else
 some (.inr (st.1,st.2.1,st.2.2.1))
noncomputable def pS (b:aD) (now:Int):Option (aD×(List Int)×Int):=
 if now<b.fQ then
 some (b,([]:List Int),15)
 else
 if (1000000000:Int)<now then
 some (b,([]:List Int),5)
 else
 bd (Loop (mI b now) (([]:List Int),now,([]:List ar),0)) fun w=>
 some ((⟨w.2.1,w.2.2⟩:aD),w.1,0)
noncomputable def gj (rA:aD×(List Int)×Int) (st:Int×(List ae)×Int×(List ar)×(List ak)×(List ai)×Int×Int×Int×(List UInt8)×(List UInt8)×Int×Int×Int×Int×Int×Int×(List UInt8)×Int×(List (List UInt8))×(List aA)):Option ((Int×(List ae)×Int×(List ar)×(List ak)×(List ai)×Int×Int×Int×(List UInt8)×(List UInt8)×Int×Int×Int×Int×Int×Int×(List UInt8)×Int×(List (List UInt8))×(List aA))⊕((List ae)×Int×(List ar)×(List ak)×(List ai)×Int×Int×Int×(List UInt8)×(List UInt8)×Int×Int×Int×Int×Int×Int×(List UInt8)×Int×(List (List UInt8))×(List aA))):=
 if st.1<(rA.2.1.length:Int) then
 ix rA.2.1 st.1 fun y=>
 bd (fT (⟨(⟨(⟨st.2.1⟩:aB),(⟨st.2.2.1,st.2.2.2.1⟩:aD),(⟨st.2.2.2.2.1⟩:bB),st.2.2.2.2.2.1⟩:au),(⟨st.2.2.2.2.2.2.1,st.2.2.2.2.2.2.2.1,st.2.2.2.2.2.2.2.2.1,st.2.2.2.2.2.2.2.2.2.1,st.2.2.2.2.2.2.2.2.2.2.1,st.2.2.2.2.2.2.2.2.2.2.2.1,st.2.2.2.2.2.2.2.2.2.2.2.2.1,st.2.2.2.2.2.2.2.2.2.2.2.2.2.1⟩:av),(⟨st.2.2.2.2.2.2.2.2.2.2.2.2.2.2.1,st.2.2.2.2.2.2.2.2.2.2.2.2.2.2.2.1,st.2.2.2.2.2.2.2.2.2.2.2.2.2.2.2.2.1,st.2.2.2.2.2.2.2.2.2.2.2.2.2.2.2.2.2.1,st.2.2.2.2.2.2.2.2.2.2.2.2.2.2.2.2.2.2.1,st.2.2.2.2.2.2.2.2.2.2.2.2.2.2.2.2.2.2.2.1⟩:ai),st.2.2.2.2.2.2.2.2.2.2.2.2.2.2.2.2.2.2.2.2⟩:af) y) fun aV=>
 some (.inl (IntKind.wrap .i64 (st.1+1),aV.2.r.Shelf.L,aV.2.r.bM.fQ,aV.2.r.bM.L,aV.2.r.bk.L,aV.2.r.Seen,aV.2.o.Client,aV.2.o.Seq,aV.2.o.Kind,aV.2.o.Path,aV.2.o.Value,aV.2.o.Version,aV.2.o.Session,aV.2.o.Span,aV.2.x.Client,aV.2.x.Seq,aV.2.x.E,aV.2.x.Value,aV.2.x.Version,aV.2.x.Names,aV.2.l))
 else
 some (.inr (st.2.1,st.2.2.1,st.2.2.2.1,st.2.2.2.2.1,st.2.2.2.2.2.1,st.2.2.2.2.2.2.1,st.2.2.2.2.2.2.2.1,st.2.2.2.2.2.2.2.2.1,st.2.2.2.2.2.2.2.2.2.1,st.2.2.2.2.2.2.2.2.2.2.1,st.2.2.2.2.2.2.2.2.2.2.2.1,st.2.2.2.2.2.2.2.2.2.2.2.2.1,st.2.2.2.2.2.2.2.2.2.2.2.2.2.1,st.2.2.2.2.2.2.2.2.2.2.2.2.2.2.1,st.2.2.2.2.2.2.2.2.2.2.2.2.2.2.2.1,st.2.2.2.2.2.2.2.2.2.2.2.2.2.2.2.2.1,st.2.2.2.2.2.2.2.2.2.2.2.2.2.2.2.2.2.1,st.2.2.2.2.2.2.2.2.2.2.2.2.2.2.2.2.2.2.1,st.2.2.2.2.2.2.2.2.2.2.2.2.2.2.2.2.2.2.2.1,st.2.2.2.2.2.2.2.2.2.2.2.2.2.2.2.2.2.2.2.2))
noncomputable def jn (w:af):Option (Unit×af):=
 bd (pS w.r.bM w.o.Span) fun rA=>
 if !decide (rA.2.2=0) then
 some ((),(⟨w.r,w.o,(⟨w.x.Client,w.x.Seq,rA.2.2,w.x.Value,w.x.Version,w.x.Names⟩:ai),w.l⟩:af))
 else
 bd (Loop (gj rA) (0,w.r.Shelf.L,rA.1.fQ,rA.1.L,w.r.bk.L,w.r.Seen,w.o.Client,w.o.Seq,w.o.Kind,w.o.Path,w.o.Value,w.o.Version,w.o.Session,w.o.Span,w.x.Client,w.x.Seq,rA.2.2,w.x.Value,rA.1.fQ,w.x.Names,w.l)) fun w1=>
 some ((),(⟨(⟨(⟨w1.1⟩:aB),(⟨w1.2.1,w1.2.2.1⟩:aD),(⟨w1.2.2.2.1⟩:bB),w1.2.2.2.2.1⟩:au),(⟨w1.2.2.2.2.2.1,w1.2.2.2.2.2.2.1,w1.2.2.2.2.2.2.2.1,w1.2.2.2.2.2.2.2.2.1,w1.2.2.2.2.2.2.2.2.2.1,w1.2.2.2.2.2.2.2.2.2.2.1,w1.2.2.2.2.2.2.2.2.2.2.2.1,w1.2.2.2.2.2.2.2.2.2.2.2.2.1⟩:av),(⟨w1.2.2.2.2.2.2.2.2.2.2.2.2.2.1,w1.2.2.2.2.2.2.2.2.2.2.2.2.2.2.1,w1.2.2.2.2.2.2.2.2.2.2.2.2.2.2.2.1,w1.2.2.2.2.2.2.2.2.2.2.2.2.2.2.2.2.1,w1.2.2.2.2.2.2.2.2.2.2.2.2.2.2.2.2.2.1,w1.2.2.2.2.2.2.2.2.2.2.2.2.2.2.2.2.2.2.1⟩:ai),w1.2.2.2.2.2.2.2.2.2.2.2.2.2.2.2.2.2.2.2⟩:af))
noncomputable def dn (sA:List ak) (v:ak) (st:Int):Option (Int⊕(Unit⊕Int)):=
 if st<(sA.length:Int) then
 ix sA st fun y=>
 if ((decide (v.Path=y.Path))&&((decide (v.Client=y.Client))&&(decide (v.Kids=y.Kids)))) then
 some (.inr (.inr st))
 else
 some (.inl (IntKind.wrap .i64 (st+1)))
 else
 some (.inr (.inl ()))
noncomputable def fe (sA:List ak) (v:ak):Option Int:=
 bd (Loop (dn sA v) 0) fun w=>
 match w with
 | .inl p1=>
  some (-1)
 | .inr p2=>
  some p2
noncomputable def db (sA:List ak) (v:ak):Option Bool:=
 bd (fe sA v) fun rA=>
 some (decide ((0:Int)≤rA))
noncomputable def pv (t:bB) (w:ak):Option (bB×Int):=
 bd (iQ w.Path) fun rA=>
 if !rA then
 some (t,13)
 else
 if w.Client<0 then
 some (t,1)
 else
 bd (db t.L w) fun aV=>
 if aV then
 some (t,0)
 else
 if (200:Int)≤(t.L.length:Int) then
 some (t,9)
 else
 bd (iP 32 t.L) fun cY=>
 if (cY.length+([w]:List ak).length) *32≤2^46 then
 some ((⟨cY++([w]:List ak)⟩:bB),0)
 else none
noncomputable def iq (w:af):Option (Unit×af):=
 bd (pv w.r.bk (⟨w.o.Path,w.o.Client,decide (w.o.Kind=11)⟩:ak)) fun rA=>
 some ((),(⟨(⟨w.r.Shelf,w.r.bM,rA.1,w.r.Seen⟩:au),w.o,(⟨w.x.Client,w.x.Seq,rA.2,w.x.Value,w.x.Version,w.x.Names⟩:ai),w.l⟩:af))
noncomputable def pT:Option (List Nat):=
 some ([(105:Nat),(106:Nat),(107:Nat),(108:Nat),(109:Nat),(110:Nat),(111:Nat),(112:Nat),(113:Nat),(114:Nat),(115:Nat),(115:Nat)]:List Nat)
noncomputable def ju (c:aA) (w:ak):Option Bool:=
 bd (
  if c.Kind<1 then
  some true
  else
  if (3:Int)<c.Kind then
  some true
  else
  bd (iQ c.Path) fun rA=>
  some (!rA):Option Bool) fun w1=>
 if w1 then
 some false
 else
 if !w.Kids then
 some (decide (c.Path=w.Path))
 else
 bd (mj c.Path) fun aV=>
 bd (
  if aV.2=0 then
  if !decide (c.Kind=2) then
  some (decide (aV.1=w.Path))
  else
  some false
  else
  some false:Option Bool) fun w2=>
 some w2
noncomputable def kI (w:ak) (c:aA) (c1:List bn):Option (Bool×(List bn)):=
 bd (ju c w) fun rA=>
 bd (
  if rA then
  if (c1.length+([(⟨w,c⟩:bn)]:List bn).length) *56≤2^46 then
  some (c1++([(⟨w,c⟩:bn)]:List bn))
  else none
  else
  some c1:Option (List bn)) fun w1=>
 some (rA,w1)
noncomputable def mJ (lA:List aA) (st:(List ak)×(List bn)×Int):Option (((List ak)×(List bn)×Int)⊕((List ak)×(List bn))):=
 if st.2.2<(lA.length:Int) then
 ix lA st.2.2 fun y=>
 bd (yO (fun u sA=>kI u y sA) st.2.1 st.1) fun aV=>
 some (.inl (aV.1,aV.2,IntKind.wrap .i64 (st.2.2+1)))
 else
 some (.inr (st.1,st.2.1))
noncomputable def pU (t:bB) (lA:List aA):Option (bB×(List bn)):=
 bd (iP 32 t.L) fun rA=>
 bd (Loop (mJ lA) (rA,([]:List bn),0)) fun w=>
 some ((⟨w.1⟩:bB),w.2)
noncomputable def lm (k:Nat) (x0:af):Option (Unit×af):=
 if k=105 then lS x0 else if k=106 then ga x0 else if k=107 then kc x0 else if k=108 then ke x0 else if k=109 then gf x0 else if k=110 then jk x0 else if k=111 then jm x0 else if k=112 then il x0 else if k=113 then im x0 else if k=114 then jn x0 else if k=115 then iq x0 else none
noncomputable def kf (a:au) (a1:av):Option (au×ai×(List bn)):=
 bd (ik a a1) fun rA=>
 if rA.2 then
 some (a,rA.1,([]:List bn))
 else
 bd (pT) fun aV=>
 ix aV a1.Kind fun y=>
 bd (lm y (⟨a,a1,rA.1,([]:List aA)⟩:af)) fun cY=>
 bd (pU cY.2.r.bk cY.2.l) fun kw=>
 bd (iP 72 a.Seen) fun EH=>
 bd (ei a a1.Client) fun K8=>
 bd (
  if K8.2 then
  ix EH K8.1 fun y1=>
  some (cY.2.r.Shelf.L,cY.2.r.bM.fQ,cY.2.r.bM.L,kw.1.L,EH.set (Int.toNat K8.1) cY.2.x,cY.2.o.Client,cY.2.o.Seq,cY.2.o.Kind,cY.2.o.Path,cY.2.o.Value,cY.2.o.Version,cY.2.o.Session,cY.2.o.Span,cY.2.x.Client,cY.2.x.Seq,cY.2.x.E,cY.2.x.Value,cY.2.x.Version,cY.2.x.Names,cY.2.l)
  else
  bd (pc 72 EH K8.1 ([cY.2.x]:List ai)) fun rA6=>
  some (cY.2.r.Shelf.L,cY.2.r.bM.fQ,cY.2.r.bM.L,kw.1.L,rA6,cY.2.o.Client,cY.2.o.Seq,cY.2.o.Kind,cY.2.o.Path,cY.2.o.Value,cY.2.o.Version,cY.2.o.Session,cY.2.o.Span,cY.2.x.Client,cY.2.x.Seq,cY.2.x.E,cY.2.x.Value,cY.2.x.Version,cY.2.x.Names,cY.2.l):Option ((List ae)×Int×(List ar)×(List ak)×(List ai)×Int×Int×Int×(List UInt8)×(List UInt8)×Int×Int×Int×Int×Int×Int×(List UInt8)×Int×(List (List UInt8))×(List aA))) fun w=>
 some ((⟨(⟨w.1⟩:aB),(⟨w.2.1,w.2.2.1⟩:aD),(⟨w.2.2.2.1⟩:bB),w.2.2.2.2.1⟩:au),(⟨w.2.2.2.2.2.2.2.2.2.2.2.2.2.1,w.2.2.2.2.2.2.2.2.2.2.2.2.2.2.1,w.2.2.2.2.2.2.2.2.2.2.2.2.2.2.2.1,w.2.2.2.2.2.2.2.2.2.2.2.2.2.2.2.2.1,w.2.2.2.2.2.2.2.2.2.2.2.2.2.2.2.2.2.1,w.2.2.2.2.2.2.2.2.2.2.2.2.2.2.2.2.2.2.1⟩:ai),kw.2)
noncomputable def zW:Option aB:=
 some (⟨([(⟨([47]:List UInt8),([]:List UInt8),0,0⟩:ae)]:List ae)⟩:aB)
noncomputable def zX:Option aD:=
 some (⟨0,([]:List ar)⟩:aD)
noncomputable def sG:Option au:=
 bd (zW) fun rA=>
 bd (zX) fun aV=>
 some (⟨rA,aV,(⟨([]:List ak)⟩:bB),([]:List ai)⟩:au)
noncomputable def eS (s1:List ae) (s2:List ae) (st:Int):Option (Int⊕(Unit⊕Bool)):=
 if st<(s1.length:Int) then
 ix s1 st fun y=>
 ix s2 st fun y1=>
 if !((decide (y.Path=y1.Path))&&((decide (y.Value=y1.Value))&&((decide (y.Version=y1.Version))&&(decide (y.cS=y1.cS))))) then
 some (.inr (.inr false))
 else
 some (.inl (IntKind.wrap .i64 (st+1)))
 else
 some (.inr (.inl ()))
noncomputable def fK (s1:List ae) (s2:List ae):Option Bool:=
 if !decide ((s1.length:Int)=(s2.length:Int)) then
 some false
 else
 bd (Loop (eS s1 s2) 0) fun w=>
 match w with
 | .inl p1=>
  some true
 | .inr p2=>
  some p2
noncomputable def pV (a:aB) (b:aB):Option Bool:=
 bd (fK a.L b.L) fun rA=>
 some rA
noncomputable def cV (s1:List ar) (s2:List ar) (st:Int):Option (Int⊕(Unit⊕Bool)):=
 if st<(s1.length:Int) then
 ix s1 st fun y=>
 ix s2 st fun y1=>
 if !((decide (y.Id=y1.Id))&&((decide (y.Span=y1.Span))&&(decide (y.jJ=y1.jJ)))) then
 some (.inr (.inr false))
 else
 some (.inl (IntKind.wrap .i64 (st+1)))
 else
 some (.inr (.inl ()))
noncomputable def dp (s1:List ar) (s2:List ar):Option Bool:=
 if !decide ((s1.length:Int)=(s2.length:Int)) then
 some false
 else
 bd (Loop (cV s1 s2) 0) fun w=>
 match w with
 | .inl p1=>
  some true
 | .inr p2=>
  some p2
noncomputable def pW (a:aD) (b:aD):Option Bool:=
 bd (
  if a.fQ=b.fQ then
  bd (dp a.L b.L) fun rA=>
  some rA
  else
  some false:Option Bool) fun w=>
 some w
noncomputable def dq (s1:List ak) (s2:List ak) (st:Int):Option (Int⊕(Unit⊕Bool)):=
 if st<(s1.length:Int) then
 ix s1 st fun y=>
 ix s2 st fun y1=>
 if !((decide (y.Path=y1.Path))&&((decide (y.Client=y1.Client))&&(decide (y.Kids=y1.Kids)))) then
 some (.inr (.inr false))
 else
 some (.inl (IntKind.wrap .i64 (st+1)))
 else
 some (.inr (.inl ()))
noncomputable def dN (s1:List ak) (s2:List ak):Option Bool:=
 if !decide ((s1.length:Int)=(s2.length:Int)) then
 some false
 else
 bd (Loop (dq s1 s2) 0) fun w=>
 match w with
 | .inl p1=>
  some true
 | .inr p2=>
  some p2
noncomputable def pX (a:bB) (b:bB):Option Bool:=
 bd (dN a.L b.L) fun rA=>
 some rA
noncomputable def kg (a:ai) (b:ai):Option Bool:=
 bd (
  if a.Client=b.Client then
  if a.Seq=b.Seq then
  if a.E=b.E then
  if a.Value=b.Value then
  if a.Version=b.Version then
  bd (ej a.Names b.Names) fun rA=>
  some rA
  else
  some false
  else
  some false
  else
  some false
  else
  some false
  else
  some false:Option Bool) fun w=>
 some w
noncomputable def bg (s1:List ai) (s2:List ai) (eq:ai→ai→Option Bool) (st:Int):Option (Int⊕(Unit⊕Bool)):=
 if st<(s1.length:Int) then
 ix s1 st fun y=>
 ix s2 st fun y1=>
 bd (eq y y1) fun rA=>
 if !rA then
 some (.inr (.inr false))
 else
 some (.inl (IntKind.wrap .i64 (st+1)))
 else
 some (.inr (.inl ()))
noncomputable def bl (s1:List ai) (s2:List ai) (eq:ai→ai→Option Bool):Option Bool:=
 if !decide ((s1.length:Int)=(s2.length:Int)) then
 some false
 else
 bd (Loop (bg s1 s2 eq) 0) fun w=>
 match w with
 | .inl p1=>
  some true
 | .inr p2=>
  some p2
noncomputable def pY (a:au) (b:au):Option Bool:=
 bd (
  bd (pV a.Shelf b.Shelf) fun rA=>
  if rA then
  bd (pW a.bM b.bM) fun aV=>
  if aV then
  bd (pX a.bk b.bk) fun cY=>
  if cY then
  bd (bl a.Seen b.Seen kg) fun kw=>
  some kw
  else
  some false
  else
  some false
  else
  some false:Option Bool) fun w=>
 some w
noncomputable def pw:Option Bool:=
 bd (sG) fun rA=>
 bd (kf rA (⟨1,1,1,([47,97]:List UInt8),([120]:List UInt8),0,0,0⟩:av)) fun aV=>
 bd (kf aV.1 (⟨1,1,1,([47,97]:List UInt8),([120]:List UInt8),0,0,0⟩:av)) fun cY=>
 bd (nz cY.1 1) fun kw=>
 bd (
  if aV.2.1.E=0 then
  if cY.2.1.E=0 then
  if (aV.1.Shelf.L.length:Int)=2 then
  bd (pY aV.1 cY.1) fun EH=>
  if EH then
  if kw.2 then
  some (decide (kw.1.Seq=1))
  else
  some false
  else
  some false
  else
  some false
  else
  some false
  else
  some false:Option Bool) fun w=>
 some w
noncomputable def gk (st:(List ae)×Int×(List ar)×(List ak)×(List ai)×Int) (kw:au×ai×(List bn)) (dR:Int) (dY:Bool×Int):Option ((Bool×Int)⊕Bool):=
 if dY.2<(st.2.2.2.1.length:Int) then
 bd (
  if dY.1 then
  some true
  else
  ix st.2.2.2.1 dY.2 fun y1=>
  ix kw.2.2 dR fun y2=>
  some ((decide (y1.Path=y2.W.Path))&&((decide (y1.Client=y2.W.Client))&&(decide (y1.Kids=y2.W.Kids)))):Option Bool) fun w3=>
 some (.inl (w3,IntKind.wrap .i64 (dY.2+1)))
 else
 some (.inr dY.1)
noncomputable def gl (a:List av) (st:(List ae)×Int×(List ar)×(List ak)×(List ai)×Int) (kw:au×ai×(List bn)) (dR:Int) (mA:Bool×Int):Option ((Bool×Int)⊕Bool):=
 if mA.2<st.2.2.2.2.2 then
 ix a mA.2 fun y3=>
 bd (
  if mA.1 then
  some true
  else
  ix kw.2.2 dR fun y4=>
  if y3.Client=y4.W.Client then
  ix kw.2.2 dR fun y5=>
  if y3.Path=y5.W.Path then
  ix kw.2.2 dR fun y6=>
  if (decide (y3.Kind=11))=y6.W.Kids then
  if y3.Kind=10 then
  some true
  else
  some (decide (y3.Kind=11))
  else
  some false
  else
  some false
  else
  some false:Option Bool) fun w5=>
 some (.inl (w5,IntKind.wrap .i64 (mA.2+1)))
 else
 some (.inr mA.1)
noncomputable def gm (a:List av) (st:(List ae)×Int×(List ar)×(List ak)×(List ai)×Int) (kw:au×ai×(List bn)) (dR:Int):Option (Int⊕(Unit⊕Bool)):=
 if dR<(kw.2.2.length:Int) then
 bd (Loop (gk st kw dR) (false,0)) fun w2=>
 bd (Loop (gl a st kw dR) (false,0)) fun w4=>
 bd (
  if !w2 then
  some true
  else
  if !w4 then
  some true
  else
  ix kw.2.2 dR fun y7=>
  ix kw.2.2 dR fun y8=>
  bd (ju y7.C y8.W) fun EH=>
  if !EH then
  some true
  else
  some (!decide (kw.2.1.E=0)):Option Bool) fun w6=>
 if w6 then
 some (.inr (.inr false))
 else
 some (.inl (IntKind.wrap .i64 (dR+1)))
 else
 some (.inr (.inl ()))
noncomputable def gn (a:List av) (st:(List ae)×Int×(List ar)×(List ak)×(List ai)×Int):Option (((List ae)×Int×(List ar)×(List ak)×(List ai)×Int)⊕(Unit⊕Bool)):=
 if st.2.2.2.2.2<(a.length:Int) then
 ix a st.2.2.2.2.2 fun y=>
 bd (kf (⟨(⟨st.1⟩:aB),(⟨st.2.1,st.2.2.1⟩:aD),(⟨st.2.2.2.1⟩:bB),st.2.2.2.2.1⟩:au) y) fun kw=>
 bd (Loop (gm a st kw) 0) fun w1=>
 match w1 with
 | .inl p4=>
  bd (
   if !decide ((IntKind.wrap .i64 ((kw.1.bk.L.length:Int)+(kw.2.2.length:Int)))=(st.2.2.2.1.length:Int)) then
   if (0:Int)<(kw.2.2.length:Int) then
   some true
   else
   some (!decide ((kw.1.bk.L.length:Int)=(IntKind.wrap .i64 ((st.2.2.2.1.length:Int)+1))))
   else
   some false:Option Bool) fun w7=>
  if w7 then
  some (.inr (.inr false))
  else
  some (.inl (kw.1.Shelf.L,kw.1.bM.fQ,kw.1.bM.L,kw.1.bk.L,kw.1.Seen,IntKind.wrap .i64 (st.2.2.2.2.2+1)))
 | .inr p5=>
  some (.inr (.inr p5))
 else
 some (.inr (.inl ()))
noncomputable def lG (a:List av):Option Bool:=
 bd (sD a) fun rA=>
 if !rA then
 bd (pw) fun aV=>
 some aV
 else
 bd (sG) fun cY=>
 bd (Loop (gn a) (cY.Shelf.L,cY.bM.fQ,cY.bM.L,cY.bk.L,cY.Seen,0)) fun w=>
 match w with
 | .inl p6=>
  bd (pw) fun K8=>
  some K8
 | .inr p7=>
  some p7
end Dn.S
