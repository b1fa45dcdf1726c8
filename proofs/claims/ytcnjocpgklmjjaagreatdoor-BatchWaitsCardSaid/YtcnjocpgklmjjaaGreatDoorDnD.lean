import Derived.Test.YtcnjocpgklmjjaaGreatDoorDnC
import Derived.KernelRfl
import Derived.Test.YtcnjocpgklmjjaaGreatDoorProg
/- What Go functions come to, on plain values. Conditions: none. -/
open Go.IntKind renaming wrap→bD,bits→AI
open Int renaming toNat→sh,fdiv→BY,tmod→IN,tdiv→ac4
open List renaming drop→AS,take→AT,replicate→ab2
open Nat renaming beq→By,le_of_ble_eq_true→No,eq_of_beq_eq_true→OF
open Go.Extern.SlicesOverlaps renaming overlaps→IT
open Go.Op renaming bytesLess→ad1
open Go.Shelf renaming Ren→ad5
open Go.Proofs.Lays renaming n146→aec,n160→aeY,n151→aft
set_option linter.all false
set_option maxRecDepth 100000
open Go Dn Go.Proofs
namespace Dn.S
noncomputable section
structure aa where
 Client:Int
 Seq:Int
 Kind:Int
 Path:List UInt8
 Value:List UInt8
 Version:Int
 Session:Int
 Span:Int
deriving DecidableEq
@[reducible] def Ud (x : aa) : List MV := [.i .i64 x.Client, .i .i64 x.Seq, .i .i64 x.Kind, .s x.Path, .s x.Value, .i .i64 x.Version, .i .i64 x.Session, .i .i64 x.Span]
@[reducible] def aQ (x : aa) : MV := .agg (Ud x)
structure ab where
 Path:List UInt8
 Value:List UInt8
 Version:Int
 dt:Int
deriving DecidableEq
@[reducible] def Xq (x : ab) : List MV := [.s x.Path, .s x.Value, .i .i64 x.Version, .i .i64 x.dt]
@[reducible] def bE (x : ab) : MV := .agg (Xq x)
structure ax where
 L:List ab
deriving DecidableEq
@[reducible] def Ue (x : ax) : List MV := [.list (x.L.map bE)]
@[reducible] def cL (x : ax) : MV := .agg (Ue x)
structure aB where
 Id:Int
 Span:Int
 kG:Int
deriving DecidableEq
@[reducible] def Ok (x : aB) : List MV := [.i .i64 x.Id, .i .i64 x.Span, .i .i64 x.kG]
@[reducible] def bq (x : aB) : MV := .agg (Ok x)
structure aA where
 eh:Int
 L:List aB
deriving DecidableEq
@[reducible] def Xr (x : aA) : List MV := [.i .i64 x.eh, .list (x.L.map bq)]
@[reducible] def eu (x : aA) : MV := .agg (Xr x)
structure aq where
 Path:List UInt8
 Client:Int
 Kids:Bool
deriving DecidableEq
@[reducible] def Uf (x : aq) : List MV := [.s x.Path, .i .i64 x.Client, .b x.Kids]
@[reducible] def bA (x : aq) : MV := .agg (Uf x)
structure ah where
 Client:Int
 Seq:Int
 E:Int
 Value:List UInt8
 Version:Int
 Names:List (List UInt8)
deriving DecidableEq
@[reducible] def Ug (x : ah) : List MV := [.i .i64 x.Client, .i .i64 x.Seq, .i .i64 x.E, .s x.Value, .i .i64 x.Version, .list (x.Names.map MV.s)]
@[reducible] def aU (x : ah) : MV := .agg (Ug x)
structure bZ where
 L:List aq
deriving DecidableEq
@[reducible] def Uh (x : bZ) : List MV := [.list (x.L.map bA)]
@[reducible] def oW (x : bZ) : MV := .agg (Uh x)
structure aj where
 Shelf:ax
 aE:aA
 aD:bZ
 Seen:List ah
deriving DecidableEq
@[reducible] def Ui (x : aj) : List MV := [.list (x.Shelf.L.map bE), .i .i64 x.aE.eh, .list (x.aE.L.map bq), .list (x.aD.L.map bA), .list (x.Seen.map aU)]
@[reducible] def c8 (x : aj) : MV := .agg (Ui x)
structure az where
 Kind:Int
 Path:List UInt8
deriving DecidableEq
@[reducible] def QM (x : az) : List MV := [.i .i64 x.Kind, .s x.Path]
@[reducible] def eZ (x : az) : MV := .agg (QM x)
structure af where
 r:aj
 o:aa
 x:ah
 l:List az
deriving DecidableEq
@[reducible] def bG (x : af) : List MV := [.list (x.r.Shelf.L.map bE), .i .i64 x.r.aE.eh, .list (x.r.aE.L.map bq), .list (x.r.aD.L.map bA), .list (x.r.Seen.map aU), .i .i64 x.o.Client, .i .i64 x.o.Seq, .i .i64 x.o.Kind, .s x.o.Path, .s x.o.Value, .i .i64 x.o.Version, .i .i64 x.o.Session, .i .i64 x.o.Span, .i .i64 x.x.Client, .i .i64 x.x.Seq, .i .i64 x.x.E, .s x.x.Value, .i .i64 x.x.Version, .list (x.x.Names.map MV.s), .list (x.l.map eZ)]
structure aY where
 W:aq
 C:az
deriving DecidableEq
@[reducible] def Uj (x : aY) : List MV := [.s x.W.Path, .i .i64 x.W.Client, .b x.W.Kids, .i .i64 x.C.Kind, .s x.C.Path]
@[reducible] def dm (x : aY) : MV := .agg (Uj x)
structure aJ where
 Client:Int
 Seq:Int
 Kind:Int
 Path:List UInt8
 Value:List UInt8
 Version:Int
 Session:Int
 Span:Int
deriving DecidableEq
@[reducible] def ZZ (x : aJ) : List MV := [.i .i64 x.Client, .i .i64 x.Seq, .i .i64 x.Kind, .s x.Path, .s x.Value, .i .i64 x.Version, .i .i64 x.Session, .i .i64 x.Span]
@[reducible] def ct (x : aJ) : MV := .agg (ZZ x)
structure aW where
 Path:List UInt8
 Value:List UInt8
 Version:Int
 dt:Int
deriving DecidableEq
@[reducible] def Jo (x : aW) : List MV := [.s x.Path, .s x.Value, .i .i64 x.Version, .i .i64 x.dt]
@[reducible] def cM (x : aW) : MV := .agg (Jo x)
structure bm where
 L:List aW
deriving DecidableEq
@[reducible] def F3 (x : bm) : List MV := [.list (x.L.map cM)]
@[reducible] def db (x : bm) : MV := .agg (F3 x)
structure aw where
 Id:Int
 Span:Int
 kG:Int
deriving DecidableEq
@[reducible] def Uk (x : aw) : List MV := [.i .i64 x.Id, .i .i64 x.Span, .i .i64 x.kG]
@[reducible] def bQ (x : aw) : MV := .agg (Uk x)
structure cg where
 eh:Int
 L:List aw
deriving DecidableEq
@[reducible] def ad7 (x : cg) : List MV := [.i .i64 x.eh, .list (x.L.map bQ)]
@[reducible] def kf (x : cg) : MV := .agg (ad7 x)
structure aR where
 Path:List UInt8
 Client:Int
 Kids:Bool
deriving DecidableEq
@[reducible] def Z3 (x : aR) : List MV := [.s x.Path, .i .i64 x.Client, .b x.Kids]
@[reducible] def ec (x : aR) : MV := .agg (Z3 x)
structure dS where
 L:List aR
deriving DecidableEq
@[reducible] def Z4 (x : dS) : List MV := [.list (x.L.map ec)]
@[reducible] def tC (x : dS) : MV := .agg (Z4 x)
structure ay where
 Client:Int
 Seq:Int
 E:Int
 Value:List UInt8
 Version:Int
 Names:List (List UInt8)
deriving DecidableEq
@[reducible] def Z5 (x : ay) : List MV := [.i .i64 x.Client, .i .i64 x.Seq, .i .i64 x.E, .s x.Value, .i .i64 x.Version, .list (x.Names.map MV.s)]
@[reducible] def bX (x : ay) : MV := .agg (Z5 x)
structure bu where
 Shelf:bm
 aE:cg
 aD:dS
 Seen:List ay
deriving DecidableEq
@[reducible] def Z6 (x : bu) : List MV := [.list (x.Shelf.L.map cM), .i .i64 x.aE.eh, .list (x.aE.L.map bQ), .list (x.aD.L.map ec), .list (x.Seen.map bX)]
@[reducible] def dc (x : bu) : MV := .agg (Z6 x)
structure bh where
 Kind:Int
 Path:List UInt8
deriving DecidableEq
@[reducible] def Xs (x : bh) : List MV := [.i .i64 x.Kind, .s x.Path]
@[reducible] def e8 (x : bh) : MV := .agg (Xs x)
structure cA where
 W:aR
 C:bh
deriving DecidableEq
@[reducible] def Z7 (x : cA) : List MV := [.s x.W.Path, .i .i64 x.W.Client, .b x.W.Kids, .i .i64 x.C.Kind, .s x.C.Path]
@[reducible] def nz (x : cA) : MV := .agg (Z7 x)
structure bM where
 b:List Int
deriving DecidableEq
@[reducible] def oX (x : bM) : List MV := [.list (x.b.map (MV.i .u8))]
structure kv where
 state:List Int
 left:List Int
 long:Int
deriving DecidableEq
@[reducible] def eJ (x : kv) : List MV := [.h .u32 6 x.state, .list (x.left.map (MV.i .u8)), .i .i64 x.long]
def K1 (lA:List aa)(st:Int):Option (Int⊕(Unit⊕Bool)):=if st<(lA.length:Int) then
 bd (if st=30 then
  some true
  else
  ix lA st λy=>
  if (200:Int)<(y.Path.length:Int) then
  some true
  else
  ix lA st λy1=>
  some (decide ((1100:Int)<(y1.Value.length:Int))):Option Bool) λw1=>
 if w1 then
 some (.inr (.inr false))
 else
 some (.inl (bD .i64 (st+1)))
 else
 some (.inr (.inl ()))
def zk (lA:List aa):Option Bool:=bd (Loop (K1 lA) 0) λw=>
 match w with
 | .inl p1=>some true
 | .inr p2=>some p2
def Jp:Option ax:=some (⟨([(⟨([47]:List UInt8),([]:List UInt8),0,0⟩:ab)]:List ab)⟩:ax)
def Jq:Option aA:=some (⟨0,([]:List aB)⟩:aA)
def D9:Option aj:=bd (Jp) λrA=>
 bd (Jq) λaO=>
 some (⟨rA,aO,(⟨([]:List aq)⟩:bZ),([]:List ah)⟩:aj)
def qy (x:Int):Option Bool:=some (!decide (x=x))
def kH (x:Int)(y:Int):Option Int:=bd (qy x) λrA=>
 bd (qy y) λaO=>
 if rA then
 if aO then
 some 0
 else
 some (-1)
 else
 if aO then
 some 1
 else
 if x<y then
 some (-1)
 else
 if y<x then
 some 1
 else
 some 0
def dg (x:ah)(eT:Int):Option Int:=bd (kH x.Client eT) λrA=>some rA
def gx (x:List ah)(target:Int)(cmp:ah->Int->Option Int)(st:Int×Int):Option ((Int×Int)⊕Int):=if st.1<st.2 then
 if (0:Int)<=1 then
 ix x (bD .i64 (BY (bD .u64 (bD .i64 (st.1+st.2))) (2^min (sh 1) (AI .u64)))) λy=>
 bd (cmp y target) λrA=>
 bd (if rA<0 then
  some (bD .i64 ((bD .i64 (BY (bD .u64 (bD .i64 (st.1+st.2))) (2^min (sh 1) (AI .u64))))+1),st.2)
  else
  some (st.1,bD .i64 (BY (bD .u64 (bD .i64 (st.1+st.2))) (2^min (sh 1) (AI .u64)))):Option (Int×Int)) λw1=>
 some (.inl (w1.1,w1.2))
 else none
 else
 some (.inr st.1)
def cT (x:List ah)(target:Int)(cmp:ah->Int->Option Int):Option (Int×Bool):=bd (Loop (gx x target cmp) (0,(x.length:Int))) λw=>
 bd (if w<(x.length:Int) then
  ix x w λy1=>
  bd (cmp y1 target) λaO=>
  some (w,decide (aO=0))
  else
  some (w,false):Option (Int×Bool)) λw2=>
 some (w2.1,w2.2)
def fY (rA:aj)(eT:Int):Option (Int×Bool):=bd (cT rA.Seen eT dg) λaO=>some (aO.1,aO.2)
def sr (rA:aj)(eT:Int):Option (ah×Bool):=bd (fY rA eT) λaO=>
 if !aO.2 then
 some ((⟨0,0,0,([]:List UInt8),0,([]:List (List UInt8))⟩:ah),false)
 else
 ix rA.Seen aO.1 λy=>
 some (y,true)
def bw (o:aa):Option aa:=if o.Kind=1 then
 some (⟨o.Client,o.Seq,o.Kind,o.Path,o.Value,0,o.Session,0⟩:aa)
 else
 bd (if o.Kind=2 then
  some (decide (o.Kind=2))
  else
  bd (if o.Kind=5 then
   some (decide (o.Kind=5))
   else
   bd (if o.Kind=10 then
    some (decide (o.Kind=10))
    else
    some (decide (o.Kind=11)):Option Bool) λw2=>
   some w2:Option Bool) λw1=>
  some w1:Option Bool) λw=>
 if w then
 some (⟨o.Client,o.Seq,o.Kind,o.Path,([]:List UInt8),0,0,0⟩:aa)
 else
 if o.Kind=3 then
 some (⟨o.Client,o.Seq,o.Kind,o.Path,o.Value,o.Version,0,0⟩:aa)
 else
 if o.Kind=4 then
 some (⟨o.Client,o.Seq,o.Kind,o.Path,([]:List UInt8),o.Version,0,0⟩:aa)
 else
 if o.Kind=6 then
 some (⟨o.Client,o.Seq,o.Kind,([]:List UInt8),([]:List UInt8),0,o.Session,o.Span⟩:aa)
 else
 bd (if o.Kind=7 then
  some (decide (o.Kind=7))
  else
  some (decide (o.Kind=8)):Option Bool) λw3=>
 if w3 then
 some (⟨o.Client,o.Seq,o.Kind,([]:List UInt8),([]:List UInt8),0,o.Session,0⟩:aa)
 else
 if o.Kind=9 then
 some (⟨o.Client,o.Seq,o.Kind,([]:List UInt8),([]:List UInt8),0,0,o.Span⟩:aa)
 else
 some (⟨o.Client,o.Seq,o.Kind,([]:List UInt8),([]:List UInt8),0,0,0⟩:aa)
def dK (o:aa):Option Bool:=bd (if (0:Int)<=o.Client then
  if o.Client<=1000 then
  if (1:Int)<=o.Seq then
  some (decide (o.Seq<=1000000000))
  else
  some false
  else
  some false
  else
  some false:Option Bool) λw=>
 bd (if w then
  if (0:Int)<=o.Kind then
  if o.Kind<=11 then
  if (o.Path.length:Int)<=100 then
  if (o.Value.length:Int)<=1000 then
  bd (bw o) λrA=>
  some ((decide (o.Client=rA.Client))&&((decide (o.Seq=rA.Seq))&&((decide (o.Kind=rA.Kind))&&((decide (o.Path=rA.Path))&&((decide (o.Value=rA.Value))&&((decide (o.Version=rA.Version))&&((decide (o.Session=rA.Session))&&(decide (o.Span=rA.Span)))))))))
  else
  some false
  else
  some false
  else
  some false
  else
  some false
  else
  some false:Option Bool) λw1=>
 some w1
abbrev abV:=Int×Int×Int×(List UInt8)×Int×(List (List UInt8))×Int×Int×Int×(List UInt8)×Int×(List (List UInt8))
abbrev acl:=Int×Int×Int×(List UInt8)×Int×(List (List UInt8))×Bool
def kI (rA:aj)(o:aa):Option (ah×Bool):=bd (sr rA o.Client) λaO=>
 bd (dK o) λbK=>
 bd (if !bK then
  some (.inl (0,0,0,([]:List UInt8),0,([]:List (List UInt8)),o.Client,o.Seq,1,([]:List UInt8),0,([]:List (List UInt8))))
  else
  bd (if aO.2 then
   some (decide (aO.1.Seq=o.Seq))
   else
   some false:Option Bool) λw1=>
  if w1 then
  some (.inr (aO.1.Client,aO.1.Seq,aO.1.E,aO.1.Value,aO.1.Version,aO.1.Names,true))
  else
  bd (if aO.2 then
   some (decide (o.Seq<aO.1.Seq))
   else
   some false:Option Bool) λw2=>
  bd (if w2 then
   some (.inl (0,0,0,([]:List UInt8),0,([]:List (List UInt8)),o.Client,o.Seq,15,([]:List UInt8),0,([]:List (List UInt8))))
   else
   bd (if !aO.2 then
    some (decide ((50:Int)<=(rA.Seen.length:Int)))
    else
    some false:Option Bool) λw4=>
   if w4 then
   some (.inl (0,0,0,([]:List UInt8),0,([]:List (List UInt8)),o.Client,o.Seq,9,([]:List UInt8),0,([]:List (List UInt8))))
   else
   some (.inr (o.Client,o.Seq,0,([]:List UInt8),0,([]:List (List UInt8)),false)):Option ((abV)⊕(acl))) λw3=>
  match w3 with
  | .inl p2=>some (.inl (p2.1,p2.2.1,p2.2.2.1,p2.2.2.2.1,p2.2.2.2.2.1,p2.2.2.2.2.2.1,p2.2.2.2.2.2.2.1,p2.2.2.2.2.2.2.2.1,p2.2.2.2.2.2.2.2.2.1,p2.2.2.2.2.2.2.2.2.2.1,p2.2.2.2.2.2.2.2.2.2.2.1,p2.2.2.2.2.2.2.2.2.2.2.2))
  | .inr p3=>some (.inr (p3.1,p3.2.1,p3.2.2.1,p3.2.2.2.1,p3.2.2.2.2.1,p3.2.2.2.2.2.1,p3.2.2.2.2.2.2)):Option ((abV)⊕(acl))) λw=>
 match w with
 | .inl p4=>some ((⟨p4.2.2.2.2.2.2.1,p4.2.2.2.2.2.2.2.1,p4.2.2.2.2.2.2.2.2.1,p4.2.2.2.2.2.2.2.2.2.1,p4.2.2.2.2.2.2.2.2.2.2.1,p4.2.2.2.2.2.2.2.2.2.2.2⟩:ah),true)
 | .inr p5=>some ((⟨p5.1,p5.2.1,p5.2.2.1,p5.2.2.2.1,p5.2.2.2.2.1,p5.2.2.2.2.2.1⟩:ah),p5.2.2.2.2.2.2)
def pH (w:af):Option (Unit×af):=some ((),w)
def du (x:aB)(id:Int):Option Int:=bd (kH x.Id id) λrA=>some rA
def fP (x:List aB)(target:Int)(cmp:aB->Int->Option Int)(st:Int×Int):Option ((Int×Int)⊕Int):=if st.1<st.2 then
 if (0:Int)<=1 then
 ix x (bD .i64 (BY (bD .u64 (bD .i64 (st.1+st.2))) (2^min (sh 1) (AI .u64)))) λy=>
 bd (cmp y target) λrA=>
 bd (if rA<0 then
  some (bD .i64 ((bD .i64 (BY (bD .u64 (bD .i64 (st.1+st.2))) (2^min (sh 1) (AI .u64))))+1),st.2)
  else
  some (st.1,bD .i64 (BY (bD .u64 (bD .i64 (st.1+st.2))) (2^min (sh 1) (AI .u64)))):Option (Int×Int)) λw1=>
 some (.inl (w1.1,w1.2))
 else none
 else
 some (.inr st.1)
def cE (x:List aB)(target:Int)(cmp:aB->Int->Option Int):Option (Int×Bool):=bd (Loop (fP x target cmp) (0,(x.length:Int))) λw=>
 bd (if w<(x.length:Int) then
  ix x w λy1=>
  bd (cmp y1 target) λaO=>
  some (w,decide (aO=0))
  else
  some (w,false):Option (Int×Bool)) λw2=>
 some (w2.1,w2.2)
def ez (b:aA)(id:Int):Option (Int×Bool):=bd (cE b.L id du) λrA=>some (rA.1,rA.2)
def zl (b:aA)(id:Int):Option Bool:=bd (ez b id) λrA=>some rA.2
def jx (sA:List UInt8)(gk:List UInt8):Option Bool:=bd (if (gk.length:Int)<=(sA.length:Int) then
  if (0:Int)<=0/\(0:Int)<=(gk.length:Int)/\(gk.length:Int)<=(sA.length:Int) then
  some (decide ((AS (sh 0) (AT (sh (gk.length:Int)) sA))=gk))
  else none
  else
  some false:Option Bool) λw=>
 some w
def jy (sA:List UInt8)(gk:List UInt8):Option ((List UInt8)×Bool):=bd (jx sA gk) λrA=>
 if !rA then
 some (sA,false)
 else
 if (0:Int)<=(gk.length:Int)/\(gk.length:Int)<=(sA.length:Int)/\(sA.length:Int)<=(sA.length:Int) then
 some (AS (sh (gk.length:Int)) (AT (sh (sA.length:Int)) sA),true)
 else none
def jQ (sA:List UInt8)(gk:List UInt8):Option ((List UInt8)×Bool):=bd (jy sA gk) λrA=>some (rA.1,rA.2)
def iS (c:Int):Option Bool:=bd (Hv ([97,98,99,100,101,102,103,104,105,106,107,108,109,110,111,112,113,114,115,116,117,118,119,120,121,122,48,49,50,51,52,53,54,55,56,57,45,95]:List UInt8) c) λrA=>some (!rA)
def jR (f:Int->Option Bool)(K3:Bool)(st:(List MV)):Option ((List MV)⊕(Unit⊕Int)):=if Qt st then
 bd (f (FD st)) λrA=>
 if rA=K3 then
 some (.inr (.inr (vN st)))
 else
 some (.inl (FE st))
 else
 some (.inr (.inl ()))
def po (sA:List UInt8)(f:Int->Option Bool)(K3:Bool):Option Int:=bd (Loop (jR f K3) ([.s sA,.i .i64 0]:List MV)) λw=>
 match w with
 | .inl p1=>some (-1)
 | .inr p2=>some p2
def mH (sA:List UInt8)(f:Int->Option Bool):Option Int:=bd (po sA f true) λrA=>some rA
def gy (sA:List UInt8)(f:Int->Option Bool):Option Bool:=bd (mH sA f) λrA=>some (decide ((0:Int)<=rA))
def tD (sA:List UInt8):Option Bool:=bd (if !decide (sA=([]:List UInt8)) then
  if (sA.length:Int)<=30 then
  bd (Sg sA ([97,98,99,100,101,102,103,104,105,106,107,108,109,110,111,112,113,114,115,116,117,118,119,120,121,122,48,49,50,51,52,53,54,55,56,57,45,95]:List UInt8)) λrA=>
  if rA=([]:List UInt8) then
  bd (gy sA iS) λaO=>
  some (!aO)
  else
  some false
  else
  some false
  else
  some false:Option Bool) λw=>
 some w
def n9 (sA:List UInt8):Option Bool:=bd (tD sA) λrA=>some (!rA)
def ej (sA:List (List UInt8))(f:(List UInt8)->Option Bool)(st:Int):Option (Int⊕(Unit⊕Int)):=if st<(sA.length:Int) then
 ix sA st λy=>
 bd (f y) λrA=>
 if rA then
 some (.inr (.inr st))
 else
 some (.inl (bD .i64 (st+1)))
 else
 some (.inr (.inl ()))
def iJ (sA:List (List UInt8))(f:(List UInt8)->Option Bool):Option Int:=bd (Loop (ej sA f) 0) λw=>
 match w with
 | .inl p1=>some (-1)
 | .inr p2=>some p2
def dU (sA:List (List UInt8))(f:(List UInt8)->Option Bool):Option Bool:=bd (iJ sA f) λrA=>some (decide ((0:Int)<=rA))
def je (p:List UInt8):Option ((List (List UInt8))×Bool):=bd (jQ p ([47]:List UInt8)) λrA=>
 bd (if !rA.2 then
  some true
  else
  some (decide ((100:Int)<(p.length:Int))):Option Bool) λw=>
 if w then
 some (([]:List (List UInt8)),false)
 else
 if rA.1=([]:List UInt8) then
 some (([]:List (List UInt8)),true)
 else
 bd (T6 rA.1 ([47]:List UInt8)) λaO=>
 bd (if (aO.length:Int)<=8 then
  bd (dU aO n9) λbK=>
  some (aO,!bK,aO)
  else
  some (aO,false,aO):Option ((List (List UInt8))×Bool×(List (List UInt8)))) λw1=>
 some (w1.2.2,w1.2.1)
def lS (x:List UInt8):Option Bool:=some (!decide (x=x))
def jS (x:List UInt8)(y:List UInt8):Option Int:=bd (lS x) λrA=>
 bd (lS y) λaO=>
 if rA then
 if aO then
 some 0
 else
 some (-1)
 else
 if aO then
 some 1
 else
 if ad1 x y then
 some (-1)
 else
 if !(ad1 x y||decide (x=y)) then
 some 1
 else
 some 0
def e9 (s1:List (List UInt8))(s2:List (List UInt8))(st:Int):Option (Int⊕(Unit⊕Int)):=if st<(s1.length:Int) then
 ix s1 st λy=>
 if (s2.length:Int)<=st then
 some (.inr (.inr 1))
 else
 ix s2 st λy1=>
 bd (jS y y1) λrA=>
 if !decide (rA=0) then
 some (.inr (.inr rA))
 else
 some (.inl (bD .i64 (st+1)))
 else
 some (.inr (.inl ()))
def gz (s1:List (List UInt8))(s2:List (List UInt8)):Option Int:=bd (Loop (e9 s1 s2) 0) λw=>
 match w with
 | .inl p1=>
  if (s1.length:Int)<(s2.length:Int) then
  some (-1)
  else
  some 0
 | .inr p2=>some p2
def wc (p:List UInt8)(q:List UInt8):Option Bool:=bd (je p) λrA=>
 bd (je q) λaO=>
 bd (if rA.2 then
  if aO.2 then
  bd (gz rA.1 aO.1) λbK=>
  some (decide (bK<0))
  else
  some false
  else
  some false:Option Bool) λw=>
 some w
def ck (n:ab)(p:List UInt8):Option Int:=if n.Path=p then
 some 0
 else
 bd (wc n.Path p) λrA=>
 if rA then
 some (-1)
 else
 some 1
def fQ (x:List ab)(target:List UInt8)(cmp:ab->(List UInt8)->Option Int)(st:Int×Int):Option ((Int×Int)⊕Int):=if st.1<st.2 then
 if (0:Int)<=1 then
 ix x (bD .i64 (BY (bD .u64 (bD .i64 (st.1+st.2))) (2^min (sh 1) (AI .u64)))) λy=>
 bd (cmp y target) λrA=>
 bd (if rA<0 then
  some (bD .i64 ((bD .i64 (BY (bD .u64 (bD .i64 (st.1+st.2))) (2^min (sh 1) (AI .u64))))+1),st.2)
  else
  some (st.1,bD .i64 (BY (bD .u64 (bD .i64 (st.1+st.2))) (2^min (sh 1) (AI .u64)))):Option (Int×Int)) λw1=>
 some (.inl (w1.1,w1.2))
 else none
 else
 some (.inr st.1)
def dA (x:List ab)(target:List UInt8)(cmp:ab->(List UInt8)->Option Int):Option (Int×Bool):=bd (Loop (fQ x target cmp) (0,(x.length:Int))) λw=>
 bd (if w<(x.length:Int) then
  ix x w λy1=>
  bd (cmp y1 target) λaO=>
  some (w,decide (aO=0))
  else
  some (w,false):Option (Int×Bool)) λw2=>
 some (w2.1,w2.2)
def fZ (sA:ax)(p:List UInt8):Option (Int×Bool):=bd (dA sA.L p ck) λrA=>some (rA.1,rA.2)
def lF (p:List UInt8):Option Bool:=bd (je p) λrA=>some rA.2
def iq (sA:ax)(p:List UInt8):Option (Int×Int):=bd (lF p) λrA=>
 if !rA then
 some (0,13)
 else
 bd (fZ sA p) λaO=>
 if !aO.2 then
 some (0,6)
 else
 some (aO.1,0)
def su (sA:ax)(p:List UInt8):Option (ab×Int):=bd (iq sA p) λrA=>
 if !decide (rA.2=0) then
 some ((⟨([]:List UInt8),([]:List UInt8),0,0⟩:ab),rA.2)
 else
 ix sA.L rA.1 λy=>
 some (y,0)
def gD (sA:List UInt8)(c:Int)(st:Int):Option (Int⊕(Unit⊕Int)):=if (0:Int)<=st then
 if (0:Int)<=st/\st<(sA.length:Int) then
 if ((sA.getD (sh st) 0).toNat:Int)=c then
 some (.inr (.inr st))
 else
 some (.inl (bD .i64 (st-1)))
 else none
 else
 some (.inr (.inl ()))
def eN (sA:List UInt8)(c:Int):Option Int:=bd (Loop (gD sA c) (bD .i64 ((sA.length:Int)-1))) λw=>
 match w with
 | .inl p1=>some (-1)
 | .inr p2=>some p2
def we (sep:List UInt8)(st:Int×Int):Option ((Int×Int)⊕Int):=if (0:Int)<=st.2 then
 if (0:Int)<=st.2/\st.2<(sep.length:Int) then
 some (.inl (bD .u32 ((bD .u32 (st.1 *16777619))+(bD .u32 ((sep.getD (sh st.2) 0).toNat:Int))),bD .i64 (st.2-1)))
 else none
 else
 some (.inr st.1)
def nA (aZ:Int×Int×Int):Option ((Int×Int×Int)⊕Int):=if (0:Int)<aZ.2.2 then
 bd (if !decide ((eX .i64 aZ.2.2 1)=0) then
  some (bD .u32 (aZ.1 *aZ.2.1))
  else
  some aZ.1:Option Int) λw2=>
 if (0:Int)<=1 then
 some (.inl (w2,bD .u32 (aZ.2.1 *aZ.2.1),BY aZ.2.2 (2^min (sh 1) (AI .i64))))
 else none
 else
 some (.inr aZ.1)
def kg (sep:List UInt8):Option (Int×Int):=bd (Loop (we sep) (0,bD .i64 ((sep.length:Int)-1))) λw=>
 bd (Loop nA (1,16777619,(sep.length:Int))) λw1=>
 some (w,w1)
def jf (a:List UInt8)(a1:List UInt8)(st:Int×Int):Option ((Int×Int)⊕Int):=if (bD .i64 ((a.length:Int)-(a1.length:Int)))<=st.2 then
 if (0:Int)<=st.2/\st.2<(a.length:Int) then
 some (.inl (bD .u32 ((bD .u32 (st.1 *16777619))+(bD .u32 ((a.getD (sh st.2) 0).toNat:Int))),bD .i64 (st.2-1)))
 else none
 else
 some (.inr st.1)
def jg (a:List UInt8)(a1:List UInt8)(rA:Int×Int)(aZ:Int×Int):Option ((Int×Int)⊕(Unit⊕Int)):=if (0:Int)<=aZ.2 then
 if (0:Int)<=aZ.2/\aZ.2<(a.length:Int) then
 if (0:Int)<=(bD .i64 (aZ.2+(a1.length:Int)))/\(bD .i64 (aZ.2+(a1.length:Int)))<(a.length:Int) then
 bd (if (bD .u32 ((bD .u32 ((bD .u32 (aZ.1 *16777619))+(bD .u32 ((a.getD (sh aZ.2) 0).toNat:Int))))-(bD .u32 (rA.2 *(bD .u32 ((a.getD (sh (bD .i64 (aZ.2+(a1.length:Int)))) 0).toNat:Int))))))=rA.1 then
  if (0:Int)<=aZ.2/\aZ.2<=(bD .i64 (aZ.2+(a1.length:Int)))/\(bD .i64 (aZ.2+(a1.length:Int)))<=(a.length:Int) then
  some (decide ((AS (sh aZ.2) (AT (sh (bD .i64 (aZ.2+(a1.length:Int)))) a))=a1))
  else none
  else
  some false:Option Bool) λw3=>
 if w3 then
 some (.inr (.inr aZ.2))
 else
 some (.inl (bD .u32 ((bD .u32 ((bD .u32 (aZ.1 *16777619))+(bD .u32 ((a.getD (sh aZ.2) 0).toNat:Int))))-(bD .u32 (rA.2 *(bD .u32 ((a.getD (sh (bD .i64 (aZ.2+(a1.length:Int)))) 0).toNat:Int))))),bD .i64 (aZ.2-1)))
 else none
 else none
 else
 some (.inr (.inl ()))
def fa (a:List UInt8)(a1:List UInt8):Option Int:=bd (kg a1) λrA=>
 bd (Loop (jf a a1) (0,bD .i64 ((a.length:Int)-1))) λw=>
 bd (if w=rA.1 then
  if (0:Int)<=(bD .i64 ((a.length:Int)-(a1.length:Int)))/\(bD .i64 ((a.length:Int)-(a1.length:Int)))<=(a.length:Int)/\(a.length:Int)<=(a.length:Int) then
  some (decide ((AS (sh (bD .i64 ((a.length:Int)-(a1.length:Int)))) (AT (sh (a.length:Int)) a))=a1))
  else none
  else
  some false:Option Bool) λw1=>
 if w1 then
 some (bD .i64 ((a.length:Int)-(a1.length:Int)))
 else
 bd (Loop (jg a a1 rA) (w,bD .i64 ((bD .i64 ((a.length:Int)-(a1.length:Int)))-1))) λw2=>
 match w2 with
 | .inl p2=>some (-1)
 | .inr p3=>some p3
def jT (sA:List UInt8)(substr:List UInt8):Option Int:=if (substr.length:Int)=0 then
 some (sA.length:Int)
 else
 if (substr.length:Int)=1 then
 if (0:Int)<=0/\(0:Int)<(substr.length:Int) then
 bd (eN sA ((substr.getD (sh 0) 0).toNat:Int)) λrA=>
 some rA
 else none
 else
 if (substr.length:Int)=(sA.length:Int) then
 if substr=sA then
 some 0
 else
 some (-1)
 else
 if (sA.length:Int)<(substr.length:Int) then
 some (-1)
 else
 bd (fa sA substr) λaO=>
 some aO
def pX (p:List UInt8):Option ((List UInt8)×Int):=bd (lF p) λrA=>
 if !rA then
 some (([]:List UInt8),13)
 else
 if p=([47]:List UInt8) then
 some (([]:List UInt8),6)
 else
 bd (jT p ([47]:List UInt8)) λaO=>
 if (0:Int)<=0/\(0:Int)<=(imax 1 aO)/\(imax 1 aO)<=(p.length:Int) then
 some (AS (sh 0) (AT (sh (imax 1 aO)) p),0)
 else none
def jh (c:List UInt8)(c1:Bool)(c2:ax)(c3:List UInt8)(c4:Int):Option Int:=bd (lF c) λrA=>
 if !rA then
 some 13
 else
 if c1 then
 some 7
 else
 bd (pX c) λaO=>
 bd (su c2 aO.1) λbK=>
 if !decide (bK.2=0) then
 some 6
 else
 if !decide (bK.1.dt=0) then
 some 10
 else
 if (1000:Int)<(c3.length:Int) then
 some 5
 else
 if c4<0 then
 some 1
 else
 if (200:Int)<=(c2.L.length:Int) then
 some 9
 else
 some 0
def oa (sA:ax)(p:List UInt8)(value:List UInt8)(owner:Int):Option (ax×Int):=bd (fZ sA p) λrA=>
 bd (jh p rA.2 sA value owner) λaO=>
 if !decide (aO=0) then
 some (sA,aO)
 else
 bd (lD 48 sA.L) λbK=>
 bd (uW 48 bK rA.1 ([(⟨p,value,0,owner⟩:ab)]:List ab)) λgQ=>
 some ((⟨gQ⟩:ax),0)
abbrev abw:=(List ab)×Int×(List aB)×(List aq)×(List ah)×Int×Int×Int×(List UInt8)×(List UInt8)×Int×Int×Int×Int×Int×Int×(List UInt8)×Int×(List (List UInt8))×(List az)
def dB (w:af)(kind:Int):Option (Unit×af):=bd (if w.x.E=0 then
  if (w.l.length+([(⟨kind,w.o.Path⟩:az)]:List az).length) *24<=2^46 then
  some (w.r.Shelf.L,w.r.aE.eh,w.r.aE.L,w.r.aD.L,w.r.Seen,w.o.Client,w.o.Seq,w.o.Kind,w.o.Path,w.o.Value,w.o.Version,w.o.Session,w.o.Span,w.x.Client,w.x.Seq,w.x.E,w.x.Value,w.x.Version,w.x.Names,w.l++([(⟨kind,w.o.Path⟩:az)]:List az))
  else none
  else
  some (w.r.Shelf.L,w.r.aE.eh,w.r.aE.L,w.r.aD.L,w.r.Seen,w.o.Client,w.o.Seq,w.o.Kind,w.o.Path,w.o.Value,w.o.Version,w.o.Session,w.o.Span,w.x.Client,w.x.Seq,w.x.E,w.x.Value,w.x.Version,w.x.Names,w.l):Option (abw)) λw1=>
 some ((),(⟨(⟨(⟨w1.1⟩:ax),(⟨w1.2.1,w1.2.2.1⟩:aA),(⟨w1.2.2.2.1⟩:bZ),w1.2.2.2.2.1⟩:aj),(⟨w1.2.2.2.2.2.1,w1.2.2.2.2.2.2.1,w1.2.2.2.2.2.2.2.1,w1.2.2.2.2.2.2.2.2.1,w1.2.2.2.2.2.2.2.2.2.1,w1.2.2.2.2.2.2.2.2.2.2.1,w1.2.2.2.2.2.2.2.2.2.2.2.1,w1.2.2.2.2.2.2.2.2.2.2.2.2.1⟩:aa),(⟨w1.2.2.2.2.2.2.2.2.2.2.2.2.2.1,w1.2.2.2.2.2.2.2.2.2.2.2.2.2.2.1,w1.2.2.2.2.2.2.2.2.2.2.2.2.2.2.2.1,w1.2.2.2.2.2.2.2.2.2.2.2.2.2.2.2.2.1,w1.2.2.2.2.2.2.2.2.2.2.2.2.2.2.2.2.2.1,w1.2.2.2.2.2.2.2.2.2.2.2.2.2.2.2.2.2.2.1⟩:ah),w1.2.2.2.2.2.2.2.2.2.2.2.2.2.2.2.2.2.2.2⟩:af))
def jU (w:af):Option (Unit×af):=bd (if !decide (w.o.Session=0) then
  bd (zl w.r.aE w.o.Session) λrA=>
  some (!rA)
  else
  some false:Option Bool) λw1=>
 if w1 then
 some ((),(⟨w.r,w.o,(⟨w.x.Client,w.x.Seq,14,w.x.Value,w.x.Version,w.x.Names⟩:ah),w.l⟩:af))
 else
 bd (oa w.r.Shelf w.o.Path w.o.Value w.o.Session) λaO=>
 bd (dB (⟨(⟨aO.1,w.r.aE,w.r.aD,w.r.Seen⟩:aj),w.o,(⟨w.x.Client,w.x.Seq,aO.2,w.x.Value,w.x.Version,w.x.Names⟩:ah),w.l⟩:af) 1) λbK=>
 some ((),bK.2)
def nB (w:af):Option (Unit×af):=bd (su w.r.Shelf w.o.Path) λrA=>some ((),(⟨w.r,w.o,(⟨w.x.Client,w.x.Seq,rA.2,rA.1.Value,rA.1.Version,w.x.Names⟩:ah),w.l⟩:af))
def eK (sA:ax)(p:List UInt8)(version:Int):Option (Int×Int):=bd (iq sA p) λrA=>
 bd (if rA.2=0 then
  if !decide (version=(-1)) then
  ix sA.L rA.1 λy=>
  some (!decide (version=y.Version))
  else
  some false
  else
  some false:Option Bool) λw=>
 if w then
 some (rA.1,8)
 else
 some (rA.1,rA.2)
def zm (sA:ax)(p:List UInt8)(value:List UInt8)(version:Int):Option (ax×Int):=bd (eK sA p version) λrA=>
 if !decide (rA.2=0) then
 some (sA,rA.2)
 else
 if (1000:Int)<(value.length:Int) then
 some (sA,5)
 else
 ix sA.L rA.1 λy=>
 if (1000000000:Int)<=y.Version then
 some (sA,9)
 else
 bd (lD 48 sA.L) λaO=>
 ix aO rA.1 λy1=>
 ix (aO.set (sh rA.1) (⟨y1.Path,value,y1.Version,y1.dt⟩:ab)) rA.1 λy2=>
 ix (aO.set (sh rA.1) (⟨y1.Path,value,y1.Version,y1.dt⟩:ab)) rA.1 λy3=>
 some ((⟨(aO.set (sh rA.1) (⟨y1.Path,value,y1.Version,y1.dt⟩:ab)).set (sh rA.1) (⟨y3.Path,y3.Value,bD .i64 (y2.Version+1),y3.dt⟩:ab)⟩:ax),0)
def nC (w:af):Option (Unit×af):=bd (zm w.r.Shelf w.o.Path w.o.Value w.o.Version) λrA=>
 bd (dB (⟨(⟨rA.1,w.r.aE,w.r.aD,w.r.Seen⟩:aj),w.o,(⟨w.x.Client,w.x.Seq,rA.2,w.x.Value,w.x.Version,w.x.Names⟩:ah),w.l⟩:af) 2) λaO=>
 bd (if aO.2.x.E=0 then
  bd (su aO.2.r.Shelf aO.2.o.Path) λbK=>
  some (aO.2.r.Shelf.L,aO.2.r.aE.eh,aO.2.r.aE.L,aO.2.r.aD.L,aO.2.r.Seen,aO.2.o.Client,aO.2.o.Seq,aO.2.o.Kind,aO.2.o.Path,aO.2.o.Value,aO.2.o.Version,aO.2.o.Session,aO.2.o.Span,aO.2.x.Client,aO.2.x.Seq,aO.2.x.E,aO.2.x.Value,bK.1.Version,aO.2.x.Names,aO.2.l)
  else
  some (aO.2.r.Shelf.L,aO.2.r.aE.eh,aO.2.r.aE.L,aO.2.r.aD.L,aO.2.r.Seen,aO.2.o.Client,aO.2.o.Seq,aO.2.o.Kind,aO.2.o.Path,aO.2.o.Value,aO.2.o.Version,aO.2.o.Session,aO.2.o.Span,aO.2.x.Client,aO.2.x.Seq,aO.2.x.E,aO.2.x.Value,aO.2.x.Version,aO.2.x.Names,aO.2.l):Option (abw)) λw1=>
 some ((),(⟨(⟨(⟨w1.1⟩:ax),(⟨w1.2.1,w1.2.2.1⟩:aA),(⟨w1.2.2.2.1⟩:bZ),w1.2.2.2.2.1⟩:aj),(⟨w1.2.2.2.2.2.1,w1.2.2.2.2.2.2.1,w1.2.2.2.2.2.2.2.1,w1.2.2.2.2.2.2.2.2.1,w1.2.2.2.2.2.2.2.2.2.1,w1.2.2.2.2.2.2.2.2.2.2.1,w1.2.2.2.2.2.2.2.2.2.2.2.1,w1.2.2.2.2.2.2.2.2.2.2.2.2.1⟩:aa),(⟨w1.2.2.2.2.2.2.2.2.2.2.2.2.2.1,w1.2.2.2.2.2.2.2.2.2.2.2.2.2.2.1,w1.2.2.2.2.2.2.2.2.2.2.2.2.2.2.2.1,w1.2.2.2.2.2.2.2.2.2.2.2.2.2.2.2.2.1,w1.2.2.2.2.2.2.2.2.2.2.2.2.2.2.2.2.2.1,w1.2.2.2.2.2.2.2.2.2.2.2.2.2.2.2.2.2.2.1⟩:ah),w1.2.2.2.2.2.2.2.2.2.2.2.2.2.2.2.2.2.2.2⟩:af))
def nD (s1:List (List UInt8))(s2:List (List UInt8))(st:Int):Option (Int⊕(Unit⊕Bool)):=if st<(s1.length:Int) then
 ix s1 st λy=>
 ix s2 st λy1=>
 if !decide (y=y1) then
 some (.inr (.inr false))
 else
 some (.inl (bD .i64 (st+1)))
 else
 some (.inr (.inl ()))
def ji (s1:List (List UInt8))(s2:List (List UInt8)):Option Bool:=if !decide ((s1.length:Int)=(s2.length:Int)) then
 some false
 else
 bd (Loop (nD s1 s2) 0) λw=>
 match w with
 | .inl p1=>some true
 | .inr p2=>some p2
def pI (p:List UInt8)(q:List UInt8):Option Bool:=bd (je p) λrA=>
 bd (je q) λaO=>
 bd (if rA.2 then
  if aO.2 then
  if (rA.1.length:Int)<(aO.1.length:Int) then
  if (0:Int)<=0/\(0:Int)<=(rA.1.length:Int)/\(rA.1.length:Int)<=(aO.1.length:Int) then
  bd (ji rA.1 (AS (sh 0) (AT (sh (rA.1.length:Int)) aO.1))) λbK=>
  some bK
  else none
  else
  some false
  else
  some false
  else
  some false:Option Bool) λw=>
 some w
def qz (sA:ax)(p:List UInt8)(version:Int):Option (ax×Int):=bd (eK sA p version) λrA=>
 if p=([47]:List UInt8) then
 some (sA,13)
 else
 if !decide (rA.2=0) then
 some (sA,rA.2)
 else
 bd (if (bD .i64 (rA.1+1))<(sA.L.length:Int) then
  ix sA.L (bD .i64 (rA.1+1)) λy=>
  bd (pI p y.Path) λaO=>
  some aO
  else
  some false:Option Bool) λw=>
 if w then
 some (sA,10)
 else
 bd (lD 48 sA.L) λbK=>
 bd (D6 bK rA.1 (bD .i64 (rA.1+1))) λgQ=>
 some ((⟨gQ⟩:ax),0)
def jV (w:af):Option (Unit×af):=bd (qz w.r.Shelf w.o.Path w.o.Version) λrA=>
 bd (dB (⟨(⟨rA.1,w.r.aE,w.r.aD,w.r.Seen⟩:aj),w.o,(⟨w.x.Client,w.x.Seq,rA.2,w.x.Value,w.x.Version,w.x.Names⟩:ah),w.l⟩:af) 3) λaO=>
 some ((),aO.2)
def sv (p:List UInt8):Option ((List (List UInt8))×Int):=bd (je p) λrA=>
 if !rA.2 then
 some (([]:List (List UInt8)),13)
 else
 some (rA.1,0)
def uZ (a:ax)(a1:List UInt8)(rA:Int×Int)(aO:(List (List UInt8))×Int)(st:(List (List UInt8))×Int):Option (((List (List UInt8))×Int)⊕(List (List UInt8))):=if st.2<((AS (sh (bD .i64 (rA.1+1))) (AT (sh (a.L.length:Int)) a.L)).length:Int) then
 ix (AS (sh (bD .i64 (rA.1+1))) (AT (sh (a.L.length:Int)) a.L)) st.2 λy=>
 bd (pI a1 y.Path) λbK=>
 if !bK then
 some (.inr st.1)
 else
 bd (sv y.Path) λgQ=>
 bd (if (gQ.1.length:Int)=(bD .i64 ((aO.1.length:Int)+1)) then
  ix gQ.1 (aO.1.length:Int) λy1=>
  if (st.1.length+([y1]:List (List UInt8)).length) *16<=2^46 then
  some (st.1++([y1]:List (List UInt8)))
  else none
  else
  some st.1:Option (List (List UInt8))) λw1=>
 some (.inl (w1,bD .i64 (st.2+1)))
 else
 some (.inr st.1)
def wg (a:ax)(a1:List UInt8):Option ((List (List UInt8))×Int):=bd (iq a a1) λrA=>
 if !decide (rA.2=0) then
 some (([]:List (List UInt8)),rA.2)
 else
 bd (sv a1) λaO=>
 if (0:Int)<=(bD .i64 (rA.1+1))/\(bD .i64 (rA.1+1))<=(a.L.length:Int)/\(a.L.length:Int)<=(a.L.length:Int) then
 bd (Loop (uZ a a1 rA aO) (([]:List (List UInt8)),0)) λw=>
 some (w,0)
 else none
def lT (w:af):Option (Unit×af):=bd (wg w.r.Shelf w.o.Path) λrA=>some ((),(⟨w.r,w.o,(⟨w.x.Client,w.x.Seq,rA.2,w.x.Value,w.x.Version,rA.1⟩:ah),w.l⟩:af))
def wh (b:aA)(id:Int)(span:Int):Option (aA×Int):=bd (ez b id) λrA=>
 bd (if id<1 then
  some true
  else
  if span<1 then
  some true
  else
  some (decide ((1000:Int)<span)):Option Bool) λw=>
 if w then
 some (b,1)
 else
 if rA.2 then
 some (b,7)
 else
 if (50:Int)<=(b.L.length:Int) then
 some (b,9)
 else
 bd (lD 24 b.L) λaO=>
 bd (uW 24 aO rA.1 ([(⟨id,span,bD .i64 (b.eh+span)⟩:aB)]:List aB)) λbK=>
 some ((⟨b.eh,bK⟩:aA),0)
def lU (w:af):Option (Unit×af):=bd (wh w.r.aE w.o.Session w.o.Span) λrA=>some ((),(⟨(⟨w.r.Shelf,rA.1,w.r.aD,w.r.Seen⟩:aj),w.o,(⟨w.x.Client,w.x.Seq,rA.2,w.x.Value,w.x.Version,w.x.Names⟩:ah),w.l⟩:af))
def tF (b:aA)(id:Int):Option (aA×Int):=bd (ez b id) λrA=>
 if !rA.2 then
 some (b,14)
 else
 bd (lD 24 b.L) λaO=>
 ix aO rA.1 λy=>
 ix aO rA.1 λy1=>
 some ((⟨b.eh,aO.set (sh rA.1) (⟨y1.Id,y1.Span,bD .i64 (b.eh+y.Span)⟩:aB)⟩:aA),0)
def kJ (w:af):Option (Unit×af):=bd (tF w.r.aE w.o.Session) λrA=>some ((),(⟨(⟨w.r.Shelf,rA.1,w.r.aD,w.r.Seen⟩:aj),w.o,(⟨w.x.Client,w.x.Seq,rA.2,w.x.Value,w.x.Version,w.x.Names⟩:ah),w.l⟩:af))
def tG (b:aA)(id:Int):Option (aA×Int):=bd (ez b id) λrA=>
 if !rA.2 then
 some (b,14)
 else
 bd (lD 24 b.L) λaO=>
 bd (D6 aO rA.1 (bD .i64 (rA.1+1))) λbK=>
 some ((⟨b.eh,bK⟩:aA),0)
abbrev adN:=(List (List UInt8))×(List ab)×Int
def qA (sA:ax)(owner:Int)(st:adN):Option ((adN)⊕((List (List UInt8))×(List ab))):=if st.2.2<(sA.L.length:Int) then
 ix sA.L st.2.2 λy=>
 bd (if (0:Int)<owner then
  some (decide (y.dt=owner))
  else
  some false:Option Bool) λw1=>
 if w1 then
 if (st.1.length+([y.Path]:List (List UInt8)).length) *16<=2^46 then
 some (.inl (st.1++([y.Path]:List (List UInt8)),st.2.1,bD .i64 (st.2.2+1)))
 else none
 else
 if (st.2.1.length+([y]:List ab).length) *48<=2^46 then
 some (.inl (st.1,st.2.1++([y]:List ab),bD .i64 (st.2.2+1)))
 else none
 else
 some (.inr (st.1,st.2.1))
def wi (sA:ax)(owner:Int):Option (ax×(List (List UInt8))):=bd (Loop (qA sA owner) (([]:List (List UInt8)),([]:List ab),0)) λw=>some ((⟨w.2⟩:ax),w.1)
abbrev abE:=Int×(List ab)×Int×(List aB)×(List aq)×(List ah)×Int×Int×Int×(List UInt8)×(List UInt8)×Int×Int×Int×Int×Int×Int×(List UInt8)×Int×(List (List UInt8))×(List az)
def jW (rA:ax×(List (List UInt8)))(st:abE):Option ((abE)⊕(abw)):=if st.1<(rA.2.length:Int) then
 ix rA.2 st.1 λy=>
 if (st.2.2.2.2.2.2.2.2.2.2.2.2.2.2.2.2.2.2.2.2.length+([(⟨3,y⟩:az)]:List az).length) *24<=2^46 then
 some (.inl (bD .i64 (st.1+1),st.2.1,st.2.2.1,st.2.2.2.1,st.2.2.2.2.1,st.2.2.2.2.2.1,st.2.2.2.2.2.2.1,st.2.2.2.2.2.2.2.1,st.2.2.2.2.2.2.2.2.1,st.2.2.2.2.2.2.2.2.2.1,st.2.2.2.2.2.2.2.2.2.2.1,st.2.2.2.2.2.2.2.2.2.2.2.1,st.2.2.2.2.2.2.2.2.2.2.2.2.1,st.2.2.2.2.2.2.2.2.2.2.2.2.2.1,st.2.2.2.2.2.2.2.2.2.2.2.2.2.2.1,st.2.2.2.2.2.2.2.2.2.2.2.2.2.2.2.1,st.2.2.2.2.2.2.2.2.2.2.2.2.2.2.2.2.1,st.2.2.2.2.2.2.2.2.2.2.2.2.2.2.2.2.2.1,st.2.2.2.2.2.2.2.2.2.2.2.2.2.2.2.2.2.2.1,st.2.2.2.2.2.2.2.2.2.2.2.2.2.2.2.2.2.2.2.1,st.2.2.2.2.2.2.2.2.2.2.2.2.2.2.2.2.2.2.2.2++([(⟨3,y⟩:az)]:List az)))
 else none
 else
 some (.inr (st.2.1,st.2.2.1,st.2.2.2.1,st.2.2.2.2.1,st.2.2.2.2.2.1,st.2.2.2.2.2.2.1,st.2.2.2.2.2.2.2.1,st.2.2.2.2.2.2.2.2.1,st.2.2.2.2.2.2.2.2.2.1,st.2.2.2.2.2.2.2.2.2.2.1,st.2.2.2.2.2.2.2.2.2.2.2.1,st.2.2.2.2.2.2.2.2.2.2.2.2.1,st.2.2.2.2.2.2.2.2.2.2.2.2.2.1,st.2.2.2.2.2.2.2.2.2.2.2.2.2.2.1,st.2.2.2.2.2.2.2.2.2.2.2.2.2.2.2.1,st.2.2.2.2.2.2.2.2.2.2.2.2.2.2.2.2.1,st.2.2.2.2.2.2.2.2.2.2.2.2.2.2.2.2.2.1,st.2.2.2.2.2.2.2.2.2.2.2.2.2.2.2.2.2.2.1,st.2.2.2.2.2.2.2.2.2.2.2.2.2.2.2.2.2.2.2.1,st.2.2.2.2.2.2.2.2.2.2.2.2.2.2.2.2.2.2.2.2))
def jJ (w:af)(id:Int):Option (Unit×af):=bd (wi w.r.Shelf id) λrA=>
 bd (Loop (jW rA) (0,rA.1.L,w.r.aE.eh,w.r.aE.L,w.r.aD.L,w.r.Seen,w.o.Client,w.o.Seq,w.o.Kind,w.o.Path,w.o.Value,w.o.Version,w.o.Session,w.o.Span,w.x.Client,w.x.Seq,w.x.E,w.x.Value,w.x.Version,w.x.Names,w.l)) λw1=>
 some ((),(⟨(⟨(⟨w1.1⟩:ax),(⟨w1.2.1,w1.2.2.1⟩:aA),(⟨w1.2.2.2.1⟩:bZ),w1.2.2.2.2.1⟩:aj),(⟨w1.2.2.2.2.2.1,w1.2.2.2.2.2.2.1,w1.2.2.2.2.2.2.2.1,w1.2.2.2.2.2.2.2.2.1,w1.2.2.2.2.2.2.2.2.2.1,w1.2.2.2.2.2.2.2.2.2.2.1,w1.2.2.2.2.2.2.2.2.2.2.2.1,w1.2.2.2.2.2.2.2.2.2.2.2.2.1⟩:aa),(⟨w1.2.2.2.2.2.2.2.2.2.2.2.2.2.1,w1.2.2.2.2.2.2.2.2.2.2.2.2.2.2.1,w1.2.2.2.2.2.2.2.2.2.2.2.2.2.2.2.1,w1.2.2.2.2.2.2.2.2.2.2.2.2.2.2.2.2.1,w1.2.2.2.2.2.2.2.2.2.2.2.2.2.2.2.2.2.1,w1.2.2.2.2.2.2.2.2.2.2.2.2.2.2.2.2.2.2.1⟩:ah),w1.2.2.2.2.2.2.2.2.2.2.2.2.2.2.2.2.2.2.2⟩:af))
def kK (w:af):Option (Unit×af):=bd (tG w.r.aE w.o.Session) λrA=>
 bd (if rA.2=0 then
  bd (jJ (⟨(⟨w.r.Shelf,rA.1,w.r.aD,w.r.Seen⟩:aj),w.o,(⟨w.x.Client,w.x.Seq,rA.2,w.x.Value,w.x.Version,w.x.Names⟩:ah),w.l⟩:af) w.o.Session) λaO=>
  some (aO.2.r.Shelf.L,aO.2.r.aE.eh,aO.2.r.aE.L,aO.2.r.aD.L,aO.2.r.Seen,aO.2.o.Client,aO.2.o.Seq,aO.2.o.Kind,aO.2.o.Path,aO.2.o.Value,aO.2.o.Version,aO.2.o.Session,aO.2.o.Span,aO.2.x.Client,aO.2.x.Seq,aO.2.x.E,aO.2.x.Value,aO.2.x.Version,aO.2.x.Names,aO.2.l)
  else
  some (w.r.Shelf.L,rA.1.eh,rA.1.L,w.r.aD.L,w.r.Seen,w.o.Client,w.o.Seq,w.o.Kind,w.o.Path,w.o.Value,w.o.Version,w.o.Session,w.o.Span,w.x.Client,w.x.Seq,rA.2,w.x.Value,w.x.Version,w.x.Names,w.l):Option (abw)) λw1=>
 some ((),(⟨(⟨(⟨w1.1⟩:ax),(⟨w1.2.1,w1.2.2.1⟩:aA),(⟨w1.2.2.2.1⟩:bZ),w1.2.2.2.2.1⟩:aj),(⟨w1.2.2.2.2.2.1,w1.2.2.2.2.2.2.1,w1.2.2.2.2.2.2.2.1,w1.2.2.2.2.2.2.2.2.1,w1.2.2.2.2.2.2.2.2.2.1,w1.2.2.2.2.2.2.2.2.2.2.1,w1.2.2.2.2.2.2.2.2.2.2.2.1,w1.2.2.2.2.2.2.2.2.2.2.2.2.1⟩:aa),(⟨w1.2.2.2.2.2.2.2.2.2.2.2.2.2.1,w1.2.2.2.2.2.2.2.2.2.2.2.2.2.2.1,w1.2.2.2.2.2.2.2.2.2.2.2.2.2.2.2.1,w1.2.2.2.2.2.2.2.2.2.2.2.2.2.2.2.2.1,w1.2.2.2.2.2.2.2.2.2.2.2.2.2.2.2.2.2.1,w1.2.2.2.2.2.2.2.2.2.2.2.2.2.2.2.2.2.2.1⟩:ah),w1.2.2.2.2.2.2.2.2.2.2.2.2.2.2.2.2.2.2.2⟩:af))
abbrev adQ:=(List Int)×Int×(List aB)×Int
def u9 (b:aA)(now:Int)(st:adQ):Option ((adQ)⊕((List Int)×Int×(List aB))):=if st.2.2.2<(b.L.length:Int) then
 ix b.L st.2.2.2 λy=>
 if y.kG<=now then
 if (st.1.length+([y.Id]:List Int).length) *8<=2^46 then
 some (.inl (st.1++([y.Id]:List Int),st.2.1,st.2.2.1,bD .i64 (st.2.2.2+1)))
 else none
 else
 if (st.2.2.1.length+([y]:List aB).length) *24<=2^46 then
 some (.inl (st.1,st.2.1,st.2.2.1++([y]:List aB),bD .i64 (st.2.2.2+1)))
 else none
 else
 some (.inr (st.1,st.2.1,st.2.2.1))
abbrev aeb:=aA×(List Int)×Int
def wj (b:aA)(now:Int):Option (aeb):=if now<b.eh then
 some (b,([]:List Int),15)
 else
 if (1000000000:Int)<now then
 some (b,([]:List Int),5)
 else
 bd (Loop (u9 b now) (([]:List Int),now,([]:List aB),0)) λw=>
 some ((⟨w.2.1,w.2.2⟩:aA),w.1,0)
def jX (rA:aeb)(st:abE):Option ((abE)⊕(abw)):=if st.1<(rA.2.1.length:Int) then
 ix rA.2.1 st.1 λy=>
 bd (jJ (⟨(⟨(⟨st.2.1⟩:ax),(⟨st.2.2.1,st.2.2.2.1⟩:aA),(⟨st.2.2.2.2.1⟩:bZ),st.2.2.2.2.2.1⟩:aj),(⟨st.2.2.2.2.2.2.1,st.2.2.2.2.2.2.2.1,st.2.2.2.2.2.2.2.2.1,st.2.2.2.2.2.2.2.2.2.1,st.2.2.2.2.2.2.2.2.2.2.1,st.2.2.2.2.2.2.2.2.2.2.2.1,st.2.2.2.2.2.2.2.2.2.2.2.2.1,st.2.2.2.2.2.2.2.2.2.2.2.2.2.1⟩:aa),(⟨st.2.2.2.2.2.2.2.2.2.2.2.2.2.2.1,st.2.2.2.2.2.2.2.2.2.2.2.2.2.2.2.1,st.2.2.2.2.2.2.2.2.2.2.2.2.2.2.2.2.1,st.2.2.2.2.2.2.2.2.2.2.2.2.2.2.2.2.2.1,st.2.2.2.2.2.2.2.2.2.2.2.2.2.2.2.2.2.2.1,st.2.2.2.2.2.2.2.2.2.2.2.2.2.2.2.2.2.2.2.1⟩:ah),st.2.2.2.2.2.2.2.2.2.2.2.2.2.2.2.2.2.2.2.2⟩:af) y) λaO=>
 some (.inl (bD .i64 (st.1+1),aO.2.r.Shelf.L,aO.2.r.aE.eh,aO.2.r.aE.L,aO.2.r.aD.L,aO.2.r.Seen,aO.2.o.Client,aO.2.o.Seq,aO.2.o.Kind,aO.2.o.Path,aO.2.o.Value,aO.2.o.Version,aO.2.o.Session,aO.2.o.Span,aO.2.x.Client,aO.2.x.Seq,aO.2.x.E,aO.2.x.Value,aO.2.x.Version,aO.2.x.Names,aO.2.l))
 else
 some (.inr (st.2.1,st.2.2.1,st.2.2.2.1,st.2.2.2.2.1,st.2.2.2.2.2.1,st.2.2.2.2.2.2.1,st.2.2.2.2.2.2.2.1,st.2.2.2.2.2.2.2.2.1,st.2.2.2.2.2.2.2.2.2.1,st.2.2.2.2.2.2.2.2.2.2.1,st.2.2.2.2.2.2.2.2.2.2.2.1,st.2.2.2.2.2.2.2.2.2.2.2.2.1,st.2.2.2.2.2.2.2.2.2.2.2.2.2.1,st.2.2.2.2.2.2.2.2.2.2.2.2.2.2.1,st.2.2.2.2.2.2.2.2.2.2.2.2.2.2.2.1,st.2.2.2.2.2.2.2.2.2.2.2.2.2.2.2.2.1,st.2.2.2.2.2.2.2.2.2.2.2.2.2.2.2.2.2.1,st.2.2.2.2.2.2.2.2.2.2.2.2.2.2.2.2.2.2.1,st.2.2.2.2.2.2.2.2.2.2.2.2.2.2.2.2.2.2.2.1,st.2.2.2.2.2.2.2.2.2.2.2.2.2.2.2.2.2.2.2.2))
def lV (w:af):Option (Unit×af):=bd (wj w.r.aE w.o.Span) λrA=>
 if !decide (rA.2.2=0) then
 some ((),(⟨w.r,w.o,(⟨w.x.Client,w.x.Seq,rA.2.2,w.x.Value,w.x.Version,w.x.Names⟩:ah),w.l⟩:af))
 else
 bd (Loop (jX rA) (0,w.r.Shelf.L,rA.1.eh,rA.1.L,w.r.aD.L,w.r.Seen,w.o.Client,w.o.Seq,w.o.Kind,w.o.Path,w.o.Value,w.o.Version,w.o.Session,w.o.Span,w.x.Client,w.x.Seq,rA.2.2,w.x.Value,rA.1.eh,w.x.Names,w.l)) λw1=>
 some ((),(⟨(⟨(⟨w1.1⟩:ax),(⟨w1.2.1,w1.2.2.1⟩:aA),(⟨w1.2.2.2.1⟩:bZ),w1.2.2.2.2.1⟩:aj),(⟨w1.2.2.2.2.2.1,w1.2.2.2.2.2.2.1,w1.2.2.2.2.2.2.2.1,w1.2.2.2.2.2.2.2.2.1,w1.2.2.2.2.2.2.2.2.2.1,w1.2.2.2.2.2.2.2.2.2.2.1,w1.2.2.2.2.2.2.2.2.2.2.2.1,w1.2.2.2.2.2.2.2.2.2.2.2.2.1⟩:aa),(⟨w1.2.2.2.2.2.2.2.2.2.2.2.2.2.1,w1.2.2.2.2.2.2.2.2.2.2.2.2.2.2.1,w1.2.2.2.2.2.2.2.2.2.2.2.2.2.2.2.1,w1.2.2.2.2.2.2.2.2.2.2.2.2.2.2.2.2.1,w1.2.2.2.2.2.2.2.2.2.2.2.2.2.2.2.2.2.1,w1.2.2.2.2.2.2.2.2.2.2.2.2.2.2.2.2.2.2.1⟩:ah),w1.2.2.2.2.2.2.2.2.2.2.2.2.2.2.2.2.2.2.2⟩:af))
def gl (sA:List aq)(v:aq)(st:Int):Option (Int⊕(Unit⊕Int)):=if st<(sA.length:Int) then
 ix sA st λy=>
 if ((decide (v.Path=y.Path))&&((decide (v.Client=y.Client))&&(decide (v.Kids=y.Kids)))) then
 some (.inr (.inr st))
 else
 some (.inl (bD .i64 (st+1)))
 else
 some (.inr (.inl ()))
def iK (sA:List aq)(v:aq):Option Int:=bd (Loop (gl sA v) 0) λw=>
 match w with
 | .inl p1=>some (-1)
 | .inr p2=>some p2
def dV (sA:List aq)(v:aq):Option Bool:=bd (iK sA v) λrA=>some (decide ((0:Int)<=rA))
def vB (t:bZ)(w:aq):Option (bZ×Int):=bd (lF w.Path) λrA=>
 if !rA then
 some (t,13)
 else
 if w.Client<0 then
 some (t,1)
 else
 bd (dV t.L w) λaO=>
 if aO then
 some (t,0)
 else
 if (200:Int)<=(t.L.length:Int) then
 some (t,9)
 else
 bd (lD 32 t.L) λbK=>
 if (bK.length+([w]:List aq).length) *32<=2^46 then
 some ((⟨bK++([w]:List aq)⟩:bZ),0)
 else none
def kL (w:af):Option (Unit×af):=bd (vB w.r.aD (⟨w.o.Path,w.o.Client,decide (w.o.Kind=11)⟩:aq)) λrA=>some ((),(⟨(⟨w.r.Shelf,w.r.aE,rA.1,w.r.Seen⟩:aj),w.o,(⟨w.x.Client,w.x.Seq,rA.2,w.x.Value,w.x.Version,w.x.Names⟩:ah),w.l⟩:af))
def wk:Option (List Nat):=some ([(74:Nat),(75:Nat),(76:Nat),(77:Nat),(78:Nat),(79:Nat),(80:Nat),(81:Nat),(82:Nat),(83:Nat),(84:Nat),(84:Nat)]:List Nat)
def oY (c:az)(w:aq):Option Bool:=bd (if c.Kind<1 then
  some true
  else
  if (3:Int)<c.Kind then
  some true
  else
  bd (lF c.Path) λrA=>
  some (!rA):Option Bool) λw1=>
 if w1 then
 some false
 else
 if !w.Kids then
 some (decide (c.Path=w.Path))
 else
 bd (pX c.Path) λaO=>
 bd (if aO.2=0 then
  if !decide (c.Kind=2) then
  some (decide (aO.1=w.Path))
  else
  some false
  else
  some false:Option Bool) λw2=>
 some w2
def od (w:aq)(c:az)(c1:List aY):Option (Bool×(List aY)):=bd (oY c w) λrA=>
 bd (if rA then
  if (c1.length+([(⟨w,c⟩:aY)]:List aY).length) *56<=2^46 then
  some (c1++([(⟨w,c⟩:aY)]:List aY))
  else none
  else
  some c1:Option (List aY)) λw1=>
 some (rA,w1)
def qB (lA:List az)(st:(List aq)×(List aY)×Int):Option (((List aq)×(List aY)×Int)⊕((List aq)×(List aY))):=if st.2.2<(lA.length:Int) then
 ix lA st.2.2 λy=>
 bd (Ht (λu sA=>od u y sA) st.2.1 st.1) λaO=>
 some (.inl (aO.1,aO.2,bD .i64 (st.2.2+1)))
 else
 some (.inr (st.1,st.2.1))
def wm (t:bZ)(lA:List az):Option (bZ×(List aY)):=bd (lD 32 t.L) λrA=>
 bd (Loop (qB lA) (rA,([]:List aY),0)) λw=>
 some ((⟨w.1⟩:bZ),w.2)
def tc (k:Nat)(x0:af):Option (Unit×af):=if k=74 then pH x0 else if k=75 then jU x0 else if k=76 then nB x0 else if k=77 then nC x0 else if k=78 then jV x0 else if k=79 then lT x0 else if k=80 then lU x0 else if k=81 then kJ x0 else if k=82 then kK x0 else if k=83 then lV x0 else if k=84 then kL x0 else none
def tH (a:aj)(a1:aa):Option (aj×ah×(List aY)):=bd (kI a a1) λrA=>
 if rA.2 then
 some (a,rA.1,([]:List aY))
 else
 bd (wk) λaO=>
 ix aO a1.Kind λy=>
 bd (tc y (⟨a,a1,rA.1,([]:List az)⟩:af)) λbK=>
 bd (wm bK.2.r.aD bK.2.l) λgQ=>
 bd (lD 72 a.Seen) λn6=>
 bd (fY a a1.Client) λrH=>
 bd (if rH.2 then
  ix n6 rH.1 λy1=>
  some (bK.2.r.Shelf.L,bK.2.r.aE.eh,bK.2.r.aE.L,gQ.1.L,n6.set (sh rH.1) bK.2.x,bK.2.o.Client,bK.2.o.Seq,bK.2.o.Kind,bK.2.o.Path,bK.2.o.Value,bK.2.o.Version,bK.2.o.Session,bK.2.o.Span,bK.2.x.Client,bK.2.x.Seq,bK.2.x.E,bK.2.x.Value,bK.2.x.Version,bK.2.x.Names,bK.2.l)
  else
  bd (uW 72 n6 rH.1 ([bK.2.x]:List ah)) λn7=>
  some (bK.2.r.Shelf.L,bK.2.r.aE.eh,bK.2.r.aE.L,gQ.1.L,n7,bK.2.o.Client,bK.2.o.Seq,bK.2.o.Kind,bK.2.o.Path,bK.2.o.Value,bK.2.o.Version,bK.2.o.Session,bK.2.o.Span,bK.2.x.Client,bK.2.x.Seq,bK.2.x.E,bK.2.x.Value,bK.2.x.Version,bK.2.x.Names,bK.2.l):Option (abw)) λw=>
 some ((⟨(⟨w.1⟩:ax),(⟨w.2.1,w.2.2.1⟩:aA),(⟨w.2.2.2.1⟩:bZ),w.2.2.2.2.1⟩:aj),(⟨w.2.2.2.2.2.2.2.2.2.2.2.2.2.1,w.2.2.2.2.2.2.2.2.2.2.2.2.2.2.1,w.2.2.2.2.2.2.2.2.2.2.2.2.2.2.2.1,w.2.2.2.2.2.2.2.2.2.2.2.2.2.2.2.2.1,w.2.2.2.2.2.2.2.2.2.2.2.2.2.2.2.2.2.1,w.2.2.2.2.2.2.2.2.2.2.2.2.2.2.2.2.2.2.1⟩:ah),gQ.2)
abbrev abU:=(List ab)×Int×(List aB)×(List aq)×(List ah)×(List ah)×(List aY)×Int
def qD (lA:List aa)(st:abU):Option ((abU)⊕((List ab)×Int×(List aB)×(List aq)×(List ah)×(List ah)×(List aY))):=if st.2.2.2.2.2.2.2<(lA.length:Int) then
 ix lA st.2.2.2.2.2.2.2 λy=>
 bd (tH (⟨(⟨st.1⟩:ax),(⟨st.2.1,st.2.2.1⟩:aA),(⟨st.2.2.2.1⟩:bZ),st.2.2.2.2.1⟩:aj) y) λn7=>
 if (st.2.2.2.2.2.1.length+([n7.2.1]:List ah).length) *72<=2^46 then
 if (st.2.2.2.2.2.2.1.length+n7.2.2.length) *56<=2^46 then
 some (.inl (n7.1.Shelf.L,n7.1.aE.eh,n7.1.aE.L,n7.1.aD.L,n7.1.Seen,st.2.2.2.2.2.1++([n7.2.1]:List ah),st.2.2.2.2.2.2.1++n7.2.2,bD .i64 (st.2.2.2.2.2.2.2+1)))
 else none
 else none
 else
 some (.inr (st.1,st.2.1,st.2.2.1,st.2.2.2.1,st.2.2.2.2.1,st.2.2.2.2.2.1,st.2.2.2.2.2.2.1))
def wo (rA:aj)(lA:List aa):Option (aj×(List ah)×(List aY)):=bd (Loop (qD lA) (rA.Shelf.L,rA.aE.eh,rA.aE.L,rA.aD.L,rA.Seen,([]:List ah),([]:List aY),0)) λw=>some ((⟨(⟨w.1⟩:ax),(⟨w.2.1,w.2.2.1⟩:aA),(⟨w.2.2.2.1⟩:bZ),w.2.2.2.2.1⟩:aj),w.2.2.2.2.2.1,w.2.2.2.2.2.2)
def qE (b:List Int)(y:Int)(st:Int×Int):Option ((Int×Int)⊕Int):=if st.2<((AS (sh 0) (AT (sh (bD .i64 y)) (AS (sh 1) (AT (sh (b.length:Int)) b)))).length:Int) then
 ix (AS (sh 0) (AT (sh (bD .i64 y)) (AS (sh 1) (AT (sh (b.length:Int)) b)))) st.2 λy2=>
 if (0:Int)<=8 then
 some (.inl (Ch .u64 (bD .u64 (st.1 *2^min (sh 8) (AI .u64))) (bD .u64 y2),bD .i64 (st.2+1)))
 else none
 else
 some (.inr st.1)
abbrev adc:=Int×(List Int)×Int
def pJ (b:List Int):Option (adc):=if (b.length:Int)=0 then
 some (0,([]:List Int),2)
 else
 ix b 0 λy=>
 if (0:Int)<=1/\(1:Int)<=(b.length:Int)/\(b.length:Int)<=(b.length:Int) then
 bd (if (8:Int)<(bD .i64 y) then
  some true
  else
  if (0:Int)<(bD .i64 y) then
  if (0:Int)<((AS (sh 1) (AT (sh (b.length:Int)) b)).length:Int) then
  ix (AS (sh 1) (AT (sh (b.length:Int)) b)) 0 λy1=>
  some (decide (y1=0))
  else
  some false
  else
  some false:Option Bool) λw=>
 if w then
 some (0,([]:List Int),3)
 else
 if ((AS (sh 1) (AT (sh (b.length:Int)) b)).length:Int)<(bD .i64 y) then
 some (0,([]:List Int),2)
 else
 if (0:Int)<=0/\(0:Int)<=(bD .i64 y)/\(bD .i64 y)<=((AS (sh 1) (AT (sh (b.length:Int)) b)).length:Int) then
 bd (Loop (qE b y) (0,0)) λw1=>
 if (0:Int)<=(bD .i64 y)/\(bD .i64 y)<=((AS (sh 1) (AT (sh (b.length:Int)) b)).length:Int)/\((AS (sh 1) (AT (sh (b.length:Int)) b)).length:Int)<=((AS (sh 1) (AT (sh (b.length:Int)) b)).length:Int) then
 some (w1,AS (sh (bD .i64 y)) (AT (sh ((AS (sh 1) (AT (sh (b.length:Int)) b)).length:Int)) (AS (sh 1) (AT (sh (b.length:Int)) b))),0)
 else none
 else none
 else none
def mf (b:List Int):Option (adc):=bd (pJ b) λrA=>
 if (0:Int)<=1 then
 some (ca .i64 (bD .i64 (BY rA.1 (2^min (sh 1) (AI .u64)))) (bD .i64 (0-(bD .i64 (eX .u64 rA.1 1)))),rA.2.1,rA.2.2)
 else none
def kM (b:List Int)(most:Int):Option ((List UInt8)×(List Int)×Int):=bd (pJ b) λrA=>
 if !decide (rA.2.2=0) then
 some (([]:List UInt8),([]:List Int),rA.2.2)
 else
 if (bD .u64 (imax most 0))<rA.1 then
 some (([]:List UInt8),([]:List Int),5)
 else
 if (bD .u64 (rA.2.1.length:Int))<rA.1 then
 some (([]:List UInt8),([]:List Int),2)
 else
 if (0:Int)<=0/\(0:Int)<=rA.1/\rA.1<=(rA.2.1.length:Int) then
 LA (AS (sh 0) (AT (sh rA.1) rA.2.1)) λbs=>
 if (0:Int)<=rA.1/\rA.1<=(rA.2.1.length:Int)/\(rA.2.1.length:Int)<=(rA.2.1.length:Int) then
 some (bs,AS (sh rA.1) (AT (sh (rA.2.1.length:Int)) rA.2.1),0)
 else none
 else none
def qG (b:List Int)(e x:Int):Option (Int×List Int×Int):=if e=0 then mf b else some (x,b,e)
def ya (b:List Int)(e most:Int):Option (List UInt8×List Int×Int):=if e=0 then kM b most else some ([],b,e)
def wu (b:List Int):Option (aa×List Int×Int):=bd (qG b 0 0) λr0=>
 bd (qG r0.2.1 r0.2.2 0) λr1=>
 bd (qG r1.2.1 r1.2.2 0) λr2=>
 bd (qG r2.2.1 r2.2.2 0) λr3=>
 bd (qG r3.2.1 r3.2.2 0) λr4=>
 bd (qG r4.2.1 r4.2.2 0) λr5=>
 bd (ya r5.2.1 r5.2.2 100) λs0=>
 bd (ya s0.2.1 s0.2.2 1000) λs1=>
 if s1.2.2=0 then
 bd (dK (⟨r0.1,r1.1,r2.1,s0.1,s1.1,r3.1,r4.1,r5.1⟩:aa)) λm=>
 if m then some ((⟨r0.1,r1.1,r2.1,s0.1,s1.1,r3.1,r4.1,r5.1⟩:aa),s1.2.1,0)
 else some ((⟨0,0,0,[],[],0,0,0⟩:aa),[],3)
 else some ((⟨0,0,0,[],[],0,0,0⟩:aa),[],s1.2.2)
def kN (rA:adc)(st:(List Int)×(List aa)×Int):Option (((List Int)×(List aa)×Int)⊕(((List Int)×(List aa))⊕((List aa)×Int))):=if st.2.2<((ab2 (sh rA.1) (⟨0,0,0,([]:List UInt8),([]:List UInt8),0,0,0⟩:aa)).length:Int) then
 bd (wu st.1) λaO=>
 ix st.2.1 st.2.2 λy=>
 if !decide (aO.2.2=0) then
 some (.inr (.inr (([]:List aa),3)))
 else
 some (.inl (aO.2.1,st.2.1.set (sh st.2.2) aO.1,bD .i64 (st.2.2+1)))
 else
 some (.inr (.inl (st.1,st.2.1)))
def jY (sA:List UInt8):Option ((List aa)×Int):=bd (pJ (sq sA)) λrA=>
 bd (if !decide (rA.2.2=0) then
  some true
  else
  some (decide ((10:Int)<rA.1)):Option Bool) λw=>
 if w then
 some (([]:List aa),3)
 else
 if (0:Int)<=rA.1/\rA.1<=rA.1/\rA.1 *80<=2^46 then
 bd (Loop (kN rA) (rA.2.1,ab2 (sh rA.1) (⟨0,0,0,([]:List UInt8),([]:List UInt8),0,0,0⟩:aa),0)) λw1=>
 match w1 with
 | .inl p1=>
  if (0:Int)<(p1.1.length:Int) then
  some (([]:List aa),3)
  else
  some (p1.2,0)
 | .inr p2=>some (p2.1,p2.2)
 else none
def pY (rA:aj)(sA:List UInt8):Option (aj×(List ah)×Int):=bd (jY sA) λaO=>
 if !decide (aO.2=0) then
 some (rA,([]:List ah),aO.2)
 else
 bd (wo rA aO.1) λbK=>
 some (bK.1,bK.2.1,0)
def AE (x:Int):Option Int:=bd (if (4294967296:Int)<=x then
  if (0:Int)<=32 then
  some (BY x (2^min (sh 32) (AI .u64)),32)
  else none
  else
  some (x,0):Option (Int×Int)) λw=>
 bd (if (65536:Int)<=w.1 then
  if (0:Int)<=16 then
  some (BY w.1 (2^min (sh 16) (AI .u64)),bD .i64 (w.2+16))
  else none
  else
  some (w.1,w.2):Option (Int×Int)) λw1=>
 bd (if (256:Int)<=w1.1 then
  if (0:Int)<=8 then
  some (BY w1.1 (2^min (sh 8) (AI .u64)),bD .i64 (w1.2+8))
  else none
  else
  some (w1.1,w1.2):Option (Int×Int)) λw2=>
 if (0:Int)<=(bD .u8 w2.1)/\(bD .u8 w2.1)<(((([0,1,2,2,3,3,3,3,4,4,4,4,4,4,4,4,5,5,5,5,5,5,5,5,5,5,5,5,5,5,5,5,6,6,6,6,6,6,6,6,6,6,6,6,6,6,6,6,6,6,6,6,6,6,6,6,6,6,6,6,6,6,6,6]:List UInt8)++([7,7,7,7,7,7,7,7,7,7,7,7,7,7,7,7,7,7,7,7,7,7,7,7,7,7,7,7,7,7,7,7,7,7,7,7,7,7,7,7,7,7,7,7,7,7,7,7,7,7,7,7,7,7,7,7,7,7,7,7,7,7,7,7]:List UInt8))++(([8,8,8,8,8,8,8,8,8,8,8,8,8,8,8,8,8,8,8,8,8,8,8,8,8,8,8,8,8,8,8,8,8,8,8,8,8,8,8,8,8,8,8,8,8,8,8,8,8,8,8,8,8,8,8,8,8,8,8,8,8,8,8,8]:List UInt8)++([8,8,8,8,8,8,8,8,8,8,8,8,8,8,8,8,8,8,8,8,8,8,8,8,8,8,8,8,8,8,8,8,8,8,8,8,8,8,8,8,8,8,8,8,8,8,8,8,8,8,8,8,8,8,8,8,8,8,8,8,8,8,8,8]:List UInt8))).length:Int) then
 some (bD .i64 (w2.2+(bD .i64 ((((([0,1,2,2,3,3,3,3,4,4,4,4,4,4,4,4,5,5,5,5,5,5,5,5,5,5,5,5,5,5,5,5,6,6,6,6,6,6,6,6,6,6,6,6,6,6,6,6,6,6,6,6,6,6,6,6,6,6,6,6,6,6,6,6]:List UInt8)++([7,7,7,7,7,7,7,7,7,7,7,7,7,7,7,7,7,7,7,7,7,7,7,7,7,7,7,7,7,7,7,7,7,7,7,7,7,7,7,7,7,7,7,7,7,7,7,7,7,7,7,7,7,7,7,7,7,7,7,7,7,7,7,7]:List UInt8))++(([8,8,8,8,8,8,8,8,8,8,8,8,8,8,8,8,8,8,8,8,8,8,8,8,8,8,8,8,8,8,8,8,8,8,8,8,8,8,8,8,8,8,8,8,8,8,8,8,8,8,8,8,8,8,8,8,8,8,8,8,8,8,8,8]:List UInt8)++([8,8,8,8,8,8,8,8,8,8,8,8,8,8,8,8,8,8,8,8,8,8,8,8,8,8,8,8,8,8,8,8,8,8,8,8,8,8,8,8,8,8,8,8,8,8,8,8,8,8,8,8,8,8,8,8,8,8,8,8,8,8,8,8]:List UInt8))).getD (sh (bD .u8 w2.1)) 0).toNat:Int))))
 else none
def wv (n:Int):Option Int:=bd (AE n) λrA=>
 if !decide ((8:Int)=0) then
 some (bD .i64 (1+(bD .i64 (ac4 (bD .i64 (rA+7)) 8))))
 else none
def pq (sA:List Int):Option (List Int):=if (sA.length:Int)=(sA.length:Int)/\(sA.length:Int)=(sA.length:Int) then
 some sA
 else none
def tJ (n:Int)(st:(List Int)×Int):Option (((List Int)×Int)⊕(List Int)):=if (0:Int)<=st.2 then
 if (0:Int)<=(bD .i64 (8 *st.2)) then
 if (st.1.length+([bD .u8 (BY n (2^min (sh (bD .i64 (8 *st.2))) (AI .u64)))]:List Int).length) *1<=2^46 then
 some (.inl (st.1++([bD .u8 (BY n (2^min (sh (bD .i64 (8 *st.2))) (AI .u64)))]:List Int),bD .i64 (st.2-1)))
 else none
 else none
 else
 some (.inr st.1)
def sw (b:List Int)(n:Int):Option (List Int):=bd (wv n) λrA=>
 bd (pq b) λaO=>
 if 0<([bD .u8 (bD .i64 (rA-1))]:List Int).length/\(aO.length+([bD .u8 (bD .i64 (rA-1))]:List Int).length) *1<=2^46 then
 bd (Loop (tJ n) (aO++([bD .u8 (bD .i64 (rA-1))]:List Int),bD .i64 ((bD .i64 (rA-1))-1))) λw=>
 some w
 else none
def lG (b:List Int)(sA:List UInt8):Option (List Int):=bd (sw b (bD .u64 (sA.length:Int))) λrA=>
 if (rA.length+(sq sA).length) *1<=2^46 then
 some (rA++(sq sA))
 else none
def vC (b:List Int)(n:Int):Option (List Int):=if (0:Int)<=1 then
 if (0:Int)<=63 then
 bd (sw b (ca .u64 (bD .u64 ((bD .u64 n) *2^min (sh 1) (AI .u64))) (bD .u64 (BY n (2^min (sh 63) (AI .i64)))))) λrA=>
 some rA
 else none
 else none
def vc (lA:List Int)(st:(List Int)×Int):Option (((List Int)×Int)⊕(List Int)):=if st.2<(lA.length:Int) then
 ix lA st.2 λy=>
 bd (vC st.1 y) λrA=>
 some (.inl (rA,bD .i64 (st.2+1)))
 else
 some (.inr st.1)
def sB (b:List Int)(lA:List Int):Option (List Int):=bd (Loop (vc lA) (b,0)) λw=>some w
def Jr (b:List Int)(o:aa):Option (List Int):=bd (sB b ([o.Client,o.Seq,o.Kind,o.Version,o.Session,o.Span]:List Int)) λrA=>
 bd (lG rA o.Path) λaO=>
 bd (lG aO o.Value) λbK=>
 some bK
def qH (lA:List aa)(st:(List Int)×Int):Option (((List Int)×Int)⊕((List Int)⊕((List UInt8)×Int))):=if st.2<(lA.length:Int) then
 ix lA st.2 λy=>
 bd (dK y) λaO=>
 if !aO then
 some (.inr (.inr (([]:List UInt8),1)))
 else
 bd (Jr st.1 y) λbK=>
 some (.inl (bK,bD .i64 (st.2+1)))
 else
 some (.inr (.inl st.1))
def zn:Option Bool:=some true
def CQ (kind:Int):Option (List UInt8):=if kind=1 then
 some ([112,118,115]:List UInt8)
 else
 bd (if kind=2 then
  some (decide (kind=2))
  else
  bd (if kind=5 then
   some (decide (kind=5))
   else
   bd (if kind=10 then
    some (decide (kind=10))
    else
    some (decide (kind=11)):Option Bool) λw2=>
   some w2:Option Bool) λw1=>
  some w1:Option Bool) λw=>
 if w then
 some ([112]:List UInt8)
 else
 if kind=3 then
 some ([112,118,110]:List UInt8)
 else
 if kind=4 then
 some ([112,110]:List UInt8)
 else
 if kind=6 then
 some ([115,116]:List UInt8)
 else
 bd (if kind=7 then
  some (decide (kind=7))
  else
  some (decide (kind=8)):Option Bool) λw3=>
 if w3 then
 some ([115]:List UInt8)
 else
 if kind=9 then
 some ([116]:List UInt8)
 else
 some ([]:List UInt8)
def Hy (sA:List UInt8)(c:Int)(st:Int):Option (Int⊕(Unit⊕Bool)):=if st<(sA.length:Int) then
 if (0:Int)<=st/\st<(sA.length:Int) then
 if ((sA.getD (sh st) 0).toNat:Int)=c then
 some (.inr (.inr true))
 else
 some (.inl (bD .i64 (st+1)))
 else none
 else
 some (.inr (.inl ()))
def iL (sA:List UInt8)(c:Int):Option Bool:=bd (Loop (Hy sA c) 0) λw=>
 match w with
 | .inl p1=>some false
 | .inr p2=>some p2
def yb (a:aJ):Option Bool:=bd (if a.Client<0 then
  some true
  else
  if (1000:Int)<a.Client then
  some true
  else
  if a.Seq<1 then
  some true
  else
  if (1000000000:Int)<a.Seq then
  some true
  else
  if a.Kind<0 then
  some true
  else
  if (11:Int)<a.Kind then
  some true
  else
  if (100:Int)<(a.Path.length:Int) then
  some true
  else
  some (decide ((1000:Int)<(a.Value.length:Int))):Option Bool) λw=>
 if w then
 some false
 else
 bd (CQ a.Kind) λrA=>
 bd (bd (iL rA 112) λaO=>
  if aO then
  bd (iL rA 118) λbK=>
  if bK then
  some true
  else
  some (decide (a.Value=([]:List UInt8)))
  else
  if a.Path=([]:List UInt8) then
  bd (iL rA 118) λgQ=>
  if gQ then
  some true
  else
  some (decide (a.Value=([]:List UInt8)))
  else
  some false:Option Bool) λw1=>
 bd (if w1 then
  bd (iL rA 110) λn6=>
  if n6 then
  bd (iL rA 115) λrH=>
  if rH then
  bd (iL rA 116) λn7=>
  if n7 then
  some true
  else
  some (decide (a.Span=0))
  else
  if a.Session=0 then
  bd (iL rA 116) λBN=>
  if BN then
  some true
  else
  some (decide (a.Span=0))
  else
  some false
  else
  if a.Version=0 then
  bd (iL rA 115) λHz=>
  if Hz then
  bd (iL rA 116) λQq=>
  if Qq then
  some true
  else
  some (decide (a.Span=0))
  else
  if a.Session=0 then
  bd (iL rA 116) λB6=>
  if B6 then
  some true
  else
  some (decide (a.Span=0))
  else
  some false
  else
  some false
  else
  some false:Option Bool) λw2=>
 some w2
abbrev adi:=Int×Int×Int×(List UInt8)×Int×(List (List UInt8))×Int
abbrev act:=Int×Int×Int×(List UInt8)×Int×(List (List UInt8))
def Ol (rA:bu)(eT:Int)(st:adi):Option ((adi)⊕((act)⊕(acl))):=if st.2.2.2.2.2.2<(rA.Seen.length:Int) then
 ix rA.Seen st.2.2.2.2.2.2 λy=>
 if y.Client=eT then
 ix rA.Seen st.2.2.2.2.2.2 λy1=>
 some (.inr (.inr (y1.Client,y1.Seq,y1.E,y1.Value,y1.Version,y1.Names,true)))
 else
 some (.inl (st.1,st.2.1,st.2.2.1,st.2.2.2.1,st.2.2.2.2.1,st.2.2.2.2.2.1,bD .i64 (st.2.2.2.2.2.2+1)))
 else
 some (.inr (.inl (st.1,st.2.1,st.2.2.1,st.2.2.2.1,st.2.2.2.2.1,st.2.2.2.2.2.1)))
def wz (rA:bu)(eT:Int):Option (ay×Bool):=bd (Loop (Ol rA eT) (0,0,0,([]:List UInt8),0,([]:List (List UInt8)),0)) λw=>
 match w with
 | .inl p1=>some ((⟨0,0,0,([]:List UInt8),0,([]:List (List UInt8))⟩:ay),false)
 | .inr p2=>some ((⟨p2.1,p2.2.1,p2.2.2.1,p2.2.2.2.1,p2.2.2.2.2.1,p2.2.2.2.2.2.1⟩:ay),p2.2.2.2.2.2.2)
def Ea (b:cg)(id:Int)(st:Int):Option (Int⊕(Unit⊕Bool)):=if st<(b.L.length:Int) then
 ix b.L st λy=>
 if y.Id=id then
 some (.inr (.inr true))
 else
 some (.inl (bD .i64 (st+1)))
 else
 some (.inr (.inl ()))
def td (b:cg)(id:Int):Option Bool:=bd (Loop (Ea b id) 0) λw=>
 match w with
 | .inl p1=>some false
 | .inr p2=>some p2
abbrev adq:=(List (List UInt8))×(List UInt8)×Int
def zo (p:List UInt8)(st:adq):Option ((adq)⊕((List (List UInt8))×(List UInt8))):=if st.2.2<(p.length:Int) then
 if (0:Int)<=st.2.2/\st.2.2<(p.length:Int) then
 bd (if ((p.getD (sh st.2.2) 0).toNat:Int)=47 then
  if (st.1.length+([st.2.1]:List (List UInt8)).length) *16<=2^46 then
  some (st.1++([st.2.1]:List (List UInt8)),([]:List UInt8))
  else none
  else
  if (0:Int)<=st.2.2/\st.2.2<(p.length:Int) then
  LA ([((p.getD (sh st.2.2) 0).toNat:Int)]:List Int) λbs=>
  if st.2.1.length+bs.length<=2^46 then
  some (st.1,st.2.1++bs)
  else none
  else none:Option ((List (List UInt8))×(List UInt8))) λw2=>
 some (.inl (w2.1,w2.2,bD .i64 (st.2.2+1)))
 else none
 else
 some (.inr (st.1,st.2.1))
def Eb (p:List UInt8):Option ((List (List UInt8))×Bool):=bd (if (p.length:Int)=0 then
  some true
  else
  if (0:Int)<=0/\(0:Int)<(p.length:Int) then
  some (!decide (((p.getD (sh 0) 0).toNat:Int)=47))
  else none:Option Bool) λw=>
 if w then
 some (([]:List (List UInt8)),false)
 else
 if p=([47]:List UInt8) then
 some (([]:List (List UInt8)),true)
 else
 bd (Loop (zo p) (([]:List (List UInt8)),([]:List UInt8),1)) λw1=>
 if (w1.1.length+([w1.2]:List (List UInt8)).length) *16<=2^46 then
 some (w1.1++([w1.2]:List (List UInt8)),true)
 else none
def vd (sA:List UInt8)(st:Int):Option (Int⊕(Unit⊕Bool)):=if st<(sA.length:Int) then
 if (0:Int)<=st/\st<(sA.length:Int) then
 bd (if (97:Int)<=((sA.getD (sh st) 0).toNat:Int) then
  if ((sA.getD (sh st) 0).toNat:Int)<=122 then
  some true
  else
  if (48:Int)<=((sA.getD (sh st) 0).toNat:Int) then
  if ((sA.getD (sh st) 0).toNat:Int)<=57 then
  some true
  else
  if ((sA.getD (sh st) 0).toNat:Int)=45 then
  some true
  else
  some (decide (((sA.getD (sh st) 0).toNat:Int)=95))
  else
  if ((sA.getD (sh st) 0).toNat:Int)=45 then
  some true
  else
  some (decide (((sA.getD (sh st) 0).toNat:Int)=95))
  else
  if (48:Int)<=((sA.getD (sh st) 0).toNat:Int) then
  if ((sA.getD (sh st) 0).toNat:Int)<=57 then
  some true
  else
  if ((sA.getD (sh st) 0).toNat:Int)=45 then
  some true
  else
  some (decide (((sA.getD (sh st) 0).toNat:Int)=95))
  else
  if ((sA.getD (sh st) 0).toNat:Int)=45 then
  some true
  else
  some (decide (((sA.getD (sh st) 0).toNat:Int)=95)):Option Bool) λw1=>
 if !w1 then
 some (.inr (.inr false))
 else
 some (.inl (bD .i64 (st+1)))
 else none
 else
 some (.inr (.inl ()))
def wA (sA:List UInt8):Option Bool:=bd (Loop (vd sA) 0) λw=>
 match w with
 | .inl p1=>
  bd (if (1:Int)<=(sA.length:Int) then
   some (decide ((sA.length:Int)<=30))
   else
   some false:Option Bool) λw2=>
  some w2
 | .inr p2=>some p2
def yc (rA:(List (List UInt8))×Bool)(st:Int):Option (Int⊕(Unit⊕Bool)):=if st<(rA.1.length:Int) then
 ix rA.1 st λy=>
 bd (wA y) λaO=>
 if !aO then
 some (.inr (.inr false))
 else
 some (.inl (bD .i64 (st+1)))
 else
 some (.inr (.inl ()))
def kO (p:List UInt8):Option Bool:=if (100:Int)<(p.length:Int) then
 some false
 else
 bd (Eb p) λrA=>
 bd (Loop (yc rA) 0) λw=>
 match w with
 | .inl p3=>
  bd (if rA.2 then
   some (decide ((rA.1.length:Int)<=8))
   else
   some false:Option Bool) λw1=>
  some w1
 | .inr p4=>some p4
def pZ (p:List UInt8):Option ((List (List UInt8))×Int):=bd (kO p) λrA=>
 if !rA then
 some (([]:List (List UInt8)),13)
 else
 bd (Eb p) λaO=>
 some (aO.1,0)
def AF (lA:List (List UInt8))(st:(List UInt8)×Int):Option (((List UInt8)×Int)⊕(List UInt8)):=if st.2<(lA.length:Int) then
 if st.1.length+([47]:List UInt8).length<=2^46 then
 ix lA st.2 λy=>
 if (st.1++([47]:List UInt8)).length+y.length<=2^46 then
 some (.inl ((st.1++([47]:List UInt8))++y,bD .i64 (st.2+1)))
 else none
 else none
 else
 some (.inr st.1)
def CR (lA:List (List UInt8)):Option (List UInt8):=bd (Loop (AF lA) (([]:List UInt8),0)) λw=>
 if w=([]:List UInt8) then
 some ([47]:List UInt8)
 else
 some w
def nE (p:List UInt8):Option ((List UInt8)×Int):=bd (pZ p) λrA=>
 if !decide (rA.2=0) then
 some (([]:List UInt8),rA.2)
 else
 if (rA.1.length:Int)=0 then
 some (([]:List UInt8),6)
 else
 if (0:Int)<=0/\(0:Int)<=(bD .i64 ((rA.1.length:Int)-1))/\(bD .i64 ((rA.1.length:Int)-1))<=(rA.1.length:Int) then
 bd (CR (AS (sh 0) (AT (sh (bD .i64 ((rA.1.length:Int)-1))) rA.1))) λaO=>
 some (aO,0)
 else none
def HA (sA:bm)(p:List UInt8)(st:Int):Option (Int⊕(Unit⊕Int)):=if st<(sA.L.length:Int) then
 ix sA.L st λy=>
 if y.Path=p then
 some (.inr (.inr st))
 else
 some (.inl (bD .i64 (st+1)))
 else
 some (.inr (.inl ()))
def wB (sA:bm)(p:List UInt8):Option Int:=bd (Loop (HA sA p) 0) λw=>
 match w with
 | .inl p3=>some (-1)
 | .inr p4=>some p4
def yd (rA:(List (List UInt8))×Int)(aO:(List (List UInt8))×Int)(st:Int):Option (Int⊕(Unit⊕Bool)):=bd (if st<(rA.1.length:Int) then
  some (decide (st<(aO.1.length:Int)))
  else
  some false:Option Bool) λw2=>
 if w2 then
 ix rA.1 st λy=>
 ix aO.1 st λy1=>
 if !decide (y=y1) then
 ix rA.1 st λy2=>
 ix aO.1 st λy3=>
 some (.inr (.inr (ad1 y2 y3)))
 else
 some (.inl (bD .i64 (st+1)))
 else
 some (.inr (.inl ()))
def zp (p:List UInt8)(q:List UInt8):Option Bool:=bd (pZ p) λrA=>
 bd (pZ q) λaO=>
 bd (if !decide (rA.2=0) then
  some true
  else
  some (!decide (aO.2=0)):Option Bool) λw=>
 if w then
 some false
 else
 bd (Loop (yd rA aO) 0) λw1=>
 match w1 with
 | .inl p3=>some (decide ((rA.1.length:Int)<(aO.1.length:Int)))
 | .inr p4=>some p4
def qI (a:bm)(a1:List UInt8)(a2:List UInt8)(a3:Int)(st:(List aW)×Bool×Int):Option (((List aW)×Bool×Int)⊕((List aW)×Bool)):=if st.2.2<(a.L.length:Int) then
 bd (if !st.2.1 then
  ix a.L st.2.2 λy1=>
  bd (zp a1 y1.Path) λn6=>
  some n6
  else
  some false:Option Bool) λw1=>
 bd (if w1 then
  if (st.1.length+([(⟨a1,a2,0,a3⟩:aW)]:List aW).length) *48<=2^46 then
  some (st.1++([(⟨a1,a2,0,a3⟩:aW)]:List aW),true)
  else none
  else
  some (st.1,st.2.1):Option ((List aW)×Bool)) λw2=>
 ix a.L st.2.2 λy2=>
 if (w2.1.length+([y2]:List aW).length) *48<=2^46 then
 some (.inl (w2.1++([y2]:List aW),w2.2,bD .i64 (st.2.2+1)))
 else none
 else
 some (.inr (st.1,st.2.1))
def wC (a:bm)(a1:List UInt8)(a2:List UInt8)(a3:Int):Option (bm×Int):=bd (kO a1) λrA=>
 if !rA then
 some (a,13)
 else
 bd (wB a a1) λaO=>
 if (0:Int)<=aO then
 some (a,7)
 else
 bd (nE a1) λbK=>
 bd (wB a bK.1) λgQ=>
 if gQ<0 then
 some (a,6)
 else
 ix a.L gQ λy=>
 if !decide (y.dt=0) then
 some (a,10)
 else
 if (1000:Int)<(a2.length:Int) then
 some (a,5)
 else
 if a3<0 then
 some (a,1)
 else
 if (200:Int)<=(a.L.length:Int) then
 some (a,9)
 else
 bd (Loop (qI a a1 a2 a3) (([]:List aW),false,0)) λw=>
 bd (if !w.2 then
  if (w.1.length+([(⟨a1,a2,0,a3⟩:aW)]:List aW).length) *48<=2^46 then
  some (w.1++([(⟨a1,a2,0,a3⟩:aW)]:List aW))
  else none
  else
  some w.1:Option (List aW)) λw3=>
 some ((⟨w3⟩:bm),0)
def ve (sA:bm)(p:List UInt8):Option (aW×Int):=bd (kO p) λrA=>
 if !rA then
 some ((⟨([]:List UInt8),([]:List UInt8),0,0⟩:aW),13)
 else
 bd (wB sA p) λaO=>
 if aO<0 then
 some ((⟨([]:List UInt8),([]:List UInt8),0,0⟩:aW),6)
 else
 ix sA.L aO λy=>
 some (y,0)
def HB (sA:bm)(p:List UInt8)(value:List UInt8)(version:Int):Option (bm×Int):=bd (ve sA p) λrA=>
 if !decide (rA.2=0) then
 some (sA,rA.2)
 else
 bd (if !decide (version=(-1)) then
  some (!decide (version=rA.1.Version))
  else
  some false:Option Bool) λw=>
 if w then
 some (sA,8)
 else
 if (1000:Int)<(value.length:Int) then
 some (sA,5)
 else
 if rA.1.Version=1000000000 then
 some (sA,9)
 else
 if (([]:List aW).length+sA.L.length) *48<=2^46 then
 bd (wB sA p) λaO=>
 ix (([]:List aW)++sA.L) aO λy=>
 some ((⟨(([]:List aW)++sA.L).set (sh aO) (⟨p,value,bD .i64 (rA.1.Version+1),rA.1.dt⟩:aW)⟩:bm),0)
 else none
def AG (sA:bm)(p:List UInt8)(st:(List (List UInt8))×Int):Option (((List (List UInt8))×Int)⊕(List (List UInt8))):=if st.2<(sA.L.length:Int) then
 ix sA.L st.2 λy=>
 bd (nE y.Path) λrA=>
 bd (if rA.2=0 then
  some (decide (rA.1=p))
  else
  some false:Option Bool) λw1=>
 bd (if w1 then
  ix sA.L st.2 λy1=>
  bd (pZ y1.Path) λaO=>
  ix aO.1 (bD .i64 ((aO.1.length:Int)-1)) λy2=>
  if (st.1.length+([y2]:List (List UInt8)).length) *16<=2^46 then
  some (st.1++([y2]:List (List UInt8)))
  else none
  else
  some st.1:Option (List (List UInt8))) λw2=>
 some (.inl (w2,bD .i64 (st.2+1)))
 else
 some (.inr st.1)
def zq (sA:bm)(p:List UInt8):Option (List (List UInt8)):=bd (Loop (AG sA p) (([]:List (List UInt8)),0)) λw=>some w
def wD (sA:bm)(p:List UInt8)(version:Int):Option (bm×Int):=bd (ve sA p) λrA=>
 if !decide (rA.2=0) then
 some (sA,rA.2)
 else
 if p=([47]:List UInt8) then
 some (sA,13)
 else
 bd (if !decide (version=(-1)) then
  some (!decide (version=rA.1.Version))
  else
  some false:Option Bool) λw=>
 if w then
 some (sA,8)
 else
 bd (zq sA p) λaO=>
 if (0:Int)<(aO.length:Int) then
 some (sA,10)
 else
 bd (wB sA p) λbK=>
 if (0:Int)<=0/\(0:Int)<=bK/\bK<=(sA.L.length:Int) then
 if (([]:List aW).length+(AS (sh 0) (AT (sh bK) sA.L)).length) *48<=2^46 then
 if (0:Int)<=(bD .i64 (bK+1))/\(bD .i64 (bK+1))<=(sA.L.length:Int)/\(sA.L.length:Int)<=(sA.L.length:Int) then
 if ((([]:List aW)++(AS (sh 0) (AT (sh bK) sA.L))).length+(AS (sh (bD .i64 (bK+1))) (AT (sh (sA.L.length:Int)) sA.L)).length) *48<=2^46 then
 some ((⟨(([]:List aW)++(AS (sh 0) (AT (sh bK) sA.L)))++(AS (sh (bD .i64 (bK+1))) (AT (sh (sA.L.length:Int)) sA.L))⟩:bm),0)
 else none
 else none
 else none
 else none
def CT (sA:bm)(p:List UInt8):Option ((List (List UInt8))×Int):=bd (ve sA p) λrA=>
 if !decide (rA.2=0) then
 some (([]:List (List UInt8)),rA.2)
 else
 bd (zq sA p) λaO=>
 some (aO,0)
abbrev ace:=(List aW)×Int×(List aw)×(List aR)×(List ay)×Int×Int×Int×(List UInt8)×Int×(List (List UInt8))
abbrev abS:=(List aW)×Int×(List aw)×(List aR)×(List ay)×Int×Int×Int×(List UInt8)×Int×(List (List UInt8))×Int
def p0 (a:bu)(a1:aJ):Option (bu×ay×(List bh)):=bd (if a1.Kind=1 then
  bd (if !decide (a1.Session=0) then
   if a1.Session<0 then
   some true
   else
   bd (td a.aE a1.Session) λrA=>
   some (!rA)
   else
   some false:Option Bool) λw1=>
  bd (if w1 then
   some (a.Shelf.L,a.aE.eh,a.aE.L,a.aD.L,a.Seen,0,0,14,([]:List UInt8),0,([]:List (List UInt8)))
   else
   bd (wC a.Shelf a1.Path a1.Value a1.Session) λaO=>
   some (aO.1.L,a.aE.eh,a.aE.L,a.aD.L,a.Seen,0,0,aO.2,([]:List UInt8),0,([]:List (List UInt8))):Option (ace)) λw2=>
  some (w2.1,w2.2.1,w2.2.2.1,w2.2.2.2.1,w2.2.2.2.2.1,w2.2.2.2.2.2.1,w2.2.2.2.2.2.2.1,w2.2.2.2.2.2.2.2.1,w2.2.2.2.2.2.2.2.2.1,w2.2.2.2.2.2.2.2.2.2.1,w2.2.2.2.2.2.2.2.2.2.2,1)
  else
  bd (if a1.Kind=2 then
   bd (ve a.Shelf a1.Path) λbK=>
   some (a.Shelf.L,a.aE.eh,a.aE.L,a.aD.L,a.Seen,0,0,bK.2,bK.1.Value,bK.1.Version,([]:List (List UInt8)),0)
   else
   bd (if a1.Kind=3 then
    bd (HB a.Shelf a1.Path a1.Value a1.Version) λgQ=>
    bd (if gQ.2=0 then
     bd (ve gQ.1 a1.Path) λn6=>
     some (0,0,gQ.2,([]:List UInt8),n6.1.Version,([]:List (List UInt8)))
     else
     some (0,0,gQ.2,([]:List UInt8),0,([]:List (List UInt8))):Option (act)) λw5=>
    some (gQ.1.L,a.aE.eh,a.aE.L,a.aD.L,a.Seen,w5.1,w5.2.1,w5.2.2.1,w5.2.2.2.1,w5.2.2.2.2.1,w5.2.2.2.2.2,2)
    else
    bd (if a1.Kind=4 then
     bd (wD a.Shelf a1.Path a1.Version) λrH=>
     some (rH.1.L,a.aE.eh,a.aE.L,a.aD.L,a.Seen,0,0,rH.2,([]:List UInt8),0,([]:List (List UInt8)),3)
     else
     bd (if a1.Kind=5 then
      bd (CT a.Shelf a1.Path) λn7=>
      some (0,0,n7.2,([]:List UInt8),0,n7.1)
      else
      some (0,0,0,([]:List UInt8),0,([]:List (List UInt8))):Option (act)) λw7=>
     some (a.Shelf.L,a.aE.eh,a.aE.L,a.aD.L,a.Seen,w7.1,w7.2.1,w7.2.2.1,w7.2.2.2.1,w7.2.2.2.2.1,w7.2.2.2.2.2,0):Option (abS)) λw6=>
    some (w6.1,w6.2.1,w6.2.2.1,w6.2.2.2.1,w6.2.2.2.2.1,w6.2.2.2.2.2.1,w6.2.2.2.2.2.2.1,w6.2.2.2.2.2.2.2.1,w6.2.2.2.2.2.2.2.2.1,w6.2.2.2.2.2.2.2.2.2.1,w6.2.2.2.2.2.2.2.2.2.2.1,w6.2.2.2.2.2.2.2.2.2.2.2):Option (abS)) λw4=>
   some (w4.1,w4.2.1,w4.2.2.1,w4.2.2.2.1,w4.2.2.2.2.1,w4.2.2.2.2.2.1,w4.2.2.2.2.2.2.1,w4.2.2.2.2.2.2.2.1,w4.2.2.2.2.2.2.2.2.1,w4.2.2.2.2.2.2.2.2.2.1,w4.2.2.2.2.2.2.2.2.2.2.1,w4.2.2.2.2.2.2.2.2.2.2.2):Option (abS)) λw3=>
  some (w3.1,w3.2.1,w3.2.2.1,w3.2.2.2.1,w3.2.2.2.2.1,w3.2.2.2.2.2.1,w3.2.2.2.2.2.2.1,w3.2.2.2.2.2.2.2.1,w3.2.2.2.2.2.2.2.2.1,w3.2.2.2.2.2.2.2.2.2.1,w3.2.2.2.2.2.2.2.2.2.2.1,w3.2.2.2.2.2.2.2.2.2.2.2):Option (abS)) λw=>
 bd (if w.2.2.2.2.2.2.2.1=0 then
  some (decide ((0:Int)<w.2.2.2.2.2.2.2.2.2.2.2))
  else
  some false:Option Bool) λw8=>
 if w8 then
 some ((⟨(⟨w.1⟩:bm),(⟨w.2.1,w.2.2.1⟩:cg),(⟨w.2.2.2.1⟩:dS),w.2.2.2.2.1⟩:bu),(⟨w.2.2.2.2.2.1,w.2.2.2.2.2.2.1,w.2.2.2.2.2.2.2.1,w.2.2.2.2.2.2.2.2.1,w.2.2.2.2.2.2.2.2.2.1,w.2.2.2.2.2.2.2.2.2.2.1⟩:ay),([(⟨w.2.2.2.2.2.2.2.2.2.2.2,a1.Path⟩:bh)]:List bh))
 else
 some ((⟨(⟨w.1⟩:bm),(⟨w.2.1,w.2.2.1⟩:cg),(⟨w.2.2.2.1⟩:dS),w.2.2.2.2.1⟩:bu),(⟨w.2.2.2.2.2.1,w.2.2.2.2.2.2.1,w.2.2.2.2.2.2.2.1,w.2.2.2.2.2.2.2.2.1,w.2.2.2.2.2.2.2.2.2.1,w.2.2.2.2.2.2.2.2.2.2.1⟩:ay),([]:List bh))
def wE (a:cg)(a1:Int)(a2:Int)(st:(List aw)×Bool×Int):Option (((List aw)×Bool×Int)⊕((List aw)×Bool)):=if st.2.2<(a.L.length:Int) then
 bd (if !st.2.1 then
  ix a.L st.2.2 λy=>
  some (decide (a1<y.Id))
  else
  some false:Option Bool) λw2=>
 bd (if w2 then
  if (st.1.length+([(⟨a1,a2,bD .i64 (a.eh+a2)⟩:aw)]:List aw).length) *24<=2^46 then
  some (st.1++([(⟨a1,a2,bD .i64 (a.eh+a2)⟩:aw)]:List aw),true)
  else none
  else
  some (st.1,st.2.1):Option ((List aw)×Bool)) λw3=>
 ix a.L st.2.2 λy1=>
 if (w3.1.length+([y1]:List aw).length) *24<=2^46 then
 some (.inl (w3.1++([y1]:List aw),w3.2,bD .i64 (st.2.2+1)))
 else none
 else
 some (.inr (st.1,st.2.1))
def CU (a:cg)(a1:Int)(a2:Int):Option (cg×Int):=bd (if a1<1 then
  some true
  else
  if a2<1 then
  some true
  else
  some (decide ((1000:Int)<a2)):Option Bool) λw=>
 if w then
 some (a,1)
 else
 bd (td a a1) λrA=>
 if rA then
 some (a,7)
 else
 if (50:Int)<=(a.L.length:Int) then
 some (a,9)
 else
 bd (Loop (wE a a1 a2) (([]:List aw),false,0)) λw1=>
 bd (if !w1.2 then
  if (w1.1.length+([(⟨a1,a2,bD .i64 (a.eh+a2)⟩:aw)]:List aw).length) *24<=2^46 then
  some (w1.1++([(⟨a1,a2,bD .i64 (a.eh+a2)⟩:aw)]:List aw))
  else none
  else
  some w1.1:Option (List aw)) λw4=>
 some ((⟨a.eh,w4⟩:cg),0)
def tK (b:cg)(id:Int)(st:(List aw)×Int):Option (((List aw)×Int)⊕(List aw)):=if st.2<(b.L.length:Int) then
 ix b.L st.2 λy=>
 bd (if y.Id=id then
  some (y.Id,y.Span,bD .i64 (b.eh+y.Span))
  else
  some (y.Id,y.Span,y.kG):Option (Int×Int×Int)) λw1=>
 if (st.1.length+([(⟨w1.1,w1.2.1,w1.2.2⟩:aw)]:List aw).length) *24<=2^46 then
 some (.inl (st.1++([(⟨w1.1,w1.2.1,w1.2.2⟩:aw)]:List aw),bD .i64 (st.2+1)))
 else none
 else
 some (.inr st.1)
def zt (b:cg)(id:Int):Option (cg×Int):=bd (td b id) λrA=>
 if !rA then
 some (b,14)
 else
 bd (Loop (tK b id) (([]:List aw),0)) λw=>
 some ((⟨b.eh,w⟩:cg),0)
def ye (b:cg)(id:Int)(st:(List aw)×Int):Option (((List aw)×Int)⊕(List aw)):=if st.2<(b.L.length:Int) then
 ix b.L st.2 λy=>
 bd (if !decide (y.Id=id) then
  ix b.L st.2 λy1=>
  if (st.1.length+([y1]:List aw).length) *24<=2^46 then
  some (st.1++([y1]:List aw))
  else none
  else
  some st.1:Option (List aw)) λw1=>
 some (.inl (w1,bD .i64 (st.2+1)))
 else
 some (.inr st.1)
def zu (b:cg)(id:Int):Option (cg×Int):=bd (td b id) λrA=>
 if !rA then
 some (b,14)
 else
 bd (Loop (ye b id) (([]:List aw),0)) λw=>
 some ((⟨b.eh,w⟩:cg),0)
abbrev adO:=(List aW)×(List (List UInt8))×Int
def AH (sA:bm)(owner:Int)(st:adO):Option ((adO)⊕((List aW)×(List (List UInt8)))):=if st.2.2<(sA.L.length:Int) then
 bd (if (0:Int)<owner then
  ix sA.L st.2.2 λy=>
  some (decide (y.dt=owner))
  else
  some false:Option Bool) λw1=>
 bd (if w1 then
  ix sA.L st.2.2 λy1=>
  if (st.2.1.length+([y1.Path]:List (List UInt8)).length) *16<=2^46 then
  some (st.1,st.2.1++([y1.Path]:List (List UInt8)))
  else none
  else
  ix sA.L st.2.2 λy2=>
  if (st.1.length+([y2]:List aW).length) *48<=2^46 then
  some (st.1++([y2]:List aW),st.2.1)
  else none:Option ((List aW)×(List (List UInt8)))) λw2=>
 some (.inl (w2.1,w2.2,bD .i64 (st.2.2+1)))
 else
 some (.inr (st.1,st.2.1))
def zw (sA:bm)(owner:Int):Option (bm×(List (List UInt8))):=bd (Loop (AH sA owner) (([]:List aW),([]:List (List UInt8)),0)) λw=>some ((⟨w.1⟩:bm),w.2)
def tT (rA:bm×(List (List UInt8)))(aZ:(List bh)×Int):Option (((List bh)×Int)⊕(List bh)):=if aZ.2<(rA.2.length:Int) then
 ix rA.2 aZ.2 λy1=>
 if (aZ.1.length+([(⟨3,y1⟩:bh)]:List bh).length) *24<=2^46 then
 some (.inl (aZ.1++([(⟨3,y1⟩:bh)]:List bh),bD .i64 (aZ.2+1)))
 else none
 else
 some (.inr aZ.1)
def tU (ids:List Int)(st:(List aW)×(List bh)×Int):Option (((List aW)×(List bh)×Int)⊕((List aW)×(List bh))):=if st.2.2<(ids.length:Int) then
 ix ids st.2.2 λy=>
 bd (zw (⟨st.1⟩:bm) y) λrA=>
 bd (Loop (tT rA) (st.2.1,0)) λw1=>
 some (.inl (rA.1.L,w1,bD .i64 (st.2.2+1)))
 else
 some (.inr (st.1,st.2.1))
def vD (sA:bm)(ids:List Int):Option (bm×(List bh)):=bd (Loop (tU ids) (sA.L,([]:List bh),0)) λw=>some ((⟨w.1⟩:bm),w.2)
def wF (b:cg)(now:Int)(st:(List aw)×(List Int)×Int):Option (((List aw)×(List Int)×Int)⊕((List aw)×(List Int))):=if st.2.2<(b.L.length:Int) then
 ix b.L st.2.2 λy=>
 bd (if y.kG<=now then
  ix b.L st.2.2 λy1=>
  if (st.2.1.length+([y1.Id]:List Int).length) *8<=2^46 then
  some (st.1,st.2.1++([y1.Id]:List Int))
  else none
  else
  ix b.L st.2.2 λy2=>
  if (st.1.length+([y2]:List aw).length) *24<=2^46 then
  some (st.1++([y2]:List aw),st.2.1)
  else none:Option ((List aw)×(List Int))) λw1=>
 some (.inl (w1.1,w1.2,bD .i64 (st.2.2+1)))
 else
 some (.inr (st.1,st.2.1))
def CV (b:cg)(now:Int):Option (cg×(List Int)×Int):=if now<b.eh then
 some (b,([]:List Int),15)
 else
 if (1000000000:Int)<now then
 some (b,([]:List Int),5)
 else
 bd (Loop (wF b now) (([]:List aw),([]:List Int),0)) λw=>
 some ((⟨now,w.1⟩:cg),w.2,0)
def Ed (lA:List aR)(w:aR)(st:Int):Option (Int⊕(Unit⊕Bool)):=if st<(lA.length:Int) then
 ix lA st λy=>
 if ((decide (y.Path=w.Path))&&((decide (y.Client=w.Client))&&(decide (y.Kids=w.Kids)))) then
 some (.inr (.inr true))
 else
 some (.inl (bD .i64 (st+1)))
 else
 some (.inr (.inl ()))
def Ee (lA:List aR)(w:aR):Option Bool:=bd (Loop (Ed lA w) 0) λw1=>
 match w1 with
 | .inl p1=>some false
 | .inr p2=>some p2
def HC (t:dS)(w:aR):Option (dS×Int):=bd (kO w.Path) λrA=>
 if !rA then
 some (t,13)
 else
 if w.Client<0 then
 some (t,1)
 else
 bd (Ee t.L w) λaO=>
 if aO then
 some (t,0)
 else
 if (200:Int)<=(t.L.length:Int) then
 some (t,9)
 else
 if (([]:List aR).length+t.L.length) *32<=2^46 then
 if ((([]:List aR)++t.L).length+([w]:List aR).length) *32<=2^46 then
 some ((⟨(([]:List aR)++t.L)++([w]:List aR)⟩:dS),0)
 else none
 else none
abbrev abG:=(List aW)×Int×(List aw)×(List aR)×(List ay)×Int×Int×Int×(List UInt8)×Int×(List (List UInt8))×(List bh)
def zx (a:bu)(a1:aJ):Option (bu×ay×(List bh)):=bd (if a1.Kind=1 then
  some (decide (a1.Kind=1))
  else
  bd (if a1.Kind=2 then
   some (decide (a1.Kind=2))
   else
   bd (if a1.Kind=3 then
    some (decide (a1.Kind=3))
    else
    bd (if a1.Kind=4 then
     some (decide (a1.Kind=4))
     else
     some (decide (a1.Kind=5)):Option Bool) λw3=>
    some w3:Option Bool) λw2=>
   some w2:Option Bool) λw1=>
  some w1:Option Bool) λw=>
 if w then
 bd (p0 a a1) λrA=>
 some (rA.1,rA.2.1,rA.2.2)
 else
 bd (if a1.Kind=6 then
  bd (CU a.aE a1.Session a1.Span) λaO=>
  some (a.Shelf.L,aO.1.eh,aO.1.L,a.aD.L,a.Seen,0,0,aO.2,([]:List UInt8),0,([]:List (List UInt8)),([]:List bh))
  else
  bd (if a1.Kind=7 then
   bd (zt a.aE a1.Session) λbK=>
   some (a.Shelf.L,bK.1.eh,bK.1.L,a.aD.L,a.Seen,0,0,bK.2,([]:List UInt8),0,([]:List (List UInt8)),([]:List bh))
   else
   bd (if a1.Kind=8 then
    bd (zu a.aE a1.Session) λgQ=>
    bd (if gQ.2=0 then
     bd (vD a.Shelf ([a1.Session]:List Int)) λn6=>
     some (n6.1.L,gQ.1.eh,gQ.1.L,a.aD.L,a.Seen,n6.2)
     else
     some (a.Shelf.L,gQ.1.eh,gQ.1.L,a.aD.L,a.Seen,([]:List bh)):Option ((List aW)×Int×(List aw)×(List aR)×(List ay)×(List bh))) λw7=>
    some (w7.1,w7.2.1,w7.2.2.1,w7.2.2.2.1,w7.2.2.2.2.1,0,0,gQ.2,([]:List UInt8),0,([]:List (List UInt8)),w7.2.2.2.2.2)
    else
    bd (if a1.Kind=9 then
     bd (CV a.aE a1.Span) λrH=>
     bd (if rH.2.2=0 then
      bd (vD a.Shelf rH.2.1) λn7=>
      some (n7.1.L,rH.1.eh,rH.1.L,a.aD.L,a.Seen,0,0,rH.2.2,([]:List UInt8),rH.1.eh,([]:List (List UInt8)),n7.2)
      else
      some (a.Shelf.L,rH.1.eh,rH.1.L,a.aD.L,a.Seen,0,0,rH.2.2,([]:List UInt8),0,([]:List (List UInt8)),([]:List bh)):Option (abG)) λw9=>
     some (w9.1,w9.2.1,w9.2.2.1,w9.2.2.2.1,w9.2.2.2.2.1,w9.2.2.2.2.2.1,w9.2.2.2.2.2.2.1,w9.2.2.2.2.2.2.2.1,w9.2.2.2.2.2.2.2.2.1,w9.2.2.2.2.2.2.2.2.2.1,w9.2.2.2.2.2.2.2.2.2.2.1,w9.2.2.2.2.2.2.2.2.2.2.2)
     else
     bd (if a1.Kind=10 then
      some (decide (a1.Kind=10))
      else
      some (decide (a1.Kind=11)):Option Bool) λw10=>
     bd (if w10 then
      bd (HC a.aD (⟨a1.Path,a1.Client,decide (a1.Kind=11)⟩:aR)) λBN=>
      some (a.Shelf.L,a.aE.eh,a.aE.L,BN.1.L,a.Seen,0,0,BN.2,([]:List UInt8),0,([]:List (List UInt8)))
      else
      some (a.Shelf.L,a.aE.eh,a.aE.L,a.aD.L,a.Seen,0,0,0,([]:List UInt8),0,([]:List (List UInt8))):Option (ace)) λw11=>
     some (w11.1,w11.2.1,w11.2.2.1,w11.2.2.2.1,w11.2.2.2.2.1,w11.2.2.2.2.2.1,w11.2.2.2.2.2.2.1,w11.2.2.2.2.2.2.2.1,w11.2.2.2.2.2.2.2.2.1,w11.2.2.2.2.2.2.2.2.2.1,w11.2.2.2.2.2.2.2.2.2.2,([]:List bh)):Option (abG)) λw8=>
    some (w8.1,w8.2.1,w8.2.2.1,w8.2.2.2.1,w8.2.2.2.2.1,w8.2.2.2.2.2.1,w8.2.2.2.2.2.2.1,w8.2.2.2.2.2.2.2.1,w8.2.2.2.2.2.2.2.2.1,w8.2.2.2.2.2.2.2.2.2.1,w8.2.2.2.2.2.2.2.2.2.2.1,w8.2.2.2.2.2.2.2.2.2.2.2):Option (abG)) λw6=>
   some (w6.1,w6.2.1,w6.2.2.1,w6.2.2.2.1,w6.2.2.2.2.1,w6.2.2.2.2.2.1,w6.2.2.2.2.2.2.1,w6.2.2.2.2.2.2.2.1,w6.2.2.2.2.2.2.2.2.1,w6.2.2.2.2.2.2.2.2.2.1,w6.2.2.2.2.2.2.2.2.2.2.1,w6.2.2.2.2.2.2.2.2.2.2.2):Option (abG)) λw5=>
  some (w5.1,w5.2.1,w5.2.2.1,w5.2.2.2.1,w5.2.2.2.2.1,w5.2.2.2.2.2.1,w5.2.2.2.2.2.2.1,w5.2.2.2.2.2.2.2.1,w5.2.2.2.2.2.2.2.2.1,w5.2.2.2.2.2.2.2.2.2.1,w5.2.2.2.2.2.2.2.2.2.2.1,w5.2.2.2.2.2.2.2.2.2.2.2):Option (abG)) λw4=>
 some ((⟨(⟨w4.1⟩:bm),(⟨w4.2.1,w4.2.2.1⟩:cg),(⟨w4.2.2.2.1⟩:dS),w4.2.2.2.2.1⟩:bu),(⟨w4.2.2.2.2.2.1,w4.2.2.2.2.2.2.1,w4.2.2.2.2.2.2.2.1,w4.2.2.2.2.2.2.2.2.1,w4.2.2.2.2.2.2.2.2.2.1,w4.2.2.2.2.2.2.2.2.2.2.1⟩:ay),w4.2.2.2.2.2.2.2.2.2.2.2)
def tV (c:bh)(w:aR):Option Bool:=bd (if c.Kind<1 then
  some true
  else
  if (3:Int)<c.Kind then
  some true
  else
  bd (kO c.Path) λrA=>
  some (!rA):Option Bool) λw1=>
 if w1 then
 some false
 else
 if !w.Kids then
 some (decide (c.Path=w.Path))
 else
 bd (nE c.Path) λaO=>
 bd (if !decide (c.Kind=2) then
  if aO.2=0 then
  some (decide (aO.1=w.Path))
  else
  some false
  else
  some false:Option Bool) λw2=>
 some w2
abbrev adz:=(List aR)×(List cA)×Int
def AJ (lA:List bh)(st:adz)(aZ:(List cA)×(List aR)×Int):Option (((List cA)×(List aR)×Int)⊕((List cA)×(List aR))):=if aZ.2.2<(st.1.length:Int) then
 ix lA st.2.2 λy=>
 ix st.1 aZ.2.2 λy1=>
 bd (tV y y1) λrA=>
 bd (if rA then
  ix st.1 aZ.2.2 λy2=>
  ix lA st.2.2 λy3=>
  if (aZ.1.length+([(⟨y2,y3⟩:cA)]:List cA).length) *56<=2^46 then
  some (aZ.1++([(⟨y2,y3⟩:cA)]:List cA),aZ.2.1)
  else none
  else
  ix st.1 aZ.2.2 λy4=>
  if (aZ.2.1.length+([y4]:List aR).length) *32<=2^46 then
  some (aZ.1,aZ.2.1++([y4]:List aR))
  else none:Option ((List cA)×(List aR))) λw2=>
 some (.inl (w2.1,w2.2,bD .i64 (aZ.2.2+1)))
 else
 some (.inr (aZ.1,aZ.2.1))
def AK (lA:List bh)(st:adz):Option ((adz)⊕((List aR)×(List cA))):=if st.2.2<(lA.length:Int) then
 bd (Loop (AJ lA st) (st.2.1,([]:List aR),0)) λw1=>
 some (.inl (w1.2,w1.1,bD .i64 (st.2.2+1)))
 else
 some (.inr (st.1,st.2.1))
def wG (t:dS)(lA:List bh):Option (dS×(List cA)):=if (([]:List aR).length+t.L.length) *32<=2^46 then
 bd (Loop (AK lA) (([]:List aR)++t.L,([]:List cA),0)) λw=>
 some ((⟨w.1⟩:dS),w.2)
 else none
def AL (lA:List ay)(x:ay)(st:(List ay)×Bool×Int):Option (((List ay)×Bool×Int)⊕((List ay)×Bool)):=if st.2.2<(lA.length:Int) then
 bd (if !st.2.1 then
  ix lA st.2.2 λy=>
  some (decide (x.Client<=y.Client))
  else
  some false:Option Bool) λw1=>
 bd (if w1 then
  if (st.1.length+([x]:List ay).length) *72<=2^46 then
  some (st.1++([x]:List ay),true)
  else none
  else
  some (st.1,st.2.1):Option ((List ay)×Bool)) λw2=>
 ix lA st.2.2 λy1=>
 bd (if !decide (y1.Client=x.Client) then
  ix lA st.2.2 λy2=>
  if (w2.1.length+([y2]:List ay).length) *72<=2^46 then
  some (w2.1++([y2]:List ay))
  else none
  else
  some w2.1:Option (List ay)) λw3=>
 some (.inl (w3,w2.2,bD .i64 (st.2.2+1)))
 else
 some (.inr (st.1,st.2.1))
def wH (lA:List ay)(x:ay):Option (List ay):=bd (Loop (AL lA x) (([]:List ay),false,0)) λw=>
 bd (if !w.2 then
  if (w.1.length+([x]:List ay).length) *72<=2^46 then
  some (w.1++([x]:List ay))
  else none
  else
  some w.1:Option (List ay)) λw4=>
 some w4
def zy (a:bu)(a1:aJ):Option (bu×ay×(List cA)):=bd (yb a1) λrA=>
 if !rA then
 some (a,(⟨a1.Client,a1.Seq,1,([]:List UInt8),0,([]:List (List UInt8))⟩:ay),([]:List cA))
 else
 bd (wz a a1.Client) λaO=>
 bd (if aO.2 then
  some (decide (aO.1.Seq=a1.Seq))
  else
  some false:Option Bool) λw=>
 if w then
 some (a,aO.1,([]:List cA))
 else
 bd (if aO.2 then
  some (decide (a1.Seq<aO.1.Seq))
  else
  some false:Option Bool) λw1=>
 if w1 then
 some (a,(⟨a1.Client,a1.Seq,15,([]:List UInt8),0,([]:List (List UInt8))⟩:ay),([]:List cA))
 else
 bd (if !aO.2 then
  some (decide ((50:Int)<=(a.Seen.length:Int)))
  else
  some false:Option Bool) λw2=>
 if w2 then
 some (a,(⟨a1.Client,a1.Seq,9,([]:List UInt8),0,([]:List (List UInt8))⟩:ay),([]:List cA))
 else
 bd (zx a a1) λbK=>
 bd (wG bK.1.aD bK.2.2) λgQ=>
 bd (wH a.Seen (⟨a1.Client,a1.Seq,bK.2.1.E,bK.2.1.Value,bK.2.1.Version,bK.2.1.Names⟩:ay)) λn6=>
 some ((⟨bK.1.Shelf,bK.1.aE,gQ.1,n6⟩:bu),(⟨a1.Client,a1.Seq,bK.2.1.E,bK.2.1.Value,bK.2.1.Version,bK.2.1.Names⟩:ay),gQ.2)
abbrev abT:=(List aW)×Int×(List aw)×(List aR)×(List ay)×(List ay)×(List cA)×Int
def wI (lA:List aJ)(st:abT):Option ((abT)⊕((List aW)×Int×(List aw)×(List aR)×(List ay)×(List ay)×(List cA))):=if st.2.2.2.2.2.2.2<(lA.length:Int) then
 ix lA st.2.2.2.2.2.2.2 λy=>
 bd (zy (⟨(⟨st.1⟩:bm),(⟨st.2.1,st.2.2.1⟩:cg),(⟨st.2.2.2.1⟩:dS),st.2.2.2.2.1⟩:bu) y) λn7=>
 if (st.2.2.2.2.2.1.length+([n7.2.1]:List ay).length) *72<=2^46 then
 if (st.2.2.2.2.2.2.1.length+n7.2.2.length) *56<=2^46 then
 some (.inl (n7.1.Shelf.L,n7.1.aE.eh,n7.1.aE.L,n7.1.aD.L,n7.1.Seen,st.2.2.2.2.2.1++([n7.2.1]:List ay),st.2.2.2.2.2.2.1++n7.2.2,bD .i64 (st.2.2.2.2.2.2.2+1)))
 else none
 else none
 else
 some (.inr (st.1,st.2.1,st.2.2.1,st.2.2.2.1,st.2.2.2.2.1,st.2.2.2.2.2.1,st.2.2.2.2.2.2.1))
def CW (rA:bu)(lA:List aJ):Option (bu×(List ay)×(List cA)):=bd (Loop (wI lA) (rA.Shelf.L,rA.aE.eh,rA.aE.L,rA.aD.L,rA.Seen,([]:List ay),([]:List cA),0)) λw=>some ((⟨(⟨w.1⟩:bm),(⟨w.2.1,w.2.2.1⟩:cg),(⟨w.2.2.2.1⟩:dS),w.2.2.2.2.1⟩:bu),w.2.2.2.2.2.1,w.2.2.2.2.2.2)
def Ul:Option bm:=some (⟨([(⟨([47]:List UInt8),([]:List UInt8),0,0⟩:aW)]:List aW)⟩:bm)
def Mn:Option bu:=bd (Ul) λrA=>some (⟨rA,(⟨0,([]:List aw)⟩:cg),(⟨([]:List aR)⟩:dS),([]:List ay)⟩:bu)
def Ef (lA:List aa)(st:(List aJ)×Int):Option (((List aJ)×Int)⊕(List aJ)):=if st.2<(lA.length:Int) then
 ix lA st.2 λy=>
 if (st.1.length+([(⟨y.Client,y.Seq,y.Kind,y.Path,y.Value,y.Version,y.Session,y.Span⟩:aJ)]:List aJ).length) *80<=2^46 then
 some (.inl (st.1++([(⟨y.Client,y.Seq,y.Kind,y.Path,y.Value,y.Version,y.Session,y.Span⟩:aJ)]:List aJ),bD .i64 (st.2+1)))
 else none
 else
 some (.inr st.1)
def yf (lA:List aa):Option (List aJ):=bd (Loop (Ef lA) (([]:List aJ),0)) λw=>some w
def wJ (b:List Int)(y:Int)(st:Int×Int):Option ((Int×Int)⊕Int):=if st.2<=(bD .i64 y) then
 ix b st.2 λy2=>
 some (.inl (bD .u64 ((bD .u64 (256 *st.1))+(bD .u64 y2)),bD .i64 (st.2+1)))
 else
 some (.inr st.1)
def wK (b:List Int):Option (adc):=if (b.length:Int)=0 then
 some (0,([]:List Int),2)
 else
 ix b 0 λy=>
 bd (if (8:Int)<(bD .i64 y) then
  some true
  else
  if (0:Int)<(bD .i64 y) then
  if (1:Int)<(b.length:Int) then
  ix b 1 λy1=>
  some (decide (y1=0))
  else
  some false
  else
  some false:Option Bool) λw=>
 if w then
 some (0,([]:List Int),3)
 else
 if (b.length:Int)<(bD .i64 (1+(bD .i64 y))) then
 some (0,([]:List Int),2)
 else
 bd (Loop (wJ b y) (0,1)) λw1=>
 if (0:Int)<=(bD .i64 (1+(bD .i64 y)))/\(bD .i64 (1+(bD .i64 y)))<=(b.length:Int)/\(b.length:Int)<=(b.length:Int) then
 some (w1,AS (sh (bD .i64 (1+(bD .i64 y)))) (AT (sh (b.length:Int)) b),0)
 else none
def tW (b:List Int):Option (adc):=bd (wK b) λrA=>
 if !decide (rA.2.2=0) then
 some (0,([]:List Int),rA.2.2)
 else
 if !decide ((2:Int)=0) then
 if (IN rA.1 2)=1 then
 if !decide ((2:Int)=0) then
 some (bD .i64 ((bD .i64 (0-(bD .i64 (bD .u64 (ac4 rA.1 2)))))-1),rA.2.1,0)
 else none
 else
 if !decide ((2:Int)=0) then
 some (bD .i64 (bD .u64 (ac4 rA.1 2)),rA.2.1,0)
 else none
 else none
abbrev abW:=(List Int)×(List Int)×Int
def sC (many:Int)(st:abW):Option ((abW)⊕(((List Int)×(List Int))⊕(abW))):=if st.2.2<many then
 bd (tW st.1) λrA=>
 if !decide (rA.2.2=0) then
 some (.inr (.inr (([]:List Int),([]:List Int),rA.2.2)))
 else
 if (st.2.1.length+([rA.1]:List Int).length) *8<=2^46 then
 some (.inl (rA.2.1,st.2.1++([rA.1]:List Int),bD .i64 (st.2.2+1)))
 else none
 else
 some (.inr (.inl (st.1,st.2.1)))
def HD (b:List Int)(many:Int):Option (abW):=bd (Loop (sC many) (b,([]:List Int),0)) λw=>
 match w with
 | .inl p1=>some (p1.2,p1.1,0)
 | .inr p2=>some (p2.1,p2.2.1,p2.2.2)
def oe (b:List Int)(most:Int):Option ((List UInt8)×(List Int)×Int):=bd (wK b) λrA=>
 if !decide (rA.2.2=0) then
 some (([]:List UInt8),([]:List Int),rA.2.2)
 else
 if (bD .u64 (imax most 0))<rA.1 then
 some (([]:List UInt8),([]:List Int),5)
 else
 if (bD .u64 (rA.2.1.length:Int))<rA.1 then
 some (([]:List UInt8),([]:List Int),2)
 else
 if (0:Int)<=0/\(0:Int)<=rA.1/\rA.1<=(rA.2.1.length:Int) then
 LA (AS (sh 0) (AT (sh rA.1) rA.2.1)) λbs=>
 if (0:Int)<=rA.1/\rA.1<=(rA.2.1.length:Int)/\(rA.2.1.length:Int)<=(rA.2.1.length:Int) then
 some (bs,AS (sh rA.1) (AT (sh (rA.2.1.length:Int)) rA.2.1),0)
 else none
 else none
def CX (a:List Int):Option (aJ×(List Int)×Int):=bd (HD a 6) λrA=>
 if !decide (rA.2.2=0) then
 some ((⟨0,0,0,([]:List UInt8),([]:List UInt8),0,0,0⟩:aJ),([]:List Int),rA.2.2)
 else
 bd (oe rA.2.1 100) λaO=>
 if !decide (aO.2.2=0) then
 some ((⟨0,0,0,([]:List UInt8),([]:List UInt8),0,0,0⟩:aJ),([]:List Int),aO.2.2)
 else
 bd (oe aO.2.1 1000) λbK=>
 if !decide (bK.2.2=0) then
 some ((⟨0,0,0,([]:List UInt8),([]:List UInt8),0,0,0⟩:aJ),([]:List Int),bK.2.2)
 else
 ix rA.1 0 λy=>
 ix rA.1 1 λy1=>
 ix rA.1 2 λy2=>
 ix rA.1 3 λy3=>
 ix rA.1 4 λy4=>
 ix rA.1 5 λy5=>
 bd (yb (⟨y,y1,y2,aO.1,bK.1,y3,y4,y5⟩:aJ)) λgQ=>
 if !gQ then
 some ((⟨0,0,0,([]:List UInt8),([]:List UInt8),0,0,0⟩:aJ),([]:List Int),3)
 else
 some ((⟨y,y1,y2,aO.1,bK.1,y3,y4,y5⟩:aJ),bK.2.1,0)
def oh (rA:adc)(st:(List Int)×(List aJ)×Int):Option (((List Int)×(List aJ)×Int)⊕(((List Int)×(List aJ))⊕((List aJ)×Int))):=if st.2.2<rA.1 then
 bd (CX st.1) λaO=>
 if !decide (aO.2.2=0) then
 some (.inr (.inr (([]:List aJ),3)))
 else
 if (st.2.1.length+([aO.1]:List aJ).length) *80<=2^46 then
 some (.inl (aO.2.1,st.2.1++([aO.1]:List aJ),bD .u64 (st.2.2+1)))
 else none
 else
 some (.inr (.inl (st.1,st.2.1)))
def wL (sA:List UInt8):Option ((List aJ)×Int):=bd (wK (sq sA)) λrA=>
 bd (if !decide (rA.2.2=0) then
  some true
  else
  some (decide ((10:Int)<rA.1)):Option Bool) λw=>
 if w then
 some (([]:List aJ),3)
 else
 bd (Loop (oh rA) (rA.2.1,([]:List aJ),0)) λw1=>
 match w1 with
 | .inl p1=>
  if (0:Int)<(p1.1.length:Int) then
  some (([]:List aJ),3)
  else
  some (p1.2,0)
 | .inr p2=>some (p2.1,p2.2)
def vE (rA:bu)(sA:List UInt8):Option (bu×(List ay)×Int):=bd (wL sA) λaO=>
 if !decide (aO.2=0) then
 some (rA,([]:List ay),aO.2)
 else
 bd (CW rA aO.1) λbK=>
 some (bK.1,bK.2.1,0)
def Om (a:List aJ)(b:List aJ)(st:Int):Option (Int⊕(Unit⊕Bool)):=if st<(a.length:Int) then
 ix a st λy=>
 ix b st λy1=>
 if !((decide (y.Client=y1.Client))&&((decide (y.Seq=y1.Seq))&&((decide (y.Kind=y1.Kind))&&((decide (y.Path=y1.Path))&&((decide (y.Value=y1.Value))&&((decide (y.Version=y1.Version))&&((decide (y.Session=y1.Session))&&(decide (y.Span=y1.Span))))))))) then
 some (.inr (.inr false))
 else
 some (.inl (bD .i64 (st+1)))
 else
 some (.inr (.inl ()))
def zB (a:List aJ)(b:List aJ):Option Bool:=if !decide ((a.length:Int)=(b.length:Int)) then
 some false
 else
 bd (Loop (Om a b) 0) λw=>
 match w with
 | .inl p1=>some true
 | .inr p2=>some p2
def jK (x:aa)(c:aa):Option Bool:=some (decide (x.Client=c.Client))
def ir (sA:List aa)(f:aa->Option Bool)(st:Int):Option (Int⊕(Unit⊕Int)):=if st<(sA.length:Int) then
 ix sA st λy=>
 bd (f y) λrA=>
 if rA then
 some (.inr (.inr st))
 else
 some (.inl (bD .i64 (st+1)))
 else
 some (.inr (.inl ()))
def jj (sA:List aa)(f:aa->Option Bool):Option Int:=bd (Loop (ir sA f) 0) λw=>
 match w with
 | .inl p1=>some (-1)
 | .inr p2=>some p2
def ef (sA:List aa)(f:aa->Option Bool):Option Bool:=bd (jj sA f) λrA=>some (decide ((0:Int)<=rA))
def pu (rA:aj)(lA:List aa)(st:(List aa)×Int):Option (((List aa)×Int)⊕(List aa)):=if st.2<(lA.length:Int) then
 ix lA st.2 λy=>
 bd (sr rA y.Client) λaO=>
 bd (ef st.1 (λu=>jK u y)) λbK=>
 bd (if !bK then
  bd (dK y) λgQ=>
  if gQ then
  if !aO.2 then
  some (decide ((st.1.length:Int)<10))
  else
  if aO.1.Seq<y.Seq then
  some (decide ((st.1.length:Int)<10))
  else
  some false
  else
  some false
  else
  some false:Option Bool) λw1=>
 bd (if w1 then
  if (st.1.length+([y]:List aa).length) *80<=2^46 then
  some (st.1++([y]:List aa))
  else none
  else
  some st.1:Option (List aa)) λw2=>
 some (.inl (w2,bD .i64 (st.2+1)))
 else
 some (.inr st.1)
def oZ (rA:aj)(lA:List aa):Option (List aa):=bd (Loop (pu rA lA) (([]:List aa),0)) λw=>some w
def zC (rA:bu)(o:aJ):Option Bool:=bd (wz rA o.Client) λaO=>
 bd (bd (yb o) λbK=>
  if bK then
  if !aO.2 then
  some true
  else
  some (decide (aO.1.Seq<o.Seq))
  else
  some false:Option Bool) λw=>
 some w
def th (lA:List aJ)(st:(List aJ)×Int)(aZ:Bool×Int):Option ((Bool×Int)⊕Bool):=if aZ.2<(st.1.length:Int) then
 bd (if aZ.1 then
  some true
  else
  ix st.1 aZ.2 λy=>
  ix lA st.2 λy1=>
  some (decide (y.Client=y1.Client)):Option Bool) λw3=>
 some (.inl (w3,bD .i64 (aZ.2+1)))
 else
 some (.inr aZ.1)
def Fx (rA:bu)(lA:List aJ)(st:(List aJ)×Int):Option (((List aJ)×Int)⊕(List aJ)):=bd (if st.2<(lA.length:Int) then
  some (decide ((st.1.length:Int)<10))
  else
  some false:Option Bool) λw1=>
 if w1 then
 bd (Loop (th lA st) (false,0)) λw2=>
 bd (if !w2 then
  ix lA st.2 λy2=>
  bd (zC rA y2) λaO=>
  some aO
  else
  some false:Option Bool) λw4=>
 bd (if w4 then
  ix lA st.2 λy3=>
  if (st.1.length+([y3]:List aJ).length) *80<=2^46 then
  some (st.1++([y3]:List aJ))
  else none
  else
  some st.1:Option (List aJ)) λw5=>
 some (.inl (w5,bD .i64 (st.2+1)))
 else
 some (.inr st.1)
def ua (rA:bu)(lA:List aJ):Option (List aJ):=bd (Loop (Fx rA lA) (([]:List aJ),0)) λw=>some w
def yJ (a:List (List UInt8))(b:List (List UInt8))(st:Int):Option (Int⊕(Unit⊕Bool)):=if st<(a.length:Int) then
 ix a st λy=>
 ix b st λy1=>
 if !decide (y=y1) then
 some (.inr (.inr false))
 else
 some (.inl (bD .i64 (st+1)))
 else
 some (.inr (.inl ()))
def ub (a:List (List UInt8))(b:List (List UInt8)):Option Bool:=if !decide ((a.length:Int)=(b.length:Int)) then
 some false
 else
 bd (Loop (yJ a b) 0) λw=>
 match w with
 | .inl p1=>some true
 | .inr p2=>some p2
def CY (a:ay)(b:ay):Option Bool:=bd (if a.Client=b.Client then
  if a.Seq=b.Seq then
  if a.E=b.E then
  if a.Value=b.Value then
  if a.Version=b.Version then
  bd (ub a.Names b.Names) λrA=>
  some rA
  else
  some false
  else
  some false
  else
  some false
  else
  some false
  else
  some false:Option Bool) λw=>
 some w
def mI (x:Int)(k:Int):Option Int:=if (0:Int)<=(eX .u64 (bD .u64 k) 31) then
 if (0:Int)<=(bD .u64 (32-(eX .u64 (bD .u64 k) 31))) then
 some (Ch .u32 (bD .u32 (x *2^min (sh (eX .u64 (bD .u64 k) 31)) (AI .u32))) (BY x (2^min (sh (bD .u64 (32-(eX .u64 (bD .u64 k) 31)))) (AI .u32))))
 else none
 else none
def cB (x:Int)(k:Int):Option Int:=bd (mI x (bD .i64 (0-k))) λrA=>some rA
def HE (b:List Int):Option Int:=ix b 0 λy=>
 if (0:Int)<=24 then
 ix b 1 λy1=>
 if (0:Int)<=16 then
 ix b 2 λy2=>
 if (0:Int)<=8 then
 ix b 3 λy3=>
 some (Ch .u32 (Ch .u32 (Ch .u32 (bD .u32 ((bD .u32 y) *2^min (sh 24) (AI .u32))) (bD .u32 ((bD .u32 y1) *2^min (sh 16) (AI .u32)))) (bD .u32 ((bD .u32 y2) *2^min (sh 8) (AI .u32)))) (bD .u32 y3))
 else none
 else none
 else none
def jk (b:List Int)(st:(List Int)×Int):Option (((List Int)×Int)⊕(List Int)):=if st.2<16 then
 if (0:Int)<=(bD .i64 (4 *st.2))/\(bD .i64 (4 *st.2))<=(b.length:Int)/\(b.length:Int)<=(b.length:Int) then
 bd (HE (AS (sh (bD .i64 (4 *st.2))) (AT (sh (b.length:Int)) b))) λrA=>
 if (0:Int)<=st.2/\st.2<64 then
 some (.inl (st.1.set (sh st.2) rA,bD .i64 (st.2+1)))
 else none
 else none
 else
 some (.inr st.1)
def jm (aZ:(List Int)×Int):Option (((List Int)×Int)⊕(List Int)):=if aZ.2<64 then
 if (0:Int)<=(bD .i64 (aZ.2-15))/\(bD .i64 (aZ.2-15))<64 then
 if (0:Int)<=(bD .i64 (aZ.2-2))/\(bD .i64 (aZ.2-2))<64 then
 bd (cB (aZ.1.getD (sh (bD .i64 (aZ.2-15))) 0) 7) λaO=>
 bd (cB (aZ.1.getD (sh (bD .i64 (aZ.2-15))) 0) 18) λbK=>
 if (0:Int)<=3 then
 bd (cB (aZ.1.getD (sh (bD .i64 (aZ.2-2))) 0) 17) λgQ=>
 bd (cB (aZ.1.getD (sh (bD .i64 (aZ.2-2))) 0) 19) λn6=>
 if (0:Int)<=10 then
 if (0:Int)<=(bD .i64 (aZ.2-16))/\(bD .i64 (aZ.2-16))<64 then
 if (0:Int)<=(bD .i64 (aZ.2-7))/\(bD .i64 (aZ.2-7))<64 then
 if (0:Int)<=aZ.2/\aZ.2<64 then
 some (.inl (aZ.1.set (sh aZ.2) (bD .u32 ((bD .u32 ((bD .u32 ((aZ.1.getD (sh (bD .i64 (aZ.2-16))) 0)+(ca .u32 (ca .u32 aO bK) (BY (aZ.1.getD (sh (bD .i64 (aZ.2-15))) 0) (2^min (sh 3) (AI .u32))))))+(aZ.1.getD (sh (bD .i64 (aZ.2-7))) 0)))+(ca .u32 (ca .u32 gQ n6) (BY (aZ.1.getD (sh (bD .i64 (aZ.2-2))) 0) (2^min (sh 10) (AI .u32)))))),bD .i64 (aZ.2+1)))
 else none
 else none
 else none
 else none
 else none
 else none
 else none
 else
 some (.inr aZ.1)
def ol (b:List Int):Option (List Int):=bd (Loop (jk b) (zA 62,0)) λw=>
 bd (Loop jm (w,16)) λw3=>
 some w3
def zD:Option (List Int):=some [1116352408,1899447441,3049323471,3921009573,961987163,1508970993,2453635748,2870763221,3624381080,310598401,607225278,1426881987,1925078388,2162078206,2614888103,3248222580,3835390401,4022224774,264347078,604807628,770255983,1249150122,1555081692,1996064986,2554220882,2821834349,2952996808,3210313671,3336571891,3584528711,113926993,338241895,666307205,773529912,1294757372,1396182291,1695183700,1986661051,2177026350,2456956037,2730485921,2820302411,3259730800,3345764771,3516065817,3600352804,4094571909,275423344,430227734,506948616,659060556,883997877,958139571,1322822218,1537002063,1747873779,1955562222,2024104815,2227730452,2361852424,2428436474,2756734187,3204031479,3329325298]
def sD (n:Int)(st:(List Int)×Int):Option (((List Int)×Int)⊕(List Int)):=if (0:Int)<=st.2 then
 if (0:Int)<=(bD .i64 (8 *st.2)) then
 if (st.1.length+([bD .u8 (BY n (2^min (sh (bD .i64 (8 *st.2))) (AI .u64)))]:List Int).length) *1<=2^46 then
 some (.inl (st.1++([bD .u8 (BY n (2^min (sh (bD .i64 (8 *st.2))) (AI .u64)))]:List Int),bD .i64 (st.2-1)))
 else none
 else none
 else
 some (.inr st.1)
def zE (out:List Int)(n:Int)(long:Int):Option (List Int):=bd (Loop (sD n) (out,bD .i64 (long-1))) λw=>some w
def HF (n:Int):Option (List Int):=if !decide ((64:Int)=0) then
 if !decide ((64:Int)=0) then
 if (0:Int)<=(bD .i64 (1+(IN (bD .i64 (119-(IN (imax n 0) 64))) 64)))/\(bD .i64 (1+(IN (bD .i64 (119-(IN (imax n 0) 64))) 64)))<=(bD .i64 ((bD .i64 (1+(IN (bD .i64 (119-(IN (imax n 0) 64))) 64)))+8))/\(bD .i64 ((bD .i64 (1+(IN (bD .i64 (119-(IN (imax n 0) 64))) 64)))+8)) *1<=2^46 then
 ix (ab2 (sh (bD .i64 (1+(IN (bD .i64 (119-(IN (imax n 0) 64))) 64)))) (0:Int)) 0 λy=>
 bd (zE ((ab2 (sh (bD .i64 (1+(IN (bD .i64 (119-(IN (imax n 0) 64))) 64)))) (0:Int)).set (sh 0) 128) (bD .u64 ((bD .u64 (imax n 0)) *8)) 8) λrA=>
 some rA
 else none
 else none
 else none
def Eg:Option (List Int):=some [1779033703,3144134277,1013904242,2773480762,1359893119,2600822924,528734635,1541459225]
def iB (lA:List Int)(st:Int×(List Int)):Option ((Int×(List Int))⊕(List Int)):=if st.1<(lA.length:Int) then
 ix lA st.1 λy=>
 bd (vC st.2 y) λrA=>
 some (.inl (bD .i64 (st.1+1),rA))
 else
 some (.inr st.2)
def cF (w:bM)(lA:List Int):Option (Unit×bM):=bd (Loop (iB lA) (0,w.b)) λw1=>some ((),(⟨w1⟩:bM))
def jZ (lA:List (List UInt8))(st:Int×(List Int)):Option ((Int×(List Int))⊕(List Int)):=if st.1<(lA.length:Int) then
 ix lA st.1 λy=>
 bd (lG st.2 y) λrA=>
 some (.inl (bD .i64 (st.1+1),rA))
 else
 some (.inr st.2)
def ga (w:bM)(lA:List (List UInt8)):Option (Unit×bM):=bd (Loop (jZ lA) (0,w.b)) λw1=>some ((),(⟨w1⟩:bM))
def wM (isA:Bool):Option Int:=if isA then
 some 1
 else
 some 0
def AM (lA:List (List UInt8))(st:(List Int)×Int):Option (((List Int)×Int)⊕(List Int)):=if st.2<(lA.length:Int) then
 ix lA st.2 λy=>
 bd (lG st.1 y) λaO=>
 some (.inl (aO,bD .i64 (st.2+1)))
 else
 some (.inr st.1)
def wN (b:List Int)(lA:List (List UInt8)):Option (List Int):=bd (sw b (bD .u64 (lA.length:Int))) λrA=>
 bd (Loop (AM lA) (rA,0)) λw=>
 some w
def nF (b:List Int)(rA:ah):Option (List Int):=bd (sB b ([rA.Client,rA.Seq,rA.E,rA.Version]:List Int)) λaO=>
 bd (lG aO rA.Value) λbK=>
 bd (wN bK rA.Names) λgQ=>
 some gQ
def qJ (a:aj)(st:(List Int)×Int):Option (((List Int)×Int)⊕(List Int)):=if st.2<(a.Shelf.L.length:Int) then
 ix a.Shelf.L st.2 λy=>
 bd (ga (⟨st.1⟩:bM) ([y.Path,y.Value]:List (List UInt8))) λaO=>
 bd (cF aO.2 ([y.Version,y.dt]:List Int)) λbK=>
 some (.inl (bK.2.b,bD .i64 (st.2+1)))
 else
 some (.inr st.1)
def qK (a:aj)(aZ:(List Int)×Int):Option (((List Int)×Int)⊕(List Int)):=if aZ.2<(a.aE.L.length:Int) then
 ix a.aE.L aZ.2 λy1=>
 bd (cF (⟨aZ.1⟩:bM) ([y1.Id,y1.Span,y1.kG]:List Int)) λn6=>
 some (.inl (n6.2.b,bD .i64 (aZ.2+1)))
 else
 some (.inr aZ.1)
def qL (a:aj)(eG:(List Int)×Int):Option (((List Int)×Int)⊕(List Int)):=if eG.2<(a.aD.L.length:Int) then
 ix a.aD.L eG.2 λy2=>
 bd (ga (⟨eG.1⟩:bM) ([y2.Path]:List (List UInt8))) λn7=>
 bd (wM y2.Kids) λBN=>
 bd (cF n7.2 ([y2.Client,BN]:List Int)) λHz=>
 some (.inl (Hz.2.b,bD .i64 (eG.2+1)))
 else
 some (.inr eG.1)
def qM (a:aj)(mr:(List Int)×Int):Option (((List Int)×Int)⊕(List Int)):=if mr.2<(a.Seen.length:Int) then
 ix a.Seen mr.2 λy3=>
 bd (nF mr.1 y3) λB6=>
 some (.inl (B6,bD .i64 (mr.2+1)))
 else
 some (.inr mr.1)
def wO (a:aj):Option (List Int):=bd (cF (⟨([]:List Int)⟩:bM) ([(a.Shelf.L.length:Int)]:List Int)) λrA=>
 bd (Loop (qJ a) (rA.2.b,0)) λw=>
 bd (cF (⟨w⟩:bM) ([a.aE.eh,(a.aE.L.length:Int)]:List Int)) λgQ=>
 bd (Loop (qK a) (gQ.2.b,0)) λw1=>
 bd (cF (⟨w1⟩:bM) ([(a.aD.L.length:Int)]:List Int)) λrH=>
 bd (Loop (qL a) (rH.2.b,0)) λw2=>
 bd (cF (⟨w2⟩:bM) ([(a.Seen.length:Int)]:List Int)) λQq=>
 bd (Loop (qM a) (Qq.2.b,0)) λw3=>
 some w3
def zF (n:Int)(st:(List Int)):Option ((List Int)⊕(List Int)):=if !decide ((64:Int)=0) then
 if !decide ((IN (bD .i64 ((bD .i64 ((imax n 0)+(st.length:Int)))+8)) 64)=0) then
 if (st.length+([0]:List Int).length) *1<=2^46 then
 some (.inl (st++([0]:List Int)))
 else none
 else
 some (.inr st)
 else none
def Js (n:Int)(aZ:(List Int)×Int):Option (((List Int)×Int)⊕(List Int)):=if (0:Int)<=aZ.2 then
 if (0:Int)<=(bD .i64 (8 *aZ.2)) then
 if (aZ.1.length+([bD .u8 (BY (bD .u64 ((bD .u64 (imax n 0)) *8)) (2^min (sh (bD .i64 (8 *aZ.2))) (AI .u64)))]:List Int).length) *1<=2^46 then
 some (.inl (aZ.1++([bD .u8 (BY (bD .u64 ((bD .u64 (imax n 0)) *8)) (2^min (sh (bD .i64 (8 *aZ.2))) (AI .u64)))]:List Int),bD .i64 (aZ.2-1)))
 else none
 else none
 else
 some (.inr aZ.1)
def HG (n:Int):Option (List Int):=bd (Loop (zF n) ([128]:List Int)) λw=>
 bd (Loop (Js n) (w,7)) λw1=>
 some w1
def b9 (x:Int)(k:Int):Option Int:=if (0:Int)<=k then
 if (0:Int)<=(bD .i64 (32-k)) then
 some (Ch .u32 (BY x (2^min (sh k) (AI .u32))) (bD .u32 (x *2^min (sh (bD .i64 (32-k))) (AI .u32))))
 else none
 else none
def kP (a:List Int)(st:(List Int)×Int):Option (((List Int)×Int)⊕(List Int)):=if st.2<16 then
 ix a (bD .i64 (4 *st.2)) λy=>
 if (0:Int)<=24 then
 ix a (bD .i64 ((bD .i64 (4 *st.2))+1)) λy1=>
 if (0:Int)<=16 then
 ix a (bD .i64 ((bD .i64 (4 *st.2))+2)) λy2=>
 if (0:Int)<=8 then
 ix a (bD .i64 ((bD .i64 (4 *st.2))+3)) λy3=>
 if (0:Int)<=st.2/\st.2<64 then
 some (.inl (st.1.set (sh st.2) (Ch .u32 (Ch .u32 (Ch .u32 (bD .u32 ((bD .u32 y) *2^min (sh 24) (AI .u32))) (bD .u32 ((bD .u32 y1) *2^min (sh 16) (AI .u32)))) (bD .u32 ((bD .u32 y2) *2^min (sh 8) (AI .u32)))) (bD .u32 y3)),bD .i64 (st.2+1)))
 else none
 else none
 else none
 else none
 else
 some (.inr st.1)
def kQ (aZ:(List Int)×Int):Option (((List Int)×Int)⊕(List Int)):=if aZ.2<64 then
 if (0:Int)<=(bD .i64 (aZ.2-15))/\(bD .i64 (aZ.2-15))<64 then
 if (0:Int)<=(bD .i64 (aZ.2-2))/\(bD .i64 (aZ.2-2))<64 then
 bd (b9 (aZ.1.getD (sh (bD .i64 (aZ.2-15))) 0) 7) λrA=>
 bd (b9 (aZ.1.getD (sh (bD .i64 (aZ.2-15))) 0) 18) λaO=>
 if (0:Int)<=3 then
 bd (b9 (aZ.1.getD (sh (bD .i64 (aZ.2-2))) 0) 17) λbK=>
 bd (b9 (aZ.1.getD (sh (bD .i64 (aZ.2-2))) 0) 19) λgQ=>
 if (0:Int)<=10 then
 if (0:Int)<=(bD .i64 (aZ.2-7))/\(bD .i64 (aZ.2-7))<64 then
 if (0:Int)<=(bD .i64 (aZ.2-16))/\(bD .i64 (aZ.2-16))<64 then
 if (0:Int)<=aZ.2/\aZ.2<64 then
 some (.inl (aZ.1.set (sh aZ.2) (bD .u32 ((bD .u32 ((bD .u32 ((ca .u32 (ca .u32 bK gQ) (BY (aZ.1.getD (sh (bD .i64 (aZ.2-2))) 0) (2^min (sh 10) (AI .u32))))+(aZ.1.getD (sh (bD .i64 (aZ.2-7))) 0)))+(ca .u32 (ca .u32 rA aO) (BY (aZ.1.getD (sh (bD .i64 (aZ.2-15))) 0) (2^min (sh 3) (AI .u32))))))+(aZ.1.getD (sh (bD .i64 (aZ.2-16))) 0))),bD .i64 (aZ.2+1)))
 else none
 else none
 else none
 else none
 else none
 else none
 else none
 else
 some (.inr aZ.1)
def qN (a:List Int):Option ((List Int)×Int):=if !decide ((a.length:Int)=64) then
 some (zA 62,1)
 else
 bd (Loop (kP a) (zA 62,0)) λw=>
 bd (Loop kQ (w,16)) λw1=>
 some (w1,0)
def AN:Option (List Int):=some [1116352408,1899447441,3049323471,3921009573,961987163,1508970993,2453635748,2870763221,3624381080,310598401,607225278,1426881987,1925078388,2162078206,2614888103,3248222580,3835390401,4022224774,264347078,604807628,770255983,1249150122,1555081692,1996064986,2554220882,2821834349,2952996808,3210313671,3336571891,3584528711,113926993,338241895,666307205,773529912,1294757372,1396182291,1695183700,1986661051,2177026350,2456956037,2730485921,2820302411,3259730800,3345764771,3516065817,3600352804,4094571909,275423344,430227734,506948616,659060556,883997877,958139571,1322822218,1537002063,1747873779,1955562222,2024104815,2227730452,2361852424,2428436474,2756734187,3204031479,3329325298]
def nG (rA:(List Int)×Int)(aO:(List Int))(st:(List Int)×Int):Option (((List Int)×Int)⊕(List Int)):=if st.2<64 then
 if (0:Int)<=0/\(0:Int)<8 then
 if (0:Int)<=4/\(4:Int)<8 then
 if (0:Int)<=6/\(6:Int)<8 then
 bd (b9 (st.1.getD (sh 4) 0) 6) λbK=>
 bd (b9 (st.1.getD (sh 4) 0) 11) λgQ=>
 bd (b9 (st.1.getD (sh 4) 0) 25) λn6=>
 if (0:Int)<=7/\(7:Int)<8 then
 if (0:Int)<=5/\(5:Int)<8 then
 if (0:Int)<=st.2/\st.2<64 then
 if (0:Int)<=st.2/\st.2<64 then
 bd (b9 (st.1.getD (sh 0) 0) 2) λrH=>
 bd (b9 (st.1.getD (sh 0) 0) 13) λn7=>
 bd (b9 (st.1.getD (sh 0) 0) 22) λBN=>
 if (0:Int)<=1/\(1:Int)<8 then
 if (0:Int)<=2/\(2:Int)<8 then
 if (0:Int)<=1/\(1:Int)<8 then
 if (0:Int)<=2/\(2:Int)<8 then
 if (0:Int)<=0/\(0:Int)<8 then
 if (0:Int)<=1/\(1:Int)<8 then
 if (0:Int)<=2/\(2:Int)<8 then
 if (0:Int)<=3/\(3:Int)<8 then
 if (0:Int)<=4/\(4:Int)<8 then
 if (0:Int)<=5/\(5:Int)<8 then
 if (0:Int)<=6/\(6:Int)<8 then
 some (.inl ([(bD .u32 ((bD .u32 ((bD .u32 ((bD .u32 ((bD .u32 ((st.1.getD (sh 7) 0)+(ca .u32 (ca .u32 bK gQ) n6)))+(Ch .u32 (eX .u32 (st.1.getD (sh 4) 0) (st.1.getD (sh 5) 0)) (eX .u32 (ca .u32 (st.1.getD (sh 4) 0) 4294967295) (st.1.getD (sh 6) 0)))))+(aO.getD (sh st.2) 0)))+(rA.1.getD (sh st.2) 0)))+(bD .u32 ((ca .u32 (ca .u32 rH n7) BN)+(Ch .u32 (Ch .u32 (eX .u32 (st.1.getD (sh 0) 0) (st.1.getD (sh 1) 0)) (eX .u32 (st.1.getD (sh 0) 0) (st.1.getD (sh 2) 0))) (eX .u32 (st.1.getD (sh 1) 0) (st.1.getD (sh 2) 0))))))),(st.1.getD (sh 0) 0),(st.1.getD (sh 1) 0),(st.1.getD (sh 2) 0),(bD .u32 ((st.1.getD (sh 3) 0)+(bD .u32 ((bD .u32 ((bD .u32 ((bD .u32 ((st.1.getD (sh 7) 0)+(ca .u32 (ca .u32 bK gQ) n6)))+(Ch .u32 (eX .u32 (st.1.getD (sh 4) 0) (st.1.getD (sh 5) 0)) (eX .u32 (ca .u32 (st.1.getD (sh 4) 0) 4294967295) (st.1.getD (sh 6) 0)))))+(aO.getD (sh st.2) 0)))+(rA.1.getD (sh st.2) 0))))),(st.1.getD (sh 4) 0),(st.1.getD (sh 5) 0),(st.1.getD (sh 6) 0)],bD .i64 (st.2+1)))
 else none
 else none
 else none
 else none
 else none
 else none
 else none
 else none
 else none
 else none
 else none
 else none
 else none
 else none
 else none
 else none
 else none
 else none
 else
 some (.inr st.1)
def CZ (a:List Int)(aZ:(List Int)×Int):Option (((List Int)×Int)⊕(List Int)):=if aZ.2<8 then
 if (0:Int)<=aZ.2/\aZ.2<8 then
 if (0:Int)<=aZ.2/\aZ.2<8 then
 if (0:Int)<=aZ.2/\aZ.2<8 then
 some (.inl (aZ.1.set (sh aZ.2) (bD .u32 ((aZ.1.getD (sh aZ.2) 0)+(a.getD (sh aZ.2) 0))),bD .i64 (aZ.2+1)))
 else none
 else none
 else none
 else
 some (.inr aZ.1)
def sE (a:List Int)(a1:List Int):Option ((List Int)×Int):=bd (qN a1) λrA=>
 if !decide (rA.2=0) then
 some (zA 6,rA.2)
 else
 bd (AN) λaO=>
 bd (Loop (nG rA aO) (a,0)) λw=>
 bd (Loop (CZ a) (w,0)) λw1=>
 some (w1,0)
def sF (b:List Int)(rA:(List Int))(st:(List Int)×Int):Option (((List Int)×Int)⊕(List Int)):=if st.2<(((([]:List Int)++b)++rA).length:Int) then
 if (0:Int)<=st.2/\st.2<=(bD .i64 (st.2+64))/\(bD .i64 (st.2+64))<=(((([]:List Int)++b)++rA).length:Int) then
 bd (sE st.1 (AS (sh st.2) (AT (sh (bD .i64 (st.2+64))) ((([]:List Int)++b)++rA)))) λaO=>
 some (.inl (aO.1,bD .i64 (st.2+64)))
 else none
 else
 some (.inr st.1)
def Eh (w:(List Int))(aZ:(List Int)×Int):Option (((List Int)×Int)⊕(List Int)):=if aZ.2<32 then
 if !decide ((4:Int)=0) then
 if (0:Int)<=(bD .i64 (ac4 aZ.2 4))/\(bD .i64 (ac4 aZ.2 4))<8 then
 if !decide ((4:Int)=0) then
 if (0:Int)<=(bD .i64 (24-(bD .i64 (8 *(IN aZ.2 4))))) then
 if (0:Int)<=aZ.2/\aZ.2<32 then
 some (.inl (aZ.1.set (sh aZ.2) (bD .u8 (BY (w.getD (sh (bD .i64 (ac4 aZ.2 4))) 0) (2^min (sh (bD .i64 (24-(bD .i64 (8 *(IN aZ.2 4)))))) (AI .u32)))),bD .i64 (aZ.2+1)))
 else none
 else none
 else none
 else none
 else none
 else
 some (.inr aZ.1)
def HH (b:List Int):Option afO:=if (([]:List Int).length+b.length) *1<=2^46 then
 bd (HG (b.length:Int)) λrA=>
 if ((([]:List Int)++b).length+rA.length) *1<=2^46 then
 bd (Loop (sF b rA) ([1779033703,3144134277,1013904242,2773480762,1359893119,2600822924,528734635,1541459225],0)) λw=>
 bd (Loop (Eh w) (zA 30,0)) λw1=>
 some w1
 else none
 else none
def AO (st:Int×Int):Option ((Int×Int)⊕Int):=if (0:Int)<st.1 then
 if !decide ((256:Int)=0) then
 some (.inl (bD .u64 (ac4 st.1 256),bD .i64 (st.2+1)))
 else none
 else
 some (.inr st.2)
def C0 (n:Int):Option Int:=bd (Loop AO (n,1)) λw=>some w
def Ei (st:(List Int)×Int)(aZ:Int×Int):Option ((Int×Int)⊕Int):=if aZ.2<st.2 then
 if !decide ((256:Int)=0) then
 some (.inl (bD .u64 (ac4 aZ.1 256),bD .i64 (aZ.2+1)))
 else none
 else
 some (.inr aZ.1)
def zG (n:Int)(st:(List Int)×Int):Option (((List Int)×Int)⊕(List Int)):=if (0:Int)<=st.2 then
 bd (Loop (Ei st) (n,0)) λw1=>
 if !decide ((256:Int)=0) then
 if (st.1.length+([bD .u8 (IN w1 256)]:List Int).length) *1<=2^46 then
 some (.inl (st.1++([bD .u8 (IN w1 256)]:List Int),bD .i64 (st.2-1)))
 else none
 else none
 else
 some (.inr st.1)
def yg (b:List Int)(n:Int):Option (List Int):=if (([]:List Int).length+b.length) *1<=2^46 then
 bd (C0 n) λrA=>
 if ((([]:List Int)++b).length+([bD .u8 (bD .i64 (rA-1))]:List Int).length) *1<=2^46 then
 bd (Loop (zG n) ((([]:List Int)++b)++([bD .u8 (bD .i64 (rA-1))]:List Int),bD .i64 ((bD .i64 (rA-1))-1))) λw=>
 some w
 else none
 else none
def jz (b:List Int)(n:Int):Option (List Int):=if n<0 then
 bd (yg b (bD .u64 ((bD .u64 (2 *(bD .u64 (bD .i64 (0-(bD .i64 (n+1)))))))+1))) λrA=>
 some rA
 else
 bd (yg b (bD .u64 (2 *(bD .u64 n)))) λaO=>
 some aO
def qO (b:List Int)(sA:List UInt8):Option (List Int):=bd (yg b (bD .u64 (sA.length:Int))) λrA=>
 if (rA.length+(sq sA).length) *1<=2^46 then
 some (rA++(sq sA))
 else none
def F4 (lA:List (List UInt8))(st:(List Int)×Int):Option (((List Int)×Int)⊕(List Int)):=if st.2<(lA.length:Int) then
 ix lA st.2 λy=>
 bd (qO st.1 y) λaO=>
 some (.inl (aO,bD .i64 (st.2+1)))
 else
 some (.inr st.1)
def C1 (b:List Int)(lA:List (List UInt8)):Option (List Int):=bd (yg b (bD .u64 (lA.length:Int))) λrA=>
 bd (Loop (F4 lA) (rA,0)) λw=>
 some w
def nH (rA:ay)(st:(List Int)×Int):Option (((List Int)×Int)⊕(List Int)):=if st.2<(([rA.Client,rA.Seq,rA.E,rA.Version]:List Int).length:Int) then
 ix ([rA.Client,rA.Seq,rA.E,rA.Version]:List Int) st.2 λy=>
 bd (jz st.1 y) λaO=>
 some (.inl (aO,bD .i64 (st.2+1)))
 else
 some (.inr st.1)
def qQ (b:List Int)(rA:ay):Option (List Int):=bd (Loop (nH rA) (b,0)) λw=>
 bd (qO w rA.Value) λbK=>
 bd (C1 bK rA.Names) λgQ=>
 some gQ
def AP (a:bu)(st:(List Int)×Int):Option (((List Int)×Int)⊕(List Int)):=if st.2<(a.Shelf.L.length:Int) then
 ix a.Shelf.L st.2 λy=>
 bd (qO st.1 y.Path) λaO=>
 bd (qO aO y.Value) λbK=>
 bd (jz bK y.Version) λgQ=>
 bd (jz gQ y.dt) λn6=>
 some (.inl (n6,bD .i64 (st.2+1)))
 else
 some (.inr st.1)
def AQ (a:bu)(aZ:(List Int)×Int):Option (((List Int)×Int)⊕(List Int)):=if aZ.2<(a.aE.L.length:Int) then
 ix a.aE.L aZ.2 λy1=>
 bd (jz aZ.1 y1.Id) λBN=>
 bd (jz BN y1.Span) λHz=>
 bd (jz Hz y1.kG) λQq=>
 some (.inl (Qq,bD .i64 (aZ.2+1)))
 else
 some (.inr aZ.1)
def AR (a:bu)(eG:(List Int)×Int):Option (((List Int)×Int)⊕(List Int)):=if eG.2<(a.aD.L.length:Int) then
 ix a.aD.L eG.2 λy2=>
 bd (qO eG.1 y2.Path) λUm=>
 bd (jz Um y2.Client) λQN=>
 bd (if y2.Kids then
  bd (jz QN 1) λUn=>
  some Un
  else
  bd (jz QN 0) λXt=>
  some Xt:Option (List Int)) λw3=>
 some (.inl (w3,bD .i64 (eG.2+1)))
 else
 some (.inr eG.1)
def AU (a:bu)(mr:(List Int)×Int):Option (((List Int)×Int)⊕(List Int)):=if mr.2<(a.Seen.length:Int) then
 ix a.Seen mr.2 λy3=>
 bd (qQ mr.1 y3) λad8=>
 some (.inl (ad8,bD .i64 (mr.2+1)))
 else
 some (.inr mr.1)
def C2 (a:bu):Option (List Int):=bd (jz ([]:List Int) (a.Shelf.L.length:Int)) λrA=>
 bd (Loop (AP a) (rA,0)) λw=>
 bd (jz w a.aE.eh) λrH=>
 bd (jz rH (a.aE.L.length:Int)) λn7=>
 bd (Loop (AQ a) (n7,0)) λw1=>
 bd (jz w1 (a.aD.L.length:Int)) λB6=>
 bd (Loop (AR a) (B6,0)) λw2=>
 bd (jz w2 (a.Seen.length:Int)) λad9=>
 bd (Loop (AU a) (ad9,0)) λw4=>
 some w4
def wP (rA:bu):Option afO:=bd (C2 rA) λaO=>
 bd (HH aO) λbK=>
 some bK
abbrev acm:=Int×Int×Int×Int×Int×Int×Int×Int×Int
abbrev ack:=Int×Int×Int×Int×Int×Int×Int×Int
def AV (rA:(List Int))(aO:(List Int))(st:acm):Option ((acm)⊕(ack)):=if st.2.2.2.2.2.2.2.2<64 then
 if (0:Int)<=st.2.2.2.2.2.2.2.2/\st.2.2.2.2.2.2.2.2<64 then
 if (0:Int)<=st.2.2.2.2.2.2.2.2/\st.2.2.2.2.2.2.2.2<64 then
 bd (cB st.2.2.2.2.1 6) λbK=>
 bd (cB st.2.2.2.2.1 11) λgQ=>
 bd (cB st.2.2.2.2.1 25) λn6=>
 bd (cB st.1 2) λrH=>
 bd (cB st.1 13) λn7=>
 bd (cB st.1 22) λBN=>
 some (.inl (bD .u32 ((bD .u32 ((bD .u32 ((bD .u32 ((bD .u32 (st.2.2.2.2.2.2.2.1+(ca .u32 (ca .u32 bK gQ) n6)))+(ca .u32 st.2.2.2.2.2.2.1 (eX .u32 st.2.2.2.2.1 (ca .u32 st.2.2.2.2.2.1 st.2.2.2.2.2.2.1)))))+(aO.getD (sh st.2.2.2.2.2.2.2.2) 0)))+(rA.getD (sh st.2.2.2.2.2.2.2.2) 0)))+(bD .u32 ((ca .u32 (ca .u32 rH n7) BN)+(ca .u32 (ca .u32 (eX .u32 st.1 st.2.1) (eX .u32 st.1 st.2.2.1)) (eX .u32 st.2.1 st.2.2.1))))),st.1,st.2.1,st.2.2.1,bD .u32 (st.2.2.2.1+(bD .u32 ((bD .u32 ((bD .u32 ((bD .u32 (st.2.2.2.2.2.2.2.1+(ca .u32 (ca .u32 bK gQ) n6)))+(ca .u32 st.2.2.2.2.2.2.1 (eX .u32 st.2.2.2.2.1 (ca .u32 st.2.2.2.2.2.1 st.2.2.2.2.2.2.1)))))+(aO.getD (sh st.2.2.2.2.2.2.2.2) 0)))+(rA.getD (sh st.2.2.2.2.2.2.2.2) 0)))),st.2.2.2.2.1,st.2.2.2.2.2.1,st.2.2.2.2.2.2.1,bD .i64 (st.2.2.2.2.2.2.2.2+1)))
 else none
 else none
 else
 some (.inr (st.1,st.2.1,st.2.2.1,st.2.2.2.1,st.2.2.2.2.1,st.2.2.2.2.2.1,st.2.2.2.2.2.2.1,st.2.2.2.2.2.2.2.1))
abbrev adP:=Int×(List Int)×(List Int)×Int
def AW (w:ack)(aZ:adP):Option ((adP)⊕(abW)):=if aZ.1<8 then
 if (0:Int)<=aZ.1/\aZ.1<8 then
 if (0:Int)<=aZ.1/\aZ.1<8 then
 if (0:Int)<=aZ.1/\aZ.1<8 then
 some (.inl (bD .i64 (aZ.1+1),aZ.2.1.set (sh aZ.1) (bD .u32 ((aZ.2.1.getD (sh aZ.1) 0)+([w.1,w.2.1,w.2.2.1,w.2.2.2.1,w.2.2.2.2.1,w.2.2.2.2.2.1,w.2.2.2.2.2.2.1,w.2.2.2.2.2.2.2].getD (sh aZ.1) 0))),aZ.2.2.1,aZ.2.2.2))
 else none
 else none
 else none
 else
 some (.inr (aZ.2.1,aZ.2.2.1,aZ.2.2.2))
def sG (a:kv)(a1:List Int):Option (Unit×kv):=bd (ol a1) λrA=>
 bd (zD) λaO=>
 if (0:Int)<=0/\(0:Int)<8 then
 if (0:Int)<=1/\(1:Int)<8 then
 if (0:Int)<=2/\(2:Int)<8 then
 if (0:Int)<=3/\(3:Int)<8 then
 if (0:Int)<=4/\(4:Int)<8 then
 if (0:Int)<=5/\(5:Int)<8 then
 if (0:Int)<=6/\(6:Int)<8 then
 if (0:Int)<=7/\(7:Int)<8 then
 bd (Loop (AV rA aO) (a.state.getD (sh 0) 0,a.state.getD (sh 1) 0,a.state.getD (sh 2) 0,a.state.getD (sh 3) 0,a.state.getD (sh 4) 0,a.state.getD (sh 5) 0,a.state.getD (sh 6) 0,a.state.getD (sh 7) 0,0)) λw=>
 bd (Loop (AW w) (0,a.state,a.left,a.long)) λw1=>
 some ((),(⟨w1.1,w1.2.1,w1.2.2⟩:kv))
 else none
 else none
 else none
 else none
 else none
 else none
 else none
 else none
def kR (st:abW):Option ((abW)⊕(abW)):=if (64:Int)<=(st.2.1.length:Int) then
 if (0:Int)<=0/\(0:Int)<=64/\(64:Int)<=(st.2.1.length:Int) then
 bd (sG (⟨st.1,st.2.1,st.2.2⟩:kv) (AS (sh 0) (AT (sh 64) st.2.1))) λrA=>
 if (0:Int)<=64/\(64:Int)<=(rA.2.left.length:Int)/\(rA.2.left.length:Int)<=(rA.2.left.length:Int) then
 some (.inl (rA.2.state,AS (sh 64) (AT (sh (rA.2.left.length:Int)) rA.2.left),rA.2.long))
 else none
 else none
 else
 some (.inr (st.1,st.2.1,st.2.2))
def nI (sA:kv)(b:List Int):Option (Unit×kv):=if (sA.left.length+b.length) *1<=2^46 then
 bd (Loop kR (sA.state,sA.left++b,bD .i64 (sA.long+(b.length:Int)))) λw=>
 some ((),(⟨w.1,w.2.1,w.2.2⟩:kv))
 else none
def iT (rA:(List Int))(aO:(List Int))(st:acm):Option ((acm)⊕(ack)):=if st.2.2.2.2.2.2.2.2<64 then
 if (0:Int)<=st.2.2.2.2.2.2.2.2/\st.2.2.2.2.2.2.2.2<64 then
 if (0:Int)<=st.2.2.2.2.2.2.2.2/\st.2.2.2.2.2.2.2.2<64 then
 bd (cB st.2.2.2.2.1 6) λbK=>
 bd (cB st.2.2.2.2.1 11) λgQ=>
 bd (cB st.2.2.2.2.1 25) λn6=>
 bd (cB st.1 2) λrH=>
 bd (cB st.1 13) λn7=>
 bd (cB st.1 22) λBN=>
 some (.inl (bD .u32 ((bD .u32 ((bD .u32 ((bD .u32 ((bD .u32 (st.2.2.2.2.2.2.2.1+(ca .u32 (ca .u32 bK gQ) n6)))+(ca .u32 st.2.2.2.2.2.2.1 (eX .u32 st.2.2.2.2.1 (ca .u32 st.2.2.2.2.2.1 st.2.2.2.2.2.2.1)))))+(aO.getD (sh st.2.2.2.2.2.2.2.2) 0)))+(rA.getD (sh st.2.2.2.2.2.2.2.2) 0)))+(bD .u32 ((ca .u32 (ca .u32 rH n7) BN)+(ca .u32 (ca .u32 (eX .u32 st.1 st.2.1) (eX .u32 st.1 st.2.2.1)) (eX .u32 st.2.1 st.2.2.1))))),st.1,st.2.1,st.2.2.1,bD .u32 (st.2.2.2.1+(bD .u32 ((bD .u32 ((bD .u32 ((bD .u32 (st.2.2.2.2.2.2.2.1+(ca .u32 (ca .u32 bK gQ) n6)))+(ca .u32 st.2.2.2.2.2.2.1 (eX .u32 st.2.2.2.2.1 (ca .u32 st.2.2.2.2.2.1 st.2.2.2.2.2.2.1)))))+(aO.getD (sh st.2.2.2.2.2.2.2.2) 0)))+(rA.getD (sh st.2.2.2.2.2.2.2.2) 0)))),st.2.2.2.2.1,st.2.2.2.2.2.1,st.2.2.2.2.2.2.1,bD .i64 (st.2.2.2.2.2.2.2.2+1)))
 else none
 else none
 else
 some (.inr (st.1,st.2.1,st.2.2.1,st.2.2.2.1,st.2.2.2.2.1,st.2.2.2.2.2.1,st.2.2.2.2.2.2.1,st.2.2.2.2.2.2.2.1))
def C3 (w:ack)(aZ:Int×(List Int)):Option ((Int×(List Int))⊕(List Int)):=if aZ.1<8 then
 if (0:Int)<=aZ.1/\aZ.1<8 then
 if (0:Int)<=aZ.1/\aZ.1<8 then
 if (0:Int)<=aZ.1/\aZ.1<8 then
 some (.inl (bD .i64 (aZ.1+1),aZ.2.set (sh aZ.1) (bD .u32 ((aZ.2.getD (sh aZ.1) 0)+([w.1,w.2.1,w.2.2.1,w.2.2.2.1,w.2.2.2.2.1,w.2.2.2.2.2.1,w.2.2.2.2.2.2.1,w.2.2.2.2.2.2.2].getD (sh aZ.1) 0)))))
 else none
 else none
 else none
 else
 some (.inr aZ.2)
def vF (a:List Int)(a1:List Int):Option (Unit×(List Int)):=bd (ol a1) λrA=>
 bd (zD) λaO=>
 if (0:Int)<=0/\(0:Int)<8 then
 if (0:Int)<=1/\(1:Int)<8 then
 if (0:Int)<=2/\(2:Int)<8 then
 if (0:Int)<=3/\(3:Int)<8 then
 if (0:Int)<=4/\(4:Int)<8 then
 if (0:Int)<=5/\(5:Int)<8 then
 if (0:Int)<=6/\(6:Int)<8 then
 if (0:Int)<=7/\(7:Int)<8 then
 bd (Loop (iT rA aO) (a.getD (sh 0) 0,a.getD (sh 1) 0,a.getD (sh 2) 0,a.getD (sh 3) 0,a.getD (sh 4) 0,a.getD (sh 5) 0,a.getD (sh 6) 0,a.getD (sh 7) 0,0)) λw=>
 bd (Loop (C3 w) (0,a)) λw1=>
 some ((),w1)
 else none
 else none
 else none
 else none
 else none
 else none
 else none
 else none
def nJ (st:(List Int)×(List Int)):Option (((List Int)×(List Int))⊕(List Int)):=if (0:Int)<(st.2.length:Int) then
 if (0:Int)<=0/\(0:Int)<=64/\(64:Int)<=(st.2.length:Int) then
 bd (vF st.1 (AS (sh 0) (AT (sh 64) st.2))) λaO=>
 if (0:Int)<=64/\(64:Int)<=(st.2.length:Int)/\(st.2.length:Int)<=(st.2.length:Int) then
 some (.inl (aO.2,AS (sh 64) (AT (sh (st.2.length:Int)) st.2)))
 else none
 else none
 else
 some (.inr st.1)
def kS (w:(List Int))(aZ:(List Int)×Int):Option (((List Int)×Int)⊕(List Int)):=if aZ.2<8 then
 if (0:Int)<=aZ.2/\aZ.2<8 then
 bd (zE aZ.1 (bD .u64 (w.getD (sh aZ.2) 0)) 4) λbK=>
 some (.inl (bK,bD .i64 (aZ.2+1)))
 else none
 else
 some (.inr aZ.1)
def vf (sA:kv):Option (afO×kv):=if (sA.left.length:Int)=(sA.left.length:Int)/\(sA.left.length:Int)=(sA.left.length:Int) then
 bd (HF sA.long) λrA=>
 if 0<rA.length/\(sA.left.length+rA.length) *1<=2^46 then
 bd (Loop nJ (sA.state,sA.left++rA)) λw=>
 bd (Loop (kS w) (([]:List Int),0)) λw1=>
 if 32<=w1.length then
 some (w1.take 32,sA)
 else none
 else none
 else none
def HI (b:List Int):Option afO:=bd Eg λs=>
 bd (nI ⟨s,[],0⟩ b) λr=>
 bd (vf r.2) λq=>some q.1
def qR (rA:aj):Option afO:=bd (wO rA) λaO=>
 bd (HI aO) λbK=>
 some bK
def kT (Hz:aj×(List ah)×Int)(Qq:bu×(List ay)×Int)(st:Int):Option (Int⊕(Unit⊕Bool)):=if st<(Hz.2.1.length:Int) then
 ix Hz.2.1 st λy=>
 ix Hz.2.1 st λy1=>
 ix Hz.2.1 st λy2=>
 ix Hz.2.1 st λy3=>
 ix Hz.2.1 st λy4=>
 ix Hz.2.1 st λy5=>
 ix Qq.2.1 st λy6=>
 bd (CY (⟨y.Client,y1.Seq,y2.E,y3.Value,y4.Version,y5.Names⟩:ay) y6) λad9=>
 if !ad9 then
 some (.inr (.inr false))
 else
 some (.inl (bD .i64 (st+1)))
 else
 some (.inr (.inl ()))
def nK (a:List aa)(a1:List aa)(a2:List UInt8):Option Bool:=bd (bd (zk a) λrA=>
  if !rA then
  some true
  else
  bd (zk a1) λaO=>
  if !aO then
  some true
  else
  some (decide ((6000:Int)<(a2.length:Int))):Option Bool) λw=>
 if w then
 bd (zn) λbK=>
 some bK
 else
 bd (D9) λgQ=>
 bd (wo gQ a) λn6=>
 bd (Mn) λrH=>
 bd (yf a) λn7=>
 bd (CW rH n7) λBN=>
 bd (pY n6.1 a2) λHz=>
 bd (vE BN.1 a2) λQq=>
 bd (if !decide (Hz.2.2=Qq.2.2) then
  some true
  else
  if !decide ((Hz.2.1.length:Int)=(Qq.2.1.length:Int)) then
  some true
  else
  bd (oZ n6.1 a1) λB6=>
  bd (yf B6) λUm=>
  bd (yf a1) λQN=>
  bd (ua BN.1 QN) λUn=>
  bd (zB Um Un) λXt=>
  some (!Xt):Option Bool) λw1=>
 if w1 then
 some false
 else
 bd (Loop (kT Hz Qq) 0) λw2=>
 match w2 with
 | .inl p1=>
  bd (bd (zn) λad8=>
   if ad8 then
   bd (qR Hz.1) λamw=>
   bd (wP Qq.1) λamx=>
   some (decide (amw=amx))
   else
   some false:Option Bool) λw3=>
  some w3
 | .inr p2=>some p2
def kU:iz Tryz.prog (vW KV):=Tz abs
def K4:Wh Tryz.prog (vW KV):=adE abs
def qT:Tryz.prog.follows .mixedOrders=true:=abs
def oIB {R:Type}(k0:IntKind)(l0:List MV)(K:Int->Bool->Option R):Option R:=gC l0 λm0 l1=>gI k0 m0 λx0=>gC l1 λm1 l2=>gB m1 λx1=>gN l2<|K x0 x1
def oII {R:Type}(k0 k1:IntKind)(l0:List MV)(K:Int->Int->Option R):Option R:=gC l0 λm0 l1=>gI k0 m0 λx0=>gC l1 λm1 l2=>gI k1 m1 λx1=>gN l2<|K x0 x1
def aea {R:Type}(k0 k1 k2:IntKind)(l0:List MV)(K:Int->Int->Int->Option R):Option R:=gC l0 λm0 l1=>gI k0 m0 λx0=>gC l1 λm1 l2=>gI k1 m1 λx1=>gC l2 λm2 l3=>gI k2 m2 λx2=>gN l3<|K x0 x1 x2
def Mo {R:Type}(k0 k1 k2 k4:IntKind)(l0:List MV)(K:Int->Int->Int->List UInt8->Int->List MV->Option R):Option R:=gC l0 λm0 l1=>gI k0 m0 λx0=>gC l1 λm1 l2=>gI k1 m1 λx1=>gC l2 λm2 l3=>gI k2 m2 λx2=>gC l3 λm3 l4=>gS m3 λx3=>gC l4 λm4 l5=>gI k4 m4 λx4=>gC l5 λm5 l6=>gL m5 λx5=>gN l6<|K x0 x1 x2 x3 x4 x5
def Sh {R:Type}(k0 k1 k2 k5 k6 k7:IntKind)(l0:List MV)(K:Int->Int->Int->List UInt8->List UInt8->Int->Int->Int->Option R):Option R:=gC l0 λm0 l1=>gI k0 m0 λx0=>gC l1 λm1 l2=>gI k1 m1 λx1=>gC l2 λm2 l3=>gI k2 m2 λx2=>gC l3 λm3 l4=>gS m3 λx3=>gC l4 λm4 l5=>gS m4 λx4=>gC l5 λm5 l6=>gI k5 m5 λx5=>gC l6 λm6 l7=>gI k6 m6 λx6=>gC l7 λm7 l8=>gI k7 m7 λx7=>gN l8<|K x0 x1 x2 x3 x4 x5 x6 x7
def oIL {R:Type}(k0:IntKind)(l0:List MV)(K:Int->List MV->Option R):Option R:=gC l0 λm0 l1=>gI k0 m0 λx0=>gC l1 λm1 l2=>gL m1 λx1=>gN l2<|K x0 x1
def arj {R:Type}(k0 k2:IntKind)(l0:List MV)(K:Int->List MV->Int->Option R):Option R:=gC l0 λm0 l1=>gI k0 m0 λx0=>gC l1 λm1 l2=>gL m1 λx1=>gC l2 λm2 l3=>gI k2 m2 λx2=>gN l3<|K x0 x1 x2
def oLI {R:Type}(k1:IntKind)(l0:List MV)(K:List MV->Int->Option R):Option R:=gC l0 λm0 l1=>gL m0 λx0=>gC l1 λm1 l2=>gI k1 m1 λx1=>gN l2<|K x0 x1
def ail {R:Type}(k1:IntKind)(l0:List MV)(K:List MV->Int->List MV->List MV->List MV->Option R):Option R:=gC l0 λm0 l1=>gL m0 λx0=>gC l1 λm1 l2=>gI k1 m1 λx1=>gC l2 λm2 l3=>gL m2 λx2=>gC l3 λm3 l4=>gL m3 λx3=>gC l4 λm4 l5=>gL m4 λx4=>gN l5<|K x0 x1 x2 x3 x4
def o4 {R:Type}(k1 k5 k6 k7 k9 k11:IntKind)(l0:List MV)(K:List MV->Int->List MV->List MV->List MV->Int->Int->Int->List UInt8->Int->List MV->Int->Option R):Option R:=gC l0 λm0 l1=>gL m0 λx0=>gC l1 λm1 l2=>gI k1 m1 λx1=>gC l2 λm2 l3=>gL m2 λx2=>gC l3 λm3 l4=>gL m3 λx3=>gC l4 λm4 l5=>gL m4 λx4=>gC l5 λm5 l6=>gI k5 m5 λx5=>gC l6 λm6 l7=>gI k6 m6 λx6=>gC l7 λm7 l8=>gI k7 m7 λx7=>gC l8 λm8 l9=>gS m8 λx8=>gC l9 λm9 l10=>gI k9 m9 λx9=>gC l10 λm10 l11=>gL m10 λBO=>gC l11 λm11 l12=>gI k11 m11 λIW=>gN l12<|K x0 x1 x2 x3 x4 x5 x6 x7 x8 x9 BO IW
def mw {R:Type}(k1 k5 k6 k7 k10 k11 k12 k13 k14 k15 k17:IntKind)(l0:List MV)(K:List MV->Int->List MV->List MV->List MV->Int->Int->Int->List UInt8->List UInt8->Int->Int->Int->Int->Int->Int->List UInt8->Int->List MV->List MV->Option R):Option R:=gC l0 λm0 l1=>gL m0 λx0=>gC l1 λm1 l2=>gI k1 m1 λx1=>gC l2 λm2 l3=>gL m2 λx2=>gC l3 λm3 l4=>gL m3 λx3=>gC l4 λm4 l5=>gL m4 λx4=>gC l5 λm5 l6=>gI k5 m5 λx5=>gC l6 λm6 l7=>gI k6 m6 λx6=>gC l7 λm7 l8=>gI k7 m7 λx7=>gC l8 λm8 l9=>gS m8 λx8=>gC l9 λm9 l10=>gS m9 λx9=>gC l10 λm10 l11=>gI k10 m10 λBO=>gC l11 λm11 l12=>gI k11 m11 λIW=>gC l12 λm12 l13=>gI k12 m12 λMp=>gC l13 λm13 l14=>gI k13 m13 λEV=>gC l14 λm14 l15=>gI k14 m14 λXu=>gC l15 λm15 l16=>gI k15 m15 λXv=>gC l16 λm16 l17=>gS m16 λx16=>gC l17 λm17 l18=>gI k17 m17 λZ8=>gC l18 λm18 l19=>gL m18 λx18=>gC l19 λm19 l20=>gL m19 λK5=>gN l20<|K x0 x1 x2 x3 x4 x5 x6 x7 x8 x9 BO IW Mp EV Xu Xv x16 Z8 x18 K5
def oLL {R:Type}(l0:List MV)(K:List MV->List MV->Option R):Option R:=gC l0 λm0 l1=>gL m0 λx0=>gC l1 λm1 l2=>gL m1 λx1=>gN l2<|K x0 x1
def avx {R:Type}(k1:IntKind)(l0:List MV)(K:List UInt8->Int->Bool->Option R):Option R:=gC l0 λm0 l1=>gS m0 λx0=>gC l1 λm1 l2=>gI k1 m1 λx1=>gC l2 λm2 l3=>gB m2 λx2=>gN l3<|K x0 x1 x2
def aoW {R:Type}(k2 k3:IntKind)(l0:List MV)(K:List UInt8->List UInt8->Int->Int->Option R):Option R:=gC l0 λm0 l1=>gS m0 λx0=>gC l1 λm1 l2=>gS m1 λx1=>gC l2 λm2 l3=>gI k2 m2 λx2=>gC l3 λm3 l4=>gI k3 m3 λx3=>gN l4<|K x0 x1 x2 x3
abbrev jIL {R:Type}:= @oIL R .i64
abbrev jII {R:Type}:= @oII R .i64 .i64
abbrev lH {R:Type}:= @Mo R .i64 .i64 .i64 .i64
abbrev jIB {R:Type}:= @oIB R .i64
abbrev vG {R:Type}:= @Sh R .i64 .i64 .i64 .i64 .i64 .i64
abbrev arm {R:Type}:= @aea R .i64 .i64 .i64
abbrev Si {R:Type}:= @aoW R .i64 .i64
abbrev avy {R:Type}:= @avx R .i64
abbrev wQ {R:Type}:= @ail R .i64
abbrev B7 {R:Type}:= @mw R .i64 .i64 .i64 .i64 .i64 .i64 .i64 .i64 .i64 .i64 .i64
abbrev Xw {R:Type}:= @oLI R .i64
@[reducible] def dL (x0 : Int)(x1 : Int)(x2 : Int)(x3 : List UInt8)(x4 : Int)(x5 : List MV) : List MV := [.i .i64 x0, .i .i64 x1, .i .i64 x2, .s x3, .i .i64 x4, .list x5]
@[reducible] def fH (x0 : List MV)(x1 : Int)(x2 : List MV)(x3 : List MV)(x4 : List MV) : List MV := [.list x0, .i .i64 x1, .list x2, .list x3, .list x4]
@[reducible] def iU (x0 : List MV)(x1 : Int)(x2 : List MV)(x3 : List MV)(x4 : List MV)(x5 : Int)(x6 : Int)(x7 : Int)(x8 : List UInt8)(x9 : Int)(BO : List MV)(IW : Int) : List MV := [.list x0, .i .i64 x1, .list x2, .list x3, .list x4, .i .i64 x5, .i .i64 x6, .i .i64 x7, .s x8, .i .i64 x9, .list BO, .i .i64 IW]
def Fy:List (Nat×fV)->Nat->fV
 |[],_=>default
 |(k,s)::r,t=>bif By k t then s else Fy r t
def On:List (Nat×List Nat)->Nat->List Nat
 |[],_=>[]
 |(k,s)::r,t=>bif By k t then s else On r t
def Sj:List (Nat×Nat)->Nat->Nat
 |[],_=>0
 |(k,s)::r,t=>bif By k t then s else Sj r t
def kk (n:Nat):Nat:=n
def gv (n:Nat):Bool:=bL [46,156,161,163,165,109,57,58,59,60,74,75,76,77,78,79,80,81,82,83,84,87,107,122,130] n
def frs (n:Nat):Bool:=bL [44,46,85,86,156,157,161,163,164,165,192,37,70,110,38,174,176,109,111,115,65,66,116,69] n
def Xx:List (Nat×Nat):=[(44,69),(46,69),(85,151),(86,151),(156,124),(157,124),(161,124),(163,149),(164,149),(165,149),(192,9),(37,5),(70,5),(110,5),(38,5),(174,9),(176,9),(109,5),(111,5),(115,5),(65,5),(66,5),(116,5)]
def Oo:List (Nat×FloatKind)->Nat->Option FloatKind
 |[],_=>none
 |(k,s)::r,t=>bif By k t then some s else Oo r t
def Sk:List (Nat×FloatKind):=[]
def K6: ∀t k,Oo Sk t=some k->Tryz.prog.underlying t=some (.float k):=by intro t k h;cases h
def Oq:List (Nat×(Nat×Bool)):=[]
def HJ:List (Nat×(Nat×List LK×List LK))->Nat->Option (Nat×List LK×List LK)
 |[],_=>none
 |(k,s)::r,t=>bif By k t then some s else HJ r t
abbrev aoX:List LK:=[.k (.h .u32 6),.own 2000001 5 false,.k (.i .i64)]
abbrev Sl:List LK:=[.k (.h .u32 6),.k (.l),.k (.i .i64)]
abbrev K7:List LK:=[.k (.l)]
abbrev di:List LK:=[.k (.l),.k (.i .i64),.k (.l),.k (.l),.k (.l),.k (.i .i64),.k (.i .i64),.k (.i .i64),.k (.s),.k (.s),.k (.i .i64),.k (.i .i64),.k (.i .i64),.k (.i .i64),.k (.i .i64),.k (.i .i64),.k (.s),.k (.i .i64),.k (.l),.own 2000019 177 false]
abbrev acf:List LK:=[.own 2000000 181 false]
abbrev acg:List LK:=[.k (.h .u32 6)]
def Ot:List (Nat×(Nat×List LK×List LK)):=[(57,(0,aoX,Sl)),(58,(0,Sl,Sl)),(59,(0,K7,K7)),(60,(0,K7,K7)),(74,(0,di,di)),(75,(0,di,di)),(76,(0,di,di)),(77,(0,di,di)),(78,(0,di,di)),(79,(0,di,di)),(80,(0,di,di)),(81,(0,di,di)),(82,(0,di,di)),(83,(0,di,di)),(84,(0,di,di)),(87,(2,acf,acf)),(107,(0,acg,acg)),(122,(0,di,di)),(130,(0,di,di))]
def dl (n:Nat):Bool:=bL [86] n
def cx:Ctx:=⟨vW KV,kk,λ_ _=>none,gv,frs,Sj Xx,HJ Ot,[],0,[],[],λ_=>[],Oo Sk,Fw Oq,λ_=>[],λ_=>default,λ_=>default,λ_=>default,dl,[],0⟩
def LD (g:Nat->List MV->Option MV)(par:List (Nat×Nat))(n:Nat)(bs fl:List Nat)(fz ord:List (Nat×List Nat))(eV ft eW:List (Nat×fV))(dyn:List Nat):Ctx:=⟨vW KV,kk,g,gv,frs,Sj Xx,HJ Ot,par,n,bs,fl,On fz,Oo Sk,Fw Oq,On ord,Fy eV,Fy ft,Fy eW,dl,dyn,0⟩
def Ou:Cx Tryz.prog cx:=Ob (l:=Oq) abs (λ_ _ h=>h)
def iM (t:Nat):TI:=match vW KV t with|some I=>I|none=>⟨false,0,0,[],[],[],[],0,[]⟩
def tv9:cx.tv 9=some (iM 9):=abs
def arn:cx.tv 25=some (iM 25):=abs
def aro:cx.tv 28=some (iM 28):=abs
def aAr:cx.tv 31=some (iM 31):=abs
def avA:cx.tv 34=some (iM 34):=abs
def avB:cx.tv 69=some (iM 69):=abs
def aim:cx.tv 124=some (iM 124):=abs
def ain:cx.tv 149=some (iM 149):=abs
def avC:cx.tv 151=some (iM 151):=abs
def arp:TD Tryz.prog cx 86 151:=by
 have hE:cx.tv 151=some (iM 151):=abs
 refine alZ (P:=Tryz.prog) (f:=86) (fi:=133) (t:=31) (ti:=3) (tb:=4) (fu:=182) (el:=151) (fn:=Tryz.f86) (fni:=Tryz.f133) (r:=(λk=>(([0,1,2,3,4,5,7,8,9,10,6,11,12]:List Nat)[k]?).getD 0)) (ri:=(λk=>(([0,1,2,3,4,5,6,7]:List Nat)[k]?).getD 0)) (o:=jc Tryz.f86 jd) (oi:=jc Tryz.f133 jd) ⟨Tryz.func86,abs,abs,abs,abs,?_,abs⟩ ⟨Tryz.func133,abs,abs,abs,abs,?_,abs⟩ kU hE abs (No abs)
 .constructor<;>exact ⟨abs,abs,abs⟩
 .constructor<;>exact ⟨abs,abs,abs⟩
def AX:vZ Tryz.prog cx:=by
 intro n hn;unfold cx dl bL at hn;cases avD:By 86 n with
 |true=>have:=OF avD;subst this;exact arp
 |false=>
 simp only [avD,cond_false] at hn;try unfold bL at hn
 cases hn
def K8:ad5:=⟨λ|146=>192|221=>202|268=>213|138=>214|143=>215|195=>226|197=>227|218=>228|219=>229|260=>237|217=>238|225=>236|224=>235|267=>239|266=>241|314=>242|n=>n,λ|9=>9|31=>67|3=>3|4=>4|0=>0|105=>316|21=>21|5=>5|46=>167|119=>321|139=>324|138=>323|146=>301|51=>155|n=>n,λ|1=>0|3=>1|4=>2|n=>n⟩
def amB:aec Tryz.prog K8:={
 mixed:=abs
 f138:=Tryz.func214.trans (congrArg some abs)
 f143:=Tryz.func215.trans (congrArg some abs)
 f146:=Tryz.func192.trans (congrArg some abs)
 f195:=Tryz.func226.trans (congrArg some abs)
 f197:=Tryz.func227.trans (congrArg some abs)
 f217:=Tryz.func238.trans (congrArg some abs)
 f218:=Tryz.func228.trans (congrArg some abs)
 f219:=Tryz.func229.trans (congrArg some abs)
 f221:=Tryz.func202.trans (congrArg some abs)
 f224:=Tryz.func235.trans (congrArg some abs)
 f225:=Tryz.func236.trans (congrArg some abs)
 f260:=Tryz.func237.trans (congrArg some abs)
 f266:=Tryz.func241.trans (congrArg some abs)
 f267:=Tryz.func239.trans (congrArg some abs)
 f268:=Tryz.func213.trans (congrArg some abs)
 f314:=Tryz.func242.trans (congrArg some abs)
 t0:=Tryz.underlying0
 a0:=Tryz.isAgg0
 z0:=Tryz.sizeOf0
 v0:=Tryz.zeroValue0
 t3:=Tryz.underlying3
 a3:=Tryz.isAgg3
 z3:=Tryz.sizeOf3
 v3:=Tryz.zeroValue3
 t4:=Tryz.underlying4
 a4:=Tryz.isAgg4
 z4:=Tryz.sizeOf4
 v4:=Tryz.zeroValue4
 t5:=Tryz.underlying5
 a5:=Tryz.isAgg5
 z5:=Tryz.sizeOf5
 v5:=Tryz.zeroValue5
 t9:=Tryz.underlying9
 a9:=Tryz.isAgg9
 z9:=Tryz.sizeOf9
 v9:=Tryz.zeroValue9
 t21:=Tryz.underlying21
 a21:=Tryz.isAgg21
 z21:=Tryz.sizeOf21
 v21:=Tryz.zeroValue21
 t31:=Tryz.underlying67
 a31:=Tryz.isAgg67
 z31:=Tryz.sizeOf67
 v31:=Tryz.zeroValue67
 t46:=Tryz.underlying167
 a46:=Tryz.isAgg167
 z46:=Tryz.sizeOf167
 v46:=Tryz.zeroValue167
 t51:=Tryz.underlying155
 a51:=Tryz.isAgg155
 z51:=Tryz.sizeOf155
 v51:=Tryz.zeroValue155
 t105:=Tryz.underlying316
 a105:=Tryz.isAgg316
 z105:=Tryz.sizeOf316
 v105:=Tryz.zeroValue316
 t119:=Tryz.underlying321
 a119:=Tryz.isAgg321
 z119:=Tryz.sizeOf321
 t138:=Tryz.underlying323
 a138:=Tryz.isAgg323
 z138:=Tryz.sizeOf323
 v138:=Tryz.zeroValue323
 t139:=Tryz.underlying324
 a139:=Tryz.isAgg324
 z139:=Tryz.sizeOf324
 v139:=Tryz.zeroValue324
 t146:=Tryz.underlying301
 a146:=Tryz.isAgg301
 z146:=Tryz.sizeOf301
 v146:=Tryz.zeroValue301
 g1:=abs
 g3:=abs
 g4:=by kernel_rfl}
def K9:ad5:=⟨λ|160=>204|232=>217|231=>216|227=>218|234=>220|233=>219|236=>222|235=>221|228=>230|271=>231|151=>207|197=>227|120=>240|152=>224|260=>237|137=>233|119=>234|224=>235|225=>236|217=>238|266=>241|n=>n,λ|9=>9|4=>4|3=>3|5=>5|117=>309|116=>308|0=>0|124=>312|21=>21|105=>316|46=>167|119=>321|139=>324|138=>323|n=>n,λ|3=>1|4=>2|n=>n⟩
def amC:aeY Tryz.prog K9:={
 mixed:=abs
 f119:=Tryz.func234.trans (congrArg some abs)
 f120:=Tryz.func240.trans (congrArg some abs)
 f137:=Tryz.func233.trans (congrArg some abs)
 f151:=Tryz.func207.trans (congrArg some abs)
 f152:=Tryz.func224.trans (congrArg some abs)
 f160:=Tryz.func204.trans (congrArg some abs)
 f197:=Tryz.func227.trans (congrArg some abs)
 f217:=Tryz.func238.trans (congrArg some abs)
 f224:=Tryz.func235.trans (congrArg some abs)
 f225:=Tryz.func236.trans (congrArg some abs)
 f227:=Tryz.func218.trans (congrArg some abs)
 f228:=Tryz.func230.trans (congrArg some abs)
 f231:=Tryz.func216.trans (congrArg some abs)
 f232:=Tryz.func217.trans (congrArg some abs)
 f233:=Tryz.func219.trans (congrArg some abs)
 f234:=Tryz.func220.trans (congrArg some abs)
 f235:=Tryz.func221.trans (congrArg some abs)
 f236:=Tryz.func222.trans (congrArg some abs)
 f260:=Tryz.func237.trans (congrArg some abs)
 f266:=Tryz.func241.trans (congrArg some abs)
 f271:=Tryz.func231.trans (congrArg some abs)
 t0:=Tryz.underlying0
 a0:=Tryz.isAgg0
 z0:=Tryz.sizeOf0
 v0:=Tryz.zeroValue0
 t3:=Tryz.underlying3
 a3:=Tryz.isAgg3
 z3:=Tryz.sizeOf3
 v3:=Tryz.zeroValue3
 t4:=Tryz.underlying4
 a4:=Tryz.isAgg4
 z4:=Tryz.sizeOf4
 v4:=Tryz.zeroValue4
 t5:=Tryz.underlying5
 a5:=Tryz.isAgg5
 z5:=Tryz.sizeOf5
 v5:=Tryz.zeroValue5
 t9:=Tryz.underlying9
 a9:=Tryz.isAgg9
 z9:=Tryz.sizeOf9
 v9:=Tryz.zeroValue9
 t21:=Tryz.underlying21
 a21:=Tryz.isAgg21
 z21:=Tryz.sizeOf21
 v21:=Tryz.zeroValue21
 t46:=Tryz.underlying167
 a46:=Tryz.isAgg167
 z46:=Tryz.sizeOf167
 v46:=Tryz.zeroValue167
 t105:=Tryz.underlying316
 a105:=Tryz.isAgg316
 z105:=Tryz.sizeOf316
 v105:=Tryz.zeroValue316
 t116:=Tryz.underlying308
 a116:=Tryz.isAgg308
 z116:=Tryz.sizeOf308
 t117:=Tryz.underlying309
 a117:=Tryz.isAgg309
 z117:=Tryz.sizeOf309
 v117:=Tryz.zeroValue309
 t119:=Tryz.underlying321
 a119:=Tryz.isAgg321
 z119:=Tryz.sizeOf321
 t124:=Tryz.underlying312
 a124:=Tryz.isAgg312
 z124:=Tryz.sizeOf312
 v124:=Tryz.zeroValue312
 t138:=Tryz.underlying323
 a138:=Tryz.isAgg323
 z138:=Tryz.sizeOf323
 v138:=Tryz.zeroValue323
 t139:=Tryz.underlying324
 a139:=Tryz.isAgg324
 z139:=Tryz.sizeOf324
 v139:=Tryz.zeroValue324
 g3:=abs
 g4:=by kernel_rfl}
def La:ad5:=⟨λ|151=>207|152=>224|137=>233|119=>234|224=>235|225=>236|217=>238|266=>241|n=>n,λ|9=>9|21=>21|4=>4|3=>3|5=>5|0=>0|46=>167|n=>n,λ|n=>n⟩
def amD:aft Tryz.prog La:={
 mixed:=abs
 f119:=Tryz.func234.trans (congrArg some abs)
 f137:=Tryz.func233.trans (congrArg some abs)
 f151:=Tryz.func207.trans (congrArg some abs)
 f152:=Tryz.func224.trans (congrArg some abs)
 f217:=Tryz.func238.trans (congrArg some abs)
 f224:=Tryz.func235.trans (congrArg some abs)
 f225:=Tryz.func236.trans (congrArg some abs)
 f266:=Tryz.func241.trans (congrArg some abs)
 t0:=Tryz.underlying0
 a0:=Tryz.isAgg0
 z0:=Tryz.sizeOf0
 v0:=Tryz.zeroValue0
 t3:=Tryz.underlying3
 a3:=Tryz.isAgg3
 z3:=Tryz.sizeOf3
 v3:=Tryz.zeroValue3
 t4:=Tryz.underlying4
 a4:=Tryz.isAgg4
 z4:=Tryz.sizeOf4
 v4:=Tryz.zeroValue4
 t5:=Tryz.underlying5
 a5:=Tryz.isAgg5
 z5:=Tryz.sizeOf5
 v5:=Tryz.zeroValue5
 t9:=Tryz.underlying9
 a9:=Tryz.isAgg9
 z9:=Tryz.sizeOf9
 v9:=Tryz.zeroValue9
 t21:=Tryz.underlying21
 a21:=Tryz.isAgg21
 z21:=Tryz.sizeOf21
 v21:=Tryz.zeroValue21
 t46:=Tryz.underlying167
 a46:=Tryz.isAgg167
 z46:=Tryz.sizeOf167
 v46:=Tryz.zeroValue167}
abbrev GT:=Nat->List MV->Option MV
abbrev SG (g:GT):Prop:=eE Tryz.prog cx g
def amE {g:GT}(h:SG g):SG (aG 192 CM g):=h.Lz (λ_=>rfl) (λms r hr=>ah8 (P:=Tryz.prog) (ρ:=K8) (c:=cx) amB abs abs abs tv9 abs hr)
def amF {g:GT}(h:SG g):SG (aG 204 Oc g):=h.Lz (λ_=>rfl) (λms r hr=>ami (P:=Tryz.prog) (ρ:=K9) (c:=cx) amC abs abs hr)
def amG {g:GT}(h:SG g):SG (aG 207 wb g):=h.Lz (λ_=>rfl) (λms r hr=>ZX (P:=Tryz.prog) (ρ:=La) (c:=cx) amD abs hr)
def arq {g:GT}(h:SG g):SG (aG 44 (kF 6 72) g):=h.Lz (λ_=>rfl) (λms r hr=>by obtain ⟨xs,rfl,rfl,h1,h2⟩:=xX hr;exact Hk (P:=Tryz.prog) (c:=cx) (f:=44) (fn:=Tryz.f44) (t:=34) (I:=iM 34) (E:=iM 69) (i0:=0) (i1:=1) (i2:=2) (i3:=3) (oA:=jc Tryz.f44 jd 0) (oB:=jc Tryz.f44 jd 1) (oC:=jc Tryz.f44 jd 2) (oD:=jc Tryz.f44 jd 3) (oE:=jc Tryz.f44 jd 4) (oF:=jc Tryz.f44 jd 5) (oG:=jc Tryz.f44 jd 6) (oH:=jc Tryz.f44 jd 7) kU avA abs avB (No abs) abs abs Tryz.func44 abs abs abs abs ⟨abs,abs,abs⟩ ⟨abs,abs,abs⟩ ⟨abs,abs,abs⟩ ⟨abs,abs,abs⟩ ⟨abs,abs,abs⟩ ⟨abs,abs,abs⟩ ⟨abs,abs,abs⟩ ⟨abs,abs,abs⟩ (by rw [show (iM 69).size=6 by kernel_rfl];exact h1) (by rw [show (iM 69).bytes=72 by kernel_rfl];exact h2))
def avE:NY Tryz.prog 46 34 3 4 69 92 Tryz.f46 (λk=>k) (jc Tryz.f46 jd) (TV (jc Tryz.f46 jd)):=by refine ⟨Tryz.func46,abs,abs,abs,abs,?_,qT,abs⟩;constructor<;>first|exact ⟨abs,abs,abs⟩|kernel_rfl
def aAs: ∀args w,(callFunc 92 args).run Tryz.prog w=((IT #[34,34] #[4] args).run Tryz.prog w).andThen λv w'=> .ok (.value v) w':=λargs w=>run_callFunc_extern Tryz.func92 abs abs abs (e:=IT #[34,34] #[4]) abs args w
def ars {g:GT}(h:SG g):SG (aG 46 (ku 72) g):=h.Lz (λ_=>rfl) (λms r hr=>by obtain ⟨xs,ys,i,rfl,rfl,h1,h2,h3⟩:=AA hr;exact Jh (P:=Tryz.prog) (c:=cx) (I:=iM 34) (E:=iM 69) avE kU avA abs avB (No abs) abs abs abs abs aAs h1 h2 (by rw [show (iM 69).bytes=72 by kernel_rfl];exact h3))
def art {g:GT}(h:SG g):SG (aG 85 (kF 3 32) g):=h.Lz (λ_=>rfl) (λms r hr=>by obtain ⟨xs,rfl,rfl,h1,h2⟩:=xX hr;exact Hk (P:=Tryz.prog) (c:=cx) (f:=85) (fn:=Tryz.f85) (t:=31) (I:=iM 31) (E:=iM 151) (i0:=0) (i1:=1) (i2:=2) (i3:=3) (oA:=jc Tryz.f85 jd 0) (oB:=jc Tryz.f85 jd 1) (oC:=jc Tryz.f85 jd 2) (oD:=jc Tryz.f85 jd 3) (oE:=jc Tryz.f85 jd 4) (oF:=jc Tryz.f85 jd 5) (oG:=jc Tryz.f85 jd 6) (oH:=jc Tryz.f85 jd 7) kU aAr abs avC (No abs) abs abs Tryz.func85 abs abs abs abs ⟨abs,abs,abs⟩ ⟨abs,abs,abs⟩ ⟨abs,abs,abs⟩ ⟨abs,abs,abs⟩ ⟨abs,abs,abs⟩ ⟨abs,abs,abs⟩ ⟨abs,abs,abs⟩ ⟨abs,abs,abs⟩ (by rw [show (iM 151).size=3 by kernel_rfl];exact h1) (by rw [show (iM 151).bytes=32 by kernel_rfl];exact h2))
def aru:NY Tryz.prog 156 25 3 4 124 185 Tryz.f156 (λk=>k) (jc Tryz.f156 jd) (TV (jc Tryz.f156 jd)):=by refine ⟨Tryz.func156,abs,abs,abs,abs,?_,qT,abs⟩;constructor<;>first|exact ⟨abs,abs,abs⟩|kernel_rfl
def avF: ∀args w,(callFunc 185 args).run Tryz.prog w=((IT #[25,25] #[4] args).run Tryz.prog w).andThen λv w'=> .ok (.value v) w':=λargs w=>run_callFunc_extern Tryz.func185 abs abs abs (e:=IT #[25,25] #[4]) abs args w
def amH {g:GT}(h:SG g):SG (aG 156 (ku 48) g):=h.Lz (λ_=>rfl) (λms r hr=>by obtain ⟨xs,ys,i,rfl,rfl,h1,h2,h3⟩:=AA hr;exact Jh (P:=Tryz.prog) (c:=cx) (I:=iM 25) (E:=iM 124) aru kU arn abs aim (No abs) abs abs abs abs avF h1 h2 (by rw [show (iM 124).bytes=48 by kernel_rfl];exact h3))
def amI {g:GT}(h:SG g):SG (aG 157 (kF 4 48) g):=h.Lz (λ_=>rfl) (λms r hr=>by obtain ⟨xs,rfl,rfl,h1,h2⟩:=xX hr;exact Hk (P:=Tryz.prog) (c:=cx) (f:=157) (fn:=Tryz.f157) (t:=25) (I:=iM 25) (E:=iM 124) (i0:=0) (i1:=1) (i2:=2) (i3:=3) (oA:=jc Tryz.f157 jd 0) (oB:=jc Tryz.f157 jd 1) (oC:=jc Tryz.f157 jd 2) (oD:=jc Tryz.f157 jd 3) (oE:=jc Tryz.f157 jd 4) (oF:=jc Tryz.f157 jd 5) (oG:=jc Tryz.f157 jd 6) (oH:=jc Tryz.f157 jd 7) kU arn abs aim (No abs) abs abs Tryz.func157 abs abs abs abs ⟨abs,abs,abs⟩ ⟨abs,abs,abs⟩ ⟨abs,abs,abs⟩ ⟨abs,abs,abs⟩ ⟨abs,abs,abs⟩ ⟨abs,abs,abs⟩ ⟨abs,abs,abs⟩ ⟨abs,abs,abs⟩ (by rw [show (iM 124).size=4 by kernel_rfl];exact h1) (by rw [show (iM 124).bytes=48 by kernel_rfl];exact h2))
def arv:Xe Tryz.prog 161 25 3 124 Tryz.f161 (λk=>k) (jc Tryz.f161 jd):=by refine ⟨Tryz.func161,abs,abs,abs,abs,?_,qT,abs⟩;constructor<;>first|exact ⟨abs,abs,abs⟩|kernel_rfl
def amJ {g:GT}(h:SG g):SG (aG 161 uV g):=h.Lz (λ_=>rfl) (λms r hr=>by obtain ⟨xs,i,j,rfl,rfl,h1,h2⟩:=Hp hr;exact Sb (P:=Tryz.prog) (c:=cx) (I:=iM 25) (E:=iM 124) arv kU arn abs aim abs abs abs h1 h2)
def arw:NY Tryz.prog 163 28 3 4 149 188 Tryz.f163 (λk=>k) (jc Tryz.f163 jd) (TV (jc Tryz.f163 jd)):=by refine ⟨Tryz.func163,abs,abs,abs,abs,?_,qT,abs⟩;constructor<;>first|exact ⟨abs,abs,abs⟩|kernel_rfl
def avG: ∀args w,(callFunc 188 args).run Tryz.prog w=((IT #[28,28] #[4] args).run Tryz.prog w).andThen λv w'=> .ok (.value v) w':=λargs w=>run_callFunc_extern Tryz.func188 abs abs abs (e:=IT #[28,28] #[4]) abs args w
def amK {g:GT}(h:SG g):SG (aG 163 (ku 24) g):=h.Lz (λ_=>rfl) (λms r hr=>by obtain ⟨xs,ys,i,rfl,rfl,h1,h2,h3⟩:=AA hr;exact Jh (P:=Tryz.prog) (c:=cx) (I:=iM 28) (E:=iM 149) arw kU aro abs ain (No abs) abs abs abs abs avG h1 h2 (by rw [show (iM 149).bytes=24 by kernel_rfl];exact h3))
def amL {g:GT}(h:SG g):SG (aG 164 (kF 3 24) g):=h.Lz (λ_=>rfl) (λms r hr=>by obtain ⟨xs,rfl,rfl,h1,h2⟩:=xX hr;exact Hk (P:=Tryz.prog) (c:=cx) (f:=164) (fn:=Tryz.f164) (t:=28) (I:=iM 28) (E:=iM 149) (i0:=0) (i1:=1) (i2:=2) (i3:=3) (oA:=jc Tryz.f164 jd 0) (oB:=jc Tryz.f164 jd 1) (oC:=jc Tryz.f164 jd 2) (oD:=jc Tryz.f164 jd 3) (oE:=jc Tryz.f164 jd 4) (oF:=jc Tryz.f164 jd 5) (oG:=jc Tryz.f164 jd 6) (oH:=jc Tryz.f164 jd 7) kU aro abs ain (No abs) abs abs Tryz.func164 abs abs abs abs ⟨abs,abs,abs⟩ ⟨abs,abs,abs⟩ ⟨abs,abs,abs⟩ ⟨abs,abs,abs⟩ ⟨abs,abs,abs⟩ ⟨abs,abs,abs⟩ ⟨abs,abs,abs⟩ ⟨abs,abs,abs⟩ (by rw [show (iM 149).size=3 by kernel_rfl];exact h1) (by rw [show (iM 149).bytes=24 by kernel_rfl];exact h2))
def arx:Xe Tryz.prog 165 28 3 149 Tryz.f165 (λk=>k) (jc Tryz.f165 jd):=by refine ⟨Tryz.func165,abs,abs,abs,abs,?_,qT,abs⟩;constructor<;>first|exact ⟨abs,abs,abs⟩|kernel_rfl
def amM {g:GT}(h:SG g):SG (aG 165 uV g):=h.Lz (λ_=>rfl) (λms r hr=>by obtain ⟨xs,i,j,rfl,rfl,h1,h2⟩:=Hp hr;exact Sb (P:=Tryz.prog) (c:=cx) (I:=iM 28) (E:=iM 149) arx kU aro abs ain abs abs abs h1 h2)
def H44:GT:=aG 44 (kF 6 72) (λ_ _=>none)
def aio:SG H44:=arq (eE.none _ _)
def H46:GT:=aG 46 (ku 72) H44
def aip:SG H46:=ars aio
def H85:GT:=aG 85 (kF 3 32) H46
def aiq:SG H85:=art aip
def avH:GT:=aG 156 (ku 48) H85
def aed:SG avH:=amH aiq
def avI:GT:=aG 157 (kF 4 48) avH
def aee:SG avI:=amI aed
def avJ:GT:=aG 161 uV avI
def aef:SG avJ:=amJ aee
def avK:GT:=aG 163 (ku 24) avJ
def aeg:SG avK:=amK aef
def avL:GT:=aG 164 (kF 3 24) avK
def aeh:SG avL:=amL aeg
def avM:GT:=aG 165 uV avL
def aei:SG avM:=amM aeh
def avN:GT:=aG 192 CM avM
def aej:SG avN:=amE aei
def avO:GT:=aG 204 Oc avN
def aek:SG avO:=amF aej
def ary:GT:=aG 207 wb avO
def ael:SG ary:=amG aek
abbrev ach:List LK:=[.k (.h .u32 6),.k (.l),.k (.i .i64)]
def Mq:List (Nat×(Nat×List LK×List LK)):=(107,(0,ach,ach))::Ot
def cx2:Ctx:=⟨vW KV,kk,λ_ _=>none,gv,frs,Sj Xx,HJ Mq,[],0,[],[],λ_=>[],Oo Sk,Fw Oq,λ_=>[],λ_=>default,λ_=>default,λ_=>default,λ_=>false,[],0⟩
def arz (g:GT)(par:List (Nat×Nat))(n:Nat)(bs fl:List Nat)(fz ord:List (Nat×List Nat))(eV ft eW:List (Nat×fV))(dyn:List Nat):Ctx:=⟨vW KV,kk,g,gv,frs,Sj Xx,HJ Mq,par,n,bs,fl,On fz,Oo Sk,Fw Oq,On ord,Fy eV,Fy ft,Fy eW,λ_=>false,dyn,0⟩
def arA:Cx Tryz.prog cx2:=Ob (l:=Oq) abs (λ_ _ h=>h)
def air:vZ Tryz.prog cx2:=λn hn=>absurd (show false=true from hn) abq
def ais:KZ 107 cx cx2:=⟨rfl,rfl,rfl,rfl,rfl,λk hk=>by
 show HJ Mq k=HJ Ot k;unfold Mq HJ;rw [show By 107 k=false from by
  cases hb:By 107 k with
  |false=>rfl
  |true=>exact absurd (OF hb).symm hk]
 rfl⟩
def arB:KZ 107 cx2 cx:=⟨rfl,rfl,rfl,rfl,rfl,λk hk=>(ais.sig k hk).symm⟩
def fnS {g:GT}(s:SG g)(aV:List (List Kd))(par:List (Nat×Nat))(tn:Nat)(bs fl:List Nat)(fz ord:List (Nat×List Nat))(eV ft eW:List (Nat×fV))(dyn:List Nat){n:Nat}{fn:Func}{F:List MV->Option MV}(hf:Tryz.prog.funcs[n]? =some fn)(hh:rU (LD g par tn bs fl fz ord eV ft eW dyn) n fn aV=true)(hF: ∀{ms r},F ms=some r->rN (LD g par tn bs fl fz ord eV ft eW dyn) aV none fn ms=some r):SG (aG n F g):=s.fn (c':=LD g par tn bs fl fz ord eV ft eW dyn) ⟨rfl,rfl,rfl,rfl,rfl,rfl,rfl,rfl,rfl⟩ rfl kU K4 K6 Ou qT AX hf hh (λ_=>rfl) (fresh:=none) rfl hF
def fnP {g:GT}(s:SG g)(aV:List (List Kd))(tn:Nat)(eV ft eW:List (Nat×fV)){n:Nat}{fn:Func}{F:List MV->Option MV}(hf:Tryz.prog.funcs[n]? =some fn)(hh:rU (LD g [] tn [] [] [] [] eV ft eW []) n fn aV=true)(hF: ∀{ms r},F ms=some r->rN (LD g [] tn [] [] [] [] eV ft eW []) aV none fn ms=some r):SG (aG n F g):=fnS s aV [] tn [] [] [] [] eV ft eW [] hf hh hF
def fnC {g:GT}(s:SG g)(pos:Nat)(ks ko:List LK)(aV:List (List Kd))(par:List (Nat×Nat))(tn:Nat)(bs fl:List Nat)(fz ord:List (Nat×List Nat))(eV ft eW:List (Nat×fV))(dyn:List Nat){n:Nat}{fn:Func}{F:List MV->Option MV}(hf:Tryz.prog.funcs[n]? =some fn)(hs:cx.sig n=some (pos,ks,ko))(hh:NV (LD g par tn bs fl fz ord eV ft eW dyn) n fn aV=true)(hF: ∀{ms r},F ms=some r->KB (LD g par tn bs fl fz ord eV ft eW dyn) aV pos ks ko fn ms=some r):SG (aG n F g):=s.fnC kU K4 K6 Ou qT AX hf hs (λ_=>rfl) λh=>⟨LD g par tn bs fl fz ord eV ft eW dyn,⟨rfl,rfl,rfl,rfl,rfl,rfl,rfl,rfl,rfl⟩,rfl,hh,hF h⟩
def avP {g:GT}(s:eE Tryz.prog cx2 g)(pos:Nat)(ks ko:List LK)(aV:List (List Kd))(par:List (Nat×Nat))(tn:Nat)(bs fl:List Nat)(fz ord:List (Nat×List Nat))(eV ft eW:List (Nat×fV))(dyn:List Nat){n:Nat}{fn:Func}{F:List MV->Option MV}(hf:Tryz.prog.funcs[n]? =some fn)(hs:cx2.sig n=some (pos,ks,ko))(hh:NV (arz g par tn bs fl fz ord eV ft eW dyn) n fn aV=true)(hF: ∀{ms r},F ms=some r->KB (arz g par tn bs fl fz ord eV ft eW dyn) aV pos ks ko fn ms=some r):eE Tryz.prog cx2 (aG n F g):=s.fnC kU K4 K6 arA qT air hf hs (λ_=>rfl) λh=>⟨arz g par tn bs fl fz ord eV ft eW dyn,⟨rfl,rfl,rfl,rfl,rfl,rfl,rfl,rfl,rfl⟩,rfl,hh,hF h⟩
def fnF {g:GT}(s:SG g)(ty:Nat)(aV:List (List Kd))(par:List (Nat×Nat))(tn:Nat)(bs fl:List Nat)(fz ord:List (Nat×List Nat))(eV ft eW:List (Nat×fV))(dyn:List Nat){n:Nat}{fn:Func}{F:List MV->Option MV}(hf:Tryz.prog.funcs[n]? =some fn)(hh:rU (LD g par tn bs fl fz ord eV ft eW dyn) n fn aV=true)(B1:yG (LD g par tn bs fl fz ord eV ft eW dyn) n fn (some ty)=true)(hF: ∀{ms r},F ms=some r->rN (LD g par tn bs fl fz ord eV ft eW dyn) aV (some ty) fn ms=some r):SG (aG n F g):=s.fn (c':=LD g par tn bs fl fz ord eV ft eW dyn) ⟨rfl,rfl,rfl,rfl,rfl,rfl,rfl,rfl,rfl⟩ rfl kU K4 K6 Ou qT AX hf hh (λ_=>rfl) B1 hF
abbrev cl1 (d:List MV->Option MV):List MV->Option MV:=λms=>match ms with|[.cell (.func off a0)]=>(match By off 0 with|true=>d a0|false=>none)|_=>none
def arC {d:List MV->Option MV}{B:List MV->Option MV}(h: ∀a0,B [.cell (.func 0 a0)]=d a0){ms:List MV}{r:MV}(e:cl1 d ms=some r):B ms=some r:=by
 unfold cl1 at e;split at e
 .rename_i off a0;cases ho:By off 0 with
  |true=>have:=OF ho;subst this;exact (h _).trans e
  |false=>rw [ho] at e;cases e
 .cases e
abbrev cl2 (d:List MV->MV->Option MV):List MV->Option MV:=λms=>match ms with|[.cell (.func off a0),a1]=>(match By off 0 with|true=>d a0 a1|false=>none)|_=>none
def Z9 {d:List MV->MV->Option MV}{B:List MV->Option MV}(h: ∀a0 a1,B [.cell (.func 0 a0),a1]=d a0 a1){ms:List MV}{r:MV}(e:cl2 d ms=some r):B ms=some r:=by
 unfold cl2 at e;split at e
 .rename_i off a0 a1;cases ho:By off 0 with
  |true=>have:=OF ho;subst this;exact (h _ _).trans e
  |false=>rw [ho] at e;cases e
 .cases e
def Jt (g:GT)(par:List (Nat×Nat))(n:Nat)(bs fl:List Nat)(fz ord:List (Nat×List Nat))(eV ft eW:List (Nat×fV))(dyn:List Nat):Ctx:=⟨vW KV,kk,g,gv,frs,Sj Xx,HJ Ot,par,n,bs,fl,On fz,Oo Sk,Fw Oq,On ord,Fy eV,Fy ft,Fy eW,dl,dyn,3000⟩
def QO {g:GT}(s:SG g)(aV:List (List Kd))(par:List (Nat×Nat))(tn:Nat)(bs fl:List Nat)(fz ord:List (Nat×List Nat))(eV ft eW:List (Nat×fV))(dyn:List Nat){n:Nat}{fn:Func}{F:List MV->Option MV}(hf:Tryz.prog.funcs[n]? =some fn)(hh:rU (Jt g par tn bs fl fz ord eV ft eW dyn) n fn aV=true)(hF: ∀{ms r},F ms=some r->rN (Jt g par tn bs fl fz ord eV ft eW dyn) aV none fn ms=some r):SG (aG n F g):=s.fn (c':=Jt g par tn bs fl fz ord eV ft eW dyn) ⟨rfl,rfl,rfl,rfl,rfl,rfl,rfl,rfl,rfl⟩ rfl kU K4 K6 Ou qT AX hf hh (λ_=>rfl) (fresh:=none) rfl hF
def Ov {g:GT}(s:SG g)(aV:List (List Kd))(tn:Nat)(eV ft eW:List (Nat×fV)){n:Nat}{fn:Func}{F:List MV->Option MV}(hf:Tryz.prog.funcs[n]? =some fn)(hh:rU (Jt g [] tn [] [] [] [] eV ft eW []) n fn aV=true)(hF: ∀{ms r},F ms=some r->rN (Jt g [] tn [] [] [] [] eV ft eW []) aV none fn ms=some r):SG (aG n F g):=QO s aV [] tn [] [] [] [] eV ft eW [] hf hh hF
def avR {g:GT}(s:SG g)(ty:Nat)(aV:List (List Kd))(par:List (Nat×Nat))(tn:Nat)(bs fl:List Nat)(fz ord:List (Nat×List Nat))(eV ft eW:List (Nat×fV))(dyn:List Nat){n:Nat}{fn:Func}{F:List MV->Option MV}(hf:Tryz.prog.funcs[n]? =some fn)(hh:rU (Jt g par tn bs fl fz ord eV ft eW dyn) n fn aV=true)(B1:yG (Jt g par tn bs fl fz ord eV ft eW dyn) n fn (some ty)=true)(hF: ∀{ms r},F ms=some r->rN (Jt g par tn bs fl fz ord eV ft eW dyn) aV (some ty) fn ms=some r):SG (aG n F g):=s.fn (c':=Jt g par tn bs fl fz ord eV ft eW dyn) ⟨rfl,rfl,rfl,rfl,rfl,rfl,rfl,rfl,rfl⟩ rfl kU K4 K6 Ou qT AX hf hh (λ_=>rfl) B1 hF
def aAu {g:GT}(s:SG g)(pos:Nat)(ks ko:List LK)(aV:List (List Kd))(par:List (Nat×Nat))(tn:Nat)(bs fl:List Nat)(fz ord:List (Nat×List Nat))(eV ft eW:List (Nat×fV))(dyn:List Nat){n:Nat}{fn:Func}{F:List MV->Option MV}(hf:Tryz.prog.funcs[n]? =some fn)(hs:cx.sig n=some (pos,ks,ko))(hh:NV (Jt g par tn bs fl fz ord eV ft eW dyn) n fn aV=true)(hF: ∀{ms r},F ms=some r->KB (Jt g par tn bs fl fz ord eV ft eW dyn) aV pos ks ko fn ms=some r):SG (aG n F g):=s.fnC kU K4 K6 Ou qT AX hf hs (λ_=>rfl) λh=>⟨Jt g par tn bs fl fz ord eV ft eW dyn,⟨rfl,rfl,rfl,rfl,rfl,rfl,rfl,rfl,rfl⟩,rfl,hh,hF h⟩
def qS (g:GT)(aV:List (List Kd))(par:List (Nat×Nat))(tn:Nat)(bs fl:List Nat)(fz ord:List (Nat×List Nat))(eV ft eW:List (Nat×fV))(dyn:List Nat)(fn:Func):List MV->Option MV:=rN (LD g par tn bs fl fz ord eV ft eW dyn) aV none fn
def gZ {g:GT}(s:SG g){aV:List (List Kd)}{par:List (Nat×Nat)}{tn:Nat}{bs fl:List Nat}{fz ord:List (Nat×List Nat)}{eV ft eW:List (Nat×fV)}{dyn:List Nat}{n:Nat}{fn:Func}(hf:Tryz.prog.funcs[n]? =some fn)(hh:rU (LD g par tn bs fl fz ord eV ft eW dyn) n fn aV=true:=by kernel_rfl):SG (aG n (qS g aV par tn bs fl fz ord eV ft eW dyn fn) g):=fnS s aV par tn bs fl fz ord eV ft eW dyn hf hh id
def qP (g:GT)(aV:List (List Kd))(tn:Nat)(eV ft eW:List (Nat×fV))(fn:Func):List MV->Option MV:=rN (LD g [] tn [] [] [] [] eV ft eW []) aV none fn
def kV {g:GT}(s:SG g){aV:List (List Kd)}{tn:Nat}{eV ft eW:List (Nat×fV)}{n:Nat}{fn:Func}(hf:Tryz.prog.funcs[n]? =some fn)(hh:rU (LD g [] tn [] [] [] [] eV ft eW []) n fn aV=true:=by kernel_rfl):SG (aG n (qP g aV tn eV ft eW fn) g):=fnP s aV tn eV ft eW hf hh id
def qF (g:GT)(ty:Nat)(aV:List (List Kd))(par:List (Nat×Nat))(tn:Nat)(bs fl:List Nat)(fz ord:List (Nat×List Nat))(eV ft eW:List (Nat×fV))(dyn:List Nat)(fn:Func):List MV->Option MV:=rN (LD g par tn bs fl fz ord eV ft eW dyn) aV (some ty) fn
def Sn {g:GT}(s:SG g){ty:Nat}{aV:List (List Kd)}{par:List (Nat×Nat)}{tn:Nat}{bs fl:List Nat}{fz ord:List (Nat×List Nat)}{eV ft eW:List (Nat×fV)}{dyn:List Nat}{n:Nat}{fn:Func}(hf:Tryz.prog.funcs[n]? =some fn)(hr:yG (LD g par tn bs fl fz ord eV ft eW dyn) n fn (some ty)=true:=by kernel_rfl) (hh:rU (LD g par tn bs fl fz ord eV ft eW dyn) n fn aV=true:=by kernel_rfl):SG (aG n (qF g ty aV par tn bs fl fz ord eV ft eW dyn fn) g):=fnF s ty aV par tn bs fl fz ord eV ft eW dyn hf hh hr id
def qC (g:GT)(pos:Nat)(ks ko:List LK)(aV:List (List Kd))(par:List (Nat×Nat))(tn:Nat)(bs fl:List Nat)(fz ord:List (Nat×List Nat))(eV ft eW:List (Nat×fV))(dyn:List Nat)(fn:Func):List MV->Option MV:=KB (LD g par tn bs fl fz ord eV ft eW dyn) aV pos ks ko fn
def aoY {g:GT}(s:SG g){pos:Nat}{ks ko:List LK}{aV:List (List Kd)}{par:List (Nat×Nat)}{tn:Nat}{bs fl:List Nat}{fz ord:List (Nat×List Nat)}{eV ft eW:List (Nat×fV)}{dyn:List Nat}{n:Nat}{fn:Func}(hf:Tryz.prog.funcs[n]? =some fn)(hs:cx.sig n=some (pos,ks,ko):=by kernel_rfl) (hh:NV (LD g par tn bs fl fz ord eV ft eW dyn) n fn aV=true:=by kernel_rfl):SG (aG n (qC g pos ks ko aV par tn bs fl fz ord eV ft eW dyn fn) g):=fnC s pos ks ko aV par tn bs fl fz ord eV ft eW dyn hf hs hh id
def qSR (g:GT)(aV:List (List Kd))(par:List (Nat×Nat))(tn:Nat)(bs fl:List Nat)(fz ord:List (Nat×List Nat))(eV ft eW:List (Nat×fV))(dyn:List Nat)(fn:Func):List MV->Option MV:=rN (Jt g par tn bs fl fz ord eV ft eW dyn) aV none fn
def wR {g:GT}(s:SG g){aV:List (List Kd)}{par:List (Nat×Nat)}{tn:Nat}{bs fl:List Nat}{fz ord:List (Nat×List Nat)}{eV ft eW:List (Nat×fV)}{dyn:List Nat}{n:Nat}{fn:Func}(hf:Tryz.prog.funcs[n]? =some fn)(hh:rU (Jt g par tn bs fl fz ord eV ft eW dyn) n fn aV=true:=by kernel_rfl):SG (aG n (qSR g aV par tn bs fl fz ord eV ft eW dyn fn) g):=QO s aV par tn bs fl fz ord eV ft eW dyn hf hh id
def wS (g:GT)(aV:List (List Kd))(tn:Nat)(eV ft eW:List (Nat×fV))(fn:Func):List MV->Option MV:=rN (Jt g [] tn [] [] [] [] eV ft eW []) aV none fn
def cv {g:GT}(s:SG g){aV:List (List Kd)}{tn:Nat}{eV ft eW:List (Nat×fV)}{n:Nat}{fn:Func}(hf:Tryz.prog.funcs[n]? =some fn)(hh:rU (Jt g [] tn [] [] [] [] eV ft eW []) n fn aV=true:=by kernel_rfl):SG (aG n (wS g aV tn eV ft eW fn) g):=Ov s aV tn eV ft eW hf hh id
def qFR (g:GT)(ty:Nat)(aV:List (List Kd))(par:List (Nat×Nat))(tn:Nat)(bs fl:List Nat)(fz ord:List (Nat×List Nat))(eV ft eW:List (Nat×fV))(dyn:List Nat)(fn:Func):List MV->Option MV:=rN (Jt g par tn bs fl fz ord eV ft eW dyn) aV (some ty) fn
def aaa {g:GT}(s:SG g){ty:Nat}{aV:List (List Kd)}{par:List (Nat×Nat)}{tn:Nat}{bs fl:List Nat}{fz ord:List (Nat×List Nat)}{eV ft eW:List (Nat×fV)}{dyn:List Nat}{n:Nat}{fn:Func}(hf:Tryz.prog.funcs[n]? =some fn)(hr:yG (Jt g par tn bs fl fz ord eV ft eW dyn) n fn (some ty)=true:=by kernel_rfl) (hh:rU (Jt g par tn bs fl fz ord eV ft eW dyn) n fn aV=true:=by kernel_rfl):SG (aG n (qFR g ty aV par tn bs fl fz ord eV ft eW dyn fn) g):=avR s ty aV par tn bs fl fz ord eV ft eW dyn hf hh hr id
def qCR (g:GT)(pos:Nat)(ks ko:List LK)(aV:List (List Kd))(par:List (Nat×Nat))(tn:Nat)(bs fl:List Nat)(fz ord:List (Nat×List Nat))(eV ft eW:List (Nat×fV))(dyn:List Nat)(fn:Func):List MV->Option MV:=KB (Jt g par tn bs fl fz ord eV ft eW dyn) aV pos ks ko fn
def qU {g:GT}(s:SG g){pos:Nat}{ks ko:List LK}{aV:List (List Kd)}{par:List (Nat×Nat)}{tn:Nat}{bs fl:List Nat}{fz ord:List (Nat×List Nat)}{eV ft eW:List (Nat×fV)}{dyn:List Nat}{n:Nat}{fn:Func}(hf:Tryz.prog.funcs[n]? =some fn)(hs:cx.sig n=some (pos,ks,ko):=by kernel_rfl) (hh:NV (Jt g par tn bs fl fz ord eV ft eW dyn) n fn aV=true:=by kernel_rfl):SG (aG n (qCR g pos ks ko aV par tn bs fl fz ord eV ft eW dyn fn) g):=aAu s pos ks ko aV par tn bs fl fz ord eV ft eW dyn hf hs hh id
def rS (g:GT)(aV:List (List Kd))(par:List (Nat×Nat))(tn:Nat)(bs fl:List Nat)(fz ord:List (Nat×List Nat))(eV ft eW:List (Nat×fV))(dyn:List Nat)(n:Nat)(fn:Func):GT:=aG n (rN (Jt g par tn bs fl fz ord eV ft eW dyn) aV none fn) g
def avS {g:GT}(s:SG g){aV:List (List Kd)}{par:List (Nat×Nat)}{tn:Nat}{bs fl:List Nat}{fz ord:List (Nat×List Nat)}{eV ft eW:List (Nat×fV)}{dyn:List Nat}{n:Nat}{fn:Func}(hf:Tryz.prog.funcs[n]? =some fn)(hh:rU (Jt g par tn bs fl fz ord eV ft eW dyn) n fn aV=true):SG (rS g aV par tn bs fl fz ord eV ft eW dyn n fn):=QO s aV par tn bs fl fz ord eV ft eW dyn hf hh id
abbrev rP (g:GT) (aV:List (List Kd)) (tn:Nat) (eV ft eW:List (Nat×fV)) (n:Nat) (fn:Func):=rS g aV [] tn [] [] [] [] eV ft eW [] n fn
def avT {g:GT}(s:SG g){aV:List (List Kd)}{tn:Nat}{eV ft eW:List (Nat×fV)}{n:Nat}{fn:Func}(hf:Tryz.prog.funcs[n]? =some fn)(hh:rU (Jt g [] tn [] [] [] [] eV ft eW []) n fn aV=true):SG (rP g aV tn eV ft eW n fn):=avS s hf hh
def rF (g:GT)(ty:Nat)(aV:List (List Kd))(par:List (Nat×Nat))(tn:Nat)(bs fl:List Nat)(fz ord:List (Nat×List Nat))(eV ft eW:List (Nat×fV))(dyn:List Nat)(n:Nat)(fn:Func):GT:=aG n (rN (Jt g par tn bs fl fz ord eV ft eW dyn) aV (some ty) fn) g
def avU {g:GT}(s:SG g){ty:Nat}{aV:List (List Kd)}{par:List (Nat×Nat)}{tn:Nat}{bs fl:List Nat}{fz ord:List (Nat×List Nat)}{eV ft eW:List (Nat×fV)}{dyn:List Nat}{n:Nat}{fn:Func}(hf:Tryz.prog.funcs[n]? =some fn)(hr:yG (Jt g par tn bs fl fz ord eV ft eW dyn) n fn (some ty)=true)(hh:rU (Jt g par tn bs fl fz ord eV ft eW dyn) n fn aV=true):SG (rF g ty aV par tn bs fl fz ord eV ft eW dyn n fn):=avR s ty aV par tn bs fl fz ord eV ft eW dyn hf hh hr id
def vH:List MV->Option MV:=qP ary [] 30 [(4,⟨[0,3],[],[],[(0,[(29,.sc (.k .b))])],[]⟩)] [] [(2,⟨[0],[],[(3,.sc (.k (.i .i64)))],[(1,[(2,.sc (.k .b))]),(2,[])],[]⟩)] Tryz.f4
def Ju:GT:=aG 4 vH ary
def QP:SG Ju:=kV ael Tryz.func4
def zH:List MV->Option MV:=wS Ju [] 4 [] [] [] Tryz.f22
def Jv:GT:=aG 22 zH Ju
def QQ:SG Jv:=cv QP Tryz.func22
def zJ:List MV->Option MV:=wS Jv [] 2 [] [] [] Tryz.f23
def So:GT:=aG 23 zJ Jv
def QR:SG So:=cv QQ Tryz.func23
def zK:Option MV:=bd (zH []) λrA=>
 gA rA λcs=>
 gC cs λm zL=>
 gL m λL=>
 gN zL<|
 bd (zJ []) λaO=>
 gA aO λFj=>
 jIL Fj λeh L1=>
 some (.agg (fH L eh L1 ([]:List MV) ([]:List MV)))
def Jw:GT:=aG 7 (amb zK) So
def QS:SG Jw:=Ov QR [] 4 [] [] [] Tryz.func7 abs (TZ abs)
def om:List MV->Option MV:=wS Jw [] 6 [] [] [] Tryz.f136
def HK:GT:=aG 136 om Jw
def Jx:SG HK:=cv QS Tryz.func136
def qV (x y:MV):Option MV:=gI .i64 x λx1=>
 gI .i64 y λy1=>
 bd (om [.i .i64 x1]) λrA=>
 gB rA λx2=>
 bd (om [.i .i64 y1]) λaO=>
 gB aO λx3=>
 eC x2 (
 eC x3 (
 some (.i .i64 0)) (
 some (.i .i64 (-1)))) (
 eC x3 (
 some (.i .i64 1)) (
 eC (decide (x1<y1)) (
 some (.i .i64 (-1))) (
 eC (decide (y1<x1)) (
 some (.i .i64 1)) (
 some (.i .i64 0)))))
def wT:GT:=aG 91 (LB qV) HK
def F5:SG wT:=Ov Jx [] 20 [] [] [] Tryz.func91 abs (qv (λ_ _=>abs))
def jn:List MV->Option MV:=wS wT [] 9 [] [] [] Tryz.f90
def pK:GT:=aG 90 jn wT
def AY:SG pK:=cv F5 Tryz.func90
def cG:GT:=pK
def iu (x0 x1:MV):cG 90 [x0,x1]=jn [x0,x1]:=abs
def cU (x target cmp:MV):Option MV:=gL x λx1=>
 gI .i64 target λyh=>
 gR cmp λXy=>
 eF x1 λlen=>
 bd (oT 3000 (λzL=>
 jII zL λi j=>
 eC (decide (i<j)) (
 bS (decide ((0:Int)<=1))<|
 idx x1 (bD .i64 (BY (bD .u64 (bD .i64 (i+j))) (2^min (sh 1) (AI .u64)))) λy=>
 gA y λcs=>
 lH cs λClient Seq E Value Version Names=>
 YQ Xy λfn cap=>
 bS (!gv fn)<|
 bd (cG fn ([.agg (dL Client Seq E Value Version Names),.i .i64 yh]++cap)) λrA=>
 gI .i64 rA λx2=>
 bd (
 eC (decide (x2<0)) (
 some (0,[.i .i64 (bD .i64 ((bD .i64 (BY (bD .u64 (bD .i64 (i+j))) (2^min (sh 1) (AI .u64))))+1)),.i .i64 j])) (
 some (0,[.i .i64 i,.i .i64 (bD .i64 (BY (bD .u64 (bD .i64 (i+j))) (2^min (sh 1) (AI .u64))))]))) λp1=>
 bS (By p1.1 0)<|
 oII .i64 .i64 p1.2 λi1 j1=>
 some (.inl [.i .i64 i1,.i .i64 j1])) (
 some (.inr (2,[.i .i64 i])))) [.i .i64 0,.i .i64 (len:Int)]) λp=>
 bS (By p.1 2)<|
 gC p.2 λm10 Xz=>
 gI .i64 m10 λi2=>
 gN Xz<|
 bd (
 eC (decide (i2<(len:Int))) (
 idx x1 i2 λy1=>
 gA y1 λFj=>
 lH Fj λqW LF E1 pL jo Jy=>
 YQ Xy λyV qX=>
 bS (!gv yV)<|
 bd (cG yV ([.agg (dL qW LF E1 pL jo Jy),.i .i64 yh]++qX)) λaO=>
 gI .i64 aO λx3=>
 some [.i .i64 i2,.b (decide (x3=0))]) (
 some [.i .i64 i2,.b false])) λvs=>
 jIB vs λx4 x5=>
 some (.cw [.i .i64 x4,.b x5])
def dZ:GT:=aG 89 (TY cU) pK
def my:SG dZ:=Ov AY [] 49 [(8,⟨[0,1,2,8,9],[],[],[(0,[(6,.sc (.k (.i .i64))),(7,.sc (.k .b))])],[]⟩)] [(6,⟨[0,1,2,8,11],[],[],[(0,[(9,.sc (.k (.i .i64))),(10,.sc (.k (.i .i64)))])],[]⟩)] [(3,⟨[0,1,2,8],[],[(9,.sc (.k (.i .i64))),(10,.sc (.k (.i .i64)))],[(2,[(9,.sc (.k (.i .i64)))])],[]⟩)] Tryz.func89 abs (xZ (λ_ _ _=>abs))
def kW:List MV->Option MV:=wS dZ [] 12 [] [] [] Tryz.f45
def sH:GT:=aG 45 kW dZ
def C4:SG sH:=cv my Tryz.func45
def AZ:List MV->Option MV:=wS sH [] 22 [] [] [] Tryz.f27
def F6:GT:=aG 27 AZ sH
def Ow:SG F6:=cv C4 Tryz.func27
def lW:List MV->Option MV:=qSR F6 [] [] 62 [] [34,36,49] [(1,[1])] [(14,[0,1,2,3,4,5,6,7,8,9,10,11]),(17,[0,1,2,3,4,5,6,7])] [] [(12,⟨[1,2,3,12],[],[],[(0,[(26,.sc (.k .b))])],[]⟩),(7,⟨[1,2,3,12],[],[],[(0,[(15,.sc (.k .b))])],[]⟩),(6,⟨[1,2,3,12],[],[],[(0,[(15,.sc (.k .b))])],[]⟩),(5,⟨[1,2,3,12],[],[],[(0,[(15,.sc (.k .b))])],[]⟩)] [] [] Tryz.f55
def BP:GT:=aG 55 lW F6
def EW:SG BP:=wR Ow Tryz.func55
def zM (o:MV):Option MV:=gA o λcs=>
 vG cs λClient Seq Kind Path Value Version Session Span=>
 bd (
 eC (decide ((0:Int)<=Client)) (
 eC (decide (Client<=1000)) (
 eC (decide ((1:Int)<=Seq)) (
 some [.b (decide (Seq<=1000000000))]) (
 some [.b false])) (
 some [.b false])) (
 some [.b false])) λvs=>
 gC vs λm8 Ox=>
 gB m8 λwho=>
 gN Ox<|
 bd (
 eC who (
 eC (decide ((0:Int)<=Kind)) (
 eC (decide (Kind<=11)) (
 eC (decide ((Path.length:Int)<=100)) (
 eC (decide ((Value.length:Int)<=1000)) (
 bd (lW [.agg [.i .i64 Client,.i .i64 Seq,.i .i64 Kind,.s Path,.s Value,.i .i64 Version,.i .i64 Session,.i .i64 Span]]) λrA=>
 gA rA λFj=>
 vG Fj λqW LF avV Sp pL jo aiu aiv=>
 some [.b ((decide (Client=qW))&&((decide (Seq=LF))&&((decide (Kind=avV))&&((decide (Path=Sp))&&((decide (Value=pL))&&((decide (Version=jo))&&((decide (Session=aiu))&&(decide (Span=aiv)))))))))]) (
 some [.b false])) (
 some [.b false])) (
 some [.b false])) (
 some [.b false])) (
 some [.b false])) λAk=>
 gC Ak λm17 Oy=>
 gB m17 λx=>
 gN Oy<|
 some (.b x)
def Jz:GT:=aG 30 (Ji zM) BP
def QT:SG Jz:=QO EW [] [] 51 [] [] [] [(2,[0,1,2,3,4,5,6,7,8,9,10,11,12,13,14,15,16,17,18,19,20,21,22,23,24,25,26,27,28,29])] [(2,⟨[1,3],[],[],[(0,[(2,.sc (.k .b))])],[]⟩),(1,⟨[1],[],[],[(0,[(3,.sc (.k .b))])],[]⟩)] [] [] [] Tryz.func30 abs (pn (λ_=>abs))
def kX:List MV->Option MV:=wS Jz [] 58 [(10,⟨[2,4,6,8],[],[],[(0,[(47,.sc (.k .b))])],[]⟩),(8,⟨[2,3,4,6,7,8],[],[],[(0,[(37,.sc (.k .b))])],[]⟩),(6,⟨[2,3,4,6,7,8],[],[],[(0,[(27,.sc (.k .b))])],[]⟩)] [(9,⟨[2,8],[],[],[(0,[(4,.box [.k (.i .i64),.k (.i .i64),.k (.i .i64),.k .s,.k (.i .i64),.k .l]),(6,.box [.k (.i .i64),.k (.i .i64),.k (.i .i64),.k .s,.k (.i .i64),.k .l])]),(1,[(4,.box [.k (.i .i64),.k (.i .i64),.k (.i .i64),.k .s,.k (.i .i64),.k .l]),(5,.sc (.k .b))])],[]⟩),(5,⟨[2,3,7,8],[],[],[(0,[(4,.box [.k (.i .i64),.k (.i .i64),.k (.i .i64),.k .s,.k (.i .i64),.k .l]),(6,.box [.k (.i .i64),.k (.i .i64),.k (.i .i64),.k .s,.k (.i .i64),.k .l])]),(1,[(4,.box [.k (.i .i64),.k (.i .i64),.k (.i .i64),.k .s,.k (.i .i64),.k .l]),(5,.sc (.k .b))])],[]⟩)] [] Tryz.f41
def sI:GT:=aG 41 kX Jz
def C5:SG sI:=cv QT Tryz.func41
def jq:List MV->Option MV:=qCR sI 0 di di [] [(0,1000000)] 2 [] [] [] [] [] [] [] [] Tryz.f74
def pM:GT:=aG 74 jq sI
def A0:SG pM:=qU C5 Tryz.func74
def j0:List MV->Option MV:=wS pM [] 9 [] [] [] Tryz.f181
def qY:GT:=aG 181 j0 pM
def B8:SG qY:=cv A0 Tryz.func181
def cq:GT:=qY
def gU (x0 x1:MV):cq 181 [x0,x1]=j0 [x0,x1]:=abs
def cH (x target cmp:MV):Option MV:=gL x λx1=>
 gI .i64 target λyh=>
 gR cmp λXy=>
 eF x1 λlen=>
 bd (oT 3000 (λzL=>
 jII zL λi j=>
 eC (decide (i<j)) (
 bS (decide ((0:Int)<=1))<|
 idx x1 (bD .i64 (BY (bD .u64 (bD .i64 (i+j))) (2^min (sh 1) (AI .u64)))) λy=>
 gA y λcs=>
 arm cs λId Span kG=>
 YQ Xy λfn cap=>
 bS (!gv fn)<|
 bd (cq fn ([.agg [.i .i64 Id,.i .i64 Span,.i .i64 kG],.i .i64 yh]++cap)) λrA=>
 gI .i64 rA λx2=>
 bd (
 eC (decide (x2<0)) (
 some (0,[.i .i64 (bD .i64 ((bD .i64 (BY (bD .u64 (bD .i64 (i+j))) (2^min (sh 1) (AI .u64))))+1)),.i .i64 j])) (
 some (0,[.i .i64 i,.i .i64 (bD .i64 (BY (bD .u64 (bD .i64 (i+j))) (2^min (sh 1) (AI .u64))))]))) λp1=>
 bS (By p1.1 0)<|
 oII .i64 .i64 p1.2 λi1 j1=>
 some (.inl [.i .i64 i1,.i .i64 j1])) (
 some (.inr (2,[.i .i64 i])))) [.i .i64 0,.i .i64 (len:Int)]) λp=>
 bS (By p.1 2)<|
 gC p.2 λm7 Ox=>
 gI .i64 m7 λi2=>
 gN Ox<|
 bd (
 eC (decide (i2<(len:Int))) (
 idx x1 i2 λy1=>
 gA y1 λFj=>
 arm Fj λId1 aiv arD=>
 YQ Xy λyV qX=>
 bS (!gv yV)<|
 bd (cq yV ([.agg [.i .i64 Id1,.i .i64 aiv,.i .i64 arD],.i .i64 yh]++qX)) λaO=>
 gI .i64 aO λx3=>
 some [.i .i64 i2,.b (decide (x3=0))]) (
 some [.i .i64 i2,.b false])) λvs=>
 jIB vs λx4 x5=>
 some (.cw [.i .i64 x4,.b x5])
def dC:GT:=aG 180 (TY cH) qY
def lI:SG dC:=Ov B8 [] 49 [(8,⟨[0,1,2,8,9],[],[],[(0,[(6,.sc (.k (.i .i64))),(7,.sc (.k .b))])],[]⟩)] [(6,⟨[0,1,2,8,11],[],[],[(0,[(9,.sc (.k (.i .i64))),(10,.sc (.k (.i .i64)))])],[]⟩)] [(3,⟨[0,1,2,8],[],[(9,.sc (.k (.i .i64))),(10,.sc (.k (.i .i64)))],[(2,[(9,.sc (.k (.i .i64)))])],[]⟩)] Tryz.func180 abs (xZ (λ_ _ _=>abs))
def lX:List MV->Option MV:=wS dC [] 12 [] [] [] Tryz.f153
def uA:GT:=aG 153 lX dC
def EX:SG uA:=cv lI Tryz.func153
def Ej:List MV->Option MV:=wS uA [] 14 [] [] [] Tryz.f120
def JA:GT:=aG 120 Ej uA
def QU:SG JA:=cv EX Tryz.func120
def jA:List MV->Option MV:=wS JA [] 18 [(1,⟨[0,1],[],[],[(0,[(4,.sc (.k .b))])],[]⟩)] [] [] Tryz.f212
def mz:GT:=aG 212 jA JA
def xA:SG mz:=cv QU Tryz.func212
def jB:List MV->Option MV:=wS mz [] 15 [] [] [] Tryz.f201
def mA:GT:=aG 201 jB mz
def xB:SG mA:=cv xA Tryz.func201
def mJ:List MV->Option MV:=wS mA [] 11 [] [] [] Tryz.f191
def qZ:GT:=aG 191 mJ mA
def B9:SG qZ:=cv xB Tryz.func191
def o6:List MV->Option MV:=wS qZ [] 6 [] [] [] Tryz.f206
def yK:GT:=aG 206 o6 qZ
def HL:SG yK:=cv B9 Tryz.func206
def j5:GT:=yK
def uB (x0:MV):j5 206 [x0]=o6 [x0]:=abs
def pv (sA f K3:MV):Option MV:=gS sA λsA1=>
 gR f λf1=>
 gB K3 λarF=>
 bd (oT 3000 (λzL=>
 gC zL λm A3=>
 gL m λes=>
 gN A3<|
 eC (Qt es) (
 YQ f1 λfn cap=>
 bS (!gv fn)<|
 bd (j5 fn ([.i .i32 (FD es)]++cap)) λrA=>
 gB rA λx=>
 eC (decide (x=arF)) (
 some (.inr (1,[.i .i64 (vN es)]))) (
 some (.inl [.list (FE es)]))) (
 some (.inr (2,[])))) [.list ([.s sA1,.i .i64 0]:List MV)]) λp=>
 eC (By p.1 2) (
 gN p.2<|
 some (.i .i64 (-1))) (
 bS (By p.1 1)<|
 gC p.2 λm1 JB=>
 gI .i64 m1 λx1=>
 gN JB<|
 some (.i .i64 x1))
def uC:GT:=aG 232 (TY pv) yK
def EY:SG uC:=Ov HL [] 21 [] [] [(2,⟨[1,2],[],[(10,.mp ⟨true,[],true⟩)],[(1,[(6,.sc (.k (.i .i64)))]),(2,[])],[]⟩)] Tryz.func232 abs (xZ (λ_ _ _=>abs))
def mK:List MV->Option MV:=wS uC [] 8 [] [] [] Tryz.f223
def q0:GT:=aG 223 mK uC
def Ca:SG q0:=cv EY Tryz.func223
def j6:List MV->Option MV:=wS q0 [] 9 [] [] [] Tryz.f205
def nL:GT:=aG 205 j6 q0
def yL:SG nL:=cv Ca Tryz.func205
def yi:List MV->Option MV:=wS nL [] 20 [(1,⟨[0],[],[],[(0,[(2,.sc (.k .b))])],[]⟩)] [] [] Tryz.f195
def C6:GT:=aG 195 yi nL
def LG:SG C6:=cv yL Tryz.func195
def q8:List MV->Option MV:=wS C6 [] 6 [] [] [] Tryz.f194
def A4:GT:=aG 194 q8 C6
def JC:SG A4:=cv LG Tryz.func194
def gm:GT:=A4
def pN (x0:MV):gm 194 [x0]=q8 [x0]:=abs
def iN (sA f:MV):Option MV:=gL sA λsA1=>
 gR f λf1=>
 eF sA1 λlen=>
 bd (oT 3000 (λzL=>
 gC zL λm A3=>
 gI .i64 m λx=>
 gN A3<|
 eC (decide (x<(len:Int))) (
 idx sA1 x λy=>
 gS y λx1=>
 YQ f1 λfn cap=>
 bS (!gv fn)<|
 bd (gm fn ([.s x1]++cap)) λrA=>
 gB rA λx2=>
 eC x2 (
 some (.inr (1,[.i .i64 x]))) (
 some (.inl [.i .i64 (bD .i64 (x+1))]))) (
 some (.inr (2,[])))) [.i .i64 0]) λp=>
 eC (By p.1 2) (
 gN p.2<|
 some (.i .i64 (-1))) (
 bS (By p.1 1)<|
 gC p.2 λm1 JB=>
 gI .i64 m1 λx3=>
 gN JB<|
 some (.i .i64 x3))
def lJ:GT:=aG 203 (LB iN) A4
def wU:SG lJ:=Ov JC [] 19 [] [] [(2,⟨[0,1,7],[],[(8,.sc (.k (.i .i64)))],[(1,[(4,.sc (.k (.i .i64)))]),(2,[])],[]⟩)] Tryz.func203 abs (qv (λ_ _=>abs))
def fL:List MV->Option MV:=wS lJ [] 9 [] [] [] Tryz.f193
def jF:GT:=aG 193 fL lJ
def uc:SG jF:=cv wU Tryz.func193
def A5:List MV->Option MV:=wS jF [] 34 [(7,⟨[],[],[],[(0,[(2,.sc (.own 24 9 true)),(3,.sc (.k .b)),(6,.sc (.own 24 9 true))])],[24]⟩),(2,⟨[0,4,5],[],[],[(0,[(12,.sc (.k .b))])],[24]⟩)] [] [] Tryz.f168
def F7:GT:=aG 168 A5 jF
def Oz:SG F7:=cv uc Tryz.func168
def jL:List MV->Option MV:=wS F7 [] 6 [] [] [] Tryz.f225
def BQ:GT:=aG 225 jL F7
def EZ:SG BQ:=cv Oz Tryz.func225
def mL (x y:MV):Option MV:=gS x λx1=>
 gS y λy1=>
 bd (jL [.s x1]) λrA=>
 gB rA λx2=>
 bd (jL [.s y1]) λaO=>
 gB aO λx3=>
 eC x2 (
 eC x3 (
 some (.i .i64 0)) (
 some (.i .i64 (-1)))) (
 eC x3 (
 some (.i .i64 1)) (
 eC (ad1 x1 y1) (
 some (.i .i64 (-1))) (
 eC (!(ad1 x1 y1||decide (x1=y1))) (
 some (.i .i64 1)) (
 some (.i .i64 0)))))
def q9:GT:=aG 209 (LB mL) BQ
def Cb:SG q9:=Ov EZ [] 20 [] [] [] Tryz.func209 abs (qv (λ_ _=>abs))
def j7:List MV->Option MV:=wS q9 [] 36 [] [] [(2,⟨[0,1,9,10],[],[(11,.sc (.k (.i .i64)))],[(1,[(4,.sc (.k (.i .i64)))]),(2,[])],[]⟩)] Tryz.f198
def nM:GT:=aG 198 j7 q9
def yM:SG nM:=cv Cb Tryz.func198
def A6:List MV->Option MV:=wS nM [] 29 [(3,⟨[5,6,7,8],[],[],[(0,[(4,.sc (.k .b))])],[]⟩)] [] [] Tryz.f184
def F8:GT:=aG 184 A6 nM
def OA:SG F8:=cv yM Tryz.func184
def jr:List MV->Option MV:=wS F8 [] 15 [] [] [] Tryz.f183
def pO:GT:=aG 183 jr F8
def A7:SG pO:=cv OA Tryz.func183
def cr:GT:=pO
def gE (x0 x1:MV):cr 183 [x0,x1]=jr [x0,x1]:=abs
def cI (x target cmp:MV):Option MV:=gL x λx1=>
 gS target λyh=>
 gR cmp λXy=>
 eF x1 λlen=>
 bd (oT 3000 (λzL=>
 jII zL λi j=>
 eC (decide (i<j)) (
 bS (decide ((0:Int)<=1))<|
 idx x1 (bD .i64 (BY (bD .u64 (bD .i64 (i+j))) (2^min (sh 1) (AI .u64)))) λy=>
 gA y λcs=>
 Si cs λPath Value Version dt=>
 YQ Xy λfn cap=>
 bS (!gv fn)<|
 bd (cr fn ([.agg [.s Path,.s Value,.i .i64 Version,.i .i64 dt],.s yh]++cap)) λrA=>
 gI .i64 rA λx2=>
 bd (
 eC (decide (x2<0)) (
 some (0,[.i .i64 (bD .i64 ((bD .i64 (BY (bD .u64 (bD .i64 (i+j))) (2^min (sh 1) (AI .u64))))+1)),.i .i64 j])) (
 some (0,[.i .i64 i,.i .i64 (bD .i64 (BY (bD .u64 (bD .i64 (i+j))) (2^min (sh 1) (AI .u64))))]))) λp1=>
 bS (By p1.1 0)<|
 oII .i64 .i64 p1.2 λi1 j1=>
 some (.inl [.i .i64 i1,.i .i64 j1])) (
 some (.inr (2,[.i .i64 i])))) [.i .i64 0,.i .i64 (len:Int)]) λp=>
 bS (By p.1 2)<|
 gC p.2 λm8 aiw=>
 gI .i64 m8 λi2=>
 gN aiw<|
 bd (
 eC (decide (i2<(len:Int))) (
 idx x1 i2 λy1=>
 gA y1 λFj=>
 Si Fj λSp pL jo aix=>
 YQ Xy λyV qX=>
 bS (!gv yV)<|
 bd (cr yV ([.agg [.s Sp,.s pL,.i .i64 jo,.i .i64 aix],.s yh]++qX)) λaO=>
 gI .i64 aO λx3=>
 some [.i .i64 i2,.b (decide (x3=0))]) (
 some [.i .i64 i2,.b false])) λvs=>
 jIB vs λx4 x5=>
 some (.cw [.i .i64 x4,.b x5])
def dD:GT:=aG 182 (TY cI) pO
def lK:SG dD:=Ov A7 [] 49 [(8,⟨[0,1,2,8,9],[],[],[(0,[(6,.sc (.k (.i .i64))),(7,.sc (.k .b))])],[]⟩)] [(6,⟨[0,1,2,8,11],[],[],[(0,[(9,.sc (.k (.i .i64))),(10,.sc (.k (.i .i64)))])],[]⟩)] [(3,⟨[0,1,2,8],[],[(9,.sc (.k (.i .i64))),(10,.sc (.k (.i .i64)))],[(2,[(9,.sc (.k (.i .i64)))])],[]⟩)] Tryz.func182 abs (xZ (λ_ _ _=>abs))
def kY:List MV->Option MV:=wS dD [] 12 [] [] [] Tryz.f154
def sJ:GT:=aG 154 kY dD
def C7:SG sJ:=cv lK Tryz.func154
def wV:List MV->Option MV:=wS sJ [] 11 [] [] [] Tryz.f134
def F9:GT:=aG 134 wV sJ
def OB:SG F9:=cv C7 Tryz.func134
def pw:List MV->Option MV:=wS F9 [] 20 [] [] [] Tryz.f158
def uD:GT:=aG 158 pw F9
def E0:SG uD:=cv OB Tryz.func158
def Ek:List MV->Option MV:=wS uD [] 23 [] [] [] Tryz.f123
def JD:GT:=aG 123 Ek uD
def QV:SG JD:=cv E0 Tryz.func123
def eO:List MV->Option MV:=wS JD [] 19 [] [] [(2,⟨[0,1],[],[(5,.sc (.k (.i .i64)))],[(1,[(4,.sc (.k (.i .i64)))]),(2,[])],[]⟩)] Tryz.f196
def iP:GT:=aG 196 eO JD
def rM:SG iP:=cv QV Tryz.func196
def gn:List MV->Option MV:=wS iP [] 40 [] [(11,⟨[4,7,8],[],[],[(0,[(6,.sc (.k (.i .u32)))])],[]⟩)] [(8,⟨[4],[],[(6,.sc (.k (.i .u32))),(7,.sc (.k (.i .u32))),(8,.sc (.k (.i .i64)))],[(4,[(6,.sc (.k (.i .u32)))])],[]⟩),(3,⟨[0],[],[(4,.sc (.k (.i .u32))),(5,.sc (.k (.i .i64)))],[(2,[(4,.sc (.k (.i .u32)))])],[]⟩)] Tryz.f208
def kh:GT:=aG 208 gn iP
def uE:SG kh:=cv rM Tryz.func208
def dv:List MV->Option MV:=wS kh [] 87 [(17,⟨[0,1,5,6,7,9,11],[],[],[(0,[(85,.sc (.k .b))])],[]⟩),(9,⟨[0,1,5,6,7,8,9],[],[],[(0,[(47,.sc (.k .b))])],[]⟩)] [] [(12,⟨[0,1,5,6,7],[],[(9,.sc (.k (.i .u32))),(11,.sc (.k (.i .i64)))],[(1,[(4,.sc (.k (.i .i64)))]),(4,[])],[]⟩),(6,⟨[0,1,5,6,7,8],[],[(9,.sc (.k (.i .u32))),(10,.sc (.k (.i .i64)))],[(2,[(9,.sc (.k (.i .u32)))])],[]⟩)] Tryz.f197
def fb:GT:=aG 197 dv kh
def oP:SG fb:=cv uE Tryz.func197
def mM:List MV->Option MV:=wS fb [] 36 [] [] [] Tryz.f169
def ra:GT:=aG 169 mM fb
def Cc:SG ra:=cv oP Tryz.func169
def yl:List MV->Option MV:=wS ra [] 16 [] [] [] Tryz.f135
def C8:GT:=aG 135 yl ra
def LH:SG C8:=cv Cc Tryz.func135
def nN:List MV->Option MV:=wS C8 [[.s],[.b],[.l],[.s],[.i .i64]] 44 [] [] [] Tryz.f155
def C9:GT:=aG 155 nN C8
def Ga:SG C9:=cv LH Tryz.func155
def vg (sA p value owner:MV):Option MV:=gA sA λcs=>
 gC cs λm zL=>
 gL m λL=>
 gN zL<|
 gS p λp1=>
 gS value λaac=>
 gI .i64 owner λaad=>
 bd (kY [.agg [.list L],.s p1]) λrA=>
 gT rA λvs=>
 jIB vs λx x1=>
 bd (nN [.rp [.s p1],.rp [.b x1],.rp [.list L],.rp [.s aac],.rp [.i .i64 aad]]) λaO=>
 gI .i64 aO λx2=>
 eC (!decide (x2=0)) (
 some (.cw [.agg [.list L],.i .i64 x2])) (
 both (
 bd (kF 4 48 [.list L]) λbK=>
 gF bK λxs=>
 bd (ku 48 [.fresh xs,.i .i64 x,.fresh ([.agg [.s p1,.s aac,.i .i64 0,.i .i64 aad]]:List MV)]) λgQ=>
 gF gQ λxs1=>
 some (.cw [.agg [.list xs1],.i .i64 0])) (
 bd (kF 4 48 [.list L]) λn6=>
 gF n6 λxs2=>
 bd (ku 48 [.fresh xs2,.i .i64 x,.fresh ([.agg [.s p1,.s aac,.i .i64 0,.i .i64 aad]]:List MV)]) λrH=>
 gF rH λxs3=>
 some (.cw [.agg [.list xs3],.i .i64 0])))
def A8:GT:=aG 121 (avd vg) C9
def JE:SG A8:=QO Ga [] [] 38 [] [] [] [(6,[0,1,3,4,5,6,7,2,8,9,10,11,12,0,1,3,4,5,6,7,8,2,9,10,11,12,13,2,8])] [] [] [] [] Tryz.func121 abs (amc (λ_ _ _ _=>abs))
def lL:List MV->Option MV:=qCR A8 0 di di [] [(0,1000000)] 26 [22] [] [] [(1,[0,1,2,3,4,5,6,7,8,9,10,11,12,13,14,15,16])] [] [(1,⟨[0,1],[],[],[(0,[(1000000,.box [.k .l,.k (.i .i64),.k .l,.k .l,.k .l,.k (.i .i64),.k (.i .i64),.k (.i .i64),.k .s,.k .s,.k (.i .i64),.k (.i .i64),.k (.i .i64),.k (.i .i64),.k (.i .i64),.k (.i .i64),.k .s,.k (.i .i64),.k .l,.own 2000019 177 false])])],[]⟩)] [] [] Tryz.f122
def pP:GT:=aG 122 lL A8
def A9:SG pP:=qU JE Tryz.func122
def j8:List MV->Option MV:=qCR pP 0 di di [] [(0,1000000)] 60 [] [] [] [(0,[0,1,2,3,4,5,6,7,8,9,10,11,12,13,14,15,16,17,18,19]),(2,[0,1,2,3,4,5,6,7,8,9,10,11,12,13,14,15,16,17,18,19,20,21,22,23,24,25,26,27,28,29,30,31,32,33])] [(0,⟨[0,1000000],[2000019],[],[(0,[(21,.sc (.k .b))])],[]⟩)] [] [] [] Tryz.f75
def rc:GT:=aG 75 j8 pP
def Cd:SG rc:=qU A9 Tryz.func75
def nO:List MV->Option MV:=qCR rc 0 di di [] [(0,1000000)] 35 [] [24] [(1,[2])] [(0,[0,1,2,3,4,5,6,7,8,9,10,11,12,13,14,15,16]),(1,[0,1,2,3,4,5,6,7,8,9,10,11,12,13,14,15,16,17,18,19])] [] [] [] [] Tryz.f76
def wW:GT:=aG 76 nO rc
def Gb:SG wW:=qU Cd Tryz.func76
def j9:List MV->Option MV:=wS wW [] 35 [(2,⟨[2,3,8,9],[],[],[(0,[(31,.sc (.k .b))])],[]⟩)] [] [] Tryz.f159
def nP:GT:=aG 159 j9 wW
def yN:SG nP:=cv Gb Tryz.func159
def El:List MV->Option MV:=wS nP [] 59 [] [] [] Tryz.f124
def JF:GT:=aG 124 El nP
def QW:SG JF:=cv yN Tryz.func124
def nQ:List MV->Option MV:=qCR JF 0 di di [] [(0,1000000)] 64 [] [] [] [(0,[0,1,2,3,4,5,6,7,8,9,10,11,12,13,14,15,16,17,18,19,20,21,22,23,24,25,26,27,28,29,30,31,32,33]),(3,[0,1,2,3,4,5,6,7,8,9,10,11,12,13,14,15,16])] [] [(3,⟨[0],[],[],[(0,[(1000000,.box [.k .l,.k (.i .i64),.k .l,.k .l,.k .l,.k (.i .i64),.k (.i .i64),.k (.i .i64),.k .s,.k .s,.k (.i .i64),.k (.i .i64),.k (.i .i64),.k (.i .i64),.k (.i .i64),.k (.i .i64),.k .s,.k (.i .i64),.k .l,.own 2000019 177 false])])],[]⟩)] [] [] Tryz.f77
def wX:GT:=aG 77 nQ JF
def Gc:SG wX:=qU QW Tryz.func77
def lM:List MV->Option MV:=qSR wX [] [] 26 [] [] [] [(6,[0,1,2,3,4,5,6,7,8])] [] [] [(4,⟨[0,1,12],[],[(13,.sc (.k (.i .i64)))],[(1,[(4,.sc (.k .b))]),(2,[])],[]⟩)] [] Tryz.f187
def pQ:GT:=aG 187 lM wX
def Ba:SG pQ:=wR Gc Tryz.func187
def Bb:List MV->Option MV:=wS pQ [] 38 [(3,⟨[5,6,7,8],[],[],[(0,[(4,.sc (.k .b))])],[]⟩)] [] [] Tryz.f160
def Gd:GT:=aG 160 Bb pQ
def OC:SG Gd:=cv Ba Tryz.func160
def vh:List MV->Option MV:=wS Gd [] 53 [(6,⟨[1,3,6,8],[],[],[(0,[(26,.sc (.k .b))])],[47,51]⟩)] [] [] Tryz.f125
def Bc:GT:=aG 125 vh Gd
def JG:SG Bc:=cv OC Tryz.func125
def ka:List MV->Option MV:=qCR Bc 0 di di [] [(0,1000000)] 31 [] [] [] [(0,[0,1,2,3,4,5,6,7,8,9,10,11,12,13,14,15,16,17,18,19,20,21,22,23,24,25,26,27,28])] [] [] [] [] Tryz.f78
def re:GT:=aG 78 ka Bc
def Ce:SG re:=qU JG Tryz.func78
def Bd:List MV->Option MV:=wS re [] 14 [] [] [] Tryz.f162
def Ge:GT:=aG 162 Bd re
def OD:SG Ge:=cv Ce Tryz.func162
def Be:List MV->Option MV:=qSR Ge [] [] 66 [62] [] [] [] [] [(12,⟨[1,8,13,33,34,35],[],[],[(0,[(10,.sc (.own 63 9 true))])],[63]⟩)] [(7,⟨[1,8,33,34],[],[(10,.sc (.own 63 9 true)),(35,.sc (.k (.i .i64)))],[(2,[(10,.sc (.own 63 9 true))])],[63]⟩)] [] Tryz.f126
def Gf:GT:=aG 126 Be Ge
def OE:SG Gf:=wR OD Tryz.func126
def lY:List MV->Option MV:=qCR Gf 0 di di [] [(0,1000000)] 24 [] [] [] [(0,[0,1,2,3,4,5,6,7,8,9,10,11,12,13,14,15,16,17,18,19,20,21,22,23])] [] [] [] [] Tryz.f79
def BR:GT:=aG 79 lY Gf
def E7:SG BR:=qU OE Tryz.func79
def Bf (b id span:MV):Option MV:=gA b λcs=>
 jIL cs λeh L=>
 gI .i64 id λid1=>
 gI .i64 span λSq=>
 bd (lX [.agg [.i .i64 eh,.list L],.i .i64 id1]) λrA=>
 gT rA λvs=>
 jIB vs λx x1=>
 bd (
 eC (decide (id1<1)) (
 some [.b true]) (
 eC (decide (Sq<1)) (
 some [.b true]) (
 some [.b (decide ((1000:Int)<Sq))]))) λAk=>
 gC Ak λm4 Bg=>
 gB m4 λx2=>
 gN Bg<|
 eC x2 (
 some (.cw [.agg [.i .i64 eh,.list L],.i .i64 1])) (
 eC x1 (
 some (.cw [.agg [.i .i64 eh,.list L],.i .i64 7])) (
 eF L λlen=>
 eC (decide ((50:Int)<=(len:Int))) (
 some (.cw [.agg [.i .i64 eh,.list L],.i .i64 9])) (
 both (
 bd (kF 3 24 [.list L]) λaO=>
 gF aO λxs=>
 bd (ku 24 [.fresh xs,.i .i64 x,.fresh ([.agg [.i .i64 id1,.i .i64 Sq,.i .i64 (bD .i64 (eh+Sq))]]:List MV)]) λbK=>
 gF bK λxs1=>
 some (.cw [.agg [.i .i64 eh,.list xs1],.i .i64 0])) (
 bd (kF 3 24 [.list L]) λgQ=>
 gF gQ λxs2=>
 bd (ku 24 [.fresh xs2,.i .i64 x,.fresh ([.agg [.i .i64 id1,.i .i64 Sq,.i .i64 (bD .i64 (eh+Sq))]]:List MV)]) λn6=>
 gF n6 λxs3=>
 some (.cw [.agg [.i .i64 eh,.list xs3],.i .i64 0])))))
def Gg:GT:=aG 127 (TY Bf) BR
def OG:SG Gg:=QO E7 [] [] 52 [] [] [] [(8,[0,1,3,4,5,6,7,8,9,10,2,11,12,13,14,0,1,3,4,5,6,7,8,9,10,11,2,12,13,14,15,2,11])] [(2,⟨[1,2,3,6,8,9],[],[],[(0,[(16,.sc (.k .b))])],[39,48,49]⟩)] [] [] [] Tryz.func127 abs (xZ (λ_ _ _=>abs))
def lZ:List MV->Option MV:=qCR Gg 0 di di [] [(0,1000000)] 29 [] [] [] [(0,[0,1,2,3,4,5,6,7,8,9,10,11,12,13,14,15,16,17,18,19,20,21,22,23,24,25,26,27,28])] [] [] [] [] Tryz.f80
def uF:GT:=aG 80 lZ Gg
def E8:SG uF:=qU OG Tryz.func80
def ym:List MV->Option MV:=qSR uF [] [] 36 [] [] [] [(5,[0,1,2,3,4,5,6,7,8,9,10,11,12,13,14])] [] [] [] [] Tryz.f128
def Da:GT:=aG 128 ym uF
def LI:SG Da:=wR E8 Tryz.func128
def kZ:List MV->Option MV:=qCR Da 0 di di [] [(0,1000000)] 24 [] [] [] [(0,[0,1,2,3,4,5,6,7,8,9,10,11,12,13,14,15,16,17,18,19,20,21,22,23])] [] [] [] [] Tryz.f81
def sK:GT:=aG 81 kZ Da
def Db:SG sK:=qU LI Tryz.func81
def yn:List MV->Option MV:=wS sK [] 26 [] [] [] Tryz.f129
def Dc:GT:=aG 129 yn sK
def LJ:SG Dc:=cv Db Tryz.func129
def Bh:List MV->Option MV:=qSR Dc [] [] 40 [29,34] [] [] [] [(6,⟨[1,4,6,7,9,12,13,14],[30,35],[],[(0,[(25,.sc (.k .b))])],[30,35]⟩)] [] [(4,⟨[1,4,12,13],[],[(6,.sc (.own 30 9 true)),(7,.box [.own 35 124 true]),(14,.sc (.k (.i .i64)))],[(2,[(6,.sc (.own 30 9 true)),(7,.box [.own 35 124 true])])],[30,35]⟩)] [] Tryz.f166
def Gh:GT:=aG 166 Bh Dc
def OH:SG Gh:=wR LJ Tryz.func166
def pz:List MV->Option MV:=qCR Gh 0 di di [] [(0,1000000)] 41 [36] [] [] [] [] [] [(3,⟨[0,23,24],[],[(25,.sc (.k (.i .i64))),(1000000,.box [.k .l,.k (.i .i64),.k .l,.k .l,.k .l,.k (.i .i64),.k (.i .i64),.k (.i .i64),.k .s,.k .s,.k (.i .i64),.k (.i .i64),.k (.i .i64),.k (.i .i64),.k (.i .i64),.k (.i .i64),.k .s,.k (.i .i64),.k .l,.own 2000019 177 false])],[(2,[(1000000,.box [.k .l,.k (.i .i64),.k .l,.k .l,.k .l,.k (.i .i64),.k (.i .i64),.k (.i .i64),.k .s,.k .s,.k (.i .i64),.k (.i .i64),.k (.i .i64),.k (.i .i64),.k (.i .i64),.k (.i .i64),.k .s,.k (.i .i64),.k .l,.own 2000019 177 false])])],[]⟩)] [] Tryz.f130
def uG:GT:=aG 130 pz Gh
def E9:SG uG:=qU OH Tryz.func130
def lc:List MV->Option MV:=qCR uG 0 di di [] [(0,1000000)] 37 [] [] [] [(0,[0,1,2,3,4,5,6,7,8,9,10,11,12,13,14,15,16,17,18,19,20,21,22,23])] [] [(2,⟨[0],[],[],[(0,[(1000000,.box [.k .l,.k (.i .i64),.k .l,.k .l,.k .l,.k (.i .i64),.k (.i .i64),.k (.i .i64),.k .s,.k .s,.k (.i .i64),.k (.i .i64),.k (.i .i64),.k (.i .i64),.k (.i .i64),.k (.i .i64),.k .s,.k (.i .i64),.k .l,.own 2000019 177 false])])],[]⟩)] [] [] Tryz.f82
def sL:GT:=aG 82 lc uG
def Dd:SG sL:=qU E9 Tryz.func82
def Bi:List MV->Option MV:=qSR sL [] [] 48 [37,42] [] [] [] [] [] [(8,⟨[1,4,24,25],[],[(7,.sc (.own 38 3 true)),(8,.box [.k (.i .i64),.own 43 149 true]),(26,.sc (.k (.i .i64)))],[(3,[(7,.sc (.own 38 3 true)),(8,.box [.k (.i .i64),.own 43 149 true])])],[38,43]⟩)] [] Tryz.f131
def Gi:GT:=aG 131 Bi sL
def OI:SG Gi:=wR Dd Tryz.func131
def ma:List MV->Option MV:=qCR Gi 0 di di [] [(0,1000000)] 50 [] [33] [(1,[2])] [(0,[0,1,2,3,4,5,6,7,8,9,10,11,12,13,14,15,16,17,18]),(3,[0,1,2,3,4,5,6,7,8,9,10,11,12])] [] [] [(5,⟨[0,40,41],[],[(42,.sc (.k (.i .i64))),(1000000,.box [.k .l,.k (.i .i64),.k .l,.k .l,.k .l,.k (.i .i64),.k (.i .i64),.k (.i .i64),.k .s,.k .s,.k (.i .i64),.k (.i .i64),.k (.i .i64),.k (.i .i64),.k (.i .i64),.k (.i .i64),.k .s,.k (.i .i64),.k .l,.own 2000019 177 false])],[(2,[(1000000,.box [.k .l,.k (.i .i64),.k .l,.k .l,.k .l,.k (.i .i64),.k (.i .i64),.k (.i .i64),.k .s,.k .s,.k (.i .i64),.k (.i .i64),.k (.i .i64),.k (.i .i64),.k (.i .i64),.k (.i .i64),.k .s,.k (.i .i64),.k .l,.own 2000019 177 false])])],[]⟩)] [] Tryz.f83
def uH:GT:=aG 83 ma Gi
def Fa:SG uH:=qU OI Tryz.func83
def iQ:List MV->Option MV:=qSR uH [] [] 19 [] [] [] [(4,[0,1,2,3,4,5])] [] [] [(2,⟨[0,3,7],[],[(8,.sc (.k (.i .i64)))],[(1,[(4,.sc (.k (.i .i64)))]),(2,[])],[]⟩)] [] Tryz.f190
def lN:GT:=aG 190 iQ uH
def wY:SG lN:=wR Fa Tryz.func190
def dW:List MV->Option MV:=wS lN [] 9 [] [] [] Tryz.f167
def oJ:GT:=aG 167 dW lN
def ud:SG oJ:=cv wY Tryz.func167
def Em (t w:MV):Option MV:=gA t λcs=>
 gC cs λm zL=>
 gL m λL=>
 gN zL<|
 gA w λFj=>
 avy Fj λPath Client Kids=>
 bd (wV [.s Path]) λrA=>
 gB rA λx=>
 eC (!x) (
 some (.cw [.agg [.list L],.i .i64 13])) (
 eC (decide (Client<0)) (
 some (.cw [.agg [.list L],.i .i64 1])) (
 bd (dW [.list L,.agg [.s Path,.i .i64 Client,.b Kids]]) λaO=>
 gB aO λx1=>
 eC x1 (
 some (.cw [.agg [.list L],.i .i64 0])) (
 eF L λlen=>
 eC (decide ((200:Int)<=(len:Int))) (
 some (.cw [.agg [.list L],.i .i64 9])) (
 both (
 bd (kF 3 32 [.list L]) λbK=>
 gF bK λxs=>
 eF xs λqi=>
 eF ([.agg [.s Path,.i .i64 Client,.b Kids]]:List MV) λzN=>
 bS (decide ((qi+zN) *32<=2^46))<|
 some (.cw [.agg [.list (xs++([.agg [.s Path,.i .i64 Client,.b Kids]]:List MV))],.i .i64 0])) (
 bd (kF 3 32 [.list L]) λgQ=>
 gF gQ λxs1=>
 eF xs1 λHM=>
 eF ([.agg [.s Path,.i .i64 Client,.b Kids]]:List MV) λFb=>
 bS (decide ((HM+Fb) *32<=2^46))<|
 some (.cw [.agg [.list (xs1++([.agg [.s Path,.i .i64 Client,.b Kids]]:List MV))],.i .i64 0]))))))
def JH:GT:=aG 132 (LB Em) oJ
def QX:SG JH:=QO ud [] [] 36 [33] [] [] [(9,[0,1,3,2,4,5,6,7,8,0,1,3,4,2,5,6,7,8,9,2,4])] [] [] [] [] Tryz.func132 abs (qv (λ_ _=>abs))
def lf:List MV->Option MV:=qCR JH 0 di di [] [(0,1000000)] 38 [] [] [] [(0,[0,1,2,3,4,5,6,7,8,9,10,11,12,13,14,15,16,17,18]),(1,[0,1,2,3,4,5,6,7,8,9,10,11,12,13,14,15,16,17,18,19])] [] [] [] [] Tryz.f84
def sM:GT:=aG 84 lf JH
def De:SG sM:=qU QX Tryz.func84
def wZ:List MV->Option MV:=qSR sM [] [] 2 [1] [] [] [] [] [] [] [] Tryz.f42
def Gj:GT:=aG 42 wZ sM
def OJ:SG Gj:=wR De Tryz.func42
def tj:List MV->Option MV:=wS Gj [] 48 [(6,⟨[2,3,5,6],[],[],[(0,[(4,.sc (.k .b))])],[]⟩),(1,⟨[2,3],[],[],[(0,[(20,.sc (.k .b))])],[]⟩)] [] [] Tryz.f88
def yO:GT:=aG 88 tj Gj
def HN:SG yO:=cv OJ Tryz.func88
def rf:List MV->Option MV:=qCR yO 2 acf acf [[.i .i64,.s],[]] [(2,1000002)] 17 [14] [] [] [] [] [(3,⟨[1,2,3,5],[],[],[(0,[(1000002,.box [.own 2000000 181 false])])],[]⟩)] [] [] Tryz.f87
def vi:GT:=aG 87 rf yO
def JI:SG vi:=qU HN Tryz.func87
def Uo:GT:=vi
def Bj (x0:MV)(x1:MV)(x2:List MV):Uo 87 [x0,x1,.cell (.func 0 x2)]=rf [x0,x1,.cell (.func 0 x2)]:=abs
def xa:List MV->Option MV:=qSR vi [] [] 26 [] [25] [(8,[7])] [(8,[0,1,2,3,4])] [] [] [(4,⟨[4,13,14],[],[(6,.sc (.own 12 151 false)),(7,.box [.own 2000000 181 false]),(15,.sc (.k (.i .i64)))],[(2,[(6,.sc (.own 12 151 false)),(7,.box [.own 2000000 181 false])])],[]⟩)] [] Tryz.f43
def Gk:GT:=aG 43 xa vi
def OL:SG Gk:=wR JI Tryz.func43
def dn:GT:=Gk
def ue (x0:List MV):dn 74 [.cell (.func 0 x0)]=jq [.cell (.func 0 x0)]:=abs
def uI (x0:List MV):dn 75 [.cell (.func 0 x0)]=j8 [.cell (.func 0 x0)]:=abs
def xC (x0:List MV):dn 76 [.cell (.func 0 x0)]=nO [.cell (.func 0 x0)]:=abs
def xD (x0:List MV):dn 77 [.cell (.func 0 x0)]=nQ [.cell (.func 0 x0)]:=abs
def uJ (x0:List MV):dn 78 [.cell (.func 0 x0)]=ka [.cell (.func 0 x0)]:=abs
def xb (x0:List MV):dn 79 [.cell (.func 0 x0)]=lY [.cell (.func 0 x0)]:=abs
def xc (x0:List MV):dn 80 [.cell (.func 0 x0)]=lZ [.cell (.func 0 x0)]:=abs
def vj (x0:List MV):dn 81 [.cell (.func 0 x0)]=kZ [.cell (.func 0 x0)]:=abs
def vk (x0:List MV):dn 82 [.cell (.func 0 x0)]=lc [.cell (.func 0 x0)]:=abs
def xd (x0:List MV):dn 83 [.cell (.func 0 x0)]=ma [.cell (.func 0 x0)]:=abs
def vl (x0:List MV):dn 84 [.cell (.func 0 x0)]=lf [.cell (.func 0 x0)]:=abs
def yo (a a1:MV):Option MV:=gA a λcs=>
 wQ cs λfJ eA lg gG Seen=>
 gA a1 λFj=>
 vG Fj λClient Seq Kind Path Value Version Session Span=>
 bd (kX [.agg (fH fJ eA lg gG Seen),.agg [.i .i64 Client,.i .i64 Seq,.i .i64 Kind,.s Path,.s Value,.i .i64 Version,.i .i64 Session,.i .i64 Span]]) λrA=>
 gT rA λvs=>
 gC vs λm13 Df=>
 gA m13 λIP=>
 lH IP λqW LF E pL jo Names=>
 gC Df λm20 OM=>
 gB m20 λx=>
 gN OM<|
 eC x (
 some (.cw [.agg (fH fJ eA lg gG Seen),.agg (dL qW LF E pL jo Names),.list ([]:List MV)])) (
 bd (wZ []) λaO=>
 gL aO λx1=>
 idx x1 Kind λy=>
 gR y λx2=>
 YQ x2 λfn cap=>
 gN cap<|
 bd (Qr [74,75,76,77,78,79,80,81,82,83,84] fn λk=>dn k [.cell (.func 0 [.list fJ,.i .i64 eA,.list lg,.list gG,.list Seen,.i .i64 Client,.i .i64 Seq,.i .i64 Kind,.s Path,.s Value,.i .i64 Version,.i .i64 Session,.i .i64 Span,.i .i64 qW,.i .i64 LF,.i .i64 E,.s pL,.i .i64 jo,.list Names,.list ([]:List MV)])]) λbK=>
 gW bK λx3 ls=>
 B7 ls λaci XA aiy amN aCy acj avW ao0 ao1 aiz XB XC ao2 Mr amO xE Up HO Uq lA=>
 bd (xa [.agg [.list amN],.list lA]) λgQ=>
 gT gQ λAk=>
 gC Ak λm41 avX=>
 gA m41 λB4=>
 gC B4 λm42 aiA=>
 gL m42 λL=>
 gN aiA<|
 gC avX λm43 aiB=>
 gL m43 λx4=>
 gN aiB<|
 bd (kF 6 72 [.list Seen]) λn6=>
 gF n6 λxs=>
 bd (kW [.agg (fH fJ eA lg gG Seen),.i .i64 Client]) λrH=>
 gT rH λHg=>
 jIB Hg λx5 x6=>
 bd (
 eC x6 (
 idx xs x5 λy1=>
 gA y1 λcs4=>
 lH cs4 λack avY E1 ON zP Jy=>
 some (0,[.list aci,.i .i64 XA,.list aiy,.list L,.list (xs.set (sh x5) (.agg (dL Mr amO xE Up HO Uq))),.i .i64 acj,.i .i64 avW,.i .i64 ao0,.s ao1,.s aiz,.i .i64 XB,.i .i64 XC,.i .i64 ao2,.i .i64 Mr,.i .i64 amO,.i .i64 xE,.s Up,.i .i64 HO,.list Uq,.list lA])) (
 bd (ku 72 [.fresh xs,.i .i64 x5,.fresh ([.agg (dL Mr amO xE Up HO Uq)]:List MV)]) λn7=>
 gF n7 λxs1=>
 some (0,[.list aci,.i .i64 XA,.list aiy,.list L,.list xs1,.i .i64 acj,.i .i64 avW,.i .i64 ao0,.s ao1,.s aiz,.i .i64 XB,.i .i64 XC,.i .i64 ao2,.i .i64 Mr,.i .i64 amO,.i .i64 xE,.s Up,.i .i64 HO,.list Uq,.list lA]))) λp=>
 bS (By p.1 0)<|
 mw .i64 .i64 .i64 .i64 .i64 .i64 .i64 .i64 .i64 .i64 .i64 p.2 λx7 x8 x9 BO xs2 IW Mp EV Xu Xv x16 Z8 x18 K5 x20 x21 x22 x23 x24 xs3=>
 both (
 some (.cw [.agg (fH x7 x8 x9 BO xs2),.agg (dL K5 x20 x21 x22 x23 x24),.list x4])) (
 some (.cw [.agg (fH x7 x8 x9 BO xs2),.agg (dL K5 x20 x21 x22 x23 x24),.list x4])))
def Dg:GT:=aG 21 (LB yo) Gk
def LL:SG Dg:=QO OL [] [] 103 [] [21] [(2,[7])] [(3,[0,1,2,3,4]),(5,[1,2,5,0,3,4,6]),(6,[0,1,2,3,4,5,6,7,8,9,10,11,12,13,14,15]),(7,[0,1,2,3,4,5,6,7,8,9,10,11,12,13]),(10,[0,1,2,3,4,5,6,7,8,9,10,11]),(11,[0,1,2,3,4,5,6,7,8,9,10,11,12,13,14,15,16]),(12,[0,1,2,3,4,5,6,8,9,7,10,11,0,1,2,3,4,5,6,7,8,9,10,11,12,9,7])] [] [(10,⟨[4,5,11,12],[],[],[(0,[(26,.box [.k .l,.k (.i .i64),.k .l,.k .l,.own 52 69 false,.k (.i .i64),.k (.i .i64),.k (.i .i64),.k .s,.k .s,.k (.i .i64),.k (.i .i64),.k (.i .i64),.k (.i .i64),.k (.i .i64),.k (.i .i64),.k .s,.k (.i .i64),.k .l,.own 2000019 177 true]),(9,.pt 26 0)])],[89,90,2000019]⟩)] [] [74,75,76,77,78,79,80,81,82,83,84] Tryz.func21 abs (qv (λ_ _=>abs))
def xe:List MV->Option MV:=qSR Dg [] [] 39 [29] [] [] [] [] [] [(4,⟨[4,14,15],[],[(2,.box [.k .l,.k (.i .i64),.k .l,.k .l,.k .l]),(7,.sc (.own 30 69 true)),(8,.sc (.own 33 181 true)),(16,.sc (.k (.i .i64)))],[(2,[(2,.box [.k .l,.k (.i .i64),.k .l,.k .l,.k .l]),(7,.sc (.own 30 69 true)),(8,.sc (.own 33 181 true))])],[30,33]⟩)] [] Tryz.f6
def OO:GT:=aG 6 xe Dg
def OP:SG OO:=wR LL Tryz.func6
def sN (b:MV):Option MV:=gL b λb1=>
 eF b1 λlen=>
 eC (decide ((len:Int)=0)) (
 some (.cw [.i .u64 0,.list ([]:List MV),.i .i64 2])) (
 idx b1 0 λy=>
 gI .u8 y λx=>
 bS (oL 1 b1)<|
 eF b1 λqi=>
 bS (decide ((0:Int)<=1/\(1:Int)<=(qi:Int)/\(qi:Int)<=(qi:Int)))<|
 bd (
 eC (decide ((8:Int)<(bD .i64 x))) (
 some [.b true]) (
 eC (decide ((0:Int)<(bD .i64 x))) (
 eF (AS (sh 1) (AT (sh (qi:Int)) b1)) λzN=>
 eC (decide ((0:Int)<(zN:Int))) (
 idx (AS (sh 1) (AT (sh (qi:Int)) b1)) 0 λy1=>
 gI .u8 y1 λx1=>
 some [.b (decide (x1=0))]) (
 some [.b false])) (
 some [.b false]))) λvs=>
 gC vs λm zL=>
 gB m λx2=>
 gN zL<|
 eC x2 (
 some (.cw [.i .u64 0,.list ([]:List MV),.i .i64 3])) (
 eF (AS (sh 1) (AT (sh (qi:Int)) b1)) λHM=>
 eC (decide ((HM:Int)<(bD .i64 x))) (
 some (.cw [.i .u64 0,.list ([]:List MV),.i .i64 2])) (
 eF (AS (sh 1) (AT (sh (qi:Int)) b1)) λFb=>
 bS (decide ((0:Int)<=0/\(0:Int)<=(bD .i64 x)/\(bD .i64 x)<=(Fb:Int)))<|
 eF (AS (sh 0) (AT (sh (bD .i64 x)) (AS (sh 1) (AT (sh (qi:Int)) b1)))) λLM=>
 bd (oT 3000 (λA3=>
 oII .u64 .i64 A3 λn x3=>
 eC (decide (x3<(LM:Int))) (
 idx (AS (sh 0) (AT (sh (bD .i64 x)) (AS (sh 1) (AT (sh (qi:Int)) b1)))) x3 λy2=>
 gI .u8 y2 λx4=>
 bS (decide ((0:Int)<=8))<|
 some (.inl [.i .u64 (Ch .u64 (bD .u64 (n *2^min (sh 8) (AI .u64))) (bD .u64 x4)),.i .i64 (bD .i64 (x3+1))])) (
 some (.inr (3,[.i .u64 n])))) [.i .u64 0,.i .i64 0]) λp=>
 bS (By p.1 3)<|
 gC p.2 λm3 Bg=>
 gI .u64 m3 λn1=>
 gN Bg<|
 bS (oL 1 (AS (sh 1) (AT (sh (qi:Int)) b1)))<|
 eF (AS (sh 1) (AT (sh (qi:Int)) b1)) λJJ=>
 bS (decide ((0:Int)<=(bD .i64 x)/\(bD .i64 x)<=(JJ:Int)/\(JJ:Int)<=(JJ:Int)))<|
 some (.cw [.i .u64 n1,.list (AS (sh (bD .i64 x)) (AT (sh (JJ:Int)) (AS (sh 1) (AT (sh (qi:Int)) b1)))),.i .i64 0]))))
def OQ:GT:=aG 39 (Ji sN) OO
def OR:SG OQ:=QO OP [] [] 60 [] [] [] [(3,[0,1,2,3,4,5,6,7]),(14,[0,1,2,3,4,5,6])] [(4,⟨[5,6],[],[],[(0,[(19,.sc (.k .b))])],[]⟩)] [] [(10,⟨[5,6,44,45],[],[(7,.sc (.k (.i .u64))),(46,.sc (.k (.i .i64)))],[(3,[(7,.sc (.k (.i .u64)))])],[]⟩)] [] Tryz.func39 abs (pn (λ_=>abs))
def o8 (b:MV):Option MV:=gL b λb1=>
 bd (sN (.list b1)) λrA=>
 gT rA λvs=>
 arj .u64 .i64 vs λx x1 x2=>
 bS (decide ((0:Int)<=1))<|
 some (.cw [.i .i64 (ca .i64 (bD .i64 (BY x (2^min (sh 1) (AI .u64)))) (bD .i64 (0-(bD .i64 (eX .u64 x 1))))),.list x1,.i .i64 x2])
def Fz:GT:=aG 118 (Ji o8) OQ
def HP:SG Fz:=Ov OR [] 24 [] [] [] Tryz.func118 abs (pn (λ_=>abs))
def nR (b most:MV):Option MV:=gL b λb1=>
 gI .i64 most λavZ=>
 bd (sN (.list b1)) λrA=>
 gT rA λvs=>
 arj .u64 .i64 vs λx x1 x2=>
 eC (!decide (x2=0)) (
 some (.cw [.s ([]:List UInt8),.list ([]:List MV),.i .i64 x2])) (
 eC (decide ((bD .u64 (imax avZ 0))<x)) (
 some (.cw [.s ([]:List UInt8),.list ([]:List MV),.i .i64 5])) (
 eF x1 λlen=>
 eC (decide ((bD .u64 (len:Int))<x)) (
 some (.cw [.s ([]:List UInt8),.list ([]:List MV),.i .i64 2])) (
 eF x1 λqi=>
 bS (decide ((0:Int)<=0/\(0:Int)<=x/\x<=(qi:Int)))<|
 Qu (AS (sh 0) (AT (sh x) x1)) λbs=>
 bS (oL 1 x1)<|
 eF x1 λzN=>
 bS (decide ((0:Int)<=x/\x<=(zN:Int)/\(zN:Int)<=(zN:Int)))<|
 some (.cw [.s bs,.list (AS (sh x) (AT (sh (zN:Int)) x1)),.i .i64 0]))))
def cm:GT:=aG 119 (LB nR) Fz
def xf:SG cm:=QO HP [] [] 39 [] [] [] [(8,[0,1,2,3,4,5,6,7,8,9])] [] [] [] [] Tryz.func119 abs (qv (λ_ _=>abs))
def takeN:TkT:=⟨77,99,59,170,168,220,172,174,3,9,4⟩
def BS:TkF:=⟨118,119,30⟩
def aiC:Ctx:=LD cm [] 47 [] [36,42,46] [] [] [] [] [] []
def arH:CP Tryz.prog aiC cm BS takeN 40 72 73 Tryz.f40 (λk=>k) (jc Tryz.f40 jd) where
 hT:=kU
 key:=λ_=>rfl
 snd:=λf ms r h=>dG.kq (c:=cx) (c':=aiC) ⟨rfl,rfl,rfl,rfl,rfl,rfl,rfl,rfl,rfl⟩ (xf.all f ms r h)
 gv:=⟨abs,abs,abs⟩
 tyO:=⟨iM 77,abs,abs,abs,abs⟩
 tyR:=⟨iM 170,abs,abs,abs,abs⟩
 tyY:=⟨iM 99,abs,abs,abs⟩
 tye:=⟨iM 59,abs,abs,abs⟩
 tyi:=⟨iM 3,abs,abs,abs⟩
 tyS:=⟨iM 9,abs,abs,abs⟩
 tyI:=⟨iM 172,abs,abs,abs⟩
 amm:=abs
 pos:=Tryz.func40
 name:=abs
 tmps:=abs
 res:=abs
 body:=abs
 ops:=by constructor<;>exact ⟨abs,abs,abs⟩
 ints:=⟨Tryz.f72,λk=>k,jc Tryz.f72 jd,⟨Tryz.func72,abs,abs,abs,abs,by constructor<;>exact ⟨abs,abs,abs⟩⟩⟩
 text:=⟨Tryz.f73,λk=>k,jc Tryz.f73 jd,⟨Tryz.func73,abs,abs,abs,abs,by constructor<;>exact ⟨abs,abs,abs⟩⟩⟩
 mix:=qT
 d7:=abs
 d10:=abs
 s35:=abs
 s47:=abs
 s51:=abs
 m38:=abs
 m53:=abs
 gvF:=abs
 tyL:=⟨iM 220,abs,abs⟩
 blR:=λ_ _ _=>abs
 blO:=abs
def Bk (a:MV):Option MV:=aca cm BS [a]
def Gl:GT:=aG 40 (Ji Bk) cm
def OS:SG Gl:=xf.add λf ms r hk hr=>by have hk:f=40:=hk;subst hk;exact dG.kq (c:=aiC) (c':=cx) ⟨rfl,rfl,rfl,rfl,rfl,rfl,rfl,rfl,rfl⟩ (amu arH (pn (B:=aca cm BS) (λ_=>rfl) hr))
def vo:List MV->Option MV:=wS Gl [] 45 [(2,⟨[4,5,6],[],[],[(0,[(21,.sc (.k .b))])],[]⟩)] [] [(6,⟨[25],[],[(5,.sc (.k .l)),(7,.sc (.own 23 77 false)),(26,.sc (.k (.i .i64)))],[(1,[(2,.sc (.k .l)),(3,.sc (.k (.i .i64)))]),(2,[(5,.sc (.k .l)),(7,.sc (.own 23 77 false))])],[]⟩)] Tryz.f20
def Bl:GT:=aG 20 vo Gl
def JK:SG Bl:=cv OS Tryz.func20
def uf:List MV->Option MV:=wS Bl [] 30 [] [] [] Tryz.f11
def Dh:GT:=aG 11 uf Bl
def LN:SG Dh:=cv JK Tryz.func11
def xg:List MV->Option MV:=wS Dh [] 25 [] [(8,⟨[],[],[],[(0,[(0,.sc (.k (.i .u64))),(2,.sc (.k (.i .i64)))])],[]⟩),(5,⟨[],[],[],[(0,[(0,.sc (.k (.i .u64))),(2,.sc (.k (.i .i64)))])],[]⟩),(2,⟨[],[],[],[(0,[(0,.sc (.k (.i .u64))),(2,.sc (.k (.i .i64)))])],[]⟩)] [] Tryz.f117
def OT:GT:=aG 117 xg Dh
def OU:SG OT:=cv LN Tryz.func117
def Bm (n:MV):Option MV:=gI .u64 n λn1=>
 bd (xg [.i .u64 n1]) λrA=>
 gI .i64 rA λx=>
 bS (!decide ((8:Int)=0))<|
 some (.i .i64 (bD .i64 (1+(bD .i64 (ac4 (bD .i64 (x+7)) 8)))))
def Gm:GT:=aG 68 (Ji Bm) OT
def OV:SG Gm:=Ov OU [] 8 [] [] [] Tryz.func68 abs (pn (λ_=>abs))
def pA:List MV->Option MV:=wS Gm [] 9 [] [] [] Tryz.f69
def uK:GT:=aG 69 pA Gm
def Fc:SG uK:=cv OV Tryz.func69
def Eo:List MV->Option MV:=qFR uK 5 [] [] 32 [15,29] [] [] [] [] [] [(4,⟨[1],[],[(6,.sc (.own 16 5 false)),(7,.sc (.k (.i .i64)))],[(2,[(6,.sc (.own 16 5 false))])],[]⟩)] [] Tryz.f37
def JL:GT:=aG 37 Eo uK
def QY:SG JL:=aaa Fc Tryz.func37
def Bn:List MV->Option MV:=qFR JL 5 [] [] 12 [] [] [] [] [] [] [] [] Tryz.f70
def Gn:GT:=aG 70 Bn JL
def OW:SG Gn:=aaa QY Tryz.func70
def Ep:List MV->Option MV:=qFR Gn 5 [] [] 14 [] [] [] [] [] [] [] [] Tryz.f110
def JM:GT:=aG 110 Ep Gn
def QZ:SG JM:=aaa OW Tryz.func110
def Bo:List MV->Option MV:=qSR JM [] [] 18 [15] [] [] [] [] [] [(2,⟨[7,8],[],[(0,.sc (.k .l)),(9,.sc (.k (.i .i64)))],[(2,[(0,.sc (.k .l))])],[]⟩)] [] Tryz.f71
def OX:GT:=aG 71 Bo JM
def OY:SG OX:=wR QZ Tryz.func71
def Sr:GT:=rF OX 5 [] [] 26 [18] [] [] [(1,[0,1,2,3,4,5,6,7,8,9,10,11,12,15,16,18,19,13,14,17,20,21])] [] [] [] [] 38 Tryz.f38
def Q0:SG Sr:=avU OY Tryz.func38 abs abs
def Bp:GT:=rP Sr [] 29 [] [] [(5,⟨[14,15],[],[(4,.sc (.own 13 5 true)),(16,.sc (.k (.i .i64)))],[(1,[(2,.sc (.k .s)),(3,.sc (.k (.i .i64)))]),(2,[(4,.sc (.own 13 5 true))])],[13,25]⟩)] 19 Tryz.f19
def JN:SG Bp:=avT Q0 Tryz.func19 abs
def vI:Option MV:=rN (LD Bp [] 47 [10] [] [] [] [(4,⟨[2,3,4,5,7],[],[],[(0,[(0,.sc (.k .b))])],[]⟩)] [] [] []) [] none Tryz.f5 []
def JO:GT:=aG 5 (amb vI) Bp
def Q1:SG JO:=fnS JN [] [] 47 [10] [] [] [] [(4,⟨[2,3,4,5,7],[],[],[(0,[(0,.sc (.k .b))])],[]⟩)] [] [] [] Tryz.func5 abs (TZ rfl)
def HQ:List MV->Option MV:=qP JO [] 22 [] [(16,⟨[3],[],[],[(0,[(17,.sc (.k .b))])],[]⟩),(7,⟨[3],[],[],[(0,[(6,.sc (.k .b))])],[]⟩),(6,⟨[3],[],[],[(0,[(6,.sc (.k .b))])],[]⟩),(5,⟨[3],[],[],[(0,[(6,.sc (.k .b))])],[]⟩)] [] Tryz.f94
def OZ:GT:=aG 94 HQ JO
def Ur:SG OZ:=kV Q1 Tryz.func94
def Us:List MV->Option MV:=qP OZ [] 17 [] [] [(2,⟨[0,1],[],[(5,.sc (.k (.i .i64)))],[(1,[(4,.sc (.k .b))]),(2,[])],[]⟩)] Tryz.f95
def aae:GT:=aG 95 Us OZ
def aaf:SG aae:=kV Ur Tryz.func95
def HR:List MV->Option MV:=qP aae [] 92 [(5,⟨[1,3,4],[],[],[(0,[(2,.sc (.k .b))])],[]⟩),(4,⟨[1,3],[],[],[(0,[(4,.sc (.k .b))])],[]⟩),(1,⟨[1],[],[],[(0,[(44,.sc (.k .b))])],[]⟩)] [] [] Tryz.f47
def Ut:GT:=aG 47 HR aae
def XD:SG Ut:=kV aaf Tryz.func47
def Di:List MV->Option MV:=qP Ut [] 28 [] [] [(2,⟨[1,2],[],[(4,.box [.k (.i .i64),.k (.i .i64),.k (.i .i64),.k .s,.k (.i .i64),.k .l]),(6,.sc (.k (.i .i64)))],[(1,[(4,.box [.k (.i .i64),.k (.i .i64),.k (.i .i64),.k .s,.k (.i .i64),.k .l]),(5,.sc (.k .b))]),(2,[(4,.box [.k (.i .i64),.k (.i .i64),.k (.i .i64),.k .s,.k (.i .i64),.k .l])])],[]⟩)] Tryz.f48
def O0:GT:=aG 48 Di Ut
def Uu:SG O0:=kV XD Tryz.func48
def HS:List MV->Option MV:=qP O0 [] 21 [] [] [(2,⟨[1,2],[],[(5,.sc (.k (.i .i64)))],[(1,[(4,.sc (.k .b))]),(2,[])],[]⟩)] Tryz.f138
def acn:GT:=aG 138 HS O0
def XE:SG acn:=kV Uu Tryz.func138
def Ms (p:MV):Option MV:=gS p λp1=>
 bd (
 eC (decide ((p1.length:Int)=0)) (
 some [.b true]) (
 bS (decide ((0:Int)<=0/\(0:Int)<(p1.length:Int)))<|
 some [.b (!decide (((p1.getD (sh 0) 0).toNat:Int)=47))])) λvs=>
 gC vs λm zL=>
 gB m λx=>
 gN zL<|
 eC x (
 some (.cw [.fresh ([]:List MV),.b false])) (
 eC (decide (p1=([47]:List UInt8))) (
 some (.cw [.fresh ([]:List MV),.b true])) (
 bd (Loop (λA3=>
 gC A3 λm1 JB=>
 gL m1 λout=>
 gC JB λm2 Dj=>
 gS m2 λname=>
 gC Dj λm3 Bg=>
 gI .i64 m3 λi=>
 gN Bg<|
 eC (decide (i<(p1.length:Int))) (
 bS (decide ((0:Int)<=i/\i<(p1.length:Int)))<|
 bd (
 eC (decide (((p1.getD (sh i) 0).toNat:Int)=47)) (
 eF out λlen=>
 eF ([.s name]:List MV) λqi=>
 bS (decide ((len+qi) *16<=2^46))<|
 some (0,[.list (out++([.s name]:List MV)),.s ([]:List UInt8)])) (
 bS (decide ((0:Int)<=i/\i<(p1.length:Int)))<|
 Qu ([.i .u8 ((p1.getD (sh i) 0).toNat:Int)]:List MV) λbs=>
 bS (decide (name.length+bs.length<=2^46))<|
 some (0,[.list out,.s (name++bs)]))) λp3=>
 bS (By p3.1 0)<|
 gC p3.2 λm4 Gp=>
 gL m4 λaem=>
 gC Gp λm5 Bq=>
 gS m5 λav0=>
 gN Bq<|
 some (.inl [.list aem,.s av0,.i .i64 (bD .i64 (i+1))])) (
 some (.inr (2,[.list out,.s name])))) [.list ([]:List MV),.s ([]:List UInt8),.i .i64 1]) λp2=>
 bS (By p2.1 2)<|
 gC p2.2 λm6 Dk=>
 gL m6 λaen=>
 gC Dk λm7 Ox=>
 gS m7 λao3=>
 gN Ox<|
 eF aen λzN=>
 eF ([.s ao3]:List MV) λHM=>
 bS (decide ((zN+HM) *16<=2^46))<|
 some (.cw [.fresh (aen++([.s ao3]:List MV)),.b true])))
def Uv:GT:=aG 174 (Ji Ms) acn
def XF:SG Uv:=fnF XE 9 [] [] 46 [32,43] [] [] [] [(2,⟨[0,4],[7],[],[(0,[(15,.sc (.k .b))])],[]⟩)] [(11,⟨[0,6],[],[],[(0,[(4,.sc (.own 7 9 false)),(5,.sc (.k .s))])],[]⟩)] [(8,⟨[0],[],[(4,.sc (.own 7 9 false)),(5,.sc (.k .s)),(6,.sc (.k (.i .i64)))],[(2,[(4,.sc (.own 7 9 false)),(5,.sc (.k .s))])],[]⟩)] [] Tryz.func174 abs abs (pn (λ_=>abs))
def Br:List MV->Option MV:=qP Uv [] 47 [(8,⟨[0],[],[],[(0,[(2,.sc (.k .b))])],[]⟩),(5,⟨[0,3,4],[],[],[(0,[(5,.sc (.k .b))])],[]⟩)] [] [(2,⟨[0],[],[(3,.sc (.k (.i .i64)))],[(1,[(2,.sc (.k .b))]),(2,[])],[]⟩)] Tryz.f175
def Gq:GT:=aG 175 Br Uv
def O1:SG Gq:=kV XF Tryz.func175
def Er:List MV->Option MV:=qS Gq [] [] 32 [11] [] [] [] [(9,⟨[3,4],[],[],[(0,[(2,.sc (.k .b))])],[]⟩)] [] [(5,⟨[3,4],[],[(5,.sc (.k (.i .i64)))],[(1,[(2,.sc (.k .b))]),(2,[])],[]⟩)] [] Tryz.f145
def JP:GT:=aG 145 Er Gq
def Q2:SG JP:=gZ O1 Tryz.func145
def Et:List MV->Option MV:=qF JP 9 [] [] 15 [] [] [] [] [] [] [] [] Tryz.f176
def JQ:GT:=aG 176 Et JP
def Q3:SG JQ:=Sn Q2 Tryz.func176
def HT:List MV->Option MV:=qP JQ [] 21 [] [] [(3,⟨[0],[],[(3,.sc (.k .s)),(4,.sc (.k (.i .i64)))],[(2,[(3,.sc (.k .s))])],[]⟩)] Tryz.f177
def O2:GT:=aG 177 HT JQ
def Uw:SG O2:=kV Q3 Tryz.func177
def Bs:List MV->Option MV:=qS O2 [] [] 23 [8] [] [] [] [] [] [] [] Tryz.f147
def Gr:GT:=aG 147 Bs O2
def O3:SG Gr:=gZ Uw Tryz.func147
def O4:List MV->Option MV:=qP Gr [] 22 [] [] [(2,⟨[1,2],[],[(5,.sc (.k (.i .i64)))],[(1,[(4,.sc (.k (.i .i64)))]),(2,[])],[]⟩)] Tryz.f171
def aag:GT:=aG 171 O4 Gr
def aah:SG aag:=kV O3 Tryz.func171
def Eu:List MV->Option MV:=qS aag [] [] 61 [12,17] [] [] [(8,[0,1,2,3,4,5,6,7,8]),(9,[0,1,2,3,4,5,6,7,8,9])] [(6,⟨[5,7,9],[],[],[(0,[(35,.sc (.k .b))])],[]⟩),(3,⟨[5,6,7,8],[],[],[(0,[(25,.sc (.k .b))])],[]⟩)] [] [(6,⟨[5,7],[],[(9,.sc (.k (.i .i64)))],[(1,[(4,.sc (.k .b))]),(2,[])],[]⟩)] [] Tryz.f172
def JR:GT:=aG 172 Eu aag
def Q4:SG JR:=gZ aah Tryz.func172
def xh:List MV->Option MV:=qS JR [] [] 101 [83,91,97] [] [] [] [(23,⟨[1,4,8,13,14,15,16],[57],[],[(0,[(80,.sc (.k .b))])],[57]⟩)] [(28,⟨[8,14],[],[],[(0,[(13,.sc (.own 57 134 true))])],[57]⟩),(24,⟨[1,4,8,14,16],[],[],[(0,[(13,.sc (.own 57 134 true)),(15,.sc (.k .b))])],[57]⟩)] [(21,⟨[1,4,8,14],[],[(13,.sc (.own 57 134 true)),(15,.sc (.k .b)),(16,.sc (.k (.i .i64)))],[(2,[(13,.sc (.own 57 134 true)),(15,.sc (.k .b))])],[57]⟩)] [] Tryz.f139
def Gs:GT:=aG 139 xh JR
def O5:SG Gs:=gZ Q4 Tryz.func139
def Bt:List MV->Option MV:=qP Gs [] 22 [] [] [] Tryz.f140
def Ux:GT:=aG 140 Bt Gs
def XG:SG Ux:=kV O5 Tryz.func140
def HU:List MV->Option MV:=qS Ux [] [] 59 [] [] [] [(11,[0,1,2,4,5,6,7,8,9,10,11,3,12,13])] [(4,⟨[1,2,3,4,8,10],[],[],[(0,[(30,.sc (.k .b))])],[]⟩)] [] [] [] Tryz.f141
def Uy:GT:=aG 141 HU Ux
def XH:SG Uy:=gZ XG Tryz.func141
def Dl:List MV->Option MV:=qS Uy [] [] 56 [43,53] [] [] [] [(6,⟨[1,2,5,6,7,8],[11],[],[(0,[(35,.sc (.k .b))])],[11]⟩)] [(7,⟨[1,2,6],[],[],[(0,[(5,.sc (.own 11 9 true))])],[11]⟩)] [(3,⟨[1,2],[],[(5,.sc (.own 11 9 true)),(6,.sc (.k (.i .i64)))],[(2,[(5,.sc (.own 11 9 true))])],[11]⟩)] [] Tryz.f173
def XI:GT:=aG 173 Dl Uy
def Uz:SG XI:=gZ XH Tryz.func173
def xi (sA p version:MV):Option MV:=gA sA λcs=>
 gC cs λm zL=>
 gL m λL=>
 gN zL<|
 gS p λp1=>
 gI .i64 version λXJ=>
 bd (Bt [.agg [.list L],.s p1]) λrA=>
 gT rA λvs=>
 gC vs λm1 A3=>
 gA m1 λFj=>
 Si Fj λPath Value Version dt=>
 gC A3 λm6 Bq=>
 gI .i64 m6 λx=>
 gN Bq<|
 eC (!decide (x=0)) (
 some (.cw [.agg [.list L],.i .i64 x])) (
 eC (decide (p1=([47]:List UInt8))) (
 some (.cw [.agg [.list L],.i .i64 13])) (
 bd (
 eC (!decide (XJ=(-1))) (
 some [.b (!decide (XJ=Version))]) (
 some [.b false])) λAk=>
 gC Ak λm7 Dk=>
 gB m7 λx1=>
 gN Dk<|
 eC x1 (
 some (.cw [.agg [.list L],.i .i64 8])) (
 bd (Dl [.agg [.list L],.s p1]) λaO=>
 gL aO λx2=>
 eF x2 λlen=>
 eC (decide ((0:Int)<(len:Int))) (
 some (.cw [.agg [.list L],.i .i64 10])) (
 bd (O4 [.agg [.list L],.s p1]) λbK=>
 gI .i64 bK λx3=>
 eF L λqi=>
 bS (decide ((0:Int)<=0/\(0:Int)<=x3/\x3<=(qi:Int)))<|
 bS (oL 4 (AS (sh 0) (AT (sh x3) L)))<|
 eF ([]:List MV) λzN=>
 eF (AS (sh 0) (AT (sh x3) L)) λHM=>
 bS (decide ((zN+HM) *48<=2^46))<|
 bS (oL 4 L)<|
 eF L λFb=>
 bS (decide ((0:Int)<=(bD .i64 (x3+1))/\(bD .i64 (x3+1))<=(Fb:Int)/\(Fb:Int)<=(Fb:Int)))<|
 bS (oL 4 (AS (sh (bD .i64 (x3+1))) (AT (sh (Fb:Int)) L)))<|
 eF (([]:List MV)++(AS (sh 0) (AT (sh x3) L))) λLM=>
 eF (AS (sh (bD .i64 (x3+1))) (AT (sh (Fb:Int)) L)) λJJ=>
 bS (decide ((LM+JJ) *48<=2^46))<|
 some (.cw [.agg [.list ((([]:List MV)++(AS (sh 0) (AT (sh x3) L)))++(AS (sh (bD .i64 (x3+1))) (AT (sh (Fb:Int)) L)))],.i .i64 0])))))
def Gt:GT:=aG 142 (TY xi) XI
def O6:SG Gt:=fnP Uz [] 58 [(6,⟨[1,2,3,6,8],[],[],[(0,[(32,.sc (.k .b))])],[43]⟩)] [] [] Tryz.func142 abs (xZ (λ_ _ _=>abs))
def Dm:List MV->Option MV:=qP Gt [] 20 [] [] [] Tryz.f143
def XK:GT:=aG 143 Dm Gt
def UA:SG XK:=kV O6 Tryz.func143
def yp (a a1:MV):Option MV:=gA a λcs=>
 wQ cs λfJ eA lg gG Seen=>
 gA a1 λFj=>
 vG Fj λClient Seq Kind Path Value Version Session Span=>
 bd (
 eC (decide (Kind=1)) (
 bd (
 eC (!decide (Session=0)) (
 eC (decide (Session<0)) (
 some [.b true]) (
 bd (HS [.agg [.i .i64 eA,.list lg],.i .i64 Session]) λrA=>
 gB rA λx=>
 some [.b (!x)])) (
 some [.b false])) λvs=>
 gC vs λm13 Df=>
 gB m13 λx1=>
 gN Df<|
 bd (
 eC x1 (
 some (0,[.list fJ,.i .i64 eA,.list lg,.list gG,.list Seen,.i .i64 0,.i .i64 0,.i .i64 14,.s ([]:List UInt8),.i .i64 0,.list ([]:List MV)])) (
 bd (xh [.agg [.list fJ],.s Path,.s Value,.i .i64 Session]) λaO=>
 gT aO λAk=>
 gC Ak λm14 O7=>
 gA m14 λIP=>
 gC IP λm15 O8=>
 gL m15 λL=>
 gN O8<|
 gC O7 λm16 O9=>
 gI .i64 m16 λx2=>
 gN O9<|
 some (0,[.list L,.i .i64 eA,.list lg,.list gG,.list Seen,.i .i64 0,.i .i64 0,.i .i64 x2,.s ([]:List UInt8),.i .i64 0,.list ([]:List MV)]))) λp1=>
 bS (By p1.1 0)<|
 gC p1.2 λm17 Oy=>
 gL m17 λx3=>
 gC Oy λm18 aiD=>
 gI .i64 m18 λx4=>
 gC aiD λm19 aiE=>
 gL m19 λx5=>
 gC aiE λm20 OM=>
 gL m20 λx6=>
 gC OM λm21 XL=>
 gL m21 λx7=>
 lH XL λx8 x9 BO IW Mp EV=>
 some (0,(iU x3 x4 x5 x6 x7 x8 x9 BO IW Mp EV 1))) (
 bd (
 eC (decide (Kind=2)) (
 bd (Bt [.agg [.list fJ],.s Path]) λbK=>
 gT bK λHg=>
 gC Hg λm28 av1=>
 gA m28 λB4=>
 Si B4 λSp pL jo dt=>
 gC av1 λm33 aiF=>
 gI .i64 m33 λXu=>
 gN aiF<|
 some (0,(iU fJ eA lg gG Seen 0 0 Xu pL jo ([]:List MV) 0))) (
 bd (
 eC (decide (Kind=3)) (
 bd (HU [.agg [.list fJ],.s Path,.s Value,.i .i64 Version]) λgQ=>
 gT gQ λvs3=>
 gC vs3 λm34 aiG=>
 gA m34 λcs4=>
 gC cs4 λm35 XM=>
 gL m35 λL1=>
 gN XM<|
 gC aiG λm36 aiH=>
 gI .i64 m36 λXv=>
 gN aiH<|
 bd (
 eC (decide (Xv=0)) (
 bd (Bt [.agg [.list L1],.s Path]) λn6=>
 gT n6 λvs4=>
 gC vs4 λm37 aiI=>
 gA m37 λcs5=>
 Si cs5 λaCz ON zP aix=>
 gC aiI λm42 aiA=>
 gI .i64 m42 λx16=>
 gN aiA<|
 some (0,(dL 0 0 Xv ([]:List UInt8) zP ([]:List MV)))) (
 some (0,(dL 0 0 Xv ([]:List UInt8) 0 ([]:List MV))))) λp4=>
 bS (By p4.1 0)<|
 Mo .i64 .i64 .i64 .i64 p4.2 λZ8 x18 K5 x20 x21 x22=>
 some (0,(iU L1 eA lg gG Seen Z8 x18 K5 x20 x21 x22 2))) (
 bd (
 eC (decide (Kind=4)) (
 bd (xi (.agg [.list fJ]) (.s Path) (.i .i64 Version)) λrH=>
 gT rH λvs5=>
 gC vs5 λm49 av6=>
 gA m49 λcs6=>
 gC cs6 λm50 av7=>
 gL m50 λL2=>
 gN av7<|
 gC av6 λm51 av8=>
 gI .i64 m51 λx23=>
 gN av8<|
 some (0,(iU L2 eA lg gG Seen 0 0 x23 ([]:List UInt8) 0 ([]:List MV) 3))) (
 bd (
 eC (decide (Kind=5)) (
 bd (Dm [.agg [.list fJ],.s Path]) λn7=>
 gT n7 λvs6=>
 Xw vs6 λx24 XN=>
 some (0,(dL 0 0 XN ([]:List UInt8) 0 x24))) (
 some (0,(dL 0 0 0 ([]:List UInt8) 0 ([]:List MV))))) λp6=>
 bS (By p6.1 0)<|
 Mo .i64 .i64 .i64 .i64 p6.2 λXO x27 x28 x29 x30 x31=>
 some (0,(iU fJ eA lg gG Seen XO x27 x28 x29 x30 x31 0)))) λp5=>
 bS (By p5.1 0)<|
 o4 .i64 .i64 .i64 .i64 .i64 .i64 p5.2 λx32 x33 x34 x35 x36 x37 x38 x39 x40 x41 x42 x43=>
 some (0,(iU x32 x33 x34 x35 x36 x37 x38 x39 x40 x41 x42 x43)))) λp3=>
 bS (By p3.1 0)<|
 o4 .i64 .i64 .i64 .i64 .i64 .i64 p3.2 λx44 x45 x46 x47 x48 x49 x50 x51 x52 x53 x54 x55=>
 some (0,(iU x44 x45 x46 x47 x48 x49 x50 x51 x52 x53 x54 x55)))) λp2=>
 bS (By p2.1 0)<|
 o4 .i64 .i64 .i64 .i64 .i64 .i64 p2.2 λx56 x57 x58 x59 x60 x61 x62 x63 x64 x65 x66 x67=>
 some (0,(iU x56 x57 x58 x59 x60 x61 x62 x63 x64 x65 x66 x67)))) λp=>
 bS (By p.1 0)<|
 o4 .i64 .i64 .i64 .i64 .i64 .i64 p.2 λx68 x69 x70 x71 x72 x73 x74 x75 x76 x77 x78 x79=>
 bd (
 eC (decide (x75=0)) (
 some [.b (decide ((0:Int)<x79))]) (
 some [.b false])) λvs7=>
 gC vs7 λaAE arJ=>
 gB aAE λx80=>
 gN arJ<|
 eC x80 (
 both (
 some (.cw [.agg (fH x68 x69 x70 x71 x72),.agg (dL x73 x74 x75 x76 x77 x78),.list ([.agg [.i .i64 x79,.s Path]]:List MV)])) (
 both (
 some (.cw [.agg (fH x68 x69 x70 x71 x72),.agg (dL x73 x74 x75 x76 x77 x78),.list ([.agg [.i .i64 x79,.s Path]]:List MV)])) (
 some (.cw [.agg (fH x68 x69 x70 x71 x72),.agg (dL x73 x74 x75 x76 x77 x78),.list ([.agg [.i .i64 x79,.s Path]]:List MV)])))) (
 some (.cw [.agg (fH x68 x69 x70 x71 x72),.agg (dL x73 x74 x75 x76 x77 x78),.list ([]:List MV)]))
def Dp:GT:=aG 96 (LB yp) XK
def LO:SG Dp:=fnS UA [] [] 155 [152] [147,150,154] [(1,[3]),(33,[7])] [(34,[0,1,2,3,4,5,6,7,8,9,0,1,2,3,4,5,7,6,8,9,0,1,2,3,4,5,7,8,6,9,10,6,8,10,6,7]),(35,[0,1,2,3,4])] [(33,⟨[2,3,4,5,7,8],[],[],[(0,[(145,.sc (.k .b))])],[]⟩),(5,⟨[2,3,4,5,7],[],[],[(0,[(41,.sc (.k .b))])],[]⟩)] [(6,⟨[3,4,5],[],[],[(0,[(2,.box [.k .l,.k (.i .i64),.k .l,.k .l,.k .l]),(7,.box [.k (.i .i64),.k (.i .i64),.k (.i .i64),.k .s,.k (.i .i64),.k .l])])],[]⟩),(21,⟨[2,3,4,5],[],[],[(0,[(7,.box [.k (.i .i64),.k (.i .i64),.k (.i .i64),.k .s,.k (.i .i64),.k .l])])],[]⟩),(30,⟨[2,3,4,5,8],[],[],[(0,[(7,.box [.k (.i .i64),.k (.i .i64),.k (.i .i64),.k .s,.k (.i .i64),.k .l])])],[]⟩),(25,⟨[3,4,5,23],[],[],[(0,[(2,.box [.k .l,.k (.i .i64),.k .l,.k .l,.k .l]),(7,.box [.k (.i .i64),.k (.i .i64),.k (.i .i64),.k .s,.k (.i .i64),.k .l]),(8,.sc (.k (.i .i64)))])],[]⟩),(17,⟨[3,4,5,23],[],[],[(0,[(2,.box [.k .l,.k (.i .i64),.k .l,.k .l,.k .l]),(7,.box [.k (.i .i64),.k (.i .i64),.k (.i .i64),.k .s,.k (.i .i64),.k .l]),(8,.sc (.k (.i .i64)))])],[]⟩),(12,⟨[3,4,5,23],[],[],[(0,[(2,.box [.k .l,.k (.i .i64),.k .l,.k .l,.k .l]),(7,.box [.k (.i .i64),.k (.i .i64),.k (.i .i64),.k .s,.k (.i .i64),.k .l]),(8,.sc (.k (.i .i64)))])],[]⟩),(5,⟨[3,4,5,23],[],[],[(0,[(2,.box [.k .l,.k (.i .i64),.k .l,.k .l,.k .l]),(7,.box [.k (.i .i64),.k (.i .i64),.k (.i .i64),.k .s,.k (.i .i64),.k .l]),(8,.sc (.k (.i .i64)))])],[]⟩)] [] [] Tryz.func96 abs (qv (λ_ _=>abs))
def HV:List MV->Option MV:=qS Dp [] [] 81 [61,69,75] [] [] [] [(13,⟨[1,3,6,8,9,10,11],[39],[],[(0,[(58,.sc (.k .b))])],[39]⟩),(1,⟨[1,2,3,6],[],[],[(0,[(21,.sc (.k .b))])],[39]⟩)] [(18,⟨[3,6,8],[],[],[(0,[(9,.sc (.own 39 161 true))])],[39]⟩),(14,⟨[1,3,6,8,11],[],[],[(0,[(9,.sc (.own 39 161 true)),(10,.sc (.k .b))])],[39]⟩)] [(11,⟨[1,3,6,8],[],[(9,.sc (.own 39 161 true)),(10,.sc (.k .b)),(11,.sc (.k (.i .i64)))],[(2,[(9,.sc (.own 39 161 true)),(10,.sc (.k .b))])],[39]⟩)] [] Tryz.f97
def Pa:GT:=aG 97 HV Dp
def UB:SG Pa:=gZ LO Tryz.func97
def Ew:List MV->Option MV:=qS Pa [] [] 45 [39] [] [] [] [] [(9,⟨[1,2,4,6,7],[14],[],[(0,[(8,.box [.k (.i .i64),.k (.i .i64),.k (.i .i64)])])],[14]⟩)] [(5,⟨[1,2,4],[],[(6,.sc (.own 14 161 true)),(7,.sc (.k (.i .i64)))],[(2,[(6,.sc (.own 14 161 true))])],[14]⟩)] [] Tryz.f98
def JS:GT:=aG 98 Ew Pa
def Q5:SG JS:=gZ UB Tryz.func98
def Ex:List MV->Option MV:=qS JS [] [] 41 [35] [] [] [] [] [(8,⟨[1,2,4,7],[],[],[(0,[(6,.sc (.own 13 161 true))])],[13]⟩)] [(5,⟨[1,2,4],[],[(6,.sc (.own 13 161 true)),(7,.sc (.k (.i .i64)))],[(2,[(6,.sc (.own 13 161 true))])],[13]⟩)] [] Tryz.f99
def JT:GT:=aG 99 Ex JS
def Q6:SG JT:=gZ Q5 Tryz.func99
def HW:List MV->Option MV:=qS JT [] [] 50 [37,45] [] [] [] [(5,⟨[1,2,4,6,7,8],[9,10],[],[(0,[(29,.sc (.k .b))])],[9,10]⟩)] [(6,⟨[1,2,4,8],[],[],[(0,[(6,.sc (.own 9 134 true)),(7,.sc (.own 10 9 true))])],[9,10]⟩)] [(3,⟨[1,2,4],[],[(6,.sc (.own 9 134 true)),(7,.sc (.own 10 9 true)),(8,.sc (.k (.i .i64)))],[(2,[(6,.sc (.own 9 134 true)),(7,.sc (.own 10 9 true))])],[9,10]⟩)] [] Tryz.f144
def Pb:GT:=aG 144 HW JT
def UC:SG Pb:=gZ Q6 Tryz.func144
def Ey:List MV->Option MV:=qS Pb [] [] 44 [39] [] [] [(5,[0,1,2,3,4,5,6,7,8,9,10,11])] [] [] [(7,⟨[1,2,4,7,8,9],[],[(6,.sc (.own 11 201 true)),(10,.sc (.k (.i .i64)))],[(4,[(6,.sc (.own 11 201 true))])],[11]⟩),(3,⟨[1,4],[],[(2,.box [.k .l]),(6,.sc (.own 11 201 true)),(7,.sc (.k (.i .i64)))],[(2,[(2,.box [.k .l]),(6,.sc (.own 11 201 true))])],[11]⟩)] [] Tryz.f100
def JU:GT:=aG 100 Ey Pb
def Q7:SG JU:=gZ UC Tryz.func100
def HX:List MV->Option MV:=qS JU [] [] 56 [42,50] [] [] [] [] [(10,⟨[1,2,4,9],[],[],[(0,[(7,.sc (.own 18 161 true)),(8,.sc (.own 19 3 true))])],[18,19]⟩)] [(7,⟨[1,2,4],[],[(7,.sc (.own 18 161 true)),(8,.sc (.own 19 3 true)),(9,.sc (.k (.i .i64)))],[(2,[(7,.sc (.own 18 161 true)),(8,.sc (.own 19 3 true))])],[18,19]⟩)] [] Tryz.f101
def Pc:GT:=aG 101 HX JU
def UD:SG Pc:=gZ Q7 Tryz.func101
def Mt:List MV->Option MV:=qS Pc [] [] 18 [] [] [] [(4,[0,1,2,3,4,5])] [] [] [(2,⟨[0,3],[],[(5,.sc (.k (.i .i64)))],[(1,[(4,.sc (.k .b))]),(2,[])],[]⟩)] [] Tryz.f146
def UE:GT:=aG 146 Mt Pc
def XP:SG UE:=gZ UD Tryz.func146
def Mu:List MV->Option MV:=qS UE [] [] 36 [32] [] [] [] [] [] [] [] Tryz.f102
def UF:GT:=aG 102 Mu UE
def XQ:SG UF:=gZ XP Tryz.func102
def Dq:List MV->Option MV:=qS UF [] [] 153 [25,92] [151] [(40,[7])] [(40,[0,1,2,3,4,5])] [] [(23,⟨[3,4,5,7],[],[],[(0,[(2,.box [.k .l,.k (.i .i64),.k .l,.k .l,.k .l]),(8,.sc (.k .l))])],[]⟩),(31,⟨[4,5,17,18],[],[],[(0,[(2,.box [.k .l,.k (.i .i64),.k .l,.k .l,.k .l]),(7,.box [.k (.i .i64),.k (.i .i64),.k (.i .i64),.k .s,.k (.i .i64),.k .l]),(8,.sc (.k .l))])],[]⟩),(37,⟨[3,4,5,8],[],[],[(0,[(2,.box [.k .l,.k (.i .i64),.k .l,.k .l,.k .l]),(7,.box [.k (.i .i64),.k (.i .i64),.k (.i .i64),.k .s,.k (.i .i64),.k .l])])],[]⟩),(36,⟨[2,3,4,5,7,8,27],[],[],[(0,[(129,.sc (.k .b))])],[]⟩),(27,⟨[3,4,5,27],[],[],[(0,[(2,.box [.k .l,.k (.i .i64),.k .l,.k .l,.k .l]),(7,.box [.k (.i .i64),.k (.i .i64),.k (.i .i64),.k .s,.k (.i .i64),.k .l]),(8,.sc (.k .l))])],[]⟩),(19,⟨[3,4,5,27],[],[],[(0,[(2,.box [.k .l,.k (.i .i64),.k .l,.k .l,.k .l]),(7,.box [.k (.i .i64),.k (.i .i64),.k (.i .i64),.k .s,.k (.i .i64),.k .l]),(8,.sc (.k .l))])],[]⟩),(15,⟨[3,4,5,27],[],[],[(0,[(2,.box [.k .l,.k (.i .i64),.k .l,.k .l,.k .l]),(7,.box [.k (.i .i64),.k (.i .i64),.k (.i .i64),.k .s,.k (.i .i64),.k .l]),(8,.sc (.k .l))])],[]⟩),(11,⟨[3,4,5,27],[],[],[(0,[(2,.box [.k .l,.k (.i .i64),.k .l,.k .l,.k .l]),(7,.box [.k (.i .i64),.k (.i .i64),.k (.i .i64),.k .s,.k (.i .i64),.k .l]),(8,.sc (.k .l))])],[]⟩),(8,⟨[2,3,4,5,7,8,27],[],[],[(0,[(28,.sc (.k .b))])],[]⟩),(7,⟨[2,3,4,5,7,8,27],[],[],[(0,[(28,.sc (.k .b))])],[]⟩),(6,⟨[2,3,4,5,7,8,27],[],[],[(0,[(28,.sc (.k .b))])],[]⟩),(5,⟨[2,3,4,5,7,8,27],[],[],[(0,[(28,.sc (.k .b))])],[]⟩)] [] [] Tryz.f49
def Pd:GT:=aG 49 Dq UF
def UG:SG Pd:=gZ XQ Tryz.func49
def yq:List MV->Option MV:=qP Pd [] 48 [(6,⟨[2,3,5,6],[],[],[(0,[(4,.sc (.k .b))])],[]⟩),(1,⟨[2,3],[],[],[(0,[(20,.sc (.k .b))])],[]⟩)] [] [] Tryz.f103
def Dr:GT:=aG 103 yq Pd
def LP:SG Dr:=kV UG Tryz.func103
def Ds:List MV->Option MV:=qS Dr [] [] 61 [48,55] [] [] [(10,[0,1,2,3,4,5,6,7,8]),(11,[0,1,2,3,4,5,6,7,8,9,10,11,12])] [] [(11,⟨[1,4,6,8,10],[11],[],[(0,[(7,.sc (.own 15 203 true)),(9,.sc (.own 22 162 true))])],[11,15,22]⟩)] [(8,⟨[1,4,6,8],[11],[(7,.sc (.own 15 203 true)),(9,.sc (.own 22 162 true)),(10,.sc (.k (.i .i64)))],[(4,[(7,.sc (.own 15 203 true)),(9,.sc (.own 22 162 true))])],[11,15,22]⟩),(4,⟨[1,4],[],[(6,.sc (.own 11 162 true)),(7,.sc (.own 15 203 true)),(8,.sc (.k (.i .i64)))],[(2,[(6,.sc (.own 11 162 true)),(7,.sc (.own 15 203 true))])],[11,15,22]⟩)] [] Tryz.f50
def Pe:GT:=aG 50 Ds Dr
def UH:SG Pe:=gZ LP Tryz.func50
def Dt:List MV->Option MV:=qS Pe [] [] 53 [29,44,50] [] [] [(6,[0,1,2,3,4,5,6,7,8,9,10,11]),(9,[0,1,2,3,4,5,6,7])] [(6,⟨[0,3,5,6,7],[8],[],[(0,[(26,.sc (.k .b))])],[8]⟩)] [(12,⟨[3],[],[],[(0,[(5,.sc (.own 8 70 true))])],[8]⟩),(10,⟨[0,3,6,7],[],[],[(0,[(5,.sc (.own 8 70 true))])],[8]⟩),(7,⟨[0,3,7],[],[],[(0,[(5,.sc (.own 8 70 true)),(6,.sc (.k .b))])],[8]⟩)] [(4,⟨[0,3],[],[(5,.sc (.own 8 70 true)),(6,.sc (.k .b)),(7,.sc (.k (.i .i64)))],[(2,[(5,.sc (.own 8 70 true)),(6,.sc (.k .b))])],[8]⟩)] [] Tryz.f51
def XR:GT:=aG 51 Dt Pe
def UI:SG XR:=gZ UH Tryz.func51
def Ez (a a1:MV):Option MV:=gA a λcs=>
 wQ cs λfJ eA lg gG Seen=>
 gA a1 λFj=>
 vG Fj λClient Seq Kind Path Value Version Session Span=>
 bd (HR [.agg [.i .i64 Client,.i .i64 Seq,.i .i64 Kind,.s Path,.s Value,.i .i64 Version,.i .i64 Session,.i .i64 Span]]) λrA=>
 gB rA λx=>
 eC (!x) (
 both (
 some (.cw [.agg (fH fJ eA lg gG Seen),.agg (dL Client Seq 1 ([]:List UInt8) 0 ([]:List MV)),.list ([]:List MV)])) (
 some (.cw [.agg (fH fJ eA lg gG Seen),.agg (dL Client Seq 1 ([]:List UInt8) 0 ([]:List MV)),.list ([]:List MV)]))) (
 bd (Di [.agg (fH fJ eA lg gG Seen),.i .i64 Client]) λaO=>
 gT aO λvs=>
 gC vs λm13 Df=>
 gA m13 λIP=>
 lH IP λqW LF E pL jo Names=>
 gC Df λm20 OM=>
 gB m20 λx1=>
 gN OM<|
 bd (
 eC x1 (
 some [.b (decide (LF=Seq))]) (
 some [.b false])) λAk=>
 gC Ak λm21 XL=>
 gB m21 λx2=>
 gN XL<|
 eC x2 (
 some (.cw [.agg (fH fJ eA lg gG Seen),.agg (dL qW LF E pL jo Names),.list ([]:List MV)])) (
 bd (
 eC x1 (
 some [.b (decide (Seq<LF))]) (
 some [.b false])) λHg=>
 gC Hg λm22 XS=>
 gB m22 λx3=>
 gN XS<|
 eC x3 (
 both (
 some (.cw [.agg (fH fJ eA lg gG Seen),.agg (dL Client Seq 15 ([]:List UInt8) 0 ([]:List MV)),.list ([]:List MV)])) (
 some (.cw [.agg (fH fJ eA lg gG Seen),.agg (dL Client Seq 15 ([]:List UInt8) 0 ([]:List MV)),.list ([]:List MV)]))) (
 bd (
 eC (!x1) (
 eF Seen λlen=>
 some [.b (decide ((50:Int)<=(len:Int)))]) (
 some [.b false])) λvs3=>
 gC vs3 λm23 Pf=>
 gB m23 λx4=>
 gN Pf<|
 eC x4 (
 some (.cw [.agg (fH fJ eA lg gG Seen),.agg (dL Client Seq 9 ([]:List UInt8) 0 ([]:List MV)),.list ([]:List MV)])) (
 bd (Dq [.agg (fH fJ eA lg gG Seen),.agg [.i .i64 Client,.i .i64 Seq,.i .i64 Kind,.s Path,.s Value,.i .i64 Version,.i .i64 Session,.i .i64 Span]]) λbK=>
 gT bK λvs4=>
 gC vs4 λm24 XT=>
 gA m24 λB4=>
 wQ B4 λMv HY UJ Mw aiJ=>
 gC XT λm30 awb=>
 gA m30 λcs4=>
 lH cs4 λack avY E1 ON zP Jy=>
 gC awb λm37 aiI=>
 gL m37 λx5=>
 gN aiI<|
 bd (Ds [.agg [.list Mw],.list x5]) λgQ=>
 gT gQ λvs5=>
 gC vs5 λm38 awc=>
 gA m38 λcs5=>
 gC cs5 λm39 awd=>
 gL m39 λL=>
 gN awd<|
 gC awc λm40 awe=>
 gL m40 λx6=>
 gN awe<|
 bd (Dt [.list Seen,.agg (dL Client Seq E1 ON zP Jy)]) λn6=>
 gL n6 λx7=>
 some (.cw [.agg (fH Mv HY UJ L x7),.agg (dL Client Seq E1 ON zP Jy),.list x6])))))
def JV:GT:=aG 24 (LB Ez) XR
def Q8:SG JV:=fnS UI [] [] 95 [] [42,64,93] [(6,[8]),(13,[7]),(14,[7]),(17,[11])] [(4,[0,2,1,3,4,0,1,2,3,4,5,2,1]),(7,[0,1,2,3,4]),(10,[0,2,1,3,4,0,1,2,3,4,5,2,1]),(13,[0,1,2,3,4]),(20,[0,1,2,3,4,5])] [(11,⟨[2,3,4,5,7,9],[],[],[(0,[(61,.sc (.k .b))])],[]⟩),(8,⟨[2,3,4,5,7,8,9],[],[],[(0,[(50,.sc (.k .b))])],[]⟩),(6,⟨[2,3,4,5,7,8,9],[],[],[(0,[(40,.sc (.k .b))])],[]⟩)] [] [] [] Tryz.func24 abs (qv (λ_ _=>abs))
def Du:List MV->Option MV:=qS JV [] [] 42 [33] [] [] [(5,[0,1,2,3,4,5,6,7,8,9,10,11,12,13,14])] [] [] [(3,⟨[1,4],[],[(2,.box [.k .l,.k (.i .i64),.k .l,.k .l,.k .l]),(7,.sc (.own 13 70 true)),(8,.sc (.own 14 203 true)),(9,.sc (.k (.i .i64)))],[(2,[(2,.box [.k .l,.k (.i .i64),.k .l,.k .l,.k .l]),(7,.sc (.own 13 70 true)),(8,.sc (.own 14 203 true))])],[13,14]⟩)] [] Tryz.f8
def Pg:GT:=aG 8 Du JV
def UK:SG Pg:=gZ Q8 Tryz.func8
def Mx:List MV->Option MV:=qP Pg [] 4 [] [] [] Tryz.f25
def UL:GT:=aG 25 Mx Pg
def XU:SG UL:=kV UK Tryz.func25
def HZ:List MV->Option MV:=qP UL [] 3 [] [] [] Tryz.f9
def UM:GT:=aG 9 HZ UL
def XV:SG UM:=kV XU Tryz.func9
def Bu:List MV->Option MV:=qS UM [] [] 38 [35] [] [] [] [] [] [(3,⟨[0],[],[(3,.sc (.own 6 88 true)),(4,.sc (.k (.i .i64)))],[(2,[(3,.sc (.own 6 88 true))])],[6]⟩)] [] Tryz.f10
def UN:GT:=aG 10 Bu UM
def XW:SG UN:=gZ XV Tryz.func10
def H0:List MV->Option MV:=qS UN [] [] 55 [] [] [] [(13,[0,1,2,3,4,5,6,7])] [(4,⟨[0,5],[],[],[(0,[(31,.sc (.k .b))])],[]⟩)] [] [(10,⟨[0,5],[],[(6,.sc (.k (.i .u64))),(7,.sc (.k (.i .i64)))],[(2,[(6,.sc (.k (.i .u64)))])],[]⟩)] [] Tryz.f52
def Pj:GT:=aG 52 H0 UN
def UO:SG Pj:=gZ XW Tryz.func52
def yr:List MV->Option MV:=qP Pj [] 30 [] [] [] Tryz.f148
def Dv:GT:=aG 148 yr Pj
def LQ:SG Dv:=kV UO Tryz.func148
def H2:List MV->Option MV:=qS Dv [] [] 34 [29] [] [] [] [] [] [(3,⟨[1],[],[(0,.sc (.k .l)),(7,.sc (.own 12 3 true)),(8,.sc (.k (.i .i64)))],[(1,[(4,.sc (.k .l)),(5,.sc (.k .l)),(6,.sc (.k (.i .i64)))]),(2,[(0,.sc (.k .l)),(7,.sc (.own 12 3 true))])],[12]⟩)] [] Tryz.f104
def Pk:GT:=aG 104 H2 Dv
def UP:SG Pk:=gZ LQ Tryz.func104
def vq:List MV->Option MV:=qS Pk [] [] 36 [] [] [] [(8,[0,1,2,3,4,5,6,7,8,9])] [] [] [] [] Tryz.f105
def Bv:GT:=aG 105 vq Pk
def JW:SG Bv:=gZ UP Tryz.func105
def H3:List MV->Option MV:=qS Bv [] [] 68 [] [] [] [(10,[0,1,2,3,4,5,6,7,8,9,10,11,12,13,14,15,16,17,18,19,20,21,22])] [] [] [] [] Tryz.f53
def Pl:GT:=aG 53 H3 Bv
def UQ:SG Pl:=gZ JW Tryz.func53
def Bw:List MV->Option MV:=qS Pl [] [] 48 [41] [] [] [] [(2,⟨[4,5,6],[],[],[(0,[(24,.sc (.k .b))])],[25]⟩)] [] [(6,⟨[4],[],[(5,.sc (.k .l)),(7,.sc (.own 25 88 true)),(8,.sc (.k (.i .u64)))],[(1,[(2,.sc (.k .l)),(3,.sc (.k (.i .i64)))]),(2,[(5,.sc (.k .l)),(7,.sc (.own 25 88 true))])],[25]⟩)] [] Tryz.f26
def Gu:GT:=aG 26 Bw Pl
def Pm:SG Gu:=gZ UQ Tryz.func26
def zQ:List MV->Option MV:=qP Gu [] 30 [] [] [] Tryz.f12
def JX:GT:=aG 12 zQ Gu
def Q9:SG JX:=kV Pm Tryz.func12
def Dw:List MV->Option MV:=qS JX [] [] 26 [] [] [] [(6,[0,1,2,3,4,5,6,7,8])] [] [] [(4,⟨[0,1],[],[(5,.sc (.k (.i .i64)))],[(1,[(4,.sc (.k .b))]),(2,[])],[]⟩)] [] Tryz.f13
def Pn:GT:=aG 13 Dw JX
def UR:SG Pn:=gZ Q9 Tryz.func13
def mb:List MV->Option MV:=qP Pn [[.i .i64,.i .i64,.i .i64,.s,.s,.i .i64,.i .i64,.i .i64]] 9 [] [] [] Tryz.f29
def uL:GT:=aG 29 mb Pn
def Fe:SG uL:=kV UR Tryz.func29
def eB:GT:=uL
def mc (x0 x1:MV):eB 29 [x0,x1]=mb [x0,x1]:=abs
def fc (sA f:MV):Option MV:=gL sA λsA1=>
 gR f λf1=>
 eF sA1 λlen=>
 bd (Loop (λzL=>
 gC zL λm A3=>
 gI .i64 m λx=>
 gN A3<|
 eC (decide (x<(len:Int))) (
 idx sA1 x λy=>
 gA y λcs=>
 vG cs λClient Seq Kind Path Value Version Session Span=>
 YQ f1 λfn cap=>
 bS (!gv fn)<|
 bd (eB fn ([.agg [.i .i64 Client,.i .i64 Seq,.i .i64 Kind,.s Path,.s Value,.i .i64 Version,.i .i64 Session,.i .i64 Span]]++cap)) λrA=>
 gB rA λx1=>
 eC x1 (
 some (.inr (1,[.i .i64 x]))) (
 some (.inl [.i .i64 (bD .i64 (x+1))]))) (
 some (.inr (2,[])))) [.i .i64 0]) λp=>
 eC (By p.1 2) (
 gN p.2<|
 some (.i .i64 (-1))) (
 bS (By p.1 1)<|
 gC p.2 λm9 aiK=>
 gI .i64 m9 λx2=>
 gN aiK<|
 some (.i .i64 x2))
def jt:GT:=aG 54 (LB fc) uL
def sO:SG jt:=fnP Fe [] 19 [] [] [(2,⟨[0,1,7],[],[(8,.sc (.k (.i .i64)))],[(1,[(4,.sc (.k (.i .i64)))]),(2,[])],[]⟩)] Tryz.func54 abs (qv (λ_ _=>abs))
def eg:List MV->Option MV:=qP jt [] 9 [] [] [] Tryz.f28
def gJ:GT:=aG 28 eg jt
def qj:SG gJ:=kV sO Tryz.func28
def o9:List MV->Option MV:=qS gJ [] [] 55 [51] [] [] [] [(7,⟨[2,5,7,8,9,10,11,12,13],[52],[],[(0,[(48,.sc (.k .b))])],[52]⟩)] [(8,⟨[2,7,11,12,13],[],[],[(0,[(5,.sc (.own 52 77 true))])],[52]⟩)] [(3,⟨[2,11,12],[],[(5,.sc (.own 52 77 true)),(13,.sc (.k (.i .i64)))],[(2,[(5,.sc (.own 52 77 true))])],[52]⟩)] [] Tryz.f14
def yP:GT:=aG 14 o9 gJ
def H4:SG yP:=gZ qj Tryz.func14
def EA:List MV->Option MV:=qP yP [] 27 [(2,⟨[3,5,6],[],[],[(0,[(4,.sc (.k .b))])],[]⟩)] [] [] Tryz.f31
def JY:GT:=aG 31 EA yP
def Ra:SG JY:=kV H4 Tryz.func31
def ug:List MV->Option MV:=qS JY [] [] 59 [56] [] [] [(9,[0,1,2,3,4,5,6,7,8,9,10,11,12,13,14]),(10,[0,1,2,3,4,5,6,7,8,9])] [(10,⟨[1,2,5,6,7],[9],[],[(0,[(50,.sc (.k .b))])],[9]⟩),(9,⟨[1,2,5,6,8],[9],[],[(0,[(7,.sc (.k .b))])],[9]⟩),(3,⟨[1,2,5,6],[9],[],[(0,[(18,.sc (.k .b))])],[9]⟩)] [(11,⟨[1,2,6],[],[],[(0,[(5,.sc (.own 9 88 true))])],[9]⟩)] [(7,⟨[1,2,5,6],[9],[(7,.sc (.k .b)),(8,.sc (.k (.i .i64)))],[(4,[(7,.sc (.k .b))])],[9]⟩),(3,⟨[1,2],[],[(5,.sc (.own 9 88 true)),(6,.sc (.k (.i .i64)))],[(2,[(5,.sc (.own 9 88 true))])],[9]⟩)] [] Tryz.f15
def Dx:GT:=aG 15 ug JY
def LR:SG Dx:=gZ Ra Tryz.func15
def yt:List MV->Option MV:=qS Dx [] [] 26 [] [] [] [(6,[0,1,2,3,4,5,6,7,8])] [] [] [(4,⟨[0,1],[],[(5,.sc (.k (.i .i64)))],[(1,[(4,.sc (.k .b))]),(2,[])],[]⟩)] [] Tryz.f32
def Dy:GT:=aG 32 yt Dx
def LS:SG Dy:=gZ LR Tryz.func32
def Dz:List MV->Option MV:=qP Dy [] 45 [(1,⟨[2,3],[],[],[(0,[(4,.sc (.k .b))])],[]⟩)] [] [] Tryz.f16
def XX:GT:=aG 16 Dz Dy
def US:SG XX:=kV LS Tryz.func16
def mN (x k:MV):Option MV:=gI .u32 x λx1=>
 gI .i64 k λk1=>
 bS (decide ((0:Int)<=(eX .u64 (bD .u64 k1) 31)))<|
 bS (decide ((0:Int)<=(bD .u64 (32-(eX .u64 (bD .u64 k1) 31)))))<|
 some (.i .u32 (Ch .u32 (bD .u32 (x1 *2^min (sh (eX .u64 (bD .u64 k1) 31)) (AI .u32))) (BY x1 (2^min (sh (bD .u64 (32-(eX .u64 (bD .u64 k1) 31)))) (AI .u32)))))
def rh:GT:=aG 179 (LB mN) XX
def Cf:SG rh:=fnP US [] 17 [] [] [] Tryz.func179 abs (qv (λ_ _=>abs))
def eL:List MV->Option MV:=qP rh [] 9 [] [] [] Tryz.f151
def XY:GT:=aG 151 eL rh
def UT:SG XY:=kV Cf Tryz.func151
def DA (b:MV):Option MV:=gL b λb1=>
 idx b1 0 λy=>
 gI .u8 y λx=>
 bS (decide ((0:Int)<=24))<|
 idx b1 1 λy1=>
 gI .u8 y1 λx1=>
 bS (decide ((0:Int)<=16))<|
 idx b1 2 λy2=>
 gI .u8 y2 λx2=>
 bS (decide ((0:Int)<=8))<|
 idx b1 3 λy3=>
 gI .u8 y3 λx3=>
 some (.i .u32 (Ch .u32 (Ch .u32 (Ch .u32 (bD .u32 ((bD .u32 x) *2^min (sh 24) (AI .u32))) (bD .u32 ((bD .u32 x1) *2^min (sh 16) (AI .u32)))) (bD .u32 ((bD .u32 x2) *2^min (sh 8) (AI .u32)))) (bD .u32 x3)))
def XZ:GT:=aG 178 (Ji DA) XY
def UU:SG XZ:=fnS UT [] [] 25 [] [] [] [(1,[0,1,2,3,4,5,6,7,8,9,10,11,12,13,14,15,16,17,18,19,20,21,22])] [] [] [] [] Tryz.func178 abs (pn (λ_=>abs))
def oq (b:MV):Option MV:=gL b λb1=>
 bd (Loop (λzL=>
 gC zL λm A3=>
 gH .u32 62 m λw1=>
 gC A3 λm1 JB=>
 gI .i64 m1 λx=>
 gN JB<|
 eC (decide (x<16)) (
 bS (oL 1 b1)<|
 eF b1 λlen=>
 bS (decide ((0:Int)<=(bD .i64 (4 *x))/\(bD .i64 (4 *x))<=(len:Int)/\(len:Int)<=(len:Int)))<|
 bd (DA (.list (AS (sh (bD .i64 (4 *x))) (AT (sh (len:Int)) b1)))) λrA=>
 gI .u32 rA λx1=>
 bS (decide ((0:Int)<=x/\x<64))<|
 some (.inl [.h .u32 62 (w1.set (sh x) x1),.i .i64 (bD .i64 (x+1))])) (
 some (.inr (2,[.h .u32 62 w1])))) [.h .u32 62 (zA 62),.i .i64 0]) λp=>
 bS (By p.1 2)<|
 gC p.2 λm2 Dj=>
 gH .u32 62 m2 λw2=>
 gN Dj<|
 bd (Loop (λBg=>
 gC Bg λm3 Gp=>
 gH .u32 62 m3 λw4=>
 gC Gp λm4 Bq=>
 gI .i64 m4 λt=>
 gN Bq<|
 eC (decide (t<64)) (
 bS (decide ((0:Int)<=(bD .i64 (t-15))/\(bD .i64 (t-15))<64))<|
 bS (decide ((0:Int)<=(bD .i64 (t-2))/\(bD .i64 (t-2))<64))<|
 bd (eL [.i .u32 (w4.getD (sh (bD .i64 (t-15))) 0),.i .i64 7]) λaO=>
 gI .u32 aO λx2=>
 bd (eL [.i .u32 (w4.getD (sh (bD .i64 (t-15))) 0),.i .i64 18]) λbK=>
 gI .u32 bK λx3=>
 bS (decide ((0:Int)<=3))<|
 bd (eL [.i .u32 (w4.getD (sh (bD .i64 (t-2))) 0),.i .i64 17]) λgQ=>
 gI .u32 gQ λx4=>
 bd (eL [.i .u32 (w4.getD (sh (bD .i64 (t-2))) 0),.i .i64 19]) λn6=>
 gI .u32 n6 λx5=>
 bS (decide ((0:Int)<=10))<|
 bS (decide ((0:Int)<=(bD .i64 (t-16))/\(bD .i64 (t-16))<64))<|
 bS (decide ((0:Int)<=(bD .i64 (t-7))/\(bD .i64 (t-7))<64))<|
 bS (decide ((0:Int)<=t/\t<64))<|
 some (.inl [.h .u32 62 (w4.set (sh t) (bD .u32 ((bD .u32 ((bD .u32 ((w4.getD (sh (bD .i64 (t-16))) 0)+(ca .u32 (ca .u32 x2 x3) (BY (w4.getD (sh (bD .i64 (t-15))) 0) (2^min (sh 3) (AI .u32))))))+(w4.getD (sh (bD .i64 (t-7))) 0)))+(ca .u32 (ca .u32 x4 x5) (BY (w4.getD (sh (bD .i64 (t-2))) 0) (2^min (sh 10) (AI .u32))))))),.i .i64 (bD .i64 (t+1))])) (
 some (.inr (4,[.h .u32 62 w4])))) [.h .u32 62 w2,.i .i64 16]) λp1=>
 bS (By p1.1 4)<|
 gC p1.2 λm5 Dk=>
 gH .u32 62 m5 λw5=>
 gN Dk<|
 some (.h .u32 62 w5)
def Bx:GT:=aG 149 (Ji oq) XZ
def JZ:SG Bx:=fnS UU [] [] 64 [] [] [] [(9,[0,1,2,3,4,5,6,7,8,9]),(12,[0,1,2,3,4,5,6,7,8,9,10,11,12,13,14,15])] [] [] [(7,⟨[],[],[(2,.box [.k (.h .u32 62)]),(4,.sc (.k (.i .i64)))],[(4,[(2,.box [.k (.h .u32 62)])])],[]⟩),(2,⟨[0],[],[(2,.box [.k (.h .u32 62)]),(9,.sc (.k (.i .i64)))],[(2,[(2,.box [.k (.h .u32 62)])])],[]⟩)] [] Tryz.func149 abs (pn (λ_=>abs))
def vJ:List MV->Option MV:=qP Bx [] 3 [] [] [] Tryz.f150
def J0:GT:=aG 150 vJ Bx
def Rb:SG J0:=kV JZ Tryz.func150
def zR (out n long:MV):Option MV:=gF out λaem=>
 gI .u64 n λn1=>
 gI .i64 long λaiL=>
 bd (Loop (λzL=>
 Xw zL λaen i=>
 eC (decide ((0:Int)<=i)) (
 bS (decide ((0:Int)<=(bD .i64 (8 *i))))<|
 eF aen λlen=>
 eF ([.i .u8 (bD .u8 (BY n1 (2^min (sh (bD .i64 (8 *i))) (AI .u64))))]:List MV) λqi=>
 bS (decide ((len+qi) *1<=2^46))<|
 some (.inl [.list (aen++([.i .u8 (bD .u8 (BY n1 (2^min (sh (bD .i64 (8 *i))) (AI .u64))))]:List MV)),.i .i64 (bD .i64 (i-1))])) (
 some (.inr (2,[.list aen])))) [.list aem,.i .i64 (bD .i64 (aiL-1))]) λp=>
 bS (By p.1 2)<|
 gC p.2 λm2 Dj=>
 gL m2 λaAG=>
 gN Dj<|
 some (.fresh aAG)
def X0:GT:=aG 109 (TY zR) J0
def UW:SG X0:=Rb.fnG (c':=LD J0 [] 23 [20] [] [] [] [] [] [(2,⟨[1],[],[(0,.sc (.own 5000000 5 false)),(7,.sc (.k (.i .i64)))],[(2,[(0,.sc (.own 5000000 5 false))])],[]⟩)] []) (ty:=5) ⟨rfl,rfl,rfl,rfl,rfl,rfl,rfl,rfl,rfl⟩ rfl kU K4 K6 Ou qT AX Tryz.func109 abs (λ_=>rfl) (xZ λ_ _ _=>abs)
def H5 (n:MV):Option MV:=gI .i64 n λn1=>
 bS (!decide ((64:Int)=0))<|
 bS (!decide ((64:Int)=0))<|
 bS (decide ((0:Int)<=(bD .i64 (1+(IN (bD .i64 (119-(IN (imax n1 0) 64))) 64)))/\(bD .i64 (1+(IN (bD .i64 (119-(IN (imax n1 0) 64))) 64)))<=(bD .i64 ((bD .i64 (1+(IN (bD .i64 (119-(IN (imax n1 0) 64))) 64)))+8))/\(bD .i64 ((bD .i64 (1+(IN (bD .i64 (119-(IN (imax n1 0) 64))) 64)))+8)) *1<=2^46))<|
 idx (ab2 (sh (bD .i64 (1+(IN (bD .i64 (119-(IN (imax n1 0) 64))) 64)))) (.i .u8 0)) 0 λy=>
 gI .u8 y λx=>
 bd (zR (.fresh ((ab2 (sh (bD .i64 (1+(IN (bD .i64 (119-(IN (imax n1 0) 64))) 64)))) (.i .u8 0)).set (sh 0) (.i .u8 128))) (.i .u64 (bD .u64 ((bD .u64 (imax n1 0)) *8))) (.i .i64 8)) λrA=>
 gF rA λxs=>
 some (.list xs)
def aco:GT:=aG 108 (Ji H5) X0
def X1:SG aco:=fnP UW [] 24 [] [] [] Tryz.func108 abs (pn (λ_=>abs))
def zS:Option MV:=some (.h .u32 6 [1779033703,3144134277,1013904242,2773480762,1359893119,2600822924,528734635,1541459225])
def J1:GT:=aG 106 (amb zS) aco
def Rc:SG J1:=fnP X1 [] 2 [] [] [] Tryz.func106 abs (TZ abs)
def cJ:List MV->Option MV:=qC J1 0 K7 K7 [] [(0,1000000)] 22 [18] [] [] [] [] [] [(1,⟨[0,6,7],[],[(8,.sc (.k (.i .i64))),(1000000,.box [.k .l])],[(2,[(1000000,.box [.k .l])])],[]⟩)] [] Tryz.f59
def rj:GT:=aG 59 cJ J1
def Cg:SG rj:=aoY Rc Tryz.func59
def gd:List MV->Option MV:=qC rj 0 K7 K7 [] [(0,1000000)] 22 [18] [] [] [] [] [] [(1,⟨[0,6,7],[],[(8,.sc (.k (.i .i64))),(1000000,.box [.k .l])],[(2,[(1000000,.box [.k .l])])],[]⟩)] [] Tryz.f60
def pR:GT:=aG 60 gd rj
def Bz:SG pR:=aoY Cg Tryz.func60
def xj:List MV->Option MV:=qP pR [] 4 [] [] [] Tryz.f61
def Gv:GT:=aG 61 xj pR
def Po:SG Gv:=kV Bz Tryz.func61
def BA:List MV->Option MV:=qF Gv 5 [] [] 24 [] [] [] [] [] [] [(3,⟨[13,14],[],[(5,.sc (.own 12 5 false)),(15,.sc (.k (.i .i64)))],[(2,[(5,.sc (.own 12 5 false))])],[]⟩)] [] Tryz.f111
def Gw:GT:=aG 111 BA Gv
def Pp:SG Gw:=Sn Po Tryz.func111
def nS:List MV->Option MV:=qS Gw [] [] 22 [14] [] [] [(1,[0,1,2,3,4,5,6,7,8,11,12,14,15,9,10,13,16,17])] [] [] [] [] Tryz.f62
def DB:GT:=aG 62 nS Gw
def Gx:SG DB:=gZ Pp Tryz.func62
def BB (a:MV):Option MV:=gA a λcs=>
 wQ cs λfJ eA lg gG Seen=>
 eF fJ λlen=>
 bd (cJ [.cell (.func 0 [.list ([]:List MV)]),.list ([.i .i64 (len:Int)]:List MV)]) λrA=>
 gW rA λx ls=>
 gC ls λm5 Gp=>
 gL m5 λb=>
 gN Gp<|
 eF fJ λqi=>
 bd (Loop (λBq=>
 Xw Bq λx1 x2=>
 eC (decide (x2<(qi:Int))) (
 idx fJ x2 λy=>
 gA y λFj=>
 Si Fj λPath Value Version dt=>
 bd (gd [.cell (.func 0 [.list x1]),.list ([.s Path,.s Value]:List MV)]) λaO=>
 gW aO λx3 ls1=>
 gC ls1 λm12 Df=>
 gL m12 λb1=>
 gN Df<|
 bd (cJ [.cell (.func 0 [.list b1]),.list ([.i .i64 Version,.i .i64 dt]:List MV)]) λbK=>
 gW bK λx4 ls2=>
 gC ls2 λm13 O7=>
 gL m13 λb2=>
 gN O7<|
 some (.inl [.list b2,.i .i64 (bD .i64 (x2+1))])) (
 some (.inr (2,[.list x1])))) [.list b,.i .i64 0]) λp=>
 bS (By p.1 2)<|
 gC p.2 λm14 O8=>
 gL m14 λx5=>
 gN O8<|
 eF lg λzN=>
 bd (cJ [.cell (.func 0 [.list x5]),.list ([.i .i64 eA,.i .i64 (zN:Int)]:List MV)]) λgQ=>
 gW gQ λx6 ls3=>
 gC ls3 λm15 O9=>
 gL m15 λb3=>
 gN O9<|
 eF lg λHM=>
 bd (Loop (λOy=>
 Xw Oy λx7 x8=>
 eC (decide (x8<(HM:Int))) (
 idx lg x8 λy1=>
 gA y1 λIP=>
 arm IP λId Span kG=>
 bd (cJ [.cell (.func 0 [.list x7]),.list ([.i .i64 Id,.i .i64 Span,.i .i64 kG]:List MV)]) λn6=>
 gW n6 λx9 ls4=>
 gC ls4 λm21 Pf=>
 gL m21 λb4=>
 gN Pf<|
 some (.inl [.list b4,.i .i64 (bD .i64 (x8+1))])) (
 some (.inr (4,[.list x7])))) [.list b3,.i .i64 0]) λp1=>
 bS (By p1.1 4)<|
 gC p1.2 λm22 XT=>
 gL m22 λBO=>
 gN XT<|
 eF gG λFb=>
 bd (cJ [.cell (.func 0 [.list BO]),.list ([.i .i64 (Fb:Int)]:List MV)]) λrH=>
 gW rH λIW ls5=>
 gC ls5 λm23 awf=>
 gL m23 λb5=>
 gN awf<|
 eF gG λLM=>
 bd (Loop (λawg=>
 Xw awg λMp EV=>
 eC (decide (EV<(LM:Int))) (
 idx gG EV λy2=>
 gA y2 λB4=>
 avy B4 λSp Client Kids=>
 bd (gd [.cell (.func 0 [.list Mp]),.list ([.s Sp]:List MV)]) λn7=>
 gW n7 λXu ls6=>
 gC ls6 λm29 awh=>
 gL m29 λb6=>
 gN awh<|
 bd (xj [.b Kids]) λBN=>
 gI .i64 BN λXv=>
 bd (cJ [.cell (.func 0 [.list b6]),.list ([.i .i64 Client,.i .i64 Xv]:List MV)]) λHz=>
 gW Hz λx16 ls7=>
 gC ls7 λm30 aiF=>
 gL m30 λb7=>
 gN aiF<|
 some (.inl [.list b7,.i .i64 (bD .i64 (EV+1))])) (
 some (.inr (6,[.list Mp])))) [.list b5,.i .i64 0]) λp2=>
 bS (By p2.1 6)<|
 gC p2.2 λm31 aiG=>
 gL m31 λZ8=>
 gN aiG<|
 eF Seen λJJ=>
 bd (cJ [.cell (.func 0 [.list Z8]),.list ([.i .i64 (JJ:Int)]:List MV)]) λQq=>
 gW Qq λx18 ls8=>
 gC ls8 λm32 XM=>
 gL m32 λb8=>
 gN XM<|
 eF Seen λarL=>
 bd (Loop (λaiH=>
 Xw aiH λK5 x20=>
 eC (decide (x20<(arL:Int))) (
 idx Seen x20 λy3=>
 gA y3 λcs4=>
 lH cs4 λqW Seq E pL jo Names=>
 bd (nS [.list K5,.agg (dL qW Seq E pL jo Names)]) λB6=>
 gL B6 λx21=>
 some (.inl [.list x21,.i .i64 (bD .i64 (x20+1))])) (
 some (.inr (8,[.list K5])))) [.list b8,.i .i64 0]) λp3=>
 bS (By p3.1 8)<|
 gC p3.2 λm41 aiM=>
 gL m41 λx22=>
 gN aiM<|
 some (.list x22)
def Gy:GT:=aG 34 (Ji BB) DB
def Pq:SG Gy:=fnS Gx [] [] 128 [19,34,41,52,69,77,90,98,105] [] [] [(20,[0,1,2,3,4,5,6,7]),(26,[0,1,2,3,4,5,6,7,8,9])] [] [] [(24,⟨[108,109],[],[(13,.box [.k .l]),(110,.sc (.k (.i .i64))),(3,.pt 13 0)],[(8,[(13,.box [.k .l]),(3,.pt 13 0)])],[]⟩),(17,⟨[1,81,82],[],[(13,.box [.k .l]),(83,.sc (.k (.i .i64))),(3,.pt 13 0)],[(6,[(13,.box [.k .l]),(3,.pt 13 0)])],[]⟩),(11,⟨[1,56,57],[],[(13,.box [.k .l]),(58,.sc (.k (.i .i64))),(3,.pt 13 0)],[(4,[(13,.box [.k .l]),(3,.pt 13 0)])],[]⟩),(4,⟨[1,23,24],[],[(13,.box [.k .l]),(25,.sc (.k (.i .i64))),(3,.pt 13 0)],[(2,[(13,.box [.k .l]),(3,.pt 13 0)])],[]⟩)] [] Tryz.func34 abs (pn (λ_=>abs))
def My:List MV->Option MV:=qS Gy [] [] 35 [17,32] [] [] [] [] [] [(7,⟨[4],[],[(3,.sc (.own 8 5 true)),(5,.sc (.k (.i .i64)))],[(4,[(3,.sc (.own 8 5 true))])],[8]⟩),(3,⟨[0],[],[(3,.sc (.own 8 5 true))],[(2,[(3,.sc (.own 8 5 true))])],[8]⟩)] [] Tryz.f63
def UX:GT:=aG 63 My Gy
def X2:SG UX:=gZ Pq Tryz.func63
def fe:List MV->Option MV:=qS UX [] [] 13 [] [] [] [(1,[0,1,2,3,4,5,6,7,8])] [] [] [] [] Tryz.f114
def Ps:GT:=aG 114 fe UX
def Pt:SG Ps:=gZ X2 Tryz.func114
def rk (a:MV):Option MV:=gL a λa1=>
 eF a1 λlen=>
 eC (!decide ((len:Int)=64)) (
 some (.cw [.h .u32 62 (zA 62),.i .i64 1])) (
 bd (Loop (λzL=>
 gC zL λm A3=>
 gH .u32 62 m λx=>
 gC A3 λm1 JB=>
 gI .i64 m1 λx1=>
 gN JB<|
 eC (decide (x1<16)) (
 idx a1 (bD .i64 (4 *x1)) λy=>
 gI .u8 y λx2=>
 bS (decide ((0:Int)<=24))<|
 idx a1 (bD .i64 ((bD .i64 (4 *x1))+1)) λy1=>
 gI .u8 y1 λx3=>
 bS (decide ((0:Int)<=16))<|
 idx a1 (bD .i64 ((bD .i64 (4 *x1))+2)) λy2=>
 gI .u8 y2 λx4=>
 bS (decide ((0:Int)<=8))<|
 idx a1 (bD .i64 ((bD .i64 (4 *x1))+3)) λy3=>
 gI .u8 y3 λx5=>
 bS (decide ((0:Int)<=x1/\x1<64))<|
 some (.inl [.h .u32 62 (x.set (sh x1) (Ch .u32 (Ch .u32 (Ch .u32 (bD .u32 ((bD .u32 x2) *2^min (sh 24) (AI .u32))) (bD .u32 ((bD .u32 x3) *2^min (sh 16) (AI .u32)))) (bD .u32 ((bD .u32 x4) *2^min (sh 8) (AI .u32)))) (bD .u32 x5))),.i .i64 (bD .i64 (x1+1))])) (
 some (.inr (2,[.h .u32 62 x])))) [.h .u32 62 (zA 62),.i .i64 0]) λp=>
 bS (By p.1 2)<|
 gC p.2 λm2 Dj=>
 gH .u32 62 m2 λx6=>
 gN Dj<|
 bd (Loop (λBg=>
 gC Bg λm3 Gp=>
 gH .u32 62 m3 λx7=>
 gC Gp λm4 Bq=>
 gI .i64 m4 λx8=>
 gN Bq<|
 eC (decide (x8<64)) (
 bS (decide ((0:Int)<=(bD .i64 (x8-15))/\(bD .i64 (x8-15))<64))<|
 bS (decide ((0:Int)<=(bD .i64 (x8-2))/\(bD .i64 (x8-2))<64))<|
 bd (fe [.i .u32 (x7.getD (sh (bD .i64 (x8-15))) 0),.i .i64 7]) λrA=>
 gI .u32 rA λx9=>
 bd (fe [.i .u32 (x7.getD (sh (bD .i64 (x8-15))) 0),.i .i64 18]) λaO=>
 gI .u32 aO λBO=>
 bS (decide ((0:Int)<=3))<|
 bd (fe [.i .u32 (x7.getD (sh (bD .i64 (x8-2))) 0),.i .i64 17]) λbK=>
 gI .u32 bK λIW=>
 bd (fe [.i .u32 (x7.getD (sh (bD .i64 (x8-2))) 0),.i .i64 19]) λgQ=>
 gI .u32 gQ λMp=>
 bS (decide ((0:Int)<=10))<|
 bS (decide ((0:Int)<=(bD .i64 (x8-7))/\(bD .i64 (x8-7))<64))<|
 bS (decide ((0:Int)<=(bD .i64 (x8-16))/\(bD .i64 (x8-16))<64))<|
 bS (decide ((0:Int)<=x8/\x8<64))<|
 some (.inl [.h .u32 62 (x7.set (sh x8) (bD .u32 ((bD .u32 ((bD .u32 ((ca .u32 (ca .u32 IW Mp) (BY (x7.getD (sh (bD .i64 (x8-2))) 0) (2^min (sh 10) (AI .u32))))+(x7.getD (sh (bD .i64 (x8-7))) 0)))+(ca .u32 (ca .u32 x9 BO) (BY (x7.getD (sh (bD .i64 (x8-15))) 0) (2^min (sh 3) (AI .u32))))))+(x7.getD (sh (bD .i64 (x8-16))) 0)))),.i .i64 (bD .i64 (x8+1))])) (
 some (.inr (4,[.h .u32 62 x7])))) [.h .u32 62 x6,.i .i64 16]) λp1=>
 bS (By p1.1 4)<|
 gC p1.2 λm5 Dk=>
 gH .u32 62 m5 λEV=>
 gN Dk<|
 some (.cw [.h .u32 62 EV,.i .i64 0]))
def BC:GT:=aG 112 (Ji rk) Ps
def J3:SG BC:=fnS Pt [] [] 99 [] [] [] [(7,[0,1,2,3,4,5,6,7,8,9,10,11,12,13,14,15,16,17,18,19,20,21,22,23,24,25,26,27,28,29,30,31,32,33,34,35]),(11,[0,1,2,3,4,5,6,7,8,9]),(14,[0,1,2,3,4,5,6,7,8,9,10,11,12,13,14,15])] [] [] [(9,⟨[2],[],[(4,.box [.k (.h .u32 62)]),(6,.sc (.k (.i .i64)))],[(4,[(4,.box [.k (.h .u32 62)])])],[]⟩),(5,⟨[0,2],[],[(4,.box [.k (.h .u32 62)]),(5,.sc (.k (.i .i64)))],[(2,[(4,.box [.k (.h .u32 62)])])],[]⟩)] [] Tryz.func112 abs (pn (λ_=>abs))
def xk:List MV->Option MV:=qP BC [] 2 [] [] [] Tryz.f113
def Pu:GT:=aG 113 xk BC
def Pv:SG Pu:=kV J3 Tryz.func113
def EB (a a1:MV):Option MV:=gH .u32 6 a λa2=>
 gL a1 λUY=>
 bd (rk (.list UY)) λrA=>
 gT rA λvs=>
 gC vs λm zL=>
 gH .u32 62 m λx=>
 gC zL λm1 A3=>
 gI .i64 m1 λx1=>
 gN A3<|
 eC (!decide (x1=0)) (
 some (.cw [.h .u32 6 (zA 6),.i .i64 x1])) (
 bd (xk []) λaO=>
 gH .u32 62 aO λx2=>
 bd (Loop (λJB=>
 gC JB λm2 Dj=>
 gH .u32 6 m2 λx3=>
 gC Dj λm3 Bg=>
 gI .i64 m3 λx4=>
 gN Bg<|
 eC (decide (x4<64)) (
 bS (decide ((0:Int)<=0/\(0:Int)<8))<|
 bS (decide ((0:Int)<=4/\(4:Int)<8))<|
 bS (decide ((0:Int)<=6/\(6:Int)<8))<|
 bd (fe [.i .u32 (x3.getD (sh 4) 0),.i .i64 6]) λbK=>
 gI .u32 bK λx5=>
 bd (fe [.i .u32 (x3.getD (sh 4) 0),.i .i64 11]) λgQ=>
 gI .u32 gQ λx6=>
 bd (fe [.i .u32 (x3.getD (sh 4) 0),.i .i64 25]) λn6=>
 gI .u32 n6 λx7=>
 bS (decide ((0:Int)<=7/\(7:Int)<8))<|
 bS (decide ((0:Int)<=5/\(5:Int)<8))<|
 bS (decide ((0:Int)<=x4/\x4<64))<|
 bS (decide ((0:Int)<=x4/\x4<64))<|
 bd (fe [.i .u32 (x3.getD (sh 0) 0),.i .i64 2]) λrH=>
 gI .u32 rH λx8=>
 bd (fe [.i .u32 (x3.getD (sh 0) 0),.i .i64 13]) λn7=>
 gI .u32 n7 λx9=>
 bd (fe [.i .u32 (x3.getD (sh 0) 0),.i .i64 22]) λBN=>
 gI .u32 BN λBO=>
 bS (decide ((0:Int)<=1/\(1:Int)<8))<|
 bS (decide ((0:Int)<=2/\(2:Int)<8))<|
 bS (decide ((0:Int)<=1/\(1:Int)<8))<|
 bS (decide ((0:Int)<=2/\(2:Int)<8))<|
 bS (decide ((0:Int)<=0/\(0:Int)<8))<|
 bS (decide ((0:Int)<=1/\(1:Int)<8))<|
 bS (decide ((0:Int)<=2/\(2:Int)<8))<|
 bS (decide ((0:Int)<=3/\(3:Int)<8))<|
 bS (decide ((0:Int)<=4/\(4:Int)<8))<|
 bS (decide ((0:Int)<=5/\(5:Int)<8))<|
 bS (decide ((0:Int)<=6/\(6:Int)<8))<|
 some (.inl [.h .u32 6 [(bD .u32 ((bD .u32 ((bD .u32 ((bD .u32 ((bD .u32 ((x3.getD (sh 7) 0)+(ca .u32 (ca .u32 x5 x6) x7)))+(Ch .u32 (eX .u32 (x3.getD (sh 4) 0) (x3.getD (sh 5) 0)) (eX .u32 (ca .u32 (x3.getD (sh 4) 0) 4294967295) (x3.getD (sh 6) 0)))))+(x2.getD (sh x4) 0)))+(x.getD (sh x4) 0)))+(bD .u32 ((ca .u32 (ca .u32 x8 x9) BO)+(Ch .u32 (Ch .u32 (eX .u32 (x3.getD (sh 0) 0) (x3.getD (sh 1) 0)) (eX .u32 (x3.getD (sh 0) 0) (x3.getD (sh 2) 0))) (eX .u32 (x3.getD (sh 1) 0) (x3.getD (sh 2) 0))))))),(x3.getD (sh 0) 0),(x3.getD (sh 1) 0),(x3.getD (sh 2) 0),(bD .u32 ((x3.getD (sh 3) 0)+(bD .u32 ((bD .u32 ((bD .u32 ((bD .u32 ((x3.getD (sh 7) 0)+(ca .u32 (ca .u32 x5 x6) x7)))+(Ch .u32 (eX .u32 (x3.getD (sh 4) 0) (x3.getD (sh 5) 0)) (eX .u32 (ca .u32 (x3.getD (sh 4) 0) 4294967295) (x3.getD (sh 6) 0)))))+(x2.getD (sh x4) 0)))+(x.getD (sh x4) 0))))),(x3.getD (sh 4) 0),(x3.getD (sh 5) 0),(x3.getD (sh 6) 0)],.i .i64 (bD .i64 (x4+1))])) (
 some (.inr (2,[.h .u32 6 x3])))) [.h .u32 6 a2,.i .i64 0]) λp=>
 bS (By p.1 2)<|
 gC p.2 λm4 Gp=>
 gH .u32 6 m4 λIW=>
 gN Gp<|
 bd (Loop (λBq=>
 gC Bq λm5 Dk=>
 gH .u32 6 m5 λMp=>
 gC Dk λm6 Ox=>
 gI .i64 m6 λEV=>
 gN Ox<|
 eC (decide (EV<8)) (
 bS (decide ((0:Int)<=EV/\EV<8))<|
 bS (decide ((0:Int)<=EV/\EV<8))<|
 bS (decide ((0:Int)<=EV/\EV<8))<|
 some (.inl [.h .u32 6 (Mp.set (sh EV) (bD .u32 ((Mp.getD (sh EV) 0)+(a2.getD (sh EV) 0)))),.i .i64 (bD .i64 (EV+1))])) (
 some (.inr (4,[.h .u32 6 Mp])))) [.h .u32 6 IW,.i .i64 0]) λp1=>
 bS (By p1.1 4)<|
 gC p1.2 λm7 aiw=>
 gH .u32 6 m7 λXu=>
 gN aiw<|
 some (.cw [.h .u32 6 Xu,.i .i64 0]))
def J4:GT:=aG 64 (LB EB) Pu
def Re:SG J4:=fnS Pv [] [] 129 [] [] [] [(9,[0,1,2,3,4,5,6,7,8]),(11,[0,1,2,3,4,5,6,7,8,9,10,11,12,13,14,15,16,17,18,19,20,21,22]),(18,[0,1,2,3,4,5,6,7,8,9])] [] [] [(16,⟨[2,4],[],[(9,.box [.k (.h .u32 6)]),(18,.sc (.k (.i .i64)))],[(4,[(9,.box [.k (.h .u32 6)])])],[]⟩),(7,⟨[2,4,6,8],[],[(9,.box [.k (.h .u32 6)]),(10,.sc (.k (.i .i64)))],[(2,[(9,.box [.k (.h .u32 6)])])],[]⟩)] [] Tryz.func64 abs (qv (λ_ _=>abs))
def Mz:List MV->Option MV:=qS J4 [] [] 54 [] [] [] [(7,[0,1,2,3,4,5,6,7,8,9,10,11,12])] [] [] [(11,⟨[2,4],[],[(8,.box [.k (.h .u8 30)]),(9,.sc (.k (.i .i64)))],[(4,[(8,.box [.k (.h .u8 30)])])],[10]⟩),(5,⟨[2,3],[10],[(4,.box [.k (.h .u32 6)]),(5,.sc (.k (.i .i64)))],[(2,[(4,.box [.k (.h .u32 6)])])],[10]⟩)] [] Tryz.f35
def UZ:GT:=aG 35 Mz J4
def X3:SG UZ:=gZ Re Tryz.func35
def H6:List MV->Option MV:=qP UZ [] 11 [] [] [(2,⟨[],[],[(0,.sc (.k (.i .u64))),(3,.sc (.k (.i .i64)))],[(2,[(3,.sc (.k (.i .i64)))])],[]⟩)] Tryz.f152
def Pw:GT:=aG 152 H6 UZ
def U0:SG Pw:=kV X3 Tryz.func152
def MA:List MV->Option MV:=qF Pw 5 [] [] 42 [19,39] [] [] [] [] [] [(9,⟨[1,5,7],[10],[(8,.sc (.k (.i .u64))),(9,.sc (.k (.i .i64)))],[(4,[(8,.sc (.k (.i .u64)))])],[]⟩),(5,⟨[1],[],[(5,.sc (.own 10 5 false)),(7,.sc (.k (.i .i64)))],[(2,[(5,.sc (.own 10 5 false))])],[]⟩)] [] Tryz.f115
def U1:GT:=aG 115 MA Pw
def X4:SG U1:=Sn U0 Tryz.func115
def MB:List MV->Option MV:=qF U1 5 [] [] 20 [] [] [] [] [] [] [] [] Tryz.f65
def U2:GT:=aG 65 MB U1
def X5:SG U2:=Sn X4 Tryz.func65
def H7:List MV->Option MV:=qF U2 5 [] [] 14 [] [] [] [] [] [] [] [] Tryz.f66
def Px:GT:=aG 66 H7 U2
def U3:SG Px:=Sn X5 Tryz.func66
def H8:List MV->Option MV:=qF Px 5 [] [] 25 [] [] [] [] [] [] [(3,⟨[1],[],[(5,.sc (.own 11 5 false)),(6,.sc (.k (.i .i64)))],[(2,[(5,.sc (.own 11 5 false))])],[]⟩)] [] Tryz.f116
def Py:GT:=aG 116 H8 Px
def U4:SG Py:=Sn U3 Tryz.func116
def vr:List MV->Option MV:=qS Py [] [] 36 [27,31] [] [] [] [] [] [(3,⟨[3,5],[15],[(0,.sc (.k .l)),(6,.sc (.k (.i .i64)))],[(2,[(0,.sc (.k .l))])],[15,35]⟩)] [] Tryz.f67
def BD:GT:=aG 67 vr Py
def J5:SG BD:=gZ U4 Tryz.func67
def H9:List MV->Option MV:=qS BD [] [] 137 [15,33,37,41,45,50,56,74,78,82,88,106,110,114,116,121] [] [] [] [] [(27,⟨[1,8],[],[],[(0,[(3,.sc (.k .l))])],[]⟩)] [(31,⟨[1],[],[(3,.sc (.k .l)),(10,.sc (.k (.i .i64)))],[(8,[(3,.sc (.k .l))])],[]⟩),(21,⟨[1],[],[(3,.sc (.k .l)),(8,.sc (.k (.i .i64)))],[(6,[(3,.sc (.k .l))])],[]⟩),(13,⟨[1],[],[(3,.sc (.k .l)),(6,.sc (.k (.i .i64)))],[(4,[(3,.sc (.k .l))])],[]⟩),(3,⟨[1],[],[(3,.sc (.k .l)),(4,.sc (.k (.i .i64)))],[(2,[(3,.sc (.k .l))])],[]⟩)] [] Tryz.f36
def Pz:GT:=aG 36 H9 BD
def U5:SG Pz:=gZ J5 Tryz.func36
def xl:List MV->Option MV:=qP Pz [] 6 [] [] [] Tryz.f18
def PA:GT:=aG 18 xl Pz
def PB:SG PA:=kV U5 Tryz.func18
def gW2:GT:=alM 107 PA
def aiN:eE Tryz.prog cx2 gW2:=PB.alt ais
def xm (a:List MV)(a1:MV):Option MV:=gL a1 λUY=>
 gC a λm zL=>
 gH .u32 6 m λstate=>
 Xw zL λleft long=>
 bd (oq (.list UY)) λrA=>
 gH .u32 62 rA λx=>
 bd (vJ []) λaO=>
 gR aO λm3=>
 bS (decide ((0:Int)<=0/\(0:Int)<8))<|
 bS (decide ((0:Int)<=1/\(1:Int)<8))<|
 bS (decide ((0:Int)<=2/\(2:Int)<8))<|
 bS (decide ((0:Int)<=3/\(3:Int)<8))<|
 bS (decide ((0:Int)<=4/\(4:Int)<8))<|
 bS (decide ((0:Int)<=5/\(5:Int)<8))<|
 bS (decide ((0:Int)<=6/\(6:Int)<8))<|
 bS (decide ((0:Int)<=7/\(7:Int)<8))<|
 bd (Loop (λDj=>
 gC Dj λm4 Bg=>
 gI .u32 m4 λx1=>
 gC Bg λm5 Gp=>
 gI .u32 m5 λx2=>
 gC Gp λm6 Bq=>
 gI .u32 m6 λx3=>
 gC Bq λm7 Dk=>
 gI .u32 m7 λx4=>
 gC Dk λm8 Ox=>
 gI .u32 m8 λx5=>
 gC Ox λm9 aiw=>
 gI .u32 m9 λx6=>
 aea .u32 .u32 .i64 aiw λx7 x8 x9=>
 eC (decide (x9<64)) (
 gP m3 λcs=>
 gC cs λm13 Df=>
 gN Df<|
 gH .u32 62 m13 λBO=>
 bS (decide ((0:Int)<=x9/\x9<64))<|
 bS (decide ((0:Int)<=x9/\x9<64))<|
 bd (eL [.i .u32 x5,.i .i64 6]) λbK=>
 gI .u32 bK λIW=>
 bd (eL [.i .u32 x5,.i .i64 11]) λgQ=>
 gI .u32 gQ λMp=>
 bd (eL [.i .u32 x5,.i .i64 25]) λn6=>
 gI .u32 n6 λEV=>
 bd (eL [.i .u32 x1,.i .i64 2]) λrH=>
 gI .u32 rH λXu=>
 bd (eL [.i .u32 x1,.i .i64 13]) λn7=>
 gI .u32 n7 λXv=>
 bd (eL [.i .u32 x1,.i .i64 22]) λBN=>
 gI .u32 BN λx16=>
 some (.inl [.i .u32 (bD .u32 ((bD .u32 ((bD .u32 ((bD .u32 ((bD .u32 (x8+(ca .u32 (ca .u32 IW Mp) EV)))+(ca .u32 x7 (eX .u32 x5 (ca .u32 x6 x7)))))+(BO.getD (sh x9) 0)))+(x.getD (sh x9) 0)))+(bD .u32 ((ca .u32 (ca .u32 Xu Xv) x16)+(ca .u32 (ca .u32 (eX .u32 x1 x2) (eX .u32 x1 x3)) (eX .u32 x2 x3)))))),.i .u32 x1,.i .u32 x2,.i .u32 x3,.i .u32 (bD .u32 (x4+(bD .u32 ((bD .u32 ((bD .u32 ((bD .u32 (x8+(ca .u32 (ca .u32 IW Mp) EV)))+(ca .u32 x7 (eX .u32 x5 (ca .u32 x6 x7)))))+(BO.getD (sh x9) 0)))+(x.getD (sh x9) 0))))),.i .u32 x5,.i .u32 x6,.i .u32 x7,.i .i64 (bD .i64 (x9+1))])) (
 some (.inr (2,[.i .u32 x1,.i .u32 x2,.i .u32 x3,.i .u32 x4,.i .u32 x5,.i .u32 x6,.i .u32 x7,.i .u32 x8])))) [.i .u32 (state.getD (sh 0) 0),.i .u32 (state.getD (sh 1) 0),.i .u32 (state.getD (sh 2) 0),.i .u32 (state.getD (sh 3) 0),.i .u32 (state.getD (sh 4) 0),.i .u32 (state.getD (sh 5) 0),.i .u32 (state.getD (sh 6) 0),.i .u32 (state.getD (sh 7) 0),.i .i64 0]) λp=>
 bS (By p.1 2)<|
 gC p.2 λm14 O7=>
 gI .u32 m14 λZ8=>
 gC O7 λm15 O8=>
 gI .u32 m15 λx18=>
 gC O8 λm16 O9=>
 gI .u32 m16 λK5=>
 gC O9 λm17 Oy=>
 gI .u32 m17 λx20=>
 gC Oy λm18 aiD=>
 gI .u32 m18 λx21=>
 aea .u32 .u32 .u32 aiD λx22 x23 x24=>
 bd (Loop (λXS=>
 gC XS λm22 Pf=>
 gI .i64 m22 λXN=>
 gC Pf λm23 XT=>
 gH .u32 6 m23 λXO=>
 Xw XT λx27 x28=>
 eC (decide (XN<8)) (
 bS (decide ((0:Int)<=XN/\XN<8))<|
 bS (decide ((0:Int)<=XN/\XN<8))<|
 bS (decide ((0:Int)<=XN/\XN<8))<|
 some (.inl [.i .i64 (bD .i64 (XN+1)),.h .u32 6 (XO.set (sh XN) (bD .u32 ((XO.getD (sh XN) 0)+([Z8,x18,K5,x20,x21,x22,x23,x24].getD (sh XN) 0)))),.list x27,.i .i64 x28])) (
 some (.inr (4,[.h .u32 6 XO,.list x27,.i .i64 x28])))) [.i .i64 0,.h .u32 6 state,.list left,.i .i64 long]) λp1=>
 bS (By p1.1 4)<|
 gC p1.2 λm26 aiO=>
 gH .u32 6 m26 λx29=>
 Xw aiO λx30 x31=>
 some (.eH (.cw []) [.h .u32 6 x29,.list x30,.i .i64 x31])
def PC:GT:=aG 107 (cl2 xm) gW2
def PD:eE Tryz.prog cx2 PC:=avP aiN 0 ach ach [] [(0,1000000)] 141 [] [] [] [(1,[0,1,2,3,4,5,6,7,8,9,10,11,12,13,14,15,16,17,18,19,20,21,22,23,24,25,26,27,28,29,30,31,32,33,34,35,36,37,38,39]),(5,[0,1,3,6,10,11,12,13,14,15,16,18,19,20,21,22,24,25,26,2,4,5,7,8,9,17,23,27,28]),(12,[0,1,2,3,4,5,6,7,8,9])] [] [] [(10,⟨[0,126],[],[(127,.sc (.k (.i .i64))),(1000000,.box [.k (.h .u32 6),.k .l,.k (.i .i64)])],[(4,[(1000000,.box [.k (.h .u32 6),.k .l,.k (.i .i64)])])],[]⟩),(3,⟨[0,4,5,1000000],[],[(6,.sc (.k (.i .u32))),(7,.sc (.k (.i .u32))),(8,.sc (.k (.i .u32))),(9,.sc (.k (.i .u32))),(10,.sc (.k (.i .u32))),(11,.sc (.k (.i .u32))),(12,.sc (.k (.i .u32))),(13,.sc (.k (.i .u32))),(54,.sc (.k (.i .i64)))],[(2,[(6,.sc (.k (.i .u32))),(7,.sc (.k (.i .u32))),(8,.sc (.k (.i .u32))),(9,.sc (.k (.i .u32))),(10,.sc (.k (.i .u32))),(11,.sc (.k (.i .u32))),(12,.sc (.k (.i .u32))),(13,.sc (.k (.i .u32)))])],[]⟩)] [] Tryz.func107 abs abs (Z9 λ_ _=>abs)
def nT (sA:List MV)(b:MV):Option MV:=gL b λb1=>
 gC sA λm zL=>
 gH .u32 6 m λstate=>
 Xw zL λleft long=>
 eF b1 λlen=>
 bS (oL 1 b1)<|
 eF left λqi=>
 eF b1 λzN=>
 bS (decide ((qi+zN) *1<=2^46))<|
 bd (Loop (λDj=>
 gC Dj λm3 Bg=>
 gH .u32 6 m3 λx=>
 Xw Bg λx1 x2=>
 eF x1 λHM=>
 eC (decide ((64:Int)<=(HM:Int))) (
 eF x1 λFb=>
 bS (decide ((0:Int)<=0/\(0:Int)<=64/\(64:Int)<=(Fb:Int)))<|
 bd (xm [.h .u32 6 x,.list x1,.i .i64 x2] (.list (AS (sh 0) (AT (sh 64) x1)))) λrA=>
 gW rA λx3 ls=>
 gC ls λm6 Dk=>
 gH .u32 6 m6 λU6=>
 Xw Dk λaiP aiL=>
 bS (oL 1 aiP)<|
 eF aiP λLM=>
 bS (decide ((0:Int)<=64/\(64:Int)<=(LM:Int)/\(LM:Int)<=(LM:Int)))<|
 some (.inl [.h .u32 6 U6,.list (AS (sh 64) (AT (sh (LM:Int)) aiP)),.i .i64 aiL])) (
 some (.inr (2,[.h .u32 6 x,.list x1,.i .i64 x2])))) [.h .u32 6 state,.list (left++b1),.i .i64 (bD .i64 (long+(len:Int)))]) λp=>
 bS (By p.1 2)<|
 gC p.2 λm9 aiK=>
 gH .u32 6 m9 λx4=>
 Xw aiK λx5 x6=>
 some (.eH (.cw []) [.h .u32 6 x4,.list x5,.i .i64 x6])
def DC:GT:=aG 57 (cl2 nT) PC
def Gz:eE Tryz.prog cx2 DC:=avP PD 0 aoX Sl [] [(0,1000000)] 47 [21] [] [] [(4,[0,1,2,3,4,5,6,7,8])] [] [] [(3,⟨[0],[],[(1000000,.box [.k (.h .u32 6),.k .l,.k (.i .i64)])],[(2,[(1000000,.box [.k (.h .u32 6),.k .l,.k (.i .i64)])])],[]⟩)] [] Tryz.func57 abs abs (Z9 λ_ _=>abs)
def gW1:GT:=alM 107 DC
def aiQ:SG gW1:=Gz.alt arB
def zT (a:List MV)(a1:MV):Option MV:=gL a1 λUY=>
 gC a λm zL=>
 gH .u32 6 m λx=>
 gN zL<|
 bd (oq (.list UY)) λrA=>
 gH .u32 62 rA λx1=>
 bd (vJ []) λaO=>
 gR aO λm1=>
 bS (decide ((0:Int)<=0/\(0:Int)<8))<|
 bS (decide ((0:Int)<=1/\(1:Int)<8))<|
 bS (decide ((0:Int)<=2/\(2:Int)<8))<|
 bS (decide ((0:Int)<=3/\(3:Int)<8))<|
 bS (decide ((0:Int)<=4/\(4:Int)<8))<|
 bS (decide ((0:Int)<=5/\(5:Int)<8))<|
 bS (decide ((0:Int)<=6/\(6:Int)<8))<|
 bS (decide ((0:Int)<=7/\(7:Int)<8))<|
 bd (Loop (λA3=>
 gC A3 λm2 JB=>
 gI .u32 m2 λx2=>
 gC JB λm3 Dj=>
 gI .u32 m3 λx3=>
 gC Dj λm4 Bg=>
 gI .u32 m4 λx4=>
 gC Bg λm5 Gp=>
 gI .u32 m5 λx5=>
 gC Gp λm6 Bq=>
 gI .u32 m6 λx6=>
 gC Bq λm7 Dk=>
 gI .u32 m7 λx7=>
 aea .u32 .u32 .i64 Dk λx8 x9 BO=>
 eC (decide (BO<64)) (
 gP m1 λcs=>
 gC cs λm11 Xz=>
 gN Xz<|
 gH .u32 62 m11 λIW=>
 bS (decide ((0:Int)<=BO/\BO<64))<|
 bS (decide ((0:Int)<=BO/\BO<64))<|
 bd (eL [.i .u32 x6,.i .i64 6]) λbK=>
 gI .u32 bK λMp=>
 bd (eL [.i .u32 x6,.i .i64 11]) λgQ=>
 gI .u32 gQ λEV=>
 bd (eL [.i .u32 x6,.i .i64 25]) λn6=>
 gI .u32 n6 λXu=>
 bd (eL [.i .u32 x2,.i .i64 2]) λrH=>
 gI .u32 rH λXv=>
 bd (eL [.i .u32 x2,.i .i64 13]) λn7=>
 gI .u32 n7 λx16=>
 bd (eL [.i .u32 x2,.i .i64 22]) λBN=>
 gI .u32 BN λZ8=>
 some (.inl [.i .u32 (bD .u32 ((bD .u32 ((bD .u32 ((bD .u32 ((bD .u32 (x9+(ca .u32 (ca .u32 Mp EV) Xu)))+(ca .u32 x8 (eX .u32 x6 (ca .u32 x7 x8)))))+(IW.getD (sh BO) 0)))+(x1.getD (sh BO) 0)))+(bD .u32 ((ca .u32 (ca .u32 Xv x16) Z8)+(ca .u32 (ca .u32 (eX .u32 x2 x3) (eX .u32 x2 x4)) (eX .u32 x3 x4)))))),.i .u32 x2,.i .u32 x3,.i .u32 x4,.i .u32 (bD .u32 (x5+(bD .u32 ((bD .u32 ((bD .u32 ((bD .u32 (x9+(ca .u32 (ca .u32 Mp EV) Xu)))+(ca .u32 x8 (eX .u32 x6 (ca .u32 x7 x8)))))+(IW.getD (sh BO) 0)))+(x1.getD (sh BO) 0))))),.i .u32 x6,.i .u32 x7,.i .u32 x8,.i .i64 (bD .i64 (BO+1))])) (
 some (.inr (2,[.i .u32 x2,.i .u32 x3,.i .u32 x4,.i .u32 x5,.i .u32 x6,.i .u32 x7,.i .u32 x8,.i .u32 x9])))) [.i .u32 (x.getD (sh 0) 0),.i .u32 (x.getD (sh 1) 0),.i .u32 (x.getD (sh 2) 0),.i .u32 (x.getD (sh 3) 0),.i .u32 (x.getD (sh 4) 0),.i .u32 (x.getD (sh 5) 0),.i .u32 (x.getD (sh 6) 0),.i .u32 (x.getD (sh 7) 0),.i .i64 0]) λp=>
 bS (By p.1 2)<|
 gC p.2 λm12 awi=>
 gI .u32 m12 λx18=>
 gC awi λm13 Df=>
 gI .u32 m13 λK5=>
 gC Df λm14 O7=>
 gI .u32 m14 λx20=>
 gC O7 λm15 O8=>
 gI .u32 m15 λx21=>
 gC O8 λm16 O9=>
 gI .u32 m16 λx22=>
 aea .u32 .u32 .u32 O9 λx23 x24 XN=>
 bd (Loop (λOM=>
 gC OM λm20 XL=>
 gI .i64 m20 λXO=>
 gC XL λm21 XS=>
 gH .u32 6 m21 λx27=>
 gN XS<|
 eC (decide (XO<8)) (
 bS (decide ((0:Int)<=XO/\XO<8))<|
 bS (decide ((0:Int)<=XO/\XO<8))<|
 bS (decide ((0:Int)<=XO/\XO<8))<|
 some (.inl [.i .i64 (bD .i64 (XO+1)),.h .u32 6 (x27.set (sh XO) (bD .u32 ((x27.getD (sh XO) 0)+([x18,K5,x20,x21,x22,x23,x24,XN].getD (sh XO) 0))))])) (
 some (.inr (4,[.h .u32 6 x27])))) [.i .i64 0,.h .u32 6 x]) λp1=>
 bS (By p1.1 4)<|
 gC p1.2 λm22 Pf=>
 gH .u32 6 m22 λx28=>
 gN Pf<|
 some (.eH (.cw []) [.h .u32 6 x28])
def Ss:GT:=aG 107 (cl2 zT) gW1
def Rf:SG Ss:=fnC aiQ 0 acg acg [] [(0,1000000)] 141 [] [] [] [(1,[0,1,2,3,4,5,6,7,8,9,10,11,12,13,14,15,16,17,18,19,20,21,22,23,24,25,26,27,28,29,30,31,32,33,34,35,36,37,38,39]),(5,[0,1,3,6,10,11,12,13,14,15,16,18,19,20,21,22,24,25,26,2,4,5,7,8,9,17,23,27,28]),(12,[0,1,2,3,4,5,6,7,8,9])] [] [] [(10,⟨[0,126],[],[(127,.sc (.k (.i .i64))),(1000000,.box [.k (.h .u32 6)])],[(4,[(1000000,.box [.k (.h .u32 6)])])],[]⟩),(3,⟨[0,4,5,1000000],[],[(6,.sc (.k (.i .u32))),(7,.sc (.k (.i .u32))),(8,.sc (.k (.i .u32))),(9,.sc (.k (.i .u32))),(10,.sc (.k (.i .u32))),(11,.sc (.k (.i .u32))),(12,.sc (.k (.i .u32))),(13,.sc (.k (.i .u32))),(54,.sc (.k (.i .i64)))],[(2,[(6,.sc (.k (.i .u32))),(7,.sc (.k (.i .u32))),(8,.sc (.k (.i .u32))),(9,.sc (.k (.i .u32))),(10,.sc (.k (.i .u32))),(11,.sc (.k (.i .u32))),(12,.sc (.k (.i .u32))),(13,.sc (.k (.i .u32)))])],[]⟩)] [] Tryz.func107 abs abs (Z9 λ_ _=>abs)
def rl (sA:List MV):Option MV:=gC sA λm zL=>
 gH .u32 6 m λstate=>
 Xw zL λleft long=>
 eF left λlen=>
 eF left λqi=>
 bS (decide ((len:Int)=(left.length:Int)/\(qi:Int)=(left.length:Int)))<|
 bd (H5 (.i .i64 long)) λrA=>
 gL rA λx=>
 bS (oL 1 x)<|
 bS (oL 1 left)<|
 eF left λzN=>
 eF x λHM=>
 bS (decide (0<HM/\(zN+HM) *1<=2^46))<|
 bd (Loop (λDj=>
 gC Dj λm3 Bg=>
 gH .u32 6 m3 λU6=>
 gC Bg λm4 Gp=>
 gL m4 λaeo=>
 gN Gp<|
 eF aeo λFb=>
 eC (decide ((0:Int)<(Fb:Int))) (
 eF aeo λLM=>
 bS (decide ((0:Int)<=0/\(0:Int)<=64/\(64:Int)<=(LM:Int)))<|
 bd (zT [.h .u32 6 U6] (.list (AS (sh 0) (AT (sh 64) aeo)))) λaO=>
 gW aO λx1 ls=>
 gC ls λm5 Bq=>
 gH .u32 6 m5 λx2=>
 gN Bq<|
 bS (oL 1 aeo)<|
 eF aeo λJJ=>
 bS (decide ((0:Int)<=64/\(64:Int)<=(JJ:Int)/\(JJ:Int)<=(JJ:Int)))<|
 some (.inl [.h .u32 6 x2,.list (AS (sh 64) (AT (sh (JJ:Int)) aeo))])) (
 some (.inr (2,[.h .u32 6 U6])))) [.h .u32 6 state,.list (left++x)]) λp=>
 bS (By p.1 2)<|
 gC p.2 λm6 Dk=>
 gH .u32 6 m6 λarM=>
 gN Dk<|
 bd (Loop (λOx=>
 Xw Ox λout x3=>
 eC (decide (x3<8)) (
 bS (decide ((0:Int)<=x3/\x3<8))<|
 bd (zR (.fresh out) (.i .u64 (bD .u64 (arM.getD (sh x3) 0))) (.i .i64 4)) λbK=>
 gF bK λxs=>
 some (.inl [.list xs,.i .i64 (bD .i64 (x3+1))])) (
 some (.inr (4,[.list out])))) [.list ([]:List MV),.i .i64 0]) λp1=>
 bS (By p1.1 4)<|
 gC p1.2 λm9 Xz=>
 gL m9 λaem=>
 gN Xz<|
 eF aem λarL=>
 bS (decide (32<=arL))<|
 Kz .u8 aem λns=>
 some (.eH (.h .u8 30 (ns.take 32)) [.h .u32 6 state,.list left,.i .i64 long])
def rm:GT:=aG 58 (cl1 rl) Ss
def zU:SG rm:=fnC Rf 0 Sl Sl [] [(0,1000000)] 56 [35] [] [] [(4,[0,1,2,3,4,5,6,7,8,9,10,11,12,13,14,15,16,17,18,19,20,21])] [] [] [(10,⟨[2,44,1000000],[],[(5,.sc (.own 51 5 false)),(45,.sc (.k (.i .i64)))],[(4,[(5,.sc (.own 51 5 false))])],[]⟩),(5,⟨[2,1000000],[],[(3,.box [.k (.h .u32 6)]),(4,.sc (.k .l))],[(2,[(3,.box [.k (.h .u32 6)])])],[]⟩)] [] Tryz.func58 abs abs (arC λ_=>abs)
def awj:ad6:=⟨139,99,72,210,5,56,106,57,58⟩
def arN:Ctx:=LD rm [] 10 [] [] [] [] [] [] [] []
def awk:acb Tryz.prog arN rm awj 33 Tryz.f33 Tryz.f56 (λk=>k) (jc Tryz.f33 jd) (jc Tryz.f56 jd) where
 hT:=kU
 key:=λ_=>rfl
 snd:=λf ms r h=>dG.kq (c:=cx) (c':=arN) ⟨rfl,rfl,rfl,rfl,rfl,rfl,rfl,rfl,rfl⟩ (zU.all f ms r h)
 gvs:=⟨abs,abs,abs,abs⟩
 sig:=⟨abs,abs⟩
 tyE:=⟨iM 5,abs⟩
 tyO:=⟨iM 72,abs,abs⟩
 pos:=Tryz.func33
 name:=abs
 tmps:=abs
 res:=abs
 body:=abs
 ops:=by constructor<;>exact ⟨abs,abs,abs⟩
 pos':=Tryz.func56
 aoU:=abs
 aoV:=abs
 avr:=abs
 aii:=abs
 Uc:=by constructor<;>exact ⟨abs,abs,abs⟩
 bld:=λ_ _ _ _ _ _ _ _=>abs
def MC (a:MV):Option MV:=gL a λxs=>
 bd zS λs=>
 gH .u32 6 s λs=>
 bd (nT [.h .u32 6 s,.list [],.i .i64 0] (.list xs)) λr=>
 gW r λ_ ls=>
 gC ls λm0 ls=>
 gH .u32 6 m0 λs1=>
 gC ls λm1 ls=>
 gL m1 λleft=>
 gC ls λm2 ls=>
 gI .i64 m2 λlong=>
 gN ls<|
 bd (rl [.h .u32 6 s1,.list left,.i .i64 long]) λq=>
 gW q λh _=>
 gH .u8 30 h λh=>some (.h .u8 30 h)
def U7:GT:=aG 33 (Ji MC) rm
def X6:SG U7:=zU.add λf ms r hk hr=>by have hk:f=33:=hk;subst hk;exact dG.kq (c:=arN) (c':=cx) ⟨rfl,rfl,rfl,rfl,rfl,rfl,rfl,rfl,rfl⟩ (ari awk (pn (B:=aij rm awj) (λ_=>abs) hr))
def rn:List MV->Option MV:=qP U7 [] 6 [] [] [] Tryz.f17
def Ia:GT:=aG 17 rn U7
def J6:SG Ia:=kV X6 Tryz.func17
def rq (a a1 a2:MV):Option MV:=gL a λa3=>
 gL a1 λUY=>
 gS a2 λarO=>
 bd (
 bd (vH [.list a3]) λrA=>
 gB rA λx=>
 eC (!x) (
 some [.b true]) (
 bd (vH [.list UY]) λaO=>
 gB aO λx1=>
 eC (!x1) (
 some [.b true]) (
 some [.b (decide ((6000:Int)<(arO.length:Int)))]))) λvs=>
 gC vs λm zL=>
 gB m λx2=>
 gN zL<|
 eC x2 (
 bd (vI) λbK=>
 gB bK λx3=>
 some (.b x3)) (
 bd (zK) λgQ=>
 gA gQ λcs=>
 wQ cs λfJ eA lg gG Seen=>
 bd (xe [.agg (fH fJ eA lg gG Seen),.list a3]) λn6=>
 gT n6 λAk=>
 gC Ak λm6 Bq=>
 gA m6 λFj=>
 wQ Fj λMv HY UJ Mw aiJ=>
 oLL Bq λx4 x5=>
 bd (HZ []) λrH=>
 gA rH λIP=>
 wQ IP λamQ aiR arP amR awl=>
 bd (Bu [.list a3]) λn7=>
 gL n7 λx6=>
 bd (Du [.agg (fH amQ aiR arP amR awl),.list x6]) λBN=>
 gT BN λHg=>
 gC Hg λm19 aiE=>
 gA m19 λB4=>
 wQ B4 λacp X7 aiS acq ao5=>
 oLL aiE λx7 x8=>
 bd (uf [.agg (fH Mv HY UJ Mw aiJ),.s arO]) λHz=>
 gT Hz λvs3=>
 gC vs3 λm27 aiO=>
 gA m27 λcs4=>
 wQ cs4 λamS aiT arQ amT awm=>
 Xw aiO λx9 BO=>
 bd (zQ [.agg (fH acp X7 aiS acq ao5),.s arO]) λQq=>
 gT Qq λvs4=>
 gC vs4 λm35 XM=>
 gA m35 λcs5=>
 wQ cs5 λamU aiU arR amV awn=>
 Xw XM λIW Mp=>
 bd (
 eC (!decide (BO=Mp)) (
 some [.b true]) (
 eF x9 λlen=>
 eF IW λqi=>
 eC (!decide ((len:Int)=(qi:Int))) (
 some [.b true]) (
 bd (o9 [.agg (fH Mv HY UJ Mw aiJ),.list UY]) λB6=>
 gL B6 λEV=>
 bd (Bu [.list EV]) λUm=>
 gL Um λXu=>
 bd (Bu [.list UY]) λQN=>
 gL QN λXv=>
 bd (ug [.agg (fH acp X7 aiS acq ao5),.list Xv]) λUn=>
 gL Un λx16=>
 bd (Dw [.list Xu,.list x16]) λXt=>
 gB Xt λZ8=>
 some [.b (!Z8)]))) λvs5=>
 gC vs5 λm43 aiB=>
 gB m43 λx18=>
 gN aiB<|
 eC x18 (
 some (.b false)) (
 bd (Loop (λawo=>
 gC awo λm44 aiM=>
 gI .i64 m44 λK5=>
 gN aiM<|
 eF x9 λzN=>
 eC (decide (K5<(zN:Int))) (
 idx x9 K5 λy=>
 gA y λcs6=>
 lH cs6 λClient Seq E Value Version Names=>
 idx x9 K5 λy1=>
 gA y1 λcs7=>
 lH cs7 λqW LF E1 pL jo Jy=>
 idx x9 K5 λy2=>
 gA y2 λcs8=>
 lH cs8 λack avY E2 ON zP aAH=>
 idx x9 K5 λy3=>
 gA y3 λcs9=>
 lH cs9 λaxZ aGk E3 arS awp aAI=>
 idx x9 K5 λy4=>
 gA y4 λaAJ=>
 lH aAJ λax0 aGl E4 aAK aiV aAL=>
 idx x9 K5 λy5=>
 gA y5 λaAM=>
 lH aAM λax1 aGm E5 aAN awq arT=>
 idx IW K5 λy6=>
 gA y6 λaAO=>
 lH aAO λamW aAP E6 arU aiW arV=>
 bd (Dz [.agg (dL Client LF E2 arS aiV arT),.agg (dL amW aAP E6 arU aiW arV)]) λad9=>
 gB ad9 λx20=>
 eC (!x20) (
 some (.inr (1,[.b false]))) (
 some (.inl [.i .i64 (bD .i64 (K5+1))]))) (
 some (.inr (2,[])))) [.i .i64 0]) λp=>
 eC (By p.1 2) (
 gN p.2<|
 bd (
 bd (vI) λad8=>
 gB ad8 λx21=>
 eC x21 (
 bd (rn [.agg (fH amS aiT arQ amT awm)]) λamw=>
 gH .u8 30 amw λx22=>
 bd (xl [.agg (fH amU aiU arR amV awn)]) λamx=>
 gH .u8 30 amx λx23=>
 some [.b (decide (x22=x23))]) (
 some [.b false])) λvs6=>
 gC vs6 λm87 awr=>
 gB m87 λx24=>
 gN awr<|
 some (.b x24)) (
 bS (By p.1 1)<|
 gC p.2 λm88 aws=>
 gB m88 λXN=>
 gN aws<|
 some (.b XN))))
def PE:GT:=aG 3 (TY rq) Ia
def GA:SG PE:=fnS J6 [] [] 138 [] [] [] [(7,[0,1,2,3,4,5,6,7,8,9,10,11,12,15,16,13,14,17,18,19,20,21]),(12,[0,1,2,3,4,5,6,7,8,9,10,11,12,13,14,15,16,17,18,19,20,21,22,23,24,25,26,27,28,29,30,31,32]),(13,[0,1,2,3,4,5,6]),(15,[0,1,2,4,3,5,6,7,8])] [(15,⟨[13,16],[],[],[(0,[(6,.sc (.k .b))])],[]⟩),(7,⟨[1,7,10,13,14,15,16,17,18],[],[],[(0,[(85,.sc (.k .b))])],[]⟩),(1,⟨[0,1,2],[],[],[(0,[(33,.sc (.k .b))])],[]⟩)] [] [(10,⟨[13,14,16,17],[],[(19,.sc (.k (.i .i64)))],[(1,[(6,.sc (.k .b))]),(2,[])],[]⟩)] [] Tryz.func3 abs (xZ (λ_ _ _=>abs))
end
end Dn.S
