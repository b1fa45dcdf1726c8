import Derived.Test.YtoppfdchohkgaaaGreatDoorDnD
import Derived.KernelRfl
import Derived.Test.YtoppfdchohkgaaaGreatDoorProg
/- What Go functions come to, on plain values. Conditions: none. -/
open Go.IntKind renaming wrap→bo,bits→BY,signed→afA
open Int renaming toNat→sh,fdiv→OF,toNat_natCast→ad8,fdiv_eq_ediv_of_nonneg→aev
open List renaming length_cons→AI,length_map→AS,length_nil→AT,drop→IN,take→IT,append_assoc→No,length_append→aa0,length_take→ad1,replicate→ad3,map_append→ad4,map_cons→ad5,map_take→ad6,map_drop→ad7,length_drop→aea,map_nil→aeb,map_set→aec,length_set→aed,map_replicate→aee,getElem?_eq_some_iff→aex,map→aez,set_getElem_self→aeY,take_append_drop→ae3,map_congr_left→afa,cons_append→afn,take_left'→afo,drop_left'→afu,nil_append→afw,mem_cons→afR,map_map→aga
open Nat renaming le_of_ble_eq_true→ab3,beq→adZ,eq_of_beq_eq_true→aeg,pow_le_pow_right→aeh,pow_succ→aen,mul_comm→aeo,mod_eq_of_lt→aeF,zero_mul→aeP,zero_add→aeU,add_mul_div_right→ae1,mul_le_mul_right→ae8,pow_pos→ae9,add_sub_cancel→afh,add_comm→afS,le_refl→agc
open Go.Extern.SlicesOverlaps renaming overlaps→ad0
open Option renaming map_some→ad2
open Sum renaming elim→ad9
open BitVec renaming ofInt→aef,toNat_ofNat→aer
open Go.Op renaming bytesLess→aei
open Option.some renaming injEq→aey
open Go.Shelf renaming Ren→afj
open Bool renaming not_false→afK
open Go.Proofs.Lays renaming n146→agt,n160→agv,n151→ahe
set_option linter.all false
set_option maxRecDepth 100000
open Go Dn Go.Proofs
namespace Dn.S
noncomputable section
structure aa where
 Path:List UInt8
 Value:List UInt8
 Version:Int
 cm:Int
deriving DecidableEq
@[reducible] def RW (x : aa) : List MV := [.s x.Path, .s x.Value, .i .i64 x.Version, .i .i64 x.cm]
@[reducible] def aS (x : aa) : MV := .agg (RW x)
structure au where
 L:List aa
deriving DecidableEq
@[reducible] def PC (x : au) : List MV := [.list (x.L.map aS)]
@[reducible] def bL (x : au) : MV := .agg (PC x)
structure aq where
 Id:Int
 Span:Int
 ek:Int
deriving DecidableEq
@[reducible] def Kq (x : aq) : List MV := [.i .i64 x.Id, .i .i64 x.Span, .i .i64 x.ek]
@[reducible] def aH (x : aq) : MV := .agg (Kq x)
structure aw where
 eG:Int
 L:List aq
deriving DecidableEq
@[reducible] def RX (x : aw) : List MV := [.i .i64 x.eG, .list (x.L.map aH)]
@[reducible] def cH (x : aw) : MV := .agg (RX x)
structure ak where
 Path:List UInt8
 Client:Int
 Kids:Bool
deriving DecidableEq
@[reducible] def PD (x : ak) : List MV := [.s x.Path, .i .i64 x.Client, .b x.Kids]
@[reducible] def aN (x : ak) : MV := .agg (PD x)
structure ae where
 Client:Int
 Seq:Int
 E:Int
 Value:List UInt8
 Version:Int
 Names:List (List UInt8)
deriving DecidableEq
@[reducible] def PE (x : ae) : List MV := [.i .i64 x.Client, .i .i64 x.Seq, .i .i64 x.E, .s x.Value, .i .i64 x.Version, .list (x.Names.map MV.s)]
@[reducible] def aC (x : ae) : MV := .agg (PE x)
structure aV where
 L:List ak
deriving DecidableEq
@[reducible] def PF (x : aV) : List MV := [.list (x.L.map aN)]
@[reducible] def jb (x : aV) : MV := .agg (PF x)
structure aj where
 Shelf:au
 aY:aw
 aX:aV
 Seen:List ae
deriving DecidableEq
@[reducible] def PG (x : aj) : List MV := [.list (x.Shelf.L.map aS), .i .i64 x.aY.eG, .list (x.aY.L.map aH), .list (x.aX.L.map aN), .list (x.Seen.map aC)]
@[reducible] def b9 (x : aj) : MV := .agg (PG x)
structure Aj where
 F:Int
 T:Int
deriving DecidableEq
structure Up where
 S:Aj
 Me:Int
 View:Int
 aoj:List Int
 avg:Int
 agb:Int
deriving DecidableEq
structure RY where
 Slot:Int
 Value:List UInt8
deriving DecidableEq
structure PH where
 ayf:Int
 Next:Int
 L:List RY
deriving DecidableEq
structure acx where
 By:Int
 Slot:Int
 Sum:aiB
deriving DecidableEq
structure Yv where
 S:Aj
 L:List acx
 asZ:Int
 Sum:aiB
deriving DecidableEq
structure pN where
 By:Int
 View:Int
 Value:List UInt8
deriving DecidableEq
structure xN where
 L:List pN
deriving DecidableEq
structure FL where
 S:Aj
 Me:Int
 View:Int
 Has:Bool
 At:Int
 Value:List UInt8
 Proof:List pN
 aoj:xN
deriving DecidableEq
structure Kr where
 S:Aj
 aqr:xN
 aqs:xN
 Told:xN
 ayg:Bool
 Value:List UInt8
deriving DecidableEq
structure wI where
 By:Int
 For:Int
 Has:Bool
 View:Int
 Value:List UInt8
 Proof:List pN
deriving DecidableEq
structure acy where
 A:FL
 L:Kr
 Got:List wI
 Led:Int
deriving DecidableEq
structure ab where
 Client:Int
 Seq:Int
 Kind:Int
 Path:List UInt8
 Value:List UInt8
 Version:Int
 Session:Int
 Span:Int
deriving DecidableEq
@[reducible] def xO (x : ab) : List MV := [.i .i64 x.Client, .i .i64 x.Seq, .i .i64 x.Kind, .s x.Path, .s x.Value, .i .i64 x.Version, .i .i64 x.Session, .i .i64 x.Span]
@[reducible] def aI (x : ab) : MV := .agg (xO x)
structure Ks where
 S:Aj
 Me:Int
 ayh:Int
 E:Up
 W:PH
 M:Yv
 R:aj
 Log:List (List UInt8)
 Cells:List acy
 avh:List ab
deriving DecidableEq
structure aqt where
 Kind:Int
 as0:Int
 View:Int
 Value:List UInt8
 as1:List wI
 aok:pN
 Proof:List pN
 R:wI
deriving DecidableEq
structure Uq where
 Kind:Int
 as0:Int
 Slot:Int
 View:Int
 Value:List UInt8
 as1:List wI
 aok:pN
 Proof:List pN
 R:wI
 Sum:aiB
 O:ab
 X:ae
deriving DecidableEq
structure aif where
 aqu:Ks
 out:List Uq
deriving DecidableEq
structure aol where
 aok:Int
 View:Int
deriving DecidableEq
structure ay where
 Kind:Int
 Path:List UInt8
deriving DecidableEq
@[reducible] def Ms (x : ay) : List MV := [.i .i64 x.Kind, .s x.Path]
@[reducible] def dQ (x : ay) : MV := .agg (Ms x)
structure ah where
 r:aj
 o:ab
 x:ae
 l:List ay
deriving DecidableEq
@[reducible] def bu (x : ah) : List MV := [.list (x.r.Shelf.L.map aS), .i .i64 x.r.aY.eG, .list (x.r.aY.L.map aH), .list (x.r.aX.L.map aN), .list (x.r.Seen.map aC), .i .i64 x.o.Client, .i .i64 x.o.Seq, .i .i64 x.o.Kind, .s x.o.Path, .s x.o.Value, .i .i64 x.o.Version, .i .i64 x.o.Session, .i .i64 x.o.Span, .i .i64 x.x.Client, .i .i64 x.x.Seq, .i .i64 x.x.E, .s x.x.Value, .i .i64 x.x.Version, .list (x.x.Names.map MV.s), .list (x.l.map dQ)]
structure aT where
 W:ak
 C:ay
deriving DecidableEq
@[reducible] def PI (x : aT) : List MV := [.s x.W.Path, .i .i64 x.W.Client, .b x.W.Kids, .i .i64 x.C.Kind, .s x.C.Path]
@[reducible] def cB (x : aT) : MV := .agg (PI x)
structure cI where
 Path:List UInt8
 Value:List UInt8
 Version:Int
 cm:Int
deriving DecidableEq
@[reducible] def Yw (x : cI) : List MV := [.s x.Path, .s x.Value, .i .i64 x.Version, .i .i64 x.cm]
@[reducible] def xP (x : cI) : MV := .agg (Yw x)
structure jy where
 L:List cI
deriving DecidableEq
@[reducible] def Ur (x : jy) : List MV := [.list (x.L.map xP)]
@[reducible] def Ak (x : jy) : MV := .agg (Ur x)
structure bt where
 Id:Int
 Span:Int
 ek:Int
deriving DecidableEq
@[reducible] def PJ (x : bt) : List MV := [.i .i64 x.Id, .i .i64 x.Span, .i .i64 x.ek]
@[reducible] def qu (x : bt) : MV := .agg (PJ x)
structure vh where
 eG:Int
 L:List bt
deriving DecidableEq
@[reducible] def Yx (x : vh) : List MV := [.i .i64 x.eG, .list (x.L.map qu)]
@[reducible] def Kt (x : vh) : MV := .agg (Yx x)
structure bh where
 Path:List UInt8
 Client:Int
 Kids:Bool
deriving DecidableEq
@[reducible] def Us (x : bh) : List MV := [.s x.Path, .i .i64 x.Client, .b x.Kids]
@[reducible] def lM (x : bh) : MV := .agg (Us x)
structure qO where
 L:List bh
deriving DecidableEq
@[reducible] def Ut (x : qO) : List MV := [.list (x.L.map lM)]
@[reducible] def Hi (x : qO) : MV := .agg (Ut x)
structure cn where
 Client:Int
 Seq:Int
 E:Int
 Value:List UInt8
 Version:Int
 Names:List (List UInt8)
deriving DecidableEq
@[reducible] def Uu (x : cn) : List MV := [.i .i64 x.Client, .i .i64 x.Seq, .i .i64 x.E, .s x.Value, .i .i64 x.Version, .list (x.Names.map MV.s)]
@[reducible] def qQ (x : cn) : MV := .agg (Uu x)
structure ox where
 Shelf:jy
 aY:vh
 aX:qO
 Seen:List cn
deriving DecidableEq
@[reducible] def Uv (x : ox) : List MV := [.list (x.Shelf.L.map xP), .i .i64 x.aY.eG, .list (x.aY.L.map qu), .list (x.aX.L.map lM), .list (x.Seen.map qQ)]
@[reducible] def Al (x : ox) : MV := .agg (Uv x)
def FM:Option au:=some (⟨([(⟨([47]:List UInt8),([]:List UInt8),0,0⟩:aa)]:List aa)⟩:au)
def FN:Option aw:=some (⟨0,([]:List aq)⟩:aw)
def Bm:Option aj:=bd (FM) λrA=>
 bd (FN) λaZ=>
 some (⟨rA,aZ,(⟨([]:List ak)⟩:aV),([]:List ae)⟩:aj)
def fC (o:ab):Option ab:=if o.Kind=1 then
 some (⟨o.Client,o.Seq,o.Kind,o.Path,o.Value,0,o.Session,0⟩:ab)
 else
 bd (if o.Kind=2 then
  some (decide (o.Kind=2))
  else
  bd (if o.Kind=5 then
   some (decide (o.Kind=5))
   else
   bd (if o.Kind=10 then
    some (decide (o.Kind=10))
    else
    some (decide (o.Kind=11)):Option Bool) λw2=>
   some w2:Option Bool) λw1=>
  some w1:Option Bool) λw=>
 if w then
 some (⟨o.Client,o.Seq,o.Kind,o.Path,([]:List UInt8),0,0,0⟩:ab)
 else
 if o.Kind=3 then
 some (⟨o.Client,o.Seq,o.Kind,o.Path,o.Value,o.Version,0,0⟩:ab)
 else
 if o.Kind=4 then
 some (⟨o.Client,o.Seq,o.Kind,o.Path,([]:List UInt8),o.Version,0,0⟩:ab)
 else
 if o.Kind=6 then
 some (⟨o.Client,o.Seq,o.Kind,([]:List UInt8),([]:List UInt8),0,o.Session,o.Span⟩:ab)
 else
 bd (if o.Kind=7 then
  some (decide (o.Kind=7))
  else
  some (decide (o.Kind=8)):Option Bool) λw3=>
 if w3 then
 some (⟨o.Client,o.Seq,o.Kind,([]:List UInt8),([]:List UInt8),0,o.Session,0⟩:ab)
 else
 if o.Kind=9 then
 some (⟨o.Client,o.Seq,o.Kind,([]:List UInt8),([]:List UInt8),0,0,o.Span⟩:ab)
 else
 some (⟨o.Client,o.Seq,o.Kind,([]:List UInt8),([]:List UInt8),0,0,0⟩:ab)
def ef (o:ab):Option Bool:=bd (if (0:Int)<=o.Client then
  if o.Client<=1000 then
  if (1:Int)<=o.Seq then
  some (decide (o.Seq<=1000000000))
  else
  some false
  else
  some false
  else
  some false:Option Bool) λw=>
 bd (if w then
  if (0:Int)<=o.Kind then
  if o.Kind<=11 then
  if (o.Path.length:Int)<=100 then
  if (o.Value.length:Int)<=1000 then
  bd (fC o) λrA=>
  some ((decide (o.Client=rA.Client))&&((decide (o.Seq=rA.Seq))&&((decide (o.Kind=rA.Kind))&&((decide (o.Path=rA.Path))&&((decide (o.Value=rA.Value))&&((decide (o.Version=rA.Version))&&((decide (o.Session=rA.Session))&&(decide (o.Span=rA.Span)))))))))
  else
  some false
  else
  some false
  else
  some false
  else
  some false
  else
  some false:Option Bool) λw1=>
 some w1
def xQ (x:Int):Option Int:=bd (if (4294967296:Int)<=x then
  if (0:Int)<=32 then
  some (OF x (2^min (sh 32) (BY .u64)),32)
  else none
  else
  some (x,0):Option (Int×Int)) λw=>
 bd (if (65536:Int)<=w.1 then
  if (0:Int)<=16 then
  some (OF w.1 (2^min (sh 16) (BY .u64)),bo .i64 (w.2+16))
  else none
  else
  some (w.1,w.2):Option (Int×Int)) λw1=>
 bd (if (256:Int)<=w1.1 then
  if (0:Int)<=8 then
  some (OF w1.1 (2^min (sh 8) (BY .u64)),bo .i64 (w1.2+8))
  else none
  else
  some (w1.1,w1.2):Option (Int×Int)) λw2=>
 if (0:Int)<=(bo .u8 w2.1)/\(bo .u8 w2.1)<(((([0,1,2,2,3,3,3,3,4,4,4,4,4,4,4,4,5,5,5,5,5,5,5,5,5,5,5,5,5,5,5,5,6,6,6,6,6,6,6,6,6,6,6,6,6,6,6,6,6,6,6,6,6,6,6,6,6,6,6,6,6,6,6,6]:List UInt8)++([7,7,7,7,7,7,7,7,7,7,7,7,7,7,7,7,7,7,7,7,7,7,7,7,7,7,7,7,7,7,7,7,7,7,7,7,7,7,7,7,7,7,7,7,7,7,7,7,7,7,7,7,7,7,7,7,7,7,7,7,7,7,7,7]:List UInt8))++(([8,8,8,8,8,8,8,8,8,8,8,8,8,8,8,8,8,8,8,8,8,8,8,8,8,8,8,8,8,8,8,8,8,8,8,8,8,8,8,8,8,8,8,8,8,8,8,8,8,8,8,8,8,8,8,8,8,8,8,8,8,8,8,8]:List UInt8)++([8,8,8,8,8,8,8,8,8,8,8,8,8,8,8,8,8,8,8,8,8,8,8,8,8,8,8,8,8,8,8,8,8,8,8,8,8,8,8,8,8,8,8,8,8,8,8,8,8,8,8,8,8,8,8,8,8,8,8,8,8,8,8,8]:List UInt8))).length:Int) then
 some (bo .i64 (w2.2+(bo .i64 ((((([0,1,2,2,3,3,3,3,4,4,4,4,4,4,4,4,5,5,5,5,5,5,5,5,5,5,5,5,5,5,5,5,6,6,6,6,6,6,6,6,6,6,6,6,6,6,6,6,6,6,6,6,6,6,6,6,6,6,6,6,6,6,6,6]:List UInt8)++([7,7,7,7,7,7,7,7,7,7,7,7,7,7,7,7,7,7,7,7,7,7,7,7,7,7,7,7,7,7,7,7,7,7,7,7,7,7,7,7,7,7,7,7,7,7,7,7,7,7,7,7,7,7,7,7,7,7,7,7,7,7,7,7]:List UInt8))++(([8,8,8,8,8,8,8,8,8,8,8,8,8,8,8,8,8,8,8,8,8,8,8,8,8,8,8,8,8,8,8,8,8,8,8,8,8,8,8,8,8,8,8,8,8,8,8,8,8,8,8,8,8,8,8,8,8,8,8,8,8,8,8,8]:List UInt8)++([8,8,8,8,8,8,8,8,8,8,8,8,8,8,8,8,8,8,8,8,8,8,8,8,8,8,8,8,8,8,8,8,8,8,8,8,8,8,8,8,8,8,8,8,8,8,8,8,8,8,8,8,8,8,8,8,8,8,8,8,8,8,8,8]:List UInt8))).getD (sh (bo .u8 w2.1)) 0).toNat:Int))))
 else none
def ta (n:Int):Option Int:=bd (xQ n) λrA=>
 if !decide ((8:Int)=0) then
 some (bo .i64 (1+(bo .i64 (Int.tdiv (bo .i64 (rA+7)) 8))))
 else none
def nm (sA:List Int):Option (List Int):=if (sA.length:Int)=(sA.length:Int)/\(sA.length:Int)=(sA.length:Int) then
 some sA
 else none
def qR (n:Int)(st:(List Int)×Int):Option (((List Int)×Int)⊕(List Int)):=if (0:Int)<=st.2 then
 if (0:Int)<=(bo .i64 (8 *st.2)) then
 if (st.1.length+([bo .u8 (OF n (2^min (sh (bo .i64 (8 *st.2))) (BY .u64)))]:List Int).length) *1<=2^46 then
 some (.inl (st.1++([bo .u8 (OF n (2^min (sh (bo .i64 (8 *st.2))) (BY .u64)))]:List Int),bo .i64 (st.2-1)))
 else none
 else none
 else
 some (.inr st.1)
def pO (b:List Int)(n:Int):Option (List Int):=bd (ta n) λrA=>
 bd (nm b) λaZ=>
 if 0<([bo .u8 (bo .i64 (rA-1))]:List Int).length/\(aZ.length+([bo .u8 (bo .i64 (rA-1))]:List Int).length) *1<=2^46 then
 bd (Loop (qR n) (aZ++([bo .u8 (bo .i64 (rA-1))]:List Int),bo .i64 ((bo .i64 (rA-1))-1))) λw=>
 some w
 else none
def pP (b:List Int)(sA:List UInt8):Option (List Int):=bd (pO b (bo .u64 (sA.length:Int))) λrA=>
 if (rA.length+(zj sA).length) *1<=2^46 then
 some (rA++(zj sA))
 else none
def wJ (b:List Int)(n:Int):Option (List Int):=if (0:Int)<=1 then
 if (0:Int)<=63 then
 bd (pO b (IU .u64 (bo .u64 ((bo .u64 n) *2^min (sh 1) (BY .u64))) (bo .u64 (OF n (2^min (sh 63) (BY .i64)))))) λrA=>
 some rA
 else none
 else none
def r9 (lA:List Int)(st:(List Int)×Int):Option (((List Int)×Int)⊕(List Int)):=if st.2<(lA.length:Int) then
 ix lA st.2 λy=>
 bd (wJ st.1 y) λrA=>
 some (.inl (rA,bo .i64 (st.2+1)))
 else
 some (.inr st.1)
def xR (b:List Int)(lA:List Int):Option (List Int):=bd (Loop (r9 lA) (b,0)) λw=>some w
def wK (b:List Int)(o:ab):Option (List Int):=bd (xR b ([o.Client,o.Seq,o.Kind,o.Version,o.Session,o.Span]:List Int)) λrA=>
 bd (pP rA o.Path) λaZ=>
 bd (pP aZ o.Value) λdN=>
 some dN
def jz (lA:List ab)(st:(List Int)×Int):Option (((List Int)×Int)⊕((List Int)⊕((List UInt8)×Int))):=if st.2<(lA.length:Int) then
 ix lA st.2 λy=>
 bd (ef y) λaZ=>
 if !aZ then
 some (.inr (.inr (([]:List UInt8),1)))
 else
 bd (wK st.1 y) λdN=>
 some (.inl (dN,bo .i64 (st.2+1)))
 else
 some (.inr (.inl st.1))
def oJ (lA:List ab):Option ((List UInt8)×Int):=if (10:Int)<(lA.length:Int) then
 some (([]:List UInt8),5)
 else
 bd (pO ([]:List Int) (bo .u64 (lA.length:Int))) λrA=>
 bd (Loop (jz lA) (rA,0)) λw=>
 match w with
 | .inl p1=>
  HJ p1 λbs=>
  some (bs,0)
 | .inr p2=>some (p2.1,p2.2)
def oK (x:Int):Option Bool:=some (!decide (x=x))
def jA (x:Int)(y:Int):Option Int:=bd (oK x) λrA=>
 bd (oK y) λaZ=>
 if rA then
 if aZ then
 some 0
 else
 some (-1)
 else
 if aZ then
 some 1
 else
 if x<y then
 some (-1)
 else
 if y<x then
 some 1
 else
 some 0
def cr (x:ae)(iv:Int):Option Int:=bd (jA x.Client iv) λrA=>some rA
def e9 (x:List ae)(target:Int)(cmp:ae->Int->Option Int)(st:Int×Int):Option ((Int×Int)⊕Int):=if st.1<st.2 then
 if (0:Int)<=1 then
 ix x (bo .i64 (OF (bo .u64 (bo .i64 (st.1+st.2))) (2^min (sh 1) (BY .u64)))) λy=>
 bd (cmp y target) λrA=>
 bd (if rA<0 then
  some (bo .i64 ((bo .i64 (OF (bo .u64 (bo .i64 (st.1+st.2))) (2^min (sh 1) (BY .u64))))+1),st.2)
  else
  some (st.1,bo .i64 (OF (bo .u64 (bo .i64 (st.1+st.2))) (2^min (sh 1) (BY .u64)))):Option (Int×Int)) λw1=>
 some (.inl (w1.1,w1.2))
 else none
 else
 some (.inr st.1)
def cb (x:List ae)(target:Int)(cmp:ae->Int->Option Int):Option (Int×Bool):=bd (Loop (e9 x target cmp) (0,(x.length:Int))) λw=>
 bd (if w<(x.length:Int) then
  ix x w λy1=>
  bd (cmp y1 target) λaZ=>
  some (w,decide (aZ=0))
  else
  some (w,false):Option (Int×Bool)) λw2=>
 some (w2.1,w2.2)
def eH (rA:aj)(iv:Int):Option (Int×Bool):=bd (cb rA.Seen iv cr) λaZ=>some (aZ.1,aZ.2)
def tc (rA:aj)(iv:Int):Option (ae×Bool):=bd (eH rA iv) λaZ=>
 if !aZ.2 then
 some ((⟨0,0,0,([]:List UInt8),0,([]:List (List UInt8))⟩:ae),false)
 else
 ix rA.Seen aZ.1 λy=>
 some (y,true)
def oL (b:List Int)(y:Int)(st:Int×Int):Option ((Int×Int)⊕Int):=if st.2<((IN (sh 0) (IT (sh (bo .i64 y)) (IN (sh 1) (IT (sh (b.length:Int)) b)))).length:Int) then
 ix (IN (sh 0) (IT (sh (bo .i64 y)) (IN (sh 1) (IT (sh (b.length:Int)) b)))) st.2 λy2=>
 if (0:Int)<=8 then
 some (.inl (bOr .u64 (bo .u64 (st.1 *2^min (sh 8) (BY .u64))) (bo .u64 y2),bo .i64 (st.2+1)))
 else none
 else
 some (.inr st.1)
abbrev adr:=Int×(List Int)×Int
def nE (b:List Int):Option (adr):=if (b.length:Int)=0 then
 some (0,([]:List Int),2)
 else
 ix b 0 λy=>
 if (0:Int)<=1/\(1:Int)<=(b.length:Int)/\(b.length:Int)<=(b.length:Int) then
 bd (if (8:Int)<(bo .i64 y) then
  some true
  else
  if (0:Int)<(bo .i64 y) then
  if (0:Int)<((IN (sh 1) (IT (sh (b.length:Int)) b)).length:Int) then
  ix (IN (sh 1) (IT (sh (b.length:Int)) b)) 0 λy1=>
  some (decide (y1=0))
  else
  some false
  else
  some false:Option Bool) λw=>
 if w then
 some (0,([]:List Int),3)
 else
 if ((IN (sh 1) (IT (sh (b.length:Int)) b)).length:Int)<(bo .i64 y) then
 some (0,([]:List Int),2)
 else
 if (0:Int)<=0/\(0:Int)<=(bo .i64 y)/\(bo .i64 y)<=((IN (sh 1) (IT (sh (b.length:Int)) b)).length:Int) then
 bd (Loop (oL b y) (0,0)) λw1=>
 if (0:Int)<=(bo .i64 y)/\(bo .i64 y)<=((IN (sh 1) (IT (sh (b.length:Int)) b)).length:Int)/\((IN (sh 1) (IT (sh (b.length:Int)) b)).length:Int)<=((IN (sh 1) (IT (sh (b.length:Int)) b)).length:Int) then
 some (w1,IN (sh (bo .i64 y)) (IT (sh ((IN (sh 1) (IT (sh (b.length:Int)) b)).length:Int)) (IN (sh 1) (IT (sh (b.length:Int)) b))),0)
 else none
 else none
 else none
def kH (b:List Int):Option (adr):=bd (nE b) λrA=>
 if (0:Int)<=1 then
 some (IU .i64 (bo .i64 (OF rA.1 (2^min (sh 1) (BY .u64)))) (bo .i64 (0-(bo .i64 (S9 .u64 rA.1 1)))),rA.2.1,rA.2.2)
 else none
def jB (b:List Int)(most:Int):Option ((List UInt8)×(List Int)×Int):=bd (nE b) λrA=>
 if !decide (rA.2.2=0) then
 some (([]:List UInt8),([]:List Int),rA.2.2)
 else
 if (bo .u64 (imax most 0))<rA.1 then
 some (([]:List UInt8),([]:List Int),5)
 else
 if (bo .u64 (rA.2.1.length:Int))<rA.1 then
 some (([]:List UInt8),([]:List Int),2)
 else
 if (0:Int)<=0/\(0:Int)<=rA.1/\rA.1<=(rA.2.1.length:Int) then
 HJ (IN (sh 0) (IT (sh rA.1) rA.2.1)) λbs=>
 if (0:Int)<=rA.1/\rA.1<=(rA.2.1.length:Int)/\(rA.2.1.length:Int)<=(rA.2.1.length:Int) then
 some (bs,IN (sh rA.1) (IT (sh (rA.2.1.length:Int)) rA.2.1),0)
 else none
 else none
def oM (b:List Int)(e x:Int):Option (Int×List Int×Int):=if e=0 then kH b else some (x,b,e)
def vi (b:List Int)(e most:Int):Option (List UInt8×List Int×Int):=if e=0 then jB b most else some ([],b,e)
def td (b:List Int):Option (ab×List Int×Int):=bd (oM b 0 0) λr0=>
 bd (oM r0.2.1 r0.2.2 0) λr1=>
 bd (oM r1.2.1 r1.2.2 0) λr2=>
 bd (oM r2.2.1 r2.2.2 0) λr3=>
 bd (oM r3.2.1 r3.2.2 0) λr4=>
 bd (oM r4.2.1 r4.2.2 0) λr5=>
 bd (vi r5.2.1 r5.2.2 100) λs0=>
 bd (vi s0.2.1 s0.2.2 1000) λs1=>
 if s1.2.2=0 then
 bd (ef (⟨r0.1,r1.1,r2.1,s0.1,s1.1,r3.1,r4.1,r5.1⟩:ab)) λm=>
 if m then some ((⟨r0.1,r1.1,r2.1,s0.1,s1.1,r3.1,r4.1,r5.1⟩:ab),s1.2.1,0)
 else some ((⟨0,0,0,[],[],0,0,0⟩:ab),[],3)
 else some ((⟨0,0,0,[],[],0,0,0⟩:ab),[],s1.2.2)
def jC (rA:adr)(st:(List Int)×(List ab)×Int):Option (((List Int)×(List ab)×Int)⊕(((List Int)×(List ab))⊕((List ab)×Int))):=if st.2.2<((ad3 (sh rA.1) (⟨0,0,0,([]:List UInt8),([]:List UInt8),0,0,0⟩:ab)).length:Int) then
 bd (td st.1) λaZ=>
 ix st.2.1 st.2.2 λy=>
 if !decide (aZ.2.2=0) then
 some (.inr (.inr (([]:List ab),3)))
 else
 some (.inl (aZ.2.1,st.2.1.set (sh st.2.2) aZ.1,bo .i64 (st.2.2+1)))
 else
 some (.inr (.inl (st.1,st.2.1)))
def dv (sA:List UInt8):Option ((List ab)×Int):=bd (nE (zj sA)) λrA=>
 bd (if !decide (rA.2.2=0) then
  some true
  else
  some (decide ((10:Int)<rA.1)):Option Bool) λw=>
 if w then
 some (([]:List ab),3)
 else
 if (0:Int)<=rA.1/\rA.1<=rA.1/\rA.1 *80<=2^46 then
 bd (Loop (jC rA) (rA.2.1,ad3 (sh rA.1) (⟨0,0,0,([]:List UInt8),([]:List UInt8),0,0,0⟩:ab),0)) λw1=>
 match w1 with
 | .inl p1=>
  if (0:Int)<(p1.1.length:Int) then
  some (([]:List ab),3)
  else
  some (p1.2,0)
 | .inr p2=>some (p2.1,p2.2)
 else none
abbrev abH:=Int×Int×Int×(List UInt8)×Int×(List (List UInt8))×Int×Int×Int×(List UInt8)×Int×(List (List UInt8))
abbrev acl:=Int×Int×Int×(List UInt8)×Int×(List (List UInt8))×Bool
def jD (rA:aj)(o:ab):Option (ae×Bool):=bd (tc rA o.Client) λaZ=>
 bd (ef o) λdN=>
 bd (if !dN then
  some (.inl (0,0,0,([]:List UInt8),0,([]:List (List UInt8)),o.Client,o.Seq,1,([]:List UInt8),0,([]:List (List UInt8))))
  else
  bd (if aZ.2 then
   some (decide (aZ.1.Seq=o.Seq))
   else
   some false:Option Bool) λw1=>
  if w1 then
  some (.inr (aZ.1.Client,aZ.1.Seq,aZ.1.E,aZ.1.Value,aZ.1.Version,aZ.1.Names,true))
  else
  bd (if aZ.2 then
   some (decide (o.Seq<aZ.1.Seq))
   else
   some false:Option Bool) λw2=>
  bd (if w2 then
   some (.inl (0,0,0,([]:List UInt8),0,([]:List (List UInt8)),o.Client,o.Seq,15,([]:List UInt8),0,([]:List (List UInt8))))
   else
   bd (if !aZ.2 then
    some (decide ((50:Int)<=(rA.Seen.length:Int)))
    else
    some false:Option Bool) λw4=>
   if w4 then
   some (.inl (0,0,0,([]:List UInt8),0,([]:List (List UInt8)),o.Client,o.Seq,9,([]:List UInt8),0,([]:List (List UInt8))))
   else
   some (.inr (o.Client,o.Seq,0,([]:List UInt8),0,([]:List (List UInt8)),false)):Option ((abH)⊕(acl))) λw3=>
  match w3 with
  | .inl p2=>some (.inl (p2.1,p2.2.1,p2.2.2.1,p2.2.2.2.1,p2.2.2.2.2.1,p2.2.2.2.2.2.1,p2.2.2.2.2.2.2.1,p2.2.2.2.2.2.2.2.1,p2.2.2.2.2.2.2.2.2.1,p2.2.2.2.2.2.2.2.2.2.1,p2.2.2.2.2.2.2.2.2.2.2.1,p2.2.2.2.2.2.2.2.2.2.2.2))
  | .inr p3=>some (.inr (p3.1,p3.2.1,p3.2.2.1,p3.2.2.2.1,p3.2.2.2.2.1,p3.2.2.2.2.2.1,p3.2.2.2.2.2.2)):Option ((abH)⊕(acl))) λw=>
 match w with
 | .inl p4=>some ((⟨p4.2.2.2.2.2.2.1,p4.2.2.2.2.2.2.2.1,p4.2.2.2.2.2.2.2.2.1,p4.2.2.2.2.2.2.2.2.2.1,p4.2.2.2.2.2.2.2.2.2.2.1,p4.2.2.2.2.2.2.2.2.2.2.2⟩:ae),true)
 | .inr p5=>some ((⟨p5.1,p5.2.1,p5.2.2.1,p5.2.2.2.1,p5.2.2.2.2.1,p5.2.2.2.2.2.1⟩:ae),p5.2.2.2.2.2.2)
def nF (w:ah):Option (Unit×ah):=some ((),w)
def cJ (x:aq)(id:Int):Option Int:=bd (jA x.Id id) λrA=>some rA
def eB (x:List aq)(target:Int)(cmp:aq->Int->Option Int)(st:Int×Int):Option ((Int×Int)⊕Int):=if st.1<st.2 then
 if (0:Int)<=1 then
 ix x (bo .i64 (OF (bo .u64 (bo .i64 (st.1+st.2))) (2^min (sh 1) (BY .u64)))) λy=>
 bd (cmp y target) λrA=>
 bd (if rA<0 then
  some (bo .i64 ((bo .i64 (OF (bo .u64 (bo .i64 (st.1+st.2))) (2^min (sh 1) (BY .u64))))+1),st.2)
  else
  some (st.1,bo .i64 (OF (bo .u64 (bo .i64 (st.1+st.2))) (2^min (sh 1) (BY .u64)))):Option (Int×Int)) λw1=>
 some (.inl (w1.1,w1.2))
 else none
 else
 some (.inr st.1)
def bX (x:List aq)(target:Int)(cmp:aq->Int->Option Int):Option (Int×Bool):=bd (Loop (eB x target cmp) (0,(x.length:Int))) λw=>
 bd (if w<(x.length:Int) then
  ix x w λy1=>
  bd (cmp y1 target) λaZ=>
  some (w,decide (aZ=0))
  else
  some (w,false):Option (Int×Bool)) λw2=>
 some (w2.1,w2.2)
def dw (b:aw)(id:Int):Option (Int×Bool):=bd (bX b.L id cJ) λrA=>some (rA.1,rA.2)
def wL (b:aw)(id:Int):Option Bool:=bd (dw b id) λrA=>some rA.2
def gZ (sA:List UInt8)(eR:List UInt8):Option Bool:=bd (if (eR.length:Int)<=(sA.length:Int) then
  if (0:Int)<=0/\(0:Int)<=(eR.length:Int)/\(eR.length:Int)<=(sA.length:Int) then
  some (decide ((IN (sh 0) (IT (sh (eR.length:Int)) sA))=eR))
  else none
  else
  some false:Option Bool) λw=>
 some w
def ia (sA:List UInt8)(eR:List UInt8):Option ((List UInt8)×Bool):=bd (gZ sA eR) λrA=>
 if !rA then
 some (sA,false)
 else
 if (0:Int)<=(eR.length:Int)/\(eR.length:Int)<=(sA.length:Int)/\(sA.length:Int)<=(sA.length:Int) then
 some (IN (sh (eR.length:Int)) (IT (sh (sA.length:Int)) sA),true)
 else none
def iD (sA:List UInt8)(eR:List UInt8):Option ((List UInt8)×Bool):=bd (ia sA eR) λrA=>some (rA.1,rA.2)
def gp (c:Int):Option Bool:=bd (Ex ([97,98,99,100,101,102,103,104,105,106,107,108,109,110,111,112,113,114,115,116,117,118,119,120,121,122,48,49,50,51,52,53,54,55,56,57,45,95]:List UInt8) c) λrA=>some (!rA)
def iF (f:Int->Option Bool)(Hj:Bool)(st:(List MV)):Option ((List MV)⊕(Unit⊕Int)):=if L7 st then
 bd (f (CA st)) λrA=>
 if rA=Hj then
 some (.inr (.inr (sJ st)))
 else
 some (.inl (CB st))
 else
 some (.inr (.inl ()))
def np (sA:List UInt8)(f:Int->Option Bool)(Hj:Bool):Option Int:=bd (Loop (iF f Hj) ([.s sA,.i .i64 0]:List MV)) λw=>
 match w with
 | .inl p1=>some (-1)
 | .inr p2=>some p2
def lc (sA:List UInt8)(f:Int->Option Bool):Option Int:=bd (np sA f true) λrA=>some rA
def fa (sA:List UInt8)(f:Int->Option Bool):Option Bool:=bd (lc sA f) λrA=>some (decide ((0:Int)<=rA))
def qT (sA:List UInt8):Option Bool:=bd (if !decide (sA=([]:List UInt8)) then
  if (sA.length:Int)<=30 then
  bd (NS sA ([97,98,99,100,101,102,103,104,105,106,107,108,109,110,111,112,113,114,115,116,117,118,119,120,121,122,48,49,50,51,52,53,54,55,56,57,45,95]:List UInt8)) λrA=>
  if rA=([]:List UInt8) then
  bd (fa sA gp) λaZ=>
  some (!aZ)
  else
  some false
  else
  some false
  else
  some false:Option Bool) λw=>
 some w
def mu (sA:List UInt8):Option Bool:=bd (qT sA) λrA=>some (!rA)
def dn (sA:List (List UInt8))(f:(List UInt8)->Option Bool)(st:Int):Option (Int⊕(Unit⊕Int)):=if st<(sA.length:Int) then
 ix sA st λy=>
 bd (f y) λrA=>
 if rA then
 some (.inr (.inr st))
 else
 some (.inl (bo .i64 (st+1)))
 else
 some (.inr (.inl ()))
def fY (sA:List (List UInt8))(f:(List UInt8)->Option Bool):Option Int:=bd (Loop (dn sA f) 0) λw=>
 match w with
 | .inl p1=>some (-1)
 | .inr p2=>some p2
def cW (sA:List (List UInt8))(f:(List UInt8)->Option Bool):Option Bool:=bd (fY sA f) λrA=>some (decide ((0:Int)<=rA))
def gG (p:List UInt8):Option ((List (List UInt8))×Bool):=bd (iD p ([47]:List UInt8)) λrA=>
 bd (if !rA.2 then
  some true
  else
  some (decide ((100:Int)<(p.length:Int))):Option Bool) λw=>
 if w then
 some (([]:List (List UInt8)),false)
 else
 if rA.1=([]:List UInt8) then
 some (([]:List (List UInt8)),true)
 else
 bd (Px rA.1 ([47]:List UInt8)) λaZ=>
 bd (if (aZ.length:Int)<=8 then
  bd (cW aZ mu) λdN=>
  some (aZ,!dN,aZ)
  else
  some (aZ,false,aZ):Option ((List (List UInt8))×Bool×(List (List UInt8)))) λw1=>
 some (w1.2.2,w1.2.1)
def ku (x:List UInt8):Option Bool:=some (!decide (x=x))
def iG (x:List UInt8)(y:List UInt8):Option Int:=bd (ku x) λrA=>
 bd (ku y) λaZ=>
 if rA then
 if aZ then
 some 0
 else
 some (-1)
 else
 if aZ then
 some 1
 else
 if aei x y then
 some (-1)
 else
 if !(aei x y||decide (x=y)) then
 some 1
 else
 some 0
def dR (s1:List (List UInt8))(s2:List (List UInt8))(st:Int):Option (Int⊕(Unit⊕Int)):=if st<(s1.length:Int) then
 ix s1 st λy=>
 if (s2.length:Int)<=st then
 some (.inr (.inr 1))
 else
 ix s2 st λy1=>
 bd (iG y y1) λrA=>
 if !decide (rA=0) then
 some (.inr (.inr rA))
 else
 some (.inl (bo .i64 (st+1)))
 else
 some (.inr (.inl ()))
def fb (s1:List (List UInt8))(s2:List (List UInt8)):Option Int:=bd (Loop (dR s1 s2) 0) λw=>
 match w with
 | .inl p1=>
  if (s1.length:Int)<(s2.length:Int) then
  some (-1)
  else
  some 0
 | .inr p2=>some p2
def th (p:List UInt8)(q:List UInt8):Option Bool:=bd (gG p) λrA=>
 bd (gG q) λaZ=>
 bd (if rA.2 then
  if aZ.2 then
  bd (fb rA.1 aZ.1) λdN=>
  some (decide (dN<0))
  else
  some false
  else
  some false:Option Bool) λw=>
 some w
def bM (n:aa)(p:List UInt8):Option Int:=if n.Path=p then
 some 0
 else
 bd (th n.Path p) λrA=>
 if rA then
 some (-1)
 else
 some 1
def eC (x:List aa)(target:List UInt8)(cmp:aa->(List UInt8)->Option Int)(st:Int×Int):Option ((Int×Int)⊕Int):=if st.1<st.2 then
 if (0:Int)<=1 then
 ix x (bo .i64 (OF (bo .u64 (bo .i64 (st.1+st.2))) (2^min (sh 1) (BY .u64)))) λy=>
 bd (cmp y target) λrA=>
 bd (if rA<0 then
  some (bo .i64 ((bo .i64 (OF (bo .u64 (bo .i64 (st.1+st.2))) (2^min (sh 1) (BY .u64))))+1),st.2)
  else
  some (st.1,bo .i64 (OF (bo .u64 (bo .i64 (st.1+st.2))) (2^min (sh 1) (BY .u64)))):Option (Int×Int)) λw1=>
 some (.inl (w1.1,w1.2))
 else none
 else
 some (.inr st.1)
def cO (x:List aa)(target:List UInt8)(cmp:aa->(List UInt8)->Option Int):Option (Int×Bool):=bd (Loop (eC x target cmp) (0,(x.length:Int))) λw=>
 bd (if w<(x.length:Int) then
  ix x w λy1=>
  bd (cmp y1 target) λaZ=>
  some (w,decide (aZ=0))
  else
  some (w,false):Option (Int×Bool)) λw2=>
 some (w2.1,w2.2)
def eI (sA:au)(p:List UInt8):Option (Int×Bool):=bd (cO sA.L p bM) λrA=>some (rA.1,rA.2)
def ka (p:List UInt8):Option Bool:=bd (gG p) λrA=>some rA.2
def fD (sA:au)(p:List UInt8):Option (Int×Int):=bd (ka p) λrA=>
 if !rA then
 some (0,13)
 else
 bd (eI sA p) λaZ=>
 if !aZ.2 then
 some (0,6)
 else
 some (aZ.1,0)
def pQ (sA:au)(p:List UInt8):Option (aa×Int):=bd (fD sA p) λrA=>
 if !decide (rA.2=0) then
 some ((⟨([]:List UInt8),([]:List UInt8),0,0⟩:aa),rA.2)
 else
 ix sA.L rA.1 λy=>
 some (y,0)
def fc (sA:List UInt8)(c:Int)(st:Int):Option (Int⊕(Unit⊕Int)):=if (0:Int)<=st then
 if (0:Int)<=st/\st<(sA.length:Int) then
 if ((sA.getD (sh st) 0).toNat:Int)=c then
 some (.inr (.inr st))
 else
 some (.inl (bo .i64 (st-1)))
 else none
 else
 some (.inr (.inl ()))
def dE (sA:List UInt8)(c:Int):Option Int:=bd (Loop (fc sA c) (bo .i64 ((sA.length:Int)-1))) λw=>
 match w with
 | .inl p1=>some (-1)
 | .inr p2=>some p2
def tj (sep:List UInt8)(st:Int×Int):Option ((Int×Int)⊕Int):=if (0:Int)<=st.2 then
 if (0:Int)<=st.2/\st.2<(sep.length:Int) then
 some (.inl (bo .u32 ((bo .u32 (st.1 *16777619))+(bo .u32 ((sep.getD (sh st.2) 0).toNat:Int))),bo .i64 (st.2-1)))
 else none
 else
 some (.inr st.1)
def lN (cz:Int×Int×Int):Option ((Int×Int×Int)⊕Int):=if (0:Int)<cz.2.2 then
 bd (if !decide ((S9 .i64 cz.2.2 1)=0) then
  some (bo .u32 (cz.1 *cz.2.1))
  else
  some cz.1:Option Int) λw2=>
 if (0:Int)<=1 then
 some (.inl (w2,bo .u32 (cz.2.1 *cz.2.1),OF cz.2.2 (2^min (sh 1) (BY .i64))))
 else none
 else
 some (.inr cz.1)
def jc (sep:List UInt8):Option (Int×Int):=bd (Loop (tj sep) (0,bo .i64 ((sep.length:Int)-1))) λw=>
 bd (Loop lN (1,16777619,(sep.length:Int))) λw1=>
 some (w,w1)
def gJ (a:List UInt8)(a1:List UInt8)(st:Int×Int):Option ((Int×Int)⊕Int):=if (bo .i64 ((a.length:Int)-(a1.length:Int)))<=st.2 then
 if (0:Int)<=st.2/\st.2<(a.length:Int) then
 some (.inl (bo .u32 ((bo .u32 (st.1 *16777619))+(bo .u32 ((a.getD (sh st.2) 0).toNat:Int))),bo .i64 (st.2-1)))
 else none
 else
 some (.inr st.1)
def gK (a:List UInt8)(a1:List UInt8)(rA:Int×Int)(cz:Int×Int):Option ((Int×Int)⊕(Unit⊕Int)):=if (0:Int)<=cz.2 then
 if (0:Int)<=cz.2/\cz.2<(a.length:Int) then
 if (0:Int)<=(bo .i64 (cz.2+(a1.length:Int)))/\(bo .i64 (cz.2+(a1.length:Int)))<(a.length:Int) then
 bd (if (bo .u32 ((bo .u32 ((bo .u32 (cz.1 *16777619))+(bo .u32 ((a.getD (sh cz.2) 0).toNat:Int))))-(bo .u32 (rA.2 *(bo .u32 ((a.getD (sh (bo .i64 (cz.2+(a1.length:Int)))) 0).toNat:Int))))))=rA.1 then
  if (0:Int)<=cz.2/\cz.2<=(bo .i64 (cz.2+(a1.length:Int)))/\(bo .i64 (cz.2+(a1.length:Int)))<=(a.length:Int) then
  some (decide ((IN (sh cz.2) (IT (sh (bo .i64 (cz.2+(a1.length:Int)))) a))=a1))
  else none
  else
  some false:Option Bool) λw3=>
 if w3 then
 some (.inr (.inr cz.2))
 else
 some (.inl (bo .u32 ((bo .u32 ((bo .u32 (cz.1 *16777619))+(bo .u32 ((a.getD (sh cz.2) 0).toNat:Int))))-(bo .u32 (rA.2 *(bo .u32 ((a.getD (sh (bo .i64 (cz.2+(a1.length:Int)))) 0).toNat:Int))))),bo .i64 (cz.2-1)))
 else none
 else none
 else
 some (.inr (.inl ()))
def dS (a:List UInt8)(a1:List UInt8):Option Int:=bd (jc a1) λrA=>
 bd (Loop (gJ a a1) (0,bo .i64 ((a.length:Int)-1))) λw=>
 bd (if w=rA.1 then
  if (0:Int)<=(bo .i64 ((a.length:Int)-(a1.length:Int)))/\(bo .i64 ((a.length:Int)-(a1.length:Int)))<=(a.length:Int)/\(a.length:Int)<=(a.length:Int) then
  some (decide ((IN (sh (bo .i64 ((a.length:Int)-(a1.length:Int)))) (IT (sh (a.length:Int)) a))=a1))
  else none
  else
  some false:Option Bool) λw1=>
 if w1 then
 some (bo .i64 ((a.length:Int)-(a1.length:Int)))
 else
 bd (Loop (gK a a1 rA) (w,bo .i64 ((bo .i64 ((a.length:Int)-(a1.length:Int)))-1))) λw2=>
 match w2 with
 | .inl p2=>some (-1)
 | .inr p3=>some p3
def iH (sA:List UInt8)(substr:List UInt8):Option Int:=if (substr.length:Int)=0 then
 some (sA.length:Int)
 else
 if (substr.length:Int)=1 then
 if (0:Int)<=0/\(0:Int)<(substr.length:Int) then
 bd (dE sA ((substr.getD (sh 0) 0).toNat:Int)) λrA=>
 some rA
 else none
 else
 if (substr.length:Int)=(sA.length:Int) then
 if substr=sA then
 some 0
 else
 some (-1)
 else
 if (sA.length:Int)<(substr.length:Int) then
 some (-1)
 else
 bd (dS sA substr) λaZ=>
 some aZ
def nV (p:List UInt8):Option ((List UInt8)×Int):=bd (ka p) λrA=>
 if !rA then
 some (([]:List UInt8),13)
 else
 if p=([47]:List UInt8) then
 some (([]:List UInt8),6)
 else
 bd (iH p ([47]:List UInt8)) λaZ=>
 if (0:Int)<=0/\(0:Int)<=(imax 1 aZ)/\(imax 1 aZ)<=(p.length:Int) then
 some (IN (sh 0) (IT (sh (imax 1 aZ)) p),0)
 else none
def gM (c:List UInt8)(c1:Bool)(c2:au)(c3:List UInt8)(c4:Int):Option Int:=bd (ka c) λrA=>
 if !rA then
 some 13
 else
 if c1 then
 some 7
 else
 bd (nV c) λaZ=>
 bd (pQ c2 aZ.1) λdN=>
 if !decide (dN.2=0) then
 some 6
 else
 if !decide (dN.1.cm=0) then
 some 10
 else
 if (1000:Int)<(c3.length:Int) then
 some 5
 else
 if c4<0 then
 some 1
 else
 if (200:Int)<=(c2.L.length:Int) then
 some 9
 else
 some 0
def mw (sA:au)(p:List UInt8)(value:List UInt8)(owner:Int):Option (au×Int):=bd (eI sA p) λrA=>
 bd (gM p rA.2 sA value owner) λaZ=>
 if !decide (aZ=0) then
 some (sA,aZ)
 else
 bd (j8 48 sA.L) λdN=>
 bd (rZ 48 dN rA.1 ([(⟨p,value,0,owner⟩:aa)]:List aa)) λux=>
 some ((⟨ux⟩:au),0)
abbrev aaV:=(List aa)×Int×(List aq)×(List ak)×(List ae)×Int×Int×Int×(List UInt8)×(List UInt8)×Int×Int×Int×Int×Int×Int×(List UInt8)×Int×(List (List UInt8))×(List ay)
def cP (w:ah)(kind:Int):Option (Unit×ah):=bd (if w.x.E=0 then
  if (w.l.length+([(⟨kind,w.o.Path⟩:ay)]:List ay).length) *24<=2^46 then
  some (w.r.Shelf.L,w.r.aY.eG,w.r.aY.L,w.r.aX.L,w.r.Seen,w.o.Client,w.o.Seq,w.o.Kind,w.o.Path,w.o.Value,w.o.Version,w.o.Session,w.o.Span,w.x.Client,w.x.Seq,w.x.E,w.x.Value,w.x.Version,w.x.Names,w.l++([(⟨kind,w.o.Path⟩:ay)]:List ay))
  else none
  else
  some (w.r.Shelf.L,w.r.aY.eG,w.r.aY.L,w.r.aX.L,w.r.Seen,w.o.Client,w.o.Seq,w.o.Kind,w.o.Path,w.o.Value,w.o.Version,w.o.Session,w.o.Span,w.x.Client,w.x.Seq,w.x.E,w.x.Value,w.x.Version,w.x.Names,w.l):Option (aaV)) λw1=>
 some ((),(⟨(⟨(⟨w1.1⟩:au),(⟨w1.2.1,w1.2.2.1⟩:aw),(⟨w1.2.2.2.1⟩:aV),w1.2.2.2.2.1⟩:aj),(⟨w1.2.2.2.2.2.1,w1.2.2.2.2.2.2.1,w1.2.2.2.2.2.2.2.1,w1.2.2.2.2.2.2.2.2.1,w1.2.2.2.2.2.2.2.2.2.1,w1.2.2.2.2.2.2.2.2.2.2.1,w1.2.2.2.2.2.2.2.2.2.2.2.1,w1.2.2.2.2.2.2.2.2.2.2.2.2.1⟩:ab),(⟨w1.2.2.2.2.2.2.2.2.2.2.2.2.2.1,w1.2.2.2.2.2.2.2.2.2.2.2.2.2.2.1,w1.2.2.2.2.2.2.2.2.2.2.2.2.2.2.2.1,w1.2.2.2.2.2.2.2.2.2.2.2.2.2.2.2.2.1,w1.2.2.2.2.2.2.2.2.2.2.2.2.2.2.2.2.2.1,w1.2.2.2.2.2.2.2.2.2.2.2.2.2.2.2.2.2.2.1⟩:ae),w1.2.2.2.2.2.2.2.2.2.2.2.2.2.2.2.2.2.2.2⟩:ah))
def iJ (w:ah):Option (Unit×ah):=bd (if !decide (w.o.Session=0) then
  bd (wL w.r.aY w.o.Session) λrA=>
  some (!rA)
  else
  some false:Option Bool) λw1=>
 if w1 then
 some ((),(⟨w.r,w.o,(⟨w.x.Client,w.x.Seq,14,w.x.Value,w.x.Version,w.x.Names⟩:ae),w.l⟩:ah))
 else
 bd (mw w.r.Shelf w.o.Path w.o.Value w.o.Session) λaZ=>
 bd (cP (⟨(⟨aZ.1,w.r.aY,w.r.aX,w.r.Seen⟩:aj),w.o,(⟨w.x.Client,w.x.Seq,aZ.2,w.x.Value,w.x.Version,w.x.Names⟩:ae),w.l⟩:ah) 1) λdN=>
 some ((),dN.2)
def lO (w:ah):Option (Unit×ah):=bd (pQ w.r.Shelf w.o.Path) λrA=>some ((),(⟨w.r,w.o,(⟨w.x.Client,w.x.Seq,rA.2,rA.1.Value,rA.1.Version,w.x.Names⟩:ae),w.l⟩:ah))
def dC (sA:au)(p:List UInt8)(version:Int):Option (Int×Int):=bd (fD sA p) λrA=>
 bd (if rA.2=0 then
  if !decide (version=(-1)) then
  ix sA.L rA.1 λy=>
  some (!decide (version=y.Version))
  else
  some false
  else
  some false:Option Bool) λw=>
 if w then
 some (rA.1,8)
 else
 some (rA.1,rA.2)
def wM (sA:au)(p:List UInt8)(value:List UInt8)(version:Int):Option (au×Int):=bd (dC sA p version) λrA=>
 if !decide (rA.2=0) then
 some (sA,rA.2)
 else
 if (1000:Int)<(value.length:Int) then
 some (sA,5)
 else
 ix sA.L rA.1 λy=>
 if (1000000000:Int)<=y.Version then
 some (sA,9)
 else
 bd (j8 48 sA.L) λaZ=>
 ix aZ rA.1 λy1=>
 ix (aZ.set (sh rA.1) (⟨y1.Path,value,y1.Version,y1.cm⟩:aa)) rA.1 λy2=>
 ix (aZ.set (sh rA.1) (⟨y1.Path,value,y1.Version,y1.cm⟩:aa)) rA.1 λy3=>
 some ((⟨(aZ.set (sh rA.1) (⟨y1.Path,value,y1.Version,y1.cm⟩:aa)).set (sh rA.1) (⟨y3.Path,y3.Value,bo .i64 (y2.Version+1),y3.cm⟩:aa)⟩:au),0)
def lP (w:ah):Option (Unit×ah):=bd (wM w.r.Shelf w.o.Path w.o.Value w.o.Version) λrA=>
 bd (cP (⟨(⟨rA.1,w.r.aY,w.r.aX,w.r.Seen⟩:aj),w.o,(⟨w.x.Client,w.x.Seq,rA.2,w.x.Value,w.x.Version,w.x.Names⟩:ae),w.l⟩:ah) 2) λaZ=>
 bd (if aZ.2.x.E=0 then
  bd (pQ aZ.2.r.Shelf aZ.2.o.Path) λdN=>
  some (aZ.2.r.Shelf.L,aZ.2.r.aY.eG,aZ.2.r.aY.L,aZ.2.r.aX.L,aZ.2.r.Seen,aZ.2.o.Client,aZ.2.o.Seq,aZ.2.o.Kind,aZ.2.o.Path,aZ.2.o.Value,aZ.2.o.Version,aZ.2.o.Session,aZ.2.o.Span,aZ.2.x.Client,aZ.2.x.Seq,aZ.2.x.E,aZ.2.x.Value,dN.1.Version,aZ.2.x.Names,aZ.2.l)
  else
  some (aZ.2.r.Shelf.L,aZ.2.r.aY.eG,aZ.2.r.aY.L,aZ.2.r.aX.L,aZ.2.r.Seen,aZ.2.o.Client,aZ.2.o.Seq,aZ.2.o.Kind,aZ.2.o.Path,aZ.2.o.Value,aZ.2.o.Version,aZ.2.o.Session,aZ.2.o.Span,aZ.2.x.Client,aZ.2.x.Seq,aZ.2.x.E,aZ.2.x.Value,aZ.2.x.Version,aZ.2.x.Names,aZ.2.l):Option (aaV)) λw1=>
 some ((),(⟨(⟨(⟨w1.1⟩:au),(⟨w1.2.1,w1.2.2.1⟩:aw),(⟨w1.2.2.2.1⟩:aV),w1.2.2.2.2.1⟩:aj),(⟨w1.2.2.2.2.2.1,w1.2.2.2.2.2.2.1,w1.2.2.2.2.2.2.2.1,w1.2.2.2.2.2.2.2.2.1,w1.2.2.2.2.2.2.2.2.2.1,w1.2.2.2.2.2.2.2.2.2.2.1,w1.2.2.2.2.2.2.2.2.2.2.2.1,w1.2.2.2.2.2.2.2.2.2.2.2.2.1⟩:ab),(⟨w1.2.2.2.2.2.2.2.2.2.2.2.2.2.1,w1.2.2.2.2.2.2.2.2.2.2.2.2.2.2.1,w1.2.2.2.2.2.2.2.2.2.2.2.2.2.2.2.1,w1.2.2.2.2.2.2.2.2.2.2.2.2.2.2.2.2.1,w1.2.2.2.2.2.2.2.2.2.2.2.2.2.2.2.2.2.1,w1.2.2.2.2.2.2.2.2.2.2.2.2.2.2.2.2.2.2.1⟩:ae),w1.2.2.2.2.2.2.2.2.2.2.2.2.2.2.2.2.2.2.2⟩:ah))
def lQ (s1:List (List UInt8))(s2:List (List UInt8))(st:Int):Option (Int⊕(Unit⊕Bool)):=if st<(s1.length:Int) then
 ix s1 st λy=>
 ix s2 st λy1=>
 if !decide (y=y1) then
 some (.inr (.inr false))
 else
 some (.inl (bo .i64 (st+1)))
 else
 some (.inr (.inl ()))
def eJ (s1:List (List UInt8))(s2:List (List UInt8)):Option Bool:=if !decide ((s1.length:Int)=(s2.length:Int)) then
 some false
 else
 bd (Loop (lQ s1 s2) 0) λw=>
 match w with
 | .inl p1=>some true
 | .inr p2=>some p2
def nG (p:List UInt8)(q:List UInt8):Option Bool:=bd (gG p) λrA=>
 bd (gG q) λaZ=>
 bd (if rA.2 then
  if aZ.2 then
  if (rA.1.length:Int)<(aZ.1.length:Int) then
  if (0:Int)<=0/\(0:Int)<=(rA.1.length:Int)/\(rA.1.length:Int)<=(aZ.1.length:Int) then
  bd (eJ rA.1 (IN (sh 0) (IT (sh (rA.1.length:Int)) aZ.1))) λdN=>
  some dN
  else none
  else
  some false
  else
  some false
  else
  some false:Option Bool) λw=>
 some w
def oN (sA:au)(p:List UInt8)(version:Int):Option (au×Int):=bd (dC sA p version) λrA=>
 if p=([47]:List UInt8) then
 some (sA,13)
 else
 if !decide (rA.2=0) then
 some (sA,rA.2)
 else
 bd (if (bo .i64 (rA.1+1))<(sA.L.length:Int) then
  ix sA.L (bo .i64 (rA.1+1)) λy=>
  bd (nG p y.Path) λaZ=>
  some aZ
  else
  some false:Option Bool) λw=>
 if w then
 some (sA,10)
 else
 bd (j8 48 sA.L) λdN=>
 bd (Bi dN rA.1 (bo .i64 (rA.1+1))) λux=>
 some ((⟨ux⟩:au),0)
def iK (w:ah):Option (Unit×ah):=bd (oN w.r.Shelf w.o.Path w.o.Version) λrA=>
 bd (cP (⟨(⟨rA.1,w.r.aY,w.r.aX,w.r.Seen⟩:aj),w.o,(⟨w.x.Client,w.x.Seq,rA.2,w.x.Value,w.x.Version,w.x.Names⟩:ae),w.l⟩:ah) 3) λaZ=>
 some ((),aZ.2)
def pR (p:List UInt8):Option ((List (List UInt8))×Int):=bd (gG p) λrA=>
 if !rA.2 then
 some (([]:List (List UInt8)),13)
 else
 some (rA.1,0)
def sa (a:au)(a1:List UInt8)(rA:Int×Int)(aZ:(List (List UInt8))×Int)(st:(List (List UInt8))×Int):Option (((List (List UInt8))×Int)⊕(List (List UInt8))):=if st.2<((IN (sh (bo .i64 (rA.1+1))) (IT (sh (a.L.length:Int)) a.L)).length:Int) then
 ix (IN (sh (bo .i64 (rA.1+1))) (IT (sh (a.L.length:Int)) a.L)) st.2 λy=>
 bd (nG a1 y.Path) λdN=>
 if !dN then
 some (.inr st.1)
 else
 bd (pR y.Path) λux=>
 bd (if (ux.1.length:Int)=(bo .i64 ((aZ.1.length:Int)+1)) then
  ix ux.1 (aZ.1.length:Int) λy1=>
  if (st.1.length+([y1]:List (List UInt8)).length) *16<=2^46 then
  some (st.1++([y1]:List (List UInt8)))
  else none
  else
  some st.1:Option (List (List UInt8))) λw1=>
 some (.inl (w1,bo .i64 (st.2+1)))
 else
 some (.inr st.1)
def tk (a:au)(a1:List UInt8):Option ((List (List UInt8))×Int):=bd (fD a a1) λrA=>
 if !decide (rA.2=0) then
 some (([]:List (List UInt8)),rA.2)
 else
 bd (pR a1) λaZ=>
 if (0:Int)<=(bo .i64 (rA.1+1))/\(bo .i64 (rA.1+1))<=(a.L.length:Int)/\(a.L.length:Int)<=(a.L.length:Int) then
 bd (Loop (sa a a1 rA aZ) (([]:List (List UInt8)),0)) λw=>
 some (w,0)
 else none
def kv (w:ah):Option (Unit×ah):=bd (tk w.r.Shelf w.o.Path) λrA=>some ((),(⟨w.r,w.o,(⟨w.x.Client,w.x.Seq,rA.2,w.x.Value,w.x.Version,rA.1⟩:ae),w.l⟩:ah))
def tl (b:aw)(id:Int)(span:Int):Option (aw×Int):=bd (dw b id) λrA=>
 bd (if id<1 then
  some true
  else
  if span<1 then
  some true
  else
  some (decide ((1000:Int)<span)):Option Bool) λw=>
 if w then
 some (b,1)
 else
 if rA.2 then
 some (b,7)
 else
 if (50:Int)<=(b.L.length:Int) then
 some (b,9)
 else
 bd (j8 24 b.L) λaZ=>
 bd (rZ 24 aZ rA.1 ([(⟨id,span,bo .i64 (b.eG+span)⟩:aq)]:List aq)) λdN=>
 some ((⟨b.eG,dN⟩:aw),0)
def kw (w:ah):Option (Unit×ah):=bd (tl w.r.aY w.o.Session w.o.Span) λrA=>some ((),(⟨(⟨w.r.Shelf,rA.1,w.r.aX,w.r.Seen⟩:aj),w.o,(⟨w.x.Client,w.x.Seq,rA.2,w.x.Value,w.x.Version,w.x.Names⟩:ae),w.l⟩:ah))
def qU (b:aw)(id:Int):Option (aw×Int):=bd (dw b id) λrA=>
 if !rA.2 then
 some (b,14)
 else
 bd (j8 24 b.L) λaZ=>
 ix aZ rA.1 λy=>
 ix aZ rA.1 λy1=>
 some ((⟨b.eG,aZ.set (sh rA.1) (⟨y1.Id,y1.Span,bo .i64 (b.eG+y.Span)⟩:aq)⟩:aw),0)
def jE (w:ah):Option (Unit×ah):=bd (qU w.r.aY w.o.Session) λrA=>some ((),(⟨(⟨w.r.Shelf,rA.1,w.r.aX,w.r.Seen⟩:aj),w.o,(⟨w.x.Client,w.x.Seq,rA.2,w.x.Value,w.x.Version,w.x.Names⟩:ae),w.l⟩:ah))
def qV (b:aw)(id:Int):Option (aw×Int):=bd (dw b id) λrA=>
 if !rA.2 then
 some (b,14)
 else
 bd (j8 24 b.L) λaZ=>
 bd (Bi aZ rA.1 (bo .i64 (rA.1+1))) λdN=>
 some ((⟨b.eG,dN⟩:aw),0)
abbrev adc:=(List (List UInt8))×(List aa)×Int
def oO (sA:au)(owner:Int)(st:adc):Option ((adc)⊕((List (List UInt8))×(List aa))):=if st.2.2<(sA.L.length:Int) then
 ix sA.L st.2.2 λy=>
 bd (if (0:Int)<owner then
  some (decide (y.cm=owner))
  else
  some false:Option Bool) λw1=>
 if w1 then
 if (st.1.length+([y.Path]:List (List UInt8)).length) *16<=2^46 then
 some (.inl (st.1++([y.Path]:List (List UInt8)),st.2.1,bo .i64 (st.2.2+1)))
 else none
 else
 if (st.2.1.length+([y]:List aa).length) *48<=2^46 then
 some (.inl (st.1,st.2.1++([y]:List aa),bo .i64 (st.2.2+1)))
 else none
 else
 some (.inr (st.1,st.2.1))
def tp (sA:au)(owner:Int):Option (au×(List (List UInt8))):=bd (Loop (oO sA owner) (([]:List (List UInt8)),([]:List aa),0)) λw=>some ((⟨w.2⟩:au),w.1)
abbrev aaW:=Int×(List aa)×Int×(List aq)×(List ak)×(List ae)×Int×Int×Int×(List UInt8)×(List UInt8)×Int×Int×Int×Int×Int×Int×(List UInt8)×Int×(List (List UInt8))×(List ay)
def iL (rA:au×(List (List UInt8)))(st:aaW):Option ((aaW)⊕(aaV)):=if st.1<(rA.2.length:Int) then
 ix rA.2 st.1 λy=>
 if (st.2.2.2.2.2.2.2.2.2.2.2.2.2.2.2.2.2.2.2.2.length+([(⟨3,y⟩:ay)]:List ay).length) *24<=2^46 then
 some (.inl (bo .i64 (st.1+1),st.2.1,st.2.2.1,st.2.2.2.1,st.2.2.2.2.1,st.2.2.2.2.2.1,st.2.2.2.2.2.2.1,st.2.2.2.2.2.2.2.1,st.2.2.2.2.2.2.2.2.1,st.2.2.2.2.2.2.2.2.2.1,st.2.2.2.2.2.2.2.2.2.2.1,st.2.2.2.2.2.2.2.2.2.2.2.1,st.2.2.2.2.2.2.2.2.2.2.2.2.1,st.2.2.2.2.2.2.2.2.2.2.2.2.2.1,st.2.2.2.2.2.2.2.2.2.2.2.2.2.2.1,st.2.2.2.2.2.2.2.2.2.2.2.2.2.2.2.1,st.2.2.2.2.2.2.2.2.2.2.2.2.2.2.2.2.1,st.2.2.2.2.2.2.2.2.2.2.2.2.2.2.2.2.2.1,st.2.2.2.2.2.2.2.2.2.2.2.2.2.2.2.2.2.2.1,st.2.2.2.2.2.2.2.2.2.2.2.2.2.2.2.2.2.2.2.1,st.2.2.2.2.2.2.2.2.2.2.2.2.2.2.2.2.2.2.2.2++([(⟨3,y⟩:ay)]:List ay)))
 else none
 else
 some (.inr (st.2.1,st.2.2.1,st.2.2.2.1,st.2.2.2.2.1,st.2.2.2.2.2.1,st.2.2.2.2.2.2.1,st.2.2.2.2.2.2.2.1,st.2.2.2.2.2.2.2.2.1,st.2.2.2.2.2.2.2.2.2.1,st.2.2.2.2.2.2.2.2.2.2.1,st.2.2.2.2.2.2.2.2.2.2.2.1,st.2.2.2.2.2.2.2.2.2.2.2.2.1,st.2.2.2.2.2.2.2.2.2.2.2.2.2.1,st.2.2.2.2.2.2.2.2.2.2.2.2.2.2.1,st.2.2.2.2.2.2.2.2.2.2.2.2.2.2.2.1,st.2.2.2.2.2.2.2.2.2.2.2.2.2.2.2.2.1,st.2.2.2.2.2.2.2.2.2.2.2.2.2.2.2.2.2.1,st.2.2.2.2.2.2.2.2.2.2.2.2.2.2.2.2.2.2.1,st.2.2.2.2.2.2.2.2.2.2.2.2.2.2.2.2.2.2.2.1,st.2.2.2.2.2.2.2.2.2.2.2.2.2.2.2.2.2.2.2.2))
def iz (w:ah)(id:Int):Option (Unit×ah):=bd (tp w.r.Shelf id) λrA=>
 bd (Loop (iL rA) (0,rA.1.L,w.r.aY.eG,w.r.aY.L,w.r.aX.L,w.r.Seen,w.o.Client,w.o.Seq,w.o.Kind,w.o.Path,w.o.Value,w.o.Version,w.o.Session,w.o.Span,w.x.Client,w.x.Seq,w.x.E,w.x.Value,w.x.Version,w.x.Names,w.l)) λw1=>
 some ((),(⟨(⟨(⟨w1.1⟩:au),(⟨w1.2.1,w1.2.2.1⟩:aw),(⟨w1.2.2.2.1⟩:aV),w1.2.2.2.2.1⟩:aj),(⟨w1.2.2.2.2.2.1,w1.2.2.2.2.2.2.1,w1.2.2.2.2.2.2.2.1,w1.2.2.2.2.2.2.2.2.1,w1.2.2.2.2.2.2.2.2.2.1,w1.2.2.2.2.2.2.2.2.2.2.1,w1.2.2.2.2.2.2.2.2.2.2.2.1,w1.2.2.2.2.2.2.2.2.2.2.2.2.1⟩:ab),(⟨w1.2.2.2.2.2.2.2.2.2.2.2.2.2.1,w1.2.2.2.2.2.2.2.2.2.2.2.2.2.2.1,w1.2.2.2.2.2.2.2.2.2.2.2.2.2.2.2.1,w1.2.2.2.2.2.2.2.2.2.2.2.2.2.2.2.2.1,w1.2.2.2.2.2.2.2.2.2.2.2.2.2.2.2.2.2.1,w1.2.2.2.2.2.2.2.2.2.2.2.2.2.2.2.2.2.2.1⟩:ae),w1.2.2.2.2.2.2.2.2.2.2.2.2.2.2.2.2.2.2.2⟩:ah))
def jF (w:ah):Option (Unit×ah):=bd (qV w.r.aY w.o.Session) λrA=>
 bd (if rA.2=0 then
  bd (iz (⟨(⟨w.r.Shelf,rA.1,w.r.aX,w.r.Seen⟩:aj),w.o,(⟨w.x.Client,w.x.Seq,rA.2,w.x.Value,w.x.Version,w.x.Names⟩:ae),w.l⟩:ah) w.o.Session) λaZ=>
  some (aZ.2.r.Shelf.L,aZ.2.r.aY.eG,aZ.2.r.aY.L,aZ.2.r.aX.L,aZ.2.r.Seen,aZ.2.o.Client,aZ.2.o.Seq,aZ.2.o.Kind,aZ.2.o.Path,aZ.2.o.Value,aZ.2.o.Version,aZ.2.o.Session,aZ.2.o.Span,aZ.2.x.Client,aZ.2.x.Seq,aZ.2.x.E,aZ.2.x.Value,aZ.2.x.Version,aZ.2.x.Names,aZ.2.l)
  else
  some (w.r.Shelf.L,rA.1.eG,rA.1.L,w.r.aX.L,w.r.Seen,w.o.Client,w.o.Seq,w.o.Kind,w.o.Path,w.o.Value,w.o.Version,w.o.Session,w.o.Span,w.x.Client,w.x.Seq,rA.2,w.x.Value,w.x.Version,w.x.Names,w.l):Option (aaV)) λw1=>
 some ((),(⟨(⟨(⟨w1.1⟩:au),(⟨w1.2.1,w1.2.2.1⟩:aw),(⟨w1.2.2.2.1⟩:aV),w1.2.2.2.2.1⟩:aj),(⟨w1.2.2.2.2.2.1,w1.2.2.2.2.2.2.1,w1.2.2.2.2.2.2.2.1,w1.2.2.2.2.2.2.2.2.1,w1.2.2.2.2.2.2.2.2.2.1,w1.2.2.2.2.2.2.2.2.2.2.1,w1.2.2.2.2.2.2.2.2.2.2.2.1,w1.2.2.2.2.2.2.2.2.2.2.2.2.1⟩:ab),(⟨w1.2.2.2.2.2.2.2.2.2.2.2.2.2.1,w1.2.2.2.2.2.2.2.2.2.2.2.2.2.2.1,w1.2.2.2.2.2.2.2.2.2.2.2.2.2.2.2.1,w1.2.2.2.2.2.2.2.2.2.2.2.2.2.2.2.2.1,w1.2.2.2.2.2.2.2.2.2.2.2.2.2.2.2.2.2.1,w1.2.2.2.2.2.2.2.2.2.2.2.2.2.2.2.2.2.2.1⟩:ae),w1.2.2.2.2.2.2.2.2.2.2.2.2.2.2.2.2.2.2.2⟩:ah))
abbrev adn:=(List Int)×Int×(List aq)×Int
def sb (b:aw)(now:Int)(st:adn):Option ((adn)⊕((List Int)×Int×(List aq))):=if st.2.2.2<(b.L.length:Int) then
 ix b.L st.2.2.2 λy=>
 if y.ek<=now then
 if (st.1.length+([y.Id]:List Int).length) *8<=2^46 then
 some (.inl (st.1++([y.Id]:List Int),st.2.1,st.2.2.1,bo .i64 (st.2.2.2+1)))
 else none
 else
 if (st.2.2.1.length+([y]:List aq).length) *24<=2^46 then
 some (.inl (st.1,st.2.1,st.2.2.1++([y]:List aq),bo .i64 (st.2.2.2+1)))
 else none
 else
 some (.inr (st.1,st.2.1,st.2.2.1))
abbrev adY:=aw×(List Int)×Int
def tq (b:aw)(now:Int):Option (adY):=if now<b.eG then
 some (b,([]:List Int),15)
 else
 if (1000000000:Int)<now then
 some (b,([]:List Int),5)
 else
 bd (Loop (sb b now) (([]:List Int),now,([]:List aq),0)) λw=>
 some ((⟨w.2.1,w.2.2⟩:aw),w.1,0)
def iM (rA:adY)(st:aaW):Option ((aaW)⊕(aaV)):=if st.1<(rA.2.1.length:Int) then
 ix rA.2.1 st.1 λy=>
 bd (iz (⟨(⟨(⟨st.2.1⟩:au),(⟨st.2.2.1,st.2.2.2.1⟩:aw),(⟨st.2.2.2.2.1⟩:aV),st.2.2.2.2.2.1⟩:aj),(⟨st.2.2.2.2.2.2.1,st.2.2.2.2.2.2.2.1,st.2.2.2.2.2.2.2.2.1,st.2.2.2.2.2.2.2.2.2.1,st.2.2.2.2.2.2.2.2.2.2.1,st.2.2.2.2.2.2.2.2.2.2.2.1,st.2.2.2.2.2.2.2.2.2.2.2.2.1,st.2.2.2.2.2.2.2.2.2.2.2.2.2.1⟩:ab),(⟨st.2.2.2.2.2.2.2.2.2.2.2.2.2.2.1,st.2.2.2.2.2.2.2.2.2.2.2.2.2.2.2.1,st.2.2.2.2.2.2.2.2.2.2.2.2.2.2.2.2.1,st.2.2.2.2.2.2.2.2.2.2.2.2.2.2.2.2.2.1,st.2.2.2.2.2.2.2.2.2.2.2.2.2.2.2.2.2.2.1,st.2.2.2.2.2.2.2.2.2.2.2.2.2.2.2.2.2.2.2.1⟩:ae),st.2.2.2.2.2.2.2.2.2.2.2.2.2.2.2.2.2.2.2.2⟩:ah) y) λaZ=>
 some (.inl (bo .i64 (st.1+1),aZ.2.r.Shelf.L,aZ.2.r.aY.eG,aZ.2.r.aY.L,aZ.2.r.aX.L,aZ.2.r.Seen,aZ.2.o.Client,aZ.2.o.Seq,aZ.2.o.Kind,aZ.2.o.Path,aZ.2.o.Value,aZ.2.o.Version,aZ.2.o.Session,aZ.2.o.Span,aZ.2.x.Client,aZ.2.x.Seq,aZ.2.x.E,aZ.2.x.Value,aZ.2.x.Version,aZ.2.x.Names,aZ.2.l))
 else
 some (.inr (st.2.1,st.2.2.1,st.2.2.2.1,st.2.2.2.2.1,st.2.2.2.2.2.1,st.2.2.2.2.2.2.1,st.2.2.2.2.2.2.2.1,st.2.2.2.2.2.2.2.2.1,st.2.2.2.2.2.2.2.2.2.1,st.2.2.2.2.2.2.2.2.2.2.1,st.2.2.2.2.2.2.2.2.2.2.2.1,st.2.2.2.2.2.2.2.2.2.2.2.2.1,st.2.2.2.2.2.2.2.2.2.2.2.2.2.1,st.2.2.2.2.2.2.2.2.2.2.2.2.2.2.1,st.2.2.2.2.2.2.2.2.2.2.2.2.2.2.2.1,st.2.2.2.2.2.2.2.2.2.2.2.2.2.2.2.2.1,st.2.2.2.2.2.2.2.2.2.2.2.2.2.2.2.2.2.1,st.2.2.2.2.2.2.2.2.2.2.2.2.2.2.2.2.2.2.1,st.2.2.2.2.2.2.2.2.2.2.2.2.2.2.2.2.2.2.2.1,st.2.2.2.2.2.2.2.2.2.2.2.2.2.2.2.2.2.2.2.2))
def kz (w:ah):Option (Unit×ah):=bd (tq w.r.aY w.o.Span) λrA=>
 if !decide (rA.2.2=0) then
 some ((),(⟨w.r,w.o,(⟨w.x.Client,w.x.Seq,rA.2.2,w.x.Value,w.x.Version,w.x.Names⟩:ae),w.l⟩:ah))
 else
 bd (Loop (iM rA) (0,w.r.Shelf.L,rA.1.eG,rA.1.L,w.r.aX.L,w.r.Seen,w.o.Client,w.o.Seq,w.o.Kind,w.o.Path,w.o.Value,w.o.Version,w.o.Session,w.o.Span,w.x.Client,w.x.Seq,rA.2.2,w.x.Value,rA.1.eG,w.x.Names,w.l)) λw1=>
 some ((),(⟨(⟨(⟨w1.1⟩:au),(⟨w1.2.1,w1.2.2.1⟩:aw),(⟨w1.2.2.2.1⟩:aV),w1.2.2.2.2.1⟩:aj),(⟨w1.2.2.2.2.2.1,w1.2.2.2.2.2.2.1,w1.2.2.2.2.2.2.2.1,w1.2.2.2.2.2.2.2.2.1,w1.2.2.2.2.2.2.2.2.2.1,w1.2.2.2.2.2.2.2.2.2.2.1,w1.2.2.2.2.2.2.2.2.2.2.2.1,w1.2.2.2.2.2.2.2.2.2.2.2.2.1⟩:ab),(⟨w1.2.2.2.2.2.2.2.2.2.2.2.2.2.1,w1.2.2.2.2.2.2.2.2.2.2.2.2.2.2.1,w1.2.2.2.2.2.2.2.2.2.2.2.2.2.2.2.1,w1.2.2.2.2.2.2.2.2.2.2.2.2.2.2.2.2.1,w1.2.2.2.2.2.2.2.2.2.2.2.2.2.2.2.2.2.1,w1.2.2.2.2.2.2.2.2.2.2.2.2.2.2.2.2.2.2.1⟩:ae),w1.2.2.2.2.2.2.2.2.2.2.2.2.2.2.2.2.2.2.2⟩:ah))
def eS (sA:List ak)(v:ak)(st:Int):Option (Int⊕(Unit⊕Int)):=if st<(sA.length:Int) then
 ix sA st λy=>
 if ((decide (v.Path=y.Path))&&((decide (v.Client=y.Client))&&(decide (v.Kids=y.Kids)))) then
 some (.inr (.inr st))
 else
 some (.inl (bo .i64 (st+1)))
 else
 some (.inr (.inl ()))
def fZ (sA:List ak)(v:ak):Option Int:=bd (Loop (eS sA v) 0) λw=>
 match w with
 | .inl p1=>some (-1)
 | .inr p2=>some p2
def cX (sA:List ak)(v:ak):Option Bool:=bd (fZ sA v) λrA=>some (decide ((0:Int)<=rA))
def sD (t:aV)(w:ak):Option (aV×Int):=bd (ka w.Path) λrA=>
 if !rA then
 some (t,13)
 else
 if w.Client<0 then
 some (t,1)
 else
 bd (cX t.L w) λaZ=>
 if aZ then
 some (t,0)
 else
 if (200:Int)<=(t.L.length:Int) then
 some (t,9)
 else
 bd (j8 32 t.L) λdN=>
 if (dN.length+([w]:List ak).length) *32<=2^46 then
 some ((⟨dN++([w]:List ak)⟩:aV),0)
 else none
def jG (w:ah):Option (Unit×ah):=bd (sD w.r.aX (⟨w.o.Path,w.o.Client,decide (w.o.Kind=11)⟩:ak)) λrA=>some ((),(⟨(⟨w.r.Shelf,w.r.aY,rA.1,w.r.Seen⟩:aj),w.o,(⟨w.x.Client,w.x.Seq,rA.2,w.x.Value,w.x.Version,w.x.Names⟩:ae),w.l⟩:ah))
def tt:Option (List Nat):=some ([(129:Nat),(130:Nat),(131:Nat),(132:Nat),(133:Nat),(134:Nat),(135:Nat),(136:Nat),(137:Nat),(138:Nat),(139:Nat),(139:Nat)]:List Nat)
def mU (c:ay)(w:ak):Option Bool:=bd (if c.Kind<1 then
  some true
  else
  if (3:Int)<c.Kind then
  some true
  else
  bd (ka c.Path) λrA=>
  some (!rA):Option Bool) λw1=>
 if w1 then
 some false
 else
 if !w.Kids then
 some (decide (c.Path=w.Path))
 else
 bd (nV c.Path) λaZ=>
 bd (if aZ.2=0 then
  if !decide (c.Kind=2) then
  some (decide (aZ.1=w.Path))
  else
  some false
  else
  some false:Option Bool) λw2=>
 some w2
def my (w:ak)(c:ay)(c1:List aT):Option (Bool×(List aT)):=bd (mU c w) λrA=>
 bd (if rA then
  if (c1.length+([(⟨w,c⟩:aT)]:List aT).length) *56<=2^46 then
  some (c1++([(⟨w,c⟩:aT)]:List aT))
  else none
  else
  some c1:Option (List aT)) λw1=>
 some (rA,w1)
def oP (lA:List ay)(st:(List ak)×(List aT)×Int):Option (((List ak)×(List aT)×Int)⊕((List ak)×(List aT))):=if st.2.2<(lA.length:Int) then
 ix lA st.2.2 λy=>
 bd (Et (λu sA=>my u y sA) st.2.1 st.1) λaZ=>
 some (.inl (aZ.1,aZ.2,bo .i64 (st.2.2+1)))
 else
 some (.inr (st.1,st.2.1))
def tu (t:aV)(lA:List ay):Option (aV×(List aT)):=bd (j8 32 t.L) λrA=>
 bd (Loop (oP lA) (rA,([]:List aT),0)) λw=>
 some ((⟨w.1⟩:aV),w.2)
def qv (k:Nat)(x0:ah):Option (Unit×ah):=if k=129 then nF x0 else if k=130 then iJ x0 else if k=131 then lO x0 else if k=132 then lP x0 else if k=133 then iK x0 else if k=134 then kv x0 else if k=135 then kw x0 else if k=136 then jE x0 else if k=137 then jF x0 else if k=138 then kz x0 else if k=139 then jG x0 else none
def qW (a:aj)(a1:ab):Option (aj×ae×(List aT)):=bd (jD a a1) λrA=>
 if rA.2 then
 some (a,rA.1,([]:List aT))
 else
 bd (tt) λaZ=>
 ix aZ a1.Kind λy=>
 bd (qv y (⟨a,a1,rA.1,([]:List ay)⟩:ah)) λdN=>
 bd (tu dN.2.r.aX dN.2.l) λux=>
 bd (j8 72 a.Seen) λMt=>
 bd (eH a a1.Client) λPK=>
 bd (if PK.2 then
  ix Mt PK.1 λy1=>
  some (dN.2.r.Shelf.L,dN.2.r.aY.eG,dN.2.r.aY.L,ux.1.L,Mt.set (sh PK.1) dN.2.x,dN.2.o.Client,dN.2.o.Seq,dN.2.o.Kind,dN.2.o.Path,dN.2.o.Value,dN.2.o.Version,dN.2.o.Session,dN.2.o.Span,dN.2.x.Client,dN.2.x.Seq,dN.2.x.E,dN.2.x.Value,dN.2.x.Version,dN.2.x.Names,dN.2.l)
  else
  bd (rZ 72 Mt PK.1 ([dN.2.x]:List ae)) λDK=>
  some (dN.2.r.Shelf.L,dN.2.r.aY.eG,dN.2.r.aY.L,ux.1.L,DK,dN.2.o.Client,dN.2.o.Seq,dN.2.o.Kind,dN.2.o.Path,dN.2.o.Value,dN.2.o.Version,dN.2.o.Session,dN.2.o.Span,dN.2.x.Client,dN.2.x.Seq,dN.2.x.E,dN.2.x.Value,dN.2.x.Version,dN.2.x.Names,dN.2.l):Option (aaV)) λw=>
 some ((⟨(⟨w.1⟩:au),(⟨w.2.1,w.2.2.1⟩:aw),(⟨w.2.2.2.1⟩:aV),w.2.2.2.2.1⟩:aj),(⟨w.2.2.2.2.2.2.2.2.2.2.2.2.2.1,w.2.2.2.2.2.2.2.2.2.2.2.2.2.2.1,w.2.2.2.2.2.2.2.2.2.2.2.2.2.2.2.1,w.2.2.2.2.2.2.2.2.2.2.2.2.2.2.2.2.1,w.2.2.2.2.2.2.2.2.2.2.2.2.2.2.2.2.2.1,w.2.2.2.2.2.2.2.2.2.2.2.2.2.2.2.2.2.2.1⟩:ae),ux.2)
abbrev abs:=(List aa)×Int×(List aq)×(List ak)×(List ae)×(List ae)×(List aT)×Int
def oQ (lA:List ab)(st:abs):Option ((abs)⊕((List aa)×Int×(List aq)×(List ak)×(List ae)×(List ae)×(List aT))):=if st.2.2.2.2.2.2.2<(lA.length:Int) then
 ix lA st.2.2.2.2.2.2.2 λy=>
 bd (qW (⟨(⟨st.1⟩:au),(⟨st.2.1,st.2.2.1⟩:aw),(⟨st.2.2.2.1⟩:aV),st.2.2.2.2.1⟩:aj) y) λDK=>
 if (st.2.2.2.2.2.1.length+([DK.2.1]:List ae).length) *72<=2^46 then
 if (st.2.2.2.2.2.2.1.length+DK.2.2.length) *56<=2^46 then
 some (.inl (DK.1.Shelf.L,DK.1.aY.eG,DK.1.aY.L,DK.1.aX.L,DK.1.Seen,st.2.2.2.2.2.1++([DK.2.1]:List ae),st.2.2.2.2.2.2.1++DK.2.2,bo .i64 (st.2.2.2.2.2.2.2+1)))
 else none
 else none
 else
 some (.inr (st.1,st.2.1,st.2.2.1,st.2.2.2.1,st.2.2.2.2.1,st.2.2.2.2.2.1,st.2.2.2.2.2.2.1))
def xS (rA:aj)(lA:List ab):Option (aj×(List ae)×(List aT)):=bd (Loop (oQ lA) (rA.Shelf.L,rA.aY.eG,rA.aY.L,rA.aX.L,rA.Seen,([]:List ae),([]:List aT),0)) λw=>some ((⟨(⟨w.1⟩:au),(⟨w.2.1,w.2.2.1⟩:aw),(⟨w.2.2.2.1⟩:aV),w.2.2.2.2.1⟩:aj),w.2.2.2.2.2.1,w.2.2.2.2.2.2)
def dj (rA:aj)(sA:List UInt8):Option (aj×(List ae)×Int):=bd (dv sA) λaZ=>
 if !decide (aZ.2=0) then
 some (rA,([]:List ae),aZ.2)
 else
 bd (xS rA aZ.1) λdN=>
 some (dN.1,dN.2.1,0)
abbrev abc:=(List aa)×Int×(List aq)×(List ak)×(List ae)×Int
abbrev act:=(List aa)×Int×(List aq)×(List ak)×(List ae)
def lR (lA:List (List UInt8))(st:abc):Option ((abc)⊕(act)):=if st.2.2.2.2.2<(lA.length:Int) then
 ix lA st.2.2.2.2.2 λy=>
 bd (dj (⟨(⟨st.1⟩:au),(⟨st.2.1,st.2.2.1⟩:aw),(⟨st.2.2.2.1⟩:aV),st.2.2.2.2.1⟩:aj) y) λDK=>
 some (.inl (DK.1.Shelf.L,DK.1.aY.eG,DK.1.aY.L,DK.1.aX.L,DK.1.Seen,bo .i64 (st.2.2.2.2.2+1)))
 else
 some (.inr (st.1,st.2.1,st.2.2.1,st.2.2.2.1,st.2.2.2.2.1))
def kb (lA:List (List UInt8)):Option aj:=bd (Bm) λrA=>
 bd (Loop (lR lA) (rA.Shelf.L,rA.aY.eG,rA.aY.L,rA.aX.L,rA.Seen,0)) λw=>
 some (⟨(⟨w.1⟩:au),(⟨w.2.1,w.2.2.1⟩:aw),(⟨w.2.2.2.1⟩:aV),w.2.2.2.2⟩:aj)
def jH (s1:List aa)(s2:List aa)(st:Int):Option (Int⊕(Unit⊕Bool)):=if st<(s1.length:Int) then
 ix s1 st λy=>
 ix s2 st λy1=>
 if !((decide (y.Path=y1.Path))&&((decide (y.Value=y1.Value))&&((decide (y.Version=y1.Version))&&(decide (y.cm=y1.cm))))) then
 some (.inr (.inr false))
 else
 some (.inl (bo .i64 (st+1)))
 else
 some (.inr (.inl ()))
def ib (s1:List aa)(s2:List aa):Option Bool:=if !decide ((s1.length:Int)=(s2.length:Int)) then
 some false
 else
 bd (Loop (jH s1 s2) 0) λw=>
 match w with
 | .inl p1=>some true
 | .inr p2=>some p2
def tw (a:au)(b:au):Option Bool:=bd (ib a.L b.L) λrA=>some rA
def dU (s1:List aq)(s2:List aq)(st:Int):Option (Int⊕(Unit⊕Bool)):=if st<(s1.length:Int) then
 ix s1 st λy=>
 ix s2 st λy1=>
 if !((decide (y.Id=y1.Id))&&((decide (y.Span=y1.Span))&&(decide (y.ek=y1.ek)))) then
 some (.inr (.inr false))
 else
 some (.inl (bo .i64 (st+1)))
 else
 some (.inr (.inl ()))
def dp (s1:List aq)(s2:List aq):Option Bool:=if !decide ((s1.length:Int)=(s2.length:Int)) then
 some false
 else
 bd (Loop (dU s1 s2) 0) λw=>
 match w with
 | .inl p1=>some true
 | .inr p2=>some p2
def tz (a:aw)(b:aw):Option Bool:=bd (if a.eG=b.eG then
  bd (dp a.L b.L) λrA=>
  some rA
  else
  some false:Option Bool) λw=>
 some w
def eT (s1:List ak)(s2:List ak)(st:Int):Option (Int⊕(Unit⊕Bool)):=if st<(s1.length:Int) then
 ix s1 st λy=>
 ix s2 st λy1=>
 if !((decide (y.Path=y1.Path))&&((decide (y.Client=y1.Client))&&(decide (y.Kids=y1.Kids)))) then
 some (.inr (.inr false))
 else
 some (.inl (bo .i64 (st+1)))
 else
 some (.inr (.inl ()))
def dV (s1:List ak)(s2:List ak):Option Bool:=if !decide ((s1.length:Int)=(s2.length:Int)) then
 some false
 else
 bd (Loop (eT s1 s2) 0) λw=>
 match w with
 | .inl p1=>some true
 | .inr p2=>some p2
def tA (a:aV)(b:aV):Option Bool:=bd (dV a.L b.L) λrA=>some rA
def lS (a:ae)(b:ae):Option Bool:=bd (if a.Client=b.Client then
  if a.Seq=b.Seq then
  if a.E=b.E then
  if a.Value=b.Value then
  if a.Version=b.Version then
  bd (eJ a.Names b.Names) λrA=>
  some rA
  else
  some false
  else
  some false
  else
  some false
  else
  some false
  else
  some false:Option Bool) λw=>
 some w
def bj (s1:List ae)(s2:List ae)(eq:ae->ae->Option Bool)(st:Int):Option (Int⊕(Unit⊕Bool)):=if st<(s1.length:Int) then
 ix s1 st λy=>
 ix s2 st λy1=>
 bd (eq y y1) λrA=>
 if !rA then
 some (.inr (.inr false))
 else
 some (.inl (bo .i64 (st+1)))
 else
 some (.inr (.inl ()))
def bp (s1:List ae)(s2:List ae)(eq:ae->ae->Option Bool):Option Bool:=if !decide ((s1.length:Int)=(s2.length:Int)) then
 some false
 else
 bd (Loop (bj s1 s2 eq) 0) λw=>
 match w with
 | .inl p1=>some true
 | .inr p2=>some p2
def lT (a:aj)(b:aj):Option Bool:=bd (bd (tw a.Shelf b.Shelf) λrA=>
  if rA then
  bd (tz a.aY b.aY) λaZ=>
  if aZ then
  bd (tA a.aX b.aX) λdN=>
  if dN then
  bd (bp a.Seen b.Seen lS) λux=>
  some ux
  else
  some false
  else
  some false
  else
  some false:Option Bool) λw=>
 some w
abbrev acH:=(List (List UInt8))×(List UInt8)×Int
def wN (p:List UInt8)(st:acH):Option ((acH)⊕((List (List UInt8))×(List UInt8))):=if st.2.2<(p.length:Int) then
 if (0:Int)<=st.2.2/\st.2.2<(p.length:Int) then
 bd (if ((p.getD (sh st.2.2) 0).toNat:Int)=47 then
  if (st.1.length+([st.2.1]:List (List UInt8)).length) *16<=2^46 then
  some (st.1++([st.2.1]:List (List UInt8)),([]:List UInt8))
  else none
  else
  if (0:Int)<=st.2.2/\st.2.2<(p.length:Int) then
  HJ ([((p.getD (sh st.2.2) 0).toNat:Int)]:List Int) λbs=>
  if st.2.1.length+bs.length<=2^46 then
  some (st.1,st.2.1++bs)
  else none
  else none:Option ((List (List UInt8))×(List UInt8))) λw2=>
 some (.inl (w2.1,w2.2,bo .i64 (st.2.2+1)))
 else none
 else
 some (.inr (st.1,st.2.1))
def Bn (p:List UInt8):Option ((List (List UInt8))×Bool):=bd (if (p.length:Int)=0 then
  some true
  else
  if (0:Int)<=0/\(0:Int)<(p.length:Int) then
  some (!decide (((p.getD (sh 0) 0).toNat:Int)=47))
  else none:Option Bool) λw=>
 if w then
 some (([]:List (List UInt8)),false)
 else
 if p=([47]:List UInt8) then
 some (([]:List (List UInt8)),true)
 else
 bd (Loop (wN p) (([]:List (List UInt8)),([]:List UInt8),1)) λw1=>
 if (w1.1.length+([w1.2]:List (List UInt8)).length) *16<=2^46 then
 some (w1.1++([w1.2]:List (List UInt8)),true)
 else none
def sd (sA:List UInt8)(st:Int):Option (Int⊕(Unit⊕Bool)):=if st<(sA.length:Int) then
 if (0:Int)<=st/\st<(sA.length:Int) then
 bd (if (97:Int)<=((sA.getD (sh st) 0).toNat:Int) then
  if ((sA.getD (sh st) 0).toNat:Int)<=122 then
  some true
  else
  if (48:Int)<=((sA.getD (sh st) 0).toNat:Int) then
  if ((sA.getD (sh st) 0).toNat:Int)<=57 then
  some true
  else
  if ((sA.getD (sh st) 0).toNat:Int)=45 then
  some true
  else
  some (decide (((sA.getD (sh st) 0).toNat:Int)=95))
  else
  if ((sA.getD (sh st) 0).toNat:Int)=45 then
  some true
  else
  some (decide (((sA.getD (sh st) 0).toNat:Int)=95))
  else
  if (48:Int)<=((sA.getD (sh st) 0).toNat:Int) then
  if ((sA.getD (sh st) 0).toNat:Int)<=57 then
  some true
  else
  if ((sA.getD (sh st) 0).toNat:Int)=45 then
  some true
  else
  some (decide (((sA.getD (sh st) 0).toNat:Int)=95))
  else
  if ((sA.getD (sh st) 0).toNat:Int)=45 then
  some true
  else
  some (decide (((sA.getD (sh st) 0).toNat:Int)=95)):Option Bool) λw1=>
 if !w1 then
 some (.inr (.inr false))
 else
 some (.inl (bo .i64 (st+1)))
 else none
 else
 some (.inr (.inl ()))
def tC (sA:List UInt8):Option Bool:=bd (Loop (sd sA) 0) λw=>
 match w with
 | .inl p1=>
  bd (if (1:Int)<=(sA.length:Int) then
   some (decide ((sA.length:Int)<=30))
   else
   some false:Option Bool) λw2=>
  some w2
 | .inr p2=>some p2
def vj (rA:(List (List UInt8))×Bool)(st:Int):Option (Int⊕(Unit⊕Bool)):=if st<(rA.1.length:Int) then
 ix rA.1 st λy=>
 bd (tC y) λaZ=>
 if !aZ then
 some (.inr (.inr false))
 else
 some (.inl (bo .i64 (st+1)))
 else
 some (.inr (.inl ()))
def nW (p:List UInt8):Option Bool:=if (100:Int)<(p.length:Int) then
 some false
 else
 bd (Bn p) λrA=>
 bd (Loop (vj rA) 0) λw=>
 match w with
 | .inl p3=>
  bd (if rA.2 then
   some (decide ((rA.1.length:Int)<=8))
   else
   some false:Option Bool) λw1=>
  some w1
 | .inr p4=>some p4
def pS (p:List UInt8):Option ((List (List UInt8))×Int):=bd (nW p) λrA=>
 if !rA then
 some (([]:List (List UInt8)),13)
 else
 bd (Bn p) λaZ=>
 some (aZ.1,0)
def vk (rA:(List (List UInt8))×Int)(aZ:(List (List UInt8))×Int)(st:Int):Option (Int⊕(Unit⊕Bool)):=bd (if st<(rA.1.length:Int) then
  some (decide (st<(aZ.1.length:Int)))
  else
  some false:Option Bool) λw2=>
 if w2 then
 ix rA.1 st λy=>
 ix aZ.1 st λy1=>
 if !decide (y=y1) then
 ix rA.1 st λy2=>
 ix aZ.1 st λy3=>
 some (.inr (.inr (aei y2 y3)))
 else
 some (.inl (bo .i64 (st+1)))
 else
 some (.inr (.inl ()))
def wO (p:List UInt8)(q:List UInt8):Option Bool:=bd (pS p) λrA=>
 bd (pS q) λaZ=>
 bd (if !decide (rA.2=0) then
  some true
  else
  some (!decide (aZ.2=0)):Option Bool) λw=>
 if w then
 some false
 else
 bd (Loop (vk rA aZ) 0) λw1=>
 match w1 with
 | .inl p3=>some (decide ((rA.1.length:Int)<(aZ.1.length:Int)))
 | .inr p4=>some p4
def xT (lA:List (List UInt8))(st:(List UInt8)×Int):Option (((List UInt8)×Int)⊕(List UInt8)):=if st.2<(lA.length:Int) then
 if st.1.length+([47]:List UInt8).length<=2^46 then
 ix lA st.2 λy=>
 if (st.1++([47]:List UInt8)).length+y.length<=2^46 then
 some (.inl ((st.1++([47]:List UInt8))++y,bo .i64 (st.2+1)))
 else none
 else none
 else
 some (.inr st.1)
def Am (lA:List (List UInt8)):Option (List UInt8):=bd (Loop (xT lA) (([]:List UInt8),0)) λw=>
 if w=([]:List UInt8) then
 some ([47]:List UInt8)
 else
 some w
def pT (p:List UInt8):Option ((List UInt8)×Int):=bd (pS p) λrA=>
 if !decide (rA.2=0) then
 some (([]:List UInt8),rA.2)
 else
 if (rA.1.length:Int)=0 then
 some (([]:List UInt8),6)
 else
 if (0:Int)<=0/\(0:Int)<=(bo .i64 ((rA.1.length:Int)-1))/\(bo .i64 ((rA.1.length:Int)-1))<=(rA.1.length:Int) then
 bd (Am (IN (sh 0) (IT (sh (bo .i64 ((rA.1.length:Int)-1))) rA.1))) λaZ=>
 some (aZ,0)
 else none
def EA (sA:jy)(p:List UInt8)(st:Int):Option (Int⊕(Unit⊕Int)):=if st<(sA.L.length:Int) then
 ix sA.L st λy=>
 if y.Path=p then
 some (.inr (.inr st))
 else
 some (.inl (bo .i64 (st+1)))
 else
 some (.inr (.inl ()))
def xU (sA:jy)(p:List UInt8):Option Int:=bd (Loop (EA sA p) 0) λw=>
 match w with
 | .inl p3=>some (-1)
 | .inr p4=>some p4
def vl (a:jy)(st:Int):Option (Int⊕(Unit⊕Bool)):=if st<(a.L.length:Int) then
 ix a.L st λy=>
 bd (bd (nW y.Path) λrA=>
  if !rA then
  some true
  else
  if (1000:Int)<(y.Value.length:Int) then
  some true
  else
  if y.Version<0 then
  some true
  else
  if (1000000000:Int)<y.Version then
  some true
  else
  if y.cm<0 then
  some true
  else
  if (0:Int)<st then
  ix a.L (bo .i64 (st-1)) λy1=>
  bd (wO y1.Path y.Path) λaZ=>
  some (!aZ)
  else
  some false:Option Bool) λw2=>
 if w2 then
 some (.inr (.inr false))
 else
 bd (pT y.Path) λdN=>
 if !decide (dN.2=0) then
 if !decide (y.cm=0) then
 some (.inr (.inr false))
 else
 some (.inl (bo .i64 (st+1)))
 else
 bd (xU a dN.1) λux=>
 bd (if ux<0 then
  some true
  else
  ix a.L ux λy2=>
  some (!decide (y2.cm=0)):Option Bool) λw3=>
 if w3 then
 some (.inr (.inr false))
 else
 some (.inl (bo .i64 (st+1)))
 else
 some (.inr (.inl ()))
def wP (a:jy):Option Bool:=bd (if (a.L.length:Int)<1 then
  some true
  else
  some (decide ((200:Int)<(a.L.length:Int))):Option Bool) λw=>
 if w then
 some false
 else
 bd (Loop (vl a) 0) λw1=>
 match w1 with
 | .inl p1=>
  bd (xU a ([47]:List UInt8)) λMt=>
  some (decide (Mt=0))
 | .inr p2=>some p2
def An (a:vh)(st:Int):Option (Int⊕(Unit⊕Bool)):=if st<(a.L.length:Int) then
 ix a.L st λy=>
 bd (if y.Id<1 then
  some true
  else
  if y.Span<1 then
  some true
  else
  if (1000:Int)<y.Span then
  some true
  else
  if y.ek<=a.eG then
  some true
  else
  if (bo .i64 (a.eG+y.Span))<y.ek then
  some true
  else
  if (0:Int)<st then
  ix a.L (bo .i64 (st-1)) λy1=>
  some (decide (y.Id<=y1.Id))
  else
  some false:Option Bool) λw2=>
 if w2 then
 some (.inr (.inr false))
 else
 some (.inl (bo .i64 (st+1)))
 else
 some (.inr (.inl ()))
def wQ (a:vh):Option Bool:=bd (if a.eG<0 then
  some true
  else
  if (1000000000:Int)<a.eG then
  some true
  else
  some (decide ((50:Int)<(a.L.length:Int))):Option Bool) λw=>
 if w then
 some false
 else
 bd (Loop (An a) 0) λw1=>
 match w1 with
 | .inl p1=>some true
 | .inr p2=>some p2
def Bo (lA:List bh)(w:bh)(st:Int):Option (Int⊕(Unit⊕Bool)):=if st<(lA.length:Int) then
 ix lA st λy=>
 if ((decide (y.Path=w.Path))&&((decide (y.Client=w.Client))&&(decide (y.Kids=w.Kids)))) then
 some (.inr (.inr true))
 else
 some (.inl (bo .i64 (st+1)))
 else
 some (.inr (.inl ()))
def xV (lA:List bh)(w:bh):Option Bool:=bd (Loop (Bo lA w) 0) λw1=>
 match w1 with
 | .inl p1=>some false
 | .inr p2=>some p2
def Ao (t:qO)(st:Int):Option (Int⊕(Unit⊕Bool)):=if st<(t.L.length:Int) then
 bd (ix t.L st λy=>
  bd (nW y.Path) λrA=>
  if !rA then
  some true
  else
  ix t.L st λy1=>
  if y1.Client<0 then
  some true
  else
  if (0:Int)<=0/\(0:Int)<=st/\st<=(t.L.length:Int) then
  ix t.L st λy2=>
  bd (xV (IN (sh 0) (IT (sh st) t.L)) y2) λaZ=>
  some aZ
  else none:Option Bool) λw1=>
 if w1 then
 some (.inr (.inr false))
 else
 some (.inl (bo .i64 (st+1)))
 else
 some (.inr (.inl ()))
def wR (t:qO):Option Bool:=bd (Loop (Ao t) 0) λw=>
 match w with
 | .inl p1=>some (decide ((t.L.length:Int)<=200))
 | .inr p2=>some p2
def Ap (a:ox)(st:Int):Option (Int⊕(Unit⊕Bool)):=if st<(a.Seen.length:Int) then
 ix a.Seen st λy=>
 bd (if y.Client<0 then
  some true
  else
  if (1000:Int)<y.Client then
  some true
  else
  if y.Seq<1 then
  some true
  else
  if (0:Int)<st then
  ix a.Seen (bo .i64 (st-1)) λy1=>
  some (decide (y.Client<=y1.Client))
  else
  some false:Option Bool) λw2=>
 if w2 then
 some (.inr (.inr false))
 else
 some (.inl (bo .i64 (st+1)))
 else
 some (.inr (.inl ()))
def pU (a:ox):Option Bool:=bd (bd (wP a.Shelf) λrA=>
  if !rA then
  some true
  else
  bd (wQ a.aY) λaZ=>
  if !aZ then
  some true
  else
  bd (wR a.aX) λdN=>
  if !dN then
  some true
  else
  some (decide ((50:Int)<(a.Seen.length:Int))):Option Bool) λw=>
 if w then
 some false
 else
 bd (Loop (Ap a) 0) λw1=>
 match w1 with
 | .inl p1=>some true
 | .inr p2=>some p2
def EB (x:ae):Option cn:=some (⟨x.Client,x.Seq,x.E,x.Value,x.Version,x.Names⟩:cn)
abbrev aaX:=(List cI)×Int×(List bt)×(List bh)×(List cn)×Int
abbrev abU:=(List cI)×Int×(List bt)×(List bh)×(List cn)
def qX (a:aj)(st:aaX):Option ((aaX)⊕(abU)):=if st.2.2.2.2.2<(a.Seen.length:Int) then
 ix a.Seen st.2.2.2.2.2 λy=>
 bd (EB y) λrA=>
 if (st.2.2.2.2.1.length+([rA]:List cn).length) *72<=2^46 then
 some (.inl (st.1,st.2.1,st.2.2.1,st.2.2.2.1,st.2.2.2.2.1++([rA]:List cn),bo .i64 (st.2.2.2.2.2+1)))
 else none
 else
 some (.inr (st.1,st.2.1,st.2.2.1,st.2.2.2.1,st.2.2.2.2.1))
def qY (a:aj)(cz:aaX):Option ((aaX)⊕(abU)):=if cz.2.2.2.2.2<(a.Shelf.L.length:Int) then
 ix a.Shelf.L cz.2.2.2.2.2 λy1=>
 if (cz.1.length+([(⟨y1.Path,y1.Value,y1.Version,y1.cm⟩:cI)]:List cI).length) *48<=2^46 then
 some (.inl (cz.1++([(⟨y1.Path,y1.Value,y1.Version,y1.cm⟩:cI)]:List cI),cz.2.1,cz.2.2.1,cz.2.2.2.1,cz.2.2.2.2.1,bo .i64 (cz.2.2.2.2.2+1)))
 else none
 else
 some (.inr (cz.1,cz.2.1,cz.2.2.1,cz.2.2.2.1,cz.2.2.2.2.1))
def qZ (a:aj)(cj:aaX):Option ((aaX)⊕(abU)):=if cj.2.2.2.2.2<(a.aY.L.length:Int) then
 ix a.aY.L cj.2.2.2.2.2 λy2=>
 if (cj.2.2.1.length+([(⟨y2.Id,y2.Span,y2.ek⟩:bt)]:List bt).length) *24<=2^46 then
 some (.inl (cj.1,cj.2.1,cj.2.2.1++([(⟨y2.Id,y2.Span,y2.ek⟩:bt)]:List bt),cj.2.2.2.1,cj.2.2.2.2.1,bo .i64 (cj.2.2.2.2.2+1)))
 else none
 else
 some (.inr (cj.1,cj.2.1,cj.2.2.1,cj.2.2.2.1,cj.2.2.2.2.1))
def q0 (a:aj)(jQ:aaX):Option ((aaX)⊕(abU)):=if jQ.2.2.2.2.2<(a.aX.L.length:Int) then
 ix a.aX.L jQ.2.2.2.2.2 λy3=>
 if (jQ.2.2.2.1.length+([(⟨y3.Path,y3.Client,y3.Kids⟩:bh)]:List bh).length) *32<=2^46 then
 some (.inl (jQ.1,jQ.2.1,jQ.2.2.1,jQ.2.2.2.1++([(⟨y3.Path,y3.Client,y3.Kids⟩:bh)]:List bh),jQ.2.2.2.2.1,bo .i64 (jQ.2.2.2.2.2+1)))
 else none
 else
 some (.inr (jQ.1,jQ.2.1,jQ.2.2.1,jQ.2.2.2.1,jQ.2.2.2.2.1))
def pV (a:aj):Option ox:=bd (Loop (qX a) (([]:List cI),a.aY.eG,([]:List bt),([]:List bh),([]:List cn),0)) λw=>
 bd (Loop (qY a) (w.1,w.2.1,w.2.2.1,w.2.2.2.1,w.2.2.2.2,0)) λw1=>
 bd (Loop (qZ a) (w1.1,w1.2.1,w1.2.2.1,w1.2.2.2.1,w1.2.2.2.2,0)) λw2=>
 bd (Loop (q0 a) (w2.1,w2.2.1,w2.2.2.1,w2.2.2.2.1,w2.2.2.2.2,0)) λw3=>
 some (⟨(⟨w3.1⟩:jy),(⟨w3.2.1,w3.2.2.1⟩:vh),(⟨w3.2.2.2.1⟩:qO),w3.2.2.2.2⟩:ox)
def nX:Option Bool:=some true
def kc (a:List (List ab))(st:(List (List UInt8))×Int)(cz:Int):Option (Int⊕(Unit⊕Bool)):=ix a st.2 λy=>
 if cz<(y.length:Int) then
 bd (if cz=6 then
  some true
  else
  ix a st.2 λy1=>
  ix y1 cz λy2=>
  if (300:Int)<(y2.Path.length:Int) then
  some true
  else
  ix a st.2 λy3=>
  ix y3 cz λy4=>
  some (decide ((300:Int)<(y4.Value.length:Int))):Option Bool) λw3=>
 if w3 then
 bd (nX) λaZ=>
 some (.inr (.inr aZ))
 else
 some (.inl (bo .i64 (cz+1)))
 else
 some (.inr (.inl ()))
def ke (a:List (List ab))(st:(List (List UInt8))×Int):Option (((List (List UInt8))×Int)⊕((List (List UInt8))⊕Bool)):=if st.2<(a.length:Int) then
 bd (Loop (kc a st) 0) λw2=>
 match w2 with
 | .inl p2=>
  ix a st.2 λy5=>
  bd (oJ y5) λdN=>
  if (st.1.length+([dN.1]:List (List UInt8)).length) *16<=2^46 then
  some (.inl (st.1++([dN.1]:List (List UInt8)),bo .i64 (st.2+1)))
  else none
 | .inr p3=>some (.inr (.inr p3))
 else
 some (.inr (.inl st.1))
def eK (p4:(List (List UInt8)))(cj:abc):Option ((abc)⊕(act)):=if cj.2.2.2.2.2<(p4.length:Int) then
 ix p4 cj.2.2.2.2.2 λy6=>
 bd (dj (⟨(⟨cj.1⟩:au),(⟨cj.2.1,cj.2.2.1⟩:aw),(⟨cj.2.2.2.1⟩:aV),cj.2.2.2.2.1⟩:aj) y6) λrA7=>
 some (.inl (rA7.1.Shelf.L,rA7.1.aY.eG,rA7.1.aY.L,rA7.1.aX.L,rA7.1.Seen,bo .i64 (cj.2.2.2.2.2+1)))
 else
 some (.inr (cj.1,cj.2.1,cj.2.2.1,cj.2.2.2.1,cj.2.2.2.2.1))
def mz (a:List (List ab))(a1:List UInt8)(a2:Int):Option Bool:=bd (if (12:Int)<(a.length:Int) then
  some true
  else
  some (decide ((1000:Int)<(a1.length:Int))):Option Bool) λw=>
 if w then
 bd (nX) λrA=>
 some rA
 else
 bd (Loop (ke a) (([]:List (List UInt8)),0)) λw1=>
 match w1 with
 | .inl p4=>
  if (0:Int)<=0/\(0:Int)<=(Fh (imax a2 0) (p4.length:Int))/\(Fh (imax a2 0) (p4.length:Int))<=(p4.length:Int) then
  bd (kb (IN (sh 0) (IT (sh (Fh (imax a2 0) (p4.length:Int))) p4))) λux=>
  bd (dv a1) λMt=>
  bd (if !decide (Mt.2=0) then
   bd (dj ux a1) λPK=>
   bd (lT PK.1 ux) λDK=>
   if !DK then
   some (.inl false)
   else
   some (.inr ())
   else
   some (.inr ()):Option (Bool⊕Unit)) λw4=>
  match w4 with
  | .inl p7=>some p7
  | .inr p8=>
   bd (Loop (eK p4) (ux.Shelf.L,ux.aY.eG,ux.aY.L,ux.aX.L,ux.Seen,Fh (imax a2 0) (p4.length:Int))) λw5=>
   bd (bd (nX) λrA8=>
    if rA8 then
    bd (kb p4) λrA9=>
    bd (lT (⟨(⟨w5.1⟩:au),(⟨w5.2.1,w5.2.2.1⟩:aw),(⟨w5.2.2.2.1⟩:aV),w5.2.2.2.2⟩:aj) rA9) λMu=>
    if Mu then
    bd (pV (⟨(⟨w5.1⟩:au),(⟨w5.2.1,w5.2.2.1⟩:aw),(⟨w5.2.2.2.1⟩:aV),w5.2.2.2.2⟩:aj)) λKu=>
    bd (pU Ku) λRZ=>
    some RZ
    else
    some false
    else
    some false:Option Bool) λw6=>
   some w6
  else none
 | .inr p5=>some p5
def jd:fw Tryz.prog (sX Hb):=O7 aaM
def Hk:QK Tryz.prog (sX Hb):=XZ aaM
def oR:Tryz.prog.follows .mixedOrders=true:=aaM
def oIB {R:Type}(k0:IntKind)(l0:List MV)(K:Int->Bool->Option R):Option R:=gC l0 λm0 l1=>gI k0 m0 λx0=>gC l1 λm1 l2=>gB m1 λx1=>gN l2<|K x0 x1
def oII {R:Type}(k0 k1:IntKind)(l0:List MV)(K:Int->Int->Option R):Option R:=gC l0 λm0 l1=>gI k0 m0 λx0=>gC l1 λm1 l2=>gI k1 m1 λx1=>gN l2<|K x0 x1
def aom {R:Type}(k0 k1 k2:IntKind)(l0:List MV)(K:Int->Int->Int->Option R):Option R:=gC l0 λm0 l1=>gI k0 m0 λx0=>gC l1 λm1 l2=>gI k1 m1 λx1=>gC l2 λm2 l3=>gI k2 m2 λx2=>gN l3<|K x0 x1 x2
def WE {R:Type}(k0 k1 k2 k4:IntKind)(l0:List MV)(K:Int->Int->Int->List UInt8->Int->List MV->Option R):Option R:=gC l0 λm0 l1=>gI k0 m0 λx0=>gC l1 λm1 l2=>gI k1 m1 λx1=>gC l2 λm2 l3=>gI k2 m2 λx2=>gC l3 λm3 l4=>gS m3 λx3=>gC l4 λm4 l5=>gI k4 m4 λx4=>gC l5 λm5 l6=>gL m5 λx5=>gN l6<|K x0 x1 x2 x3 x4 x5
def NU {R:Type}(k0 k1 k2 k5 k6 k7:IntKind)(l0:List MV)(K:Int->Int->Int->List UInt8->List UInt8->Int->Int->Int->Option R):Option R:=gC l0 λm0 l1=>gI k0 m0 λx0=>gC l1 λm1 l2=>gI k1 m1 λx1=>gC l2 λm2 l3=>gI k2 m2 λx2=>gC l3 λm3 l4=>gS m3 λx3=>gC l4 λm4 l5=>gS m4 λx4=>gC l5 λm5 l6=>gI k5 m5 λx5=>gC l6 λm6 l7=>gI k6 m6 λx6=>gC l7 λm7 l8=>gI k7 m7 λx7=>gN l8<|K x0 x1 x2 x3 x4 x5 x6 x7
def oIL {R:Type}(k0:IntKind)(l0:List MV)(K:Int->List MV->Option R):Option R:=gC l0 λm0 l1=>gI k0 m0 λx0=>gC l1 λm1 l2=>gL m1 λx1=>gN l2<|K x0 x1
def oLI {R:Type}(k1:IntKind)(l0:List MV)(K:List MV->Int->Option R):Option R:=gC l0 λm0 l1=>gL m0 λx0=>gC l1 λm1 l2=>gI k1 m1 λx1=>gN l2<|K x0 x1
def Aq {R:Type}(k1:IntKind)(l0:List MV)(K:List MV->Int->List MV->List MV->List MV->Option R):Option R:=gC l0 λm0 l1=>gL m0 λx0=>gC l1 λm1 l2=>gI k1 m1 λx1=>gC l2 λm2 l3=>gL m2 λx2=>gC l3 λm3 l4=>gL m3 λx3=>gC l4 λm4 l5=>gL m4 λx4=>gN l5<|K x0 x1 x2 x3 x4
def WG {R:Type}(k1 k5:IntKind)(l0:List MV)(K:List MV->Int->List MV->List MV->List MV->Int->Option R):Option R:=gC l0 λm0 l1=>gL m0 λx0=>gC l1 λm1 l2=>gI k1 m1 λx1=>gC l2 λm2 l3=>gL m2 λx2=>gC l3 λm3 l4=>gL m3 λx3=>gC l4 λm4 l5=>gL m4 λx4=>gC l5 λm5 l6=>gI k5 m5 λx5=>gN l6<|K x0 x1 x2 x3 x4 x5
def kM {R:Type}(k1 k5 k6 k7 k10 k11 k12 k13 k14 k15 k17:IntKind)(l0:List MV)(K:List MV->Int->List MV->List MV->List MV->Int->Int->Int->List UInt8->List UInt8->Int->Int->Int->Int->Int->Int->List UInt8->Int->List MV->List MV->Option R):Option R:=gC l0 λm0 l1=>gL m0 λx0=>gC l1 λm1 l2=>gI k1 m1 λx1=>gC l2 λm2 l3=>gL m2 λx2=>gC l3 λm3 l4=>gL m3 λx3=>gC l4 λm4 l5=>gL m4 λx4=>gC l5 λm5 l6=>gI k5 m5 λx5=>gC l6 λm6 l7=>gI k6 m6 λx6=>gC l7 λm7 l8=>gI k7 m7 λx7=>gC l8 λm8 l9=>gS m8 λx8=>gC l9 λm9 l10=>gS m9 λx9=>gC l10 λm10 l11=>gI k10 m10 λWH=>gC l11 λm11 l12=>gI k11 m11 λx11=>gC l12 λm12 l13=>gI k12 m12 λx12=>gC l13 λm13 l14=>gI k13 m13 λx13=>gC l14 λm14 l15=>gI k14 m14 λx14=>gC l15 λm15 l16=>gI k15 m15 λx15=>gC l16 λm16 l17=>gS m16 λx16=>gC l17 λm17 l18=>gI k17 m17 λx17=>gC l18 λm18 l19=>gL m18 λx18=>gC l19 λm19 l20=>gL m19 λx19=>gN l20<|K x0 x1 x2 x3 x4 x5 x6 x7 x8 x9 WH x11 x12 x13 x14 x15 x16 x17 x18 x19
def aoo {R:Type}(k1:IntKind)(l0:List MV)(K:List UInt8->Int->Bool->Option R):Option R:=gC l0 λm0 l1=>gS m0 λx0=>gC l1 λm1 l2=>gI k1 m1 λx1=>gC l2 λm2 l3=>gB m2 λx2=>gN l3<|K x0 x1 x2
def aij {R:Type}(k2 k3:IntKind)(l0:List MV)(K:List UInt8->List UInt8->Int->Int->Option R):Option R:=gC l0 λm0 l1=>gS m0 λx0=>gC l1 λm1 l2=>gS m1 λx1=>gC l2 λm2 l3=>gI k2 m2 λx2=>gC l3 λm3 l4=>gI k3 m3 λx3=>gN l4<|K x0 x1 x2 x3
abbrev jIL {R:Type}:= @oIL R .i64
abbrev wS {R:Type}:= @NU R .i64 .i64 .i64 .i64 .i64 .i64
abbrev jII {R:Type}:= @oII R .i64 .i64
abbrev vo {R:Type}:= @WE R .i64 .i64 .i64 .i64
abbrev jIB {R:Type}:= @oIB R .i64
abbrev jLI {R:Type}:= @oLI R .i64
abbrev aks {R:Type}:= @aom R .i64 .i64 .i64
abbrev acz {R:Type}:= @aij R .i64 .i64
abbrev aop {R:Type}:= @aoo R .i64
abbrev xW {R:Type}:= @Aq R .i64
abbrev zl {R:Type}:= @kM R .i64 .i64 .i64 .i64 .i64 .i64 .i64 .i64 .i64 .i64 .i64
abbrev Bp {R:Type}:= @WG R .i64 .i64
@[reducible] def iN (x0 : Int)(x1 : Int)(x2 : Int)(x3 : List UInt8)(x4 : Int)(x5 : List MV) : List MV := [.i .i64 x0, .i .i64 x1, .i .i64 x2, .s x3, .i .i64 x4, .list x5]
@[reducible] def dz (x0 : List MV)(x1 : Int)(x2 : List MV)(x3 : List MV)(x4 : List MV) : List MV := [.list x0, .i .i64 x1, .list x2, .list x3, .list x4]
@[reducible] def ga (x0 : List MV)(x1 : Int)(x2 : List MV)(x3 : List MV)(x4 : List MV)(x5 : Int) : List MV := [.list x0, .i .i64 x1, .list x2, .list x3, .list x4, .i .i64 x5]
def Cm:List (Nat×eE)->Nat->eE
 |[],_=>default
 |(k,s)::r,t=>bif adZ k t then s else Cm r t
def Kv:List (Nat×List Nat)->Nat->List Nat
 |[],_=>[]
 |(k,s)::r,t=>bif adZ k t then s else Kv r t
def NV:List (Nat×Nat)->Nat->Nat
 |[],_=>0
 |(k,s)::r,t=>bif adZ k t then s else NV r t
def kk (n:Nat):Nat:=n
def gv (n:Nat):Bool:=bB [93,122,161,201,211,224,229,231,233,34,38,40,41,43,70,72,73,75,115,129,130,131,132,133,134,135,136,137,138,139,142,170,182,190] n
def frs (n:Nat):Bool:=bB [65,91,93,112,113,121,122,126,140,141,161,162,164,200,201,211,224,225,229,231,232,233,268,15,47,85,17,94,96,45,81] n
def R0:List (Nat×Nat):=[(65,182),(91,91),(93,91),(112,27),(113,27),(121,199),(122,199),(126,3),(140,125),(141,125),(161,89),(162,89),(164,302),(200,86),(201,86),(211,302),(224,119),(225,119),(229,119),(231,122),(232,122),(233,122),(268,9),(15,5),(47,5),(85,5),(17,5),(94,9),(96,9)]
def Hl:List (Nat×FloatKind)->Nat->Option FloatKind
 |[],_=>none
 |(k,s)::r,t=>bif adZ k t then some s else Hl r t
def Kw:List (Nat×FloatKind):=[(280,.f64)]
def Hm: ∀t k,Hl Kw t=some k->Tryz.prog.underlying t=some (.float k):=by
 intro t k h;unfold Kw at h;simp only [Hl] at h;cases hb:adZ 280 t with
 |true=>rw [hb] at h;have ht:=aeg hb;subst ht;simp only [cond_true,aey] at h;subst h;exact Tryz.underlying280
 |false=>
 rw [hb] at h;simp only [cond_false] at h;cases h
def Kx:List (Nat×(Nat×Bool)):=[]
def EC:List (Nat×(Nat×List LK×List LK))->Nat->Option (Nat×List LK×List LK)
 |[],_=>none
 |(k,s)::r,t=>bif adZ k t then some s else EC r t
abbrev eo:List LK:=[.k (.i .i64),.k (.i .i64),.k (.i .i64),.k (.i .i64),.k (.i .i64),.k (.i .i64),.k (.i .i64),.k (.i .i64),.k (.l),.k (.i .i64),.k (.i .i64),.k (.i .i64),.k (.i .i64),.k (.l),.k (.i .i64),.k (.i .i64),.k (.l),.k (.i .i64),.k (.h .u8 30),.k (.l),.k (.i .i64),.k (.l),.k (.l),.k (.l),.k (.l),.k (.l),.k (.l),.own 2000027 93 false]
abbrev aik:List LK:=[.k (.i .i64),.k (.i .i64),.k (.i .i64),.k (.i .i64),.k (.i .i64),.k (.i .i64),.k (.i .i64),.k (.i .i64),.k (.l),.k (.i .i64),.k (.i .i64),.k (.i .i64),.k (.i .i64),.k (.l),.k (.i .i64),.k (.i .i64),.k (.l),.k (.i .i64),.k (.h .u8 30),.k (.l),.k (.i .i64),.k (.l),.k (.l),.k (.l),.k (.l),.k (.l),.k (.l),.k (.l)]
abbrev WI:List LK:=[.k (.i .i64),.k (.i .i64),.k (.i .i64),.k (.i .i64),.k (.i .i64),.k (.i .i64),.k (.i .i64),.k (.i .i64),.k (.l),.k (.i .i64),.k (.i .i64),.k (.i .i64),.k (.i .i64),.k (.l),.k (.i .i64),.k (.i .i64),.k (.l),.k (.i .i64),.k (.h .u8 30),.k (.l),.k (.i .i64),.k (.l),.k (.l),.k (.l),.k (.l),.own 2000025 182 false,.k (.l),.own 2000027 93 false]
abbrev cu:List LK:=[.k (.l),.k (.i .i64),.k (.l),.k (.l),.k (.l),.k (.i .i64),.k (.i .i64),.k (.i .i64),.k (.s),.k (.s),.k (.i .i64),.k (.i .i64),.k (.i .i64),.k (.i .i64),.k (.i .i64),.k (.i .i64),.k (.s),.k (.i .i64),.k (.l),.own 2000019 269 false]
abbrev WJ:List LK:=[.own 2000000 273 false]
def Ky:List (Nat×(Nat×List LK×List LK)):=[(34,(0,eo,eo)),(38,(0,eo,eo)),(40,(0,eo,aik)),(41,(0,eo,eo)),(43,(0,eo,eo)),(70,(0,WI,WI)),(72,(0,eo,eo)),(73,(0,eo,eo)),(75,(0,eo,eo)),(115,(0,eo,eo)),(129,(0,cu,cu)),(130,(0,cu,cu)),(131,(0,cu,cu)),(132,(0,cu,cu)),(133,(0,cu,cu)),(134,(0,cu,cu)),(135,(0,cu,cu)),(136,(0,cu,cu)),(137,(0,cu,cu)),(138,(0,cu,cu)),(139,(0,cu,cu)),(142,(2,WJ,WJ)),(170,(0,eo,eo)),(182,(0,cu,cu)),(190,(0,cu,cu))]
def dl (n:Nat):Bool:=bB [141] n
def cx:Ctx:=⟨sX Hb,kk,λ_ _=>none,gv,frs,NV R0,EC Ky,[],0,[],[],λ_=>[],Hl Kw,Cl Kx,λ_=>[],λ_=>default,λ_=>default,λ_=>default,dl,[],0⟩
def Ix (g:Nat->List MV->Option MV)(par:List (Nat×Nat))(n:Nat)(bs fl:List Nat)(fz ord:List (Nat×List Nat))(dO eg ec:List (Nat×eE))(dyn:List Nat):Ctx:=⟨sX Hb,kk,g,gv,frs,NV R0,EC Ky,par,n,bs,fl,Kv fz,Hl Kw,Cl Kx,Kv ord,Cm dO,Cm eg,Cm ec,dl,dyn,0⟩
def Kz:z1 Tryz.prog cx:=Ke (l:=Kx) aaM (λ_ _ h=>h)
def dW (t:Nat):TI:=match sX Hb t with|some I=>I|none=>⟨false,0,0,[],[],[],[],0,[]⟩
def tv9:cx.tv 9=some (dW 9):=aaM
def akt:cx.tv 31=some (dW 31):=aaM
def aku:cx.tv 34=some (dW 34):=aaM
def as6:cx.tv 37=some (dW 37):=aaM
def aor:cx.tv 40=some (dW 40):=aaM
def as7:cx.tv 76=some (dW 76):=aaM
def as8:cx.tv 84=some (dW 84):=aaM
def as9:cx.tv 89=some (dW 89):=aaM
def aos:cx.tv 91=some (dW 91):=aaM
def acA:cx.tv 119=some (dW 119):=aaM
def acB:cx.tv 122=some (dW 122):=aaM
def aot:cx.tv 125=some (dW 125):=aaM
def aou:cx.tv 182=some (dW 182):=aaM
def agd:Pa Tryz.prog cx 141 125:=by
 have hE:cx.tv 125=some (dW 125):=aaM
 refine afv (P:=Tryz.prog) (f:=141) (fi:=193) (t:=37) (ti:=3) (tb:=4) (fu:=274) (el:=125) (fn:=Tryz.f141) (fni:=Tryz.f193) (r:=(λk=>(([0,1,2,3,4,5,7,8,9,10,6,11,12]:List Nat)[k]?).getD 0)) (ri:=(λk=>(([0,1,2,3,4,5,6,7]:List Nat)[k]?).getD 0)) (o:=dA Tryz.f141 dB) (oi:=dA Tryz.f193 dB) ⟨Tryz.func141,aaM,aaM,aaM,aaM,?_,aaM⟩ ⟨Tryz.func193,aaM,aaM,aaM,aaM,?_,aaM⟩ jd hE aaM (ab3 aaM)
 .constructor<;>exact ⟨aaM,aaM,aaM⟩
 .constructor<;>exact ⟨aaM,aaM,aaM⟩
def xX:sY Tryz.prog cx:=by
 intro n hn;unfold cx dl bB at hn;cases ail:adZ 141 n with
 |true=>have:=aeg ail;subst this;exact agd
 |false=>
 simp only [ail,cond_false] at hn;try unfold bB at hn
 cases hn
def Hn:afj:=⟨λ|146=>268|221=>296|268=>317|138=>318|143=>319|195=>333|197=>334|218=>335|219=>336|260=>344|217=>345|225=>343|224=>342|267=>346|266=>348|314=>349|n=>n,λ|9=>9|31=>24|3=>3|4=>4|0=>0|105=>461|21=>21|5=>5|46=>153|119=>466|139=>469|138=>468|146=>430|51=>404|n=>n,λ|1=>0|3=>1|4=>2|n=>n⟩
def age:agt Tryz.prog Hn:={
 mixed:=aaM
 f138:=Tryz.func318.trans (congrArg some aaM)
 f143:=Tryz.func319.trans (congrArg some aaM)
 f146:=Tryz.func268.trans (congrArg some aaM)
 f195:=Tryz.func333.trans (congrArg some aaM)
 f197:=Tryz.func334.trans (congrArg some aaM)
 f217:=Tryz.func345.trans (congrArg some aaM)
 f218:=Tryz.func335.trans (congrArg some aaM)
 f219:=Tryz.func336.trans (congrArg some aaM)
 f221:=Tryz.func296.trans (congrArg some aaM)
 f224:=Tryz.func342.trans (congrArg some aaM)
 f225:=Tryz.func343.trans (congrArg some aaM)
 f260:=Tryz.func344.trans (congrArg some aaM)
 f266:=Tryz.func348.trans (congrArg some aaM)
 f267:=Tryz.func346.trans (congrArg some aaM)
 f268:=Tryz.func317.trans (congrArg some aaM)
 f314:=Tryz.func349.trans (congrArg some aaM)
 t0:=Tryz.underlying0
 a0:=Tryz.isAgg0
 z0:=Tryz.sizeOf0
 v0:=Tryz.zeroValue0
 t3:=Tryz.underlying3
 a3:=Tryz.isAgg3
 z3:=Tryz.sizeOf3
 v3:=Tryz.zeroValue3
 t4:=Tryz.underlying4
 a4:=Tryz.isAgg4
 z4:=Tryz.sizeOf4
 v4:=Tryz.zeroValue4
 t5:=Tryz.underlying5
 a5:=Tryz.isAgg5
 z5:=Tryz.sizeOf5
 v5:=Tryz.zeroValue5
 t9:=Tryz.underlying9
 a9:=Tryz.isAgg9
 z9:=Tryz.sizeOf9
 v9:=Tryz.zeroValue9
 t21:=Tryz.underlying21
 a21:=Tryz.isAgg21
 z21:=Tryz.sizeOf21
 v21:=Tryz.zeroValue21
 t31:=Tryz.underlying24
 a31:=Tryz.isAgg24
 z31:=Tryz.sizeOf24
 v31:=Tryz.zeroValue24
 t46:=Tryz.underlying153
 a46:=Tryz.isAgg153
 z46:=Tryz.sizeOf153
 v46:=Tryz.zeroValue153
 t51:=Tryz.underlying404
 a51:=Tryz.isAgg404
 z51:=Tryz.sizeOf404
 v51:=Tryz.zeroValue404
 t105:=Tryz.underlying461
 a105:=Tryz.isAgg461
 z105:=Tryz.sizeOf461
 v105:=Tryz.zeroValue461
 t119:=Tryz.underlying466
 a119:=Tryz.isAgg466
 z119:=Tryz.sizeOf466
 t138:=Tryz.underlying468
 a138:=Tryz.isAgg468
 z138:=Tryz.sizeOf468
 v138:=Tryz.zeroValue468
 t139:=Tryz.underlying469
 a139:=Tryz.isAgg469
 z139:=Tryz.sizeOf469
 v139:=Tryz.zeroValue469
 t146:=Tryz.underlying430
 a146:=Tryz.isAgg430
 z146:=Tryz.sizeOf430
 v146:=Tryz.zeroValue430
 g1:=aaM
 g3:=aaM
 g4:=by kernel_rfl}
def Ho:afj:=⟨λ|160=>298|232=>321|231=>320|227=>322|234=>324|233=>323|236=>326|235=>325|228=>337|271=>338|151=>301|197=>334|120=>347|152=>328|260=>344|137=>340|119=>341|224=>342|225=>343|217=>345|266=>348|n=>n,λ|9=>9|4=>4|3=>3|5=>5|117=>450|116=>449|0=>0|124=>453|21=>21|105=>461|46=>153|119=>466|139=>469|138=>468|n=>n,λ|3=>1|4=>2|n=>n⟩
def agf:agv Tryz.prog Ho:={
 mixed:=aaM
 f119:=Tryz.func341.trans (congrArg some aaM)
 f120:=Tryz.func347.trans (congrArg some aaM)
 f137:=Tryz.func340.trans (congrArg some aaM)
 f151:=Tryz.func301.trans (congrArg some aaM)
 f152:=Tryz.func328.trans (congrArg some aaM)
 f160:=Tryz.func298.trans (congrArg some aaM)
 f197:=Tryz.func334.trans (congrArg some aaM)
 f217:=Tryz.func345.trans (congrArg some aaM)
 f224:=Tryz.func342.trans (congrArg some aaM)
 f225:=Tryz.func343.trans (congrArg some aaM)
 f227:=Tryz.func322.trans (congrArg some aaM)
 f228:=Tryz.func337.trans (congrArg some aaM)
 f231:=Tryz.func320.trans (congrArg some aaM)
 f232:=Tryz.func321.trans (congrArg some aaM)
 f233:=Tryz.func323.trans (congrArg some aaM)
 f234:=Tryz.func324.trans (congrArg some aaM)
 f235:=Tryz.func325.trans (congrArg some aaM)
 f236:=Tryz.func326.trans (congrArg some aaM)
 f260:=Tryz.func344.trans (congrArg some aaM)
 f266:=Tryz.func348.trans (congrArg some aaM)
 f271:=Tryz.func338.trans (congrArg some aaM)
 t0:=Tryz.underlying0
 a0:=Tryz.isAgg0
 z0:=Tryz.sizeOf0
 v0:=Tryz.zeroValue0
 t3:=Tryz.underlying3
 a3:=Tryz.isAgg3
 z3:=Tryz.sizeOf3
 v3:=Tryz.zeroValue3
 t4:=Tryz.underlying4
 a4:=Tryz.isAgg4
 z4:=Tryz.sizeOf4
 v4:=Tryz.zeroValue4
 t5:=Tryz.underlying5
 a5:=Tryz.isAgg5
 z5:=Tryz.sizeOf5
 v5:=Tryz.zeroValue5
 t9:=Tryz.underlying9
 a9:=Tryz.isAgg9
 z9:=Tryz.sizeOf9
 v9:=Tryz.zeroValue9
 t21:=Tryz.underlying21
 a21:=Tryz.isAgg21
 z21:=Tryz.sizeOf21
 v21:=Tryz.zeroValue21
 t46:=Tryz.underlying153
 a46:=Tryz.isAgg153
 z46:=Tryz.sizeOf153
 v46:=Tryz.zeroValue153
 t105:=Tryz.underlying461
 a105:=Tryz.isAgg461
 z105:=Tryz.sizeOf461
 v105:=Tryz.zeroValue461
 t116:=Tryz.underlying449
 a116:=Tryz.isAgg449
 z116:=Tryz.sizeOf449
 t117:=Tryz.underlying450
 a117:=Tryz.isAgg450
 z117:=Tryz.sizeOf450
 v117:=Tryz.zeroValue450
 t119:=Tryz.underlying466
 a119:=Tryz.isAgg466
 z119:=Tryz.sizeOf466
 t124:=Tryz.underlying453
 a124:=Tryz.isAgg453
 z124:=Tryz.sizeOf453
 v124:=Tryz.zeroValue453
 t138:=Tryz.underlying468
 a138:=Tryz.isAgg468
 z138:=Tryz.sizeOf468
 v138:=Tryz.zeroValue468
 t139:=Tryz.underlying469
 a139:=Tryz.isAgg469
 z139:=Tryz.sizeOf469
 v139:=Tryz.zeroValue469
 g3:=aaM
 g4:=by kernel_rfl}
def Hp:afj:=⟨λ|151=>301|152=>328|137=>340|119=>341|224=>342|225=>343|217=>345|266=>348|n=>n,λ|9=>9|21=>21|4=>4|3=>3|5=>5|0=>0|46=>153|n=>n,λ|n=>n⟩
def agh:ahe Tryz.prog Hp:={
 mixed:=aaM
 f119:=Tryz.func341.trans (congrArg some aaM)
 f137:=Tryz.func340.trans (congrArg some aaM)
 f151:=Tryz.func301.trans (congrArg some aaM)
 f152:=Tryz.func328.trans (congrArg some aaM)
 f217:=Tryz.func345.trans (congrArg some aaM)
 f224:=Tryz.func342.trans (congrArg some aaM)
 f225:=Tryz.func343.trans (congrArg some aaM)
 f266:=Tryz.func348.trans (congrArg some aaM)
 t0:=Tryz.underlying0
 a0:=Tryz.isAgg0
 z0:=Tryz.sizeOf0
 v0:=Tryz.zeroValue0
 t3:=Tryz.underlying3
 a3:=Tryz.isAgg3
 z3:=Tryz.sizeOf3
 v3:=Tryz.zeroValue3
 t4:=Tryz.underlying4
 a4:=Tryz.isAgg4
 z4:=Tryz.sizeOf4
 v4:=Tryz.zeroValue4
 t5:=Tryz.underlying5
 a5:=Tryz.isAgg5
 z5:=Tryz.sizeOf5
 v5:=Tryz.zeroValue5
 t9:=Tryz.underlying9
 a9:=Tryz.isAgg9
 z9:=Tryz.sizeOf9
 v9:=Tryz.zeroValue9
 t21:=Tryz.underlying21
 a21:=Tryz.isAgg21
 z21:=Tryz.sizeOf21
 v21:=Tryz.zeroValue21
 t46:=Tryz.underlying153
 a46:=Tryz.isAgg153
 z46:=Tryz.sizeOf153
 v46:=Tryz.zeroValue153}
abbrev GT:=Nat->List MV->Option MV
abbrev SG (g:GT):Prop:=db Tryz.prog cx g
def agi {g:GT}(h:SG g):SG (aK 268 Ag g):=h.Ep (λ_=>rfl) (λms r hr=>acm (P:=Tryz.prog) (ρ:=Hn) (c:=cx) age aaM aaM aaM tv9 aaM hr)
def agj {g:GT}(h:SG g):SG (aK 298 Kf g):=h.Ep (λ_=>rfl) (λms r hr=>afQ (P:=Tryz.prog) (ρ:=Ho) (c:=cx) agf aaM aaM hr)
def agk {g:GT}(h:SG g):SG (aK 301 s9 g):=h.Ep (λ_=>rfl) (λms r hr=>Uk (P:=Tryz.prog) (ρ:=Hp) (c:=cx) agh aaM hr)
def akv {g:GT}(h:SG g):SG (aK 65 (fT 18 256) g):=h.Ep (λ_=>rfl) (λms r hr=>by obtain ⟨xs,rfl,rfl,h1,h2⟩:=nU hr;exact wE (P:=Tryz.prog) (c:=cx) (f:=65) (fn:=Tryz.f65) (t:=76) (I:=dW 76) (E:=dW 182) (i0:=0) (i1:=1) (i2:=2) (i3:=3) (oA:=dA Tryz.f65 dB 0) (oB:=dA Tryz.f65 dB 1) (oC:=dA Tryz.f65 dB 2) (oD:=dA Tryz.f65 dB 3) (oE:=dA Tryz.f65 dB 4) (oF:=dA Tryz.f65 dB 5) (oG:=dA Tryz.f65 dB 6) (oH:=dA Tryz.f65 dB 7) jd as7 aaM aou (ab3 aaM) aaM aaM Tryz.func65 aaM aaM aaM aaM ⟨aaM,aaM,aaM⟩ ⟨aaM,aaM,aaM⟩ ⟨aaM,aaM,aaM⟩ ⟨aaM,aaM,aaM⟩ ⟨aaM,aaM,aaM⟩ ⟨aaM,aaM,aaM⟩ ⟨aaM,aaM,aaM⟩ ⟨aaM,aaM,aaM⟩ (by rw [show (dW 182).size=18 by kernel_rfl];exact h1) (by rw [show (dW 182).bytes=256 by kernel_rfl];exact h2))
def akw {g:GT}(h:SG g):SG (aK 91 (fT 6 72) g):=h.Ep (λ_=>rfl) (λms r hr=>by obtain ⟨xs,rfl,rfl,h1,h2⟩:=nU hr;exact wE (P:=Tryz.prog) (c:=cx) (f:=91) (fn:=Tryz.f91) (t:=40) (I:=dW 40) (E:=dW 91) (i0:=0) (i1:=1) (i2:=2) (i3:=3) (oA:=dA Tryz.f91 dB 0) (oB:=dA Tryz.f91 dB 1) (oC:=dA Tryz.f91 dB 2) (oD:=dA Tryz.f91 dB 3) (oE:=dA Tryz.f91 dB 4) (oF:=dA Tryz.f91 dB 5) (oG:=dA Tryz.f91 dB 6) (oH:=dA Tryz.f91 dB 7) jd aor aaM aos (ab3 aaM) aaM aaM Tryz.func91 aaM aaM aaM aaM ⟨aaM,aaM,aaM⟩ ⟨aaM,aaM,aaM⟩ ⟨aaM,aaM,aaM⟩ ⟨aaM,aaM,aaM⟩ ⟨aaM,aaM,aaM⟩ ⟨aaM,aaM,aaM⟩ ⟨aaM,aaM,aaM⟩ ⟨aaM,aaM,aaM⟩ (by rw [show (dW 91).size=6 by kernel_rfl];exact h1) (by rw [show (dW 91).bytes=72 by kernel_rfl];exact h2))
def aov:JX Tryz.prog 93 40 3 4 91 146 Tryz.f93 (λk=>k) (dA Tryz.f93 dB) (Pq (dA Tryz.f93 dB)):=by refine ⟨Tryz.func93,aaM,aaM,aaM,aaM,?_,oR,aaM⟩;constructor<;>first|exact ⟨aaM,aaM,aaM⟩|kernel_rfl
def ata: ∀args w,(callFunc 146 args).run Tryz.prog w=((ad0 #[40,40] #[4] args).run Tryz.prog w).andThen λv w'=> .ok (.value v) w':=λargs w=>run_callFunc_extern Tryz.func146 aaM aaM aaM (e:=ad0 #[40,40] #[4]) aaM args w
def akx {g:GT}(h:SG g):SG (aK 93 (jm 72) g):=h.Ep (λ_=>rfl) (λms r hr=>by obtain ⟨xs,ys,i,rfl,rfl,h1,h2,h3⟩:=xJ hr;exact FC (P:=Tryz.prog) (c:=cx) (I:=dW 40) (E:=dW 91) aov jd aor aaM aos (ab3 aaM) aaM aaM aaM aaM ata h1 h2 (by rw [show (dW 91).bytes=72 by kernel_rfl];exact h3))
def agl {g:GT}(h:SG g):SG (aK 140 (fT 3 32) g):=h.Ep (λ_=>rfl) (λms r hr=>by obtain ⟨xs,rfl,rfl,h1,h2⟩:=nU hr;exact wE (P:=Tryz.prog) (c:=cx) (f:=140) (fn:=Tryz.f140) (t:=37) (I:=dW 37) (E:=dW 125) (i0:=0) (i1:=1) (i2:=2) (i3:=3) (oA:=dA Tryz.f140 dB 0) (oB:=dA Tryz.f140 dB 1) (oC:=dA Tryz.f140 dB 2) (oD:=dA Tryz.f140 dB 3) (oE:=dA Tryz.f140 dB 4) (oF:=dA Tryz.f140 dB 5) (oG:=dA Tryz.f140 dB 6) (oH:=dA Tryz.f140 dB 7) jd as6 aaM aot (ab3 aaM) aaM aaM Tryz.func140 aaM aaM aaM aaM ⟨aaM,aaM,aaM⟩ ⟨aaM,aaM,aaM⟩ ⟨aaM,aaM,aaM⟩ ⟨aaM,aaM,aaM⟩ ⟨aaM,aaM,aaM⟩ ⟨aaM,aaM,aaM⟩ ⟨aaM,aaM,aaM⟩ ⟨aaM,aaM,aaM⟩ (by rw [show (dW 125).size=3 by kernel_rfl];exact h1) (by rw [show (dW 125).bytes=32 by kernel_rfl];exact h2))
def agm {g:GT}(h:SG g):SG (aK 162 (fT 6 72) g):=h.Ep (λ_=>rfl) (λms r hr=>by obtain ⟨xs,rfl,rfl,h1,h2⟩:=nU hr;exact wE (P:=Tryz.prog) (c:=cx) (f:=162) (fn:=Tryz.f162) (t:=84) (I:=dW 84) (E:=dW 89) (i0:=0) (i1:=1) (i2:=2) (i3:=3) (oA:=dA Tryz.f162 dB 0) (oB:=dA Tryz.f162 dB 1) (oC:=dA Tryz.f162 dB 2) (oD:=dA Tryz.f162 dB 3) (oE:=dA Tryz.f162 dB 4) (oF:=dA Tryz.f162 dB 5) (oG:=dA Tryz.f162 dB 6) (oH:=dA Tryz.f162 dB 7) jd as8 aaM as9 (ab3 aaM) aaM aaM Tryz.func162 aaM aaM aaM aaM ⟨aaM,aaM,aaM⟩ ⟨aaM,aaM,aaM⟩ ⟨aaM,aaM,aaM⟩ ⟨aaM,aaM,aaM⟩ ⟨aaM,aaM,aaM⟩ ⟨aaM,aaM,aaM⟩ ⟨aaM,aaM,aaM⟩ ⟨aaM,aaM,aaM⟩ (by rw [show (dW 89).size=6 by kernel_rfl];exact h1) (by rw [show (dW 89).bytes=72 by kernel_rfl];exact h2))
def aky:JX Tryz.prog 224 31 3 4 119 262 Tryz.f224 (λk=>k) (dA Tryz.f224 dB) (Pq (dA Tryz.f224 dB)):=by refine ⟨Tryz.func224,aaM,aaM,aaM,aaM,?_,oR,aaM⟩;constructor<;>first|exact ⟨aaM,aaM,aaM⟩|kernel_rfl
def aow: ∀args w,(callFunc 262 args).run Tryz.prog w=((ad0 #[31,31] #[4] args).run Tryz.prog w).andThen λv w'=> .ok (.value v) w':=λargs w=>run_callFunc_extern Tryz.func262 aaM aaM aaM (e:=ad0 #[31,31] #[4]) aaM args w
def agn {g:GT}(h:SG g):SG (aK 224 (jm 48) g):=h.Ep (λ_=>rfl) (λms r hr=>by obtain ⟨xs,ys,i,rfl,rfl,h1,h2,h3⟩:=xJ hr;exact FC (P:=Tryz.prog) (c:=cx) (I:=dW 31) (E:=dW 119) aky jd akt aaM acA (ab3 aaM) aaM aaM aaM aaM aow h1 h2 (by rw [show (dW 119).bytes=48 by kernel_rfl];exact h3))
def ago {g:GT}(h:SG g):SG (aK 225 (fT 4 48) g):=h.Ep (λ_=>rfl) (λms r hr=>by obtain ⟨xs,rfl,rfl,h1,h2⟩:=nU hr;exact wE (P:=Tryz.prog) (c:=cx) (f:=225) (fn:=Tryz.f225) (t:=31) (I:=dW 31) (E:=dW 119) (i0:=0) (i1:=1) (i2:=2) (i3:=3) (oA:=dA Tryz.f225 dB 0) (oB:=dA Tryz.f225 dB 1) (oC:=dA Tryz.f225 dB 2) (oD:=dA Tryz.f225 dB 3) (oE:=dA Tryz.f225 dB 4) (oF:=dA Tryz.f225 dB 5) (oG:=dA Tryz.f225 dB 6) (oH:=dA Tryz.f225 dB 7) jd akt aaM acA (ab3 aaM) aaM aaM Tryz.func225 aaM aaM aaM aaM ⟨aaM,aaM,aaM⟩ ⟨aaM,aaM,aaM⟩ ⟨aaM,aaM,aaM⟩ ⟨aaM,aaM,aaM⟩ ⟨aaM,aaM,aaM⟩ ⟨aaM,aaM,aaM⟩ ⟨aaM,aaM,aaM⟩ ⟨aaM,aaM,aaM⟩ (by rw [show (dW 119).size=4 by kernel_rfl];exact h1) (by rw [show (dW 119).bytes=48 by kernel_rfl];exact h2))
def akz:RF Tryz.prog 229 31 3 119 Tryz.f229 (λk=>k) (dA Tryz.f229 dB):=by refine ⟨Tryz.func229,aaM,aaM,aaM,aaM,?_,oR,aaM⟩;constructor<;>first|exact ⟨aaM,aaM,aaM⟩|kernel_rfl
def agp {g:GT}(h:SG g):SG (aK 229 rY g):=h.Ep (λ_=>rfl) (λms r hr=>by obtain ⟨xs,i,j,rfl,rfl,h1,h2⟩:=El hr;exact NO (P:=Tryz.prog) (c:=cx) (I:=dW 31) (E:=dW 119) akz jd akt aaM acA aaM aaM aaM h1 h2)
def akA:JX Tryz.prog 231 34 3 4 122 264 Tryz.f231 (λk=>k) (dA Tryz.f231 dB) (Pq (dA Tryz.f231 dB)):=by refine ⟨Tryz.func231,aaM,aaM,aaM,aaM,?_,oR,aaM⟩;constructor<;>first|exact ⟨aaM,aaM,aaM⟩|kernel_rfl
def aox: ∀args w,(callFunc 264 args).run Tryz.prog w=((ad0 #[34,34] #[4] args).run Tryz.prog w).andThen λv w'=> .ok (.value v) w':=λargs w=>run_callFunc_extern Tryz.func264 aaM aaM aaM (e:=ad0 #[34,34] #[4]) aaM args w
def agq {g:GT}(h:SG g):SG (aK 231 (jm 24) g):=h.Ep (λ_=>rfl) (λms r hr=>by obtain ⟨xs,ys,i,rfl,rfl,h1,h2,h3⟩:=xJ hr;exact FC (P:=Tryz.prog) (c:=cx) (I:=dW 34) (E:=dW 122) akA jd aku aaM acB (ab3 aaM) aaM aaM aaM aaM aox h1 h2 (by rw [show (dW 122).bytes=24 by kernel_rfl];exact h3))
def agr {g:GT}(h:SG g):SG (aK 232 (fT 3 24) g):=h.Ep (λ_=>rfl) (λms r hr=>by obtain ⟨xs,rfl,rfl,h1,h2⟩:=nU hr;exact wE (P:=Tryz.prog) (c:=cx) (f:=232) (fn:=Tryz.f232) (t:=34) (I:=dW 34) (E:=dW 122) (i0:=0) (i1:=1) (i2:=2) (i3:=3) (oA:=dA Tryz.f232 dB 0) (oB:=dA Tryz.f232 dB 1) (oC:=dA Tryz.f232 dB 2) (oD:=dA Tryz.f232 dB 3) (oE:=dA Tryz.f232 dB 4) (oF:=dA Tryz.f232 dB 5) (oG:=dA Tryz.f232 dB 6) (oH:=dA Tryz.f232 dB 7) jd aku aaM acB (ab3 aaM) aaM aaM Tryz.func232 aaM aaM aaM aaM ⟨aaM,aaM,aaM⟩ ⟨aaM,aaM,aaM⟩ ⟨aaM,aaM,aaM⟩ ⟨aaM,aaM,aaM⟩ ⟨aaM,aaM,aaM⟩ ⟨aaM,aaM,aaM⟩ ⟨aaM,aaM,aaM⟩ ⟨aaM,aaM,aaM⟩ (by rw [show (dW 122).size=3 by kernel_rfl];exact h1) (by rw [show (dW 122).bytes=24 by kernel_rfl];exact h2))
def akB:RF Tryz.prog 233 34 3 122 Tryz.f233 (λk=>k) (dA Tryz.f233 dB):=by refine ⟨Tryz.func233,aaM,aaM,aaM,aaM,?_,oR,aaM⟩;constructor<;>first|exact ⟨aaM,aaM,aaM⟩|kernel_rfl
def ags {g:GT}(h:SG g):SG (aK 233 rY g):=h.Ep (λ_=>rfl) (λms r hr=>by obtain ⟨xs,i,j,rfl,rfl,h1,h2⟩:=El hr;exact NO (P:=Tryz.prog) (c:=cx) (I:=dW 34) (E:=dW 122) akB jd aku aaM acB aaM aaM aaM h1 h2)
def H65:GT:=aK 65 (fT 18 256) (λ_ _=>none)
def acC:SG H65:=akv (db.none _ _)
def H91:GT:=aK 91 (fT 6 72) H65
def acD:SG H91:=akw acC
def H93:GT:=aK 93 (jm 72) H91
def acE:SG H93:=akx acD
def aoy:GT:=aK 140 (fT 3 32) H93
def Yy:SG aoy:=agl acE
def aoz:GT:=aK 162 (fT 6 72) aoy
def Yz:SG aoz:=agm Yy
def aoA:GT:=aK 224 (jm 48) aoz
def YA:SG aoA:=agn Yz
def aoB:GT:=aK 225 (fT 4 48) aoA
def YB:SG aoB:=ago YA
def aoC:GT:=aK 229 rY aoB
def YC:SG aoC:=agp YB
def aoD:GT:=aK 231 (jm 24) aoC
def YD:SG aoD:=agq YC
def aoE:GT:=aK 232 (fT 3 24) aoD
def YE:SG aoE:=agr YD
def aoF:GT:=aK 233 rY aoE
def YF:SG aoF:=ags YE
def aoG:GT:=aK 268 Ag aoF
def YG:SG aoG:=agi YF
def aoH:GT:=aK 298 Kf aoG
def YH:SG aoH:=agj YG
def akC:GT:=aK 301 s9 aoH
def YI:SG akC:=agk YH
abbrev WK:List LK:=[.k (.i .i64),.k (.i .i64),.k (.i .i64),.k (.i .i64),.k (.i .i64),.k (.i .i64),.k (.i .i64),.k (.i .i64),.k (.l),.k (.i .i64),.k (.i .i64),.k (.i .i64),.k (.i .i64),.k (.l),.k (.i .i64),.k (.i .i64),.k (.l),.k (.i .i64),.k (.h .u8 30),.k (.l),.k (.i .i64),.k (.l),.k (.l),.k (.l),.k (.l),.own 2000025 182 false,.k (.l),.own 2000027 93 false]
def Iy:List (Nat×(Nat×List LK×List LK)):=(43,(0,WK,WK))::Ky
def YJ:Ctx:=⟨sX Hb,kk,λ_ _=>none,gv,frs,NV R0,EC Iy,[],0,[],[],λ_=>[],Hl Kw,Cl Kx,λ_=>[],λ_=>default,λ_=>default,λ_=>default,λ_=>false,[],0⟩
def akD:z1 Tryz.prog YJ:=Ke (l:=Kx) aaM (λ_ _ h=>h)
def acF:sY Tryz.prog YJ:=λn hn=>absurd (show false=true from hn) aaD
def acG:Hg 43 cx YJ:=⟨rfl,rfl,rfl,rfl,rfl,λk hk=>by
 show EC Iy k=EC Ky k;unfold Iy EC;rw [show adZ 43 k=false from by
  cases hb:adZ 43 k with
  |false=>rfl
  |true=>exact absurd (aeg hb).symm hk]
 rfl⟩
def akE:Hg 43 YJ cx:=⟨rfl,rfl,rfl,rfl,rfl,λk hk=>(acG.sig k hk).symm⟩
def fnS {g:GT}(s:SG g)(aJ:List (List Kd))(par:List (Nat×Nat))(tn:Nat)(bs fl:List Nat)(fz ord:List (Nat×List Nat))(dO eg ec:List (Nat×eE))(dyn:List Nat){n:Nat}{fn:Func}{F:List MV->Option MV}(hf:Tryz.prog.funcs[n]? =some fn)(hh:ou (Ix g par tn bs fl fz ord dO eg ec dyn) n fn aJ=true)(hF: ∀{ms r},F ms=some r->qB (Ix g par tn bs fl fz ord dO eg ec dyn) aJ none fn ms=some r):SG (aK n F g):=s.fn (c':=Ix g par tn bs fl fz ord dO eg ec dyn) ⟨rfl,rfl,rfl,rfl,rfl,rfl,rfl,rfl,rfl⟩ rfl jd Hk Hm Kz oR xX hf hh (λ_=>rfl) (fresh:=none) rfl hF
def fnP {g:GT}(s:SG g)(aJ:List (List Kd))(tn:Nat)(dO eg ec:List (Nat×eE)){n:Nat}{fn:Func}{F:List MV->Option MV}(hf:Tryz.prog.funcs[n]? =some fn)(hh:ou (Ix g [] tn [] [] [] [] dO eg ec []) n fn aJ=true)(hF: ∀{ms r},F ms=some r->qB (Ix g [] tn [] [] [] [] dO eg ec []) aJ none fn ms=some r):SG (aK n F g):=fnS s aJ [] tn [] [] [] [] dO eg ec [] hf hh hF
def fnC {g:GT}(s:SG g)(pos:Nat)(ks ko:List LK)(aJ:List (List Kd))(par:List (Nat×Nat))(tn:Nat)(bs fl:List Nat)(fz ord:List (Nat×List Nat))(dO eg ec:List (Nat×eE))(dyn:List Nat){n:Nat}{fn:Func}{F:List MV->Option MV}(hf:Tryz.prog.funcs[n]? =some fn)(hs:cx.sig n=some (pos,ks,ko))(hh:Hf (Ix g par tn bs fl fz ord dO eg ec dyn) n fn aJ=true)(hF: ∀{ms r},F ms=some r->DO (Ix g par tn bs fl fz ord dO eg ec dyn) aJ pos ks ko fn ms=some r):SG (aK n F g):=s.fnC jd Hk Hm Kz oR xX hf hs (λ_=>rfl) λh=>⟨Ix g par tn bs fl fz ord dO eg ec dyn,⟨rfl,rfl,rfl,rfl,rfl,rfl,rfl,rfl,rfl⟩,rfl,hh,hF h⟩
def fnF {g:GT}(s:SG g)(ty:Nat)(aJ:List (List Kd))(par:List (Nat×Nat))(tn:Nat)(bs fl:List Nat)(fz ord:List (Nat×List Nat))(dO eg ec:List (Nat×eE))(dyn:List Nat){n:Nat}{fn:Func}{F:List MV->Option MV}(hf:Tryz.prog.funcs[n]? =some fn)(hh:ou (Ix g par tn bs fl fz ord dO eg ec dyn) n fn aJ=true)(zT:Ac (Ix g par tn bs fl fz ord dO eg ec dyn) n fn (some ty)=true)(hF: ∀{ms r},F ms=some r->qB (Ix g par tn bs fl fz ord dO eg ec dyn) aJ (some ty) fn ms=some r):SG (aK n F g):=s.fn (c':=Ix g par tn bs fl fz ord dO eg ec dyn) ⟨rfl,rfl,rfl,rfl,rfl,rfl,rfl,rfl,rfl⟩ rfl jd Hk Hm Kz oR xX hf hh (λ_=>rfl) zT hF
def Iz (g:GT)(par:List (Nat×Nat))(n:Nat)(bs fl:List Nat)(fz ord:List (Nat×List Nat))(dO eg ec:List (Nat×eE))(dyn:List Nat):Ctx:=⟨sX Hb,kk,g,gv,frs,NV R0,EC Ky,par,n,bs,fl,Kv fz,Hl Kw,Cl Kx,Kv ord,Cm dO,Cm eg,Cm ec,dl,dyn,3000⟩
def agu {g:GT}(s:SG g)(aJ:List (List Kd))(par:List (Nat×Nat))(tn:Nat)(bs fl:List Nat)(fz ord:List (Nat×List Nat))(dO eg ec:List (Nat×eE))(dyn:List Nat){n:Nat}{fn:Func}{F:List MV->Option MV}(hf:Tryz.prog.funcs[n]? =some fn)(hh:ou (Iz g par tn bs fl fz ord dO eg ec dyn) n fn aJ=true)(hF: ∀{ms r},F ms=some r->qB (Iz g par tn bs fl fz ord dO eg ec dyn) aJ none fn ms=some r):SG (aK n F g):=s.fn (c':=Iz g par tn bs fl fz ord dO eg ec dyn) ⟨rfl,rfl,rfl,rfl,rfl,rfl,rfl,rfl,rfl⟩ rfl jd Hk Hm Kz oR xX hf hh (λ_=>rfl) (fresh:=none) rfl hF
def acI {g:GT}(s:SG g)(aJ:List (List Kd))(tn:Nat)(dO eg ec:List (Nat×eE)){n:Nat}{fn:Func}{F:List MV->Option MV}(hf:Tryz.prog.funcs[n]? =some fn)(hh:ou (Iz g [] tn [] [] [] [] dO eg ec []) n fn aJ=true)(hF: ∀{ms r},F ms=some r->qB (Iz g [] tn [] [] [] [] dO eg ec []) aJ none fn ms=some r):SG (aK n F g):=agu s aJ [] tn [] [] [] [] dO eg ec [] hf hh hF
def atb {g:GT}(s:SG g)(ty:Nat)(aJ:List (List Kd))(par:List (Nat×Nat))(tn:Nat)(bs fl:List Nat)(fz ord:List (Nat×List Nat))(dO eg ec:List (Nat×eE))(dyn:List Nat){n:Nat}{fn:Func}{F:List MV->Option MV}(hf:Tryz.prog.funcs[n]? =some fn)(hh:ou (Iz g par tn bs fl fz ord dO eg ec dyn) n fn aJ=true)(zT:Ac (Iz g par tn bs fl fz ord dO eg ec dyn) n fn (some ty)=true)(hF: ∀{ms r},F ms=some r->qB (Iz g par tn bs fl fz ord dO eg ec dyn) aJ (some ty) fn ms=some r):SG (aK n F g):=s.fn (c':=Iz g par tn bs fl fz ord dO eg ec dyn) ⟨rfl,rfl,rfl,rfl,rfl,rfl,rfl,rfl,rfl⟩ rfl jd Hk Hm Kz oR xX hf hh (λ_=>rfl) zT hF
def atc {g:GT}(s:SG g)(pos:Nat)(ks ko:List LK)(aJ:List (List Kd))(par:List (Nat×Nat))(tn:Nat)(bs fl:List Nat)(fz ord:List (Nat×List Nat))(dO eg ec:List (Nat×eE))(dyn:List Nat){n:Nat}{fn:Func}{F:List MV->Option MV}(hf:Tryz.prog.funcs[n]? =some fn)(hs:cx.sig n=some (pos,ks,ko))(hh:Hf (Iz g par tn bs fl fz ord dO eg ec dyn) n fn aJ=true)(hF: ∀{ms r},F ms=some r->DO (Iz g par tn bs fl fz ord dO eg ec dyn) aJ pos ks ko fn ms=some r):SG (aK n F g):=s.fnC jd Hk Hm Kz oR xX hf hs (λ_=>rfl) λh=>⟨Iz g par tn bs fl fz ord dO eg ec dyn,⟨rfl,rfl,rfl,rfl,rfl,rfl,rfl,rfl,rfl⟩,rfl,hh,hF h⟩
def acJ (g:GT)(par:List (Nat×Nat))(n:Nat)(bs fl:List Nat)(fz ord:List (Nat×List Nat))(dO eg ec:List (Nat×eE))(dyn:List Nat):Ctx:=⟨sX Hb,kk,g,gv,frs,NV R0,EC Iy,par,n,bs,fl,Kv fz,Hl Kw,Cl Kx,Kv ord,Cm dO,Cm eg,Cm ec,λ_=>false,dyn,3000⟩
def aoI {g:GT}(s:db Tryz.prog YJ g)(pos:Nat)(ks ko:List LK)(aJ:List (List Kd))(par:List (Nat×Nat))(tn:Nat)(bs fl:List Nat)(fz ord:List (Nat×List Nat))(dO eg ec:List (Nat×eE))(dyn:List Nat){n:Nat}{fn:Func}{F:List MV->Option MV}(hf:Tryz.prog.funcs[n]? =some fn)(hs:YJ.sig n=some (pos,ks,ko))(hh:Hf (acJ g par tn bs fl fz ord dO eg ec dyn) n fn aJ=true)(hF: ∀{ms r},F ms=some r->DO (acJ g par tn bs fl fz ord dO eg ec dyn) aJ pos ks ko fn ms=some r):db Tryz.prog YJ (aK n F g):=s.fnC jd Hk Hm akD oR acF hf hs (λ_=>rfl) λh=>⟨acJ g par tn bs fl fz ord dO eg ec dyn,⟨rfl,rfl,rfl,rfl,rfl,rfl,rfl,rfl,rfl⟩,rfl,hh,hF h⟩
def qS (g:GT)(aJ:List (List Kd))(par:List (Nat×Nat))(tn:Nat)(bs fl:List Nat)(fz ord:List (Nat×List Nat))(dO eg ec:List (Nat×eE))(dyn:List Nat)(fn:Func):List MV->Option MV:=qB (Ix g par tn bs fl fz ord dO eg ec dyn) aJ none fn
def nY {g:GT}(s:SG g){aJ:List (List Kd)}{par:List (Nat×Nat)}{tn:Nat}{bs fl:List Nat}{fz ord:List (Nat×List Nat)}{dO eg ec:List (Nat×eE)}{dyn:List Nat}{n:Nat}{fn:Func}(hf:Tryz.prog.funcs[n]? =some fn)(hh:ou (Ix g par tn bs fl fz ord dO eg ec dyn) n fn aJ=true:=by kernel_rfl):SG (aK n (qS g aJ par tn bs fl fz ord dO eg ec dyn fn) g):=fnS s aJ par tn bs fl fz ord dO eg ec dyn hf hh id
def qP (g:GT)(aJ:List (List Kd))(tn:Nat)(dO eg ec:List (Nat×eE))(fn:Func):List MV->Option MV:=qB (Ix g [] tn [] [] [] [] dO eg ec []) aJ none fn
def cQ {g:GT}(s:SG g){aJ:List (List Kd)}{tn:Nat}{dO eg ec:List (Nat×eE)}{n:Nat}{fn:Func}(hf:Tryz.prog.funcs[n]? =some fn)(hh:ou (Ix g [] tn [] [] [] [] dO eg ec []) n fn aJ=true:=by kernel_rfl):SG (aK n (qP g aJ tn dO eg ec fn) g):=fnP s aJ tn dO eg ec hf hh id
def qF (g:GT)(ty:Nat)(aJ:List (List Kd))(par:List (Nat×Nat))(tn:Nat)(bs fl:List Nat)(fz ord:List (Nat×List Nat))(dO eg ec:List (Nat×eE))(dyn:List Nat)(fn:Func):List MV->Option MV:=qB (Ix g par tn bs fl fz ord dO eg ec dyn) aJ (some ty) fn
def aoJ {g:GT}(s:SG g){ty:Nat}{aJ:List (List Kd)}{par:List (Nat×Nat)}{tn:Nat}{bs fl:List Nat}{fz ord:List (Nat×List Nat)}{dO eg ec:List (Nat×eE)}{dyn:List Nat}{n:Nat}{fn:Func}(hf:Tryz.prog.funcs[n]? =some fn)(hr:Ac (Ix g par tn bs fl fz ord dO eg ec dyn) n fn (some ty)=true:=by kernel_rfl) (hh:ou (Ix g par tn bs fl fz ord dO eg ec dyn) n fn aJ=true:=by kernel_rfl):SG (aK n (qF g ty aJ par tn bs fl fz ord dO eg ec dyn fn) g):=fnF s ty aJ par tn bs fl fz ord dO eg ec dyn hf hh hr id
def qC (g:GT)(pos:Nat)(ks ko:List LK)(aJ:List (List Kd))(par:List (Nat×Nat))(tn:Nat)(bs fl:List Nat)(fz ord:List (Nat×List Nat))(dO eg ec:List (Nat×eE))(dyn:List Nat)(fn:Func):List MV->Option MV:=DO (Ix g par tn bs fl fz ord dO eg ec dyn) aJ pos ks ko fn
def vq {g:GT}(s:SG g){pos:Nat}{ks ko:List LK}{aJ:List (List Kd)}{par:List (Nat×Nat)}{tn:Nat}{bs fl:List Nat}{fz ord:List (Nat×List Nat)}{dO eg ec:List (Nat×eE)}{dyn:List Nat}{n:Nat}{fn:Func}(hf:Tryz.prog.funcs[n]? =some fn)(hs:cx.sig n=some (pos,ks,ko):=by kernel_rfl) (hh:Hf (Ix g par tn bs fl fz ord dO eg ec dyn) n fn aJ=true:=by kernel_rfl):SG (aK n (qC g pos ks ko aJ par tn bs fl fz ord dO eg ec dyn fn) g):=fnC s pos ks ko aJ par tn bs fl fz ord dO eg ec dyn hf hs hh id
def qSR (g:GT)(aJ:List (List Kd))(par:List (Nat×Nat))(tn:Nat)(bs fl:List Nat)(fz ord:List (Nat×List Nat))(dO eg ec:List (Nat×eE))(dyn:List Nat)(fn:Func):List MV->Option MV:=qB (Iz g par tn bs fl fz ord dO eg ec dyn) aJ none fn
def acK {g:GT}(s:SG g){aJ:List (List Kd)}{par:List (Nat×Nat)}{tn:Nat}{bs fl:List Nat}{fz ord:List (Nat×List Nat)}{dO eg ec:List (Nat×eE)}{dyn:List Nat}{n:Nat}{fn:Func}(hf:Tryz.prog.funcs[n]? =some fn)(hh:ou (Iz g par tn bs fl fz ord dO eg ec dyn) n fn aJ=true:=by kernel_rfl):SG (aK n (qSR g aJ par tn bs fl fz ord dO eg ec dyn fn) g):=agu s aJ par tn bs fl fz ord dO eg ec dyn hf hh id
def qPR (g:GT)(aJ:List (List Kd))(tn:Nat)(dO eg ec:List (Nat×eE))(fn:Func):List MV->Option MV:=qB (Iz g [] tn [] [] [] [] dO eg ec []) aJ none fn
def xY {g:GT}(s:SG g){aJ:List (List Kd)}{tn:Nat}{dO eg ec:List (Nat×eE)}{n:Nat}{fn:Func}(hf:Tryz.prog.funcs[n]? =some fn)(hh:ou (Iz g [] tn [] [] [] [] dO eg ec []) n fn aJ=true:=by kernel_rfl):SG (aK n (qPR g aJ tn dO eg ec fn) g):=acI s aJ tn dO eg ec hf hh id
def qFR (g:GT)(ty:Nat)(aJ:List (List Kd))(par:List (Nat×Nat))(tn:Nat)(bs fl:List Nat)(fz ord:List (Nat×List Nat))(dO eg ec:List (Nat×eE))(dyn:List Nat)(fn:Func):List MV->Option MV:=qB (Iz g par tn bs fl fz ord dO eg ec dyn) aJ (some ty) fn
def PL {g:GT}(s:SG g){ty:Nat}{aJ:List (List Kd)}{par:List (Nat×Nat)}{tn:Nat}{bs fl:List Nat}{fz ord:List (Nat×List Nat)}{dO eg ec:List (Nat×eE)}{dyn:List Nat}{n:Nat}{fn:Func}(hf:Tryz.prog.funcs[n]? =some fn)(hr:Ac (Iz g par tn bs fl fz ord dO eg ec dyn) n fn (some ty)=true:=by kernel_rfl) (hh:ou (Iz g par tn bs fl fz ord dO eg ec dyn) n fn aJ=true:=by kernel_rfl):SG (aK n (qFR g ty aJ par tn bs fl fz ord dO eg ec dyn fn) g):=atb s ty aJ par tn bs fl fz ord dO eg ec dyn hf hh hr id
def rS (g:GT)(aJ:List (List Kd))(par:List (Nat×Nat))(tn:Nat)(bs fl:List Nat)(fz ord:List (Nat×List Nat))(dO eg ec:List (Nat×eE))(dyn:List Nat)(n:Nat)(fn:Func):GT:=aK n (qB (Iz g par tn bs fl fz ord dO eg ec dyn) aJ none fn) g
def Cn {g:GT}(s:SG g){aJ:List (List Kd)}{par:List (Nat×Nat)}{tn:Nat}{bs fl:List Nat}{fz ord:List (Nat×List Nat)}{dO eg ec:List (Nat×eE)}{dyn:List Nat}{n:Nat}{fn:Func}(hf:Tryz.prog.funcs[n]? =some fn)(hh:ou (Iz g par tn bs fl fz ord dO eg ec dyn) n fn aJ=true):SG (rS g aJ par tn bs fl fz ord dO eg ec dyn n fn):=agu s aJ par tn bs fl fz ord dO eg ec dyn hf hh id
abbrev rP (g:GT) (aJ:List (List Kd)) (tn:Nat) (dO eg ec:List (Nat×eE)) (n:Nat) (fn:Func):=rS g aJ [] tn [] [] [] [] dO eg ec [] n fn
def nZ {g:GT}(s:SG g){aJ:List (List Kd)}{tn:Nat}{dO eg ec:List (Nat×eE)}{n:Nat}{fn:Func}(hf:Tryz.prog.funcs[n]? =some fn)(hh:ou (Iz g [] tn [] [] [] [] dO eg ec []) n fn aJ=true):SG (rP g aJ tn dO eg ec n fn):=Cn s hf hh
def rC (g:GT)(pos:Nat)(ks ko:List LK)(aJ:List (List Kd))(par:List (Nat×Nat))(tn:Nat)(bs fl:List Nat)(fz ord:List (Nat×List Nat))(dO eg ec:List (Nat×eE))(dyn:List Nat)(n:Nat)(fn:Func):GT:=aK n (DO (Iz g par tn bs fl fz ord dO eg ec dyn) aJ pos ks ko fn) g
def Co {g:GT}(s:SG g){pos:Nat}{ks ko:List LK}{aJ:List (List Kd)}{par:List (Nat×Nat)}{tn:Nat}{bs fl:List Nat}{fz ord:List (Nat×List Nat)}{dO eg ec:List (Nat×eE)}{dyn:List Nat}{n:Nat}{fn:Func}(hf:Tryz.prog.funcs[n]? =some fn)(hs:cx.sig n=some (pos,ks,ko))(hh:Hf (Iz g par tn bs fl fz ord dO eg ec dyn) n fn aJ=true):SG (rC g pos ks ko aJ par tn bs fl fz ord dO eg ec dyn n fn):=atc s pos ks ko aJ par tn bs fl fz ord dO eg ec dyn hf hs hh id
def rC2 (g:GT)(pos:Nat)(ks ko:List LK)(aJ:List (List Kd))(par:List (Nat×Nat))(tn:Nat)(bs fl:List Nat)(fz ord:List (Nat×List Nat))(dO eg ec:List (Nat×eE))(dyn:List Nat)(n:Nat)(fn:Func):GT:=aK n (DO (acJ g par tn bs fl fz ord dO eg ec dyn) aJ pos ks ko fn) g
def acL {g:GT}(s:db Tryz.prog YJ g){pos:Nat}{ks ko:List LK}{aJ:List (List Kd)}{par:List (Nat×Nat)}{tn:Nat}{bs fl:List Nat}{fz ord:List (Nat×List Nat)}{dO eg ec:List (Nat×eE)}{dyn:List Nat}{n:Nat}{fn:Func}(hf:Tryz.prog.funcs[n]? =some fn)(hs:YJ.sig n=some (pos,ks,ko))(hh:Hf (acJ g par tn bs fl fz ord dO eg ec dyn) n fn aJ=true):db Tryz.prog YJ (rC2 g pos ks ko aJ par tn bs fl fz ord dO eg ec dyn n fn):=aoI s pos ks ko aJ par tn bs fl fz ord dO eg ec dyn hf hs hh id
def wT:List MV->Option MV:=qPR akC [] 4 [] [] [] Tryz.f49
def FO:GT:=aK 49 wT akC
def Mv:SG FO:=xY YI Tryz.func49
def wU:List MV->Option MV:=qPR FO [] 2 [] [] [] Tryz.f50
def NW:GT:=aK 50 wU FO
def Mw:SG NW:=xY Mv Tryz.func50
def wV:Option MV:=bd (wT []) λrA=>
 gA rA λcs=>
 gC cs λm FP=>
 gL m λL=>
 gN FP<|
 bd (wU []) λaZ=>
 gA aZ λDG=>
 jIL DG λeG L1=>
 some (.agg (dz L eG L1 ([]:List MV) ([]:List MV)))
def NX:GT:=aK 18 (akb wV) NW
def Mx:SG NX:=acI Mw [] 4 [] [] [] Tryz.func18 aaM (Wu aaM)
def KA:GT:=rP NX [] 23 [(1,⟨[1],[],[],[(0,[(2,.sc (.k .b))])],[]⟩)] [] [] 63 Tryz.f63
def KB:SG KA:=nZ Mx Tryz.func63 aaM
def Cp:GT:=rP KA [] 10 [] [] [] 148 Tryz.f148
def ED:SG Cp:=nZ KB Tryz.func148 aaM
def Hq:GT:=rP Cp [] 21 [] [] [] 98 Tryz.f98
def HL:SG Hq:=nZ ED Tryz.func98 aaM
def acM:GT:=rP Hq [] 5 [] [] [] 64 Tryz.f64
def Uw:SG acM:=nZ HL Tryz.func64 aaM
def NY:GT:=rS acM [] [] 26 [] [] [] [(3,[0,1,2,3,4,5,6,7])] [(1,⟨[1,2,4],[],[],[(0,[(18,.sc (.k .b))])],[24]⟩)] [] [] [] 31 Tryz.f31
def My:SG NY:=Cn Uw Tryz.func31 aaM
def KC:GT:=rP NY [] 13 [(1,⟨[0,2],[],[],[(0,[(9,.sc (.k .b))])],[]⟩)] [] [] 32 Tryz.f32
def KD:SG KC:=nZ My Tryz.func32 aaM
def R2:GT:=rP KC [] 10 [] [] [] 33 Tryz.f33
def PM:SG R2:=nZ KD Tryz.func33 aaM
def tD:GT:=rP R2 [] 10 [] [] [] 66 Tryz.f66
def xZ:SG tD:=nZ PM Tryz.func66 aaM
def tG:GT:=rP tD [] 10 [] [] [] 67 Tryz.f67
def ya:SG tG:=nZ xZ Tryz.func67 aaM
def EE:GT:=rP tG [] 23 [(1,⟨[1,2,4],[],[],[(0,[(18,.sc (.k .b))])],[]⟩)] [] [] 99 Tryz.f99
def FQ:SG EE:=nZ ya Tryz.func99 aaM
def Hr:GT:=rP EE [] 10 [] [] [] 100 Tryz.f100
def HM:SG Hr:=nZ FQ Tryz.func100 aaM
def KE:GT:=rP Hr [] 28 [] [] [] 68 Tryz.f68
def KF:SG KE:=nZ HM Tryz.func68 aaM
def Cq:GT:=rP KE [] 16 [] [] [] 149 Tryz.f149
def EF:SG Cq:=nZ KF Tryz.func149 aaM
def Ar:GT:=rS Cq [] [] 24 [] [] [] [(4,[0,1,2,3,4,5])] [(1,⟨[1,2,4,5],[],[],[(0,[(14,.sc (.k .b))])],[]⟩)] [] [] [] 101 Tryz.f101
def CW:SG Ar:=Cn EF Tryz.func101 aaM
def As:GT:=rS Ar [] [] 31 [30] [28] [(2,[11])] [(5,[0,1,2,3,4,5,0,1,2,4,3,5,6,3,4])] [] [] [] [] 69 Tryz.f69
def HN:SG As:=Cn CW Tryz.func69 aaM
def kA:List MV->Option MV:=qSR As [] [] 62 [] [34,36,49] [(1,[1])] [(14,[0,1,2,3,4,5,6,7,8,9,10,11]),(17,[0,1,2,3,4,5,6,7])] [] [(12,⟨[1,2,3,12],[],[],[(0,[(26,.sc (.k .b))])],[]⟩),(7,⟨[1,2,3,12],[],[],[(0,[(15,.sc (.k .b))])],[]⟩),(6,⟨[1,2,3,12],[],[],[(0,[(15,.sc (.k .b))])],[]⟩),(5,⟨[1,2,3,12],[],[],[(0,[(15,.sc (.k .b))])],[]⟩)] [] [] Tryz.f46
def yU:GT:=aK 46 kA As
def BU:SG yU:=acK HN Tryz.func46
def wW (o:MV):Option MV:=gA o λcs=>
 wS cs λClient Seq Kind Path Value Version Session Span=>
 bd (
 gk (decide ((0:Int)<=Client)) (
 gk (decide (Client<=1000)) (
 gk (decide ((1:Int)<=Seq)) (
 some [.b (decide (Seq<=1000000000))]) (
 some [.b false])) (
 some [.b false])) (
 some [.b false])) λvs=>
 gC vs λm8 acN=>
 gB m8 λwho=>
 gN acN<|
 bd (
 gk who (
 gk (decide ((0:Int)<=Kind)) (
 gk (decide (Kind<=11)) (
 gk (decide ((Path.length:Int)<=100)) (
 gk (decide ((Value.length:Int)<=1000)) (
 bd (kA [.agg [.i .i64 Client,.i .i64 Seq,.i .i64 Kind,.s Path,.s Value,.i .i64 Version,.i .i64 Session,.i .i64 Span]]) λrA=>
 gA rA λDG=>
 wS DG λnq HO aim KG nH iP R3 WL=>
 some [.b ((decide (Client=nq))&&((decide (Seq=HO))&&((decide (Kind=aim))&&((decide (Path=KG))&&((decide (Value=nH))&&((decide (Version=iP))&&((decide (Session=R3))&&(decide (Span=WL)))))))))]) (
 some [.b false])) (
 some [.b false])) (
 some [.b false])) (
 some [.b false])) (
 some [.b false])) λCe=>
 gC Ce λm17 aoL=>
 gB m17 λx=>
 gN aoL<|
 some (.b x)
def NZ:GT:=aK 16 (Pt wW) yU
def Mz:SG NZ:=agu BU [] [] 51 [] [] [] [(2,[0,1,2,3,4,5,6,7,8,9,10,11,12,13,14,15,16,17,18,19,20,21,22,23,24,25,26,27,28,29])] [(2,⟨[1,3],[],[],[(0,[(2,.sc (.k .b))])],[]⟩),(1,⟨[1],[],[],[(0,[(3,.sc (.k .b))])],[]⟩)] [] [] [] Tryz.func16 aaM (vg (λ_=>aaM))
def oS:GT:=rC NZ 0 eo eo [] [(0,1000000)] 19 [] [] [] [(1,[0,1,2,3,4,5,6,7,8,9,10,11,12,13,14])] [] [] [] [] 72 Tryz.f72
def zm:SG oS:=Co Mz Tryz.func72 aaM aaM
def tH:List MV->Option MV:=qPR oS [] 25 [] [(8,⟨[],[],[],[(0,[(0,.sc (.k (.i .u64))),(2,.sc (.k (.i .i64)))])],[]⟩),(5,⟨[],[],[],[(0,[(0,.sc (.k (.i .u64))),(2,.sc (.k (.i .i64)))])],[]⟩),(2,⟨[],[],[],[(0,[(0,.sc (.k (.i .u64))),(2,.sc (.k (.i .i64)))])],[]⟩)] [] Tryz.f84
def KH:GT:=aK 84 tH oS
def KI:SG KH:=xY zm Tryz.func84
def yb (n:MV):Option MV:=gI .u64 n λn1=>
 bd (tH [.i .u64 n1]) λrA=>
 gI .i64 rA λx=>
 fh (!decide ((8:Int)=0))<|
 some (.i .i64 (bo .i64 (1+(bo .i64 (Int.tdiv (bo .i64 (x+7)) 8)))))
def CX:GT:=aK 44 (Pt yb) KH
def KJ:SG CX:=acI KI [] 8 [] [] [] Tryz.func44 aaM (vg (λ_=>aaM))
def nt:List MV->Option MV:=qPR CX [] 9 [] [] [] Tryz.f45
def rB:GT:=aK 45 nt CX
def BV:SG rB:=xY KJ Tryz.func45
def Bq:List MV->Option MV:=qFR rB 5 [] [] 32 [15,29] [] [] [] [] [] [(4,⟨[1],[],[(6,.sc (.own 16 5 false)),(7,.sc (.k (.i .i64)))],[(2,[(6,.sc (.own 16 5 false))])],[]⟩)] [] Tryz.f15
def FR:GT:=aK 15 Bq rB
def MA:SG FR:=PL BV Tryz.func15
def yc:List MV->Option MV:=qFR FR 5 [] [] 12 [] [] [] [] [] [] [] [] Tryz.f47
def CY:GT:=aK 47 yc FR
def KL:SG CY:=PL MA Tryz.func47
def Br:List MV->Option MV:=qFR CY 5 [] [] 14 [] [] [] [] [] [] [] [] Tryz.f85
def FU:GT:=aK 85 Br CY
def MB:SG FU:=PL KL Tryz.func85
def yd:List MV->Option MV:=qSR FU [] [] 18 [15] [] [] [] [] [] [(2,⟨[7,8],[],[(0,.sc (.k .l)),(9,.sc (.k (.i .i64)))],[(2,[(0,.sc (.k .l))])],[]⟩)] [] Tryz.f48
def CZ:GT:=aK 48 yd FU
def KM:SG CZ:=acK MB Tryz.func48
def Bs:List MV->Option MV:=qFR CZ 5 [] [] 26 [18] [] [] [(1,[0,1,2,3,4,5,6,7,8,9,10,11,12,15,16,18,19,13,14,17,20,21])] [] [] [] [] Tryz.f17
def FV:GT:=aK 17 Bs CZ
def MC:SG FV:=PL KM Tryz.func17
def oT:List MV->Option MV:=qPR FV [] 29 [] [] [(5,⟨[14,15],[],[(4,.sc (.own 13 5 true)),(16,.sc (.k (.i .i64)))],[(1,[(2,.sc (.k .s)),(3,.sc (.k (.i .i64)))]),(2,[(4,.sc (.own 13 5 true))])],[13,25]⟩)] Tryz.f5
def ye:GT:=aK 5 oT FV
def FW:SG ye:=xY MC Tryz.func5
def mA:List MV->Option MV:=qPR ye [] 6 [] [] [] Tryz.f173
def EG:GT:=aK 173 mA ye
def FX:SG EG:=xY FW Tryz.func173
def oU (x y:MV):Option MV:=gI .i64 x λx1=>
 gI .i64 y λy1=>
 bd (mA [.i .i64 x1]) λrA=>
 gB rA λx2=>
 bd (mA [.i .i64 y1]) λaZ=>
 gB aZ λx3=>
 gk x2 (
 gk x3 (
 some (.i .i64 0)) (
 some (.i .i64 (-1)))) (
 gk x3 (
 some (.i .i64 1)) (
 gk (decide (x1<y1)) (
 some (.i .i64 (-1))) (
 gk (decide (y1<x1)) (
 some (.i .i64 1)) (
 some (.i .i64 0)))))
def tJ:GT:=aK 119 (Ui oU) EG
def C0:SG tJ:=acI FX [] 20 [] [] [] Tryz.func119 aaM (Bj (λ_ _=>aaM))
def gO:List MV->Option MV:=qPR tJ [] 9 [] [] [] Tryz.f145
def nI:GT:=aK 145 gO tJ
def yf:SG nI:=xY C0 Tryz.func145
def bY:GT:=nI
def fG (x0 x1:MV):bY 145 [x0,x1]=gO [x0,x1]:=aaM
def cf (x target cmp:MV):Option MV:=gL x λx1=>
 gI .i64 target λvr=>
 gR cmp λR4=>
 fU x1 λlen=>
 bd (sG 3000 (λFP=>
 jII FP λi j=>
 gk (decide (i<j)) (
 fh (decide ((0:Int)<=1))<|
 idx x1 (bo .i64 (OF (bo .u64 (bo .i64 (i+j))) (2^min (sh 1) (BY .u64)))) λy=>
 gA y λcs=>
 vo cs λClient Seq E Value Version Names=>
 SR R4 λfn cap=>
 fh (!gv fn)<|
 bd (bY fn ([.agg (iN Client Seq E Value Version Names),.i .i64 vr]++cap)) λrA=>
 gI .i64 rA λx2=>
 bd (
 gk (decide (x2<0)) (
 some (0,[.i .i64 (bo .i64 ((bo .i64 (OF (bo .u64 (bo .i64 (i+j))) (2^min (sh 1) (BY .u64))))+1)),.i .i64 j])) (
 some (0,[.i .i64 i,.i .i64 (bo .i64 (OF (bo .u64 (bo .i64 (i+j))) (2^min (sh 1) (BY .u64))))]))) λp1=>
 fh (adZ p1.1 0)<|
 oII .i64 .i64 p1.2 λi1 j1=>
 some (.inl [.i .i64 i1,.i .i64 j1])) (
 some (.inr (2,[.i .i64 i])))) [.i .i64 0,.i .i64 (len:Int)]) λp=>
 fh (adZ p.1 2)<|
 gC p.2 λm10 aoM=>
 gI .i64 m10 λi2=>
 gN aoM<|
 bd (
 gk (decide (i2<(len:Int))) (
 idx x1 i2 λy1=>
 gA y1 λDG=>
 vo DG λnq HO E1 nH iP C1=>
 SR R4 λBT uB=>
 fh (!gv BT)<|
 bd (bY BT ([.agg (iN nq HO E1 nH iP C1),.i .i64 vr]++uB)) λaZ=>
 gI .i64 aZ λx3=>
 some [.i .i64 i2,.b (decide (x3=0))]) (
 some [.i .i64 i2,.b false])) λvs=>
 jIB vs λx4 x5=>
 some (.cT [.i .i64 x4,.b x5])
def dc:GT:=aK 144 (RO cf) nI
def kN:SG dc:=acI yf [] 49 [(8,⟨[0,1,2,8,9],[],[],[(0,[(6,.sc (.k (.i .i64))),(7,.sc (.k .b))])],[]⟩)] [(6,⟨[0,1,2,8,11],[],[],[(0,[(9,.sc (.k (.i .i64))),(10,.sc (.k (.i .i64)))])],[]⟩)] [(3,⟨[0,1,2,8],[],[(9,.sc (.k (.i .i64))),(10,.sc (.k (.i .i64)))],[(2,[(9,.sc (.k (.i .i64)))])],[]⟩)] Tryz.func144 aaM (xM (λ_ _ _=>aaM))
def jI:List MV->Option MV:=qPR dc [] 12 [] [] [] Tryz.f92
def pW:GT:=aK 92 jI dc
def Au:SG pW:=xY kN Tryz.func92
def yg:List MV->Option MV:=qPR pW [] 22 [] [] [] Tryz.f78
def KN:GT:=aK 78 yg pW
def KO:SG KN:=xY Au Tryz.func78
def yV:GT:=rP KN [[.i .i64,.i .i64,.i .i64,.s,.s,.i .i64,.i .i64,.i .i64]] 9 [] [] [] 215 Tryz.f215
def BW:SG yV:=nZ KO Tryz.func215 aaM
def lU:GT:=rP yV [] 19 [] [] [(2,⟨[0,1,7],[],[(8,.sc (.k (.i .i64)))],[(1,[(4,.sc (.k (.i .i64)))]),(2,[])],[]⟩)] 168 Tryz.f168
def pX:SG lU:=nZ BW Tryz.func168 aaM
def jY:GT:=rP lU [] 9 [] [] [] 214 Tryz.f214
def oc:SG jY:=nZ pX Tryz.func214 aaM
def Cr:GT:=rS jY [] [] 55 [51] [] [] [] [(7,⟨[2,5,7,8,9,10,11,12,13],[52],[],[(0,[(48,.sc (.k .b))])],[52]⟩)] [(8,⟨[2,7,11,12,13],[],[],[(0,[(5,.sc (.own 52 27 true))])],[52]⟩)] [(3,⟨[2,11,12],[],[(5,.sc (.own 52 27 true)),(13,.sc (.k (.i .i64)))],[(2,[(5,.sc (.own 52 27 true))])],[52]⟩)] [] 169 Tryz.f169
def EH:SG Cr:=Cn oc Tryz.func169 aaM
def N0:GT:=rP Cr [] 5 [] [] [] 171 Tryz.f171
def MD:SG N0:=nZ EH Tryz.func171 aaM
def tK:GT:=rC N0 0 eo eo [] [(0,1000000)] 45 [] [] [] [(1,[0,1,4,5,6,7,2,3,8,9,10,11,0,1,4,5,6,7,8,2,3,9,10,11,12,2,8]),(4,[0,1,2,3,4,5,6,7,8,9,10,11,12,13])] [(2,⟨[0,5,6,1000000],[2000027],[],[(0,[(31,.sc (.k .b))])],[]⟩)] [] [] [] 170 Tryz.f170
def yh:SG tK:=Co MD Tryz.func170 aaM aaM
def tT:GT:=rC tK 0 eo eo [] [(0,1000000)] 60 [] [] [] [(3,[0,1,2,3,4,5,6,7,8,9,10,11])] [] [(3,⟨[0,1,1000000],[2000027],[],[(0,[(6,.sc (.k (.i .i64)))]),(1,[(4,.sc (.k .s)),(5,.sc (.k .b))])],[]⟩)] [(9,⟨[0,6,10],[],[(1,.sc (.k (.i .i64))),(1000000,.box [.k (.i .i64),.k (.i .i64),.k (.i .i64),.k (.i .i64),.k (.i .i64),.k (.i .i64),.k (.i .i64),.k (.i .i64),.k .l,.k (.i .i64),.k (.i .i64),.k (.i .i64),.k (.i .i64),.k .l,.k (.i .i64),.k (.i .i64),.k .l,.k (.i .i64),.k (.h .u8 30),.k .l,.k (.i .i64),.k .l,.k .l,.k .l,.k .l,.k .l,.k .l,.own 2000027 93 false])],[(1,[(4,.sc (.k .s)),(5,.sc (.k .b)),(1000000,.box [.k (.i .i64),.k (.i .i64),.k (.i .i64),.k (.i .i64),.k (.i .i64),.k (.i .i64),.k (.i .i64),.k (.i .i64),.k .l,.k (.i .i64),.k (.i .i64),.k (.i .i64),.k (.i .i64),.k .l,.k (.i .i64),.k (.i .i64),.k .l,.k (.i .i64),.k (.h .u8 30),.k .l,.k (.i .i64),.k .l,.k .l,.k .l,.k .l,.k .l,.k .l,.own 2000027 93 false])]),(2,[(1000000,.box [.k (.i .i64),.k (.i .i64),.k (.i .i64),.k (.i .i64),.k (.i .i64),.k (.i .i64),.k (.i .i64),.k (.i .i64),.k .l,.k (.i .i64),.k (.i .i64),.k (.i .i64),.k (.i .i64),.k .l,.k (.i .i64),.k (.i .i64),.k .l,.k (.i .i64),.k (.h .u8 30),.k .l,.k (.i .i64),.k .l,.k .l,.k .l,.k .l,.k .l,.k .l,.own 2000027 93 false])])],[]⟩)] [] 115 Tryz.f115
def yi:SG tT:=Co yh Tryz.func115 aaM aaM
def Hs:GT:=rP tT [] 10 [] [] [] 102 Tryz.f102
def HP:SG Hs:=nZ yi Tryz.func102 aaM
def KP:GT:=rS Hs [] [] 75 [74] [73] [(12,[11])] [(13,[0,1,2,3,4,0,1,3,2,4,5,2,3])] [(5,⟨[4,6,8,10,11],[],[],[(0,[(37,.sc (.k .b))])],[57]⟩),(3,⟨[1,4,6,8,10,11],[],[],[(0,[(22,.sc (.k .b))])],[57]⟩)] [(11,⟨[6,8,12],[],[],[(0,[(11,.box [.k (.i .i64),.k (.i .i64),.k (.i .i64),.k .s,.own 57 89 true,.k (.i .i64),.k (.i .i64),.k .s,.k .l,.k (.i .i64),.k (.i .i64),.k .b,.k (.i .i64),.k .s,.k .l])])],[57]⟩),(8,⟨[4,6,8,10],[],[],[(0,[(11,.box [.k (.i .i64),.k (.i .i64),.k (.i .i64),.k .s,.own 57 89 true,.k (.i .i64),.k (.i .i64),.k .s,.k .l,.k (.i .i64),.k (.i .i64),.k .b,.k (.i .i64),.k .s,.k .l])])],[57]⟩)] [] [] 116 Tryz.f116
def KQ:SG KP:=Cn HP Tryz.func116 aaM
def q8:GT:=rP KP [] 24 [(2,⟨[3,5,6],[],[],[(0,[(4,.sc (.k .b))])],[]⟩)] [] [] 79 Tryz.f79
def vX:SG q8:=nZ KQ Tryz.func79 aaM
def oV:GT:=rS q8 [] [] 19 [] [] [] [(4,[0,1,2,3,4,5])] [] [] [(2,⟨[0,3,7],[],[(8,.sc (.k (.i .i64)))],[(1,[(4,.sc (.k (.i .i64)))]),(2,[])],[]⟩)] [] 125 Tryz.f125
def tU:SG oV:=Cn vX Tryz.func125 aaM
def mH:GT:=rP oV [] 9 [] [] [] 80 Tryz.f80
def q9:SG mH:=nZ tU Tryz.func80 aaM
def pA:GT:=rP mH [] 9 [] [] [] 81 Tryz.f81
def uC:SG pA:=nZ q9 Tryz.func81 aaM
def vt:GT:=rC pA 0 eo aik [] [(0,1000000)] 12 [] [] [] [(1,[0,1,2,3,4,5,6,8,7,9,0,1,2,3,4,5,6,7,8,9,10,8,7])] [] [] [] [] 40 Tryz.f40
def zn:SG vt:=Co uC Tryz.func40 aaM aaM
def KR:GT:=rS vt [] [] 51 [] [] [(9,[4])] [(4,[0,2,1,3,0,1,2,3,4,2,1]),(5,[0,1,2,3,4,5,6,7,8,9,10,11])] [] [(7,⟨[1,2,3,5],[],[],[(0,[(4,.box [.k (.i .i64),.k (.i .i64)])])],[]⟩)] [] [] 42 Tryz.f42
def KT:SG KR:=Cn zn Tryz.func42 aaM
def pY (b:MV):Option MV:=gL b λb1=>
 fU b1 λlen=>
 gk (decide ((len:Int)=0)) (
 some (.cT [.i .u64 0,.list ([]:List MV),.i .i64 2])) (
 idx b1 0 λy=>
 gI .u8 y λx=>
 fh (rU 1 b1)<|
 fU b1 λse=>
 fh (decide ((0:Int)<=1/\(1:Int)<=(se:Int)/\(se:Int)<=(se:Int)))<|
 bd (
 gk (decide ((8:Int)<(bo .i64 x))) (
 some [.b true]) (
 gk (decide ((0:Int)<(bo .i64 x))) (
 fU (IN (sh 1) (IT (sh (se:Int)) b1)) λBX=>
 gk (decide ((0:Int)<(BX:Int))) (
 idx (IN (sh 1) (IT (sh (se:Int)) b1)) 0 λy1=>
 gI .u8 y1 λx1=>
 some [.b (decide (x1=0))]) (
 some [.b false])) (
 some [.b false]))) λvs=>
 gC vs λm FP=>
 gB m λx2=>
 gN FP<|
 gk x2 (
 some (.cT [.i .u64 0,.list ([]:List MV),.i .i64 3])) (
 fU (IN (sh 1) (IT (sh (se:Int)) b1)) λPN=>
 gk (decide ((PN:Int)<(bo .i64 x))) (
 some (.cT [.i .u64 0,.list ([]:List MV),.i .i64 2])) (
 fU (IN (sh 1) (IT (sh (se:Int)) b1)) λUx=>
 fh (decide ((0:Int)<=0/\(0:Int)<=(bo .i64 x)/\(bo .i64 x)<=(Ux:Int)))<|
 fU (IN (sh 0) (IT (sh (bo .i64 x)) (IN (sh 1) (IT (sh (se:Int)) b1)))) λR5=>
 bd (Loop (λKU=>
 oII .u64 .i64 KU λn x3=>
 gk (decide (x3<(R5:Int))) (
 idx (IN (sh 0) (IT (sh (bo .i64 x)) (IN (sh 1) (IT (sh (se:Int)) b1)))) x3 λy2=>
 gI .u8 y2 λx4=>
 fh (decide ((0:Int)<=8))<|
 some (.inl [.i .u64 (bOr .u64 (bo .u64 (n *2^min (sh 8) (BY .u64))) (bo .u64 x4)),.i .i64 (bo .i64 (x3+1))])) (
 some (.inr (3,[.i .u64 n])))) [.i .u64 0,.i .i64 0]) λp=>
 fh (adZ p.1 3)<|
 gC p.2 λm3 Uy=>
 gI .u64 m3 λn1=>
 gN Uy<|
 fh (rU 1 (IN (sh 1) (IT (sh (se:Int)) b1)))<|
 fU (IN (sh 1) (IT (sh (se:Int)) b1)) λR6=>
 fh (decide ((0:Int)<=(bo .i64 x)/\(bo .i64 x)<=(R6:Int)/\(R6:Int)<=(R6:Int)))<|
 some (.cT [.i .u64 n1,.list (IN (sh (bo .i64 x)) (IT (sh (R6:Int)) (IN (sh 1) (IT (sh (se:Int)) b1)))),.i .i64 0]))))
def KV:GT:=aK 19 (Pt pY) KR
def KW:SG KV:=fnS KT [] [] 60 [] [] [] [(3,[0,1,2,3,4,5,6,7]),(14,[0,1,2,3,4,5,6])] [(4,⟨[5,6],[],[],[(0,[(19,.sc (.k .b))])],[]⟩)] [] [(10,⟨[5,6,44,45],[],[(7,.sc (.k (.i .u64))),(46,.sc (.k (.i .i64)))],[(3,[(7,.sc (.k (.i .u64)))])],[]⟩)] [] Tryz.func19 aaM (vg (λ_=>aaM))
def mV (b:MV):Option MV:=gL b λb1=>
 bd (pY (.list b1)) λrA=>
 gT rA λvs=>
 gC vs λm FP=>
 gI .u64 m λx=>
 jLI FP λx1 x2=>
 fh (decide ((0:Int)<=1))<|
 some (.cT [.i .i64 (IU .i64 (bo .i64 (OF x (2^min (sh 1) (BY .u64)))) (bo .i64 (0-(bo .i64 (S9 .u64 x 1))))),.list x1,.i .i64 x2])
def Cs:GT:=aK 86 (Pt mV) KV
def EI:SG Cs:=fnP KW [] 24 [] [] [] Tryz.func86 aaM (vg (λ_=>aaM))
def lV (b most:MV):Option MV:=gL b λb1=>
 gI .i64 most λaoN=>
 bd (pY (.list b1)) λrA=>
 gT rA λvs=>
 gC vs λm FP=>
 gI .u64 m λx=>
 jLI FP λx1 x2=>
 gk (!decide (x2=0)) (
 some (.cT [.s ([]:List UInt8),.list ([]:List MV),.i .i64 x2])) (
 gk (decide ((bo .u64 (imax aoN 0))<x)) (
 some (.cT [.s ([]:List UInt8),.list ([]:List MV),.i .i64 5])) (
 fU x1 λlen=>
 gk (decide ((bo .u64 (len:Int))<x)) (
 some (.cT [.s ([]:List UInt8),.list ([]:List MV),.i .i64 2])) (
 fU x1 λse=>
 fh (decide ((0:Int)<=0/\(0:Int)<=x/\x<=(se:Int)))<|
 L8 (IN (sh 0) (IT (sh x) x1)) λbs=>
 fh (rU 1 x1)<|
 fU x1 λBX=>
 fh (decide ((0:Int)<=x/\x<=(BX:Int)/\(BX:Int)<=(BX:Int)))<|
 some (.cT [.s bs,.list (IN (sh x) (IT (sh (BX:Int)) x1)),.i .i64 0]))))
def bN:GT:=aK 87 (Ui lV) Cs
def tV:SG bN:=fnS EI [] [] 39 [] [] [] [(8,[0,1,2,3,4,5,6,7,8,9])] [] [] [] [] Tryz.func87 aaM (Bj (λ_ _=>aaM))
def takeN:ZY:=⟨27,95,28,156,154,208,158,160,3,9,4⟩
def yW:TkF:=⟨86,87,16⟩
def acO:Ctx:=Ix bN [] 47 [] [36,42,46] [] [] [] [] [] []
def akF:Ai Tryz.prog acO bN yW takeN 20 51 52 Tryz.f20 (λk=>k) (dA Tryz.f20 dB) where
 hT:=jd
 key:=λ_=>rfl
 snd:=λf ms r h=>dJ.jR (c:=cx) (c':=acO) ⟨rfl,rfl,rfl,rfl,rfl,rfl,rfl,rfl,rfl⟩ (tV.all f ms r h)
 gv:=⟨aaM,aaM,aaM⟩
 tyO:=⟨dW 27,aaM,aaM,aaM,aaM⟩
 tyR:=⟨dW 156,aaM,aaM,aaM,aaM⟩
 tyY:=⟨dW 95,aaM,aaM,aaM⟩
 tye:=⟨dW 28,aaM,aaM,aaM⟩
 tyi:=⟨dW 3,aaM,aaM,aaM⟩
 tyS:=⟨dW 9,aaM,aaM,aaM⟩
 tyI:=⟨dW 158,aaM,aaM,aaM⟩
 afU:=aaM
 pos:=Tryz.func20
 name:=aaM
 tmps:=aaM
 res:=aaM
 body:=aaM
 ops:=by constructor<;>exact ⟨aaM,aaM,aaM⟩
 ints:=⟨Tryz.f51,λk=>k,dA Tryz.f51 dB,⟨Tryz.func51,aaM,aaM,aaM,aaM,by constructor<;>exact ⟨aaM,aaM,aaM⟩⟩⟩
 text:=⟨Tryz.f52,λk=>k,dA Tryz.f52 dB,⟨Tryz.func52,aaM,aaM,aaM,aaM,by constructor<;>exact ⟨aaM,aaM,aaM⟩⟩⟩
 mix:=oR
 d7:=aaM
 d10:=aaM
 s35:=aaM
 s47:=aaM
 s51:=aaM
 m38:=aaM
 m53:=aaM
 gvF:=aaM
 tyL:=⟨dW 208,aaM,aaM⟩
 blR:=λ_ _ _=>aaM
 blO:=aaM
def yl (a:MV):Option MV:=WD bN yW [a]
def C2:GT:=aK 20 (Pt yl) bN
def KX:SG C2:=tV.add λf ms r hk hr=>by have hk:f=20:=hk;subst hk;exact dJ.jR (c:=acO) (c':=cx) ⟨rfl,rfl,rfl,rfl,rfl,rfl,rfl,rfl,rfl⟩ (af1 akF (vg (B:=WD bN yW) (λ_=>rfl) hr))
def oW:List MV->Option MV:=qP C2 [] 45 [(2,⟨[4,5,6],[],[],[(0,[(21,.sc (.k .b))])],[]⟩)] [] [(6,⟨[25],[],[(5,.sc (.k .l)),(7,.sc (.own 23 27 false)),(26,.sc (.k (.i .i64)))],[(1,[(2,.sc (.k .l)),(3,.sc (.k (.i .i64)))]),(2,[(5,.sc (.k .l)),(7,.sc (.own 23 27 false))])],[]⟩)] Tryz.f7
def ym:GT:=aK 7 oW C2
def FY:SG ym:=cQ KX Tryz.func7
def jJ:List MV->Option MV:=qP ym [] 58 [(10,⟨[2,4,6,8],[],[],[(0,[(47,.sc (.k .b))])],[]⟩),(8,⟨[2,3,4,6,7,8],[],[],[(0,[(37,.sc (.k .b))])],[]⟩),(6,⟨[2,3,4,6,7,8],[],[],[(0,[(27,.sc (.k .b))])],[]⟩)] [(9,⟨[2,8],[],[],[(0,[(4,.box [.k (.i .i64),.k (.i .i64),.k (.i .i64),.k .s,.k (.i .i64),.k .l]),(6,.box [.k (.i .i64),.k (.i .i64),.k (.i .i64),.k .s,.k (.i .i64),.k .l])]),(1,[(4,.box [.k (.i .i64),.k (.i .i64),.k (.i .i64),.k .s,.k (.i .i64),.k .l]),(5,.sc (.k .b))])],[]⟩),(5,⟨[2,3,7,8],[],[],[(0,[(4,.box [.k (.i .i64),.k (.i .i64),.k (.i .i64),.k .s,.k (.i .i64),.k .l]),(6,.box [.k (.i .i64),.k (.i .i64),.k (.i .i64),.k .s,.k (.i .i64),.k .l])]),(1,[(4,.box [.k (.i .i64),.k (.i .i64),.k (.i .i64),.k .s,.k (.i .i64),.k .l]),(5,.sc (.k .b))])],[]⟩)] [] Tryz.f88
def pZ:GT:=aK 88 jJ ym
def Av:SG pZ:=cQ FY Tryz.func88
def gQ:List MV->Option MV:=qC pZ 0 cu cu [] [(0,1000000)] 2 [] [] [] [] [] [] [] [] Tryz.f129
def nJ:GT:=aK 129 gQ pZ
def yn:SG nJ:=vq Av Tryz.func129
def iQ:List MV->Option MV:=qP nJ [] 9 [] [] [] Tryz.f258
def oX:GT:=aK 258 iQ nJ
def zo:SG oX:=cQ yn Tryz.func258
def bP:GT:=oX
def fp (x0 x1:MV):bP 258 [x0,x1]=iQ [x0,x1]:=aaM
def bZ (x target cmp:MV):Option MV:=gL x λx1=>
 gI .i64 target λvr=>
 gR cmp λR4=>
 fU x1 λlen=>
 bd (Loop (λFP=>
 jII FP λi j=>
 gk (decide (i<j)) (
 fh (decide ((0:Int)<=1))<|
 idx x1 (bo .i64 (OF (bo .u64 (bo .i64 (i+j))) (2^min (sh 1) (BY .u64)))) λy=>
 gA y λcs=>
 aks cs λId Span ek=>
 SR R4 λfn cap=>
 fh (!gv fn)<|
 bd (bP fn ([.agg [.i .i64 Id,.i .i64 Span,.i .i64 ek],.i .i64 vr]++cap)) λrA=>
 gI .i64 rA λx2=>
 bd (
 gk (decide (x2<0)) (
 some (0,[.i .i64 (bo .i64 ((bo .i64 (OF (bo .u64 (bo .i64 (i+j))) (2^min (sh 1) (BY .u64))))+1)),.i .i64 j])) (
 some (0,[.i .i64 i,.i .i64 (bo .i64 (OF (bo .u64 (bo .i64 (i+j))) (2^min (sh 1) (BY .u64))))]))) λp1=>
 fh (adZ p1.1 0)<|
 oII .i64 .i64 p1.2 λi1 j1=>
 some (.inl [.i .i64 i1,.i .i64 j1])) (
 some (.inr (2,[.i .i64 i])))) [.i .i64 0,.i .i64 (len:Int)]) λp=>
 fh (adZ p.1 2)<|
 gC p.2 λm7 acN=>
 gI .i64 m7 λi2=>
 gN acN<|
 bd (
 gk (decide (i2<(len:Int))) (
 idx x1 i2 λy1=>
 gA y1 λDG=>
 aks DG λId1 WL akG=>
 SR R4 λBT uB=>
 fh (!gv BT)<|
 bd (bP BT ([.agg [.i .i64 Id1,.i .i64 WL,.i .i64 akG],.i .i64 vr]++uB)) λaZ=>
 gI .i64 aZ λx3=>
 some [.i .i64 i2,.b (decide (x3=0))]) (
 some [.i .i64 i2,.b false])) λvs=>
 jIB vs λx4 x5=>
 some (.cT [.i .i64 x4,.b x5])
def cR:GT:=aK 257 (RO bZ) oX
def kf:SG cR:=fnP zo [] 49 [(8,⟨[0,1,2,8,9],[],[],[(0,[(6,.sc (.k (.i .i64))),(7,.sc (.k .b))])],[]⟩)] [(6,⟨[0,1,2,8,11],[],[],[(0,[(9,.sc (.k (.i .i64))),(10,.sc (.k (.i .i64)))])],[]⟩)] [(3,⟨[0,1,2,8],[],[(9,.sc (.k (.i .i64))),(10,.sc (.k (.i .i64)))],[(2,[(9,.sc (.k (.i .i64)))])],[]⟩)] Tryz.func257 aaM (xM (λ_ _ _=>aaM))
def kC:List MV->Option MV:=qP cR [] 12 [] [] [] Tryz.f221
def rD:GT:=aK 221 kC cR
def BZ:SG rD:=cQ kf Tryz.func221
def Bt:List MV->Option MV:=qP rD [] 14 [] [] [] Tryz.f180
def FZ:GT:=aK 180 Bt rD
def MF:SG FZ:=cQ BZ Tryz.func180
def ic:List MV->Option MV:=qP FZ [] 18 [(1,⟨[0,1],[],[],[(0,[(4,.sc (.k .b))])],[]⟩)] [] [] Tryz.f316
def kO:GT:=aK 316 ic FZ
def uD:SG kO:=cQ MF Tryz.func316
def ig:List MV->Option MV:=qP kO [] 15 [] [] [] Tryz.f295
def kP:GT:=aK 295 ig kO
def uE:SG kP:=cQ uD Tryz.func295
def lf:List MV->Option MV:=qP kP [] 11 [] [] [] Tryz.f267
def oY:GT:=aK 267 lf kP
def zp:SG oY:=cQ uE Tryz.func267
def mW:List MV->Option MV:=qP oY [] 6 [] [] [] Tryz.f300
def vY:GT:=aK 300 mW oY
def EJ:SG vY:=cQ zp Tryz.func300
def iR:GT:=vY
def rF (x0:MV):iR 300 [x0]=mW [x0]:=aaM
def nu (sA f Hj:MV):Option MV:=gS sA λsA1=>
 gR f λf1=>
 gB Hj λakH=>
 bd (Loop (λFP=>
 gC FP λm KU=>
 gL m λes=>
 gN KU<|
 gk (L7 es) (
 SR f1 λfn cap=>
 fh (!gv fn)<|
 bd (iR fn ([.i .i32 (CA es)]++cap)) λrA=>
 gB rA λx=>
 gk (decide (x=akH)) (
 some (.inr (1,[.i .i64 (sJ es)]))) (
 some (.inl [.list (CB es)]))) (
 some (.inr (2,[])))) [.list ([.s sA1,.i .i64 0]:List MV)]) λp=>
 gk (adZ p.1 2) (
 gN p.2<|
 some (.i .i64 (-1))) (
 fh (adZ p.1 1)<|
 gC p.2 λm1 acP=>
 gI .i64 m1 λx1=>
 gN acP<|
 some (.i .i64 x1))
def rG:GT:=aK 339 (RO nu) vY
def B0:SG rG:=fnP EJ [] 21 [] [] [(2,⟨[1,2],[],[(10,.mp ⟨true,[],true⟩)],[(1,[(6,.sc (.k (.i .i64)))]),(2,[])],[]⟩)] Tryz.func339 aaM (xM (λ_ _ _=>aaM))
def lg:List MV->Option MV:=qP rG [] 8 [] [] [] Tryz.f327
def oZ:GT:=aK 327 lg rG
def zq:SG oZ:=cQ B0 Tryz.func327
def iS:List MV->Option MV:=qP oZ [] 9 [] [] [] Tryz.f299
def lW:GT:=aK 299 iS oZ
def vZ:SG lW:=cQ zq Tryz.func299
def vu:List MV->Option MV:=qP lW [] 20 [(1,⟨[0],[],[],[(0,[(2,.sc (.k .b))])],[]⟩)] [] [] Tryz.f271
def Aw:GT:=aK 271 vu lW
def HQ:SG Aw:=cQ vZ Tryz.func271
def o4:List MV->Option MV:=qP Aw [] 6 [] [] [] Tryz.f270
def yo:GT:=aK 270 o4 Aw
def F3:SG yo:=cQ HQ Tryz.func270
def eU:GT:=yo
def nK (x0:MV):eU 270 [x0]=o4 [x0]:=aaM
def gd (sA f:MV):Option MV:=gL sA λsA1=>
 gR f λf1=>
 fU sA1 λlen=>
 bd (Loop (λFP=>
 gC FP λm KU=>
 gI .i64 m λx=>
 gN KU<|
 gk (decide (x<(len:Int))) (
 idx sA1 x λy=>
 gS y λx1=>
 SR f1 λfn cap=>
 fh (!gv fn)<|
 bd (eU fn ([.s x1]++cap)) λrA=>
 gB rA λx2=>
 gk x2 (
 some (.inr (1,[.i .i64 x]))) (
 some (.inl [.i .i64 (bo .i64 (x+1))]))) (
 some (.inr (2,[])))) [.i .i64 0]) λp=>
 gk (adZ p.1 2) (
 gN p.2<|
 some (.i .i64 (-1))) (
 fh (adZ p.1 1)<|
 gC p.2 λm1 acP=>
 gI .i64 m1 λx3=>
 gN acP<|
 some (.i .i64 x3))
def kg:GT:=aK 297 (Ui gd) yo
def tW:SG kg:=fnP F3 [] 19 [] [] [(2,⟨[0,1,7],[],[(8,.sc (.k (.i .i64)))],[(1,[(4,.sc (.k (.i .i64)))]),(2,[])],[]⟩)] Tryz.func297 aaM (Bj (λ_ _=>aaM))
def eA:List MV->Option MV:=qP kg [] 9 [] [] [] Tryz.f269
def iw:GT:=aK 269 eA kg
def ra:SG iw:=cQ tW Tryz.func269
def yp:List MV->Option MV:=qP iw [] 34 [(7,⟨[],[],[],[(0,[(2,.sc (.own 24 9 true)),(3,.sc (.k .b)),(6,.sc (.own 24 9 true))])],[24]⟩),(2,⟨[0,4,5],[],[],[(0,[(12,.sc (.k .b))])],[24]⟩)] [] [] Tryz.f236
def C3:GT:=aK 236 yp iw
def KY:SG C3:=cQ ra Tryz.func236
def iA:List MV->Option MV:=qP C3 [] 6 [] [] [] Tryz.f332
def yX:GT:=aK 332 iA C3
def B1:SG yX:=cQ KY Tryz.func332
def lh (x y:MV):Option MV:=gS x λx1=>
 gS y λy1=>
 bd (iA [.s x1]) λrA=>
 gB rA λx2=>
 bd (iA [.s y1]) λaZ=>
 gB aZ λx3=>
 gk x2 (
 gk x3 (
 some (.i .i64 0)) (
 some (.i .i64 (-1)))) (
 gk x3 (
 some (.i .i64 1)) (
 gk (aei x1 y1) (
 some (.i .i64 (-1))) (
 gk (!(aei x1 y1||decide (x1=y1))) (
 some (.i .i64 1)) (
 some (.i .i64 0)))))
def o6:GT:=aK 313 (Ui lh) yX
def zt:SG o6:=fnP B1 [] 20 [] [] [] Tryz.func313 aaM (Bj (λ_ _=>aaM))
def iT:List MV->Option MV:=qP o6 [] 36 [] [] [(2,⟨[0,1,9,10],[],[(11,.sc (.k (.i .i64)))],[(1,[(4,.sc (.k (.i .i64)))]),(2,[])],[]⟩)] Tryz.f292
def lX:GT:=aK 292 iT o6
def v8:SG lX:=cQ zt Tryz.func292
def yq:List MV->Option MV:=qP lX [] 29 [(3,⟨[5,6,7,8],[],[],[(0,[(4,.sc (.k .b))])],[]⟩)] [] [] Tryz.f261
def C4:GT:=aK 261 yq lX
def KZ:SG C4:=cQ v8 Tryz.func261
def gU:List MV->Option MV:=qP C4 [] 15 [] [] [] Tryz.f260
def nL:GT:=aK 260 gU C4
def yr:SG nL:=cQ KZ Tryz.func260
def bQ:GT:=nL
def fe (x0 x1:MV):bQ 260 [x0,x1]=gU [x0,x1]:=aaM
def b7 (x target cmp:MV):Option MV:=gL x λx1=>
 gS target λvr=>
 gR cmp λR4=>
 fU x1 λlen=>
 bd (Loop (λFP=>
 jII FP λi j=>
 gk (decide (i<j)) (
 fh (decide ((0:Int)<=1))<|
 idx x1 (bo .i64 (OF (bo .u64 (bo .i64 (i+j))) (2^min (sh 1) (BY .u64)))) λy=>
 gA y λcs=>
 acz cs λPath Value Version cm=>
 SR R4 λfn cap=>
 fh (!gv fn)<|
 bd (bQ fn ([.agg [.s Path,.s Value,.i .i64 Version,.i .i64 cm],.s vr]++cap)) λrA=>
 gI .i64 rA λx2=>
 bd (
 gk (decide (x2<0)) (
 some (0,[.i .i64 (bo .i64 ((bo .i64 (OF (bo .u64 (bo .i64 (i+j))) (2^min (sh 1) (BY .u64))))+1)),.i .i64 j])) (
 some (0,[.i .i64 i,.i .i64 (bo .i64 (OF (bo .u64 (bo .i64 (i+j))) (2^min (sh 1) (BY .u64))))]))) λp1=>
 fh (adZ p1.1 0)<|
 oII .i64 .i64 p1.2 λi1 j1=>
 some (.inl [.i .i64 i1,.i .i64 j1])) (
 some (.inr (2,[.i .i64 i])))) [.i .i64 0,.i .i64 (len:Int)]) λp=>
 fh (adZ p.1 2)<|
 gC p.2 λm8 atf=>
 gI .i64 m8 λi2=>
 gN atf<|
 bd (
 gk (decide (i2<(len:Int))) (
 idx x1 i2 λy1=>
 gA y1 λDG=>
 acz DG λKG nH iP akI=>
 SR R4 λBT uB=>
 fh (!gv BT)<|
 bd (bQ BT ([.agg [.s KG,.s nH,.i .i64 iP,.i .i64 akI],.s vr]++uB)) λaZ=>
 gI .i64 aZ λx3=>
 some [.i .i64 i2,.b (decide (x3=0))]) (
 some [.i .i64 i2,.b false])) λvs=>
 jIB vs λx4 x5=>
 some (.cT [.i .i64 x4,.b x5])
def cS:GT:=aK 259 (RO b7) nL
def kh:SG cS:=fnP yr [] 49 [(8,⟨[0,1,2,8,9],[],[],[(0,[(6,.sc (.k (.i .i64))),(7,.sc (.k .b))])],[]⟩)] [(6,⟨[0,1,2,8,11],[],[],[(0,[(9,.sc (.k (.i .i64))),(10,.sc (.k (.i .i64)))])],[]⟩)] [(3,⟨[0,1,2,8],[],[(9,.sc (.k (.i .i64))),(10,.sc (.k (.i .i64)))],[(2,[(9,.sc (.k (.i .i64)))])],[]⟩)] Tryz.func259 aaM (xM (λ_ _ _=>aaM))
def jK:List MV->Option MV:=qP cS [] 12 [] [] [] Tryz.f222
def p0:GT:=aK 222 jK cS
def Ax:SG p0:=cQ kh Tryz.func222
def ua:List MV->Option MV:=qP p0 [] 11 [] [] [] Tryz.f194
def C5:GT:=aK 194 ua p0
def K0:SG C5:=cQ Ax Tryz.func194
def nw:List MV->Option MV:=qP C5 [] 20 [] [] [] Tryz.f226
def rH:GT:=aK 226 nw C5
def B2:SG rH:=cQ K0 Tryz.func226
def Bu:List MV->Option MV:=qP rH [] 23 [] [] [] Tryz.f183
def F4:GT:=aK 183 Bu rH
def MG:SG F4:=cQ B2 Tryz.func183
def dF:List MV->Option MV:=qP F4 [] 19 [] [] [(2,⟨[0,1],[],[(5,.sc (.k (.i .i64)))],[(1,[(4,.sc (.k (.i .i64)))]),(2,[])],[]⟩)] Tryz.f272
def gf:GT:=aK 272 dF F4
def pn:SG gf:=cQ MG Tryz.func272
def eV:List MV->Option MV:=qP gf [] 40 [] [(11,⟨[4,7,8],[],[],[(0,[(6,.sc (.k (.i .u32)))])],[]⟩)] [(8,⟨[4],[],[(6,.sc (.k (.i .u32))),(7,.sc (.k (.i .u32))),(8,.sc (.k (.i .i64)))],[(4,[(6,.sc (.k (.i .u32)))])],[]⟩),(3,⟨[0],[],[(4,.sc (.k (.i .u32))),(5,.sc (.k (.i .i64)))],[(2,[(4,.sc (.k (.i .u32)))])],[]⟩)] Tryz.f302
def je:GT:=aK 302 eV gf
def rI:SG je:=cQ pn Tryz.func302
def cK:List MV->Option MV:=qP je [] 87 [(17,⟨[0,1,5,6,7,9,11],[],[],[(0,[(85,.sc (.k .b))])],[]⟩),(9,⟨[0,1,5,6,7,8,9],[],[],[(0,[(47,.sc (.k .b))])],[]⟩)] [] [(12,⟨[0,1,5,6,7],[],[(9,.sc (.k (.i .u32))),(11,.sc (.k (.i .i64)))],[(1,[(4,.sc (.k (.i .i64)))]),(4,[])],[]⟩),(6,⟨[0,1,5,6,7,8],[],[(9,.sc (.k (.i .u32))),(10,.sc (.k (.i .i64)))],[(2,[(9,.sc (.k (.i .u32)))])],[]⟩)] Tryz.f273
def dX:GT:=aK 273 cK je
def mL:SG dX:=cQ rI Tryz.func273
def li:List MV->Option MV:=qP dX [] 36 [] [] [] Tryz.f237
def o7:GT:=aK 237 li dX
def zu:SG o7:=cQ mL Tryz.func237
def vv:List MV->Option MV:=qP o7 [] 16 [] [] [] Tryz.f195
def Ay:GT:=aK 195 vv o7
def HR:SG Ay:=cQ zu Tryz.func195
def lY:List MV->Option MV:=qP Ay [[.s],[.b],[.l],[.s],[.i .i64]] 44 [] [] [] Tryz.f223
def Az:GT:=aK 223 lY Ay
def C6:SG Az:=cQ HR Tryz.func223
def sf (sA p value owner:MV):Option MV:=gA sA λcs=>
 gC cs λm FP=>
 gL m λL=>
 gN FP<|
 gS p λp1=>
 gS value λUz=>
 gI .i64 owner λUA=>
 bd (jK [.agg [.list L],.s p1]) λrA=>
 gT rA λvs=>
 jIB vs λx x1=>
 bd (lY [.rp [.s p1],.rp [.b x1],.rp [.list L],.rp [.s Uz],.rp [.i .i64 UA]]) λaZ=>
 gI .i64 aZ λx2=>
 gk (!decide (x2=0)) (
 some (.cT [.agg [.list L],.i .i64 x2])) (
 both (
 bd (fT 4 48 [.list L]) λdN=>
 gF dN λxs=>
 bd (jm 48 [.fresh xs,.i .i64 x,.fresh ([.agg [.s p1,.s Uz,.i .i64 0,.i .i64 UA]]:List MV)]) λux=>
 gF ux λQq=>
 some (.cT [.agg [.list Qq],.i .i64 0])) (
 bd (fT 4 48 [.list L]) λMt=>
 gF Mt λxs2=>
 bd (jm 48 [.fresh xs2,.i .i64 x,.fresh ([.agg [.s p1,.s Uz,.i .i64 0,.i .i64 UA]]:List MV)]) λPK=>
 gF PK λxs3=>
 some (.cT [.agg [.list xs3],.i .i64 0])))
def yt:GT:=aK 181 (anX sf) Az
def F5:SG yt:=fnS C6 [] [] 38 [] [] [] [(6,[0,1,3,4,5,6,7,2,8,9,10,11,12,0,1,3,4,5,6,7,8,2,9,10,11,12,13,2,8])] [] [] [] [] Tryz.func181 aaM (afJ (λ_ _ _ _=>aaM))
def kj:List MV->Option MV:=qC yt 0 cu cu [] [(0,1000000)] 26 [22] [] [] [(1,[0,1,2,3,4,5,6,7,8,9,10,11,12,13,14,15,16])] [] [(1,⟨[0,1],[],[],[(0,[(1000000,.box [.k .l,.k (.i .i64),.k .l,.k .l,.k .l,.k (.i .i64),.k (.i .i64),.k (.i .i64),.k .s,.k .s,.k (.i .i64),.k (.i .i64),.k (.i .i64),.k (.i .i64),.k (.i .i64),.k (.i .i64),.k .s,.k (.i .i64),.k .l,.own 2000019 269 false])])],[]⟩)] [] [] Tryz.f182
def nM:GT:=aK 182 kj yt
def yu:SG nM:=vq F5 Tryz.func182
def iU:List MV->Option MV:=qC nM 0 cu cu [] [(0,1000000)] 60 [] [] [] [(0,[0,1,2,3,4,5,6,7,8,9,10,11,12,13,14,15,16,17,18,19]),(2,[0,1,2,3,4,5,6,7,8,9,10,11,12,13,14,15,16,17,18,19,20,21,22,23,24,25,26,27,28,29,30,31,32,33])] [(0,⟨[0,1000000],[2000019],[],[(0,[(21,.sc (.k .b))])],[]⟩)] [] [] [] Tryz.f130
def o8:GT:=aK 130 iU nM
def zw:SG o8:=vq yu Tryz.func130
def lZ:List MV->Option MV:=qC o8 0 cu cu [] [(0,1000000)] 35 [] [24] [(1,[2])] [(0,[0,1,2,3,4,5,6,7,8,9,10,11,12,13,14,15,16]),(1,[0,1,2,3,4,5,6,7,8,9,10,11,12,13,14,15,16,17,18,19])] [] [] [] [] Tryz.f131
def ub:GT:=aK 131 lZ o8
def C7:SG ub:=vq zw Tryz.func131
def iV:List MV->Option MV:=qP ub [] 35 [(2,⟨[2,3,8,9],[],[],[(0,[(31,.sc (.k .b))])],[]⟩)] [] [] Tryz.f227
def ma:GT:=aK 227 iV ub
def wa:SG ma:=cQ C7 Tryz.func227
def Bv:List MV->Option MV:=qP ma [] 59 [] [] [] Tryz.f184
def F6:GT:=aK 184 Bv ma
def MH:SG F6:=cQ wa Tryz.func184
def mb:List MV->Option MV:=qC F6 0 cu cu [] [(0,1000000)] 64 [] [] [] [(0,[0,1,2,3,4,5,6,7,8,9,10,11,12,13,14,15,16,17,18,19,20,21,22,23,24,25,26,27,28,29,30,31,32,33]),(3,[0,1,2,3,4,5,6,7,8,9,10,11,12,13,14,15,16])] [] [(3,⟨[0],[],[],[(0,[(1000000,.box [.k .l,.k (.i .i64),.k .l,.k .l,.k .l,.k (.i .i64),.k (.i .i64),.k (.i .i64),.k .s,.k .s,.k (.i .i64),.k (.i .i64),.k (.i .i64),.k (.i .i64),.k (.i .i64),.k (.i .i64),.k .s,.k (.i .i64),.k .l,.own 2000019 269 false])])],[]⟩)] [] [] Tryz.f132
def uc:GT:=aK 132 mb F6
def C8:SG uc:=vq MH Tryz.func132
def kl:List MV->Option MV:=qS uc [] [] 26 [] [] [] [(6,[0,1,2,3,4,5,6,7,8])] [] [] [(4,⟨[0,1,12],[],[(13,.sc (.k (.i .i64)))],[(1,[(4,.sc (.k .b))]),(2,[])],[]⟩)] [] Tryz.f57
def nN:GT:=aK 57 kl uc
def yv:SG nN:=nY C8 Tryz.func57
def yw:List MV->Option MV:=qP nN [] 38 [(3,⟨[5,6,7,8],[],[],[(0,[(4,.sc (.k .b))])],[]⟩)] [] [] Tryz.f228
def C9:GT:=aK 228 yw nN
def K1:SG C9:=cQ yv Tryz.func228
def si:List MV->Option MV:=qP C9 [] 53 [(6,⟨[1,3,6,8],[],[],[(0,[(26,.sc (.k .b))])],[47,51]⟩)] [] [] Tryz.f185
def yx:GT:=aK 185 si C9
def F7:SG yx:=cQ K1 Tryz.func185
def iW:List MV->Option MV:=qC yx 0 cu cu [] [(0,1000000)] 31 [] [] [] [(0,[0,1,2,3,4,5,6,7,8,9,10,11,12,13,14,15,16,17,18,19,20,21,22,23,24,25,26,27,28])] [] [] [] [] Tryz.f133
def o9:GT:=aK 133 iW yx
def zx:SG o9:=vq F7 Tryz.func133
def yy:List MV->Option MV:=qP o9 [] 14 [] [] [] Tryz.f230
def Da:GT:=aK 230 yy o9
def K3:SG Da:=cQ zx Tryz.func230
def yz:List MV->Option MV:=qS Da [] [] 66 [62] [] [] [] [] [(12,⟨[1,8,13,33,34,35],[],[],[(0,[(10,.sc (.own 63 9 true))])],[63]⟩)] [(7,⟨[1,8,33,34],[],[(10,.sc (.own 63 9 true)),(35,.sc (.k (.i .i64)))],[(2,[(10,.sc (.own 63 9 true))])],[63]⟩)] [] Tryz.f186
def Db:GT:=aK 186 yz Da
def K4:SG Db:=nY K3 Tryz.func186
def kD:List MV->Option MV:=qC Db 0 cu cu [] [(0,1000000)] 24 [] [] [] [(0,[0,1,2,3,4,5,6,7,8,9,10,11,12,13,14,15,16,17,18,19,20,21,22,23])] [] [] [] [] Tryz.f134
def yY:GT:=aK 134 kD Db
def B3:SG yY:=vq K4 Tryz.func134
def yA (b id span:MV):Option MV:=gA b λcs=>
 jIL cs λeG L=>
 gI .i64 id λid1=>
 gI .i64 span λN1=>
 bd (kC [.agg [.i .i64 eG,.list L],.i .i64 id1]) λrA=>
 gT rA λvs=>
 jIB vs λx x1=>
 bd (
 gk (decide (id1<1)) (
 some [.b true]) (
 gk (decide (N1<1)) (
 some [.b true]) (
 some [.b (decide ((1000:Int)<N1))]))) λCe=>
 gC Ce λm4 Uy=>
 gB m4 λx2=>
 gN Uy<|
 gk x2 (
 some (.cT [.agg [.i .i64 eG,.list L],.i .i64 1])) (
 gk x1 (
 some (.cT [.agg [.i .i64 eG,.list L],.i .i64 7])) (
 fU L λlen=>
 gk (decide ((50:Int)<=(len:Int))) (
 some (.cT [.agg [.i .i64 eG,.list L],.i .i64 9])) (
 both (
 bd (fT 3 24 [.list L]) λaZ=>
 gF aZ λxs=>
 bd (jm 24 [.fresh xs,.i .i64 x,.fresh ([.agg [.i .i64 id1,.i .i64 N1,.i .i64 (bo .i64 (eG+N1))]]:List MV)]) λdN=>
 gF dN λQq=>
 some (.cT [.agg [.i .i64 eG,.list Qq],.i .i64 0])) (
 bd (fT 3 24 [.list L]) λux=>
 gF ux λxs2=>
 bd (jm 24 [.fresh xs2,.i .i64 x,.fresh ([.agg [.i .i64 id1,.i .i64 N1,.i .i64 (bo .i64 (eG+N1))]]:List MV)]) λMt=>
 gF Mt λxs3=>
 some (.cT [.agg [.i .i64 eG,.list xs3],.i .i64 0])))))
def Dc:GT:=aK 187 (RO yA) yY
def K5:SG Dc:=fnS B3 [] [] 52 [] [] [] [(8,[0,1,3,4,5,6,7,8,9,10,2,11,12,13,14,0,1,3,4,5,6,7,8,9,10,11,2,12,13,14,15,2,11])] [(2,⟨[1,2,3,6,8,9],[],[],[(0,[(16,.sc (.k .b))])],[39,48,49]⟩)] [] [] [] Tryz.func187 aaM (xM (λ_ _ _=>aaM))
def kE:List MV->Option MV:=qC Dc 0 cu cu [] [(0,1000000)] 29 [] [] [] [(0,[0,1,2,3,4,5,6,7,8,9,10,11,12,13,14,15,16,17,18,19,20,21,22,23,24,25,26,27,28])] [] [] [] [] Tryz.f135
def rJ:GT:=aK 135 kE Dc
def B4:SG rJ:=vq K5 Tryz.func135
def vz:List MV->Option MV:=qS rJ [] [] 36 [] [] [] [(5,[0,1,2,3,4,5,6,7,8,9,10,11,12,13,14])] [] [] [] [] Tryz.f188
def AA:GT:=aK 188 vz rJ
def HS:SG AA:=nY B4 Tryz.func188
def jL:List MV->Option MV:=qC AA 0 cu cu [] [(0,1000000)] 24 [] [] [] [(0,[0,1,2,3,4,5,6,7,8,9,10,11,12,13,14,15,16,17,18,19,20,21,22,23])] [] [] [] [] Tryz.f136
def qd:GT:=aK 136 jL AA
def AB:SG qd:=vq HS Tryz.func136
def vA:List MV->Option MV:=qP qd [] 26 [] [] [] Tryz.f189
def AD:GT:=aK 189 vA qd
def HT:SG AD:=cQ AB Tryz.func189
def yB:List MV->Option MV:=qS AD [] [] 40 [29,34] [] [] [] [(6,⟨[1,4,6,7,9,12,13,14],[30,35],[],[(0,[(25,.sc (.k .b))])],[30,35]⟩)] [] [(4,⟨[1,4,12,13],[],[(6,.sc (.own 30 9 true)),(7,.box [.own 35 119 true]),(14,.sc (.k (.i .i64)))],[(2,[(6,.sc (.own 30 9 true)),(7,.box [.own 35 119 true])])],[30,35]⟩)] [] Tryz.f234
def Dd:GT:=aK 234 yB AD
def K6:SG Dd:=nY HT Tryz.func234
def nx:List MV->Option MV:=qC Dd 0 cu cu [] [(0,1000000)] 41 [36] [] [] [] [] [] [(3,⟨[0,23,24],[],[(25,.sc (.k (.i .i64))),(1000000,.box [.k .l,.k (.i .i64),.k .l,.k .l,.k .l,.k (.i .i64),.k (.i .i64),.k (.i .i64),.k .s,.k .s,.k (.i .i64),.k (.i .i64),.k (.i .i64),.k (.i .i64),.k (.i .i64),.k (.i .i64),.k .s,.k (.i .i64),.k .l,.own 2000019 269 false])],[(2,[(1000000,.box [.k .l,.k (.i .i64),.k .l,.k .l,.k .l,.k (.i .i64),.k (.i .i64),.k (.i .i64),.k .s,.k .s,.k (.i .i64),.k (.i .i64),.k (.i .i64),.k (.i .i64),.k (.i .i64),.k (.i .i64),.k .s,.k (.i .i64),.k .l,.own 2000019 269 false])])],[]⟩)] [] Tryz.f190
def rK:GT:=aK 190 nx Dd
def B5:SG rK:=vq K6 Tryz.func190
def jM:List MV->Option MV:=qC rK 0 cu cu [] [(0,1000000)] 37 [] [] [] [(0,[0,1,2,3,4,5,6,7,8,9,10,11,12,13,14,15,16,17,18,19,20,21,22,23])] [] [(2,⟨[0],[],[],[(0,[(1000000,.box [.k .l,.k (.i .i64),.k .l,.k .l,.k .l,.k (.i .i64),.k (.i .i64),.k (.i .i64),.k .s,.k .s,.k (.i .i64),.k (.i .i64),.k (.i .i64),.k (.i .i64),.k (.i .i64),.k (.i .i64),.k .s,.k (.i .i64),.k .l,.own 2000019 269 false])])],[]⟩)] [] [] Tryz.f137
def qe:GT:=aK 137 jM rK
def AE:SG qe:=vq B5 Tryz.func137
def yC:List MV->Option MV:=qS qe [] [] 48 [37,42] [] [] [] [] [] [(8,⟨[1,4,24,25],[],[(7,.sc (.own 38 3 true)),(8,.box [.k (.i .i64),.own 43 122 true]),(26,.sc (.k (.i .i64)))],[(3,[(7,.sc (.own 38 3 true)),(8,.box [.k (.i .i64),.own 43 122 true])])],[38,43]⟩)] [] Tryz.f191
def De:GT:=aK 191 yC qe
def K7:SG De:=nY AE Tryz.func191
def kF:List MV->Option MV:=qC De 0 cu cu [] [(0,1000000)] 50 [] [33] [(1,[2])] [(0,[0,1,2,3,4,5,6,7,8,9,10,11,12,13,14,15,16,17,18]),(3,[0,1,2,3,4,5,6,7,8,9,10,11,12])] [] [] [(5,⟨[0,40,41],[],[(42,.sc (.k (.i .i64))),(1000000,.box [.k .l,.k (.i .i64),.k .l,.k .l,.k .l,.k (.i .i64),.k (.i .i64),.k (.i .i64),.k .s,.k .s,.k (.i .i64),.k (.i .i64),.k (.i .i64),.k (.i .i64),.k (.i .i64),.k (.i .i64),.k .s,.k (.i .i64),.k .l,.own 2000019 269 false])],[(2,[(1000000,.box [.k .l,.k (.i .i64),.k .l,.k .l,.k .l,.k (.i .i64),.k (.i .i64),.k (.i .i64),.k .s,.k .s,.k (.i .i64),.k (.i .i64),.k (.i .i64),.k (.i .i64),.k (.i .i64),.k (.i .i64),.k .s,.k (.i .i64),.k .l,.own 2000019 269 false])])],[]⟩)] [] Tryz.f138
def rL:GT:=aK 138 kF De
def B6:SG rL:=vq K7 Tryz.func138
def gh:List MV->Option MV:=qS rL [] [] 19 [] [] [] [(4,[0,1,2,3,4,5])] [] [] [(2,⟨[0,3,7],[],[(8,.sc (.k (.i .i64)))],[(1,[(4,.sc (.k (.i .i64)))]),(2,[])],[]⟩)] [] Tryz.f266
def km:GT:=aK 266 gh rL
def ud:SG km:=nY B6 Tryz.func266
def cY:List MV->Option MV:=qP km [] 9 [] [] [] Tryz.f235
def mI:GT:=aK 235 cY km
def rc:SG mI:=cQ ud Tryz.func235
def Bw (t w:MV):Option MV:=gA t λcs=>
 gC cs λm FP=>
 gL m λL=>
 gN FP<|
 gA w λDG=>
 aop DG λPath Client Kids=>
 bd (ua [.s Path]) λrA=>
 gB rA λx=>
 gk (!x) (
 some (.cT [.agg [.list L],.i .i64 13])) (
 gk (decide (Client<0)) (
 some (.cT [.agg [.list L],.i .i64 1])) (
 bd (cY [.list L,.agg [.s Path,.i .i64 Client,.b Kids]]) λaZ=>
 gB aZ λx1=>
 gk x1 (
 some (.cT [.agg [.list L],.i .i64 0])) (
 fU L λlen=>
 gk (decide ((200:Int)<=(len:Int))) (
 some (.cT [.agg [.list L],.i .i64 9])) (
 both (
 bd (fT 3 32 [.list L]) λdN=>
 gF dN λxs=>
 fU xs λse=>
 fU ([.agg [.s Path,.i .i64 Client,.b Kids]]:List MV) λBX=>
 fh (decide ((se+BX) *32<=2^46))<|
 some (.cT [.agg [.list (xs++([.agg [.s Path,.i .i64 Client,.b Kids]]:List MV))],.i .i64 0])) (
 bd (fT 3 32 [.list L]) λux=>
 gF ux λQq=>
 fU Qq λPN=>
 fU ([.agg [.s Path,.i .i64 Client,.b Kids]]:List MV) λUx=>
 fh (decide ((PN+Ux) *32<=2^46))<|
 some (.cT [.agg [.list (Qq++([.agg [.s Path,.i .i64 Client,.b Kids]]:List MV))],.i .i64 0]))))))
def F8:GT:=aK 192 (Ui Bw) mI
def MI:SG F8:=fnS rc [] [] 36 [33] [] [] [(9,[0,1,3,2,4,5,6,7,8,0,1,3,4,2,5,6,7,8,9,2,4])] [] [] [] [] Tryz.func192 aaM (Bj (λ_ _=>aaM))
def jN:List MV->Option MV:=qC F8 0 cu cu [] [(0,1000000)] 38 [] [] [] [(0,[0,1,2,3,4,5,6,7,8,9,10,11,12,13,14,15,16,17,18]),(1,[0,1,2,3,4,5,6,7,8,9,10,11,12,13,14,15,16,17,18,19])] [] [] [] [] Tryz.f139
def qf:GT:=aK 139 jN F8
def AF:SG qf:=vq MI Tryz.func139
def ue:List MV->Option MV:=qS qf [] [] 2 [1] [] [] [] [] [] [] [] Tryz.f89
def Df:GT:=aK 89 ue qf
def K8:SG Df:=nY AF Tryz.func89
def qw:List MV->Option MV:=qP Df [] 48 [(6,⟨[2,3,5,6],[],[],[(0,[(4,.sc (.k .b))])],[]⟩),(1,⟨[2,3],[],[],[(0,[(20,.sc (.k .b))])],[]⟩)] [] [] Tryz.f143
def wb:GT:=aK 143 qw Df
def EK:SG wb:=cQ K8 Tryz.func143
def pa:List MV->Option MV:=qC wb 2 WJ WJ [[.i .i64,.s],[]] [(2,1000002)] 17 [14] [] [] [] [] [(3,⟨[1,2,3,5],[],[],[(0,[(1000002,.box [.own 2000000 273 false])])],[]⟩)] [] [] Tryz.f142
def sn:GT:=aK 142 pa wb
def F9:SG sn:=vq EK Tryz.func142
def PO:GT:=sn
def yD (x0:MV)(x1:MV)(x2:List MV):PO 142 [x0,x1,.cell (.func 0 x2)]=pa [x0,x1,.cell (.func 0 x2)]:=aaM
def uf:List MV->Option MV:=qS sn [] [] 26 [] [25] [(8,[7])] [(8,[0,1,2,3,4])] [] [] [(4,⟨[4,13,14],[],[(6,.sc (.own 12 125 false)),(7,.box [.own 2000000 273 false]),(15,.sc (.k (.i .i64)))],[(2,[(6,.sc (.own 12 125 false)),(7,.box [.own 2000000 273 false])])],[]⟩)] [] Tryz.f90
def Dg:GT:=aK 90 uf sn
def K9:SG Dg:=nY F9 Tryz.func90
def cC:GT:=Dg
def re (x0:List MV):cC 129 [.cell (.func 0 x0)]=gQ [.cell (.func 0 x0)]:=aaM
def rM (x0:List MV):cC 130 [.cell (.func 0 x0)]=iU [.cell (.func 0 x0)]:=aaM
def uF (x0:List MV):cC 131 [.cell (.func 0 x0)]=lZ [.cell (.func 0 x0)]:=aaM
def uG (x0:List MV):cC 132 [.cell (.func 0 x0)]=mb [.cell (.func 0 x0)]:=aaM
def rN (x0:List MV):cC 133 [.cell (.func 0 x0)]=iW [.cell (.func 0 x0)]:=aaM
def ug (x0:List MV):cC 134 [.cell (.func 0 x0)]=kD [.cell (.func 0 x0)]:=aaM
def uh (x0:List MV):cC 135 [.cell (.func 0 x0)]=kE [.cell (.func 0 x0)]:=aaM
def sq (x0:List MV):cC 136 [.cell (.func 0 x0)]=jL [.cell (.func 0 x0)]:=aaM
def sr (x0:List MV):cC 137 [.cell (.func 0 x0)]=jM [.cell (.func 0 x0)]:=aaM
def ui (x0:List MV):cC 138 [.cell (.func 0 x0)]=kF [.cell (.func 0 x0)]:=aaM
def su (x0:List MV):cC 139 [.cell (.func 0 x0)]=jN [.cell (.func 0 x0)]:=aaM
def vB (a a1:MV):Option MV:=gA a λcs=>
 xW cs λqg ny wX qh Seen=>
 gA a1 λDG=>
 wS DG λClient Seq Kind Path Value Version Session Span=>
 bd (jJ [.agg (dz qg ny wX qh Seen),.agg [.i .i64 Client,.i .i64 Seq,.i .i64 Kind,.s Path,.s Value,.i .i64 Version,.i .i64 Session,.i .i64 Span]]) λrA=>
 gT rA λvs=>
 gC vs λm13 aoO=>
 gA m13 λIh=>
 vo Ih λnq HO E nH iP Names=>
 gC aoO λm20 aoP=>
 gB m20 λx=>
 gN aoP<|
 gk x (
 some (.cT [.agg (dz qg ny wX qh Seen),.agg (iN nq HO E nH iP Names),.list ([]:List MV)])) (
 bd (ue []) λaZ=>
 gL aZ λx1=>
 idx x1 Kind λy=>
 gR y λx2=>
 SR x2 λfn cap=>
 gN cap<|
 bd (L2 [129,130,131,132,133,134,135,136,137,138,139] fn λk=>cC k [.cell (.func 0 [.list qg,.i .i64 ny,.list wX,.list qh,.list Seen,.i .i64 Client,.i .i64 Seq,.i .i64 Kind,.s Path,.s Value,.i .i64 Version,.i .i64 Session,.i .i64 Span,.i .i64 nq,.i .i64 HO,.i .i64 E,.s nH,.i .i64 iP,.list Names,.list ([]:List MV)])]) λdN=>
 gW dN λx3 ls=>
 zl ls λWM R7 acQ agw avq WN aoQ aio aip acR R8 R9 aiq IA agx xE PP EL PQ lA=>
 bd (uf [.agg [.list agw],.list lA]) λux=>
 gT ux λCe=>
 gC Ce λm41 aoR=>
 gA m41 λxz=>
 gC xz λm42 acS=>
 gL m42 λL=>
 gN acS<|
 gC aoR λm43 acT=>
 gL m43 λx4=>
 gN acT<|
 bd (fT 6 72 [.list Seen]) λMt=>
 gF Mt λxs=>
 bd (jI [.agg (dz qg ny wX qh Seen),.i .i64 Client]) λPK=>
 gT PK λJF=>
 jIB JF λx5 x6=>
 bd (
 gk x6 (
 idx xs x5 λy1=>
 gA y1 λcs4=>
 vo cs4 λPR ayF E1 UB La C1=>
 some (0,[.list WM,.i .i64 R7,.list acQ,.list L,.list (xs.set (sh x5) (.agg (iN IA agx xE PP EL PQ))),.i .i64 WN,.i .i64 aoQ,.i .i64 aio,.s aip,.s acR,.i .i64 R8,.i .i64 R9,.i .i64 aiq,.i .i64 IA,.i .i64 agx,.i .i64 xE,.s PP,.i .i64 EL,.list PQ,.list lA])) (
 bd (jm 72 [.fresh xs,.i .i64 x5,.fresh ([.agg (iN IA agx xE PP EL PQ)]:List MV)]) λDK=>
 gF DK λQq=>
 some (0,[.list WM,.i .i64 R7,.list acQ,.list L,.list Qq,.i .i64 WN,.i .i64 aoQ,.i .i64 aio,.s aip,.s acR,.i .i64 R8,.i .i64 R9,.i .i64 aiq,.i .i64 IA,.i .i64 agx,.i .i64 xE,.s PP,.i .i64 EL,.list PQ,.list lA]))) λp=>
 fh (adZ p.1 0)<|
 kM .i64 .i64 .i64 .i64 .i64 .i64 .i64 .i64 .i64 .i64 .i64 p.2 λx7 x8 x9 WH xs2 x11 x12 x13 x14 x15 x16 x17 x18 x19 x20 x21 x22 x23 x24 xs3=>
 both (
 some (.cT [.agg (dz x7 x8 x9 WH xs2),.agg (iN x19 x20 x21 x22 x23 x24),.list x4])) (
 some (.cT [.agg (dz x7 x8 x9 WH xs2),.agg (iN x19 x20 x21 x22 x23 x24),.list x4])))
def AG:GT:=aK 53 (Ui vB) Dg
def HU:SG AG:=fnS K9 [] [] 103 [] [21] [(2,[7])] [(3,[0,1,2,3,4]),(5,[1,2,5,0,3,4,6]),(6,[0,1,2,3,4,5,6,7,8,9,10,11,12,13,14,15]),(7,[0,1,2,3,4,5,6,7,8,9,10,11,12,13]),(10,[0,1,2,3,4,5,6,7,8,9,10,11]),(11,[0,1,2,3,4,5,6,7,8,9,10,11,12,13,14,15,16]),(12,[0,1,2,3,4,5,6,8,9,7,10,11,0,1,2,3,4,5,6,7,8,9,10,11,12,9,7])] [] [(10,⟨[4,5,11,12],[],[],[(0,[(26,.box [.k .l,.k (.i .i64),.k .l,.k .l,.own 52 91 false,.k (.i .i64),.k (.i .i64),.k (.i .i64),.k .s,.k .s,.k (.i .i64),.k (.i .i64),.k (.i .i64),.k (.i .i64),.k (.i .i64),.k (.i .i64),.k .s,.k (.i .i64),.k .l,.own 2000019 269 true]),(9,.pt 26 0)])],[89,90,2000019]⟩)] [] [129,130,131,132,133,134,135,136,137,138,139] Tryz.func53 aaM (Bj (λ_ _=>aaM))
def yE:List MV->Option MV:=qS AG [] [] 39 [29] [] [] [] [] [] [(4,⟨[4,14,15],[],[(2,.box [.k .l,.k (.i .i64),.k .l,.k .l,.k .l]),(7,.sc (.own 30 91 true)),(8,.sc (.own 33 273 true)),(16,.sc (.k (.i .i64)))],[(2,[(2,.box [.k .l,.k (.i .i64),.k .l,.k .l,.k .l]),(7,.sc (.own 30 91 true)),(8,.sc (.own 33 273 true))])],[30,33]⟩)] [] Tryz.f21
def Dh:GT:=aK 21 yE AG
def Lb:SG Dh:=nY HU Tryz.func21
def mc:List MV->Option MV:=qP Dh [] 30 [] [] [] Tryz.f8
def Ht:GT:=aK 8 mc Dh
def HV:SG Ht:=cQ Lb Tryz.func8
def mB (lA:MV):Option MV:=gL lA λlA1=>
 bd (wV) λrA=>
 gA rA λcs=>
 xW cs λqg ny wX qh Seen=>
 fU lA1 λlen=>
 bd (Loop (λUC=>
 Bp UC λaZ dN ux Mt PK x=>
 gk (decide (x<(len:Int))) (
 idx lA1 x λy=>
 gS y λx1=>
 bd (mc [.agg (dz aZ dN ux Mt PK),.s x1]) λDK=>
 gT DK λvs=>
 gC vs λm11 aoX=>
 gA m11 λDG=>
 xW DG λPS Lc UD PT acU=>
 jLI aoX λx2 x3=>
 some (.inl (ga PS Lc UD PT acU (bo .i64 (x+1))))) (
 some (.inr (2,(dz aZ dN ux Mt PK))))) (ga qg ny wX qh Seen 0)) λp=>
 fh (adZ p.1 2)<|
 Aq .i64 p.2 λrA7 rA8 rA9 Mu Ku=>
 some (.agg (dz rA7 rA8 rA9 Mu Ku))
def yF:GT:=aK 6 (Pt mB) Ht
def Ga:SG yF:=fnP HV [] 22 [] [] [(3,⟨[2,7,8],[],[(3,.box [.k .l,.k (.i .i64),.k .l,.k .l,.k .l]),(9,.sc (.k (.i .i64)))],[(2,[(3,.box [.k .l,.k (.i .i64),.k .l,.k .l,.k .l])])],[]⟩)] Tryz.func6 aaM (vg (λ_=>aaM))
def ik:List MV->Option MV:=qS yF [] [] 26 [] [] [] [(6,[0,1,2,3,4,5,6,7,8])] [] [] [(4,⟨[0,1,12],[],[(13,.sc (.k (.i .i64)))],[(1,[(4,.sc (.k .b))]),(2,[])],[]⟩)] [] Tryz.f54
def kQ:GT:=aK 54 ik yF
def uH:SG kQ:=nY Ga Tryz.func54
def yG:List MV->Option MV:=qP kQ [] 10 [] [] [] Tryz.f22
def Di:GT:=aK 22 yG kQ
def Ld:SG Di:=cQ uH Tryz.func22
def eW:List MV->Option MV:=qS Di [] [] 26 [] [] [] [(6,[0,1,2,3,4,5,6,7,8])] [] [] [(4,⟨[0,1,12],[],[(13,.sc (.k (.i .i64)))],[(1,[(4,.sc (.k .b))]),(2,[])],[]⟩)] [] Tryz.f55
def jf:GT:=aK 55 eW Di
def rO:SG jf:=nY Ld Tryz.func55
def yH:List MV->Option MV:=qP jf [] 17 [(1,⟨[2,3],[],[],[(0,[(4,.sc (.k .b))])],[]⟩)] [] [] Tryz.f23
def Dj:GT:=aK 23 yH jf
def Lf:SG Dj:=cQ rO Tryz.func23
def gj:List MV->Option MV:=qS Dj [] [] 26 [] [] [] [(6,[0,1,2,3,4,5,6,7,8])] [] [] [(4,⟨[0,1,12],[],[(13,.sc (.k (.i .i64)))],[(1,[(4,.sc (.k .b))]),(2,[])],[]⟩)] [] Tryz.f56
def kn:GT:=aK 56 gj Dj
def uj:SG kn:=nY Lf Tryz.func56
def yI:List MV->Option MV:=qP kn [] 10 [] [] [] Tryz.f24
def Dk:GT:=aK 24 yI kn
def Lg:SG Dk:=cQ uj Tryz.func24
def uk:List MV->Option MV:=qP Dk [] 45 [(1,⟨[2,3],[],[],[(0,[(4,.sc (.k .b))])],[]⟩)] [] [] Tryz.f26
def Dl:GT:=aK 26 uk Dk
def Lh:SG Dl:=cQ Lg Tryz.func26
def bT:GT:=Dl
def eX (x0 x1:MV):bT 26 [x0,x1]=uk [x0,x1]:=aaM
def bD (s1 s2 eq:MV):Option MV:=gL s1 λakJ=>
 gL s2 λaoY=>
 gR eq λeq1=>
 fU akJ λlen=>
 fU aoY λse=>
 gk (!decide ((len:Int)=(se:Int))) (
 some (.b false)) (
 fU akJ λBX=>
 bd (Loop (λFP=>
 gC FP λm KU=>
 gI .i64 m λx=>
 gN KU<|
 gk (decide (x<(BX:Int))) (
 idx akJ x λy=>
 gA y λcs=>
 vo cs λClient Seq E Value Version Names=>
 idx aoY x λy1=>
 gA y1 λDG=>
 vo DG λnq HO E1 nH iP C1=>
 SR eq1 λfn cap=>
 fh (!gv fn)<|
 bd (bT fn ([.agg (iN Client Seq E Value Version Names),.agg (iN nq HO E1 nH iP C1)]++cap)) λrA=>
 gB rA λx1=>
 gk (!x1) (
 some (.inr (1,[.b false]))) (
 some (.inl [.i .i64 (bo .i64 (x+1))]))) (
 some (.inr (2,[])))) [.i .i64 0]) λp=>
 gk (adZ p.1 2) (
 gN p.2<|
 some (.b true)) (
 fh (adZ p.1 1)<|
 gC p.2 λm13 aoZ=>
 gB m13 λx2=>
 gN aoZ<|
 some (.b x2)))
def b8:GT:=aK 25 (RO bD) Dl
def gw:SG b8:=fnP Lh [] 32 [] [] [(4,⟨[1,2,15,16],[],[(17,.sc (.k (.i .i64)))],[(1,[(6,.sc (.k .b))]),(2,[])],[]⟩)] Tryz.func25 aaM (xM (λ_ _ _=>aaM))
def qi:List MV->Option MV:=qP b8 [] 31 [(1,⟨[2,3],[],[],[(0,[(4,.sc (.k .b))])],[]⟩)] [] [] Tryz.f9
def Li:GT:=aK 9 qi b8
def Lj:SG Li:=cQ gw Tryz.func9
def IC (p:MV):Option MV:=gS p λp1=>
 bd (
 gk (decide ((p1.length:Int)=0)) (
 some [.b true]) (
 fh (decide ((0:Int)<=0/\(0:Int)<(p1.length:Int)))<|
 some [.b (!decide (((p1.getD (sh 0) 0).toNat:Int)=47))])) λvs=>
 gC vs λm FP=>
 gB m λx=>
 gN FP<|
 gk x (
 some (.cT [.fresh ([]:List MV),.b false])) (
 gk (decide (p1=([47]:List UInt8))) (
 some (.cT [.fresh ([]:List MV),.b true])) (
 bd (Loop (λKU=>
 gC KU λm1 acP=>
 gL m1 λout=>
 gC acP λm2 ath=>
 gS m2 λname=>
 gC ath λm3 Uy=>
 gI .i64 m3 λi=>
 gN Uy<|
 gk (decide (i<(p1.length:Int))) (
 fh (decide ((0:Int)<=i/\i<(p1.length:Int)))<|
 bd (
 gk (decide (((p1.getD (sh i) 0).toNat:Int)=47)) (
 fU out λlen=>
 fU ([.s name]:List MV) λse=>
 fh (decide ((len+se) *16<=2^46))<|
 some (0,[.list (out++([.s name]:List MV)),.s ([]:List UInt8)])) (
 fh (decide ((0:Int)<=i/\i<(p1.length:Int)))<|
 L8 ([.i .u8 ((p1.getD (sh i) 0).toNat:Int)]:List MV) λbs=>
 fh (decide (name.length+bs.length<=2^46))<|
 some (0,[.list out,.s (name++bs)]))) λp3=>
 fh (adZ p3.1 0)<|
 gC p3.2 λm4 UC=>
 gL m4 λati=>
 gC UC λm5 atj=>
 gS m5 λao0=>
 gN atj<|
 some (.inl [.list ati,.s ao0,.i .i64 (bo .i64 (i+1))])) (
 some (.inr (2,[.list out,.s name])))) [.list ([]:List MV),.s ([]:List UInt8),.i .i64 1]) λp2=>
 fh (adZ p2.1 2)<|
 gC p2.2 λm6 atk=>
 gL m6 λao1=>
 gC atk λm7 acN=>
 gS m7 λair=>
 gN acN<|
 fU ao1 λBX=>
 fU ([.s air]:List MV) λPN=>
 fh (decide ((BX+PN) *16<=2^46))<|
 some (.cT [.fresh (ao1++([.s air]:List MV)),.b true])))
def PU:GT:=aK 94 (Pt IC) Li
def Sa:SG PU:=fnF Lj 9 [] [] 46 [32,43] [] [] [] [(2,⟨[0,4],[7],[],[(0,[(15,.sc (.k .b))])],[]⟩)] [(11,⟨[0,6],[],[],[(0,[(4,.sc (.own 7 9 false)),(5,.sc (.k .s))])],[]⟩)] [(8,⟨[0],[],[(4,.sc (.own 7 9 false)),(5,.sc (.k .s)),(6,.sc (.k (.i .i64)))],[(2,[(4,.sc (.own 7 9 false)),(5,.sc (.k .s))])],[]⟩)] [] Tryz.func94 aaM aaM (vg (λ_=>aaM))
def yJ:List MV->Option MV:=qP PU [] 47 [(8,⟨[0],[],[],[(0,[(2,.sc (.k .b))])],[]⟩),(5,⟨[0,3,4],[],[],[(0,[(5,.sc (.k .b))])],[]⟩)] [] [(2,⟨[0],[],[(3,.sc (.k (.i .i64)))],[(1,[(2,.sc (.k .b))]),(2,[])],[]⟩)] Tryz.f95
def Dm:GT:=aK 95 yJ PU
def Lk:SG Dm:=cQ Sa Tryz.func95
def Bx:List MV->Option MV:=qS Dm [] [] 32 [11] [] [] [] [(9,⟨[3,4],[],[],[(0,[(2,.sc (.k .b))])],[]⟩)] [] [(5,⟨[3,4],[],[(5,.sc (.k (.i .i64)))],[(1,[(2,.sc (.k .b))]),(2,[])],[]⟩)] [] Tryz.f58
def Gb:GT:=aK 58 Bx Dm
def MJ:SG Gb:=nY Lk Tryz.func58
def Bz:List MV->Option MV:=qF Gb 9 [] [] 15 [] [] [] [] [] [] [] [] Tryz.f96
def Gc:GT:=aK 96 Bz Gb
def MK:SG Gc:=aoJ MJ Tryz.func96
def BA:List MV->Option MV:=qS Gc [] [] 61 [12,17] [] [] [(8,[0,1,2,3,4,5,6,7,8]),(9,[0,1,2,3,4,5,6,7,8,9])] [(6,⟨[5,7,9],[],[],[(0,[(35,.sc (.k .b))])],[]⟩),(3,⟨[5,6,7,8],[],[],[(0,[(25,.sc (.k .b))])],[]⟩)] [] [(6,⟨[5,7],[],[(9,.sc (.k (.i .i64)))],[(1,[(4,.sc (.k .b))]),(2,[])],[]⟩)] [] Tryz.f59
def Gd:GT:=aK 59 BA Gc
def ML:SG Gd:=nY MK Tryz.func59
def EM:List MV->Option MV:=qP Gd [] 21 [] [] [(3,⟨[0],[],[(3,.sc (.k .s)),(4,.sc (.k (.i .i64)))],[(2,[(3,.sc (.k .s))])],[]⟩)] Tryz.f97
def Ll:GT:=aK 97 EM Gd
def PV:SG Ll:=cQ ML Tryz.func97
def yK:List MV->Option MV:=qS Ll [] [] 23 [8] [] [] [] [] [] [] [] Tryz.f60
def Dp:GT:=aK 60 yK Ll
def Lm:SG Dp:=nY PV Tryz.func60
def PW:List MV->Option MV:=qP Dp [] 22 [] [] [(2,⟨[1,2],[],[(5,.sc (.k (.i .i64)))],[(1,[(4,.sc (.k (.i .i64)))]),(2,[])],[]⟩)] Tryz.f61
def UE:GT:=aK 61 PW Dp
def UF:SG UE:=cQ Lm Tryz.func61
def BB:List MV->Option MV:=qS UE [] [] 100 [] [] [] [(7,[0,1,2,3,4,5,6,7,8,9,10,11,12,13,14,15,16,17,18,19,20,21,22,23,24,25,26,27,28,29,30,31,32,33,34,35,36,37,38,39,40,41])] [(14,⟨[1,3,7],[],[],[(0,[(96,.sc (.k .b))])],[]⟩),(7,⟨[1,3,4],[],[],[(0,[(71,.sc (.k .b))])],[]⟩),(1,⟨[1],[],[],[(0,[(17,.sc (.k .b))])],[]⟩)] [] [(4,⟨[1],[],[(3,.sc (.k (.i .i64)))],[(1,[(2,.sc (.k .b))]),(2,[])],[]⟩)] [] Tryz.f27
def Ge:GT:=aK 27 BB UE
def MM:SG Ge:=nY UF Tryz.func27
def BC:List MV->Option MV:=qS Ge [] [] 77 [] [] [] [(7,[0,1,2,3,4,5,6,7,8,9,10,11,12,13,14,15,16,17,18,19,20,21,22,23,24,25,26,27,28,29,30,31,32,33,34,35,36,37,38,39,40,41,42,43,44,45])] [(7,⟨[1,3,4],[],[],[(0,[(76,.sc (.k .b))])],[]⟩),(1,⟨[1],[],[],[(0,[(18,.sc (.k .b))])],[]⟩)] [] [(4,⟨[1],[],[(3,.sc (.k (.i .i64)))],[(1,[(2,.sc (.k .b))]),(2,[])],[]⟩)] [] Tryz.f28
def Gf:GT:=aK 28 BC Ge
def MN:SG Gf:=nY MM Tryz.func28
def ID:List MV->Option MV:=qS Gf [] [] 18 [] [] [] [(4,[0,1,2,3,4,5])] [] [] [(2,⟨[0,3],[],[(5,.sc (.k (.i .i64)))],[(1,[(4,.sc (.k .b))]),(2,[])],[]⟩)] [] Tryz.f62
def PX:GT:=aK 62 ID Gf
def Sb:SG PX:=nY MN Tryz.func62
def BD:List MV->Option MV:=qS PX [] [] 44 [] [] [] [(4,[0,1,2,3,4,5,6,7,8,9,10,11,12,13,14,15,16,17,18,19,20,21,22,23,24,25,26,27,28])] [(4,⟨[1,3],[],[],[(0,[(39,.sc (.k .b))])],[]⟩)] [] [(2,⟨[1],[],[(3,.sc (.k (.i .i64)))],[(1,[(2,.sc (.k .b))]),(2,[])],[]⟩)] [] Tryz.f29
def Gg:GT:=aK 29 BD PX
def MO:SG Gg:=nY Sb Tryz.func29
def wY:List MV->Option MV:=qS Gg [] [] 68 [] [] [] [(7,[0,1,2,3,4,5,6,7,8,9,10,11,12,13,14,15,16,17,18,19,20,21,22,23,24,25,26,27,28])] [(7,⟨[1,3,4],[],[],[(0,[(67,.sc (.k .b))])],[]⟩),(1,⟨[1],[],[],[(0,[(26,.sc (.k .b))])],[]⟩)] [] [(4,⟨[1],[],[(3,.sc (.k (.i .i64)))],[(1,[(2,.sc (.k .b))]),(2,[])],[]⟩)] [] Tryz.f10
def Gh:GT:=aK 10 wY Gg
def MP:SG Gh:=nY MO Tryz.func10
def AH:List MV->Option MV:=qP Gh [] 16 [] [] [] Tryz.f30
def Sc:GT:=aK 30 AH Gh
def PY:SG Sc:=cQ MP Tryz.func30
def wZ (a:MV):Option MV:=gA a λcs=>
 xW cs λqg ny wX qh Seen=>
 bd (Loop (λUC=>
 Bp UC λxs x Qq xs2 xs3 x1=>
 fU Seen λlen=>
 gk (decide (x1<(len:Int))) (
 idx Seen x1 λy=>
 gA y λDG=>
 vo DG λClient Seq E Value Version Names=>
 bd (AH [.agg (iN Client Seq E Value Version Names)]) λrA=>
 gA rA λIh=>
 vo Ih λnq HO E1 nH iP C1=>
 fU xs3 λse=>
 fU ([.agg (iN nq HO E1 nH iP C1)]:List MV) λBX=>
 fh (decide ((se+BX) *72<=2^46))<|
 some (.inl (ga xs x Qq xs2 (xs3++([.agg (iN nq HO E1 nH iP C1)]:List MV)) (bo .i64 (x1+1))))) (
 some (.inr (2,(dz xs x Qq xs2 xs3))))) (ga ([]:List MV) ny ([]:List MV) ([]:List MV) ([]:List MV) 0)) λp=>
 fh (adZ p.1 2)<|
 Aq .i64 p.2 λxs4 x2 xs5 xs6 xs7=>
 bd (Loop (λao2=>
 Bp ao2 λxs8 x3 xs9 ao3 ao4 x4=>
 fU qg λPN=>
 gk (decide (x4<(PN:Int))) (
 idx qg x4 λy1=>
 gA y1 λxz=>
 acz xz λPath UB La cm=>
 fU xs8 λUx=>
 fU ([.agg [.s Path,.s UB,.i .i64 La,.i .i64 cm]]:List MV) λR5=>
 fh (decide ((Ux+R5) *48<=2^46))<|
 some (.inl (ga (xs8++([.agg [.s Path,.s UB,.i .i64 La,.i .i64 cm]]:List MV)) x3 xs9 ao3 ao4 (bo .i64 (x4+1))))) (
 some (.inr (4,(dz xs8 x3 xs9 ao3 ao4))))) (ga xs4 x2 xs5 xs6 xs7 0)) λp1=>
 fh (adZ p1.1 4)<|
 Aq .i64 p1.2 λatm x5 atn ato atp=>
 bd (Loop (λao5=>
 Bp ao5 λao6 x6 akK ao7 ao8 x7=>
 fU wX λR6=>
 gk (decide (x7<(R6:Int))) (
 idx wX x7 λy2=>
 gA y2 λcs4=>
 aks cs4 λId Span ek=>
 fU akK λakL=>
 fU ([.agg [.i .i64 Id,.i .i64 Span,.i .i64 ek]]:List MV) λSd=>
 fh (decide ((akL+Sd) *24<=2^46))<|
 some (.inl (ga ao6 x6 (akK++([.agg [.i .i64 Id,.i .i64 Span,.i .i64 ek]]:List MV)) ao7 ao8 (bo .i64 (x7+1))))) (
 some (.inr (6,(dz ao6 x6 akK ao7 ao8))))) (ga atm x5 atn ato atp 0)) λp2=>
 fh (adZ p2.1 6)<|
 Aq .i64 p2.2 λatq x8 atr ats att=>
 bd (Loop (λao9=>
 Bp ao9 λapa x9 apb akM apc WH=>
 fU qh λatu=>
 gk (decide (WH<(atu:Int))) (
 idx qh WH λy3=>
 gA y3 λcs5=>
 aop cs5 λKG PR Kids=>
 fU akM λapd=>
 fU ([.agg [.s KG,.i .i64 PR,.b Kids]]:List MV) λape=>
 fh (decide ((apd+ape) *32<=2^46))<|
 some (.inl (ga apa x9 apb (akM++([.agg [.s KG,.i .i64 PR,.b Kids]]:List MV)) apc (bo .i64 (WH+1))))) (
 some (.inr (8,(dz apa x9 apb akM apc))))) (ga atq x8 atr ats att 0)) λp3=>
 fh (adZ p3.1 8)<|
 Aq .i64 p3.2 λatw x11 atx aty atz=>
 some (.agg (dz atw x11 atx aty atz))
def N2:GT:=aK 11 (Pt wZ) Sc
def MQ:SG N2:=fnS PY [] [] 121 [31,60,88,116] [] [] [(5,[0,1,2,3,4,5,6,7,8,9,10,11])] [] [] [(17,⟨[1,2],[3002000,3002002,3002003,3002004],[(3,.box [.own 3015000 120 true,.k (.i .i64),.own 3014001 123 true,.own 3015003 126 true,.own 3015004 116 true]),(9,.sc (.k (.i .i64)))],[(8,[(3,.box [.own 3015000 120 true,.k (.i .i64),.own 3014001 123 true,.own 3015003 126 true,.own 3015004 116 true])])],[3002000,3002002,3002003,3002004,3014001,3015000,3015003,3015004]⟩),(12,⟨[1,2],[3002000,3002002,3002003,3002004],[(3,.box [.own 3015000 120 true,.k (.i .i64),.own 3014001 123 true,.own 3015003 126 true,.own 3015004 116 true]),(7,.sc (.k (.i .i64)))],[(6,[(3,.box [.own 3015000 120 true,.k (.i .i64),.own 3014001 123 true,.own 3015003 126 true,.own 3015004 116 true])])],[3002000,3002002,3002003,3002004,3014001,3015000,3015003,3015004]⟩),(7,⟨[1,2],[3002000,3002002,3002003,3002004],[(3,.box [.own 3015000 120 true,.k (.i .i64),.own 3014001 123 true,.own 3015003 126 true,.own 3015004 116 true]),(5,.sc (.k (.i .i64)))],[(4,[(3,.box [.own 3015000 120 true,.k (.i .i64),.own 3014001 123 true,.own 3015003 126 true,.own 3015004 116 true])])],[3002000,3002002,3002003,3002004,3014001,3015000,3015003,3015004]⟩),(3,⟨[1,2],[3002000,3002002,3002003,3002004],[(3,.box [.own 3015000 120 true,.k (.i .i64),.own 3014001 123 true,.own 3015003 126 true,.own 3015004 116 true]),(4,.sc (.k (.i .i64)))],[(2,[(3,.box [.own 3015000 120 true,.k (.i .i64),.own 3014001 123 true,.own 3015003 126 true,.own 3015004 116 true])])],[3002000,3002002,3002003,3002004,3014001,3015000,3015003,3015004]⟩)] [] Tryz.func11 aaM (vg (λ_=>aaM))
def gW2:GT:=afk 43 N2
def acV:db Tryz.prog YJ gW2:=MQ.alt acG
def vC:GT:=rC2 gW2 0 WK WK [] [(0,1000000)] 13 [] [] [] [] [] [] [] [] 43 Tryz.f43
def zy:db Tryz.prog YJ vC:=acL acV Tryz.func43 aaM aaM
def vD:GT:=rC2 vC 0 WI WI [] [(0,1000000)] 36 [33] [] [] [] [] [] [(1,⟨[0,1,8,9],[],[(10,.sc (.k (.i .i64))),(1000000,.box [.k (.i .i64),.k (.i .i64),.k (.i .i64),.k (.i .i64),.k (.i .i64),.k (.i .i64),.k (.i .i64),.k (.i .i64),.k .l,.k (.i .i64),.k (.i .i64),.k (.i .i64),.k (.i .i64),.k .l,.k (.i .i64),.k (.i .i64),.k .l,.k (.i .i64),.k (.h .u8 30),.k .l,.k (.i .i64),.k .l,.k .l,.k .l,.k .l,.own 2000025 182 false,.k .l,.own 2000027 93 false])],[(2,[(1000000,.box [.k (.i .i64),.k (.i .i64),.k (.i .i64),.k (.i .i64),.k (.i .i64),.k (.i .i64),.k (.i .i64),.k (.i .i64),.k .l,.k (.i .i64),.k (.i .i64),.k (.i .i64),.k (.i .i64),.k .l,.k (.i .i64),.k (.i .i64),.k .l,.k (.i .i64),.k (.h .u8 30),.k .l,.k (.i .i64),.k .l,.k .l,.k .l,.k .l,.own 2000025 182 false,.k .l,.own 2000027 93 false])])],[]⟩)] [] 70 Tryz.f70
def zB:db Tryz.prog YJ vD:=acL zy Tryz.func70 aaM aaM
def gW1:GT:=afk 43 vD
def acW:SG gW1:=zB.alt akE
def w9:GT:=rC gW1 0 eo eo [] [(0,1000000)] 13 [] [] [] [] [] [] [] [] 43 Tryz.f43
def AJ:SG w9:=Co acW Tryz.func43 aaM aaM
def vE:GT:=rC w9 0 eo eo [] [(0,1000000)] 88 [79] [] [] [(1,[0,1,2,3,5,6,7,8,9,10,4,11,12]),(4,[0,1,2,3,4,5,6,7,8,9,10,11,12,13,14,15,16]),(5,[0,1,2,3,4,5,6,7,8,9,10,11,12,13,14,15,16,17,18,19,20,21,22]),(6,[0,1,2,3,4,5,6,7,8,9,10,11,12])] [] [] [(2,⟨[0],[],[(2,.sc (.k (.i .i64))),(1000000,.box [.k (.i .i64),.k (.i .i64),.k (.i .i64),.k (.i .i64),.k (.i .i64),.k (.i .i64),.k (.i .i64),.k (.i .i64),.k .l,.k (.i .i64),.k (.i .i64),.k (.i .i64),.k (.i .i64),.k .l,.k (.i .i64),.k (.i .i64),.k .l,.k (.i .i64),.k (.h .u8 30),.k .l,.k (.i .i64),.k .l,.k .l,.k .l,.k .l,.own 12 182 false,.k .l,.own 2000027 93 false])],[(2,[(1000000,.box [.k (.i .i64),.k (.i .i64),.k (.i .i64),.k (.i .i64),.k (.i .i64),.k (.i .i64),.k (.i .i64),.k (.i .i64),.k .l,.k (.i .i64),.k (.i .i64),.k (.i .i64),.k (.i .i64),.k .l,.k (.i .i64),.k (.i .i64),.k .l,.k (.i .i64),.k (.h .u8 30),.k .l,.k (.i .i64),.k .l,.k .l,.k .l,.k .l,.own 12 182 false,.k .l,.own 2000027 93 false])])],[]⟩)] [] 34 Tryz.f34
def zC:SG vE:=Co AJ Tryz.func34 aaM aaM
def Hu:GT:=rS vE [] [] 60 [] [] [] [(4,[0,1,2,3,4,5,6,7,8])] [(2,⟨[1,2,3,6,8,9],[],[],[(0,[(26,.sc (.k .b))])],[]⟩)] [] [] [] 12 Tryz.f12
def HW:SG Hu:=Cn zC Tryz.func12 aaM
def xa:GT:=rC Hu 0 eo eo [] [(0,1000000)] 36 [] [] [] [(2,[0,1,2,3,4,5,6,7,8,9,12,10,11,13,14])] [] [] [] [] 73 Tryz.f73
def AK:SG xa:=Co HW Tryz.func73 aaM aaM
def vF:GT:=rC xa 0 eo eo [] [(0,1000000)] 51 [] [] [] [(5,[0,1,2,3,5,6,7,8,10,11,13,12,4,9,14,15,16,17,18,19,20,0,1,2,3,5,6,7,8,9,10,11,13,12,4,14,15,16,17,18,19,20,21,12,9,0,1,2,3,4,5,6,7,8,10,11,13,12,9,14,15,16,17,18,19,20,0,1,2,3,4,5,6,7,8,9,10,11,13,12,14,15,16,17,18,19,20,21,12,9,45,12,4])] [] [(5,⟨[0,2,3],[],[],[(0,[(1000000,.box [.k (.i .i64),.k (.i .i64),.k (.i .i64),.k (.i .i64),.k (.i .i64),.k (.i .i64),.k (.i .i64),.k (.i .i64),.k .l,.k (.i .i64),.k (.i .i64),.k (.i .i64),.k (.i .i64),.k .l,.k (.i .i64),.k (.i .i64),.k .l,.k (.i .i64),.k (.h .u8 30),.k .l,.k (.i .i64),.k .l,.k .l,.k .l,.k .l,.k .l,.k .l,.own 2000027 93 false])])],[]⟩)] [(1,⟨[0],[],[(2,.sc (.k (.i .i64))),(1000000,.box [.k (.i .i64),.k (.i .i64),.k (.i .i64),.k (.i .i64),.k (.i .i64),.k (.i .i64),.k (.i .i64),.k (.i .i64),.k .l,.k (.i .i64),.k (.i .i64),.k (.i .i64),.k (.i .i64),.k .l,.k (.i .i64),.k (.i .i64),.k .l,.k (.i .i64),.k (.h .u8 30),.k .l,.k (.i .i64),.k .l,.k .l,.k .l,.k .l,.k .l,.k .l,.own 2000027 93 false])],[(2,[(1000000,.box [.k (.i .i64),.k (.i .i64),.k (.i .i64),.k (.i .i64),.k (.i .i64),.k (.i .i64),.k (.i .i64),.k (.i .i64),.k .l,.k (.i .i64),.k (.i .i64),.k (.i .i64),.k (.i .i64),.k .l,.k (.i .i64),.k (.i .i64),.k .l,.k (.i .i64),.k (.h .u8 30),.k .l,.k (.i .i64),.k .l,.k .l,.k .l,.k .l,.k .l,.k .l,.own 2000027 93 false])])],[]⟩)] [] 75 Tryz.f75
def zD:SG vF:=Co AK Tryz.func75 aaM aaM
def mf:GT:=rC vF 0 eo eo [] [(0,1000000)] 87 [41,80,81] [] [] [(1,[0,1,2,3,4,5,6,7,8,9,10,11,12,13,14]),(4,[0,1,2,3,4,5,6,7,8,9]),(5,[0,1,2,3,4,5,6,7,8,9,10,11,12,13,14,15,16,17,18,19,20,21,22,23,24,25,26,27]),(6,[0,1,2,3,4,5,7,8,6,9,10,11,12,13,14,0,1,2,3,4,5,7,8,9,6,10,11,12,13,14,15,6,9])] [(5,⟨[0,3,1000000],[2000027],[],[(0,[(43,.sc (.k .b))])],[]⟩),(3,⟨[0,3,4,5,1000000],[2000027],[],[(0,[(23,.sc (.k .b))])],[]⟩)] [(6,⟨[0,3],[],[],[(0,[(1000000,.box [.k (.i .i64),.k (.i .i64),.k (.i .i64),.k (.i .i64),.k (.i .i64),.k (.i .i64),.k (.i .i64),.k (.i .i64),.k .l,.k (.i .i64),.k (.i .i64),.k (.i .i64),.k (.i .i64),.k .l,.k (.i .i64),.k (.i .i64),.k .l,.k (.i .i64),.k (.h .u8 30),.k .l,.k (.i .i64),.k .l,.k .l,.k .l,.k .l,.k .l,.k .l,.own 2000027 93 false])])],[]⟩),(4,⟨[0,3,4],[],[],[(0,[(1000000,.box [.k (.i .i64),.k (.i .i64),.k (.i .i64),.k (.i .i64),.k (.i .i64),.k (.i .i64),.k (.i .i64),.k (.i .i64),.k .l,.k (.i .i64),.k (.i .i64),.k (.i .i64),.k (.i .i64),.k .l,.k (.i .i64),.k (.i .i64),.k .l,.k (.i .i64),.k (.h .u8 30),.k .l,.k (.i .i64),.k .l,.k .l,.k .l,.k .l,.k .l,.k .l,.own 2000027 93 false])])],[]⟩),(3,⟨[0,3,4,5],[],[],[(0,[(1000000,.box [.k (.i .i64),.k (.i .i64),.k (.i .i64),.k (.i .i64),.k (.i .i64),.k (.i .i64),.k (.i .i64),.k (.i .i64),.k .l,.k (.i .i64),.k (.i .i64),.k (.i .i64),.k (.i .i64),.k .l,.k (.i .i64),.k (.i .i64),.k .l,.k (.i .i64),.k (.h .u8 30),.k .l,.k (.i .i64),.k .l,.k .l,.k .l,.k .l,.k .l,.k .l,.own 2000027 93 false])])],[]⟩)] [] [] 38 Tryz.f38
def wc:SG mf:=Co zD Tryz.func38 aaM aaM
def rT:Nat->Oper:=dA Tryz.f13 dB
def acX:Kn:=⟨.region 0 #[rT 0,rT 1,rT 2,rT 3] false,.region 1 #[rT 4,rT 5,rT 6,rT 7] false,.seq (.region 6 #[rT 51,rT 52,rT 53,rT 54,rT 55,rT 56] false) .ret,93,[(1,35),(2,35),(3,35),(4,35),(5,35),(6,36),(7,37),(8,38),(10,39)],[7,8,9,13,14,15,16,17,18,19,20,21,22,23,24,25,26,27,28,29,30,31,32,33,34,35,36,37,38,39,40,41]⟩
def acY:Ctx:=Ix mf [] 48 [] [] [] [] [] [] [] []
def akN:PB Tryz.prog acY acX 137 136 3 rT where
 aoe:=⟨3,aaM,aaM⟩
 fnT:=⟨_,rfl,λw=>by simp [zeroValue,show Tryz.t136.zero=some Value.nilFunc from rfl]⟩
 tyL:=⟨_,rfl,rfl,rfl⟩
 tyi:=⟨_,rfl,rfl,rfl⟩
 h8:=⟨aaM,aaM,aaM⟩
 aof:=⟨⟨aaM,aaM,aaM⟩,⟨aaM,aaM,aaM⟩,⟨aaM,aaM,aaM⟩,⟨aaM,aaM,aaM⟩,⟨aaM,aaM,aaM⟩,⟨aaM,aaM,aaM⟩,⟨aaM,aaM,aaM⟩,⟨aaM,aaM,aaM⟩,⟨aaM,aaM,aaM⟩,⟨aaM,aaM,aaM⟩,⟨aaM,aaM,aaM⟩,⟨aaM,aaM,aaM⟩,⟨aaM,aaM,aaM⟩,⟨aaM,aaM,aaM⟩,⟨aaM,aaM,aaM⟩,⟨aaM,aaM,aaM⟩,⟨aaM,aaM,aaM⟩,⟨aaM,aaM,aaM⟩,⟨aaM,aaM,aaM⟩,⟨aaM,aaM,aaM⟩,⟨aaM,aaM,aaM⟩,⟨aaM,aaM,aaM⟩,⟨aaM,aaM,aaM⟩,⟨aaM,aaM,aaM⟩,⟨aaM,aaM,aaM⟩,⟨aaM,aaM,aaM⟩,⟨aaM,aaM,aaM⟩,trivial⟩
 Yc:=⟨aaM,aaM,aaM⟩
 Ub:=⟨aaM,aaM,aaM⟩
 Wk:=⟨aaM,aaM,aaM⟩
 Yd:=⟨aaM,aaM,aaM⟩
 ZU:=⟨aaM,aaM,aaM⟩
 Uc:=⟨aaM,aaM,aaM⟩
 h42:=⟨aaM,aaM,aaM⟩
 Ye:=⟨aaM,aaM,aaM⟩
 ZV:=⟨aaM,aaM,aaM⟩
 h45:=⟨aaM,aaM,aaM⟩
 h46:=⟨aaM,aaM,aaM⟩
 Wl:=⟨aaM,aaM,aaM⟩
 VM:=⟨aaM,aaM,aaM⟩
 Ud:=⟨aaM,aaM,aaM⟩
 S6:=⟨#[93],⟨aaM,aaM,aaM⟩⟩
 n:=rfl
 len:=rfl
 nd:=aaD
 gone:=rfl
 key:=λ_=>rfl
def EN:GT:=aK 13 (aie acY acX Tryz.f13) mf
def Gi:SG EN:=wc.asY (c':=acY) (s:=acX) (rr:=λk=>k) (oo:=rT) ⟨rfl,rfl,rfl,rfl,rfl,rfl,rfl,rfl,rfl⟩ rfl jd Hk Hm Kz oR xX Tryz.func13 aaM (λ_=>rfl) aaM akN
def vG:GT:=rC EN 0 eo eo [] [(0,1000000)] 71 [26] [60] [(1,[5])] [(3,[0,1,2,3,4,5,6,7,8,9,10]),(8,[0,1,2,3,5,6,7,8,10,11,13,14,12,4,9,15,16,17,18,19,20,21,0,1,2,3,5,6,7,8,9,10,11,13,14,12,4,15,16,17,18,19,20,21,22,12,9,0,1,2,3,4,5,6,7,8,10,11,13,14,12,9,15,16,17,18,19,20,21,0,1,2,3,4,5,6,7,8,9,10,11,13,14,12,15,16,17,18,19,20,21,22,12,9,47,12,4])] [] [(3,⟨[0,5],[],[],[(0,[(1000000,.box [.k (.i .i64),.k (.i .i64),.k (.i .i64),.k (.i .i64),.k (.i .i64),.k (.i .i64),.k (.i .i64),.k (.i .i64),.k .l,.k (.i .i64),.k (.i .i64),.k (.i .i64),.k (.i .i64),.k .l,.k (.i .i64),.k (.i .i64),.k .l,.k (.i .i64),.k (.h .u8 30),.k .l,.k (.i .i64),.k .l,.k .l,.k .l,.k .l,.k .l,.k .l,.own 2000027 93 false])])],[]⟩)] [(6,⟨[0,5],[],[(6,.sc (.k (.i .i64))),(1000000,.box [.k (.i .i64),.k (.i .i64),.k (.i .i64),.k (.i .i64),.k (.i .i64),.k (.i .i64),.k (.i .i64),.k (.i .i64),.k .l,.k (.i .i64),.k (.i .i64),.k (.i .i64),.k (.i .i64),.k .l,.k (.i .i64),.k (.i .i64),.k .l,.k (.i .i64),.k (.h .u8 30),.k .l,.k (.i .i64),.k .l,.k .l,.k .l,.k .l,.k .l,.k .l,.own 2000027 93 false])],[(2,[(1000000,.box [.k (.i .i64),.k (.i .i64),.k (.i .i64),.k (.i .i64),.k (.i .i64),.k (.i .i64),.k (.i .i64),.k (.i .i64),.k .l,.k (.i .i64),.k (.i .i64),.k (.i .i64),.k (.i .i64),.k .l,.k (.i .i64),.k (.i .i64),.k .l,.k (.i .i64),.k (.h .u8 30),.k .l,.k (.i .i64),.k .l,.k .l,.k .l,.k .l,.k .l,.k .l,.own 2000027 93 false])])],[]⟩)] [] 41 Tryz.f41
def zE:SG vG:=Co Gi Tryz.func41 aaM aaM
def yL:GT:=rS vG [] [] 37 [31] [] [] [(3,[0,1,2,3,4,5,6,7,8,9,10,11,12,13,14])] [] [] [] [] 14 Tryz.f14
def Gj:SG yL:=Cn zE Tryz.func14 aaM
def qj:Option MV:=qB (Ix yL [] 63 [] [] [] [] [(4,⟨[1,2,4,6],[],[],[(0,[(0,.sc (.k .b))])],[]⟩)] [] [] []) [] none Tryz.f4 []
def N3:GT:=aK 4 (akb qj) yL
def MR:SG N3:=fnS Gj [] [] 63 [] [] [] [] [(4,⟨[1,2,4,6],[],[],[(0,[(0,.sc (.k .b))])],[]⟩)] [] [] [] Tryz.func4 aaM (Wu rfl)
def mC (a a1 a2:MV):Option MV:=gL a λa3=>
 gS a1 λakO=>
 gI .i64 a2 λagy=>
 bd (
 fU a3 λlen=>
 gk (decide ((12:Int)<(len:Int))) (
 some [.b true]) (
 some [.b (decide ((1000:Int)<(akO.length:Int)))])) λvs=>
 gC vs λm FP=>
 gB m λx=>
 gN FP<|
 gk x (
 bd (qj) λrA=>
 gB rA λx1=>
 some (.b x1)) (
 bd (Loop (λKU=>
 jLI KU λxs x2=>
 fU a3 λse=>
 gk (decide (x2<(se:Int))) (
 bd (Loop (λUy=>
 gC Uy λm3 UC=>
 gI .i64 m3 λx3=>
 gN UC<|
 idx a3 x2 λy=>
 gL y λx4=>
 fU x4 λBX=>
 gk (decide (x3<(BX:Int))) (
 bd (
 gk (decide (x3=6)) (
 some [.b true]) (
 idx a3 x2 λy1=>
 gL y1 λx5=>
 idx x5 x3 λy2=>
 gA y2 λcs=>
 wS cs λClient Seq Kind Path Value Version Session Span=>
 gk (decide ((300:Int)<(Path.length:Int))) (
 some [.b true]) (
 idx a3 x2 λy3=>
 gL y3 λx6=>
 idx x6 x3 λy4=>
 gA y4 λDG=>
 wS DG λnq HO aim KG nH iP R3 WL=>
 some [.b (decide ((300:Int)<(nH.length:Int)))]))) λCe=>
 gC Ce λm20 apf=>
 gB m20 λx7=>
 gN apf<|
 gk x7 (
 bd (qj) λaZ=>
 gB aZ λx8=>
 some (.inr (1,[.b x8]))) (
 some (.inl [.i .i64 (bo .i64 (x3+1))]))) (
 some (.inr (4,[])))) [.i .i64 0]) λp1=>
 gk (adZ p1.1 4) (
 gN p1.2<|
 idx a3 x2 λy5=>
 gL y5 λx9=>
 bd (oT [.list x9]) λdN=>
 gT dN λJF=>
 gC JF λm21 apg=>
 gS m21 λWH=>
 gC apg λm22 aph=>
 gI .i64 m22 λx11=>
 gN aph<|
 fU xs λPN=>
 fU ([.s WH]:List MV) λUx=>
 fh (decide ((PN+Ux) *16<=2^46))<|
 some (.inl [.list (xs++([.s WH]:List MV)),.i .i64 (bo .i64 (x2+1))])) (
 fh (adZ p1.1 1)<|
 gC p1.2 λm23 apj=>
 gB m23 λx12=>
 gN apj<|
 some (.inr (1,[.b x12])))) (
 some (.inr (2,[.list xs])))) [.list ([]:List MV),.i .i64 0]) λp=>
 gk (adZ p.1 2) (
 gC p.2 λm24 apk=>
 gL m24 λQq=>
 gN apk<|
 fU Qq λR5=>
 fU Qq λR6=>
 fh (decide ((0:Int)<=0/\(0:Int)<=(Fh (imax agy 0) (R5:Int))/\(Fh (imax agy 0) (R5:Int))<=(R6:Int)))<|
 bd (mB (.list (IN (sh 0) (IT (sh (Fh (imax agy 0) (R5:Int))) Qq)))) λux=>
 gA ux λIh=>
 xW Ih λqg ny wX qh Seen=>
 bd (oW [.s akO]) λMt=>
 gT Mt λvs3=>
 jLI vs3 λx13 x14=>
 bd (
 gk (!decide (x14=0)) (
 bd (mc [.agg (dz qg ny wX qh Seen),.s akO]) λPK=>
 gT PK λvs4=>
 gC vs4 λm32 apl=>
 gA m32 λxz=>
 xW xz λPS Lc UD PT acU=>
 jLI apl λx15 x16=>
 bd (qi [.agg (dz PS Lc UD PT acU),.agg (dz qg ny wX qh Seen)]) λDK=>
 gB DK λx17=>
 gk (!x17) (
 some (1,[.b false])) (
 some (0,[]))) (
 some (0,[]))) λp6=>
 gk (adZ p6.1 1) (
 gC p6.2 λm40 acS=>
 gB m40 λx18=>
 gN acS<|
 some (.b x18)) (
 fh (adZ p6.1 0)<|
 gN p6.2<|
 bd (Loop (λacT=>
 Bp acT λx19 x20 x21 x22 x23 x24=>
 fU Qq λakL=>
 gk (decide (x24<(akL:Int))) (
 idx Qq x24 λy6=>
 gS y6 λx25=>
 bd (mc [.agg (dz x19 x20 x21 x22 x23),.s x25]) λrA7=>
 gT rA7 λvs5=>
 gC vs5 λm47 apm=>
 gA m47 λcs4=>
 xW cs4 λagz acZ akP agA apn=>
 jLI apm λx26 x27=>
 some (.inl (ga agz acZ akP agA apn (bo .i64 (x24+1))))) (
 some (.inr (6,(dz x19 x20 x21 x22 x23))))) (ga qg ny wX qh Seen (Fh (imax agy 0) (R5:Int)))) λp9=>
 fh (adZ p9.1 6)<|
 Aq .i64 p9.2 λx28 x29 x30 x31 x32=>
 bd (
 bd (qj) λrA8=>
 gB rA8 λx33=>
 gk x33 (
 bd (mB (.list Qq)) λrA9=>
 gA rA9 λcs5=>
 xW cs5 λagB ac0 akQ agC apo=>
 bd (qi [.agg (dz x28 x29 x30 x31 x32),.agg (dz agB ac0 akQ agC apo)]) λMu=>
 gB Mu λx34=>
 gk x34 (
 bd (wZ (.agg (dz x28 x29 x30 x31 x32))) λKu=>
 gA Ku λcs6=>
 xW cs6 λagD ac1 akR agE apq=>
 bd (wY [.agg (dz agD ac1 akR agE apq)]) λRZ=>
 gB RZ λx35=>
 some [.b x35]) (
 some [.b false])) (
 some [.b false])) λvs6=>
 gC vs6 λm70 apr=>
 gB m70 λx36=>
 gN apr<|
 some (.b x36))) (
 fh (adZ p.1 1)<|
 gC p.2 λm71 aps=>
 gB m71 λx37=>
 gN aps<|
 some (.b x37)))
def Gk:GT:=aK 3 (RO mC) N3
def AL:SG Gk:=fnS MR [] [] 144 [85] [] [] [(24,[0,1,2,3,4,5,6,7,8,9,10,11,12,13]),(26,[0,1,2,3,4,5,6,7,8,9,10,11,12])] [(26,⟨[7,13],[32],[],[(0,[(6,.sc (.k .b))])],[32]⟩),(10,⟨[0,1,2,7,8,9],[32],[],[(0,[(73,.sc (.k .b))])],[32]⟩),(1,⟨[0,1,2],[],[],[(0,[(30,.sc (.k .b))])],[32]⟩)] [(18,⟨[1,7,12,13],[32],[],[(0,[]),(1,[(6,.sc (.k .b))])],[32]⟩)] [(22,⟨[7],[32],[(13,.box [.k .l,.k (.i .i64),.k .l,.k .l,.k .l]),(19,.sc (.k (.i .i64)))],[(6,[(13,.box [.k .l,.k (.i .i64),.k .l,.k .l,.k .l])])],[32]⟩),(8,⟨[0,1,2,7,8],[32],[(9,.sc (.k (.i .i64)))],[(1,[(6,.sc (.k .b))]),(4,[])],[32]⟩),(5,⟨[0,1,2],[],[(7,.sc (.own 32 9 true)),(8,.sc (.k (.i .i64)))],[(1,[(6,.sc (.k .b))]),(2,[(7,.sc (.own 32 9 true))])],[32]⟩)] [] Tryz.func3 aaM (xM (λ_ _ _=>aaM))
section
@[reducible] def v0 (r : Int × (List aa) × Int × (List aq) × (List ak) × (List ae) × Int × Int × Int × (List UInt8) × (List UInt8) × Int × Int × Int × Int × Int × Int × (List UInt8) × Int × (List (List UInt8)) × (List ay)) : List MV := [.i .i64 r.1, .list (r.2.1.map aS), .i .i64 r.2.2.1, .list (r.2.2.2.1.map aH), .list (r.2.2.2.2.1.map aN), .list (r.2.2.2.2.2.1.map aC), .i .i64 r.2.2.2.2.2.2.1, .i .i64 r.2.2.2.2.2.2.2.1, .i .i64 r.2.2.2.2.2.2.2.2.1, .s r.2.2.2.2.2.2.2.2.2.1, .s r.2.2.2.2.2.2.2.2.2.2.1, .i .i64 r.2.2.2.2.2.2.2.2.2.2.2.1, .i .i64 r.2.2.2.2.2.2.2.2.2.2.2.2.1, .i .i64 r.2.2.2.2.2.2.2.2.2.2.2.2.2.1, .i .i64 r.2.2.2.2.2.2.2.2.2.2.2.2.2.2.1, .i .i64 r.2.2.2.2.2.2.2.2.2.2.2.2.2.2.2.1, .i .i64 r.2.2.2.2.2.2.2.2.2.2.2.2.2.2.2.2.1, .s r.2.2.2.2.2.2.2.2.2.2.2.2.2.2.2.2.2.1, .i .i64 r.2.2.2.2.2.2.2.2.2.2.2.2.2.2.2.2.2.2.1, .list (r.2.2.2.2.2.2.2.2.2.2.2.2.2.2.2.2.2.2.2.1.map MV.s), .list (r.2.2.2.2.2.2.2.2.2.2.2.2.2.2.2.2.2.2.2.2.map dQ)]
@[reducible] def v1 (r : (List aa) × Int × (List aq) × (List ak) × (List ae) × Int × Int × Int × (List UInt8) × (List UInt8) × Int × Int × Int × Int × Int × Int × (List UInt8) × Int × (List (List UInt8)) × (List ay)) : List MV := [.list (r.1.map aS), .i .i64 r.2.1, .list (r.2.2.1.map aH), .list (r.2.2.2.1.map aN), .list (r.2.2.2.2.1.map aC), .i .i64 r.2.2.2.2.2.1, .i .i64 r.2.2.2.2.2.2.1, .i .i64 r.2.2.2.2.2.2.2.1, .s r.2.2.2.2.2.2.2.2.1, .s r.2.2.2.2.2.2.2.2.2.1, .i .i64 r.2.2.2.2.2.2.2.2.2.2.1, .i .i64 r.2.2.2.2.2.2.2.2.2.2.2.1, .i .i64 r.2.2.2.2.2.2.2.2.2.2.2.2.1, .i .i64 r.2.2.2.2.2.2.2.2.2.2.2.2.2.1, .i .i64 r.2.2.2.2.2.2.2.2.2.2.2.2.2.2.1, .i .i64 r.2.2.2.2.2.2.2.2.2.2.2.2.2.2.2.1, .s r.2.2.2.2.2.2.2.2.2.2.2.2.2.2.2.2.1, .i .i64 r.2.2.2.2.2.2.2.2.2.2.2.2.2.2.2.2.2.1, .list (r.2.2.2.2.2.2.2.2.2.2.2.2.2.2.2.2.2.2.1.map MV.s), .list (r.2.2.2.2.2.2.2.2.2.2.2.2.2.2.2.2.2.2.2.map dQ)]
@[reducible] def v2 (r : Int × Int × Int × (List UInt8) × Int × (List (List UInt8)) × Int × Int × Int × (List UInt8) × Int × (List (List UInt8))) : List MV := [.i .i64 r.1, .i .i64 r.2.1, .i .i64 r.2.2.1, .s r.2.2.2.1, .i .i64 r.2.2.2.2.1, .list (r.2.2.2.2.2.1.map MV.s), .i .i64 r.2.2.2.2.2.2.1, .i .i64 r.2.2.2.2.2.2.2.1, .i .i64 r.2.2.2.2.2.2.2.2.1, .s r.2.2.2.2.2.2.2.2.2.1, .i .i64 r.2.2.2.2.2.2.2.2.2.2.1, .list (r.2.2.2.2.2.2.2.2.2.2.2.map MV.s)]
@[reducible] def v3 (r : (List aa) × Int × (List aq) × (List ak) × (List ae) × Int) : List MV := [.list (r.1.map aS), .i .i64 r.2.1, .list (r.2.2.1.map aH), .list (r.2.2.2.1.map aN), .list (r.2.2.2.2.1.map aC), .i .i64 r.2.2.2.2.2]
@[reducible] def v4 (r : (List cI) × Int × (List bt) × (List bh) × (List cn) × Int) : List MV := [.list (r.1.map xP), .i .i64 r.2.1, .list (r.2.2.1.map qu), .list (r.2.2.2.1.map lM), .list (r.2.2.2.2.1.map qQ), .i .i64 r.2.2.2.2.2]
@[reducible] def v5 (r : (List aa) × Int × (List aq) × (List ak) × (List ae)) : List MV := [.list (r.1.map aS), .i .i64 r.2.1, .list (r.2.2.1.map aH), .list (r.2.2.2.1.map aN), .list (r.2.2.2.2.map aC)]
@[reducible] def v6 (r : (List cI) × Int × (List bt) × (List bh) × (List cn)) : List MV := [.list (r.1.map xP), .i .i64 r.2.1, .list (r.2.2.1.map qu), .list (r.2.2.2.1.map lM), .list (r.2.2.2.2.map qQ)]
@[reducible] def v7 (r : Int × Int × Int × (List UInt8) × Int × (List (List UInt8)) × Bool) : List MV := [.i .i64 r.1, .i .i64 r.2.1, .i .i64 r.2.2.1, .s r.2.2.2.1, .i .i64 r.2.2.2.2.1, .list (r.2.2.2.2.2.1.map MV.s), .b r.2.2.2.2.2.2]
attribute [local irreducible] sG idx both fT jm rY Kf s9 Ag wT wU wV kA wW tH yb nt Bq yc Br yd Bs oT mA oU gO cf jI yg pY mV lV yl oW jJ gQ iQ bZ kC Bt ic ig lf mW nu lg iS vu o4 gd eA yp iA lh iT yq gU b7 jK ua nw Bu dF eV cK li vv lY sf kj iU lZ iV Bv mb kl yw si iW yy yz kD yA kE vz jL vA yB nx jM yC kF gh cY Bw jN ue qw pa uf vB yE mc mB ik yG eW yH gj yI uk bD qi IC yJ Bx Bz BA EM yK PW BB BC ID BD wY AH wZ qj mC
instance:Ec aw:=⟨cH⟩
instance:Ec aq:=⟨aH⟩
instance:Ec ab:=⟨aI⟩
instance:Ec ae:=⟨aC⟩
instance:Ec jy:=⟨Ak⟩
instance:Ec vh:=⟨Kt⟩
instance:Ec qO:=⟨Hi⟩
instance:Ec bh:=⟨lM⟩
instance:Ec cn:=⟨qQ⟩
instance:Ec ox:=⟨Al⟩
instance:Ec aj:=⟨b9⟩
instance:Ec aa:=⟨aS⟩
instance:Ec au:=⟨bL⟩
instance:Ec ay:=⟨dQ⟩
instance:Ec aT:=⟨cB⟩
instance:Ec aV:=⟨jb⟩
instance:Ec ak:=⟨aN⟩
instance:En ab:=⟨xO⟩
instance:En ah:=⟨bu⟩
def YK {A B:Type}{g:B->A}{T:Option B}{k0:IntKind}{x0:Int}{x1:Bool}{K:Int->Bool->Option A}(h:Sm g (K x0 x1) T):Sm g (oIB k0 [.i k0 x0,.b x1] K) T:=aO (bH (aO (gE (cw h))))
def UG {A B:Type}{g:B->A}{T:Option B}{k0 k1:IntKind}{x0:Int}{x1:Int}{K:Int->Int->Option A}(h:Sm g (K x0 x1) T):Sm g (oII k0 k1 [.i k0 x0,.i k1 x1] K) T:=aO (bH (aO (bH (cw h))))
def ac2 {A B:Type}{g:B->A}{T:Option B}{k0 k1 k2:IntKind}{x0:Int}{x1:Int}{x2:Int}{K:Int->Int->Int->Option A}(h:Sm g (K x0 x1 x2) T):Sm g (aom k0 k1 k2 [.i k0 x0,.i k1 x1,.i k2 x2] K) T:=aO (bH (aO (bH (aO (bH (cw h))))))
def rf {A B:Type}{g:B->A}{T:Option B}{k0 k1 k2 k4:IntKind}{x0:Int}{x1:Int}{x2:Int}{x3:List UInt8}{x4:Int}{x5:List MV}{K:Int->Int->Int->List UInt8->Int->List MV->Option A}(h:Sm g (K x0 x1 x2 x3 x4 x5) T):Sm g (WE k0 k1 k2 k4 [.i k0 x0,.i k1 x1,.i k2 x2,.s x3,.i k4 x4,.list x5] K) T:=aO (bH (aO (bH (aO (bH (aO (kY (aO (bH (aO (dm (cw h))))))))))))
def ul {A B:Type}{g:B->A}{T:Option B}{k0 k1 k2 k5 k6 k7:IntKind}{x0:Int}{x1:Int}{x2:Int}{x3:List UInt8}{x4:List UInt8}{x5:Int}{x6:Int}{x7:Int}{K:Int->Int->Int->List UInt8->List UInt8->Int->Int->Int->Option A}(h:Sm g (K x0 x1 x2 x3 x4 x5 x6 x7) T):Sm g (NU k0 k1 k2 k5 k6 k7 [.i k0 x0,.i k1 x1,.i k2 x2,.s x3,.s x4,.i k5 x5,.i k6 x6,.i k7 x7] K) T:=aO (bH (aO (bH (aO (bH (aO (kY (aO (kY (aO (bH (aO (bH (aO (bH (cw h))))))))))))))))
def apt {A B:Type}{g:B->A}{T:Option B}{k0:IntKind}{x0:Int}{x1:List MV}{K:Int->List MV->Option A}(h:Sm g (K x0 x1) T):Sm g (oIL k0 [.i k0 x0,.list x1] K) T:=aO (bH (aO (dm (cw h))))
def UH {A B:Type}{g:B->A}{T:Option B}{k1:IntKind}{x0:List MV}{x1:Int}{K:List MV->Int->Option A}(h:Sm g (K x0 x1) T):Sm g (oLI k1 [.list x0,.i k1 x1] K) T:=aO (dm (aO (bH (cw h))))
def kp {A B:Type}{g:B->A}{T:Option B}{k1:IntKind}{x0:List MV}{x1:Int}{x2:List MV}{x3:List MV}{x4:List MV}{K:List MV->Int->List MV->List MV->List MV->Option A}(h:Sm g (K x0 x1 x2 x3 x4) T):Sm g (Aq k1 [.list x0,.i k1 x1,.list x2,.list x3,.list x4] K) T:=aO (dm (aO (bH (aO (dm (aO (dm (aO (dm (cw h))))))))))
def xb {A B:Type}{g:B->A}{T:Option B}{k1 k5:IntKind}{x0:List MV}{x1:Int}{x2:List MV}{x3:List MV}{x4:List MV}{x5:Int}{K:List MV->Int->List MV->List MV->List MV->Int->Option A}(h:Sm g (K x0 x1 x2 x3 x4 x5) T):Sm g (WG k1 k5 [.list x0,.i k1 x1,.list x2,.list x3,.list x4,.i k5 x5] K) T:=aO (dm (aO (bH (aO (dm (aO (dm (aO (dm (aO (bH (cw h))))))))))))
def pc {A B:Type}{g:B->A}{T:Option B}{k1 k5 k6 k7 k10 k11 k12 k13 k14 k15 k17:IntKind}{x0:List MV}{x1:Int}{x2:List MV}{x3:List MV}{x4:List MV}{x5:Int}{x6:Int}{x7:Int}{x8:List UInt8}{x9:List UInt8}{WH:Int}{x11:Int}{x12:Int}{x13:Int}{x14:Int}{x15:Int}{x16:List UInt8}{x17:Int}{x18:List MV}{x19:List MV}{K:List MV->Int->List MV->List MV->List MV->Int->Int->Int->List UInt8->List UInt8->Int->Int->Int->Int->Int->Int->List UInt8->Int->List MV->List MV->Option A}(h:Sm g (K x0 x1 x2 x3 x4 x5 x6 x7 x8 x9 WH x11 x12 x13 x14 x15 x16 x17 x18 x19) T):Sm g (kM k1 k5 k6 k7 k10 k11 k12 k13 k14 k15 k17 [.list x0,.i k1 x1,.list x2,.list x3,.list x4,.i k5 x5,.i k6 x6,.i k7 x7,.s x8,.s x9,.i k10 WH,.i k11 x11,.i k12 x12,.i k13 x13,.i k14 x14,.i k15 x15,.s x16,.i k17 x17,.list x18,.list x19] K) T:=aO (dm (aO (bH (aO (dm (aO (dm (aO (dm (aO (bH (aO (bH (aO (bH (aO (kY (aO (kY (aO (bH (aO (bH (aO (bH (aO (bH (aO (bH (aO (bH (aO (kY (aO (bH (aO (dm (aO (dm (cw h))))))))))))))))))))))))))))))))))))))))
def ais {A B:Type}{g:B->A}{T:Option B}{k1:IntKind}{x0:List UInt8}{x1:Int}{x2:Bool}{K:List UInt8->Int->Bool->Option A}(h:Sm g (K x0 x1 x2) T):Sm g (aoo k1 [.s x0,.i k1 x1,.b x2] K) T:=aO (kY (aO (bH (aO (gE (cw h))))))
def UI {A B:Type}{g:B->A}{T:Option B}{k2 k3:IntKind}{x0:List UInt8}{x1:List UInt8}{x2:Int}{x3:Int}{K:List UInt8->List UInt8->Int->Int->Option A}(h:Sm g (K x0 x1 x2 x3) T):Sm g (aij k2 k3 [.s x0,.s x1,.i k2 x2,.i k3 x3] K) T:=aO (kY (aO (kY (aO (bH (aO (bH (cw h))))))))
instance YL:Es (FM) (wT []) bL:=⟨by unfold FM;delta wT;exact sm⟩
instance YM:Es (FN) (wU []) cH:=⟨by unfold FN;delta wU;exact sm⟩
def YN:Sm b9 (wV) (Bm):=by unfold wV Bm;refine aE (YL).h λrA=> ?_;refine eP (aO (dm (cw ?_)));refine aE (YM).h λaZ=> ?_;refine eP (apt ?_);exact ao (rfl)
instance HX (o:ab):Es (fC o) (kA [aI o]) aI:=⟨by unfold fC;delta kA;exact sm⟩
def Gl (o:ab):Sm MV.b (wW (aI o)) (ef o):=by
 unfold wW ef;refine eP (ul ?_);refine aE (f:=λr=>[.b r]) ?_ λw=> ?_
 .refine cE ?_ ?_
  .refine cE ?_ ?_
   .refine cE ?_ ?_
    .exact ao (rfl)
    .exact ao (rfl)
   .exact ao (rfl)
  .exact ao (rfl)
 .refine aO (gE (cw ?_));refine aE (f:=λr=>[.b r]) ?_ λw1=> ?_
  .refine dK ?_ ?_
   .refine cE ?_ ?_
    .refine cE ?_ ?_
     .refine cE ?_ ?_
      .refine cE ?_ ?_
       .refine aE (HX o).h λrA=> ?_;refine eP (ul ?_);exact ao (rfl)
       .exact ao (rfl)
      .exact ao (rfl)
     .exact ao (rfl)
    .exact ao (rfl)
   .exact ao (rfl)
  .refine aO (gE (cw ?_));exact ao (rfl)
instance UJ (x:Int):Es (xQ x) (tH [.i .u64 x]) (MV.i .i64):=⟨by
 unfold xQ;delta tH;conv=>arg 2;whnf
 refine aE (f:=(λr=>(0,[.i .u64 r.1,.i .i64 r.2]))) ?_ λw=> ?_
 .exact sm
 .conv=>arg 2;whnf
  refine aE (f:=(λr=>(0,[.i .u64 r.1,.i .i64 r.2]))) ?_ λw1=> ?_
  .exact sm
  .conv=>arg 2;whnf
   refine aE (f:=(λr=>(0,[.i .u64 r.1,.i .i64 r.2]))) ?_ λw2=> ?_
   .exact sm
   .exact sm⟩
def UK (n:Int):Sm (MV.i .i64) (yb (.i .u64 n)) (ta n):=by unfold yb ta;refine bH ?_;refine aE (UJ n).h λrA=> ?_;refine bH (Wt ?_);exact ao (rfl)
instance HY (sA:List Int):Es (nm sA) (nt [.list (sA.map (MV.i .u8))]) (an3 (MV.i .u8)):=⟨by
 unfold nm;delta nt;conv=>arg 2;whnf
 refine afN (by simp only [AS]) ?_;exact sm⟩
instance YO (b:List Int) (n:Int):Es (pO b n) (Bq [.list (b.map (MV.i .u8)),.i .u64 n]) (HI (MV.i .u8)):=⟨by
 unfold pO;delta Bq;conv=>arg 2;whnf
 refine lI (UK n) λrA=> ?_;conv=>arg 2;whnf
 refine zk (HY b) λaZ=> ?_;conv=>arg 2;whnf
 refine ej (xL (rfl:_=aez (MV.i .u8) aZ) λ_=>rfl) ?_;conv=>arg 2;whnf
 first|refine kZ ?_|refine Ww ?_
 conv=>arg 2;whnf
 refine aE (lJ (λr=>[.list (r.1.map (MV.i .u8)),.i .i64 r.2]) (λr=>(2,[.list (r.map (MV.i .u8))])) λst=> ?_) λw=> ?_
 .unfold qR;exact sm
 .exact sm⟩
instance akS (b:List Int) (sA:List UInt8):Es (pP b sA) (yc [.list (b.map (MV.i .u8)),.s sA]) (HI (MV.i .u8)):=⟨by unfold pP;delta yc;exact sm⟩
instance alR (b:List Int) (n:Int):Es (wJ b n) (Br [.list (b.map (MV.i .u8)),.i .i64 n]) (HI (MV.i .u8)):=⟨by unfold wJ;delta Br;exact sm⟩
instance akT (b:List Int) (lA:List Int):Es (xR b lA) (yd [.list (b.map (MV.i .u8)),.list (lA.map (MV.i .i64))]) (FD (MV.i .u8)):=⟨by
 unfold xR;delta yd;conv=>arg 2;whnf
 refine aE (lJ (λr=>[.list (r.1.map (MV.i .u8)),.i .i64 r.2]) (λr=>(2,[.list (r.map (MV.i .u8))])) λst=> ?_) λw=> ?_
 .unfold r9;conv=>arg 2;whnf
  first|refine kZ ?_|refine vW ?_ ?_
  .conv=>arg 2;whnf
   refine Ew (f:=(MV.i .i64)) λy=> ?_;exact sm
  .exact sm
 .exact sm⟩
instance alS (b:List Int) (o:ab):Es (wK b o) (Bs [.list (b.map (MV.i .u8)),aI o]) (HI (MV.i .u8)):=⟨by unfold wK;delta Bs;exact sm⟩
instance PZ (lA:List ab):Es (oJ lA) (oT [.list (lA.map aI)]) (λr=> .cT [.s r.1,.i .i64 r.2]):=⟨by
 unfold oJ;delta oT;conv=>arg 2;whnf
 first|refine kZ ?_|refine vW ?_ ?_
 .exact sm
 .conv=>arg 2;whnf
  refine zk (YO ([]:List Int) (bo .u64 (lA.length:Int))) λrA=> ?_;conv=>arg 2;whnf
  refine aE (lJ (λr=>[.list (r.1.map (MV.i .u8)),.i .i64 r.2]) (ad9 (λr=>(2,[.list (r.map (MV.i .u8))])) (λr=>(1,[.s r.1,.i .i64 r.2]))) λst=> ?_) λw=> ?_
  .unfold jz;conv=>arg 2;whnf
   first|refine kZ ?_|refine vW ?_ ?_
   .conv=>arg 2;whnf
    refine Ew (f:=aI) λy=> ?_;conv=>arg 2;whnf
    refine lI (Gl y) λaZ=> ?_;exact sm
   .exact sm
  .rcases w with p1|p2
   .conv=>arg 2;whnf
    refine Uh (M:=p1) (rfl) λbs=> ?_;exact sm
   .exact sm⟩
instance EO (x:Int):Es (oK x) (mA [.i .i64 x]) MV.b:=⟨by unfold oK;delta mA;exact sm⟩
def AM (x:Int)(y:Int):Sm (MV.i .i64) (oU (.i .i64 x) (.i .i64 y)) (jA x y):=by
 unfold oU jA;refine bH (bH ?_);refine aE (EO x).h λrA=> ?_;refine gE ?_;refine aE (EO y).h λaZ=> ?_;refine gE ?_;refine dK ?_ ?_
 .refine dK ?_ ?_
  .exact ao (rfl)
  .exact ao (rfl)
 .refine dK ?_ ?_
  .exact ao (rfl)
  .refine cE ?_ ?_
   .exact ao (rfl)
   .refine cE ?_ ?_
    .exact ao (rfl)
    .exact ao (rfl)
instance Dq (x:ae) (iv:Int):Es (cr x iv) (gO [aC x,.i .i64 iv]) (MV.i .i64):=⟨by
 unfold cr;delta gO;conv=>arg 2;whnf
 refine lI (AM x.Client iv) λrA=> ?_;exact sm⟩
def mM (x:List ae)(target:Int)(cmp:ae->Int->Option Int){Iv:Nat}{zV:List MV}(Hv:gv Iv=false)(eD: ∀(u0:ae)(u1:Int),Sm (MV.i .i64) (bY Iv ([aC u0,.i .i64 u1]++zV)) (cmp u0 u1)):Sm (λr=> .cT [.i .i64 r.1,.b r.2]) (cf (.list (x.map aC)) (.i .i64 target) (.func Iv zV)) (cb x target cmp):=by
 unfold cf cb;refine dm (bH (CU (bS (n:=x.length) (by simp only [AS,AI,AT]) ?_)));refine aE (iC (λr=>[.i .i64 r.1,.i .i64 r.2]) (λr=>(2,[.i .i64 r])) (rfl) λst=> ?_) λw=> ?_
 .unfold e9;refine UG ?_;refine cE ?_ ?_
  .refine fV ?_;refine eF (f:=aC) (rfl) λy=> ?_;refine eP (rf (vV (ej (by rw [Hv];rfl) ?_)));refine aE (eD y target) λrA=> ?_;refine bH ?_;refine aE (f:=(λr=>(0,[.i .i64 r.1,.i .i64 r.2]))) ?_ λw1=> ?_
   .refine cE ?_ ?_
    .exact ao (rfl)
    .exact ao (rfl)
   .refine ej rfl (UG ?_);exact ao (rfl)
  .exact ao (rfl)
 .refine ej rfl (aO (bH (cw ?_)));refine aE (f:=λr=>[.i .i64 r.1,.b r.2]) ?_ λw2=> ?_
  .refine cE ?_ ?_
   .refine eF (f:=aC) (rfl) λy1=> ?_;refine eP (rf (vV (ej (by rw [Hv];rfl) ?_)));refine aE (eD y1 target) λaZ=> ?_;refine bH ?_;exact ao (rfl)
   .exact ao (rfl)
  .refine YK ?_;exact ao (rfl)
instance Gm (rA:aj) (iv:Int):Es (eH rA iv) (jI [b9 rA,.i .i64 iv]) (λr=> .cT [.i .i64 r.1,.b r.2]):=⟨by
 unfold eH;delta jI;conv=>arg 2;whnf
 refine lI (mM rA.Seen iv cr (Iv:=145) (zV:=[]) rfl (λu2 u3=>Sm.at (fG _ _) (Dq u2 u3).h)) λaZ=> ?_;exact sm⟩
instance UL (rA:aj) (iv:Int):Es (tc rA iv) (yg [b9 rA,.i .i64 iv]) (λr=> .cT [aC r.1,.b r.2]):=⟨by unfold tc;delta yg;exact sm⟩
theorem Dr (b:List Int):Sm (λr=> .cT [.i .u64 r.1,.list (r.2.1.map (MV.i .u8)),.i .i64 r.2.2]) (pY (.list (b.map (MV.i .u8)))) (nE b):=by
 unfold pY nE;refine dm (bS (n:=b.length) (by simp only [AS,AI,AT]) ?_);refine cE ?_ ?_
 .exact ao (rfl)
 .refine eF (f:=(MV.i .u8)) (rfl) λy=> ?_;refine bH (ej (xL (rfl:_=aez (MV.i .u8) b) λ_=>rfl) (bS (n:=b.length) (by simp only [AS,AI,AT]) (fV ?_)));refine aE (f:=λr=>[.b r]) ?_ λw=> ?_
  .refine cE ?_ ?_
   .exact ao (rfl)
   .refine cE ?_ ?_
    .refine bS (n:=(IN (sh 1) (IT (sh (b.length:Int)) b)).length) (by simp only [AS,aa0,AI,AT,ad1,aea,aed]) ?_;refine cE ?_ ?_
     .refine eF (f:=(MV.i .u8)) (by simp only [vf,aee,ad4,ad5,aeb,ad6,ad7,aec]) λy1=> ?_;refine bH ?_;exact ao (rfl)
     .exact ao (rfl)
    .exact ao (rfl)
  .refine aO (gE (cw ?_));refine dK ?_ ?_
   .exact ao (rfl)
   .refine bS (n:=(IN (sh 1) (IT (sh (b.length:Int)) b)).length) (by simp only [AS,aa0,AI,AT,ad1,aea,aed]) ?_;refine cE ?_ ?_
    .exact ao (rfl)
    .refine bS (n:=(IN (sh 1) (IT (sh (b.length:Int)) b)).length) (by simp only [AS,aa0,AI,AT,ad1,aea,aed]) (fV (bS (n:=(IN (sh 0) (IT (sh (bo .i64 y)) (IN (sh 1) (IT (sh (b.length:Int)) b)))).length) (by simp only [AS,aa0,AI,AT,ad1,aea,aed]) ?_));refine aE (iC (λr=>[.i .u64 r.1,.i .i64 r.2]) (λr=>(3,[.i .u64 r])) (rfl) λst=> ?_) λw1=> ?_
     .unfold oL;refine UG ?_;refine cE ?_ ?_
      .refine eF (f:=(MV.i .u8)) (by simp only [vf,aee,ad4,ad5,aeb,ad6,ad7,aec]) λy2=> ?_;refine bH (fV ?_);exact ao (rfl)
      .exact ao (rfl)
     .refine ej rfl (aO (bH (cw (ej (xL ((by simp only [vf,aee,ad4,ad5,aeb,ad6,ad7,aec]):_=aez (MV.i .u8) (IN (sh 1) (IT (sh (b.length:Int)) b))) λ_=>rfl) (bS (n:=(IN (sh 1) (IT (sh (b.length:Int)) b)).length) (by simp only [AS,aa0,AI,AT,ad1,aea,aed]) (fV ?_))))));exact ao (by first|(simp;done)|simp only [ad4,ad5,aeb,ad6,ad7,aec])
def MU (b:List Int):Sm (λr=> .cT [.i .i64 r.1,.list (r.2.1.map (MV.i .u8)),.i .i64 r.2.2]) (mV (.list (b.map (MV.i .u8)))) (kH b):=by unfold mV kH;refine dm ?_;refine aE (Dr b) λrA=> ?_;refine yS (aO (bH (UH (fV ?_))));exact ao (rfl)
def Ln (b:List Int)(most:Int):Sm (λr=> .cT [.s r.1,.list (r.2.1.map (MV.i .u8)),.i .i64 r.2.2]) (lV (.list (b.map (MV.i .u8))) (.i .i64 most)) (jB b most):=by
 unfold lV jB;refine dm (bH ?_);refine aE (Dr b) λrA=> ?_;refine yS (aO (bH (UH ?_)));refine dK ?_ ?_
 .exact ao (rfl)
 .refine cE ?_ ?_
  .exact ao (rfl)
  .refine bS (n:=rA.2.1.length) (by simp only [AS,AI,AT]) ?_;refine cE ?_ ?_
   .exact ao (rfl)
   .refine bS (n:=rA.2.1.length) (by simp only [AS,AI,AT]) (fV ?_);refine Uh (M:=IN (sh 0) (IT (sh rA.1) rA.2.1)) ((by simp only [vf,aee,ad4,ad5,aeb,ad6,ad7,aec])) λbs=> ?_;refine ej (xL (rfl:_=aez (MV.i .u8) rA.2.1) λ_=>rfl) (bS (n:=rA.2.1.length) (by simp only [AS,AI,AT]) (fV ?_));exact ao (by first|(simp;done)|simp only [ad4,ad5,aeb,ad6,ad7,aec])
def N4 {j:Nat}{b:List Int}{e x:Int}{os:List MV}(h:os[j]? =some (.i .i64 x)):tkI bN yW j ⟨b.map (MV.i .u8),e,os⟩=(oM b e x).map λr=>⟨r.2.1.map (MV.i .u8),r.2.2,os.set j (.i .i64 r.1)⟩:=by
 unfold tkI oM;by_cases he:e=0
 .rw [if_pos he,if_pos he];show (match bN yW.ti [.list (b.map (MV.i .u8))] with|some (.cT [.i .i64 n,.list xs,.i .i64 e])=>_|_=>none)=_;rw [show bN yW.ti [.list (b.map (MV.i .u8))]=mV (.list (b.map (MV.i .u8))) from by kernel_rfl];have h:=MU b;unfold Sm at h;rw [h];cases kH b<;>rfl
 .rw [if_neg he,if_neg he];obtain ⟨hl,hx⟩:=aex.1 h;have hs:os.set j (.i .i64 x)=os:=by rw [<-hx,aeY]
  show _=some (⟨b.map (MV.i .u8),e,os.set j (.i .i64 x)⟩:RQ);rw [hs]
def ait {j:Nat}{b:List Int}{e most:Int}{os:List MV}(h:os[j]? =some (.s [])):RR bN yW j most ⟨b.map (MV.i .u8),e,os⟩=(vi b e most).map λr=>⟨r.2.1.map (MV.i .u8),r.2.2,os.set j (.s r.1)⟩:=by
 unfold RR vi;by_cases he:e=0
 .rw [if_pos he,if_pos he];show (match bN yW.tx [.list (b.map (MV.i .u8)),.i .i64 most] with|some (.cT [.s l,.list xs,.i .i64 e])=>_|_=>none)=_;rw [show bN yW.tx [.list (b.map (MV.i .u8)),.i .i64 most]=lV (.list (b.map (MV.i .u8))) (.i .i64 most) from by kernel_rfl];have h:=Ln b most;unfold Sm at h;rw [h];cases jB b most<;>rfl
 .rw [if_neg he,if_neg he];obtain ⟨hl,hx⟩:=aex.1 h;have hs:os.set j (.s [])=os:=by rw [<-hx,aeY]
  show _=some (⟨b.map (MV.i .u8),e,os.set j (.s [])⟩:RQ);rw [hs]
def UM (b:List Int):Sm (λr=> .cT [aI r.1,.list (r.2.1.map (MV.i .u8)),.i .i64 r.2.2]) (yl (.list (b.map (MV.i .u8)))) (td b):=by
 delta yl
 show RS bN yW (b.map (MV.i .u8))=_;unfold RS td;simp only [FJ];rw [N4 (j:=0) (x:=0) rfl];cases oM b 0 0 with|none=>rfl|some r0=> ?_;simp only [ad2,av];rw [N4 (j:=1) (x:=0) rfl];cases oM r0.2.1 r0.2.2 0 with|none=>rfl|some r1=> ?_;simp only [ad2,av];rw [N4 (j:=2) (x:=0) rfl];cases oM r1.2.1 r1.2.2 0 with|none=>rfl|some r2=> ?_;simp only [ad2,av];rw [N4 (j:=5) (x:=0) rfl];cases oM r2.2.1 r2.2.2 0 with|none=>rfl|some r3=> ?_;simp only [ad2,av];rw [N4 (j:=6) (x:=0) rfl];cases oM r3.2.1 r3.2.2 0 with|none=>rfl|some r4=> ?_;simp only [ad2,av];rw [N4 (j:=7) (x:=0) rfl];cases oM r4.2.1 r4.2.2 0 with|none=>rfl|some r5=> ?_;simp only [ad2,av];rw [ait (j:=3) rfl];cases vi r5.2.1 r5.2.2 100 with|none=>rfl|some s0=> ?_;simp only [ad2,av];rw [ait (j:=4) rfl];cases vi s0.2.1 s0.2.2 1000 with|none=>rfl|some s1=> ?_;simp only [ad2,av];by_cases he:s1.2.2=0;rotate_left
 .rw [if_neg he,if_neg he];rfl
 rw [if_pos he,if_pos he];have h:=Gl (⟨r0.1,r1.1,r2.1,s0.1,s1.1,r3.1,r4.1,r5.1⟩:ab);unfold Sm at h;show (match bN yW.may [aI (⟨r0.1,r1.1,r2.1,s0.1,s1.1,r3.1,r4.1,r5.1⟩:ab)] with|some (.b true)=>_|some (.b false)=>_|_=>none)=_;rw [show bN yW.may [aI (⟨r0.1,r1.1,r2.1,s0.1,s1.1,r3.1,r4.1,r5.1⟩:ab)]=wW (aI (⟨r0.1,r1.1,r2.1,s0.1,s1.1,r3.1,r4.1,r5.1⟩:ab)) from by kernel_rfl,h];cases ef (⟨r0.1,r1.1,r2.1,s0.1,s1.1,r3.1,r4.1,r5.1⟩:ab) with
 |none=>rfl
 |some m=>cases m<;>rfl
instance P0 (sA:List UInt8):Es (dv sA) (oW [.s sA]) (λr=> .cT [.list (r.1.map aI),.i .i64 r.2]):=⟨by
 unfold dv;delta oW;conv=>arg 2;whnf
 refine lI (Dr (zj sA)) λrA=> ?_;conv=>arg 2;whnf
 refine aE (f:=λr=>[.b r]) ?_ λw=> ?_
 .exact sm
 .conv=>arg 2;whnf
  refine ov ?_ ?_
  .exact sm
  .conv=>arg 2;whnf
   first|refine kZ ?_|refine Ww ?_
   conv=>arg 2;whnf
   refine aE (lJ (λr=>[.list (r.1.map (MV.i .u8)),.list (r.2.1.map aI),.i .i64 r.2.2]) (ad9 (λr=>(2,[.list (r.1.map (MV.i .u8)),.list (r.2.map aI)])) (λr=>(1,[.list (r.1.map aI),.i .i64 r.2]))) λst=> ?_) λw1=> ?_
   .unfold jC;conv=>arg 2;whnf
    first|refine kZ ?_|refine vW ?_ ?_
    .conv=>arg 2;whnf
     refine lI (UM st.1) λaZ=> ?_;exact sm
    .exact sm
   .rcases w1 with p1|p2
    .exact sm
    .exact sm⟩
instance Gn (rA:aj) (o:ab):Es (jD rA o) (jJ [b9 rA,aI o]) (λr=> .cT [aC r.1,.b r.2]):=⟨by
 unfold jD;delta jJ;conv=>arg 2;whnf
 refine zk (UL rA o.Client) λaZ=> ?_;conv=>arg 2;whnf
 refine lI (Gl o) λdN=> ?_;conv=>arg 2;whnf
 refine aE (f:=(ad9 (λr=>(0,(v2 r))) (λr=>(1,(v7 r))))) ?_ λw=> ?_
 .conv=>arg 2;whnf
  refine ov ?_ ?_
  .exact sm
  .conv=>arg 2;whnf
   refine aE (f:=λr=>[.b r]) ?_ λw1=> ?_
   .exact sm
   .conv=>arg 2;whnf
    refine ov ?_ ?_
    .exact sm
    .conv=>arg 2;whnf
     refine aE (f:=λr=>[.b r]) ?_ λw2=> ?_
     .exact sm
     .conv=>arg 2;whnf
      refine aE (f:=(ad9 (λr=>(0,(v2 r))) (λr=>(1,(v7 r))))) ?_ λw3=> ?_
      .exact sm
      .rcases w3 with p2|p3
       .exact sm
       .exact sm
 .rcases w with p4|p5
  .exact sm
  .exact sm⟩
instance Ds (w:ah):Es (nF w) (gQ [.cell (.func 0 (bu w))]) (λr=> .im ((λ_=> .cT []) r.1) (bu r.2)):=⟨by unfold nF;delta gQ;exact sm⟩
instance EP (x:aq) (id:Int):Es (cJ x id) (iQ [aH x,.i .i64 id]) (MV.i .i64):=⟨by
 unfold cJ;delta iQ;conv=>arg 2;whnf
 refine lI (AM x.Id id) λrA=> ?_;exact sm⟩
def mg (x:List aq)(target:Int)(cmp:aq->Int->Option Int){Iv:Nat}{zV:List MV}(Hv:gv Iv=false)(dY: ∀(u0:aq)(u1:Int),Sm (MV.i .i64) (bP Iv ([aH u0,.i .i64 u1]++zV)) (cmp u0 u1)):Sm (λr=> .cT [.i .i64 r.1,.b r.2]) (bZ (.list (x.map aH)) (.i .i64 target) (.func Iv zV)) (bX x target cmp):=by
 unfold bZ bX;refine dm (bH (CU (bS (n:=x.length) (by simp only [AS,AI,AT]) ?_)));refine aE (iC (λr=>[.i .i64 r.1,.i .i64 r.2]) (λr=>(2,[.i .i64 r])) (rfl) λst=> ?_) λw=> ?_
 .unfold eB;refine UG ?_;refine cE ?_ ?_
  .refine fV ?_;refine eF (f:=aH) (rfl) λy=> ?_;refine eP (ac2 (vV (ej (by rw [Hv];rfl) ?_)));refine aE (dY y target) λrA=> ?_;refine bH ?_;refine aE (f:=(λr=>(0,[.i .i64 r.1,.i .i64 r.2]))) ?_ λw1=> ?_
   .refine cE ?_ ?_
    .exact ao (rfl)
    .exact ao (rfl)
   .refine ej rfl (UG ?_);exact ao (rfl)
  .exact ao (rfl)
 .refine ej rfl (aO (bH (cw ?_)));refine aE (f:=λr=>[.i .i64 r.1,.b r.2]) ?_ λw2=> ?_
  .refine cE ?_ ?_
   .refine eF (f:=aH) (rfl) λy1=> ?_;refine eP (ac2 (vV (ej (by rw [Hv];rfl) ?_)));refine aE (dY y1 target) λaZ=> ?_;refine bH ?_;exact ao (rfl)
   .exact ao (rfl)
  .refine YK ?_;exact ao (rfl)
instance rQ (b:aw) (id:Int):Es (dw b id) (kC [cH b,.i .i64 id]) (λr=> .cT [.i .i64 r.1,.b r.2]):=⟨by
 unfold dw;delta kC;conv=>arg 2;whnf
 refine lI (mg b.L id cJ (Iv:=258) (zV:=[]) rfl (λu2 u3=>Sm.at (fp _ _) (EP u2 u3).h)) λrA=> ?_;exact sm⟩
instance alT (b:aw) (id:Int):Es (wL b id) (Bt [cH b,.i .i64 id]) MV.b:=⟨by unfold wL;delta Bt;exact sm⟩
instance Qr (sA:List UInt8) (eR:List UInt8):Es (gZ sA eR) (ic [.s sA,.s eR]) MV.b:=⟨by unfold gZ;delta ic;exact sm⟩
instance Qs (sA:List UInt8) (eR:List UInt8):Es (ia sA eR) (ig [.s sA,.s eR]) (λr=> .cT [.s r.1,.b r.2]):=⟨by unfold ia;delta ig;exact sm⟩
instance EQ (sA:List UInt8) (eR:List UInt8):Es (iD sA eR) (lf [.s sA,.s eR]) (λr=> .cT [.s r.1,.b r.2]):=⟨by unfold iD;delta lf;exact sm⟩
instance MW (c:Int):Es (gp c) (mW [.i .i32 c]) MV.b:=⟨by
 unfold gp;delta mW;conv=>arg 2;whnf
 refine lI (Yj ([97,98,99,100,101,102,103,104,105,106,107,108,109,110,111,112,113,114,115,116,117,118,119,120,121,122,48,49,50,51,52,53,54,55,56,57,45,95]:List UInt8) c) λrA=> ?_;exact sm⟩
def HZ (sA:List UInt8)(f:Int->Option Bool)(Hj:Bool){BT:Nat}{uB:List MV}(ZN:gv BT=false)(iX: ∀(u0:Int),Sm MV.b (iR BT ([.i .i32 u0]++uB)) (f u0)):Sm (MV.i .i64) (nu (.s sA) (.func BT uB) (.b Hj)) (np sA f Hj):=by
 unfold nu np;refine kY (CU (gE ?_));refine aE (iC (λr=>[.list r]) (ad9 (λr=>(2,[])) (λr=>(1,[.i .i64 r]))) (rfl) λst=> ?_) λw=> ?_
 .unfold iF;refine aO (dm (cw ?_));refine dK ?_ ?_
  .refine vV (ej (by rw [ZN];rfl) ?_);refine aE (iX (CA st)) λrA=> ?_;refine gE ?_;refine cE ?_ ?_
   .exact ao (rfl)
   .exact ao (rfl)
  .exact ao (rfl)
 .rcases w with p1|p2
  .refine FE rfl (cw ?_);exact ao (rfl)
  .refine FF rfl (ej rfl (aO (bH (cw ?_))));exact ao (rfl)
def ER (sA:List UInt8)(f:Int->Option Bool){BT:Nat}{uB:List MV}(ZN:gv BT=false)(iX: ∀(u0:Int),Sm MV.b (iR BT ([.i .i32 u0]++uB)) (f u0)):Sm (MV.i .i64) (lg [.s sA,.func BT uB]) (lc sA f):=by
 unfold lc;delta lg;conv=>arg 2;whnf
 refine lI (HZ sA f true ZN iX) λrA=> ?_;exact sm
def AN (sA:List UInt8)(f:Int->Option Bool){BT:Nat}{uB:List MV}(ZN:gv BT=false)(iX: ∀(u0:Int),Sm MV.b (iR BT ([.i .i32 u0]++uB)) (f u0)):Sm MV.b (iS [.s sA,.func BT uB]) (fa sA f):=by
 unfold fa;delta iS;conv=>arg 2;whnf
 refine lI (ER sA f ZN iX) λrA=> ?_;exact sm
instance aiu (sA:List UInt8):Es (qT sA) (vu [.s sA]) MV.b:=⟨by
 unfold qT;delta vu;conv=>arg 2;whnf
 refine aE (f:=λr=>[.b r]) ?_ λw=> ?_
 .conv=>arg 2;whnf
  refine ov ?_ ?_
  .conv=>arg 2;whnf
   first|refine kZ ?_|refine vW ?_ ?_
   .conv=>arg 2;whnf
    refine lI (aki sA ([97,98,99,100,101,102,103,104,105,106,107,108,109,110,111,112,113,114,115,116,117,118,119,120,121,122,48,49,50,51,52,53,54,55,56,57,45,95]:List UInt8)) λrA=> ?_;conv=>arg 2;whnf
    first|refine kZ ?_|refine vW ?_ ?_
    .conv=>arg 2;whnf
     refine lI (AN sA gp (BT:=300) (uB:=[]) rfl (λu1=>Sm.at (rF _) (MW u1).h)) λaZ=> ?_;exact sm
    .exact sm
   .exact sm
  .exact sm
 .exact sm⟩
instance P1 (sA:List UInt8):Es (mu sA) (o4 [.s sA]) MV.b:=⟨by unfold mu;delta o4;exact sm⟩
def yM (sA:List (List UInt8))(f:(List UInt8)->Option Bool){BT:Nat}{uB:List MV}(ZN:gv BT=false)(jg: ∀(u0:List UInt8),Sm MV.b (eU BT ([.s u0]++uB)) (f u0)):Sm (MV.i .i64) (gd (.list (sA.map MV.s)) (.func BT uB)) (fY sA f):=by
 unfold gd fY;refine dm (CU (bS (n:=sA.length) (by simp only [AS,AI,AT]) ?_));refine aE (iC (λr=>[.i .i64 r]) (ad9 (λr=>(2,[])) (λr=>(1,[.i .i64 r]))) (rfl) λst=> ?_) λw=> ?_
 .unfold dn;refine aO (bH (cw ?_));refine cE ?_ ?_
  .refine eF (f:=MV.s) (rfl) λy=> ?_;refine kY (vV (ej (by rw [ZN];rfl) ?_));refine aE (jg y) λrA=> ?_;refine gE ?_;refine dK ?_ ?_
   .exact ao (rfl)
   .exact ao (rfl)
  .exact ao (rfl)
 .rcases w with p1|p2
  .refine FE rfl (cw ?_);exact ao (rfl)
  .refine FF rfl (ej rfl (aO (bH (cw ?_))));exact ao (rfl)
def uI (sA:List (List UInt8))(f:(List UInt8)->Option Bool){BT:Nat}{uB:List MV}(ZN:gv BT=false)(jg: ∀(u0:List UInt8),Sm MV.b (eU BT ([.s u0]++uB)) (f u0)):Sm MV.b (eA [.list (sA.map MV.s),.func BT uB]) (cW sA f):=by
 unfold cW;delta eA;conv=>arg 2;whnf
 refine lI (yM sA f ZN jg) λrA=> ?_;exact sm
instance akU (p:List UInt8):Es (gG p) (yp [.s p]) (λr=> .cT [.list (r.1.map MV.s),.b r.2]):=⟨by
 unfold gG;delta yp;conv=>arg 2;whnf
 refine zk (EQ p ([47]:List UInt8)) λrA=> ?_;conv=>arg 2;whnf
 refine aE (f:=λr=>[.b r]) ?_ λw=> ?_
 .exact sm
 .conv=>arg 2;whnf
  refine ov ?_ ?_
  .exact sm
  .conv=>arg 2;whnf
   first|refine kZ ?_|refine vW ?_ ?_
   .exact sm
   .conv=>arg 2;whnf
    refine lI (afO rA.1 ([47]:List UInt8)) λaZ=> ?_;conv=>arg 2;whnf
    refine aE (f:=λr=>[.list (r.1.map MV.s),.b r.2.1,.list (r.2.2.map MV.s)]) ?_ λw1=> ?_
    .conv=>arg 2;whnf
     first|refine kZ ?_|refine vW ?_ ?_
     .conv=>arg 2;whnf
      refine lI (uI aZ mu (BT:=270) (uB:=[]) rfl (λu1=>Sm.at (nK _) (P1 u1).h)) λdN=> ?_;exact sm
     .exact sm
    .exact sm⟩
instance yZ (x:List UInt8):Es (ku x) (iA [.s x]) MV.b:=⟨by unfold ku;delta iA;exact sm⟩
def ES (x:List UInt8)(y:List UInt8):Sm (MV.i .i64) (lh (.s x) (.s y)) (iG x y):=by
 unfold lh iG;refine kY (kY ?_);refine aE (yZ x).h λrA=> ?_;refine gE ?_;refine aE (yZ y).h λaZ=> ?_;refine gE ?_;refine dK ?_ ?_
 .refine dK ?_ ?_
  .exact ao (rfl)
  .exact ao (rfl)
 .refine dK ?_ ?_
  .exact ao (rfl)
  .refine dK ?_ ?_
   .exact ao (rfl)
   .refine dK ?_ ?_
    .exact ao (rfl)
    .exact ao (rfl)
instance Se (s1:List (List UInt8)) (s2:List (List UInt8)):Es (fb s1 s2) (iT [.list (s1.map MV.s),.list (s2.map MV.s)]) (MV.i .i64):=⟨by
 unfold fb;delta iT;conv=>arg 2;whnf
 refine aE (lJ (λr=>[.i .i64 r]) (ad9 (λr=>(2,[])) (λr=>(1,[.i .i64 r]))) λst=> ?_) λw=> ?_
 .unfold dR;conv=>arg 2;whnf
  first|refine kZ ?_|refine vW ?_ ?_
  .conv=>arg 2;whnf
   refine Ew (f:=MV.s) λy=> ?_;conv=>arg 2;whnf
   first|refine kZ ?_|refine vW ?_ ?_
   .exact sm
   .conv=>arg 2;whnf
    refine Ew (f:=MV.s) λy1=> ?_;conv=>arg 2;whnf
    refine lI (ES y y1) λrA=> ?_;exact sm
  .exact sm
 .rcases w with p1|p2
  .exact sm
  .exact sm⟩
instance akV (p:List UInt8) (q:List UInt8):Es (th p q) (yq [.s p,.s q]) MV.b:=⟨by unfold th;delta yq;exact sm⟩
instance Dt (n:aa) (p:List UInt8):Es (bM n p) (gU [aS n,.s p]) (MV.i .i64):=⟨by unfold bM;delta gU;exact sm⟩
def mh (x:List aa)(target:List UInt8)(cmp:aa->(List UInt8)->Option Int){Iv:Nat}{zV:List MV}(Hv:gv Iv=false)(dZ: ∀(u0:aa)(u1:List UInt8),Sm (MV.i .i64) (bQ Iv ([aS u0,.s u1]++zV)) (cmp u0 u1)):Sm (λr=> .cT [.i .i64 r.1,.b r.2]) (b7 (.list (x.map aS)) (.s target) (.func Iv zV)) (cO x target cmp):=by
 unfold b7 cO;refine dm (kY (CU (bS (n:=x.length) (by simp only [AS,AI,AT]) ?_)));refine aE (iC (λr=>[.i .i64 r.1,.i .i64 r.2]) (λr=>(2,[.i .i64 r])) (rfl) λst=> ?_) λw=> ?_
 .unfold eC;refine UG ?_;refine cE ?_ ?_
  .refine fV ?_;refine eF (f:=aS) (rfl) λy=> ?_;refine eP (UI (vV (ej (by rw [Hv];rfl) ?_)));refine aE (dZ y target) λrA=> ?_;refine bH ?_;refine aE (f:=(λr=>(0,[.i .i64 r.1,.i .i64 r.2]))) ?_ λw1=> ?_
   .refine cE ?_ ?_
    .exact ao (rfl)
    .exact ao (rfl)
   .refine ej rfl (UG ?_);exact ao (rfl)
  .exact ao (rfl)
 .refine ej rfl (aO (bH (cw ?_)));refine aE (f:=λr=>[.i .i64 r.1,.b r.2]) ?_ λw2=> ?_
  .refine cE ?_ ?_
   .refine eF (f:=aS) (rfl) λy1=> ?_;refine eP (UI (vV (ej (by rw [Hv];rfl) ?_)));refine aE (dZ y1 target) λaZ=> ?_;refine bH ?_;exact ao (rfl)
   .exact ao (rfl)
  .refine YK ?_;exact ao (rfl)
instance Gp (sA:au) (p:List UInt8):Es (eI sA p) (jK [bL sA,.s p]) (λr=> .cT [.i .i64 r.1,.b r.2]):=⟨by
 unfold eI;delta jK;conv=>arg 2;whnf
 refine lI (mh sA.L p bM (Iv:=260) (zV:=[]) rfl (λu2 u3=>Sm.at (fe _ _) (Dt u2 u3).h)) λrA=> ?_;exact sm⟩
instance UN (p:List UInt8):Es (ka p) (ua [.s p]) MV.b:=⟨by unfold ka;delta ua;exact sm⟩
instance H0 (sA:au) (p:List UInt8):Es (fD sA p) (nw [bL sA,.s p]) (λr=> .cT [.i .i64 r.1,.i .i64 r.2]):=⟨by unfold fD;delta nw;exact sm⟩
instance alU (sA:au) (p:List UInt8):Es (pQ sA p) (Bu [bL sA,.s p]) (λr=> .cT [aS r.1,.i .i64 r.2]):=⟨by unfold pQ;delta Bu;exact sm⟩
instance IE (sA:List UInt8) (c:Int):Es (dE sA c) (dF [.s sA,.i .u8 c]) (MV.i .i64):=⟨by unfold dE;delta dF;exact sm⟩
instance we (sep:List UInt8):Es (jc sep) (eV [.s sep]) (λr=> .cT [.i .u32 r.1,.i .u32 r.2]):=⟨by
 unfold jc;delta eV;conv=>arg 2;whnf
 refine aE (lJ (λr=>[.i .u32 r.1,.i .i64 r.2]) (λr=>(2,[.i .u32 r])) λst=> ?_) λw=> ?_
 .exact sm
 .conv=>arg 2;whnf
  refine aE (lJ (λr=>[.i .u32 r.1,.i .u32 r.2.1,.i .i64 r.2.2]) (λr=>(4,[.i .u32 r])) λcz=> ?_) λw1=> ?_
  .unfold lN;conv=>arg 2;whnf
   first|refine kZ ?_|refine vW ?_ ?_
   .conv=>arg 2;whnf
    refine aE (f:=(λr=>(0,[.i .u32 r]))) ?_ λw2=> ?_
    .exact sm
    .exact sm
   .exact sm
  .exact sm⟩
instance ET (a:List UInt8) (a1:List UInt8):Es (dS a a1) (cK [.s a,.s a1]) (MV.i .i64):=⟨by
 unfold dS;delta cK;conv=>arg 2;whnf
 refine zk (we a1) λrA=> ?_;conv=>arg 2;whnf
 refine aE (lJ (λr=>[.i .u32 r.1,.i .i64 r.2]) (λr=>(2,[.i .u32 r])) λst=> ?_) λw=> ?_
 .unfold gJ;exact sm
 .conv=>arg 2;whnf
  refine aE (f:=λr=>[.b r]) ?_ λw1=> ?_
  .exact sm
  .conv=>arg 2;whnf
   refine ov ?_ ?_
   .exact sm
   .conv=>arg 2;whnf
    refine aE (lJ (λr=>[.i .u32 r.1,.i .i64 r.2]) (ad9 (λr=>(4,[])) (λr=>(1,[.i .i64 r]))) λcz=> ?_) λw2=> ?_
    .unfold gK;exact sm
    .rcases w2 with p2|p3
     .exact sm
     .exact sm⟩
instance WO (sA:List UInt8) (substr:List UInt8):Es (iH sA substr) (li [.s sA,.s substr]) (MV.i .i64):=⟨by unfold iH;delta li;exact sm⟩
instance aiv (p:List UInt8):Es (nV p) (vv [.s p]) (λr=> .cT [.s r.1,.i .i64 r.2]):=⟨by unfold nV;delta vv;exact sm⟩
instance Lo (c:List UInt8) (c1:Bool) (c2:au) (c3:List UInt8) (c4:Int):Es (gM c c1 c2 c3 c4) (lY [.rp [.s c],.rp [.b c1],.rp [.list (c2.L.map aS)],.rp [.s c3],.rp [.i .i64 c4]]) (MV.i .i64):=⟨by unfold gM;delta lY;exact sm⟩
def P2 (sA:au)(p:List UInt8)(value:List UInt8)(owner:Int):Sm (λr=> .cT [bL r.1,.i .i64 r.2]) (sf (bL sA) (.s p) (.s value) (.i .i64 owner)) (mw sA p value owner):=by
 unfold sf mw;refine eP (aO (dm (cw (kY (kY (bH ?_))))));refine aE (Gp sA p).h λrA=> ?_;refine yS (YK ?_);refine aE (Lo p rA.2 sA value owner).h λaZ=> ?_;refine bH ?_;refine dK ?_ ?_
 .exact ao (rfl)
 .refine Ps (Er rfl rfl) ?_;refine aE (r8 (size:=4) (f:=aS) (λ_=>rfl) sA.L) λdN=> ?_;refine J6 ?_;refine aE (J8 (f:=aS) dN rA.1 ([(⟨p,value,0,owner⟩:aa)]:List aa)) λux=> ?_;refine J6 ?_;exact ao (rfl)
instance UO (w:ah) (kind:Int):Es (cP w kind) (kj [.cell (.func 0 (bu w)),.i .i64 kind]) (λr=> .im ((λ_=> .cT []) r.1) (bu r.2)):=⟨by unfold cP;delta kj;exact sm⟩
instance EU (w:ah):Es (iJ w) (iU [.cell (.func 0 (bu w))]) (λr=> .im ((λ_=> .cT []) r.1) (bu r.2)):=⟨by
 unfold iJ;delta iU;conv=>arg 2;whnf
 refine aE (f:=λr=>[.b r]) ?_ λw1=> ?_
 .exact sm
 .conv=>arg 2;whnf
  refine ov ?_ ?_
  .exact sm
  .conv=>arg 2;whnf
   refine lI (P2 w.r.Shelf w.o.Path w.o.Value w.o.Session) λaZ=> ?_;exact sm⟩
instance Lp (w:ah):Es (lO w) (lZ [.cell (.func 0 (bu w))]) (λr=> .im ((λ_=> .cT []) r.1) (bu r.2)):=⟨by unfold lO;delta lZ;exact sm⟩
instance rh (sA:au) (p:List UInt8) (version:Int):Es (dC sA p version) (iV [bL sA,.s p,.i .i64 version]) (λr=> .cT [.i .i64 r.1,.i .i64 r.2]):=⟨by unfold dC;delta iV;exact sm⟩
instance alV (sA:au) (p:List UInt8) (value:List UInt8) (version:Int):Es (wM sA p value version) (Bv [bL sA,.s p,.s value,.i .i64 version]) (λr=> .cT [bL r.1,.i .i64 r.2]):=⟨by
 unfold wM;delta Bv;conv=>arg 2;whnf
 refine zk (rh sA p version) λrA=> ?_;conv=>arg 2;whnf
 refine ov ?_ ?_
 .exact sm
 .conv=>arg 2;whnf
  first|refine kZ ?_|refine vW ?_ ?_
  .exact sm
  .conv=>arg 2;whnf
   refine Ew (f:=aS) λy=> ?_;conv=>arg 2;whnf
   first|refine kZ ?_|refine vW ?_ ?_
   .exact sm
   .conv=>arg 2;whnf
    refine lI (r8 (size:=4) (f:=aS) (λ_=>rfl) sA.L) λaZ=> ?_;exact sm⟩
instance Lq (w:ah):Es (lP w) (mb [.cell (.func 0 (bu w))]) (λr=> .im ((λ_=> .cT []) r.1) (bu r.2)):=⟨by unfold lP;delta mb;exact sm⟩
instance UP (s1:List (List UInt8)) (s2:List (List UInt8)):Es (eJ s1 s2) (kl [.list (s1.map MV.s),.list (s2.map MV.s)]) MV.b:=⟨by unfold eJ;delta kl;exact sm⟩
instance akW (p:List UInt8) (q:List UInt8):Es (nG p q) (yw [.s p,.s q]) MV.b:=⟨by unfold nG;delta yw;exact sm⟩
instance agF (sA:au) (p:List UInt8) (version:Int):Es (oN sA p version) (si [bL sA,.s p,.i .i64 version]) (λr=> .cT [bL r.1,.i .i64 r.2]):=⟨by
 unfold oN;delta si;conv=>arg 2;whnf
 refine zk (rh sA p version) λrA=> ?_;conv=>arg 2;whnf
 first|refine kZ ?_|refine vW ?_ ?_
 .exact sm
 .conv=>arg 2;whnf
  refine ov ?_ ?_
  .exact sm
  .conv=>arg 2;whnf
   refine aE (f:=λr=>[.b r]) ?_ λw=> ?_
   .exact sm
   .conv=>arg 2;whnf
    refine ov ?_ ?_
    .exact sm
    .conv=>arg 2;whnf
     refine lI (r8 (size:=4) (f:=aS) (λ_=>rfl) sA.L) λdN=> ?_;conv=>arg 2;whnf
     refine lI (RN (f:=aS) dN rA.1 (bo .i64 (rA.1+1))) λux=> ?_;exact sm⟩
instance EV (w:ah):Es (iK w) (iW [.cell (.func 0 (bu w))]) (λr=> .im ((λ_=> .cT []) r.1) (bu r.2)):=⟨by unfold iK;delta iW;exact sm⟩
instance UQ (p:List UInt8):Es (pR p) (yy [.s p]) (λr=> .cT [.list (r.1.map MV.s),.i .i64 r.2]):=⟨by unfold pR;delta yy;exact sm⟩
instance akX (a:au) (a1:List UInt8):Es (tk a a1) (yz [bL a,.s a1]) (λr=> .cT [.list (r.1.map MV.s),.i .i64 r.2]):=⟨by
 unfold tk;delta yz;conv=>arg 2;whnf
 refine zk (H0 a a1) λrA=> ?_;conv=>arg 2;whnf
 refine ov ?_ ?_
 .exact sm
 .conv=>arg 2;whnf
  refine zk (UQ a1) λaZ=> ?_;conv=>arg 2;whnf
  refine ej (xL (rfl:_=aez aS a.L) λ_=>rfl) ?_;exact sm⟩
instance H2 (w:ah):Es (kv w) (kD [.cell (.func 0 (bu w))]) (λr=> .im ((λ_=> .cT []) r.1) (bu r.2)):=⟨by unfold kv;delta kD;exact sm⟩
def UR (b:aw)(id:Int)(span:Int):Sm (λr=> .cT [cH r.1,.i .i64 r.2]) (yA (cH b) (.i .i64 id) (.i .i64 span)) (tl b id span):=by
 unfold yA tl;refine eP (apt (bH (bH ?_)));refine aE (rQ b id).h λrA=> ?_;refine yS (YK ?_);refine aE (f:=λr=>[.b r]) ?_ λw=> ?_
 .refine cE ?_ ?_
  .exact ao (rfl)
  .refine cE ?_ ?_
   .exact ao (rfl)
   .exact ao (rfl)
 .refine aO (gE (cw ?_));refine dK ?_ ?_
  .exact ao (rfl)
  .refine dK ?_ ?_
   .exact ao (rfl)
   .refine bS (n:=b.L.length) (by simp only [AS,AI,AT]) ?_;refine cE ?_ ?_
    .exact ao (rfl)
    .refine Ps (Er rfl rfl) ?_;refine aE (r8 (size:=3) (f:=aH) (λ_=>rfl) b.L) λaZ=> ?_;refine J6 ?_;refine aE (J8 (f:=aH) aZ rA.1 ([(⟨id,span,bo .i64 (b.eG+span)⟩:aq)]:List aq)) λdN=> ?_;refine J6 ?_;exact ao (rfl)
instance H3 (w:ah):Es (kw w) (kE [.cell (.func 0 (bu w))]) (λr=> .im ((λ_=> .cT []) r.1) (bu r.2)):=⟨by
 unfold kw;delta kE;conv=>arg 2;whnf
 refine lI (UR w.r.aY w.o.Session w.o.Span) λrA=> ?_;exact sm⟩
instance aiw (b:aw) (id:Int):Es (qU b id) (vz [cH b,.i .i64 id]) (λr=> .cT [cH r.1,.i .i64 r.2]):=⟨by
 unfold qU;delta vz;conv=>arg 2;whnf
 refine zk (rQ b id) λrA=> ?_;conv=>arg 2;whnf
 refine ov ?_ ?_
 .exact sm
 .conv=>arg 2;whnf
  refine lI (r8 (size:=3) (f:=aH) (λ_=>rfl) b.L) λaZ=> ?_;exact sm⟩
instance Gq (w:ah):Es (jE w) (jL [.cell (.func 0 (bu w))]) (λr=> .im ((λ_=> .cT []) r.1) (bu r.2)):=⟨by unfold jE;delta jL;exact sm⟩
instance aix (b:aw) (id:Int):Es (qV b id) (vA [cH b,.i .i64 id]) (λr=> .cT [cH r.1,.i .i64 r.2]):=⟨by
 unfold qV;delta vA;conv=>arg 2;whnf
 refine zk (rQ b id) λrA=> ?_;conv=>arg 2;whnf
 refine ov ?_ ?_
 .exact sm
 .conv=>arg 2;whnf
  refine lI (r8 (size:=3) (f:=aH) (λ_=>rfl) b.L) λaZ=> ?_;conv=>arg 2;whnf
  refine lI (RN (f:=aH) aZ rA.1 (bo .i64 (rA.1+1))) λdN=> ?_;exact sm⟩
instance US (sA:au) (owner:Int):Es (tp sA owner) (yB [bL sA,.i .i64 owner]) (λr=> .cT [bL r.1,.list (r.2.map MV.s)]):=⟨by
 unfold tp;delta yB;conv=>arg 2;whnf
 refine aE (lJ (λr=>[.list (r.1.map MV.s),.list (r.2.1.map aS),.i .i64 r.2.2]) (λr=>(2,[.list (r.1.map MV.s),.list (r.2.map aS)])) λst=> ?_) λw=> ?_
 .unfold oO;exact sm
 .exact sm⟩
instance ZZ (w:ah) (id:Int):Es (iz w id) (nx [.cell (.func 0 (bu w)),.i .i64 id]) (λr=> .im ((λ_=> .cT []) r.1) (bu r.2)):=⟨by
 unfold iz;delta nx;conv=>arg 2;whnf
 refine zk (US w.r.Shelf id) λrA=> ?_;conv=>arg 2;whnf
 refine aE (lJ (λr=>(v0 r)) (λr=>(2,(v1 r))) λst=> ?_) λw1=> ?_
 .unfold iL;exact sm
 .exact sm⟩
instance Gr (w:ah):Es (jF w) (jM [.cell (.func 0 (bu w))]) (λr=> .im ((λ_=> .cT []) r.1) (bu r.2)):=⟨by unfold jF;delta jM;exact sm⟩
instance UT (b:aw) (now:Int):Es (tq b now) (yC [cH b,.i .i64 now]) (λr=> .cT [cH r.1,.list (r.2.1.map (MV.i .i64)),.i .i64 r.2.2]):=⟨by
 unfold tq;delta yC;conv=>arg 2;whnf
 first|refine kZ ?_|refine vW ?_ ?_
 .exact sm
 .conv=>arg 2;whnf
  first|refine kZ ?_|refine vW ?_ ?_
  .exact sm
  .conv=>arg 2;whnf
   refine aE (lJ (λr=>[.list (r.1.map (MV.i .i64)),.i .i64 r.2.1,.list (r.2.2.1.map aH),.i .i64 r.2.2.2]) (λr=>(3,[.list (r.1.map (MV.i .i64)),.i .i64 r.2.1,.list (r.2.2.map aH)])) λst=> ?_) λw=> ?_
   .exact sm
   .exact sm⟩
instance H4 (w:ah):Es (kz w) (kF [.cell (.func 0 (bu w))]) (λr=> .im ((λ_=> .cT []) r.1) (bu r.2)):=⟨by
 unfold kz;delta kF;conv=>arg 2;whnf
 refine zk (UT w.r.aY w.o.Span) λrA=> ?_;conv=>arg 2;whnf
 refine ov ?_ ?_
 .exact sm
 .conv=>arg 2;whnf
  refine aE (lJ (λr=>(v0 r)) (λr=>(2,(v1 r))) λst=> ?_) λw1=> ?_
  .unfold iM;conv=>arg 2;whnf
   first|refine kZ ?_|refine vW ?_ ?_
   .conv=>arg 2;whnf
    refine Ew (f:=(MV.i .i64)) λy=> ?_;exact sm
   .exact sm
  .exact sm⟩
instance P3 (sA:List ak) (v:ak):Es (fZ sA v) (gh [.list (sA.map aN),aN v]) (MV.i .i64):=⟨by unfold fZ;delta gh;exact sm⟩
instance uJ (sA:List ak) (v:ak):Es (cX sA v) (cY [.list (sA.map aN),aN v]) MV.b:=⟨by unfold cX;delta cY;exact sm⟩
def YP (t:aV)(w:ak):Sm (λr=> .cT [jb r.1,.i .i64 r.2]) (Bw (jb t) (aN w)) (sD t w):=by
 unfold Bw sD;refine eP (aO (dm (cw (eP (ais ?_)))));refine aE (UN w.Path).h λrA=> ?_;refine gE ?_;refine dK ?_ ?_
 .exact ao (rfl)
 .refine cE ?_ ?_
  .exact ao (rfl)
  .refine aE (uJ t.L w).h λaZ=> ?_;refine gE ?_;refine dK ?_ ?_
   .exact ao (rfl)
   .refine bS (n:=t.L.length) (by simp only [AS,AI,AT]) ?_;refine cE ?_ ?_
    .exact ao (rfl)
    .refine Ps (Er rfl rfl) ?_;refine aE (r8 (size:=3) (f:=aN) (λ_=>rfl) t.L) λdN=> ?_;refine J6 (bS (n:=dN.length) (by simp only [AS,AI,AT]) (bS (n:=([w]:List ak).length) (by simp only [AS,AI,AT]) (fV ?_)));exact ao (by simp [bu])
instance Gs (w:ah):Es (jG w) (jN [.cell (.func 0 (bu w))]) (λr=> .im ((λ_=> .cT []) r.1) (bu r.2)):=⟨by
 unfold jG;delta jN;conv=>arg 2;whnf
 refine lI (YP w.r.aX (⟨w.o.Path,w.o.Client,decide (w.o.Kind=11)⟩:ak)) λrA=> ?_;exact sm⟩
instance UU:Es (tt) (ue []) (FD (λx:Nat=>MV.func x [])):=⟨by unfold tt;delta ue;exact sm⟩
instance aej (c:ay) (w:ak):Es (mU c w) (qw [dQ c,aN w]) MV.b:=⟨by unfold mU;delta qw;exact sm⟩
instance P4 (w:ak) (c:ay) (c1:List aT):Es (my w c c1) (pa [aN w,.rp [.i .i64 c.Kind,.s c.Path],.cell (.func 0 [.list (c1.map cB)])]) (λr=> .im (MV.b r.1) [.list (r.2.map cB)]):=⟨by unfold my;delta pa;exact sm⟩
instance UW (t:aV) (lA:List ay):Es (tu t lA) (uf [jb t,.list (lA.map dQ)]) (λr=> .cT [jb r.1,.list (r.2.map cB)]):=⟨by
 unfold tu;delta uf;conv=>arg 2;whnf
 refine lI (r8 (size:=3) (f:=aN) (λ_=>rfl) t.L) λrA=> ?_;conv=>arg 2;whnf
 refine aE (lJ (λr=>[.list (r.1.map aN),.list (r.2.1.map cB),.i .i64 r.2.2]) (λr=>(2,[.list (r.1.map aN),.list (r.2.map cB)])) λst=> ?_) λw=> ?_
 .unfold oP;conv=>arg 2;whnf
  first|refine kZ ?_|refine vW ?_ ?_
  .conv=>arg 2;whnf
   refine Ew (f:=dQ) λy=> ?_;conv=>arg 2;whnf
   refine ej (ach (rfl:_=aez aN st.1) λ_=>rfl) ?_;conv=>arg 2;whnf
   refine lI (aci (f:=aN) (lv:=(λsA=>[.list (sA.map cB)])) (aJ:=[.rp [.i .i64 y.Kind,.s y.Path]]) (λu sA=>Sm.at (yD (aN u) (.rp [.i .i64 y.Kind,.s y.Path]) [.list (sA.map cB)]) (P4 u y sA).h) st.2.1 st.1) λaZ=> ?_;exact sm
  .exact sm
 .exact sm⟩
def MX (k:Nat)(x0:ah):Sm (λr=> .im ((λ_=> .cT []) r.1) [.list (r.2.r.Shelf.L.map aS),.i .i64 r.2.r.aY.eG,.list (r.2.r.aY.L.map aH),.list (r.2.r.aX.L.map aN),.list (r.2.r.Seen.map aC),.i .i64 r.2.o.Client,.i .i64 r.2.o.Seq,.i .i64 r.2.o.Kind,.s r.2.o.Path,.s r.2.o.Value,.i .i64 r.2.o.Version,.i .i64 r.2.o.Session,.i .i64 r.2.o.Span,.i .i64 r.2.x.Client,.i .i64 r.2.x.Seq,.i .i64 r.2.x.E,.s r.2.x.Value,.i .i64 r.2.x.Version,.list (r.2.x.Names.map MV.s),.list (r.2.l.map dQ)]) (L2 [129,130,131,132,133,134,135,136,137,138,139] k λk=>cC k [.cell (.func 0 [.list (x0.r.Shelf.L.map aS),.i .i64 x0.r.aY.eG,.list (x0.r.aY.L.map aH),.list (x0.r.aX.L.map aN),.list (x0.r.Seen.map aC),.i .i64 x0.o.Client,.i .i64 x0.o.Seq,.i .i64 x0.o.Kind,.s x0.o.Path,.s x0.o.Value,.i .i64 x0.o.Version,.i .i64 x0.o.Session,.i .i64 x0.o.Span,.i .i64 x0.x.Client,.i .i64 x0.x.Seq,.i .i64 x0.x.E,.s x0.x.Value,.i .i64 x0.x.Version,.list (x0.x.Names.map MV.s),.list (x0.l.map dQ)])]) (qv k x0):=by unfold qv;refine qt (λ_=>Sm.at (re _) (Ds x0).h) ?_;refine qt (λ_=>Sm.at (rM _) (EU x0).h) ?_;refine qt (λ_=>Sm.at (uF _) (Lp x0).h) ?_;refine qt (λ_=>Sm.at (uG _) (Lq x0).h) ?_;refine qt (λ_=>Sm.at (rN _) (EV x0).h) ?_;refine qt (λ_=>Sm.at (ug _) (H2 x0).h) ?_;refine qt (λ_=>Sm.at (uh _) (H3 x0).h) ?_;refine qt (λ_=>Sm.at (sq _) (Gq x0).h) ?_;refine qt (λ_=>Sm.at (sr _) (Gr x0).h) ?_;refine qt (λ_=>Sm.at (ui _) (H4 x0).h) ?_;refine afI (λ_=>Sm.at (su _) (Gs x0).h)
def Sf (a:aj)(a1:ab):Sm (λr=> .cT [b9 r.1,aC r.2.1,.list (r.2.2.map cB)]) (vB (b9 a) (aI a1)) (qW a a1):=by
 unfold vB qW;refine eP (kp (eP (ul ?_)));refine aE (Gn a a1).h λrA=> ?_;refine yS (aO (eP (rf (aO (gE (cw ?_))))));refine dK ?_ ?_
 .exact ao (rfl)
 .refine aE (UU).h λaZ=> ?_;refine dm ?_;refine eF (f:=(λx:Nat=>MV.func x [])) (rfl) λy=> ?_;refine CU (vV (cw ?_));refine aE (MX y (⟨a,a1,rA.1,([]:List ay)⟩:ah)) λdN=> ?_;refine anW (pc ?_);refine aE (UW dN.2.r.aX dN.2.l).h λux=> ?_;refine yS (aO (eP (aO (dm (cw (aO (dm (cw ?_))))))));refine aE (r8 (size:=6) (f:=aC) (λ_=>rfl) a.Seen) λMt=> ?_;refine J6 ?_;refine aE (Gm a a1.Client).h λPK=> ?_;refine yS (YK ?_);refine aE (f:=(λr=>(0,(v1 r)))) ?_ λw=> ?_
  .refine dK ?_ ?_
   .refine eF (f:=aC) (rfl) λy1=> ?_;refine eP (rf ?_);exact ao (by simp [iN,dz,v1])
   .refine aE (J8 (f:=aC) Mt PK.1 ([dN.2.x]:List ae)) λDK=> ?_;refine J6 ?_;exact ao (rfl)
  .refine ej rfl (pc ?_);refine Ps (Er rfl rfl) ?_;exact ao (rfl)
instance akY (rA:aj) (lA:List ab):Es (xS rA lA) (yE [b9 rA,.list (lA.map aI)]) (λr=> .cT [b9 r.1,.list (r.2.1.map aC),.list (r.2.2.map cB)]):=⟨by
 unfold xS;delta yE;conv=>arg 2;whnf
 refine aE (lJ (λr=>[.list (r.1.map aS),.i .i64 r.2.1,.list (r.2.2.1.map aH),.list (r.2.2.2.1.map aN),.list (r.2.2.2.2.1.map aC),.list (r.2.2.2.2.2.1.map aC),.list (r.2.2.2.2.2.2.1.map cB),.i .i64 r.2.2.2.2.2.2.2]) (λr=>(2,[.list (r.1.map aS),.i .i64 r.2.1,.list (r.2.2.1.map aH),.list (r.2.2.2.1.map aN),.list (r.2.2.2.2.1.map aC),.list (r.2.2.2.2.2.1.map aC),.list (r.2.2.2.2.2.2.map cB)])) λst=> ?_) λw=> ?_
 .unfold oQ;conv=>arg 2;whnf
  first|refine kZ ?_|refine vW ?_ ?_
  .conv=>arg 2;whnf
   refine Ew (f:=aI) λy=> ?_;conv=>arg 2;whnf
   refine lI (Sf (⟨(⟨st.1⟩:au),(⟨st.2.1,st.2.2.1⟩:aw),(⟨st.2.2.2.1⟩:aV),st.2.2.2.2.1⟩:aj) y) λDK=> ?_;conv=>arg 2;whnf
   first|refine kZ ?_|refine Ww ?_
   conv=>arg 2;whnf
   refine ej (xL (rfl:_=aez cB DK.2.2) λ_=>rfl) ?_;exact sm
  .exact sm
 .exact sm⟩
instance AO (rA:aj) (sA:List UInt8):Es (dj rA sA) (mc [b9 rA,.s sA]) (λr=> .cT [b9 r.1,.list (r.2.1.map aC),.i .i64 r.2.2]):=⟨by unfold dj;delta mc;exact sm⟩
def EW (lA:List (List UInt8)):Sm b9 (mB (.list (lA.map MV.s))) (kb lA):=by
 unfold mB kb;refine dm ?_;refine aE (YN) λrA=> ?_;refine eP (kp (bS (n:=lA.length) (by simp only [AS,AI,AT]) ?_));refine aE (iC (λr=>(v3 r)) (λr=>(2,(v5 r))) (rfl) λst=> ?_) λw=> ?_
 .unfold lR;refine xb ?_;refine cE ?_ ?_
  .refine eF (f:=MV.s) (rfl) λy=> ?_;refine kY ?_;refine aE (AO (⟨(⟨st.1⟩:au),(⟨st.2.1,st.2.2.1⟩:aw),(⟨st.2.2.2.1⟩:aV),st.2.2.2.2.1⟩:aj) y).h λDK=> ?_;refine yS (aO (eP (kp (UH ?_))));exact ao (rfl)
  .exact ao (rfl)
 .refine ej rfl (kp ?_);exact ao (rfl)
instance Qt (s1:List aa) (s2:List aa):Es (ib s1 s2) (ik [.list (s1.map aS),.list (s2.map aS)]) MV.b:=⟨by unfold ib;delta ik;exact sm⟩
instance UX (a:au) (b:au):Es (tw a b) (yG [bL a,bL b]) MV.b:=⟨by unfold tw;delta yG;exact sm⟩
instance MY (s1:List aq) (s2:List aq):Es (dp s1 s2) (eW [.list (s1.map aH),.list (s2.map aH)]) MV.b:=⟨by unfold dp;delta eW;exact sm⟩
instance UY (a:aw) (b:aw):Es (tz a b) (yH [cH a,cH b]) MV.b:=⟨by unfold tz;delta yH;exact sm⟩
instance P5 (s1:List ak) (s2:List ak):Es (dV s1 s2) (gj [.list (s1.map aN),.list (s2.map aN)]) MV.b:=⟨by unfold dV;delta gj;exact sm⟩
instance UZ (a:aV) (b:aV):Es (tA a b) (yI [jb a,jb b]) MV.b:=⟨by unfold tA;delta yI;exact sm⟩
instance U0 (a:ae) (b:ae):Es (lS a b) (uk [aC a,aC b]) MV.b:=⟨by unfold lS;delta uk;exact sm⟩
def iY (s1:List ae)(s2:List ae)(eq:ae->ae->Option Bool){Iv:Nat}{zV:List MV}(atA:gv Iv=false)(gV: ∀(u0:ae)(u1:ae),Sm MV.b (bT Iv ([aC u0,aC u1]++zV)) (eq u0 u1)):Sm MV.b (bD (.list (s1.map aC)) (.list (s2.map aC)) (.func Iv zV)) (bp s1 s2 eq):=by
 unfold bD bp;refine dm (dm (CU (bS (n:=s1.length) (by simp only [AS,AI,AT]) (bS (n:=s2.length) (by simp only [AS,AI,AT]) ?_))));refine dK ?_ ?_
 .exact ao (rfl)
 .refine bS (n:=s1.length) (by simp only [AS,AI,AT]) ?_;refine aE (iC (λr=>[.i .i64 r]) (ad9 (λr=>(2,[])) (λr=>(1,[.b r]))) (rfl) λst=> ?_) λw=> ?_
  .unfold bj;refine aO (bH (cw ?_));refine cE ?_ ?_
   .refine eF (f:=aC) (rfl) λy=> ?_;refine eP (rf ?_);refine eF (f:=aC) (rfl) λy1=> ?_;refine eP (rf (vV (ej (by rw [atA];rfl) ?_)));refine aE (gV y y1) λrA=> ?_;refine gE ?_;refine dK ?_ ?_
    .exact ao (rfl)
    .exact ao (rfl)
   .exact ao (rfl)
  .rcases w with p1|p2
   .refine FE rfl (cw ?_);exact ao (rfl)
   .refine FF rfl (ej rfl (aO (gE (cw ?_))));exact ao (rfl)
instance Lr (a:aj) (b:aj):Es (lT a b) (qi [b9 a,b9 b]) MV.b:=⟨by
 unfold lT;delta qi;conv=>arg 2;whnf
 refine aE (f:=λr=>[.b r]) ?_ λw=> ?_
 .conv=>arg 2;whnf
  refine zk (UX a.Shelf b.Shelf) λrA=> ?_;conv=>arg 2;whnf
  refine ov ?_ ?_
  .conv=>arg 2;whnf
   refine zk (UY a.aY b.aY) λaZ=> ?_;conv=>arg 2;whnf
   refine ov ?_ ?_
   .conv=>arg 2;whnf
    refine zk (UZ a.aX b.aX) λdN=> ?_;conv=>arg 2;whnf
    refine ov ?_ ?_
    .conv=>arg 2;whnf
     refine lI (iY a.Seen b.Seen lS (Iv:=26) (zV:=[]) rfl (λu2 u3=>Sm.at (eX _ _) (U0 u2 u3).h)) λux=> ?_;exact sm
    .exact sm
   .exact sm
  .exact sm
 .exact sm⟩
def WQ (p:List UInt8):Sm (λr=> .cT [HI MV.s r.1,.b r.2]) (IC (.s p)) (Bn p):=by
 unfold IC Bn;refine kY ?_;refine aE (f:=λr=>[.b r]) ?_ λw=> ?_
 .refine cE ?_ ?_
  .exact ao (rfl)
  .refine fV ?_;exact ao (rfl)
 .refine aO (gE (cw ?_));refine dK ?_ ?_
  .exact ao (rfl)
  .refine cE ?_ ?_
   .exact ao (rfl)
   .refine aE (iC (λr=>[.list (r.1.map MV.s),.s r.2.1,.i .i64 r.2.2]) (λr=>(2,[.list (r.1.map MV.s),.s r.2])) (rfl) λst=> ?_) λw1=> ?_
    .unfold wN;refine aO (dm (aO (kY (aO (bH (cw ?_))))));refine cE ?_ ?_
     .refine fV ?_;refine aE (f:=(λr=>(0,[.list (r.1.map MV.s),.s r.2]))) ?_ λw2=> ?_
      .refine cE ?_ ?_
       .refine bS (n:=st.1.length) (by simp only [AS,AI,AT]) (bS (n:=([st.2.1]:List (List UInt8)).length) (by simp only [AS,AI,AT]) (fV ?_));exact ao aaS
       .refine fV ?_;refine Uh (M:=([((p.getD (sh st.2.2) 0).toNat:Int)]:List Int)) (rfl) λbs=> ?_;refine fV ?_;exact ao (rfl)
      .refine ej rfl (aO (dm (aO (kY (cw ?_)))));exact ao (rfl)
     .exact ao (rfl)
    .refine ej rfl (aO (dm (aO (kY (cw (bS (n:=w1.1.length) (by simp only [AS,AI,AT]) (bS (n:=([w1.2]:List (List UInt8)).length) (by simp only [AS,AI,AT]) (fV ?_))))))));exact ao aaS
instance akZ (sA:List UInt8):Es (tC sA) (yJ [.s sA]) MV.b:=⟨by unfold tC;delta yJ;exact sm⟩
instance YQ (p:List UInt8):Es (nW p) (Bx [.s p]) MV.b:=⟨by
 unfold nW;delta Bx;conv=>arg 2;whnf
 first|refine kZ ?_|refine vW ?_ ?_
 .exact sm
 .conv=>arg 2;whnf
  refine lI (WQ p) λrA=> ?_;exact sm⟩
instance alW (p:List UInt8):Es (pS p) (Bz [.s p]) (λr=> .cT [HI MV.s r.1,.i .i64 r.2]):=⟨by
 unfold pS;delta Bz;conv=>arg 2;whnf
 refine zk (YQ p) λrA=> ?_;conv=>arg 2;whnf
 refine ov ?_ ?_
 .exact sm
 .conv=>arg 2;whnf
  refine lI (WQ p) λaZ=> ?_;exact sm⟩
instance alX (p:List UInt8) (q:List UInt8):Es (wO p q) (BA [.s p,.s q]) MV.b:=⟨by unfold wO;delta BA;exact sm⟩
instance apu (lA:List (List UInt8)):Es (Am lA) (EM [.list (lA.map MV.s)]) MV.s:=⟨by unfold Am;delta EM;exact sm⟩
instance ak0 (p:List UInt8):Es (pT p) (yK [.s p]) (λr=> .cT [.s r.1,.i .i64 r.2]):=⟨by unfold pT;delta yK;exact sm⟩
instance atB (sA:jy) (p:List UInt8):Es (xU sA p) (PW [Ak sA,.s p]) (MV.i .i64):=⟨by unfold xU;delta PW;exact sm⟩
instance alY (a:jy):Es (wP a) (BB [Ak a]) MV.b:=⟨by unfold wP;delta BB;exact sm⟩
instance alZ (a:vh):Es (wQ a) (BC [Kt a]) MV.b:=⟨by unfold wQ;delta BC;exact sm⟩
instance aqD (lA:List bh) (w:bh):Es (xV lA w) (ID [.list (lA.map lM),lM w]) MV.b:=⟨by unfold xV;delta ID;exact sm⟩
instance al0 (t:qO):Es (wR t) (BD [Hi t]) MV.b:=⟨by unfold wR;delta BD;exact sm⟩
instance YR (a:ox):Es (pU a) (wY [Al a]) MV.b:=⟨by unfold pU;delta wY;exact sm⟩
instance ac3 (x:ae):Es (EB x) (AH [aC x]) qQ:=⟨by unfold EB;delta AH;exact sm⟩
def YS (a:aj):Sm Al (wZ (b9 a)) (pV a):=by
 unfold wZ pV;refine eP (kp ?_);refine aE (iC (λr=>(v4 r)) (λr=>(2,(v6 r))) (rfl) λst=> ?_) λw=> ?_
 .unfold qX;refine xb (bS (n:=a.Seen.length) (by simp only [AS,AI,AT]) ?_);refine cE ?_ ?_
  .refine eF (f:=aC) (rfl) λy=> ?_;refine eP (rf ?_);refine aE (ac3 y).h λrA=> ?_;refine eP (rf (bS (n:=st.2.2.2.2.1.length) (by simp only [AS,AI,AT]) (bS (n:=([rA]:List cn).length) (by simp only [AS,AI,AT]) (fV ?_))));exact ao (by simp [iN,dz,ga,v4,v6])
  .exact ao (rfl)
 .refine ej rfl (kp ?_);refine aE (iC (λr=>(v4 r)) (λr=>(4,(v6 r))) (rfl) λcz=> ?_) λw1=> ?_
  .unfold qY;refine xb (bS (n:=a.Shelf.L.length) (by simp only [AS,AI,AT]) ?_);refine cE ?_ ?_
   .refine eF (f:=aS) (rfl) λy1=> ?_;refine eP (UI (bS (n:=cz.1.length) (by simp only [AS,AI,AT]) (bS (n:=([(⟨y1.Path,y1.Value,y1.Version,y1.cm⟩:cI)]:List cI).length) (by simp only [AS,AI,AT]) (fV ?_))));exact ao (by simp [iN,dz,ga,v4,v6])
   .exact ao (rfl)
  .refine ej rfl (kp ?_);refine aE (iC (λr=>(v4 r)) (λr=>(6,(v6 r))) (rfl) λcj=> ?_) λw2=> ?_
   .unfold qZ;refine xb (bS (n:=a.aY.L.length) (by simp only [AS,AI,AT]) ?_);refine cE ?_ ?_
    .refine eF (f:=aH) (rfl) λy2=> ?_;refine eP (ac2 (bS (n:=cj.2.2.1.length) (by simp only [AS,AI,AT]) (bS (n:=([(⟨y2.Id,y2.Span,y2.ek⟩:bt)]:List bt).length) (by simp only [AS,AI,AT]) (fV ?_))));exact ao (by simp [iN,dz,ga,v4,v6])
    .exact ao (rfl)
   .refine ej rfl (kp ?_);refine aE (iC (λr=>(v4 r)) (λr=>(8,(v6 r))) (rfl) λjQ=> ?_) λw3=> ?_
    .unfold q0;refine xb (bS (n:=a.aX.L.length) (by simp only [AS,AI,AT]) ?_);refine cE ?_ ?_
     .refine eF (f:=aN) (rfl) λy3=> ?_;refine eP (ais (bS (n:=jQ.2.2.2.1.length) (by simp only [AS,AI,AT]) (bS (n:=([(⟨y3.Path,y3.Client,y3.Kids⟩:bh)]:List bh).length) (by simp only [AS,AI,AT]) (fV ?_))));exact ao (by simp [iN,dz,ga,v4,v6])
     .exact ao (rfl)
    .refine ej rfl (kp ?_);exact ao (rfl)
def ac4:qj=some (.b true):=aaM
def Gt:Sm MV.b qj nX:=ac4
theorem Gu (a:List (List ab))(a1:List UInt8)(a2:Int):Sm MV.b (mC (.list (a.map (FD aI))) (.s a1) (.i .i64 a2)) (mz a a1 a2):=by
 unfold mC mz;refine dm (kY (bH ?_));refine aE (f:=λr=>[.b r]) ?_ λw=> ?_
 .refine bS (n:=a.length) (by simp only [AS,AI,AT]) ?_;refine cE ?_ ?_
  .exact ao (rfl)
  .exact ao (rfl)
 .refine aO (gE (cw ?_));refine dK ?_ ?_
  .refine aE (Gt) λrA=> ?_;refine gE ?_;exact ao (rfl)
  .refine aE (iC (λr=>[.list (r.1.map MV.s),.i .i64 r.2]) (ad9 (λr=>(2,[.list (r.map MV.s)])) (λr=>(1,[.b r]))) (rfl) λst=> ?_) λw1=> ?_
   .unfold ke;refine UH (bS (n:=a.length) (by simp only [AS,AI,AT]) ?_);refine cE ?_ ?_
    .refine aE (iC (λr=>[.i .i64 r]) (ad9 (λr=>(4,[])) (λr=>(1,[.b r]))) (rfl) λcz=> ?_) λw2=> ?_
     .unfold kc;refine aO (bH (cw ?_));refine eF (f:=(FD aI)) (rfl) λy=> ?_;refine dm (bS (n:=y.length) (by simp only [AS,AI,AT]) ?_);refine cE ?_ ?_
      .refine aE (f:=λr=>[.b r]) ?_ λw3=> ?_
       .refine cE ?_ ?_
        .exact ao (rfl)
        .refine eF (f:=(FD aI)) (rfl) λy1=> ?_;refine dm ?_;refine eF (f:=aI) (rfl) λy2=> ?_;refine eP (ul ?_);refine cE ?_ ?_
         .exact ao (rfl)
         .refine eF (f:=(FD aI)) (rfl) λy3=> ?_;refine dm ?_;refine eF (f:=aI) (rfl) λy4=> ?_;refine eP (ul ?_);exact ao (rfl)
       .refine aO (gE (cw ?_));refine dK ?_ ?_
        .refine aE (Gt) λaZ=> ?_;refine gE ?_;exact ao (rfl)
        .exact ao (rfl)
      .exact ao (rfl)
     .rcases w2 with p2|p3
      .refine FE rfl (cw ?_);refine eF (f:=(FD aI)) (rfl) λy5=> ?_;refine dm ?_;refine aE (PZ y5).h λdN=> ?_;refine yS (aO (kY (aO (bH (cw (bS (n:=st.1.length) (by simp only [AS,AI,AT]) (bS (n:=([dN.1]:List (List UInt8)).length) (by simp only [AS,AI,AT]) (fV ?_))))))));exact ao (by first|(simp [dz,ga,v3,v5];done)|simp only [dz,ga,v3,v5,aI,xO,ad4,ad5,aeb,ad6,ad7,aec])
      .refine FF rfl (ej rfl (aO (gE (cw ?_))));exact ao (rfl)
    .exact ao (rfl)
   .rcases w1 with p4|p5
    .refine FE rfl (aO (dm (cw (bS (n:=p4.length) (by simp only [AS,AI,AT]) (bS (n:=p4.length) (by simp only [AS,AI,AT]) (fV ?_))))));refine aE (by simpa [dz,ga,v3,v5] using EW (IN (sh 0) (IT (sh (Fh (imax a2 0) (p4.length:Int))) p4))) λux=> ?_;refine eP (kp ?_);refine aE (P0 a1).h λMt=> ?_;refine yS (UH ?_);refine aE (f:=(ad9 (λr=>(1,[.b r])) (λr=>(0,[])))) ?_ λw4=> ?_
     .refine dK ?_ ?_
      .refine aE (AO ux a1).h λPK=> ?_;refine yS (aO (eP (kp (UH ?_))));refine aE (Lr PK.1 ux).h λDK=> ?_;refine gE ?_;refine dK ?_ ?_
       .exact ao (rfl)
       .exact ao (rfl)
      .exact ao (rfl)
     .rcases w4 with p7|p8
      .refine FE rfl (aO (gE (cw ?_)));exact ao (rfl)
      .refine FF rfl (ej rfl (cw ?_));refine aE (iC (λr=>(v3 r)) (λr=>(6,(v5 r))) (rfl) λcj=> ?_) λw5=> ?_
       .unfold eK;refine xb (bS (n:=p4.length) (by simp only [AS,AI,AT]) ?_);refine cE ?_ ?_
        .refine eF (f:=MV.s) (rfl) λy6=> ?_;refine kY ?_;refine aE (AO (⟨(⟨cj.1⟩:au),(⟨cj.2.1,cj.2.2.1⟩:aw),(⟨cj.2.2.2.1⟩:aV),cj.2.2.2.2.1⟩:aj) y6).h λrA7=> ?_;refine yS (aO (eP (kp (UH ?_))));exact ao (rfl)
        .exact ao (rfl)
       .refine ej rfl (kp ?_);refine aE (f:=λr=>[.b r]) ?_ λw6=> ?_
        .refine aE (Gt) λrA8=> ?_;refine gE ?_;refine dK ?_ ?_
         .refine aE (EW p4) λrA9=> ?_;refine eP (kp ?_);refine aE (Lr (⟨(⟨w5.1⟩:au),(⟨w5.2.1,w5.2.2.1⟩:aw),(⟨w5.2.2.2.1⟩:aV),w5.2.2.2.2⟩:aj) rA9).h λMu=> ?_;refine gE ?_;refine dK ?_ ?_
          .refine aE (YS (⟨(⟨w5.1⟩:au),(⟨w5.2.1,w5.2.2.1⟩:aw),(⟨w5.2.2.2.1⟩:aV),w5.2.2.2.2⟩:aj)) λKu=> ?_;refine eP (kp ?_);refine aE (YR Ku).h λRZ=> ?_;refine gE ?_;exact ao (rfl)
          .exact ao (rfl)
         .exact ao (rfl)
        .refine aO (gE (cw ?_));exact ao (rfl)
    .refine FF rfl (ej rfl (aO (gE (cw ?_))));exact ao (rfl)
end
def P6 {σ ρ:Type}{body:σ->Option (Sum σ ρ)}{s:σ}{r:ρ}(h:Loop body s=some r): ∃n,iter body n s=some r:=by
 unfold Loop sG at h;split at h
 .grind
 .split at h;all_goals grind
def xc {σ ρ:Type}{body:σ->Option (Sum σ ρ)}{s:σ}{r:ρ}(h:body s=some (.inr r)):Loop body s=some r:=mr (n:=1) (by simp [iter,h])
def BE {σ ρ:Type}{body:σ->Option (Sum σ ρ)} {s s':σ}{r:ρ}(h:body s=some (.inl s'))(h2:Loop body s'=some r):Loop body s=some r:=by have ⟨n,hn⟩:=P6 h2;exact mr (n:=n+1) (by grind [iter])
theorem w8 (x:Int):bo .u8 x=x%256:=by simp [bo,BY,afA]
theorem Gv (x:Int):bo .u64 x=x%18446744073709551616:=by simp [bo,BY,afA]
def atC (x:Int):bo .i64 x=(x+9223372036854775808)%18446744073709551616-9223372036854775808:=by rw [IntKind.wrap_i64]
def gX (n:Nat):Nat:=if n=0 then 0 else if n<256 then 1 else if n<65536 then 2 else if n<16777216 then 3 else if n<4294967296 then 4 else if n<1099511627776 then 5 else if n<281474976710656 then 6 else if n<72057594037927936 then 7 else 8
def zF:Nat->Nat->List Int
 |0,_=>[]
 |k+1,n=>((n/256^k%256:Nat):Int)::zF k n
def AP:Nat->List Int->Nat
 |acc,[]=>acc
 |acc,c::l=>AP (acc *256+c.toNat) l
def qx (l:List Int):Prop:= ∀x∈l,0<=x/\x<256
def qx.cons {c:Int}{l:List Int}(h:qx (c::l)):(0<=c/\c<256)/\qx l:=⟨h c aaS,λx hx=>h x (by simp [hx])⟩
def qx.app {l m:List Int}(h:qx l)(h2:qx m):qx (l++m):=λx hx=>by
 rcases List.mem_append.1 hx with hx|hx
 .exact h x hx
 .exact h2 x hx
theorem qx.drop {l:List Int}(n:Nat)(h:qx l):qx (l.drop n):=λx hx=>h x (List.mem_of_mem_drop hx)
theorem qx.take {l:List Int}(n:Nat)(h:qx l):qx (l.take n):=λx hx=>h x (List.mem_of_mem_take hx)
theorem EX (k n:Nat):(zF k n).length=k:=by
 induction k with
 |zero=>rfl
 |succ k ih=>simp [zF,ih]
def ac5 (k n:Nat):qx (zF k n):=by
 induction k with
 |zero=>intro x hx;grind [zF]
 |succ k ih=>
  intro x hx;rcases afR.1 hx with rfl|hx
  .omega
  .exact ih x hx
theorem vH (n:Nat):gX n<=8:=by grind [gX]
def Ls (m:Nat):(m=0/\gX m=0)\/(1<=m/\m<256/\gX m=1)\/(256<=m/\m<65536/\gX m=2)\/(65536<=m/\m<16777216/\gX m=3)\/(16777216<=m/\m<4294967296/\gX m=4)\/(4294967296<=m/\m<1099511627776/\gX m=5)\/(1099511627776<=m/\m<281474976710656/\gX m=6)\/(281474976710656<=m/\m<72057594037927936/\gX m=7)\/(72057594037927936<=m/\gX m=8):=by
 by_cases c0:m=0
 .simp_all [gX,if_pos]
 by_cases c1:m<256
 .exact .inr (.inl ⟨aah,c1,by simp_all [gX,if_neg,if_pos]⟩)
 by_cases c2:m<65536
 .simp_all [gX,if_neg,if_pos]
 by_cases c3:m<16777216
 .simp_all [gX,if_neg,if_pos]
 by_cases c4:m<4294967296
 .simp_all [gX,if_neg,if_pos]
 by_cases c5:m<1099511627776
 .simp_all [gX,if_neg,if_pos]
 by_cases c6:m<281474976710656
 .simp_all [gX,if_neg,if_pos]
 by_cases c7:m<72057594037927936;all_goals simp_all [gX,if_neg,if_pos]
theorem n6 {n:Nat}(h:0<n)(hb:n<2^64):gX n=gX (n/256)+1:=by rcases Ls n with a|a|a|a|a|a|a|a|a<;>rcases Ls (n/256) with b|b|b|b|b|b|b|b|b<;>omega
theorem YT {n:Nat}(h:gX n=0):n=0:=by grind [gX]
def ac6: ∀(k n:Nat),n<2^64->gX n=k->n<256^k/\(0<k->256^(k-1)<=n):=by
 intro k;induction k with
 |zero=>grind [YT]
 |succ k ih=>
  intro n hn h;have h0:0<n:=by refine Nat.pos_of_ne_zero λh0=> ?_;subst h0;simp [gX] at h
  grind [n6,aen]
def agG: ∀(k n:Nat),k<=8->n<256^k->(0<k->256^(k-1)<=n)->gX n=k:=by
 intro k;induction k with
 |zero=>intro n _ h _;simp at h;subst h;rfl
 |succ k ih=>
  intro n hk h1 h2;have hp:0<n:=(by grind)
  have hb:n<2^64:=by refine Nat.lt_of_lt_of_le h1 ?_;have:=aeh (n:=256) aaD hk;simpa using this
  rw [n6 hp hb,ih (n/256) aah (by grind) (λhk0=> ?_)];rw [show k+1-1=(k-1)+1 by omega,aen] at h2;omega
def YU: ∀(k acc n:Nat),AP acc (zF k n)=acc *256^k+n%256^k:=by
 intro k;induction k with
 |zero=>simp_all [zF,AP,Nat.mod_one]
 |succ k ih=>intro acc n;simp only [zF,AP,ad8];rw [ih,aen,Nat.mod_mul,Nat.add_mul,Nat.mul_assoc,aeo 256,aeo (n/256^k%256)];omega
def Du: ∀(l:List Int) (acc:Nat),AP acc l=acc *256^l.length+AP 0 l:=by
 intro l;induction l with
 |nil=>grind [AP]
 |cons c l ih=>simp only [AP,AI];grind
def WR: ∀(l:List Int),qx l->AP 0 l<256^l.length:=by
 intro l;induction l with
 |nil=>grind [AP]
 |cons c l ih=>
  intro h;have ⟨hc,hl⟩:=h.cons;have ih:=ih hl;simp only [AP,AI];rw [Du,aeP,aeU,aen];have h1:c.toNat<=255:=aah
  have h2:=ae8 (256^l.length) h1;omega
def ac7: ∀(k a n:Nat),zF k (a *256^k+n)=zF k n:=by
 intro k;induction k with
 |zero=>intro a n;rfl
 |succ k ih=>
  intro a n;simp only [zF];have e:a *256^(k+1)+n=a *256 *256^k+n:=by rw [aen,Nat.mul_assoc,aeo 256]
  grind [afS,ae1,ae9]
def ac8: ∀(l:List Int),qx l->zF l.length (AP 0 l)=l:=by
 intro l;induction l with
 |nil=>intro _;rfl
 |cons c l ih=>intro h;have ⟨hc,hl⟩:=h.cons;have dh:=WR l hl;simp only [AP,AI,zF];rw [Du,aeP,aeU,ac7,ih hl];congr 1;rw [afS,ae1 _ _ (ae9 aaD),Nat.div_eq_of_lt dh];omega
def H5 (n:Nat):List Int:=(gX n:Int)::zF (gX n) n
def EY (n:Nat):qx (H5 n):=by
 intro x hx;rcases afR.1 hx with rfl|hx
 .grind [vH]
 .exact ac5 _ _ x hx
theorem AQ (n:Nat):(H5 n).length=gX n+1:=by simp [H5,EX]
def mX (b:List Int):Option (Nat×List Int):=match b with
 |[]=>none
 |y::r=>if 8<y.toNat\/(0<y.toNat/\r[0]? =some 0)\/r.length<y.toNat then none else some (AP 0 (r.take y.toNat),r.drop y.toNat)
theorem Gw {n:Nat}(hn:n<2^64)(r:List Int):mX (H5 n++r)=some (n,r):=by
 have hk:=vH n;have ⟨h1,h2⟩:=ac6 _ n hn rfl;unfold mX H5;simp only [afn,ad8];rw [if_neg]
 .rw [afo (EX _ _),afu (EX _ _),YU,aeP,aeU,aeF h1]
 .rintro (h|⟨h,h3⟩|h)
  .omega
  .have ⟨k,TF⟩: ∃k,gX n=k+1:=(by simp_all)
   rw [TF] at h1 h2 h3;simp only [zF,afn,List.getElem?_cons_zero,aey,afh] at h3 h2;have hd:n/256^k<256:=by rw [Nat.div_lt_iff_lt_mul (ae9 aaD)];rw [aeo];exact h1
   have hd2:1<=n/256^k:=by rw [Nat.le_div_iff_mul_le (ae9 aaD)];omega
   omega
  grind [aa0,EX]
theorem qk {b:List Int}(hb:qx b){n:Nat}{r:List Int}(h:mX b=some (n,r)):b=H5 n++r/\n<2^64/\qx r:=by
 unfold mX at h;cases b with
 |nil=>cases h
 |cons y l=>
  simp only at h;have ⟨hy,hl⟩:=hb.cons;split at h
  .cases h
  .injection h with h;injection h with h1 h2;have hlen:(l.take y.toNat).length=y.toNat:=by rw [ad1];omega
   have dh:=WR _ (hl.take y.toNat);have hk:gX n=y.toNat:=by
    refine agG _ _ aah (by grind) (λh0=> ?_);rw [<-h1];cases l with
    |nil=>grind
    |cons c l=>
     have hc0:c≠0:=(by grind)
     have ⟨k,hk⟩: ∃k,y.toNat=k+1:=(by simp_all)
     rw [hk] at hlen;rw [hk,afh,List.take_succ_cons,AP,Du];have hll:(l.take k).length=k:=by simpa using hlen
     rw [hll,aeP,aeU];have:=ae8 (256^k) (show 1<=c.toNat by have:=hl.cons.1;omega);omega
   refine ⟨?_,?_,?_⟩
   .unfold H5;have:=ac8 _ (hl.take y.toNat);grind [ae3]
   .have:=aeh (n:=256) aaD (show y.toNat<=8 by omega);grind
   .rw [<-h2];exact hl.drop _
def zz (n:Int):Nat:=if n<0 then (2 *(-(n+1))+1).toNat else (2 *n).toNat
def uz (u:Nat):Int:=if u%2=1 then-((u/2:Nat):Int)-1 else ((u/2:Nat):Int)
def i64 (n:Int):Prop:= -9223372036854775808<=n/\n<=9223372036854775807
theorem aiy {n:Int}(h:i64 n):zz n<2^64:=by grind [zz,i64]
theorem apv {n:Int}:uz (zz n)=n:=by grind [zz,uz]
theorem apw {u:Nat}:zz (uz u)=u:=by grind [zz,uz]
theorem ak1 {u:Nat}(h:u<2^64):i64 (uz u):=by grind [uz,i64]
def MZ (n:Int):List Int:=H5 (zz n)
def y7 (s:List UInt8):List Int:=H5 s.length++zj s
def Lt (s:List UInt8):qx (zj s):=by intro x hx;grind [zj,UInt8.toNat_lt]
theorem EZ (s:List UInt8):(zj s).length=s.length:=by simp [zj]
def ac9 (n:Int):qx (MZ n):=EY _
def N5 (s:List UInt8):qx (y7 s):=(EY _).app (Lt s)
def E0 (l:List Int):List UInt8:=l.map λn=>UInt8.ofNat n.toNat
theorem N6 (s:List UInt8):E0 (zj s)=s:=by simp_all [E0,zj,aga,List.map_id,afa]
def N7 {l:List Int}(h:qx l):zj (E0 l)=l:=by
 unfold E0 zj;rw [aga];conv=>rhs;rw [<-List.map_id l]
 apply afa;intro b hb;have:=h b hb;simp;omega
def qx.all {l:List Int}(h:qx l):l.all isByte=true:=by rw [List.all_eq_true];intro x hx;have:=h x hx;grind [isByte,decide_eq_true,UInt8.toNat_ofNat']
def Sg {R:Type}{l:List Int}(h:qx l)(K:List UInt8->Option R):HJ l K=K (E0 l):=by unfold HJ;rw [if_pos h.all];rfl
def vI (b:List Int):Option (Int×List Int):=match mX b with|some (u,r)=>some (uz u,r)|none=>none
def vJ (b:List Int)(most:Nat):Option (List UInt8×List Int):=match mX b with
 |some (n,r)=>if most<n\/r.length<n then none else some (E0 (r.take n),r.drop n)
 |none=>none
theorem YV {n:Int}(h:i64 n)(r:List Int):vI (MZ n++r)=some (n,r):=by grind [vI,MZ,Gw,aiy,apv]
def Lu {b:List Int}(hb:qx b){n:Int}{r:List Int}(h:vI b=some (n,r)):b=MZ n++r/\i64 n/\qx r:=by grind [vI,mX,qk,MZ,apw,ak1]
def YW {s:List UInt8}{most:Nat}(h:s.length<=most)(hm:most<2^64)(r:List Int):vJ (y7 s++r) most=some (s,r):=by unfold vJ y7;rw [No,Gw aah];simp_all [if_neg,aa0,EZ,afo,afu,N6]
def Dv {b:List Int}(hb:qx b){most:Nat}{s:List UInt8}{r:List Int}(h:vJ b most=some (s,r)):b=y7 s++r/\s.length<=most/\qx r:=by
 unfold vJ at h;cases ht:mX b with
 |none=>grind
 |some p=>
  have ⟨n,r'⟩:=p;rw [ht] at h;simp only at h;split at h
  .cases h
  .injection h with h;injection h with h1 h2;have ⟨e,hu,hr⟩:=qk hb ht;have hl:s.length=n:=by rw [<-h1];unfold E0;rw [AS,ad1];omega
   refine ⟨?_,aah,by rw [<-h2];exact hr.drop _⟩;unfold y7;rw [hl,e,No,<-h1,<-h2,N7 (hr.take _),ae3]
theorem Gx (n:Nat):(aef 64 (n:Int))=BitVec.ofNat 64 n:=by grind
def ada {A c:Nat}(a:Nat)(hA:A=2^8 *a)(hc:c<2^8)(h:A+c<2^64):bOr .u64 (A:Int) (c:Int)=((A+c:Nat):Int):=by show bo .u64 ((aef 64 (A:Int)|||aef 64 (c:Int)).toNat:Int)=_;have e3:=Nat.two_pow_add_eq_or_of_lt hc a;grind [Gx,BitVec.toNat_or,aer,Gv]
def agH {a c:Nat}(hc:c<256)(h:a *256+c<2^64):bOr .u64 ((a *256:Nat):Int) (c:Int)=((a *256+c:Nat):Int):=ada a (aeo _ _) hc h
def and_one {u:Nat}(h:u<2^64):S9 .u64 (u:Int) 1=((u%2:Nat):Int):=by show bo .u64 ((aef 64 (u:Int)&&&aef 64 ((1:Nat):Int)).toNat:Int)=_;grind [Gx,BitVec.toNat_and,aer,aeF,Gv]
def xor_zero {k:IntKind}(hk:k.bits=64){x:Nat}(h:x<2^64):IU k (x:Int) 0=k.wrap (x:Int):=by unfold IU;grind
def Sh {k:IntKind}(hk:k.bits=64){x:Nat}(h:x<2^64)(m:Int)(hm:aef 64 m=BitVec.allOnes 64):IU k (x:Int) m=k.wrap ((2^64-1-x:Nat):Int):=by unfold IU;rw [hk,Gx,hm,BitVec.xor_allOnes,BitVec.toNat_not,aer,aeF h]
def E3 (n:Nat)(s:Nat)(hs:s<=64):OF (n:Int) (2^min s (BY .u64))=((n/2^s:Nat):Int):=by grind [aev,Int.le_of_lt,Int.pow_pos,min,BY,Nat.min_eq_left]
def Rn:List UInt8:=(([0,1,2,2,3,3,3,3,4,4,4,4,4,4,4,4,5,5,5,5,5,5,5,5,5,5,5,5,5,5,5,5,6,6,6,6,6,6,6,6,6,6,6,6,6,6,6,6,6,6,6,6,6,6,6,6,6,6,6,6,6,6,6,6]:List UInt8)++([7,7,7,7,7,7,7,7,7,7,7,7,7,7,7,7,7,7,7,7,7,7,7,7,7,7,7,7,7,7,7,7,7,7,7,7,7,7,7,7,7,7,7,7,7,7,7,7,7,7,7,7,7,7,7,7,7,7,7,7,7,7,7,7]:List UInt8))++(([8,8,8,8,8,8,8,8,8,8,8,8,8,8,8,8,8,8,8,8,8,8,8,8,8,8,8,8,8,8,8,8,8,8,8,8,8,8,8,8,8,8,8,8,8,8,8,8,8,8,8,8,8,8,8,8,8,8,8,8,8,8,8,8]:List UInt8)++([8,8,8,8,8,8,8,8,8,8,8,8,8,8,8,8,8,8,8,8,8,8,8,8,8,8,8,8,8,8,8,8,8,8,8,8,8,8,8,8,8,8,8,8,8,8,8,8,8,8,8,8,8,8,8,8,8,8,8,8,8,8,8,8]:List UInt8))
def O7: ∀y:Fin 256,((Rn.getD y 0).toNat+7)/8=(if (y:Nat)=0 then 0 else 1)/\(Rn.getD y 0).toNat<=8:=by decide+kernel
def Sd (y s:Int):Option Int:=if (0:Int)<=(bo .u8 y)/\(bo .u8 y)<(Rn.length:Int) then some (bo .i64 (s+(bo .i64 ((Rn.getD (sh (bo .u8 y)) 0).toNat:Int)))) else none
def agI {y:Nat}(hy:y<256){s:Nat}(hs:s<=56): ∃t:Nat,Sd (y:Int) (s:Int)=some ((s+t:Nat):Int)/\(t+7)/8=(if y=0 then 0 else 1)/\t<=8:=by have ⟨h1,h2⟩:=O7 ⟨y,hy⟩;simp only at h1 h2;unfold Sd;rw [w8,show ((y:Int)%256)=(y:Int) by omega,ad8,if_pos ⟨aah,by rw [show Rn.length=256 by decide+kernel];omega⟩,wrap64 (x:=((Rn.getD y 0).toNat:Int)) aah aah,wrap64 aah aah];grind
theorem agJ {m:Nat}(h:m<2^64): ∃t:Nat,xQ (m:Int)=some (t:Int)/\(t+7)/8=gX m/\t<=64:=by
 have key: ∀x s:Nat,x<256->s<=7->gX m=s+(if x=0 then 0 else 1)-> ∃t:Nat,Sd (x:Int) ((8 *s:Nat):Int)=some (t:Int)/\(t+7)/8=gX m/\t<=64:=by intro x s hx hs hk;obtain ⟨t,e,h1,h2⟩:=agI hx (s:=8 *s) aah;exact ⟨8 *s+t,e,by grind,aah⟩
 show∃t:Nat,bd (if (4294967296:Int)<=(m:Int) then if (0:Int)<=32 then some (OF (m:Int) (2^min 32 (BY .u64)),32) else none else some ((m:Int),0):Option (Int×Int)) (λw=>bd (if (65536:Int)<=w.1 then if (0:Int)<=16 then some (OF w.1 (2^min 16 (BY .u64)),bo .i64 (w.2+16)) else none else some (w.1,w.2):Option (Int×Int)) λw1=>bd (if (256:Int)<=w1.1 then if (0:Int)<=8 then some (OF w1.1 (2^min 8 (BY .u64)),bo .i64 (w1.2+8)) else none else some (w1.1,w1.2):Option (Int×Int)) λw2=>Sd w2.1 w2.2)=some (t:Int)/\(t+7)/8=gX m/\t<=64;have jQ: ∀x s:Nat,x<65536->s<=6->gX m=s+gX x-> ∃t:Nat,bd (if (256:Int)<=(x:Int) then if (0:Int)<=8 then some (OF (x:Int) (2^min 8 (BY .u64)),bo .i64 (((8 *s:Nat):Int)+8)) else none else some ((x:Int),((8 *s:Nat):Int)):Option (Int×Int)) (λw2=>Sd w2.1 w2.2)=some (t:Int)/\(t+7)/8=gX m/\t<=64:=by
  intro x s hx hs hk;have hkx:=Ls x;by_cases c:256<=x
  .rw [if_pos aah,if_pos aaD,E3 x 8 aaD,wrap64 aah aah,av,show (((8 *s:Nat):Int)+8)=((8 *(s+1):Nat):Int) by omega];exact key (x/2^8) (s+1) aah aah (by grind)
  .rw [if_neg aah,av];refine key x s aah aah ?_;grind
 have cj: ∀x s:Nat,x<4294967296->s<=4->gX m=s+gX x-> ∃t:Nat,bd (if (65536:Int)<=(x:Int) then if (0:Int)<=16 then some (OF (x:Int) (2^min 16 (BY .u64)),bo .i64 (((8 *s:Nat):Int)+16)) else none else some ((x:Int),((8 *s:Nat):Int)):Option (Int×Int)) (λw1=>bd (if (256:Int)<=w1.1 then if (0:Int)<=8 then some (OF w1.1 (2^min 8 (BY .u64)),bo .i64 (w1.2+8)) else none else some (w1.1,w1.2):Option (Int×Int)) λw2=>Sd w2.1 w2.2)=some (t:Int)/\(t+7)/8=gX m/\t<=64:=by
  intro x s hx hs hk;by_cases c:65536<=x
  .rw [if_pos aah,if_pos aaD,E3 x 16 aaD,wrap64 aah aah,av,show (((8 *s:Nat):Int)+16)=((8 *(s+2):Nat):Int) by omega];refine jQ (x/2^16) (s+2) aah aah ?_;rw [hk,n6 (n:=x) aah aah,n6 (n:=x/256) aah aah,show x/256/256=x/2^16 by omega];omega
  .rw [if_neg aah,av];exact jQ x s aah aah hk
 by_cases c:4294967296<=m
 .rw [if_pos aah,if_pos aaD,E3 m 32 aaD,av];refine cj (m/2^32) 4 aah aah ?_;rw [n6 (n:=m) aah aah,n6 (n:=m/256) aah aah,n6 (n:=m/256/256) aah aah,n6 (n:=m/256/256/256) aah aah,show m/256/256/256/256=m/2^32 by omega];omega
 .rw [if_neg aah,av];exact cj m 0 aah aah aah
def U1 {m:Nat}(h:m<2^64):ta (m:Int)=some ((1+gX m:Nat):Int):=by unfold ta;have ⟨t,e,h1,h2⟩:=agJ h;rw [e,av,if_pos aaD,wrap64 (x:=(t:Int)+7) aah aah,Int.tdiv_eq_ediv_of_nonneg aah,wrap64 (x:=((t:Int)+7)/8) aah aah,wrap64 aah aah,<-h1];congr 1
def ak2 {n j:Nat}(hj:j<=7):bo .u8 (OF (n:Int) (2^min (sh (bo .i64 (8 *(j:Int)))) (BY .u64)))=((n/256^j%256:Nat):Int):=by rw [wrap64 aah aah,show sh (8 *(j:Int))=8 *j by omega,E3 n (8 *j) aah,w8,Nat.pow_mul];grind
def agK {n:Nat}: ∀(j:Nat) (l:List Int),j<=8->l.length<=2^45+(8-j)->Loop (qR (n:Int)) (l,(j:Int)-1)=some (l++zF j n):=by
 intro j;induction j with
 |zero=>simp_all [xc,qR,if_neg,zF]
 |succ j ih=>
  intro l hj hl;have e0:(((j+1:Nat):Int)-1)=(j:Int):=aah
  rw [e0];refine BE (s':=(l++[((n/256^j%256:Nat):Int)],(j:Int)-1)) ?_ ?_
  .unfold qR;rw [if_pos aah,ak2 aah,if_pos (by grind [wrap64]),if_pos (by grind),wrap64 aah aah]
  grind [zF,No]
def Gy {b:List Int}(hb:b.length<=2^44){n:Nat}(h:n<2^64):pO b (n:Int)=some (b++H5 n):=by unfold pO;have hk:=vH n;rw [U1 h,av];unfold nm;rw [if_pos ⟨rfl,rfl⟩,av,show bo .i64 (((1+gX n:Nat):Int)-1)=(gX n:Int) by grind [wrap64],show bo .u8 (gX n:Int)=(gX n:Int) by grind [w8],if_pos (by grind),wrap64 aah aah,agK (gX n) _ hk (by grind),av,No];rfl
def YX {b:List Int}(hb:b.length<=2^44){n:Int}(h:i64 n):wJ b n=some (b++MZ n):=by
 unfold wJ i64 at *;have e:IU .u64 (bo .u64 ((bo .u64 n) *2^min (sh 1) (BY .u64))) (bo .u64 (OF n (2^min (sh 63) (BY .i64))))=(zz n:Int):=by
  rw [show min (sh 1) (BY .u64)=1 by decide,show min (sh 63) (BY .i64)=63 by decide,aev _ aaD,Gv,Gv,Gv];unfold zz;by_cases c:n<0
  .rw [if_pos c,show n/2^63%18446744073709551616=18446744073709551615 by omega,show n%18446744073709551616 *2^1%18446744073709551616=(((2 *n+18446744073709551616).toNat:Nat):Int) by omega,Sh rfl aah _ aaD,Gv];omega
  .rw [if_neg c,show n/2^63%18446744073709551616=0 by omega,show n%18446744073709551616 *2^1%18446744073709551616=(((2 *n).toNat:Nat):Int) by omega,xor_zero rfl aah,Gv];omega
 rw [e,Gy hb (aiy h),av];rfl
def Lv {b:List Int}(hb:b.length<=2^44){s:List UInt8}(h:s.length<=2^44):pP b s=some (b++y7 s):=by unfold pP;have:=vH s.length;rw [Gv,show ((s.length:Int)%18446744073709551616)=((s.length:Nat):Int) by omega,Gy hb aah,av,if_pos (by grind [aa0,AQ,EZ]),No];rfl
def U2 (b:List Int):Int:=match b with
 |[]=>2
 |y::r=>if 8<y.toNat\/(0<y.toNat/\r[0]? =some 0) then 3 else 2
def IF (b:List Int):U2 b≠0:=by unfold U2;grind
def tkB (b:List Int):Int×List Int×Int:=match mX b with
 |some (n,r)=>((n:Int),r,0)
 |none=>(0,[],U2 b)
def adb {b:List Int}{y:Int}{m:List Int}(e:IN (sh 0) (IT (sh (bo .i64 y)) (IN (sh 1) (IT (sh (b.length:Int)) b)))=m)(hm:qx m)(h8:m.length<=8): ∀(d j acc:Nat),j+d=m.length->acc<256^j->Loop (oL b y) ((acc:Int),(j:Int))=some (AP acc (m.drop j):Int):=by
 intro d;induction d with
 |zero=>intro j acc hj _;refine xc ?_;unfold oL;rw [e];rw [if_neg aah,show m.drop j=[] from (by grind)];rfl
 |succ d ih=>
  intro j acc hj ha;have dh:j<m.length:=aah
  have hc:=hm _ (List.getElem_mem dh);have ay4:256^(j+1)<=256^8:=aeh aaD aah;have h64:acc *256+m[j].toNat<2^64:=(by grind)
  refine BE (s':=(((acc *256+m[j].toNat:Nat):Int),((j+1:Nat):Int))) ?_ ?_
  .unfold oL;rw [e];rw [if_pos aah,bq dh,if_pos aaD,show min (sh 8) (BY .u64)=8 by decide,Gv,Gv,wrap64 aah aah,show (acc:Int) *2^8%18446744073709551616=((acc *256:Nat):Int) by omega,show m[j]%18446744073709551616=(m[j].toNat:Int) by omega,agH aah h64];congr 3
  grind [List.drop_eq_getElem_cons,AP]
def Dw {b:List Int}(hb:qx b)(hl:b.length<2^40):nE b=some (tkB b):=by
 unfold nE tkB;cases b with
 |nil=>simp [mX,U2]
 |cons y l=>
  have ⟨hy,LX⟩:=hb.cons;have e1:IN (sh 1) (IT (sh (((y::l).length:Nat):Int)) (y::l))=l:=aaS
  have ey:bo .i64 y=y:=(by grind [wrap64])
  rw [if_neg (by grind),Wv aaS,if_pos (by grind),e1];simp only [List.getElem_cons_zero,ey];have hg:(if (8:Int)<y then some true else if (0:Int)<y then if (0:Int)<(l.length:Int) then ix l 0 λy1=>some (decide (y1=0)) else some false else some false:Option Bool)=some (decide (8<y.toNat\/(0<y.toNat/\l[0]? =some 0))):=by
   by_cases c1:(8:Int)<y
   .grind
   .rw [if_neg c1];by_cases c2:(0:Int)<y
    .rw [if_pos c2];cases l with
     |nil=>simp;omega
     |cons c r=>rw [if_pos (by grind),Wv aaS];congr 1;grind
    grind
  rw [hg,av];unfold mX U2;by_cases c1:8<y.toNat\/(0<y.toNat/\l[0]? =some 0)
  .grind
  .rw [if_neg (by grind)];by_cases c2:l.length<y.toNat
   .simp_all
   .have hlen:(l.take y.toNat).length=y.toNat:=by rw [ad1];omega
    have e2:IN (sh 0) (IT (sh (bo .i64 y)) (IN (sh 1) (IT (sh (((y::l).length:Nat):Int)) (y::l))))=l.take y.toNat:=by rw [e1,ey];simp
    have hL:=adb e2 (LX.take _) aah y.toNat 0 0 aah aaS;simp_all [Int.natCast_zero,List.drop_zero,if_neg,if_pos,av]
def M0 {b:List Int}(hb:qx b)(hl:b.length<2^40):kH b=some (match vI b with|some (n,r)=>(n,r,0)|none=>(0,[],U2 b)):=by
 unfold kH vI;rw [Dw hb hl,av,if_pos aaD];unfold tkB;cases ht:mX b with
 |none=>
  have e:IU .i64 (bo .i64 (OF 0 (2^min (sh 1) (BY .u64)))) (bo .i64 (0-(bo .i64 (S9 .u64 0 1))))=0:=by decide+kernel
  rw [e]
 |some p=>
  have ⟨u,r⟩:=p;have ⟨_,hu,_⟩:=qk hb ht;congr 2;rw [and_one hu,show sh 1=1 from rfl,E3 u 1 aaD,wrap64 (x:=((u/2^1:Nat):Int)) aah aah];unfold uz;by_cases c:u%2=1
  .rw [if_pos c,c,wrap64 aaD aaD,wrap64 aaD aaD,Sh rfl aah _ aaD,atC];omega
  .rw [if_neg c,show u%2=0 by omega,wrap64 aaD aaD,wrap64 aaD aaD,show (0:Int)-((0:Nat):Int)=0 by decide,xor_zero rfl aah,wrap64 aah aah]
def RR (b:List Int)(most:Nat):List UInt8×List Int×Int:=match mX b with
 |some (n,r)=>if most<n then ([],[],5) else if r.length<n then ([],[],2) else (E0 (r.take n),r.drop n,0)
 |none=>([],[],U2 b)
theorem YY (b:List Int)(most:Nat):(∃s r,vJ b most=some (s,r)/\RR b most=(s,r,0))\/(vJ b most=none/\ ∃e,e≠0/\RR b most=([],[],e)):=by
 unfold vJ RR;cases mX b with
 |none=>exact .inr ⟨rfl,_,IF b,rfl⟩
 |some p=>
  have ⟨n,r⟩:=p;by_cases c1:most<n
  .simp_all
  .by_cases c2:r.length<n;all_goals simp_all [if_pos,if_neg]
def Lw {b:List Int}{n:Nat}{r:List Int}(h:mX b=some (n,r)):r.length<=b.length:=by unfold mX at h;grind
theorem YZ {n:Nat}{r:List Int}(hr:qx r)(hl:r.length<2^40){most:Nat}(hm:most<2^40)(hn:n<2^64): (if (bo .u64 (imax (most:Int) 0))<(n:Int) then some (([]:List UInt8),([]:List Int),(5:Int)) else if (bo .u64 (r.length:Int))<(n:Int) then some (([]:List UInt8),([]:List Int),2)
 else if (0:Int)<=0/\(0:Int)<=(n:Int)/\(n:Int)<=(r.length:Int) then HJ (IN (sh 0) (IT (sh (n:Int)) r)) λbs=>if (0:Int)<=(n:Int)/\(n:Int)<=(r.length:Int)/\(r.length:Int)<=(r.length:Int) then some (bs,IN (sh (n:Int)) (IT (sh (r.length:Int)) r),0) else none
 else none)=some (if most<n then (([]:List UInt8),([]:List Int),(5:Int)) else if r.length<n then ([],[],2) else (E0 (r.take n),r.drop n,0)):=by
 have e1:bo .u64 (imax (most:Int) 0)=(most:Int):=by unfold imax;rw [Gv];split<;>omega
 have e2:bo .u64 (r.length:Int)=(r.length:Int):=by rw [Gv];omega
 by_cases c1:most<n
 .grind
 .rw [if_neg aah,if_neg c1];by_cases c2:r.length<n
  .grind
  .rw [if_neg aah,if_neg c2,if_pos (by grind),show IN (sh 0) (IT (sh (n:Int)) r)=r.take n by simp,Sg (hr.take _),if_pos (by grind)];simp
def Lx {b:List Int}(hb:qx b)(hl:b.length<2^40){most:Nat}(hm:most<2^40):jB b (most:Int)=some (RR b most):=by
 unfold jB RR;rw [Dw hb hl,av];unfold tkB;cases ht:mX b with
 |none=>simp only [IF b,decide_false,afK,if_true]
 |some p=>obtain ⟨n,r⟩:=p;have ⟨_,hu,hr⟩:=qk hb ht;grind [YZ]
def pB (l:List Int):List Int:=(l.map MZ).flatten
@[simp] theorem Dx (n : Int)(l : List Int) : pB (n :: l) = MZ n ++ pB l := rfl
theorem Y0 (l m:List Int):pB (l++m)=pB l++pB m:=by grind [pB]
theorem ade (n:Int):(MZ n).length<=9:=by grind [MZ,AQ,vH,zz]
def Gz (s:List UInt8):(y7 s).length<=9+s.length:=by unfold y7;rw [aa0,AQ,EZ];have:=vH s.length;omega
def GA (l:List Int):(pB l).length<=9 *l.length:=by
 induction l with
 |nil=>simp [pB]
 |cons n l ih=>grind [Dx,aa0,AI,ade]
def Y1 (l:List Int):qx (pB l):=by
 induction l with
 |nil=>intro x hx;grind [pB]
 |cons n l ih=>exact (ac9 n).app ih
theorem Ly {b:List Int}{n:Int}{r:List Int}(h:vI b=some (n,r)):r.length<=b.length:=by
 unfold vI at h;cases ht:mX b with
 |none=>grind
 |some p=>have ⟨u,r'⟩:=p;simp_all [Lw]
def U3 {b:List Int}{most:Nat}{s:List UInt8}{r:List Int}(h:vJ b most=some (s,r)):r.length<=b.length:=by
 unfold vJ at h;cases ht:mX b with
 |none=>grind
 |some p=>
  rw [ht] at h;simp only at h;split at h
  .cases h
  .have:=Lw ht;grind
def nO:Nat->List Int->Option (List Int×List Int)
 |0,b=>some ([],b)
 |k+1,b=>match vI b with
  |none=>none
  |some (n,r)=>match nO k r with
   |none=>none
   |some (l,r')=>some (n::l,r')
def U4: ∀(l:List Int),(∀n∈l,i64 n)-> ∀r,nO l.length (pB l++r)=some (l,r):=by
 intro l;induction l with
 |nil=>intro _ r;rfl
 |cons n l ih=>grind [AI,nO,Dx,No,YV]
def Si: ∀(k:Nat) {b:List Int},qx b-> ∀{l r:List Int},nO k b=some (l,r)->b=pB l++r/\l.length=k/\(∀n∈l,i64 n)/\qx r/\r.length<=b.length:=by
 intro k;induction k with
 |zero=>intro b hb l r h;injection h with h;injection h with h1 h2;subst h1;subst h2;exact ⟨rfl,rfl,aaS,hb,agc _⟩
 |succ k ih=>
  intro b hb l r h;simp only [nO] at h;cases ht:vI b with
  |none=>grind
  |some p=>have ⟨e1,hn,CJ⟩:=Lu hb ht;grind [nO,Ly,Dx,No,AI]
def M1 (o:ab):List Int:=[o.Client,o.Seq,o.Kind,o.Version,o.Session,o.Span]
def pe (o:ab):List Int:=pB (M1 o)++(y7 o.Path++y7 o.Value)
def GB (o:ab):Prop:= ∀n∈M1 o,i64 n
def U5 (o:ab):qx (pe o):=(Y1 _).app ((N5 _).app (N5 _))
def Lz (o:ab):(pe o).length<=72+o.Path.length+o.Value.length:=by have h1:=GA (M1 o);have h2:=Gz o.Path;have h3:=Gz o.Value;have h4:(M1 o).length=6:=rfl;grind [pe,aa0]
def Y2 (o:ab):(fC o).isSome=true:=by unfold fC;by_cases k1:o.Kind=1<;>by_cases k2:o.Kind=2<;>by_cases k5:o.Kind=5<;>by_cases k10:o.Kind=10<;>simp only [k1,k2,k5,k10,if_true,if_false,av,decide_true]<;>(repeat' split)<;>first|rfl|grind [av]
def GC (o:ab):bg (ef o) λb=>b=true->o.Path.length<=100/\o.Value.length<=1000:=by
 have ⟨u,hu⟩:=Option.isSome_iff_exists.1 (Y2 o);unfold ef;have h1: ∃b,(if (0:Int)<=o.Client then if o.Client<=1000 then if (1:Int)<=o.Seq then some (decide (o.Seq<=1000000000)) else some false else some false else some false:Option Bool)=some b:=by (repeat' split)<;>exact ⟨_,rfl⟩
 have ⟨b,hb⟩:=h1;rw [hb,av,hu];cases b with
 |false=>exact .mk aaS
 |true=>
  by_cases c1:(0:Int)<=o.Kind;rotate_left
  .simp only [c1,if_false,av];exact .mk aaS
  by_cases c2:o.Kind<=11;rotate_left
  .simp only [c1,c2,if_true,if_false,av];exact .mk aaS
  by_cases c3:(o.Path.length:Int)<=100;rotate_left
  .simp only [c1,c2,c3,if_true,if_false,av];exact .mk aaS
  by_cases c4:(o.Value.length:Int)<=1000;rotate_left
  .simp only [c1,c2,c3,c4,if_true,if_false,av];exact .mk aaS
  simp_all;exact .mk λ_=>aah
def U6 {b l:List Int}(hb:b.length<=2^43)(hl:l.length<=100)(h: ∀n∈l,i64 n):xR b l=some (b++pB l):=by
 refine bg.eq (bg.bd (P:=λw=>w=b++pB l) ?_ λw hw=> .mk hw);refine bg.count (λk=>(b++pB (l.take k),(k:Int))) l.length (λ_=>True) (by simp [pB]) trivial (λk hk _=> ?_) (λ_=> ?_)
 .have h2:=GA (l.take k);unfold r9;rw [if_pos aah,bq hk,YX (by grind) (by grind),av,wrap64 aah aah];refine .mk ⟨?_,trivial⟩;grind [List.take_add_one,List.getElem?_eq_getElem,Y0,No,pB]
 .unfold r9;rw [if_neg aah,List.take_length];exact .mk rfl
def Y3 {b:List Int}(hb:b.length<=2^42){o:ab}(h:GB o)(hp:o.Path.length<=100000)(hv:o.Value.length<=100000):wK b o=some (b++pe o):=by have h1:=GA (M1 o);have h2:=Gz o.Path;have h4:(M1 o).length=6:=rfl;unfold wK;rw [show ([o.Client,o.Seq,o.Kind,o.Version,o.Session,o.Span]:List Int)=M1 o from rfl,U6 aah (by grind) h,av,Lv (by grind) aah,av,Lv (by grind) aah,av];grind [pe,No]
def dL (b:List Int):Option (ab×List Int):=match nO 6 b with
 |some ([c,s,k,v,e,p],r)=>(match vJ r 100 with
  |some (x,r)=>(match vJ r 1000 with
   |some (y,r)=>some (⟨c,s,k,x,y,v,e,p⟩,r)
   |none=>none)
  |none=>none)
 |_=>none
def Y4 {o:ab}(h:GB o)(hp:o.Path.length<=100)(hv:o.Value.length<=1000)(r:List Int):dL (pe o++r)=some (o,r):=by unfold dL pe;have h1:=U4 (M1 o) h (y7 o.Path++y7 o.Value++r);simp_all [No,M1,YW]
def LA {b:List Int}(hb:qx b){o:ab}{r:List Int}(h:dL b=some (o,r)):b=pe o++r/\GB o/\qx r/\o.Path.length<=100/\o.Value.length<=1000:=by
 unfold dL at h;split at h;rotate_left
 .cases h
 rename_i c s k v e p r1 h1;have ⟨e1,_,n1,b1,_⟩:=Si 6 hb h1;split at h;rotate_left
 .cases h
 rename_i x r2 h2;have ⟨e2,l2,b2⟩:=Dv b1 h2;split at h;rotate_left
 .cases h
 rename_i y r3 h3;have ⟨e3,l3,b3⟩:=Dv b2 h3;simp at h;have ⟨rfl,rfl⟩:=h;refine ⟨?_,n1,b3,l2,l3⟩;rw [e1,e2,e3];unfold pe;simp only [No];rfl
def xd {b:List Int}{e x:Int}(he:e≠0):oM b e x=some (x,b,e):=by simp_all [oM,if_neg]
def ql {b:List Int}{e m:Int}(he:e≠0):vi b e m=some ([],b,e):=by simp_all [vi,if_neg]
def n7 {b:List Int}(hb:qx b)(hl:b.length<2^40)(x:Int):(∃n r,vI b=some (n,r)/\oM b 0 x=some (n,r,0))\/(vI b=none/\ ∃e,e≠0/\oM b 0 x=some (0,[],e)):=by
 unfold oM;rw [if_pos rfl,M0 hb hl];cases h:vI b with
 |none=>exact .inr ⟨rfl,_,IF b,rfl⟩
 |some p=>grind
def Hw {b:List Int}(hb:qx b)(hl:b.length<2^40){m:Nat}(hm:m<2^40):(∃s r,vJ b m=some (s,r)/\vi b 0 (m:Int)=some (s,r,0))\/(vJ b m=none/\ ∃e,e≠0/\vi b 0 (m:Int)=some ([],[],e)):=by unfold vi;rw [if_pos rfl,Lx hb hl hm];grind [YY]
def M2 {b:List Int}(hb:qx b)(hl:b.length<2^40):bg (td b) λr=>(∃o rest,dL b=some (o,rest)/\((ef o=some true/\r=(o,rest,0))\/(ef o=some false/\r.2.2≠0)))\/(dL b=none/\r.2.2≠0):=by
 unfold td;have step: ∀{b:List Int} {n:Int} {r:List Int},qx b->b.length<2^40->vI b=some (n,r)->qx r/\r.length<2^40:=λhb hl h=>⟨(Lu hb h).2.2,by have:=Ly h;omega⟩
 have stepT: ∀{b:List Int} {m:Nat} {n:List UInt8} {r:List Int},qx b->b.length<2^40->vJ b m=some (n,r)->qx r/\r.length<2^40:=λhb hl h=>⟨(Dv hb h).2.2,by have:=U3 h;omega⟩
 rcases n7 hb hl 0 with ⟨n0,r0,t0,g0⟩|⟨t0,e,he,g0⟩;rotate_left
 .rw [g0];simp only [av,xd he,ql he,he,if_false];exact .mk (by grind [dL,nO])
 rw [g0,av];have ⟨b0,l0⟩:=step hb hl t0;rcases n7 b0 l0 0 with ⟨n1,r1,t1,g1⟩|⟨t1,e,he,g1⟩;rotate_left
 .rw [g1];simp only [av,xd he,ql he,he,if_false];exact .mk (by grind [dL,nO])
 rw [g1,av];have ⟨b1,l1⟩:=step b0 l0 t1;rcases n7 b1 l1 0 with ⟨n2,r2,t2,g2⟩|⟨t2,e,he,g2⟩;rotate_left
 .rw [g2];simp only [av,xd he,ql he,he,if_false];exact .mk (by grind [dL,nO])
 rw [g2,av];have ⟨b2,l2⟩:=step b1 l1 t2;rcases n7 b2 l2 0 with ⟨n3,r3,t3,g3⟩|⟨t3,e,he,g3⟩;rotate_left
 .rw [g3];simp only [av,xd he,ql he,he,if_false];exact .mk (.inr ⟨by simp_all [dL,nO],he⟩)
 rw [g3,av];have ⟨b3,l3⟩:=step b2 l2 t3;rcases n7 b3 l3 0 with ⟨n4,r4,t4,g4⟩|⟨t4,e,he,g4⟩;rotate_left
 .rw [g4];simp only [av,xd he,ql he,he,if_false];exact .mk (.inr ⟨by simp_all [dL,nO],he⟩)
 rw [g4,av];have ⟨b4,l4⟩:=step b3 l3 t4;rcases n7 b4 l4 0 with ⟨n5,r5,t5,g5⟩|⟨t5,e,he,g5⟩;rotate_left
 .rw [g5];simp only [av,ql he,he,if_false];exact .mk (.inr ⟨by simp_all [dL,nO],he⟩)
 rw [g5,av];have ⟨b5,l5⟩:=step b4 l4 t5;have apz:nO 6 b=some ([n0,n1,n2,n3,n4,n5],r5):=by simp [nO,t0,t1,t2,t3,t4,t5]
 rcases Hw b5 l5 (m:=100) aaD with ⟨x,r6,t6,g6⟩|⟨t6,e,he,g6⟩;rotate_left
 .rw [show vi r5 0 100=_ from g6];simp only [av,ql he,he,if_false];exact .mk (by grind [dL])
 rw [show vi r5 0 100=_ from g6,av];have ⟨b6,l6⟩:=stepT b5 l5 t6;rcases Hw b6 l6 (m:=1000) aaD with ⟨y,r7,t7,g7⟩|⟨t7,e,he,g7⟩;rotate_left
 .simp_all;exact .mk (by grind [dL])
 rw [show vi r6 0 1000=_ from g7,av];have ⟨m,em,_⟩:=GC (⟨n0,n1,n2,x,y,n3,n4,n5⟩:ab);rw [em,av];have ho:dL b=some (⟨n0,n1,n2,x,y,n3,n4,n5⟩,r7):=by simp [dL,apz,t6,t7]
 cases m with
 |true=>exact .mk (by grind)
 |false=>exact .mk (by grind)
def sv (o:ab):Prop:=ef o=some true
noncomputable instance (o:ab):Decidable (sv o):=Classical.propDecidable _
def sv.short {o:ab}(h:sv o):o.Path.length<=100/\o.Value.length<=1000:=by have ⟨b,e,hb⟩:=GC o;rw [h] at e;grind
def agL (o:ab):ef o=some (decide (sv o)):=by have ⟨b,e,_⟩:=GC o;simp_all [decide_eq_true,sv,decide_eq_false]
def y8 (l:List ab):List Int:=(l.map pe).flatten
def vK (l:List ab):List Int:=H5 l.length++y8 l
def N8 (l:List ab):qx (y8 l):=by
 induction l with
 |nil=>intro x hx;cases hx
 |cons o l ih=>exact (U5 o).app ih
def Y5 {l:List ab}(h: ∀o∈l,sv o):(y8 l).length<=1200 *l.length:=by
 induction l with
 |nil=>simp [y8]
 |cons o l ih=>have h1:=Lz o;have h2:=(h o aaS).short;have:y8 (o::l)=pe o++y8 l:=rfl;grind
def FD {l:List ab}(hN: ∀o∈l,GB o)(hl:l.length<=100): ∀(todo done:List ab) (b:List Int),l=done++todo->b.length<=2^41+1200 *done.length-> Loop (jz l) (b,(done.length:Int))=some (if∀o∈todo,sv o then .inl (b++y8 todo) else .inr ([],1)):=by
 intro todo;induction todo with
 |nil=>simp_all [xc,jz,if_neg,if_pos,y8]
 |cons o todo ih=>
  intro done b e hb;have hlen:l.length=done.length+todo.length+1:=by rw [e];simp;omega
  have dh:done.length<l.length:=aah
  have nC:l[done.length]=o:=by simp only [e];simp
  have mG:jz l (b,(done.length:Int))=if sv o then some (.inl (b++pe o,((done++[o]).length:Int))) else some (.inr (.inr ([],1))):=by
   unfold jz;simp only;rw [if_pos aah,bq dh,nC,agL,av];by_cases hm:sv o
   .have hs:=hm.short;rw [decide_eq_true hm,if_neg aaS,if_pos hm,Y3 aah (hN o (by rw [e];simp)) aah aah,av,wrap64 aah aah];simp
   .grind
  by_cases hm:sv o
  .rw [if_pos hm] at mG;refine BE mG ?_;have h1:=Lz o;have hs:=hm.short;rw [ih (done++[o]) (b++pe o) (by rw [e];simp) (by grind)];have hq:(∀x∈o::todo,sv x)↔ ∀x∈todo,sv x:=by simp [hm]
   by_cases ht: ∀x∈todo,sv x
   .rw [if_pos ht,if_pos (hq.2 ht),No];rfl
   grind
  simp_all [if_neg,xc]
def Y6 {l:List ab}(hN: ∀o∈l,GB o)(hl:l.length<=100):oJ l=some (if 10<l.length then ([],5) else if∀o∈l,sv o then (E0 (vK l),0) else ([],1)):=by
 unfold oJ;by_cases Fz:10<l.length
 .grind
 rw [if_neg aah,if_neg Fz];have hw:bo .u64 (l.length:Int)=((l.length:Nat):Int):=by rw [Gv];omega
 have hp:=AQ l.length;have hk:=vH l.length;rw [hw,Gy aaS aah,av,afw];have:=FD hN hl l [] (H5 l.length) aaS aah;rw [show ((([]:List ab).length:Nat):Int)=0 from rfl] at this;rw [this,av];by_cases hm: ∀o∈l,sv o
 .rw [if_pos hm,if_pos hm];simp only;rw [Sg ((EY _).app (N8 l))];rfl
 grind
noncomputable def um:Nat->List Int->Option (List ab×List Int)
 |0,b=>some ([],b)
 |n+1,b=>(match dL b with
  |some (o,r)=>if sv o then (match um n r with
   |some (l,r)=>some (o::l,r)
   |none=>none) else none
  |none=>none)
def U7 {b:List Int}(hb:qx b){o:ab}{r:List Int}(h:dL b=some (o,r)):qx r/\r.length<=b.length:=by have ⟨e,_,h2,_⟩:=LA hb h;grind
def U8 {l:List ab}(h: ∀o∈l,GB o/\sv o)(r:List Int):um l.length (y8 l++r)=some (l,r):=by
 induction l with
 |nil=>rfl
 |cons o l ih=>
  have ⟨h1,h2⟩:=h o aaS;have hs:=h2.short;have e:y8 (o::l)++r=pe o++(y8 l++r):=by rw [<-No];rfl
  simp_all [AI,um,Y4,if_pos]
def Sj: ∀{n:Nat} {b:List Int} {l:List ab} {r:List Int},qx b->um n b=some (l,r)->b=y8 l++r/\l.length=n/\ ∀o∈l,GB o/\sv o:=by
 intro n;induction n with
 |zero=>intro b l r hb h;simp only [um,aey,Prod.mk.injEq] at h;have ⟨rfl,rfl⟩:=h;exact ⟨rfl,rfl,aaS⟩
 |succ n ih=>
  intro b l r hb h;rw [um] at h;split at h;rotate_left
  .cases h
  rename_i o r1 h1;have ⟨e1,n1,b1,_⟩:=LA hb h1;split at h;rotate_left
  .cases h
  split at h;rotate_left
  .cases h
  rename_i l2 r2 h2;simp at h;have ⟨rfl,rfl⟩:=h;have ⟨e2,l2,a2⟩:=ih b1 h2;refine ⟨by rw [e1,e2,<-No];rfl,by grind,λx hx=> ?_⟩;grind
abbrev zO:ab:=⟨0,0,0,[],[],0,0,0⟩
def atD {rA:Int×List Int×Int}{n:Nat}(hn:rA.1=(n:Int))(ay5:n<=10): ∀(m:Nat) (done:List ab) (r:List Int),qx r->r.length<2^40->done.length+m=n-> Loop (jC rA) (r,done++ad3 m zO,(done.length:Int))=some (match um m r with|some (l,r')=> .inl (r',done++l)|none=> .inr ([],3)):=by
 intro m;induction m with
 |zero=>simp_all [xc,jC,if_neg,List.length_replicate,um]
 |succ m ih=>
  intro done r hb hl e;have ZR:done.length<(done++ad3 (m+1) zO).length:=aaS
  have ⟨x,ex,hx⟩:=M2 hb hl;have mG:jC rA (r,done++ad3 (m+1) zO,(done.length:Int))=if x.2.2=0 then some (.inl (x.2.1,(done++[x.1])++ad3 m zO,((done++[x.1]).length:Int))) else some (.inr (.inr ([],3))):=by
   unfold jC;simp only;rw [if_pos (by grind),ex,av,bq ZR];by_cases he:x.2.2=0
   .rw [if_neg (by simp [he]),if_pos he,wrap64 aah aah];have hs:(done++ad3 (m+1) zO).set (sh (done.length:Int)) x.1=(done++[x.1])++ad3 m zO:=by rw [ad8,List.set_append_right _ _ (agc _),Nat.sub_self,List.replicate_succ,List.set_cons_zero,No];rfl
    simp_all
   .grind
  rw [um];rcases hx with ⟨o,rest,t0,⟨hm,rfl⟩|⟨hm,he⟩⟩|⟨t0,he⟩
  .refine BE mG ?_;have ⟨b2,l2⟩:=U7 hb t0;rw [ih (done++[o]) rest b2 aah (by grind),t0];simp only;rw [if_pos (show sv o from hm)];grind
  all_goals simp_all [if_neg,xc,sv]
def GD (s:List UInt8)(hs:s.length<2^40):dv s=some (match mX (zj s) with
 |some (n,r)=>if 10<n then ([],3) else (match um n r with
  |some (l,r')=>if r'=[] then (l,0) else ([],3)
  |none=>([],3))
 |none=>([],3)):=by
 have hb:=Lt s;have hl:(zj s).length<2^40:=by rw [EZ];exact hs
 unfold dv;rw [Dw hb hl,av];unfold tkB;cases ht:mX (zj s) with
 |none=>simp only [IF,decide_false,afK,if_true,av]
 |some p=>
  have ⟨n,r⟩:=p;have ⟨e1,n1,b1⟩:=qk hb ht;simp only [decide_true,Bool.not_true,Bool.false_eq_true,if_false,av];by_cases Fz:10<n
  .grind
  rw [decide_eq_false aah,if_neg aaS,if_neg Fz,if_pos (by grind)];have:=atD (rA:=((n:Int),r,0)) (n:=n) rfl aah n [] r b1 (by grind) aaS;rw [show ((([]:List ab).length:Nat):Int)=0 from rfl,afw] at this;rw [show sh (n:Int)=n from ad8 n,this,av];cases um n r with
  |none=>rfl
  |some q=>
   have ⟨l,r'⟩:=q;cases r' with
   |nil=>rfl
   |cons y r'=>grind
def U9 {l:List ab}(hN: ∀o∈l,GB o)(hM: ∀o∈l,sv o)(hl:l.length<=10):dv (E0 (vK l))=some (l,0):=by have hb:qx (vK l):=(EY _).app (N8 l);have h1:=Y5 hM;have h2:=AQ l.length;have h3:=vH l.length;rw [GD _ (by grind [E0,vK,AS,aa0]),N7 hb];unfold vK;rw [Gw aah];simp only;rw [if_neg aah];have:=U8 (λo ho=>⟨hN o ho,hM o ho⟩) ([]:List Int) (l:=l);rw [List.append_nil] at this;rw [this];rfl
def Sk {s:List UInt8}(hs:s.length<2^40){l:List ab}(h:dv s=some (l,0)):l.length<=10/\(∀o∈l,GB o)/\(∀o∈l,sv o)/\E0 (vK l)=s:=by
 have hb:=Lt s;rw [GD s hs] at h;split at h;rotate_left
 .simp at h
 rename_i n r ht;have ⟨e1,n1,b1⟩:=qk hb ht;split at h
 .simp at h
 split at h;rotate_left
 .simp at h
 rename_i l2 r2 h2;have ⟨e2,l2',a2⟩:=Sj b1 h2;split at h;rotate_left
 .simp at h
 grind [vK,N6]
def N9 {s:List UInt8}(hs:s.length<2^40):bg (dv s) λr=>r.2=0\/r=([],3):=by rw [GD s hs];refine .mk ?_;grind
end
end Dn.S
