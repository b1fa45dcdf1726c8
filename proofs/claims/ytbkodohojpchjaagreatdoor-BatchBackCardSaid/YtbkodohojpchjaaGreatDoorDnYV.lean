import Derived.Test.YtbkodohojpchjaaGreatDoorDnYT
import Derived.Test.YtbkodohojpchjaaGreatDoorDnD
/- Bounded rounds. Conditions: none. -/
set_option linter.unusedVariables false
set_option linter.unusedSimpArgs false
open Go.IntKind renaming wrap→bB,bits→AI
open Int renaming toNat→sh,fdiv→By
open List renaming drop→AS,take→AT,replicate→BY
open Go.Op renaming bytesLess→IN
open Go Dn
set_option maxRecDepth 100000
namespace Dn.S
def FY (fuel:Nat):Option ap:=some (⟨([(⟨([47]:List UInt8),([]:List UInt8),0,0⟩:av)]:List av)⟩:ap)
theorem Te (fuel:Nat):Le (FY fuel) (wJ):=by unfold FY wJ;repeat' (first|with_reducible exact Le.rfl' _|refine Le.bd ?_ λ_=> ?_|refine Le.ite ?_ ?_|refine Le.ix λ_=> ?_|refine Le.loop λ_=> ?_|refine Le.bF (λ_=> ?_) _|refine Le.bG (λ_ _=> ?_) _ _|refine Le.sum (λ_=> ?_) (λ_=> ?_)|exact Le.rfl' _|intro _)
def FZ (fuel:Nat):Option aC:=some (⟨0,([]:List ak)⟩:aC)
theorem Tf (fuel:Nat):Le (FZ fuel) (wK):=by unfold FZ wK;repeat' (first|with_reducible exact Le.rfl' _|refine Le.bd ?_ λ_=> ?_|refine Le.ite ?_ ?_|refine Le.ix λ_=> ?_|refine Le.loop λ_=> ?_|refine Le.bF (λ_=> ?_) _|refine Le.bG (λ_ _=> ?_) _ _|refine Le.sum (λ_=> ?_) (λ_=> ?_)|exact Le.rfl' _|intro _)
def F3 (fuel:Nat):Option ax:=bd ((FY fuel)) λrA=>
 bd ((FZ fuel)) λaB=>
 some (⟨rA,aB,(⟨([]:List aq)⟩:aX),([]:List ae)⟩:ax)
theorem Tg (fuel:Nat):Le (F3 fuel) (wL):=by unfold F3 wL;repeat' (first|with_reducible exact Le.rfl' _|with_reducible apply Te|with_reducible apply Tf|refine Le.bd ?_ λ_=> ?_|refine Le.ite ?_ ?_|refine Le.ix λ_=> ?_|refine Le.loop λ_=> ?_|refine Le.bF (λ_=> ?_) _|refine Le.bG (λ_ _=> ?_) _ _|refine Le.sum (λ_=> ?_) (λ_=> ?_)|exact Le.rfl' _|intro _)
def rF (fuel:Nat)(o:ab):Option ab:=if o.Kind=1 then
 some (⟨o.Client,o.Seq,o.Kind,o.Path,o.Value,0,o.Session,0⟩:ab)
 else
 bd (if o.Kind=2 then
  some (decide (o.Kind=2))
  else
  bd (if o.Kind=5 then
   some (decide (o.Kind=5))
   else
   bd (if o.Kind=10 then
    some (decide (o.Kind=10))
    else
    some (decide (o.Kind=11)):Option Bool) λw2=>
   some w2:Option Bool) λw1=>
  some w1:Option Bool) λw=>
 if w then
 some (⟨o.Client,o.Seq,o.Kind,o.Path,([]:List UInt8),0,0,0⟩:ab)
 else
 if o.Kind=3 then
 some (⟨o.Client,o.Seq,o.Kind,o.Path,o.Value,o.Version,0,0⟩:ab)
 else
 if o.Kind=4 then
 some (⟨o.Client,o.Seq,o.Kind,o.Path,([]:List UInt8),o.Version,0,0⟩:ab)
 else
 if o.Kind=6 then
 some (⟨o.Client,o.Seq,o.Kind,([]:List UInt8),([]:List UInt8),0,o.Session,o.Span⟩:ab)
 else
 bd (if o.Kind=7 then
  some (decide (o.Kind=7))
  else
  some (decide (o.Kind=8)):Option Bool) λw3=>
 if w3 then
 some (⟨o.Client,o.Seq,o.Kind,([]:List UInt8),([]:List UInt8),0,o.Session,0⟩:ab)
 else
 if o.Kind=9 then
 some (⟨o.Client,o.Seq,o.Kind,([]:List UInt8),([]:List UInt8),0,0,o.Span⟩:ab)
 else
 some (⟨o.Client,o.Seq,o.Kind,([]:List UInt8),([]:List UInt8),0,0,0⟩:ab)
theorem F4 (fuel:Nat)(o:ab):Le (rF fuel o) (fT o):=by unfold rF fT;repeat' (first|with_reducible exact Le.rfl' _|refine Le.bd ?_ λ_=> ?_|refine Le.ite ?_ ?_|refine Le.ix λ_=> ?_|refine Le.loop λ_=> ?_|refine Le.bF (λ_=> ?_) _|refine Le.bG (λ_ _=> ?_) _ _|refine Le.sum (λ_=> ?_) (λ_=> ?_)|exact Le.rfl' _|intro _)
def xc (fuel:Nat)(o:ab):Option Bool:=bd (if (0:Int)<=o.Client then
  if o.Client<=1000 then
  if (1:Int)<=o.Seq then
  some (decide (o.Seq<=1000000000))
  else
  some false
  else
  some false
  else
  some false:Option Bool) λw=>
 bd (if w then
  if (0:Int)<=o.Kind then
  if o.Kind<=11 then
  if (o.Path.length:Int)<=100 then
  if (o.Value.length:Int)<=1000 then
  bd ((rF fuel) o) λrA=>
  some ((decide (o.Client=rA.Client))&&((decide (o.Seq=rA.Seq))&&((decide (o.Kind=rA.Kind))&&((decide (o.Path=rA.Path))&&((decide (o.Value=rA.Value))&&((decide (o.Version=rA.Version))&&((decide (o.Session=rA.Session))&&(decide (o.Span=rA.Span)))))))))
  else
  some false
  else
  some false
  else
  some false
  else
  some false
  else
  some false:Option Bool) λw1=>
 some w1
theorem CU (fuel:Nat)(o:ab):Le (xc fuel o) (fP o):=by unfold xc fP;repeat' (first|with_reducible exact Le.rfl' _|with_reducible apply F4|refine Le.bd ?_ λ_=> ?_|refine Le.ite ?_ ?_|refine Le.ix λ_=> ?_|refine Le.loop λ_=> ?_|refine Le.bF (λ_=> ?_) _|refine Le.bG (λ_ _=> ?_) _ _|refine Le.sum (λ_=> ?_) (λ_=> ?_)|exact Le.rfl' _|intro _)
def CV (fuel:Nat)(x:Int):Option Int:=bd (if (4294967296:Int)<=x then
  if (0:Int)<=32 then
  some (By x (2^min (sh 32) (AI .u64)),32)
  else none
  else
  some (x,0):Option (Int×Int)) λw=>
 bd (if (65536:Int)<=w.1 then
  if (0:Int)<=16 then
  some (By w.1 (2^min (sh 16) (AI .u64)),bB .i64 (w.2+16))
  else none
  else
  some (w.1,w.2):Option (Int×Int)) λw1=>
 bd (if (256:Int)<=w1.1 then
  if (0:Int)<=8 then
  some (By w1.1 (2^min (sh 8) (AI .u64)),bB .i64 (w1.2+8))
  else none
  else
  some (w1.1,w1.2):Option (Int×Int)) λw2=>
 if (0:Int)<=(bB .u8 w2.1)/\(bB .u8 w2.1)<(((([0,1,2,2,3,3,3,3,4,4,4,4,4,4,4,4,5,5,5,5,5,5,5,5,5,5,5,5,5,5,5,5,6,6,6,6,6,6,6,6,6,6,6,6,6,6,6,6,6,6,6,6,6,6,6,6,6,6,6,6,6,6,6,6]:List UInt8)++([7,7,7,7,7,7,7,7,7,7,7,7,7,7,7,7,7,7,7,7,7,7,7,7,7,7,7,7,7,7,7,7,7,7,7,7,7,7,7,7,7,7,7,7,7,7,7,7,7,7,7,7,7,7,7,7,7,7,7,7,7,7,7,7]:List UInt8))++(([8,8,8,8,8,8,8,8,8,8,8,8,8,8,8,8,8,8,8,8,8,8,8,8,8,8,8,8,8,8,8,8,8,8,8,8,8,8,8,8,8,8,8,8,8,8,8,8,8,8,8,8,8,8,8,8,8,8,8,8,8,8,8,8]:List UInt8)++([8,8,8,8,8,8,8,8,8,8,8,8,8,8,8,8,8,8,8,8,8,8,8,8,8,8,8,8,8,8,8,8,8,8,8,8,8,8,8,8,8,8,8,8,8,8,8,8,8,8,8,8,8,8,8,8,8,8,8,8,8,8,8,8]:List UInt8))).length:Int) then
 some (bB .i64 (w2.2+(bB .i64 ((((([0,1,2,2,3,3,3,3,4,4,4,4,4,4,4,4,5,5,5,5,5,5,5,5,5,5,5,5,5,5,5,5,6,6,6,6,6,6,6,6,6,6,6,6,6,6,6,6,6,6,6,6,6,6,6,6,6,6,6,6,6,6,6,6]:List UInt8)++([7,7,7,7,7,7,7,7,7,7,7,7,7,7,7,7,7,7,7,7,7,7,7,7,7,7,7,7,7,7,7,7,7,7,7,7,7,7,7,7,7,7,7,7,7,7,7,7,7,7,7,7,7,7,7,7,7,7,7,7,7,7,7,7]:List UInt8))++(([8,8,8,8,8,8,8,8,8,8,8,8,8,8,8,8,8,8,8,8,8,8,8,8,8,8,8,8,8,8,8,8,8,8,8,8,8,8,8,8,8,8,8,8,8,8,8,8,8,8,8,8,8,8,8,8,8,8,8,8,8,8,8,8]:List UInt8)++([8,8,8,8,8,8,8,8,8,8,8,8,8,8,8,8,8,8,8,8,8,8,8,8,8,8,8,8,8,8,8,8,8,8,8,8,8,8,8,8,8,8,8,8,8,8,8,8,8,8,8,8,8,8,8,8,8,8,8,8,8,8,8,8]:List UInt8))).getD (sh (bB .u8 w2.1)) 0).toNat:Int))))
 else none
theorem QY (fuel:Nat)(x:Int):Le (CV fuel x) (p7 x):=by unfold CV p7;repeat' (first|with_reducible exact Le.rfl' _|refine Le.bd ?_ λ_=> ?_|refine Le.ite ?_ ?_|refine Le.ix λ_=> ?_|refine Le.loop λ_=> ?_|refine Le.bF (λ_=> ?_) _|refine Le.bG (λ_ _=> ?_) _ _|refine Le.sum (λ_=> ?_) (λ_=> ?_)|exact Le.rfl' _|intro _)
def CW (fuel:Nat)(n:Int):Option Int:=bd ((CV fuel) n) λrA=>
 if !decide ((8:Int)=0) then
 some (bB .i64 (1+(bB .i64 (Int.tdiv (bB .i64 (rA+7)) 8))))
 else none
theorem QZ (fuel:Nat)(n:Int):Le (CW fuel n) (nO n):=by unfold CW nO;repeat' (first|with_reducible exact Le.rfl' _|with_reducible apply QY|refine Le.bd ?_ λ_=> ?_|refine Le.ite ?_ ?_|refine Le.ix λ_=> ?_|refine Le.loop λ_=> ?_|refine Le.bF (λ_=> ?_) _|refine Le.bG (λ_ _=> ?_) _ _|refine Le.sum (λ_=> ?_) (λ_=> ?_)|exact Le.rfl' _|intro _)
def rG (fuel:Nat)(sA:List Int):Option (List Int):=if (sA.length:Int)=(sA.length:Int)/\(sA.length:Int)=(sA.length:Int) then
 some sA
 else none
theorem F5 (fuel:Nat)(sA:List Int):Le (rG fuel sA) (iC sA):=by unfold rG iC;repeat' (first|with_reducible exact Le.rfl' _|refine Le.bd ?_ λ_=> ?_|refine Le.ite ?_ ?_|refine Le.ix λ_=> ?_|refine Le.loop λ_=> ?_|refine Le.bF (λ_=> ?_) _|refine Le.bG (λ_ _=> ?_) _ _|refine Le.sum (λ_=> ?_) (λ_=> ?_)|exact Le.rfl' _|intro _)
def AX (fuel:Nat)(n:Int)(st:(List Int)×Int):Option (((List Int)×Int)⊕(List Int)):=if (0:Int)<=st.2 then
 if (0:Int)<=(bB .i64 (8 *st.2)) then
 if (st.1.length+([bB .u8 (By n (2^min (sh (bB .i64 (8 *st.2))) (AI .u64)))]:List Int).length) *1<=2^46 then
 some (.inl (st.1++([bB .u8 (By n (2^min (sh (bB .i64 (8 *st.2))) (AI .u64)))]:List Int),bB .i64 (st.2-1)))
 else none
 else none
 else
 some (.inr st.1)
theorem O0 (fuel:Nat)(n:Int)(st:(List Int)×Int):Le (AX fuel n st) (lJ n st):=by unfold AX lJ;repeat' (first|with_reducible exact Le.rfl' _|refine Le.bd ?_ λ_=> ?_|refine Le.ite ?_ ?_|refine Le.ix λ_=> ?_|refine Le.loop λ_=> ?_|refine Le.bF (λ_=> ?_) _|refine Le.bG (λ_ _=> ?_) _ _|refine Le.sum (λ_=> ?_) (λ_=> ?_)|exact Le.rfl' _|intro _)
def xd (fuel:Nat)(b:List Int)(n:Int):Option (List Int):=bd ((CW fuel) n) λrA=>
 bd ((rG fuel) b) λaB=>
 if 0<([bB .u8 (bB .i64 (rA-1))]:List Int).length/\(aB.length+([bB .u8 (bB .i64 (rA-1))]:List Int).length) *1<=2^46 then
 bd (jW fuel ((AX fuel) n) (aB++([bB .u8 (bB .i64 (rA-1))]:List Int),bB .i64 ((bB .i64 (rA-1))-1))) λw=>
 some w
 else none
theorem CX (fuel:Nat)(b:List Int)(n:Int):Le (xd fuel b n) (mc b n):=by unfold xd mc;repeat' (first|with_reducible exact Le.rfl' _|with_reducible apply QZ|with_reducible apply F5|with_reducible apply O0|refine Le.bd ?_ λ_=> ?_|refine Le.ite ?_ ?_|refine Le.ix λ_=> ?_|refine Le.loop λ_=> ?_|refine Le.bF (λ_=> ?_) _|refine Le.bG (λ_ _=> ?_) _ _|refine Le.sum (λ_=> ?_) (λ_=> ?_)|exact Le.rfl' _|intro _)
def yB (fuel:Nat)(b:List Int)(sA:List UInt8):Option (List Int):=bd ((xd fuel) b (bB .u64 (sA.length:Int))) λrA=>
 if (rA.length+(uu sA).length) *1<=2^46 then
 some (rA++(uu sA))
 else none
theorem Q0 (fuel:Nat)(b:List Int)(sA:List UInt8):Le (yB fuel b sA) (lK b sA):=by unfold yB lK;repeat' (first|with_reducible exact Le.rfl' _|with_reducible apply CX|refine Le.bd ?_ λ_=> ?_|refine Le.ite ?_ ?_|refine Le.ix λ_=> ?_|refine Le.loop λ_=> ?_|refine Le.bF (λ_=> ?_) _|refine Le.bG (λ_ _=> ?_) _ _|refine Le.sum (λ_=> ?_) (λ_=> ?_)|exact Le.rfl' _|intro _)
def F6 (fuel:Nat)(b:List Int)(n:Int):Option (List Int):=if (0:Int)<=1 then
 if (0:Int)<=63 then
 bd ((xd fuel) b (Cf .u64 (bB .u64 ((bB .u64 n) *2^min (sh 1) (AI .u64))) (bB .u64 (By n (2^min (sh 63) (AI .i64)))))) λrA=>
 some rA
 else none
 else none
theorem Th (fuel:Nat)(b:List Int)(n:Int):Le (F6 fuel b n) (p8 b n):=by unfold F6 p8;repeat' (first|with_reducible exact Le.rfl' _|with_reducible apply CX|refine Le.bd ?_ λ_=> ?_|refine Le.ite ?_ ?_|refine Le.ix λ_=> ?_|refine Le.loop λ_=> ?_|refine Le.bF (λ_=> ?_) _|refine Le.bG (λ_ _=> ?_) _ _|refine Le.sum (λ_=> ?_) (λ_=> ?_)|exact Le.rfl' _|intro _)
def yC (fuel:Nat)(lA:List Int)(st:(List Int)×Int):Option (((List Int)×Int)⊕(List Int)):=if st.2<(lA.length:Int) then
 ix lA st.2 λy=>
 bd ((F6 fuel) st.1 y) λrA=>
 some (.inl (rA,bB .i64 (st.2+1)))
 else
 some (.inr st.1)
theorem LZ (fuel:Nat)(lA:List Int)(st:(List Int)×Int):Le (yC fuel lA st) (mf lA st):=by unfold yC mf;repeat' (first|with_reducible exact Le.rfl' _|with_reducible apply Th|refine Le.bd ?_ λ_=> ?_|refine Le.ite ?_ ?_|refine Le.ix λ_=> ?_|refine Le.loop λ_=> ?_|refine Le.bF (λ_=> ?_) _|refine Le.bG (λ_ _=> ?_) _ _|refine Le.sum (λ_=> ?_) (λ_=> ?_)|exact Le.rfl' _|intro _)
def CY (fuel:Nat)(b:List Int)(lA:List Int):Option (List Int):=bd (jW fuel ((yC fuel) lA) (b,0)) λw=>some w
theorem Q1 (fuel:Nat)(b:List Int)(lA:List Int):Le (CY fuel b lA) (nP b lA):=by unfold CY nP;repeat' (first|with_reducible exact Le.rfl' _|with_reducible apply LZ|refine Le.bd ?_ λ_=> ?_|refine Le.ite ?_ ?_|refine Le.ix λ_=> ?_|refine Le.loop λ_=> ?_|refine Le.bF (λ_=> ?_) _|refine Le.bG (λ_ _=> ?_) _ _|refine Le.sum (λ_=> ?_) (λ_=> ?_)|exact Le.rfl' _|intro _)
def F7 (fuel:Nat)(b:List Int)(o:ab):Option (List Int):=bd ((CY fuel) b ([o.Client,o.Seq,o.Kind,o.Version,o.Session,o.Span]:List Int)) λrA=>
 bd ((yB fuel) rA o.Path) λaB=>
 bd ((yB fuel) aB o.Value) λbK=>
 some bK
theorem Ti (fuel:Nat)(b:List Int)(o:ab):Le (F7 fuel b o) (p9 b o):=by unfold F7 p9;repeat' (first|with_reducible exact Le.rfl' _|with_reducible apply Q0|with_reducible apply Q1|refine Le.bd ?_ λ_=> ?_|refine Le.ite ?_ ?_|refine Le.ix λ_=> ?_|refine Le.loop λ_=> ?_|refine Le.bF (λ_=> ?_) _|refine Le.bG (λ_ _=> ?_) _ _|refine Le.sum (λ_=> ?_) (λ_=> ?_)|exact Le.rfl' _|intro _)
def uc (fuel:Nat)(lA:List ab)(st:(List Int)×Int):Option (((List Int)×Int)⊕((List Int)⊕((List UInt8)×Int))):=if st.2<(lA.length:Int) then
 ix lA st.2 λy=>
 bd ((xc fuel) y) λaB=>
 if !aB then
 some (.inr (.inr (([]:List UInt8),1)))
 else
 bd ((F7 fuel) st.1 y) λbK=>
 some (.inl (bK,bB .i64 (st.2+1)))
 else
 some (.inr (.inl st.1))
theorem Hx (fuel:Nat)(lA:List ab)(st:(List Int)×Int):Le (uc fuel lA st) (fm lA st):=by unfold uc fm;repeat' (first|with_reducible exact Le.rfl' _|with_reducible apply CU|with_reducible apply Ti|refine Le.bd ?_ λ_=> ?_|refine Le.ite ?_ ?_|refine Le.ix λ_=> ?_|refine Le.loop λ_=> ?_|refine Le.bF (λ_=> ?_) _|refine Le.bG (λ_ _=> ?_) _ _|refine Le.sum (λ_=> ?_) (λ_=> ?_)|exact Le.rfl' _|intro _)
def yD (fuel:Nat)(lA:List ab):Option ((List UInt8)×Int):=if (10:Int)<(lA.length:Int) then
 some (([]:List UInt8),5)
 else
 bd ((xd fuel) ([]:List Int) (bB .u64 (lA.length:Int))) λrA=>
 bd (jW fuel ((uc fuel) lA) (rA,0)) λw=>
 match w with
 | .inl p1=>
  Jz p1 λbs=>
  some (bs,0)
 | .inr p2=>some (p2.1,p2.2)
theorem L0 (fuel:Nat)(lA:List ab):Le (yD fuel lA) (dP lA):=by unfold yD dP;repeat' (first|with_reducible exact Le.rfl' _|with_reducible apply CX|with_reducible apply Hx|refine Le.bd ?_ λ_=> ?_|refine Le.ite ?_ ?_|refine Le.ix λ_=> ?_|refine Le.loop λ_=> ?_|refine Le.bF (λ_=> ?_) _|refine Le.bG (λ_ _=> ?_) _ _|refine Le.sum (λ_=> ?_) (λ_=> ?_)|exact Le.rfl' _|intro _)
def yE (fuel:Nat)(b:List Int)(y:Int)(st:Int×Int):Option ((Int×Int)⊕Int):=if st.2<((AS (sh 0) (AT (sh (bB .i64 y)) (AS (sh 1) (AT (sh (b.length:Int)) b)))).length:Int) then
 ix (AS (sh 0) (AT (sh (bB .i64 y)) (AS (sh 1) (AT (sh (b.length:Int)) b)))) st.2 λy2=>
 if (0:Int)<=8 then
 some (.inl (bOr .u64 (bB .u64 (st.1 *2^min (sh 8) (AI .u64))) (bB .u64 y2),bB .i64 (st.2+1)))
 else none
 else
 some (.inr st.1)
theorem L2 (fuel:Nat)(b:List Int)(y:Int)(st:Int×Int):Le (yE fuel b y st) (ka b y st):=by unfold yE ka;repeat' (first|with_reducible exact Le.rfl' _|refine Le.bd ?_ λ_=> ?_|refine Le.ite ?_ ?_|refine Le.ix λ_=> ?_|refine Le.loop λ_=> ?_|refine Le.bF (λ_=> ?_) _|refine Le.bG (λ_ _=> ?_) _ _|refine Le.sum (λ_=> ?_) (λ_=> ?_)|exact Le.rfl' _|intro _)
def ud (fuel:Nat)(b:List Int):Option (Int×(List Int)×Int):=if (b.length:Int)=0 then
 some (0,([]:List Int),2)
 else
 ix b 0 λy=>
 if (0:Int)<=1/\(1:Int)<=(b.length:Int)/\(b.length:Int)<=(b.length:Int) then
 bd (if (8:Int)<(bB .i64 y) then
  some true
  else
  if (0:Int)<(bB .i64 y) then
  if (0:Int)<((AS (sh 1) (AT (sh (b.length:Int)) b)).length:Int) then
  ix (AS (sh 1) (AT (sh (b.length:Int)) b)) 0 λy1=>
  some (decide (y1=0))
  else
  some false
  else
  some false:Option Bool) λw=>
 if w then
 some (0,([]:List Int),3)
 else
 if ((AS (sh 1) (AT (sh (b.length:Int)) b)).length:Int)<(bB .i64 y) then
 some (0,([]:List Int),2)
 else
 if (0:Int)<=0/\(0:Int)<=(bB .i64 y)/\(bB .i64 y)<=((AS (sh 1) (AT (sh (b.length:Int)) b)).length:Int) then
 bd (jW fuel ((yE fuel) b y) (0,0)) λw1=>
 if (0:Int)<=(bB .i64 y)/\(bB .i64 y)<=((AS (sh 1) (AT (sh (b.length:Int)) b)).length:Int)/\((AS (sh 1) (AT (sh (b.length:Int)) b)).length:Int)<=((AS (sh 1) (AT (sh (b.length:Int)) b)).length:Int) then
 some (w1,AS (sh (bB .i64 y)) (AT (sh ((AS (sh 1) (AT (sh (b.length:Int)) b)).length:Int)) (AS (sh 1) (AT (sh (b.length:Int)) b))),0)
 else none
 else none
 else none
theorem AY (fuel:Nat)(b:List Int):Le (ud fuel b) (kb b):=by unfold ud kb;repeat' (first|with_reducible exact Le.rfl' _|with_reducible apply L2|refine Le.bd ?_ λ_=> ?_|refine Le.ite ?_ ?_|refine Le.ix λ_=> ?_|refine Le.loop λ_=> ?_|refine Le.bF (λ_=> ?_) _|refine Le.bG (λ_ _=> ?_) _ _|refine Le.sum (λ_=> ?_) (λ_=> ?_)|exact Le.rfl' _|intro _)
def v8 (fuel:Nat)(b:List Int):Option (Int×(List Int)×Int):=bd ((ud fuel) b) λrA=>
 if (0:Int)<=1 then
 some (Cf .i64 (bB .i64 (By rA.1 (2^min (sh 1) (AI .u64)))) (bB .i64 (0-(bB .i64 (H0 .u64 rA.1 1)))),rA.2.1,rA.2.2)
 else none
theorem KL (fuel:Nat)(b:List Int):Le (v8 fuel b) (gy b):=by unfold v8 gy;repeat' (first|with_reducible exact Le.rfl' _|with_reducible apply AY|refine Le.bd ?_ λ_=> ?_|refine Le.ite ?_ ?_|refine Le.ix λ_=> ?_|refine Le.loop λ_=> ?_|refine Le.bF (λ_=> ?_) _|refine Le.bG (λ_ _=> ?_) _ _|refine Le.sum (λ_=> ?_) (λ_=> ?_)|exact Le.rfl' _|intro _)
def ue (fuel:Nat)(b:List Int)(most:Int):Option ((List UInt8)×(List Int)×Int):=bd ((ud fuel) b) λrA=>
 if !decide (rA.2.2=0) then
 some (([]:List UInt8),([]:List Int),rA.2.2)
 else
 if (bB .u64 (imax most 0))<rA.1 then
 some (([]:List UInt8),([]:List Int),5)
 else
 if (bB .u64 (rA.2.1.length:Int))<rA.1 then
 some (([]:List UInt8),([]:List Int),2)
 else
 if (0:Int)<=0/\(0:Int)<=rA.1/\rA.1<=(rA.2.1.length:Int) then
 Jz (AS (sh 0) (AT (sh rA.1) rA.2.1)) λbs=>
 if (0:Int)<=rA.1/\rA.1<=(rA.2.1.length:Int)/\(rA.2.1.length:Int)<=(rA.2.1.length:Int) then
 some (bs,AS (sh rA.1) (AT (sh (rA.2.1.length:Int)) rA.2.1),0)
 else none
 else none
theorem Hy (fuel:Nat)(b:List Int)(most:Int):Le (ue fuel b most) (fp b most):=by unfold ue fp;repeat' (first|with_reducible exact Le.rfl' _|with_reducible apply AY|refine Le.bd ?_ λ_=> ?_|refine Le.ite ?_ ?_|refine Le.ix λ_=> ?_|refine Le.loop λ_=> ?_|refine Le.bF (λ_=> ?_) _|refine Le.bG (λ_ _=> ?_) _ _|refine Le.sum (λ_=> ?_) (λ_=> ?_)|exact Le.rfl' _|intro _)
def GV (fuel:Nat)(b:List Int)(e x:Int):Option (Int×List Int×Int):=if e=0 then (v8 fuel) b else some (x,b,e)
theorem agb (fuel:Nat)(b:List Int)(e x:Int):Le (GV fuel b e x) (nh b e x):=by unfold GV nh;exact Le.ite (KL _ _) (Le.rfl' _)
def US (fuel:Nat)(b:List Int)(e most:Int):Option (List UInt8×List Int×Int):=if e=0 then (ue fuel) b most else some ([],b,e)
theorem agc (fuel:Nat)(b:List Int)(e most:Int):Le (US fuel b e most) (qX b e most):=by unfold US qX;exact Le.ite (Hy _ _ _) (Le.rfl' _)
def CZ (fuel:Nat)(b:List Int):Option (ab×List Int×Int):=bd (GV fuel b 0 0) λr0=>
 bd (GV fuel r0.2.1 r0.2.2 0) λr1=>
 bd (GV fuel r1.2.1 r1.2.2 0) λr2=>
 bd (GV fuel r2.2.1 r2.2.2 0) λr3=>
 bd (GV fuel r3.2.1 r3.2.2 0) λr4=>
 bd (GV fuel r4.2.1 r4.2.2 0) λr5=>
 bd (US fuel r5.2.1 r5.2.2 100) λs0=>
 bd (US fuel s0.2.1 s0.2.2 1000) λs1=>
 if s1.2.2=0 then
 bd ((xc fuel) (⟨r0.1,r1.1,r2.1,s0.1,s1.1,r3.1,r4.1,r5.1⟩:ab)) λm=>
 if m then some ((⟨r0.1,r1.1,r2.1,s0.1,s1.1,r3.1,r4.1,r5.1⟩:ab),s1.2.1,0)
 else some ((⟨0,0,0,[],[],0,0,0⟩:ab),[],3)
 else some ((⟨0,0,0,[],[],0,0,0⟩:ab),[],s1.2.2)
theorem Q2 (fuel:Nat)(b:List Int):Le (CZ fuel b) (nQ b):=by unfold CZ nQ;repeat' (first|with_reducible apply agb|with_reducible apply agc|with_reducible apply CU|refine Le.bd ?_ λ_=> ?_|refine Le.ite ?_ ?_|exact Le.rfl' _)
def uf (fuel:Nat)(rA:Int×(List Int)×Int)(st:(List Int)×(List ab)×Int):Option (((List Int)×(List ab)×Int)⊕(((List Int)×(List ab))⊕((List ab)×Int))):=if st.2.2<((BY (sh rA.1) (⟨0,0,0,([]:List UInt8),([]:List UInt8),0,0,0⟩:ab)).length:Int) then
 bd ((CZ fuel) st.1) λaB=>
 ix st.2.1 st.2.2 λy=>
 if !decide (aB.2.2=0) then
 some (.inr (.inr (([]:List ab),3)))
 else
 some (.inl (aB.2.1,st.2.1.set (sh st.2.2) aB.1,bB .i64 (st.2.2+1)))
 else
 some (.inr (.inl (st.1,st.2.1)))
theorem Hz (fuel:Nat)(rA:Int×(List Int)×Int)(st:(List Int)×(List ab)×Int):Le (uf fuel rA st) (fq rA st):=by unfold uf fq;repeat' (first|with_reducible exact Le.rfl' _|with_reducible apply Q2|refine Le.bd ?_ λ_=> ?_|refine Le.ite ?_ ?_|refine Le.ix λ_=> ?_|refine Le.loop λ_=> ?_|refine Le.bF (λ_=> ?_) _|refine Le.bG (λ_ _=> ?_) _ _|refine Le.sum (λ_=> ?_) (λ_=> ?_)|exact Le.rfl' _|intro _)
def sD (fuel:Nat)(sA:List UInt8):Option ((List ab)×Int):=bd ((ud fuel) (uu sA)) λrA=>
 bd (if !decide (rA.2.2=0) then
  some true
  else
  some (decide ((10:Int)<rA.1)):Option Bool) λw=>
 if w then
 some (([]:List ab),3)
 else
 if (0:Int)<=rA.1/\rA.1=rA.1/\rA.1 *80<=2^46 then
 bd (jW fuel ((uf fuel) rA) (rA.2.1,BY (sh rA.1) (⟨0,0,0,([]:List UInt8),([]:List UInt8),0,0,0⟩:ab),0)) λw1=>
 match w1 with
 | .inl p1=>
  if (0:Int)<(p1.1.length:Int) then
  some (([]:List ab),3)
  else
  some (p1.2,0)
 | .inr p2=>some (p2.1,p2.2)
 else none
theorem Ce (fuel:Nat)(sA:List UInt8):Le (sD fuel sA) (cW sA):=by unfold sD cW;repeat' (first|with_reducible exact Le.rfl' _|with_reducible apply AY|with_reducible apply Hz|refine Le.bd ?_ λ_=> ?_|refine Le.ite ?_ ?_|refine Le.ix λ_=> ?_|refine Le.loop λ_=> ?_|refine Le.bF (λ_=> ?_) _|refine Le.bG (λ_ _=> ?_) _ _|refine Le.sum (λ_=> ?_) (λ_=> ?_)|exact Le.rfl' _|intro _)
def sE (fuel:Nat)(x:Int):Option Bool:=some (!decide (x=x))
theorem L3 (fuel:Nat)(x:Int):Le (sE fuel x) (mg x):=by unfold sE mg;repeat' (first|with_reducible exact Le.rfl' _|refine Le.bd ?_ λ_=> ?_|refine Le.ite ?_ ?_|refine Le.ix λ_=> ?_|refine Le.loop λ_=> ?_|refine Le.bF (λ_=> ?_) _|refine Le.bG (λ_ _=> ?_) _ _|refine Le.sum (λ_=> ?_) (λ_=> ?_)|exact Le.rfl' _|intro _)
def pn (fuel:Nat)(x:Int)(y:Int):Option Int:=bd ((sE fuel) x) λrA=>
 bd ((sE fuel) y) λaB=>
 if rA then
 if aB then
 some 0
 else
 some (-1)
 else
 if aB then
 some 1
 else
 if x<y then
 some (-1)
 else
 if y<x then
 some 1
 else
 some 0
theorem zk (fuel:Nat)(x:Int)(y:Int):Le (pn fuel x y) (jI x y):=by unfold pn jI;repeat' (first|with_reducible exact Le.rfl' _|with_reducible apply L3|refine Le.bd ?_ λ_=> ?_|refine Le.ite ?_ ?_|refine Le.ix λ_=> ?_|refine Le.loop λ_=> ?_|refine Le.bF (λ_=> ?_) _|refine Le.bG (λ_ _=> ?_) _ _|refine Le.sum (λ_=> ?_) (λ_=> ?_)|exact Le.rfl' _|intro _)
def nY (fuel:Nat)(x:ae)(c9:Int):Option Int:=bd ((pn fuel) x.Client c9) λrA=>some rA
theorem BU (fuel:Nat)(x:ae)(c9:Int):Le (nY fuel x c9) (eU x c9):=by unfold nY eU;repeat' (first|with_reducible exact Le.rfl' _|with_reducible apply zk|refine Le.bd ?_ λ_=> ?_|refine Le.ite ?_ ?_|refine Le.ix λ_=> ?_|refine Le.loop λ_=> ?_|refine Le.bF (λ_=> ?_) _|refine Le.bG (λ_ _=> ?_) _ _|refine Le.sum (λ_=> ?_) (λ_=> ?_)|exact Le.rfl' _|intro _)
def du (fuel:Nat)(x:List ae)(target:Int)(cmp:ae->Int->Option Int)(st:Int×Int):Option ((Int×Int)⊕Int):=if st.1<st.2 then
 if (0:Int)<=1 then
 ix x (bB .i64 (By (bB .u64 (bB .i64 (st.1+st.2))) (2^min (sh 1) (AI .u64)))) λy=>
 bd (cmp y target) λrA=>
 bd (if rA<0 then
  some (bB .i64 ((bB .i64 (By (bB .u64 (bB .i64 (st.1+st.2))) (2^min (sh 1) (AI .u64))))+1),st.2)
  else
  some (st.1,bB .i64 (By (bB .u64 (bB .i64 (st.1+st.2))) (2^min (sh 1) (AI .u64)))):Option (Int×Int)) λw1=>
 some (.inl (w1.1,w1.2))
 else none
 else
 some (.inr st.1)
theorem lq (fuel:Nat)(x:List ae)(target:Int)(cmp AZ:ae->Int->Option Int)(po: ∀u0 u1,Le (cmp u0 u1) (AZ u0 u1))(st:Int×Int):Le (du fuel x target cmp st) (cA x target AZ st):=by unfold du cA;repeat' (first|with_reducible exact Le.rfl' _|exact po _ _ _|exact po _ _|exact po _|exact po|refine Le.bd ?_ λ_=> ?_|refine Le.ite ?_ ?_|refine Le.ix λ_=> ?_|refine Le.loop λ_=> ?_|refine Le.bF (λ_=> ?_) _|refine Le.bG (λ_ _=> ?_) _ _|refine Le.sum (λ_=> ?_) (λ_=> ?_)|exact Le.rfl' _|intro _)
def dI (fuel:Nat)(x:List ae)(target:Int)(cmp:ae->Int->Option Int):Option (Int×Bool):=bd (jW fuel ((du fuel) x target cmp) (0,(x.length:Int))) λw=>
 bd (if w<(x.length:Int) then
  ix x w λy1=>
  bd (cmp y1 target) λaB=>
  some (w,decide (aB=0))
  else
  some (w,false):Option (Int×Bool)) λw2=>
 some (w2.1,w2.2)
theorem mz (fuel:Nat)(x:List ae)(target:Int)(cmp AZ:ae->Int->Option Int)(po: ∀u0 u1,Le (cmp u0 u1) (AZ u0 u1)):Le (dI fuel x target cmp) (bV x target AZ):=by unfold dI bV;repeat' (first|with_reducible exact Le.rfl' _|with_reducible apply lq|exact po _ _ _|exact po _ _|exact po _|exact po|refine Le.bd ?_ λ_=> ?_|refine Le.ite ?_ ?_|refine Le.ix λ_=> ?_|refine Le.loop λ_=> ?_|refine Le.bF (λ_=> ?_) _|refine Le.bG (λ_ _=> ?_) _ _|refine Le.sum (λ_=> ?_) (λ_=> ?_)|exact Le.rfl' _|intro _)
def mA (fuel:Nat)(rA:ax)(c9:Int):Option (Int×Bool):=bd ((dI fuel) rA.Seen c9 (nY fuel)) λaB=>some (aB.1,aB.2)
theorem vt (fuel:Nat)(rA:ax)(c9:Int):Le (mA fuel rA c9) (gD rA c9):=by unfold mA gD;repeat' (first|with_reducible exact Le.rfl' _|with_reducible apply BU|with_reducible apply mz|refine Le.bd ?_ λ_=> ?_|refine Le.ite ?_ ?_|refine Le.ix λ_=> ?_|refine Le.loop λ_=> ?_|refine Le.bF (λ_=> ?_) _|refine Le.bG (λ_ _=> ?_) _ _|refine Le.sum (λ_=> ?_) (λ_=> ?_)|exact Le.rfl' _|intro _)
def C0 (fuel:Nat)(rA:ax)(c9:Int):Option (ae×Bool):=bd ((mA fuel) rA c9) λaB=>
 if !aB.2 then
 some ((⟨0,0,0,([]:List UInt8),0,([]:List (List UInt8))⟩:ae),false)
 else
 ix rA.Seen aB.1 λy=>
 some (y,true)
theorem Q3 (fuel:Nat)(rA:ax)(c9:Int):Le (C0 fuel rA c9) (tc rA c9):=by unfold C0 tc;repeat' (first|with_reducible exact Le.rfl' _|with_reducible apply vt|refine Le.bd ?_ λ_=> ?_|refine Le.ite ?_ ?_|refine Le.ix λ_=> ?_|refine Le.loop λ_=> ?_|refine Le.bF (λ_=> ?_) _|refine Le.bG (λ_ _=> ?_) _ _|refine Le.sum (λ_=> ?_) (λ_=> ?_)|exact Le.rfl' _|intro _)
def qm (fuel:Nat)(rA:ax)(o:ab):Option (ae×Bool):=bd ((C0 fuel) rA o.Client) λaB=>
 bd ((xc fuel) o) λbK=>
 bd (if !bK then
  some (.inl (0,0,0,([]:List UInt8),0,([]:List (List UInt8)),o.Client,o.Seq,1,([]:List UInt8),0,([]:List (List UInt8))))
  else
  bd (if aB.2 then
   some (decide (aB.1.Seq=o.Seq))
   else
   some false:Option Bool) λw1=>
  if w1 then
  some (.inr (aB.1.Client,aB.1.Seq,aB.1.E,aB.1.Value,aB.1.Version,aB.1.Names,true))
  else
  bd (if aB.2 then
   some (decide (o.Seq<aB.1.Seq))
   else
   some false:Option Bool) λw2=>
  bd (if w2 then
   some (.inl (0,0,0,([]:List UInt8),0,([]:List (List UInt8)),o.Client,o.Seq,15,([]:List UInt8),0,([]:List (List UInt8))))
   else
   bd (if !aB.2 then
    some (decide ((50:Int)<=(rA.Seen.length:Int)))
    else
    some false:Option Bool) λw4=>
   if w4 then
   some (.inl (0,0,0,([]:List UInt8),0,([]:List (List UInt8)),o.Client,o.Seq,9,([]:List UInt8),0,([]:List (List UInt8))))
   else
   some (.inr (o.Client,o.Seq,0,([]:List UInt8),0,([]:List (List UInt8)),false)):Option ((Int×Int×Int×(List UInt8)×Int×(List (List UInt8))×Int×Int×Int×(List UInt8)×Int×(List (List UInt8)))⊕(Int×Int×Int×(List UInt8)×Int×(List (List UInt8))×Bool))) λw3=>
  match w3 with
  | .inl p2=>some (.inl (p2.1,p2.2.1,p2.2.2.1,p2.2.2.2.1,p2.2.2.2.2.1,p2.2.2.2.2.2.1,p2.2.2.2.2.2.2.1,p2.2.2.2.2.2.2.2.1,p2.2.2.2.2.2.2.2.2.1,p2.2.2.2.2.2.2.2.2.2.1,p2.2.2.2.2.2.2.2.2.2.2.1,p2.2.2.2.2.2.2.2.2.2.2.2))
  | .inr p3=>some (.inr (p3.1,p3.2.1,p3.2.2.1,p3.2.2.2.1,p3.2.2.2.2.1,p3.2.2.2.2.2.1,p3.2.2.2.2.2.2)):Option ((Int×Int×Int×(List UInt8)×Int×(List (List UInt8))×Int×Int×Int×(List UInt8)×Int×(List (List UInt8)))⊕(Int×Int×Int×(List UInt8)×Int×(List (List UInt8))×Bool))) λw=>
 match w with
 | .inl p4=>some ((⟨p4.2.2.2.2.2.2.1,p4.2.2.2.2.2.2.2.1,p4.2.2.2.2.2.2.2.2.1,p4.2.2.2.2.2.2.2.2.2.1,p4.2.2.2.2.2.2.2.2.2.2.1,p4.2.2.2.2.2.2.2.2.2.2.2⟩:ae),true)
 | .inr p5=>some ((⟨p5.1,p5.2.1,p5.2.2.1,p5.2.2.2.1,p5.2.2.2.2.1,p5.2.2.2.2.2.1⟩:ae),p5.2.2.2.2.2.2)
theorem EK (fuel:Nat)(rA:ax)(o:ab):Le (qm fuel rA o) (jJ rA o):=by unfold qm jJ;repeat' (first|with_reducible exact Le.rfl' _|with_reducible apply CU|with_reducible apply Q3|refine Le.bd ?_ λ_=> ?_|refine Le.ite ?_ ?_|refine Le.ix λ_=> ?_|refine Le.loop λ_=> ?_|refine Le.bF (λ_=> ?_) _|refine Le.bG (λ_ _=> ?_) _ _|refine Le.sum (λ_=> ?_) (λ_=> ?_)|exact Le.rfl' _|intro _)
def nZ (fuel:Nat)(w:ah):Option (Unit×ah):=some ((),w)
theorem BV (fuel:Nat)(w:ah):Le (nZ fuel w) (gO w):=by unfold nZ gO;repeat' (first|with_reducible exact Le.rfl' _|refine Le.bd ?_ λ_=> ?_|refine Le.ite ?_ ?_|refine Le.ix λ_=> ?_|refine Le.loop λ_=> ?_|refine Le.bF (λ_=> ?_) _|refine Le.bG (λ_ _=> ?_) _ _|refine Le.sum (λ_=> ?_) (λ_=> ?_)|exact Le.rfl' _|intro _)
def pq (fuel:Nat)(x:ak)(id:Int):Option Int:=bd ((pn fuel) x.Id id) λrA=>some rA
theorem C1 (fuel:Nat)(x:ak)(id:Int):Le (pq fuel x id) (fQ x id):=by unfold pq fQ;repeat' (first|with_reducible exact Le.rfl' _|with_reducible apply zk|refine Le.bd ?_ λ_=> ?_|refine Le.ite ?_ ?_|refine Le.ix λ_=> ?_|refine Le.loop λ_=> ?_|refine Le.bF (λ_=> ?_) _|refine Le.bG (λ_ _=> ?_) _ _|refine Le.sum (λ_=> ?_) (λ_=> ?_)|exact Le.rfl' _|intro _)
def dg (fuel:Nat)(x:List ak)(target:Int)(cmp:ak->Int->Option Int)(st:Int×Int):Option ((Int×Int)⊕Int):=if st.1<st.2 then
 if (0:Int)<=1 then
 ix x (bB .i64 (By (bB .u64 (bB .i64 (st.1+st.2))) (2^min (sh 1) (AI .u64)))) λy=>
 bd (cmp y target) λrA=>
 bd (if rA<0 then
  some (bB .i64 ((bB .i64 (By (bB .u64 (bB .i64 (st.1+st.2))) (2^min (sh 1) (AI .u64))))+1),st.2)
  else
  some (st.1,bB .i64 (By (bB .u64 (bB .i64 (st.1+st.2))) (2^min (sh 1) (AI .u64)))):Option (Int×Int)) λw1=>
 some (.inl (w1.1,w1.2))
 else none
 else
 some (.inr st.1)
theorem kK (fuel:Nat)(x:List ak)(target:Int)(cmp AZ:ak->Int->Option Int)(po: ∀u0 u1,Le (cmp u0 u1) (AZ u0 u1))(st:Int×Int):Le (dg fuel x target cmp st) (cb x target AZ st):=by unfold dg cb;repeat' (first|with_reducible exact Le.rfl' _|exact po _ _ _|exact po _ _|exact po _|exact po|refine Le.bd ?_ λ_=> ?_|refine Le.ite ?_ ?_|refine Le.ix λ_=> ?_|refine Le.loop λ_=> ?_|refine Le.bF (λ_=> ?_) _|refine Le.bG (λ_ _=> ?_) _ _|refine Le.sum (λ_=> ?_) (λ_=> ?_)|exact Le.rfl' _|intro _)
def dv (fuel:Nat)(x:List ak)(target:Int)(cmp:ak->Int->Option Int):Option (Int×Bool):=bd (jW fuel ((dg fuel) x target cmp) (0,(x.length:Int))) λw=>
 bd (if w<(x.length:Int) then
  ix x w λy1=>
  bd (cmp y1 target) λaB=>
  some (w,decide (aB=0))
  else
  some (w,false):Option (Int×Bool)) λw2=>
 some (w2.1,w2.2)
theorem lr (fuel:Nat)(x:List ak)(target:Int)(cmp AZ:ak->Int->Option Int)(po: ∀u0 u1,Le (cmp u0 u1) (AZ u0 u1)):Le (dv fuel x target cmp) (bP x target AZ):=by unfold dv bP;repeat' (first|with_reducible exact Le.rfl' _|with_reducible apply kK|exact po _ _ _|exact po _ _|exact po _|exact po|refine Le.bd ?_ λ_=> ?_|refine Le.ite ?_ ?_|refine Le.ix λ_=> ?_|refine Le.loop λ_=> ?_|refine Le.bF (λ_=> ?_) _|refine Le.bG (λ_ _=> ?_) _ _|refine Le.sum (λ_=> ?_) (λ_=> ?_)|exact Le.rfl' _|intro _)
def iH (fuel:Nat)(b:aC)(id:Int):Option (Int×Bool):=bd ((dv fuel) b.L id (pq fuel)) λrA=>some (rA.1,rA.2)
theorem mB (fuel:Nat)(b:aC)(id:Int):Le (iH fuel b id) (eK b id):=by unfold iH eK;repeat' (first|with_reducible exact Le.rfl' _|with_reducible apply C1|with_reducible apply lr|refine Le.bd ?_ λ_=> ?_|refine Le.ite ?_ ?_|refine Le.ix λ_=> ?_|refine Le.loop λ_=> ?_|refine Le.bF (λ_=> ?_) _|refine Le.bG (λ_ _=> ?_) _ _|refine Le.sum (λ_=> ?_) (λ_=> ?_)|exact Le.rfl' _|intro _)
def F8 (fuel:Nat)(b:aC)(id:Int):Option Bool:=bd ((iH fuel) b id) λrA=>some rA.2
theorem Tj (fuel:Nat)(b:aC)(id:Int):Le (F8 fuel b id) (wM b id):=by unfold F8 wM;repeat' (first|with_reducible exact Le.rfl' _|with_reducible apply mB|refine Le.bd ?_ λ_=> ?_|refine Le.ite ?_ ?_|refine Le.ix λ_=> ?_|refine Le.loop λ_=> ?_|refine Le.bF (λ_=> ?_) _|refine Le.bG (λ_ _=> ?_) _ _|refine Le.sum (λ_=> ?_) (λ_=> ?_)|exact Le.rfl' _|intro _)
def kV (fuel:Nat)(sA:List UInt8)(bx:List UInt8):Option Bool:=bd (if (bx.length:Int)<=(sA.length:Int) then
  if (0:Int)<=0/\(0:Int)<=(bx.length:Int)/\(bx.length:Int)<=(sA.length:Int) then
  some (decide ((AS (sh 0) (AT (sh (bx.length:Int)) sA))=bx))
  else none
  else
  some false:Option Bool) λw=>
 some w
theorem yF (fuel:Nat)(sA:List UInt8)(bx:List UInt8):Le (kV fuel sA bx) (eR sA bx):=by unfold kV eR;repeat' (first|with_reducible exact Le.rfl' _|refine Le.bd ?_ λ_=> ?_|refine Le.ite ?_ ?_|refine Le.ix λ_=> ?_|refine Le.loop λ_=> ?_|refine Le.bF (λ_=> ?_) _|refine Le.bG (λ_ _=> ?_) _ _|refine Le.sum (λ_=> ?_) (λ_=> ?_)|exact Le.rfl' _|intro _)
def kW (fuel:Nat)(sA:List UInt8)(bx:List UInt8):Option ((List UInt8)×Bool):=bd ((kV fuel) sA bx) λrA=>
 if !rA then
 some (sA,false)
 else
 if (0:Int)<=(bx.length:Int)/\(bx.length:Int)<=(sA.length:Int)/\(sA.length:Int)<=(sA.length:Int) then
 some (AS (sh (bx.length:Int)) (AT (sh (sA.length:Int)) sA),true)
 else none
theorem yG (fuel:Nat)(sA:List UInt8)(bx:List UInt8):Le (kW fuel sA bx) (eS sA bx):=by unfold kW eS;repeat' (first|with_reducible exact Le.rfl' _|with_reducible apply yF|refine Le.bd ?_ λ_=> ?_|refine Le.ite ?_ ?_|refine Le.ix λ_=> ?_|refine Le.loop λ_=> ?_|refine Le.bF (λ_=> ?_) _|refine Le.bG (λ_ _=> ?_) _ _|refine Le.sum (λ_=> ?_) (λ_=> ?_)|exact Le.rfl' _|intro _)
def pu (fuel:Nat)(sA:List UInt8)(bx:List UInt8):Option ((List UInt8)×Bool):=bd ((kW fuel) sA bx) λrA=>some (rA.1,rA.2)
theorem C2 (fuel:Nat)(sA:List UInt8)(bx:List UInt8):Le (pu fuel sA bx) (iQ sA bx):=by unfold pu iQ;repeat' (first|with_reducible exact Le.rfl' _|with_reducible apply yG|refine Le.bd ?_ λ_=> ?_|refine Le.ite ?_ ?_|refine Le.ix λ_=> ?_|refine Le.loop λ_=> ?_|refine Le.bF (λ_=> ?_) _|refine Le.bG (λ_ _=> ?_) _ _|refine Le.sum (λ_=> ?_) (λ_=> ?_)|exact Le.rfl' _|intro _)
def wa (fuel:Nat)(c:Int):Option Bool:=bd (Ed ([97,98,99,100,101,102,103,104,105,106,107,108,109,110,111,112,113,114,115,116,117,118,119,120,121,122,48,49,50,51,52,53,54,55,56,57,45,95]:List UInt8) c) λrA=>some (!rA)
theorem KM (fuel:Nat)(c:Int):Le (wa fuel c) (kN c):=by unfold wa kN;repeat' (first|with_reducible exact Le.rfl' _|refine Le.bd ?_ λ_=> ?_|refine Le.ite ?_ ?_|refine Le.ix λ_=> ?_|refine Le.loop λ_=> ?_|refine Le.bF (λ_=> ?_) _|refine Le.bG (λ_ _=> ?_) _ _|refine Le.sum (λ_=> ?_) (λ_=> ?_)|exact Le.rfl' _|intro _)
def pv (fuel:Nat)(f:Int->Option Bool)(pM:Bool)(st:(List MV)):Option ((List MV)⊕(Unit⊕Int)):=if RC st then
 bd (f (Ch st)) λrA=>
 if rA=pM then
 some (.inr (.inr (wj st)))
 else
 some (.inl (EY st))
 else
 some (.inr (.inl ()))
theorem C3 (fuel:Nat)(f fA:Int->Option Bool)(hf: ∀u0,Le (f u0) (fA u0))(pM:Bool)(st:(List MV)):Le (pv fuel f pM st) (kZ fA pM st):=by unfold pv kZ;repeat' (first|with_reducible exact Le.rfl' _|exact hf _ _ _|exact hf _ _|exact hf _|exact hf|refine Le.bd ?_ λ_=> ?_|refine Le.ite ?_ ?_|refine Le.ix λ_=> ?_|refine Le.loop λ_=> ?_|refine Le.bF (λ_=> ?_) _|refine Le.bG (λ_ _=> ?_) _ _|refine Le.sum (λ_=> ?_) (λ_=> ?_)|exact Le.rfl' _|intro _)
def rH (fuel:Nat)(sA:List UInt8)(f:Int->Option Bool)(pM:Bool):Option Int:=bd (jW fuel ((pv fuel) f pM) ([.s sA,.i .i64 0]:List MV)) λw=>
 match w with
 | .inl p1=>some (-1)
 | .inr p2=>some p2
theorem F9 (fuel:Nat)(sA:List UInt8)(f fA:Int->Option Bool)(hf: ∀u0,Le (f u0) (fA u0))(pM:Bool):Le (rH fuel sA f pM) (kD sA fA pM):=by unfold rH kD;repeat' (first|with_reducible exact Le.rfl' _|with_reducible apply C3|exact hf _ _ _|exact hf _ _|exact hf _|exact hf|refine Le.bd ?_ λ_=> ?_|refine Le.ite ?_ ?_|refine Le.ix λ_=> ?_|refine Le.loop λ_=> ?_|refine Le.bF (λ_=> ?_) _|refine Le.bG (λ_ _=> ?_) _ _|refine Le.sum (λ_=> ?_) (λ_=> ?_)|exact Le.rfl' _|intro _)
def pw (fuel:Nat)(sA:List UInt8)(f:Int->Option Bool):Option Int:=bd ((rH fuel) sA f true) λrA=>some rA
theorem C4 (fuel:Nat)(sA:List UInt8)(f fA:Int->Option Bool)(hf: ∀u0,Le (f u0) (fA u0)):Le (pw fuel sA f) (iR sA fA):=by unfold pw iR;repeat' (first|with_reducible exact Le.rfl' _|with_reducible apply F9|exact hf _ _ _|exact hf _ _|exact hf _|exact hf|refine Le.bd ?_ λ_=> ?_|refine Le.ite ?_ ?_|refine Le.ix λ_=> ?_|refine Le.loop λ_=> ?_|refine Le.bF (λ_=> ?_) _|refine Le.bG (λ_ _=> ?_) _ _|refine Le.sum (λ_=> ?_) (λ_=> ?_)|exact Le.rfl' _|intro _)
def lU (fuel:Nat)(sA:List UInt8)(f:Int->Option Bool):Option Bool:=bd ((pw fuel) sA f) λrA=>some (decide ((0:Int)<=rA))
theorem zH (fuel:Nat)(sA:List UInt8)(f fA:Int->Option Bool)(hf: ∀u0,Le (f u0) (fA u0)):Le (lU fuel sA f) (ft sA fA):=by unfold lU ft;repeat' (first|with_reducible exact Le.rfl' _|with_reducible apply C4|exact hf _ _ _|exact hf _ _|exact hf _|exact hf|refine Le.bd ?_ λ_=> ?_|refine Le.ite ?_ ?_|refine Le.ix λ_=> ?_|refine Le.loop λ_=> ?_|refine Le.bF (λ_=> ?_) _|refine Le.bG (λ_ _=> ?_) _ _|refine Le.sum (λ_=> ?_) (λ_=> ?_)|exact Le.rfl' _|intro _)
def A0 (fuel:Nat)(sA:List UInt8):Option Bool:=bd (if !decide (sA=([]:List UInt8)) then
  if (sA.length:Int)<=30 then
  bd (UA sA ([97,98,99,100,101,102,103,104,105,106,107,108,109,110,111,112,113,114,115,116,117,118,119,120,121,122,48,49,50,51,52,53,54,55,56,57,45,95]:List UInt8)) λrA=>
  if rA=([]:List UInt8) then
  bd ((lU fuel) sA (wa fuel)) λaB=>
  some (!aB)
  else
  some false
  else
  some false
  else
  some false:Option Bool) λw=>
 some w
theorem O1 (fuel:Nat)(sA:List UInt8):Le (A0 fuel sA) (qY sA):=by unfold A0 qY;repeat' (first|with_reducible exact Le.rfl' _|with_reducible apply KM|with_reducible apply zH|refine Le.bd ?_ λ_=> ?_|refine Le.ite ?_ ?_|refine Le.ix λ_=> ?_|refine Le.loop λ_=> ?_|refine Le.bF (λ_=> ?_) _|refine Le.bG (λ_ _=> ?_) _ _|refine Le.sum (λ_=> ?_) (λ_=> ?_)|exact Le.rfl' _|intro _)
def yH (fuel:Nat)(sA:List UInt8):Option Bool:=bd ((A0 fuel) sA) λrA=>some (!rA)
theorem L4 (fuel:Nat)(sA:List UInt8):Le (yH fuel sA) (mh sA):=by unfold yH mh;repeat' (first|with_reducible exact Le.rfl' _|with_reducible apply O1|refine Le.bd ?_ λ_=> ?_|refine Le.ite ?_ ?_|refine Le.ix λ_=> ?_|refine Le.loop λ_=> ?_|refine Le.bF (λ_=> ?_) _|refine Le.bG (λ_ _=> ?_) _ _|refine Le.sum (λ_=> ?_) (λ_=> ?_)|exact Le.rfl' _|intro _)
def jj (fuel:Nat)(sA:List (List UInt8))(f:(List UInt8)->Option Bool)(st:Int):Option (Int⊕(Unit⊕Int)):=if st<(sA.length:Int) then
 ix sA st λy=>
 bd (f y) λrA=>
 if rA then
 some (.inr (.inr st))
 else
 some (.inl (bB .i64 (st+1)))
 else
 some (.inr (.inl ()))
theorem uD (fuel:Nat)(sA:List (List UInt8))(f fA:(List UInt8)->Option Bool)(hf: ∀u0,Le (f u0) (fA u0))(st:Int):Le (jj fuel sA f st) (eZ sA fA st):=by unfold jj eZ;repeat' (first|with_reducible exact Le.rfl' _|exact hf _ _ _|exact hf _ _|exact hf _|exact hf|refine Le.bd ?_ λ_=> ?_|refine Le.ite ?_ ?_|refine Le.ix λ_=> ?_|refine Le.loop λ_=> ?_|refine Le.bF (λ_=> ?_) _|refine Le.bG (λ_ _=> ?_) _ _|refine Le.sum (λ_=> ?_) (λ_=> ?_)|exact Le.rfl' _|intro _)
def kq (fuel:Nat)(sA:List (List UInt8))(f:(List UInt8)->Option Bool):Option Int:=bd (jW fuel ((jj fuel) sA f) 0) λw=>
 match w with
 | .inl p1=>some (-1)
 | .inr p2=>some p2
theorem xe (fuel:Nat)(sA:List (List UInt8))(f fA:(List UInt8)->Option Bool)(hf: ∀u0,Le (f u0) (fA u0)):Le (kq fuel sA f) (eA sA fA):=by unfold kq eA;repeat' (first|with_reducible exact Le.rfl' _|with_reducible apply uD|exact hf _ _ _|exact hf _ _|exact hf _|exact hf|refine Le.bd ?_ λ_=> ?_|refine Le.ite ?_ ?_|refine Le.ix λ_=> ?_|refine Le.loop λ_=> ?_|refine Le.bF (λ_=> ?_) _|refine Le.bG (λ_ _=> ?_) _ _|refine Le.sum (λ_=> ?_) (λ_=> ?_)|exact Le.rfl' _|intro _)
def iy (fuel:Nat)(sA:List (List UInt8))(f:(List UInt8)->Option Bool):Option Bool:=bd ((kq fuel) sA f) λrA=>some (decide ((0:Int)<=rA))
theorem ug (fuel:Nat)(sA:List (List UInt8))(f fA:(List UInt8)->Option Bool)(hf: ∀u0,Le (f u0) (fA u0)):Le (iy fuel sA f) (dD sA fA):=by unfold iy dD;repeat' (first|with_reducible exact Le.rfl' _|with_reducible apply xe|exact hf _ _ _|exact hf _ _|exact hf _|exact hf|refine Le.bd ?_ λ_=> ?_|refine Le.ite ?_ ?_|refine Le.ix λ_=> ?_|refine Le.loop λ_=> ?_|refine Le.bF (λ_=> ?_) _|refine Le.bG (λ_ _=> ?_) _ _|refine Le.sum (λ_=> ?_) (λ_=> ?_)|exact Le.rfl' _|intro _)
def lV (fuel:Nat)(p:List UInt8):Option ((List (List UInt8))×Bool):=bd ((pu fuel) p ([47]:List UInt8)) λrA=>
 bd (if !rA.2 then
  some true
  else
  some (decide ((100:Int)<(p.length:Int))):Option Bool) λw=>
 if w then
 some (([]:List (List UInt8)),false)
 else
 if rA.1=([]:List UInt8) then
 some (([]:List (List UInt8)),true)
 else
 bd (OL rA.1 ([47]:List UInt8)) λaB=>
 bd (if (aB.length:Int)<=8 then
  bd ((iy fuel) aB (yH fuel)) λbK=>
  some (aB,!bK,aB)
  else
  some (aB,false,aB):Option ((List (List UInt8))×Bool×(List (List UInt8)))) λw1=>
 some (w1.2.2,w1.2.1)
theorem vu (fuel:Nat)(p:List UInt8):Le (lV fuel p) (jh p):=by unfold lV jh;repeat' (first|with_reducible exact Le.rfl' _|with_reducible apply C2|with_reducible apply L4|with_reducible apply ug|refine Le.bd ?_ λ_=> ?_|refine Le.ite ?_ ?_|refine Le.ix λ_=> ?_|refine Le.loop λ_=> ?_|refine Le.bF (λ_=> ?_) _|refine Le.bG (λ_ _=> ?_) _ _|refine Le.sum (λ_=> ?_) (λ_=> ?_)|exact Le.rfl' _|intro _)
def nI (fuel:Nat)(x:List UInt8):Option Bool:=some (!decide (x=x))
theorem Ga (fuel:Nat)(x:List UInt8):Le (nI fuel x) (iD x):=by unfold nI iD;repeat' (first|with_reducible exact Le.rfl' _|refine Le.bd ?_ λ_=> ?_|refine Le.ite ?_ ?_|refine Le.ix λ_=> ?_|refine Le.loop λ_=> ?_|refine Le.bF (λ_=> ?_) _|refine Le.bG (λ_ _=> ?_) _ _|refine Le.sum (λ_=> ?_) (λ_=> ?_)|exact Le.rfl' _|intro _)
def pz (fuel:Nat)(x:List UInt8)(y:List UInt8):Option Int:=bd ((nI fuel) x) λrA=>
 bd ((nI fuel) y) λaB=>
 if rA then
 if aB then
 some 0
 else
 some (-1)
 else
 if aB then
 some 1
 else
 if IN x y then
 some (-1)
 else
 if !(IN x y||decide (x=y)) then
 some 1
 else
 some 0
theorem C5 (fuel:Nat)(x:List UInt8)(y:List UInt8):Le (pz fuel x y) (iS x y):=by unfold pz iS;repeat' (first|with_reducible exact Le.rfl' _|with_reducible apply Ga|refine Le.bd ?_ λ_=> ?_|refine Le.ite ?_ ?_|refine Le.ix λ_=> ?_|refine Le.loop λ_=> ?_|refine Le.bF (λ_=> ?_) _|refine Le.bG (λ_ _=> ?_) _ _|refine Le.sum (λ_=> ?_) (λ_=> ?_)|exact Le.rfl' _|intro _)
def kr (fuel:Nat)(s1:List (List UInt8))(s2:List (List UInt8))(st:Int):Option (Int⊕(Unit⊕Int)):=if st<(s1.length:Int) then
 ix s1 st λy=>
 if (s2.length:Int)<=st then
 some (.inr (.inr 1))
 else
 ix s2 st λy1=>
 bd ((pz fuel) y y1) λrA=>
 if !decide (rA=0) then
 some (.inr (.inr rA))
 else
 some (.inl (bB .i64 (st+1)))
 else
 some (.inr (.inl ()))
theorem xf (fuel:Nat)(s1:List (List UInt8))(s2:List (List UInt8))(st:Int):Le (kr fuel s1 s2 st) (gp s1 s2 st):=by unfold kr gp;repeat' (first|with_reducible exact Le.rfl' _|with_reducible apply C5|refine Le.bd ?_ λ_=> ?_|refine Le.ite ?_ ?_|refine Le.ix λ_=> ?_|refine Le.loop λ_=> ?_|refine Le.bF (λ_=> ?_) _|refine Le.bG (λ_ _=> ?_) _ _|refine Le.sum (λ_=> ?_) (λ_=> ?_)|exact Le.rfl' _|intro _)
def lW (fuel:Nat)(s1:List (List UInt8))(s2:List (List UInt8)):Option Int:=bd (jW fuel ((kr fuel) s1 s2) 0) λw=>
 match w with
 | .inl p1=>
  if (s1.length:Int)<(s2.length:Int) then
  some (-1)
  else
  some 0
 | .inr p2=>some p2
theorem zJ (fuel:Nat)(s1:List (List UInt8))(s2:List (List UInt8)):Le (lW fuel s1 s2) (fw s1 s2):=by unfold lW fw;repeat' (first|with_reducible exact Le.rfl' _|with_reducible apply xf|refine Le.bd ?_ λ_=> ?_|refine Le.ite ?_ ?_|refine Le.ix λ_=> ?_|refine Le.loop λ_=> ?_|refine Le.bF (λ_=> ?_) _|refine Le.bG (λ_ _=> ?_) _ _|refine Le.sum (λ_=> ?_) (λ_=> ?_)|exact Le.rfl' _|intro _)
def C6 (fuel:Nat)(p:List UInt8)(q:List UInt8):Option Bool:=bd ((lV fuel) p) λrA=>
 bd ((lV fuel) q) λaB=>
 bd (if rA.2 then
  if aB.2 then
  bd ((lW fuel) rA.1 aB.1) λbK=>
  some (decide (bK<0))
  else
  some false
  else
  some false:Option Bool) λw=>
 some w
theorem Q4 (fuel:Nat)(p:List UInt8)(q:List UInt8):Le (C6 fuel p q) (td p q):=by unfold C6 td;repeat' (first|with_reducible exact Le.rfl' _|with_reducible apply vu|with_reducible apply zJ|refine Le.bd ?_ λ_=> ?_|refine Le.ite ?_ ?_|refine Le.ix λ_=> ?_|refine Le.loop λ_=> ?_|refine Le.bF (λ_=> ?_) _|refine Le.bG (λ_ _=> ?_) _ _|refine Le.sum (λ_=> ?_) (λ_=> ?_)|exact Le.rfl' _|intro _)
def n6 (fuel:Nat)(n:av)(p:List UInt8):Option Int:=if n.Path=p then
 some 0
 else
 bd ((C6 fuel) n.Path p) λrA=>
 if rA then
 some (-1)
 else
 some 1
theorem BW (fuel:Nat)(n:av)(p:List UInt8):Le (n6 fuel n p) (eV n p):=by unfold n6 eV;repeat' (first|with_reducible exact Le.rfl' _|with_reducible apply Q4|refine Le.bd ?_ λ_=> ?_|refine Le.ite ?_ ?_|refine Le.ix λ_=> ?_|refine Le.loop λ_=> ?_|refine Le.bF (λ_=> ?_) _|refine Le.bG (λ_ _=> ?_) _ _|refine Le.sum (λ_=> ?_) (λ_=> ?_)|exact Le.rfl' _|intro _)
def dh (fuel:Nat)(x:List av)(target:List UInt8)(cmp:av->(List UInt8)->Option Int)(st:Int×Int):Option ((Int×Int)⊕Int):=if st.1<st.2 then
 if (0:Int)<=1 then
 ix x (bB .i64 (By (bB .u64 (bB .i64 (st.1+st.2))) (2^min (sh 1) (AI .u64)))) λy=>
 bd (cmp y target) λrA=>
 bd (if rA<0 then
  some (bB .i64 ((bB .i64 (By (bB .u64 (bB .i64 (st.1+st.2))) (2^min (sh 1) (AI .u64))))+1),st.2)
  else
  some (st.1,bB .i64 (By (bB .u64 (bB .i64 (st.1+st.2))) (2^min (sh 1) (AI .u64)))):Option (Int×Int)) λw1=>
 some (.inl (w1.1,w1.2))
 else none
 else
 some (.inr st.1)
theorem kL (fuel:Nat)(x:List av)(target:List UInt8)(cmp AZ:av->(List UInt8)->Option Int)(po: ∀u0 u1,Le (cmp u0 u1) (AZ u0 u1))(st:Int×Int):Le (dh fuel x target cmp st) (cc x target AZ st):=by unfold dh cc;repeat' (first|with_reducible exact Le.rfl' _|exact po _ _ _|exact po _ _|exact po _|exact po|refine Le.bd ?_ λ_=> ?_|refine Le.ite ?_ ?_|refine Le.ix λ_=> ?_|refine Le.loop λ_=> ?_|refine Le.bF (λ_=> ?_) _|refine Le.bG (λ_ _=> ?_) _ _|refine Le.sum (λ_=> ?_) (λ_=> ?_)|exact Le.rfl' _|intro _)
def dw (fuel:Nat)(x:List av)(target:List UInt8)(cmp:av->(List UInt8)->Option Int):Option (Int×Bool):=bd (jW fuel ((dh fuel) x target cmp) (0,(x.length:Int))) λw=>
 bd (if w<(x.length:Int) then
  ix x w λy1=>
  bd (cmp y1 target) λaB=>
  some (w,decide (aB=0))
  else
  some (w,false):Option (Int×Bool)) λw2=>
 some (w2.1,w2.2)
theorem lu (fuel:Nat)(x:List av)(target:List UInt8)(cmp AZ:av->(List UInt8)->Option Int)(po: ∀u0 u1,Le (cmp u0 u1) (AZ u0 u1)):Le (dw fuel x target cmp) (bQ x target AZ):=by unfold dw bQ;repeat' (first|with_reducible exact Le.rfl' _|with_reducible apply kL|exact po _ _ _|exact po _ _|exact po _|exact po|refine Le.bd ?_ λ_=> ?_|refine Le.ite ?_ ?_|refine Le.ix λ_=> ?_|refine Le.loop λ_=> ?_|refine Le.bF (λ_=> ?_) _|refine Le.bG (λ_ _=> ?_) _ _|refine Le.sum (λ_=> ?_) (λ_=> ?_)|exact Le.rfl' _|intro _)
def mC (fuel:Nat)(sA:ap)(p:List UInt8):Option (Int×Bool):=bd ((dw fuel) sA.L p (n6 fuel)) λrA=>some (rA.1,rA.2)
theorem vv (fuel:Nat)(sA:ap)(p:List UInt8):Le (mC fuel sA p) (gE sA p):=by unfold mC gE;repeat' (first|with_reducible exact Le.rfl' _|with_reducible apply BW|with_reducible apply lu|refine Le.bd ?_ λ_=> ?_|refine Le.ite ?_ ?_|refine Le.ix λ_=> ?_|refine Le.loop λ_=> ?_|refine Le.bF (λ_=> ?_) _|refine Le.bG (λ_ _=> ?_) _ _|refine Le.sum (λ_=> ?_) (λ_=> ?_)|exact Le.rfl' _|intro _)
def n7 (fuel:Nat)(p:List UInt8):Option Bool:=bd ((lV fuel) p) λrA=>some rA.2
theorem rm (fuel:Nat)(p:List UInt8):Le (n7 fuel p) (kc p):=by unfold n7 kc;repeat' (first|with_reducible exact Le.rfl' _|with_reducible apply vu|refine Le.bd ?_ λ_=> ?_|refine Le.ite ?_ ?_|refine Le.ix λ_=> ?_|refine Le.loop λ_=> ?_|refine Le.bF (λ_=> ?_) _|refine Le.bG (λ_ _=> ?_) _ _|refine Le.sum (λ_=> ?_) (λ_=> ?_)|exact Le.rfl' _|intro _)
def fH (fuel:Nat)(sA:List UInt8)(c:Int)(st:Int):Option (Int⊕(Unit⊕Int)):=if (0:Int)<=st then
 if (0:Int)<=st/\st<(sA.length:Int) then
 if ((sA.getD (sh st) 0).toNat:Int)=c then
 some (.inr (.inr st))
 else
 some (.inl (bB .i64 (st-1)))
 else none
 else
 some (.inr (.inl ()))
theorem qn (fuel:Nat)(sA:List UInt8)(c:Int)(st:Int):Le (fH fuel sA c st) (dJ sA c st):=by unfold fH dJ;repeat' (first|with_reducible exact Le.rfl' _|refine Le.bd ?_ λ_=> ?_|refine Le.ite ?_ ?_|refine Le.ix λ_=> ?_|refine Le.loop λ_=> ?_|refine Le.bF (λ_=> ?_) _|refine Le.bG (λ_ _=> ?_) _ _|refine Le.sum (λ_=> ?_) (λ_=> ?_)|exact Le.rfl' _|intro _)
def gx (fuel:Nat)(sA:List UInt8)(c:Int):Option Int:=bd (jW fuel ((fH fuel) sA c) (bB .i64 ((sA.length:Int)-1))) λw=>
 match w with
 | .inl p1=>some (-1)
 | .inr p2=>some p2
theorem rI (fuel:Nat)(sA:List UInt8)(c:Int):Le (gx fuel sA c) (di sA c):=by unfold gx di;repeat' (first|with_reducible exact Le.rfl' _|with_reducible apply qn|refine Le.bd ?_ λ_=> ?_|refine Le.ite ?_ ?_|refine Le.ix λ_=> ?_|refine Le.loop λ_=> ?_|refine Le.bF (λ_=> ?_) _|refine Le.bG (λ_ _=> ?_) _ _|refine Le.sum (λ_=> ?_) (λ_=> ?_)|exact Le.rfl' _|intro _)
def gV (fuel:Nat)(sep:List UInt8)(st:Int×Int):Option ((Int×Int)⊕Int):=if (0:Int)<=st.2 then
 if (0:Int)<=st.2/\st.2<(sep.length:Int) then
 some (.inl (bB .u32 ((bB .u32 (st.1 *16777619))+(bB .u32 ((sep.getD (sh st.2) 0).toNat:Int))),bB .i64 (st.2-1)))
 else none
 else
 some (.inr st.1)
theorem sF (fuel:Nat)(sep:List UInt8)(st:Int×Int):Le (gV fuel sep st) (eB sep st):=by unfold gV eB;repeat' (first|with_reducible exact Le.rfl' _|refine Le.bd ?_ λ_=> ?_|refine Le.ite ?_ ?_|refine Le.ix λ_=> ?_|refine Le.loop λ_=> ?_|refine Le.bF (λ_=> ?_) _|refine Le.bG (λ_ _=> ?_) _ _|refine Le.sum (λ_=> ?_) (λ_=> ?_)|exact Le.rfl' _|intro _)
def gX (fuel:Nat)(dc:Int×Int×Int):Option ((Int×Int×Int)⊕Int):=if (0:Int)<dc.2.2 then
 bd (if !decide ((H0 .i64 dc.2.2 1)=0) then
  some (bB .u32 (dc.1 *dc.2.1))
  else
  some dc.1:Option Int) λw2=>
 if (0:Int)<=1 then
 some (.inl (w2,bB .u32 (dc.2.1 *dc.2.1),By dc.2.2 (2^min (sh 1) (AI .i64))))
 else none
 else
 some (.inr dc.1)
theorem sG (fuel:Nat)(dc:Int×Int×Int):Le (gX fuel dc) (eC dc):=by unfold gX eC;repeat' (first|with_reducible exact Le.rfl' _|refine Le.bd ?_ λ_=> ?_|refine Le.ite ?_ ?_|refine Le.ix λ_=> ?_|refine Le.loop λ_=> ?_|refine Le.bF (λ_=> ?_) _|refine Le.bG (λ_ _=> ?_) _ _|refine Le.sum (λ_=> ?_) (λ_=> ?_)|exact Le.rfl' _|intro _)
def jk (fuel:Nat)(sep:List UInt8):Option (Int×Int):=bd (jW fuel ((gV fuel) sep) (0,bB .i64 ((sep.length:Int)-1))) λw=>
 bd (jW fuel (gX fuel) (1,16777619,(sep.length:Int))) λw1=>
 some (w,w1)
theorem uE (fuel:Nat)(sep:List UInt8):Le (jk fuel sep) (dL sep):=by unfold jk dL;repeat' (first|with_reducible exact Le.rfl' _|with_reducible apply sF|with_reducible apply sG|refine Le.bd ?_ λ_=> ?_|refine Le.ite ?_ ?_|refine Le.ix λ_=> ?_|refine Le.loop λ_=> ?_|refine Le.bF (λ_=> ?_) _|refine Le.bG (λ_ _=> ?_) _ _|refine Le.sum (λ_=> ?_) (λ_=> ?_)|exact Le.rfl' _|intro _)
def dU (fuel:Nat)(a:List UInt8)(a1:List UInt8)(st:Int×Int):Option ((Int×Int)⊕Int):=if (bB .i64 ((a.length:Int)-(a1.length:Int)))<=st.2 then
 if (0:Int)<=st.2/\st.2<(a.length:Int) then
 some (.inl (bB .u32 ((bB .u32 (st.1 *16777619))+(bB .u32 ((a.getD (sh st.2) 0).toNat:Int))),bB .i64 (st.2-1)))
 else none
 else
 some (.inr st.1)
theorem nw (fuel:Nat)(a:List UInt8)(a1:List UInt8)(st:Int×Int):Le (dU fuel a a1 st) (cX a a1 st):=by unfold dU cX;repeat' (first|with_reducible exact Le.rfl' _|refine Le.bd ?_ λ_=> ?_|refine Le.ite ?_ ?_|refine Le.ix λ_=> ?_|refine Le.loop λ_=> ?_|refine Le.bF (λ_=> ?_) _|refine Le.bG (λ_ _=> ?_) _ _|refine Le.sum (λ_=> ?_) (λ_=> ?_)|exact Le.rfl' _|intro _)
def dV (fuel:Nat)(a:List UInt8)(a1:List UInt8)(rA:Int×Int)(dc:Int×Int):Option ((Int×Int)⊕(Unit⊕Int)):=if (0:Int)<=dc.2 then
 if (0:Int)<=dc.2/\dc.2<(a.length:Int) then
 if (0:Int)<=(bB .i64 (dc.2+(a1.length:Int)))/\(bB .i64 (dc.2+(a1.length:Int)))<(a.length:Int) then
 bd (if (bB .u32 ((bB .u32 ((bB .u32 (dc.1 *16777619))+(bB .u32 ((a.getD (sh dc.2) 0).toNat:Int))))-(bB .u32 (rA.2 *(bB .u32 ((a.getD (sh (bB .i64 (dc.2+(a1.length:Int)))) 0).toNat:Int))))))=rA.1 then
  if (0:Int)<=dc.2/\dc.2<=(bB .i64 (dc.2+(a1.length:Int)))/\(bB .i64 (dc.2+(a1.length:Int)))<=(a.length:Int) then
  some (decide ((AS (sh dc.2) (AT (sh (bB .i64 (dc.2+(a1.length:Int)))) a))=a1))
  else none
  else
  some false:Option Bool) λw3=>
 if w3 then
 some (.inr (.inr dc.2))
 else
 some (.inl (bB .u32 ((bB .u32 ((bB .u32 (dc.1 *16777619))+(bB .u32 ((a.getD (sh dc.2) 0).toNat:Int))))-(bB .u32 (rA.2 *(bB .u32 ((a.getD (sh (bB .i64 (dc.2+(a1.length:Int)))) 0).toNat:Int))))),bB .i64 (dc.2-1)))
 else none
 else none
 else
 some (.inr (.inl ()))
theorem nx (fuel:Nat)(a:List UInt8)(a1:List UInt8)(rA:Int×Int)(dc:Int×Int):Le (dV fuel a a1 rA dc) (cY a a1 rA dc):=by unfold dV cY;repeat' (first|with_reducible exact Le.rfl' _|refine Le.bd ?_ λ_=> ?_|refine Le.ite ?_ ?_|refine Le.ix λ_=> ?_|refine Le.loop λ_=> ?_|refine Le.bF (λ_=> ?_) _|refine Le.bG (λ_ _=> ?_) _ _|refine Le.sum (λ_=> ?_) (λ_=> ?_)|exact Le.rfl' _|intro _)
def eG (fuel:Nat)(a:List UInt8)(a1:List UInt8):Option Int:=bd ((jk fuel) a1) λrA=>
 bd (jW fuel ((dU fuel) a a1) (0,bB .i64 ((a.length:Int)-1))) λw=>
 bd (if w=rA.1 then
  if (0:Int)<=(bB .i64 ((a.length:Int)-(a1.length:Int)))/\(bB .i64 ((a.length:Int)-(a1.length:Int)))<=(a.length:Int)/\(a.length:Int)<=(a.length:Int) then
  some (decide ((AS (sh (bB .i64 ((a.length:Int)-(a1.length:Int)))) (AT (sh (a.length:Int)) a))=a1))
  else none
  else
  some false:Option Bool) λw1=>
 if w1 then
 some (bB .i64 ((a.length:Int)-(a1.length:Int)))
 else
 bd (jW fuel ((dV fuel) a a1 rA) (w,bB .i64 ((bB .i64 ((a.length:Int)-(a1.length:Int)))-1))) λw2=>
 match w2 with
 | .inl p2=>some (-1)
 | .inr p3=>some p3
theorem oN (fuel:Nat)(a:List UInt8)(a1:List UInt8):Le (eG fuel a a1) (cB a a1):=by unfold eG cB;repeat' (first|with_reducible exact Le.rfl' _|with_reducible apply uE|with_reducible apply nw|with_reducible apply nx|refine Le.bd ?_ λ_=> ?_|refine Le.ite ?_ ?_|refine Le.ix λ_=> ?_|refine Le.loop λ_=> ?_|refine Le.bF (λ_=> ?_) _|refine Le.bG (λ_ _=> ?_) _ _|refine Le.sum (λ_=> ?_) (λ_=> ?_)|exact Le.rfl' _|intro _)
def pA (fuel:Nat)(sA:List UInt8)(substr:List UInt8):Option Int:=if (substr.length:Int)=0 then
 some (sA.length:Int)
 else
 if (substr.length:Int)=1 then
 if (0:Int)<=0/\(0:Int)<(substr.length:Int) then
 bd ((gx fuel) sA ((substr.getD (sh 0) 0).toNat:Int)) λrA=>
 some rA
 else none
 else
 if (substr.length:Int)=(sA.length:Int) then
 if substr=sA then
 some 0
 else
 some (-1)
 else
 if (sA.length:Int)<(substr.length:Int) then
 some (-1)
 else
 bd ((eG fuel) sA substr) λaB=>
 some aB
theorem C7 (fuel:Nat)(sA:List UInt8)(substr:List UInt8):Le (pA fuel sA substr) (iT sA substr):=by unfold pA iT;repeat' (first|with_reducible exact Le.rfl' _|with_reducible apply rI|with_reducible apply oN|refine Le.bd ?_ λ_=> ?_|refine Le.ite ?_ ?_|refine Le.ix λ_=> ?_|refine Le.loop λ_=> ?_|refine Le.bF (λ_=> ?_) _|refine Le.bG (λ_ _=> ?_) _ _|refine Le.sum (λ_=> ?_) (λ_=> ?_)|exact Le.rfl' _|intro _)
def vz (fuel:Nat)(p:List UInt8):Option ((List UInt8)×Int):=bd ((n7 fuel) p) λrA=>
 if !rA then
 some (([]:List UInt8),13)
 else
 if p=([47]:List UInt8) then
 some (([]:List UInt8),6)
 else
 bd ((pA fuel) p ([47]:List UInt8)) λaB=>
 if (0:Int)<=0/\(0:Int)<=(imax 1 aB)/\(imax 1 aB)<=(p.length:Int) then
 some (AS (sh 0) (AT (sh (imax 1 aB)) p),0)
 else none
theorem EL (fuel:Nat)(p:List UInt8):Le (vz fuel p) (oq p):=by unfold vz oq;repeat' (first|with_reducible exact Le.rfl' _|with_reducible apply rm|with_reducible apply C7|refine Le.bd ?_ λ_=> ?_|refine Le.ite ?_ ?_|refine Le.ix λ_=> ?_|refine Le.loop λ_=> ?_|refine Le.bF (λ_=> ?_) _|refine Le.bG (λ_ _=> ?_) _ _|refine Le.sum (λ_=> ?_) (λ_=> ?_)|exact Le.rfl' _|intro _)
def kM (fuel:Nat)(sA:ap)(p:List UInt8):Option (Int×Int):=bd ((n7 fuel) p) λrA=>
 if !rA then
 some (0,13)
 else
 bd ((mC fuel) sA p) λaB=>
 if !aB.2 then
 some (0,6)
 else
 some (aB.1,0)
theorem qo (fuel:Nat)(sA:ap)(p:List UInt8):Le (kM fuel sA p) (fU sA p):=by unfold kM fU;repeat' (first|with_reducible exact Le.rfl' _|with_reducible apply vv|with_reducible apply rm|refine Le.bd ?_ λ_=> ?_|refine Le.ite ?_ ?_|refine Le.ix λ_=> ?_|refine Le.loop λ_=> ?_|refine Le.bF (λ_=> ?_) _|refine Le.bG (λ_ _=> ?_) _ _|refine Le.sum (λ_=> ?_) (λ_=> ?_)|exact Le.rfl' _|intro _)
def xg (fuel:Nat)(sA:ap)(p:List UInt8):Option (av×Int):=bd ((kM fuel) sA p) λrA=>
 if !decide (rA.2=0) then
 some ((⟨([]:List UInt8),([]:List UInt8),0,0⟩:av),rA.2)
 else
 ix sA.L rA.1 λy=>
 some (y,0)
theorem C8 (fuel:Nat)(sA:ap)(p:List UInt8):Le (xg fuel sA p) (qd sA p):=by unfold xg qd;repeat' (first|with_reducible exact Le.rfl' _|with_reducible apply qo|refine Le.bd ?_ λ_=> ?_|refine Le.ite ?_ ?_|refine Le.ix λ_=> ?_|refine Le.loop λ_=> ?_|refine Le.bF (λ_=> ?_) _|refine Le.bG (λ_ _=> ?_) _ _|refine Le.sum (λ_=> ?_) (λ_=> ?_)|exact Le.rfl' _|intro _)
def uh (fuel:Nat)(c:List UInt8)(c1:Bool)(c2:ap)(c3:List UInt8)(c4:Int):Option Int:=bd ((n7 fuel) c) λrA=>
 if !rA then
 some 13
 else
 if c1 then
 some 7
 else
 bd ((vz fuel) c) λaB=>
 bd ((xg fuel) c2 aB.1) λbK=>
 if !decide (bK.2=0) then
 some 6
 else
 if !decide (bK.1.il=0) then
 some 10
 else
 if (1000:Int)<(c3.length:Int) then
 some 5
 else
 if c4<0 then
 some 1
 else
 if (200:Int)<=(c2.L.length:Int) then
 some 9
 else
 some 0
theorem HA (fuel:Nat)(c:List UInt8)(c1:Bool)(c2:ap)(c3:List UInt8)(c4:Int):Le (uh fuel c c1 c2 c3 c4) (lL c c1 c2 c3 c4):=by unfold uh lL;repeat' (first|with_reducible exact Le.rfl' _|with_reducible apply rm|with_reducible apply EL|with_reducible apply C8|refine Le.bd ?_ λ_=> ?_|refine Le.ite ?_ ?_|refine Le.ix λ_=> ?_|refine Le.loop λ_=> ?_|refine Le.bF (λ_=> ?_) _|refine Le.bG (λ_ _=> ?_) _ _|refine Le.sum (λ_=> ?_) (λ_=> ?_)|exact Le.rfl' _|intro _)
def yI (fuel:Nat)(sA:ap)(p:List UInt8)(value:List UInt8)(owner:Int):Option (ap×Int):=bd ((mC fuel) sA p) λrA=>
 bd ((uh fuel) p rA.2 sA value owner) λaB=>
 if !decide (aB=0) then
 some (sA,aB)
 else
 bd (jG 48 sA.L) λbK=>
 bd (u5 48 bK rA.1 ([(⟨p,value,0,owner⟩:av)]:List av)) λqC=>
 some ((⟨qC⟩:ap),0)
theorem L5 (fuel:Nat)(sA:ap)(p:List UInt8)(value:List UInt8)(owner:Int):Le (yI fuel sA p value owner) (oY sA p value owner):=by unfold yI oY;repeat' (first|with_reducible exact Le.rfl' _|with_reducible apply vv|with_reducible apply HA|refine Le.bd ?_ λ_=> ?_|refine Le.ite ?_ ?_|refine Le.ix λ_=> ?_|refine Le.loop λ_=> ?_|refine Le.bF (λ_=> ?_) _|refine Le.bG (λ_ _=> ?_) _ _|refine Le.sum (λ_=> ?_) (λ_=> ?_)|exact Le.rfl' _|intro _)
def gY (fuel:Nat)(w:ah)(kind:Int):Option (Unit×ah):=bd (if w.x.E=0 then
  if (w.l.length+([(⟨kind,w.o.Path⟩:ay)]:List ay).length) *24<=2^46 then
  some (w.r.Shelf.L,w.r.c8.jH,w.r.c8.L,w.r.dp.L,w.r.Seen,w.o.Client,w.o.Seq,w.o.Kind,w.o.Path,w.o.Value,w.o.Version,w.o.Session,w.o.Span,w.x.Client,w.x.Seq,w.x.E,w.x.Value,w.x.Version,w.x.Names,w.l++([(⟨kind,w.o.Path⟩:ay)]:List ay))
  else none
  else
  some (w.r.Shelf.L,w.r.c8.jH,w.r.c8.L,w.r.dp.L,w.r.Seen,w.o.Client,w.o.Seq,w.o.Kind,w.o.Path,w.o.Value,w.o.Version,w.o.Session,w.o.Span,w.x.Client,w.x.Seq,w.x.E,w.x.Value,w.x.Version,w.x.Names,w.l):Option ((List av)×Int×(List ak)×(List aq)×(List ae)×Int×Int×Int×(List UInt8)×(List UInt8)×Int×Int×Int×Int×Int×Int×(List UInt8)×Int×(List (List UInt8))×(List ay))) λw1=>
 some ((),(⟨(⟨(⟨w1.1⟩:ap),(⟨w1.2.1,w1.2.2.1⟩:aC),(⟨w1.2.2.2.1⟩:aX),w1.2.2.2.2.1⟩:ax),(⟨w1.2.2.2.2.2.1,w1.2.2.2.2.2.2.1,w1.2.2.2.2.2.2.2.1,w1.2.2.2.2.2.2.2.2.1,w1.2.2.2.2.2.2.2.2.2.1,w1.2.2.2.2.2.2.2.2.2.2.1,w1.2.2.2.2.2.2.2.2.2.2.2.1,w1.2.2.2.2.2.2.2.2.2.2.2.2.1⟩:ab),(⟨w1.2.2.2.2.2.2.2.2.2.2.2.2.2.1,w1.2.2.2.2.2.2.2.2.2.2.2.2.2.2.1,w1.2.2.2.2.2.2.2.2.2.2.2.2.2.2.2.1,w1.2.2.2.2.2.2.2.2.2.2.2.2.2.2.2.2.1,w1.2.2.2.2.2.2.2.2.2.2.2.2.2.2.2.2.2.1,w1.2.2.2.2.2.2.2.2.2.2.2.2.2.2.2.2.2.2.1⟩:ae),w1.2.2.2.2.2.2.2.2.2.2.2.2.2.2.2.2.2.2.2⟩:ah))
theorem mW (fuel:Nat)(w:ah)(kind:Int):Le (gY fuel w kind) (dR w kind):=by unfold gY dR;repeat' (first|with_reducible exact Le.rfl' _|refine Le.bd ?_ λ_=> ?_|refine Le.ite ?_ ?_|refine Le.ix λ_=> ?_|refine Le.loop λ_=> ?_|refine Le.bF (λ_=> ?_) _|refine Le.bG (λ_ _=> ?_) _ _|refine Le.sum (λ_=> ?_) (λ_=> ?_)|exact Le.rfl' _|intro _)
def pB (fuel:Nat)(w:ah):Option (Unit×ah):=bd (if !decide (w.o.Session=0) then
  bd ((F8 fuel) w.r.c8 w.o.Session) λrA=>
  some (!rA)
  else
  some false:Option Bool) λw1=>
 if w1 then
 some ((),(⟨w.r,w.o,(⟨w.x.Client,w.x.Seq,14,w.x.Value,w.x.Version,w.x.Names⟩:ae),w.l⟩:ah))
 else
 bd ((yI fuel) w.r.Shelf w.o.Path w.o.Value w.o.Session) λaB=>
 bd ((gY fuel) (⟨(⟨aB.1,w.r.c8,w.r.dp,w.r.Seen⟩:ax),w.o,(⟨w.x.Client,w.x.Seq,aB.2,w.x.Value,w.x.Version,w.x.Names⟩:ae),w.l⟩:ah) 1) λbK=>
 some ((),bK.2)
theorem C9 (fuel:Nat)(w:ah):Le (pB fuel w) (iU w):=by unfold pB iU;repeat' (first|with_reducible exact Le.rfl' _|with_reducible apply Tj|with_reducible apply L5|with_reducible apply mW|refine Le.bd ?_ λ_=> ?_|refine Le.ite ?_ ?_|refine Le.ix λ_=> ?_|refine Le.loop λ_=> ?_|refine Le.bF (λ_=> ?_) _|refine Le.bG (λ_ _=> ?_) _ _|refine Le.sum (λ_=> ?_) (λ_=> ?_)|exact Le.rfl' _|intro _)
def ui (fuel:Nat)(w:ah):Option (Unit×ah):=bd ((xg fuel) w.r.Shelf w.o.Path) λrA=>some ((),(⟨w.r,w.o,(⟨w.x.Client,w.x.Seq,rA.2,rA.1.Value,rA.1.Version,w.x.Names⟩:ae),w.l⟩:ah))
theorem HB (fuel:Nat)(w:ah):Le (ui fuel w) (lM w):=by unfold ui lM;repeat' (first|with_reducible exact Le.rfl' _|with_reducible apply C8|refine Le.bd ?_ λ_=> ?_|refine Le.ite ?_ ?_|refine Le.ix λ_=> ?_|refine Le.loop λ_=> ?_|refine Le.bF (λ_=> ?_) _|refine Le.bG (λ_ _=> ?_) _ _|refine Le.sum (λ_=> ?_) (λ_=> ?_)|exact Le.rfl' _|intro _)
def jd (fuel:Nat)(sA:ap)(p:List UInt8)(version:Int):Option (Int×Int):=bd ((kM fuel) sA p) λrA=>
 bd (if rA.2=0 then
  if !decide (version=(-1)) then
  ix sA.L rA.1 λy=>
  some (!decide (version=y.Version))
  else
  some false
  else
  some false:Option Bool) λw=>
 if w then
 some (rA.1,8)
 else
 some (rA.1,rA.2)
theorem pQ (fuel:Nat)(sA:ap)(p:List UInt8)(version:Int):Le (jd fuel sA p version) (ec sA p version):=by unfold jd ec;repeat' (first|with_reducible exact Le.rfl' _|with_reducible apply qo|refine Le.bd ?_ λ_=> ?_|refine Le.ite ?_ ?_|refine Le.ix λ_=> ?_|refine Le.loop λ_=> ?_|refine Le.bF (λ_=> ?_) _|refine Le.bG (λ_ _=> ?_) _ _|refine Le.sum (λ_=> ?_) (λ_=> ?_)|exact Le.rfl' _|intro _)
def Gb (fuel:Nat)(sA:ap)(p:List UInt8)(value:List UInt8)(version:Int):Option (ap×Int):=bd ((jd fuel) sA p version) λrA=>
 if !decide (rA.2=0) then
 some (sA,rA.2)
 else
 if (1000:Int)<(value.length:Int) then
 some (sA,5)
 else
 ix sA.L rA.1 λy=>
 if (1000000000:Int)<=y.Version then
 some (sA,9)
 else
 bd (jG 48 sA.L) λaB=>
 ix aB rA.1 λy1=>
 ix (aB.set (sh rA.1) (⟨y1.Path,value,y1.Version,y1.il⟩:av)) rA.1 λy2=>
 ix (aB.set (sh rA.1) (⟨y1.Path,value,y1.Version,y1.il⟩:av)) rA.1 λy3=>
 some ((⟨(aB.set (sh rA.1) (⟨y1.Path,value,y1.Version,y1.il⟩:av)).set (sh rA.1) (⟨y3.Path,y3.Value,bB .i64 (y2.Version+1),y3.il⟩:av)⟩:ap),0)
theorem Tk (fuel:Nat)(sA:ap)(p:List UInt8)(value:List UInt8)(version:Int):Le (Gb fuel sA p value version) (wN sA p value version):=by unfold Gb wN;repeat' (first|with_reducible exact Le.rfl' _|with_reducible apply pQ|refine Le.bd ?_ λ_=> ?_|refine Le.ite ?_ ?_|refine Le.ix λ_=> ?_|refine Le.loop λ_=> ?_|refine Le.bF (λ_=> ?_) _|refine Le.bG (λ_ _=> ?_) _ _|refine Le.sum (λ_=> ?_) (λ_=> ?_)|exact Le.rfl' _|intro _)
def uj (fuel:Nat)(w:ah):Option (Unit×ah):=bd ((Gb fuel) w.r.Shelf w.o.Path w.o.Value w.o.Version) λrA=>
 bd ((gY fuel) (⟨(⟨rA.1,w.r.c8,w.r.dp,w.r.Seen⟩:ax),w.o,(⟨w.x.Client,w.x.Seq,rA.2,w.x.Value,w.x.Version,w.x.Names⟩:ae),w.l⟩:ah) 2) λaB=>
 bd (if aB.2.x.E=0 then
  bd ((xg fuel) aB.2.r.Shelf aB.2.o.Path) λbK=>
  some (aB.2.r.Shelf.L,aB.2.r.c8.jH,aB.2.r.c8.L,aB.2.r.dp.L,aB.2.r.Seen,aB.2.o.Client,aB.2.o.Seq,aB.2.o.Kind,aB.2.o.Path,aB.2.o.Value,aB.2.o.Version,aB.2.o.Session,aB.2.o.Span,aB.2.x.Client,aB.2.x.Seq,aB.2.x.E,aB.2.x.Value,bK.1.Version,aB.2.x.Names,aB.2.l)
  else
  some (aB.2.r.Shelf.L,aB.2.r.c8.jH,aB.2.r.c8.L,aB.2.r.dp.L,aB.2.r.Seen,aB.2.o.Client,aB.2.o.Seq,aB.2.o.Kind,aB.2.o.Path,aB.2.o.Value,aB.2.o.Version,aB.2.o.Session,aB.2.o.Span,aB.2.x.Client,aB.2.x.Seq,aB.2.x.E,aB.2.x.Value,aB.2.x.Version,aB.2.x.Names,aB.2.l):Option ((List av)×Int×(List ak)×(List aq)×(List ae)×Int×Int×Int×(List UInt8)×(List UInt8)×Int×Int×Int×Int×Int×Int×(List UInt8)×Int×(List (List UInt8))×(List ay))) λw1=>
 some ((),(⟨(⟨(⟨w1.1⟩:ap),(⟨w1.2.1,w1.2.2.1⟩:aC),(⟨w1.2.2.2.1⟩:aX),w1.2.2.2.2.1⟩:ax),(⟨w1.2.2.2.2.2.1,w1.2.2.2.2.2.2.1,w1.2.2.2.2.2.2.2.1,w1.2.2.2.2.2.2.2.2.1,w1.2.2.2.2.2.2.2.2.2.1,w1.2.2.2.2.2.2.2.2.2.2.1,w1.2.2.2.2.2.2.2.2.2.2.2.1,w1.2.2.2.2.2.2.2.2.2.2.2.2.1⟩:ab),(⟨w1.2.2.2.2.2.2.2.2.2.2.2.2.2.1,w1.2.2.2.2.2.2.2.2.2.2.2.2.2.2.1,w1.2.2.2.2.2.2.2.2.2.2.2.2.2.2.2.1,w1.2.2.2.2.2.2.2.2.2.2.2.2.2.2.2.2.1,w1.2.2.2.2.2.2.2.2.2.2.2.2.2.2.2.2.2.1,w1.2.2.2.2.2.2.2.2.2.2.2.2.2.2.2.2.2.2.1⟩:ae),w1.2.2.2.2.2.2.2.2.2.2.2.2.2.2.2.2.2.2.2⟩:ah))
theorem HC (fuel:Nat)(w:ah):Le (uj fuel w) (lN w):=by unfold uj lN;repeat' (first|with_reducible exact Le.rfl' _|with_reducible apply C8|with_reducible apply mW|with_reducible apply Tk|refine Le.bd ?_ λ_=> ?_|refine Le.ite ?_ ?_|refine Le.ix λ_=> ?_|refine Le.loop λ_=> ?_|refine Le.bF (λ_=> ?_) _|refine Le.bG (λ_ _=> ?_) _ _|refine Le.sum (λ_=> ?_) (λ_=> ?_)|exact Le.rfl' _|intro _)
def lX (fuel:Nat)(s1:List (List UInt8))(s2:List (List UInt8))(st:Int):Option (Int⊕(Unit⊕Bool)):=if st<(s1.length:Int) then
 ix s1 st λy=>
 ix s2 st λy1=>
 if !decide (y=y1) then
 some (.inr (.inr false))
 else
 some (.inl (bB .i64 (st+1)))
 else
 some (.inr (.inl ()))
theorem zK (fuel:Nat)(s1:List (List UInt8))(s2:List (List UInt8))(st:Int):Le (lX fuel s1 s2 st) (iV s1 s2 st):=by unfold lX iV;repeat' (first|with_reducible exact Le.rfl' _|refine Le.bd ?_ λ_=> ?_|refine Le.ite ?_ ?_|refine Le.ix λ_=> ?_|refine Le.loop λ_=> ?_|refine Le.bF (λ_=> ?_) _|refine Le.bG (λ_ _=> ?_) _ _|refine Le.sum (λ_=> ?_) (λ_=> ?_)|exact Le.rfl' _|intro _)
def n8 (fuel:Nat)(s1:List (List UInt8))(s2:List (List UInt8)):Option Bool:=if !decide ((s1.length:Int)=(s2.length:Int)) then
 some false
 else
 bd (jW fuel ((lX fuel) s1 s2) 0) λw=>
 match w with
 | .inl p1=>some true
 | .inr p2=>some p2
theorem BX (fuel:Nat)(s1:List (List UInt8))(s2:List (List UInt8)):Le (n8 fuel s1 s2) (gQ s1 s2):=by unfold n8 gQ;repeat' (first|with_reducible exact Le.rfl' _|with_reducible apply zK|refine Le.bd ?_ λ_=> ?_|refine Le.ite ?_ ?_|refine Le.ix λ_=> ?_|refine Le.loop λ_=> ?_|refine Le.bF (λ_=> ?_) _|refine Le.bG (λ_ _=> ?_) _ _|refine Le.sum (λ_=> ?_) (λ_=> ?_)|exact Le.rfl' _|intro _)
def yJ (fuel:Nat)(p:List UInt8)(q:List UInt8):Option Bool:=bd ((lV fuel) p) λrA=>
 bd ((lV fuel) q) λaB=>
 bd (if rA.2 then
  if aB.2 then
  if (rA.1.length:Int)<(aB.1.length:Int) then
  if (0:Int)<=0/\(0:Int)<=(rA.1.length:Int)/\(rA.1.length:Int)<=(aB.1.length:Int) then
  bd ((n8 fuel) rA.1 (AS (sh 0) (AT (sh (rA.1.length:Int)) aB.1))) λbK=>
  some bK
  else none
  else
  some false
  else
  some false
  else
  some false:Option Bool) λw=>
 some w
theorem GW (fuel:Nat)(p:List UInt8)(q:List UInt8):Le (yJ fuel p q) (qe p q):=by unfold yJ qe;repeat' (first|with_reducible exact Le.rfl' _|with_reducible apply vu|with_reducible apply BX|refine Le.bd ?_ λ_=> ?_|refine Le.ite ?_ ?_|refine Le.ix λ_=> ?_|refine Le.loop λ_=> ?_|refine Le.bF (λ_=> ?_) _|refine Le.bG (λ_ _=> ?_) _ _|refine Le.sum (λ_=> ?_) (λ_=> ?_)|exact Le.rfl' _|intro _)
def yK (fuel:Nat)(sA:ap)(p:List UInt8)(version:Int):Option (ap×Int):=bd ((jd fuel) sA p version) λrA=>
 if p=([47]:List UInt8) then
 some (sA,13)
 else
 if !decide (rA.2=0) then
 some (sA,rA.2)
 else
 bd (if (bB .i64 (rA.1+1))<(sA.L.length:Int) then
  ix sA.L (bB .i64 (rA.1+1)) λy=>
  bd ((yJ fuel) p y.Path) λaB=>
  some aB
  else
  some false:Option Bool) λw=>
 if w then
 some (sA,10)
 else
 bd (jG 48 sA.L) λbK=>
 bd (Bm bK rA.1 (bB .i64 (rA.1+1))) λqC=>
 some ((⟨qC⟩:ap),0)
theorem L6 (fuel:Nat)(sA:ap)(p:List UInt8)(version:Int):Le (yK fuel sA p version) (oZ sA p version):=by unfold yK oZ;repeat' (first|with_reducible exact Le.rfl' _|with_reducible apply pQ|with_reducible apply GW|refine Le.bd ?_ λ_=> ?_|refine Le.ite ?_ ?_|refine Le.ix λ_=> ?_|refine Le.loop λ_=> ?_|refine Le.bF (λ_=> ?_) _|refine Le.bG (λ_ _=> ?_) _ _|refine Le.sum (λ_=> ?_) (λ_=> ?_)|exact Le.rfl' _|intro _)
def pC (fuel:Nat)(w:ah):Option (Unit×ah):=bd ((yK fuel) w.r.Shelf w.o.Path w.o.Version) λrA=>
 bd ((gY fuel) (⟨(⟨rA.1,w.r.c8,w.r.dp,w.r.Seen⟩:ax),w.o,(⟨w.x.Client,w.x.Seq,rA.2,w.x.Value,w.x.Version,w.x.Names⟩:ae),w.l⟩:ah) 3) λaB=>
 some ((),aB.2)
theorem Da (fuel:Nat)(w:ah):Le (pC fuel w) (iW w):=by unfold pC iW;repeat' (first|with_reducible exact Le.rfl' _|with_reducible apply mW|with_reducible apply L6|refine Le.bd ?_ λ_=> ?_|refine Le.ite ?_ ?_|refine Le.ix λ_=> ?_|refine Le.loop λ_=> ?_|refine Le.bF (λ_=> ?_) _|refine Le.bG (λ_ _=> ?_) _ _|refine Le.sum (λ_=> ?_) (λ_=> ?_)|exact Le.rfl' _|intro _)
def yL (fuel:Nat)(p:List UInt8):Option ((List (List UInt8))×Int):=bd ((lV fuel) p) λrA=>
 if !rA.2 then
 some (([]:List (List UInt8)),13)
 else
 some (rA.1,0)
theorem GX (fuel:Nat)(p:List UInt8):Le (yL fuel p) (qf p):=by unfold yL qf;repeat' (first|with_reducible exact Le.rfl' _|with_reducible apply vu|refine Le.bd ?_ λ_=> ?_|refine Le.ite ?_ ?_|refine Le.ix λ_=> ?_|refine Le.loop λ_=> ?_|refine Le.bF (λ_=> ?_) _|refine Le.bG (λ_ _=> ?_) _ _|refine Le.sum (λ_=> ?_) (λ_=> ?_)|exact Le.rfl' _|intro _)
def yM (fuel:Nat)(a:ap)(a1:List UInt8)(rA:Int×Int)(aB:(List (List UInt8))×Int)(st:(List (List UInt8))×Int):Option (((List (List UInt8))×Int)⊕(List (List UInt8))):=if st.2<((AS (sh (bB .i64 (rA.1+1))) (AT (sh (a.L.length:Int)) a.L)).length:Int) then
 ix (AS (sh (bB .i64 (rA.1+1))) (AT (sh (a.L.length:Int)) a.L)) st.2 λy=>
 bd ((yJ fuel) a1 y.Path) λbK=>
 if !bK then
 some (.inr st.1)
 else
 bd ((yL fuel) y.Path) λqC=>
 bd (if (qC.1.length:Int)=(bB .i64 ((aB.1.length:Int)+1)) then
  ix qC.1 (aB.1.length:Int) λy1=>
  if (st.1.length+([y1]:List (List UInt8)).length) *16<=2^46 then
  some (st.1++([y1]:List (List UInt8)))
  else none
  else
  some st.1:Option (List (List UInt8))) λw1=>
 some (.inl (w1,bB .i64 (st.2+1)))
 else
 some (.inr st.1)
theorem L7 (fuel:Nat)(a:ap)(a1:List UInt8)(rA:Int×Int)(aB:(List (List UInt8))×Int)(st:(List (List UInt8))×Int):Le (yM fuel a a1 rA aB st) (r9 a a1 rA aB st):=by unfold yM r9;repeat' (first|with_reducible exact Le.rfl' _|with_reducible apply GW|with_reducible apply GX|refine Le.bd ?_ λ_=> ?_|refine Le.ite ?_ ?_|refine Le.ix λ_=> ?_|refine Le.loop λ_=> ?_|refine Le.bF (λ_=> ?_) _|refine Le.bG (λ_ _=> ?_) _ _|refine Le.sum (λ_=> ?_) (λ_=> ?_)|exact Le.rfl' _|intro _)
def Db (fuel:Nat)(a:ap)(a1:List UInt8):Option ((List (List UInt8))×Int):=bd ((kM fuel) a a1) λrA=>
 if !decide (rA.2=0) then
 some (([]:List (List UInt8)),rA.2)
 else
 bd ((yL fuel) a1) λaB=>
 if (0:Int)<=(bB .i64 (rA.1+1))/\(bB .i64 (rA.1+1))<=(a.L.length:Int)/\(a.L.length:Int)<=(a.L.length:Int) then
 bd (jW fuel ((yM fuel) a a1 rA aB) (([]:List (List UInt8)),0)) λw=>
 some (w,0)
 else none
theorem Q5 (fuel:Nat)(a:ap)(a1:List UInt8):Le (Db fuel a a1) (th a a1):=by unfold Db th;repeat' (first|with_reducible exact Le.rfl' _|with_reducible apply qo|with_reducible apply GX|with_reducible apply L7|refine Le.bd ?_ λ_=> ?_|refine Le.ite ?_ ?_|refine Le.ix λ_=> ?_|refine Le.loop λ_=> ?_|refine Le.bF (λ_=> ?_) _|refine Le.bG (λ_ _=> ?_) _ _|refine Le.sum (λ_=> ?_) (λ_=> ?_)|exact Le.rfl' _|intro _)
def rJ (fuel:Nat)(w:ah):Option (Unit×ah):=bd ((Db fuel) w.r.Shelf w.o.Path) λrA=>some ((),(⟨w.r,w.o,(⟨w.x.Client,w.x.Seq,rA.2,w.x.Value,w.x.Version,rA.1⟩:ae),w.l⟩:ah))
theorem Gc (fuel:Nat)(w:ah):Le (rJ fuel w) (kE w):=by unfold rJ kE;repeat' (first|with_reducible exact Le.rfl' _|with_reducible apply Q5|refine Le.bd ?_ λ_=> ?_|refine Le.ite ?_ ?_|refine Le.ix λ_=> ?_|refine Le.loop λ_=> ?_|refine Le.bF (λ_=> ?_) _|refine Le.bG (λ_ _=> ?_) _ _|refine Le.sum (λ_=> ?_) (λ_=> ?_)|exact Le.rfl' _|intro _)
def Dc (fuel:Nat)(b:aC)(id:Int)(span:Int):Option (aC×Int):=bd ((iH fuel) b id) λrA=>
 bd (if id<1 then
  some true
  else
  if span<1 then
  some true
  else
  some (decide ((1000:Int)<span)):Option Bool) λw=>
 if w then
 some (b,1)
 else
 if rA.2 then
 some (b,7)
 else
 if (50:Int)<=(b.L.length:Int) then
 some (b,9)
 else
 bd (jG 24 b.L) λaB=>
 bd (u5 24 aB rA.1 ([(⟨id,span,bB .i64 (b.jH+span)⟩:ak)]:List ak)) λbK=>
 some ((⟨b.jH,bK⟩:aC),0)
theorem Q6 (fuel:Nat)(b:aC)(id:Int)(span:Int):Le (Dc fuel b id span) (tj b id span):=by unfold Dc tj;repeat' (first|with_reducible exact Le.rfl' _|with_reducible apply mB|refine Le.bd ?_ λ_=> ?_|refine Le.ite ?_ ?_|refine Le.ix λ_=> ?_|refine Le.loop λ_=> ?_|refine Le.bF (λ_=> ?_) _|refine Le.bG (λ_ _=> ?_) _ _|refine Le.sum (λ_=> ?_) (λ_=> ?_)|exact Le.rfl' _|intro _)
def rK (fuel:Nat)(w:ah):Option (Unit×ah):=bd ((Dc fuel) w.r.c8 w.o.Session w.o.Span) λrA=>some ((),(⟨(⟨w.r.Shelf,rA.1,w.r.dp,w.r.Seen⟩:ax),w.o,(⟨w.x.Client,w.x.Seq,rA.2,w.x.Value,w.x.Version,w.x.Names⟩:ae),w.l⟩:ah))
theorem Gd (fuel:Nat)(w:ah):Le (rK fuel w) (kF w):=by unfold rK kF;repeat' (first|with_reducible exact Le.rfl' _|with_reducible apply Q6|refine Le.bd ?_ λ_=> ?_|refine Le.ite ?_ ?_|refine Le.ix λ_=> ?_|refine Le.loop λ_=> ?_|refine Le.bF (λ_=> ?_) _|refine Le.bG (λ_ _=> ?_) _ _|refine Le.sum (λ_=> ?_) (λ_=> ?_)|exact Le.rfl' _|intro _)
def A3 (fuel:Nat)(b:aC)(id:Int):Option (aC×Int):=bd ((iH fuel) b id) λrA=>
 if !rA.2 then
 some (b,14)
 else
 bd (jG 24 b.L) λaB=>
 ix aB rA.1 λy=>
 ix aB rA.1 λy1=>
 some ((⟨b.jH,aB.set (sh rA.1) (⟨y1.Id,y1.Span,bB .i64 (b.jH+y.Span)⟩:ak)⟩:aC),0)
theorem O2 (fuel:Nat)(b:aC)(id:Int):Le (A3 fuel b id) (qZ b id):=by unfold A3 qZ;repeat' (first|with_reducible exact Le.rfl' _|with_reducible apply mB|refine Le.bd ?_ λ_=> ?_|refine Le.ite ?_ ?_|refine Le.ix λ_=> ?_|refine Le.loop λ_=> ?_|refine Le.bF (λ_=> ?_) _|refine Le.bG (λ_ _=> ?_) _ _|refine Le.sum (λ_=> ?_) (λ_=> ?_)|exact Le.rfl' _|intro _)
def qp (fuel:Nat)(w:ah):Option (Unit×ah):=bd ((A3 fuel) w.r.c8 w.o.Session) λrA=>some ((),(⟨(⟨w.r.Shelf,rA.1,w.r.dp,w.r.Seen⟩:ax),w.o,(⟨w.x.Client,w.x.Seq,rA.2,w.x.Value,w.x.Version,w.x.Names⟩:ae),w.l⟩:ah))
theorem EM (fuel:Nat)(w:ah):Le (qp fuel w) (jK w):=by unfold qp jK;repeat' (first|with_reducible exact Le.rfl' _|with_reducible apply O2|refine Le.bd ?_ λ_=> ?_|refine Le.ite ?_ ?_|refine Le.ix λ_=> ?_|refine Le.loop λ_=> ?_|refine Le.bF (λ_=> ?_) _|refine Le.bG (λ_ _=> ?_) _ _|refine Le.sum (λ_=> ?_) (λ_=> ?_)|exact Le.rfl' _|intro _)
def A4 (fuel:Nat)(b:aC)(id:Int):Option (aC×Int):=bd ((iH fuel) b id) λrA=>
 if !rA.2 then
 some (b,14)
 else
 bd (jG 24 b.L) λaB=>
 bd (Bm aB rA.1 (bB .i64 (rA.1+1))) λbK=>
 some ((⟨b.jH,bK⟩:aC),0)
theorem O3 (fuel:Nat)(b:aC)(id:Int):Le (A4 fuel b id) (q0 b id):=by unfold A4 q0;repeat' (first|with_reducible exact Le.rfl' _|with_reducible apply mB|refine Le.bd ?_ λ_=> ?_|refine Le.ite ?_ ?_|refine Le.ix λ_=> ?_|refine Le.loop λ_=> ?_|refine Le.bF (λ_=> ?_) _|refine Le.bG (λ_ _=> ?_) _ _|refine Le.sum (λ_=> ?_) (λ_=> ?_)|exact Le.rfl' _|intro _)
def yN (fuel:Nat)(sA:ap)(owner:Int)(st:(List (List UInt8))×(List av)×Int):Option (((List (List UInt8))×(List av)×Int)⊕((List (List UInt8))×(List av))):=if st.2.2<(sA.L.length:Int) then
 ix sA.L st.2.2 λy=>
 bd (if (0:Int)<owner then
  some (decide (y.il=owner))
  else
  some false:Option Bool) λw1=>
 if w1 then
 if (st.1.length+([y.Path]:List (List UInt8)).length) *16<=2^46 then
 some (.inl (st.1++([y.Path]:List (List UInt8)),st.2.1,bB .i64 (st.2.2+1)))
 else none
 else
 if (st.2.1.length+([y]:List av).length) *48<=2^46 then
 some (.inl (st.1,st.2.1++([y]:List av),bB .i64 (st.2.2+1)))
 else none
 else
 some (.inr (st.1,st.2.1))
theorem L8 (fuel:Nat)(sA:ap)(owner:Int)(st:(List (List UInt8))×(List av)×Int):Le (yN fuel sA owner st) (sa sA owner st):=by unfold yN sa;repeat' (first|with_reducible exact Le.rfl' _|refine Le.bd ?_ λ_=> ?_|refine Le.ite ?_ ?_|refine Le.ix λ_=> ?_|refine Le.loop λ_=> ?_|refine Le.bF (λ_=> ?_) _|refine Le.bG (λ_ _=> ?_) _ _|refine Le.sum (λ_=> ?_) (λ_=> ?_)|exact Le.rfl' _|intro _)
def Dd (fuel:Nat)(sA:ap)(owner:Int):Option (ap×(List (List UInt8))):=bd (jW fuel ((yN fuel) sA owner) (([]:List (List UInt8)),([]:List av),0)) λw=>some ((⟨w.2⟩:ap),w.1)
theorem Q7 (fuel:Nat)(sA:ap)(owner:Int):Le (Dd fuel sA owner) (tk sA owner):=by unfold Dd tk;repeat' (first|with_reducible exact Le.rfl' _|with_reducible apply L8|refine Le.bd ?_ λ_=> ?_|refine Le.ite ?_ ?_|refine Le.ix λ_=> ?_|refine Le.loop λ_=> ?_|refine Le.bF (λ_=> ?_) _|refine Le.bG (λ_ _=> ?_) _ _|refine Le.sum (λ_=> ?_) (λ_=> ?_)|exact Le.rfl' _|intro _)
def pD (fuel:Nat)(rA:ap×(List (List UInt8)))(st:Int×(List av)×Int×(List ak)×(List aq)×(List ae)×Int×Int×Int×(List UInt8)×(List UInt8)×Int×Int×Int×Int×Int×Int×(List UInt8)×Int×(List (List UInt8))×(List ay)):Option ((Int×(List av)×Int×(List ak)×(List aq)×(List ae)×Int×Int×Int×(List UInt8)×(List UInt8)×Int×Int×Int×Int×Int×Int×(List UInt8)×Int×(List (List UInt8))×(List ay))⊕((List av)×Int×(List ak)×(List aq)×(List ae)×Int×Int×Int×(List UInt8)×(List UInt8)×Int×Int×Int×Int×Int×Int×(List UInt8)×Int×(List (List UInt8))×(List ay))):=if st.1<(rA.2.length:Int) then
 ix rA.2 st.1 λy=>
 if (st.2.2.2.2.2.2.2.2.2.2.2.2.2.2.2.2.2.2.2.2.length+([(⟨3,y⟩:ay)]:List ay).length) *24<=2^46 then
 some (.inl (bB .i64 (st.1+1),st.2.1,st.2.2.1,st.2.2.2.1,st.2.2.2.2.1,st.2.2.2.2.2.1,st.2.2.2.2.2.2.1,st.2.2.2.2.2.2.2.1,st.2.2.2.2.2.2.2.2.1,st.2.2.2.2.2.2.2.2.2.1,st.2.2.2.2.2.2.2.2.2.2.1,st.2.2.2.2.2.2.2.2.2.2.2.1,st.2.2.2.2.2.2.2.2.2.2.2.2.1,st.2.2.2.2.2.2.2.2.2.2.2.2.2.1,st.2.2.2.2.2.2.2.2.2.2.2.2.2.2.1,st.2.2.2.2.2.2.2.2.2.2.2.2.2.2.2.1,st.2.2.2.2.2.2.2.2.2.2.2.2.2.2.2.2.1,st.2.2.2.2.2.2.2.2.2.2.2.2.2.2.2.2.2.1,st.2.2.2.2.2.2.2.2.2.2.2.2.2.2.2.2.2.2.1,st.2.2.2.2.2.2.2.2.2.2.2.2.2.2.2.2.2.2.2.1,st.2.2.2.2.2.2.2.2.2.2.2.2.2.2.2.2.2.2.2.2++([(⟨3,y⟩:ay)]:List ay)))
 else none
 else
 some (.inr (st.2.1,st.2.2.1,st.2.2.2.1,st.2.2.2.2.1,st.2.2.2.2.2.1,st.2.2.2.2.2.2.1,st.2.2.2.2.2.2.2.1,st.2.2.2.2.2.2.2.2.1,st.2.2.2.2.2.2.2.2.2.1,st.2.2.2.2.2.2.2.2.2.2.1,st.2.2.2.2.2.2.2.2.2.2.2.1,st.2.2.2.2.2.2.2.2.2.2.2.2.1,st.2.2.2.2.2.2.2.2.2.2.2.2.2.1,st.2.2.2.2.2.2.2.2.2.2.2.2.2.2.1,st.2.2.2.2.2.2.2.2.2.2.2.2.2.2.2.1,st.2.2.2.2.2.2.2.2.2.2.2.2.2.2.2.2.1,st.2.2.2.2.2.2.2.2.2.2.2.2.2.2.2.2.2.1,st.2.2.2.2.2.2.2.2.2.2.2.2.2.2.2.2.2.2.1,st.2.2.2.2.2.2.2.2.2.2.2.2.2.2.2.2.2.2.2.1,st.2.2.2.2.2.2.2.2.2.2.2.2.2.2.2.2.2.2.2.2))
theorem De (fuel:Nat)(rA:ap×(List (List UInt8)))(st:Int×(List av)×Int×(List ak)×(List aq)×(List ae)×Int×Int×Int×(List UInt8)×(List UInt8)×Int×Int×Int×Int×Int×Int×(List UInt8)×Int×(List (List UInt8))×(List ay)):Le (pD fuel rA st) (lc rA st):=by unfold pD lc;repeat' (first|with_reducible exact Le.rfl' _|refine Le.bd ?_ λ_=> ?_|refine Le.ite ?_ ?_|refine Le.ix λ_=> ?_|refine Le.loop λ_=> ?_|refine Le.bF (λ_=> ?_) _|refine Le.bG (λ_ _=> ?_) _ _|refine Le.sum (λ_=> ?_) (λ_=> ?_)|exact Le.rfl' _|intro _)
def nJ (fuel:Nat)(w:ah)(id:Int):Option (Unit×ah):=bd ((Dd fuel) w.r.Shelf id) λrA=>
 bd (jW fuel ((pD fuel) rA) (0,rA.1.L,w.r.c8.jH,w.r.c8.L,w.r.dp.L,w.r.Seen,w.o.Client,w.o.Seq,w.o.Kind,w.o.Path,w.o.Value,w.o.Version,w.o.Session,w.o.Span,w.x.Client,w.x.Seq,w.x.E,w.x.Value,w.x.Version,w.x.Names,w.l)) λw1=>
 some ((),(⟨(⟨(⟨w1.1⟩:ap),(⟨w1.2.1,w1.2.2.1⟩:aC),(⟨w1.2.2.2.1⟩:aX),w1.2.2.2.2.1⟩:ax),(⟨w1.2.2.2.2.2.1,w1.2.2.2.2.2.2.1,w1.2.2.2.2.2.2.2.1,w1.2.2.2.2.2.2.2.2.1,w1.2.2.2.2.2.2.2.2.2.1,w1.2.2.2.2.2.2.2.2.2.2.1,w1.2.2.2.2.2.2.2.2.2.2.2.1,w1.2.2.2.2.2.2.2.2.2.2.2.2.1⟩:ab),(⟨w1.2.2.2.2.2.2.2.2.2.2.2.2.2.1,w1.2.2.2.2.2.2.2.2.2.2.2.2.2.2.1,w1.2.2.2.2.2.2.2.2.2.2.2.2.2.2.2.1,w1.2.2.2.2.2.2.2.2.2.2.2.2.2.2.2.2.1,w1.2.2.2.2.2.2.2.2.2.2.2.2.2.2.2.2.2.1,w1.2.2.2.2.2.2.2.2.2.2.2.2.2.2.2.2.2.2.1⟩:ae),w1.2.2.2.2.2.2.2.2.2.2.2.2.2.2.2.2.2.2.2⟩:ah))
theorem xh (fuel:Nat)(w:ah)(id:Int):Le (nJ fuel w id) (iF w id):=by unfold nJ iF;repeat' (first|with_reducible exact Le.rfl' _|with_reducible apply Q7|with_reducible apply De|refine Le.bd ?_ λ_=> ?_|refine Le.ite ?_ ?_|refine Le.ix λ_=> ?_|refine Le.loop λ_=> ?_|refine Le.bF (λ_=> ?_) _|refine Le.bG (λ_ _=> ?_) _ _|refine Le.sum (λ_=> ?_) (λ_=> ?_)|exact Le.rfl' _|intro _)
def qq (fuel:Nat)(w:ah):Option (Unit×ah):=bd ((A4 fuel) w.r.c8 w.o.Session) λrA=>
 bd (if rA.2=0 then
  bd ((nJ fuel) (⟨(⟨w.r.Shelf,rA.1,w.r.dp,w.r.Seen⟩:ax),w.o,(⟨w.x.Client,w.x.Seq,rA.2,w.x.Value,w.x.Version,w.x.Names⟩:ae),w.l⟩:ah) w.o.Session) λaB=>
  some (aB.2.r.Shelf.L,aB.2.r.c8.jH,aB.2.r.c8.L,aB.2.r.dp.L,aB.2.r.Seen,aB.2.o.Client,aB.2.o.Seq,aB.2.o.Kind,aB.2.o.Path,aB.2.o.Value,aB.2.o.Version,aB.2.o.Session,aB.2.o.Span,aB.2.x.Client,aB.2.x.Seq,aB.2.x.E,aB.2.x.Value,aB.2.x.Version,aB.2.x.Names,aB.2.l)
  else
  some (w.r.Shelf.L,rA.1.jH,rA.1.L,w.r.dp.L,w.r.Seen,w.o.Client,w.o.Seq,w.o.Kind,w.o.Path,w.o.Value,w.o.Version,w.o.Session,w.o.Span,w.x.Client,w.x.Seq,rA.2,w.x.Value,w.x.Version,w.x.Names,w.l):Option ((List av)×Int×(List ak)×(List aq)×(List ae)×Int×Int×Int×(List UInt8)×(List UInt8)×Int×Int×Int×Int×Int×Int×(List UInt8)×Int×(List (List UInt8))×(List ay))) λw1=>
 some ((),(⟨(⟨(⟨w1.1⟩:ap),(⟨w1.2.1,w1.2.2.1⟩:aC),(⟨w1.2.2.2.1⟩:aX),w1.2.2.2.2.1⟩:ax),(⟨w1.2.2.2.2.2.1,w1.2.2.2.2.2.2.1,w1.2.2.2.2.2.2.2.1,w1.2.2.2.2.2.2.2.2.1,w1.2.2.2.2.2.2.2.2.2.1,w1.2.2.2.2.2.2.2.2.2.2.1,w1.2.2.2.2.2.2.2.2.2.2.2.1,w1.2.2.2.2.2.2.2.2.2.2.2.2.1⟩:ab),(⟨w1.2.2.2.2.2.2.2.2.2.2.2.2.2.1,w1.2.2.2.2.2.2.2.2.2.2.2.2.2.2.1,w1.2.2.2.2.2.2.2.2.2.2.2.2.2.2.2.1,w1.2.2.2.2.2.2.2.2.2.2.2.2.2.2.2.2.1,w1.2.2.2.2.2.2.2.2.2.2.2.2.2.2.2.2.2.1,w1.2.2.2.2.2.2.2.2.2.2.2.2.2.2.2.2.2.2.1⟩:ae),w1.2.2.2.2.2.2.2.2.2.2.2.2.2.2.2.2.2.2.2⟩:ah))
theorem EN (fuel:Nat)(w:ah):Le (qq fuel w) (jL w):=by unfold qq jL;repeat' (first|with_reducible exact Le.rfl' _|with_reducible apply O3|with_reducible apply xh|refine Le.bd ?_ λ_=> ?_|refine Le.ite ?_ ?_|refine Le.ix λ_=> ?_|refine Le.loop λ_=> ?_|refine Le.bF (λ_=> ?_) _|refine Le.bG (λ_ _=> ?_) _ _|refine Le.sum (λ_=> ?_) (λ_=> ?_)|exact Le.rfl' _|intro _)
def yO (fuel:Nat)(b:aC)(now:Int)(st:(List Int)×Int×(List ak)×Int):Option (((List Int)×Int×(List ak)×Int)⊕((List Int)×Int×(List ak))):=if st.2.2.2<(b.L.length:Int) then
 ix b.L st.2.2.2 λy=>
 if y.At<=now then
 if (st.1.length+([y.Id]:List Int).length) *8<=2^46 then
 some (.inl (st.1++([y.Id]:List Int),st.2.1,st.2.2.1,bB .i64 (st.2.2.2+1)))
 else none
 else
 if (st.2.2.1.length+([y]:List ak).length) *24<=2^46 then
 some (.inl (st.1,st.2.1,st.2.2.1++([y]:List ak),bB .i64 (st.2.2.2+1)))
 else none
 else
 some (.inr (st.1,st.2.1,st.2.2.1))
theorem L9 (fuel:Nat)(b:aC)(now:Int)(st:(List Int)×Int×(List ak)×Int):Le (yO fuel b now st) (sb b now st):=by unfold yO sb;repeat' (first|with_reducible exact Le.rfl' _|refine Le.bd ?_ λ_=> ?_|refine Le.ite ?_ ?_|refine Le.ix λ_=> ?_|refine Le.loop λ_=> ?_|refine Le.bF (λ_=> ?_) _|refine Le.bG (λ_ _=> ?_) _ _|refine Le.sum (λ_=> ?_) (λ_=> ?_)|exact Le.rfl' _|intro _)
def Df (fuel:Nat)(b:aC)(now:Int):Option (aC×(List Int)×Int):=if now<b.jH then
 some (b,([]:List Int),15)
 else
 if (1000000000:Int)<now then
 some (b,([]:List Int),5)
 else
 bd (jW fuel ((yO fuel) b now) (([]:List Int),now,([]:List ak),0)) λw=>
 some ((⟨w.2.1,w.2.2⟩:aC),w.1,0)
theorem Q8 (fuel:Nat)(b:aC)(now:Int):Le (Df fuel b now) (tl b now):=by unfold Df tl;repeat' (first|with_reducible exact Le.rfl' _|with_reducible apply L9|refine Le.bd ?_ λ_=> ?_|refine Le.ite ?_ ?_|refine Le.ix λ_=> ?_|refine Le.loop λ_=> ?_|refine Le.bF (λ_=> ?_) _|refine Le.bG (λ_ _=> ?_) _ _|refine Le.sum (λ_=> ?_) (λ_=> ?_)|exact Le.rfl' _|intro _)
def pE (fuel:Nat)(rA:aC×(List Int)×Int)(st:Int×(List av)×Int×(List ak)×(List aq)×(List ae)×Int×Int×Int×(List UInt8)×(List UInt8)×Int×Int×Int×Int×Int×Int×(List UInt8)×Int×(List (List UInt8))×(List ay)):Option ((Int×(List av)×Int×(List ak)×(List aq)×(List ae)×Int×Int×Int×(List UInt8)×(List UInt8)×Int×Int×Int×Int×Int×Int×(List UInt8)×Int×(List (List UInt8))×(List ay))⊕((List av)×Int×(List ak)×(List aq)×(List ae)×Int×Int×Int×(List UInt8)×(List UInt8)×Int×Int×Int×Int×Int×Int×(List UInt8)×Int×(List (List UInt8))×(List ay))):=if st.1<(rA.2.1.length:Int) then
 ix rA.2.1 st.1 λy=>
 bd ((nJ fuel) (⟨(⟨(⟨st.2.1⟩:ap),(⟨st.2.2.1,st.2.2.2.1⟩:aC),(⟨st.2.2.2.2.1⟩:aX),st.2.2.2.2.2.1⟩:ax),(⟨st.2.2.2.2.2.2.1,st.2.2.2.2.2.2.2.1,st.2.2.2.2.2.2.2.2.1,st.2.2.2.2.2.2.2.2.2.1,st.2.2.2.2.2.2.2.2.2.2.1,st.2.2.2.2.2.2.2.2.2.2.2.1,st.2.2.2.2.2.2.2.2.2.2.2.2.1,st.2.2.2.2.2.2.2.2.2.2.2.2.2.1⟩:ab),(⟨st.2.2.2.2.2.2.2.2.2.2.2.2.2.2.1,st.2.2.2.2.2.2.2.2.2.2.2.2.2.2.2.1,st.2.2.2.2.2.2.2.2.2.2.2.2.2.2.2.2.1,st.2.2.2.2.2.2.2.2.2.2.2.2.2.2.2.2.2.1,st.2.2.2.2.2.2.2.2.2.2.2.2.2.2.2.2.2.2.1,st.2.2.2.2.2.2.2.2.2.2.2.2.2.2.2.2.2.2.2.1⟩:ae),st.2.2.2.2.2.2.2.2.2.2.2.2.2.2.2.2.2.2.2.2⟩:ah) y) λaB=>
 some (.inl (bB .i64 (st.1+1),aB.2.r.Shelf.L,aB.2.r.c8.jH,aB.2.r.c8.L,aB.2.r.dp.L,aB.2.r.Seen,aB.2.o.Client,aB.2.o.Seq,aB.2.o.Kind,aB.2.o.Path,aB.2.o.Value,aB.2.o.Version,aB.2.o.Session,aB.2.o.Span,aB.2.x.Client,aB.2.x.Seq,aB.2.x.E,aB.2.x.Value,aB.2.x.Version,aB.2.x.Names,aB.2.l))
 else
 some (.inr (st.2.1,st.2.2.1,st.2.2.2.1,st.2.2.2.2.1,st.2.2.2.2.2.1,st.2.2.2.2.2.2.1,st.2.2.2.2.2.2.2.1,st.2.2.2.2.2.2.2.2.1,st.2.2.2.2.2.2.2.2.2.1,st.2.2.2.2.2.2.2.2.2.2.1,st.2.2.2.2.2.2.2.2.2.2.2.1,st.2.2.2.2.2.2.2.2.2.2.2.2.1,st.2.2.2.2.2.2.2.2.2.2.2.2.2.1,st.2.2.2.2.2.2.2.2.2.2.2.2.2.2.1,st.2.2.2.2.2.2.2.2.2.2.2.2.2.2.2.1,st.2.2.2.2.2.2.2.2.2.2.2.2.2.2.2.2.1,st.2.2.2.2.2.2.2.2.2.2.2.2.2.2.2.2.2.1,st.2.2.2.2.2.2.2.2.2.2.2.2.2.2.2.2.2.2.1,st.2.2.2.2.2.2.2.2.2.2.2.2.2.2.2.2.2.2.2.1,st.2.2.2.2.2.2.2.2.2.2.2.2.2.2.2.2.2.2.2.2))
theorem Dg (fuel:Nat)(rA:aC×(List Int)×Int)(st:Int×(List av)×Int×(List ak)×(List aq)×(List ae)×Int×Int×Int×(List UInt8)×(List UInt8)×Int×Int×Int×Int×Int×Int×(List UInt8)×Int×(List (List UInt8))×(List ay)):Le (pE fuel rA st) (lf rA st):=by unfold pE lf;repeat' (first|with_reducible exact Le.rfl' _|with_reducible apply xh|refine Le.bd ?_ λ_=> ?_|refine Le.ite ?_ ?_|refine Le.ix λ_=> ?_|refine Le.loop λ_=> ?_|refine Le.bF (λ_=> ?_) _|refine Le.bG (λ_ _=> ?_) _ _|refine Le.sum (λ_=> ?_) (λ_=> ?_)|exact Le.rfl' _|intro _)
def rL (fuel:Nat)(w:ah):Option (Unit×ah):=bd ((Df fuel) w.r.c8 w.o.Span) λrA=>
 if !decide (rA.2.2=0) then
 some ((),(⟨w.r,w.o,(⟨w.x.Client,w.x.Seq,rA.2.2,w.x.Value,w.x.Version,w.x.Names⟩:ae),w.l⟩:ah))
 else
 bd (jW fuel ((pE fuel) rA) (0,w.r.Shelf.L,rA.1.jH,rA.1.L,w.r.dp.L,w.r.Seen,w.o.Client,w.o.Seq,w.o.Kind,w.o.Path,w.o.Value,w.o.Version,w.o.Session,w.o.Span,w.x.Client,w.x.Seq,rA.2.2,w.x.Value,rA.1.jH,w.x.Names,w.l)) λw1=>
 some ((),(⟨(⟨(⟨w1.1⟩:ap),(⟨w1.2.1,w1.2.2.1⟩:aC),(⟨w1.2.2.2.1⟩:aX),w1.2.2.2.2.1⟩:ax),(⟨w1.2.2.2.2.2.1,w1.2.2.2.2.2.2.1,w1.2.2.2.2.2.2.2.1,w1.2.2.2.2.2.2.2.2.1,w1.2.2.2.2.2.2.2.2.2.1,w1.2.2.2.2.2.2.2.2.2.2.1,w1.2.2.2.2.2.2.2.2.2.2.2.1,w1.2.2.2.2.2.2.2.2.2.2.2.2.1⟩:ab),(⟨w1.2.2.2.2.2.2.2.2.2.2.2.2.2.1,w1.2.2.2.2.2.2.2.2.2.2.2.2.2.2.1,w1.2.2.2.2.2.2.2.2.2.2.2.2.2.2.2.1,w1.2.2.2.2.2.2.2.2.2.2.2.2.2.2.2.2.1,w1.2.2.2.2.2.2.2.2.2.2.2.2.2.2.2.2.2.1,w1.2.2.2.2.2.2.2.2.2.2.2.2.2.2.2.2.2.2.1⟩:ae),w1.2.2.2.2.2.2.2.2.2.2.2.2.2.2.2.2.2.2.2⟩:ah))
theorem Ge (fuel:Nat)(w:ah):Le (rL fuel w) (kG w):=by unfold rL kG;repeat' (first|with_reducible exact Le.rfl' _|with_reducible apply Q8|with_reducible apply Dg|refine Le.bd ?_ λ_=> ?_|refine Le.ite ?_ ?_|refine Le.ix λ_=> ?_|refine Le.loop λ_=> ?_|refine Le.bF (λ_=> ?_) _|refine Le.bG (λ_ _=> ?_) _ _|refine Le.sum (λ_=> ?_) (λ_=> ?_)|exact Le.rfl' _|intro _)
def jm (fuel:Nat)(sA:List aq)(v:aq)(st:Int):Option (Int⊕(Unit⊕Int)):=if st<(sA.length:Int) then
 ix sA st λy=>
 if ((decide (v.Path=y.Path))&&((decide (v.Client=y.Client))&&(decide (v.Kids=y.Kids)))) then
 some (.inr (.inr st))
 else
 some (.inl (bB .i64 (st+1)))
 else
 some (.inr (.inl ()))
theorem uF (fuel:Nat)(sA:List aq)(v:aq)(st:Int):Le (jm fuel sA v st) (e9 sA v st):=by unfold jm e9;repeat' (first|with_reducible exact Le.rfl' _|refine Le.bd ?_ λ_=> ?_|refine Le.ite ?_ ?_|refine Le.ix λ_=> ?_|refine Le.loop λ_=> ?_|refine Le.bF (λ_=> ?_) _|refine Le.bG (λ_ _=> ?_) _ _|refine Le.sum (λ_=> ?_) (λ_=> ?_)|exact Le.rfl' _|intro _)
def ku (fuel:Nat)(sA:List aq)(v:aq):Option Int:=bd (jW fuel ((jm fuel) sA v) 0) λw=>
 match w with
 | .inl p1=>some (-1)
 | .inr p2=>some p2
theorem xi (fuel:Nat)(sA:List aq)(v:aq):Le (ku fuel sA v) (eD sA v):=by unfold ku eD;repeat' (first|with_reducible exact Le.rfl' _|with_reducible apply uF|refine Le.bd ?_ λ_=> ?_|refine Le.ite ?_ ?_|refine Le.ix λ_=> ?_|refine Le.loop λ_=> ?_|refine Le.bF (λ_=> ?_) _|refine Le.bG (λ_ _=> ?_) _ _|refine Le.sum (λ_=> ?_) (λ_=> ?_)|exact Le.rfl' _|intro _)
def iz (fuel:Nat)(sA:List aq)(v:aq):Option Bool:=bd ((ku fuel) sA v) λrA=>some (decide ((0:Int)<=rA))
theorem uk (fuel:Nat)(sA:List aq)(v:aq):Le (iz fuel sA v) (dE sA v):=by unfold iz dE;repeat' (first|with_reducible exact Le.rfl' _|with_reducible apply xi|refine Le.bd ?_ λ_=> ?_|refine Le.ite ?_ ?_|refine Le.ix λ_=> ?_|refine Le.loop λ_=> ?_|refine Le.bF (λ_=> ?_) _|refine Le.bG (λ_ _=> ?_) _ _|refine Le.sum (λ_=> ?_) (λ_=> ?_)|exact Le.rfl' _|intro _)
def Gf (fuel:Nat)(t:aX)(w:aq):Option (aX×Int):=bd ((n7 fuel) w.Path) λrA=>
 if !rA then
 some (t,13)
 else
 if w.Client<0 then
 some (t,1)
 else
 bd ((iz fuel) t.L w) λaB=>
 if aB then
 some (t,0)
 else
 if (200:Int)<=(t.L.length:Int) then
 some (t,9)
 else
 bd (jG 32 t.L) λbK=>
 if (bK.length+([w]:List aq).length) *32<=2^46 then
 some ((⟨bK++([w]:List aq)⟩:aX),0)
 else none
theorem Tl (fuel:Nat)(t:aX)(w:aq):Le (Gf fuel t w) (wO t w):=by unfold Gf wO;repeat' (first|with_reducible exact Le.rfl' _|with_reducible apply rm|with_reducible apply uk|refine Le.bd ?_ λ_=> ?_|refine Le.ite ?_ ?_|refine Le.ix λ_=> ?_|refine Le.loop λ_=> ?_|refine Le.bF (λ_=> ?_) _|refine Le.bG (λ_ _=> ?_) _ _|refine Le.sum (λ_=> ?_) (λ_=> ?_)|exact Le.rfl' _|intro _)
def qt (fuel:Nat)(w:ah):Option (Unit×ah):=bd ((Gf fuel) w.r.dp (⟨w.o.Path,w.o.Client,decide (w.o.Kind=11)⟩:aq)) λrA=>some ((),(⟨(⟨w.r.Shelf,w.r.c8,rA.1,w.r.Seen⟩:ax),w.o,(⟨w.x.Client,w.x.Seq,rA.2,w.x.Value,w.x.Version,w.x.Names⟩:ae),w.l⟩:ah))
theorem EO (fuel:Nat)(w:ah):Le (qt fuel w) (jM w):=by unfold qt jM;repeat' (first|with_reducible exact Le.rfl' _|with_reducible apply Tl|refine Le.bd ?_ λ_=> ?_|refine Le.ite ?_ ?_|refine Le.ix λ_=> ?_|refine Le.loop λ_=> ?_|refine Le.bF (λ_=> ?_) _|refine Le.bG (λ_ _=> ?_) _ _|refine Le.sum (λ_=> ?_) (λ_=> ?_)|exact Le.rfl' _|intro _)
def Dh (fuel:Nat):Option (List Nat):=some ([(105:Nat),(106:Nat),(107:Nat),(108:Nat),(109:Nat),(110:Nat),(111:Nat),(112:Nat),(113:Nat),(114:Nat),(115:Nat),(115:Nat)]:List Nat)
theorem Q9 (fuel:Nat):Le (Dh fuel) (tp):=by unfold Dh tp;repeat' (first|with_reducible exact Le.rfl' _|refine Le.bd ?_ λ_=> ?_|refine Le.ite ?_ ?_|refine Le.ix λ_=> ?_|refine Le.loop λ_=> ?_|refine Le.bF (λ_=> ?_) _|refine Le.bG (λ_ _=> ?_) _ _|refine Le.sum (λ_=> ?_) (λ_=> ?_)|exact Le.rfl' _|intro _)
def wb (fuel:Nat)(c:ay)(w:aq):Option Bool:=bd (if c.Kind<1 then
  some true
  else
  if (3:Int)<c.Kind then
  some true
  else
  bd ((n7 fuel) c.Path) λrA=>
  some (!rA):Option Bool) λw1=>
 if w1 then
 some false
 else
 if !w.Kids then
 some (decide (c.Path=w.Path))
 else
 bd ((vz fuel) c.Path) λaB=>
 bd (if aB.2=0 then
  if !decide (c.Kind=2) then
  some (decide (aB.1=w.Path))
  else
  some false
  else
  some false:Option Bool) λw2=>
 some w2
theorem KN (fuel:Nat)(c:ay)(w:aq):Le (wb fuel c w) (ni c w):=by unfold wb ni;repeat' (first|with_reducible exact Le.rfl' _|with_reducible apply rm|with_reducible apply EL|refine Le.bd ?_ λ_=> ?_|refine Le.ite ?_ ?_|refine Le.ix λ_=> ?_|refine Le.loop λ_=> ?_|refine Le.bF (λ_=> ?_) _|refine Le.bG (λ_ _=> ?_) _ _|refine Le.sum (λ_=> ?_) (λ_=> ?_)|exact Le.rfl' _|intro _)
def yP (fuel:Nat)(w:aq)(c:ay)(c1:List aO):Option (Bool×(List aO)):=bd ((wb fuel) c w) λrA=>
 bd (if rA then
  if (c1.length+([(⟨w,c⟩:aO)]:List aO).length) *56<=2^46 then
  some (c1++([(⟨w,c⟩:aO)]:List aO))
  else none
  else
  some c1:Option (List aO)) λw1=>
 some (rA,w1)
theorem Ma (fuel:Nat)(w:aq)(c:ay)(c1:List aO):Le (yP fuel w c c1) (o4 w c c1):=by unfold yP o4;repeat' (first|with_reducible exact Le.rfl' _|with_reducible apply KN|refine Le.bd ?_ λ_=> ?_|refine Le.ite ?_ ?_|refine Le.ix λ_=> ?_|refine Le.loop λ_=> ?_|refine Le.bF (λ_=> ?_) _|refine Le.bG (λ_ _=> ?_) _ _|refine Le.sum (λ_=> ?_) (λ_=> ?_)|exact Le.rfl' _|intro _)
def yQ (fuel:Nat)(lA:List ay)(st:(List aq)×(List aO)×Int):Option (((List aq)×(List aO)×Int)⊕((List aq)×(List aO))):=if st.2.2<(lA.length:Int) then
 ix lA st.2.2 λy=>
 bd (Ec (λu sA=>(yP fuel) u y sA) st.2.1 st.1) λaB=>
 some (.inl (aB.1,aB.2,bB .i64 (st.2.2+1)))
 else
 some (.inr (st.1,st.2.1))
theorem Mb (fuel:Nat)(lA:List ay)(st:(List aq)×(List aO)×Int):Le (yQ fuel lA st) (sd lA st):=by unfold yQ sd;repeat' (first|with_reducible exact Le.rfl' _|with_reducible apply Ma|refine Le.bd ?_ λ_=> ?_|refine Le.ite ?_ ?_|refine Le.ix λ_=> ?_|refine Le.loop λ_=> ?_|refine Le.bF (λ_=> ?_) _|refine Le.bG (λ_ _=> ?_) _ _|refine Le.sum (λ_=> ?_) (λ_=> ?_)|exact Le.rfl' _|intro _)
def Di (fuel:Nat)(t:aX)(lA:List ay):Option (aX×(List aO)):=bd (jG 32 t.L) λrA=>
 bd (jW fuel ((yQ fuel) lA) (rA,([]:List aO),0)) λw=>
 some ((⟨w.1⟩:aX),w.2)
theorem Ra (fuel:Nat)(t:aX)(lA:List ay):Le (Di fuel t lA) (tq t lA):=by unfold Di tq;repeat' (first|with_reducible exact Le.rfl' _|with_reducible apply Mb|refine Le.bd ?_ λ_=> ?_|refine Le.ite ?_ ?_|refine Le.ix λ_=> ?_|refine Le.loop λ_=> ?_|refine Le.bF (λ_=> ?_) _|refine Le.bG (λ_ _=> ?_) _ _|refine Le.sum (λ_=> ?_) (λ_=> ?_)|exact Le.rfl' _|intro _)
def wc (fuel:Nat)(k:Nat)(x0:ah):Option (Unit×ah):=if k=105 then (nZ fuel) x0 else if k=106 then (pB fuel) x0 else if k=107 then (ui fuel) x0 else if k=108 then (uj fuel) x0 else if k=109 then (pC fuel) x0 else if k=110 then (rJ fuel) x0 else if k=111 then (rK fuel) x0 else if k=112 then (qp fuel) x0 else if k=113 then (qq fuel) x0 else if k=114 then (rL fuel) x0 else if k=115 then (qt fuel) x0 else none
theorem KO (fuel:Nat)(k:Nat)(x0:ah):Le (wc fuel k x0) (nj k x0):=by unfold wc nj;repeat' (first|with_reducible exact Le.rfl' _|with_reducible apply BV|with_reducible apply C9|with_reducible apply HB|with_reducible apply HC|with_reducible apply Da|with_reducible apply Gc|with_reducible apply Gd|with_reducible apply EM|with_reducible apply EN|with_reducible apply Ge|with_reducible apply EO|refine Le.bd ?_ λ_=> ?_|refine Le.ite ?_ ?_|refine Le.ix λ_=> ?_|refine Le.loop λ_=> ?_|refine Le.bF (λ_=> ?_) _|refine Le.bG (λ_ _=> ?_) _ _|refine Le.sum (λ_=> ?_) (λ_=> ?_)|exact Le.rfl' _|intro _)
def A5 (fuel:Nat)(a:ax)(a1:ab):Option (ax×ae×(List aO)):=bd ((qm fuel) a a1) λrA=>
 if rA.2 then
 some (a,rA.1,([]:List aO))
 else
 bd ((Dh fuel)) λaB=>
 ix aB a1.Kind λy=>
 bd ((wc fuel) y (⟨a,a1,rA.1,([]:List ay)⟩:ah)) λbK=>
 bd ((Di fuel) bK.2.r.dp bK.2.l) λqC=>
 bd (jG 72 a.Seen) λHT=>
 bd ((mA fuel) a a1.Client) λHU=>
 bd (if HU.2 then
  ix HT HU.1 λy1=>
  some (bK.2.r.Shelf.L,bK.2.r.c8.jH,bK.2.r.c8.L,qC.1.L,HT.set (sh HU.1) bK.2.x,bK.2.o.Client,bK.2.o.Seq,bK.2.o.Kind,bK.2.o.Path,bK.2.o.Value,bK.2.o.Version,bK.2.o.Session,bK.2.o.Span,bK.2.x.Client,bK.2.x.Seq,bK.2.x.E,bK.2.x.Value,bK.2.x.Version,bK.2.x.Names,bK.2.l)
  else
  bd (u5 72 HT HU.1 ([bK.2.x]:List ae)) λzL=>
  some (bK.2.r.Shelf.L,bK.2.r.c8.jH,bK.2.r.c8.L,qC.1.L,zL,bK.2.o.Client,bK.2.o.Seq,bK.2.o.Kind,bK.2.o.Path,bK.2.o.Value,bK.2.o.Version,bK.2.o.Session,bK.2.o.Span,bK.2.x.Client,bK.2.x.Seq,bK.2.x.E,bK.2.x.Value,bK.2.x.Version,bK.2.x.Names,bK.2.l):Option ((List av)×Int×(List ak)×(List aq)×(List ae)×Int×Int×Int×(List UInt8)×(List UInt8)×Int×Int×Int×Int×Int×Int×(List UInt8)×Int×(List (List UInt8))×(List ay))) λw=>
 some ((⟨(⟨w.1⟩:ap),(⟨w.2.1,w.2.2.1⟩:aC),(⟨w.2.2.2.1⟩:aX),w.2.2.2.2.1⟩:ax),(⟨w.2.2.2.2.2.2.2.2.2.2.2.2.2.1,w.2.2.2.2.2.2.2.2.2.2.2.2.2.2.1,w.2.2.2.2.2.2.2.2.2.2.2.2.2.2.2.1,w.2.2.2.2.2.2.2.2.2.2.2.2.2.2.2.2.1,w.2.2.2.2.2.2.2.2.2.2.2.2.2.2.2.2.2.1,w.2.2.2.2.2.2.2.2.2.2.2.2.2.2.2.2.2.2.1⟩:ae),qC.2)
theorem O4 (fuel:Nat)(a:ax)(a1:ab):Le (A5 fuel a a1) (q8 a a1):=by unfold A5 q8;repeat' (first|with_reducible exact Le.rfl' _|with_reducible apply vt|with_reducible apply EK|with_reducible apply Q9|with_reducible apply Ra|with_reducible apply KO|refine Le.bd ?_ λ_=> ?_|refine Le.ite ?_ ?_|refine Le.ix λ_=> ?_|refine Le.loop λ_=> ?_|refine Le.bF (λ_=> ?_) _|refine Le.bG (λ_ _=> ?_) _ _|refine Le.sum (λ_=> ?_) (λ_=> ?_)|exact Le.rfl' _|intro _)
def yR (fuel:Nat)(lA:List ab)(st:(List av)×Int×(List ak)×(List aq)×(List ae)×(List ae)×(List aO)×Int):Option (((List av)×Int×(List ak)×(List aq)×(List ae)×(List ae)×(List aO)×Int)⊕((List av)×Int×(List ak)×(List aq)×(List ae)×(List ae)×(List aO))):=if st.2.2.2.2.2.2.2<(lA.length:Int) then
 ix lA st.2.2.2.2.2.2.2 λy=>
 bd ((A5 fuel) (⟨(⟨st.1⟩:ap),(⟨st.2.1,st.2.2.1⟩:aC),(⟨st.2.2.2.1⟩:aX),st.2.2.2.2.1⟩:ax) y) λzL=>
 if (st.2.2.2.2.2.1.length+([zL.2.1]:List ae).length) *72<=2^46 then
 if (st.2.2.2.2.2.2.1.length+zL.2.2.length) *56<=2^46 then
 some (.inl (zL.1.Shelf.L,zL.1.c8.jH,zL.1.c8.L,zL.1.dp.L,zL.1.Seen,st.2.2.2.2.2.1++([zL.2.1]:List ae),st.2.2.2.2.2.2.1++zL.2.2,bB .i64 (st.2.2.2.2.2.2.2+1)))
 else none
 else none
 else
 some (.inr (st.1,st.2.1,st.2.2.1,st.2.2.2.1,st.2.2.2.2.1,st.2.2.2.2.2.1,st.2.2.2.2.2.2.1))
theorem Mc (fuel:Nat)(lA:List ab)(st:(List av)×Int×(List ak)×(List aq)×(List ae)×(List ae)×(List aO)×Int):Le (yR fuel lA st) (se lA st):=by unfold yR se;repeat' (first|with_reducible exact Le.rfl' _|with_reducible apply O4|refine Le.bd ?_ λ_=> ?_|refine Le.ite ?_ ?_|refine Le.ix λ_=> ?_|refine Le.loop λ_=> ?_|refine Le.bF (λ_=> ?_) _|refine Le.bG (λ_ _=> ?_) _ _|refine Le.sum (λ_=> ?_) (λ_=> ?_)|exact Le.rfl' _|intro _)
def Dj (fuel:Nat)(rA:ax)(lA:List ab):Option (ax×(List ae)×(List aO)):=bd (jW fuel ((yR fuel) lA) (rA.Shelf.L,rA.c8.jH,rA.c8.L,rA.dp.L,rA.Seen,([]:List ae),([]:List aO),0)) λw=>some ((⟨(⟨w.1⟩:ap),(⟨w.2.1,w.2.2.1⟩:aC),(⟨w.2.2.2.1⟩:aX),w.2.2.2.2.1⟩:ax),w.2.2.2.2.2.1,w.2.2.2.2.2.2)
theorem Rb (fuel:Nat)(rA:ax)(lA:List ab):Le (Dj fuel rA lA) (tu rA lA):=by unfold Dj tu;repeat' (first|with_reducible exact Le.rfl' _|with_reducible apply Mc|refine Le.bd ?_ λ_=> ?_|refine Le.ite ?_ ?_|refine Le.ix λ_=> ?_|refine Le.loop λ_=> ?_|refine Le.bF (λ_=> ?_) _|refine Le.bG (λ_ _=> ?_) _ _|refine Le.sum (λ_=> ?_) (λ_=> ?_)|exact Le.rfl' _|intro _)
def A6 (fuel:Nat)(rA:ax)(sA:List UInt8):Option (ax×(List ae)×Int):=bd ((sD fuel) sA) λaB=>
 if !decide (aB.2=0) then
 some (rA,([]:List ae),aB.2)
 else
 bd ((Dj fuel) rA aB.1) λbK=>
 some (bK.1,bK.2.1,0)
theorem O5 (fuel:Nat)(rA:ax)(sA:List UInt8):Le (A6 fuel rA sA) (q9 rA sA):=by unfold A6 q9;repeat' (first|with_reducible exact Le.rfl' _|with_reducible apply Ce|with_reducible apply Rb|refine Le.bd ?_ λ_=> ?_|refine Le.ite ?_ ?_|refine Le.ix λ_=> ?_|refine Le.loop λ_=> ?_|refine Le.bF (λ_=> ?_) _|refine Le.bG (λ_ _=> ?_) _ _|refine Le.sum (λ_=> ?_) (λ_=> ?_)|exact Le.rfl' _|intro _)
def NA (fuel:Nat):Option Bool:=bd ((yD fuel) ([(⟨1,1,1,([47,97]:List UInt8),([]:List UInt8),0,0,0⟩:ab)]:List ab)) λrA=>
 bd ((F3 fuel)) λaB=>
 bd ((A6 fuel) aB rA.1) λbK=>
 bd ((sD fuel) ([]:List UInt8)) λqC=>
 bd (if rA.2=0 then
  if bK.2.2=0 then
  if (bK.2.1.length:Int)=1 then
  if (bK.1.Shelf.L.length:Int)=2 then
  some (decide (qC.2=3))
  else
  some false
  else
  some false
  else
  some false
  else
  some false:Option Bool) λw=>
 some w
theorem Tn (fuel:Nat):Le (NA fuel) (qg):=by unfold NA qg;repeat' (first|with_reducible exact Le.rfl' _|with_reducible apply Tg|with_reducible apply L0|with_reducible apply Ce|with_reducible apply O5|refine Le.bd ?_ λ_=> ?_|refine Le.ite ?_ ?_|refine Le.ix λ_=> ?_|refine Le.loop λ_=> ?_|refine Le.bF (λ_=> ?_) _|refine Le.bG (λ_ _=> ?_) _ _|refine Le.sum (λ_=> ?_) (λ_=> ?_)|exact Le.rfl' _|intro _)
theorem Tp:qg=some true:=Tn 200 _ (by decide+kernel)
end Dn.S
