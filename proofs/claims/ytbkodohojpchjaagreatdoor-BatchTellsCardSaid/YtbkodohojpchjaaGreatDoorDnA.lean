import GoSem.Dispatch
import Derived.Orders
import Derived.Calls
import Derived.Laws.AppendOwn
import Derived.Laws.AppendOwnNone
import Derived.Deep.MidRow
import Derived.Laws.Strings
import Derived.Laws.Tables
import Derived.Great.FillDense
import Derived.Maps.AppendAt
/-
  An abstract run of Go functions over values that no one changes: definitions. Conditions: none.
-/
set_option linter.unusedVariables false
set_option linter.unusedSectionVars false
set_option linter.unusedSimpArgs false
open Nat renaming beq→aQ,eq_of_beq_eq_true→sh,ble→aag,zero_add→aah,le_refl→aai,mul_le_mul_right→aaj,succ_mul→aaw,add_zero→aaP,le_of_ble_eq_true→aa1,add_assoc→abe,add_mul→abg,le_mul_of_pos_right→abU,le_trans→abW,ble_eq_true_of_le→acd,add_comm→acL,zero_mul→acP,zero_le→adC
open List renaming append_assoc→AI,getElem?_eq_some_iff→AT,eq_nil_of_length_eq_zero→BY,length_append→IN,getElem?_eq_getElem→IT,getElem?_append_right→No,map_cons→OF,getElem?_append_left→aaa,getElem?_map→aak,mem_cons→aan,getElem?_take→aat,drop_left'→aaD,length_eq_one_iff→aaN,take_of_length_le→aaU,size_toArray→aaW,getElem?_eq_none→aa4,take_append→aa8,length_take→abc,take_left'→abj,mem_map→abn,take_left→abw,extract_eq_take_drop→abA,drop_append→abI,length_drop→abL,drop_of_length_le→ab0,mem_append→ab5,nil_append→ab9,length_set→aca,mem_iff_getElem→acv,getElem?_drop→acF,getD→ac7,all_eq_true→ac9,getElem_mem→ada,nodup_cons→adD,append_nil→adE,replicate→adG,map→adH,drop_left→adK,drop_take→adL,map_nil→adN
open Bool renaming and_eq_true→AS,or_eq_false_iff→aam,not_eq_false'→abv,not_false→adJ
open Option.some renaming injEq→By
open Go.Value renaming oneCell'→aab,ownBlock→aac,cells→aaf,slice→aap,int→adM
open Go.Builtin renaming append_→aad,firstCells→aaE,zeroCells→aa0,nextslicecap→abh
open Go.Instr renaming sliceBounds→aae,sureAddr→aaO,sliceBound→aa6,loadAt→abr,storeAt→abC,fill→ab1,indexAt→acB,sliceAt→acC,slice→adu
open Go renaming sizeOf→aal,maxLen→adb,part→adF
open Array renaming length_toList→aao,toList_inj→abH,toList_extract→acx,toList_append→acA,size_append→ac6
open Go.Addr renaming add_mid→aas
open List.cons renaming injEq→aau
open Go.World renaming cell?_of_block→aav,block_lt_of_cell?→abF
open BitVec renaming ofInt→aaL
open Go.Op renaming intCmp→abG,bytesLess→abV,intArith→acj,equal→adI
open Go.Sem renaming run_bind→abY
open ByteArray renaming data_extract→abZ
open Go.Oper renaming upon_value→ab8,wp→adO
open UInt8 renaming ofNat→adP
open Go.Utf8 renaming decode→adQ
namespace Dn
noncomputable section
open Go
abbrev Pn:=List Int
abbrev zA (n:Nat):List Int:=adG (n+2) 0
inductive MV where
 |b (x:Bool)
 |i (k:IntKind) (n:Int)
 |s (l:List UInt8)
 |h (k:IntKind) (n:Nat) (x:List Int)
 |raw (v:Value)
 |list (xs:List MV)
 |agg (cs:List MV)
 |cG (vs:List MV)
 |func (f:Nat) (cap:List MV)
 |rp (cs:List MV)
 |fresh (xs:List MV)
 |cell (m:MV)
 |gk (r:MV) (outs:List MV)
 |clip (xs:List MV)
instance:Inhabited MV:=⟨.b false⟩
mutual
def MV.w:MV->Nat
 | .h _ n _=>n+2
 | .agg cs=>MV.wl cs
 |_=>1
def MV.wl:List MV->Nat
 |[]=>0
 |m::r=>m.w+MV.wl r
end
def fZ (n:Nat)(l:List MV):Bool:=l.all λm=>aQ m.w n
inductive Kd where
 |b|i (k:IntKind)|s|l|h (k:IntKind) (n:Nat)|raw
structure MS where
 st:Bool
 lay:List Kd
 b:Bool
def MS.it:MS:=⟨true,[],true⟩
def zp (s:MS):Bool:=match s.lay with
 |[]=>s.st
 |_=>false
inductive ak where
 |un
 |p (m:MV)
 |hs (k:IntKind) (n:Nat) (x:List Int)
 |nil
 |own (dV:Nat)
 |mp (s:MS) (es:List MV)
def ak.w:ak->Nat
 | .hs _ n _=>n+2
 |_=>1
inductive Slot where
 |skip
 |sc (l:ak)
 |ag (cs:List ak)
 |tg (cs:List ak)
 |cG (vs:List Slot)
 |box (cs:List ak)
 |rq (cs:List ak)
 |ptr (root off:Nat)
 |rr (root:Nat)
 |rp (cs:List ak) (off:Nat)
 |hp (root off n:Nat) (i:Nat)
 |ep (dV:Nat) (i:Nat) (off:Nat) (st:Bool) (cs:List ak)
abbrev Fr:=List (Nat×Slot)
structure TI where
 st:Bool
 size:Nat
 bytes:Nat
 lay:List Kd
 zero:List ak
 zq:List Nat
 M9:List Nat
 elem:Nat
 bB:List Nat
section
variable {R:Type}
def gB (m:MV)(K:Bool->Option R):Option R:=match m with| .b x=>K x|_=>none
def gI (k:IntKind)(m:MV)(K:Int->Option R):Option R:=match m with| .i k' n=>bif decide (k'=k) then K n else none|_=>none
def gS (m:MV)(K:List UInt8->Option R):Option R:=match m with| .s l=>K l|_=>none
def gL (m:MV)(K:List MV->Option R):Option R:=match m with| .list l=>K l|_=>none
def gH (k:IntKind)(n:Nat)(m:MV)(K:List Int->Option R):Option R:=match m with| .h k' n' l=>bif decide (k'=k)&&aQ n' n then K l else none|_=>none
def gA (m:MV)(K:List MV->Option R):Option R:=match m with| .agg l=>K l|_=>none
def gT (m:MV)(K:List MV->Option R):Option R:=match m with| .cG l=>K l|_=>none
def gF (m:MV)(K:List MV->Option R):Option R:=match m with| .fresh l=>K l|_=>none
def ZO (m:MV)(K:List MV->Option R):Option R:=match m with| .clip l=>K l|_=>none
def gFn (m:MV)(K:Nat->List MV->Option R):Option R:=match m with| .func f c=>K f c|_=>none
def gW (m:MV)(K:MV->List MV->Option R):Option R:=match m with| .gk r outs=>K r outs|_=>none
def gP (m:MV)(K:List MV->Option R):Option R:=match m with| .rp c=>K c|_=>none
def gCx (m:MV)(K:Nat->Nat->Option R):Option R:=match m with| .raw (.complex .f64 a b)=>K a b|_=>none
def gR (m:MV)(K:MV->Option R):Option R:=match m with| .raw v=>K (.raw v)| .func f c=>K (.func f c)| .rp c=>K (.rp c)|_=>none
def gC (l:List MV)(K:MV->List MV->Option R):Option R:=match l with|m::r=>K m r|[]=>none
def gN (l:List MV)(K:Option R):Option R:=match l with|[]=>K|_=>none
def bd {α:Type}(x:Option α)(K:α->Option R):Option R:=match x with|some a=>K a|none=>none
def Xu (l:List MV)(i:Int):Option MV:=if 0<=i then l[i.toNat]? else none
def idx (l:List MV)(i:Int)(K:MV->Option R):Option R:=match Xu l i with|some x=>K x|none=>none
def aY (c:Bool)(K:Option R):Option R:=match c with|true=>K|false=>none
def bT (c:Bool)(x y:Option R):Option R:=match c with|true=>x|false=>y
def O7:List Nat->Nat->(Nat->Option R)->Option R
 |[],_,_=>none
 |[p],e,K=>bif aQ e p then K p else none
 |p::q::r,e,K=>bif aQ e p then K p else O7 (q::r) e K
def eA (k:Kd)(m:MV)(K:ak->Option R):Option R:=match k with
 | .b=>gB m λx=>K (.p (.b x))
 | .i k=>gI k m λx=>K (.p (.i k x))
 | .s=>gS m λx=>K (.p (.s x))
 | .l=>gL m λx=>K (.p (.list x))
 | .h k n=>gH k n m λx=>K (.hs k n x)
 | .raw=>gR m λm=>K (.p m)
def mZ:List Kd->List MV->(List ak->Option R)->Option R
 |[],l,K=>gN l (K [])
 |k::ks,l,K=>gC l λm r=>eA k m λx=>mZ ks r λxs=>K (x::xs)
end
def iter {σ R:Type}(body:σ->Option (Sum σ R)):Nat->σ->Option R
 |0,_=>none
 |n+1,s=>match body s with
  |some (.inl s')=>iter body n s'
  |some (.inr r)=>some r
  |none=>none
open Classical in
def lm {σ R:Type}(k:Nat)(body:σ->Option (Sum σ R))(s:σ):Option R:=match iter body k s with
 |some r=>some r
 |none=>if h: ∃r n,iter body n s=some r then some (Classical.choose h) else none
def Loop {σ R:Type}(body:σ->Option (Sum σ R))(s:σ):Option R:=lm 0 body s
mutual
def MV.same:MV->MV->Bool
 | .b x,.b y=>x==y
 | .i k n,.i k' n'=>decide (k=k')&&decide (n=n')
 | .s l,.s l'=>decide (l=l')
 | .h k n x,.h k' n' y=>decide (k=k')&&(aQ n n'&&decide (x=y))
 | .list xs,.list ys=>MV.qG xs ys
 | .agg xs,.agg ys=>MV.qG xs ys
 | .cG xs,.cG ys=>MV.qG xs ys
 | .func f xs,.func g ys=>aQ f g&&MV.qG xs ys
 | .rp xs,.rp ys=>MV.qG xs ys
 | .fresh xs,.fresh ys=>MV.qG xs ys
 | .cell x,.cell y=>MV.same x y
 | .gk x xs,.gk y ys=>MV.same x y&&MV.qG xs ys
 | .clip xs,.clip ys=>MV.qG xs ys
 |_,_=>false
def MV.qG:List MV->List MV->Bool
 |[],[]=>true
 |x::xs,y::ys=>MV.same x y&&MV.qG xs ys
 |_,_=>false
end
class vJ (R:Type) where
 eq:R->R->Bool
 ok: ∀{a b:R},eq a b=true->a=b
mutual
theorem MV.zX: ∀{a b:MV},MV.same a b=true->a=b
 | .b _,.b _,e=>by simp only [MV.same,beq_iff_eq] at e;rw [e]
 | .i _ _,.i _ _,e=>by simp only [MV.same,AS,decide_eq_true_eq] at e;rw [e.1,e.2]
 | .s _,.s _,e=>by simp only [MV.same,decide_eq_true_eq] at e;rw [e]
 | .h _ _ _,.h _ _ _,e=>by simp only [MV.same,AS,decide_eq_true_eq] at e;rw [e.1,sh e.2.1,e.2.2]
 | .list _,.list _,e=>by simp only [MV.same] at e;rw [MV.iH e]
 | .agg _,.agg _,e=>by simp only [MV.same] at e;rw [MV.iH e]
 | .cG _,.cG _,e=>by simp only [MV.same] at e;rw [MV.iH e]
 | .func _ _,.func _ _,e=>by simp only [MV.same,AS] at e;rw [sh e.1,MV.iH e.2]
 | .rp _,.rp _,e=>by simp only [MV.same] at e;rw [MV.iH e]
 | .fresh _,.fresh _,e=>by simp only [MV.same] at e;rw [MV.iH e]
 | .cell _,.cell _,e=>by simp only [MV.same] at e;rw [MV.zX e]
 | .gk _ _,.gk _ _,e=>by simp only [MV.same,AS] at e;rw [MV.zX e.1,MV.iH e.2]
 | .clip _,.clip _,e=>by simp only [MV.same] at e;rw [MV.iH e]
theorem MV.iH: ∀{a b:List MV},MV.qG a b=true->a=b
 |[],[],_=>rfl
 |_::_,_::_,e=>by simp only [MV.qG,AS] at e;rw [MV.zX e.1,MV.iH e.2]
end
instance:vJ MV:=⟨MV.same,MV.zX⟩
instance:vJ (List MV):=⟨MV.qG,MV.iH⟩
instance:vJ Nat:=⟨aQ,sh⟩
instance:vJ Unit:=⟨λ_ _=>true,λ_=>rfl⟩
instance {A B:Type} [vJ A] [vJ B]:vJ (A×B):=⟨λx y=>vJ.eq x.1 y.1&&vJ.eq x.2 y.2,λ{a b} h=>by simp only [AS] at h;exact Prod.ext (vJ.ok h.1) (vJ.ok h.2)⟩
instance {A B:Type} [vJ A] [vJ B]:vJ (Sum A B):=⟨λx y=>match x,y with| .inl a,.inl b=>vJ.eq a b| .inr a,.inr b=>vJ.eq a b|_,_=>false,λ{a b} h=>by cases a<;>cases b<;>simp only at h<;>first|cases h;done|rw [vJ.ok h]⟩
def Po {R:Type} [vJ R]:Option R->Option R->Bool
 |some a,some b=>vJ.eq a b
 |_,_=>false
open Classical in
def both {R:Type} [vJ R](x y:Option R):Option R:=bif Po x y then x else if x=y then x else none
theorem TF {R:Type} [vJ R]{x y:Option R}:both x y=open Classical in if x=y then x else none:=by
 unfold both;cases hs:Po x y with
 |false=>rfl
 |true=>
  have e:x=y:=by
   unfold Po at hs;split at hs
   ·rw [vJ.ok hs]
   ·cases hs
  rw [if_pos e];rfl
def ah:Fr->Nat->Slot
 |[],_=> .sc .un
 |(k,s)::r,t=>bif aQ k t then s else ah r t
def Du {R:Type}:Fr->Nat->Slot->(Fr->Option R)->Option R
 |[],t,v,K=>K [(t,v)]
 |(k,s)::r,t,v,K=>bif aQ k t then K ((k,v)::r) else Du r t v λr=>K ((k,s)::r)
def force {R:Type}(s:Slot)(K:Slot->Option R):Option R:=match s with
 | .skip=>K .skip
 | .sc l=>K (.sc l)
 | .ag cs=>K (.ag cs)
 | .tg cs=>K (.tg cs)
 | .cG vs=>K (.cG vs)
 | .box cs=>K (.box cs)
 | .rq cs=>K (.rq cs)
 | .ptr r o=>K (.ptr r o)
 | .rr r=>K (.rr r)
 | .rp cs o=>K (.rp cs o)
 | .hp r o n i=>K (.hp r o n i)
 | .ep f i o b cs=>K (.ep f i o b cs)
def aP:List Nat->Nat->Bool
 |[],_=>false
 |k::r,t=>bif aQ k t then true else aP r t
def ru (t:Nat):Bool:=aag 1000000 t
def posOf (t:Nat):Nat:=(t-1000000)%1000
def HF (t:Nat):Nat:=(t-1000000)/1000
def plk:List (Nat×Nat)->Nat->Option Nat
 |[],_=>none
 |(k,x)::r,t=>bif aQ k t then some x else plk r t
def b8:Slot->Bool
 | .ptr _ _| .hp _ _ _ _| .ep _ _ _ _ _| .rp _ _| .rr _=>true
 |_=>false
def ov {R:Type}(ds:List Nat):Fr->(Fr->Option R)->Option R
 |[],K=>K []
 |(k,s)::r,K=>bif b8 s||aP ds k then ov ds r K else ov ds r λr=>K ((k,s)::r)
def bP:Slot->Bool
 | .box _| .rq _=>true
 |_=>false
def pick {R:Type}(ks:List Nat):Fr->(Fr->Option R)->Option R
 |[],K=>K []
 |(k,s)::r,K=>bif aP ks k&&!b8 s then pick ks r λr=>K ((k,s)::r) else pick ks r K
structure jb where
 ty:Nat
 cB:Bool
 xs:List MV
structure St where
 bI:List Nat
 bF:List Nat
 fr:Fr
 az:List (Nat×jb)
def ar:List (Nat×jb)->Nat->Option jb
 |[],_=>none
 |(k,s)::r,t=>bif aQ k t then some s else ar r t
def HG {R:Type}:List (Nat×jb)->Nat->jb->(List (Nat×jb)->Option R)->Option R
 |[],t,v,K=>K [(t,v)]
 |(k,s)::r,t,v,K=>bif aQ k t then K ((k,v)::r) else HG r t v λr=>K ((k,s)::r)
def kB (a b:IntKind):Bool:=decide (a=b)
def Wg:Kd->Kd->Bool
 | .b,.b=>true
 | .i k,.i k'=>kB k k'
 | .s,.s=>true
 | .l,.l=>true
 | .h k n,.h k' n'=>kB k k'&&aQ n n'
 | .raw,.raw=>true
 |_,_=>false
def zt:List Kd->List Kd->Bool
 |[],[]=>true
 |x::xs,y::ys=>Wg x y&&zt xs ys
 |_,_=>false
def ZP (s t:MS):Bool:=(s.st==t.st)&&(zt s.lay t.lay&&(s.b==t.b))
def na {R:Type}(f:Nat):List ak->(List ak->Option R)->Option R
 |[],K=>K []
 |l::r,K=>(match l with
  | .own g=>bif aQ g f then na f r λr=>K (.un::r) else na f r λr=>K (.own g::r)
  |l=>na f r λr=>K (l::r))
def Ar {R:Type}(f:Nat)(s:Slot)(K:Slot->Option R):Option R:=match s with
 | .sc (.own g)=>bif aQ g f then K (.sc .un) else K (.sc (.own g))
 | .ag cs=>na f cs λcs=>K (.ag cs)
 | .tg cs=>na f cs λcs=>K (.tg cs)
 | .box cs=>na f cs λcs=>K (.box cs)
 | .ep g i o b cs=>bif aQ g f then K (.sc .un) else K (.ep g i o b cs)
 |s=>K s
def kFr {R:Type}(f:Nat):Fr->(Fr->Option R)->Option R
 |[],K=>K []
 |(k,s)::r,K=>Ar f s λs=>kFr f r λr=>K ((k,s)::r)
section
variable {R:Type}
def gl (st:St)(l:ak)(K:MV->St->Option R):Option R:=match l with
 | .un=>none
 | .p m=>K m st
 | .hs k n x=>K (.h k n x) st
 | .nil=>K (.list []) st
 | .mp _ _=>none
 | .own f=>match ar st.az f with
  |some o=>bif o.cB then K (.list o.xs) st else bif aP st.bF f then none else (match st with|⟨p,q,r,m⟩=>HG m f ⟨o.ty,true,o.xs⟩ λm=>K (.list o.xs) ⟨p,q,r,m⟩)
  |none=>none
def kJ (st:St):List ak->(List MV->St->Option R)->Option R
 |[],K=>K [] st
 |l::r,K=>gl st l λm st=>kJ st r λms st=>K (m::ms) st
def gm (st:St)(s:Slot)(K:MV->St->Option R):Option R:=match s with
 | .sc l=>gl st l K
 | .ag cs=>kJ st cs λms st=>K (.agg ms) st
 | .rp cs off=>bif aQ off 0 then kJ st cs λms st=>K (.rp ms) st else none
 |_=>none
def pK (st:St):List Slot->(List MV->St->Option R)->Option R
 |[],K=>K [] st
 |l::r,K=>gm st l λm st=>pK st r λms st=>K (m::ms) st
end
def rv:List ak->Nat
 |[]=>0
 |k::r=>k.w+rv r
def cut:List ak->Nat->Option (List ak)
 |cs,0=>some cs
 |c::cs,n+1=>bif aag c.w (n+1) then cut cs (n+1-c.w) else none
 |_,_=>none
def HH:List ak->Nat->Option (List ak)
 |_,0=>some []
 |c::cs,n+1=>bif aag c.w (n+1) then (match HH cs (n+1-c.w) with|some b=>some (c::b)|none=>none) else none
 |_,_=>none
def part (cs:List ak)(off n:Nat):Option (List ak):=match cut cs off with
 |some a=>HH a n
 |none=>none
def over:List ak->List ak->Option (List ak)
 |[],cs=>some cs
 |v::vs,c::cs=>bif aQ v.w c.w then (match over vs cs with|some r=>some (v::r)|none=>none) else none
 |_,[]=>none
def putAt:List ak->Nat->List ak->Option (List ak)
 |cs,0,vs=>over vs cs
 |c::cs,n+1,vs=>bif aag c.w (n+1) then (match putAt cs (n+1-c.w) vs with|some r=>some (c::r)|none=>none) else none
 |_,_,_=>none
def app {α:Type}:List α->List α->Option (List α)
 |[],l=>some l
 |x::r,l=>(match app r l with|some q=>some (x::q)|none=>none)
def HI:ak->Bool
 | .un=>true
 | .mp _ _=>true
 |_=>false
def cR:List ak->Bool
 |[.mp _ _]=>true
 |_=>false
def xB:Slot->Bool
 | .box cs=>!cR cs
 |_=>false
def As {R:Type}(ok:Nat->Bool)(r0:Fr):Fr->Fr->(Fr->Option R)->Option R
 |[],fr,K=>K fr
 |(t,s)::r,fr,K=>match s with
  | .ptr root off=>bif ok t&&(!ru root&&(xB (ah r0 root)&&(xB (ah fr root)&&!bP (ah fr t)))) then Du fr t (.ptr root off) λfr=>As ok r0 r fr K else As ok r0 r fr K
  |_=>As ok r0 r fr K
def gn:List ak->Bool
 |[.mp s _]=>!zp s
 |_=>false
def ox:List ak->Bool
 |[]=>false
 |l::r=>bif HI l then true else ox r
def ZQ {R:Type}(f:Nat):Fr->(Fr->Option R)->Option R
 |[],K=>K []
 |(k,s)::r,K=>(match s with
  | .ep g i o b cs=>bif aQ g f then ZQ f r λr=>K ((k,.sc .un)::r) else ZQ f r λr=>K ((k,.ep g i o b cs)::r)
  |s=>ZQ f r λr=>K ((k,s)::r))
inductive LK where
 |k (x:Kd)
 |own (f:Nat) (ty:Nat) (cB:Bool)
inductive OK where
 |sc (l:LK)
 |ag (ls:List LK)
 |box (ls:List LK)
 |mp (s:MS)
 |pt (root off:Nat)
structure eY where
 bI:List Nat
 bF:List Nat
 outs:List (Nat×OK)
 exo:List (Nat×List (Nat×OK))
 cB:List Nat
instance:Inhabited eY:=⟨⟨[],[],[],[],[]⟩⟩
def Pp:List (Nat×List (Nat×OK))->Nat->List (Nat×OK)
 |[],_=>[]
 |(k,l)::r,e=>bif aQ k e then l else Pp r e
def eY.ex (h:eY)(e:Nat):List (Nat×OK):=Pp h.exo e
def LI:List (Nat×List (Nat×OK))->List (Nat×OK)
 |[]=>[]
 |(_,l)::r=>l++LI r
def eY.all (h:eY):List (Nat×OK):=h.outs++LI h.exo
structure Ctx where
 ti:Nat->Option TI
 key:Nat->Nat
 g:Nat->List MV->Option MV
 bQ:Nat->Bool
 fresh:Nat->Bool
 ga:Nat->Nat
 sig:Nat->Option (Nat×List LK×List LK)
 par:List (Nat×Nat)
 n:Nat
 bs:List Nat
 fl:List Nat
 fz:Nat->List Nat
 fk:Nat->Option FloatKind
 mt:Nat->Option (Nat×Bool)
 ord:Nat->List Nat
 gQ:Nat->eY
 iF:Nat->eY
 il:Nat->eY
 FW:Nat->Bool
 dyn:List Nat
 fuel:Nat
def Ctx.tv (c:Ctx)(t:Nat):Option TI:=match c.ti t with|some I=>(match I.bB with|[]=>some I|_=>none)|none=>none
def th:Value->Slot
 | .bool b=> .sc (.p (.b b))
 | .int k n=> .sc (.p (.i k n))
 | .string s=> .sc (.p (.s s.data.toList))
 | .slice none 0 0=> .sc .nil
 | .float k b=> .sc (.p (.raw (.float k b)))
 | .complex k a b=> .sc (.p (.raw (.complex k a b)))
 | .pointer none=> .sc (.p (.raw (.pointer none)))
 | .nilFunc=> .sc (.p (.raw .nilFunc))
 | .nilIface=> .sc (.p (.raw .nilIface))
 |_=> .sc .un
def aq (c:Ctx)(st:St):Operand->Slot
 | .tmp t=>match plk c.par t with
  |some q=>bif ru q&&aQ (posOf q) t then (match ah st.fr q with| .box cs=>bif cR cs then .sc .un else .ptr q (HF q)|_=> .sc .un) else .sc .un
  |none=>match ah st.fr t with
   | .box cs=>bif ru t then .sc .un else bif gn cs then .rr t else .ptr t 0
   | .rq cs=> .rp cs 0
   |s=>s
 | .const v=>th v
 | .func f=> .sc (.p (.func (c.key f) []))
 | .global _=> .sc .un
def eB (c:Ctx)(st:St):List Operand->List Slot
 |[]=>[]
 |o::r=>aq c st o::eB c st r
section
variable {R:Type}
def wr (st:St)(d:Nat)(s:Slot)(K:St->Option R):Option R:=bif aP st.bI d then none else (match st with|⟨p,q,r,m⟩=>force s λs=>Du r d s λr=>K ⟨p,q,r,m⟩)
def aG (c:Ctx)(st:St)(d:Option Nat)(s:Slot)(K:St->Option R):Option R:=match d with
 |some d=>bif ru d||(aag c.n d||bP (ah st.fr d)) then none else wr st d s K
 |none=>K st
def dW (st:St)(f:Nat)(o:jb)(K:St->Option R):Option R:=bif aP st.bF f then none else (match st with|⟨p,q,r,m⟩=>kFr f r λr=>HG m f o λm=>K ⟨p,q,r,m⟩)
def eC (I:TI)(cs:List ak)(off:Nat)(K:Slot->Option R):Option R:=bif I.st then (match part cs off I.size with|some a=>K (.ag a)|none=>none)
 else (match cut cs off with|some (l::_)=>bif aQ l.w I.size then K (.sc l) else none|_=>none)
def ldK (st:St)(I:TI)(a:Slot)(K:Slot->Option R):Option R:=match a with
 | .ptr root off=>match ah st.fr root with
  | .box cs=>bif cR cs then none else eC I cs off K
  |_=>none
 | .rp cs off=>eC I cs off K
 | .ep f _ off _ cs=>(match ar st.az f with|some _=>eC I cs off K|none=>none)
 | .hp root off n i=>bif I.st||!aQ I.size 1 then none else (match ah st.fr root with
  | .box cs=>bif cR cs then none else (match cut cs off with|some (.hs k n' x::_)=>bif aQ n' n then K (.sc (.p (.i k (x.getD i 0)))) else none|_=>none)
  |_=>none)
 |_=>none
def av:Slot->List ak
 | .sc l=>[l]
 | .ag cs=>cs
 |_=>[]
def aW:List ak->Option (List MV)
 |[]=>some []
 |l::r=>match l,aW r with
  | .p m,some q=>some (m::q)
  | .hs k n x,some q=>some (.h k n x::q)
  |_,_=>none
def lh:List ak->List MV->Option (List ak)
 |[],[]=>some []
 | .hs k n x::r,_::ms=>(match lh r ms with|some q=>some (.hs k n x::q)|none=>none)
 |_::r,m::ms=>(match lh r ms with|some q=>some (.p m::q)|none=>none)
 |_,_=>none
def nQ (b:Bool)(cs:List MV):Option MV:=match b,cs with
 |false,[m]=>some m
 |true,cs=>some (.agg cs)
 |_,_=>none
def isByte (n:Int):Bool:=decide (n=((adP n.toNat).toNat:Int))
def stK (st:St)(I:TI)(a v:Slot)(K:St->Option R):Option R:=bif ox (av v)||!aQ (rv (av v)) I.size then none else
 match a with
 | .ptr root off=>match ah st.fr root with
  | .box cs=>bif cR cs then none else (match putAt cs off (av v) with|some dj=>wr st root (.box dj) K|none=>none)
  |_=>none
 | .hp root off n i=>match ah st.fr root,v with
  | .box cs,.sc (.p m)=>bif cR cs then none else (match cut cs off with
   |some (.hs k n' x::_)=>bif aQ n' n then gI k m λv=>(match putAt cs off [.hs k n' (x.set i v)] with|some dj=>wr st root (.box dj) K|none=>none) else none
   |_=>none)
  |_,_=>none
 | .ep f i off b cs=>kJ st (av v) λms st=>match ar st.az f with
  |some o=>bif o.cB then none else
   (match lh (av v) ms with
   |some vs=>(match putAt cs off vs with
    |some dj=>(match aW dj with
     |some ms'=>(match nQ b ms' with
      |some x=>bif aP st.bF f then none else
       (match st with|⟨p,q,r,m⟩=>ZQ f r λr=>HG m f ⟨o.ty,false,o.xs.set i x⟩ λm=>K ⟨p,q,r,m⟩)
      |none=>none)
     |none=>none)
    |none=>none)
   |none=>none)
  |none=>none
 |_=>none
def FX (I:TI)(x:MV)(K:List ak->Option R):Option R:=bif I.st then gA x λcs=>mZ I.lay cs K
 else match I.lay with
  |[k]=>eA k x λx=>K [x]
  |_=>none
def nb (I:TI)(x:MV)(K:Slot->Option R):Option R:=bif I.st then gA x λcs=>mZ I.lay cs λcs=>K (.ag cs)
 else match I.lay with
  |[k]=>eA k x λx=>K (.sc x)
  |_=>none
def rz (c:Ctx):List Nat->List MV->(List Slot->Option R)->Option R
 |[],l,K=>gN l (K [])
 |t::ts,l,K=>match c.tv t with
  |some I=>gC l λm r=>nb I m λs=>rz c ts r λss=>K (s::ss)
  |none=>none
def lr (c:Ctx)(I:TI)(x:MV)(K:Slot->Option R):Option R:=match I.bB with
 |[]=>nb I x K
 |ts=>gT x λvs=>rz c ts vs λss=>K (.cG ss)
def xC:ak->ak->Option Bool
 | .p (.b x),.p (.b y)=>some (decide (x=y))
 | .p (.i k x),.p (.i k' y)=>bif decide (k=k') then some (decide (x=y)) else none
 | .p (.s x),.p (.s y)=>some (decide (x=y))
 | .hs k n x,.hs k' n' y=>bif decide (k=k')&&aQ n n' then some (decide (x=y)) else none
 |_,_=>none
def eD:List ak->List ak->Option Bool
 |[],[]=>some true
 |[x],[y]=>xC x y
 |x::xs,y::ys=>match xC x y,eD xs ys with
  |some a,some b=>some (a&&b)
  |_,_=>none
 |_,_=>none
def FY (op:BinOp)(x y:List UInt8):Option MV:=match op with
 | .eql=>some (.b (decide (x=y)))
 | .neq=>some (.b (!decide (x=y)))
 | .lss=>some (.b (abV x y))
 | .gtr=>some (.b (!(abV x y||decide (x=y))))
 | .leq=>some (.b (abV x y||decide (x=y)))
 | .geq=>some (.b (!abV x y))
 |_=>none
def cH (k:IntKind)(x y:Int):Int:=k.wrap ((aaL k.bits x&&&aaL k.bits y).toNat:Int)
def pG (k:IntKind)(x y:Int):Int:=k.wrap ((aaL k.bits x|||aaL k.bits y).toNat:Int)
def bn (k:IntKind)(x y:Int):Int:=k.wrap ((aaL k.bits x^^^aaL k.bits y).toNat:Int)
def LJ (op:BinOp)(k:IntKind)(x y:Int):Option MV:=match op with
 | .add=>some (.i k (k.wrap (x+y)))
 | .sub=>some (.i k (k.wrap (x-y)))
 | .mul=>some (.i k (k.wrap (x *y)))
 | .and=>some (.i k (cH k x y))
 | .or=>some (.i k (pG k x y))
 | .xor=>some (.i k (bn k x y))
 | .eql=>some (.b (decide (x=y)))
 | .neq=>some (.b (!decide (x=y)))
 | .lss=>some (.b (decide (x<y)))
 | .leq=>some (.b (decide (x<=y)))
 | .gtr=>some (.b (decide (y<x)))
 | .geq=>some (.b (decide (y<=x)))
 |_=>none
def jc:Kd->ak->Bool
 | .b,.p (.b _)=>true
 | .i k,.p (.i k' _)=>decide (k'=k)
 | .s,.p (.s _)=>true
 | .h k n,.hs k' n' _=>decide (k'=k)&&aQ n' n
 |_,_=>false
def cV:List Kd->List ak->Bool
 |[],[]=>true
 |k::ks,l::ls=>bif jc k l then cV ks ls else false
 |_,_=>false
def iu (st:Bool):Slot->Bool
 | .ag _=>st
 | .sc _=>!st
 |_=>false
def aax (op:BinOp)(a b:Nat):Option Nat:=match op with
 | .add=>FloatKind.f64.format.add a b
 | .sub=>FloatKind.f64.format.sub a b
 | .mul=>FloatKind.f64.format.mul a b
 |_=>none
def J7:List ak->Bool
 |[.p (.raw (.pointer none))]=>true
 |_=>false
def Xv (oI:Option TI)(op:BinOp)(x y:Slot)(K:Slot->Option R):Option R:=match x,y with
 | .sc (.p (.i k a)),.sc (.p (.i k' b))=>
  (match op with
   | .quo=>bif decide (k=k') then aY (!decide (b=0)) (K (.sc (.p (.i k (k.wrap (a.tdiv b)))))) else none
   | .rem=>bif decide (k=k') then aY (!decide (b=0)) (K (.sc (.p (.i k (a.tmod b))))) else none
   | .shr=>aY (decide (0<=b)) (K (.sc (.p (.i k (a.fdiv (2^min b.toNat k.bits))))))
   | .shl=>aY (decide (0<=b)) (K (.sc (.p (.i k (k.wrap (a *2^min b.toNat k.bits))))))
   |_=>bif decide (k=k') then (match LJ op k a b with|some m=>K (.sc (.p m))|none=>none) else none)
 | .sc (.p (.s a)),.sc (.p (.s b))=>(match op with
  | .add=>aY (decide (a.length+b.length<=2^46)) (K (.sc (.p (.s (a++b)))))
  |_=>(match FY op a b with|some m=>K (.sc (.p m))|none=>none))
 | .ptr _ _,.sc (.p (.raw (.pointer none)))=>(match oI,op with
  |some I,.eql=>bif J7 I.zero then K (.sc (.p (.b false))) else none
  |some I,.neq=>bif J7 I.zero then K (.sc (.p (.b true))) else none
  |_,_=>none)
 | .sc (.p (.raw (.float .f64 a))),.sc (.p (.raw (.float .f64 b)))=>bd (aax op a b) λr=>K (.sc (.p (.raw (.float .f64 r))))
 |x,y=>match oI with
  |some I=>bif cV I.lay (av x)&&cV I.lay (av y)&&(iu I.st x&&iu I.st y) then (match op with
   | .eql=>(match eD (av x) (av y) with|some b=>K (.sc (.p (.b b)))|none=>none)
   | .neq=>(match eD (av x) (av y) with|some b=>K (.sc (.p (.b (!b))))|none=>none)
   |_=>none) else none
  |none=>none
def sliceB (lo hi:Option Slot)(len:Nat)(K:Nat->Nat->Option R):Option R:=match lo,hi with
 |none,none=>K 0 len
 |some (.sc (.p (.i _ l))),none=>aY (decide (0<=l/\l<=(len:Int)/\(len:Int)<=(len:Int))) (K l.toNat (Int.toNat (len:Int)))
 |none,some (.sc (.p (.i _ h)))=>aY (decide (0<=(0:Int)/\(0:Int)<=h/\h<=(len:Int))) (K (Int.toNat 0) h.toNat)
 |some (.sc (.p (.i _ l))),some (.sc (.p (.i _ h)))=>aY (decide (0<=l/\l<=h/\h<=(len:Int))) (K l.toNat h.toNat)
 |_,_=>none
def gU (c:Ctx)(st:St):Option Operand->Option Slot
 |some o=>some (aq c st o)
 |none=>none
def rB:List ak->Option (List MV)
 |[]=>some []
 |l::r=>match l,rB r with
  | .p m,some q=>some (m::q)
  | .hs k n x,some q=>some (.h k n x::q)
  | .nil,some q=>some (.list []::q)
  |_,_=>none
def Pq (d:Nat)(st:St)(I E:TI)(x y:Slot)(K:Slot->St->Option R):Option R:=match x,y with
 | .sc (.p (.i _ n)),.sc (.p (.i _ m))=>bif aag 1 E.bytes then aY (decide ((0:Int)<=n/\n<=m/\m *E.bytes<=2^46)) (match rB E.zero with
  |some zs=>(match nQ E.st zs with
   |some z=>dW st d ⟨I.elem,false,adG n.toNat z⟩ λst=>K (.sc (.own d)) st
   |none=>none)
  |none=>none) else none
 |_,_=>none
def TI.pH (I:TI):Bool:=match I.st,I.lay with|false,[.l]=>true|_,_=>false
def TI.J8 (I:TI):Bool:=match I.st,I.lay with|false,[.s]=>true|_,_=>false
def J9 (E:TI):Bool:=match E.st,E.lay with
 |false,[.i k]=>decide (k= .u8)
 |_,_=>false
def pL (l:List UInt8):List MV:=l.map λb=> .i .u8 (b.toNat:Int)
def Ka (c:Ctx)(u:Nat)(E:TI)(x:Slot)(K:List MV->Option R):Option R:=match c.tv u,x with
 |some T,.sc (.p (.s l))=>bif T.J8&&J9 E then K (pL l) else none
 |_,_=>none
def FZ (I E:TI)(st:St)(x:Slot)(K:List MV->Option R):Option R:=match x with
 | .sc (.p (.list xs))=>aY (fZ E.size xs) (K xs)
 | .sc .nil=>K []
 | .sc (.own f)=>(match ar st.az f with|some o=>bif aQ o.ty I.elem then K o.xs else none|none=>none)
 |_=>none
def uU (c:Ctx)(st:St)(I:TI):List (Nat×Operand)->List ak->Option (List ak)
 |[],cs=>some cs
 |(i,o)::r,cs=>match I.zq[i]?,I.M9[i]? with
  |some q,some y=>(match c.tv y with
   |some J=>bif ox (av (aq c st o))||!aQ (rv (av (aq c st o))) J.size then none else
    (match putAt cs q (av (aq c st o)) with|some dj=>uU c st I r dj|none=>none)
   |none=>none)
  |_,_=>none
def At (c:Ctx)(st:St)(k:IntKind)(n:Nat):List (Nat×Operand)->List Int->(List Int->Option R)->Option R
 |[],x,K=>K x
 |(i,o)::r,x,K=>match aq c st o with
  | .sc (.p m)=>bif aag (n+2) i then none else gI k m λv=>At c st k n r (x.set i v) K
  |_=>none
def Ps (c:Ctx)(st:St):List (Nat×Operand)->Nat->(List MV->St->Option R)->Option R
 |[],_,K=>K [] st
 |(i,o)::r,n,K=>bif aQ i n then gm st (aq c st o) λm st=>Ps c st r (n+1) λms st=>K (m::ms) st else none
def uD (c:Ctx)(st:St):List Operand->(List MV->St->Option R)->Option R
 |[],K=>K [] st
 |o::r,K=>match aq c st o with
  | .ptr root 0=>(match ah st.fr root with
   | .box cs=>bif ox cs||ru root then none else kJ st cs λms st=>(match lh cs ms with|some dj=>wr st root (.rq dj) λst=>uD c st r λxs st=>K (.rp ms::xs) st|none=>none)
   |_=>none)
  | .rp cs 0=>kJ st cs λms st=>uD c st r λxs st=>K (.rp ms::xs) st
  |_=>none
def vP (c:Ctx)(k:Nat)(st:St)(s:Slot)(K:MV->St->Option R):Option R:=match s with
 | .sc (.own f)=>(match ar st.az f with
  |some o=>bif o.cB||!aQ o.ty (c.ga k) then none else dW st f ⟨o.ty,true,[]⟩ λst=>K (.fresh o.xs) st
  |none=>none)
 | .sc .nil=>(match c.tv (c.ga k) with|some _=>K (.fresh []) st|none=>none)
 |_=>none
def LL (c:Ctx)(k:Nat)(st:St)(ss:List Slot)(K:List MV->St->Option R):Option R:=bif c.bQ k then (match ss with
  |[s0,s1,s2]=>(match s2 with
   | .sc (.p m2)=>gm st s1 λm1 st=>vP c k st s0 λm0 st=>K [m0,m1,m2] st
   |s2=>gm st s1 λm1 st=>vP c k st s0 λm0 st=>vP c k st s2 λm2 st=>K [m0,m1,m2] st)
  |_=>none)
 else pK st ss K
def aay (x y:Int):Int:=if y<x then y else x
def imax (x y:Int):Int:=if y>x then y else x
def Pt (mx:Bool)(k:IntKind):Int->List Slot->Option MV
 |x,[]=>some (.i k x)
 |x,.sc (.p (.i k' y))::r=>bif decide (k'=k) then Pt mx k (bif mx then imax x y else aay x y) r else none
 |_,_=>none
def Kb (mx:Bool):List Slot->Option MV
 | .sc (.p (.i k n))::r=>Pt mx k n r
 |_=>none
def TG:List Nat->Bool
 |[]=>false
 |_=>true
def Au (c:Ctx):List Nat->List MV->(List ak->Option R)->Option R
 |[],l,K=>gN l (K [])
 |t::ts,l,K=>match c.tv t with
  |some I=>gC l λm r=>nb I m λs=>(match s with| .sc (.p m)=>Au c ts r λls=>K (.p m::ls)|_=>none)
  |none=>none
def Av (c:Ctx)(d:Nat)(st:St)(f:Nat)(r:MV)(ts:List Nat)(K:Slot->St->Option R):Option R:=match ts with
 |[]=>none
 |t0::ts=>(match c.tv t0 with
  |some I0=>bif !aQ I0.elem (c.ga f) then none else gT r λvs=>gC vs λx vs=>gF x λxs=>Au c ts vs λls=>dW st d ⟨I0.elem,false,xs⟩ λst=>(bif aP c.bs d then gl st (.own d) λm st=>K (.tg (.p m::ls)) st else K (.tg (.own d::ls)) st)
  |none=>none)
def Pu (c:Ctx)(d:Nat)(st:St)(f:Nat)(ms:List MV)(I:TI)(K:Slot->St->Option R):Option R:=bd (c.g f ms) λr=>bif c.fresh f then bif aQ (c.ga f) 0 then ZO r λxs=>K (.sc (.p (.clip xs))) st else bif TG I.bB then Av c d st f r I.bB K else gF r λxs=>bif !aQ I.elem (c.ga f) then none else dW st d ⟨I.elem,false,xs⟩ λst=>(bif aP c.bs d then gl st (.own d) λm st=>K (.sc (.p m)) st else K (.sc (.own d)) st) else lr c I r λs=>K s st
def Xw (s:Slot)(K:Slot->Option R):Option R:=match s with
 | .ptr r o=>K (.ptr r o)
 | .rp cs o=>K (.rp cs o)
 | .sc (.p m)=>gP m λc=>K (.sc (.p (.rp c)))
 |_=>none
def Pv (x y z:Slot)(K:Slot->Option R):Option R:=match x with
 | .sc (.p (.b v))=>(match y,z with
  | .sc (.p (.b p)),.sc (.p (.b q))=>K (.sc (.p (.b (bif v then p else q))))
  |p,q=>match v with|true=>K p|false=>K q)
 |_=>none
def Xx (I:TI)(s:Slot)(K:Slot->Option R):Option R:=match s with
 | .sc l=>bif I.st||HI l||!aQ l.w I.size then none else K (.box [l])
 | .ag cs=>bif I.st&&!ox cs&&aQ (rv cs) I.size then K (.box cs) else none
 |_=>none
def unK (op:UnOp)(s:Slot)(K:Slot->Option R):Option R:=match op,s with
 | .not,.sc (.p (.b v))=>K (.sc (.p (.b (!v))))
 | .neg,.sc (.p (.i k n))=>K (.sc (.p (.i k (k.wrap (0-n)))))
 |_,_=>none
def Pw (I:TI)(fk:Option FloatKind)(s:Slot)(K:Slot->Option R):Option R:=match I.st,I.bB,I.lay,s with
 |false,[],[.i k],.sc (.p (.i _ n))=>K (.sc (.p (.i k (k.wrap n))))
 |false,[],[.s],.sc (.p (.s l))=>K (.sc (.p (.s l)))
 |false,[],[.i k],.sc (.p (.raw (.float .f64 a)))=>bd ((FloatKind.decode .f64 a).toInt .zero) λn=>aY (decide (k.min<=n/\n<=k.max)) (K (.sc (.p (.i k n))))
 |false,[],[.raw],.sc (.p (.i _ n))=>(match fk with
  |some .f64=>K (.sc (.p (.raw (.float .f64 (FloatKind.nearest .f64 n)))))
  |_=>none)
 |_,_,_,_=>none
def Kc (c:Ctx)(I:TI)(st:St)(s:Slot)(lo hi:Option Slot)(K:Slot->St->Option R):Option R:=match s with
 | .sc (.p (.s l))=>bif I.J8 then sliceB lo hi l.length λa b=>K (.sc (.p (.s ((l.take b).drop a)))) st else none
 | .sc (.p (.list l))=>bif I.pH then (match c.tv I.elem with
  |some E=>(match lo with
   |none=>sliceB none hi l.length λa b=>K (.sc (.p (.list ((l.take b).drop a)))) st
   |some lo=>aY (fZ E.size l) (sliceB (some lo) hi l.length λa b=>K (.sc (.p (.list ((l.take b).drop a)))) st))
  |none=>none) else none
 | .sc (.own f)=>(match ar st.az f with
  |some o=>bif I.pH&&aQ o.ty I.elem then gl st (.own f) λ_ st=>sliceB lo hi o.xs.length λa b=>K (.sc (.p (.list ((o.xs.take b).drop a)))) st else none
  |none=>none)
 | .sc .nil=>bif I.pH then sliceB lo hi 0 λ_ _=>K (.sc .nil) st else none
 |_=>none
def Px (I:TI)(s h m:Slot)(K:Slot->Option R):Option R:=match s,h,m with
 | .sc (.p (.list l)),.sc (.p (.i .i64 n)),.sc (.p (.i .i64 n'))=>bif I.pH then aY (decide (n=(l.length:Int)/\n'=(l.length:Int))) (K (.sc (.p (.clip l)))) else none
 |_,_,_=>none
def Py (st:St)(I:TI)(f:Nat)(s:Slot)(K:Slot->Option R):Option R:=match I.st,I.zq[f]?,s with
 |true,some q,.ptr r o=>K (.ptr r (o+q))
 |true,some q,.rp cs o=>K (.rp cs (o+q))
 |true,some q,.ep g i o b cs=>(match ar st.az g with|some _=>K (.ep g i (o+q) b cs)|none=>none)
 |_,_,_=>none
def Xy (c:Ctx)(I:TI)(f:Nat)(s:Slot)(K:Slot->Option R):Option R:=match I.st,I.zq[f]?,I.M9[f]?,s with
 |true,some q,some y,.ag cs=>(match c.tv y with|some J=>eC J cs q K|none=>none)
 |_,_,_,_=>none
def Xz (c:Ctx)(st:St)(I E:TI)(x i:Slot)(K:Slot->Option R):Option R:=match x,i with
 | .sc (.p (.list xs)),.sc (.p (.i _ n))=>bif I.pH then idx xs n λx=>FX E x λcs=>K (.rp cs 0) else none
 | .sc (.own f),.sc (.p (.i _ n))=>(match ar st.az f with
  |some o=>bif I.pH then idx o.xs n λx=>FX E x λcs=>K (.ep f n.toNat 0 E.st cs) else none
  |none=>none)
 | .ptr r o,.sc (.p (.i _ n))=>bif I.st then none else (match I.lay with|[.h _ m]=>aY (decide ((0:Int)<=n/\n<((m+2:Nat):Int))) (K (.hp r o m n.toNat))|_=>none)
 | .sc (.p (.rp c)),.sc (.p (.i _ n))=>bif I.st then none else (match I.lay with|[.h k m]=>gC c λh r=>gN r<|gH k m h λx=>aY (decide ((0:Int)<=n/\n<((m+2:Nat):Int))) (K (.rp [.p (.i k (x.getD n.toNat 0))] 0))|_=>none)
 |_,_=>none
def ixK (I:TI)(x i:Slot)(K:Slot->Option R):Option R:=match I.st,I.lay,x,i with
 |false,[.s],.sc (.p (.s l)),.sc (.p (.i _ n))=>aY (decide ((0:Int)<=n/\n<(l.length:Int))) (K (.sc (.p (.i .u8 (l.getD n.toNat 0).toNat))))
 |false,[.h k' m'],.sc (.hs k m x),.sc (.p (.i _ n))=>bif aQ m' m&&decide (k'=k) then aY (decide ((0:Int)<=n/\n<((m+2:Nat):Int))) (K (.sc (.p (.i k (x.getD n.toNat 0))))) else none
 |_,_,_,_=>none
def yw (k:IntKind):List MV->(List Int->Option R)->Option R
 |[],K=>K []
 |m::r,K=>gI k m λn=>yw k r λl=>K (n::l)
def XA (st:St)(I:TI)(s:Slot)(K:Slot->St->Option R):Option R:=match I.st,I.lay with
 |false,[.h k m]=>gm st s λx st=>gL x λxs=>aY (decide (m+2<=xs.length)) (yw k xs λns=>K (.rp [.hs k m (ns.take (m+2))] 0) st)
 |_,_=>none
def vQ:List ak->Nat->Option ak
 | .p m::_,0=>some (.p m)
 | .own f::_,0=>some (.own f)
 | .un::_,0=>some .un
 | .p _::r,k+1=>vQ r k
 | .own _::r,k+1=>vQ r k
 | .un::r,k+1=>vQ r k
 |_,_=>none
def XB (s:Slot)(k:Nat)(K:Slot->Option R):Option R:=match s with
 | .tg cs=>(match vQ cs k with|some l=>K (.sc l)|none=>none)
 | .cG vs=>(match vs[k]? with|some s=>K s|none=>none)
 |_=>none
def Pz (I:TI)(st:St)(ss:List Slot)(K:Slot->Option R):Option R:=match ss with
 |[.sc (.p (.s l))]=>bif I.J8 then K (.sc (.p (.i .i64 l.length))) else none
 |[.sc (.p (.list l))]=>bif I.pH then K (.sc (.p (.i .i64 l.length))) else none
 |[.sc .nil]=>bif I.pH then K (.sc (.p (.i .i64 0))) else none
 |[.sc (.own f)]=>bif I.pH then (match ar st.az f with|some o=>K (.sc (.p (.i .i64 o.xs.length)))|none=>none) else none
 |_=>none
def Na (pb:Bool)(d:Nat)(st:St)(I E:TI)(s:Slot)(ys:List MV)(K:Slot->St->Option R):Option R:=bif aag 1 E.bytes then (match s with
 | .sc .nil=>aY (decide (ys.length *E.bytes<=2^46)) (dW st d ⟨I.elem,false,ys⟩ λst=>K (.sc (.own d)) st)
 | .sc (.own f)=>(match ar st.az f with
  |some w=>aY (decide ((w.xs.length+ys.length) *E.bytes<=2^46)) (bif aQ w.ty I.elem then dW st f ⟨w.ty,w.cB,w.xs++ys⟩ λst=>bif pb then gl st (.own f) λm st=>K (.sc (.p m)) st else K (.sc (.own f)) st else none)
  |none=>none)
 | .sc (.p (.clip xs))=>aY (fZ E.size xs) (aY (decide (0<ys.length/\(xs.length+ys.length) *E.bytes<=2^46)) (dW st d ⟨I.elem,false,xs++ys⟩ λst=>bif pb then gl st (.own d) λm st=>K (.sc (.p m)) st else K (.sc (.own d)) st))
 |_=>none) else none
def F3 (c:Ctx)(st:St)(I:TI)(f:Slot)(ss:List Slot)(K:Slot->St->Option R):Option R:=match f with
 | .sc (.p m)=>gFn m λf aS=>aY (!c.bQ f)<|pK st ss λms st=>bd (c.g f (ms++aS)) λr=>lr c I r λs=>K s st
 |_=>none
def Dv:MV->MV->Bool
 | .b x,.b y=>decide (x=y)
 | .i k x,.i k' y=>decide (k=k')&&decide (x=y)
 | .s x,.s y=>decide (x=y)
 | .h k n x,.h k' n' y=>decide (k=k')&&(aQ n n'&&decide (x=y))
 |_,_=>false
def ei:List MV->List MV->Bool
 |[],[]=>true
 |x::xs,y::ys=>Dv x y&&ei xs ys
 |_,_=>false
def lS:MV->List MV
 | .cG (.agg k::_)=>k
 |_=>[]
def XC:MV->MV
 | .cG [_,v]=>v
 |_=> .b false
def dY:List MV->List MV->Nat
 |[],_=>0
 |e::r,ks=>bif ei (lS e) ks then 0 else dY r ks+1
def asI:MV->Int
 | .i _ n=>n
 |_=>0
def asB:MV->Bool
 | .b x=>x
 |_=>false
def Wh (es:List MV)(ks:List MV):Int:=match es[dY es ks]? with|some e=>asI (XC e)|none=>0
def Wi (es:List MV)(ks:List MV):Bool:=match es[dY es ks]? with|some e=>asB (XC e)|none=>false
def xD (es ks:List MV)(z:MV):List MV:=bif aQ (dY es ks) es.length then es++[.cG [.agg ks,z]] else es
def Dw (es:List MV)(i:Nat)(v:MV):List MV:=match es[i]? with|some e=>es.set i (.cG [.agg (lS e),v])|none=>es
def ej (b:Bool):MV:=bif b then .b false else .i .i64 0
def oz (c:Ctx)(t:Nat):Option MS:=match c.mt t with
 |some (kt,b)=>(match c.tv kt with|some I=>bif zp ⟨I.st,I.lay,b⟩ then none else some ⟨I.st,I.lay,b⟩|none=>none)
 |none=>none
def HJ (s:MS)(k:Slot)(K:List MV->Option R):Option R:=bif cV s.lay (av k)&&iu s.st k then (match aW (av k) with|some ks=>K ks|none=>none) else none
def Dx (st:St)(s:MS)(m:Slot)(K:Nat->List MV->Option R):Option R:=match m with
 | .rr r=>(match ah st.fr r with| .box [.mp s' es]=>bif ZP s s'&&!zp s' then K r es else none|_=>none)
 |_=>none
def Nb (b:Bool)(s:Slot)(K:MV->Option R):Option R:=match b,s with
 |true,.sc (.p (.b x))=>K (.b x)
 |false,.sc (.p (.i .i64 n))=>K (.i .i64 n)
 |_,_=>none
def yx (st:St)(r:Nat)(s:MS)(es:List MV)(K:St->Option R):Option R:=wr st r (.box [.mp s es]) K
def isLT (c:Ctx)(y:Nat):Bool:=match c.tv y with|some Y=>Y.pH|none=>false
def Ke (c:Ctx)(y t:Nat):Bool:=match c.tv y,c.tv t with
 |some Y,some I=>Y.J8&&I.pH&&(match c.tv I.elem with|some E=>J9 E|none=>false)
 |_,_=>false
def c8 (c:Ctx)(o:Oper):Bool:=match o.op with
 | .assign (.tmp _)=>(match c.mt o.type with|some _=>true|none=>false)
 | .convert y t _=>Ke c y t
 |_=>false
def zY (c:Ctx)(o:Oper)(st:St)(x:Operand)(K:Slot->St->Option R):Option R:=match x,c.mt o.type with
 | .tmp t,some _=>(match ah st.fr t with
  | .box cs=>bif cR cs then bif aP st.bI t||ru t then none else (match st with|⟨p,q,r,m⟩=>ov [t] r λr=>K (.box cs) ⟨p,q,r,m⟩) else K (aq c st x) st
  |_=>K (aq c st x) st)
 |_,_=>K (aq c st x) st
def xE (s:MS)(es ks:List MV):Slot:=bif s.b then .sc (.p (.b (Wi es ks))) else .sc (.p (.i .i64 (Wh es ks)))
def Wj (c:Ctx)(st:St)(t:Nat)(m k:Slot)(K:Slot->Option R):Option R:=match oz c t with
 |some s=>Dx st s m λ_ es=>HJ s k λks=>K (xE s es ks)
 |none=>none
def Wk (c:Ctx)(st:St)(t:Nat)(m k v:Slot)(K:St->Option R):Option R:=match oz c t with
 |some s=>Dx st s m λr es=>HJ s k λks=>Nb s.b v λv=>yx st r s (Dw (xD es ks (ej s.b)) (dY es ks) v) K
 |none=>none
def PA (c:Ctx)(st:St)(t:Nat)(m k:Slot)(K:Slot->St->Option R):Option R:=match oz c t with
 |some s=>Dx st s m λr es=>HJ s k λks=>yx st r s (xD es ks (ej s.b)) λst=>K (.cG [xE s es ks,.sc (.p (.i .i64 (dY es ks)))]) st
 |none=>none
def aaz (c:Ctx)(st:St)(t:Nat)(m i v:Slot)(K:St->Option R):Option R:=match oz c t with
 |some s=>Dx st s m λr es=>(match i with
  | .sc (.p (.i .i64 n))=>aY (decide (0<=n/\n.toNat<es.length)) (Nb s.b v λv=>yx st r s (Dw es n.toNat v) K)
  |_=>none)
 |none=>none
def Wl (es:List MV):List UInt8:=match es with|[.s l,.i .i64 _]=>l|_=>[]
def uE (es:List MV):Int:=match es with|[.s _,.i .i64 n]=>n|_=>0
def TH (es:List MV):Bool:=decide (uE es<((Wl es).length:Int))
def Kf (es:List MV):Int:=(adQ ⟨(Wl es).toArray⟩ (uE es).toNat).1
def Kg (es:List MV):List MV:=[.s (Wl es),.i .i64 (uE es+(adQ ⟨(Wl es).toArray⟩ (uE es).toNat).2)]
def itK (st:St)(x:Slot)(K:Slot->St->Option R):Option R:=match x with
 | .ptr t 0=>(match ah st.fr t with
  | .box [.mp s es]=>bif zp s then
   bT (TH es) (wr st t (.box [.mp s (Kg es)]) λst=>K (.cG [.sc (.p (.b true)),.sc (.p (.i .i64 (uE es))),.sc (.p (.i .i32 (Kf es)))]) st) (K (.cG [.sc (.p (.b false))]) st)
   else none
  |_=>none)
 |_=>none
def byK (m:MV)(K:UInt8->Option R):Option R:=gI .u8 m λn=>aY (isByte n) (K (adP n.toNat))
def zu:List MV->(List UInt8->Option R)->Option R
 |[],K=>K []
 |m::r,K=>byK m λb=>zu r λl=>K (b::l)
def Kh (I:TI)(x:Slot)(K:Slot->Option R):Option R:=match x with
 | .sc (.p (.s l))=>bif I.J8 then K (.box [.mp MS.it [.s l,.i .i64 0]]) else none
 |_=>none
def PB (c:Ctx)(st:St)(Y I:TI)(x:Slot)(K:Slot->Option R):Option R:=match c.tv Y.elem with
 |some E=>bif I.J8&&J9 E then (match x with
  | .sc (.p (.list xs))=>zu xs λl=>K (.sc (.p (.s l)))
  | .sc .nil=>K (.sc (.p (.s [])))
  | .sc (.own f)=>(match ar st.az f with
   |some o=>bif aQ o.ty Y.elem then zu o.xs λl=>K (.sc (.p (.s l))) else none
   |none=>none)
  |_=>none) else none
 |none=>none
def still (c:Ctx)(o:Oper):Bool:=match o.op,o.dst with
 | .load _ _,some d=>aP c.fl d
 |_,_=>false
def aM:List LK->List Nat
 |[]=>[]
 | .own f _ _::r=>f::aM r
 |_::r=>aM r
def meets:List Nat->List Nat->Bool
 |[],_=>false
 |k::r,l=>bif aP l k then true else meets r l
def dE (c:Ctx):List LK->Bool
 |[]=>true
 | .own _ ty _::r=>(match c.tv ty with|some _=>dE c r|none=>false)
 |_::r=>dE c r
def iv (ps:List (Nat×Nat))(f g:Nat):Bool:=match ps with
 |[]=>true
 |(a,b)::r=>(bif aQ a f then aQ b g&&!aQ g 0 else (bif aQ b g then aQ g 0 else true))&&iv r f g
def F4 (st:St)(ps:List (Nat×Nat))(k:LK)(l:ak)(K:MV->List (Nat×Nat)->Option R):Option R:=match k,l with
 | .k .l,.nil=>K (.list []) ps
 | .k (.h k n),.hs k' n' x=>bif decide (k'=k)&&aQ n' n then K (.h k n x) ps else none
 | .k x,.p m=>eA x m λ_=>K m ps
 | .own f ty cB,.own g=>match ar st.az g with
  |some o=>bif !aQ o.ty ty||(o.cB&&!cB)||aP st.bF g||!iv ps f (g+1) then none else K (.list o.xs) ((f,g+1)::ps)
  |none=>none
 | .own f _ _,.nil=>bif iv ps f 0 then K (.list []) ((f,0)::ps) else none
 |_,_=>none
def eZ (st:St):List (Nat×Nat)->List LK->List ak->(List MV->List (Nat×Nat)->Option R)->Option R
 |ps,[],[],K=>K [] ps
 |ps,k::ks,l::ls,K=>F4 st ps k l λm ps=>eZ st ps ks ls λms ps=>K (m::ms) ps
 |_,_,_,_=>none
def fG (st:St)(k:LK)(m:MV)(K:ak->St->Option R):Option R:=match k with
 | .k x=>eA x m λl=>K l st
 | .own f ty cB=>gL m λxs=>(match st with|⟨p,q,r,n⟩=>HG n f ⟨ty,cB,xs⟩ λn=>K (.own f) ⟨p,q,r,n⟩)
def bR (st:St):List LK->List MV->(List ak->List MV->St->Option R)->Option R
 |[],ms,K=>K [] ms st
 |k::ks,ms,K=>gC ms λm r=>fG st k m λl st=>bR st ks r λls ms st=>K (l::ls) ms st
def HK (gs:List Nat):List (Nat×jb)->(List (Nat×jb)->Option R)->Option R
 |[],K=>K []
 |(k,o)::r,K=>bif aP gs k then HK gs r K else HK gs r λr=>K ((k,o)::r)
def TJ:List Nat->Fr->(Fr->Option R)->Option R
 |[],r,K=>K r
 |f::fs,r,K=>kFr f r λr=>TJ fs r K
def cI:List (Nat×Nat)->List Nat
 |[]=>[]
 |(_,0)::r=>cI r
 |(_,g+1)::r=>g::cI r
def Eo:List Nat->List (Nat×jb)->Bool
 |[],_=>false
 |f::r,m=>(match ar m f with|some _=>true|none=>Eo r m)
def Ep (st:St)(root:Nat)(ks:List LK)(ps:List (Nat×Nat))(outs:List MV)(K:St->Option R):Option R:=bR ⟨[],[],[],[]⟩ ks outs λcs rest tj=>gN rest<|HK (cI ps) st.az λm=>
  bif Eo (aM ks) m||meets (aM ks) st.bF then none else
   TJ (aM ks) st.fr λr=>Du r root (.box cs) λr=>(match app tj.az m with|some m=>K ⟨st.bI,st.bF,r,m⟩|none=>none)
def LM (c:Ctx)(gv:Bool)(g:List MV->Option MV)(pos:Nat)(ks ko:List LK)(st:St)(ss:List Slot)(I:Option TI)(K:Slot->St->Option R):Option R:=match ss[pos]? with
 |some (.ptr root off)=>pK st (ss.take pos) λm1 st=>pK st (ss.drop (pos+1)) λm2 st=>
  (match ah st.fr root with
  | .box cs=>bif cR cs||aP st.bI root||!dE c ks||!gv then none else eZ st [] ks cs λls ps=>
   (match app m1 (.cell (.func off ls)::m2) with
   |some ms=>bd (g ms) λx=>gW x λr outs=>Ep st root ko ps outs λst=>(match I with
    |some I=>lr c I r λs=>K s st
    |none=>K (.sc .un) st)
   |none=>none)
  |_=>none)
 |_=>none
def Wm (c:Ctx)(key pos:Nat)(ks ko:List LK)(st:St)(ss:List Slot)(I:Option TI)(K:Slot->St->Option R):Option R:=LM c (c.bQ key) (c.g key) pos ks ko st ss I K
def LN:List LK->List LK->Bool
 |[],[]=>true
 | .k k1::r,.k k2::q=>Wg k1 k2&&LN r q
 | .own f t z::r,.own f' t' z'::q=>aQ f f'&&(aQ t t'&&(z==z'&&LN r q))
 |_,_=>false
def HL (c:Ctx)(pos:Nat)(ks ko:List LK):List Nat->Bool
 |[]=>true
 |k::r=>(match c.sig k with|some sg=>aQ sg.1 pos&&(LN sg.2.1 ks&&LN sg.2.2 ko)|none=>false)&&(c.bQ k&&HL c pos ks ko r)
def PC (c:Ctx)(Nc:List Nat)(st:St)(f:Slot)(ss:List Slot)(I:Option TI)(K:Slot->St->Option R):Option R:=match f,Nc with
 | .sc (.p m),k0::_=>(match c.sig k0 with
  |some sg=>bif HL c sg.1 sg.2.1 sg.2.2 Nc then gFn m λk aS=>gN aS<|LM c true (λms=>O7 Nc k λk=>c.g k ms) sg.1 sg.2.1 sg.2.2 st ss I K else none
  |none=>none)
 |_,_=>none
def ZR (c:Ctx)(o:Oper)(st:St)(K:Slot->St->Option R):Option R:=match o.op with
 | .move x=>K (aq c st x) st
 | .assign x=>zY c o st x K
 | .makeMap t none=>(match oz c t with|some s=>K (.box [.mp s []]) st|none=>none)
 | .lookup t m k false=>Wj c st t (aq c st m) (aq c st k) λs=>K s st
 | .mapUpdate t m k v=>Wk c st t (aq c st m) (aq c st k) (aq c st v) λst=>K (.sc .un) st
 | .mapEntry t m k=>PA c st t (aq c st m) (aq c st k) K
 | .entryStore t m i v=>aaz c st t (aq c st m) (aq c st i) (aq c st v) λst=>K (.sc .un) st
 | .nilCheck x=>Xw (aq c st x) λs=>K s st
 | .pick x a b=>Pv (aq c st x) (aq c st a) (aq c st b) λs=>K s st
 | .alloc t=>(match c.tv t with|some I=>K (.box I.zero) st|none=>none)
 | .box t x=>(match c.tv t with|some I=>Xx I (aq c st x) λs=>K s st|none=>none)
 | .build t parts=>(match c.tv t with
  |some I=>bif I.st then (match uU c st I parts.toList I.zero with|some cs=>K (.ag cs) st|none=>none)
   else (match I.lay with|[.h k n]=>At c st k n parts.toList (zA n) λx=>K (.sc (.hs k n x)) st|_=>none)
  |none=>none)
 | .buildSlice t n parts=>(match c.tv t with
  |some I=>bif I.pH then (match c.tv I.elem with
   |some E=>bif aag (n *E.size) 16777216 then Ps c st parts.toList 0 λms st=>bif aQ ms.length n then aY (fZ E.size ms) (bif aP c.bs (o.dst.getD 0) then K (.sc (.p (.list ms))) st else dW st (o.dst.getD 0) ⟨I.elem,false,ms⟩ λst=>K (.sc (.own (o.dst.getD 0))) st) else none else none
   |none=>none) else none
  |none=>none)
 | .makeSlice t x y=>(match c.tv t with
  |some I=>bif I.pH then (match c.tv I.elem with|some E=>Pq (o.dst.getD 0) st I E (aq c st x) (aq c st y) K|none=>none) else none
  |none=>none)
 | .load t a=>(match c.tv t with
  |some I=>bif still c o then (match aq c st a with| .rp cs off=>eC I cs off λs=>K s st|_=>none) else ldK st I (aq c st a) λs=>K s st
  |none=>none)
 | .store t a v=>(match c.tv t with|some I=>stK st I (aq c st a) (aq c st v) λst=>K (.sc .un) st|none=>none)
 | .binOp op t x y _=>Xv (c.tv t) op (aq c st x) (aq c st y) λs=>K s st
 | .unOp op _ x=>unK op (aq c st x) λs=>K s st
 | .convert y t x=>bif isLT c y then (match c.tv y,c.tv t with|some Y,some I=>PB c st Y I (aq c st x) λs=>K s st|_,_=>none)
  else bif Ke c y t then (match aq c st x with| .sc (.p (.s l))=>K (.sc (.p (.list (pL l)))) st|_=>none)
  else (match c.ti y,c.tv t with|some _,some I=>Pw I (c.fk t) (aq c st x) λs=>K s st|_,_=>none)
 | .range t x=>(match c.tv t with|some I=>Kh I (aq c st x) λs=>K s st|none=>none)
 | .next x true=>itK st (aq c st x) K
 | .makeFunc (.func f) first aS=>(match first.toList with
  |[]=>uD c st aS.toList λms st=>K (.sc (.p (.func (c.key f) ms))) st
  |_=>none)
 | .slice t x lo hi none=>(match c.tv t with|some I=>Kc c I st (aq c st x) (gU c st lo) (gU c st hi) K|none=>none)
 | .slice t x none (some h) (some m)=>(match c.tv t with|some I=>Px I (aq c st x) (aq c st h) (aq c st m) λs=>K s st|none=>none)
 | .fieldAddr t x f=>(match c.tv t with|some I=>Py st I f (aq c st x) λs=>K s st|none=>none)
 | .field t x f=>(match c.tv t with|some I=>Xy c I f (aq c st x) λs=>K s st|none=>none)
 | .indexAddr t x i=>(match c.tv t with
  |some I=>(match c.tv I.elem with|some E=>Xz c st I E (aq c st x) (aq c st i) λs=>K s st|none=>none)
  |none=>none)
 | .index t x i=>(match c.tv t with|some I=>ixK I (aq c st x) (aq c st i) λs=>K s st|none=>none)
 | .extract x k=>XB (aq c st x) k λs=>K s st
 | .sliceToArrayPointer t x=>(match c.tv t with|some I=>XA st I (aq c st x) K|none=>none)
 | .call cl=>(match cl.callee with
  | .value (.func f)=>(match c.sig (c.key f) with
   |some sg=>Wm c (c.key f) sg.1 sg.2.1 sg.2.2 st (eB c st cl.args.toList) (c.ti o.type) K
   |none=>match c.ti o.type with
   |some I=>LL c (c.key f) st (eB c st cl.args.toList) λms st=>Pu c (o.dst.getD 0) st (c.key f) ms I K
   |none=>none)
  | .value x=>(match c.dyn with
   |_::_=>PC c c.dyn st (aq c st x) (eB c st cl.args.toList) (c.ti o.type) K
   |[]=>match c.ti o.type with
   |some I=>F3 c st I (aq c st x) (eB c st cl.args.toList) K
   |none=>none)
  | .builtin .len=>(match cl.argTypes.toList with
   |[t]=>(match c.tv t with|some I=>Pz I st (eB c st cl.args.toList) λs=>K s st|none=>none)
   |_=>none)
  | .builtin .append=>(match eB c st cl.args.toList,cl.argTypes.toList with
   |[s,x],[t,t']=>(match c.tv t with
    |some I=>bif I.pH then (match c.tv I.elem with
     |some E=>bif aQ t t' then FZ I E st x λys=>Na (aP c.bs (o.dst.getD 0)) (o.dst.getD 0) st I E s ys K else Ka c t' E x λys=>Na (aP c.bs (o.dst.getD 0)) (o.dst.getD 0) st I E s ys K
     |none=>none) else none
    |none=>none)
   |_,_=>none)
  | .builtin .real=>(match eB c st cl.args.toList with|[.sc (.p m)]=>gCx m λx _=>K (.sc (.p (.raw (.float .f64 x)))) st|_=>none)
  | .builtin .imag=>(match eB c st cl.args.toList with|[.sc (.p m)]=>gCx m λ_ y=>K (.sc (.p (.raw (.float .f64 y)))) st|_=>none)
  | .builtin .complex=>(match eB c st cl.args.toList with|[.sc (.p (.raw (.float .f64 x))),.sc (.p (.raw (.float .f64 y)))]=>K (.sc (.p (.raw (.complex .f64 x y)))) st|_=>none)
  | .builtin .min=>(match Kb false (eB c st cl.args.toList) with|some m=>K (.sc (.p m)) st|none=>none)
  | .builtin .max=>(match Kb true (eB c st cl.args.toList) with|some m=>K (.sc (.p m)) st|none=>none)
  |_=>none)
 |_=>none
def Ki (all:List Oper)(o:Oper)(st:St)(K:Bool->St->Option R):Option R:=match o.guard with
 |none=>K true st
 |some (j,want)=>match all[j]? with
  |some p=>(match p.dst with
   |some t=>(match ah st.fr t with
    | .sc (.p (.b v))=>(match v with
     |true=>(match st with|⟨p,q,r,m⟩=>Du r t (.sc (.p (.b true))) λr=>K want ⟨p,q,r,m⟩)
     |false=>(match st with|⟨p,q,r,m⟩=>Du r t (.sc (.p (.b false))) λr=>K (!want) ⟨p,q,r,m⟩))
    | .skip=>K false st
    |_=>none)
   |none=>none)
  |none=>none
def LO (c:Ctx)(all:List Oper)(o:Oper)(st:St)(K:St->Option R):Option R:=Ki all o st λgo st=>
  bif go then ZR c o st λs st=>aG c st o.dst s K
  else aG c st o.dst .skip K
def ug (c:Ctx)(all:List Oper):List Oper->St->(St->Option R)->Option R
 |[],st,K=>K st
 |o::r,st,K=>LO c all o st λst=>ug c all r st K
end
section
variable {R:Type}
def cC (st:St):List (Nat×Nat)->List (Nat×OK)->(List MV->Option R)->Option R
 |_,[],K=>K []
 |ps,(t,k)::r,K=>match k,ah st.fr t with
  | .sc k,.sc l=>eZ st ps [k] [l] λms ps=>cC st ps r λns=>(match app ms ns with|some l=>K l|none=>none)
  | .ag ks,.ag ls=>eZ st ps ks ls λms ps=>cC st ps r λns=>(match app ms ns with|some l=>K l|none=>none)
  | .box ks,.box ls=>eZ st ps ks ls λms ps=>cC st ps r λns=>(match app ms ns with|some l=>K l|none=>none)
  | .mp s,.box [.mp s' es]=>bif ZP s s' then cC st ps r λns=>K (.list es::ns) else none
  | .pt root off,.ptr PD HM=>bif aQ root PD&&(aQ off HM&&(!ru root&&xB (ah st.fr root))) then cC st ps r K else none
  |_,_=>none
def HN (st:St)(t:Nat)(s:Slot)(K:St->Option R):Option R:=match st with|⟨p,q,r,m⟩=>Du r t s λr=>K ⟨p,q,r,m⟩
def PE:List (Nat×OK)->List MV->St->(St->Option R)->Option R
 |[],ms,st,K=>gN ms (K st)
 |(t,k)::r,ms,st,K=>match k,st with
  | .pt root off,⟨p,q,fr,m⟩=>bif !ru root&&(xB (ah fr root)&&!bP (ah fr t)) then Du fr t (.ptr root off) λfr=>PE r ms ⟨p,q,fr,m⟩ K else none
  |_,_=>none
def iJ (st:St):List (Nat×OK)->List MV->(St->Option R)->Option R
 |[],ms,K=>gN ms (K st)
 |(t,k)::r,ms,K=>match k with
  | .sc k=>bR st [k] ms λls ms st=>(match ls with|[l]=>HN st t (.sc l) λst=>iJ st r ms K|_=>none)
  | .ag ks=>bR st ks ms λls ms st=>HN st t (.ag ls) λst=>iJ st r ms K
  | .box ks=>bif ru t&&!aP st.bI (posOf t) then none else bR st ks ms λls ms st=>HN st t (.box ls) λst=>iJ st r ms K
  | .mp s=>bif ru t then none else gC ms λm ms=>gL m λes=>HN st t (.box [.mp s es]) λst=>iJ st r ms K
  | .pt root off=>PE ((t,.pt root off)::r) ms st K
end
def ch:List (Nat×OK)->List Nat
 |[]=>[]
 |(t,_)::r=>t::ch r
def bp:List (Nat×OK)->List Nat
 |[]=>[]
 |(_,.sc k)::r=>aM [k]++bp r
 |(_,.ag ks)::r=>aM ks++bp r
 |(_,.box ks)::r=>aM ks++bp r
 |(_,.mp _)::r=>bp r
 |(_,.pt _ _)::r=>bp r
def minus:List Nat->List Nat->List Nat
 |[],_=>[]
 |k::r,l=>bif aP l k then minus r l else k::minus r l
def nd {R:Type}(ps:List Nat):List ak->(List ak->Option R)->Option R
 |[],K=>K []
 |l::r,K=>(match l with
  | .own g=>bif aP ps g then nd ps r λr=>K (.own g::r) else nd ps r λr=>K (.un::r)
  |l=>nd ps r λr=>K (l::r))
def Er {R:Type}(ps:List Nat)(s:Slot)(K:Slot->Option R):Option R:=match s with
 | .sc (.own g)=>bif aP ps g then K (.sc (.own g)) else K (.sc .un)
 | .ag cs=>nd ps cs λcs=>K (.ag cs)
 | .tg cs=>nd ps cs λcs=>K (.tg cs)
 | .box cs=>nd ps cs λcs=>K (.box cs)
 |s=>K s
def nFr {R:Type}(ps:List Nat):Fr->(Fr->Option R)->Option R
 |[],K=>K []
 |(k,s)::r,K=>Er ps s λs=>nFr ps r λr=>K ((k,s)::r)
def Es {R:Type}(ks fs qs:List Nat):List (Nat×jb)->(List (Nat×jb)->Option R)->Option R
 |[],K=>K []
 |(k,o)::r,K=>bif aP ks k then Es ks fs qs r λr=>(bif aP fs k&&!aP qs k then K ((k,⟨o.ty,true,o.xs⟩)::r) else K ((k,o)::r)) else Es ks fs qs r K
def cJ (c:Ctx):List (Nat×OK)->Bool
 |[]=>true
 |(_,.sc k)::r=>bif dE c [k] then cJ c r else false
 |(_,.ag ks)::r=>bif dE c ks then cJ c r else false
 |(_,.box ks)::r=>bif dE c ks then cJ c r else false
 |(_,.mp _)::r=>cJ c r
 |(_,.pt _ _)::r=>cJ c r
def Kj {R:Type}(c:Ctx)(h:eY)(st:St)(K:St->St->Option R):Option R:=match st with
 |⟨p,q,r,m⟩=>
  bif !cJ c h.all||meets (ch h.all) p||meets (bp h.all) q||meets (ch h.all) h.bI||meets (bp h.all) h.bF then none else
  match app h.bI p,app h.bF q with
  |some p',some q'=>
   pick h.bI r λrp=>nFr h.bF rp λrp=>pick (ch h.all) r λro=>
   Es h.bF h.cB q m λmp=>Es (bp h.all) h.cB q m λmo=>
   (match app rp ro,app mp mo with
    |some r1,some m1=>K ⟨p',q',r1,m1⟩ ⟨p',q',rp,mp⟩
    |_,_=>none)
  |_,_=>none
def xF {R:Type}(c:Ctx)(h:eY)(st:St)(K:St->St->Option R):Option R:=Kj c h st λaT cK=>As (λt=>aP h.bI t||aP (ch h.all) t) st.fr st.fr aT.fr λfr=>K ⟨aT.bI,aT.bF,fr,aT.az⟩ cK
def uV (st cK:St):St:=match st,cK with|⟨p,q,_,_⟩,⟨_,_,r,m⟩=>⟨p,q,r,m⟩
def guarded:List Oper->Bool
 |[]=>false
 |o::r=>match o.guard with|some _=>true|none=>guarded r
def kC:List Oper->List Nat
 |[]=>[]
 |o::r=>match o.op,o.dst with
  | .alloc _,some d=>d::kC r
  | .box _ _,some d=>d::kC r
  | .makeMap _ _,some d=>d::kC r
  | .range _ _,some d=>d::kC r
  |_,_=>kC r
def uW {R:Type}(ds:List Nat)(st:St)(K:St->Option R):Option R:=match st with|⟨p,q,r,m⟩=>ov ds r λr1=>As (λt=>!aP ds t) r r r1 λr=>K ⟨p,q,r,m⟩
def c9:Code->Option Nat
 | .region id _ _=>some id
 | .seq a b=>match c9 a with|some n=>some n|none=>c9 b
 | .cond _ a b=>match c9 a with|some n=>some n|none=>c9 b
 | .block _ b| .loop b| .scope b=>c9 b
 |_=>none
def ZS:List Nat->List Nat->List Nat
 |[],l=>l
 |k::r,l=>bif aP l k then ZS r l else k::ZS r l
def gp:Code->List Nat
 | .skip| .region _ _ _=>[0]
 | .seq a b=>bif aP (gp a) 0 then ZS (minus (gp a) [0]) (gp b) else gp a
 | .cond _ a b=>ZS (gp a) (gp b)
 | .block id b=>bif aP (gp b) (id+2) then ZS (minus (gp b) [0,id+2]) [0] else gp b
 | .loop b=>minus (gp b) [0]
 | .exit id=>[id+2]
 | .ret=>[1]
 |_=>[]
def iK (o:Oper):Bool:=match o.op with
 | .load _ _=>true
 | .lookup _ _ _ false=>true
 |_=>false
def eE (c:Ctx)(o:Oper):Bool:=iK o||(match o.op with
 | .convert y _ _=>isLT c y
 |_=>false)
def rD (o:Oper):Option Nat:=match o.op with
 | .lookup t _ _ false=>some t
 |_=>none
def PF (o:Oper):Option Nat:=match o.op with
 | .mapEntry t _ _=>some t
 |_=>none
def lT (o p:Oper):Bool:=match rD o,PF p with
 |some t,some t'=>aQ t t'
 |_,_=>false
def dx (o:Oper):Bool:=match o.op with
 | .move _| .assign _| .nilCheck _| .pick _ _ _| .build _ _| .load _ _| .binOp _ _ _ _ _| .unOp _ _ _| .convert _ _ _| .makeFunc _ _ _| .slice _ _ _ _ _| .fieldAddr _ _ _| .field _ _ _| .indexAddr _ _ _| .index _ _ _| .extract _ _| .lookup _ _ _ false=>true
 | .call cl=>(match cl.callee with| .builtin .len| .builtin .min| .builtin .max| .builtin .real| .builtin .imag| .builtin .complex=>true|_=>false)
 |_=>false
def qY (c:Ctx)(o:Oper):Bool:=match o.op with
 | .alloc _| .box _ _| .buildSlice _ _ _| .makeSlice _ _ _=>true
 | .call cl=>(match cl.callee with| .value (.func f)=>!c.bQ (c.key f)| .value _=>(match c.dyn with|[]=>true|_::_=>false)|_=>false)
 |_=>false
def Kk:Op->List Operand
 | .build _ ps=>ps.toList.map (·.2)
 | .buildSlice _ _ ps=>ps.toList.map (·.2)
 | .makeFunc _ first captured=>first.toList++captured.toList
 | .slice _ x l h m=>x::(l.toList++(h.toList++m.toList))
 | .call c=>(match c.callee with| .value f=>[f]| .invoke r _=>[r]| .builtin _=>[])++c.args.toList
 |op=>op.operands.toList
def HO:List Operand->List Nat
 |[]=>[]
 | .tmp t::r=>t::HO r
 |_::r=>HO r
def F5 (ops:List Oper)(o:Oper):List Nat:=HO (Kk o.op)++(match o.guard with|some (g,_)=>(match ops[g]? with|some p=>p.dst.toList|none=>[])|none=>[])
def Aw (ops:List Oper)(x y:Oper):Bool:=(match x.dst with|some d=>!aP (F5 ops y) d&&(match y.dst with|some d'=>!aQ d' d|none=>true)|none=>true)&& (match y.dst with|some d=>!aP (F5 ops x) d|none=>true)
def Ax (e:Edge):Bool:=match e.ground with
 | .textOnly _=>false
 | .gcOnly _=>false
 |_=>true
def pM (o:Oper)(p:Nat->Bool):Bool:=o.after.toList.any λe=>Ax e&&p e.on
def aaA (ops:List Oper):Bool:=ops.all λo=>match o.op with| .select _ _=>false|_=>true
def Dy (c:Ctx)(o:Oper):Bool:=dx o||qY c o
def kK (c:Ctx)(ops:List Oper)(o:Oper):List Nat->List Nat->Bool
 |_,[]=>true
 |D,y::r=>match ops[y]? with
  |some p=>bif pM p (aP D) then kK c ops o (y::D) r else Aw ops o p&&(!eE c o||Dy c p||still c o||lT o p)&&kK c ops o D r
  |none=>false
def zw (o:Oper):Bool:=match o.op,o.dst,o.guard with
 | .alloc _,some _,none=>o.after.toList.all λe=>!Ax e
 |_,_,_=>false
def XD (c:Ctx)(o:Oper):Bool:=match o.op with
 | .alloc t=>(match c.tv t with|some _=>true|none=>false)
 |_=>false
def XE (ops:List Oper)(i:Nat):Bool:=match ops[i]? with
 |some o=>zw o
 |none=>false
def kL (c:Ctx)(ops:List Oper):List Nat->List Nat->Bool
 |_,[]=>true
 |pre,x::rest=>(match ops[x]? with
  |some o=>(o.after.toList.all λe=>!Ax e||aP pre e.on)&&!aP pre x&&!aP rest x&& (bif dx o&&!c8 c o then kK c ops o [x] rest
    else (rest.all λy=>match ops[y]? with
     |some p=>bif zw p then Aw ops p o&&XD c p else pM p (λi=>aQ i x||(aP rest i&&!XE ops i))
     |none=>false))&&kL c ops (x::pre) rest
  |none=>false)
def lU (c:Ctx)(ops:Array Oper)(ord:List Nat):Bool:=aaA ops.toList&&aQ ord.length ops.toList.length&&(List.range ops.toList.length).all (aP ord)&&kL c ops.toList [] ord
def zZ {R:Type}(c:Ctx)(id:Nat)(ops l:List Oper)(st:St)(K:St->Option R):Option R:=bif guarded ops then
  xF c (c.gQ id) st λaT cK=>bd (uW (kC ops) aT λaT=>ug c ops l aT λst=>cC st [] ((c.gQ id).ex 0) some) λvs=>iJ (uV st cK) ((c.gQ id).ex 0) vs K
 else uW (kC ops) st λst=>ug c ops l st K
def kD (ops:List Oper):List Nat->Option (List Oper)
 |[]=>some []
 |i::r=>match ops[i]?,kD ops r with
  |some o,some l=>some (o::l)
  |_,_=>none
def jv {S:Type}(step:S->MV->Option (Bool×S)):S->List MV->Option (List MV×S)
 |s,[]=>some ([],s)
 |s,x::xs=>match step s x with
  |some (b,s1)=>(match jv step s1 xs with|some (ys,s2)=>some (bif b then ys else x::ys,s2)|none=>none)
  |none=>none
def PG (g:Nat->List MV->Option MV)(k:Nat)(aS:List MV):Unit->MV->Option (Bool×Unit):=λ_ x=>match g k (x::aS) with
 |some (.b b)=>some (b,())
 |_=>none
def PH (g:Nat->List MV->Option MV)(k:Nat)(aS:List MV):List MV->MV->Option (Bool×List MV):=λls x=>match g k (x::(aS++[.cell (.func 0 ls)])) with
 |some (.gk (.b b) outs)=>some (b,outs)
 |_=>none
def TL:MV->Bool
 | .agg _=>true
 |_=>false
def PI {R:Type}(c:Ctx)(h f:Nat)(aS:List Operand)(x:Operand)(o1 o2:Oper)(st:St)(K:St->Option R):Option R:=
 let fin (ys:List MV) (st:St):Option R:=dW st (o2.dst.getD 0) ⟨c.ga (c.key h),false,ys⟩ λst=>aG c st o2.dst (.sc (.own (o2.dst.getD 0))) λst=>aG c st o1.dst (.sc .un) K;match c.sig (c.key f) with
 |none=>bif c.bQ (c.key f) then none else uD c st aS λms st=>vP c (c.key h) st (aq c st x) λm st=>gF m λxs=>aY (xs.all TL)<|bd (jv (PG c.g (c.key f) ms) () xs) λp=>fin p.1 st
 |some sg=>uD c st aS.dropLast λms st=>vP c (c.key h) st (aq c st x) λm st=>gF m λxs=>aY (xs.all TL)<| (match aS.getLast? with
  |some y=>(match aq c st y with
   | .ptr root 0=>(match ah st.fr root with
    | .box cs=>bif cR cs||aP st.bI root||!dE c sg.2.1||!aQ sg.1 (ms.length+1)||!c.bQ (c.key f)||!LN sg.2.1 sg.2.2 then none else
     eZ st [] sg.2.1 cs λls ps=>bd (jv (PH c.g (c.key f) ms) ls xs) λp=>Ep st root sg.2.1 ps p.2 λst=>fin p.1 st
    |_=>none)
   |_=>none)
  |none=>none)
def vR (c:Ctx):List Oper->List Oper->Option (List Oper×Nat×List Operand×Nat×Operand×Oper×Oper×List Oper)
 |pre,o1::o2::r=>match o1.op,o2.op with
  | .makeFunc (.func f) first aS,.call cl=>(match cl.callee,cl.args.toList,first.toList,o1.dst with
   | .value (.func h),[.tmp x,.tmp y],[],some d=>bif c.FW h&&aQ y d&&!aQ x d&&!aag c.n d&&!aQ (o2.dst.getD d) d then some (pre.reverse,f,aS.toList,h,.tmp x,o1,o2,r) else vR c (o1::pre) (o2::r)
   |_,_,_,_=>vR c (o1::pre) (o2::r))
  |_,_=>vR c (o1::pre) (o2::r)
 |_,_=>none
def Ay:List Oper->Bool
 |[]=>true
 |o::r=>(match o.guard with|none=>Ay r|some _=>false)
def PJ {R:Type}(c:Ctx)(id:Nat)(ops:List Oper)(st:St)(K:St->Option R):Option R:=match vR c [] ops with
 |some (pre,f,aS,h,x,o1,o2,post)=>bif Ay ops then uW (kC ops) st λst=>ug c ops pre st λst=>PI c h f aS x o1 o2 st λst=>ug c ops post st K else none
 |none=>zZ c id ops ops st K
def fzK {R:Type}(c:Ctx)(ts:List Nat)(st:St)(K:St->Option R):Option R:=match ts with
 |[]=>K st
 |ts=>uD c st (ts.map .tmp) λ_ st=>K st
def Dz (ops:Array Oper)(A B:Nat):Array Oper:=ops.modify B λo=>{o with after:=o.after.push ⟨A,.data⟩}
def PK (n:Nat)(l:List Nat):Option (List Nat×List Nat×Nat×Nat):=match l.drop (l.length-3) with
 |[m,A,B]=>bif aQ A B||(aag n A||aag n B) then none else some (l.take m,(l.drop m).take (l.length-3-m),A,B)
 |_=>none
def PL {R:Type}(c:Ctx)(ops:Array Oper)(l:List Nat)(st:St)(K:St->Option R):Option R:=bif lU c ops l then (match kD ops.toList l with
 |some l=>ug c ops.toList l st K
 |none=>none) else none
def Az {R:Type} [vJ R](c:Ctx)(st:St)(K:St->Option R):Nat->Array Oper->List Nat->Option R
 |0,_,_=>none
 |k+1,ops,l=>bif aQ l.length ops.toList.length then PL c ops l st K else (match PK ops.toList.length l with
  |some (o1,o2,A,B)=>both (Az c st K k (Dz ops A B) o1) (Az c st K k (Dz ops B A) o2)
  |none=>none)
def aaB {R:Type} [vJ R](c:Ctx)(id:Nat)(ops:Array Oper)(ord:List Nat)(st:St)(K:St->Option R):Option R:=bif guarded ops.toList then
  xF c (c.gQ id) st λaT cK=>bd (uW (kC ops.toList) aT λaT=>Az c aT (λst=>cC st [] ((c.gQ id).ex 0) some) ord.length ops ord) λvs=>iJ (uV st cK) ((c.gQ id).ex 0) vs K
 else uW (kC ops.toList) st λst=>Az c st K ord.length ops ord
def LP {R:Type} [vJ R](c:Ctx)(id:Nat)(ops:Array Oper)(draw:Bool)(st:St)(K:St->Option R):Option R:=fzK c (c.fz id) st λst=>bif draw then (bif !aQ (c.ord id).length ops.toList.length then aaB c id ops (c.ord id) st K else bif lU c ops (c.ord id) then (match kD ops.toList (c.ord id) with|some l=>zZ c id ops.toList l st K|none=>none) else none)
 else PJ c id ops.toList st K
def jh (c:Ctx):Code->(R:Type)->[vJ R]->St->(Nat->St->Option R)->Option R
 | .skip,_,_,st,K=>K 0 st
 | .region id ops d,_,_,st,K=>LP c id ops d st λst=>K 0 st
 | .seq a b,R,_,st,K=>jh c a R st λe st=>bif aQ e 0 then jh c b R st K else K e st
 | .cond x a b,R,_,st,K=>(match aq c st x with
  | .sc (.p (.b v))=>
   bif aP (gp a) 0&&aP (gp b) 0 then
    xF c (c.iF ((c9 (.seq a b)).getD 0)) st λaT cK=>
    bd (bT v (jh c a (Nat×List MV) aT λe st=>cC st [] ((c.iF ((c9 (.seq a b)).getD 0)).ex e) λvs=>some (e,vs)) (jh c b (Nat×List MV) aT λe st=>cC st [] ((c.iF ((c9 (.seq a b)).getD 0)).ex e) λvs=>some (e,vs))) λr=>O7 (ZS (gp a) (gp b)) r.1 λe=>iJ (uV st cK) ((c.iF ((c9 (.seq a b)).getD 0)).ex e) r.2 λst=>K e st
   else bT v (jh c a R st K) (jh c b R st K)
  |_=>none)
 | .block id b,R,_,st,K=>jh c b R st λe st=>bif aQ e (id+2) then K 0 st else K e st
 | .loop b,_,_,st,K=>
  xF c (c.il ((c9 b).getD 0)) st λaT cK=>cC aT [] (c.il ((c9 b).getD 0)).outs λvs=>
   bd (lm c.fuel (λms=>iJ cK (c.il ((c9 b).getD 0)).outs ms λst=>jh c b (Sum (List MV) (Nat×List MV)) st λe st=>
    bif aQ e 0 then cC st [] (c.il ((c9 b).getD 0)).outs λvs=>some (.inl vs) else cC st [] ((c.il ((c9 b).getD 0)).ex e) λvs=>some (.inr (e,vs))) vs)
    λr=>O7 (minus (gp b) [0]) r.1 λe=>iJ (uV st cK) ((c.il ((c9 b).getD 0)).ex e) r.2 λst=>K e st
 | .exit id,_,_,st,K=>K (id+2) st
 | .ret,_,_,st,K=>K 1 st
 |_,_,_,_,_=>none
def uX {R:Type}(c:Ctx):List Nat->Nat->List MV->(Fr->List MV->Option R)->Option R
 |[],_,ms,K=>K [] ms
 |t::ts,n,ms,K=>match c.tv t with
  |some I=>gC ms λm r=>nb I m λs=>uX c ts (n+1) r λfr ms=>K ((n,s)::fr) ms
  |none=>none
def Kl {R:Type}:List (List Kd)->Nat->List MV->(Fr->Option R)->Option R
 |[],_,ms,K=>gN ms (K [])
 |ks::r,n,ms,K=>gC ms λm ms=>gP m λcs=>mZ ks cs λcs=>Kl r (n+1) ms λfr=>K ((n,.rq cs)::fr)
def HP {R:Type}(c:Ctx)(st:St):List ResultVar->(List MV->Option R)->Option R
 |[],K=>K []
 |r::rs,K=>
  let go (s:Slot):Option R:=match s with
   | .sc (.p m)=>HP c st rs λms=>K (m::ms)
   |_=>none
  match r with
  | .tmp t=>go (ah st.fr t)
  | .cell a t=>match c.tv t,ah st.fr a with
   |some I,.box cs=>bif cR cs||ru a then none else eC I cs 0 λs=>go s
   |_,_=>none
def DA {R:Type}(c:Ctx)(st:St)(fresh:Option Nat):List ResultVar->(List MV->Option R)->Option R
 |[],K=>K []
 |r::rs,K=>
  let go (s:Slot):Option R:=match fresh with
   |some ty=>(match s with
    | .sc (.own f)=>(match ar st.az f with|some o=>bif o.cB||!aQ o.ty ty then none else HP c st rs λms=>K (.fresh o.xs::ms)|none=>none)
    | .sc .nil=>HP c st rs λms=>K (.fresh []::ms)
    |_=>none)
   |none=>gm st s λm st=>DA c st fresh rs λms=>K (m::ms)
  match r with
  | .tmp t=>(match fresh,ah st.fr t with
   |none,.ptr _ _=>uD c st [.tmp t] λms st=>gC ms λm r=>gN r<|DA c st fresh rs λms=>K (m::ms)
   |_,s=>go s)
  | .cell a t=>match c.tv t,ah st.fr a with
   |some I,.box cs=>bif cR cs||ru a then none else eC I cs 0 λs=>go s
   |_,_=>none
def Nd {R:Type}(c:Ctx)(st:St):List ResultVar->(List MV->St->Option R)->Option R
 |[],K=>K [] st
 |r::rs,K=>(match r with
  | .tmp t=>gm st (ah st.fr t) λm st=>Nd c st rs λms st=>K (m::ms) st
  | .cell a t=>(match c.tv t,ah st.fr a with
   |some I,.box cs=>bif cR cs||ru a then none else eC I cs 0 λs=>gm st s λm st=>Nd c st rs λms st=>K (m::ms) st
   |_,_=>none))
def aaC:List MV->MV
 |[m]=>m
 |ms=> .cG ms
def AA (c:Ctx)(aS:List (List Kd))(pos:Nat)(ks ko:List LK)(f:Func)(args:List MV):Option MV:=match f.body,args[pos]? with
 |some b,some (.cell (.func off ls))=>bif !dE c ks||!dE c ko||!aag pos 999 then none else
  uX c f.params.toList 0 (args.set pos (.rp [])) λfr ms=>Kl aS f.params.size ms λj8=>
   (match app fr j8 with
   |some fr=>bR ⟨[],[],[],[]⟩ ks ls λcs rest tj=>gN rest<| jh c b MV ⟨[pos],[],(1000000+off *1000+pos,.box cs)::fr,tj.az⟩ λe st=>
     bif aag e 1 then Nd c st f.results.toList λms st=>(match ah st.fr (1000000+off *1000+pos) with
      | .box cs=>bif cR cs then none else eZ st [] ko cs λouts _=>some (.gk (aaC ms) outs)
      |_=>none) else none
   |none=>none)
 |_,_=>none
def PM (X:Code->St->(Nat->St->Option MV)->Option MV)(c:Ctx)(aS:List (List Kd))(fresh:Option Nat)(f:Func)(args:List MV):Option MV:=match f.body with
 |some b=>uX c f.params.toList 0 args λfr ms=>Kl aS f.params.size ms λj8=>
  match app fr j8 with
  |some fr=>X b ⟨[],[],fr,[]⟩ λe st=>bif aag e 1 then DA c st fresh f.results.toList λms=>(match ms with|[m]=>some m|ms=>some (.cG ms)) else none
  |none=>none
 |none=>none
def rE (c:Ctx)(aS:List (List Kd))(fresh:Option Nat)(f:Func)(args:List MV):Option MV:=PM (λb st K=>jh c b MV st K) c aS fresh f args
def PN (c:Ctx)(ty:Nat)(f:Func)(args:List MV):Option MV:=match f.body,args,f.params.toList with
 |some b,m0::ms,t0::ts=>(match c.tv t0 with
  |some I=>bif I.pH&&(aQ I.elem ty&&aQ ts.length 2) then gF m0 λxs=>uX c ts 1 ms λfr rest=>gN rest<| jh c b MV ⟨[],[],(0,.sc (.own 5000000))::fr,[(5000000,⟨ty,false,xs⟩)]⟩ λe st=>
    bif aag e 1 then DA c st (some ty) f.results.toList λms=>(match ms with|[m]=>some m|ms=>some (.cG ms)) else none
   else none
  |none=>none)
 |_,_,_=>none
end
end Dn
/-
  What abstract values and slots say of Go's memory. Conditions: none.
-/
namespace Dn
open Go
theorem dm (w:World)(o:Obj):(w.alloc o).heap[w.heap.size]? =some o:=by show (w.heap.push o)[w.heap.size]? =some o;simp
theorem iR (w:World)(o:Obj)(i:Nat)(h:i<w.heap.size):(w.alloc o).heap[i]? =w.heap[i]? :=by show (w.heap.push o)[i]? =w.heap[i]?;rw [Array.getElem?_push,if_neg (Nat.ne_of_lt h)]
def MV.one:MV->Bool
 | .h _ _ _| .agg _| .cG _| .fresh _| .cell _| .gk _ _=>false
 |_=>true
abbrev Ph:=Nat->Nat->Option Value
section
variable (key:Nat->Nat) (φ:Ph)
mutual
inductive dI:List Value->MV->Prop
 |b (x:Bool):dI [.bool x] (.b x)
 |i (k:IntKind) (n:Int):dI [.int k n] (.i k n)
 |s (bs:ByteArray):dI [.string bs] (.s bs.data.toList)
 |h (k:IntKind) (n:Nat) (x:List Int):x.length=n+2->dI (x.map (.int k)) (.h k n x)
 |raw (v:Value):v.oneCell'=true->dI [v] (.raw v)
 |list (a:Option Addr) (cap:Nat) (xs:List MV) (aA off xt:Nat) (f:Nat->List Value): xs.length<=cap->(0<xs.length->a=some ⟨aA,off,none⟩)->(∀i,i<xs.length->(f i).length=xt)-> (∀i j,i<xs.length->j<xt->φ aA (off+i *xt+j)=(f i)[j]?)-> (∀(i:Nat) (h:i<xs.length),dI (f i) xs[i])->dI [.slice a xs.length cap] (.list xs)
 |agg (vs:List Value) (ms:List MV):dq vs ms->dI vs (.agg ms)
 |func (f k:Nat) (cap:Array Value) (ms:List MV):key f=k->dq cap.toList ms->(∀m∈ms,m.one=true)->dI [.func (.func f) #[] cap] (.func k ms)
 |rp (aA off:Nat) (vs:List Value) (ms:List MV):dq vs ms->(∀j,j<vs.length->φ aA (off+j)=vs[j]?)->dI [.pointer (some ⟨aA,off,none⟩)] (.rp ms)
 |clip (a:Option Addr) (xs:List MV):dI [.slice a xs.length xs.length] (.list xs)->dI [.slice a xs.length xs.length] (.clip xs)
inductive dq:List Value->List MV->Prop
 |nil:dq [] []
 |cons (v:List Value) (m:MV) (vs:List Value) (ms:List MV):dI v m->dq vs ms->dq (v++vs) (m::ms)
end
end
def dJ (φ φ':Ph):Prop:= ∀b o v,φ b o=some v->φ' b o=some v
theorem dJ.refl (φ:Ph):dJ φ φ:=λ_ _ _ h=>h
theorem dJ.tk {φ φ':Ph}(h:dJ φ φ'){b j:Nat}{cs:List Value}(e:φ b j=cs[j]?)(hj:j<cs.length):φ' b j=cs[j]? :=by rw [IT hj] at e⊢;exact h _ _ _ e
theorem dJ.trans {φ φ' φ'':Ph}(h:dJ φ φ') (h':dJ φ' φ''):dJ φ φ'':=λb o v e=>h' b o v (h b o v e)
section
variable {key:Nat->Nat} {φ φ':Ph}(hle:dJ φ φ')
include hle
theorem F6 {b o:Nat}{vs:List Value}{j:Nat}(hj:j<vs.length)(h:φ b o=vs[j]?):φ' b o=vs[j]? :=by rw [IT hj] at h⊢;exact hle _ _ _ h
mutual
theorem dI.mono {vs:List Value}{m:MV}:dI key φ vs m->dI key φ' vs m
 | .b x=> .b x
 | .i k n=> .i k n
 | .s bs=> .s bs
 | .h k n x h=> .h k n x h
 | .raw v h=> .raw v h
 | .list a cap xs aA off xt f h1 h2 h3 h4 h5=> .list a cap xs aA off xt f h1 h2 h3 (λi j hi hj=>F6 hle (by rw [h3 i hi];exact hj) (h4 i j hi hj)) (λi hi=>(h5 i hi).mono)
 | .agg vs ms h=> .agg vs ms h.mono
 | .func f k cap ms h1 h2 h3=> .func f k cap ms h1 h2.mono h3
 | .rp aA off vs ms h1 h2=> .rp aA off vs ms h1.mono (λj hj=>F6 hle hj (h2 j hj))
 | .clip a xs h=> .clip a xs h.mono
theorem dq.mono {vs:List Value}{ms:List MV}:dq key φ vs ms->dq key φ' vs ms
 | .nil=> .nil
 | .cons v m vs ms h1 h2=> .cons v m vs ms h1.mono h2.mono
end
end
section
variable {key:Nat->Nat} {φ:Ph}
mutual
theorem dI.cells {vs:List Value}{m:MV}:dI key φ vs m-> ∀v∈vs,v.oneCell'=true
 | .b x=>by simp [aab]
 | .i k n=>by simp [aab]
 | .s bs=>by simp [aab]
 | .h k n x h=>by intro v hv;obtain ⟨b,_,rfl⟩:=abn.1 hv;rfl
 | .raw v h=>by simpa using h
 | .list .. =>by simp [aab]
 | .agg vs ms h=>h.cells
 | .func .. =>by simp [aab]
 | .rp .. =>by simp [aab]
 | .clip .. =>by simp [aab]
theorem dq.cells {vs:List Value}{ms:List MV}:dq key φ vs ms-> ∀v∈vs,v.oneCell'=true
 | .nil=>by simp
 | .cons v m vs ms h1 h2=>by
  intro x hx;rcases ab5.1 hx with hx|hx
  ·exact h1.cells x hx
  ·exact h2.cells x hx
end
end
section
variable {key:Nat->Nat} {φ:Ph}
mutual
theorem dI.width {vs:List Value}{m:MV}:dI key φ vs m->vs.length=m.w
 | .b x=>by simp [MV.w]
 | .i k n=>by simp [MV.w]
 | .s bs=>by simp [MV.w]
 | .h k n x h=>by simp [MV.w,h]
 | .raw v h=>by simp [MV.w]
 | .list .. =>by simp [MV.w]
 | .agg vs ms h=>by rw [h.width];simp [MV.w]
 | .func .. =>by simp [MV.w]
 | .rp .. =>by simp [MV.w]
 | .clip .. =>by simp [MV.w]
theorem dq.width {vs:List Value}{ms:List MV}:dq key φ vs ms->vs.length=MV.wl ms
 | .nil=>by simp [MV.wl]
 | .cons v m vs ms h1 h2=>by simp [MV.wl,h1.width,h2.width]
end
end
theorem dI.one {key:Nat->Nat} {φ:Ph}{vs:List Value}{m:MV}(h:dI key φ vs m)(hm:m.one=true): ∃v,vs=[v]/\v.oneCell'=true:=by have hc:=h.cells;cases h<;>simp [MV.one] at hm<;>exact ⟨_,rfl,hc _ (by simp)⟩
def bN (key:Nat->Nat) (φ:Ph)(v:Value):MV->Prop
 | .h k n x=>v= .agg (x.map (adM k)).toArray/\x.length=n+2
 | .agg ms=> ∃arr,v= .agg arr/\dq key φ arr.toList ms
 |m=>m.one=true/\dI key φ [v] m
theorem bN.mono {key:Nat->Nat} {φ φ':Ph}(hle:dJ φ φ'){v:Value}{m:MV}(h:bN key φ v m):bN key φ' v m:=by cases m<;>simp only [bN] at h⊢ <;>first|exact h|exact ⟨h.1,h.2.mono hle⟩|(obtain ⟨arr,h1,h2⟩:=h;exact ⟨arr,h1,h2.mono hle⟩)
structure Env where
 key:Nat->Nat
 φ:Ph
 E:Nat->Value
 B:Nat->Nat
 m:List (Nat×jb)
def aX (k:IntKind)(x:List Int):List Value:=x.map (adM k)
theorem bC (k:IntKind)(x:List Int):(aX k x).length=x.length:=by simp [aX]
def aw (e:Env)(vs:List Value):ak->Prop
 | .un=> ∃v,vs=[v]/\v.oneCell'=true
 | .p x=>x.one=true/\dI e.key e.φ vs x
 | .hs k n x=>vs=aX k x/\x.length=n+2
 | .nil=>vs=[.slice none 0 0]
 | .mp _ _=>False
 | .own f=> ∃v,vs=[v]/\v.oneCell'=true/\(∀o,ar e.m f=some o->v=e.E f)
def ai (e:Env):List Value->List ak->Prop
 |vs,[]=>vs=[]
 |vs,l::ls=> ∃v r,vs=v++r/\aw e v l/\ai e r ls
def lV:ak->Bool
 | .p _| .hs _ _ _=>true
 |_=>false
def dR:List ak->Bool
 |[]=>true
 |l::r=>lV l&&dR r
def AB (st:Bool)(x:MV)(cs:List ak):Prop:=(∃ms,aW cs=some ms/\nQ st ms=some x)/\ ∀m,ak.p m∈cs->m.one=true
def uF:Slot->Bool
 | .sc l=>lV l
 | .ag cs=>dR cs
 |_=>false
mutual
def aa (e:Env)(v:Value):Slot->Prop
 | .skip=>v=undef
 | .sc l=>match l with
  | .un=>True
  | .hs k n x=>v= .agg (aX k x).toArray/\x.length=n+2
  |l=>aw e [v] l
 | .ag cs=> ∃arr,v= .agg arr/\ai e arr.toList cs
 | .tg cs=> ∃arr,v= .tuple arr/\ai e arr.toList cs
 | .cG vs=> ∃arr,v= .tuple arr/\fq e arr.toList vs
 | .box _=>False
 | .rq cs=> ∃aA o vs,v= .pointer (some ⟨aA,o,none⟩)/\ai e vs cs/\dR cs=true/\(∀j,j<vs.length->e.φ aA (o+j)=vs[j]?)
 | .ptr r o=>v= .pointer (some ⟨e.B r,o,none⟩)
 | .rr r=>v= .map (some (e.B r))
 | .rp cs off=> ∃aA o vs,v= .pointer (some ⟨aA,o+off,none⟩)/\ai e vs cs/\dR cs=true/\(∀j,j<vs.length->e.φ aA (o+j)=vs[j]?)
 | .hp r o n i=>v= .pointer (some ⟨e.B r,o+i,none⟩)/\i<n+2
 | .ep f i off st cs=> ∀o,ar e.m f=some o-> ∃aA cap,e.E f= .slice (some ⟨aA,0,none⟩) o.xs.length cap/\(∃x,o.xs[i]? =some x/\AB st x cs)/\ v= .pointer (some ⟨aA,i *rv cs+off,none⟩)
def fq (e:Env):List Value->List Slot->Prop
 |vs,[]=>vs=[]
 |vs,s::ss=> ∃v r,vs=v::r/\aa e v s/\uF s=true/\fq e r ss
end
def PO:ak->List Value->Bool
 | .p (.b x),[.bool y]=>x==y
 | .p (.i k n),[.int k' n']=>decide (k=k')&&decide (n=n')
 | .p (.s l),[.string s]=>decide (l=s.data.toList)
 | .p (.raw v),[w]=>match v,w with
  | .nilFunc,.nilFunc=>true
  | .nilIface,.nilIface=>true
  | .pointer none,.pointer none=>true
  |_,_=>false
 | .nil,[.slice none 0 0]=>true
 | .un,[v]=>v.oneCell'
 | .hs k n x,vs=>(vs.length==n+2)&&(x.length==n+2)&&(vs.zip x).all λp=>match p.1 with| .int k' v=>decide (k'=k)&&decide (v=p.2)|_=>false
 |_,_=>false
def ng:List ak->List Value->Bool
 |[],vs=>vs.isEmpty
 |l::ls,vs=>PO l (vs.take l.w)&&ng ls (vs.drop l.w)&&decide (l.w<=vs.length)
end Dn
/-
  How an abstract state stands to a frame and a memory; laws of frames and leaves. Conditions: none.
-/
namespace Dn
open Go
def bu:Fr->Nat->Slot->Fr
 |[],t,v=>[(t,v)]
 |(k,s)::r,t,v=>bif aQ k t then (k,v)::r else (k,s)::bu r t v
def iL (ds:List Nat):Fr->Fr
 |[]=>[]
 |(k,s)::r=>bif b8 s||aP ds k then iL ds r else (k,s)::iL ds r
def jx (ks:List Nat):Fr->Fr
 |[]=>[]
 |(k,s)::r=>bif aP ks k&&!b8 s then (k,s)::jx ks r else jx ks r
def bh:List (Nat×jb)->Nat->jb->List (Nat×jb)
 |[],t,v=>[(t,v)]
 |(k,s)::r,t,v=>bif aQ k t then (k,v)::r else (k,s)::bh r t v
def F7 (f:Nat):ak->ak
 | .own g=>bif aQ g f then .un else .own g
 |l=>l
def tl (f:Nat):Slot->Slot
 | .sc l=> .sc (F7 f l)
 | .ag cs=> .ag (cs.map (F7 f))
 | .tg cs=> .tg (cs.map (F7 f))
 | .box cs=> .box (cs.map (F7 f))
 | .ep g i o b cs=>bif aQ g f then .sc .un else .ep g i o b cs
 |s=>s
def gd (f:Nat)(r:Fr):Fr:=r.map λp=>(p.1,tl f p.2)
def rF (f:Nat)(r:Fr):Fr:=r.map λp=>(p.1,match p.2 with
 | .ep g i o b cs=>bif aQ g f then .sc .un else .ep g i o b cs
 |s=>s)
def JR (ps:List Nat):ak->ak
 | .own g=>bif aP ps g then .own g else .un
 |l=>l
def z1 (ps:List Nat):Slot->Slot
 | .sc l=> .sc (JR ps l)
 | .ag cs=> .ag (cs.map (JR ps))
 | .tg cs=> .tg (cs.map (JR ps))
 | .box cs=> .box (cs.map (JR ps))
 |s=>s
def Km (ps:List Nat)(r:Fr):Fr:=r.map λp=>(p.1,z1 ps p.2)
def lW (ks fs qs:List Nat):List (Nat×jb)->List (Nat×jb)
 |[]=>[]
 |(k,o)::r=>bif aP ks k then (bif aP fs k&&!aP qs k then (k,⟨o.ty,true,o.xs⟩) else (k,o))::lW ks fs qs r else lW ks fs qs r
section
variable {R:Type}
theorem force_eq (s:Slot)(K:Slot->Option R):force s K=K s:=by cases s<;>rfl
theorem gV (r:Fr)(t:Nat)(s:Slot)(K:Fr->Option R):Du r t s K=K (bu r t s):=by
 induction r generalizing K with
 |nil=>rfl
 |cons p r ih=>obtain ⟨k,x⟩:=p;simp only [Du,bu];cases aQ k t<;>simp [ih]
theorem yy (ds:List Nat)(r:Fr)(K:Fr->Option R):ov ds r K=K (iL ds r):=by
 induction r generalizing K with
 |nil=>rfl
 |cons p r ih=>obtain ⟨k,x⟩:=p;simp only [ov,iL];cases b8 x||aP ds k<;>simp [ih]
theorem TM (ks:List Nat)(r:Fr)(K:Fr->Option R):pick ks r K=K (jx ks r):=by
 induction r generalizing K with
 |nil=>rfl
 |cons p r ih=>obtain ⟨k,x⟩:=p;simp only [pick,jx];cases aP ks k&&!b8 x<;>simp [ih]
theorem jy (r:List (Nat×jb))(t:Nat)(s:jb)(K:List (Nat×jb)->Option R):HG r t s K=K (bh r t s):=by
 induction r generalizing K with
 |nil=>rfl
 |cons p r ih=>obtain ⟨k,x⟩:=p;simp only [HG,bh];cases aQ k t<;>simp [ih]
theorem uY (f:Nat)(cs:List ak)(K:List ak->Option R):na f cs K=K (cs.map (F7 f)):=by
 induction cs generalizing K with
 |nil=>rfl
 |cons l r ih=>cases l<;>simp only [na,OF,F7,ih];rename_i g;cases aQ g f<;>rfl
theorem PP (f:Nat)(s:Slot)(K:Slot->Option R):Ar f s K=K (tl f s):=by
 cases s with
 |sc l=>cases l<;>simp only [Ar,tl,F7];rename_i g;cases aQ g f<;>rfl
 |ag cs=>simp only [Ar,tl,uY]
 |tg cs=>simp only [Ar,tl,uY]
 |box cs=>simp only [Ar,tl,uY]
 |ep g i o b cs=>simp only [Ar,tl];cases aQ g f<;>rfl
 |_=>rfl
theorem PQ (f:Nat)(r:Fr)(K:Fr->Option R):kFr f r K=K (gd f r):=by
 induction r generalizing K with
 |nil=>rfl
 |cons p r ih=>obtain ⟨k,x⟩:=p;simp only [kFr,PP,ih,gd,OF]
theorem XF (f:Nat)(r:Fr)(K:Fr->Option R):ZQ f r K=K (rF f r):=by
 induction r generalizing K with
 |nil=>rfl
 |cons p r ih=>obtain ⟨k,x⟩:=p;cases x<;>simp only [ZQ,ih,rF,OF];rename_i g i o b cs;cases aQ g f<;>rfl
theorem uZ (f:List Nat)(cs:List ak)(K:List ak->Option R):nd f cs K=K (cs.map (JR f)):=by
 induction cs generalizing K with
 |nil=>rfl
 |cons l r ih=>cases l<;>simp only [nd,OF,JR,ih];rename_i g;cases aP f g<;>rfl
theorem PR (f:List Nat)(s:Slot)(K:Slot->Option R):Er f s K=K (z1 f s):=by
 cases s with
 |sc l=>cases l<;>simp only [Er,z1,JR];rename_i g;cases aP f g<;>rfl
 |ag cs=>simp only [Er,z1,uZ]
 |tg cs=>simp only [Er,z1,uZ]
 |box cs=>simp only [Er,z1,uZ]
 |_=>rfl
theorem XG (f:List Nat)(r:Fr)(K:Fr->Option R):nFr f r K=K (Km f r):=by
 induction r generalizing K with
 |nil=>rfl
 |cons p r ih=>obtain ⟨k,x⟩:=p;simp only [nFr,PR,ih,Km,OF]
theorem PS (ks fs qs:List Nat)(r:List (Nat×jb))(K:List (Nat×jb)->Option R):Es ks fs qs r K=K (lW ks fs qs r):=by
 induction r generalizing K with
 |nil=>rfl
 |cons p r ih=>
  obtain ⟨k,x⟩:=p;simp only [Es,lW];cases aP ks k
  ·simp [ih]
  ·simp only [cond_true,ih];cases aP fs k&&!aP qs k<;>rfl
theorem pN {α:Type}(x y:List α):app x y=some (x++y):=by
 induction x with
 |nil=>rfl
 |cons a r ih=>simp [app,ih]
end
theorem cY (a b:Nat):aQ a b=decide (a=b):=by
 by_cases h:a=b
 ·subst h;simp
 ·simp only [h,decide_false];exact Bool.eq_false_iff.2 (λe=>h (sh e))
theorem aN (l:List Nat)(t:Nat):aP l t=true↔t∈l:=by
 induction l with
 |nil=>simp [aP]
 |cons k r ih=>
  simp only [aP,cY,aan];by_cases h:k=t
  ·simp [h]
  ·simp only [h,decide_false,cond_false,ih];exact ⟨.inr,λh'=>h'.resolve_left (λe=>h e.symm)⟩
theorem a8 (r:Fr)(d t:Nat)(s:Slot):ah (bu r d s) t=if t=d then s else ah r t:=by
 induction r with
 |nil=>simp only [bu,ah,cY];by_cases h:t=d<;>simp [h,Ne.symm]<;>(intro e;exact absurd e.symm h)
 |cons p r ih=>
  obtain ⟨k,x⟩:=p;simp only [bu,cY];by_cases hk:k=d
  ·subst hk;simp only [decide_true,cond_true,ah,cY];by_cases h:k=t
   ·simp [h]
   ·have h': ¬t=k:=λe=>h e.symm;simp [h,h']
  ·simp only [hk,decide_false,cond_false,ah,cY,ih];by_cases h:k=t
   ·subst h;simp [hk]
   ·simp [h]
theorem aI (r:List (Nat×jb))(d t:Nat)(s:jb):ar (bh r d s) t=if t=d then some s else ar r t:=by
 induction r with
 |nil=>simp only [bh,ar,cY];by_cases h:t=d<;>simp [h,Ne.symm]<;>(intro e;exact absurd e.symm h)
 |cons p r ih=>
  obtain ⟨k,x⟩:=p;simp only [bh,cY];by_cases hk:k=d
  ·subst hk;simp only [decide_true,cond_true,ar,cY];by_cases h:k=t
   ·simp [h]
   ·have h': ¬t=k:=λe=>h e.symm;simp [h,h']
  ·simp only [hk,decide_false,cond_false,ar,cY,ih];by_cases h:k=t
   ·subst h;simp [hk]
   ·simp [h]
theorem AD (g:Slot->Slot)(hg:g (.sc .un)= .sc .un)(r:Fr)(t:Nat):ah (r.map λp=>(p.1,g p.2)) t=g (ah r t):=by
 induction r with
 |nil=>simp [ah,hg]
 |cons p r ih=>obtain ⟨k,x⟩:=p;simp only [OF,ah,cY];by_cases h:k=t<;>simp [h,ih]
theorem dG (f:Nat)(r:Fr)(t:Nat):ah (gd f r) t=tl f (ah r t):=AD (tl f) rfl r t
theorem Et (f:List Nat)(r:Fr)(t:Nat):ah (Km f r) t=z1 f (ah r t):=AD (z1 f) rfl r t
def ax (r:Fr):List Nat:=r.map Prod.fst
theorem j9 (r:Fr)(t:Nat)(h:t∉ax r):ah r t= .sc .un:=by
 induction r with
 |nil=>rfl
 |cons p r ih=>obtain ⟨k,x⟩:=p;simp only [ax,OF,aan,not_or] at h;have h': ¬k=t:=λe=>h.1 e.symm;simp only [ah,cY,h',decide_false,cond_false];exact ih h.2
theorem vS (ds:List Nat)(r:Fr):List.Sublist (ax (iL ds r)) (ax r):=by
 induction r with
 |nil=>simp [ax,iL]
 |cons p r ih=>
  obtain ⟨k,x⟩:=p;simp only [iL];cases b8 x||aP ds k
  ·simpa [ax] using ih
  ·exact (List.Sublist.cons _ ih)
theorem pO (ds:List Nat)(r:Fr):List.Sublist (ax (jx ds r)) (ax r):=by
 induction r with
 |nil=>simp [ax,jx]
 |cons p r ih=>
  obtain ⟨k,x⟩:=p;simp only [jx];cases aP ds k&&!b8 x
  ·exact (List.Sublist.cons _ ih)
  ·simpa [ax] using ih
theorem AE (ds:List Nat)(r:Fr)(hn:(ax r).Nodup)(t:Nat):ah (iL ds r) t=if b8 (ah r t)||aP ds t then .sc .un else ah r t:=by
 induction r with
 |nil=>simp [ah,iL]
 |cons p r ih=>
  obtain ⟨k,x⟩:=p;simp only [ax,OF,adD] at hn;have ih:=ih hn.2;simp only [iL];by_cases hk:k=t
  ·subst hk;cases hb:b8 x||aP ds k
   ·simp [ah,cY,hb]
   ·simp only [cond_true,ah,cY,decide_true,hb,if_true];refine j9 _ _ (λhm=>hn.1 ((vS ds r).subset hm))
  ·cases hb:b8 x||aP ds k
   ·simp [ah,cY,hk,ih]
   ·simp [ah,cY,hk,ih]
theorem u9 (ds:List Nat)(r:Fr)(hn:(ax r).Nodup)(t:Nat):ah (jx ds r) t=if aP ds t&&!b8 (ah r t) then ah r t else .sc .un:=by
 induction r with
 |nil=>simp [ah,jx]
 |cons p r ih=>
  obtain ⟨k,x⟩:=p;simp only [ax,OF,adD] at hn;have ih:=ih hn.2;simp only [jx];by_cases hk:k=t
  ·subst hk;cases hb:aP ds k&&!b8 x
   ·simp only [cond_false,ah,cY,decide_true,cond_true,hb];exact j9 _ _ (λhm=>hn.1 ((pO ds r).subset hm))
   ·simp [ah,cY,hb]
  ·cases hb:aP ds k&&!b8 x<;>simp [ah,cY,hk,ih]
theorem rG (r s:Fr)(t:Nat):ah (r++s) t=if t∈ax r then ah r t else ah s t:=by
 induction r with
 |nil=>simp [ax]
 |cons p r ih=>
  obtain ⟨k,x⟩:=p;simp only [List.cons_append,ah,cY,ax,OF,aan];by_cases h:k=t
  ·simp [h]
  ·have h': ¬t=k:=λe=>h e.symm;simp only [h,h',decide_false,cond_false,ih,false_or];rfl
end Dn
/-
  Laws of leaves and slots: offsets, and what changes elsewhere. Conditions: none.
-/
namespace Dn
open Go
section
variable {e e':Env}
theorem aw.width {vs:List Value}{l:ak}(h:aw e vs l):vs.length=l.w:=by
 cases l with
 |un=>obtain ⟨v,rfl,_⟩:=h;rfl
 |p m=>obtain ⟨v,rfl,_⟩:=h.2.one h.1;rfl
 |hs k n x=>obtain ⟨rfl,h⟩:=h;simp [aX,h,ak.w]
 |nil=>cases h;rfl
 |mp s es=>exact h.elim
 |own f=>obtain ⟨v,rfl,_⟩:=h;rfl
theorem aw.cells {vs:List Value}{l:ak}(h:aw e vs l): ∀v∈vs,v.oneCell'=true:=by
 cases l with
 |un=>obtain ⟨v,rfl,hv⟩:=h;simpa using hv
 |p m=>exact h.2.cells
 |hs k n x=>obtain ⟨rfl,h⟩:=h;intro v hv;obtain ⟨b,_,rfl⟩:=abn.1 hv;rfl
 |nil=>cases h;simp [aab]
 |mp s es=>exact h.elim
 |own f=>obtain ⟨v,rfl,hv,_⟩:=h;simpa using hv
theorem ai.width {cs:List ak}: ∀{vs:List Value},ai e vs cs->vs.length=rv cs:=by
 induction cs with
 |nil=>intro vs h;cases h;rfl
 |cons l r ih=>intro vs h;obtain ⟨v,w,rfl,h1,h2⟩:=h;simp [rv,h1.width,ih h2]
theorem ai.cells {cs:List ak}: ∀{vs:List Value},ai e vs cs-> ∀v∈vs,v.oneCell'=true:=by
 induction cs with
 |nil=>intro vs h;cases h;simp
 |cons l r ih=>
  intro vs h v hv;obtain ⟨a,w,rfl,h1,h2⟩:=h;rcases ab5.1 hv with hv|hv
  ·exact h1.cells v hv
  ·exact ih h2 v hv
theorem ai.append {cs ds:List ak}: ∀{vs ws:List Value},ai e vs cs->ai e ws ds->ai e (vs++ws) (cs++ds):=by
 induction cs with
 |nil=>intro vs ws h h';cases h;simpa using h'
 |cons l r ih=>intro vs ws h h';obtain ⟨v,w,rfl,h1,h2⟩:=h;exact ⟨v,w++ws,by simp,h1,ih h2 h'⟩
theorem rH {cs:List ak}: ∀{off:Nat} {ds:List ak} {vs:List Value},cut cs off=some ds->ai e vs cs-> ∃v1 v2,vs=v1++v2/\v1.length=off/\ai e v2 ds:=by
 induction cs with
 |nil=>
  intro off ds vs h hr;cases off with
  |zero=>simp only [cut,By] at h;subst h;exact ⟨[],vs,rfl,rfl,hr⟩
  |succ n=>simp [cut] at h
 |cons l r ih=>
  intro off ds vs h hr;cases off with
  |zero=>simp only [cut,By] at h;subst h;exact ⟨[],vs,rfl,rfl,hr⟩
  |succ n=>
   simp only [cut] at h;cases hb:aag l.w (n+1) with
   |false=>simp [hb] at h
   |true=>simp only [hb,cond_true] at h;have hle:=aa1 hb;obtain ⟨v,w,rfl,h1,h2⟩:=hr;obtain ⟨v1,v2,rfl,hl,h3⟩:=ih h h2;exact ⟨v++v1,v2,by simp,by simp [h1.width,hl];omega,h3⟩
theorem Nf {cs:List ak}: ∀{n:Nat} {ds:List ak} {vs:List Value},HH cs n=some ds->ai e vs cs-> ∃v1 v2,vs=v1++v2/\v1.length=n/\ai e v1 ds:=by
 induction cs with
 |nil=>
  intro n ds vs h hr;cases n with
  |zero=>simp only [HH,By] at h;subst h;exact ⟨[],vs,rfl,rfl,rfl⟩
  |succ n=>simp [HH] at h
 |cons l r ih=>
  intro n ds vs h hr;cases n with
  |zero=>simp only [HH,By] at h;subst h;exact ⟨[],vs,rfl,rfl,rfl⟩
  |succ n=>
   simp only [HH] at h;cases hb:aag l.w (n+1) with
   |false=>simp [hb] at h
   |true=>
    simp only [hb,cond_true] at h;have hle:=aa1 hb;obtain ⟨v,w,rfl,h1,h2⟩:=hr;cases hu:HH r (n+1-l.w) with
    |none=>simp [hu] at h
    |some b=>simp only [hu,By] at h;subst h;obtain ⟨v1,v2,rfl,hl,h3⟩:=ih hu h2;exact ⟨v++v1,v2,by simp,by simp [h1.width,hl];omega,v,v1,rfl,h1,h3⟩
theorem Eu {cs:List ak}{off n:Nat}{ds:List ak}{vs:List Value}(h:part cs off n=some ds)(hr:ai e vs cs): ∃v1 v2 v3,vs=v1++v2++v3/\v1.length=off/\v2.length=n/\ai e v2 ds:=by
 unfold part at h;cases hc:cut cs off with
 |none=>simp [hc] at h
 |some a=>simp only [hc] at h;obtain ⟨v1,v2,rfl,h1,h2⟩:=rH hc hr;obtain ⟨v3,v4,rfl,h3,h4⟩:=Nf h h2;exact ⟨v1,v3,v4,by simp,h1,h3,h4⟩
theorem Ew {ls:List ak}: ∀{cs ds:List ak} {vs ws:List Value},over ls cs=some ds->ai e vs cs->ai e ws ls-> ∃v1 v2,vs=v1++v2/\v1.length=ws.length/\ai e (ws++v2) ds:=by
 induction ls with
 |nil=>intro cs ds vs ws h hr hw;simp only [over,By] at h;subst h;cases hw;exact ⟨[],vs,rfl,rfl,hr⟩
 |cons l r ih=>
  intro cs ds vs ws h hr hw;cases cs with
  |nil=>simp [over] at h
  |cons c cs=>
   simp only [over] at h;cases hb:aQ l.w c.w with
   |false=>simp [hb] at h
   |true=>
    simp only [hb,cond_true] at h;have hww:=sh hb;cases ho:over r cs with
    |none=>simp [ho] at h
    |some q=>simp only [ho,By] at h;subst h;obtain ⟨v,w,rfl,h1,h2⟩:=hr;obtain ⟨a,b,rfl,h3,h4⟩:=hw;obtain ⟨v1,v2,rfl,hl,h5⟩:=ih ho h2 h4;exact ⟨v++v1,v2,by simp,by simp [h1.width,h3.width,hl,hww],a,b++v2,by simp,h3,h5⟩
theorem pP {cs:List ak}: ∀{off:Nat} {ls ds:List ak} {vs ws:List Value},putAt cs off ls=some ds->ai e vs cs->ai e ws ls-> ∃v1 v2 v3,vs=v1++v2++v3/\v1.length=off/\v2.length=ws.length/\ai e (v1++ws++v3) ds:=by
 induction cs with
 |nil=>
  intro off ls ds vs ws h hr hw;cases off with
  |zero=>simp only [putAt] at h;obtain ⟨v1,v2,rfl,h1,h2⟩:=Ew h hr hw;exact ⟨[],v1,v2,by simp,rfl,h1,by simpa using h2⟩
  |succ n=>simp [putAt] at h
 |cons l r ih=>
  intro off ls ds vs ws h hr hw;cases off with
  |zero=>simp only [putAt] at h;obtain ⟨v1,v2,rfl,h1,h2⟩:=Ew h hr hw;exact ⟨[],v1,v2,by simp,rfl,h1,by simpa using h2⟩
  |succ n=>
   simp only [putAt] at h;cases hb:aag l.w (n+1) with
   |false=>simp [hb] at h
   |true=>
    simp only [hb,cond_true] at h;have hle:=aa1 hb;obtain ⟨v,w,rfl,h1,h2⟩:=hr;cases hu:putAt r (n+1-l.w) ls with
    |none=>simp [hu] at h
    |some b=>simp only [hu,By] at h;subst h;obtain ⟨v1,v2,v3,rfl,hl,om,h3⟩:=ih hu h2 hw;exact ⟨v++v1,v2,v3,by simp,by simp [h1.width,hl];omega,om,v,v1++ws++v3,by simp,h1,h3⟩
structure eR (S T:Nat->Prop) (e e':Env):Prop where
 key:e'.key=e.key
 φ:dJ e.φ e'.φ
 B: ∀r,T r->e'.B r=e.B r
 dV: ∀f o',ar e'.m f=some o'->S f-> ∃o,ar e.m f=some o/\e'.E f=e.E f/\o'.xs=o.xs
def ef (S:Nat->Prop)(l:ak):Prop:= ∀f,l= .own f->S f
def da (S T:Nat->Prop):Slot->Prop
 | .ptr r _=>T r
 | .rr r=>T r
 | .hp r _ _ _=>T r
 | .sc l=>ef S l
 | .ag cs=> ∀l∈cs,ef S l
 | .tg cs=> ∀l∈cs,ef S l
 | .ep g _ _ _ _=>S g
 |_=>True
theorem aw.on {S T:Nat->Prop}(h:eR S T e e'){vs:List Value}{l:ak}(hl:ef S l)(hr:aw e vs l):aw e' vs l:=by
 cases l with
 |un=>exact hr
 |p m=>exact ⟨hr.1,by have:=hr.2.mono h.φ;rw [<-h.key] at this;exact this⟩
 |hs k n x=>exact hr
 |nil=>exact hr
 |mp s es=>exact hr
 |own f=>obtain ⟨v,rfl,hv,hf⟩:=hr;refine ⟨v,rfl,hv,λo' vc=> ?_⟩;obtain ⟨o,ho,hE,_⟩:=h.dV f o' vc (hl f rfl);rw [hE];exact hf o ho
theorem ai.on {S T:Nat->Prop}(h:eR S T e e'){cs:List ak}: ∀{vs:List Value},(∀l∈cs,ef S l)->ai e vs cs->ai e' vs cs:=by
 induction cs with
 |nil=>intro vs _ hr;exact hr
 |cons l r ih=>intro vs hl hr;obtain ⟨v,w,rfl,h1,h2⟩:=hr;exact ⟨v,w,rfl,h1.on h (hl l (by simp)),ih (λx hx=>hl x (by simp [hx])) h2⟩
theorem AF {S:Nat->Prop}{l:ak}(h:lV l=true):ef S l:=by intro f hf;subst hf;simp [lV] at h
theorem pQ {S:Nat->Prop}{cs:List ak}(h:dR cs=true): ∀l∈cs,ef S l:=by
 induction cs with
 |nil=>simp
 |cons l r ih=>
  simp only [dR,AS] at h;intro x hx;rcases aan.1 hx with rfl|hx
  ·exact AF h.1
  ·exact ih h.2 x hx
mutual
theorem aa.on {S T:Nat->Prop}(h:eR S T e e'){v:Value}: ∀{s:Slot},da S T s->aa e v s->aa e' v s
 | .skip,_,hr=>by simpa [aa] using hr
 | .sc l,hs,hr=>by
  cases l with
  |un=>simp [aa]
  |hs k n x=>simpa [aa] using hr
  |p m=>simp only [aa] at hr⊢;exact hr.on h hs
  |nil=>simp only [aa] at hr⊢;exact hr.on h hs
  |mp s es=>simp only [aa] at hr⊢;exact hr
  |own f=>simp only [aa] at hr⊢;exact hr.on h hs
 | .ag cs,hs,hr=>by simp only [aa] at hr⊢;obtain ⟨arr,h1,h2⟩:=hr;exact ⟨arr,h1,h2.on h hs⟩
 | .tg cs,hs,hr=>by simp only [aa] at hr⊢;obtain ⟨arr,h1,h2⟩:=hr;exact ⟨arr,h1,h2.on h hs⟩
 | .cG vs,_,hr=>by simp only [aa] at hr⊢;obtain ⟨arr,h1,h2⟩:=hr;exact ⟨arr,h1,fq.on h h2⟩
 | .box _,_,hr=>by simp [aa] at hr
 | .rq cs,_,hr=>by simp only [aa] at hr⊢;obtain ⟨aA,o,vs,h1,h2,h3,h4⟩:=hr;exact ⟨aA,o,vs,h1,h2.on h (pQ h3),h3,λj hj=>F6 h.φ hj (h4 j hj)⟩
 | .ptr r o,hs,hr=>by simp only [aa] at hr⊢;rw [h.B r hs];exact hr
 | .rr r,hs,hr=>by simp only [aa] at hr⊢;rw [h.B r hs];exact hr
 | .rp cs off,_,hr=>by simp only [aa] at hr⊢;obtain ⟨aA,o,vs,h1,h2,h3,h4⟩:=hr;exact ⟨aA,o,vs,h1,h2.on h (pQ h3),h3,λj hj=>F6 h.φ hj (h4 j hj)⟩
 | .hp r o n i,hs,hr=>by simp only [aa] at hr⊢;rw [h.B r hs];exact hr
 | .ep f i off st cs,hs,hr=>by simp only [aa] at hr⊢;intro o' vc;obtain ⟨o,ho,hE,hx⟩:=h.dV f o' vc hs;obtain ⟨aA,cap,h1,h2,h3⟩:=hr o ho;exact ⟨aA,cap,by rw [hE,hx];exact h1,by rw [hx];exact h2,h3⟩
theorem fq.on {S T:Nat->Prop}(h:eR S T e e'): ∀{vs:List Value} {ss:List Slot},fq e vs ss->fq e' vs ss
 |vs,[],hr=>hr
 |vs,s::ss,hr=>by
  simp only [fq] at hr⊢;obtain ⟨v,r,h1,h2,h3,h4⟩:=hr;refine ⟨v,r,h1,aa.on h ?_ h2,h3,fq.on h h4⟩;cases s<;>simp [uF] at h3<;>simp only [da]
  ·exact AF h3
  ·exact pQ h3
end
end
end Dn
/-
  The relation between an abstract state and a running frame; operations that change no memory. Conditions: none.
-/
namespace Dn
open Go
section
variable {e e':Env}
theorem aw.kill {vs:List Value}{l:ak}(f:Nat)(h:aw e vs l):aw e vs (F7 f l):=by
 cases l with
 |own g=>
  simp only [F7];cases aQ g f
  ·exact h
  ·obtain ⟨v,rfl,hv,_⟩:=h;exact ⟨v,rfl,hv⟩
 |_=>exact h
theorem xG (f:Nat)(l:ak):ef (· ≠f) (F7 f l):=by intro g hg;cases l<;>simp [F7] at hg;rename_i g';cases hb:aQ g' f<;>simp [hb] at hg;subst hg;intro e;subst e;simp [cY] at hb
theorem aw.HQ {vs:List Value}{l:ak}(f:List Nat)(h:aw e vs l):aw e vs (JR f l):=by
 cases l with
 |own g=>
  simp only [JR];cases aP f g
  ·obtain ⟨v,rfl,hv,_⟩:=h;exact ⟨v,rfl,hv⟩
  ·exact h
 |_=>exact h
theorem F8 (f:List Nat)(l:ak):ef (· ∈f) (JR f l):=by intro g hg;cases l<;>simp [JR] at hg;rename_i g';cases hb:aP f g'<;>simp [hb] at hg;subst hg;exact (aN _ _).1 hb
theorem ai.map {g:ak->ak}(hg: ∀vs l,aw e vs l->aw e vs (g l)){cs:List ak}: ∀{vs:List Value},ai e vs cs->ai e vs (cs.map g):=by
 induction cs with
 |nil=>intro vs h;exact h
 |cons l r ih=>intro vs h;obtain ⟨v,w,rfl,h1,h2⟩:=h;exact ⟨v,w,rfl,hg _ _ h1,ih h2⟩
theorem aa.XH {v:Value}{l:ak}(hl: ∀k n x,l≠ .hs k n x)(hu:l≠ .un):aa e v (.sc l)↔aw e [v] l:=by cases l<;>simp_all [aa]
theorem aa.kill {v:Value}{s:Slot}(f:Nat)(h:aa e v s):aa e v (tl f s):=by
 cases s with
 |sc l=>
  cases l with
  |own g=>
   simp only [tl,F7];cases aQ g f
   ·exact h
   ·simp [aa]
  |_=>exact h
 |ag cs=>simp only [tl,aa] at h⊢;obtain ⟨arr,h1,h2⟩:=h;exact ⟨arr,h1,h2.map (λ_ _=>aw.kill f)⟩
 |tg cs=>simp only [tl,aa] at h⊢;obtain ⟨arr,h1,h2⟩:=h;exact ⟨arr,h1,h2.map (λ_ _=>aw.kill f)⟩
 |box cs=>simp [aa] at h
 |ep g i o b cs=>
  simp only [tl];cases aQ g f
  ·exact h
  ·simp [aa]
 |_=>exact h
theorem PT (f:Nat)(T:Nat->Prop)(s:Slot)(hT:da (λ_=>True) T s):da (· ≠f) T (tl f s):=by
 cases s with
 |sc l=>exact xG f l
 |ag cs=>intro l hl;obtain ⟨x,_,rfl⟩:=abn.1 hl;exact xG f x
 |tg cs=>intro l hl;obtain ⟨x,_,rfl⟩:=abn.1 hl;exact xG f x
 |ep g i o b cs=>
  simp only [tl];cases hb:aQ g f
  ·simp only [cond_false,da];intro e;subst e;simp [cY] at hb
  ·simp [da,ef]
 |ptr r o=>exact hT
 |hp r o n i=>exact hT
 |_=>trivial
theorem aa.HQ {v:Value}{s:Slot}(f:List Nat)(h:aa e v s):aa e v (z1 f s):=by
 cases s with
 |sc l=>
  cases l with
  |own g=>
   simp only [z1,JR];cases aP f g
   ·simp [aa]
   ·exact h
  |_=>exact h
 |ag cs=>simp only [z1,aa] at h⊢;obtain ⟨arr,h1,h2⟩:=h;exact ⟨arr,h1,h2.map (λ_ _=>aw.HQ f)⟩
 |tg cs=>simp only [z1,aa] at h⊢;obtain ⟨arr,h1,h2⟩:=h;exact ⟨arr,h1,h2.map (λ_ _=>aw.HQ f)⟩
 |box cs=>simp [aa] at h
 |_=>exact h
end
def aB (key:Nat->Nat) (φ:Ph)(size:Nat):List Value->List MV->Prop
 |vs,[]=>vs=[]
 |vs,x::xs=> ∃v r,vs=v++r/\v.length=size/\dI key φ v x/\aB key φ size r xs
structure aO where
 In:Nat->Prop
 bI:List Nat
 bF:List Nat
 T:Nat->Value
 cov:Prop
 Pr:Nat->Prop
instance:CoeFun aO (λ_=>Nat->Prop):=⟨aO.In⟩
instance:Coe aO (Nat->Prop):=⟨aO.In⟩
theorem Hu {a b c:Prop}(h:(a/\b)\/c)(hn: ¬a):c:=h.resolve_left λh=>hn h.1
def aO.nc (Z:aO):aO:={Z with cov:=False}
def aO.plain (I:Nat->Prop):aO:=⟨I,[],[],λ_=>undef,False,λ_=>True⟩
def aO.bz (Z:aO)(t:Nat):aO:={Z with In:=λb=>(t∈Z.bI/\Z.Pr b)\/Z.In b}
def aO.fz (Z:aO)(f:Nat):aO:={Z with In:=λb=>(f∈Z.bF/\Z.Pr b)\/Z.In b,cov:=f∈Z.bF}
def vT:Kd->MV->Bool
 | .b,.b _=>true
 | .i k,.i k' _=>decide (k'=k)
 | .s,.s _=>true
 | .h k n,.h k' n' x=>decide (k'=k)&&(aQ n' n&&aQ x.length (n+2))
 |_,_=>false
def cf:List Kd->List MV->Bool
 |[],[]=>true
 |k::ks,m::ms=>vT k m&&cf ks ms
 |_,_=>false
def xu:MV->List Value
 | .b x=>[.bool x]
 | .i k n=>[.int k n]
 | .s l=>[.string ⟨l.toArray⟩]
 | .h k n x=>aX k x
 |_=>[]
def dk (st:Bool)(ks:List MV):Value:=match st,ks with
 |false,[.h k n x]=> .agg (aX k x).toArray
 |false,[.b x]=> .bool x
 |false,[.i k n]=> .int k n
 |false,[.s l]=> .string ⟨l.toArray⟩
 |_,ks=> .agg (ks.flatMap xu).toArray
def uh (b:Bool)(m:MV):Value:=match b,m with
 |true,.b x=> .bool x
 |false,.i .i64 n=> .int .i64 n
 |_,_=>undef
def Kn (b:Bool)(m:MV):Bool:=match b,m with
 |true,.b x=>true
 |false,.i .i64 n=>true
 |_,_=>false
def Wn (s:MS)(x:MapEntry)(m:MV)(i:Nat):Prop:=x.born=i/\ ∃ks v,m= .cG [.agg ks,v]/\cf s.lay ks=true/\x.key=dk s.st ks/\Kn s.b v=true/\x.val=uh s.b v
structure lX (s:MS) (es:Array MapEntry) (clock:Nat) (ms:List MV):Prop where
 size:es.size=ms.length
 clock:clock=ms.length
 TN: ∀(i:Nat) x m,es[i]? =some x->ms[i]? =some m->Wn s x m i
def e9 (e:Env)(o:Obj)(cs:List ak):Prop:=match o with
 | .cells arr _ z=>z=(0,0)/\ai e arr.toList cs
 | .map es clock=> ∃s ms,cs=[.mp s ms]/\zp s=false/\lX s es clock ms
 | .stringIter x pos=>cs=[.mp MS.it [.s x.data.toList,.i .i64 pos]]
 |_=>False
def F9 (cs:List ak)(b:Nat):Value:=bif gn cs then .map (some b) else .pointer (some ⟨b,0,none⟩)
structure nh (Z:aO) (e:Env) (w:World) (aA:Nat) (cs:List ak):Prop where
 bt:Z.In aA
 obj: ∃o,w.heap[aA]? =some o/\e9 e o cs
 free: ∀off,e.φ aA off=none
theorem e9.on {S T:Nat->Prop} {e e':Env}(h:eR S T e e'){o:Obj}{cs:List ak}(hl: ∀l∈cs,ef S l)(hr:e9 e o cs):e9 e' o cs:=by
 cases o with
 |cells arr T z=>exact ⟨hr.1,hr.2.on h hl⟩
 |map es clock=>exact hr
 |stringIter x pos=>exact hr
 |_=>exact hr.elim
theorem Ga {cs:List ak}(h:cR cs=true): ∃s ms,cs=[.mp s ms]:=by
 unfold cR at h;split at h
 ·exact ⟨_,_,rfl⟩
 ·cases h
theorem e9.cells {e:Env}{o:Obj}{cs:List ak}(hr:e9 e o cs)(hm:cR cs=false): ∃arr T,o= .cells arr T (0,0)/\ai e arr.toList cs:=by
 cases o with
 |cells arr T z=>obtain ⟨rfl,h⟩:=hr;exact ⟨arr,T,rfl,h⟩
 |map es clock=>obtain ⟨s,ms,rfl,_⟩:=hr;simp [cR] at hm
 |stringIter x pos=>rw [show cs=_ from hr] at hm;simp [cR] at hm
 |_=>exact hr.elim
theorem pR {cs:List ak}(h:cR cs=false):gn cs=false:=by
 unfold gn;split
 ·simp [cR] at h
 ·rfl
theorem HR (g:ak->ak)(h1: ∀s es,g (.mp s es)= .mp s es)(h2: ∀l,(∀s es,l≠ .mp s es)-> ∀s es,g l≠ .mp s es)(cs:List ak):gn (cs.map g)=gn cs:=by
 cases cs with
 |nil=>rfl
 |cons l r=>
  cases r with
  |nil=>
   by_cases hl: ∃s es,l= .mp s es
   ·obtain ⟨s,es,rfl⟩:=hl;simp [h1,gn]
   ·have zx: ∀s es,l≠ .mp s es:=λs es e=>hl ⟨s,es,e⟩;have hg:=h2 l zx;simp only [OF,adN];have a:gn [l]=false:=by cases l<;>simp_all [gn]
    have b:gn [g l]=false:=by cases hq:g l<;>simp_all [gn]
    rw [a,b]
  |cons x y=>cases hl:l<;>simp [gn]
theorem nh.cells {Z:aO}{e:Env}{w:World}{aA:Nat}{cs:List ak}(h:nh Z e w aA cs)(hm:cR cs=false): ∃arr T,w.heap[aA]? =some (.cells arr T (0,0))/\ai e arr.toList cs:=by obtain ⟨o,h1,h2⟩:=h.obj;obtain ⟨arr,T,rfl,h3⟩:=h2.cells hm;exact ⟨arr,T,h1,h3⟩
theorem Ko {cs:List ak}(hm:gn cs=false)(b:Nat):F9 cs b= .pointer (some ⟨b,0,none⟩):=by simp [F9,hm]
theorem lY {cs:List ak}(hm:cR cs=false)(b:Nat):F9 cs b= .pointer (some ⟨b,0,none⟩):=Ko (pR hm) b
theorem PU {cs:List ak}(hm:gn cs=true)(b:Nat):F9 cs b= .map (some b):=by simp [F9,hm]
theorem e9.map {e:Env}{g:ak->ak}(hg: ∀vs l,aw e vs l->aw e vs (g l))(hm: ∀s es,g (.mp s es)= .mp s es){o:Obj}{cs:List ak}(hr:e9 e o cs):e9 e o (cs.map g):=by
 cases o with
 |cells arr T z=>exact ⟨hr.1,hr.2.map hg⟩
 |map es clock=>obtain ⟨s,ms,rfl,h2⟩:=hr;exact ⟨s,ms,by simp [hm],h2⟩
 |stringIter x pos=>rw [show cs=_ from hr];show adH g _=_;simp [hm]
 |_=>exact hr.elim
theorem Kp (f:Nat)(cs:List ak):gn (cs.map (F7 f))=gn cs:=HR _ (λ_ _=>rfl) (λl hl s es=>by cases l<;>simp_all [F7];rename_i g;cases aQ g f<;>simp) cs
theorem XI (f:List Nat)(cs:List ak):gn (cs.map (JR f))=gn cs:=HR _ (λ_ _=>rfl) (λl hl s es=>by cases l<;>simp_all [JR];rename_i g;cases aP f g<;>simp) cs
structure bw (c:Ctx) (Z:aO) (e:Env) (w:World) (v:Value) (o:jb):Prop where
 row: ∃I cells,c.ti o.ty=some I/\I.bB=[]/\w.ownsRow 0 o.ty I.size v o.xs.length cells/\aB e.key e.φ I.size cells o.xs/\ ∀aA,v.ownBlock=some aA->Z.In aA/\(∀off u,e.φ aA off=some u->o.cB=true/\off<o.xs.length *I.size)/\(Z.cov->o.cB=true-> ∀j,j<cells.length->e.φ aA j=cells[j]?)
def tied (Z:aO)(t:Nat)(v:Value)(cs:List ak)(b:Nat):Prop:=(ru t=false->v=F9 cs b)/\(ru t=true->posOf t∈Z.bI/\Z.T (posOf t)= .pointer (some ⟨b,HF t,none⟩))
theorem tied.gn {Z:aO}{t:Nat}{v:Value}{cs dj:List ak}{b:Nat}(h:tied Z t v cs b)(hm:gn dj=gn cs):tied Z t v dj b:=⟨λhp=>by rw [h.1 hp];simp [F9,hm],h.2⟩
theorem tied.own {Z:aO}{t:Nat}{v:Value}{cs:List ak}{b:Nat}(hp:ru t=false)(h:v=F9 cs b):tied Z t v cs b:=⟨λ_=>h,λhq=>by rw [hp] at hq;cases hq⟩
def bk (Z:aO)(e:Env)(w:World)(t:Nat)(v:Value):Slot->Prop
 | .box cs=>tied Z t v cs (e.B t)/\nh (Z.bz t) e w (e.B t) cs
 |s=>aa e v s
def bK (fr:Fr):Slot->Prop
 | .ptr r _=>bP (ah fr r)=true
 | .hp r _ _ _=>bP (ah fr r)=true
 | .rr r=>bP (ah fr r)=true
 |_=>True
structure bg (c:Ctx) (Z:aO) (e:Env) (st:St) (a:Act) (w:World):Prop where
 defers:a.defers=[]/\st.bI=Z.bI/\st.bF=Z.bF/\ ∀t∈Z.bI,a.tmps.getD t undef=Z.T t
 size:a.tmps.size=c.n
 m:e.m=st.az
 key:e.key=c.key
 nodup:(ax st.fr).Nodup
 slot: ∀t,bk Z e w t (a.tmps.getD t undef) (ah st.fr t)
 root: ∀t,bK st.fr (ah st.fr t)
 dV: ∀f o,ar st.az f=some o->bw c (Z.fz f) e w (e.E f) o
 bb: ∀t t' cs dj,ah st.fr t= .box cs->ah st.fr t'= .box dj->t≠t'->e.B t≠e.B t'
 bf: ∀t cs f o,ah st.fr t= .box cs->ar st.az f=some o->(e.E f).ownBlock≠some (e.B t)
 ff: ∀f f' o o' k,ar st.az f=some o->ar st.az f'=some o'->(e.E f).ownBlock=some k->(e.E f').ownBlock=some k->f=f'
 fB: ∀b o v,e.φ b o=some v->w.cell? ⟨b,o,none⟩=some v
 bt: ∀b,w.heap.size<=b->Z.In b
def Rest (w w':World):Prop:=w'.os=w.os/\w'.tape=w.tape/\w'.output=w.output
theorem Rest.refl (w:World):Rest w w:=⟨rfl,rfl,rfl⟩
theorem Rest.trans {w w' tp:World}(h:Rest w w') (h':Rest w' tp):Rest w tp:=⟨h'.1.trans h.1,h'.2.1.trans h.2.1,h'.2.2.trans h.2.2⟩
theorem Rest.alloc (w:World)(cs:Array Value)(t:TypeId):Rest w (w.alloc (.cells cs t)):=⟨rfl,rfl,rfl⟩
theorem Rest.setRow (w:World)(g:Nat)(cs:Array Value):Rest w (w.setRow g cs):=⟨rfl,rfl,rfl⟩
structure bX (w w':World):Prop where
 size:w.heap.size<=w'.heap.size
 ln: ∀b,b<w.heap.size->w'.heap[b]? =w.heap[b]?
 rest:Rest w w'
theorem aC {w:World}{b:Nat}{x:Obj}(h:w.heap[b]? =some x):b<w.heap.size:=(Array.getElem?_eq_some_iff.1 h).1
theorem bX.cell {w w':World}(g:bX w w'){ad:Addr}{v:Value}(h:w.cell? ad=some v):w'.cell? ad=some v:=by have hl:=abF w ad h;rw [aav (g.ln ad.block hl)];exact h
structure Trans (Z:Nat->Prop) (φ:Ph) (w:World) (φ':Ph) (w':World):Prop where
 ph:dJ φ φ'
 heap: ∀b,¬Z b->b<w.heap.size->w'.heap[b]? =w.heap[b]?
 free: ∀b o,¬Z b->φ' b o=φ b o
 size:w.heap.size<=w'.heap.size
 rest:Rest w w'
theorem Trans.refl (Z:Nat->Prop) (φ:Ph)(w:World):Trans Z φ w φ w:=⟨.refl φ,λ_ _ _=>rfl,λ_ _ _=>rfl,aai _,.refl _⟩
theorem Trans.trans {Z:Nat->Prop} {φ φ' φ'':Ph} {w w' tp:World}(h:Trans Z φ w φ' w') (h':Trans Z φ' w' φ'' tp):Trans Z φ w φ'' tp:=⟨h.ph.trans h'.ph,λb hb hl=>(h'.heap b hb (Nat.lt_of_lt_of_le hl h.size)).trans (h.heap b hb hl),λb o hb=>(h'.free b o hb).trans (h.free b o hb),abW h.size h'.size,h.rest.trans h'.rest⟩
def li (Z:aO)(e:Env)(w:World)(st:St)(v:Value):Slot->Prop
 | .box cs=> ∃aA,v=F9 cs aA/\nh Z e w aA cs/\(∀t dj,ah st.fr t= .box dj->e.B t≠aA)/\(∀f o,ar st.az f=some o->(e.E f).ownBlock≠some aA)
 |s=>aa e v s/\bK st.fr s
section
variable {c:Ctx}{Z:aO}{e:Env}{st:St}{a:Act}{w:World}
theorem aa.const {v:Value}:aa e v (th v):=by
 unfold th;split<;>simp only [aa,aw,MV.one]<;> first
   |exact ⟨trivial,.b _⟩
   |exact ⟨trivial,.i _ _⟩
   |exact ⟨trivial,.s _⟩
   |exact ⟨trivial,.raw _ rfl⟩
theorem bg.eval (h:bg c Z e st a w)(x:Operand):aa e (a.eval x) (aq c st x)/\bK st.fr (aq c st x):=by
 cases x with
 |tmp t=>
  have hs:=h.slot t;have hr:=h.root t;simp only [Act.eval,aq];cases JS:plk c.par t with
  |some q=>
   simp only;cases hq:ru q&&aQ (posOf q) t with
   |false=>exact ⟨by simp [aa],trivial⟩
   |true=>
    simp only [cond_true];simp only [AS] at hq;have hqt:=sh hq.2;have hsq:=h.slot q;split
    ·rename_i cs hfq;rw [hfq] at hsq;cases hm:cR cs with
     |true=>exact ⟨by simp [aa],trivial⟩
     |false=>obtain ⟨k1,k2⟩:=hsq.1.2 hq.1;refine ⟨?_,by simp [bK,hfq,bP]⟩;show a.tmps.getD t undef=_;rw [<-hqt,h.defers.2.2.2 _ k1,k2]
    ·exact ⟨by simp [aa],trivial⟩
  |none=>
  simp only;generalize hf:ah st.fr t=s at hs hr;cases s<;>simp only [bk] at hs<;>try exact ⟨hs,hr⟩
  ·rename_i cs;cases XJ:ru t with
   |true=>simp only [cond_true];exact ⟨by simp [aa],trivial⟩
   |false=>
   simp only [cond_false];cases hm:gn cs with
   |true=>simp only [hm,cond_true,aa,bK,hf,bP];exact ⟨by rw [hs.1.1 XJ,PU hm],trivial⟩
   |false=>simp only [hm,cond_false,aa,bK,hf,bP];exact ⟨by rw [hs.1.1 XJ,Ko hm],trivial⟩
 |const v=>refine ⟨aa.const,?_⟩;simp only [aq];unfold th;split<;>trivial
 |func f=>simp only [Act.eval,aq,aa,aw,MV.one,bK,and_true,true_and];exact .func f _ #[] [] (by rw [h.key]) (by simpa using dq.nil) (by simp)
 |global g=>simp [aq,aa,bK]
end
theorem Act.rI {a:Act}{d t:Nat}{v:Value}(hd:d<a.tmps.size):(a.put (some d) v).tmps.getD t undef=if t=d then v else a.tmps.getD t undef:=by
 simp only [Act.put,Array.getD_eq_getD_getElem?,Array.getElem?_setIfInBounds];by_cases h:d=t
 ·subst h;simp [hd]
 ·have h': ¬t=d:=λe=>h e.symm;simp [h,h']
theorem PV {fr:Fr}{s:Slot}(h:bK fr s):da (λ_=>True) (λr=>bP (ah fr r)=true) s:=by cases s<;>simp_all [bK,da,ef]
theorem Gb (r:Fr)(d:Nat)(s:Slot):ax (bu r d s)=if d∈ax r then ax r else ax r++[d]:=by
 induction r with
 |nil=>simp [bu,ax]
 |cons p r ih=>
  obtain ⟨k,x⟩:=p;simp only [bu,cY];by_cases h:k=d
  ·simp [h,ax]
  ·have h': ¬d=k:=λe=>h e.symm;have ih':adH Prod.fst (bu r d s)=if d∈ax r then ax r else ax r++[d]:=ih
   simp only [h,h',decide_false,cond_false,ax,OF,aan,false_or,ih'];by_cases hm:d∈ax r
   ·have Wo:d∈adH Prod.fst r:=hm;simp [hm,Wo,ax]
   ·have Wo:d∉adH Prod.fst r:=hm;simp [hm,Wo,ax]
theorem cD {r:Fr}{d:Nat}{s:Slot}(h:(ax r).Nodup):(ax (bu r d s)).Nodup:=by
 rw [Gb];by_cases hm:d∈ax r
 ·simpa [hm] using h
 ·simp only [hm,if_false];exact List.nodup_append.2 ⟨h,by simp,by intro x hx y hy;simp at hy;subst hy;intro e;subst e;exact hm hx⟩
section
variable {c:Ctx}{Z:aO}{e:Env}{st:St}{a:Act}{w:World}{R:Type}{K:St->Option R}{r:R}
def Env.ui (e:Env)(d aA:Nat):Env:={e with B:=λt=>if t=d then aA else e.B t}
theorem nh.env {e e':Env}{aA:Nat}{cs:List ak}(h:nh Z e w aA cs)(hk:e'.key=e.key)(hp:e'.φ=e.φ)(hE:e'.E=e.E)(hm:e'.m=e.m):nh Z e' w aA cs:=by refine ⟨h.bt,?_,λoff=>by rw [hp];exact h.free off⟩;obtain ⟨o,h1,h2⟩:=h.obj;refine ⟨o,h1,h2.on (S:=λ_=>True) (T:=λ_=>False) ⟨hk,by rw [hp];exact .refl _,by simp,?_⟩ (by intro l _ f _;trivial)⟩;intro f o ho _;exact ⟨o,by rw [<-hm];exact ho,by rw [hE],rfl⟩
theorem bw.env {e e':Env}{v:Value}{o:jb}(h:bw c Z e w v o)(hk:e'.key=e.key)(hp:e'.φ=e.φ):bw c Z e' w v o:=by obtain ⟨I,cells,h1,h2,h3,h4,h5⟩:=h.row;exact ⟨I,cells,h1,h2,h3,by rw [hk,hp];exact h4,by rw [hp];exact h5⟩
theorem nh.to {aA:Nat}{cs:List ak}(h:nh Z e w aA cs)(t:Nat):nh (Z.bz t) e w aA cs:=⟨.inr h.bt,h.obj,h.free⟩
theorem bw.to {v:Value}{o:jb}{f:Nat}(h:bw c Z.nc e w v o)(hf:f∉Z.bF):bw c (Z.fz f) e w v o:=by obtain ⟨I,cells,h1,h2,h3,h4,h5⟩:=h.row;exact ⟨I,cells,h1,h2,h3,h4,λaA hb=>⟨.inr (h5 aA hb).1,(h5 aA hb).2.1,λhc=>absurd hc hf⟩⟩
theorem bS {d:Option Nat}{s:Slot}{v:Value}(h:bg c Z e st a w)(hv:li Z e w st v s)(hK:aG c st d s K=some r): ∃e' bm,bg c Z e' bm (a.put d v) w/\K bm=some r/\e'.φ=e.φ:=by
 cases d with
 |none=>exact ⟨e,st,h,hK,rfl⟩
 |some d=>
  simp only [aG] at hK;cases xv:ru d||(aag c.n d||bP (ah st.fr d)) with
  |true=>simp [xv] at hK
  |false=>
   obtain ⟨aev,hb⟩:=aam.1 xv;simp only [xv,cond_false,wr] at hK;cases hp:aP st.bI d with
   |true=>simp [hp] at hK
   |false=>
    simp only [hp,cond_false,force_eq,gV] at hK;simp only [aam] at hb;have TP:d<a.tmps.size:=by
     rw [h.size];have:=hb.1;by_cases cz:d<c.n
     ·exact cz
     ·have:aag c.n d=true:=acd (by omega);simp_all
    have hdp:d∉Z.bI:=by intro hm;rw [<-h.defers.2.1,<-aN,hp] at hm;cases hm
    have aaF: ∀fr:Fr,(a.put (some d) v).defers=[]/\({st with fr:=fr}:St).bI=Z.bI/\({st with fr:=fr}:St).bF=Z.bF/\ ∀t∈Z.bI,(a.put (some d) v).tmps.getD t undef=Z.T t:=by intro fr;refine ⟨h.defers.1,h.defers.2.1,h.defers.2.2.1,λt ht=> ?_⟩;rw [Act.rI TP,if_neg (by intro e;subst e;exact hdp ht)];exact h.defers.2.2.2 t ht
    have jz: ∀t,da (λ_=>True) (λr=>r≠d) (ah st.fr t):=by intro t;have:=PV (h.root t);generalize ah st.fr t=x at this;cases x<;>simp_all [da,ef]<;>(intro e;subst e;simp_all)
    by_cases hs: ∃cs,s= .box cs
    ·obtain ⟨cs,rfl⟩:=hs;obtain ⟨aA,rfl,nR,TQ,XK⟩:=hv;have lu:eR (λ_=>True) (λr=>r≠d) e (e.ui d aA):=⟨rfl,.refl _,λr hr=>by simp [Env.ui,hr],λf o ho _=>⟨o,ho,rfl,rfl⟩⟩
     refine ⟨e.ui d aA,_,?_,hK,rfl⟩;refine ⟨aaF _,by simpa [Act.put] using h.size,h.m,h.key,cD h.nodup,?_,?_,?_,?_,?_,?_,h.fB,h.bt⟩
     ·intro t;rw [Act.rI TP,a8];by_cases ht:t=d
      ·subst ht;simp only [if_true,bk,Env.ui];exact ⟨.own aev rfl,(nR.to t).env rfl rfl rfl rfl⟩
      ·simp only [ht,if_false];have iw:=h.slot t;have jV:=jz t;generalize ah st.fr t=x at iw jV;cases x<;>simp only [bk] at iw⊢ <;>try exact iw.on lu jV
       simp only [Env.ui,ht,if_false];exact ⟨iw.1,iw.2.env rfl rfl rfl rfl⟩
     ·intro t;simp only [a8];by_cases ht:t=d
      ·simp [ht,bK]
      ·simp only [ht,if_false];have jV:=h.root t;have HS:=jz t;generalize ah st.fr t=x at jV HS;cases x<;>simp_all [bK,a8,da]
     ·intro f o ho;exact (h.dV f o ho).env rfl rfl
     ·intro t t' Gc DB h1 h2 cg;simp only [a8] at h1 h2;simp only [Env.ui];by_cases ht:t=d
      ·by_cases vd:t'=d
       ·exact absurd (ht.trans vd.symm) cg
       ·simp only [vd,if_false] at h2;simp only [ht,vd,if_true,if_false];exact λe=>TQ t' DB h2 e.symm
      ·simp only [ht,if_false] at h1;by_cases vd:t'=d
       ·simp only [ht,vd,if_true,if_false];exact TQ t Gc h1
       ·simp only [vd,if_false] at h2;simp only [ht,vd,if_false];exact h.bb t t' Gc DB h1 h2 cg
     ·intro t Gc f o h1 h2;simp only [a8] at h1;simp only [Env.ui];by_cases ht:t=d
      ·simp only [ht,if_true];exact XK f o h2
      ·simp only [ht,if_false] at h1⊢;exact h.bf t Gc f o h1 h2
     ·exact h.ff
    ·have Hv:aa e v s/\bK st.fr s:=by cases s<;>simp_all [li]
     refine ⟨e,_,?_,hK,rfl⟩;refine ⟨aaF _,by simpa [Act.put] using h.size,h.m,h.key,cD h.nodup,?_,?_,h.dV,?_,?_,h.ff,h.fB,h.bt⟩
     ·intro t;rw [Act.rI TP,a8];by_cases ht:t=d
      ·simp only [ht,if_true];cases s<;>simp only [bk]<;>first|exact Hv.1|exact absurd ⟨_,rfl⟩ hs
      ·simp only [ht,if_false];exact h.slot t
     ·intro t;simp only [a8];by_cases ht:t=d
      ·simp only [ht,if_true];have hr:=Hv.2;cases s<;>simp only [bK,a8] at hr⊢
       ·rename_i r o;by_cases DC:r=d
        ·subst DC;simp_all
        ·simp only [DC,if_false];exact hr
       ·rename_i r;by_cases DC:r=d
        ·subst DC;simp_all
        ·simp only [DC,if_false];exact hr
       ·rename_i r o _ i;by_cases DC:r=d
        ·subst DC;simp_all
        ·simp only [DC,if_false];exact hr
      ·simp only [ht,if_false];have jV:=h.root t;have HS:=jz t;generalize ah st.fr t=x at jV HS;cases x<;>simp_all [bK,a8,da]
     ·intro t t' Gc DB h1 h2 cg;simp only [a8] at h1 h2;by_cases ht:t=d
      ·simp only [ht,if_true] at h1;exact absurd ⟨_,h1⟩ hs
      ·by_cases vd:t'=d
       ·simp only [vd,if_true] at h2;exact absurd ⟨_,h2⟩ hs
       ·simp only [ht,vd,if_false] at h1 h2;exact h.bb t t' Gc DB h1 h2 cg
     ·intro t Gc f o h1 h2;simp only [a8] at h1;by_cases ht:t=d
      ·simp only [ht,if_true] at h1;exact absurd ⟨_,h1⟩ hs
      ·simp only [ht,if_false] at h1;exact h.bf t Gc f o h1 h2
end
end Dn
/-
  Operations that change no memory: moves, numbers, texts, places. Conditions: none.
-/
namespace Dn
open Go
def Out (c:Ctx)(Z:aO){R:Type}(K:St->Option R)(r:R) (φ:Ph)(w:World) (a':Act) (w':World):Prop:=∃e' bm,bg c Z e' bm a' w'/\Trans Z φ w e'.φ w'/\K bm=some r
section
variable {P:Program}{c:Ctx}{Z:aO}{e:Env}{st:St}{a:Act}{w:World}{R:Type}{K:St->Option R}{r:R}{Q:Exit->Act->World->Prop}{o:Oper}
theorem li.of {s:Slot}{v:Value}(h:aa e v s)(hr:bK st.fr s):li Z e w st v s:=by cases s<;>first|exact ⟨h,hr⟩|(simp [aa] at h)
theorem fin {e':Env}{bm:St} {w':World}{s:Slot}{v:Value}(aV:(execOp a.eval o).run P w= .ok (.value v) w')(hs:bg c Z e' bm a w')(ht:Trans Z e.φ w e'.φ w')(hv:li Z e' w' bm v s)(hK:aG c bm o.dst s K=some r):o.wp P a w (Out c Z K r e.φ w) Q:=by unfold adO;rw [aV,ab8];obtain ⟨e2,cK,h1,h2,h3⟩:=bS hs hv hK;exact ⟨e2,cK,h1,by rw [h3];exact ht,h2⟩
theorem vU {e':Env}{bm:St} {w':World}(aV:(execOp a.eval o).run P w= .ok .skip w')(hs:bg c Z e' bm a w')(ht:Trans Z e.φ w e'.φ w')(hK:aG c bm o.dst (.sc .un) K=some r):o.wp P a w (Out c Z K r e.φ w) Q:=by unfold adO;rw [aV,Oper.upon_skip];obtain ⟨e2,cK,h1,h2,h3⟩:=bS (v:=undef) hs (by simp [li,aa,bK]) hK;exact ⟨e2,cK,h1,by rw [h3];exact ht,h2⟩
theorem Kq {e':Env}{bm:St} {w':World}{s:Slot}{v:Value}(hg:bX w w')(aV:(execOp a.eval o).run P w= .ok (.value v) w')(hs:bg c Z e' bm a w')(ht:Trans Z e.φ w e'.φ w')(hv:li Z e' w' bm v s)(hK:aG c bm o.dst s K=some r):o.wp P a w (λa' w'=>bX w w'/\Out c Z K r e.φ w a' w') Q:=by unfold adO;rw [aV,ab8];obtain ⟨e2,cK,h1,h2,h3⟩:=bS hs hv hK;exact ⟨hg,e2,cK,h1,by rw [h3];exact ht,h2⟩
def Rd (P:Program)(c:Ctx)(Z:aO){R:Type}(K:St->Option R)(r:R)(e:Env)(a:Act)(w:World)(o:Oper)(G:World->Prop):Prop:=∃v,(∀w',G w'->(execOp a.eval o).run P w'= .ok (.value v) w')/\Out c Z K r e.φ w (a.put o.dst v) w
theorem Rd.wp {G:World->Prop}(h:Rd P c Z K r e a w o G)(hg:G w):o.wp P a w (Out c Z K r e.φ w) Q:=by obtain ⟨v,h1,h2⟩:=h;unfold adO;rw [h1 w hg,ab8];exact h2
theorem Kr {G:World->Prop} {e':Env}{bm:St}{s:Slot}{v:Value}(aV: ∀w':World,G w'->(execOp a.eval o).run P w'= .ok (.value v) w')(hs:bg c Z e' bm a w)(ht:Trans Z e.φ w e'.φ w)(hv:li Z e' w bm v s)(hK:aG c bm o.dst s K=some r):Rd P c Z K r e a w o G:=by obtain ⟨e2,cK,h1,h2,h3⟩:=bS hs hv hK;exact ⟨v,aV,e2,cK,h1,by rw [h3];exact ht,h2⟩
theorem dH {s:Slot}{v:Value}(h:bg c Z e st a w)(aV: ∀w':World,(execOp a.eval o).run P w'= .ok (.value v) w')(hv:aa e v s)(hr:bK st.fr s)(hK:aG c st o.dst s K=some r):Rd P c Z K r e a w o (λ_=>True):=Kr (λw' _=>aV w') h (.refl _ _ _) (.of hv hr) hK
theorem yz {v:Value}{x:Bool}(h:aa e v (.sc (.p (.b x)))):v= .bool x:=by simp only [aa,aw] at h;obtain ⟨_,h⟩:=h;generalize hv:[v]=vs at h;cases h;simpa using hv
theorem ft {v:Value}{k:IntKind}{n:Int}(h:aa e v (.sc (.p (.i k n)))):v= .int k n:=by simp only [aa,aw] at h;obtain ⟨_,h⟩:=h;generalize hv:[v]=vs at h;cases h;simpa using hv
theorem vV {v:Value}{l:List UInt8}(h:aa e v (.sc (.p (.s l)))): ∃b:ByteArray,v= .string b/\l=b.data.toList:=by simp only [aa,aw] at h;obtain ⟨_,h⟩:=h;generalize hv:[v]=vs at h;cases h;exact ⟨_,by simpa using hv,rfl⟩
theorem qZ (x:Bool):aa e (.bool x) (.sc (.p (.b x))):=by simp only [aa,aw];exact ⟨rfl,.b x⟩
theorem lZ (k:IntKind)(n:Int):aa e (.int k n) (.sc (.p (.i k n))):=by simp only [aa,aw];exact ⟨rfl,.i k n⟩
theorem TR (b:ByteArray):aa e (.string b) (.sc (.p (.s b.data.toList))):=by simp only [aa,aw];exact ⟨rfl,.s b⟩
theorem ni {v u:Value}(h:aa e v (.sc (.p (.raw u)))):v=u:=by simp only [aa,aw] at h;obtain ⟨_,h⟩:=h;generalize hv:[v]=vs at h;cases h;simpa using hv
theorem AG (u:Value)(h:u.oneCell'=true):aa e u (.sc (.p (.raw u))):=by simp only [aa,aw];exact ⟨rfl,.raw u h⟩
theorem Gd {x:Operand}(ho:o.op= .move x\/o.op= .assign x)(h:bg c Z e st a w)(hK:aG c st o.dst (aq c st x) K=some r): Rd P c Z K r e a w o (λ_=>True):=by obtain ⟨h1,h2⟩:=h.eval x;refine dH h ?_ h1 h2 hK;rcases ho with ho|ho<;>simp [execOp,ho]
theorem HT {x:Operand}(ho:o.op= .nilCheck x)(h:bg c Z e st a w)(hK:Xw (aq c st x) (λs=>aG c st o.dst s K)=some r):Rd P c Z K r e a w o (λ_=>True):=by
 obtain ⟨h1,h2⟩:=h.eval x;unfold Xw at hK;split at hK
 ·rename_i ek;rw [ek] at h1 h2;refine dH h ?_ (v:=a.eval x) h1 h2 hK;simp only [aa] at h1;simp [execOp,ho,h1]
 ·rename_i ek;rw [ek] at h1 h2;refine dH h ?_ (v:=a.eval x) h1 h2 hK;simp only [aa] at h1;obtain ⟨aA,q,vs,vK,h3⟩:=h1;simp [execOp,ho,vK]
 ·rename_i m ek;rw [ek] at h1;simp only [aa,aw] at h1;unfold gP at hK;split at hK
  ·rename_i c';obtain ⟨h0,h1⟩:=h1;refine dH (s:= .sc (.p (.rp c'))) h ?_ (v:=a.eval x) (by simp only [aa,aw];exact ⟨h0,h1⟩) trivial hK;generalize hv:[a.eval x]=vs at h1;cases h1 with
   |rp aA off us ms hr hp=>
   simp only [aau,and_true] at hv;simp [execOp,ho,hv]
  ·cases hK
 ·simp at hK
theorem TS {x y z:Operand}(ho:o.op= .pick x y z)(h:bg c Z e st a w)(hK:Pv (aq c st x) (aq c st y) (aq c st z) (λs=>aG c st o.dst s K)=some r):Rd P c Z K r e a w o (λ_=>True):=by
 obtain ⟨hx,_⟩:=h.eval x;obtain ⟨hy,hy2⟩:=h.eval y;obtain ⟨hz,PW⟩:=h.eval z;have aV: ∀v,a.eval x= .bool v-> ∀w:World,(execOp a.eval o).run P w= .ok (.value (if v then a.eval y else a.eval z)) w:=by intro v hv w;simp [execOp,ho,hv,asBool]
 unfold Pv at hK;split at hK
 ·rename_i v hv;have hxv:=yz (by rw [hv] at hx;exact hx);have hr:=aV v hxv;split at hK
  ·rename_i p q hp hq;rw [hp] at hy;rw [hq] at hz;simp only [yz hy,yz hz] at hr;refine dH h hr ?_ (s:= .sc (.p (.b (bif v then p else q)))) trivial hK;cases v
   ·exact qZ q
   ·exact qZ p
  ·cases v
   ·exact dH h hr hz PW hK
   ·exact dH h hr hy hy2 hK
 ·simp at hK
theorem TT {op:UnOp}{ty:TypeId}{x:Operand}(ho:o.op= .unOp op ty x)(h:bg c Z e st a w)(hK:unK op (aq c st x) (λs=>aG c st o.dst s K)=some r):Rd P c Z K r e a w o (λ_=>True):=by
 obtain ⟨hx,_⟩:=h.eval x;generalize aq c st x=s at hx hK;unfold unK at hK;split at hK
 ·refine dH h ?_ (qZ _) trivial hK;simp [execOp,ho,yz hx,Op.unary]
 ·refine dH h ?_ (lZ _ _) trivial hK;simp [execOp,ho,ft hx,Op.unary,acj]
 ·simp at hK
end
end Dn
/-
  The type table; numbers, texts, places, loads. Conditions: none.
-/
namespace Dn
open Go
def zy:List Kd->Nat
 |[]=>0
 | .h _ n::r=>(n+2)+zy r
 |_::r=>1+zy r
def kM (ti:Nat->Option TI)(P:Program)(I:TI)(z:Option Value):TypeDesc->Prop
 | .struct fs=>I.st=true/\I.bB=[]/\(0<I.size/\zy I.lay=I.size)/\fs.toList.map (·.offset)=I.zq/\fs.toList.map (·.type)=I.M9/\ (∀(k:Nat) (f:Field),fs[k]? =some f-> ∃J,ti f.type=some J/\J.bB=[]/\0<J.size)/\ ∃cs,z=some (.agg cs)/\ng I.zero cs.toList=true/\cs.size=I.size
 | .tuple ts=>I.bB=ts.toList/\I.bB≠[]/\I.lay=[]/\I.st=false
 | .slice el=>I.st=false/\I.bB=[]/\I.size=1/\I.elem=el/\(∃E,ti el=some E/\E.bB=[]/\0<E.size)/\z=some (.slice none 0 0)/\I.zero=[.nil]/\(∃k,I.lay=[k]/\k= .l)
 | .array n el=>I.st=false/\I.bB=[]/\I.size=n/\I.elem=el/\ ∃k m,n=m+2/\(∃i,P.underlying el=some (.int k)/\P.info? el=some i/\i.size=1)/\I.lay=[.h k m]/\I.zero=[.hs k m (zA m)]/\z=some (.agg (aX k (zA m)).toArray)
 | .bool=>I.st=false/\I.bB=[]/\I.size=1/\I.lay=[.b]/\I.zero=[.p (.b false)]/\z=some (.bool false)
 | .int k=>I.st=false/\I.bB=[]/\I.size=1/\I.lay=[.i k]/\I.zero=[.p (.i k 0)]/\z=some (.int k 0)
 | .string=>I.st=false/\I.bB=[]/\I.size=1/\I.lay=[.s]/\I.zero=[.p (.s [])]/\ ∃b:ByteArray,z=some (.string b)/\b.data.toList=[]
 |_=>I.st=false/\I.bB=[]/\I.size=1/\I.lay=[.raw]/\ ∃v,z=some v/\v.oneCell'=true/\ng I.zero [v]=true
def ji (ti:Nat->Option TI)(P:Program)(t:Nat)(I:TI):Prop:=∃d i,P.underlying t=some d/\P.info? t=some i/\(I.bB=[]->i.size=I.size/\i.bytes=I.bytes)/\kM ti P I i.zero d
def dt (P:Program)(ti:Nat->Option TI):Prop:= ∀t I,ti t=some I->ji ti P t I
section
variable {P:Program}{c:Ctx}{Z:aO}{e:Env}{st:St}{a:Act}{w:World}{R:Type}{K:St->Option R}{r:R}{Q:Exit->Act->World->Prop}{o:Oper}
theorem cj {x:Bool}{k:Option R}(h:aY x k=some r):x=true/\k=some r:=by
 cases x
 ·simp [aY] at h
 ·exact ⟨rfl,h⟩
theorem fQ {α:Type}{x:Option α}{k:α->Option R}(h:bd x k=some r): ∃y,x=some y/\k y=some r:=by
 cases x with
 |none=>simp [bd] at h
 |some y=>exact ⟨y,rfl,h⟩
theorem HU {l:List MV}{i:Int}{k:MV->Option R}(h:idx l i k=some r):0<=i/\ ∃y,l[i.toNat]? =some y/\k y=some r:=by
 unfold idx Xu at h;by_cases hi:0<=i
 ·simp only [hi,if_true] at h;cases hl:l[i.toNat]? with
  |none=>simp [hl] at h
  |some y=>exact ⟨hi,y,rfl,by simpa [hl] using h⟩
 ·simp [hi] at h
theorem ji.agg {ti:Nat->Option TI}{t:Nat}{I:TI}(h:ji ti P t I)(hc:I.bB=[]): (∃d,P.underlying t=some d/\d.isRow=true/\(I.st=true\/I.st=false/\1<I.size))\/(∃d,P.underlying t=some d/\d.isRow=false/\I.st=false/\I.size=1):=by
 obtain ⟨d,i,h1,h2,h3,h4⟩:=h;cases d<;>simp only [kM] at h4<;>first
  |exact .inl ⟨_,h1,rfl,.inl h4.1⟩
  |exact .inl ⟨_,h1,rfl,.inr ⟨h4.1,by obtain ⟨_,_,h5,_,_,m,h6,_⟩:=h4;omega⟩⟩
  |exact .inr ⟨_,h1,rfl,h4.1,h4.2.2.1⟩
  |exact absurd hc h4.2.1
theorem ji.info {ti:Nat->Option TI}{t:Nat}{I:TI}(h:ji ti P t I)(hc:I.bB=[]): ∃i,P.info? t=some i/\i.size=I.size/\i.bytes=I.bytes:=by obtain ⟨d,i,h1,h2,h3,h4⟩:=h;exact ⟨i,h2,h3 hc⟩
theorem aD {t:Nat}{I:TI}(h:c.tv t=some I):c.ti t=some I/\I.bB=[]:=by
 unfold Ctx.tv at h;cases hc:c.ti t with
 |none=>simp [hc] at h
 |some J=>
  cases hj:J.bB with
  |nil=>simp [hc,hj] at h;subst h;exact ⟨rfl,hj⟩
  |cons x y=>simp [hc,hj] at h
theorem Ks {s t:TypeId}{x:Operand}{I:TI}(ho:o.op= .convert s t x)(hI:c.ti t=some I)(hT:dt P c.ti)(hs: ∃d,P.underlying s=some d){fk:Option FloatKind}(DD: ∀k,fk=some k->P.underlying t=some (.float k))(h:bg c Z e st a w)(hK:Pw I fk (aq c st x) (λs=>aG c st o.dst s K)=some r):Rd P c Z K r e a w o (λ_=>True):=by
 obtain ⟨hx,_⟩:=h.eval x;obtain ⟨ds,mT⟩:=hs;obtain ⟨d,i,h1,h2,h3,h4⟩:=hT t I hI;generalize aq c st x=s' at hx hK;unfold Pw at hK;split at hK
 ·rename_i k k' n cu vL hl;have hd:d= .int k:=by cases d<;>simp only [kM,hl,cu,vL] at h4<;>simp_all
  subst hd;refine dH h ?_ (lZ _ _) trivial hK;simp [execOp,ho,ft hx,convert,run_underlying mT,run_underlying h1,Conv.intToInt]
 ·rename_i l cu vL hl;have hd:d= .string:=by cases d<;>simp only [kM,hl,cu,vL] at h4<;>simp_all
  subst hd;obtain ⟨b,hb,rfl⟩:=vV hx;refine dH h ?_ (TR b) trivial hK;simp [execOp,ho,hb,convert,run_underlying mT,run_underlying h1]
 ·rename_i k x cu vL hl;have hd:d= .int k:=by cases d<;>simp only [kM,hl,cu,vL] at h4<;>simp_all
  subst hd;obtain ⟨n,hn,hK⟩:=fQ hK;obtain ⟨hr,hK⟩:=cj hK;have hr:=of_decide_eq_true hr;refine dH h ?_ (lZ _ _) trivial hK;simp [execOp,ho,ni hx,convert,run_underlying mT,run_underlying h1,Conv.floatToInt,hn,hr]
 ·rename_i k n cu vL hl;split at hK
  ·have vK:=DD _ rfl;refine dH h ?_ (AG _ rfl) trivial hK;simp [execOp,ho,ft hx,convert,run_underlying mT,run_underlying vK,Conv.intToFloat]
  ·simp at hK
 ·simp at hK
theorem TU {op:BinOp}{k:IntKind}{x y:Int}{m:MV}{t:TypeId}(hm:LJ op k x y=some m): ∃v,(∀w:World,(binOp op t (.int k x) (.int k y)).run P w= .ok v w)/\aa e v (.sc (.p m)):=by
 cases op<;>simp only [LJ,By,reduceCtorEq] at hm<;>subst hm
 ·exact ⟨_,by simp [binOp,acj],lZ _ _⟩
 ·exact ⟨_,by simp [binOp,acj],lZ _ _⟩
 ·exact ⟨_,by simp [binOp,acj],lZ _ _⟩
 ·exact ⟨.int k (cH k x y),λw=>by simp [binOp];rfl,lZ _ _⟩
 ·exact ⟨.int k (pG k x y),λw=>by simp [binOp];rfl,lZ _ _⟩
 ·exact ⟨.int k (bn k x y),λw=>by simp [binOp];rfl,lZ _ _⟩
 ·refine ⟨.bool (decide (x=y)),λw=> ?_,qZ _⟩;simp [binOp,abG];rfl
 ·refine ⟨.bool (!decide (x=y)),λw=> ?_,qZ _⟩;simp [binOp,abG];rfl
 ·exact ⟨.bool (decide (x<y)),by simp [binOp,abG],qZ _⟩
 ·exact ⟨.bool (decide (x<=y)),by simp [binOp,abG],qZ _⟩
 ·exact ⟨.bool (decide (y<x)),by simp [binOp,abG],qZ _⟩
 ·exact ⟨.bool (decide (y<=x)),by simp [binOp,abG],qZ _⟩
theorem toList_data (b:ByteArray):b.toList=b.data.toList:=by exact ByteArray.toList_eq b
theorem TV {op:BinOp}{x y:ByteArray}{m:MV}{t:TypeId}(hm:FY op x.data.toList y.data.toList=some m): ∃v,(∀w:World,(binOp op t (.string x) (.string y)).run P w= .ok v w)/\aa e v (.sc (.p m)):=by
 have aex:(x.data.toList==y.data.toList)=decide (x.data.toList=y.data.toList):=by rw [Bool.eq_iff_iff];simp
 cases op<;>simp only [FY,By,reduceCtorEq] at hm<;>subst hm<;> exact ⟨_,λw=>by simp only [binOp,Op.stringOp,toList_data,aex];rfl,qZ _⟩
theorem Ng (b:ByteArray)(n:Nat):b[n]? =b.data.toList[n]? :=by
 by_cases h:n<b.size
 ·have h2:n<b.data.toList.length:=by simpa using h
  rw [getElem?_pos b n h,IT h2];rfl
 ·have h2: ¬n<b.data.toList.length:=by simpa using h
  rw [getElem?_neg b n h,aa4 (by omega)]
theorem l9 (k:IntKind)(x:List Int)(n:Nat)(hl:n<x.length):(aX k x)[n]? =some (.int k (x.getD n 0)):=by simp [aX,aak,ac7,IT hl]
theorem aaG {t:TypeId}{x y:Operand}{I:TI}(ho:o.op= .index t x y)(hI:c.ti t=some I)(hT:dt P c.ti)(h:bg c Z e st a w)(hK:ixK I (aq c st x) (aq c st y) (λs=>aG c st o.dst s K)=some r):Rd P c Z K r e a w o (λ_=>True):=by
 obtain ⟨hx,_⟩:=h.eval x;obtain ⟨hy,_⟩:=h.eval y;obtain ⟨d,i,h1,h2,h3,h4⟩:=hT t I hI;generalize aq c st x=sx at hx hK;generalize aq c st y=sy at hy hK;unfold ixK at hK;split at hK
 ·rename_i l k n cu hl;have hd:d= .string:=by cases d<;>simp only [kM,hl,cu] at h4<;>simp_all
  subst hd;cases hc:decide ((0:Int)<=n/\n<(l.length:Int)) with
  |false=>simp [aY,hc] at hK
  |true=>
   simp only [aY,hc] at hK;obtain ⟨XL,Ex⟩:=of_decide_eq_true hc;obtain ⟨b,hb,rfl⟩:=vV hx;have cz:n.toNat<b.data.toList.length:=by omega
   refine dH h ?_ (lZ .u8 ((b.data.toList.getD n.toNat 0).toNat:Int)) trivial hK;have hg:b[n.toNat]? =some (b.data.toList.getD n.toNat 0):=by rw [Ng,IT cz];simp [ac7,IT cz]
   simp [execOp,ho,hb,ft hy,Instr.index,run_underlying h1,asIntOf,XL,hg]
 ·rename_i k' m' k m b _ n cu hl;cases hq:aQ m' m&&decide (k'=k) with
  |false=>simp [hq] at hK
  |true=>
  simp only [hq,cond_true] at hK;simp only [AS,decide_eq_true_eq] at hq;obtain ⟨hm,rfl⟩:=hq;have hm:=sh hm;subst hm;cases d<;>simp only [kM,hl,cu] at h4<;>first|(exfalso;simp_all;done)|skip
  rename_i len el;obtain ⟨hc,hK⟩:=cj hK;obtain ⟨XL,Ex⟩:=of_decide_eq_true hc;have aey:n<(m':Int)+2:=by omega
  ·simp only [aa] at hx;obtain ⟨hx,hb⟩:=hx;obtain ⟨_,_,_,_,kk,mm,rfl,⟨ie,hu,jW,qH⟩,oJ,_⟩:=h4;simp only [aau,Kd.h.injEq,and_true] at oJ;obtain ⟨rfl,rfl⟩:=oJ;refine dH h ?_ (lZ k' (b.getD n.toNat 0)) trivial hK;have hg:=l9 k' b n.toNat (by omega);have XM:(aX k' b).toArray[n.toNat]? =some (.int k' (b.getD n.toNat 0)):=by simpa using hg
   simp [execOp,ho,hx,ft hy,Instr.index,run_underlying h1,asIntOf,XL,aey,adF,isAgg,run_underlying hu,aal,typeInfo,jW,qH,hg,XM]
 ·simp at hK
def HV (P:Program)(ti:Nat->Option TI):Prop:=(∀t I,ti t=some I->J7 I.zero=true-> ∃el,P.underlying t=some (.pointer el))/\ ∀t I,ti t=some I->I.bB=[]-> ∀(e:Env) (w:World) (vx vy:Value) (sx sy:Slot) (b:Bool),aa e vx sx->aa e vy sy-> cV I.lay (av sx)=true->cV I.lay (av sy)=true->iu I.st sx=true->iu I.st sy=true->eD (av sx) (av sy)=some b-> (∀k n k' n',sx= .sc (.p (.i k n))->sy= .sc (.p (.i k' n'))->False)->(∀l l',sx= .sc (.p (.s l))->sy= .sc (.p (.s l'))->False)-> (adI t vx vy).run P w= .ok b w/\ ∀(x y:Operand) (op:BinOp),(eqGuard op t x y vx vy).run P w= .ok () w/\(op= .eql->binOp op t vx vy=(do pure (.bool (<-adI t vx vy))))/\(op= .neq->binOp op t vx vy=(do pure (.bool (!(<-adI t vx vy)))))
theorem PX {op:BinOp} {t t':TypeId}{x y:Operand}(ho:o.op= .binOp op t x y t')(h:bg c Z e st a w)(hE:HV P c.ti)(hK:Xv (c.tv t) op (aq c st x) (aq c st y) (λs=>aG c st o.dst s K)=some r):Rd P c Z K r e a w o (λ_=>True):=by
 obtain ⟨hP,hE⟩:=hE;obtain ⟨hx,_⟩:=h.eval x;obtain ⟨hy,_⟩:=h.eval y;generalize hsx:aq c st x=sx at hx hK;generalize hsy:aq c st y=sy at hy hK;have aV: ∀v,(∀w:World,(binOp op t (a.eval x) (a.eval y)).run P w= .ok v w)->(∀cs,a.eval x≠ .agg cs)->a.eval x≠ .nilIface-> ∀w:World,(execOp a.eval o).run P w= .ok (.value v) w:=by
  intro v hv hna hni w;have hg:(eqGuard op t x y (a.eval x) (a.eval y)).run P w= .ok () w:=by
   generalize a.eval x=va at hna hni;generalize a.eval y=vb;have hm: ∀(u v:Value),u=va->(∀cs,u≠ .agg cs)->u≠ .nilIface->(eqGuard op t x y u v).run P w= .ok () w:=by
    intro u v _ h1 h2;cases u<;>first
     |exact absurd rfl h2
     |exact absurd rfl (h1 _)
     |(cases op<;>rfl)
   exact hm va vb rfl hna hni
  simp [execOp,ho,hg,hv]
 unfold Xv at hK;split at hK
 ·rename_i k n k' n';have e1:=ft hx;have e2:=ft hy;split at hK
  ·cases hk:decide (k=k') with
   |false=>simp [hk] at hK
   |true=>
    have hk:=of_decide_eq_true hk;subst hk;simp only [decide_true,cond_true] at hK;cases hz:decide (n'=0) with
    |true=>simp [aY,hz] at hK
    |false=>simp only [aY,hz,adJ] at hK;have hz:=of_decide_eq_false hz;refine dH h (aV _ ?_ (by simp [e1]) (by simp [e1])) (lZ _ _) trivial hK;simp [binOp,e1,e2,Op.intDiv,hz]
  ·cases hk:decide (k=k') with
   |false=>simp [hk] at hK
   |true=>
    have hk:=of_decide_eq_true hk;subst hk;simp only [decide_true,cond_true] at hK;cases hz:decide (n'=0) with
    |true=>simp [aY,hz] at hK
    |false=>simp only [aY,hz,adJ] at hK;have hz:=of_decide_eq_false hz;refine dH h (aV _ ?_ (by simp [e1]) (by simp [e1])) (lZ _ _) trivial hK;simp [binOp,e1,e2,Op.intDiv,hz]
  ·cases hz:decide ((0:Int)<=n') with
   |false=>simp [aY,hz] at hK
   |true=>
    simp only [aY,hz] at hK;have hz:=of_decide_eq_true hz;refine dH h (aV _ ?_ (by simp [e1]) (by simp [e1])) (lZ _ _) trivial hK;have: ¬n'<0:=by omega
    simp [binOp,e1,e2,Op.shift,this]
  ·cases hz:decide ((0:Int)<=n') with
   |false=>simp [aY,hz] at hK
   |true=>
    simp only [aY,hz] at hK;have hz:=of_decide_eq_true hz;refine dH h (aV _ ?_ (by simp [e1]) (by simp [e1])) (lZ _ _) trivial hK;have: ¬n'<0:=by omega
    simp [binOp,e1,e2,Op.shift,this]
  ·cases hk:decide (k=k') with
   |false=>simp [hk] at hK
   |true=>
    have hk:=of_decide_eq_true hk;subst hk;simp only [decide_true,cond_true] at hK;cases hm:LJ op k n n' with
    |none=>simp [hm] at hK
    |some m=>simp only [hm] at hK;obtain ⟨v,hv,hr⟩:=TU (P:=P) (e:=e) (t:=t) hm;exact dH h (aV v (by rw [e1,e2];exact hv) (by simp [e1]) (by simp [e1])) hr trivial hK
 ·rename_i l l';obtain ⟨b,hb,rfl⟩:=vV hx;obtain ⟨b',zB,rfl⟩:=vV hy;split at hK
  ·obtain ⟨hz,hK⟩:=cj hK
   ·have hz:=of_decide_eq_true hz;have hr:aa e (.string (b++b')) (.sc (.p (.s (b.data.toList++b'.data.toList)))):=by have:=TR (e:=e) (b++b');simpa [ByteArray.data_append] using this
    refine dH h (aV _ ?_ (by simp [hb]) (by simp [hb])) hr trivial hK;have hs: ¬(((b.size+b'.size:Nat):Int)>IntKind.i64.max):=by
     have h1:b.size=b.data.toList.length:=by simp
     have h2:b'.size=b'.data.toList.length:=by simp
     have:IntKind.i64.max=9223372036854775807:=by decide
     rw [this];omega
    intro w;simp only [binOp,hb,zB,Op.stringOp,hs,if_false];rfl
  ·cases hm:FY op b.data.toList b'.data.toList with
   |none=>simp [hm] at hK
   |some m=>simp only [hm] at hK;obtain ⟨v,hv,hr⟩:=TV (P:=P) (e:=e) (t:=t) hm;exact dH h (aV v (by rw [hb,zB];exact hv) (by simp [hb]) (by simp [hb])) hr trivial hK
 ·have e2:=ni hy;simp only [aa] at hx;have ptr: ∀I:TI,c.tv t=some I->J7 I.zero=true-> ∀w:World,(adI t (a.eval x) (a.eval y)).run P w= .ok false w:=by
   intro I hI hz w;obtain ⟨el,hu⟩:=hP t I (aD hI).1 hz;rw [hx,e2];have key: ∀(d:Nat) (ad:Addr),(Op.equalIn (d+1) t (.pointer (some ad)) (.pointer none)).run P w= .ok false w:=λd ad=>by simp [Op.equalIn,abY,run_underlying hu]
   exact key 9999 _
  split at hK
  ·rename_i I hI;cases hz:J7 I.zero with
   |false=>simp [hz] at hK
   |true=>simp only [hz,cond_true] at hK;refine dH h (aV (.bool false) (λw=> ?_) (by simp [hx]) (by simp [hx])) (qZ _) trivial hK;have:=ptr I hI hz w;rw [hx,e2] at this⊢;simp [binOp,this]
  ·rename_i I hI;cases hz:J7 I.zero with
   |false=>simp [hz] at hK
   |true=>simp only [hz,cond_true] at hK;refine dH h (aV (.bool true) (λw=> ?_) (by simp [hx]) (by simp [hx])) (qZ _) trivial hK;have:=ptr I hI hz w;rw [hx,e2] at this⊢;simp [binOp,this]
  ·simp at hK
 ·have e1:=ni hx;have e2:=ni hy;obtain ⟨r',hr',hK⟩:=fQ hK;refine dH h (aV _ ?_ (by simp [e1]) (by simp [e1])) (AG (.float .f64 r') rfl) trivial hK;intro w;cases op<;>simp only [aax,reduceCtorEq] at hr'<;>simp [binOp,e1,e2,Op.floatArith,hr']
 ·rename_i Ex zC _ hn3;split at hK
  ·rename_i I hI;obtain ⟨DE,Hw⟩:=aD hI;cases hf:cV I.lay (av sx)&&cV I.lay (av sy)&&(iu I.st sx&&iu I.st sy) with
   |false=>simp [hf] at hK
   |true=>
    simp only [hf,cond_true] at hK;simp only [AS] at hf;obtain ⟨hf,PY⟩:=hf;split at hK
    ·cases hm:eD (av sx) (av sy) with
     |none=>simp [hm] at hK
     |some b=>simp only [hm] at hK;refine dH h ?_ (qZ b) trivial hK;intro w;obtain ⟨h1,h2⟩:=hE t I DE Hw e w _ _ sx sy b hx hy hf.1 hf.2 PY.1 PY.2 hm Ex zC;have:=(h2 x y .eql).1;simp [execOp,ho,this,(h2 x y .eql).2.1 rfl,h1]
    ·cases hm:eD (av sx) (av sy) with
     |none=>simp [hm] at hK
     |some b=>simp only [hm] at hK;refine dH h ?_ (qZ (!b)) trivial hK;intro w;obtain ⟨h1,h2⟩:=hE t I DE Hw e w _ _ sx sy b hx hy hf.1 hf.2 PY.1 PY.2 hm Ex zC;have:=(h2 x y .neq).1;simp [execOp,ho,this,(h2 x y .neq).2.2 rfl,h1]
    ·simp at hK
  ·simp at hK
end
end Dn
/-
  Lengths, parts, places, loads. Conditions: none.
-/
namespace Dn
open Go
section
variable {P:Program}{c:Ctx}{Z:aO}{e:Env}{st:St}{a:Act}{w:World}{R:Type}{K:St->Option R}{r:R}{Q:Exit->Act->World->Prop}{o:Oper}
theorem cell_of {aA:Nat}{arr:Array Value}{T:TypeId}{fr:Nat×Nat}(h:w.heap[aA]? =some (.cells arr T fr))(j:Nat):w.cell? ⟨aA,j,none⟩=arr[j]? :=by simp [World.cell?,h]
theorem dK {t:TypeId}{I:TI}{aA off:Nat}{vs:List Value}(hr:ji c.ti P t I)(hc:I.bB=[])(hl:vs.length=I.size)(hm:w.rangeAt aA off vs): ((I.st=true\/1<I.size)/\ ∀w:World,w.rangeAt aA off vs->(abr t (.pointer (some ⟨aA,off,none⟩))).run P w= .ok (.agg vs.toArray) w)\/ (I.st=false/\ ∃v,vs=[v]/\ ∀w:World,w.rangeAt aA off vs->(abr t (.pointer (some ⟨aA,off,none⟩))).run P w= .ok v w):=by
 obtain ⟨i,hi,hs,_⟩:=hr.info hc;rcases hr.agg hc with ⟨d,hu,hd,hh⟩|⟨d,hu,hd,h1,h2⟩
 ·refine .inl ⟨hh.imp id (·.2),λw hm=> ?_⟩;exact run_loadAt_mid w aA off t vs d hm hu hd (by simp [hi,hs,hl])
 ·refine .inr ⟨h1,?_⟩;rw [h2] at hl;obtain ⟨v,rfl⟩:=aaN.1 hl;refine ⟨v,rfl,λw hm=> ?_⟩;have jj:w.cell? ⟨aA,off,none⟩=some v:=hm 0 v rfl;have XN:(isAgg t).run P w= .ok false w:=by unfold isAgg;rw [abY,run_underlying hu w];cases d<;>simp_all
  simp [abr,aaO,loadVar,XN,jj]
theorem aw.slot {vs:List Value}{l:ak}{v:Value}(h:aw e vs l)(hv:(vs=[v]/\l.w=1)\/(v= .agg vs.toArray/\1<l.w)):aa e v (.sc l):=by
 rcases hv with ⟨rfl,hw⟩|⟨rfl,hw⟩
 ·cases l<;>simp [aa,ak.w] at hw⊢ <;>exact h
 ·cases l<;>simp [ak.w] at hw;simp only [aa];obtain ⟨rfl,h2⟩:=h;exact ⟨rfl,h2⟩
theorem dZ {t:TypeId}{I:TI}{cs:List ak}{aA base off:Nat}{vs:List Value}{s:Slot} {K':Slot->Option R}(hr:ji c.ti P t I)(hc:I.bB=[])(hv:ai e vs cs)(hm:w.rangeAt aA base vs)(hK:eC I cs off K'=some r): ∃v s,(∀w:World,w.rangeAt aA base vs->(abr t (.pointer (some ⟨aA,base+off,none⟩))).run P w= .ok v w)/\aa e v s/\bK st.fr s/\K' s=some r:=by
 unfold eC at hK;cases cu:I.st with
 |true=>
  simp only [cu,cond_true] at hK;cases hp:Dn.part cs off I.size with
  |none=>simp [hp] at hK
  |some ds=>
   simp only [hp] at hK;obtain ⟨v1,v2,v3,rfl,h1,h2,h3⟩:=Eu hp hv;have Kt: ∀w:World,w.rangeAt aA base (v1++v2++v3)->w.rangeAt aA (base+off) v2:=by intro w hm j v hj;have JT:j<v2.length:=(AT.1 hj).1;have:=hm (off+j) v (by rw [AI,No (by omega),aaa (by omega)];rw [show off+j-v1.length=j by omega];exact hj);rwa [<-abe] at this
   rcases dK hr hc h2 (Kt w hm) with ⟨_,aV⟩|⟨hf,_⟩
   ·refine ⟨_,.ag ds,λw hm=>aV w (Kt w hm),?_,trivial,hK⟩;simp only [aa];exact ⟨_,rfl,by simpa using h3⟩
   ·rw [cu] at hf;cases hf
 |false=>
  simp only [cu,cond_false] at hK;cases hp:cut cs off with
  |none=>simp [hp] at hK
  |some ds=>
   cases ds with
   |nil=>simp [hp] at hK
   |cons l ls=>
    simp only [hp] at hK;cases hb:aQ l.w I.size with
    |false=>simp [hb] at hK
    |true=>
     simp only [hb,cond_true] at hK;have hw:=sh hb;obtain ⟨v1,v2,rfl,h1,h2⟩:=rH hp hv;obtain ⟨u,u2,rfl,h3,h4⟩:=h2;have Kt: ∀w:World,w.rangeAt aA base (v1++(u++u2))->w.rangeAt aA (base+off) u:=by intro w hm j v hj;have JT:j<u.length:=(AT.1 hj).1;have:=hm (off+j) v (by rw [No (by omega),aaa (by omega)];rw [show off+j-v1.length=j by omega];exact hj);rwa [<-abe] at this
     rcases dK hr hc (by rw [h3.width,hw]) (Kt w hm) with ⟨hh,aV⟩|⟨_,v,Nh,aV⟩
     ·refine ⟨_,.sc l,λw hm=>aV w (Kt w hm),h3.slot (.inr ⟨rfl,?_⟩),trivial,hK⟩;rcases hh with hh|hh
      ·rw [cu] at hh;cases hh
      ·rw [hw];exact hh
     ·refine ⟨_,.sc l,λw hm=>aV w (Kt w hm),h3.slot (.inl ⟨Nh,?_⟩),trivial,hK⟩;rw [<-h3.width,Nh];rfl
theorem aB.at {key:Nat->Nat} {φ:Ph}{size:Nat}{xs:List MV}: ∀{cs:List Value} {i:Nat} {x:MV},aB key φ size cs xs->xs[i]? =some x-> ∃a v b,cs=a++v++b/\a.length=i *size/\v.length=size/\dI key φ v x:=by
 induction xs with
 |nil=>intro cs i x _ hx;simp at hx
 |cons y ys ih=>
  intro cs i x h hx;obtain ⟨v,q,rfl,hl,hr,he⟩:=h;cases i with
  |zero=>simp at hx;subst hx;exact ⟨[],v,q,by simp,by simp,hl,hr⟩
  |succ i=>obtain ⟨a,u,b,rfl,h1,h2,h3⟩:=ih he (by simpa using hx);exact ⟨v++a,u,b,by simp,by simp [hl,h1,aaw,acL],h2,h3⟩
theorem dq.leaves {ms:List MV}: ∀{vs:List Value} {cs:List ak},dq e.key e.φ vs ms->aW cs=some ms->(∀m,ak.p m∈cs->m.one=true)->ai e vs cs:=by
 induction ms with
 |nil=>
  intro vs cs h hc _;cases h;cases cs with
  |nil=>rfl
  |cons l r=>cases hr:aW r<;>cases l<;>simp [aW,hr] at hc
 |cons m ms ih=>
  intro vs cs h hc ho;cases cs with
  |nil=>simp [aW] at hc
  |cons l r=>
   generalize oK:vs=DF at h;cases h with
   |cons v _ vs _ h1 h2=>
   subst oK;cases hr:aW r with
   |none=>cases l<;>simp [aW,hr] at hc
   |some q=>
    have bJ: ∀m,ak.p m∈r->m.one=true:=λm hm=>ho m (by simp [hm]);cases l<;>simp [aW,hr] at hc
    ·obtain ⟨rfl,rfl⟩:=hc;exact ⟨v,vs,rfl,⟨ho _ (by simp),h1⟩,ih h2 hr bJ⟩
    ·obtain ⟨rfl,rfl⟩:=hc;refine ⟨v,vs,rfl,?_,ih h2 hr bJ⟩;generalize hv:v=v' at h1;cases h1;rename_i hx;exact ⟨rfl,hx⟩
theorem dI.AH {vs:List Value}{x:MV}{b:Bool}{cs:List ak}(h:dI e.key e.φ vs x)(hc:AB b x cs):ai e vs cs:=by
 obtain ⟨⟨ms,h1,h2⟩,h3⟩:=hc;cases b with
 |true=>cases ms<;>simp [nQ] at h2<;>subst h2<;>(generalize hv:vs=v' at h;cases h;subst hv;rename_i hh;exact hh.leaves h1 h3)
 |false=>
  cases ms with
  |nil=>simp [nQ] at h2
  |cons m ms=>
   cases ms with
   |cons y ys=>simp [nQ] at h2
   |nil=>simp [nQ] at h2;subst h2;have:dq e.key e.φ (vs++[]) [m]:= .cons vs m [] [] h .nil;rw [adE] at this;exact this.leaves h1 h3
theorem PZ {t:TypeId}{x:Operand}{I:TI}{cs:List ak}{off:Nat}(ho:o.op= .load t x)(hI:c.tv t=some I)(hT:dt P c.ti)(h:bg c Z e st a w)(Dq:aq c st x= .rp cs off)(hK:eC I cs off (λs=>aG c st o.dst s K)=some r):Rd P c Z K r e a w o (λw'=> ∀b q v,e.φ b q=some v->w'.cell? ⟨b,q,none⟩=some v):=by
 obtain ⟨hx,jV⟩:=h.eval x;obtain ⟨fH,hc⟩:=aD hI;have hr:=hT t I fH;rw [Dq] at hx;simp only [aa] at hx;obtain ⟨aA,q,vs,hx,jX,_,xH⟩:=hx;have hm: ∀w':World,(∀b q v,e.φ b q=some v->w'.cell? ⟨b,q,none⟩=some v)->w'.rangeAt aA q vs:=by intro w' hi j v hj;have JT:j<vs.length:=(AT.1 hj).1;exact hi _ _ _ (by rw [xH j JT];exact hj)
 obtain ⟨v,s,h1,h2,h3,h4⟩:=dZ (st:=st) (s:= .skip) hr hc jX (hm w h.fB) hK;refine Kr (λw' hi=> ?_) h (.refl _ _ _) (.of h2 h3) h4;simp [execOp,ho,hx,h1 w' (hm w' hi)]
theorem TW {t:TypeId}{x:Operand}{I:TI}(ho:o.op= .load t x)(hI:c.tv t=some I)(hT:dt P c.ti)(h:bg c Z e st a w)(hK:ldK st I (aq c st x) (λs=>aG c st o.dst s K)=some r):Rd P c Z K r e a w o (bX w):=by
 obtain ⟨hx,jV⟩:=h.eval x;obtain ⟨fH,hc⟩:=aD hI;have hr:=hT t I fH;have TX: ∀v s,(∀w':World,bX w w'->(abr t (a.eval x)).run P w'= .ok v w')->aa e v s->bK st.fr s->aG c st o.dst s K=some r->Rd P c Z K r e a w o (bX w):=by intro v s h1 h2 h3 h4;refine Kr (λw' hg=> ?_) h (.refl _ _ _) (.of h2 h3) h4;simp [execOp,ho,h1 w' hg]
 have keep: ∀{w':World} {aA off:Nat} {vs:List Value},bX w w'->w.rangeAt aA off vs->w'.rangeAt aA off vs:=by intro w' aA off vs hg hm j v hj;exact hg.cell (hm j v hj)
 generalize aq c st x=s at hx hK jV;unfold ldK at hK;split at hK
 ·rename_i root off;simp only [aa] at hx;have iw:=h.slot root;split at hK
  ·rename_i cs mU;rw [mU] at iw;have nj:cR cs=false:=by cases hq:cR cs<;>simp_all
   simp only [nj,cond_false] at hK;obtain ⟨_,nR⟩:=iw;obtain ⟨arr,T,bH,jX⟩:=nR.cells nj;have hm:w.rangeAt (e.B root) 0 arr.toList:=by intro j v hj;rw [aah,cell_of bH];simpa using hj
   obtain ⟨v,s,h1,h2,h3,h4⟩:=dZ (st:=st) (s:= .skip) hr hc jX hm hK;rw [aah] at h1;exact TX v s (λw' hg=>by rw [hx];exact h1 w' (keep hg hm)) h2 h3 h4
  ·simp at hK
 ·rename_i cs off;simp only [aa] at hx;obtain ⟨aA,q,vs,hx,jX,_,xH⟩:=hx;have hm:w.rangeAt aA q vs:=by intro j v hj;have JT:j<vs.length:=(AT.1 hj).1;exact h.fB _ _ _ (by rw [xH j JT];exact hj)
  obtain ⟨v,s,h1,h2,h3,h4⟩:=dZ (st:=st) (s:= .skip) hr hc jX hm hK;exact TX v s (λw' hg=>by rw [hx];exact h1 w' (keep hg hm)) h2 h3 h4
 ·rename_i f i off b cs;cases hf:ar st.az f with
  |none=>simp [hf] at hK
  |some o'=>
   simp only [hf] at hK;simp only [aa] at hx;obtain ⟨aA,cap,hE,⟨x,hxi,Th⟩,hx⟩:=hx o' (by rw [h.m];exact hf);obtain ⟨J,cells,hJ,Ti,cb,dL,_⟩:=(h.dV f o' hf).row;obtain ⟨p1,v1,p2,rfl,Ge,om,cM⟩:=dL.at hxi;have jX:=cM.AH Th;rw [hE] at cb;have jj:=cb.cells (g:=aA) rfl;have hm:w.rangeAt aA (i *rv cs) v1:=by intro j v hj;have JT:j<v1.length:=(AT.1 hj).1;have:=jj (i *J.size+j) v (by rw [AI,No (by omega),aaa (by omega)];rw [show i *J.size+j-p1.length=j by omega];exact hj);rw [aas,aah] at this;rw [<-jX.width,om];exact this
   obtain ⟨v,s,h1,h2,h3,h4⟩:=dZ (st:=st) (s:= .skip) hr hc jX hm hK;exact TX v s (λw' hg=>by rw [hx];exact h1 w' (keep hg hm)) h2 h3 h4
 ·rename_i root off hn i;simp only [aa] at hx;obtain ⟨hx,TY⟩:=hx;have iw:=h.slot root;cases hb:I.st||!aQ I.size 1 with
  |true=>simp [hb] at hK
  |false=>
   simp only [hb,cond_false] at hK;simp only [aam,abv] at hb;have jT:=sh hb.2;split at hK
   ·rename_i cs mU;rw [mU] at iw;have nj:cR cs=false:=by cases hq:cR cs<;>simp_all
    simp only [nj,cond_false] at hK;obtain ⟨_,nR⟩:=iw;obtain ⟨arr,T,bH,jX⟩:=nR.cells nj;split at hK
    ·rename_i kk n' b ls XO;cases hq:aQ n' hn with
     |false=>simp [hq] at hK
     |true=>
     simp only [hq,cond_true] at hK;have hq:=sh hq;subst hq;obtain ⟨v1,v2,aez,h1,h2⟩:=rH XO jX;obtain ⟨u,u2,rfl,h3,h4⟩:=h2;obtain ⟨rfl,h3⟩:=h3;have hg:=l9 kk b i (by omega);have hlen:=bC kk b;have hm:w.rangeAt (e.B root) (off+i) [.int kk (b.getD i 0)]:=by
      intro j v hj;cases j with
      |succ j=>simp at hj
      |zero=>
       simp at hj;rw [aaP,cell_of bH];have:arr[off+i]? =arr.toList[off+i]? :=by simp
       rw [this,aez,No (by omega),aaa (by omega),show off+i-v1.length=i by omega,hg,<-hj];simp [ac7]
     rcases dK hr hc (by simp [jT]) hm with ⟨hh,_⟩|⟨_,v,Nh,aV⟩
     ·rcases hh with hh|hh
      ·rw [hb.1] at hh;cases hh
      ·omega
     ·simp at Nh;subst Nh;exact TX _ _ (λw' hg=>by rw [hx];exact aV w' (keep hg hm)) (lZ _ _) trivial hK
    ·simp at hK
   ·simp at hK
 ·simp at hK
theorem Ni {t:TypeId}{x:Operand}{f:Nat}{I:TI}(ho:o.op= .fieldAddr t x f)(hI:c.tv t=some I)(hT:dt P c.ti)(h:bg c Z e st a w)(hK:Py st I f (aq c st x) (λs=>aG c st o.dst s K)=some r):Rd P c Z K r e a w o (λ_=>True):=by
 obtain ⟨hx,jV⟩:=h.eval x;obtain ⟨fH,hc⟩:=aD hI;obtain ⟨d,i,h1,h2,h3,h4⟩:=hT t I fH;have key: ∀q aA off,I.st=true->I.zq[f]? =some q->a.eval x= .pointer (some ⟨aA,off,none⟩)-> ∀w:World,(execOp a.eval o).run P w= .ok (.value (.pointer (some ⟨aA,off+q,none⟩))) w:=by
  intro q aA off cu hq hv w;cases d<;>simp only [kM] at h4;case struct fs=>
   obtain ⟨_,_,_,Tj,bJ,LQ,_⟩:=h4;rw [<-Tj,aak] at hq;cases hf:fs.toList[f]? with
   |none=>simp [hf] at hq
   |some fl=>
    simp [hf] at hq;subst hq;have P0:fs[f]? =some fl:=by simpa using hf
    obtain ⟨J,hJ,Ti,hJs⟩:=LQ f fl P0;obtain ⟨ij,Wp,hs,_⟩:=(hT _ _ hJ).info Ti;have hz:ij.size≠0:=by omega
    simp [execOp,ho,hv,Instr.fieldAt,run_underlying h1,P0,aaO,fieldPlace,aal,typeInfo,Wp,hz,aas]
  all_goals (exfalso;simp_all)
 generalize aq c st x=s at hx hK jV;unfold Py at hK;split at hK
 ·rename_i q r' o' cu hq;simp only [aa] at hx;refine dH (s:= .ptr r' (o'+q)) h (key q _ _ cu hq hx) ?_ jV hK;simp only [aa]
 ·rename_i q cs o' cu hq;simp only [aa] at hx;obtain ⟨aA,b,vs,hx,hh⟩:=hx;refine dH (s:= .rp cs (o'+q)) h (key q _ _ cu hq hx) ?_ trivial hK;simp only [aa];exact ⟨aA,b,vs,by rw [abe],hh⟩
 ·rename_i q g i' o' b cs cu hq;cases hf:ar st.az g with
  |none=>simp [hf] at hK
  |some w'=>simp only [hf] at hK;simp only [aa] at hx;obtain ⟨aA,cap,h5,h6,h7⟩:=hx w' (by rw [h.m];exact hf);refine dH (s:= .ep g i' (o'+q) b cs) h (key q _ _ cu hq h7) ?_ trivial hK;simp only [aa];intro o2 bJ;rw [h.m,hf] at bJ;cases bJ;exact ⟨aA,cap,h5,h6,by rw [abe]⟩
 ·simp at hK
theorem Nj {cs:List ak}: ∀{vs:List Value} {k:Nat} {l:ak},ai e vs cs->vQ cs k=some l-> ∃v,vs[k]? =some v/\aa e v (.sc l):=by
 induction cs with
 |nil=>intro vs k l _ hk;simp [vQ] at hk
 |cons x xs ih=>
  intro vs k l hr hk;obtain ⟨v0,q,rfl,h1,h2⟩:=hr;have hw:=h1.width;have hx:x.w=1/\(k=0->x=l)/\(∀j,k=j+1->vQ xs j=some l)/\ ∀kk n y,x≠ .hs kk n y:=by cases x<;>cases k<;>simp [vQ,ak.w] at hk⊢ <;>exact hk
  obtain ⟨w1,w2,w3,w4⟩:=hx;rw [w1] at hw;obtain ⟨u,rfl⟩:=aaN.1 hw;cases k with
  |zero=>have:=w2 rfl;subst this;refine ⟨u,rfl,?_⟩;cases x<;>first|(simp [aa];done)|exact absurd rfl (w4 _ _ _)|(simp only [aa];exact h1)
  |succ j=>obtain ⟨v,g1,g2⟩:=ih h2 (w3 j rfl);exact ⟨v,by simpa using g1,g2⟩
theorem XP {x:Operand}{k:Nat}(ho:o.op= .extract x k)(h:bg c Z e st a w)(hK:XB (aq c st x) k (λs=>aG c st o.dst s K)=some r):Rd P c Z K r e a w o (λ_=>True):=by
 obtain ⟨hx,jV⟩:=h.eval x;generalize aq c st x=s at hx hK;unfold XB at hK;split at hK
 ·rename_i cs;simp only [aa] at hx;obtain ⟨arr,hv,hs⟩:=hx;cases hk:vQ cs k with
  |none=>simp [hk] at hK
  |some l=>
   simp only [hk] at hK;obtain ⟨v,JU,h1⟩:=Nj hs hk;have TZ:arr[k]? =some v:=by simpa using JU
   refine dH h ?_ h1 trivial hK;simp [execOp,ho,hv,Instr.extract,TZ]
 ·rename_i vs;simp only [aa] at hx;obtain ⟨arr,hv,hs⟩:=hx;cases hk:vs[k]? with
  |none=>simp [hk] at hK
  |some s=>
   simp only [hk] at hK;have: ∀(k:Nat) (vs:List Slot) (l:List Value),fq e l vs->vs[k]? =some s-> ∃v,l[k]? =some v/\aa e v s/\uF s=true:=by
    intro k;induction k with
    |zero=>
     intro vs l hl hk;cases vs with
     |nil=>simp at hk
     |cons y ys=>simp at hk;subst hk;simp only [fq] at hl;obtain ⟨v,q,rfl,h1,h2,_⟩:=hl;exact ⟨v,rfl,h1,h2⟩
    |succ k ih=>
     intro vs l hl hk;cases vs with
     |nil=>simp at hk
     |cons y ys=>simp only [fq] at hl;obtain ⟨v,q,rfl,_,_,h3⟩:=hl;obtain ⟨u,h4,h5⟩:=ih ys q h3 (by simpa using hk);exact ⟨u,by simpa using h4,h5⟩
   obtain ⟨v,JU,h1,h2⟩:=this k vs arr.toList hs hk;have TZ:arr[k]? =some v:=by simpa using JU
   refine dH h ?_ h1 ?_ hK
   ·simp [execOp,ho,hv,Instr.extract,TZ]
   ·cases s<;>simp [uF] at h2<;>trivial
 ·simp at hK
end
end Dn
/-
  Operations that make memory: variables. Conditions: none.
-/
namespace Dn
open Go
section
variable {P:Program}{c:Ctx}{Z:aO}{e:Env}{st:St}{a:Act} {w w':World}{R:Type}{K:St->Option R}{r:R}{Q:Exit->Act->World->Prop}{o:Oper}
theorem bX.refl (w:World):bX w w:=⟨aai _,λ_ _=>rfl,.refl _⟩
theorem bX.alloc (w:World)(cs:Array Value)(t:TypeId):bX w (w.alloc (.cells cs t)):=⟨by simp,λb hb=>iR w _ b hb,.alloc w cs t⟩
theorem bX.aeA (g:bX w w'){base:Nat}{t:TypeId}{size:Nat}{v:Value}{n:Nat}{xs:List Value}(h:w.ownsRow base t size v n xs):w'.ownsRow base t size v n xs:=by
 refine ⟨h.1,?_⟩;rcases h.2 with h|⟨b,cap,bU,h1,h2,h3,h4⟩
 ·exact .inl h
 ·exact .inr ⟨b,cap,bU,h1,h2,by rw [g.ln b (aC h3)];exact h3,h4⟩
theorem nh.grow (g:bX w w'){aA:Nat}{cs:List ak}(h:nh Z e w aA cs):nh Z e w' aA cs:=by obtain ⟨o,h1,h2⟩:=h.obj;exact ⟨h.bt,⟨o,by rw [g.ln _ (aC h1)];exact h1,h2⟩,h.free⟩
theorem bw.grow (g:bX w w'){v:Value}{f:jb}(h:bw c Z e w v f):bw c Z e w' v f:=by obtain ⟨I,cells,h1,h2,h3,h4,h5⟩:=h.row;exact ⟨I,cells,h1,h2,g.aeA h3,h4,h5⟩
theorem bg.grow (g:bX w w')(h:bg c Z e st a w):bg c Z e st a w':=by refine ⟨h.defers,h.size,h.m,h.key,h.nodup,?_,h.root,λf o ho=>(h.dV f o ho).grow g,h.bb,h.bf,h.ff,λb o v hv=>g.cell (h.fB b o v hv),λb hb=>h.bt b (abW g.size hb)⟩;intro t;have hs:=h.slot t;generalize ah st.fr t=s at hs;cases s<;>simp only [bk] at hs⊢ <;>first|exact hs|exact ⟨hs.1,hs.2.grow g⟩
theorem bX.trans (g:bX w w')(hz: ∀b,w.heap.size<=b->Z b) (φ:Ph):Trans Z φ w φ w':=⟨.refl φ,λb _ hl=>g.ln b hl,λ_ _ _=>rfl,g.size,g.rest⟩
theorem Nk {l:ak}{vs:List Value}(h:PO l vs=true):aw e vs l:=by
 unfold PO at h;split at h
 ·simp at h;subst h;exact ⟨rfl,.b _⟩
 ·simp at h;obtain ⟨rfl,rfl⟩:=h;exact ⟨rfl,.i _ _⟩
 ·simp at h;subst h;exact ⟨rfl,.s _⟩
 ·split at h
  ·exact ⟨rfl,.raw _ rfl⟩
  ·exact ⟨rfl,.raw _ rfl⟩
  ·exact ⟨rfl,.raw _ rfl⟩
  ·simp at h
 ·rfl
 ·exact ⟨_,rfl,h⟩
 ·rename_i kk n x;simp only [AS,beq_iff_eq] at h;obtain ⟨⟨h1,h0⟩,h2⟩:=h;refine ⟨?_,h0⟩;apply List.ext_getElem?;intro j;by_cases DG:j<x.length
  ·rw [l9 kk x j DG];have hjv:j<vs.length:=by omega
   rw [ac9] at h2;have hm:(vs[j],x[j])∈vs.zip x:=acv.2 ⟨j,by simp;omega,by simp⟩;have:=h2 _ hm;rw [IT hjv];dsimp only at this;split at this
   ·rename_i k' v hn;simp only [AS,decide_eq_true_eq] at this;rw [hn,this.1,this.2];simp [ac7,IT DG]
   ·simp at this
  ·rw [aa4 (by omega),aa4 (by rw [bC];omega)]
 ·simp at h
theorem gq {ls:List ak}: ∀{vs:List Value},ng ls vs=true->ai e vs ls:=by
 induction ls with
 |nil=>intro vs h;simpa [ng,ai] using h
 |cons l r ih=>intro vs h;simp only [ng,AS] at h;exact ⟨vs.take l.w,vs.drop l.w,by simp,Nk h.1.1,ih h.1.2⟩
theorem ai.rJ {cs:List ak}{vs:List Value}(h:ai e vs cs):cR cs=false:=by
 cases hm:cR cs with
 |false=>rfl
 |true=>obtain ⟨s,ms,rfl⟩:=Ga hm;obtain ⟨_,_,_,h1,_⟩:=h;exact h1.elim
theorem AJ (h:bg c Z e st a w)(off:Nat):e.φ w.heap.size off=none:=by
 cases hp:e.φ w.heap.size off with
 |none=>rfl
 |some v=>have:=abF w _ (h.fB _ _ _ hp);simp at this
theorem tq (h:bg c Z e st a w):(∀t dj,ah st.fr t= .box dj->e.B t≠w.heap.size)/\(∀f o,ar st.az f=some o->(e.E f).ownBlock≠some w.heap.size):=by
 refine ⟨?_,?_⟩
 ·intro t dj ht;have hs:=h.slot t;rw [ht] at hs;obtain ⟨o,h1,_⟩:=hs.2.obj;have:=aC h1;omega
 ·intro f o ho hk;obtain ⟨I,cells,h1,h2,h3,h4,h5⟩:=(h.dV f o ho).row;rcases h3.2 with ⟨hv,_⟩|⟨g,cap,bU,hv,_,hg,_⟩
  ·rw [hv] at hk;simp [aac] at hk
  ·rw [hv] at hk;simp only [aac,By] at hk;have:=aC hg;omega
theorem LR {cells:Array Value}{T:TypeId}{cs:List ak}(h:bg c Z e st a w)(hl:ai e cells.toList cs): li Z e (w.alloc (.cells cells T)) st (.pointer (some ⟨w.heap.size,0,none⟩)) (.box cs):=by exact ⟨w.heap.size,by rw [lY hl.rJ],⟨h.bt _ (aai _),⟨_,dm w _,rfl,hl⟩,AJ h⟩,(tq h).1,(tq h).2⟩
theorem P1 {t:TypeId}{I:TI}(ho:o.op= .alloc t)(hI:c.tv t=some I)(hT:dt P c.ti)(h:bg c Z e st a w)(hK:aG c st o.dst (.box I.zero) K=some r):o.wp P a w (λa' w'=>bX w w'/\Out c Z K r e.φ w a' w') Q:=by
 obtain ⟨fH,hc⟩:=aD hI;obtain ⟨d,i,h1,h2,h3,h4⟩:=hT t I fH;have hz: ∃z,i.zero=some z/\ai e z.cells.toList I.zero:=by
  cases d<;>simp only [kM] at h4;case struct fs=>obtain ⟨_,_,_,_,_,_,cs,hz,hl,_⟩:=h4;exact ⟨_,hz,by simpa [aaf] using gq hl⟩
  case tuple ts=>exact absurd hc h4.2.1
  case slice el=>obtain ⟨_,_,_,_,_,hz,hl,_⟩:=h4;exact ⟨_,hz,by rw [hl];exact ⟨[.slice none 0 0],[],rfl,rfl,rfl⟩⟩
  case array n el=>obtain ⟨_,_,_,_,k,m,_,_,_,hl,hz⟩:=h4;exact ⟨_,hz,by rw [hl];exact ⟨aX k (zA m),[],by simp [aaf],⟨rfl,by simp⟩,rfl⟩⟩
  case bool=>obtain ⟨_,_,_,_,hl,hz⟩:=h4;exact ⟨_,hz,by rw [hl];exact ⟨[.bool false],[],rfl,⟨rfl,.b _⟩,rfl⟩⟩
  case int k=>obtain ⟨_,_,_,_,hl,hz⟩:=h4;exact ⟨_,hz,by rw [hl];exact ⟨[.int k 0],[],rfl,⟨rfl,.i _ _⟩,rfl⟩⟩
  case string=>obtain ⟨_,_,_,_,hl,b,hz,hb⟩:=h4;refine ⟨_,hz,by rw [hl];refine ⟨[.string b],[],rfl,⟨rfl,?_⟩,rfl⟩;rw [<-hb];exact .s b⟩
  all_goals
   obtain ⟨_,_,_,_,v,hz,hv,hl⟩:=h4;refine ⟨v,hz,?_⟩;have:v.cells.toList=[v]:=by cases v<;>simp_all [aaf,aab]
   rw [this];exact gq hl
 obtain ⟨z,hz,hl⟩:=hz;have aV:(execOp a.eval o).run P w= .ok (.value (.pointer (some ⟨w.heap.size,0,none⟩))) (w.alloc (.cells z.cells t)):=by simp [execOp,ho,Instr.alloc,zeroValue,typeInfo,h2,hz,newVar,newRow,newObj,Sem.run]
 exact Kq (.alloc w _ _) aV (h.grow (.alloc w _ _)) ((bX.alloc w _ _).trans h.bt _) (LR h hl) hK
theorem XQ {t:TypeId}{x:Operand}{I:TI}(ho:o.op= .box t x)(h:bg c Z e st a w)(hK:Xx I (aq c st x) (λs=>aG c st o.dst s K)=some r):o.wp P a w (λa' w'=>bX w w'/\Out c Z K r e.φ w a' w') Q:=by
 obtain ⟨hx,jV⟩:=h.eval x;have aV:(execOp a.eval o).run P w= .ok (.value (.pointer (some ⟨w.heap.size,0,none⟩))) (w.alloc (.cells (a.eval x).cells t)):=by simp [execOp,ho,Instr.box,newVar,newRow,newObj,Sem.run]
 have go: ∀cs,ai e (a.eval x).cells.toList cs->aG c st o.dst (.box cs) K=some r->o.wp P a w (λa' w'=>bX w w'/\Out c Z K r e.φ w a' w') Q:=λcs h1 h2=>Kq (.alloc w _ _) aV (h.grow (.alloc w _ _)) ((bX.alloc w _ _).trans h.bt _) (LR h h1) h2;generalize aq c st x=s at hx hK jV;unfold Xx at hK;split at hK
 ·rename_i l;cases hb:I.st||HI l||!aQ l.w I.size with
  |true=>simp [hb] at hK
  |false=>
   simp only [hb,cond_false] at hK;refine go [l] ?_ hK;cases l with
   |un=>simp [HI] at hb
   |hs kk n y=>simp only [aa] at hx;rw [hx.1];exact ⟨aX kk y,[],by simp [aaf],⟨rfl,hx.2⟩,rfl⟩
   |p m=>
    simp only [aa] at hx;have:(a.eval x).cells.toList=[a.eval x]:=by have:=hx.cells (a.eval x) (by simp);generalize a.eval x=v at this;cases v<;>simp_all [aaf,aab]
    rw [this];exact ⟨_,[],rfl,hx,rfl⟩
   |nil=>simp only [aa] at hx;have Nl:[a.eval x]=[aap none 0 0]:=hx;simp at Nl;rw [Nl];exact ⟨[.slice none 0 0],[],rfl,rfl,rfl⟩
   |mp s es=>simp [HI] at hb
   |own f=>
    simp only [aa] at hx;have:(a.eval x).cells.toList=[a.eval x]:=by have:=hx.cells (a.eval x) (by simp);generalize a.eval x=v at this;cases v<;>simp_all [aaf,aab]
    rw [this];exact ⟨_,[],rfl,hx,rfl⟩
 ·rename_i cs;cases hb:I.st&&!ox cs&&aQ (rv cs) I.size with
  |false=>simp [hb] at hK
  |true=>simp only [hb,cond_true] at hK;simp only [aa] at hx;obtain ⟨arr,hx,hl⟩:=hx;exact go cs (by rw [hx];exact hl) hK
 ·simp at hK
end
end Dn
/-
  Stores into variables. Conditions: none.
-/
namespace Dn
open Go
section
variable {P:Program}{c:Ctx}{Z:aO}{e:Env}{st:St}{a:Act} {w w':World}{R:Type}{K:St->Option R}{r:R}{Q:Exit->Act->World->Prop}{o:Oper}
theorem setRow_size (w:World)(g:Nat)(cs:Array Value):(w.setRow g cs).heap.size=w.heap.size:=by simp [World.setRow]
structure O8 (g:Nat) (w w':World):Prop where
 size:w'.heap.size=w.heap.size
 other: ∀b,b≠g->w'.heap[b]? =w.heap[b]?
 rest:Rest w w'
theorem O8.setRow (w:World)(g:Nat)(cs:Array Value):O8 g w (w.setRow g cs):=⟨setRow_size _ _ _,λb hb=>setRow_other _ _ _ _ hb,.setRow _ _ _⟩
theorem HW {g:Nat}(hc:O8 g w w'){base:Nat}{t:TypeId}{size:Nat}{v:Value}{n:Nat}{xs:List Value}(cg:v.ownBlock≠some g)(h:w.ownsRow base t size v n xs):w'.ownsRow base t size v n xs:=by
 refine ⟨h.1,?_⟩;rcases h.2 with h|⟨b,cap,bU,h1,h2,h3,h4⟩
 ·exact .inl h
 ·refine .inr ⟨b,cap,bU,h1,h2,?_,h4⟩;rw [hc.other _ (by intro e;subst e;subst h1;exact cg rfl)];exact h3
theorem Ku {g:Nat}{cs:Array Value}{base:Nat}{t:TypeId}{size:Nat}{v:Value}{n:Nat}{xs:List Value}(cg:v.ownBlock≠some g)(h:w.ownsRow base t size v n xs):(w.setRow g cs).ownsRow base t size v n xs:=HW (.setRow w g cs) cg h
theorem bg.setObj {root:Nat}{cs dj:List ak} {o':Obj}{j8:Fr}(h:bg c Z e st a w)(hf:ah st.fr root= .box cs)(Hx:O8 (e.B root) w w')(iy:w'.heap[e.B root]? =some o')(hl:e9 e o' dj)(ZT:gn dj=gn cs)(vM: ∀t,ah j8 t=if t=root then .box dj else ah st.fr t)(hnd:(ax j8).Nodup):bg c Z e {st with fr:=j8} a w':=by
 have jT:=Hx.size;have jz:=h.slot root;rw [hf] at jz;refine ⟨h.defers,h.size,h.m,h.key,hnd,?_,?_,?_,?_,?_,h.ff,?_,λb hb=>h.bt b (by omega)⟩
 ·intro t;show bk Z e _ t _ (ah j8 t);rw [vM];by_cases ht:t=root
  ·subst ht;simp only [if_true,bk];exact ⟨jz.1.gn ZT,⟨jz.2.bt,⟨o',iy,hl⟩,jz.2.free⟩⟩
  ·simp only [ht,if_false];have hs:=h.slot t;have xv:=h.bb t root;generalize hg:ah st.fr t=s at hs xv;cases s<;>simp only [bk] at hs⊢ <;>try exact hs
   rename_i DB;refine ⟨hs.1,hs.2.bt,?_,hs.2.free⟩;obtain ⟨o2,h1,h2⟩:=hs.2.obj;exact ⟨o2,by rw [Hx.other _ (xv DB cs rfl hf ht)];exact h1,h2⟩
 ·intro t;show bK j8 (ah j8 t);rw [vM];by_cases ht:t=root
  ·simp [ht,bK]
  ·simp only [ht,if_false];have hr:=h.root t;generalize ah st.fr t=s at hr;cases s<;>simp only [bK] at hr⊢ <;>(rw [vM];split<;>simp_all [bP])
 ·intro f o ho;obtain ⟨I,cells,h1,h2,h3,h4,h5⟩:=(h.dV f o ho).row;exact ⟨I,cells,h1,h2,HW Hx (h.bf root cs f o hf ho) h3,h4,h5⟩
 ·intro t t' c1 c2 h1 h2 cg;have h1:ah j8 t= .box c1:=h1;have h2:ah j8 t'= .box c2:=h2;rw [vM] at h1 h2;by_cases ht:t=root
  ·by_cases vd:t'=root
   ·exact absurd (ht.trans vd.symm) cg
   ·simp only [vd,if_false] at h2;rw [ht];exact h.bb root t' cs c2 hf h2 (by rw [<-ht];exact cg)
  ·simp only [ht,if_false] at h1;by_cases vd:t'=root
   ·rw [vd];exact h.bb t root c1 cs h1 hf ht
   ·simp only [vd,if_false] at h2;exact h.bb t t' c1 c2 h1 h2 cg
 ·intro t c1 f o h1 h2;have h1:ah j8 t= .box c1:=h1;rw [vM] at h1;by_cases ht:t=root
  ·rw [ht];exact h.bf root cs f o hf h2
  ·simp only [ht,if_false] at h1;exact h.bf t c1 f o h1 h2
 ·intro b o v hv;have cg:b≠e.B root:=by intro eb;subst eb;rw [jz.2.free] at hv;cases hv
  have:=h.fB b o v hv;rw [aav (Hx.other _ cg)];exact this
theorem bg.P2 {root:Nat}{cs dj:List ak}{arr DH:Array Value}{T:TypeId}{j8:Fr}(h:bg c Z e st a w)(hf:ah st.fr root= .box cs)(bH:w.heap[e.B root]? =some (.cells arr T (0,0)))(hl:ai e DH.toList dj)(vM: ∀t,ah j8 t=if t=root then .box dj else ah st.fr t)(hnd:(ax j8).Nodup):bg c Z e {st with fr:=j8} a (w.setRow (e.B root) DH):=by
 have jz:=h.slot root;rw [hf] at jz;have hm:cR cs=false:=by obtain ⟨o,h1,h2⟩:=jz.2.obj;rw [bH] at h1;cases h1;exact h2.2.rJ
 exact h.setObj hf (.setRow _ _ _) (setRow_heap _ _ _ _ _ _ bH) ⟨rfl,hl⟩ (by rw [pR hm,pR hl.rJ]) vM hnd
theorem Trans.chg {g:Nat} (φ:Ph)(Hx:O8 g w w')(hz:Z g):Trans Z φ w φ w':=⟨.refl φ,λb hb _=>Hx.other _ (by intro e;subst e;exact hb hz),λ_ _ _=>rfl,by rw [Hx.size];exact aai _,Hx.rest⟩
theorem Trans.setRow {g:Nat}{DH:Array Value} (φ:Ph)(hz:Z g):Trans Z φ w φ (w.setRow g DH):=⟨.refl φ,λb hb _=>setRow_other _ _ _ _ (by intro e;subst e;exact hb hz),λ_ _ _=>rfl,by rw [setRow_size];exact aai _,.setRow _ _ _⟩
theorem uG {v:Value}{s:Slot}(h:aa e v s)(hu:ox (av s)=false)(cg:av s≠[]):ai e v.cells.toList (av s):=by
 cases s with
 |sc l=>
  simp only [av] at hu⊢;have dS: ∀l,aw e [v] l->ai e v.cells.toList [l]:=by
   intro l hl;have hc:=hl.cells v (by simp);have:v.cells.toList=[v]:=by cases v<;>simp_all [aaf,aab]
   rw [this];exact ⟨[v],[],rfl,hl,rfl⟩
  cases l with
  |un=>simp [ox,HI] at hu
  |hs k n x=>simp only [aa] at h;rw [h.1];exact ⟨aX k x,[],by simp [aaf],⟨rfl,h.2⟩,rfl⟩
  |p m=>simp only [aa] at h;exact dS _ h
  |nil=>simp only [aa] at h;exact dS _ h
  |mp s es=>simp [ox,HI] at hu
  |own f=>simp only [aa] at h;exact dS _ h
 |ag cs=>simp only [aa] at h;obtain ⟨arr,rfl,hl⟩:=h;exact hl
 |_=>exact absurd rfl cg
theorem iS {t:TypeId}{I:TI}{aA off:Nat}{v:Value}{arr:Array Value}{T:TypeId}(hr:ji c.ti P t I)(hc:I.bB=[])(hs:v.cells.toList.length=I.size)(dS: ∀u∈v.cells.toList,u.oneCell'=true)(bH:w.heap[aA]? =some (.cells arr T (0,0)))(q0:off+I.size<=arr.size): (abC t (.pointer (some ⟨aA,off,none⟩)) v).run P w= .ok () (w.setRow aA (arr.toList.take off++v.cells.toList++arr.toList.drop (off+I.size)).toArray):=by
 obtain ⟨i,hi,jT,_⟩:=hr.info hc;have h1:=run_storeCells_at P aA off T v.cells.toList 0 arr w bH (by omega) dS;rw [aaP,hs] at h1;have h2:v.cells.size=i.size:=by rw [jT,<-hs];simp
 simp [abC,aaO,storeVar,aal,typeInfo,hi,h2,h1]
theorem Nn {t:TypeId}{I:TI}{root off:Nat}{v:Value}{cs ls dj:List ak} {K':St->Option R}(nj:cR cs=false)(hr:ji c.ti P t I)(hc:I.bB=[])(h:bg c Z e st a w)(hf:ah st.fr root= .box cs)(hv:ai e v.cells.toList ls)(zD:rv ls=I.size)(hp:putAt cs off ls=some dj)(hK:wr st root (.box dj) K'=some r): ∃w' bm,(abC t (.pointer (some ⟨e.B root,off,none⟩)) v).run P w= .ok () w'/\bg c Z e bm a w'/\Trans Z e.φ w e.φ w'/\K' bm=some r:=by
 have iw:=h.slot root;rw [hf] at iw;obtain ⟨arr,T,bH,jX⟩:=iw.2.cells nj;obtain ⟨v1,v2,v3,he,h1,h2,h3⟩:=pP hp jX hv;have hlen:=hv.width;have jT:arr.size=v1.length+v2.length+v3.length:=by
  have:arr.toList.length=(v1++v2++v3).length:=by rw [he]
  simp at this;omega
 have aV:=iS (P:=P) (w:=w) (aA:=e.B root) (off:=off) hr hc (by rw [hlen,zD]) hv.cells bH (by omega);have aaH:arr.toList.take off=v1:=by rw [he,AI,abj h1]
 have aaI:arr.toList.drop (off+I.size)=v3:=by rw [he];exact aaD (by rw [IN];omega)
 rw [aaH,aaI] at aV;unfold wr at hK;cases hn:aP st.bI root with
 |true=>simp [hn] at hK
 |false=>simp only [hn,cond_false,force_eq,gV] at hK;refine ⟨_,_,aV,?_,.setRow _ (Hu iw.2.bt (by rw [<-h.defers.2.1,<-aN,hn];simp)),hK⟩;exact h.P2 hf bH (by simpa using h3) (λt=>by rw [a8]) (cD h.nodup)
end
end Dn
/-
  Owned slices that are shared from now on; what is handed to a callee. Conditions: none.
-/
namespace Dn
open Go
section
variable {P:Program}{c:Ctx}{Z:aO}{e:Env}{st:St}{a:Act} {w w':World}{R:Type}{K:St->Option R}{r:R}{Q:Exit->Act->World->Prop}{o:Oper}
theorem aB.mono {key:Nat->Nat} {φ φ':Ph}(h:dJ φ φ'){size:Nat}{xs:List MV}: ∀{cs:List Value},aB key φ size cs xs->aB key φ' size cs xs:=by
 induction xs with
 |nil=>intro cs hh;exact hh
 |cons x xs ih=>intro cs hh;obtain ⟨v,q,rfl,h1,h2,h3⟩:=hh;exact ⟨v,q,rfl,h1,h2.mono h,ih h3⟩
theorem aB.length {key:Nat->Nat} {φ:Ph}{size:Nat}{xs:List MV}: ∀{cs:List Value},aB key φ size cs xs->cs.length=xs.length *size:=by
 induction xs with
 |nil=>intro cs hh;cases hh;simp
 |cons x xs ih=>intro cs hh;obtain ⟨v,q,rfl,h1,h2,h3⟩:=hh;simp [h1,ih h3,aaw,acL]
theorem Kv {m:List (Nat×jb)}{f:Nat}{o:jb}(h:ar m f=some o):bh m f o=m:=by
 induction m with
 |nil=>simp [ar] at h
 |cons p r ih=>
  obtain ⟨k,x⟩:=p;simp only [ar,bh,cY] at h⊢;by_cases hk:k=f
  ·subst hk;simp at h;subst h;simp
  ·simp only [hk,decide_false,cond_false] at h⊢;rw [ih h]
def eS (φ:Ph)(v:Value)(cells:List Value):Ph:=λb off=>if v.ownBlock=some b/\off<cells.length then cells[off]? else φ b off
theorem yA {base:Nat}{t:TypeId}{size n:Nat}{v:Value}{xs ys:List Value}(h:w.ownsRow base t size v n xs) (h':w.ownsRow base t size v n ys){b:Nat}(hb:v.ownBlock=some b):xs=ys:=by
 rcases h.2 with ⟨h1,_⟩|⟨g,cap,bU,h1,_,h2,_,_,_,h3⟩
 ·rw [h1] at hb;simp [aac] at hb
 ·rcases h'.2 with ⟨vK,_⟩|⟨g',P3,iz,vK,_,z6,_,_,_,LS⟩
  ·rw [vK] at hb;simp [aac] at hb
  ·rw [h1] at vK;simp at vK;obtain ⟨rfl,rfl⟩:=vK;rw [h2] at z6;simp at z6;subst z6;rw [<-h3,<-LS]
theorem freeze {f:Nat}{o:jb}(h:bg c Z e st a w)(hf:ar st.az f=some o)(hp:f∉Z.bF\/o.cB=true): ∃φ',dJ e.φ φ'/\(∀b off,¬Z b->φ' b off=e.φ b off)/\bg c Z {e with φ:=φ',m:=bh e.m f ⟨o.ty,true,o.xs⟩} {st with az:=bh st.az f ⟨o.ty,true,o.xs⟩} a w/\ dI e.key φ' [e.E f] (.list o.xs)/\ (∀I cells,c.ti o.ty=some I->w.ownsRow 0 o.ty I.size (e.E f) o.xs.length cells-> ∀aA,(e.E f).ownBlock=some aA-> ∀j,j<cells.length->φ' aA j=cells[j]?):=by
 obtain ⟨I,cells,hI,JV,cb,dL,hz⟩:=(h.dV f o hf).row;have hlen:=dL.length;have hle:dJ e.φ (eS e.φ (e.E f) cells):=by
  intro b off v hv;unfold eS;by_cases hc:(e.E f).ownBlock=some b/\off<cells.length
  ·simp only [hc,and_self,if_true];obtain ⟨hb,ho⟩:=hc;rcases cb.2 with ⟨hE,_⟩|⟨g,cap,bU,hE,_,hg,hn,vL,mU,Ey⟩
   ·rw [hE] at hb;simp [aac] at hb
   ·rw [hE] at hb;simp only [aac,By] at hb;subst hb;have:=h.fB _ _ _ hv;rw [cell_of hg] at this;rw [<-Ey,aat];have bJ:off<o.xs.length *I.size:=by omega
    simp only [bJ,if_true];simpa using this
  ·simp only [hc,if_false];exact hv
 have du: ∀b off v,eS e.φ (e.E f) cells b off=some v->w.cell? ⟨b,off,none⟩=some v:=by
  intro b off v hv;unfold eS at hv;by_cases hc:(e.E f).ownBlock=some b/\off<cells.length
  ·simp only [hc,and_self,if_true] at hv;rcases cb.2 with ⟨hE,_⟩|⟨g,cap,bU,hE,_,hg,hn,vL,mU,Ey⟩
   ·rw [hE] at hc;simp [aac] at hc
   ·rw [hE] at hc;simp only [aac,By] at hc;obtain ⟨hb,ho⟩:=hc;subst hb;rw [cell_of hg];rw [<-Ey,aat] at hv;have bJ:off<o.xs.length *I.size:=by omega
    simp only [bJ,if_true] at hv;simpa using hv
  ·simp only [hc,if_false] at hv;exact h.fB _ _ _ hv
 have aaJ: ∀b off,¬Z b->eS e.φ (e.E f) cells b off=e.φ b off:=by
  intro b off hb;unfold eS;by_cases hc:(e.E f).ownBlock=some b/\off<cells.length
  ·by_cases rK:f∈Z.bF
   ·simp only [hc,and_self,if_true];exact (((hz b hc.1).2.2 rK (hp.resolve_left (λhn=>hn rK))) off hc.2).symm
   ·exact absurd (Hu (hz b hc.1).1 rK) hb
  ·simp [hc]
 have Kw: ∀b off,(e.E f).ownBlock≠some b->eS e.φ (e.E f) cells b off=e.φ b off:=by intro b off hb;unfold eS;simp [hb]
 have lu:eR (λ_=>True) (λ_=>True) e {e with φ:=eS e.φ (e.E f) cells,m:=bh e.m f ⟨o.ty,true,o.xs⟩}:=by
  refine ⟨rfl,hle,λ_ _=>rfl,?_⟩;intro f2 o2 bJ _;have bJ:ar (bh e.m f ⟨o.ty,true,o.xs⟩) f2=some o2:=bJ;rw [aI] at bJ;by_cases cS:f2=f
  ·subst cS;simp at bJ;subst bJ;exact ⟨o,by rw [h.m];exact hf,rfl,rfl⟩
  ·simp only [cS,if_false] at bJ;exact ⟨o2,bJ,rfl,rfl⟩
 have rL: ∀s:Slot,da (λ_=>True) (λ_=>True) s:=by intro s;cases s<;>simp [da,ef]
 refine ⟨_,hle,aaJ,?_,?_,?_⟩;rotate_right
 ·intro I' P4 hI' aaK aA hb j hj;rw [hI] at hI';cases hI';have hcc:=yA cb aaK hb;subst hcc;unfold eS;simp [hb,hj]
 ·refine ⟨h.defers,h.size,by show bh e.m f _=bh st.az f _;rw [h.m],h.key,h.nodup,?_,h.root,?_,h.bb,?_,?_,du,h.bt⟩
  ·intro t;have hs:=h.slot t;have P5:=h.bf t;show bk Z _ w t _ (ah st.fr t);generalize ah st.fr t=s at hs P5;cases s<;>simp only [bk] at hs⊢ <;>try exact hs.on lu (rL _)
   rename_i cs;refine ⟨hs.1,hs.2.bt,?_,?_⟩
   ·obtain ⟨o2,h1,h2⟩:=hs.2.obj;exact ⟨o2,h1,h2.on lu (λl _ f _=>trivial)⟩
   ·intro off;show eS e.φ (e.E f) cells (e.B t) off=none;rw [Kw _ _ (P5 cs f o rfl hf)];exact hs.2.free off
  ·intro f2 o2 bJ;have bJ:ar (bh st.az f ⟨o.ty,true,o.xs⟩) f2=some o2:=bJ;rw [aI] at bJ;by_cases cS:f2=f
   ·subst cS;simp at bJ;subst bJ;refine ⟨I,cells,hI,JV,cb,dL.mono hle,?_⟩;intro aA hb;refine ⟨(hz aA hb).1,?_,?_⟩;rotate_left
    ·intro _ _ j hj;show eS e.φ (e.E f2) cells aA j=_;have hb:(e.E f2).ownBlock=some aA:=hb;unfold eS;simp [hb,hj]
    intro off u hu;refine ⟨rfl,?_⟩;have hu:eS e.φ (e.E f2) cells aA off=some u:=hu;unfold eS at hu;by_cases hc:(e.E f2).ownBlock=some aA/\off<cells.length
    ·show off<o.xs.length *I.size;rw [<-hlen];exact hc.2
    ·simp only [hc,if_false] at hu;exact ((hz aA hb).2.1 off u hu).2
   ·simp only [cS,if_false] at bJ;obtain ⟨I2,nS,h1,h2,h3,h4,h5⟩:=(h.dV f2 o2 bJ).row;refine ⟨I2,nS,h1,h2,h3,h4.mono hle,?_⟩;intro aA hb;refine ⟨(h5 aA hb).1,?_,?_⟩;rotate_left
    ·intro g1 g2 j hj;show eS e.φ (e.E f) cells aA j=_;rw [Kw _ _ (λP5=>cS (h.ff f2 f o2 o aA bJ hf hb P5))];exact (h5 aA hb).2.2 g1 g2 j hj
    intro off u hu;have hu:eS e.φ (e.E f) cells aA off=some u:=hu;rw [Kw _ _ (λP5=>cS (h.ff f2 f o2 o aA bJ hf hb P5))] at hu;exact (h5 aA hb).2.1 off u hu
  ·intro t cs f2 o2 h1 h2;have h2:ar (bh st.az f ⟨o.ty,true,o.xs⟩) f2=some o2:=h2;rw [aI] at h2;by_cases cS:f2=f
   ·subst cS;exact h.bf t cs f2 o h1 hf
   ·simp only [cS,if_false] at h2;exact h.bf t cs f2 o2 h1 h2
  ·intro f1 f2 o1 o2 k h1 h2 h3 h4;have h1:ar (bh st.az f ⟨o.ty,true,o.xs⟩) f1=some o1:=h1;have h2:ar (bh st.az f ⟨o.ty,true,o.xs⟩) f2=some o2:=h2;rw [aI] at h1 h2;have g1: ∃o',ar st.az f1=some o':=by
    by_cases cS:f1=f
    ·subst cS;exact ⟨o,hf⟩
    ·simp only [cS,if_false] at h1;exact ⟨o1,h1⟩
   have g2: ∃o',ar st.az f2=some o':=by
    by_cases cS:f2=f
    ·subst cS;exact ⟨o,hf⟩
    ·simp only [cS,if_false] at h2;exact ⟨o2,h2⟩
   obtain ⟨q1,g1⟩:=g1;obtain ⟨q2,g2⟩:=g2;exact h.ff f1 f2 q1 q2 k g1 g2 h3 h4
 ·have rM:=dL.mono hle;rcases cb.2 with ⟨hE,hn⟩|⟨g,cap,bU,hE,_,hg,hn,vL,mU,Ey⟩
  ·have hx:o.xs=[]:=BY hn;have hv:[e.E f]=[aap none 0 0]:=by rw [hE]
   rw [hv,hx];exact .list none 0 [] 0 0 0 (λ_=>[]) (by simp) (by simp) (by simp) (by simp) (by simp)
  ·have hv:[e.E f]=[aap (some ⟨g,0,none⟩) o.xs.length cap]:=by rw [hE]
   rw [hv];have zE: ∀i (hi:i<o.xs.length),∃v1,v1.length=I.size/\dI e.key (eS e.φ (e.E f) cells) v1 o.xs[i]/\(cells.drop (i *I.size)).take I.size=v1:=by intro i hi;obtain ⟨p1,v1,p2,he,Ge,om,cM⟩:=rM.at (IT hi);refine ⟨v1,om,cM,?_⟩;rw [he,AI,<-Ge,adK,<-om,abw]
   refine .list (some ⟨g,0,none⟩) cap o.xs g 0 I.size (λi=>(cells.drop (i *I.size)).take I.size) hn (λ_=>rfl) ?_ ?_ ?_
   ·intro i hi;obtain ⟨v1,h1,_,h3⟩:=zE i hi;rw [h3,h1]
   ·intro i j hi hj;have hb:(e.E f).ownBlock=some g:=by rw [hE];rfl
    have rN:i *I.size+j<cells.length:=by
     rw [hlen];calc i *I.size+j<i *I.size+I.size:=by omega
      _=(i+1) *I.size:=by rw [aaw]
      _<=o.xs.length *I.size:=aaj _ hi
    rw [aah];unfold eS;simp only [hb,rN,and_self,if_true];rw [aat];simp only [hj,if_true,acF]
   ·intro i hi;obtain ⟨v1,_,h2,h3⟩:=zE i hi;rw [h3];exact h2
end
end Dn
/-
  Arguments and results. Conditions: none.
-/
namespace Dn
open Go
structure Ext (Z:Nat->Prop) (e e':Env):Prop where
 on:eR (λ_=>True) (λ_=>True) e e'
 bt: ∀b off,¬Z b->e'.φ b off=e.φ b off
theorem Ext.refl (Z:Nat->Prop)(e:Env):Ext Z e e:=⟨⟨rfl,.refl _,λ_ _=>rfl,λf o h _=>⟨o,h,rfl,rfl⟩⟩,λ_ _ _=>rfl⟩
theorem Ext.trans {Z:Nat->Prop} {e e' e'':Env}(h:Ext Z e e') (h':Ext Z e' e''):Ext Z e e'':=by refine ⟨⟨h'.on.key.trans h.on.key,h.on.φ.trans h'.on.φ,λr hr=>(h'.on.B r hr).trans (h.on.B r hr),?_⟩,λb off hb=>(h'.bt b off hb).trans (h.bt b off hb)⟩;intro f o ho _;obtain ⟨o1,h1,h2,h3⟩:=h'.on.dV f o ho trivial;obtain ⟨o2,h4,h5,h6⟩:=h.on.dV f o1 h1 trivial;exact ⟨o2,h4,h2.trans h5,h3.trans h6⟩
theorem Ext.tr {Z:Nat->Prop} {e e':Env}{w:World}(h:Ext Z e e'):Trans Z e.φ w e'.φ w:=⟨h.on.φ,λ_ _ _=>rfl,h.bt,aai _,.refl _⟩
theorem cw (s:Slot):da (λ_=>True) (λ_=>True) s:=by cases s<;>simp [da,ef]
def aE (key:Nat->Nat) (φ:Ph):List Value->List MV->Prop
 |vs,[]=>vs=[]
 |vs,m::ms=> ∃v r,vs=v::r/\bN key φ v m/\aE key φ r ms
theorem aE.mono {key:Nat->Nat} {φ φ':Ph}(h:dJ φ φ'){ms:List MV}: ∀{vs:List Value},aE key φ vs ms->aE key φ' vs ms:=by
 induction ms with
 |nil=>intro vs hh;exact hh
 |cons m ms ih=>intro vs hh;obtain ⟨v,r,rfl,h1,h2⟩:=hh;exact ⟨v,r,rfl,h1.mono h,ih h2⟩
theorem aE.append {key:Nat->Nat} {φ:Ph}{ms ns:List MV}: ∀{vs us:List Value},aE key φ vs ms->aE key φ us ns->aE key φ (vs++us) (ms++ns):=by
 induction ms with
 |nil=>intro vs us h h';cases h;simpa using h'
 |cons m ms ih=>intro vs us h h';obtain ⟨v,r,rfl,h1,h2⟩:=h;exact ⟨v,r++us,rfl,h1,ih h2 h'⟩
section
variable {P:Program}{c:Ctx}{Z:aO}{e:Env}{st:St}{a:Act} {w w':World}{R:Type}{r:R}{Q:Exit->Act->World->Prop}{o:Oper}
theorem eT {l:ak}{vs:List Value}{K:MV->St->Option R}(h:bg c Z e st a w)(hl:aw e vs l)(hK:gl st l K=some r): ∃e' bm m,bg c Z e' bm a w/\Ext Z e e'/\bm.fr=st.fr/\dI e'.key e'.φ vs m/\K m bm=some r/\(lV l=true->e'=e/\bm=st)/\(∀f,l= .own f-> ∃o,ar st.az f=some o/\m= .list o.xs)/\((∀k n x,l≠ .hs k n x)->m.one=true):=by
 cases l with
 |un=>simp [gl] at hK
 |p m=>exact ⟨e,st,m,h,.refl _ _,rfl,hl.2,hK,λ_=>⟨rfl,rfl⟩,by simp,λ_=>hl.1⟩
 |hs k n x=>obtain ⟨rfl,hl⟩:=hl;exact ⟨e,st,.h k n x,h,.refl _ _,rfl,.h k n x hl,hK,λ_=>⟨rfl,rfl⟩,by simp,λhx=>absurd rfl (hx k n x)⟩
 |nil=>have hl:vs=[.slice none 0 0]:=hl;subst hl;exact ⟨e,st,.list [],h,.refl _ _,rfl,.list none 0 [] 0 0 0 (λ_=>[]) (by simp) (by simp) (by simp) (by simp) (by simp),hK,λhp=>by simp [lV] at hp,λ_ he=>(by cases he),λ_=>rfl⟩
 |mp s es=>simp [gl] at hK
 |own f=>
  simp only [gl] at hK;cases hf:ar st.az f with
  |none=>simp [hf] at hK
  |some o=>
   simp only [hf] at hK;have rK:f∉Z.bF\/o.cB=true:=by
    cases hz:o.cB with
    |true=>exact .inr rfl
    |false=>refine .inl (λhm=> ?_);rw [<-h.defers.2.2.1,<-aN] at hm;simp [hz,hm] at hK
   obtain ⟨φ',h1,h2,h3,h4,_⟩:=freeze h hf rK;obtain ⟨v,rfl,hv,hE⟩:=hl;have hE:=hE o (by rw [h.m];exact hf);subst hE;have T0:Ext Z e {e with φ:=φ',m:=bh e.m f ⟨o.ty,true,o.xs⟩}:=by
    refine ⟨⟨rfl,h1,λ_ _=>rfl,?_⟩,h2⟩;intro f2 o2 bJ _;have bJ:ar (bh e.m f ⟨o.ty,true,o.xs⟩) f2=some o2:=bJ;rw [aI] at bJ;by_cases cS:f2=f
    ·subst cS;simp at bJ;subst bJ;exact ⟨o,by rw [h.m];exact hf,rfl,rfl⟩
    ·simp only [cS,if_false] at bJ;exact ⟨o2,bJ,rfl,rfl⟩
   cases hz:o.cB with
   |true=>
    simp only [hz,cond_true] at hK;have aaM:bh st.az f ⟨o.ty,true,o.xs⟩=st.az:=by rw [<-hz];exact Kv hf
    rw [aaM] at h3;exact ⟨_,st,.list o.xs,h3,T0,rfl,h4,hK,λhp=>by simp [lV] at hp,λ_ he=>by cases he;exact ⟨o,hf,rfl⟩,λ_=>rfl⟩
   |false=>
    simp only [hz,cond_false] at hK;cases hn:aP st.bF f with
    |true=>simp [hn] at hK
    |false=>simp only [hn,cond_false,jy] at hK;exact ⟨_,_,.list o.xs,h3,T0,rfl,h4,hK,λhp=>by simp [lV] at hp,λ_ he=>by cases he;exact ⟨o,hf,rfl⟩,λ_=>rfl⟩
theorem iM {ls:List ak}: ∀{e:Env} {st:St} {vs:List Value} {K:List MV->St->Option R},bg c Z e st a w->ai e vs ls->kJ st ls K=some r-> ∃e' bm ms,bg c Z e' bm a w/\Ext Z e e'/\bm.fr=st.fr/\dq e'.key e'.φ vs ms/\K ms bm=some r/\(dR ls=true->e'=e/\bm=st)/\(∀ps,lh ls ms=some ps->ai e' vs ps/\dR ps=true):=by
 induction ls with
 |nil=>intro e st vs K h hl hK;cases hl;exact ⟨e,st,[],h,.refl _ _,rfl,.nil,hK,λ_=>⟨rfl,rfl⟩,λps hp=>by simp [lh] at hp;subst hp;exact ⟨rfl,rfl⟩⟩
 |cons l ls ih=>
  intro e st vs K h hl hK;obtain ⟨v,u,rfl,h1,h2⟩:=hl;simp only [kJ] at hK;obtain ⟨e1,aT,m,qH,yB,xI,xw,lv,Np,_,dS⟩:=eT h h1 hK;obtain ⟨e2,cK,ms,Ez,LU,T3,HS,q8,EA,q9⟩:=ih qH (h2.on yB.on (λl _ f _=>trivial)) lv;have hrm:dI e2.key e2.φ v m:=by have:=xw.mono LU.on.φ;rw [<-LU.on.key] at this;exact this
  refine ⟨e2,cK,m::ms,Ez,yB.trans LU,T3.trans xI,.cons v m u ms ?_ HS,q8,?_,?_⟩
  ·have:=xw.mono LU.on.φ;rw [<-LU.on.key] at this;exact this
  ·intro hp;simp only [dR,AS] at hp;obtain ⟨q1,q2⟩:=Np hp.1;obtain ⟨q3,q4⟩:=EA hp.2;exact ⟨q3.trans q1,q4.trans q2⟩
  ·intro ps hp;cases hq:lh ls ms with
   |none=>cases l<;>simp [lh,hq] at hp
   |some q=>
    obtain ⟨g1,g2⟩:=q9 q hq;by_cases hh: ∃k n x,l= .hs k n x
    ·obtain ⟨_,_,x,rfl⟩:=hh;simp [lh,hq] at hp;subst hp;exact ⟨⟨v,u,rfl,h1,g1⟩,by simp [dR,lV,g2]⟩
    ·have dS:=dS (λk n x hx=>hh ⟨k,n,x,hx⟩);have Gf:ps= .p m::q:=by cases l<;>simp [lh,hq] at hp<;>first|exact hp.symm|exact absurd ⟨_,_,_,rfl⟩ hh
     subst Gf;exact ⟨⟨v,u,rfl,⟨dS,hrm⟩,g1⟩,by simp [dR,lV,g2]⟩
theorem gu {s:Slot}{v:Value}{K:MV->St->Option R}(h:bg c Z e st a w)(hl:aa e v s)(hK:gm st s K=some r): ∃e' bm m,bg c Z e' bm a w/\Ext Z e e'/\bm.fr=st.fr/\bN e'.key e'.φ v m/\K m bm=some r:=by
 cases s with
 |sc l=>
  simp only [gm] at hK;cases l with
  |un=>simp [gl] at hK
  |hs k n x=>simp only [aa] at hl;exact ⟨e,st,.h k n x,h,.refl _ _,rfl,by simpa [bN,aX] using hl,hK⟩
  |p m=>simp only [aa] at hl;refine ⟨e,st,m,h,.refl _ _,rfl,?_,hK⟩;obtain ⟨h1,h2⟩:=hl;cases m<;>simp [MV.one] at h1<;>exact ⟨rfl,h2⟩
  |nil=>simp only [aa] at hl;obtain ⟨e',bm,m,q1,q2,q3,q4,q5,q6,_⟩:=eT h hl hK;have hl:[v]=[aap none 0 0]:=hl;refine ⟨e,st,.list [],h,.refl _ _,rfl,⟨rfl,?_⟩,hK⟩;rw [hl];exact .list none 0 [] 0 0 0 (λ_=>[]) (by simp) (by simp) (by simp) (by simp) (by simp)
  |mp s es=>simp [gl] at hK
  |own f=>
   simp only [aa] at hl;simp only [gl] at hK;cases hf:ar st.az f with
   |none=>simp [hf] at hK
   |some o=>obtain ⟨e',bm,m,q1,q2,q3,q4,q5,q6,q7⟩:=eT (l:= .own f) h hl (by simpa only [gl,hf] using hK);obtain ⟨o2,_,rfl⟩:=q7.1 f rfl;exact ⟨e',bm,.list o2.xs,q1,q2,q3,⟨rfl,q4⟩,q5⟩
 |ag cs=>simp only [aa] at hl;obtain ⟨arr,hv,hl⟩:=hl;simp only [gm] at hK;obtain ⟨e',bm,ms,q1,q2,q3,q4,q5,_⟩:=iM h hl hK;exact ⟨e',bm,.agg ms,q1,q2,q3,⟨arr,hv,q4⟩,q5⟩
 |rp cs off=>
  simp only [aa] at hl;obtain ⟨aA,q,vs,hv,jX,hp,xH⟩:=hl;simp only [gm] at hK;cases hb:aQ off 0 with
  |false=>simp [hb] at hK
  |true=>simp only [hb,cond_true] at hK;have h0:=sh hb;subst h0;obtain ⟨e',bm,ms,q1,q2,q3,q4,q5,q6⟩:=iM h jX hK;obtain ⟨rfl,rfl⟩:=q6.1 hp;refine ⟨e',bm,.rp ms,q1,q2,q3,⟨rfl,?_⟩,q5⟩;rw [hv];exact .rp aA (q+0) vs ms q4 (by simpa using xH)
 |_=>simp [gm] at hK
theorem lz {ss:List Slot}: ∀{e:Env} {st:St} {vs:List Value} {K:List MV->St->Option R},bg c Z e st a w->(∃f:Unit->List Value,f ()=vs/\vs.length=ss.length/\ ∀(i:Nat) (v:Value) (s:Slot),vs[i]? =some v->ss[i]? =some s->aa e v s)-> pK st ss K=some r-> ∃e' bm ms,bg c Z e' bm a w/\Ext Z e e'/\bm.fr=st.fr/\aE e'.key e'.φ vs ms/\K ms bm=some r:=by
 induction ss with
 |nil=>intro e st vs K h hl hK;obtain ⟨f,_,hlen,_⟩:=hl;have:=BY hlen;subst this;exact ⟨e,st,[],h,.refl _ _,rfl,rfl,hK⟩
 |cons s ss ih=>
  intro e st vs K h hl hK;obtain ⟨f,_,hlen,cM⟩:=hl;cases vs with
  |nil=>simp at hlen
  |cons v vs=>simp only [pK] at hK;obtain ⟨e1,aT,m,q1,q2,q3,q4,q5⟩:=gu h (cM 0 v s rfl rfl) hK;obtain ⟨e2,cK,ms,p1,p2,p3,p4,p5⟩:=ih (vs:=vs) q1 ⟨λ_=>vs,rfl,by simpa using hlen,λi v s h1 h2=>(cM (i+1) v s (by simpa using h1) (by simpa using h2)).on q2.on (cw s)⟩ q5;refine ⟨e2,cK,m::ms,p1,q2.trans p2,p3.trans q3,⟨v,vs,rfl,?_,p4⟩,p5⟩;have:=q4.mono p2.on.φ;rw [<-p2.on.key] at this;exact this
end
end Dn
/-
  Parts of structs, lengths, the least and the greatest, places of elements. Conditions: none.
-/
namespace Dn
open Go
section
variable {P:Program}{c:Ctx}{Z:aO}{e:Env}{st:St}{a:Act} {w w':World}{R:Type}{K:St->Option R}{r:R}{Q:Exit->Act->World->Prop}{o:Oper}
theorem EB {t:TypeId}{I:TI}(hr:ji c.ti P t I)(hc:I.bB=[]): ((I.st=true\/1<I.size)/\ ∀w:World,(isAgg t).run P w= .ok true w)\/(I.st=false/\I.size=1/\ ∀w:World,(isAgg t).run P w= .ok false w):=by
 rcases hr.agg hc with ⟨d,hu,hd,hh⟩|⟨d,hu,hd,h1,h2⟩
 ·refine .inl ⟨hh.imp id (·.2),λw=> ?_⟩;unfold isAgg;rw [abY,run_underlying hu w];cases d<;>simp_all [TypeDesc.isRow]
 ·refine .inr ⟨h1,h2,λw=> ?_⟩;unfold isAgg;rw [abY,run_underlying hu w];cases d<;>simp_all [TypeDesc.isRow]
theorem P6 {t:TypeId}{I:TI}{cs:List ak}{off:Nat}{arr:Array Value} {K':Slot->Option R}(hr:ji c.ti P t I)(hc:I.bB=[])(hv:ai e arr.toList cs)(hK:eC I cs off K'=some r): ∃v s,(∀w:World,(adF t arr off).run P w= .ok v w)/\aa e v s/\bK st.fr s/\K' s=some r:=by
 obtain ⟨i,hi,hs,_⟩:=hr.info hc;have ext: ∀v1 v2 v3:List Value,arr.toList=v1++v2++v3->v1.length=off->(arr.extract off (off+v2.length))=v2.toArray:=by intro v1 v2 v3 h1 h2;apply abH.1;rw [acx,h1,abA,AI,<-h2,adK];simp
 unfold eC at hK;cases cu:I.st with
 |true=>
  simp only [cu,cond_true] at hK;cases hp:Dn.part cs off I.size with
  |none=>simp [hp] at hK
  |some ds=>
   simp only [hp] at hK;obtain ⟨v1,v2,v3,h0,h1,h2,h3⟩:=Eu hp hv;rcases EB (P:=P) hr hc with ⟨_,XN⟩|⟨hf,_⟩
   ·refine ⟨.agg v2.toArray,.ag ds,?_,?_,trivial,hK⟩
    ·have hx:=ext v1 v2 v3 h0 h1;rw [h2] at hx;simp [adF,XN,aal,typeInfo,hi,hs,hx]
    ·simp only [aa];exact ⟨_,rfl,by simpa using h3⟩
   ·rw [cu] at hf;cases hf
 |false=>
  simp only [cu,cond_false] at hK;cases hp:cut cs off with
  |none=>simp [hp] at hK
  |some ds=>
   cases ds with
   |nil=>simp [hp] at hK
   |cons l ls=>
    simp only [hp] at hK;cases hb:aQ l.w I.size with
    |false=>simp [hb] at hK
    |true=>
     simp only [hb,cond_true] at hK;have hw:=sh hb;obtain ⟨v1,v2,h0,h1,h2⟩:=rH hp hv;obtain ⟨u,u2,rfl,h3,h4⟩:=h2;have hlu:u.length=I.size:=by rw [h3.width,hw]
     rcases EB (P:=P) hr hc with ⟨hh,XN⟩|⟨_,h1s,XN⟩
     ·refine ⟨.agg u.toArray,.sc l,?_,h3.slot (.inr ⟨rfl,?_⟩),trivial,hK⟩
      ·have hx:=ext v1 u u2 (by rw [h0,AI]) h1;rw [hlu] at hx;simp [adF,XN,aal,typeInfo,hi,hs,hx]
      ·rcases hh with hh|hh
       ·rw [cu] at hh;cases hh
       ·rw [hw];exact hh
     ·obtain ⟨v,rfl⟩:=aaN.1 (by rw [hlu,h1s]);refine ⟨v,.sc l,?_,h3.slot (.inl ⟨rfl,?_⟩),trivial,hK⟩
      ·have:arr[off]? =some v:=by
        have:arr[off]? =arr.toList[off]? :=by simp
        rw [this,h0,No (by omega),h1];simp
       simp [adF,XN,this]
      ·rw [hw,h1s]
theorem XR {t:TypeId}{x:Operand}{f:Nat}{I:TI}(ho:o.op= .field t x f)(hI:c.tv t=some I)(hT:dt P c.ti)(h:bg c Z e st a w)(hK:Xy c I f (aq c st x) (λs=>aG c st o.dst s K)=some r):Rd P c Z K r e a w o (λ_=>True):=by
 obtain ⟨hx,jV⟩:=h.eval x;obtain ⟨fH,hc⟩:=aD hI;obtain ⟨d,i,h1,h2,h3,h4⟩:=hT t I fH;generalize aq c st x=s at hx hK jV;unfold Xy at hK;split at hK
 ·rename_i q y cs cu hq hy;simp only [aa] at hx;obtain ⟨arr,hx,jX⟩:=hx;cases hJ:c.tv y with
  |none=>simp [hJ] at hK
  |some J=>
   simp only [hJ] at hK;obtain ⟨hJt,Ti⟩:=aD hJ;obtain ⟨v,s,aV,h5,h6,h7⟩:=P6 (P:=P) (st:=st) (hT y J hJt) Ti jX hK;refine dH (v:=v) h ?_ h5 h6 h7;cases d<;>simp only [kM] at h4;case struct fs=>
    obtain ⟨_,_,_,Tj,bJ,_⟩:=h4;rw [<-Tj,aak] at hq;rw [<-bJ,aak] at hy;cases hf:fs.toList[f]? with
    |none=>simp [hf] at hq
    |some fl=>
     simp [hf] at hq hy;subst hq;subst hy;have P0:fs[f]? =some fl:=by simpa using hf
     simp [execOp,ho,hx,Instr.field,run_underlying h1,P0,asAgg,aV]
   all_goals (exfalso;simp_all)
 ·simp at hK
theorem TI.fJ {I:TI}{t:TypeId}(hr:ji c.ti P t I)(h:I.pH=true):P.underlying t=some (.slice I.elem)/\ ∃E,c.ti I.elem=some E/\E.bB=[]/\0<E.size:=by
 unfold TI.pH at h;split at h
 ·rename_i cu hl;obtain ⟨d,i,h1,h2,h3,h4⟩:=hr;cases d<;>simp only [kM,hl,cu] at h4<;>first|(exfalso;simp_all;done)|skip
  obtain ⟨_,_,_,rfl,hE,_⟩:=h4;exact ⟨h1,hE⟩
 ·cases h
theorem TI.xJ {I:TI}{t:TypeId}(hr:ji c.ti P t I)(h:I.J8=true):P.underlying t=some .string:=by
 unfold TI.J8 at h;split at h
 ·rename_i cu hl;obtain ⟨d,i,h1,h2,h3,h4⟩:=hr;cases d<;>simp only [kM,hl,cu] at h4<;>first|(exfalso;simp_all;done)|skip
  exact h1
 ·cases h
theorem AK {v:Value}{xs:List MV}(h:aa e v (.sc (.p (.list xs)))): ∃ad cap,v= .slice ad xs.length cap/\xs.length<=cap:=by simp only [aa,aw] at h;obtain ⟨_,h⟩:=h;generalize hv:[v]=vs at h;cases h;exact ⟨_,_,by simpa using hv,by assumption⟩
theorem lB {f:Nat} {w':jb}{v:Value}(h:bg c Z e st a w)(hv:aa e v (.sc (.own f)))(hf:ar st.az f=some w'):v=e.E f/\ ∃ad cap,v= .slice ad w'.xs.length cap/\w'.xs.length<=cap:=by
 simp only [aa] at hv;obtain ⟨u,hu,_,hE⟩:=hv;simp at hu;subst hu;have hE:=hE w' (by rw [h.m];exact hf);refine ⟨hE,?_⟩;obtain ⟨I,cells,_,_,cb,_⟩:=(h.dV f w' hf).row;rcases cb.2 with ⟨h1,h2⟩|⟨g,cap,bU,h1,_,_,h2,_⟩
 ·exact ⟨none,0,by rw [hE,h1,h2],by omega⟩
 ·exact ⟨_,cap,by rw [hE,h1],h2⟩
theorem eg {l:List Operand}:eB c st l=l.map (aq c st):=by
 induction l with
 |nil=>rfl
 |cons x r ih=>simp [eB,ih]
theorem XS {cl:Call}{t:TypeId}{I:TI}(ho:o.op= .call cl)(hb:cl.callee= .builtin .len)(ha:cl.argTypes.toList=[t])(hI:c.tv t=some I)(hT:dt P c.ti)(h:bg c Z e st a w)(hK:Pz I st (eB c st cl.args.toList) (λs=>aG c st o.dst s K)=some r):Rd P c Z K r e a w o (λ_=>True):=by
 obtain ⟨fH,hc⟩:=aD hI;have hr:=hT t I fH;have DI:cl.argTypes= #[t]:=by rw [<-abH,ha]
 rw [eg] at hK;have go: ∀x,cl.args.toList=[x]-> ∀n:Nat,(∃b:ByteArray,a.eval x= .string b/\b.size=n/\P.underlying t=some .string)\/(∃ad cap,a.eval x= .slice ad n cap/\ ∃el,P.underlying t=some (.slice el))-> aG c st o.dst (.sc (.p (.i .i64 n))) K=some r->Rd P c Z K r e a w o (λ_=>True):=by
  intro x hx n HX hK;have Nl:cl.args= #[x]:=by rw [<-abH,hx]
  refine dH h ?_ (lZ .i64 (n:Int)) trivial hK;rcases HX with ⟨b,h1,h2,h3⟩|⟨ad,cap,h1,el,h3⟩
  ·simp [execOp,ho,resolve,hb,invoke,builtin,Builtin.len_,DI,Nl,run_underlying h3,h1,goInt,h2]
  ·simp [execOp,ho,resolve,hb,invoke,builtin,Builtin.len_,DI,Nl,run_underlying h3,h1,goInt]
 cases hl:cl.args.toList with
 |nil=>rw [hl] at hK;simp [Pz] at hK
 |cons x ys=>
  rw [hl] at hK;cases ys with
  |cons y zs=>simp only [OF] at hK;unfold Pz at hK;split at hK<;>simp_all
  |nil=>
   simp only [OF,adN] at hK;obtain ⟨hx,_⟩:=h.eval x;generalize aq c st x=s at hx hK;unfold Pz at hK;split at hK
   ·rename_i l hs;simp at hs;subst hs;cases hS:I.J8 with
    |false=>simp [hS] at hK
    |true=>simp only [hS,cond_true] at hK;obtain ⟨b,zB,rfl⟩:=vV hx;exact go x hl _ (.inl ⟨b,zB,by show b.data.size=_;exact (aao).symm,TI.xJ hr hS⟩) hK
   ·rename_i l hs;simp at hs;subst hs;cases hS:I.pH with
    |false=>simp [hS] at hK
    |true=>simp only [hS,cond_true] at hK;obtain ⟨ad,cap,hv,_⟩:=AK hx;exact go x hl _ (.inr ⟨ad,cap,hv,_,(TI.fJ hr hS).1⟩) hK
   ·rename_i hs;simp at hs;subst hs;cases hS:I.pH with
    |false=>simp [hS] at hK
    |true=>simp only [hS,cond_true] at hK;simp only [aa] at hx;have hx:[a.eval x]=[aap none 0 0]:=hx;simp at hx;exact go x hl 0 (.inr ⟨none,0,hx,_,(TI.fJ hr hS).1⟩) hK
   ·rename_i f hs;simp at hs;subst hs;cases hS:I.pH with
    |false=>simp [hS] at hK
    |true=>
     simp only [hS,cond_true] at hK;cases hf:ar st.az f with
     |none=>simp [hf] at hK
     |some w'=>simp only [hf] at hK;obtain ⟨_,ad,cap,hv,_⟩:=lB h hx hf;exact go x hl _ (.inr ⟨ad,cap,hv,_,(TI.fJ hr hS).1⟩) hK
   ·simp at hK
end
end Dn
/-
  Values as leaves; places of elements; the least and the greatest; parts of slices. Conditions: none.
-/
namespace Dn
open Go
section
variable {P:Program}{c:Ctx}{Z:aO}{e:Env}{st:St}{a:Act} {w w':World}{R:Type}{K:St->Option R}{r:R}{Q:Exit->Act->World->Prop}{o:Oper}
structure Wq (e:Env) (k:Kd) (vs:List Value) (m:MV) (l:ak):Prop where
 rep:dI e.key e.φ vs m->aw e vs l
 O9:lV l=true
 mv:aW [l]=some [m]
 one: ∀m',l= .p m'->m'.one=true
 wid:l.w=zy [k]
theorem gw {k:Kd}{m:MV}{vs:List Value} {K':ak->Option R}(hK:eA k m K'=some r): ∃l,Wq e k vs m l/\K' l=some r:=by
 have mk: ∀m:MV,m.one=true->(zy [k]=1)->K' (.p m)=some r-> ∃l,Wq e k vs m l/\K' l=some r:=λm h1 h2 h3=>⟨.p m,⟨λh=>⟨h1,h⟩,rfl,rfl,λm' e=>by cases e;exact h1,h2.symm⟩,h3⟩
 cases k with
 |b=>unfold eA gB at hK;cases m<;>simp at hK;exact mk _ rfl rfl hK
 |s=>unfold eA gS at hK;cases m<;>simp at hK;exact mk _ rfl rfl hK
 |l=>unfold eA gL at hK;cases m<;>simp at hK;exact mk _ rfl rfl hK
 |i k=>
  unfold eA gI at hK;cases m<;>simp at hK;rename_i k' n;by_cases hk:k'=k
  ·subst hk;simp at hK;exact mk _ rfl rfl hK
  ·simp [hk] at hK
 |h k n=>
  simp only [eA,gH] at hK;split at hK
  ·rename_i k' n' x;cases hq:decide (k'=k)&&aQ n' n with
   |false=>simp [hq] at hK
   |true=>simp only [hq,cond_true] at hK;simp only [AS,decide_eq_true_eq] at hq;obtain ⟨rfl,hq⟩:=hq;have hq:=sh hq;subst hq;refine ⟨.hs k' n' x,⟨?_,rfl,rfl,by simp,rfl⟩,hK⟩;intro h;cases h;rename_i hx;exact ⟨rfl,hx⟩
  ·cases hK
 |raw=>unfold eA gR at hK;cases m<;>simp at hK<;>exact mk _ rfl rfl hK
theorem uH {l:ak}{ls:List ak}{m:MV}{ms:List MV}(h1:aW [l]=some [m])(h2:aW ls=some ms):aW (l::ls)=some (m::ms):=by cases l<;>simp [aW] at h1⊢ <;>simp [h2,h1]
structure T4 (e:Env) (ks:List Kd) (vs:List Value) (ms:List MV) (ls:List ak):Prop where
 rep:dq e.key e.φ vs ms->ai e vs ls
 O9:dR ls=true
 mv:aW ls=some ms
 one: ∀m',ak.p m'∈ls->m'.one=true
 wid:rv ls=zy ks
theorem Nq (k:Kd)(ks:List Kd):zy (k::ks)=zy [k]+zy ks:=by cases k<;>simp [zy]
theorem lC {ks:List Kd}: ∀{ms:List MV} {vs:List Value} {K':List ak->Option R},mZ ks ms K'=some r-> ∃ls,T4 e ks vs ms ls/\K' ls=some r:=by
 induction ks with
 |nil=>
  intro ms vs K' hK;cases ms with
  |nil=>exact ⟨[],⟨λh=>by cases h;rfl,rfl,rfl,by simp,rfl⟩,hK⟩
  |cons m ms=>simp [mZ,gN] at hK
 |cons k ks ih=>
  intro ms vs K' hK;cases ms with
  |nil=>simp [mZ,gC] at hK
  |cons m ms=>
   simp only [mZ,gC] at hK;have h1:=λvs=>gw (e:=e) (vs:=vs) hK;obtain ⟨l,hl,lv⟩:=h1 [];obtain ⟨ls,Dr,q8⟩:=ih (vs:=[]) lv;refine ⟨l::ls,⟨?_,?_,uH hl.mv Dr.mv,?_,?_⟩,q8⟩
   ·intro h;have g:ai e vs (l::ls):=by
     apply h.leaves (uH hl.mv Dr.mv);intro m' hm;rcases aan.1 hm with hm|hm
     ·exact hl.one m' hm.symm
     ·exact Dr.one m' hm
    exact g
   ·simp [dR,hl.O9,Dr.O9]
   ·intro m' hm;rcases aan.1 hm with hm|hm
    ·exact hl.one m' hm.symm
    ·exact Dr.one m' hm
   ·rw [Nq,<-hl.wid,<-Dr.wid];rfl
theorem T5 {t:TypeId}{I:TI}(hr:ji c.ti P t I)(hc:I.bB=[]):zy I.lay=I.size:=by
 obtain ⟨d,i,h1,h2,h3,h4⟩:=hr;cases d<;>simp only [kM] at h4;case struct fs=>exact h4.2.2.1.2
 case tuple ts=>exact absurd hc h4.2.1
 case slice el=>obtain ⟨_,_,hs,_,_,_,_,k,hl,rfl⟩:=h4;rw [hl,hs];rfl
 case array n el=>obtain ⟨_,_,hs,_,k,m,hm,_,hl,_⟩:=h4;rw [hl,hs,hm];rfl
 all_goals (obtain ⟨_,_,hs,hl,_⟩:=h4;rw [hl,hs];rfl)
theorem yC {E:TI}{t:TypeId}{x:MV} {K':List ak->Option R}(hr:ji c.ti P t E)(hc:E.bB=[])(hK:FX E x K'=some r): ∃cs,AB E.st x cs/\dR cs=true/\rv cs=E.size/\K' cs=some r:=by
 have hlw:=T5 hr hc;unfold FX at hK;cases cu:E.st with
 |true=>
  simp only [cu,cond_true] at hK;unfold gA at hK;split at hK
  ·rename_i ms;obtain ⟨ls,Dr,lv⟩:=lC (e:=⟨λn=>n,λ_ _=>none,λ_=>undef,λ_=>0,[]⟩) (vs:=[]) hK;exact ⟨ls,⟨⟨ms,Dr.mv,by simp [nQ]⟩,Dr.one⟩,Dr.O9,by rw [Dr.wid,hlw],lv⟩
  ·simp at hK
 |false=>
  simp only [cu,cond_false] at hK;split at hK
  ·rename_i k hl;obtain ⟨l,om,lv⟩:=gw (e:=⟨λn=>n,λ_ _=>none,λ_=>undef,λ_=>0,[]⟩) (vs:=[]) hK;refine ⟨[l],⟨⟨[x],om.mv,by simp [nQ]⟩,?_⟩,by simp [dR,om.O9],?_,lv⟩
   ·intro m hm;simp at hm;exact om.one m hm.symm
   ·rw [<-hlw,hl,<-om.wid];rfl
  ·simp at hK
theorem XT {t:TypeId}{x y:Operand}{I E:TI}(ho:o.op= .indexAddr t x y)(hI:c.tv t=some I)(hE:c.tv I.elem=some E)(hT:dt P c.ti)(h:bg c Z e st a w)(hK:Xz c st I E (aq c st x) (aq c st y) (λs=>aG c st o.dst s K)=some r):Rd P c Z K r e a w o (λ_=>True):=by
 obtain ⟨hx,jV⟩:=h.eval x;obtain ⟨hy,_⟩:=h.eval y;obtain ⟨fH,hc⟩:=aD hI;obtain ⟨fR,iT⟩:=aD hE;have hr:=hT t I fH;have hrE:=hT _ E fR;obtain ⟨iE,hiE,hsE,_⟩:=hrE.info iT;have run: ∀k n aA off len cap,P.underlying t=some (.slice I.elem)->a.eval y= .int k n->a.eval x= .slice (some ⟨aA,off,none⟩) len cap->0<=n->n.toNat<len-> ∀w:World,(execOp a.eval o).run P w= .ok (.value (.pointer (some ⟨aA,off+n.toNat *E.size,none⟩))) w:=by
  intro k n aA off len cap hu hy hx h0 h1 w;have h2:n<(len:Int):=by omega
  simp [execOp,ho,hx,hy,acB,asIntOf,run_underlying hu,h0,h2,aal,typeInfo,hiE,hsE,aas]
 generalize aq c st x=sx at hx hK jV;generalize aq c st y=sy at hy hK;unfold Xz at hK;split at hK
 ·rename_i xs k n;cases hL:I.pH with
  |false=>simp [hL] at hK
  |true=>
   simp only [hL,cond_true] at hK;obtain ⟨h0,m,hm,hK⟩:=HU hK;obtain ⟨cs,h1,h2,h3,hK⟩:=yC hrE iT hK;have cz:n.toNat<xs.length:=(AT.1 hm).1;simp only [aa,aw] at hx;obtain ⟨_,hx⟩:=hx;generalize hv:[a.eval x]=vs at hx;cases hx with
   |list ad cap _ aA off xt f g1 g2 g3 g4 g5=>
   simp at hv;have cM:=g5 n.toNat cz;rw [(AT.1 hm).2] at cM;have jX:=cM.AH h1;have T6:xt=E.size:=by rw [<-h3,<-jX.width,g3 _ cz]
   rw [g2 (by omega)] at hv;refine dH (s:= .rp cs 0) h (run k n aA off _ cap (TI.fJ hr hL).1 (ft hy) hv h0 cz) ?_ trivial hK;simp only [aa];refine ⟨aA,off+n.toNat *E.size,f n.toNat,rfl,jX,h2,?_⟩;intro j hj;rw [g3 _ cz] at hj;rw [<-T6];exact g4 n.toNat j cz hj
 ·rename_i f k n;cases hf:ar st.az f with
  |none=>simp [hf] at hK
  |some fo=>
   simp only [hf] at hK;cases hL:I.pH with
   |false=>simp [hL] at hK
   |true=>
    simp only [hL,cond_true] at hK;obtain ⟨h0,m,hm,hK⟩:=HU hK;obtain ⟨cs,h1,h2,h3,hK⟩:=yC hrE iT hK;have cz:n.toNat<fo.xs.length:=(AT.1 hm).1;obtain ⟨hv,_⟩:=lB h hx hf;obtain ⟨J,cells,_,_,cb,_⟩:=(h.dV f fo hf).row;rcases cb.2 with ⟨h5,h6⟩|⟨g,cap,bU,h5,_⟩
    ·omega
    ·rw [h5] at hv;refine dH (s:= .ep f n.toNat 0 E.st cs) h (run k n g 0 _ cap (TI.fJ hr hL).1 (ft hy) hv h0 cz) ?_ trivial hK;simp only [aa];intro o2 bJ;rw [h.m,hf] at bJ;cases bJ;exact ⟨g,cap,h5,⟨m,hm,h1⟩,by rw [h3,aah,aaP]⟩
 ·rename_i r' o' k n;cases cu:I.st with
  |true=>simp [cu] at hK
  |false=>
   simp only [cu,cond_false] at hK;split at hK
   ·rename_i k2 m2 hl;obtain ⟨xx,hK⟩:=cj hK;obtain ⟨h0,h1⟩:=of_decide_eq_true xx;obtain ⟨d,i,hu,h2,h3,h4⟩:=hr;cases d<;>simp only [kM,hl,cu] at h4<;>first|(exfalso;simp_all;done)|skip
    obtain ⟨_,_,_,_,kk,mm,rfl,⟨ie,T7,jW,qH⟩,oJ,_⟩:=h4;simp only [aau,Kd.h.injEq,and_true] at oJ;obtain ⟨rfl,rfl⟩:=oJ;have vK:n<(m2:Int)+2:=by omega
    simp only [aa] at hx;refine dH (s:= .hp r' o' m2 n.toNat) (v:= .pointer (some ⟨e.B r',o'+n.toNat,none⟩)) h ?_ ?_ jV hK
    ·simp [execOp,ho,hx,ft hy,acB,asIntOf,run_underlying hu,h0,vK,aal,typeInfo,jW,qH,aaO,aas]
    ·simp only [aa];exact ⟨trivial,by omega⟩
   ·simp at hK
 ·rename_i cc _ n;cases cu:I.st with
  |true=>simp [cu] at hK
  |false=>
   simp only [cu,cond_false] at hK;split at hK
   ·rename_i k m' hl;unfold gC at hK;split at hK;rotate_left
    ·cases hK
    rename_i hh rest;dsimp only at hK;unfold gN at hK;split at hK;rotate_left
    ·cases hK
    unfold gH at hK;split at hK;rotate_left
    ·cases hK
    rename_i k2 m2 xs;cases hq:decide (k2=k)&&aQ m2 m' with
    |false=>simp [hq] at hK
    |true=>
    simp only [hq,cond_true] at hK;simp only [AS,decide_eq_true_eq] at hq;obtain ⟨rfl,hq⟩:=hq;have hq:=sh hq;subst hq;obtain ⟨xx,hK⟩:=cj hK;obtain ⟨h0,h1⟩:=of_decide_eq_true xx;obtain ⟨d,i,hu,h2,h3,h4⟩:=hr;cases d<;>simp only [kM,hl,cu] at h4<;>first|(exfalso;simp_all;done)|skip
    obtain ⟨_,_,_,_,kk,mm,rfl,⟨ie,T7,jW,qH⟩,oJ,_⟩:=h4;simp only [aau,Kd.h.injEq,and_true] at oJ;obtain ⟨rfl,rfl⟩:=oJ;have vK:n<(m2:Int)+2:=by omega
    simp only [aa,aw] at hx;obtain ⟨_,hx⟩:=hx;generalize hv:[a.eval x]=vs at hx;cases hx with
    |rp aA q us ms hr hp=>
    simp only [aau,and_true] at hv;cases hr with
    |cons v1 _ nT _ g1 g2=>
    cases g2;cases g1;rename_i Gg;have hp: ∀j,j<(aX k2 xs++[]).length->e.φ aA (q+j)=(aX k2 xs++[])[j]? :=hp;have hg:=l9 k2 xs n.toNat (by omega);refine dH (s:= .rp [.p (.i k2 (xs.getD n.toNat 0))] 0) (v:= .pointer (some ⟨aA,q+n.toNat,none⟩)) h ?_ ?_ trivial hK
    ·simp [execOp,ho,hv,ft hy,acB,asIntOf,run_underlying hu,h0,vK,aal,typeInfo,jW,qH,aaO,aas]
    ·simp only [aa];refine ⟨aA,q+n.toNat,[.int k2 (xs.getD n.toNat 0)],by simp,⟨_,[],rfl,⟨rfl,.i _ _⟩,rfl⟩,rfl,λj hj=> ?_⟩;have hj0:j=0:=by simpa using hj
     subst hj0;rw [aaP,hp n.toNat (by simp [bC];omega),adE,hg];rfl
   ·simp at hK
 ·simp at hK
theorem Nr {mx:Bool}{k:IntKind}{ss:List Slot}: ∀{vs:List Value} {n:Int} {m:MV},Pt mx k n ss=some m->vs.length=ss.length-> (∀(i:Nat) (v:Value) (s:Slot),vs[i]? =some v->ss[i]? =some s->aa e v s)-> ∃v,(∀w:World,(vs.foldlM (if mx then Builtin.max2 else Builtin.min2) (.int k n)).run P w= .ok v w)/\aa e v (.sc (.p m)):=by
 induction ss with
 |nil=>intro vs n m hm hl hs;have:=BY hl;subst this;simp [Pt] at hm;subst hm;exact ⟨.int k n,by simp,lZ k n⟩
 |cons s ss ih=>
  intro vs n m hm hl hs;cases vs with
  |nil=>simp at hl
  |cons v vs=>
   have h0:=hs 0 v s rfl rfl;unfold Pt at hm;split at hm
   ·rename_i ek;simp at ek
   ·rename_i k' y r' ek;simp at ek;obtain ⟨rfl,rfl⟩:=ek;by_cases hk:k'=k
    ·subst hk;simp only [decide_true,cond_true] at hm;obtain ⟨u,h1,h2⟩:=ih hm (by simpa using hl) (λi v s h1 h2=>hs (i+1) v s (by simpa using h1) (by simpa using h2));refine ⟨u,λw=> ?_,h2⟩;have h1:=h1 w;rw [ft h0];cases mx
     ·simp only [cond_false,aay] at h1;simp [Builtin.min2] at h1⊢;exact h1
     ·simp only [cond_true,imax] at h1;simp [Builtin.max2] at h1⊢;exact h1
    ·simp [hk] at hm
   ·simp at hm
theorem EC {cl:Call}{mx:Bool}{m:MV}(ho:o.op= .call cl)(hb:cl.callee= .builtin (if mx then .max else .min))(h:bg c Z e st a w)(hm:Kb mx (eB c st cl.args.toList)=some m)(hK:aG c st o.dst (.sc (.p m)) K=some r):Rd P c Z K r e a w o (λ_=>True):=by
 rw [eg] at hm;cases hl:cl.args.toList with
 |nil=>rw [hl] at hm;simp [Kb] at hm
 |cons x xs=>
  rw [hl] at hm;simp only [OF] at hm;obtain ⟨hx,_⟩:=h.eval x;generalize aq c st x=s at hx hm;unfold Kb at hm;split at hm
  ·rename_i k n ss ek;simp at ek;obtain ⟨rfl,rfl⟩:=ek;obtain ⟨v,h1,h2⟩:=Nr (e:=e) (P:=P) (vs:=xs.map a.eval) hm (by simp) (by intro i v s h1 h2;simp only [aak,Option.map_eq_some_iff] at h1 h2;obtain ⟨y,h3,rfl⟩:=h1;obtain ⟨y',h4,rfl⟩:=h2;rw [h3] at h4;cases h4;exact (h.eval y).1);have bZ:(cl.args.map a.eval).toList= .int k n::xs.map a.eval:=by simp [hl,ft hx]
   refine dH (v:=v) h ?_ h2 trivial hK;intro w;have h1:=h1 w;cases mx
   ·simp at hb h1;have P7: ∀ts t,(Builtin.min_ ts t (cl.args.map a.eval)).run P w= .ok v w:=by intro ts t;unfold Builtin.min_;rw [bZ];exact h1
    simp [execOp,ho,resolve,hb,invoke,builtin,P7]
   ·simp at hb h1;have P7: ∀ts t,(Builtin.max_ ts t (cl.args.map a.eval)).run P w= .ok v w:=by intro ts t;unfold Builtin.max_;rw [bZ];exact h1
    simp [execOp,ho,resolve,hb,invoke,builtin,P7]
  ·simp at hm
end
end Dn
/-
  Parts of slices and texts. Conditions: none.
-/
namespace Dn
open Go
section
variable {P:Program}{c:Ctx}{Z:aO}{e:Env}{st:St}{a:Act} {w w':World}{R:Type}{K:St->Option R}{r:R}{Q:Exit->Act->World->Prop}{o:Oper}
theorem pS {b:Bool}{lo hi:Option Operand}{len cap:Nat} {K':Nat->Nat->Option R}(h:bg c Z e st a w)(ve:len<=cap)(hK:sliceB (gU c st lo) (gU c st hi) len K'=some r): ∃l h',l<=h'/\h'<=len/\(lo=none->l=0)/\(∀w:World,(aae b len cap (lo.map a.eval) (hi.map a.eval) none).run P w= .ok (l,h',cap) w)/\K' l h'=some r:=by
 have XU: ∀(k:IntKind) (n:Int) (y:Nat) (cd:BoundsCode),0<=n->n<=(y:Int)-> ∀w:World,(aa6 (.int k n) y cd).run P w= .ok n.toNat w:=by intro k n y cd h1 h2 w;simp [aa6,asIntOf,h1,h2]
 unfold sliceB at hK;cases lo with
 |none=>
  cases hi with
  |none=>simp only [gU] at hK;exact ⟨0,len,by omega,by omega,λ_=>rfl,by simp [aae],hK⟩
  |some y=>
   obtain ⟨hy,_⟩:=h.eval y;simp only [gU] at hK;generalize aq c st y=sy at hy hK;split at hK<;>first|(simp_all;done)|skip
   ·rename_i k n h1 h2;simp at h2;subst h2;obtain ⟨xx,hK⟩:=cj hK;obtain ⟨h3,h4,h5⟩:=of_decide_eq_true xx;refine ⟨0,n.toNat,by omega,by omega,λ_=>rfl,?_,hK⟩;have:=XU k n cap (if b then .sliceAcap else .sliceAlen) h4 (by omega);cases b<;>simp at this<;>simp [aae,ft hy,this]
 |some x=>
  obtain ⟨hx,_⟩:=h.eval x;cases hi with
  |none=>
   simp only [gU] at hK;generalize aq c st x=sx at hx hK;split at hK<;>first|(simp_all;done)|skip
   ·rename_i k n h1 h2;simp at h1;subst h1;obtain ⟨xx,hK⟩:=cj hK;obtain ⟨h3,h4,h5⟩:=of_decide_eq_true xx;refine ⟨n.toNat,len,by omega,by omega,by simp,?_,by simpa using hK⟩;have:=XU k n len .sliceB h3 h4;simp [aae,ft hx,this]
  |some y=>
   obtain ⟨hy,_⟩:=h.eval y;simp only [gU] at hK;generalize aq c st x=sx at hx hK;generalize aq c st y=sy at hy hK;split at hK<;>first|(simp_all;done)|skip
   ·rename_i k n k' n' h1 h2;simp at h1 h2;subst h1;subst h2;obtain ⟨xx,hK⟩:=cj hK;obtain ⟨h3,h4,h5⟩:=of_decide_eq_true xx;refine ⟨n.toNat,n'.toNat,by omega,by omega,by simp,?_,hK⟩;have t1:=XU k' n' cap (if b then .sliceAcap else .sliceAlen) (by omega) (by omega);have t2:=XU k n n'.toNat .sliceB h3 (by omega);cases b<;>simp at t1<;>simp [aae,ft hx,ft hy,t1,t2]
theorem dI.sub {key:Nat->Nat} {φ:Ph}{ad:Option Addr}{len cap:Nat}{xs:List MV} {l h' size:Nat}(hv:dI key φ [.slice ad len cap] (.list xs))(hl:l<=h')(hh:h'<=xs.length)(hw:l≠0-> ∀x∈xs,x.w=size):len=xs.length/\len<=cap/\dI key φ [.slice (if cap=l then ad else ad.map (·.add (l *size))) (h'-l) (cap-l)] (.list ((xs.take h').drop l)):=by
 generalize oK:[aap ad len cap]=vs at hv;cases hv with
 |list ad' P3 _ aA off xt f g1 g2 g3 g4 g5=>
 simp at oK;obtain ⟨rfl,rfl,rfl⟩:=oK;refine ⟨rfl,g1,?_⟩;have hlen:((xs.take h').drop l).length=h'-l:=by simp;omega
 have aaQ:dI key φ [.slice (if cap=l then ad else ad.map (·.add (l *size))) ((xs.take h').drop l).length (cap-l)] (.list ((xs.take h').drop l)):=by
  have fK: ∀i,i<((xs.take h').drop l).length->i+l<xs.length:=by intro i hi;omega
  have Th: ∀(i:Nat) (hi:i<((xs.take h').drop l).length),((xs.take h').drop l)[i]=xs[i+l]'(fK i hi):=by intro i hi;simp [acL]
  refine .list _ _ _ aA (off+l *xt) xt (λi=>f (i+l)) (by rw [hlen];omega) ?_ ?_ ?_ ?_
  ·intro h0;have cg:cap≠l:=by omega
   have XV:0<xs.length:=by omega
   rw [g2 XV];simp only [cg,if_false,Option.map_some,By];by_cases XW:l=0
   ·subst XW;simp [aas]
   ·have T6:xt=size:=by have h3:=g5 0 XV;rw [<-g3 0 XV,h3.width];exact hw XW _ (ada XV)
    rw [T6,aas]
  ·intro i hi;exact g3 _ (fK i hi)
  ·intro i j hi hj;have:=g4 (i+l) j (fK i hi) hj;rw [<-this];congr 1;rw [abg];omega
  ·intro i hi;rw [Th i hi];exact g5 (i+l) (fK i hi)
 rw [hlen] at aaQ;exact aaQ
theorem vW {n:Nat}{l:List MV}(h:fZ n l=true): ∀x∈l,x.w=n:=by intro x hx;unfold fZ at h;rw [ac9] at h;exact sh (h x hx)
theorem aB.fZ {key:Nat->Nat} {φ:Ph}{size:Nat}{xs:List MV}: ∀{cs:List Value},aB key φ size cs xs-> ∀x∈xs,x.w=size:=by
 induction xs with
 |nil=>intro cs _ x hx;simp at hx
 |cons y ys ih=>
  intro cs h x hx;obtain ⟨v,q,rfl,h1,h2,h3⟩:=h;rcases aan.1 hx with rfl|hx
  ·rw [<-h2.width,h1]
  ·exact ih h3 x hx
theorem P8 {t:TypeId}{x:Operand}{lo hi:Option Operand}{I:TI}(ho:o.op= .slice t x lo hi none)(hI:c.tv t=some I)(hT:dt P c.ti)(h:bg c Z e st a w)(hK:Kc c I st (aq c st x) (gU c st lo) (gU c st hi) (λs st=>aG c st o.dst s K)=some r):Rd P c Z K r e a w o (λ_=>True):=by
 obtain ⟨hx,jV⟩:=h.eval x;obtain ⟨fH,hc⟩:=aD hI;have hr:=hT t I fH;have run: ∀{el E},P.underlying t=some (.slice el)->c.ti el=some E->E.bB=[]-> ∀ad len cap l h',a.eval x= .slice ad len cap->(∀w:World,(aae true len cap (lo.map a.eval) (hi.map a.eval) none).run P w= .ok (l,h',cap) w)-> ∀w:World,(execOp a.eval o).run P w= .ok (.value (.slice (if cap=l then ad else ad.map (·.add (l *E.size))) (h'-l) (cap-l))) w:=by intro el E hu hE iT ad len cap l h' hv hb w;obtain ⟨iE,hiE,hsE,_⟩:=(hT _ E hE).info iT;simp [execOp,ho,acC,adu,run_underlying hu,hv,hb,aal,typeInfo,hiE,hsE]
 generalize hs:aq c st x=s at hx hK jV;unfold Kc at hK;split at hK
 ·rename_i bs;cases hS:I.J8 with
  |false=>simp [hS] at hK
  |true=>
   simp only [hS,cond_true] at hK;have hu:=TI.xJ hr hS;obtain ⟨b,hb,rfl⟩:=vV hx;have jT:b.data.toList.length=b.size:=by rw [aao];rfl
   rw [jT] at hK;obtain ⟨l,h',h1,h2,_,h3,hK⟩:=pS (P:=P) (b:=false) (cap:=b.size) h (aai _) hK;refine dH (s:= .sc (.p (.s ((b.data.toList.take h').drop l)))) (v:= .string (b.extract l h')) h ?_ ?_ trivial hK
   ·simp [execOp,ho,acC,adu,run_underlying hu,hb,h3]
   ·have:=TR (e:=e) (b.extract l h');have h5:(b.extract l h').data.toList=(b.data.toList.take h').drop l:=by rw [abZ,acx,abA,adL]
    rwa [h5] at this
 ·rename_i xs;cases hS:I.pH with
  |false=>simp [hS] at hK
  |true=>
   simp only [hS,cond_true] at hK;obtain ⟨hu,_⟩:=TI.fJ hr hS;cases hE:c.tv I.elem with
   |none=>simp [hE] at hK
   |some E=>
    simp only [hE] at hK;obtain ⟨fR,iT⟩:=aD hE;have q8:(lo≠none->fZ E.size xs=true)/\sliceB (gU c st lo) (gU c st hi) xs.length (λl h'=>aG c st o.dst (.sc (.p (.list ((xs.take h').drop l)))) K)=some r:=by
     cases lo with
     |none=>exact ⟨by simp,hK⟩
     |some y=>simp only [gU] at hK⊢;obtain ⟨h1,h2⟩:=cj hK;exact ⟨λ_=>h1,h2⟩
    obtain ⟨hw,hK⟩:=q8;obtain ⟨ad,cap,hv,ve⟩:=AK hx;obtain ⟨l,h',h1,h2,h0,h3,hK⟩:=pS (P:=P) (b:=true) (cap:=cap) h ve hK;simp only [aa,aw] at hx;rw [hv] at hx;obtain ⟨_,_,cM⟩:=dI.sub (size:=E.size) hx.2 h1 h2 (λhl=>vW (hw (λhn=>hl (h0 hn))));refine dH (s:= .sc (.p (.list ((xs.take h').drop l)))) h (run hu fR iT ad _ cap l h' hv h3) ?_ trivial hK;simp only [aa,aw];exact ⟨rfl,cM⟩
 ·rename_i f;cases hf:ar st.az f with
  |none=>simp [hf] at hK
  |some fo=>
   simp only [hf] at hK;cases hS:I.pH&&aQ fo.ty I.elem with
   |false=>simp [hS] at hK
   |true=>simp only [hS,cond_true] at hK;simp only [AS] at hS;obtain ⟨hu,E,fR,iT,_⟩:=TI.fJ hr hS.1;have dU:=sh hS.2;obtain ⟨hvE,ad,cap,hv,ve⟩:=lB h hx hf;simp only [aa] at hx;obtain ⟨J,cells,hJ,_,_,dL,_⟩:=(h.dV f fo hf).row;rw [dU,fR] at hJ;cases hJ;have hwx:=dL.fZ;obtain ⟨e',bm,m,oq,T0,vM,cM,hK,_,hm⟩:=eT h hx hK;obtain ⟨o2,bJ,rfl⟩:=hm.1 f rfl;rw [hf] at bJ;cases bJ;obtain ⟨l,h',h1,h2,h0,h3,hK⟩:=pS (P:=P) (b:=true) (cap:=cap) h ve hK;rw [hv] at cM;obtain ⟨_,_,cM⟩:=dI.sub (size:=E.size) cM h1 h2 (λ_=>hwx);refine Kr (s:= .sc (.p (.list ((fo.xs.take h').drop l)))) (λw _=>run hu fR iT ad _ cap l h' hv h3 w) oq T0.tr (.of ?_ trivial) hK;simp only [aa,aw];exact ⟨rfl,cM⟩
 ·cases hS:I.pH with
  |false=>simp [hS] at hK
  |true=>
   simp only [hS,cond_true] at hK;obtain ⟨hu,E,fR,iT,_⟩:=TI.fJ hr hS;simp only [aa] at hx;have hx:[a.eval x]=[aap none 0 0]:=hx;simp at hx;obtain ⟨l,h',h1,h2,_,h3,hK⟩:=pS (P:=P) (b:=true) (cap:=0) h (aai _) hK;have h4:h'=0:=by omega
   have h5:l=0:=by omega
   subst h4;subst h5;refine dH (s:= .sc .nil) h (run hu fR iT none 0 0 0 0 hx h3) ?_ trivial hK;simp only [aa,if_true];rfl
 ·simp at hK
theorem T8 {t:TypeId}{x y z:Operand}{I:TI}(ho:o.op= .slice t x none (some y) (some z))(hI:c.tv t=some I)(hT:dt P c.ti)(h:bg c Z e st a w)(hK:Px I (aq c st x) (aq c st y) (aq c st z) (λs=>aG c st o.dst s K)=some r):Rd P c Z K r e a w o (λ_=>True):=by
 obtain ⟨hx,jV⟩:=h.eval x;obtain ⟨hy,_⟩:=h.eval y;obtain ⟨hz,_⟩:=h.eval z;obtain ⟨fH,hc⟩:=aD hI;have hr:=hT t I fH;generalize aq c st x=s at hx hK jV;generalize aq c st y=s2 at hy hK;generalize aq c st z=s3 at hz hK;unfold Px at hK;split at hK
 ·rename_i l n n';cases hS:I.pH with
  |false=>simp [hS] at hK
  |true=>
   simp only [hS,cond_true] at hK;obtain ⟨xx,q8⟩:=cj hK;obtain ⟨rfl,rfl⟩:=of_decide_eq_true xx;obtain ⟨hu,E,fR,iT,_⟩:=TI.fJ hr hS;obtain ⟨iE,hiE,hsE,_⟩:=(hT _ E fR).info iT;obtain ⟨ad,cap,hv,ve⟩:=AK hx;simp only [aa,aw] at hx;rw [hv] at hx;have XU: ∀(m:Nat) (cd:BoundsCode),l.length<=m-> ∀w:World,(aa6 (.int .i64 (l.length:Int)) m cd).run P w= .ok l.length w:=by
    intro m cd hm w;have:(l.length:Int)<=(m:Int):=by omega
    simp [aa6,asIntOf,this]
   have hb: ∀w:World,(aae true l.length cap none (some (.int .i64 (l.length:Int))) (some (.int .i64 (l.length:Int)))).run P w= .ok (0,l.length,l.length) w:=by intro w;have b1:=XU cap .slice3Acap ve;have b2:=XU l.length .slice3B (aai _);simp [aae,b1,b2]
   have cM:dI e.key e.φ [.slice ad l.length l.length] (.list l):=by
    have h2:=hx.2;generalize oK:[aap ad l.length cap]=vs at h2;cases h2 with
    |list ad' P3 _ aA off xt f g1 g2 g3 g4 g5=>
    simp at oK;obtain ⟨rfl,_⟩:=oK;exact .list _ _ _ aA off xt f (aai _) g2 g3 g4 g5
   refine dH (s:= .sc (.p (.clip l))) (v:= .slice ad l.length l.length) h (λw=> ?_) ?_ trivial q8
   ·simp [execOp,ho,acC,adu,run_underlying hu,hv,ft hy,ft hz,hb,aal,typeInfo,hiE,hsE];intro cg;cases ad with
    |none=>rfl
    |some b=>simp [Addr.add]
   ·simp only [aa,aw];exact ⟨rfl,.clip _ _ cM⟩
 ·simp at hK
end
end Dn
/-
  Stores. Conditions: none.
-/
namespace Dn
open Go
section
variable {P:Program}{c:Ctx}{Z:aO} {e e':Env}{st:St}{a:Act} {w w':World}{R:Type}{K:St->Option R}{r:R}{Q:Exit->Act->World->Prop}{o:Oper}
theorem AL (k:IntKind)(x:List Int)(i:Nat)(b:Int)(hi:i<x.length):aX k (x.set i b)=(aX k x).take i++[.int k b]++(aX k x).drop (i+1):=by
 have:aX k (x.set i b)=(aX k x).set i (.int k b):=by simp [aX,List.map_set]
 have hl:=bC k x;rw [this,List.set_eq_take_append_cons_drop,if_pos (by omega)];simp
structure P9 (e e':Env):Prop where
 key:e'.key=e.key
 φ:dJ e.φ e'.φ
 dV: ∀f o',ar e'.m f=some o'->(∃o,ar e.m f=some o)/\e'.E f=e.E f
theorem aw.Pa (h:P9 e e'){vs:List Value}{l:ak}(hr:aw e vs l):aw e' vs l:=by
 cases l with
 |p m=>exact ⟨hr.1,by have:=hr.2.mono h.φ;rw [<-h.key] at this;exact this⟩
 |own f=>obtain ⟨v,rfl,hv,hf⟩:=hr;refine ⟨v,rfl,hv,λo' vc=> ?_⟩;obtain ⟨⟨o,ho⟩,hE⟩:=h.dV f o' vc;rw [hE];exact hf o ho
 |_=>exact hr
theorem ai.Pa (h:P9 e e'){cs:List ak}: ∀{vs:List Value},ai e vs cs->ai e' vs cs:=by
 induction cs with
 |nil=>intro vs hr;exact hr
 |cons l r ih=>intro vs hr;obtain ⟨v,w,rfl,h1,h2⟩:=hr;exact ⟨v,w,rfl,h1.Pa h,ih h2⟩
def Kx (f:Nat)(s:Slot):Slot:=match s with
 | .ep g i o b cs=>bif aQ g f then .sc .un else .ep g i o b cs
 |s=>s
theorem oL (f:Nat)(r:Fr)(t:Nat):ah (rF f r) t=Kx f (ah r t):=AD (Kx f) rfl r t
theorem Ns (f:Nat)(s:Slot):bP (Kx f s)=bP s:=by cases s<;>simp only [Kx];rename_i g _ _ _ _;cases aQ g f<;>rfl
theorem aa.Pa {f:Nat}{T:Nat->Prop}(h:P9 e e')(lu:eR (· ≠f) T e e'){v:Value}{s:Slot}(hT:da (λ_=>True) T s)(hr:aa e v s):aa e' v (Kx f s):=by
 cases s with
 |sc l=>
  simp only [Kx];cases l with
  |un=>simp [aa]
  |hs k n x=>simpa [aa] using hr
  |p m=>simp only [aa] at hr⊢;exact hr.Pa h
  |nil=>simp only [aa] at hr⊢;exact hr.Pa h
  |mp s es=>simp only [aa] at hr⊢;exact hr
  |own f=>simp only [aa] at hr⊢;exact hr.Pa h
 |ag cs=>simp only [Kx,aa] at hr⊢;obtain ⟨arr,h1,h2⟩:=hr;exact ⟨arr,h1,h2.Pa h⟩
 |tg cs=>simp only [Kx,aa] at hr⊢;obtain ⟨arr,h1,h2⟩:=hr;exact ⟨arr,h1,h2.Pa h⟩
 |ep g i o b cs=>
  simp only [Kx];cases hb:aQ g f
  ·simp only [cond_false];refine hr.on lu ?_;simp only [da];intro e;subst e;simp [cY] at hb
  ·simp [aa]
 |_=>exact hr.on lu hT
theorem e9.Pa (h:P9 e e')(hk:e'.key=e.key)(hp:dJ e.φ e'.φ){o:Obj}{cs:List ak}(hr:e9 e o cs):e9 e' o cs:=by
 cases o with
 |cells arr T z=>exact ⟨hr.1,hr.2.Pa h⟩
 |map es clock=>exact hr
 |stringIter x pos=>exact hr
 |_=>exact hr.elim
theorem aB.set {key:Nat->Nat} {φ:Ph}{size:Nat}{xs:List MV}: ∀{cs:List Value} {i:Nat} {x:MV} {v':List Value},aB key φ size cs xs->i<xs.length->v'.length=size->dI key φ v' x-> aB key φ size (cs.take (i *size)++v'++cs.drop (i *size+size)) (xs.set i x):=by
 induction xs with
 |nil=>intro cs i x v' _ hi;simp at hi
 |cons y ys ih=>
  intro cs i x v' h hi hl hr;obtain ⟨v,q,rfl,h1,h2,h3⟩:=h;cases i with
  |zero=>simp only [acP,List.take_zero,ab9,aah,List.set_cons_zero];exact ⟨v',q,by rw [aaD h1],hl,hr,h3⟩
  |succ i=>have:=ih h3 (by simpa using hi) hl hr;rw [List.set_cons_succ];refine ⟨v,_,?_,h1,h2,this⟩;rw [aaw,aa8,abI,aaU (by omega),ab0 (by omega)];rw [show i *size+size-v.length=i *size by omega,show i *size+size+size-v.length=i *size+size by omega];simp
theorem bg.XX {f:Nat}{fo:jb}{I:TI}{g i:Nat}{cap:Nat}{bU:Array Value} {v' cells:List Value}{x:MV}(h:bg c Z e st a w)(hf:ar st.az f=some fo)(hz:fo.cB=false)(hI:c.ti fo.ty=some I)(JV:I.bB=[])(hE:e.E f= .slice (some ⟨g,0,none⟩) fo.xs.length cap)(cb:w.ownsRow 0 fo.ty I.size (e.E f) fo.xs.length cells)(hg:w.heap[g]? =some (.cells bU fo.ty (0,0)))(dL:aB e.key e.φ I.size cells fo.xs)(hi:i<fo.xs.length)(hl:v'.length=I.size)(hr:dI e.key e.φ v' x)(rK:f∉Z.bF): bg c Z {e with m:=bh e.m f ⟨fo.ty,false,fo.xs.set i x⟩} {st with fr:=rF f st.fr,az:=bh st.az f ⟨fo.ty,false,fo.xs.set i x⟩} a (w.setRow g (bU.toList.take (i *I.size)++v'++bU.toList.drop (i *I.size+I.size)).toArray)/\Z g:=by
 have hb:(e.E f).ownBlock=some g:=by rw [hE];rfl
 have hZ:Z g/\ ∀off,e.φ g off=none:=by
  obtain ⟨J,nS,_,_,_,_,h5⟩:=(h.dV f fo hf).row;obtain ⟨h6,h7⟩:=h5 g hb;refine ⟨Hu h6 rK,λoff=> ?_⟩;cases hp:e.φ g off with
  |none=>rfl
  |some u=>have:=(h7.1 off u hp).1;rw [hz] at this;cases this
 have jT:=setRow_size w g (bU.toList.take (i *I.size)++v'++bU.toList.drop (i *I.size+I.size)).toArray;have hE1:P9 e {e with m:=bh e.m f ⟨fo.ty,false,fo.xs.set i x⟩}:=by
  refine ⟨rfl,.refl _,λf2 o2 bJ=>⟨?_,rfl⟩⟩;have bJ:ar (bh e.m f ⟨fo.ty,false,fo.xs.set i x⟩) f2=some o2:=bJ;rw [aI] at bJ;by_cases cS:f2=f
  ·exact ⟨fo,by rw [cS,h.m];exact hf⟩
  ·simp only [cS,if_false] at bJ;exact ⟨o2,bJ⟩
 have lu:eR (· ≠f) (λ_=>True) e {e with m:=bh e.m f ⟨fo.ty,false,fo.xs.set i x⟩}:=by refine ⟨rfl,.refl _,λ_ _=>rfl,λf2 o2 bJ cg=> ?_⟩;have bJ:ar (bh e.m f ⟨fo.ty,false,fo.xs.set i x⟩) f2=some o2:=bJ;rw [aI] at bJ;simp only [cg,if_false] at bJ;exact ⟨o2,bJ,rfl,rfl⟩
 have fK: ∀f2 o2,ar (bh st.az f ⟨fo.ty,false,fo.xs.set i x⟩) f2=some o2-> ∃o3,ar st.az f2=some o3:=by
  intro f2 o2 bJ;rw [aI] at bJ;by_cases cS:f2=f
  ·exact ⟨fo,by rw [cS];exact hf⟩
  ·simp only [cS,if_false] at bJ;exact ⟨o2,bJ⟩
 refine ⟨⟨h.defers,h.size,by show bh e.m f _=bh st.az f _;rw [h.m],h.key,?_,?_,?_,?_,?_,?_,?_,?_,λb hb=>h.bt b (by omega)⟩,hZ.1⟩
 ·show (ax (rF f st.fr)).Nodup;have:ax (rF f st.fr)=ax st.fr:=by simp [ax,rF]
  rw [this];exact h.nodup
 ·intro t;show bk Z _ _ t _ (ah (rF f st.fr) t);rw [oL];have hs:=h.slot t;have P5:=h.bf t;generalize ah st.fr t=s at hs P5;by_cases xK: ∃cs,s= .box cs
  ·obtain ⟨cs,rfl⟩:=xK;simp only [bk,Kx] at hs⊢;refine ⟨hs.1,hs.2.bt,?_,hs.2.free⟩;obtain ⟨o2,h1,h2⟩:=hs.2.obj;refine ⟨o2,?_,h2.Pa hE1 rfl (.refl _)⟩;rw [setRow_other _ _ _ _ (by intro eb;exact P5 cs f fo rfl hf (by rw [hb,<-eb]))];exact h1
  ·have oq:aa e (a.tmps.getD t undef) s:=by cases s<;>simp only [bk] at hs<;>first|exact hs|exact absurd ⟨_,rfl⟩ xK
   have h2:=oq.Pa (f:=f) hE1 lu (cw s);generalize Nt:Kx f s=s2 at h2;cases s2<;>first|exact h2|(exfalso;simp [aa] at h2)
 ·intro t;show bK (rF f st.fr) (ah (rF f st.fr) t);rw [oL];have jV:=h.root t;generalize ah st.fr t=s at jV;have hk: ∀q,bP (ah (rF f st.fr) q)=bP (ah st.fr q):=λq=>by rw [oL,Ns]
  cases s with
  |ptr q o=>show bP (ah (rF f st.fr) q)=true;rw [hk];exact jV
  |hp q o i=>show bP (ah (rF f st.fr) q)=true;rw [hk];exact jV
  |rr q=>show bP (ah (rF f st.fr) q)=true;rw [hk];exact jV
  |ep g' _ _ _ _=>simp only [Kx];cases aQ g' f<;>trivial
  |_=>trivial
 ·intro f2 o2 bJ;have bJ:ar (bh st.az f ⟨fo.ty,false,fo.xs.set i x⟩) f2=some o2:=bJ;rw [aI] at bJ;by_cases cS:f2=f
  ·subst cS;simp at bJ;subst bJ;obtain ⟨hlen,HX⟩:=cb;refine ⟨I,cells.take (i *I.size)++v'++cells.drop (i *I.size+I.size),hI,JV,⟨?_,?_⟩,?_,?_⟩
   ·have hle:i *I.size+I.size<=fo.xs.length *I.size:=by rw [<-aaw];exact aaj _ hi
    simp only [IN,abc,abL,aca];omega
   ·have hle:i *I.size+I.size<=fo.xs.length *I.size:=by rw [<-aaw];exact aaj _ hi
    rcases HX with ⟨h1,_⟩|⟨g2,aaR,oM,h1,_,h3,h4,h5,h6,h7⟩
    ·rw [hE] at h1;simp at h1
    ·rw [hE] at h1;simp at h1;obtain ⟨rfl,rfl⟩:=h1;rw [hg] at h3;simp at h3;subst h3;refine .inr ⟨g,cap,(bU.toList.take (i *I.size)++v'++bU.toList.drop (i *I.size+I.size)).toArray,by rw [hE];simp,by omega,setRow_heap _ _ _ _ _ _ hg,by simpa using h4,h5,?_,?_⟩
     ·have iG:bU.toList.length=bU.size:=by simp
      have hcz:fo.xs.length *I.size<=cap *I.size:=aaj _ h4;simp only [aaW,IN,abc,abL,iG];omega
     ·have iG:bU.toList.length=bU.size:=by simp
      have hcz:fo.xs.length *I.size<=cap *I.size:=aaj _ h4;simp only [aca];rw [<-h7];have e1:(bU.toList.take (fo.xs.length *I.size)).take (i *I.size)=bU.toList.take (i *I.size):=by rw [List.take_take,Nat.min_eq_left (by omega)]
      have e2:(bU.toList.take (fo.xs.length *I.size)).drop (i *I.size+I.size)=(bU.toList.drop (i *I.size+I.size)).take (fo.xs.length *I.size-(i *I.size+I.size)):=by rw [adL]
      rw [e1,e2];have e3:(bU.toList.take (i *I.size)++v').length=i *I.size+I.size:=by simp only [IN,abc,iG];omega
      show List.take _ (bU.toList.take (i *I.size)++v'++bU.toList.drop (i *I.size+I.size))=_;rw [aa8,e3,aaU (by omega)]
   ·exact dL.set hi hl hr
   ·intro aA et;rw [hb] at et;cases et;exact ⟨.inr hZ.1,λoff u hu=>(by have hu:e.φ g off=some u:=hu;rw [hZ.2] at hu;cases hu),λ_ hf=>Bool.noConfusion hf⟩
  ·simp only [cS,if_false] at bJ;obtain ⟨I2,nS,h1,h2,h3,h4,h5⟩:=(h.dV f2 o2 bJ).row;exact ⟨I2,nS,h1,h2,Ku (λhk=>cS (h.ff f2 f o2 fo g bJ hf hk hb)) h3,h4,h5⟩
 ·intro t t' c1 c2 h1 h2 cg;have h1:ah (rF f st.fr) t= .box c1:=h1;have h2:ah (rF f st.fr) t'= .box c2:=h2;rw [oL] at h1 h2;have g1:ah st.fr t= .box c1:=by generalize ah st.fr t=s at h1;cases s<;>simp only [Kx] at h1<;>first|exact h1|(simp at h1;done)|(rename_i g' _ _ _ _;cases xv:aQ g' f<;>simp [xv] at h1)
  have g2:ah st.fr t'= .box c2:=by generalize ah st.fr t'=s at h2;cases s<;>simp only [Kx] at h2<;>first|exact h2|(simp at h2;done)|(rename_i g' _ _ _ _;cases xv:aQ g' f<;>simp [xv] at h2)
  exact h.bb t t' c1 c2 g1 g2 cg
 ·intro t c1 f2 o2 h1 h2;have h1:ah (rF f st.fr) t= .box c1:=h1;rw [oL] at h1;have g1:ah st.fr t= .box c1:=by generalize ah st.fr t=s at h1;cases s<;>simp only [Kx] at h1<;>first|exact h1|(simp at h1;done)|(rename_i g' _ _ _ _;cases xv:aQ g' f<;>simp [xv] at h1)
  obtain ⟨o3,LQ⟩:=fK f2 o2 h2;exact h.bf t c1 f2 o3 g1 LQ
 ·intro f1 f2 o1 o2 k h1 h2 h3 h4;obtain ⟨q1,g1⟩:=fK f1 o1 h1;obtain ⟨q2,g2⟩:=fK f2 o2 h2;exact h.ff f1 f2 q1 q2 k g1 g2 h3 h4
 ·intro b off v hv;have hv:e.φ b off=some v:=hv;have cg:b≠g:=by intro eb;subst eb;rw [hZ.2] at hv;cases hv
  rw [aav (setRow_other _ _ _ _ cg)];exact h.fB b off v hv
theorem ai.Nu {cs:List ak}: ∀{vs:List Value} {ms:List MV},ai e vs cs->aW cs=some ms->dq e.key e.φ vs ms:=by
 induction cs with
 |nil=>intro vs ms h hm;cases h;simp [aW] at hm;subst hm;exact .nil
 |cons l r ih=>
  intro vs ms h hm;obtain ⟨v,u,rfl,h1,h2⟩:=h;cases hr:aW r with
  |none=>cases l<;>simp [aW,hr] at hm
  |some q=>
   cases l<;>simp [aW,hr] at hm
   ·subst hm;exact .cons v _ u q h1.2 (ih h2 hr)
   ·subst hm;obtain ⟨rfl,hx⟩:=h1;exact .cons _ _ u q (.h _ _ _ hx) (ih h2 hr)
theorem Qa {b:Bool}{ms:List MV}{x:MV}{vs:List Value}(h:dq e.key e.φ vs ms)(hx:nQ b ms=some x):dI e.key e.φ vs x:=by
 cases b with
 |true=>cases ms<;>simp [nQ] at hx<;>subst hx<;>exact .agg _ _ h
 |false=>
  cases ms with
  |nil=>simp [nQ] at hx
  |cons m ms=>
   cases ms with
   |cons y ys=>simp [nQ] at hx
   |nil=>
    simp [nQ] at hx;subst hx;generalize oK:vs=DF at h;cases h with
    |cons v _ u _ h1 h2=>cases h2;simpa using h1
theorem Qb {t:TypeId}{x y:Operand}{I:TI}(ho:o.op= .store t x y)(hI:c.tv t=some I)(hT:dt P c.ti)(h:bg c Z e st a w)(hK:stK st I (aq c st x) (aq c st y) (λst=>aG c st o.dst (.sc .un) K)=some r):o.wp P a w (Out c Z K r e.φ w) Q:=by
 obtain ⟨hx,jV⟩:=h.eval x;obtain ⟨hy,_⟩:=h.eval y;obtain ⟨fH,hc⟩:=aD hI;have hr:=hT t I fH;have go: ∀w' bm,(abC t (a.eval x) (a.eval y)).run P w= .ok () w'->bg c Z e bm a w'->Trans Z e.φ w e.φ w'->aG c bm o.dst (.sc .un) K=some r->o.wp P a w (Out c Z K r e.φ w) Q:=by intro w' bm h1 h2 h3 h4;refine vU ?_ h2 h3 h4;simp [execOp,ho,h1]
 generalize aq c st x=sx at hx hK jV;generalize aq c st y=sy at hy hK;unfold stK at hK;cases hb:ox (av sy)||!aQ (rv (av sy)) I.size with
 |true=>simp [hb] at hK
 |false=>
  simp only [hb,cond_false] at hK;simp only [aam,abv] at hb;have zD:=sh hb.2;have cU:0<I.size:=by
   rcases hr.agg hc with ⟨d,hu,hd,hh⟩|⟨_,_,_,_,hh⟩
   ·obtain ⟨d',i',h1,h2,h3,h4⟩:=hr;cases d'<;>simp only [kM] at h4<;>first|omega|exact h4.2.2.1|exact absurd hc h4.2.1
   ·omega
  have cg:av sy≠[]:=by intro e0;rw [e0] at zD;simp [rv] at zD;omega
  have hcv:=uG hy hb.1 cg;split at hK
  ·rename_i root off;simp only [aa] at hx;split at hK
   ·rename_i cs mU;have nj:cR cs=false:=by cases hq:cR cs<;>simp_all
    simp only [nj,cond_false] at hK;cases hp:putAt cs off (av sy) with
    |none=>simp [hp] at hK
    |some dj=>simp only [hp] at hK;obtain ⟨w',bm,h1,h2,h3,h4⟩:=Nn (P:=P) nj hr hc h mU hcv zD hp hK;exact go w' bm (by rw [hx];exact h1) h2 h3 h4
   ·simp at hK
  ·rename_i root off hn i;simp only [aa] at hx;obtain ⟨hx,TY⟩:=hx;split at hK
   ·rename_i cs n mU;have nj:cR cs=false:=by cases hq:cR cs<;>simp_all
    simp only [nj,cond_false] at hK;split at hK
    ·rename_i kk n' x ls XO;cases hq:aQ n' hn with
     |false=>simp [hq] at hK
     |true=>
     simp only [hq,cond_true] at hK;have hq:=sh hq;subst hq;unfold gI at hK;split at hK
     ·rename_i k n;by_cases hk:k=kk
      ·subst hk;simp only [decide_true,cond_true] at hK;have hyv:=ft hy;cases hp:putAt cs off [.hs k n' (x.set i n)] with
       |none=>simp [hp] at hK
       |some dj=>
        simp only [hp] at hK;have iw:=h.slot root;rw [mU] at iw;obtain ⟨arr,T,bH,jX⟩:=iw.2.cells nj;obtain ⟨u1,u2,hu,h4,h5⟩:=rH XO jX;obtain ⟨u3,u4,rfl,h6,_⟩:=h5;obtain ⟨rfl,Gg⟩:=h6;obtain ⟨p1,p2,p3,he,h1,h2,h3⟩:=pP (ws:=aX k (x.set i n)) hp jX ⟨_,[],by simp,⟨rfl,by simpa using Gg⟩,rfl⟩;have hlx:=bC k x;have hly:=bC k (x.set i n);rw [aca] at hly;have hpu:p1=u1/\p2++p3=aX k x++u4:=List.append_inj (by rw [<-AI,<-he,hu]) (by omega);obtain ⟨rfl,hpu⟩:=hpu;obtain ⟨rfl,rfl⟩:=List.append_inj hpu (by omega);have jT:arr.size=p1.length+x.length+p3.length:=by
         have:arr.toList.length=(p1++aX k x++p3).length:=by rw [he]
         simp at this;omega
        have Gh:(a.eval y).cells.toList=[.int k n]:=by rw [hyv];simp [aaf]
        have DE:I.size=1:=by rw [<-zD];rfl
        have aV:=iS (P:=P) (w:=w) (aA:=e.B root) (off:=off+i) (v:=a.eval y) hr hc (by rw [Gh,DE];rfl) (by rw [Gh];simp [aab]) bH (by omega);have iy:arr.toList.take (off+i)++(a.eval y).cells.toList++arr.toList.drop (off+i+I.size)=p1++aX k (x.set i n)++p3:=by rw [Gh,DE,he,AL k x i _ (by omega),AI p1,aa8,abI,aa8,abI];rw [aaU (by omega),ab0 (by omega)];rw [show off+i-p1.length=i by omega,show off+i+1-p1.length=i+1 by omega,show i-(aX k x).length=0 by omega,show i+1-(aX k x).length=0 by omega];simp
        rw [iy] at aV;unfold wr at hK;cases hn:aP st.bI root with
        |true=>simp [hn] at hK
        |false=>simp only [hn,cond_false,force_eq,gV] at hK;exact go _ _ (by rw [hx];exact aV) (h.P2 mU bH (by simpa using h3) (λt=>by rw [a8]) (cD h.nodup)) (.setRow _ (Hu iw.2.bt (by rw [<-h.defers.2.1,<-aN,hn];simp))) hK
      ·simp [hk] at hK
     ·simp at hK
    ·simp at hK
   ·simp at hK
  ·rename_i f i off b cs;obtain ⟨e1,aT,ms,qH,yB,xI,xw,hK,Np,q9⟩:=iM h hcv hK;have hx:=hx.on yB.on (cw _);cases hf:ar aT.az f with
   |none=>simp [hf] at hK
   |some fo=>
    simp only [hf] at hK;cases hz:fo.cB with
    |true=>simp [hz] at hK
    |false=>
     simp only [hz,cond_false] at hK;cases JS:lh (av sy) ms with
     |none=>simp [JS] at hK
     |some vs=>
      simp only [JS] at hK;obtain ⟨oK,_⟩:=q9 vs JS;cases hp:putAt cs off vs with
      |none=>simp [hp] at hK
      |some dj=>
       simp only [hp] at hK;cases hm:aW dj with
       |none=>simp [hm] at hK
       |some ms'=>
        simp only [hm] at hK;cases XY:nQ b ms' with
        |none=>simp [XY] at hK
        |some x'=>
         simp only [XY] at hK;cases hn:aP aT.bF f with
         |true=>simp [hn] at hK
         |false=>
          simp only [hn,cond_false,XF,jy] at hK;simp only [aa] at hx;obtain ⟨aA,cap,hE,⟨x0,XV,Th⟩,Qc⟩:=hx fo (by rw [qH.m];exact hf);obtain ⟨J,cells,hJ,Ti,cb,dL,_⟩:=(qH.dV f fo hf).row;have hi:i<fo.xs.length:=(AT.1 XV).1;obtain ⟨p1,v1,p2,hce,Ge,om,cM⟩:=dL.at XV;have jX:=cM.AH Th;have hw1:=jX.width;obtain ⟨q1,q2,q3,Nh,ZU,ZV,iy⟩:=pP hp jX oK;have aaS:(a.eval y).cells.toList.length=I.size:=by rw [hcv.width,zD]
          have aaT:=Qa (iy.Nu hm) XY;obtain ⟨hlen,HX⟩:=cb;rcases HX with ⟨g1,_⟩|⟨g2,aaR,bU,g1,g0,g3,g4,g5,g6,g7⟩
          ·rw [hE] at g1;simp at g1
          ·have ED:w.ownsRow 0 fo.ty J.size (e1.E f) fo.xs.length cells:=⟨hlen,.inr ⟨g2,aaR,bU,g1,g0,g3,g4,g5,g6,g7⟩⟩
           rw [hE] at g1;simp at g1;obtain ⟨rfl,rfl⟩:=g1;have hvl:(q1++(a.eval y).cells.toList++q3).length=J.size:=by
            have:v1.length=(q1++q2++q3).length:=by rw [Nh]
            simp only [IN] at this⊢;omega
           obtain ⟨gx,hZ⟩:=qH.XX hf hz hJ Ti hE ED g3 dL hi hvl aaT (by rw [<-qH.defers.2.2.1,<-aN,hn];simp);have Qd:bU.toList=p1++q1++q2++(q3++p2++bU.toList.drop (fo.xs.length *J.size)):=by have:=List.take_append_drop (fo.xs.length *J.size) bU.toList;rw [g7,hce,Nh] at this;refine this.symm.trans ?_;simp
           have ai1:q2.length=I.size:=by rw [ZV,aaS]
           have rN:(p1++q1).length=i *J.size+off:=by simp [Ge,ZU]
           have ai2:bU.size=(p1++q1).length+I.size+(q3++p2++bU.toList.drop (fo.xs.length *J.size)).length:=by
            have:bU.toList.length=(p1++q1++q2++(q3++p2++bU.toList.drop (fo.xs.length *J.size))).length:=by rw [<-Qd]
            rw [IN,IN] at this;rw [aao] at this;omega
           have aV:=iS (P:=P) (w:=w) (aA:=aA) (off:=i *J.size+off) (v:=a.eval y) hr hc aaS hcv.cells g3 (by omega);have eo:bU.toList.take (i *J.size+off)++(a.eval y).cells.toList++bU.toList.drop (i *J.size+off+I.size)= bU.toList.take (i *J.size)++(q1++(a.eval y).cells.toList++q3)++bU.toList.drop (i *J.size+J.size):=by
            have t1:bU.toList.take (i *J.size+off)=p1++q1:=by
             conv=>lhs;rw [Qd,AI (p1++q1)]
             exact abj rN
            have t2:bU.toList.drop (i *J.size+off+I.size)=q3++p2++bU.toList.drop (fo.xs.length *J.size):=by
             conv=>lhs;rw [Qd]
             exact aaD (by rw [IN];omega)
            have t3:bU.toList.take (i *J.size)=p1:=by
             conv=>lhs;rw [Qd]
             simp only [AI];exact abj Ge
            have t4:bU.toList.drop (i *J.size+J.size)=p2++bU.toList.drop (fo.xs.length *J.size):=by
             have HY:bU.toList=(p1++(q1++q2++q3))++(p2++bU.toList.drop (fo.xs.length *J.size)):=by
              conv=>lhs;rw [Qd]
              simp
             conv=>lhs;rw [HY]
             exact aaD (by rw [IN,<-Nh];omega)
            rw [t1,t2,t3,t4];simp
           rw [eo] at aV;have aeE:i *rv cs+off=i *J.size+off:=by rw [<-hw1,om]
           refine vU (w':=w.setRow aA (bU.toList.take (i *J.size)++(q1++(a.eval y).cells.toList++q3)++bU.toList.drop (i *J.size+J.size)).toArray) ?_ gx ?_ hK
           ·rw [aeE] at Qc;simp [execOp,ho,Qc,aV]
           ·exact yB.tr.trans (.setRow _ hZ)
  ·simp at hK
end
end Dn
/-
  Structs and sums that are put together. Conditions: none.
-/
namespace Dn
open Go
section
variable {P:Program}{c:Ctx}{Z:aO} {e e':Env}{st:St}{a:Act} {w w':World}{R:Type}{K:St->Option R}{r:R}{Q:Exit->Act->World->Prop}{o:Oper}
theorem EE {place:Nat->Option (Nat×Nat)}{cells:Array Value}{i off:Nat}{v:Value}{rest:List (Nat×Value)}(hp:place i=some (off,v.cells.size))(hle:off+v.cells.size<=cells.size): ab1 place cells ((i,v)::rest)=ab1 place (cells.toList.take off++v.cells.toList++cells.toList.drop (off+v.cells.size)).toArray rest:=by
 conv=>lhs;unfold ab1
 simp only [hp];rw [if_neg (by simp;omega)];congr 1;rw [<-Array.foldl_toList,Array.toList_zipIdx];obtain ⟨h1,h2⟩:=Go.Great.foldl_set off v.cells.toList 0 cells;apply Array.ext_getElem?;intro k;have hl:(cells.toList.take off).length=off:=by simp;omega
 have e0:=h2 k;simp only [aaP,aao] at e0;refine Eq.trans e0 ?_;have e1:(cells.toList.take off++v.cells.toList++cells.toList.drop (off+v.cells.size)).toArray[k]? =(cells.toList.take off++v.cells.toList++cells.toList.drop (off+v.cells.size))[k]? :=by simp
 rw [e1,AI];have e2:cells[k]? =cells.toList[k]? :=by simp
 by_cases h3:k<off
 ·rw [if_neg (by omega),aaa (by omega),aat,if_pos h3,e2]
 ·rw [No (by omega),hl];by_cases h4:k<off+v.cells.size
  ·rw [if_pos ⟨by omega,h4,by omega⟩,aaa (by simp;omega)]
  ·rw [if_neg (by omega),No (by simp;omega),acF,e2];congr 1;simp;omega
theorem Ky {I:TI}{places:List (Nat×Nat)}(h:bg c Z e st a w)(JS: ∀(i q y:Nat)(J:TI),I.zq[i]? =some q->I.M9[i]? =some y->c.tv y=some J->places[i]? =some (q,J.size)/\0<J.size){parts:List (Nat×Operand)}: ∀{cs ds:List ak} {cells:Array Value},ai e cells.toList cs->uU c st I parts cs=some ds-> ∃out,ab1 (places.toArray[·]?) cells (parts.map λp=>(p.1,a.eval p.2))=some out/\ai e out.toList ds:=by
 induction parts with
 |nil=>intro cs ds cells hl hb;simp [uU] at hb;subst hb;exact ⟨cells,rfl,hl⟩
 |cons p ps ih=>
  intro cs ds cells hl hb;obtain ⟨i,x⟩:=p;simp only [uU] at hb;split at hb
  ·rename_i q y hq hy;cases hJ:c.tv y with
   |none=>simp [hJ] at hb
   |some J=>
    simp only [hJ] at hb;obtain ⟨hpi,cU⟩:=JS i q y J hq hy hJ;cases hu:ox (av (aq c st x))||!aQ (rv (av (aq c st x))) J.size with
    |true=>simp [hu] at hb
    |false=>
     simp only [hu,cond_false] at hb;simp only [aam,abv] at hu;have zD:=sh hu.2;cases hp:putAt cs q (av (aq c st x)) with
     |none=>simp [hp] at hb
     |some dj=>
      simp only [hp] at hb;have cg:av (aq c st x)≠[]:=by intro e0;rw [e0] at zD;simp [rv] at zD;omega
      have hv:=uG (h.eval x).1 hu.1 cg;obtain ⟨p1,p2,p3,he,h1,h2,h3⟩:=pP hp hl hv;have hlen:(a.eval x).cells.size=J.size:=by rw [<-zD,<-hv.width];simp
      have jT:cells.size=p1.length+p2.length+p3.length:=by
       have:cells.toList.length=(p1++p2++p3).length:=by rw [he]
       simp at this;omega
      have z6:p2.length=(a.eval x).cells.size:=by rw [h2];simp
      have LV:=EE (place:=(places.toArray[·]?)) (cells:=cells) (i:=i) (off:=q) (v:=a.eval x) (rest:=ps.map λp=>(p.1,a.eval p.2)) (by rw [hlen];simpa using hpi) (by omega);have ht:cells.toList.take q++(a.eval x).cells.toList++cells.toList.drop (q+(a.eval x).cells.size)=p1++(a.eval x).cells.toList++p3:=by rw [he];rw [AI p1 p2 p3,abj h1,<-AI p1 p2 p3,aaD (by rw [IN];omega)]
      rw [ht] at LV;obtain ⟨out,h4,h5⟩:=ih (cells:=(p1++(a.eval x).cells.toList++p3).toArray) (by simpa using h3) hb;exact ⟨out,by rw [OF,LV];exact h4,h5⟩
  ·simp at hb
theorem Kz {kk:IntKind}{nn:Nat}{parts:List (Nat×Operand)}(h:bg c Z e st a w): ∀{x:List Int} {K':List Int->Option R},x.length=nn+2->At c st kk nn parts x K'=some r-> ∃y,ab1 (λi=>some (i *1,1)) (aX kk x).toArray (parts.map λp=>(p.1,a.eval p.2))=some (aX kk y).toArray/\y.length=nn+2/\K' y=some r:=by
 induction parts with
 |nil=>intro x K' Gg hb;exact ⟨x,rfl,Gg,hb⟩
 |cons p ps ih=>
  intro x K' Gg hb;obtain ⟨i,y⟩:=p;simp only [At] at hb;split at hb
  ·rename_i m hm;cases hi:aag (nn+2) i with
   |true=>simp [hi] at hb
   |false=>
    simp only [hi,cond_false] at hb;have TY:i<nn+2:=by
     by_cases cz:i<nn+2
     ·exact cz
     ·have:aag (nn+2) i=true:=acd (by omega);simp_all
    unfold gI at hb;split at hb
    ·rename_i k n;by_cases hk:k=kk
     ·subst hk;simp only [decide_true,cond_true] at hb;obtain ⟨out,h1,h2⟩:=ih (by simpa using Gg) hb;have hv:=ft (by have:=(h.eval y).1;rw [hm] at this;exact this);refine ⟨out,?_,h2⟩;rw [<-h1,OF];have xx:(a.eval y).cells= #[.int k n]:=by rw [hv];simp [aaf]
      have LV:=EE (place:=λi=>some (i *1,1)) (cells:=(aX k x).toArray) (i:=i) (off:=i *1) (v:=a.eval y) (rest:=ps.map λp=>(p.1,a.eval p.2)) (by rw [xx];rfl) (by rw [xx];have:=bC k x;simp;omega);rw [LV,AL k x i _ (by omega),xx];simp
     ·simp [hk] at hb
    ·simp at hb
  ·simp at hb
theorem Nv (P:Program)(l:List Field):(∀f∈l,∃i,P.info? f.type=some i)-> ∃places,l.mapM (λf=>(P.info? f.type).map λi=>(f.offset,i.size))=some places/\ ∀(k:Nat) (f:Field),l[k]? =some f-> ∃i,P.info? f.type=some i/\places[k]? =some (f.offset,i.size):=by
 induction l with
 |nil=>intro _;exact ⟨[],by simp,by simp⟩
 |cons f fs ih=>
  intro h;obtain ⟨i,hi⟩:=h f (by simp);obtain ⟨ps,h1,h2⟩:=ih (λg hg=>h g (by simp [hg]));refine ⟨(f.offset,i.size)::ps,by simp [List.mapM_cons,hi,h1],?_⟩;intro k g hg;cases k with
  |zero=>simp at hg;subst hg;exact ⟨i,hi,rfl⟩
  |succ k=>simp at hg;simpa using h2 k g hg
theorem Qe {t:TypeId}{parts:Array (Nat×Operand)}{I:TI}(ho:o.op= .build t parts)(hI:c.tv t=some I)(hT:dt P c.ti)(h:bg c Z e st a w)(hK:(bif I.st then (match uU c st I parts.toList I.zero with|some cs=>aG c st o.dst (.ag cs) K|none=>none)
  else (match I.lay with|[.h k n]=>At c st k n parts.toList (zA n) λx=>aG c st o.dst (.sc (.hs k n x)) K|_=>none))=some r):Rd P c Z K r e a w o (λ_=>True):=by
 obtain ⟨fH,hc⟩:=aD hI;obtain ⟨d,i,h1,h2,h3,h4⟩:=hT t I fH;have Pb:(parts.map λ(i,x)=>(i,a.eval x)).toList=parts.toList.map λp=>(p.1,a.eval p.2):=by simp
 have run: ∀out,P.built t (parts.toList.map λp=>(p.1,a.eval p.2))=some out-> ∀w:World,(execOp a.eval o).run P w= .ok (.value (.agg out)) w:=by intro out hb w;have:=run_build (P:=P) w t (parts.map λ(i,x)=>(i,a.eval x)) out (by rw [Pb];exact hb);simp [execOp,ho] at this⊢;simp [this]
 cases cu:I.st with
 |true=>
  simp only [cu,cond_true] at hK;cases d<;>simp only [kM] at h4;case struct fs=>
   obtain ⟨_,_,_,Tj,bJ,LQ,zc,hz,hzl,_⟩:=h4;cases hb:uU c st I parts.toList I.zero with
   |none=>simp [hb] at hK
   |some cs=>
    simp only [hb] at hK;have aeF: ∃places,fs.toList.mapM (λf=>(P.info? f.type).map λi=>(f.offset,i.size))=some places/\ (∀(i q y:Nat) (J:TI),I.zq[i]? =some q->I.M9[i]? =some y->c.tv y=some J->places[i]? =some (q,J.size)/\0<J.size):=by
     obtain ⟨places,Np,EA⟩:=Nv P fs.toList (by intro f hf;obtain ⟨k,hk,rfl⟩:=acv.1 hf;obtain ⟨J,hJ,Ti,_⟩:=LQ k fs.toList[k] (by simp at hk⊢);obtain ⟨i,hi,_⟩:=(hT _ J hJ).info Ti;exact ⟨i,hi⟩);refine ⟨places,Np,?_⟩;intro i q y J hq hy hJ;rw [<-Tj,aak] at hq;rw [<-bJ,aak] at hy;cases hf:fs.toList[i]? with
     |none=>simp [hf] at hq
     |some f=>simp [hf] at hq hy;subst hq;subst hy;obtain ⟨J2,hJ2,aeG,cU⟩:=LQ i f (by simpa using hf);obtain ⟨hJt,_⟩:=aD hJ;rw [hJ2] at hJt;cases hJt;obtain ⟨i2,KA,aeH⟩:=EA i f hf;obtain ⟨i3,hi3,XZ,_⟩:=(hT _ J hJ2).info aeG;rw [KA] at hi3;cases hi3;exact ⟨by rw [aeH,XZ],cU⟩
    obtain ⟨places,JS,KB⟩:=aeF;obtain ⟨out,h5,h6⟩:=Ky h KB (cells:=zc) (gq hzl) hb;refine dH (v:= .agg out) (s:= .ag cs) h (run out ?_) ?_ trivial hK
    ·unfold Program.built;simp only [h2,h1,hz,JS];exact h5
    ·simp only [aa];exact ⟨out,rfl,h6⟩
  all_goals (exfalso;simp_all)
 |false=>
  simp only [cu,cond_false] at hK;split at hK
  ·rename_i k' m' hl;cases d<;>simp only [kM,hl,cu] at h4<;>first|(exfalso;simp_all;done)|skip
   obtain ⟨_,_,_,rfl,kk,mm,rfl,⟨ie,hu,jW,qH⟩,oJ,_,hz⟩:=h4;simp only [aau,Kd.h.injEq,and_true] at oJ;obtain ⟨rfl,rfl⟩:=oJ;obtain ⟨y,h5,h7,h6⟩:=Kz h (by simp) hK;refine dH (v:= .agg (aX k' y).toArray) (s:= .sc (.hs k' m' y)) h (run _ ?_) ?_ trivial h6
   ·unfold Program.built;simp only [h2,h1,hz,jW,qH];exact h5
   ·simp only [aa];exact ⟨trivial,h7⟩
  ·simp at hK
end
end Dn
/-
  A family comes to have other content. Conditions: none.
-/
namespace Dn
open Go
section
variable {P:Program}{c:Ctx}{Z:aO} {e e':Env}{st:St}{a:Act} {w w':World}{R:Type}{K:St->Option R}{r:R}{Q:Exit->Act->World->Prop}{o:Oper}
def Env.nU (e:Env)(f:Nat)(v:Value)(fo:jb):Env:={e with E:=λg=>if g=f then v else e.E g,m:=bh e.m f fo}
def St.nU (st:St)(f:Nat)(fo:jb):St:={st with fr:=gd f st.fr,az:=bh st.az f fo}
theorem xL (f:Nat)(s:Slot):bP (tl f s)=bP s:=by cases s<;>simp only [tl,bP];rename_i g _ _ _ _;cases aQ g f<;>rfl
theorem nk {f:Nat}{s:Slot}{cs:List ak}(h:tl f s= .box cs): ∃zF,s= .box zF/\cs=zF.map (F7 f):=by
 cases s<;>simp only [tl] at h<;>first|(simp at h;done)|(rename_i g _ _ _ _;cases hb:aQ g f<;>simp [hb] at h;done)|skip
 rename_i zF;simp at h;exact ⟨zF,rfl,h.symm⟩
theorem bg.dW {f:Nat}{fo:jb} {v':Value}(h:bg c Z e st a w)(rK:f∉Z.bF)(db:bw c Z.nc e w' v' fo)(ahm:w.heap.size<=w'.heap.size)(bH: ∀b,b<w.heap.size->(∀o,ar st.az f=some o->(e.E f).ownBlock≠some b)->w'.heap[b]? =w.heap[b]?)(du: ∀b o v,e.φ b o=some v->w'.cell? ⟨b,o,none⟩=some v)(iy: ∀b,v'.ownBlock=some b->w.heap.size<=b\/ ∃o,ar st.az f=some o/\(e.E f).ownBlock=some b): bg c Z (e.nU f v' fo) (st.nU f fo) a w':=by
 have lu:eR (· ≠f) (λ_=>True) e (e.nU f v' fo):=by refine ⟨rfl,.refl _,λ_ _=>rfl,λf2 o2 bJ cg=> ?_⟩;have bJ:ar (bh e.m f fo) f2=some o2:=bJ;rw [aI] at bJ;simp only [cg,if_false] at bJ;exact ⟨o2,bJ,by simp [Env.nU,cg],rfl⟩
 have Qf: ∀t cs,ah st.fr t= .box cs->e.B t<w.heap.size:=by intro t cs ht;have hs:=h.slot t;rw [ht] at hs;obtain ⟨o2,h1,_⟩:=hs.2.obj;exact aC h1
 have nR: ∀t cs,ah st.fr t= .box cs->w'.heap[e.B t]? =w.heap[e.B t]? :=by intro t cs ht;exact bH _ (Qf t cs ht) (λo ho=>h.bf t cs f o ht ho)
 refine ⟨h.defers,h.size,by show bh e.m f _=bh st.az f _;rw [h.m],h.key,?_,?_,?_,?_,?_,?_,?_,du,λb hb=>h.bt b (by omega)⟩
 ·show (ax (gd f st.fr)).Nodup;have:ax (gd f st.fr)=ax st.fr:=by simp [ax,gd]
  rw [this];exact h.nodup
 ·intro t;show bk Z _ _ t _ (ah (gd f st.fr) t);rw [dG];have hs:=h.slot t;have vX:=nR t;generalize ah st.fr t=s at hs vX;by_cases xK: ∃cs,s= .box cs
  ·obtain ⟨cs,rfl⟩:=xK;simp only [bk,tl] at hs⊢;refine ⟨hs.1.gn (Kp f _),hs.2.bt,?_,hs.2.free⟩;obtain ⟨o2,h1,h2⟩:=hs.2.obj;refine ⟨o2,by show w'.heap[e.B t]? =_;rw [vX cs rfl];exact h1,?_⟩;refine (h2.map (λ_ _=>aw.kill f) (λ_ _=>rfl)).on lu ?_;intro l hl;obtain ⟨x,_,rfl⟩:=abn.1 hl;exact xG f x
  ·have oq:aa e (a.tmps.getD t undef) s:=by cases s<;>simp only [bk] at hs<;>first|exact hs|exact absurd ⟨_,rfl⟩ xK
   have h2:=(oq.kill f).on lu (PT f _ s (cw s));generalize Nt:tl f s=s2 at h2;cases s2<;>first|exact h2|(exfalso;simp [aa] at h2)
 ·intro t;show bK (gd f st.fr) (ah (gd f st.fr) t);rw [dG];have jV:=h.root t;generalize ah st.fr t=s at jV;have hk: ∀q,bP (ah (gd f st.fr) q)=bP (ah st.fr q):=λq=>by rw [dG,xL]
  cases s with
  |ptr q o=>show bP (ah (gd f st.fr) q)=true;rw [hk];exact jV
  |hp q o i=>show bP (ah (gd f st.fr) q)=true;rw [hk];exact jV
  |rr q=>show bP (ah (gd f st.fr) q)=true;rw [hk];exact jV
  |ep g' _ _ _ _=>simp only [tl];cases aQ g' f<;>trivial
  |_=>trivial
 ·intro f2 o2 bJ;have bJ:ar (bh st.az f fo) f2=some o2:=bJ;rw [aI] at bJ;by_cases cS:f2=f
  ·subst cS;simp at bJ;subst bJ;have:=(db.to rK).env (e':=e.nU f2 v' fo) rfl rfl;simpa [Env.nU] using this
  ·simp only [cS,if_false] at bJ;obtain ⟨I2,nS,h1,h2,h3,h4,h5⟩:=(h.dV f2 o2 bJ).row;refine ⟨I2,nS,h1,h2,?_,h4,?_⟩
   ·show w'.ownsRow 0 o2.ty I2.size (if f2=f then v' else e.E f2) o2.xs.length nS;rw [if_neg cS];refine ⟨h3.1,?_⟩;rcases h3.2 with h6|⟨g,cap,bU,g1,g2,g3,g4⟩
    ·exact .inl h6
    ·refine .inr ⟨g,cap,bU,g1,g2,?_,g4⟩;rw [bH g (aC g3) (λo ho hk=>cS (h.ff f2 f o2 o g bJ ho (by rw [g1];rfl) hk))];exact g3
   ·intro aA hb;have hb:(if f2=f then v' else e.E f2).ownBlock=some aA:=hb;rw [if_neg cS] at hb;exact h5 aA hb
 ·intro t t' c1 c2 h1 h2 cg;have h1:ah (gd f st.fr) t= .box c1:=h1;have h2:ah (gd f st.fr) t'= .box c2:=h2;rw [dG] at h1 h2;obtain ⟨d1,g1,_⟩:=nk h1;obtain ⟨d2,g2,_⟩:=nk h2;exact h.bb t t' d1 d2 g1 g2 cg
 ·intro t c1 f2 o2 h1 h2;have h1:ah (gd f st.fr) t= .box c1:=h1;have h2:ar (bh st.az f fo) f2=some o2:=h2;rw [dG] at h1;rw [aI] at h2;obtain ⟨d1,g1,_⟩:=nk h1;show (if f2=f then v' else e.E f2).ownBlock≠some (e.B t);by_cases cS:f2=f
  ·rw [if_pos cS];intro hb;rcases iy _ hb with h3|⟨o,h3,h4⟩
   ·have:=Qf t d1 g1;omega
   ·exact h.bf t d1 f o g1 h3 h4
  ·rw [if_neg cS];simp only [cS,if_false] at h2;exact h.bf t d1 f2 o2 g1 h2
 ·intro f1 f2 o1 o2 k h1 h2 h3 h4;have h1:ar (bh st.az f fo) f1=some o1:=h1;have h2:ar (bh st.az f fo) f2=some o2:=h2;have h3:(if f1=f then v' else e.E f1).ownBlock=some k:=h3;have h4:(if f2=f then v' else e.E f2).ownBlock=some k:=h4;rw [aI] at h1 h2;have ln: ∀g og,ar st.az g=some og->(e.E g).ownBlock=some k->k<w.heap.size:=by
   intro g og hg hk;obtain ⟨I2,nS,_,_,g3,_⟩:=(h.dV g og hg).row;rcases g3.2 with ⟨g5,_⟩|⟨b,cap,bU,g5,_,g6,_⟩
   ·rw [g5] at hk;simp [aac] at hk
   ·rw [g5] at hk;simp only [aac,By] at hk;subst hk;exact aC g6
  by_cases EF:f1=f
  ·by_cases uI:f2=f
   ·rw [EF,uI]
   ·rw [if_pos EF] at h3;rw [if_neg uI] at h4;simp only [uI,if_false] at h2;rcases iy k h3 with h5|⟨o,h5,h6⟩
    ·have:=ln f2 o2 h2 h4;omega
    ·exact EF.trans (h.ff f f2 o o2 k h5 h2 h6 h4)
  ·rw [if_neg EF] at h3;simp only [EF,if_false] at h1;by_cases uI:f2=f
   ·rw [if_pos uI] at h4;rcases iy k h4 with h5|⟨o,h5,h6⟩
    ·have:=ln f1 o1 h1 h3;omega
    ·exact (h.ff f1 f o1 o k h1 h5 h3 h6).trans uI.symm
   ·rw [if_neg uI] at h4;simp only [uI,if_false] at h2;exact h.ff f1 f2 o1 o2 k h1 h2 h3 h4
theorem jk {f:Nat}{fo:jb}(hK:dW st f fo K=some r):K (st.nU f fo)=some r:=by
 unfold Dn.dW at hK;cases hn:aP st.bF f with
 |true=>simp [hn] at hK
 |false=>simpa [hn,PQ,jy,St.nU] using hK
theorem bg.Wr {f:Nat}{fo:jb}(h:bg c Z e st a w)(hK:Dn.dW st f fo K=some r):f∉Z.bF:=by intro hm;rw [<-h.defers.2.2.1,<-aN] at hm;simp [Dn.dW,hm] at hK
theorem kN {f:Nat}{fo:jb}{v:Value}(h1:v.oneCell'=true):aa (e.nU f v fo) v (.sc (.own f)):=by simp only [aa];exact ⟨v,rfl,h1,λo ho=>by simp [Env.nU]⟩
end
end Dn
/-
  What is appended. Conditions: none.
-/
namespace Dn
open Go
section
variable {P:Program}{c:Ctx}{Z:aO} {e e':Env}{st:St}{a:Act} {w w':World}{R:Type}{K:St->Option R}{r:R}{Q:Exit->Act->World->Prop}{o:Oper}
theorem eF {t:TypeId}{I:TI}(hr:ji c.ti P t I)(hc:I.bB=[]): ∃i z,P.info? t=some i/\i.size=I.size/\i.bytes=I.bytes/\i.zero=some z/\z.cells.size=I.size:=by
 obtain ⟨d,i,h1,h2,h3,h4⟩:=hr;obtain ⟨h5,h6⟩:=h3 hc;cases d<;>simp only [kM] at h4;case struct fs=>obtain ⟨_,_,_,_,_,_,cs,hz,_,hs⟩:=h4;exact ⟨i,_,h2,h5,h6,hz,by simpa [aaf] using hs⟩
 case tuple ts=>exact absurd hc h4.2.1
 case slice el=>obtain ⟨_,_,hs,_,_,hz,_⟩:=h4;exact ⟨i,_,h2,h5,h6,hz,by rw [hs];rfl⟩
 case array n el=>obtain ⟨_,_,hs,_,k,m,hm,_,_,_,hz⟩:=h4;exact ⟨i,_,h2,h5,h6,hz,by rw [hs,hm];simp [aaf,bC]⟩
 case bool=>obtain ⟨_,_,hs,_,_,hz⟩:=h4;exact ⟨i,_,h2,h5,h6,hz,by rw [hs];rfl⟩
 case int k=>obtain ⟨_,_,hs,_,_,hz⟩:=h4;exact ⟨i,_,h2,h5,h6,hz,by rw [hs];rfl⟩
 case string=>obtain ⟨_,_,hs,_,_,b,hz,_⟩:=h4;exact ⟨i,_,h2,h5,h6,hz,by rw [hs];rfl⟩
 all_goals
  obtain ⟨_,_,hs,_,v,hz,hv,_⟩:=h4;refine ⟨i,v,h2,h5,h6,hz,?_⟩;rw [hs];cases v<;>simp_all [aaf,aab]
structure Src (e:Env) (w:World) (size:Nat) (v:Value) (ys:List MV) (news:List Value):Prop where
 Ws:aB e.key e.φ size news ys
 val: ∃ad cap,v= .slice ad ys.length cap/\(ad=none->ys=[])/\ ∀x,ad=some x-> ∀(j:Nat) (u:Value),news[j]? =some u->w.cell? (x.add j)=some u
theorem aB.rO {key:Nat->Nat} {φ:Ph}{size:Nat}{xs:List MV}: ∀{cs:List Value},aB key φ size cs xs-> ∀u∈cs,u.oneCell'=true:=by
 induction xs with
 |nil=>intro cs h;cases h;simp
 |cons x xs ih=>
  intro cs h u hu;obtain ⟨v,q,rfl,_,h2,h3⟩:=h;rcases ab5.1 hu with hu|hu
  ·exact h2.cells u hu
  ·exact ih h3 u hu
theorem aB.append {key:Nat->Nat} {φ:Ph}{size:Nat}{xs ys:List MV}: ∀{cs ds:List Value},aB key φ size cs xs->aB key φ size ds ys->aB key φ size (cs++ds) (xs++ys):=by
 induction xs with
 |nil=>intro cs ds h h';cases h;simpa using h'
 |cons x xs ih=>intro cs ds h h';obtain ⟨v,q,rfl,h1,h2,h3⟩:=h;exact ⟨v,q++ds,by simp,h1,h2,ih h3 h'⟩
theorem AM {key:Nat->Nat} {φ:Ph}{size:Nat}{xs:List MV}: ∀{f:Nat->List Value},(∀i,i<xs.length->(f i).length=size)->(∀(i:Nat) (h:i<xs.length),dI key φ (f i) xs[i])-> ∃cs,aB key φ size cs xs/\ ∀(i j:Nat),i<xs.length->j<size->cs[i *size+j]? =(f i)[j]? :=by
 induction xs with
 |nil=>intro f _ _;exact ⟨[],rfl,λi j hi=>by simp at hi⟩
 |cons x xs ih=>
  intro f h1 h2;obtain ⟨cs,h3,h4⟩:=ih (f:=λi=>f (i+1)) (λi hi=>h1 (i+1) (by simpa using hi)) (λi hi=>h2 (i+1) (by simpa using hi));have hl:=h1 0 (by simp);refine ⟨f 0++cs,⟨f 0,cs,rfl,hl,h2 0 (by simp),h3⟩,?_⟩;intro i j hi hj;cases i with
  |zero=>rw [acP,aah,aaa (by omega)]
  |succ i=>rw [aaw,No (by omega),show i *size+size+j-(f 0).length=i *size+j by omega];exact h4 i j (by simpa using hi) hj
theorem yD {I E:TI}{x:Slot}{v:Value} {K':List MV->Option R}(h:bg c Z e st a w)(hE:c.ti I.elem=some E)(cU:0<E.size)(hx:aa e v x)(hK:FZ I E st x K'=some r): ∃ys news,Src e w E.size v ys news/\K' ys=some r:=by
 unfold FZ at hK;split at hK
 ·rename_i xs;obtain ⟨hw,hK⟩:=cj hK;simp only [aa,aw] at hx;obtain ⟨_,hx⟩:=hx;generalize hv:[v]=vs at hx;cases hx with
  |list ad cap _ aA off xt f g1 g2 g3 g4 g5=>
  simp at hv;have T6: ∀i,i<xs.length->(f i).length=E.size:=by intro i hi;rw [(g5 i hi).width];exact vW hw _ (ada hi)
  obtain ⟨cs,h1,h2⟩:=AM T6 g5;refine ⟨xs,cs,⟨h1,ad,cap,hv,?_,?_⟩,hK⟩
  ·intro hn;cases xs with
   |nil=>rfl
   |cons y ys=>have:=g2 (by simp);rw [hn] at this;cases this
  ·intro x hx j u hj;have DG:j<cs.length:=(AT.1 hj).1;rw [h1.length] at DG;have AN:0<xs.length:=by
    cases xs with
    |nil=>simp at DG
    |cons y ys=>simp
   have Gi:=g2 AN;rw [hx] at Gi;cases Gi;have hq:j/E.size<xs.length:=(Nat.div_lt_iff_lt_mul cU).2 DG;have hm:=Nat.mod_lt j cU;have JT:j=j/E.size *E.size+j%E.size:=by rw [Nat.mul_comm];exact (Nat.div_add_mod j E.size).symm
   have e1:=h2 (j/E.size) (j%E.size) hq hm;rw [<-JT,hj] at e1;have Qg:xt=E.size:=by rw [<-g3 0 AN,T6 0 AN]
   have e2:=g4 (j/E.size) (j%E.size) hq (by rw [Qg];exact hm);rw [<-e1,Qg,abe,<-JT] at e2;have:=h.fB _ _ _ e2;rw [aas];exact this
 ·simp only [aa] at hx;have hx:[v]=[aap none 0 0]:=hx;simp at hx;exact ⟨[],[],⟨rfl,none,0,hx,λ_=>rfl,by simp⟩,hK⟩
 ·rename_i f;cases hf:ar st.az f with
  |none=>simp [hf] at hK
  |some fo=>
   simp only [hf] at hK;cases hb:aQ fo.ty I.elem with
   |false=>simp [hb] at hK
   |true=>
    simp only [hb,cond_true] at hK;have dU:=sh hb;obtain ⟨hv,_⟩:=lB h hx hf;obtain ⟨J,cells,hJ,_,cb,dL,_⟩:=(h.dV f fo hf).row;rw [dU,hE] at hJ;cases hJ;refine ⟨fo.xs,cells,⟨dL,?_⟩,hK⟩;rcases cb.2 with ⟨h1,h2⟩|⟨g,cap,bU,h1,_⟩
    ·exact ⟨none,0,by rw [hv,h1,h2],λ_=>BY h2,by simp⟩
    ·refine ⟨some ⟨g,0,none⟩,cap,by rw [hv,h1],by simp,?_⟩;intro x hx j u hj;cases hx;exact cb.cells (g:=g) (by rw [h1];rfl) j u hj
 ·simp at hK
end
end Dn
/-
  Appends. Conditions: none.
-/
namespace Dn
open Go
section
variable {P:Program}{c:Ctx}{Z:aO} {e e':Env}{st:St}{a:Act} {w w':World}{R:Type}{K:St->Option R}{r:R}{Q:Exit->Act->World->Prop}{o:Oper}
structure aaV (w w':World) (el:TypeId) (size:Nat) (v v':Value) (n m:Nat) (cells news:List Value):Prop where
 own:w'.ownsRow 0 el size v' (n+m) (cells++news)
 size:w.heap.size<=w'.heap.size
 ln: ∀k,k<w.heap.size->some k≠v.ownBlock->w'.heap[k]? =w.heap[k]?
 cell: ∀(k off:Nat) (u:Value),v.ownBlock=some k->off<cells.length->w.cell? ⟨k,off,none⟩=some u->w'.cell? ⟨k,off,none⟩=some u
 place:v'.ownBlock=v.ownBlock\/v'.ownBlock=some w.heap.size
 rest:Rest w w'
structure Wt (P:Program) (w:World) (u el:TypeId) (size:Nat) (x:Value) (m:Nat) (news:List Value):Prop where
 ty:P.underlying u=some (.slice el)\/P.underlying u=some .string
 len:Builtin.lenOf x=pure m
 now:(aaE size m x).run P w= .ok news.toArray w
 drew:(aaE size m x).run P w.drew= .ok news.toArray w.drew
 one: ∀y∈news,y.oneCell'=true
 nl:news.length=m *size
theorem Src.apx {ys:List MV}{news:List Value}{x:Value}{u el:TypeId}{size:Nat}(hu:P.underlying u=some (.slice el))(h:Src e w size x ys news):Wt P w u el size x ys.length news:=by
 obtain ⟨ad,cap,hx,yE,Wu⟩:=h.val;have xM:=h.Ws.length;subst hx;cases ad with
 |none=>have hys:=yE rfl;subst hys;have:news=[]:=BY (by simpa using xM);subst this;exact ⟨.inl hu,rfl,run_firstCells_none w _ _ _ _,run_firstCells_none w.drew _ _ _ _,h.Ws.rO,xM⟩
 |some ad=>exact ⟨.inl hu,rfl,run_firstCells_some w _ _ _ _ _ _ xM (Wu ad rfl),run_firstCells_some w.drew _ _ _ _ _ _ xM (by simpa using Wu ad rfl),h.Ws.rO,xM⟩
theorem Wt.str {u el:TypeId}(hu:P.underlying u=some .string)(b:ByteArray):Wt P w u el 1 (.string b) b.size (b.data.toList.map λx=> .int .u8 (x.toNat:Int)):=by
 have hf: ∀w',(aaE 1 b.size (.string b)).run P w'= .ok (b.data.toList.map λx=>adM .u8 (x.toNat:Int)).toArray w':=by
  intro w';have he:b.extract 0 b.size=b:=by apply ByteArray.ext;rw [abZ];exact Array.extract_eq_self_of_le (aai _)
  simp only [aaE,he,Sem.run_pure];congr 1;apply Array.ext';simp
 exact ⟨.inr hu,rfl,hf w,hf w.drew,by simp [aab],by simp⟩
section
variable {t u ty el:TypeId}{i:TypeInfo}{z x:Value}{m:Nat}{news:List Value}(ht:P.underlying t=some (.slice el))(hi:P.info? el=some i)(hz:i.zero=some z)(hx:Wt P w u el i.size x m news)
include ht hi hx
theorem T9 (h0:m=0):(aad #[t,u] ty #[.slice none 0 0,x]).run P w= .ok (.slice none 0 0) w:=by subst h0;have hn:=hx.now;have hl:=hx.len;rcases hx.ty with hu|hu<;>simp [aad,run_underlying ht,run_underlying hu,aal,typeInfo,hi,hl,hn]
theorem Ua {g ka ra:Nat}{bU:Array Value}(hg:w.heap[g]? =some (.cells bU el (0,0)))(nm:ka+m<=ra)(q0:ka *i.size+news.length<=bU.size): (aad #[t,u] ty #[.slice (some ⟨g,0,none⟩) ka ra,x]).run P w= .ok (.slice (some ⟨g,0,none⟩) (ka+m) ra) (w.setRow g (bU.toList.take (ka *i.size)++news++bU.toList.drop (ka *i.size+news.length)).toArray):=by have cu:=run_storeCells_at P g (ka *i.size) el news 0 bU w hg (by simpa using q0) hx.one;simp only [aaP] at cu;have hn:=hx.now;have hl:=hx.len;rcases hx.ty with hu|hu<;>simp [aad,run_underlying ht,run_underlying hu,aal,typeInfo,hi,hl,nm,hn,Addr.add_lit,cu]
include hz
theorem Qh (h0:0<m)(h63:(m:Int)<=9223372036854775807)(Qi:m *i.bytes<=281474976710656): (aad #[t,u] ty #[.slice none 0 0,x]).run P w= .ok (.slice (some ⟨w.heap.size,0,none⟩) m (grownCap w m 0 el)) (w.drew.alloc (.cells (news.toArray++aa0 z.cells (grownCap w m 0 el-m)) el)):=by
 have cg:m≠0:=by omega
 have X0: ¬(9223372036854775807<(m:Int)):=by omega
 have X1: ¬(281474976710656<abh m 0 *i.bytes):=by rw [nextslicecap_zero h0];omega
 have hn:=hx.drew;have hl:=hx.len;rcases hx.ty with hu|hu<;>simp [aad,run_underlying ht,run_underlying hu,aal,typeInfo,zeroValue,hi,hz,hl,cg,X0,X1,Question.forced,run_firstCells_none,hn,newRow,grownCap]
theorem LW {b:Addr}{ka ra:Nat}{Ub:List Value}(ZW:Ub.length=ka *i.size)(holds: ∀j v,Ub[j]? =some v->w.cell? (b.add j)=some v)(hg:ra<ka+m)(h63:((ka+m:Nat):Int)<=9223372036854775807)(q0:abh (ka+m) ra *i.bytes<=281474976710656): (aad #[t,u] ty #[.slice (some b) ka ra,x]).run P w= .ok (.slice (some ⟨w.heap.size,0,none⟩) (ka+m) (grownCap w (ka+m) ra el)) (w.drew.alloc (.cells (Ub.toArray++news.toArray++aa0 z.cells (grownCap w (ka+m) ra el-(ka+m))) el)):=by
 have cg: ¬(ka+m<=ra):=by omega
 have X0: ¬(9223372036854775807<((ka:Int)+(m:Int))):=by omega
 have X1: ¬(281474976710656<abh (ka+m) ra *i.bytes):=by omega
 have hfo:=run_firstCells_some (P:=P) w.drew i.size ka b ka ra Ub ZW (by simpa using holds);have hn:=hx.drew;have hl:=hx.len;rcases hx.ty with hu|hu<;>(simp [aad,run_underlying ht,run_underlying hu,aal,typeInfo,zeroValue,hi,hz,hl,cg,X0,X1,Question.forced,hn,hfo,newRow,grownCap];congr 2;apply Array.ext';simp [AI])
end
theorem vf {t u ty:TypeId}{I E:TI}{v x:Value}{n m:Nat}{cells news:List Value}(hu:P.underlying t=some (.slice I.elem))(hE:c.ti I.elem=some E)(iT:E.bB=[])(cU:0<E.size)(hT:dt P c.ti)(np:1<=E.bytes)(cb:w.ownsRow 0 I.elem E.size v n cells)(hx:Wt P w u I.elem E.size x m news)(fa:(n+m) *E.bytes<=2^46): ∃v' w',(aad #[t,u] ty #[v,x]).run P w= .ok v' w'/\aaV w w' I.elem E.size v v' n m cells news:=by
 obtain ⟨i,z,hi,hs,Pc,hz,Ds⟩:=eF (hT _ E hE) iT;rw [<-hs] at hx cb Ds cU⊢;rw [<-Pc] at fa np;have hle:n+m<=2^46:=abW (abU _ np) fa;have hml:n+m<=adb:=by unfold adb;omega
 have xM:=hx.nl;have hlen:(cells++news).length=(n+m) *i.size:=by rw [IN,cb.1,xM,abg]
 have grown: ∀(ln:Nat),ln<n+m-> (w.drew.alloc (.cells (cells.toArray++news.toArray++aa0 z.cells (grownCap w (n+m) ln I.elem-(n+m))) I.elem)).ownsRow 0 I.elem i.size (.slice (some ⟨w.heap.size,0,none⟩) (n+m) (grownCap w (n+m) ln I.elem)) (n+m) (cells++news):=by
  intro ln ho;refine ⟨hlen,.inr ⟨w.heap.size,_,_,rfl,adC _,dm w.drew _,grownCap_ge w (n+m) ln I.elem,grownCap_le_maxLen w (n+m) ln I.elem hml,?_,?_⟩⟩
  ·have Nw:=grownCap_ge w (n+m) ln I.elem;simp only [ac6,aaW,size_zeroCells,Ds,cb.1,xM,<-abg];congr 1;omega
  ·simp only [acA,AI];rw [<-AI,<-hlen];exact abw
 have rest: ∀cs:Array Value,Rest w (w.drew.alloc (.cells cs I.elem)):=λcs=>⟨rfl,rfl,rfl⟩
 rcases cb.2 with ⟨rfl,rfl⟩|⟨g,cap,bU,rfl,_,hg,HZ,vL,mU,Ey⟩
 ·have hcn:cells=[]:=BY (by simpa using cb.1);subst hcn;by_cases hm:m=0
  ·have hnn:news=[]:=BY (by rw [xM,hm,acP]);subst hnn;refine ⟨_,_,T9 hu hi hx hm,⟨?_,aai _,λ_ _ _=>rfl,(λ_ _ _ hk=>by cases hk),.inl rfl,.refl _⟩⟩;rw [hm];exact World.ownsRow_nil w 0 I.elem i.size
  ·simp only [aah] at fa hle hml;have hr:=Qh (ty:=ty) hu hi hz hx (by omega) (by omega) (by omega);have JW:=grown 0 (by omega);simp only [aah,ab9,Array.empty_append] at JW⊢;exact ⟨_,_,hr,⟨by simpa using JW,by simp,λk hk _=>iR w.drew _ k hk,(λ_ _ _ hk=>by cases hk),.inr rfl,rest _⟩⟩
 ·by_cases nm:n+m<=cap
  ·have q0:n *i.size+news.length<=bU.size:=by rw [xM,mU,<-abg];exact aaj _ nm
   have hr:=Ua (ty:=ty) hu hi hx hg nm q0;have aaX:=setRow_heap w g bU (bU.toList.take (n *i.size)++news++bU.toList.drop (n *i.size+news.length)).toArray I.elem _ hg;refine ⟨_,_,hr,⟨⟨hlen,.inr ⟨g,cap,_,rfl,adC _,aaX,nm,vL,?_,?_⟩⟩,by simp,λk _ hk=>setRow_other w g k _ (λhe=>hk (by simp [aac,he])),?_,.inl rfl,Rest.setRow w g _⟩⟩
   ·simp only [aaW,IN,abc,abL,aao];omega
   ·rw [Ey,<-hlen];exact abw
   ·intro k off y hk rN hc;have hkg:k=g:=by simp [aac] at hk;exact hk.symm
    subst hkg;rw [cell_of hg] at hc;rw [cell_of aaX];have aaY:off<(bU.toList.take (n *i.size)).length:=by rw [Ey];exact rN
    rw [List.getElem?_toArray,AI,aaa aaY,aat];have:off<n *i.size:=by rw [<-cb.1];exact rN
    rw [if_pos this];simpa using hc
  ·have holds: ∀j y,cells[j]? =some y->w.cell? ((⟨g,0,none⟩:Addr).add j)=some y:=cb.cells (g:=g) rfl;have hr:=LW (ty:=ty) (ra:=cap) hu hi hz hx cb.1 holds (by omega) (by omega) (growslice_fits (by omega) (by omega));refine ⟨_,_,hr,⟨grown cap (by omega),by simp,λk hk _=>iR w.drew _ k hk,?_,.inr rfl,rest _⟩⟩;intro k off y hk rN hc;have hkg:k=g:=by simp [aac] at hk;exact hk.symm
   subst hkg;rw [aav (iR w.drew _ k (aC hg))];exact hc
theorem H0 {t u ty:TypeId}{I E:TI}{ad:Option Addr}{x:Value}{n m:Nat}{cells news:List Value}(hu:P.underlying t=some (.slice I.elem))(hE:c.ti I.elem=some E)(iT:E.bB=[])(hT:dt P c.ti)(np:1<=E.bytes)(iG:cells.length=n *E.size)(Qj:ad=none->n=0)(aX: ∀y,ad=some y-> ∀(j:Nat)(v:Value),cells[j]? =some v->w.cell? (y.add j)=some v)(hx:Wt P w u I.elem E.size x m news)(hm:0<m)(fa:(n+m) *E.bytes<=2^46): ∃v' w',(aad #[t,u] ty #[.slice ad n n,x]).run P w= .ok v' w'/\w'.ownsRow 0 I.elem E.size v' (n+m) (cells++news)/\v'.ownBlock=some w.heap.size/\bX w w':=by
 obtain ⟨i,z,hi,hs,Pc,hz,Ds⟩:=eF (hT _ E hE) iT;rw [<-hs] at hx iG Ds⊢;rw [<-Pc] at fa np;have hle:n+m<=2^46:=abW (abU _ np) fa;have hml:n+m<=adb:=by unfold adb;omega
 have xM:=hx.nl;have hlen:(cells++news).length=(n+m) *i.size:=by rw [IN,iG,xM,abg]
 have grown: ∀(ln:Nat),ln<n+m-> (w.drew.alloc (.cells (cells.toArray++news.toArray++aa0 z.cells (grownCap w (n+m) ln I.elem-(n+m))) I.elem)).ownsRow 0 I.elem i.size (.slice (some ⟨w.heap.size,0,none⟩) (n+m) (grownCap w (n+m) ln I.elem)) (n+m) (cells++news):=by
  intro ln ho;refine ⟨hlen,.inr ⟨w.heap.size,_,_,rfl,adC _,dm w.drew _,grownCap_ge w (n+m) ln I.elem,grownCap_le_maxLen w (n+m) ln I.elem hml,?_,?_⟩⟩
  ·have Nw:=grownCap_ge w (n+m) ln I.elem;simp only [ac6,aaW,size_zeroCells,Ds,iG,xM,<-abg];congr 1;omega
  ·simp only [acA,AI];rw [<-AI,<-hlen];exact abw
 have rest: ∀cs:Array Value,Rest w (w.drew.alloc (.cells cs I.elem)):=λcs=>⟨rfl,rfl,rfl⟩
 have JW: ∀cs:Array Value,bX w (w.drew.alloc (.cells cs I.elem)):=λcs=>⟨by simp,λk hk=>iR w.drew _ k hk,rest cs⟩
 cases ad with
 |none=>have hn:=Qj rfl;subst hn;have hcn:cells=[]:=BY (by simpa using iG);subst hcn;simp only [aah] at fa hle hml;have hr:=Qh (ty:=ty) hu hi hz hx (by omega) (by omega) (by omega);have LX:=grown 0 (by omega);simp only [aah,ab9,Array.empty_append] at LX⊢;exact ⟨_,_,hr,by simpa using LX,rfl,JW _⟩
 |some b=>have hr:=LW (ty:=ty) (ra:=n) hu hi hz hx iG (λj v hj=>aX b rfl j v hj) (by omega) (by omega) (growslice_fits (by omega) (by omega));exact ⟨_,_,hr,grown n (by omega),rfl,JW _⟩
end
end Dn
