import GoSem.Dispatch
import Derived.Orders
import Derived.KernelRfl
import Derived.Calls
import Derived.Laws.AppendOwn
import Derived.Laws.AppendOwnNone
import Derived.Deep.MidRow
import Derived.Laws.Strings
import Derived.Laws.Tables
import Derived.Great.FillDense
import Derived.Maps.AppendAt
import Derived.Great.BuildSlice
/- What Go functions come to, on plain values. Conditions: none. -/
open Nat renaming beq→bD,eq_of_beq_eq_true→sh,le_refl→ac4,ble→aec,mul_le_mul_right→aft,le_of_ble_eq_true→afy,le_mul_of_pos_right→afG,le_trans→afI,add_assoc→agu,zero_add→agK,add_mul→ag7,ble_eq_true_of_le→akp,zero_le→akv,lt_of_lt_of_le→akA,add_zero→akC,succ_mul→akD
open Go.Value renaming ownBlock→AI,oneCell'→By,cells→IT,slice→aeY,int→akG
open Option.some renaming injEq→AS
open Bool renaming and_eq_true→AT,or_eq_false_iff→ad1,not_eq_false'→afE,false_eq_true→akB,not_false→akW,not_true→ak2
open List renaming getElem?_eq_getElem→BY,append_assoc→IN,length_append→No,getElem?_map→afu,map_cons→afw,mem_cons→afx,eq_nil_of_length_eq_zero→afB,getElem?_append_right→afD,length_eq_one_iff→afJ,take_of_length_le→afL,take_append→af2,getElem?_eq_some_iff→agN,getElem?_append_left→agO,extract_eq_take_drop→agV,drop_append→ahB,drop_of_length_le→aie,mem_append→ait,take_left'→ako,mem_iff_getElem→akr,drop_left→aks,take_left→akt,size_toArray→akF,nodup_cons→akK,replicate→akO,drop_take→ak0,mem_map→ak3
open Go.Builtin renaming append_→OF,firstCells→afF,zeroCells→afN,nextslicecap→agx
open Go.World renaming block_lt_of_cell?→ab2,cell?_of_block→afz
open Go.Instr renaming sliceBounds→ad5,sureAddr→afK,sliceBound→afT,loadAt→agG,fill→agM,storeAt→ahs,indexAt→aky,sliceAt→akz,slice→akJ
open Go renaming sizeOf→afv,maxLen→akx,part→akM
open Array renaming toList_inj→afA,toList_extract→aku,toArray_toList→akw,size_append→akE,toList_map→akH
open Go.Addr renaming add_mid→afC
open BitVec renaming ofInt→afH
open False renaming elim→ags
open Go.Op renaming bytesLess→ahE,intArith→akq,equal→akT
open Go.Sem renaming run_bind→ahF,run→alu
open ByteArray renaming data_extract→ahQ
open Go.Oper renaming upon_value→ajW,wp→akL
open List.cons renaming injEq→akn
open Go.Deferred renaming ofValue→akI
open UInt8 renaming ofNat→alj
open Go.Utf8 renaming decode→alm
set_option linter.all false
namespace Dn
open Go
noncomputable section
section
theorem aab{p:Prop}(h:p:=by omega):p:=h
theorem abq{p:Prop}(h:p:=by decide):p:=h
theorem abs{p:Prop}(h:p:=by kernel_rfl):p:=h
theorem abu{p:Prop}(h:p:=by simp):p:=h
open Go
abbrev afO:=List Int
abbrev zA (n:Nat):List Int:=akO (n+2) 0
inductive MV where
 |b (x:Bool)
 |i (k:IntKind) (n:Int)
 |s (l:List UInt8)
 |h (k:IntKind) (n:Nat) (x:List Int)
 |raw (v:Value)
 |list (xs:List MV)
 |agg (cs:List MV)
 |cw (vs:List MV)
 |func (f:Nat) (cap:List MV)
 |rp (cs:List MV)
 |fresh (xs:List MV)
 |cell (m:MV)
 |eH (r:MV) (outs:List MV)
 |clip (xs:List MV)
instance:Inhabited MV:=⟨.b false⟩
mutual
def MV.w:MV->Nat
 | .h _ n _=>n+2
 | .agg cs=>MV.wl cs
 |_=>1
def MV.wl:List MV->Nat
 |[]=>0
 |m::r=>m.w+MV.wl r
end
def oL (n:Nat)(l:List MV):Bool:=l.all λm=>bD m.w n
inductive Kd where
 |b|i (k:IntKind)|s|l|h (k:IntKind) (n:Nat)|raw
structure MS where
 st:Bool
 lay:List Kd
 b:Bool
def MS.it:MS:=⟨true,[],true⟩
def acU (s:MS):Bool:=match s.lay with
 |[]=>s.st
 |_=>false
inductive aF where
 |un
 |p (m:MV)
 |hs (k:IntKind) (n:Nat) (x:List Int)
 |nil
 |own (jC:Nat)
 |mp (s:MS) (es:List MV)
def aF.w:aF->Nat
 | .hs _ n _=>n+2
 |_=>1
inductive Slot where
 |skip
 |sc (l:aF)
 |ag (cs:List aF)
 |tg (cs:List aF)
 |cw (vs:List Slot)
 |box (cs:List aF)
 |MM (cs:List aF)
 |ptr (root off:Nat)
 |Cl (root:Nat)
 |rp (cs:List aF) (off:Nat)
 |hp (root off n:Nat) (i:Nat)
 |ep (jC:Nat) (i:Nat) (off:Nat) (st:Bool) (cs:List aF)
abbrev Fr:=List (Nat×Slot)
structure TI where
 st:Bool
 size:Nat
 bytes:Nat
 lay:List Kd
 zero:List aF
 xx:List Nat
 acV:List Nat
 elem:Nat
 cy:List Nat
section
variable {R:Type}
def gB (m:MV)(K:Bool->Option R):Option R:=match m with| .b x=>K x|_=>none
def gI (k:IntKind)(m:MV)(K:Int->Option R):Option R:=match m with| .i k' n=>bif decide (k'=k) then K n else none|_=>none
def gS (m:MV)(K:List UInt8->Option R):Option R:=match m with| .s l=>K l|_=>none
def gL (m:MV)(K:List MV->Option R):Option R:=match m with| .list l=>K l|_=>none
def gH (k:IntKind)(n:Nat)(m:MV)(K:List Int->Option R):Option R:=match m with| .h k' n' l=>bif decide (k'=k)&&bD n' n then K l else none|_=>none
def gA (m:MV)(K:List MV->Option R):Option R:=match m with| .agg l=>K l|_=>none
def gT (m:MV)(K:List MV->Option R):Option R:=match m with| .cw l=>K l|_=>none
def gF (m:MV)(K:List MV->Option R):Option R:=match m with| .fresh l=>K l|_=>none
def gCl (m:MV)(K:List MV->Option R):Option R:=match m with| .clip l=>K l|_=>none
def YQ (m:MV)(K:Nat->List MV->Option R):Option R:=match m with| .func f c=>K f c|_=>none
def gW (m:MV)(K:MV->List MV->Option R):Option R:=match m with| .eH r outs=>K r outs|_=>none
def gP (m:MV)(K:List MV->Option R):Option R:=match m with| .rp c=>K c|_=>none
def gR (m:MV)(K:MV->Option R):Option R:=match m with| .raw v=>K (.raw v)| .func f c=>K (.func f c)| .rp c=>K (.rp c)|_=>none
def gC (l:List MV)(K:MV->List MV->Option R):Option R:=match l with|m::r=>K m r|[]=>none
def gN (l:List MV)(K:Option R):Option R:=match l with|[]=>K|_=>none
def bd {α:Type}(x:Option α)(K:α->Option R):Option R:=match x with|some a=>K a|none=>none
def apo (l:List MV)(i:Int):Option MV:=if 0<=i then l[i.toNat]? else none
def idx (l:List MV)(i:Int)(K:MV->Option R):Option R:=match apo l i with|some x=>K x|none=>none
def bS (c:Bool)(K:Option R):Option R:=match c with|true=>K|false=>none
def eC (c:Bool)(x y:Option R):Option R:=match c with|true=>x|false=>y
def Qr:List Nat->Nat->(Nat->Option R)->Option R
 |[],_,_=>none
 |[p],e,K=>bif bD e p then K p else none
 |p::q::r,e,K=>bif bD e p then K p else Qr (q::r) e K
def oz {β:Type}{c:Bool}{k:Option β}{r:β}(h:(bif c then none else k)=some r):c=false/\k=some r:=by cases c<;>simp_all
def ob {β:Type}{c:Bool}{k:Option β}{r:β}(h:(bif c then k else none)=some r):c=true/\k=some r:=by cases c<;>simp_all
def kw (k:Kd)(m:MV)(K:aF->Option R):Option R:=match k with
 | .b=>gB m λx=>K (.p (.b x))
 | .i k=>gI k m λx=>K (.p (.i k x))
 | .s=>gS m λx=>K (.p (.s x))
 | .l=>gL m λx=>K (.p (.list x))
 | .h k n=>gH k n m λx=>K (.hs k n x)
 | .raw=>gR m λm=>K (.p m)
def xH:List Kd->List MV->(List aF->Option R)->Option R
 |[],l,K=>gN l (K [])
 |k::ks,l,K=>gC l λm r=>kw k m λx=>xH ks r λxs=>K (x::xs)
end
def iter {σ R:Type}(body:σ->Option (Sum σ R)):Nat->σ->Option R
 |0,_=>none
 |n+1,s=>match body s with
  |some (.inl s')=>iter body n s'
  |some (.inr r)=>some r
  |none=>none
open Classical in
def oT {σ R:Type}(k:Nat)(body:σ->Option (Sum σ R))(s:σ):Option R:=match iter body k s with
 |some r=>some r
 |none=>if h: ∃r n,iter body n s=some r then some (Classical.choose h) else none
def Loop {σ R:Type}(body:σ->Option (Sum σ R))(s:σ):Option R:=oT 0 body s
mutual
def MV.same:MV->MV->Bool
 | .b x,.b y=>x==y
 | .i k n,.i k' n'=>decide (k=k')&&decide (n=n')
 | .s l,.s l'=>decide (l=l')
 | .h k n x,.h k' n' y=>decide (k=k')&&(bD n n'&&decide (x=y))
 | .list xs,.list ys=>MV.BK xs ys
 | .agg xs,.agg ys=>MV.BK xs ys
 | .cw xs,.cw ys=>MV.BK xs ys
 | .func f xs,.func g ys=>bD f g&&MV.BK xs ys
 | .rp xs,.rp ys=>MV.BK xs ys
 | .fresh xs,.fresh ys=>MV.BK xs ys
 | .cell x,.cell y=>MV.same x y
 | .eH x xs,.eH y ys=>MV.same x y&&MV.BK xs ys
 | .clip xs,.clip ys=>MV.BK xs ys
 |_,_=>false
def MV.BK:List MV->List MV->Bool
 |[],[]=>true
 |x::xs,y::ys=>MV.same x y&&MV.BK xs ys
 |_,_=>false
end
class Fg (R:Type) where
 eq:R->R->Bool
 ok: ∀{a b:R},eq a b=true->a=b
mutual
def MV.L9: ∀{a b:MV},MV.same a b=true->a=b
 | .b _,.b _,e=>by simp_all [MV.same,beq_iff_eq]
 | .i _ _,.i _ _,e=>by simp_all [MV.same,AT,decide_eq_true_eq]
 | .s _,.s _,e=>by simp_all [MV.same,decide_eq_true_eq]
 | .h _ _ _,.h _ _ _,e=>by simp_all [MV.same,AT,decide_eq_true_eq,sh]
 | .list _,.list _,e=>by simp only [MV.same] at e;rw [MV.oU e]
 | .agg _,.agg _,e=>by simp only [MV.same] at e;rw [MV.oU e]
 | .cw _,.cw _,e=>by simp only [MV.same] at e;rw [MV.oU e]
 | .func _ _,.func _ _,e=>by simp only [MV.same,AT] at e;rw [sh e.1,MV.oU e.2]
 | .rp _,.rp _,e=>by simp only [MV.same] at e;rw [MV.oU e]
 | .fresh _,.fresh _,e=>by simp only [MV.same] at e;rw [MV.oU e]
 | .cell _,.cell _,e=>by simp only [MV.same] at e;rw [MV.L9 e]
 | .eH _ _,.eH _ _,e=>by simp only [MV.same,AT] at e;rw [MV.L9 e.1,MV.oU e.2]
 | .clip _,.clip _,e=>by simp only [MV.same] at e;rw [MV.oU e]
def MV.oU: ∀{a b:List MV},MV.BK a b=true->a=b
 |[],[],_=>rfl
 |_::_,_::_,e=>by simp only [MV.BK,AT] at e;rw [MV.L9 e.1,MV.oU e.2]
end
instance:Fg MV:=⟨MV.same,MV.L9⟩
instance:Fg (List MV):=⟨MV.BK,MV.oU⟩
instance:Fg Nat:=⟨bD,sh⟩
instance:Fg Unit:=⟨λ_ _=>true,λ_=>rfl⟩
instance {A B:Type} [Fg A] [Fg B]:Fg (A×B):=⟨λx y=>Fg.eq x.1 y.1&&Fg.eq x.2 y.2,λ{a b} h=>by simp only [AT] at h;grind [Prod.ext,Fg.ok]⟩
instance {A B:Type} [Fg A] [Fg B]:Fg (Sum A B):=⟨λx y=>match x,y with| .inl a,.inl b=>Fg.eq a b| .inr a,.inr b=>Fg.eq a b|_,_=>false,(by grind [Fg.ok])⟩
def afP {R:Type}[Fg R]:Option R->Option R->Bool
 |some a,some b=>Fg.eq a b
 |_,_=>false
open Classical in
def both {R:Type}[Fg R](x y:Option R):Option R:=bif afP x y then x else if x=y then x else none
theorem abk {R:Type}[Fg R]{x y:Option R}:both x y=open Classical in if x=y then x else none:=by
 unfold both;cases hs:afP x y with
 |false=>rfl
 |true=>
  have e:x=y:=by
   unfold afP at hs;split at hs
   .rw [Fg.ok hs]
   .cases hs
  grind
def au:Fr->Nat->Slot
 |[],_=> .sc .un
 |(k,s)::r,t=>bif bD k t then s else au r t
def Qs {R:Type}:Fr->Nat->Slot->(Fr->Option R)->Option R
 |[],t,v,K=>K [(t,v)]
 |(k,s)::r,t,v,K=>bif bD k t then K ((k,v)::r) else Qs r t v λr=>K ((k,s)::r)
def force {R:Type}(s:Slot)(K:Slot->Option R):Option R:=match s with
 | .skip=>K .skip
 | .sc l=>K (.sc l)
 | .ag cs=>K (.ag cs)
 | .tg cs=>K (.tg cs)
 | .cw vs=>K (.cw vs)
 | .box cs=>K (.box cs)
 | .MM cs=>K (.MM cs)
 | .ptr r o=>K (.ptr r o)
 | .Cl r=>K (.Cl r)
 | .rp cs o=>K (.rp cs o)
 | .hp r o n i=>K (.hp r o n i)
 | .ep f i o b cs=>K (.ep f i o b cs)
def bL:List Nat->Nat->Bool
 |[],_=>false
 |k::r,t=>bif bD k t then true else bL r t
def DN (t:Nat):Bool:=aec 1000000 t
def posOf (t:Nat):Nat:=(t-1000000)%1000
def VV (t:Nat):Nat:=(t-1000000)/1000
def plk:List (Nat×Nat)->Nat->Option Nat
 |[],_=>none
 |(k,x)::r,t=>bif bD k t then some x else plk r t
def dP:Slot->Bool
 | .ptr _ _| .hp _ _ _ _| .ep _ _ _ _ _| .rp _ _| .Cl _=>true
 |_=>false
def yW {R:Type}(ds:List Nat):Fr->(Fr->Option R)->Option R
 |[],K=>K []
 |(k,s)::r,K=>bif dP s||bL ds k then yW ds r K else yW ds r λr=>K ((k,s)::r)
def cY:Slot->Bool
 | .box _| .MM _=>true
 |_=>false
def pick {R:Type}(ks:List Nat):Fr->(Fr->Option R)->Option R
 |[],K=>K []
 |(k,s)::r,K=>bif bL ks k&&!dP s then pick ks r λr=>K ((k,s)::r) else pick ks r K
structure pC where
 ty:Nat
 iw:Bool
 xs:List MV
structure St where
 cX:List Nat
 cV:List Nat
 fr:Fr
 aT:List (Nat×pC)
def aN:List (Nat×pC)->Nat->Option pC
 |[],_=>none
 |(k,s)::r,t=>bif bD k t then some s else aN r t
def VW {R:Type}:List (Nat×pC)->Nat->pC->(List (Nat×pC)->Option R)->Option R
 |[],t,v,K=>K [(t,v)]
 |(k,s)::r,t,v,K=>bif bD k t then K ((k,v)::r) else VW r t v λr=>K ((k,s)::r)
def kB (a b:IntKind):Bool:=decide (a=b)
def kdB:Kd->Kd->Bool
 | .b,.b=>true
 | .i k,.i k'=>kB k k'
 | .s,.s=>true
 | .l,.l=>true
 | .h k n,.h k' n'=>kB k k'&&bD n n'
 | .raw,.raw=>true
 |_,_=>false
def Lo:List Kd->List Kd->Bool
 |[],[]=>true
 |x::xs,y::ys=>kdB x y&&Lo xs ys
 |_,_=>false
def msB (s t:MS):Bool:=(s.st==t.st)&&(Lo s.lay t.lay&&(s.b==t.b))
def xI {R:Type}(f:Nat):List aF->(List aF->Option R)->Option R
 |[],K=>K []
 |l::r,K=>(match l with
  | .own g=>bif bD g f then xI f r λr=>K (.un::r) else xI f r λr=>K (.own g::r)
  |l=>xI f r λr=>K (l::r))
def MN {R:Type}(f:Nat)(s:Slot)(K:Slot->Option R):Option R:=match s with
 | .sc (.own g)=>bif bD g f then K (.sc .un) else K (.sc (.own g))
 | .ag cs=>xI f cs λcs=>K (.ag cs)
 | .tg cs=>xI f cs λcs=>K (.tg cs)
 | .box cs=>xI f cs λcs=>K (.box cs)
 | .ep g i o b cs=>bif bD g f then K (.sc .un) else K (.ep g i o b cs)
 |s=>K s
def kFr {R:Type}(f:Nat):Fr->(Fr->Option R)->Option R
 |[],K=>K []
 |(k,s)::r,K=>MN f s λs=>kFr f r λr=>K ((k,s)::r)
section
variable {R:Type}
def mU (st:St)(l:aF)(K:MV->St->Option R):Option R:=match l with
 | .un=>none
 | .p m=>K m st
 | .hs k n x=>K (.h k n x) st
 | .nil=>K (.list []) st
 | .mp _ _=>none
 | .own f=>match aN st.aT f with
  |some o=>bif o.iw then K (.list o.xs) st else bif bL st.cV f then none else (match st with|⟨p,q,r,m⟩=>VW m f ⟨o.ty,true,o.xs⟩ λm=>K (.list o.xs) ⟨p,q,r,m⟩)
  |none=>none
def vM (st:St):List aF->(List MV->St->Option R)->Option R
 |[],K=>K [] st
 |l::r,K=>mU st l λm st=>vM st r λms st=>K (m::ms) st
def pD (st:St)(s:Slot)(K:MV->St->Option R):Option R:=match s with
 | .sc l=>mU st l K
 | .ag cs=>vM st cs λms st=>K (.agg ms) st
 | .rp cs off=>bif bD off 0 then vM st cs λms st=>K (.rp ms) st else none
 |_=>none
def DO (st:St):List Slot->(List MV->St->Option R)->Option R
 |[],K=>K [] st
 |l::r,K=>pD st l λm st=>DO st r λms st=>K (m::ms) st
end
def FB:List aF->Nat
 |[]=>0
 |k::r=>k.w+FB r
def cut:List aF->Nat->Option (List aF)
 |cs,0=>some cs
 |c::cs,n+1=>bif aec c.w (n+1) then cut cs (n+1-c.w) else none
 |_,_=>none
def Y2:List aF->Nat->Option (List aF)
 |_,0=>some []
 |c::cs,n+1=>bif aec c.w (n+1) then (match Y2 cs (n+1-c.w) with|some b=>some (c::b)|none=>none) else none
 |_,_=>none
def part (cs:List aF)(off n:Nat):Option (List aF):=match cut cs off with
 |some a=>Y2 a n
 |none=>none
def over:List aF->List aF->Option (List aF)
 |[],cs=>some cs
 |v::vs,c::cs=>bif bD v.w c.w then (match over vs cs with|some r=>some (v::r)|none=>none) else none
 |_,[]=>none
def putAt:List aF->Nat->List aF->Option (List aF)
 |cs,0,vs=>over vs cs
 |c::cs,n+1,vs=>bif aec c.w (n+1) then (match putAt cs (n+1-c.w) vs with|some r=>some (c::r)|none=>none) else none
 |_,_,_=>none
def app {α:Type}:List α->List α->Option (List α)
 |[],l=>some l
 |x::r,l=>(match app r l with|some q=>some (x::q)|none=>none)
def Y3:aF->Bool
 | .un=>true
 | .mp _ _=>true
 |_=>false
def fU:List aF->Bool
 |[.mp _ _]=>true
 |_=>false
def IZ:Slot->Bool
 | .box cs=>!fU cs
 |_=>false
def MO {R:Type}(ok:Nat->Bool)(r0:Fr):Fr->Fr->(Fr->Option R)->Option R
 |[],fr,K=>K fr
 |(t,s)::r,fr,K=>match s with
  | .ptr root off=>bif ok t&&(!DN root&&(IZ (au r0 root)&&(IZ (au fr root)&&!cY (au fr t)))) then Qs fr t (.ptr root off) λfr=>MO ok r0 r fr K else MO ok r0 r fr K
  |_=>MO ok r0 r fr K
def qe:List aF->Bool
 |[.mp s _]=>!acU s
 |_=>false
def Fh:List aF->Bool
 |[]=>false
 |l::r=>bif Y3 l then true else Fh r
def kEp {R:Type}(f:Nat):Fr->(Fr->Option R)->Option R
 |[],K=>K []
 |(k,s)::r,K=>(match s with
  | .ep g i o b cs=>bif bD g f then kEp f r λr=>K ((k,.sc .un)::r) else kEp f r λr=>K ((k,.ep g i o b cs)::r)
  |s=>kEp f r λr=>K ((k,s)::r))
inductive LK where
 |k (x:Kd)
 |own (f:Nat) (ty:Nat) (iw:Bool)
inductive OK where
 |sc (l:LK)
 |ag (ls:List LK)
 |box (ls:List LK)
 |mp (s:MS)
 |pt (root off:Nat)
structure fV where
 cX:List Nat
 cV:List Nat
 outs:List (Nat×OK)
 exo:List (Nat×List (Nat×OK))
 iw:List Nat
instance:Inhabited fV:=⟨⟨[],[],[],[],[]⟩⟩
def afQ:List (Nat×List (Nat×OK))->Nat->List (Nat×OK)
 |[],_=>[]
 |(k,l)::r,e=>bif bD k e then l else afQ r e
def fV.ex (h:fV)(e:Nat):List (Nat×OK):=afQ h.exo e
def abl:List (Nat×List (Nat×OK))->List (Nat×OK)
 |[]=>[]
 |(_,l)::r=>l++abl r
def fV.all (h:fV):List (Nat×OK):=h.outs++abl h.exo
structure Ctx where
 ti:Nat->Option TI
 key:Nat->Nat
 g:Nat->List MV->Option MV
 cS:Nat->Bool
 fresh:Nat->Bool
 mV:Nat->Nat
 sig:Nat->Option (Nat×List LK×List LK)
 par:List (Nat×Nat)
 n:Nat
 bs:List Nat
 fl:List Nat
 fz:Nat->List Nat
 fk:Nat->Option FloatKind
 mt:Nat->Option (Nat×Bool)
 ord:Nat->List Nat
 eV:Nat->fV
 ft:Nat->fV
 eW:Nat->fV
 SU:Nat->Bool
 dyn:List Nat
 fuel:Nat
def Ctx.tv (c:Ctx)(t:Nat):Option TI:=match c.ti t with|some I=>(match I.cy with|[]=>some I|_=>none)|none=>none
def DP:Value->Slot
 | .bool b=> .sc (.p (.b b))
 | .int k n=> .sc (.p (.i k n))
 | .string s=> .sc (.p (.s s.data.toList))
 | .slice none 0 0=> .sc .nil
 | .float k b=> .sc (.p (.raw (.float k b)))
 | .complex k a b=> .sc (.p (.raw (.complex k a b)))
 | .pointer none=> .sc (.p (.raw (.pointer none)))
 | .nilFunc=> .sc (.p (.raw .nilFunc))
 | .nilIface=> .sc (.p (.raw .nilIface))
 |_=> .sc .un
def aP (c:Ctx)(st:St):Operand->Slot
 | .tmp t=>match plk c.par t with
  |some q=>bif DN q&&bD (posOf q) t then (match au st.fr q with| .box cs=>bif fU cs then .sc .un else .ptr q (VV q)|_=> .sc .un) else .sc .un
  |none=>match au st.fr t with
   | .box cs=>bif DN t then .sc .un else bif qe cs then .Cl t else .ptr t 0
   | .MM cs=> .rp cs 0
   |s=>s
 | .const v=>DP v
 | .func f=> .sc (.p (.func (c.key f) []))
 | .global _=> .sc .un
def ou (c:Ctx)(st:St):List Operand->List Slot
 |[]=>[]
 |o::r=>aP c st o::ou c st r
section
variable {R:Type}
def wr (st:St)(d:Nat)(s:Slot)(K:St->Option R):Option R:=bif bL st.cX d then none else (match st with|⟨p,q,r,m⟩=>force s λs=>Qs r d s λr=>K ⟨p,q,r,m⟩)
def bB (c:Ctx)(st:St)(d:Option Nat)(s:Slot)(K:St->Option R):Option R:=match d with
 |some d=>bif DN d||(aec c.n d||cY (au st.fr d)) then none else wr st d s K
 |none=>K st
def jD (st:St)(f:Nat)(o:pC)(K:St->Option R):Option R:=bif bL st.cV f then none else (match st with|⟨p,q,r,m⟩=>kFr f r λr=>VW m f o λm=>K ⟨p,q,r,m⟩)
def kz (I:TI)(cs:List aF)(off:Nat)(K:Slot->Option R):Option R:=bif I.st then (match part cs off I.size with|some a=>K (.ag a)|none=>none)
 else (match cut cs off with|some (l::_)=>bif bD l.w I.size then K (.sc l) else none|_=>none)
def ldK (st:St)(I:TI)(a:Slot)(K:Slot->Option R):Option R:=match a with
 | .ptr root off=>match au st.fr root with
  | .box cs=>bif fU cs then none else kz I cs off K
  |_=>none
 | .rp cs off=>kz I cs off K
 | .ep f _ off _ cs=>(match aN st.aT f with|some _=>kz I cs off K|none=>none)
 | .hp root off n i=>bif I.st||!bD I.size 1 then none else (match au st.fr root with
  | .box cs=>bif fU cs then none else (match cut cs off with|some (.hs k n' x::_)=>bif bD n' n then K (.sc (.p (.i k (x.getD i 0)))) else none|_=>none)
  |_=>none)
 |_=>none
def aX:Slot->List aF
 | .sc l=>[l]
 | .ag cs=>cs
 |_=>[]
def dz:List aF->Option (List MV)
 |[]=>some []
 |l::r=>match l,dz r with
  | .p m,some q=>some (m::q)
  | .hs k n x,some q=>some (.h k n x::q)
  |_,_=>none
def uv:List aF->List MV->Option (List aF)
 |[],[]=>some []
 | .hs k n x::r,_::ms=>(match uv r ms with|some q=>some (.hs k n x::q)|none=>none)
 |_::r,m::ms=>(match uv r ms with|some q=>some (.p m::q)|none=>none)
 |_,_=>none
def yx (b:Bool)(cs:List MV):Option MV:=match b,cs with
 |false,[m]=>some m
 |true,cs=>some (.agg cs)
 |_,_=>none
def isByte (n:Int):Bool:=decide (n=((alj n.toNat).toNat:Int))
def stK (st:St)(I:TI)(a v:Slot)(K:St->Option R):Option R:=bif Fh (aX v)||!bD (FB (aX v)) I.size then none else
 match a with
 | .ptr root off=>match au st.fr root with
  | .box cs=>bif fU cs then none else (match putAt cs off (aX v) with|some jM=>wr st root (.box jM) K|none=>none)
  |_=>none
 | .hp root off n i=>match au st.fr root,v with
  | .box cs,.sc (.p m)=>bif fU cs then none else (match cut cs off with
   |some (.hs k n' x::_)=>bif bD n' n then gI k m λv=>(match putAt cs off [.hs k n' (x.set i v)] with|some jM=>wr st root (.box jM) K|none=>none) else none
   |_=>none)
  |_,_=>none
 | .ep f i off b cs=>vM st (aX v) λms st=>match aN st.aT f with
  |some o=>bif o.iw then none else
   (match uv (aX v) ms with
   |some vs=>(match putAt cs off vs with
    |some jM=>(match dz jM with
     |some ms'=>(match yx b ms' with
      |some x=>bif bL st.cV f then none else
       (match st with|⟨p,q,r,m⟩=>kEp f r λr=>VW m f ⟨o.ty,false,o.xs.set i x⟩ λm=>K ⟨p,q,r,m⟩)
      |none=>none)
     |none=>none)
    |none=>none)
   |none=>none)
  |none=>none
 |_=>none
def SV (I:TI)(x:MV)(K:List aF->Option R):Option R:=bif I.st then gA x λcs=>xH I.lay cs K
 else match I.lay with
  |[k]=>kw k x λx=>K [x]
  |_=>none
def xJ (I:TI)(x:MV)(K:Slot->Option R):Option R:=bif I.st then gA x λcs=>xH I.lay cs λcs=>K (.ag cs)
 else match I.lay with
  |[k]=>kw k x λx=>K (.sc x)
  |_=>none
def Cm (c:Ctx):List Nat->List MV->(List Slot->Option R)->Option R
 |[],l,K=>gN l (K [])
 |t::ts,l,K=>match c.tv t with
  |some I=>gC l λm r=>xJ I m λs=>Cm c ts r λss=>K (s::ss)
  |none=>none
def uQ (c:Ctx)(I:TI)(x:MV)(K:Slot->Option R):Option R:=match I.cy with
 |[]=>xJ I x K
 |ts=>gT x λvs=>Cm c ts vs λss=>K (.cw ss)
def MP:aF->aF->Option Bool
 | .p (.b x),.p (.b y)=>some (decide (x=y))
 | .p (.i k x),.p (.i k' y)=>bif decide (k=k') then some (decide (x=y)) else none
 | .p (.s x),.p (.s y)=>some (decide (x=y))
 | .hs k n x,.hs k' n' y=>bif decide (k=k')&&bD n n' then some (decide (x=y)) else none
 |_,_=>none
def kA:List aF->List aF->Option Bool
 |[],[]=>some true
 |[x],[y]=>MP x y
 |x::xs,y::ys=>match MP x y,kA xs ys with
  |some a,some b=>some (a&&b)
  |_,_=>none
 |_,_=>none
def SW (op:BinOp)(x y:List UInt8):Option MV:=match op with
 | .eql=>some (.b (decide (x=y)))
 | .neq=>some (.b (!decide (x=y)))
 | .lss=>some (.b (ahE x y))
 | .gtr=>some (.b (!(ahE x y||decide (x=y))))
 | .leq=>some (.b (ahE x y||decide (x=y)))
 | .geq=>some (.b (!ahE x y))
 |_=>none
def eX (k:IntKind)(x y:Int):Int:=k.wrap ((afH k.bits x&&&afH k.bits y).toNat:Int)
def Ch (k:IntKind)(x y:Int):Int:=k.wrap ((afH k.bits x|||afH k.bits y).toNat:Int)
def ca (k:IntKind)(x y:Int):Int:=k.wrap ((afH k.bits x^^^afH k.bits y).toNat:Int)
def abm (op:BinOp)(k:IntKind)(x y:Int):Option MV:=match op with
 | .add=>some (.i k (k.wrap (x+y)))
 | .sub=>some (.i k (k.wrap (x-y)))
 | .mul=>some (.i k (k.wrap (x *y)))
 | .and=>some (.i k (eX k x y))
 | .or=>some (.i k (Ch k x y))
 | .xor=>some (.i k (ca k x y))
 | .eql=>some (.b (decide (x=y)))
 | .neq=>some (.b (!decide (x=y)))
 | .lss=>some (.b (decide (x<y)))
 | .leq=>some (.b (decide (x<=y)))
 | .gtr=>some (.b (decide (y<x)))
 | .geq=>some (.b (decide (y<=x)))
 |_=>none
def Cn:Kd->aF->Bool
 | .b,.p (.b _)=>true
 | .i k,.p (.i k' _)=>decide (k'=k)
 | .s,.p (.s _)=>true
 | .h k n,.hs k' n' _=>decide (k'=k)&&bD n' n
 |_,_=>false
def mW:List Kd->List aF->Bool
 |[],[]=>true
 |k::ks,l::ls=>bif Cn k l then mW ks ls else false
 |_,_=>false
def Co (st:Bool):Slot->Bool
 | .ag _=>st
 | .sc _=>!st
 |_=>false
def atl (op:BinOp)(a b:Nat):Option Nat:=match op with
 | .add=>FloatKind.f64.format.add a b
 | .sub=>FloatKind.f64.format.sub a b
 | .mul=>FloatKind.f64.format.mul a b
 |_=>none
def afR:List aF->Bool
 |[.p (.raw (.pointer none))]=>true
 |_=>false
def apq (oI:Option TI)(op:BinOp)(x y:Slot)(K:Slot->Option R):Option R:=match x,y with
 | .sc (.p (.i k a)),.sc (.p (.i k' b))=>
  (match op with
   | .quo=>bif decide (k=k') then bS (!decide (b=0)) (K (.sc (.p (.i k (k.wrap (a.tdiv b)))))) else none
   | .rem=>bif decide (k=k') then bS (!decide (b=0)) (K (.sc (.p (.i k (a.tmod b))))) else none
   | .shr=>bS (decide (0<=b)) (K (.sc (.p (.i k (a.fdiv (2^min b.toNat k.bits))))))
   | .shl=>bS (decide (0<=b)) (K (.sc (.p (.i k (k.wrap (a *2^min b.toNat k.bits))))))
   |_=>bif decide (k=k') then (match abm op k a b with|some m=>K (.sc (.p m))|none=>none) else none)
 | .sc (.p (.s a)),.sc (.p (.s b))=>(match op with
  | .add=>bS (decide (a.length+b.length<=2^46)) (K (.sc (.p (.s (a++b)))))
  |_=>(match SW op a b with|some m=>K (.sc (.p m))|none=>none))
 | .ptr _ _,.sc (.p (.raw (.pointer none)))=>(match oI,op with
  |some I,.eql=>bif afR I.zero then K (.sc (.p (.b false))) else none
  |some I,.neq=>bif afR I.zero then K (.sc (.p (.b true))) else none
  |_,_=>none)
 | .sc (.p (.raw (.float .f64 a))),.sc (.p (.raw (.float .f64 b)))=>bd (atl op a b) λr=>K (.sc (.p (.raw (.float .f64 r))))
 |x,y=>match oI with
  |some I=>bif mW I.lay (aX x)&&mW I.lay (aX y)&&(Co I.st x&&Co I.st y) then (match op with
   | .eql=>(match kA (aX x) (aX y) with|some b=>K (.sc (.p (.b b)))|none=>none)
   | .neq=>(match kA (aX x) (aX y) with|some b=>K (.sc (.p (.b (!b))))|none=>none)
   |_=>none) else none
  |none=>none
def sliceB (lo hi:Option Slot)(len:Nat)(K:Nat->Nat->Option R):Option R:=match lo,hi with
 |none,none=>K 0 len
 |some (.sc (.p (.i _ l))),none=>bS (decide (0<=l/\l<=(len:Int)/\(len:Int)<=(len:Int))) (K l.toNat (Int.toNat (len:Int)))
 |none,some (.sc (.p (.i _ h)))=>bS (decide (0<=(0:Int)/\(0:Int)<=h/\h<=(len:Int))) (K (Int.toNat 0) h.toNat)
 |some (.sc (.p (.i _ l))),some (.sc (.p (.i _ h)))=>bS (decide (0<=l/\l<=h/\h<=(len:Int))) (K l.toNat h.toNat)
 |_,_=>none
def pc (c:Ctx)(st:St):Option Operand->Option Slot
 |some o=>some (aP c st o)
 |none=>none
def Cp:List aF->Option (List MV)
 |[]=>some []
 |l::r=>match l,Cp r with
  | .p m,some q=>some (m::q)
  | .hs k n x,some q=>some (.h k n x::q)
  | .nil,some q=>some (.list []::q)
  |_,_=>none
def afS (d:Nat)(st:St)(I E:TI)(x y:Slot)(K:Slot->St->Option R):Option R:=match x,y with
 | .sc (.p (.i _ n)),.sc (.p (.i _ m))=>bif aec 1 E.bytes then bS (decide ((0:Int)<=n/\n<=m/\m *E.bytes<=2^46)) (match Cp E.zero with
  |some zs=>(match yx E.st zs with
   |some z=>jD st d ⟨I.elem,false,akO n.toNat z⟩ λst=>K (.sc (.own d)) st
   |none=>none)
  |none=>none) else none
 |_,_=>none
def TI.IK (I:TI):Bool:=match I.st,I.lay with|false,[.l]=>true|_,_=>false
def TI.isS (I:TI):Bool:=match I.st,I.lay with|false,[.s]=>true|_,_=>false
def acW (E:TI):Bool:=match E.st,E.lay with
 |false,[.i k]=>decide (k= .u8)
 |_,_=>false
def MQ (l:List UInt8):List MV:=l.map λb=> .i .u8 (b.toNat:Int)
def Y4 (c:Ctx)(u:Nat)(E:TI)(x:Slot)(K:List MV->Option R):Option R:=match c.tv u,x with
 |some T,.sc (.p (.s l))=>bif T.isS&&acW E then K (MQ l) else none
 |_,_=>none
def SX (I E:TI)(st:St)(x:Slot)(K:List MV->Option R):Option R:=match x with
 | .sc (.p (.list xs))=>bS (oL E.size xs) (K xs)
 | .sc .nil=>K []
 | .sc (.own f)=>(match aN st.aT f with|some o=>bif bD o.ty I.elem then K o.xs else none|none=>none)
 |_=>none
def FC (c:Ctx)(st:St)(I:TI):List (Nat×Operand)->List aF->Option (List aF)
 |[],cs=>some cs
 |(i,o)::r,cs=>match I.xx[i]?,I.acV[i]? with
  |some q,some y=>(match c.tv y with
   |some J=>bif Fh (aX (aP c st o))||!bD (FB (aX (aP c st o))) J.size then none else
    (match putAt cs q (aX (aP c st o)) with|some jM=>FC c st I r jM|none=>none)
   |none=>none)
  |_,_=>none
def MR (c:Ctx)(st:St)(k:IntKind)(n:Nat):List (Nat×Operand)->List Int->(List Int->Option R)->Option R
 |[],x,K=>K x
 |(i,o)::r,x,K=>match aP c st o with
  | .sc (.p m)=>bif aec (n+2) i then none else gI k m λv=>MR c st k n r (x.set i v) K
  |_=>none
def afU (c:Ctx)(st:St):List (Nat×Operand)->Nat->(List MV->St->Option R)->Option R
 |[],_,K=>K [] st
 |(i,o)::r,n,K=>bif bD i n then pD st (aP c st o) λm st=>afU c st r (n+1) λms st=>K (m::ms) st else none
def Fi (c:Ctx)(st:St):List Operand->(List MV->St->Option R)->Option R
 |[],K=>K [] st
 |o::r,K=>match aP c st o with
  | .ptr root 0=>(match au st.fr root with
   | .box cs=>bif Fh cs||DN root then none else vM st cs λms st=>(match uv cs ms with|some jM=>wr st root (.MM jM) λst=>Fi c st r λxs st=>K (.rp ms::xs) st|none=>none)
   |_=>none)
  | .rp cs 0=>vM st cs λms st=>Fi c st r λxs st=>K (.rp ms::xs) st
  |_=>none
def GW (c:Ctx)(k:Nat)(st:St)(s:Slot)(K:MV->St->Option R):Option R:=match s with
 | .sc (.own f)=>(match aN st.aT f with
  |some o=>bif o.iw||!bD o.ty (c.mV k) then none else jD st f ⟨o.ty,true,[]⟩ λst=>K (.fresh o.xs) st
  |none=>none)
 | .sc .nil=>(match c.tv (c.mV k) with|some _=>K (.fresh []) st|none=>none)
 |_=>none
def abn (c:Ctx)(k:Nat)(st:St)(ss:List Slot)(K:List MV->St->Option R):Option R:=bif c.cS k then (match ss with
  |[s0,s1,s2]=>(match s2 with
   | .sc (.p m2)=>pD st s1 λm1 st=>GW c k st s0 λm0 st=>K [m0,m1,m2] st
   |s2=>pD st s1 λm1 st=>GW c k st s0 λm0 st=>GW c k st s2 λm2 st=>K [m0,m1,m2] st)
  |_=>none)
 else DO st ss K
def atm (x y:Int):Int:=if y<x then y else x
def imax (x y:Int):Int:=if y>x then y else x
def afV (mx:Bool)(k:IntKind):Int->List Slot->Option MV
 |x,[]=>some (.i k x)
 |x,.sc (.p (.i k' y))::r=>bif decide (k'=k) then afV mx k (bif mx then imax x y else atm x y) r else none
 |_,_=>none
def afW (mx:Bool):List Slot->Option MV
 | .sc (.p (.i k n))::r=>afV mx k n r
 |_=>none
def akP:List Nat->Bool
 |[]=>false
 |_=>true
def MU (c:Ctx):List Nat->List MV->(List aF->Option R)->Option R
 |[],l,K=>gN l (K [])
 |t::ts,l,K=>match c.tv t with
  |some I=>gC l λm r=>xJ I m λs=>(match s with| .sc (.p m)=>MU c ts r λls=>K (.p m::ls)|_=>none)
  |none=>none
def MW (c:Ctx)(d:Nat)(st:St)(f:Nat)(r:MV)(ts:List Nat)(K:Slot->St->Option R):Option R:=match ts with
 |[]=>none
 |t0::ts=>(match c.tv t0 with
  |some I0=>bif !bD I0.elem (c.mV f) then none else gT r λvs=>gC vs λx vs=>gF x λxs=>MU c ts vs λls=>jD st d ⟨I0.elem,false,xs⟩ λst=>(bif bL c.bs d then mU st (.own d) λm st=>K (.tg (.p m::ls)) st else K (.tg (.own d::ls)) st)
  |none=>none)
def anW (c:Ctx)(d:Nat)(st:St)(f:Nat)(ms:List MV)(I:TI)(K:Slot->St->Option R):Option R:=bd (c.g f ms) λr=>bif c.fresh f then bif bD (c.mV f) 0 then gCl r λxs=>K (.sc (.p (.clip xs))) st else bif akP I.cy then MW c d st f r I.cy K else gF r λxs=>bif !bD I.elem (c.mV f) then none else jD st d ⟨I.elem,false,xs⟩ λst=>(bif bL c.bs d then mU st (.own d) λm st=>K (.sc (.p m)) st else K (.sc (.own d)) st) else uQ c I r λs=>K s st
def apr (s:Slot)(K:Slot->Option R):Option R:=match s with
 | .ptr r o=>K (.ptr r o)
 | .rp cs o=>K (.rp cs o)
 | .sc (.p m)=>gP m λc=>K (.sc (.p (.rp c)))
 |_=>none
def afX (x y z:Slot)(K:Slot->Option R):Option R:=match x with
 | .sc (.p (.b v))=>(match y,z with
  | .sc (.p (.b p)),.sc (.p (.b q))=>K (.sc (.p (.b (bif v then p else q))))
  |p,q=>match v with|true=>K p|false=>K q)
 |_=>none
def aps (I:TI)(s:Slot)(K:Slot->Option R):Option R:=match s with
 | .sc l=>bif I.st||Y3 l||!bD l.w I.size then none else K (.box [l])
 | .ag cs=>bif I.st&&!Fh cs&&bD (FB cs) I.size then K (.box cs) else none
 |_=>none
def unK (op:UnOp)(s:Slot)(K:Slot->Option R):Option R:=match op,s with
 | .not,.sc (.p (.b v))=>K (.sc (.p (.b (!v))))
 | .neg,.sc (.p (.i k n))=>K (.sc (.p (.i k (k.wrap (0-n)))))
 |_,_=>none
def afY (I:TI)(fk:Option FloatKind)(s:Slot)(K:Slot->Option R):Option R:=match I.st,I.cy,I.lay,s with
 |false,[],[.i k],.sc (.p (.i _ n))=>K (.sc (.p (.i k (k.wrap n))))
 |false,[],[.s],.sc (.p (.s l))=>K (.sc (.p (.s l)))
 |false,[],[.i k],.sc (.p (.raw (.float .f64 a)))=>bd ((FloatKind.decode .f64 a).toInt .zero) λn=>bS (decide (k.min<=n/\n<=k.max)) (K (.sc (.p (.i k n))))
 |false,[],[.raw],.sc (.p (.i _ n))=>(match fk with
  |some .f64=>K (.sc (.p (.raw (.float .f64 (FloatKind.nearest .f64 n)))))
  |_=>none)
 |_,_,_,_=>none
def Y5 (c:Ctx)(I:TI)(st:St)(s:Slot)(lo hi:Option Slot)(K:Slot->St->Option R):Option R:=match s with
 | .sc (.p (.s l))=>bif I.isS then sliceB lo hi l.length λa b=>K (.sc (.p (.s ((l.take b).drop a)))) st else none
 | .sc (.p (.list l))=>bif I.IK then (match c.tv I.elem with
  |some E=>(match lo with
   |none=>sliceB none hi l.length λa b=>K (.sc (.p (.list ((l.take b).drop a)))) st
   |some lo=>bS (oL E.size l) (sliceB (some lo) hi l.length λa b=>K (.sc (.p (.list ((l.take b).drop a)))) st))
  |none=>none) else none
 | .sc (.own f)=>(match aN st.aT f with
  |some o=>bif I.IK&&bD o.ty I.elem then mU st (.own f) λ_ st=>sliceB lo hi o.xs.length λa b=>K (.sc (.p (.list ((o.xs.take b).drop a)))) st else none
  |none=>none)
 | .sc .nil=>bif I.IK then sliceB lo hi 0 λ_ _=>K (.sc .nil) st else none
 |_=>none
def afZ (I:TI)(s h m:Slot)(K:Slot->Option R):Option R:=match s,h,m with
 | .sc (.p (.list l)),.sc (.p (.i .i64 n)),.sc (.p (.i .i64 n'))=>bif I.IK then bS (decide (n=(l.length:Int)/\n'=(l.length:Int))) (K (.sc (.p (.clip l)))) else none
 |_,_,_=>none
def af0 (st:St)(I:TI)(f:Nat)(s:Slot)(K:Slot->Option R):Option R:=match I.st,I.xx[f]?,s with
 |true,some q,.ptr r o=>K (.ptr r (o+q))
 |true,some q,.rp cs o=>K (.rp cs (o+q))
 |true,some q,.ep g i o b cs=>(match aN st.aT g with|some _=>K (.ep g i (o+q) b cs)|none=>none)
 |_,_,_=>none
def apt (c:Ctx)(I:TI)(f:Nat)(s:Slot)(K:Slot->Option R):Option R:=match I.st,I.xx[f]?,I.acV[f]?,s with
 |true,some q,some y,.ag cs=>(match c.tv y with|some J=>kz J cs q K|none=>none)
 |_,_,_,_=>none
def apu (c:Ctx)(st:St)(I E:TI)(x i:Slot)(K:Slot->Option R):Option R:=match x,i with
 | .sc (.p (.list xs)),.sc (.p (.i _ n))=>bif I.IK then idx xs n λx=>SV E x λcs=>K (.rp cs 0) else none
 | .sc (.own f),.sc (.p (.i _ n))=>(match aN st.aT f with
  |some o=>bif I.IK then idx o.xs n λx=>SV E x λcs=>K (.ep f n.toNat 0 E.st cs) else none
  |none=>none)
 | .ptr r o,.sc (.p (.i _ n))=>bif I.st then none else (match I.lay with|[.h _ m]=>bS (decide ((0:Int)<=n/\n<((m+2:Nat):Int))) (K (.hp r o m n.toNat))|_=>none)
 | .sc (.p (.rp c)),.sc (.p (.i _ n))=>bif I.st then none else (match I.lay with|[.h k m]=>gC c λh r=>gN r<|gH k m h λx=>bS (decide ((0:Int)<=n/\n<((m+2:Nat):Int))) (K (.rp [.p (.i k (x.getD n.toNat 0))] 0))|_=>none)
 |_,_=>none
def ixK (I:TI)(x i:Slot)(K:Slot->Option R):Option R:=match I.st,I.lay,x,i with
 |false,[.s],.sc (.p (.s l)),.sc (.p (.i _ n))=>bS (decide ((0:Int)<=n/\n<(l.length:Int))) (K (.sc (.p (.i .u8 (l.getD n.toNat 0).toNat))))
 |false,[.h k' m'],.sc (.hs k m x),.sc (.p (.i _ n))=>bif bD m' m&&decide (k'=k) then bS (decide ((0:Int)<=n/\n<((m+2:Nat):Int))) (K (.sc (.p (.i k (x.getD n.toNat 0))))) else none
 |_,_,_,_=>none
def Kz (k:IntKind):List MV->(List Int->Option R)->Option R
 |[],K=>K []
 |m::r,K=>gI k m λn=>Kz k r λl=>K (n::l)
def apv (st:St)(I:TI)(s:Slot)(K:Slot->St->Option R):Option R:=match I.st,I.lay with
 |false,[.h k m]=>pD st s λx st=>gL x λxs=>bS (decide (m+2<=xs.length)) (Kz k xs λns=>K (.rp [.hs k m (ns.take (m+2))] 0) st)
 |_,_=>none
def GX:List aF->Nat->Option aF
 | .p m::_,0=>some (.p m)
 | .own f::_,0=>some (.own f)
 | .un::_,0=>some .un
 | .p _::r,k+1=>GX r k
 | .own _::r,k+1=>GX r k
 | .un::r,k+1=>GX r k
 |_,_=>none
def apw (s:Slot)(k:Nat)(K:Slot->Option R):Option R:=match s with
 | .tg cs=>(match GX cs k with|some l=>K (.sc l)|none=>none)
 | .cw vs=>(match vs[k]? with|some s=>K s|none=>none)
 |_=>none
def af1 (I:TI)(st:St)(ss:List Slot)(K:Slot->Option R):Option R:=match ss with
 |[.sc (.p (.s l))]=>bif I.isS then K (.sc (.p (.i .i64 l.length))) else none
 |[.sc (.p (.list l))]=>bif I.IK then K (.sc (.p (.i .i64 l.length))) else none
 |[.sc .nil]=>bif I.IK then K (.sc (.p (.i .i64 0))) else none
 |[.sc (.own f)]=>bif I.IK then (match aN st.aT f with|some o=>K (.sc (.p (.i .i64 o.xs.length)))|none=>none) else none
 |_=>none
def acX (pb:Bool)(d:Nat)(st:St)(I E:TI)(s:Slot)(ys:List MV)(K:Slot->St->Option R):Option R:=bif aec 1 E.bytes then (match s with
 | .sc .nil=>bS (decide (ys.length *E.bytes<=2^46)) (jD st d ⟨I.elem,false,ys⟩ λst=>K (.sc (.own d)) st)
 | .sc (.own f)=>(match aN st.aT f with
  |some w=>bS (decide ((w.xs.length+ys.length) *E.bytes<=2^46)) (bif bD w.ty I.elem then jD st f ⟨w.ty,w.iw,w.xs++ys⟩ λst=>bif pb then mU st (.own f) λm st=>K (.sc (.p m)) st else K (.sc (.own f)) st else none)
  |none=>none)
 | .sc (.p (.clip xs))=>bS (oL E.size xs) (bS (decide (0<ys.length/\(xs.length+ys.length) *E.bytes<=2^46)) (jD st d ⟨I.elem,false,xs++ys⟩ λst=>bif pb then mU st (.own d) λm st=>K (.sc (.p m)) st else K (.sc (.own d)) st))
 |_=>none) else none
def SY (c:Ctx)(st:St)(I:TI)(f:Slot)(ss:List Slot)(K:Slot->St->Option R):Option R:=match f with
 | .sc (.p m)=>YQ m λf aV=>bS (!c.cS f)<|DO st ss λms st=>bd (c.g f (ms++aV)) λr=>uQ c I r λs=>K s st
 |_=>none
def VX:MV->MV->Bool
 | .b x,.b y=>decide (x=y)
 | .i k x,.i k' y=>decide (k=k')&&decide (x=y)
 | .s x,.s y=>decide (x=y)
 | .h k n x,.h k' n' y=>decide (k=k')&&(bD n n'&&decide (x=y))
 |_,_=>false
def Cq:List MV->List MV->Bool
 |[],[]=>true
 |x::xs,y::ys=>VX x y&&Cq xs ys
 |_,_=>false
def apy:MV->List MV
 | .cw (.agg k::_)=>k
 |_=>[]
def abo (b:Bool):MV:=bif b then .b false else .i .i64 0
def Y6 (c:Ctx)(t:Nat):Option MS:=match c.mt t with
 |some (kt,b)=>(match c.tv kt with|some I=>bif acU ⟨I.st,I.lay,b⟩ then none else some ⟨I.st,I.lay,b⟩|none=>none)
 |none=>none
def aCM (st:St)(s:MS)(m:Slot)(K:Nat->List MV->Option R):Option R:=match m with
 | .Cl r=>(match au st.fr r with| .box [.mp s' es]=>bif msB s s'&&!acU s' then K r es else none|_=>none)
 |_=>none
def isLT (c:Ctx)(y:Nat):Bool:=match c.tv y with|some Y=>Y.IK|none=>false
def Y7 (c:Ctx)(y t:Nat):Bool:=match c.tv y,c.tv t with
 |some Y,some I=>Y.isS&&I.IK&&(match c.tv I.elem with|some E=>acW E|none=>false)
 |_,_=>false
def iW (c:Ctx)(o:Oper):Bool:=match o.op with
 | .assign (.tmp _)=>(match c.mt o.type with|some _=>true|none=>false)
 | .convert y t _=>Y7 c y t
 |_=>false
def Ma (c:Ctx)(o:Oper)(st:St)(x:Operand)(K:Slot->St->Option R):Option R:=match x,c.mt o.type with
 | .tmp t,some _=>(match au st.fr t with
  | .box cs=>bif fU cs then bif bL st.cX t||DN t then none else (match st with|⟨p,q,r,m⟩=>yW [t] r λr=>K (.box cs) ⟨p,q,r,m⟩) else K (aP c st x) st
  |_=>K (aP c st x) st)
 |_,_=>K (aP c st x) st
def itS (es:List MV):List UInt8:=match es with|[.s l,.i .i64 _]=>l|_=>[]
def vN (es:List MV):Int:=match es with|[.s _,.i .i64 n]=>n|_=>0
def Qt (es:List MV):Bool:=decide (vN es<((itS es).length:Int))
def FD (es:List MV):Int:=(alm ⟨(itS es).toArray⟩ (vN es).toNat).1
def FE (es:List MV):List MV:=[.s (itS es),.i .i64 (vN es+(alm ⟨(itS es).toArray⟩ (vN es).toNat).2)]
def itK (st:St)(x:Slot)(K:Slot->St->Option R):Option R:=match x with
 | .ptr t 0=>(match au st.fr t with
  | .box [.mp s es]=>bif acU s then
   eC (Qt es) (wr st t (.box [.mp s (FE es)]) λst=>K (.cw [.sc (.p (.b true)),.sc (.p (.i .i64 (vN es))),.sc (.p (.i .i32 (FD es)))]) st) (K (.cw [.sc (.p (.b false))]) st)
   else none
  |_=>none)
 |_=>none
def byK (m:MV)(K:UInt8->Option R):Option R:=gI .u8 m λn=>bS (isByte n) (K (alj n.toNat))
def Qu:List MV->(List UInt8->Option R)->Option R
 |[],K=>K []
 |m::r,K=>byK m λb=>Qu r λl=>K (b::l)
def Y8 (I:TI)(x:Slot)(K:Slot->Option R):Option R:=match x with
 | .sc (.p (.s l))=>bif I.isS then K (.box [.mp MS.it [.s l,.i .i64 0]]) else none
 |_=>none
def af3 (c:Ctx)(st:St)(Y I:TI)(x:Slot)(K:Slot->Option R):Option R:=match c.tv Y.elem with
 |some E=>bif I.isS&&acW E then (match x with
  | .sc (.p (.list xs))=>Qu xs λl=>K (.sc (.p (.s l)))
  | .sc .nil=>K (.sc (.p (.s [])))
  | .sc (.own f)=>(match aN st.aT f with
   |some o=>bif bD o.ty Y.elem then Qu o.xs λl=>K (.sc (.p (.s l))) else none
   |none=>none)
  |_=>none) else none
 |none=>none
def still (c:Ctx)(o:Oper):Bool:=match o.op,o.dst with
 | .load _ _,some d=>bL c.fl d
 |_,_=>false
def bI:List LK->List Nat
 |[]=>[]
 | .own f _ _::r=>f::bI r
 |_::r=>bI r
def meets:List Nat->List Nat->Bool
 |[],_=>false
 |k::r,l=>bif bL l k then true else meets r l
def iR (c:Ctx):List LK->Bool
 |[]=>true
 | .own _ ty _::r=>(match c.tv ty with|some _=>iR c r|none=>false)
 |_::r=>iR c r
def rX (ps:List (Nat×Nat))(f g:Nat):Bool:=match ps with
 |[]=>true
 |(a,b)::r=>(bif bD a f then bD b g&&!bD g 0 else (bif bD b g then bD g 0 else true))&&rX r f g
def SZ (st:St)(ps:List (Nat×Nat))(k:LK)(l:aF)(K:MV->List (Nat×Nat)->Option R):Option R:=match k,l with
 | .k .l,.nil=>K (.list []) ps
 | .k (.h k n),.hs k' n' x=>bif decide (k'=k)&&bD n' n then K (.h k n x) ps else none
 | .k x,.p m=>kw x m λ_=>K m ps
 | .own f ty iw,.own g=>match aN st.aT g with
  |some o=>bif !bD o.ty ty||(o.iw&&!iw)||bL st.cV g||!rX ps f (g+1) then none else K (.list o.xs) ((f,g+1)::ps)
  |none=>none
 | .own f _ _,.nil=>bif rX ps f 0 then K (.list []) ((f,0)::ps) else none
 |_,_=>none
def mC (st:St):List (Nat×Nat)->List LK->List aF->(List MV->List (Nat×Nat)->Option R)->Option R
 |ps,[],[],K=>K [] ps
 |ps,k::ks,l::ls,K=>SZ st ps k l λm ps=>mC st ps ks ls λms ps=>K (m::ms) ps
 |_,_,_,_=>none
def mi (st:St)(k:LK)(m:MV)(K:aF->St->Option R):Option R:=match k with
 | .k x=>kw x m λl=>K l st
 | .own f ty iw=>gL m λxs=>(match st with|⟨p,q,r,n⟩=>VW n f ⟨ty,iw,xs⟩ λn=>K (.own f) ⟨p,q,r,n⟩)
def cZ (st:St):List LK->List MV->(List aF->List MV->St->Option R)->Option R
 |[],ms,K=>K [] ms st
 |k::ks,ms,K=>gC ms λm r=>mi st k m λl st=>cZ st ks r λls ms st=>K (l::ls) ms st
def VY (gs:List Nat):List (Nat×pC)->(List (Nat×pC)->Option R)->Option R
 |[],K=>K []
 |(k,o)::r,K=>bif bL gs k then VY gs r K else VY gs r λr=>K ((k,o)::r)
def akQ:List Nat->Fr->(Fr->Option R)->Option R
 |[],r,K=>K r
 |f::fs,r,K=>kFr f r λr=>akQ fs r K
def eQ:List (Nat×Nat)->List Nat
 |[]=>[]
 |(_,0)::r=>eQ r
 |(_,g+1)::r=>g::eQ r
def Rx:List Nat->List (Nat×pC)->Bool
 |[],_=>false
 |f::r,m=>(match aN m f with|some _=>true|none=>Rx r m)
def Ry (st:St)(root:Nat)(ks:List LK)(ps:List (Nat×Nat))(outs:List MV)(K:St->Option R):Option R:=cZ ⟨[],[],[],[]⟩ ks outs λcs rest DQ=>gN rest<|VY (eQ ps) st.aT λm=>
  bif Rx (bI ks) m||meets (bI ks) st.cV then none else
   akQ (bI ks) st.fr λr=>Qs r root (.box cs) λr=>(match app DQ.aT m with|some m=>K ⟨st.cX,st.cV,r,m⟩|none=>none)
def abp (c:Ctx)(gv:Bool)(g:List MV->Option MV)(pos:Nat)(ks ko:List LK)(st:St)(ss:List Slot)(I:Option TI)(K:Slot->St->Option R):Option R:=match ss[pos]? with
 |some (.ptr root off)=>DO st (ss.take pos) λm1 st=>DO st (ss.drop (pos+1)) λm2 st=>
  (match au st.fr root with
  | .box cs=>bif fU cs||bL st.cX root||!iR c ks||!gv then none else mC st [] ks cs λls ps=>
   (match app m1 (.cell (.func off ls)::m2) with
   |some ms=>bd (g ms) λx=>gW x λr outs=>Ry st root ko ps outs λst=>(match I with
    |some I=>uQ c I r λs=>K s st
    |none=>K (.sc .un) st)
   |none=>none)
  |_=>none)
 |_=>none
def anX (c:Ctx)(key pos:Nat)(ks ko:List LK)(st:St)(ss:List Slot)(I:Option TI)(K:Slot->St->Option R):Option R:=abp c (c.cS key) (c.g key) pos ks ko st ss I K
def lkB:List LK->List LK->Bool
 |[],[]=>true
 | .k k1::r,.k k2::q=>kdB k1 k2&&lkB r q
 | .own f t z::r,.own f' t' z'::q=>bD f f'&&(bD t t'&&(z==z'&&lkB r q))
 |_,_=>false
def VZ (c:Ctx)(pos:Nat)(ks ko:List LK):List Nat->Bool
 |[]=>true
 |k::r=>(match c.sig k with|some sg=>bD sg.1 pos&&(lkB sg.2.1 ks&&lkB sg.2.2 ko)|none=>false)&&(c.cS k&&VZ c pos ks ko r)
def af4 (c:Ctx)(acY:List Nat)(st:St)(f:Slot)(ss:List Slot)(I:Option TI)(K:Slot->St->Option R):Option R:=match f,acY with
 | .sc (.p m),k0::_=>(match c.sig k0 with
  |some sg=>bif VZ c sg.1 sg.2.1 sg.2.2 acY then YQ m λk aV=>gN aV<|abp c true (λms=>Qr acY k λk=>c.g k ms) sg.1 sg.2.1 sg.2.2 st ss I K else none
  |none=>none)
 |_,_=>none
def opK (c:Ctx)(o:Oper)(st:St)(K:Slot->St->Option R):Option R:=match o.op with
 | .move x=>K (aP c st x) st
 | .assign x=>Ma c o st x K
 | .nilCheck x=>apr (aP c st x) λs=>K s st
 | .pick x a b=>afX (aP c st x) (aP c st a) (aP c st b) λs=>K s st
 | .alloc t=>(match c.tv t with|some I=>K (.box I.zero) st|none=>none)
 | .box t x=>(match c.tv t with|some I=>aps I (aP c st x) λs=>K s st|none=>none)
 | .build t parts=>(match c.tv t with
  |some I=>bif I.st then (match FC c st I parts.toList I.zero with|some cs=>K (.ag cs) st|none=>none)
   else (match I.lay with|[.h k n]=>MR c st k n parts.toList (zA n) λx=>K (.sc (.hs k n x)) st|_=>none)
  |none=>none)
 | .buildSlice t n parts=>(match c.tv t with
  |some I=>bif I.IK then (match c.tv I.elem with
   |some E=>bif aec (n *E.size) 16777216 then afU c st parts.toList 0 λms st=>bif bD ms.length n then bS (oL E.size ms) (bif bL c.bs (o.dst.getD 0) then K (.sc (.p (.list ms))) st else jD st (o.dst.getD 0) ⟨I.elem,false,ms⟩ λst=>K (.sc (.own (o.dst.getD 0))) st) else none else none
   |none=>none) else none
  |none=>none)
 | .makeSlice t x y=>(match c.tv t with
  |some I=>bif I.IK then (match c.tv I.elem with|some E=>afS (o.dst.getD 0) st I E (aP c st x) (aP c st y) K|none=>none) else none
  |none=>none)
 | .load t a=>(match c.tv t with
  |some I=>bif still c o then (match aP c st a with| .rp cs off=>kz I cs off λs=>K s st|_=>none) else ldK st I (aP c st a) λs=>K s st
  |none=>none)
 | .store t a v=>(match c.tv t with|some I=>stK st I (aP c st a) (aP c st v) λst=>K (.sc .un) st|none=>none)
 | .binOp op t x y _=>apq (c.tv t) op (aP c st x) (aP c st y) λs=>K s st
 | .unOp op _ x=>unK op (aP c st x) λs=>K s st
 | .convert y t x=>bif isLT c y then (match c.tv y,c.tv t with|some Y,some I=>af3 c st Y I (aP c st x) λs=>K s st|_,_=>none)
  else bif Y7 c y t then (match aP c st x with| .sc (.p (.s l))=>K (.sc (.p (.list (MQ l)))) st|_=>none)
  else (match c.ti y,c.tv t with|some _,some I=>afY I (c.fk t) (aP c st x) λs=>K s st|_,_=>none)
 | .range t x=>(match c.tv t with|some I=>Y8 I (aP c st x) λs=>K s st|none=>none)
 | .next x true=>itK st (aP c st x) K
 | .makeFunc (.func f) first aV=>(match first.toList with
  |[]=>Fi c st aV.toList λms st=>K (.sc (.p (.func (c.key f) ms))) st
  |_=>none)
 | .slice t x lo hi none=>(match c.tv t with|some I=>Y5 c I st (aP c st x) (pc c st lo) (pc c st hi) K|none=>none)
 | .slice t x none (some h) (some m)=>(match c.tv t with|some I=>afZ I (aP c st x) (aP c st h) (aP c st m) λs=>K s st|none=>none)
 | .fieldAddr t x f=>(match c.tv t with|some I=>af0 st I f (aP c st x) λs=>K s st|none=>none)
 | .field t x f=>(match c.tv t with|some I=>apt c I f (aP c st x) λs=>K s st|none=>none)
 | .indexAddr t x i=>(match c.tv t with
  |some I=>(match c.tv I.elem with|some E=>apu c st I E (aP c st x) (aP c st i) λs=>K s st|none=>none)
  |none=>none)
 | .index t x i=>(match c.tv t with|some I=>ixK I (aP c st x) (aP c st i) λs=>K s st|none=>none)
 | .extract x k=>apw (aP c st x) k λs=>K s st
 | .sliceToArrayPointer t x=>(match c.tv t with|some I=>apv st I (aP c st x) K|none=>none)
 | .call cl=>(match cl.callee with
  | .value (.func f)=>(match c.sig (c.key f) with
   |some sg=>anX c (c.key f) sg.1 sg.2.1 sg.2.2 st (ou c st cl.args.toList) (c.ti o.type) K
   |none=>match c.ti o.type with
   |some I=>abn c (c.key f) st (ou c st cl.args.toList) λms st=>anW c (o.dst.getD 0) st (c.key f) ms I K
   |none=>none)
  | .value x=>(match c.dyn with
   |_::_=>af4 c c.dyn st (aP c st x) (ou c st cl.args.toList) (c.ti o.type) K
   |[]=>match c.ti o.type with
   |some I=>SY c st I (aP c st x) (ou c st cl.args.toList) K
   |none=>none)
  | .builtin .len=>(match cl.argTypes.toList with
   |[t]=>(match c.tv t with|some I=>af1 I st (ou c st cl.args.toList) λs=>K s st|none=>none)
   |_=>none)
  | .builtin .append=>(match ou c st cl.args.toList,cl.argTypes.toList with
   |[s,x],[t,t']=>(match c.tv t with
    |some I=>bif I.IK then (match c.tv I.elem with
     |some E=>bif bD t t' then SX I E st x λys=>acX (bL c.bs (o.dst.getD 0)) (o.dst.getD 0) st I E s ys K else Y4 c t' E x λys=>acX (bL c.bs (o.dst.getD 0)) (o.dst.getD 0) st I E s ys K
     |none=>none) else none
    |none=>none)
   |_,_=>none)
  | .builtin .max=>(match afW true (ou c st cl.args.toList) with|some m=>K (.sc (.p m)) st|none=>none)
  |_=>none)
 |_=>none
def Y9 (all:List Oper)(o:Oper)(st:St)(K:Bool->St->Option R):Option R:=match o.guard with
 |none=>K true st
 |some (j,want)=>match all[j]? with
  |some p=>(match p.dst with
   |some t=>(match au st.fr t with
    | .sc (.p (.b v))=>(match v with
     |true=>(match st with|⟨p,q,r,m⟩=>Qs r t (.sc (.p (.b true))) λr=>K want ⟨p,q,r,m⟩)
     |false=>(match st with|⟨p,q,r,m⟩=>Qs r t (.sc (.p (.b false))) λr=>K (!want) ⟨p,q,r,m⟩))
    | .skip=>K false st
    |_=>none)
   |none=>none)
  |none=>none
def af5 (c:Ctx)(all:List Oper)(o:Oper)(st:St)(K:St->Option R):Option R:=Y9 all o st λgo st=>
  bif go then opK c o st λs st=>bB c st o.dst s K
  else bB c st o.dst .skip K
def GY (c:Ctx)(all:List Oper):List Oper->St->(St->Option R)->Option R
 |[],st,K=>K st
 |o::r,st,K=>af5 c all o st λst=>GY c all r st K
def eI (st:St):List (Nat×Nat)->List (Nat×OK)->(List MV->Option R)->Option R
 |_,[],K=>K []
 |ps,(t,k)::r,K=>match k,au st.fr t with
  | .sc k,.sc l=>mC st ps [k] [l] λms ps=>eI st ps r λns=>(match app ms ns with|some l=>K l|none=>none)
  | .ag ks,.ag ls=>mC st ps ks ls λms ps=>eI st ps r λns=>(match app ms ns with|some l=>K l|none=>none)
  | .box ks,.box ls=>mC st ps ks ls λms ps=>eI st ps r λns=>(match app ms ns with|some l=>K l|none=>none)
  | .mp s,.box [.mp s' es]=>bif msB s s' then eI st ps r λns=>K (.list es::ns) else none
  | .pt root off,.ptr af6 V0=>bif bD root af6&&(bD off V0&&(!DN root&&IZ (au st.fr root))) then eI st ps r K else none
  |_,_=>none
def V1 (st:St)(t:Nat)(s:Slot)(K:St->Option R):Option R:=match st with|⟨p,q,r,m⟩=>Qs r t s λr=>K ⟨p,q,r,m⟩
def af7:List (Nat×OK)->List MV->St->(St->Option R)->Option R
 |[],ms,st,K=>gN ms (K st)
 |(t,k)::r,ms,st,K=>match k,st with
  | .pt root off,⟨p,q,fr,m⟩=>bif !DN root&&(IZ (au fr root)&&!cY (au fr t)) then Qs fr t (.ptr root off) λfr=>af7 r ms ⟨p,q,fr,m⟩ K else none
  |_,_=>none
def qm (st:St):List (Nat×OK)->List MV->(St->Option R)->Option R
 |[],ms,K=>gN ms (K st)
 |(t,k)::r,ms,K=>match k with
  | .sc k=>cZ st [k] ms λls ms st=>(match ls with|[l]=>V1 st t (.sc l) λst=>qm st r ms K|_=>none)
  | .ag ks=>cZ st ks ms λls ms st=>V1 st t (.ag ls) λst=>qm st r ms K
  | .box ks=>bif DN t&&!bL st.cX (posOf t) then none else cZ st ks ms λls ms st=>V1 st t (.box ls) λst=>qm st r ms K
  | .mp s=>bif DN t then none else gC ms λm ms=>gL m λes=>V1 st t (.box [.mp s es]) λst=>qm st r ms K
  | .pt root off=>af7 ((t,.pt root off)::r) ms st K
end
def eo:List (Nat×OK)->List Nat
 |[]=>[]
 |(t,_)::r=>t::eo r
def cn:List (Nat×OK)->List Nat
 |[]=>[]
 |(_,.sc k)::r=>bI [k]++cn r
 |(_,.ag ks)::r=>bI ks++cn r
 |(_,.box ks)::r=>bI ks++cn r
 |(_,.mp _)::r=>cn r
 |(_,.pt _ _)::r=>cn r
def minus:List Nat->List Nat->List Nat
 |[],_=>[]
 |k::r,l=>bif bL l k then minus r l else k::minus r l
def xK {R:Type}(ps:List Nat):List aF->(List aF->Option R)->Option R
 |[],K=>K []
 |l::r,K=>(match l with
  | .own g=>bif bL ps g then xK ps r λr=>K (.own g::r) else xK ps r λr=>K (.un::r)
  |l=>xK ps r λr=>K (l::r))
def Rz {R:Type}(ps:List Nat)(s:Slot)(K:Slot->Option R):Option R:=match s with
 | .sc (.own g)=>bif bL ps g then K (.sc (.own g)) else K (.sc .un)
 | .ag cs=>xK ps cs λcs=>K (.ag cs)
 | .tg cs=>xK ps cs λcs=>K (.tg cs)
 | .box cs=>xK ps cs λcs=>K (.box cs)
 |s=>K s
def nFr {R:Type}(ps:List Nat):Fr->(Fr->Option R)->Option R
 |[],K=>K []
 |(k,s)::r,K=>Rz ps s λs=>nFr ps r λr=>K ((k,s)::r)
def RB {R:Type}(ks fs qs:List Nat):List (Nat×pC)->(List (Nat×pC)->Option R)->Option R
 |[],K=>K []
 |(k,o)::r,K=>bif bL ks k then RB ks fs qs r λr=>(bif bL fs k&&!bL qs k then K ((k,⟨o.ty,true,o.xs⟩)::r) else K ((k,o)::r)) else RB ks fs qs r K
def fD (c:Ctx):List (Nat×OK)->Bool
 |[]=>true
 |(_,.sc k)::r=>bif iR c [k] then fD c r else false
 |(_,.ag ks)::r=>bif iR c ks then fD c r else false
 |(_,.box ks)::r=>bif iR c ks then fD c r else false
 |(_,.mp _)::r=>fD c r
 |(_,.pt _ _)::r=>fD c r
def Za {R:Type}(c:Ctx)(h:fV)(st:St)(K:St->St->Option R):Option R:=match st with
 |⟨p,q,r,m⟩=>
  bif !fD c h.all||meets (eo h.all) p||meets (cn h.all) q||meets (eo h.all) h.cX||meets (cn h.all) h.cV then none else
  match app h.cX p,app h.cV q with
  |some p',some q'=>
   pick h.cX r λrp=>nFr h.cV rp λrp=>pick (eo h.all) r λro=>
   RB h.cV h.iw q m λmp=>RB (cn h.all) h.iw q m λmo=>
   (match app rp ro,app mp mo with
    |some r1,some m1=>K ⟨p',q',r1,m1⟩ ⟨p',q',rp,mp⟩
    |_,_=>none)
  |_,_=>none
def I3 {R:Type}(c:Ctx)(h:fV)(st:St)(K:St->St->Option R):Option R:=Za c h st λaZ eG=>MO (λt=>bL h.cX t||bL (eo h.all) t) st.fr st.fr aZ.fr λfr=>K ⟨aZ.cX,aZ.cV,fr,aZ.aT⟩ eG
def FF (st eG:St):St:=match st,eG with|⟨p,q,_,_⟩,⟨_,_,r,m⟩=>⟨p,q,r,m⟩
def guarded:List Oper->Bool
 |[]=>false
 |o::r=>match o.guard with|some _=>true|none=>guarded r
def s6:List Oper->List Nat
 |[]=>[]
 |o::r=>match o.op,o.dst with
  | .alloc _,some d=>d::s6 r
  | .box _ _,some d=>d::s6 r
  | .makeMap _ _,some d=>d::s6 r
  | .range _ _,some d=>d::s6 r
  |_,_=>s6 r
def FG {R:Type}(ds:List Nat)(st:St)(K:St->Option R):Option R:=match st with|⟨p,q,r,m⟩=>yW ds r λr1=>MO (λt=>!bL ds t) r r r1 λr=>K ⟨p,q,r,m⟩
def gp:Code->Option Nat
 | .region id _ _=>some id
 | .seq a b=>match gp a with|some n=>some n|none=>gp b
 | .cond _ a b=>match gp a with|some n=>some n|none=>gp b
 | .block _ b| .loop b| .scope b=>gp b
 |_=>none
def uni:List Nat->List Nat->List Nat
 |[],l=>l
 |k::r,l=>bif bL l k then uni r l else k::uni r l
def mX:Code->List Nat
 | .skip| .region _ _ _=>[0]
 | .seq a b=>bif bL (mX a) 0 then uni (minus (mX a) [0]) (mX b) else mX a
 | .cond _ a b=>uni (mX a) (mX b)
 | .block id b=>bif bL (mX b) (id+2) then uni (minus (mX b) [0,id+2]) [0] else mX b
 | .loop b=>minus (mX b) [0]
 | .exit id=>[id+2]
 | .ret=>[1]
 |_=>[]
def rY (o:Oper):Bool:=match o.op with
 | .load _ _=>true
 | .lookup _ _ _ false=>true
 |_=>false
def mR (c:Ctx)(o:Oper):Bool:=rY o||(match o.op with
 | .convert y _ _=>isLT c y
 |_=>false)
def EK (o:Oper):Option Nat:=match o.op with
 | .lookup t _ _ false=>some t
 |_=>none
def akR (o:Oper):Option Nat:=match o.op with
 | .mapEntry t _ _=>some t
 |_=>none
def xL (o p:Oper):Bool:=match EK o,akR p with
 |some t,some t'=>bD t t'
 |_,_=>false
def jE (o:Oper):Bool:=match o.op with
 | .move _| .assign _| .nilCheck _| .pick _ _ _| .build _ _| .load _ _| .binOp _ _ _ _ _| .unOp _ _ _| .convert _ _ _| .makeFunc _ _ _| .slice _ _ _ _ _| .fieldAddr _ _ _| .field _ _ _| .indexAddr _ _ _| .index _ _ _| .extract _ _| .lookup _ _ _ false=>true
 | .call cl=>(match cl.callee with| .builtin .len| .builtin .min| .builtin .max| .builtin .real| .builtin .imag| .builtin .complex=>true|_=>false)
 |_=>false
def GZ (c:Ctx)(o:Oper):Bool:=match o.op with
 | .alloc _| .box _ _| .buildSlice _ _ _| .makeSlice _ _ _=>true
 | .call cl=>(match cl.callee with| .value (.func f)=>!c.cS (c.key f)| .value _=>(match c.dyn with|[]=>true|_::_=>false)|_=>false)
 |_=>false
def Zd:Op->List Operand
 | .build _ ps=>ps.toList.map (·.2)
 | .buildSlice _ _ ps=>ps.toList.map (·.2)
 | .makeFunc _ first captured=>first.toList++captured.toList
 | .slice _ x l h m=>x::(l.toList++(h.toList++m.toList))
 | .call c=>(match c.callee with| .value f=>[f]| .invoke r _=>[r]| .builtin _=>[])++c.args.toList
 |op=>op.operands.toList
def V2:List Operand->List Nat
 |[]=>[]
 | .tmp t::r=>t::V2 r
 |_::r=>V2 r
def S0 (ops:List Oper)(o:Oper):List Nat:=V2 (Zd o.op)++(match o.guard with|some (g,_)=>(match ops[g]? with|some p=>p.dst.toList|none=>[])|none=>[])
def MX (ops:List Oper)(x y:Oper):Bool:=(match x.dst with|some d=>!bL (S0 ops y) d&&(match y.dst with|some d'=>!bD d' d|none=>true)|none=>true)&& (match y.dst with|some d=>!bL (S0 ops x) d|none=>true)
def MY (e:Edge):Bool:=match e.ground with
 | .textOnly _=>false
 | .gcOnly _=>false
 |_=>true
def I4 (o:Oper)(p:Nat->Bool):Bool:=o.after.toList.any λe=>MY e&&p e.on
def atn (ops:List Oper):Bool:=ops.all λo=>match o.op with| .select _ _=>false|_=>true
def S1 (c:Ctx)(o:Oper):Bool:=jE o||GZ c o
def tp (c:Ctx)(ops:List Oper)(o:Oper):List Nat->List Nat->Bool
 |_,[]=>true
 |D,y::r=>match ops[y]? with
  |some p=>bif I4 p (bL D) then tp c ops o (y::D) r else MX ops o p&&(!mR c o||S1 c p||still c o||xL o p)&&tp c ops o D r
  |none=>false
def Lp (o:Oper):Bool:=match o.op,o.dst,o.guard with
 | .alloc _,some _,none=>o.after.toList.all λe=>!MY e
 |_,_,_=>false
def apz (c:Ctx)(o:Oper):Bool:=match o.op with
 | .alloc t=>(match c.tv t with|some _=>true|none=>false)
 |_=>false
def apA (ops:List Oper)(i:Nat):Bool:=match ops[i]? with
 |some o=>Lp o
 |none=>false
def tq (c:Ctx)(ops:List Oper):List Nat->List Nat->Bool
 |_,[]=>true
 |pre,x::rest=>(match ops[x]? with
  |some o=>(o.after.toList.all λe=>!MY e||bL pre e.on)&&!bL pre x&&!bL rest x&& (bif jE o&&!iW c o then tp c ops o [x] rest
    else (rest.all λy=>match ops[y]? with
     |some p=>bif Lp p then MX ops p o&&apz c p else I4 p (λi=>bD i x||(bL rest i&&!apA ops i))
     |none=>false))&&tq c ops (x::pre) rest
  |none=>false)
def Ad (c:Ctx)(ops:Array Oper)(ord:List Nat):Bool:=atn ops.toList&&bD ord.length ops.toList.length&&(List.range ops.toList.length).all (bL ord)&&tq c ops.toList [] ord
def Mb {R:Type}(c:Ctx)(id:Nat)(ops l:List Oper)(st:St)(K:St->Option R):Option R:=bif guarded ops then
  I3 c (c.eV id) st λaZ eG=>bd (FG (s6 ops) aZ λaZ=>GY c ops l aZ λst=>eI st [] ((c.eV id).ex 0) some) λvs=>qm (FF st eG) ((c.eV id).ex 0) vs K
 else FG (s6 ops) st λst=>GY c ops l st K
def s7 (ops:List Oper):List Nat->Option (List Oper)
 |[]=>some []
 |i::r=>match ops[i]?,s7 ops r with
  |some o,some l=>some (o::l)
  |_,_=>none
def rZ {S:Type}(step:S->MV->Option (Bool×S)):S->List MV->Option (List MV×S)
 |s,[]=>some ([],s)
 |s,x::xs=>match step s x with
  |some (b,s1)=>(match rZ step s1 xs with|some (ys,s2)=>some (bif b then ys else x::ys,s2)|none=>none)
  |none=>none
def af8 (g:Nat->List MV->Option MV)(k:Nat)(aV:List MV):Unit->MV->Option (Bool×Unit):=λ_ x=>match g k (x::aV) with
 |some (.b b)=>some (b,())
 |_=>none
def V3 (g:Nat->List MV->Option MV)(k:Nat)(aV:List MV):List MV->MV->Option (Bool×List MV):=λls x=>match g k (x::(aV++[.cell (.func 0 ls)])) with
 |some (.eH (.b b) outs)=>some (b,outs)
 |_=>none
def acZ:MV->Bool
 | .agg _=>true
 |_=>false
def af9 {R:Type}(c:Ctx)(h f:Nat)(aV:List Operand)(x:Operand)(o1 o2:Oper)(st:St)(K:St->Option R):Option R:=
 let fin (ys:List MV) (st:St):Option R:=jD st (o2.dst.getD 0) ⟨c.mV (c.key h),false,ys⟩ λst=>bB c st o2.dst (.sc (.own (o2.dst.getD 0))) λst=>bB c st o1.dst (.sc .un) K;match c.sig (c.key f) with
 |none=>bif c.cS (c.key f) then none else Fi c st aV λms st=>GW c (c.key h) st (aP c st x) λm st=>gF m λxs=>bS (xs.all acZ)<|bd (rZ (af8 c.g (c.key f) ms) () xs) λp=>fin p.1 st
 |some sg=>Fi c st aV.dropLast λms st=>GW c (c.key h) st (aP c st x) λm st=>gF m λxs=>bS (xs.all acZ)<| (match aV.getLast? with
  |some y=>(match aP c st y with
   | .ptr root 0=>(match au st.fr root with
    | .box cs=>bif fU cs||bL st.cX root||!iR c sg.2.1||!bD sg.1 (ms.length+1)||!c.cS (c.key f)||!lkB sg.2.1 sg.2.2 then none else
     mC st [] sg.2.1 cs λls ps=>bd (rZ (V3 c.g (c.key f) ms) ls xs) λp=>Ry st root sg.2.1 ps p.2 λst=>fin p.1 st
    |_=>none)
   |_=>none)
  |none=>none)
def KA (c:Ctx):List Oper->List Oper->Option (List Oper×Nat×List Operand×Nat×Operand×Oper×Oper×List Oper)
 |pre,o1::o2::r=>match o1.op,o2.op with
  | .makeFunc (.func f) first aV,.call cl=>(match cl.callee,cl.args.toList,first.toList,o1.dst with
   | .value (.func h),[.tmp x,.tmp y],[],some d=>bif c.SU h&&bD y d&&!bD x d&&!aec c.n d&&!bD (o2.dst.getD d) d then some (pre.reverse,f,aV.toList,h,.tmp x,o1,o2,r) else KA c (o1::pre) (o2::r)
   |_,_,_,_=>KA c (o1::pre) (o2::r))
  |_,_=>KA c (o1::pre) (o2::r)
 |_,_=>none
def MZ:List Oper->Bool
 |[]=>true
 |o::r=>(match o.guard with|none=>MZ r|some _=>false)
def aga {R:Type}(c:Ctx)(id:Nat)(ops:List Oper)(st:St)(K:St->Option R):Option R:=match KA c [] ops with
 |some (pre,f,aV,h,x,o1,o2,post)=>bif MZ ops then FG (s6 ops) st λst=>GY c ops pre st λst=>af9 c h f aV x o1 o2 st λst=>GY c ops post st K else none
 |none=>Mb c id ops ops st K
def fzK {R:Type}(c:Ctx)(ts:List Nat)(st:St)(K:St->Option R):Option R:=match ts with
 |[]=>K st
 |ts=>Fi c st (ts.map .tmp) λ_ st=>K st
def Qv (ops:Array Oper)(A B:Nat):Array Oper:=ops.modify B λo=>{o with after:=o.after.push ⟨A,.data⟩}
def agb (n:Nat)(l:List Nat):Option (List Nat×List Nat×Nat×Nat):=match l.drop (l.length-3) with
 |[m,A,B]=>bif bD A B||(aec n A||aec n B) then none else some (l.take m,(l.drop m).take (l.length-3-m),A,B)
 |_=>none
def agc {R:Type}(c:Ctx)(ops:Array Oper)(l:List Nat)(st:St)(K:St->Option R):Option R:=bif Ad c ops l then (match s7 ops.toList l with
 |some l=>GY c ops.toList l st K
 |none=>none) else none
def M0 {R:Type}[Fg R](c:Ctx)(st:St)(K:St->Option R):Nat->Array Oper->List Nat->Option R
 |0,_,_=>none
 |k+1,ops,l=>bif bD l.length ops.toList.length then agc c ops l st K else (match agb ops.toList.length l with
  |some (o1,o2,A,B)=>both (M0 c st K k (Qv ops A B) o1) (M0 c st K k (Qv ops B A) o2)
  |none=>none)
def ato {R:Type}[Fg R](c:Ctx)(id:Nat)(ops:Array Oper)(ord:List Nat)(st:St)(K:St->Option R):Option R:=bif guarded ops.toList then
  I3 c (c.eV id) st λaZ eG=>bd (FG (s6 ops.toList) aZ λaZ=>M0 c aZ (λst=>eI st [] ((c.eV id).ex 0) some) ord.length ops ord) λvs=>qm (FF st eG) ((c.eV id).ex 0) vs K
 else FG (s6 ops.toList) st λst=>M0 c st K ord.length ops ord
def abr {R:Type}[Fg R](c:Ctx)(id:Nat)(ops:Array Oper)(draw:Bool)(st:St)(K:St->Option R):Option R:=fzK c (c.fz id) st λst=>bif draw then (bif !bD (c.ord id).length ops.toList.length then ato c id ops (c.ord id) st K else bif Ad c ops (c.ord id) then (match s7 ops.toList (c.ord id) with|some l=>Mb c id ops.toList l st K|none=>none) else none)
 else aga c id ops.toList st K
def pT (c:Ctx):Code->(R:Type)->[Fg R]->St->(Nat->St->Option R)->Option R
 | .skip,_,_,st,K=>K 0 st
 | .region id ops d,_,_,st,K=>abr c id ops d st λst=>K 0 st
 | .seq a b,R,_,st,K=>pT c a R st λe st=>bif bD e 0 then pT c b R st K else K e st
 | .cond x a b,R,_,st,K=>(match aP c st x with
  | .sc (.p (.b v))=>
   bif bL (mX a) 0&&bL (mX b) 0 then
    I3 c (c.ft ((gp (.seq a b)).getD 0)) st λaZ eG=>
    bd (eC v (pT c a (Nat×List MV) aZ λe st=>eI st [] ((c.ft ((gp (.seq a b)).getD 0)).ex e) λvs=>some (e,vs)) (pT c b (Nat×List MV) aZ λe st=>eI st [] ((c.ft ((gp (.seq a b)).getD 0)).ex e) λvs=>some (e,vs))) λr=>Qr (uni (mX a) (mX b)) r.1 λe=>qm (FF st eG) ((c.ft ((gp (.seq a b)).getD 0)).ex e) r.2 λst=>K e st
   else eC v (pT c a R st K) (pT c b R st K)
  |_=>none)
 | .block id b,R,_,st,K=>pT c b R st λe st=>bif bD e (id+2) then K 0 st else K e st
 | .loop b,_,_,st,K=>
  I3 c (c.eW ((gp b).getD 0)) st λaZ eG=>eI aZ [] (c.eW ((gp b).getD 0)).outs λvs=>
   bd (oT c.fuel (λms=>qm eG (c.eW ((gp b).getD 0)).outs ms λst=>pT c b (Sum (List MV) (Nat×List MV)) st λe st=>
    bif bD e 0 then eI st [] (c.eW ((gp b).getD 0)).outs λvs=>some (.inl vs) else eI st [] ((c.eW ((gp b).getD 0)).ex e) λvs=>some (.inr (e,vs))) vs)
    λr=>Qr (minus (mX b) [0]) r.1 λe=>qm (FF st eG) ((c.eW ((gp b).getD 0)).ex e) r.2 λst=>K e st
 | .exit id,_,_,st,K=>K (id+2) st
 | .ret,_,_,st,K=>K 1 st
 |_,_,_,_,_=>none
def FH {R:Type}(c:Ctx):List Nat->Nat->List MV->(Fr->List MV->Option R)->Option R
 |[],_,ms,K=>K [] ms
 |t::ts,n,ms,K=>match c.tv t with
  |some I=>gC ms λm r=>xJ I m λs=>FH c ts (n+1) r λfr ms=>K ((n,s)::fr) ms
  |none=>none
def Ze {R:Type}:List (List Kd)->Nat->List MV->(Fr->Option R)->Option R
 |[],_,ms,K=>gN ms (K [])
 |ks::r,n,ms,K=>gC ms λm ms=>gP m λcs=>xH ks cs λcs=>Ze r (n+1) ms λfr=>K ((n,.MM cs)::fr)
def V4 {R:Type}(c:Ctx)(st:St):List ResultVar->(List MV->Option R)->Option R
 |[],K=>K []
 |r::rs,K=>
  let go (s:Slot):Option R:=match s with
   | .sc (.p m)=>V4 c st rs λms=>K (m::ms)
   |_=>none
  match r with
  | .tmp t=>go (au st.fr t)
  | .cell a t=>match c.tv t,au st.fr a with
   |some I,.box cs=>bif fU cs||DN a then none else kz I cs 0 λs=>go s
   |_,_=>none
def Qw {R:Type}(c:Ctx)(st:St)(fresh:Option Nat):List ResultVar->(List MV->Option R)->Option R
 |[],K=>K []
 |r::rs,K=>
  let go (s:Slot):Option R:=match fresh with
   |some ty=>(match s with
    | .sc (.own f)=>(match aN st.aT f with|some o=>bif o.iw||!bD o.ty ty then none else V4 c st rs λms=>K (.fresh o.xs::ms)|none=>none)
    | .sc .nil=>V4 c st rs λms=>K (.fresh []::ms)
    |_=>none)
   |none=>pD st s λm st=>Qw c st fresh rs λms=>K (m::ms)
  match r with
  | .tmp t=>(match fresh,au st.fr t with
   |none,.ptr _ _=>Fi c st [.tmp t] λms st=>gC ms λm r=>gN r<|Qw c st fresh rs λms=>K (m::ms)
   |_,s=>go s)
  | .cell a t=>match c.tv t,au st.fr a with
   |some I,.box cs=>bif fU cs||DN a then none else kz I cs 0 λs=>go s
   |_,_=>none
def ac0 {R:Type}(c:Ctx)(st:St):List ResultVar->(List MV->St->Option R)->Option R
 |[],K=>K [] st
 |r::rs,K=>(match r with
  | .tmp t=>pD st (au st.fr t) λm st=>ac0 c st rs λms st=>K (m::ms) st
  | .cell a t=>(match c.tv t,au st.fr a with
   |some I,.box cs=>bif fU cs||DN a then none else kz I cs 0 λs=>pD st s λm st=>ac0 c st rs λms st=>K (m::ms) st
   |_,_=>none))
def atp:List MV->MV
 |[m]=>m
 |ms=> .cw ms
def KB (c:Ctx)(aV:List (List Kd))(pos:Nat)(ks ko:List LK)(f:Func)(args:List MV):Option MV:=match f.body,args[pos]? with
 |some b,some (.cell (.func off ls))=>bif !iR c ks||!iR c ko||!aec pos 999 then none else
  FH c f.params.toList 0 (args.set pos (.rp [])) λfr ms=>Ze aV f.params.size ms λz8=>
   (match app fr z8 with
   |some fr=>cZ ⟨[],[],[],[]⟩ ks ls λcs rest DQ=>gN rest<| pT c b MV ⟨[pos],[],(1000000+off *1000+pos,.box cs)::fr,DQ.aT⟩ λe st=>
     bif aec e 1 then ac0 c st f.results.toList λms st=>(match au st.fr (1000000+off *1000+pos) with
      | .box cs=>bif fU cs then none else mC st [] ko cs λouts _=>some (.eH (atp ms) outs)
      |_=>none) else none
   |none=>none)
 |_,_=>none
def agd (X:Code->St->(Nat->St->Option MV)->Option MV)(c:Ctx)(aV:List (List Kd))(fresh:Option Nat)(f:Func)(args:List MV):Option MV:=match f.body with
 |some b=>FH c f.params.toList 0 args λfr ms=>Ze aV f.params.size ms λz8=>
  match app fr z8 with
  |some fr=>X b ⟨[],[],fr,[]⟩ λe st=>bif aec e 1 then Qw c st fresh f.results.toList λms=>(match ms with|[m]=>some m|ms=>some (.cw ms)) else none
  |none=>none
 |none=>none
def rN (c:Ctx)(aV:List (List Kd))(fresh:Option Nat)(f:Func)(args:List MV):Option MV:=agd (λb st K=>pT c b MV st K) c aV fresh f args
def age (c:Ctx)(ty:Nat)(f:Func)(args:List MV):Option MV:=match f.body,args,f.params.toList with
 |some b,m0::ms,t0::ts=>(match c.tv t0 with
  |some I=>bif I.IK&&(bD I.elem ty&&bD ts.length 2) then gF m0 λxs=>FH c ts 1 ms λfr rest=>gN rest<| pT c b MV ⟨[],[],(0,.sc (.own 5000000))::fr,[(5000000,⟨ty,false,xs⟩)]⟩ λe st=>
    bif aec e 1 then Qw c st (some ty) f.results.toList λms=>(match ms with|[m]=>some m|ms=>some (.cw ms)) else none
   else none
  |none=>none)
 |_,_,_=>none
end
def ju (w:World)(o:Obj):(w.alloc o).heap[w.heap.size]? =some o:=by show (w.heap.push o)[w.heap.size]? =some o;simp
theorem qn (w:World)(o:Obj)(i:Nat)(h:i<w.heap.size):(w.alloc o).heap[i]? =w.heap[i]? :=by show (w.heap.push o)[i]? =w.heap[i]?;grind
def MV.one:MV->Bool
 | .h _ _ _| .agg _| .cw _| .fresh _| .cell _| .eH _ _=>false
 |_=>true
abbrev Ph:=Nat->Nat->Option Value
section
variable (key:Nat->Nat) (φ:Ph)
mutual
inductive jI:List Value->MV->Prop
 |b (x:Bool):jI [.bool x] (.b x)
 |i (k:IntKind) (n:Int):jI [.int k n] (.i k n)
 |s (bs:ByteArray):jI [.string bs] (.s bs.data.toList)
 |h (k:IntKind) (n:Nat) (x:List Int):x.length=n+2->jI (x.map (.int k)) (.h k n x)
 |raw (v:Value):v.oneCell'=true->jI [v] (.raw v)
 |list (a:Option Addr) (cap:Nat) (xs:List MV) (bg off IM:Nat) (f:Nat->List Value): xs.length<=cap->(0<xs.length->a=some ⟨bg,off,none⟩)->(∀i,i<xs.length->(f i).length=IM)-> (∀i j,i<xs.length->j<IM->φ bg (off+i *IM+j)=(f i)[j]?)-> (∀(i:Nat) (h:i<xs.length),jI (f i) xs[i])->jI [.slice a xs.length cap] (.list xs)
 |agg (vs:List Value) (ms:List MV):il vs ms->jI vs (.agg ms)
 |func (f k:Nat) (cap:Array Value) (ms:List MV):key f=k->il cap.toList ms->(∀m∈ms,m.one=true)->jI [.func (.func f) #[] cap] (.func k ms)
 |rp (bg off:Nat) (vs:List Value) (ms:List MV):il vs ms->(∀j,j<vs.length->φ bg (off+j)=vs[j]?)->jI [.pointer (some ⟨bg,off,none⟩)] (.rp ms)
 |clip (a:Option Addr) (xs:List MV):jI [.slice a xs.length xs.length] (.list xs)->jI [.slice a xs.length xs.length] (.clip xs)
inductive il:List Value->List MV->Prop
 |nil:il [] []
 |cons (v:List Value) (m:MV) (vs:List Value) (ms:List MV):jI v m->il vs ms->il (v++vs) (m::ms)
end
end
def iZ (φ φ':Ph):Prop:= ∀b o v,φ b o=some v->φ' b o=some v
def iZ.refl (φ:Ph):iZ φ φ:=λ_ _ _ h=>h
def iZ.G0 {φ φ':Ph}(h:iZ φ φ'){b j:Nat}{cs:List Value}(e:φ b j=cs[j]?)(hj:j<cs.length):φ' b j=cs[j]? :=by rw [BY hj] at e⊢;exact h _ _ _ e
theorem iZ.trans {φ φ' φ'':Ph}(h:iZ φ φ') (h':iZ φ' φ''):iZ φ φ'':=λb o v e=>h' b o v (h b o v e)
section
variable {key:Nat->Nat} {φ φ':Ph}(hle:iZ φ φ')
include hle
def S2 {b o:Nat}{vs:List Value}{j:Nat}(hj:j<vs.length)(h:φ b o=vs[j]?):φ' b o=vs[j]? :=by rw [BY hj] at h⊢;exact hle _ _ _ h
mutual
theorem jI.mono {vs:List Value}{m:MV}:jI key φ vs m->jI key φ' vs m
 | .b x=> .b x
 | .i k n=> .i k n
 | .s bs=> .s bs
 | .h k n x h=> .h k n x h
 | .raw v h=> .raw v h
 | .list a cap xs bg off IM f h1 h2 h3 h4 h5=> .list a cap xs bg off IM f h1 h2 h3 (λi j hi hj=>S2 hle (by grind) (h4 i j hi hj)) (λi hi=>(h5 i hi).mono)
 | .agg vs ms h=> .agg vs ms h.mono
 | .func f k cap ms h1 h2 h3=> .func f k cap ms h1 h2.mono h3
 | .rp bg off vs ms h1 h2=> .rp bg off vs ms h1.mono (λj hj=>S2 hle hj (h2 j hj))
 | .clip a xs h=> .clip a xs h.mono
theorem il.mono {vs:List Value}{ms:List MV}:il key φ vs ms->il key φ' vs ms
 | .nil=> .nil
 | .cons v m vs ms h1 h2=> .cons v m vs ms h1.mono h2.mono
end
end
section
variable {key:Nat->Nat}{φ:Ph}
mutual
theorem jI.cells {vs:List Value}{m:MV}:jI key φ vs m-> ∀v∈vs,v.oneCell'=true
 | .b x=>by simp [By]
 | .i k n=>by simp [By]
 | .s bs=>by simp [By]
 | .h k n x h=>by intro v hv;obtain ⟨b,_,rfl⟩:=ak3.1 hv;rfl
 | .raw v h=>by simpa using h
 | .list .. =>by simp [By]
 | .agg vs ms h=>h.cells
 | .func .. =>by simp [By]
 | .rp .. =>by simp [By]
 | .clip .. =>by simp [By]
theorem il.cells {vs:List Value}{ms:List MV}:il key φ vs ms-> ∀v∈vs,v.oneCell'=true
 | .nil=>abu
 | .cons v m vs ms h1 h2=>by
  intro x hx;rcases ait.1 hx with hx|hx
  .exact h1.cells x hx
  .exact h2.cells x hx
end
mutual
theorem jI.width {vs:List Value}{m:MV}:jI key φ vs m->vs.length=m.w
 | .b x=>by simp [MV.w]
 | .i k n=>by simp [MV.w]
 | .s bs=>by simp [MV.w]
 | .h k n x h=>by simp [MV.w,h]
 | .raw v h=>by simp [MV.w]
 | .list .. =>by simp [MV.w]
 | .agg vs ms h=>by rw [h.width];simp [MV.w]
 | .func .. =>by simp [MV.w]
 | .rp .. =>by simp [MV.w]
 | .clip .. =>by simp [MV.w]
theorem il.width {vs:List Value}{ms:List MV}:il key φ vs ms->vs.length=MV.wl ms
 | .nil=>by simp [MV.wl]
 | .cons v m vs ms h1 h2=>by simp [MV.wl,h1.width,h2.width]
end
end
theorem jI.one {key:Nat->Nat} {φ:Ph}{vs:List Value}{m:MV}(h:jI key φ vs m)(hm:m.one=true): ∃v,vs=[v]/\v.oneCell'=true:=by have hc:=h.cells;cases h<;>simp [MV.one] at hm<;>exact (by grind)
def cQ (key:Nat->Nat) (φ:Ph)(v:Value):MV->Prop
 | .h k n x=>v= .agg (x.map (akG k)).toArray/\x.length=n+2
 | .agg ms=> ∃arr,v= .agg arr/\il key φ arr.toList ms
 |m=>m.one=true/\jI key φ [v] m
theorem cQ.mono {key:Nat->Nat} {φ φ':Ph}(hle:iZ φ φ'){v:Value}{m:MV}(h:cQ key φ v m):cQ key φ' v m:=by cases m<;>simp only [cQ] at h⊢ <;>first|exact h|exact ⟨h.1,h.2.mono hle⟩|(have ⟨arr,h1,h2⟩:=h;exact ⟨arr,h1,h2.mono hle⟩)
structure Env where
 key:Nat->Nat
 φ:Ph
 E:Nat->Value
 B:Nat->Nat
 m:List (Nat×pC)
def bN (k:IntKind)(x:List Int):List Value:=x.map (akG k)
theorem dj (k:IntKind)(x:List Int):(bN k x).length=x.length:=by simp [bN]
def bp (e:Env)(vs:List Value):aF->Prop
 | .un=> ∃v,vs=[v]/\v.oneCell'=true
 | .p x=>x.one=true/\jI e.key e.φ vs x
 | .hs k n x=>vs=bN k x/\x.length=n+2
 | .nil=>vs=[.slice none 0 0]
 | .mp _ _=>False
 | .own f=> ∃v,vs=[v]/\v.oneCell'=true/\(∀o,aN e.m f=some o->v=e.E f)
def av (e:Env):List Value->List aF->Prop
 |vs,[]=>vs=[]
 |vs,l::ls=> ∃v r,vs=v++r/\bp e v l/\av e r ls
def xM:aF->Bool
 | .p _| .hs _ _ _=>true
 |_=>false
def jv:List aF->Bool
 |[]=>true
 |l::r=>xM l&&jv r
def M1 (st:Bool)(x:MV)(cs:List aF):Prop:=(∃ms,dz cs=some ms/\yx st ms=some x)/\ ∀m,aF.p m∈cs->m.one=true
def G3:Slot->Bool
 | .sc l=>xM l
 | .ag cs=>jv cs
 |_=>false
mutual
def ai (e:Env)(v:Value):Slot->Prop
 | .skip=>v=undef
 | .sc l=>match l with
  | .un=>True
  | .hs k n x=>v= .agg (bN k x).toArray/\x.length=n+2
  |l=>bp e [v] l
 | .ag cs=> ∃arr,v= .agg arr/\av e arr.toList cs
 | .tg cs=> ∃arr,v= .tuple arr/\av e arr.toList cs
 | .cw vs=> ∃arr,v= .tuple arr/\mY e arr.toList vs
 | .box _=>False
 | .MM cs=> ∃bg o vs,v= .pointer (some ⟨bg,o,none⟩)/\av e vs cs/\jv cs=true/\(∀j,j<vs.length->e.φ bg (o+j)=vs[j]?)
 | .ptr r o=>v= .pointer (some ⟨e.B r,o,none⟩)
 | .Cl r=>v= .map (some (e.B r))
 | .rp cs off=> ∃bg o vs,v= .pointer (some ⟨bg,o+off,none⟩)/\av e vs cs/\jv cs=true/\(∀j,j<vs.length->e.φ bg (o+j)=vs[j]?)
 | .hp r o n i=>v= .pointer (some ⟨e.B r,o+i,none⟩)/\i<n+2
 | .ep f i off st cs=> ∀o,aN e.m f=some o-> ∃bg cap,e.E f= .slice (some ⟨bg,0,none⟩) o.xs.length cap/\(∃x,o.xs[i]? =some x/\M1 st x cs)/\ v= .pointer (some ⟨bg,i *FB cs+off,none⟩)
def mY (e:Env):List Value->List Slot->Prop
 |vs,[]=>vs=[]
 |vs,s::ss=> ∃v r,vs=v::r/\ai e v s/\G3 s=true/\mY e r ss
end
def agf:aF->List Value->Bool
 | .p (.b x),[.bool y]=>x==y
 | .p (.i k n),[.int k' n']=>decide (k=k')&&decide (n=n')
 | .p (.s l),[.string s]=>decide (l=s.data.toList)
 | .p (.raw v),[w]=>match v,w with
  | .nilFunc,.nilFunc=>true
  | .nilIface,.nilIface=>true
  | .pointer none,.pointer none=>true
  |_,_=>false
 | .nil,[.slice none 0 0]=>true
 | .un,[v]=>v.oneCell'
 | .hs k n x,vs=>(vs.length==n+2)&&(x.length==n+2)&&(vs.zip x).all λp=>match p.1 with| .int k' v=>decide (k'=k)&&decide (v=p.2)|_=>false
 |_,_=>false
def xN:List aF->List Value->Bool
 |[],vs=>vs.isEmpty
 |l::ls,vs=>agf l (vs.take l.w)&&xN ls (vs.drop l.w)&&decide (l.w<=vs.length)
def gV:Fr->Nat->Slot->Fr
 |[],t,v=>[(t,v)]
 |(k,s)::r,t,v=>bif bD k t then (k,v)::r else (k,s)::gV r t v
def cb (ds:List Nat):Fr->Fr
 |[]=>[]
 |(k,s)::r=>bif dP s||bL ds k then cb ds r else (k,s)::cb ds r
def qo (ks:List Nat):Fr->Fr
 |[]=>[]
 |(k,s)::r=>bif bL ks k&&!dP s then (k,s)::qo ks r else qo ks r
def dh:List (Nat×pC)->Nat->pC->List (Nat×pC)
 |[],t,v=>[(t,v)]
 |(k,s)::r,t,v=>bif bD k t then (k,v)::r else (k,s)::dh r t v
def S3 (f:Nat):aF->aF
 | .own g=>bif bD g f then .un else .own g
 |l=>l
def GU (f:Nat):Slot->Slot
 | .sc l=> .sc (S3 f l)
 | .ag cs=> .ag (cs.map (S3 f))
 | .tg cs=> .tg (cs.map (S3 f))
 | .box cs=> .box (cs.map (S3 f))
 | .ep g i o b cs=>bif bD g f then .sc .un else .ep g i o b cs
 |s=>s
def mZ (f:Nat)(r:Fr):Fr:=r.map λp=>(p.1,GU f p.2)
def Qx (f:Nat)(r:Fr):Fr:=r.map λp=>(p.1,match p.2 with
 | .ep g i o b cs=>bif bD g f then .sc .un else .ep g i o b cs
 |s=>s)
def YR (ps:List Nat):aF->aF
 | .own g=>bif bL ps g then .own g else .un
 |l=>l
def Qy (ps:List Nat):Slot->Slot
 | .sc l=> .sc (YR ps l)
 | .ag cs=> .ag (cs.map (YR ps))
 | .tg cs=> .tg (cs.map (YR ps))
 | .box cs=> .box (cs.map (YR ps))
 |s=>s
def Zf (ps:List Nat)(r:Fr):Fr:=r.map λp=>(p.1,Qy ps p.2)
def vO (ks fs qs:List Nat):List (Nat×pC)->List (Nat×pC)
 |[]=>[]
 |(k,o)::r=>bif bL ks k then (bif bL fs k&&!bL qs k then (k,⟨o.ty,true,o.xs⟩) else (k,o))::vO ks fs qs r else vO ks fs qs r
section
variable {R:Type}
def force_eq (s:Slot)(K:Slot->Option R):force s K=K s:=by cases s<;>rfl
def pe (r:Fr)(t:Nat)(s:Slot)(K:Fr->Option R):Qs r t s K=K (gV r t s):=by
 induction r generalizing K with
 |nil=>rfl
 |cons p r ih=>grind [Qs,gV,bD]
def KC (ds:List Nat)(r:Fr)(K:Fr->Option R):yW ds r K=K (cb ds r):=by
 induction r generalizing K with
 |nil=>rfl
 |cons p r ih=>grind [yW,cb,dP,bL]
def akS (ks:List Nat)(r:Fr)(K:Fr->Option R):pick ks r K=K (qo ks r):=by
 induction r generalizing K with
 |nil=>rfl
 |cons p r ih=>grind [pick,qo,bL,dP]
theorem qp (r:List (Nat×pC))(t:Nat)(s:pC)(K:List (Nat×pC)->Option R):VW r t s K=K (dh r t s):=by
 induction r generalizing K with
 |nil=>rfl
 |cons p r ih=>grind [VW,dh,bD]
theorem FI (f:Nat)(cs:List aF)(K:List aF->Option R):xI f cs K=K (cs.map (S3 f)):=by
 induction cs generalizing K with
 |nil=>rfl
 |cons l r ih=>cases l<;>simp only [xI,afw,S3,ih];grind
theorem agh (f:Nat)(s:Slot)(K:Slot->Option R):MN f s K=K (GU f s):=by
 cases s with
 |sc l=>cases l<;>simp only [MN,GU,S3];grind
 |ag cs=>grind [MN,GU,FI]
 |tg cs=>grind [MN,GU,FI]
 |box cs=>grind [MN,GU,FI]
 |ep g i o b cs=>grind [MN,GU,bD]
 |_=>rfl
theorem agi (f:Nat)(r:Fr)(K:Fr->Option R):kFr f r K=K (mZ f r):=by
 induction r generalizing K with
 |nil=>rfl
 |cons p r ih=>grind [kFr,agh,mZ]
def apB (f:Nat)(r:Fr)(K:Fr->Option R):kEp f r K=K (Qx f r):=by
 induction r generalizing K with
 |nil=>rfl
 |cons p r ih=>grind [kEp,Qx,bD]
theorem FJ (f:List Nat)(cs:List aF)(K:List aF->Option R):xK f cs K=K (cs.map (YR f)):=by
 induction cs generalizing K with
 |nil=>rfl
 |cons l r ih=>cases l<;>simp only [xK,afw,YR,ih];grind
theorem agj (f:List Nat)(s:Slot)(K:Slot->Option R):Rz f s K=K (Qy f s):=by
 cases s with
 |sc l=>cases l<;>simp only [Rz,Qy,YR];grind
 |ag cs=>grind [Rz,Qy,FJ]
 |tg cs=>grind [Rz,Qy,FJ]
 |box cs=>grind [Rz,Qy,FJ]
 |_=>rfl
def apC (f:List Nat)(r:Fr)(K:Fr->Option R):nFr f r K=K (Zf f r):=by
 induction r generalizing K with
 |nil=>rfl
 |cons p r ih=>grind [nFr,agj,Zf]
def agk (ks fs qs:List Nat)(r:List (Nat×pC))(K:List (Nat×pC)->Option R):RB ks fs qs r K=K (vO ks fs qs r):=by
 induction r generalizing K with
 |nil=>rfl
 |cons p r ih=>simp only [RB,vO];grind
def Ae {α:Type}(x y:List α):app x y=some (x++y):=by
 induction x with
 |nil=>rfl
 |cons a r ih=>simp [app,ih]
end
theorem iy (a b:Nat):bD a b=decide (a=b):=by by_cases h:a=b;all_goals simp_all [decide_false,Bool.eq_false_iff,sh]
theorem bH (l:List Nat)(t:Nat):bL l t=true↔t∈l:=by
 induction l with
 |nil=>simp [bL]
 |cons k r ih=>simp only [bL,iy,afx];grind
theorem bO (r:Fr)(d t:Nat)(s:Slot):au (gV r d s) t=if t=d then s else au r t:=by
 induction r with
 |nil=>simp only [gV,au,iy];grind
 |cons p r ih=>
  have ⟨k,x⟩:=p;simp only [gV,iy];by_cases hk:k=d
  .subst hk;simp only [decide_true,cond_true,au,iy];grind
  .simp only [hk,decide_false,cond_false,au,iy,ih];grind
theorem bt (r:List (Nat×pC))(d t:Nat)(s:pC):aN (dh r d s) t=if t=d then some s else aN r t:=by
 induction r with
 |nil=>simp only [dh,aN,iy];grind
 |cons p r ih=>
  have ⟨k,x⟩:=p;simp only [dh,iy];by_cases hk:k=d
  .subst hk;simp only [decide_true,cond_true,aN,iy];grind
  .simp only [hk,decide_false,cond_false,aN,iy,ih];grind
def M2 (g:Slot->Slot)(hg:g (.sc .un)= .sc .un)(r:Fr)(t:Nat):au (r.map λp=>(p.1,g p.2)) t=g (au r t):=by
 induction r with
 |nil=>simp [au,hg]
 |cons p r ih=>grind [au,iy]
theorem iX (f:Nat)(r:Fr)(t:Nat):au (mZ f r) t=GU f (au r t):=M2 (GU f) rfl r t
def RC (f:List Nat)(r:Fr)(t:Nat):au (Zf f r) t=Qy f (au r t):=M2 (Qy f) rfl r t
def aS (r:Fr):List Nat:=r.map Prod.fst
theorem r8 (r:Fr)(t:Nat)(h:t∉aS r):au r t= .sc .un:=by
 induction r with
 |nil=>rfl
 |cons p r ih=>have ⟨k,x⟩:=p;simp only [aS,afw,afx,not_or] at h;have h': ¬k=t:=λe=>h.1 e.symm;simp only [au,iy,h',decide_false,cond_false];exact ih h.2
def G4 (ds:List Nat)(r:Fr):List.Sublist (aS (cb ds r)) (aS r):=by
 induction r with
 |nil=>simp [aS,cb]
 |cons p r ih=>grind [cb,dP,bL,aS]
theorem Af (ds:List Nat)(r:Fr):List.Sublist (aS (qo ds r)) (aS r):=by
 induction r with
 |nil=>simp [aS,qo]
 |cons p r ih=>grind [qo,bL,dP,aS]
def M3 (ds:List Nat)(r:Fr)(hn:(aS r).Nodup)(t:Nat):au (cb ds r) t=if dP (au r t)||bL ds t then .sc .un else au r t:=by
 induction r with
 |nil=>simp [au,cb]
 |cons p r ih=>
  have ⟨k,x⟩:=p;simp only [aS,afw,akK] at hn;have ih:=ih hn.2;simp only [cb];by_cases hk:k=t
  .subst hk;cases hb:dP x||bL ds k
   .simp [au,iy,hb]
   .simp only [cond_true,au,iy,decide_true,hb,if_true];refine r8 _ _ (λhm=>hn.1 ((G4 ds r).subset hm))
  grind [dP,bL,au,iy]
def FK (ds:List Nat)(r:Fr)(hn:(aS r).Nodup)(t:Nat):au (qo ds r) t=if bL ds t&&!dP (au r t) then au r t else .sc .un:=by
 induction r with
 |nil=>simp [au,qo]
 |cons p r ih=>
  have ⟨k,x⟩:=p;simp only [aS,afw,akK] at hn;have ih:=ih hn.2;simp only [qo];by_cases hk:k=t
  .subst hk;cases hb:bL ds k&&!dP x
   .simp only [cond_false,au,iy,decide_true,cond_true,hb];exact r8 _ _ (λhm=>hn.1 ((Af ds r).subset hm))
   grind [au,iy]
  grind [bL,dP,au,iy]
def Cr (r s:Fr)(t:Nat):au (r++s) t=if t∈aS r then au r t else au s t:=by
 induction r with
 |nil=>simp [aS]
 |cons p r ih=>
  have ⟨k,x⟩:=p;simp only [List.cons_append,au,iy,aS,afw,afx];by_cases h:k=t
  .simp [h]
  .have h': ¬t=k:=λe=>h e.symm;simp only [h,h',decide_false,cond_false,ih,false_or];rfl
section
variable {e e':Env}
theorem bp.width {vs:List Value}{l:aF}(h:bp e vs l):vs.length=l.w:=by
 cases l with
 |un=>obtain ⟨v,rfl,_⟩:=h;rfl
 |p m=>obtain ⟨v,rfl,_⟩:=h.2.one h.1;rfl
 |hs k n x=>obtain ⟨rfl,h⟩:=h;simp [bN,h,aF.w]
 |nil=>cases h;rfl
 |mp s es=>exact h.elim
 |own f=>obtain ⟨v,rfl,_⟩:=h;rfl
theorem bp.cells {vs:List Value}{l:aF}(h:bp e vs l): ∀v∈vs,v.oneCell'=true:=by
 cases l with
 |un=>obtain ⟨v,rfl,hv⟩:=h;grind
 |p m=>exact h.2.cells
 |hs k n x=>obtain ⟨rfl,h⟩:=h;intro v hv;obtain ⟨b,_,rfl⟩:=ak3.1 hv;rfl
 |nil=>cases h;simp [By]
 |mp s es=>exact h.elim
 |own f=>obtain ⟨v,rfl,hv,_⟩:=h;grind
theorem av.width {cs:List aF}: ∀{vs:List Value},av e vs cs->vs.length=FB cs:=by
 induction cs with
 |nil=>intro vs h;cases h;rfl
 |cons l r ih=>intro vs h;obtain ⟨v,w,rfl,h1,h2⟩:=h;grind [FB,h1.width]
theorem av.cells {cs:List aF}: ∀{vs:List Value},av e vs cs-> ∀v∈vs,v.oneCell'=true:=by
 induction cs with
 |nil=>intro vs h;cases h;simp
 |cons l r ih=>
  intro vs h v hv;obtain ⟨a,w,rfl,h1,h2⟩:=h;rcases ait.1 hv with hv|hv
  .exact h1.cells v hv
  grind
def av.append {cs ds:List aF}: ∀{vs ws:List Value},av e vs cs->av e ws ds->av e (vs++ws) (cs++ds):=by
 induction cs with
 |nil=>intro vs ws h h';cases h;grind
 |cons l r ih=>intro vs ws h h';obtain ⟨v,w,rfl,h1,h2⟩:=h;exact ⟨v,w++ws,abu,h1,ih h2 h'⟩
theorem Cs {cs:List aF}: ∀{off:Nat} {ds:List aF} {vs:List Value},cut cs off=some ds->av e vs cs-> ∃v1 v2,vs=v1++v2/\v1.length=off/\av e v2 ds:=by
 induction cs with
 |nil=>
  intro off ds vs h hr;cases off with
  |zero=>simp only [cut,AS] at h;subst h;exact ⟨[],vs,rfl,rfl,hr⟩
  |succ n=>grind [cut]
 |cons l r ih=>
  intro off ds vs h hr;cases off with
  |zero=>simp only [cut,AS] at h;subst h;exact ⟨[],vs,rfl,rfl,hr⟩
  |succ n=>have ⟨hb,h⟩:=ob h;have hle:=afy hb;obtain ⟨v,w,rfl,h1,h2⟩:=hr;grind [h1.width]
theorem ac1 {cs:List aF}: ∀{n:Nat} {ds:List aF} {vs:List Value},Y2 cs n=some ds->av e vs cs-> ∃v1 v2,vs=v1++v2/\v1.length=n/\av e v1 ds:=by
 induction cs with
 |nil=>
  intro n ds vs h hr;cases n with
  |zero=>simp only [Y2,AS] at h;subst h;exact ⟨[],vs,rfl,rfl,rfl⟩
  |succ n=>grind [Y2]
 |cons l r ih=>
  intro n ds vs h hr;cases n with
  |zero=>simp only [Y2,AS] at h;subst h;exact ⟨[],vs,rfl,rfl,rfl⟩
  |succ n=>
   have ⟨hb,h⟩:=ob h;have hle:=afy hb;obtain ⟨v,w,rfl,h1,h2⟩:=hr;cases hu:Y2 r (n+1-l.w) with
   |none=>grind
   |some b=>simp only [hu,AS] at h;subst h;obtain ⟨v1,v2,rfl,hl,h3⟩:=ih hu h2;exact ⟨v++v1,v2,abu,by grind [h1.width],v,v1,rfl,h1,h3⟩
def RD {cs:List aF}{off n:Nat}{ds:List aF}{vs:List Value}(h:part cs off n=some ds)(hr:av e vs cs): ∃v1 v2 v3,vs=v1++v2++v3/\v1.length=off/\v2.length=n/\av e v2 ds:=by grind [part,cut,Cs,ac1]
def RE {ls:List aF}: ∀{cs ds:List aF} {vs ws:List Value},over ls cs=some ds->av e vs cs->av e ws ls-> ∃v1 v2,vs=v1++v2/\v1.length=ws.length/\av e (ws++v2) ds:=by
 induction ls with
 |nil=>intro cs ds vs ws h hr hw;simp only [over,AS] at h;subst h;cases hw;exact ⟨[],vs,rfl,rfl,hr⟩
 |cons l r ih=>
  intro cs ds vs ws h hr hw;cases cs with
  |nil=>grind [over]
  |cons c cs=>
   have ⟨hb,h⟩:=ob h;have hww:=sh hb;cases ho:over r cs with
   |none=>grind
   |some q=>simp only [ho,AS] at h;subst h;obtain ⟨v,w,rfl,h1,h2⟩:=hr;obtain ⟨a,b,rfl,h3,h4⟩:=hw;obtain ⟨v1,v2,rfl,hl,h5⟩:=ih ho h2 h4;exact ⟨v++v1,v2,abu,by grind [h1.width,h3.width],a,b++v2,abu,h3,h5⟩
def Ag {cs:List aF}: ∀{off:Nat} {ls ds:List aF} {vs ws:List Value},putAt cs off ls=some ds->av e vs cs->av e ws ls-> ∃v1 v2 v3,vs=v1++v2++v3/\v1.length=off/\v2.length=ws.length/\av e (v1++ws++v3) ds:=by
 induction cs with
 |nil=>
  intro off ls ds vs ws h hr hw;cases off with
  |zero=>obtain ⟨v1,v2,rfl,h1,h2⟩:=RE h hr hw;exact ⟨[],v1,v2,abu,rfl,h1,by grind⟩
  |succ n=>grind [putAt]
 |cons l r ih=>
  intro off ls ds vs ws h hr hw;cases off with
  |zero=>obtain ⟨v1,v2,rfl,h1,h2⟩:=RE h hr hw;exact ⟨[],v1,v2,abu,rfl,h1,by grind⟩
  |succ n=>
   have ⟨hb,h⟩:=ob h;have hle:=afy hb;obtain ⟨v,w,rfl,h1,h2⟩:=hr;cases hu:putAt r (n+1-l.w) ls with
   |none=>grind
   |some b=>simp only [hu,AS] at h;subst h;obtain ⟨v1,v2,v3,rfl,hl,xO,h3⟩:=ih hu h2 hw;exact ⟨v++v1,v2,v3,abu,by grind [h1.width],xO,v,v1++ws++v3,abu,h1,h3⟩
structure ll (S T:Nat->Prop) (e e':Env):Prop where
 key:e'.key=e.key
 φ:iZ e.φ e'.φ
 B: ∀r,T r->e'.B r=e.B r
 jC: ∀f o',aN e'.m f=some o'->S f-> ∃o,aN e.m f=some o/\e'.E f=e.E f/\o'.xs=o.xs
def ke (S:Nat->Prop)(l:aF):Prop:= ∀f,l= .own f->S f
def iF (S T:Nat->Prop):Slot->Prop
 | .ptr r _=>T r
 | .Cl r=>T r
 | .hp r _ _ _=>T r
 | .sc l=>ke S l
 | .ag cs=> ∀l∈cs,ke S l
 | .tg cs=> ∀l∈cs,ke S l
 | .ep g _ _ _ _=>S g
 |_=>True
def bp.on {S T:Nat->Prop}(h:ll S T e e'){vs:List Value}{l:aF}(hl:ke S l)(hr:bp e vs l):bp e' vs l:=by
 cases l with
 |un=>exact hr
 |p m=>exact ⟨hr.1,by have:=hr.2.mono h.φ;grind [h.key]⟩
 |hs k n x=>exact hr
 |nil=>exact hr
 |mp s es=>exact hr
 |own f=>obtain ⟨v,rfl,hv,hf⟩:=hr;refine ⟨v,rfl,hv,λo' FL=> ?_⟩;have ⟨o,ho,hE,_⟩:=h.jC f o' FL (hl f rfl);grind
def av.on {S T:Nat->Prop}(h:ll S T e e'){cs:List aF}: ∀{vs:List Value},(∀l∈cs,ke S l)->av e vs cs->av e' vs cs:=by
 induction cs with
 |nil=>intro vs _ hr;exact hr
 |cons l r ih=>intro vs hl hr;obtain ⟨v,w,rfl,h1,h2⟩:=hr;exact ⟨v,w,rfl,h1.on h (hl l abu),(by grind)⟩
theorem M4 {S:Nat->Prop}{l:aF}(h:xM l=true):ke S l:=by intro f hf;grind [xM]
theorem Ah {S:Nat->Prop}{cs:List aF}(h:jv cs=true): ∀l∈cs,ke S l:=by
 induction cs with
 |nil=>simp
 |cons l r ih=>simp_all [jv,AT,afx,M4]
mutual
def ai.on {S T:Nat->Prop}(h:ll S T e e'){v:Value}: ∀{s:Slot},iF S T s->ai e v s->ai e' v s
 | .skip,_,hr=>by grind [ai]
 | .sc l,hs,hr=>by
  cases l with
  |un=>simp [ai]
  |hs k n x=>grind [ai]
  |p m=>simp only [ai] at hr⊢;exact hr.on h hs
  |nil=>simp only [ai] at hr⊢;exact hr.on h hs
  |mp s es=>exact hr
  |own f=>simp only [ai] at hr⊢;exact hr.on h hs
 | .ag cs,hs,hr=>by have ⟨arr,h1,h2⟩:=hr;exact ⟨arr,h1,h2.on h hs⟩
 | .tg cs,hs,hr=>by have ⟨arr,h1,h2⟩:=hr;exact ⟨arr,h1,h2.on h hs⟩
 | .cw vs,_,hr=>by have ⟨arr,h1,h2⟩:=hr;exact ⟨arr,h1,mY.on h h2⟩
 | .box _,_,hr=>by grind [ai]
 | .MM cs,_,hr=>by have ⟨bg,o,vs,h1,h2,h3,h4⟩:=hr;exact ⟨bg,o,vs,h1,h2.on h (Ah h3),h3,λj hj=>S2 h.φ hj (h4 j hj)⟩
 | .ptr r o,hs,hr=>by simp only [ai] at hr⊢;rw [h.B r hs];exact hr
 | .Cl r,hs,hr=>by simp only [ai] at hr⊢;rw [h.B r hs];exact hr
 | .rp cs off,_,hr=>by have ⟨bg,o,vs,h1,h2,h3,h4⟩:=hr;exact ⟨bg,o,vs,h1,h2.on h (Ah h3),h3,λj hj=>S2 h.φ hj (h4 j hj)⟩
 | .hp r o n i,hs,hr=>by simp only [ai] at hr⊢;rw [h.B r hs];exact hr
 | .ep f i off st cs,hs,hr=>by simp only [ai] at hr⊢;intro o' FL;have ⟨o,ho,hE,hx⟩:=h.jC f o' FL hs;grind
def mY.on {S T:Nat->Prop}(h:ll S T e e'): ∀{vs:List Value} {ss:List Slot},mY e vs ss->mY e' vs ss
 |vs,[],hr=>hr
 |vs,s::ss,hr=>by have ⟨v,r,h1,h2,h3,h4⟩:=hr;refine ⟨v,r,h1,ai.on h ?_ h2,h3,mY.on h h4⟩;cases s<;>simp [G3] at h3<;>simp only [iF];all_goals grind [M4,Ah]
end
def bp.kill {vs:List Value}{l:aF}(f:Nat)(h:bp e vs l):bp e vs (S3 f l):=by
 cases l with
 |own g=>
  simp only [S3];cases bD g f
  .exact h
  .obtain ⟨v,rfl,hv,_⟩:=h;exact ⟨v,rfl,hv⟩
 |_=>exact h
theorem I5 (f:Nat)(l:aF):ke (· ≠f) (S3 f l):=by intro g hg;cases l<;>simp [S3] at hg;grind [bD,iy]
theorem bp.V5 {vs:List Value}{l:aF}(f:List Nat)(h:bp e vs l):bp e vs (YR f l):=by
 cases l with
 |own g=>
  simp only [YR];cases bL f g
  .obtain ⟨v,rfl,hv,_⟩:=h;exact ⟨v,rfl,hv⟩
  .exact h
 |_=>exact h
def S4 (f:List Nat)(l:aF):ke (· ∈f) (YR f l):=by intro g hg;cases l<;>simp [YR] at hg;grind [bL,bH]
def av.map {g:aF->aF}(hg: ∀vs l,bp e vs l->bp e vs (g l)){cs:List aF}: ∀{vs:List Value},av e vs cs->av e vs (cs.map g):=by
 induction cs with
 |nil=>grind
 |cons l r ih=>intro vs h;obtain ⟨v,w,rfl,h1,h2⟩:=h;exact ⟨v,w,rfl,hg _ _ h1,ih h2⟩
theorem ai.apD {v:Value}{l:aF}(hl: ∀k n x,l≠ .hs k n x)(hu:l≠ .un):ai e v (.sc l)↔bp e [v] l:=by simp_all [ai]
def ai.kill {v:Value}{s:Slot}(f:Nat)(h:ai e v s):ai e v (GU f s):=by
 cases s with
 |sc l=>
  cases l with
  |own g=>grind [GU,S3,bD,ai]
  |_=>exact h
 |ag cs=>have ⟨arr,h1,h2⟩:=h;exact ⟨arr,h1,h2.map (λ_ _=>bp.kill f)⟩
 |tg cs=>have ⟨arr,h1,h2⟩:=h;exact ⟨arr,h1,h2.map (λ_ _=>bp.kill f)⟩
 |box cs=>grind [ai]
 |ep g i o b cs=>grind [GU,bD,ai]
 |_=>exact h
def agl (f:Nat)(T:Nat->Prop)(s:Slot)(hT:iF (λ_=>True) T s):iF (· ≠f) T (GU f s):=by
 cases s with
 |sc l=>exact I5 f l
 |ag cs=>intro l hl;grind [I5]
 |tg cs=>intro l hl;grind [I5]
 |ep g i o b cs=>simp only [GU];cases hb:bD g f;all_goals simp_all [cond_false,iF,iy,ke]
 |ptr r o=>exact hT
 |hp r o n i=>exact hT
 |_=>trivial
theorem ai.V5 {v:Value}{s:Slot}(f:List Nat)(h:ai e v s):ai e v (Qy f s):=by
 cases s with
 |sc l=>
  cases l with
  |own g=>grind [Qy,YR,bL,ai]
  |_=>exact h
 |ag cs=>have ⟨arr,h1,h2⟩:=h;exact ⟨arr,h1,h2.map (λ_ _=>bp.V5 f)⟩
 |tg cs=>have ⟨arr,h1,h2⟩:=h;exact ⟨arr,h1,h2.map (λ_ _=>bp.V5 f)⟩
 |box cs=>grind [ai]
 |_=>exact h
end
def bn (key:Nat->Nat) (φ:Ph)(size:Nat):List Value->List MV->Prop
 |vs,[]=>vs=[]
 |vs,x::xs=> ∃v r,vs=v++r/\v.length=size/\jI key φ v x/\bn key φ size r xs
structure bC where
 In:Nat->Prop
 cX:List Nat
 cV:List Nat
 T:Nat->Value
 cov:Prop
 Pr:Nat->Prop
instance:CoeFun bC (λ_=>Nat->Prop):=⟨bC.In⟩
instance:Coe bC (Nat->Prop):=⟨bC.In⟩
def YS {a b c:Prop}(h:(a/\b)\/c)(hn: ¬a):c:=(by grind)
def bC.nc (Z:bC):bC:={Z with cov:=False}
def bC.plain (I:Nat->Prop):bC:=⟨I,[],[],λ_=>undef,False,λ_=>True⟩
def bC.bz (Z:bC)(t:Nat):bC:={Z with In:=λb=>(t∈Z.cX/\Z.Pr b)\/Z.In b}
def bC.fz (Z:bC)(f:Nat):bC:={Z with In:=λb=>(f∈Z.cV/\Z.Pr b)\/Z.In b,cov:=f∈Z.cV}
def M5:Kd->MV->Bool
 | .b,.b _=>true
 | .i k,.i k' _=>decide (k'=k)
 | .s,.s _=>true
 | .h k n,.h k' n' x=>decide (k'=k)&&(bD n' n&&bD x.length (n+2))
 |_,_=>false
def na:List Kd->List MV->Bool
 |[],[]=>true
 |k::ks,m::ms=>M5 k m&&na ks ms
 |_,_=>false
def YT:MV->List Value
 | .b x=>[.bool x]
 | .i k n=>[.int k n]
 | .s l=>[.string ⟨l.toArray⟩]
 | .h k n x=>bN k x
 |_=>[]
def G5 (st:Bool)(ks:List MV):Value:=match st,ks with
 |false,[.h k n x]=> .agg (bN k x).toArray
 |false,[.b x]=> .bool x
 |false,[.i k n]=> .int k n
 |false,[.s l]=> .string ⟨l.toArray⟩
 |_,ks=> .agg (ks.flatMap YT).toArray
def agm (b:Bool)(m:MV):Value:=match b,m with
 |true,.b x=> .bool x
 |false,.i .i64 n=> .int .i64 n
 |_,_=>undef
def ayk (b:Bool)(m:MV):Bool:=match b,m with
 |true,.b x=>true
 |false,.i .i64 n=>true
 |_,_=>false
def anY (s:MS)(x:MapEntry)(m:MV)(i:Nat):Prop:=x.born=i/\ ∃ks v,m= .cw [.agg ks,v]/\na s.lay ks=true/\x.key=G5 s.st ks/\ayk s.b v=true/\x.val=agm s.b v
structure RF (s:MS) (es:Array MapEntry) (clock:Nat) (ms:List MV):Prop where
 size:es.size=ms.length
 clock:clock=ms.length
 ent: ∀(i:Nat) x m,es[i]? =some x->ms[i]? =some m->anY s x m i
def lz (e:Env)(o:Obj)(cs:List aF):Prop:=match o with
 | .cells arr _ z=>z=(0,0)/\av e arr.toList cs
 | .map es clock=> ∃s ms,cs=[.mp s ms]/\acU s=false/\RF s es clock ms
 | .stringIter x pos=>cs=[.mp MS.it [.s x.data.toList,.i .i64 pos]]
 |_=>False
def S5 (cs:List aF)(b:Nat):Value:=bif qe cs then .map (some b) else .pointer (some ⟨b,0,none⟩)
structure xP (Z:bC) (e:Env) (w:World) (bg:Nat) (cs:List aF):Prop where
 cz:Z.In bg
 obj: ∃o,w.heap[bg]? =some o/\lz e o cs
 free: ∀off,e.φ bg off=none
def lz.on {S T:Nat->Prop} {e e':Env}(h:ll S T e e'){o:Obj}{cs:List aF}(hl: ∀l∈cs,ke S l)(hr:lz e o cs):lz e' o cs:=by
 cases o with
 |cells arr T z=>exact ⟨hr.1,hr.2.on h hl⟩
 |map es clock=>exact hr
 |stringIter x pos=>exact hr
 |_=>exact hr.elim
theorem S6 {cs:List aF}(h:fU cs=true): ∃s ms,cs=[.mp s ms]:=by unfold fU at h;grind
theorem lz.cells {e:Env}{o:Obj}{cs:List aF}(hr:lz e o cs)(hm:fU cs=false): ∃arr T,o= .cells arr T (0,0)/\av e arr.toList cs:=by
 cases o with
 |cells arr T z=>obtain ⟨rfl,h⟩:=hr;grind
 |map es clock=>obtain ⟨s,ms,rfl,_⟩:=hr;grind [fU]
 |stringIter x pos=>rw [show cs=_ from hr] at hm;grind [fU]
 |_=>exact hr.elim
theorem G6 {cs:List aF}(h:fU cs=false):qe cs=false:=by unfold qe;grind [fU]
def V6 (g:aF->aF)(h1: ∀s es,g (.mp s es)= .mp s es)(h2: ∀l,(∀s es,l≠ .mp s es)-> ∀s es,g l≠ .mp s es)(cs:List aF):qe (cs.map g)=qe cs:=by
 cases cs with
 |nil=>rfl
 |cons l r=>
  cases r with
  |nil=>
   by_cases hl: ∃s es,l= .mp s es
   .grind
   simp_all [afw,List.map_nil,qe]
  |cons x y=>simp_all [qe]
theorem xP.cells {Z:bC}{e:Env}{w:World}{bg:Nat}{cs:List aF}(h:xP Z e w bg cs)(hm:fU cs=false): ∃arr T,w.heap[bg]? =some (.cells arr T (0,0))/\av e arr.toList cs:=by have ⟨o,h1,h2⟩:=h.obj;obtain ⟨arr,T,rfl,h3⟩:=h2.cells hm;grind
def Zg {cs:List aF}(hm:qe cs=false)(b:Nat):S5 cs b= .pointer (some ⟨b,0,none⟩):=by simp [S5,hm]
theorem yy {cs:List aF}(hm:fU cs=false)(b:Nat):S5 cs b= .pointer (some ⟨b,0,none⟩):=Zg (G6 hm) b
def apE {cs:List aF}(hm:qe cs=true)(b:Nat):S5 cs b= .map (some b):=by simp [S5,hm]
def lz.map {e:Env}{g:aF->aF}(hg: ∀vs l,bp e vs l->bp e vs (g l))(hm: ∀s es,g (.mp s es)= .mp s es){o:Obj}{cs:List aF}(hr:lz e o cs):lz e o (cs.map g):=by
 cases o with
 |cells arr T z=>exact ⟨hr.1,hr.2.map hg⟩
 |map es clock=>obtain ⟨s,ms,rfl,h2⟩:=hr;exact ⟨s,ms,by simp [hm],h2⟩
 |stringIter x pos=>rw [show cs=_ from hr];show List.map g _=_;simp [hm]
 |_=>exact hr.elim
def Zh (f:Nat)(cs:List aF):qe (cs.map (S3 f))=qe cs:=V6 _ (λ_ _=>rfl) (λl hl s es=>by cases l<;>simp_all [S3];grind) cs
def apF (f:List Nat)(cs:List aF):qe (cs.map (YR f))=qe cs:=V6 _ (λ_ _=>rfl) (λl hl s es=>by cases l<;>simp_all [YR];grind) cs
structure ch (c:Ctx) (Z:bC) (e:Env) (w:World) (v:Value) (o:pC):Prop where
 row: ∃I cells,c.ti o.ty=some I/\I.cy=[]/\w.ownsRow 0 o.ty I.size v o.xs.length cells/\bn e.key e.φ I.size cells o.xs/\ ∀bg,v.ownBlock=some bg->Z.In bg/\(∀off u,e.φ bg off=some u->o.iw=true/\off<o.xs.length *I.size)/\(Z.cov->o.iw=true-> ∀j,j<cells.length->e.φ bg j=cells[j]?)
def tied (Z:bC)(t:Nat)(v:Value)(cs:List aF)(b:Nat):Prop:=(DN t=false->v=S5 cs b)/\(DN t=true->posOf t∈Z.cX/\Z.T (posOf t)= .pointer (some ⟨b,VV t,none⟩))
def tied.qe {Z:bC}{t:Nat}{v:Value}{cs jM:List aF}{b:Nat}(h:tied Z t v cs b)(hm:qe jM=qe cs):tied Z t v jM b:=⟨λhp=>by rw [h.1 hp];simp [S5,hm],h.2⟩
theorem tied.own {Z:bC}{t:Nat}{v:Value}{cs:List aF}{b:Nat}(hp:DN t=false)(h:v=S5 cs b):tied Z t v cs b:=⟨λ_=>h,(by grind)⟩
def eD (Z:bC)(e:Env)(w:World)(t:Nat)(v:Value):Slot->Prop
 | .box cs=>tied Z t v cs (e.B t)/\xP (Z.bz t) e w (e.B t) cs
 |s=>ai e v s
def dE (fr:Fr):Slot->Prop
 | .ptr r _=>cY (au fr r)=true
 | .hp r _ _ _=>cY (au fr r)=true
 | .Cl r=>cY (au fr r)=true
 |_=>True
structure bT (c:Ctx) (Z:bC) (e:Env) (st:St) (a:Act) (w:World):Prop where
 defers:a.defers=[]/\st.cX=Z.cX/\st.cV=Z.cV/\ ∀t∈Z.cX,a.tmps.getD t undef=Z.T t
 size:a.tmps.size=c.n
 m:e.m=st.aT
 key:e.key=c.key
 nodup:(aS st.fr).Nodup
 slot: ∀t,eD Z e w t (a.tmps.getD t undef) (au st.fr t)
 root: ∀t,dE st.fr (au st.fr t)
 jC: ∀f o,aN st.aT f=some o->ch c (Z.fz f) e w (e.E f) o
 bb: ∀t t' cs jM,au st.fr t= .box cs->au st.fr t'= .box jM->t≠t'->e.B t≠e.B t'
 bf: ∀t cs f o,au st.fr t= .box cs->aN st.aT f=some o->(e.E f).ownBlock≠some (e.B t)
 ff: ∀f f' o o' k,aN st.aT f=some o->aN st.aT f'=some o'->(e.E f).ownBlock=some k->(e.E f').ownBlock=some k->f=f'
 mj: ∀b o v,e.φ b o=some v->w.cell? ⟨b,o,none⟩=some v
 cz: ∀b,w.heap.size<=b->Z.In b
def Rest (w w':World):Prop:=w'.os=w.os/\w'.tape=w.tape/\w'.output=w.output
def Rest.refl (w:World):Rest w w:=⟨rfl,rfl,rfl⟩
theorem Rest.trans {w w' I6:World}(h:Rest w w') (h':Rest w' I6):Rest w I6:=⟨h'.1.trans h.1,h'.2.1.trans h.2.1,h'.2.2.trans h.2.2⟩
def Rest.alloc (w:World)(cs:Array Value)(t:TypeId):Rest w (w.alloc (.cells cs t)):=⟨rfl,rfl,rfl⟩
theorem Rest.setRow (w:World)(g:Nat)(cs:Array Value):Rest w (w.setRow g cs):=⟨rfl,rfl,rfl⟩
structure dk (w w':World):Prop where
 size:w.heap.size<=w'.heap.size
 vP: ∀b,b<w.heap.size->w'.heap[b]? =w.heap[b]?
 rest:Rest w w'
theorem bx {w:World}{b:Nat}{x:Obj}(h:w.heap[b]? =some x):b<w.heap.size:=(by grind)
def dk.cell {w w':World}(g:dk w w'){ad:Addr}{v:Value}(h:w.cell? ad=some v):w'.cell? ad=some v:=by have hl:=ab2 w ad h;rw [afz (g.vP ad.block hl)];exact h
structure Trans (Z:Nat->Prop) (φ:Ph) (w:World) (φ':Ph) (w':World):Prop where
 ph:iZ φ φ'
 heap: ∀b,¬Z b->b<w.heap.size->w'.heap[b]? =w.heap[b]?
 free: ∀b o,¬Z b->φ' b o=φ b o
 size:w.heap.size<=w'.heap.size
 rest:Rest w w'
def Trans.refl (Z:Nat->Prop) (φ:Ph)(w:World):Trans Z φ w φ w:=⟨.refl φ,λ_ _ _=>rfl,λ_ _ _=>rfl,ac4 _,.refl _⟩
theorem Trans.trans {Z:Nat->Prop} {φ φ' φ'':Ph} {w w' I6:World}(h:Trans Z φ w φ' w') (h':Trans Z φ' w' φ'' I6):Trans Z φ w φ'' I6:=⟨h.ph.trans h'.ph,λb hb hl=>(h'.heap b hb (akA hl h.size)).trans (h.heap b hb hl),λb o hb=>(h'.free b o hb).trans (h.free b o hb),afI h.size h'.size,h.rest.trans h'.rest⟩
def vQ (Z:bC)(e:Env)(w:World)(st:St)(v:Value):Slot->Prop
 | .box cs=> ∃bg,v=S5 cs bg/\xP Z e w bg cs/\(∀t jM,au st.fr t= .box jM->e.B t≠bg)/\(∀f o,aN st.aT f=some o->(e.E f).ownBlock≠some bg)
 |s=>ai e v s/\dE st.fr s
section
variable {c:Ctx}{Z:bC}{e:Env}{st:St}{a:Act}{w:World}
def ai.const {v:Value}:ai e v (DP v):=by
 unfold DP;split<;>simp only [ai,bp,MV.one]<;> first
   |exact ⟨trivial,.b _⟩
   |exact ⟨trivial,.i _ _⟩
   |exact ⟨trivial,.s _⟩
   |exact ⟨trivial,.raw _ rfl⟩
theorem bT.eval (h:bT c Z e st a w)(x:Operand):ai e (a.eval x) (aP c st x)/\dE st.fr (aP c st x):=by
 cases x with
 |tmp t=>
  have hs:=h.slot t;have hr:=h.root t;simp only [Act.eval,aP];cases Zj:plk c.par t with
  |some q=>
   simp only;cases hq:DN q&&bD (posOf q) t with
   |false=>exact ⟨by simp [ai],trivial⟩
   |true=>
    simp only [AT] at hq;have hqt:=sh hq.2;have hsq:=h.slot q;split
    .rename_i cs hfq;rw [hfq] at hsq;cases hm:fU cs with
     |true=>exact ⟨by simp [ai],trivial⟩
     |false=>have ⟨k1,k2⟩:=hsq.1.2 hq.1;refine ⟨?_,by grind [dE,cY]⟩;show a.tmps.getD t undef=_;rw [<-hqt,h.defers.2.2.2 _ k1,k2]
    .exact ⟨by simp [ai],trivial⟩
  |none=>
  generalize hf:au st.fr t=s at hs hr;cases s<;>simp only [eD] at hs<;>try exact ⟨hs,hr⟩
  .rename_i cs;cases hpt:DN t with
   |true=>exact ⟨by simp [ai],trivial⟩
   |false=>
   simp_all;cases hm:qe cs with
   |true=>simp only [hm,cond_true,ai,dE,hf,cY];exact ⟨by rw [hs.1.1 hpt,apE hm],trivial⟩
   |false=>simp only [hm,cond_false,ai,dE,hf,cY];exact ⟨by rw [hs.1.1 hpt,Zg hm],trivial⟩
 |const v=>refine ⟨ai.const,?_⟩;simp only [aP];unfold DP;split<;>trivial
 |func f=>simp only [Act.eval,aP,ai,bp,MV.one,dE,and_true,true_and];exact .func f _ #[] [] (by rw [h.key]) (by simpa using il.nil) abu
 |global g=>simp [aP,ai,dE]
end
def Act.Ct {a:Act}{d t:Nat}{v:Value}(hd:d<a.tmps.size):(a.put (some d) v).tmps.getD t undef=if t=d then v else a.tmps.getD t undef:=by simp only [Act.put,Array.getD_eq_getD_getElem?,Array.getElem?_setIfInBounds];grind
def agn {fr:Fr}{s:Slot}(h:dE fr s):iF (λ_=>True) (λr=>cY (au fr r)=true) s:=by cases s<;>simp_all [dE,iF,ke]
def S7 (r:Fr)(d:Nat)(s:Slot):aS (gV r d s)=if d∈aS r then aS r else aS r++[d]:=by
 induction r with
 |nil=>simp [gV,aS]
 |cons p r ih=>
  have ⟨k,x⟩:=p;simp only [gV,iy];by_cases h:k=d
  .simp [h,aS]
  .have h': ¬d=k:=λe=>h e.symm;have ih':List.map Prod.fst (gV r d s)=if d∈aS r then aS r else aS r++[d]:=ih
   simp only [h,h',decide_false,cond_false,aS,afw,afx,false_or,ih'];grind
theorem fA {r:Fr}{d:Nat}{s:Slot}(h:(aS r).Nodup):(aS (gV r d s)).Nodup:=by rw [S7];grind
section
variable {c:Ctx}{Z:bC}{e:Env}{st:St}{a:Act}{w:World}{R:Type}{K:St->Option R}{r:R}
def Env.EL (e:Env)(d bg:Nat):Env:={e with B:=λt=>if t=d then bg else e.B t}
def xP.env {e e':Env}{bg:Nat}{cs:List aF}(h:xP Z e w bg cs)(hk:e'.key=e.key)(hp:e'.φ=e.φ)(hE:e'.E=e.E)(hm:e'.m=e.m):xP Z e' w bg cs:=by refine ⟨h.cz,?_,λoff=>by rw [hp];exact h.free off⟩;have ⟨o,h1,h2⟩:=h.obj;refine ⟨o,h1,h2.on (S:=λ_=>True) (T:=λ_=>False) ⟨hk,by rw [hp];exact .refl _,abu,?_⟩ (by intro l _ f _;trivial)⟩;grind
def ch.env {e e':Env}{v:Value}{o:pC}(h:ch c Z e w v o)(hk:e'.key=e.key)(hp:e'.φ=e.φ):ch c Z e' w v o:=by have ⟨I,cells,h1,h2,h3,h4,h5⟩:=h.row;exact ⟨I,cells,h1,h2,h3,by grind,by rw [hp];exact h5⟩
def xP.to {bg:Nat}{cs:List aF}(h:xP Z e w bg cs)(t:Nat):xP (Z.bz t) e w bg cs:=⟨.inr h.cz,h.obj,h.free⟩
def ch.to {v:Value}{o:pC}{f:Nat}(h:ch c Z.nc e w v o)(hf:f∉Z.cV):ch c (Z.fz f) e w v o:=by have ⟨I,cells,h1,h2,h3,h4,h5⟩:=h.row;exact ⟨I,cells,h1,h2,h3,h4,λbg hb=>⟨.inr (h5 bg hb).1,(h5 bg hb).2.1,λhc=>absurd hc hf⟩⟩
theorem df {d:Option Nat}{s:Slot}{v:Value}(h:bT c Z e st a w)(hv:vQ Z e w st v s)(hK:bB c st d s K=some r): ∃e' cj,bT c Z e' cj (a.put d v) w/\K cj=some r/\e'.φ=e.φ:=by
 cases d with
 |none=>exact ⟨e,st,h,hK,rfl⟩
 |some d=>
  simp only [bB] at hK;cases V7:DN d||(aec c.n d||cY (au st.fr d)) with
  |true=>grind
  |false=>
   obtain ⟨ayl,hb⟩:=ad1.1 V7;simp only [V7,cond_false,wr] at hK;obtain ⟨hp,hK⟩:=oz hK;simp only [force_eq,pe] at hK;simp only [ad1] at hb;have hdn:d<a.tmps.size:=by
    rw [h.size];have:=hb.1;by_cases dX:d<c.n
    .exact dX
    .have:aec c.n d=true:=akp aab;simp_all
   have hdp:d∉Z.cX:=by intro hm;rw [<-h.defers.2.1,<-bH,hp] at hm;cases hm
   have ats: ∀fr:Fr,(a.put (some d) v).defers=[]/\({st with fr:=fr}:St).cX=Z.cX/\({st with fr:=fr}:St).cV=Z.cV/\ ∀t∈Z.cX,(a.put (some d) v).tmps.getD t undef=Z.T t:=by intro fr;refine ⟨h.defers.1,h.defers.2.1,h.defers.2.2.1,λt ht=> ?_⟩;rw [Act.Ct hdn,if_neg (by grind)];exact h.defers.2.2.2 t ht
   have mD: ∀t,iF (λ_=>True) (λr=>r≠d) (au st.fr t):=by intro t;have:=agn (h.root t);generalize au st.fr t=x at this;cases x<;>simp_all [iF,ke]<;>(grind)
   by_cases hs: ∃cs,s= .box cs
   .obtain ⟨cs,rfl⟩:=hs;obtain ⟨bg,rfl,yz,hnb,hnf⟩:=hv;have vA:ll (λ_=>True) (λr=>r≠d) e (e.EL d bg):=⟨rfl,.refl _,(by grind [Env.EL]),λf o ho _=>⟨o,ho,rfl,rfl⟩⟩
    refine ⟨e.EL d bg,_,?_,hK,rfl⟩;refine ⟨ats _,by grind [Act.put,h.size],h.m,h.key,fA h.nodup,?_,?_,?_,?_,?_,?_,h.mj,h.cz⟩
    .intro t;rw [Act.Ct hdn,bO];by_cases ht:t=d
     .subst ht;simp only [if_true,eD,Env.EL];exact ⟨.own ayl rfl,(yz.to t).env rfl rfl rfl rfl⟩
     .simp only [ht,if_false];have rK:=h.slot t;have rO:=mD t;generalize au st.fr t=x at rK rO;cases x<;>simp only [eD] at rK⊢ <;>try exact rK.on vA rO
      simp only [Env.EL,ht,if_false];exact ⟨rK.1,rK.2.env rfl rfl rfl rfl⟩
    .intro t;simp only [bO];by_cases ht:t=d
     .simp [ht,dE]
     .have rO:=h.root t;have V8:=mD t;generalize au st.fr t=x at rO V8;cases x<;>simp_all [dE,bO,iF]
    .intro f o ho;exact (h.jC f o ho).env rfl rfl
    .intro t t' Fj IP h1 h2 eR;simp only [bO] at h1 h2;simp only [Env.EL];by_cases ht:t=d
     .grind
     .simp only [ht,if_false] at h1;by_cases V9:t'=d
      .grind
      .simp_all;exact h.bb t t' Fj IP h1 h2 eR
    .intro t Fj f o h1 h2;simp only [bO] at h1;simp only [Env.EL];by_cases ht:t=d
     .grind
     .simp only [ht,if_false] at h1⊢;exact h.bf t Fj f o h1 h2
    .exact h.ff
   .have Wd:ai e v s/\dE st.fr s:=by cases s<;>simp_all [vQ]
    refine ⟨e,_,?_,hK,rfl⟩;refine ⟨ats _,by grind [Act.put,h.size],h.m,h.key,fA h.nodup,?_,?_,h.jC,?_,?_,h.ff,h.mj,h.cz⟩
    .intro t;rw [Act.Ct hdn,bO];by_cases ht:t=d
     .cases s<;>simp only [eD]<;>first|exact Wd.1|grind
     .simp only [ht,if_false];exact h.slot t
    .intro t;simp only [bO];by_cases ht:t=d
     .have hr:=Wd.2;cases s<;>simp only [dE,bO] at hr⊢;all_goals grind
     .have rO:=h.root t;have V8:=mD t;generalize au st.fr t=x at rO V8;cases x<;>simp_all [dE,bO,iF]
    .intro t t' Fj IP h1 h2 eR;simp only [bO] at h1 h2;by_cases ht:t=d
     .grind
     .by_cases V9:t'=d
      .grind
      .simp only [ht,V9,if_false] at h1 h2;exact h.bb t t' Fj IP h1 h2 eR
    .intro t Fj f o h1 h2;simp only [bO] at h1;by_cases ht:t=d
     .grind
     .simp only [ht,if_false] at h1;exact h.bf t Fj f o h1 h2
end
def Out (c:Ctx)(Z:bC){R:Type}(K:St->Option R)(r:R) (φ:Ph)(w:World) (a':Act) (w':World):Prop:=∃e' cj,bT c Z e' cj a' w'/\Trans Z φ w e'.φ w'/\K cj=some r
section
variable {P:Program}{c:Ctx}{Z:bC}{e:Env}{st:St}{a:Act}{w:World}{R:Type}{K:St->Option R}{r:R}{Q:Exit->Act->World->Prop}{o:Oper}
def vQ.of {s:Slot}{v:Value}(h:ai e v s)(hr:dE st.fr s):vQ Z e w st v s:=by cases s<;>first|exact ⟨h,hr⟩|grind [ai]
def fin {e':Env}{cj:St} {w':World}{s:Slot}{v:Value}(bU:(execOp a.eval o).run P w= .ok (.value v) w')(hs:bT c Z e' cj a w')(ht:Trans Z e.φ w e'.φ w')(hv:vQ Z e' w' cj v s)(hK:bB c cj o.dst s K=some r):o.wp P a w (Out c Z K r e.φ w) Q:=by unfold akL;rw [bU,ajW];have ⟨e2,eG,h1,h2,h3⟩:=df hs hv hK;exact ⟨e2,eG,h1,by grind,h2⟩
def abt {e':Env}{cj:St} {w':World}(bU:(execOp a.eval o).run P w= .ok .skip w')(hs:bT c Z e' cj a w')(ht:Trans Z e.φ w e'.φ w')(hK:bB c cj o.dst (.sc .un) K=some r):o.wp P a w (Out c Z K r e.φ w) Q:=by unfold akL;rw [bU,Oper.upon_skip];have ⟨e2,eG,h1,h2,h3⟩:=df (v:=undef) hs (by simp [vQ,ai,dE]) hK;exact ⟨e2,eG,h1,by grind,h2⟩
def Zk {e':Env}{cj:St} {w':World}{s:Slot}{v:Value}(hg:dk w w')(bU:(execOp a.eval o).run P w= .ok (.value v) w')(hs:bT c Z e' cj a w')(ht:Trans Z e.φ w e'.φ w')(hv:vQ Z e' w' cj v s)(hK:bB c cj o.dst s K=some r):o.wp P a w (λa' w'=>dk w w'/\Out c Z K r e.φ w a' w') Q:=by unfold akL;rw [bU,ajW];have ⟨e2,eG,h1,h2,h3⟩:=df hs hv hK;exact ⟨hg,e2,eG,h1,by grind,h2⟩
def Rd (P:Program)(c:Ctx)(Z:bC){R:Type}(K:St->Option R)(r:R)(e:Env)(a:Act)(w:World)(o:Oper)(G:World->Prop):Prop:=∃v,(∀w',G w'->(execOp a.eval o).run P w'= .ok (.value v) w')/\Out c Z K r e.φ w (a.put o.dst v) w
theorem Rd.wp {G:World->Prop}(h:Rd P c Z K r e a w o G)(hg:G w):o.wp P a w (Out c Z K r e.φ w) Q:=by have ⟨v,h1,h2⟩:=h;grind [akL,ajW]
def ac2 {G:World->Prop} {e':Env}{cj:St}{s:Slot}{v:Value}(bU: ∀w':World,G w'->(execOp a.eval o).run P w'= .ok (.value v) w')(hs:bT c Z e' cj a w)(ht:Trans Z e.φ w e'.φ w)(hv:vQ Z e' w cj v s)(hK:bB c cj o.dst s K=some r):Rd P c Z K r e a w o G:=by have ⟨e2,eG,h1,h2,h3⟩:=df hs hv hK;exact ⟨v,bU,e2,eG,h1,by grind,h2⟩
theorem jN {s:Slot}{v:Value}(h:bT c Z e st a w)(bU: ∀w':World,(execOp a.eval o).run P w'= .ok (.value v) w')(hv:ai e v s)(hr:dE st.fr s)(hK:bB c st o.dst s K=some r):Rd P c Z K r e a w o (λ_=>True):=ac2 (λw' _=>bU w') h (.refl _ _ _) (.of hv hr) hK
def We {v:Value}{x:Bool}(h:ai e v (.sc (.p (.b x)))):v= .bool x:=by have ⟨_,h⟩:=h;generalize hv:[v]=vs at h;cases h;grind
def nb {v:Value}{k:IntKind}{n:Int}(h:ai e v (.sc (.p (.i k n)))):v= .int k n:=by have ⟨_,h⟩:=h;generalize hv:[v]=vs at h;cases h;grind
def G7 {v:Value}{l:List UInt8}(h:ai e v (.sc (.p (.s l)))): ∃b:ByteArray,v= .string b/\l=b.data.toList:=by have ⟨_,h⟩:=h;generalize hv:[v]=vs at h;cases h;grind
theorem Lq (x:Bool):ai e (.bool x) (.sc (.p (.b x))):=by exact ⟨rfl,.b x⟩
def yX (k:IntKind)(n:Int):ai e (.int k n) (.sc (.p (.i k n))):=by exact ⟨rfl,.i k n⟩
theorem akU (b:ByteArray):ai e (.string b) (.sc (.p (.s b.data.toList))):=by exact ⟨rfl,.s b⟩
def Mc {v u:Value}(h:ai e v (.sc (.p (.raw u)))):v=u:=by have ⟨_,h⟩:=h;generalize hv:[v]=vs at h;cases h;grind
def ago (u:Value)(h:u.oneCell'=true):ai e u (.sc (.p (.raw u))):=by exact ⟨rfl,.raw u h⟩
def S8 {x:Operand}(ho:o.op= .move x\/o.op= .assign x)(h:bT c Z e st a w)(hK:bB c st o.dst (aP c st x) K=some r): Rd P c Z K r e a w o (λ_=>True):=by have ⟨h1,h2⟩:=h.eval x;refine jN h ?_ h1 h2 hK;rcases ho with ho|ho<;>simp [execOp,ho]
def Wf {x:Operand}(ho:o.op= .nilCheck x)(h:bT c Z e st a w)(hK:apr (aP c st x) (λs=>bB c st o.dst s K)=some r):Rd P c Z K r e a w o (λ_=>True):=by
 have ⟨h1,h2⟩:=h.eval x;unfold apr at hK;split at hK
 .rename_i Aa;rw [Aa] at h1 h2;refine jN h ?_ (v:=a.eval x) h1 h2 hK;simp_all [ai,execOp]
 .rename_i Aa;rw [Aa] at h1 h2;refine jN h ?_ (v:=a.eval x) h1 h2 hK;have ⟨bg,q,vs,Md,h3⟩:=h1;simp_all [execOp]
 .rename_i m Aa;rw [Aa] at h1;unfold gP at hK;split at hK
  .rename_i c';have ⟨h0,h1⟩:=h1;refine jN (s:= .sc (.p (.rp c'))) h ?_ (v:=a.eval x) (by grind [ai,bp]) trivial hK;generalize hv:[a.eval x]=vs at h1;cases h1 with
   |rp bg off us ms hr hp=>
   simp_all [akn,and_true,execOp]
  .cases hK
 .simp at hK
def akV {x y z:Operand}(ho:o.op= .pick x y z)(h:bT c Z e st a w)(hK:afX (aP c st x) (aP c st y) (aP c st z) (λs=>bB c st o.dst s K)=some r):Rd P c Z K r e a w o (λ_=>True):=by
 have ⟨hx,_⟩:=h.eval x;have ⟨hy,hy2⟩:=h.eval y;have ⟨hz,hz2⟩:=h.eval z;have bU: ∀v,a.eval x= .bool v-> ∀w:World,(execOp a.eval o).run P w= .ok (.value (if v then a.eval y else a.eval z)) w:=by intro v hv w;simp [execOp,ho,hv,asBool]
 unfold afX at hK;split at hK
 .rename_i v hv;have hxv:=We (by rw [hv] at hx;exact hx);have hr:=bU v hxv;split at hK
  .rename_i p q hp hq;refine jN h hr ?_ (s:= .sc (.p (.b (bif v then p else q)))) trivial hK;grind [Lq]
  grind [jN]
 .simp at hK
def akX {op:UnOp}{ty:TypeId}{x:Operand}(ho:o.op= .unOp op ty x)(h:bT c Z e st a w)(hK:unK op (aP c st x) (λs=>bB c st o.dst s K)=some r):Rd P c Z K r e a w o (λ_=>True):=by
 have ⟨hx,_⟩:=h.eval x;generalize aP c st x=s at hx hK;unfold unK at hK;split at hK
 .refine jN h ?_ (Lq _) trivial hK;simp [execOp,ho,We hx,Op.unary]
 .refine jN h ?_ (yX _ _) trivial hK;simp [execOp,ho,nb hx,Op.unary,akq]
 .simp at hK
end
def Lr:List Kd->Nat
 |[]=>0
 | .h _ n::r=>(n+2)+Lr r
 |_::r=>1+Lr r
def tt (ti:Nat->Option TI)(P:Program)(I:TI)(z:Option Value):TypeDesc->Prop
 | .struct fs=>I.st=true/\I.cy=[]/\(0<I.size/\Lr I.lay=I.size)/\fs.toList.map (·.offset)=I.xx/\fs.toList.map (·.type)=I.acV/\ (∀(k:Nat) (f:Field),fs[k]? =some f-> ∃J,ti f.type=some J/\J.cy=[]/\0<J.size)/\ ∃cs,z=some (.agg cs)/\xN I.zero cs.toList=true/\cs.size=I.size
 | .tuple ts=>I.cy=ts.toList/\I.cy≠[]/\I.lay=[]/\I.st=false
 | .slice el=>I.st=false/\I.cy=[]/\I.size=1/\I.elem=el/\(∃E,ti el=some E/\E.cy=[]/\0<E.size)/\z=some (.slice none 0 0)/\I.zero=[.nil]/\(∃k,I.lay=[k]/\k= .l)
 | .array n el=>I.st=false/\I.cy=[]/\I.size=n/\I.elem=el/\ ∃k m,n=m+2/\(∃i,P.underlying el=some (.int k)/\P.info? el=some i/\i.size=1)/\I.lay=[.h k m]/\I.zero=[.hs k m (zA m)]/\z=some (.agg (bN k (zA m)).toArray)
 | .bool=>I.st=false/\I.cy=[]/\I.size=1/\I.lay=[.b]/\I.zero=[.p (.b false)]/\z=some (.bool false)
 | .int k=>I.st=false/\I.cy=[]/\I.size=1/\I.lay=[.i k]/\I.zero=[.p (.i k 0)]/\z=some (.int k 0)
 | .string=>I.st=false/\I.cy=[]/\I.size=1/\I.lay=[.s]/\I.zero=[.p (.s [])]/\ ∃b:ByteArray,z=some (.string b)/\b.data.toList=[]
 |_=>I.st=false/\I.cy=[]/\I.size=1/\I.lay=[.raw]/\ ∃v,z=some v/\v.oneCell'=true/\xN I.zero [v]=true
def pU (ti:Nat->Option TI)(P:Program)(t:Nat)(I:TI):Prop:=∃d i,P.underlying t=some d/\P.info? t=some i/\(I.cy=[]->i.size=I.size/\i.bytes=I.bytes)/\tt ti P I i.zero d
def iz (P:Program)(ti:Nat->Option TI):Prop:= ∀t I,ti t=some I->pU ti P t I
section
variable {P:Program}{c:Ctx}{Z:bC}{e:Env}{st:St}{a:Act}{w:World}{R:Type}{K:St->Option R}{r:R}{Q:Exit->Act->World->Prop}{o:Oper}{w':World}
theorem dQ {x:Bool}{k:Option R}(h:bS x k=some r):x=true/\k=some r:=by
 cases x
 .grind [bS]
 .exact ⟨rfl,h⟩
def mE {α:Type}{x:Option α}{k:α->Option R}(h:bd x k=some r): ∃y,x=some y/\k y=some r:=by
 cases x with
 |none=>grind [bd]
 |some y=>exact ⟨y,rfl,h⟩
def Wg {l:List MV}{i:Int}{k:MV->Option R}(h:idx l i k=some r):0<=i/\ ∃y,l[i.toNat]? =some y/\k y=some r:=by unfold idx apo at h;grind
def pU.agg {ti:Nat->Option TI}{t:Nat}{I:TI}(h:pU ti P t I)(hc:I.cy=[]): (∃d,P.underlying t=some d/\d.isRow=true/\(I.st=true\/I.st=false/\1<I.size))\/(∃d,P.underlying t=some d/\d.isRow=false/\I.st=false/\I.size=1):=by
 have ⟨d,i,h1,h2,h3,h4⟩:=h;cases d<;>simp only [tt] at h4<;>first
  |exact (by grind)
  |exact (by grind)
  |exact (by grind)
  |grind
def pU.info {ti:Nat->Option TI}{t:Nat}{I:TI}(h:pU ti P t I)(hc:I.cy=[]): ∃i,P.info? t=some i/\i.size=I.size/\i.bytes=I.bytes:=by have ⟨d,i,h1,h2,h3,h4⟩:=h;grind
theorem a8 {t:Nat}{I:TI}(h:c.tv t=some I):c.ti t=some I/\I.cy=[]:=by unfold Ctx.tv at h;grind
def Zl {s t:TypeId}{x:Operand}{I:TI}(ho:o.op= .convert s t x)(hI:c.ti t=some I)(hT:iz P c.ti)(hs: ∃d,P.underlying s=some d){fk:Option FloatKind}(hfk: ∀k,fk=some k->P.underlying t=some (.float k))(h:bT c Z e st a w)(hK:afY I fk (aP c st x) (λs=>bB c st o.dst s K)=some r):Rd P c Z K r e a w o (λ_=>True):=by
 obtain ⟨hx,_⟩:=h.eval x;obtain ⟨ds,xy⟩:=hs;obtain ⟨d,i,h1,h2,h3,h4⟩:=hT t I hI;generalize aP c st x=s' at hx hK;unfold afY at hK;split at hK
 .rename_i k k' n fw Ls hl;have hd:d= .int k:=by cases d<;>simp only [tt,hl,fw,Ls] at h4<;>simp_all
  subst hd;refine jN h ?_ (yX _ _) trivial hK;simp [execOp,ho,nb hx,convert,run_underlying xy,run_underlying h1,Conv.intToInt]
 .rename_i l fw Ls hl;have hd:d= .string:=by cases d<;>simp only [tt,hl,fw,Ls] at h4<;>simp_all
  obtain ⟨b,hb,rfl⟩:=G7 hx;refine jN h ?_ (akU b) trivial hK;simp_all [execOp,convert,run_underlying]
 .rename_i k x fw Ls hl;have hd:d= .int k:=by cases d<;>simp only [tt,hl,fw,Ls] at h4<;>simp_all
  subst hd;have ⟨n,hn,hK⟩:=mE hK;have ⟨hr,hK⟩:=dQ hK;have hr:=of_decide_eq_true hr;refine jN h ?_ (yX _ _) trivial hK;simp [execOp,ho,Mc hx,convert,run_underlying xy,run_underlying h1,Conv.floatToInt,hn,hr]
 .split at hK
  .have Md:=hfk _ rfl;refine jN h ?_ (ago _ rfl) trivial hK;simp [execOp,ho,nb hx,convert,run_underlying xy,run_underlying Md,Conv.intToFloat]
  .simp at hK
 .simp at hK
def akY {op:BinOp}{k:IntKind}{x y:Int}{m:MV}{t:TypeId}(hm:abm op k x y=some m): ∃v,(∀w:World,(binOp op t (.int k x) (.int k y)).run P w= .ok v w)/\ai e v (.sc (.p m)):=by
 cases op<;>simp only [abm,AS,reduceCtorEq] at hm<;>subst hm
 .simp_all [binOp,akq,yX]
 .simp_all [binOp,akq,yX]
 .simp_all [binOp,akq,yX]
 .exact ⟨.int k (eX k x y),λw=>by simp [binOp];rfl,yX _ _⟩
 .exact ⟨.int k (Ch k x y),λw=>by simp [binOp];rfl,yX _ _⟩
 .exact ⟨.int k (ca k x y),λw=>by simp [binOp];rfl,yX _ _⟩
 .refine ⟨.bool (decide (x=y)),λw=> ?_,Lq _⟩;simp [binOp,Op.intCmp];rfl
 .refine ⟨.bool (!decide (x=y)),λw=> ?_,Lq _⟩;simp [binOp,Op.intCmp];rfl
 all_goals simp_all [decide,binOp,Op.intCmp,Lq]
def toList_data (b:ByteArray):b.toList=b.data.toList:=by exact ByteArray.toList_eq b
def akZ {op:BinOp}{x y:ByteArray}{m:MV}{t:TypeId}(hm:SW op x.data.toList y.data.toList=some m): ∃v,(∀w:World,(binOp op t (.string x) (.string y)).run P w= .ok v w)/\ai e v (.sc (.p m)):=by
 have aCR:(x.data.toList==y.data.toList)=decide (x.data.toList=y.data.toList):=by rw [Bool.eq_iff_iff];simp
 cases op<;>simp only [SW,AS,reduceCtorEq] at hm<;>subst hm<;> exact ⟨_,λw=>by simp_all [binOp,Op.stringOp,toList_data],Lq _⟩
def ac3 (b:ByteArray)(n:Nat):b[n]? =b.data.toList[n]? :=by
 by_cases h:n<b.size
 .have h2:n<b.data.toList.length:=by simpa using h
  rw [getElem?_pos b n h,BY h2];rfl
 simp_all
def Ai (k:IntKind)(x:List Int)(n:Nat)(hl:n<x.length):(bN k x)[n]? =some (.int k (x.getD n 0)):=by simp [bN,afu,List.getD,BY hl]
theorem att {t:TypeId}{x y:Operand}{I:TI}(ho:o.op= .index t x y)(hI:c.ti t=some I)(hT:iz P c.ti)(h:bT c Z e st a w)(hK:ixK I (aP c st x) (aP c st y) (λs=>bB c st o.dst s K)=some r):Rd P c Z K r e a w o (λ_=>True):=by
 have ⟨hx,_⟩:=h.eval x;have ⟨hy,_⟩:=h.eval y;have ⟨d,i,h1,h2,h3,h4⟩:=hT t I hI;generalize aP c st x=sx at hx hK;generalize aP c st y=sy at hy hK;unfold ixK at hK;split at hK
 .rename_i l k n fw hl;have hd:d= .string:=by cases d<;>simp only [tt,hl,fw] at h4<;>simp_all
  subst hd;have ⟨hc,hK⟩:=ob hK;have ⟨hn0,YU⟩:=of_decide_eq_true hc;obtain ⟨b,hb,rfl⟩:=G7 hx;have dX:n.toNat<b.data.toList.length:=aab
  refine jN h ?_ (yX .u8 ((b.data.toList.getD n.toNat 0).toNat:Int)) trivial hK;have hg:b[n.toNat]? =some (b.data.toList.getD n.toNat 0):=by rw [ac3,BY dX];simp [List.getD,BY dX]
  simp [execOp,ho,hb,nb hy,Instr.index,run_underlying h1,asIntOf,hn0,hg]
 .rename_i k' m' k m b _ n fw hl;cases hq:bD m' m&&decide (k'=k) with
  |false=>grind
  |true=>
  simp only [hq,cond_true] at hK;simp only [AT,decide_eq_true_eq] at hq;have ⟨hm,rfl⟩:=hq;have hm:=sh hm;cases d<;>simp only [tt,hl,fw] at h4<;>first|(exfalso;simp_all;done)|skip
  have ⟨hc,hK⟩:=dQ hK;have ⟨hn0,YU⟩:=of_decide_eq_true hc;have ayn:n<(m':Int)+2:=aab
  .simp only [ai] at hx;obtain ⟨_,_,_,_,kk,mm,rfl,⟨ie,hu,rG,Aj⟩,B0,_⟩:=h4;simp at B0;have ⟨rfl,rfl⟩:=B0;refine jN h ?_ (yX k' (b.getD n.toNat 0)) trivial hK;have hg:=Ai k' b n.toNat aab;have hg':(bN k' b).toArray[n.toNat]? =some (.int k' (b.getD n.toNat 0)):=by simpa using hg
   simp [execOp,ho,hx,nb hy,Instr.index,run_underlying h1,asIntOf,hn0,ayn,akM,isAgg,run_underlying hu,afv,typeInfo,rG,Aj,hg,hg']
 .simp at hK
def Wh (P:Program)(ti:Nat->Option TI):Prop:=(∀t I,ti t=some I->afR I.zero=true-> ∃el,P.underlying t=some (.pointer el))/\ ∀t I,ti t=some I->I.cy=[]-> ∀(e:Env) (w:World) (vx vy:Value) (sx sy:Slot) (b:Bool),ai e vx sx->ai e vy sy-> mW I.lay (aX sx)=true->mW I.lay (aX sy)=true->Co I.st sx=true->Co I.st sy=true->kA (aX sx) (aX sy)=some b-> (∀k n k' n',sx= .sc (.p (.i k n))->sy= .sc (.p (.i k' n'))->False)->(∀l l',sx= .sc (.p (.s l))->sy= .sc (.p (.s l'))->False)-> (akT t vx vy).run P w= .ok b w/\ ∀(x y:Operand) (op:BinOp),(eqGuard op t x y vx vy).run P w= .ok () w/\(op= .eql->binOp op t vx vy=(do pure (.bool (<-akT t vx vy))))/\(op= .neq->binOp op t vx vy=(do pure (.bool (!(<-akT t vx vy)))))
theorem agp {op:BinOp} {t t':TypeId}{x y:Operand}(ho:o.op= .binOp op t x y t')(h:bT c Z e st a w)(hE:Wh P c.ti)(hK:apq (c.tv t) op (aP c st x) (aP c st y) (λs=>bB c st o.dst s K)=some r):Rd P c Z K r e a w o (λ_=>True):=by
 obtain ⟨hP,hE⟩:=hE;obtain ⟨hx,_⟩:=h.eval x;obtain ⟨hy,_⟩:=h.eval y;generalize hsx:aP c st x=sx at hx hK;generalize hsy:aP c st y=sy at hy hK;have bU: ∀v,(∀w:World,(binOp op t (a.eval x) (a.eval y)).run P w= .ok v w)->(∀cs,a.eval x≠ .agg cs)->a.eval x≠ .nilIface-> ∀w:World,(execOp a.eval o).run P w= .ok (.value v) w:=by
  intro v hv hna hni w;have hg:(eqGuard op t x y (a.eval x) (a.eval y)).run P w= .ok () w:=by
   generalize a.eval x=va at hna hni;generalize a.eval y=vb;have hm: ∀(u v:Value),u=va->(∀cs,u≠ .agg cs)->u≠ .nilIface->(eqGuard op t x y u v).run P w= .ok () w:=by
    intro u v _ h1 h2;cases u<;>first
     |exact absurd rfl h2
     |exact absurd rfl (h1 _)
     |(cases op<;>rfl)
   exact hm va vb rfl hna hni
  simp [execOp,ho,hg,hv]
 unfold apq at hK;split at hK
 .rename_i k n k' n';have e1:=nb hx;have e2:=nb hy;split at hK
  .cases hk:decide (k=k') with
   |false=>grind
   |true=>
    have hk:=of_decide_eq_true hk;subst hk;cases hz:decide (n'=0) with
    |true=>grind [bS]
    |false=>simp only [bS,hz,akW] at hK;have hz:=of_decide_eq_false hz;refine jN h (bU _ ?_ (by simp [e1]) (by simp [e1])) (yX _ _) trivial hK;simp [binOp,e1,e2,Op.intDiv,hz]
  .cases hk:decide (k=k') with
   |false=>grind
   |true=>
    have hk:=of_decide_eq_true hk;subst hk;cases hz:decide (n'=0) with
    |true=>grind [bS]
    |false=>simp only [bS,hz,akW] at hK;have hz:=of_decide_eq_false hz;refine jN h (bU _ ?_ (by simp [e1]) (by simp [e1])) (yX _ _) trivial hK;simp [binOp,e1,e2,Op.intDiv,hz]
  .have ⟨hz,hK⟩:=ob hK;have hz:=of_decide_eq_true hz;refine jN h (bU _ ?_ (by simp [e1]) (by simp [e1])) (yX _ _) trivial hK;have: ¬n'<0:=aab
   simp [binOp,e1,e2,Op.shift,this]
  .have ⟨hz,hK⟩:=ob hK;have hz:=of_decide_eq_true hz;refine jN h (bU _ ?_ (by simp [e1]) (by simp [e1])) (yX _ _) trivial hK;have: ¬n'<0:=aab
   simp [binOp,e1,e2,Op.shift,this]
  .cases hk:decide (k=k') with
   |false=>grind
   |true=>
    have hk:=of_decide_eq_true hk;subst hk;cases hm:abm op k n n' with
    |none=>grind
    |some m=>simp only [hm] at hK;have ⟨v,hv,hr⟩:=akY (P:=P) (e:=e) (t:=t) hm;exact jN h (by grind) hr trivial hK
 .obtain ⟨b,hb,rfl⟩:=G7 hx;obtain ⟨b',EM,rfl⟩:=G7 hy;split at hK
  .have ⟨hz,hK⟩:=dQ hK
   .have hz:=of_decide_eq_true hz;have hr:ai e (.string (b++b')) (.sc (.p (.s (b.data.toList++b'.data.toList)))):=by have:=akU (e:=e) (b++b');simpa [ByteArray.data_append] using this
    refine jN h (bU _ ?_ (by simp [hb]) (by simp [hb])) hr trivial hK;have hs: ¬(((b.size+b'.size:Nat):Int)>IntKind.i64.max):=by
     have h1:b.size=b.data.toList.length:=abu
     have h2:b'.size=b'.data.toList.length:=abu
     have:IntKind.i64.max=9223372036854775807:=abq
     rw [this];omega
    intro w;simp only [binOp,hb,EM,Op.stringOp,hs,if_false];rfl
  .cases hm:SW op b.data.toList b'.data.toList with
   |none=>grind
   |some m=>simp only [hm] at hK;have ⟨v,hv,hr⟩:=akZ (P:=P) (e:=e) (t:=t) hm;exact jN h (by grind) hr trivial hK
 .have e2:=Mc hy;simp only [ai] at hx;have ptr: ∀I:TI,c.tv t=some I->afR I.zero=true-> ∀w:World,(akT t (a.eval x) (a.eval y)).run P w= .ok false w:=by
   intro I hI hz w;obtain ⟨el,hu⟩:=hP t I (a8 hI).1 hz;rw [hx,e2];have key: ∀(d:Nat) (ad:Addr),(Op.equalIn (d+1) t (.pointer (some ad)) (.pointer none)).run P w= .ok false w:=λd ad=>by simp [Op.equalIn,ahF,run_underlying hu]
   exact key 9999 _
  split at hK
  .rename_i I hI;have ⟨hz,hK⟩:=ob hK;refine jN h (bU (.bool false) (λw=> ?_) (by simp [hx]) (by simp [hx])) (Lq _) trivial hK;have:=ptr I hI hz w;rw [hx,e2] at this⊢;simp [binOp,this]
  .rename_i I hI;have ⟨hz,hK⟩:=ob hK;refine jN h (bU (.bool true) (λw=> ?_) (by simp [hx]) (by simp [hx])) (Lq _) trivial hK;have:=ptr I hI hz w;rw [hx,e2] at this⊢;simp [binOp,this]
  .simp at hK
 .have e1:=Mc hx;have e2:=Mc hy;have ⟨r',hr',hK⟩:=mE hK;refine jN h (bU _ ?_ (by simp [e1]) (by simp [e1])) (ago (.float .f64 r') rfl) trivial hK;cases op<;>simp only [atl,reduceCtorEq] at hr'<;>simp [binOp,e1,e2,Op.floatArith,hr']
 .rename_i YU Me _ hn3;split at hK
  .rename_i I hI;have ⟨S9,VL⟩:=a8 hI;have ⟨hf,hK⟩:=ob hK;simp at hf;have ⟨hf,hsh⟩:=hf;split at hK
   .cases hm:kA (aX sx) (aX sy) with
    |none=>grind
    |some b=>simp only [hm] at hK;refine jN h ?_ (Lq b) trivial hK;intro w;have ⟨h1,h2⟩:=hE t I S9 VL e w _ _ sx sy b hx hy hf.1 hf.2 hsh.1 hsh.2 hm YU Me;have:=(h2 x y .eql).1;simp [execOp,ho,this,(h2 x y .eql).2.1 rfl,h1]
   .cases hm:kA (aX sx) (aX sy) with
    |none=>grind
    |some b=>simp only [hm] at hK;refine jN h ?_ (Lq (!b)) trivial hK;intro w;have ⟨h1,h2⟩:=hE t I S9 VL e w _ _ sx sy b hx hy hf.1 hf.2 hsh.1 hsh.2 hm YU Me;have:=(h2 x y .neq).1;simp [execOp,ho,this,(h2 x y .neq).2.2 rfl,h1]
   .simp at hK
  .simp at hK
theorem cell_of {bg:Nat}{arr:Array Value}{T:TypeId}{fr:Nat×Nat}(h:w.heap[bg]? =some (.cells arr T fr))(j:Nat):w.cell? ⟨bg,j,none⟩=arr[j]? :=by simp [World.cell?,h]
def ja {t:TypeId}{I:TI}{bg off:Nat}{vs:List Value}(hr:pU c.ti P t I)(hc:I.cy=[])(hl:vs.length=I.size)(hm:w.rangeAt bg off vs): ((I.st=true\/1<I.size)/\ ∀w:World,w.rangeAt bg off vs->(agG t (.pointer (some ⟨bg,off,none⟩))).run P w= .ok (.agg vs.toArray) w)\/ (I.st=false/\ ∃v,vs=[v]/\ ∀w:World,w.rangeAt bg off vs->(agG t (.pointer (some ⟨bg,off,none⟩))).run P w= .ok v w):=by
 have ⟨i,hi,hs,_⟩:=hr.info hc;rcases hr.agg hc with ⟨d,hu,hd,hh⟩|⟨d,hu,hd,h1,h2⟩
 .grind [id,run_loadAt_mid]
 .refine .inr ⟨h1,?_⟩;rw [h2] at hl;obtain ⟨v,rfl⟩:=afJ.1 hl;refine ⟨v,rfl,λw hm=> ?_⟩;have qq:w.cell? ⟨bg,off,none⟩=some v:=hm 0 v rfl;have hag:(isAgg t).run P w= .ok false w:=by unfold isAgg;rw [ahF,run_underlying hu w];cases d<;>simp_all
  simp_all [agG,afK,loadVar]
def bp.slot {vs:List Value}{l:aF}{v:Value}(h:bp e vs l)(hv:(vs=[v]/\l.w=1)\/(v= .agg vs.toArray/\1<l.w)):ai e v (.sc l):=by
 rcases hv with ⟨rfl,hw⟩|⟨rfl,hw⟩
 .cases l<;>simp [ai,aF.w] at hw⊢ <;>exact h
 .cases l<;>simp [aF.w] at hw;simp only [ai];obtain ⟨rfl,h2⟩:=h;grind
def jO {t:TypeId}{I:TI}{cs:List aF}{bg base off:Nat}{vs:List Value}{s:Slot} {K':Slot->Option R}(hr:pU c.ti P t I)(hc:I.cy=[])(hv:av e vs cs)(hm:w.rangeAt bg base vs)(hK:kz I cs off K'=some r): ∃v s,(∀w:World,w.rangeAt bg base vs->(agG t (.pointer (some ⟨bg,base+off,none⟩))).run P w= .ok v w)/\ai e v s/\dE st.fr s/\K' s=some r:=by
 unfold kz at hK;cases fw:I.st with
 |true=>
  simp only [fw,cond_true] at hK;cases hp:Dn.part cs off I.size with
  |none=>grind
  |some ds=>
   simp only [hp] at hK;obtain ⟨v1,v2,v3,rfl,h1,h2,h3⟩:=RD hp hv;have hm2: ∀w:World,w.rangeAt bg base (v1++v2++v3)->w.rangeAt bg (base+off) v2:=by
    intro w hm j v hj;have Ta:j<v2.length:=(by grind)
    have:=hm (off+j) v (by grind);rwa [<-agu] at this
   rcases ja hr hc h2 (hm2 w hm) with ⟨_,bU⟩|⟨hf,_⟩
   .refine ⟨_,.ag ds,λw hm=>bU w (hm2 w hm),?_,trivial,hK⟩;simp only [ai];grind
   grind
 |false=>
  simp only [fw,cond_false] at hK;cases hp:cut cs off with
  |none=>grind
  |some ds=>
   cases ds with
   |nil=>grind
   |cons l ls=>
    simp only [hp] at hK;have ⟨hb,hK⟩:=ob hK;have hw:=sh hb;obtain ⟨v1,v2,rfl,h1,h2⟩:=Cs hp hv;obtain ⟨u,u2,rfl,h3,h4⟩:=h2;have hm2: ∀w:World,w.rangeAt bg base (v1++(u++u2))->w.rangeAt bg (base+off) u:=by
     intro w hm j v hj;have Ta:j<u.length:=(by grind)
     have:=hm (off+j) v (by grind);rwa [<-agu] at this
    rcases ja hr hc (by rw [h3.width,hw]) (hm2 w hm) with ⟨hh,bU⟩|⟨_,v,hv1,bU⟩
    .refine ⟨_,.sc l,(by grind),h3.slot (.inr ⟨rfl,?_⟩),trivial,hK⟩;grind
    .refine ⟨_,.sc l,(by grind),h3.slot (.inl ⟨hv1,?_⟩),trivial,hK⟩;grind [h3.width]
def bn.at {key:Nat->Nat} {φ:Ph}{size:Nat}{xs:List MV}: ∀{cs:List Value} {i:Nat} {x:MV},bn key φ size cs xs->xs[i]? =some x-> ∃a v b,cs=a++v++b/\a.length=i *size/\v.length=size/\jI key φ v x:=by
 induction xs with
 |nil=>grind
 |cons y ys ih=>
  intro cs i x h hx;obtain ⟨v,q,rfl,hl,hr,he⟩:=h;cases i with
  |zero=>simp at hx;subst hx;exact ⟨[],v,q,abu,abu,hl,hr⟩
  |succ i=>grind
def il.leaves {ms:List MV}: ∀{vs:List Value} {cs:List aF},il e.key e.φ vs ms->dz cs=some ms->(∀m,aF.p m∈cs->m.one=true)->av e vs cs:=by
 induction ms with
 |nil=>
  intro vs cs h hc _;cases h;cases cs with
  |nil=>rfl
  |cons l r=>cases hr:dz r<;>cases l<;>simp [dz,hr] at hc
 |cons m ms ih=>
  intro vs cs h hc ho;cases cs with
  |nil=>simp [dz] at hc
  |cons l r=>
   generalize EN:vs=Wi at h;cases h with
   |cons v _ vs _ h1 h2=>
   cases hr:dz r with
   |none=>simp_all [dz]
   |some q=>
    have dO: ∀m,aF.p m∈r->m.one=true:=(by grind)
    cases l<;>simp [dz,hr] at hc
    .have ⟨rfl,rfl⟩:=hc;exact ⟨v,vs,rfl,⟨ho _ abu,h1⟩,ih h2 hr dO⟩
    .have ⟨rfl,rfl⟩:=hc;refine ⟨v,vs,rfl,?_,ih h2 hr dO⟩;cases h1;rename_i hx;exact ⟨rfl,hx⟩
def jI.M6 {vs:List Value}{x:MV}{b:Bool}{cs:List aF}(h:jI e.key e.φ vs x)(hc:M1 b x cs):av e vs cs:=by
 have ⟨⟨ms,h1,h2⟩,h3⟩:=hc;cases b with
 |true=>cases ms<;>simp [yx] at h2<;>subst h2<;>(cases h;rename_i hh;exact hh.leaves h1 h3)
 |false=>
  cases ms with
  |nil=>grind [yx]
  |cons m ms=>
   cases ms with
   |cons y ys=>grind [yx]
   |nil=>simp [yx] at h2;subst h2;have:il e.key e.φ (vs++[]) [m]:= .cons vs m [] [] h .nil;rw [List.append_nil] at this;exact this.leaves h1 h3
def agq {t:TypeId}{x:Operand}{I:TI}{cs:List aF}{off:Nat}(ho:o.op= .load t x)(hI:c.tv t=some I)(hT:iz P c.ti)(h:bT c Z e st a w)(Ql:aP c st x= .rp cs off)(hK:kz I cs off (λs=>bB c st o.dst s K)=some r):Rd P c Z K r e a w o (λw'=> ∀b q v,e.φ b q=some v->w'.cell? ⟨b,q,none⟩=some v):=by
 have ⟨hx,rO⟩:=h.eval x;have ⟨ng,hc⟩:=a8 hI;have hr:=hT t I ng;rw [Ql] at hx;have ⟨bg,q,vs,hx,rQ,_,agr⟩:=hx;have hm: ∀w':World,(∀b q v,e.φ b q=some v->w'.cell? ⟨b,q,none⟩=some v)->w'.rangeAt bg q vs:=by
  intro w' hi j v hj;have Ta:j<vs.length:=(by grind)
  exact (by grind)
 have ⟨v,s,h1,h2,h3,h4⟩:=jO (st:=st) (s:= .skip) hr hc rQ (hm w h.mj) hK;refine ac2 (λw' hi=> ?_) h (.refl _ _ _) (.of h2 h3) h4;simp [execOp,ho,hx,h1 w' (hm w' hi)]
theorem ak1 {t:TypeId}{x:Operand}{I:TI}(ho:o.op= .load t x)(hI:c.tv t=some I)(hT:iz P c.ti)(h:bT c Z e st a w)(hK:ldK st I (aP c st x) (λs=>bB c st o.dst s K)=some r):Rd P c Z K r e a w o (dk w):=by
 have ⟨hx,rO⟩:=h.eval x;have ⟨ng,hc⟩:=a8 hI;have hr:=hT t I ng;have ayp: ∀v s,(∀w':World,dk w w'->(agG t (a.eval x)).run P w'= .ok v w')->ai e v s->dE st.fr s->bB c st o.dst s K=some r->Rd P c Z K r e a w o (dk w):=by intro v s h1 h2 h3 h4;refine ac2 (λw' hg=> ?_) h (.refl _ _ _) (.of h2 h3) h4;simp [execOp,ho,h1 w' hg]
 have keep: ∀{w':World} {bg off:Nat} {vs:List Value},dk w w'->w.rangeAt bg off vs->w'.rangeAt bg off vs:=by intro w' bg off vs hg hm j v hj;exact hg.cell (hm j v hj)
 generalize aP c st x=s at hx hK rO;unfold ldK at hK;split at hK
 .rename_i root off;simp only [ai] at hx;have rK:=h.slot root;split at hK
  .rename_i cs Ci;rw [Ci] at rK;have IQ:fU cs=false:=by cases hq:fU cs<;>simp_all
   simp only [IQ,cond_false] at hK;have ⟨_,yz⟩:=rK;have ⟨arr,T,cD,rQ⟩:=yz.cells IQ;have hm:w.rangeAt (e.B root) 0 arr.toList:=by intro j v hj;rw [agK,cell_of cD];simpa using hj
   have ⟨v,s,h1,h2,h3,h4⟩:=jO (st:=st) (s:= .skip) hr hc rQ hm hK;grind
  .simp at hK
 .have ⟨bg,q,vs,hx,rQ,_,agr⟩:=hx;have hm:w.rangeAt bg q vs:=by
   intro j v hj;have Ta:j<vs.length:=(by grind)
   exact h.mj _ _ _ (by grind)
  have ⟨v,s,h1,h2,h3,h4⟩:=jO (st:=st) (s:= .skip) hr hc rQ hm hK;grind
 .rename_i f i off b cs;cases hf:aN st.aT f with
  |none=>grind
  |some o'=>
   simp only [hf] at hK;have ⟨bg,cap,hE,⟨x,hxi,hel⟩,hx⟩:=hx o' (by grind [h.m]);have ⟨J,cells,hJ,hJc,eS,kp,_⟩:=(h.jC f o' hf).row;obtain ⟨p1,v1,p2,rfl,I7,xO,fG⟩:=kp.at hxi;have rQ:=fG.M6 hel;rw [hE] at eS;have qq:=eS.cells (g:=bg) rfl;have hm:w.rangeAt bg (i *FB cs) v1:=by intro j v hj;have Ta:j<v1.length:=(agN.1 hj).1;have:=qq (i *J.size+j) v (by rw [IN,afD aab,agO aab];rw [show i *J.size+j-p1.length=j by omega];exact hj);rw [afC,agK] at this;rw [<-rQ.width,xO];exact this
   have ⟨v,s,h1,h2,h3,h4⟩:=jO (st:=st) (s:= .skip) hr hc rQ hm hK;grind
 .rename_i root off hn i;simp only [ai] at hx;have rK:=h.slot root;cases hb:I.st||!bD I.size 1 with
  |true=>grind
  |false=>
   simp only [hb,cond_false] at hK;simp only [ad1,afE] at hb;have yS:=sh hb.2;split at hK
   .rename_i cs Ci;rw [Ci] at rK;have IQ:fU cs=false:=by cases hq:fU cs<;>simp_all
    simp only [IQ,cond_false] at hK;have ⟨_,yz⟩:=rK;have ⟨arr,T,cD,rQ⟩:=yz.cells IQ;split at hK
    .rename_i kk n' b ls apK;cases hq:bD n' hn with
     |false=>grind
     |true=>
     simp only [hq,cond_true] at hK;have hq:=sh hq;have ⟨v1,v2,ayq,h1,h2⟩:=Cs apK rQ;obtain ⟨u,u2,rfl,h3,h4⟩:=h2;obtain ⟨rfl,h3⟩:=h3;have hg:=Ai kk b i aab;have hlen:=dj kk b;have hm:w.rangeAt (e.B root) (off+i) [.int kk (b.getD i 0)]:=by
      intro j v hj;cases j with
      |succ j=>simp at hj
      |zero=>
       rw [akC,cell_of cD];have:arr[off+i]? =arr.toList[off+i]? :=abu
       rw [this,ayq,afD aab,agO aab,show off+i-v1.length=i by omega,hg,<-hj];simp [List.getD]
     rcases ja hr hc (by simp [yS]) hm with ⟨hh,_⟩|⟨_,v,hv1,bU⟩
     .grind
     .exact ayp _ _ (by grind) (yX _ _) trivial hK
    .simp at hK
   .simp at hK
 .simp at hK
def ac5 {t:TypeId}{x:Operand}{f:Nat}{I:TI}(ho:o.op= .fieldAddr t x f)(hI:c.tv t=some I)(hT:iz P c.ti)(h:bT c Z e st a w)(hK:af0 st I f (aP c st x) (λs=>bB c st o.dst s K)=some r):Rd P c Z K r e a w o (λ_=>True):=by
 have ⟨hx,rO⟩:=h.eval x;have ⟨ng,hc⟩:=a8 hI;have ⟨d,i,h1,h2,h3,h4⟩:=hT t I ng;have key: ∀q bg off,I.st=true->I.xx[f]? =some q->a.eval x= .pointer (some ⟨bg,off,none⟩)-> ∀w:World,(execOp a.eval o).run P w= .ok (.value (.pointer (some ⟨bg,off+q,none⟩))) w:=by
  intro q bg off fw hq hv w;cases d<;>simp only [tt] at h4;case struct fs=>
   have ⟨_,_,_,ho1,dO,ho3,_⟩:=h4;rw [<-ho1,afu] at hq;cases hf:fs.toList[f]? with
   |none=>grind
   |some fl=>
    simp [hf] at hq;subst hq;have hf':fs[f]? =some fl:=by simpa using hf
    have ⟨J,hJ,hJc,hJs⟩:=ho3 f fl hf';have ⟨ij,hij,hs,_⟩:=(hT _ _ hJ).info hJc;have hz:ij.size≠0:=aab
    simp [execOp,ho,hv,Instr.fieldAt,run_underlying h1,hf',afK,fieldPlace,afv,typeInfo,hij,hz,afC]
  all_goals grind
 generalize aP c st x=s at hx hK rO;unfold af0 at hK;split at hK
 .rename_i q r' o' fw hq;refine jN (s:= .ptr r' (o'+q)) h (key q _ _ fw hq hx) ?_ rO hK;grind [ai]
 .rename_i q cs o' fw hq;have ⟨bg,b,vs,hx,hh⟩:=hx;refine jN (s:= .rp cs (o'+q)) h (key q _ _ fw hq hx) ?_ trivial hK;grind [ai,agu]
 .rename_i q g i' o' b cs fw hq;cases hf:aN st.aT g with
  |none=>grind
  |some w'=>simp only [hf] at hK;have ⟨bg,cap,h5,h6,h7⟩:=hx w' (by grind [h.m]);refine jN (s:= .ep g i' (o'+q) b cs) h (key q _ _ fw hq h7) ?_ trivial hK;grind [ai,h.m,agu]
 .simp at hK
def ac6 {cs:List aF}: ∀{vs:List Value} {k:Nat} {l:aF},av e vs cs->GX cs k=some l-> ∃v,vs[k]? =some v/\ai e v (.sc l):=by
 induction cs with
 |nil=>grind [GX]
 |cons x xs ih=>
  intro vs k l hr hk;obtain ⟨v0,q,rfl,h1,h2⟩:=hr;have hw:=h1.width;have hx:x.w=1/\(k=0->x=l)/\(∀j,k=j+1->GX xs j=some l)/\ ∀kk n y,x≠ .hs kk n y:=by cases x<;>cases k<;>simp [GX,aF.w] at hk⊢ <;>exact hk
  have ⟨w1,w2,w3,w4⟩:=hx;rw [w1] at hw;obtain ⟨u,rfl⟩:=afJ.1 hw;cases k with
  |zero=>refine ⟨u,rfl,?_⟩;cases x<;>first|grind [ai]|exact absurd rfl (w4 _ _ _)|grind [ai]
  |succ j=>grind
def apL {x:Operand}{k:Nat}(ho:o.op= .extract x k)(h:bT c Z e st a w)(hK:apw (aP c st x) k (λs=>bB c st o.dst s K)=some r):Rd P c Z K r e a w o (λ_=>True):=by
 have ⟨hx,rO⟩:=h.eval x;generalize aP c st x=s at hx hK;unfold apw at hK;split at hK
 .rename_i cs;have ⟨arr,hv,hs⟩:=hx;cases hk:GX cs k with
  |none=>grind
  |some l=>simp only [hk] at hK;have ⟨v,hv2,h1⟩:=ac6 hs hk;refine jN h ?_ h1 trivial hK;simp_all [execOp,Instr.extract]
 .rename_i vs;have ⟨arr,hv,hs⟩:=hx;cases hk:vs[k]? with
  |none=>grind
  |some s=>
   simp only [hk] at hK;have: ∀(k:Nat) (vs:List Slot) (l:List Value),mY e l vs->vs[k]? =some s-> ∃v,l[k]? =some v/\ai e v s/\G3 s=true:=by
    intro k;induction k with
    |zero=>
     intro vs l hl hk;cases vs with
     |nil=>simp at hk
     |cons y ys=>simp only [mY] at hl;grind
    |succ k ih=>
     intro vs l hl hk;cases vs with
     |nil=>simp at hk
     |cons y ys=>grind [mY]
   have ⟨v,hv2,h1,h2⟩:=this k vs arr.toList hs hk;refine jN h ?_ h1 ?_ hK
   .simp_all [execOp,Instr.extract]
   .cases s<;>simp [G3] at h2<;>trivial
 .simp at hK
def dk.refl (w:World):dk w w:=⟨ac4 _,λ_ _=>rfl,.refl _⟩
def dk.alloc (w:World)(cs:Array Value)(t:TypeId):dk w (w.alloc (.cells cs t)):=⟨abu,(by grind [qn]),.alloc w cs t⟩
def dk.ayr (g:dk w w'){base:Nat}{t:TypeId}{size:Nat}{v:Value}{n:Nat}{xs:List Value}(h:w.ownsRow base t size v n xs):w'.ownsRow base t size v n xs:=by
 refine ⟨h.1,?_⟩;rcases h.2 with h|⟨b,cap,dp,h1,h2,h3,h4⟩
 .exact .inl h
 .exact .inr ⟨b,cap,dp,h1,h2,by rw [g.vP b (bx h3)];exact h3,h4⟩
def xP.grow (g:dk w w'){bg:Nat}{cs:List aF}(h:xP Z e w bg cs):xP Z e w' bg cs:=by have ⟨o,h1,h2⟩:=h.obj;exact ⟨h.cz,⟨o,by rw [g.vP _ (bx h1)];exact h1,h2⟩,h.free⟩
def ch.grow (g:dk w w'){v:Value}{f:pC}(h:ch c Z e w v f):ch c Z e w' v f:=by have ⟨I,cells,h1,h2,h3,h4,h5⟩:=h.row;exact ⟨I,cells,h1,h2,g.ayr h3,h4,h5⟩
def bT.grow (g:dk w w')(h:bT c Z e st a w):bT c Z e st a w':=by refine ⟨h.defers,h.size,h.m,h.key,h.nodup,?_,h.root,λf o ho=>(h.jC f o ho).grow g,h.bb,h.bf,h.ff,λb o v hv=>g.cell (h.mj b o v hv),λb hb=>h.cz b (afI g.size hb)⟩;intro t;have hs:=h.slot t;generalize au st.fr t=s at hs;cases s<;>simp only [eD] at hs⊢ <;>first|exact hs|exact ⟨hs.1,hs.2.grow g⟩
theorem dk.trans (g:dk w w')(hz: ∀b,w.heap.size<=b->Z b) (φ:Ph):Trans Z φ w φ w':=⟨.refl φ,λb _ hl=>g.vP b hl,λ_ _ _=>rfl,g.size,g.rest⟩
def ac7 {l:aF}{vs:List Value}(h:agf l vs=true):bp e vs l:=by
 unfold agf at h;split at h
 .simp at h;subst h;exact ⟨rfl,.b _⟩
 .simp at h;have ⟨rfl,rfl⟩:=h;exact ⟨rfl,.i _ _⟩
 .simp at h;subst h;exact ⟨rfl,.s _⟩
 .split at h
  .exact ⟨rfl,.raw _ rfl⟩
  .exact ⟨rfl,.raw _ rfl⟩
  .exact ⟨rfl,.raw _ rfl⟩
  .simp at h
 .rfl
 .exact ⟨_,rfl,h⟩
 .rename_i kk n x;simp only [AT,beq_iff_eq] at h;have ⟨⟨h1,h0⟩,h2⟩:=h;refine ⟨?_,h0⟩;apply List.ext_getElem?;intro j;by_cases M7:j<x.length
  .rw [Ai kk x j M7];have hm:(vs[j],x[j])∈vs.zip x:=(by grind [akr])
   grind
  grind [List.getElem?_eq_none,dj]
 .simp at h
theorem nh {ls:List aF}: ∀{vs:List Value},xN ls vs=true->av e vs ls:=by
 induction ls with
 |nil=>grind [xN,av]
 |cons l r ih=>intro vs h;simp only [xN,AT] at h;exact ⟨vs.take l.w,vs.drop l.w,abu,ac7 h.1.1,ih h.1.2⟩
def av.Fk {cs:List aF}{vs:List Value}(h:av e vs cs):fU cs=false:=by
 cases hm:fU cs with
 |false=>rfl
 |true=>obtain ⟨s,ms,rfl⟩:=S6 hm;have ⟨_,_,_,h1,_⟩:=h;exact h1.elim
def Wj (h:bT c Z e st a w)(off:Nat):e.φ w.heap.size off=none:=by
 cases hp:e.φ w.heap.size off with
 |none=>rfl
 |some v=>have:=ab2 w _ (h.mj _ _ _ hp);simp at this
def Mf (h:bT c Z e st a w):(∀t jM,au st.fr t= .box jM->e.B t≠w.heap.size)/\(∀f o,aN st.aT f=some o->(e.E f).ownBlock≠some w.heap.size):=by
 refine ⟨?_,?_⟩
 .intro t jM ht;have hs:=h.slot t;rw [ht] at hs;have ⟨o,h1,_⟩:=hs.2.obj;grind
 .intro f o ho hk;have ⟨I,cells,h1,h2,h3,h4,h5⟩:=(h.jC f o ho).row;rcases h3.2 with ⟨hv,_⟩|⟨g,cap,dp,hv,_,hg,_⟩;all_goals grind [AI,AS,bx]
def abv {cells:Array Value}{T:TypeId}{cs:List aF}(h:bT c Z e st a w)(hl:av e cells.toList cs): vQ Z e (w.alloc (.cells cells T)) st (.pointer (some ⟨w.heap.size,0,none⟩)) (.box cs):=by exact ⟨w.heap.size,by rw [yy hl.Fk],⟨h.cz _ (ac4 _),⟨_,ju w _,rfl,hl⟩,Wj h⟩,(Mf h).1,(Mf h).2⟩
def agt {t:TypeId}{I:TI}(ho:o.op= .alloc t)(hI:c.tv t=some I)(hT:iz P c.ti)(h:bT c Z e st a w)(hK:bB c st o.dst (.box I.zero) K=some r):o.wp P a w (λa' w'=>dk w w'/\Out c Z K r e.φ w a' w') Q:=by
 have ⟨ng,hc⟩:=a8 hI;have ⟨d,i,h1,h2,h3,h4⟩:=hT t I ng;have hz: ∃z,i.zero=some z/\av e z.cells.toList I.zero:=by
  cases d<;>simp only [tt] at h4;case struct fs=>grind [IT,nh]
  case tuple ts=>grind
  case slice el=>have ⟨_,_,_,_,_,hz,hl,_⟩:=h4;exact ⟨_,hz,by rw [hl];exact ⟨[.slice none 0 0],[],rfl,rfl,rfl⟩⟩
  case array n el=>have ⟨_,_,_,_,k,m,_,_,_,hl,hz⟩:=h4;exact ⟨_,hz,by rw [hl];exact ⟨bN k (zA m),[],by simp [IT],⟨rfl,abu⟩,rfl⟩⟩
  case bool=>have ⟨_,_,_,_,hl,hz⟩:=h4;exact ⟨_,hz,by rw [hl];exact ⟨[.bool false],[],rfl,⟨rfl,.b _⟩,rfl⟩⟩
  case int k=>have ⟨_,_,_,_,hl,hz⟩:=h4;exact ⟨_,hz,by rw [hl];exact ⟨[.int k 0],[],rfl,⟨rfl,.i _ _⟩,rfl⟩⟩
  case string=>have ⟨_,_,_,_,hl,b,hz,hb⟩:=h4;refine ⟨_,hz,by rw [hl];refine ⟨[.string b],[],rfl,⟨rfl,?_⟩,rfl⟩;rw [<-hb];exact .s b⟩
  all_goals
   have ⟨_,_,_,_,v,hz,hv,hl⟩:=h4;have:v.cells.toList=[v]:=by cases v<;>simp_all [IT,By]
   grind [nh]
 have ⟨z,hz,hl⟩:=hz;have bU:(execOp a.eval o).run P w= .ok (.value (.pointer (some ⟨w.heap.size,0,none⟩))) (w.alloc (.cells z.cells t)):=by simp [execOp,ho,Instr.alloc,zeroValue,typeInfo,h2,hz,newVar,newRow,newObj,alu]
 exact Zk (.alloc w _ _) bU (h.grow (.alloc w _ _)) ((dk.alloc w _ _).trans h.cz _) (abv h hl) hK
def apM {t:TypeId}{x:Operand}{I:TI}(ho:o.op= .box t x)(h:bT c Z e st a w)(hK:aps I (aP c st x) (λs=>bB c st o.dst s K)=some r):o.wp P a w (λa' w'=>dk w w'/\Out c Z K r e.φ w a' w') Q:=by
 have ⟨hx,rO⟩:=h.eval x;have bU:(execOp a.eval o).run P w= .ok (.value (.pointer (some ⟨w.heap.size,0,none⟩))) (w.alloc (.cells (a.eval x).cells t)):=by simp [execOp,ho,Instr.box,newVar,newRow,newObj,alu]
 have go: ∀cs,av e (a.eval x).cells.toList cs->bB c st o.dst (.box cs) K=some r->o.wp P a w (λa' w'=>dk w w'/\Out c Z K r e.φ w a' w') Q:=λcs h1 h2=>Zk (.alloc w _ _) bU (h.grow (.alloc w _ _)) ((dk.alloc w _ _).trans h.cz _) (abv h h1) h2;generalize aP c st x=s at hx hK rO;unfold aps at hK;split at hK
 .rename_i l;have ⟨hb,hK⟩:=oz hK;refine go [l] ?_ hK;cases l with
  |un=>grind [Y3]
  |hs kk n y=>rw [hx.1];exact ⟨bN kk y,[],by simp [IT],⟨rfl,hx.2⟩,rfl⟩
  |p m=>
   simp only [ai] at hx;have:(a.eval x).cells.toList=[a.eval x]:=by have:=hx.cells (a.eval x) abu;generalize a.eval x=v at this;cases v<;>simp_all [IT,By]
   rw [this];exact ⟨_,[],rfl,hx,rfl⟩
  |nil=>have hx':[a.eval x]=[aeY none 0 0]:=hx;simp at hx';rw [hx'];exact ⟨[.slice none 0 0],[],rfl,rfl,rfl⟩
  |mp s es=>grind [Y3]
  |own f=>
   simp only [ai] at hx;have:(a.eval x).cells.toList=[a.eval x]:=by have:=hx.cells (a.eval x) abu;generalize a.eval x=v at this;cases v<;>simp_all [IT,By]
   rw [this];exact ⟨_,[],rfl,hx,rfl⟩
 .rename_i cs;have ⟨hb,hK⟩:=ob hK;have ⟨arr,hx,hl⟩:=hx;exact go cs (by rw [hx];exact hl) hK
 .simp at hK
def setRow_size (w:World)(g:Nat)(cs:Array Value):(w.setRow g cs).heap.size=w.heap.size:=by simp_all
structure Chg (g:Nat) (w w':World):Prop where
 size:w'.heap.size=w.heap.size
 other: ∀b,b≠g->w'.heap[b]? =w.heap[b]?
 rest:Rest w w'
theorem Chg.setRow (w:World)(g:Nat)(cs:Array Value):Chg g w (w.setRow g cs):=⟨setRow_size _ _ _,(by grind [setRow_other]),.setRow _ _ _⟩
def Wk {g:Nat}(hc:Chg g w w'){base:Nat}{t:TypeId}{size:Nat}{v:Value}{n:Nat}{xs:List Value}(eR:v.ownBlock≠some g)(h:w.ownsRow base t size v n xs):w'.ownsRow base t size v n xs:=by
 refine ⟨h.1,?_⟩;rcases h.2 with h|⟨b,cap,dp,h1,h2,h3,h4⟩
 .exact .inl h
 .refine .inr ⟨b,cap,dp,h1,h2,?_,h4⟩;rw [hc.other _ (by intro e;subst e;subst h1;exact eR rfl)];exact h3
def Zm {g:Nat}{cs:Array Value}{base:Nat}{t:TypeId}{size:Nat}{v:Value}{n:Nat}{xs:List Value}(eR:v.ownBlock≠some g)(h:w.ownsRow base t size v n xs):(w.setRow g cs).ownsRow base t size v n xs:=Wk (.setRow w g cs) eR h
def bT.setObj {root:Nat}{cs jM:List aF} {o':Obj}{z8:Fr}(h:bT c Z e st a w)(hf:au st.fr root= .box cs)(hch:Chg (e.B root) w w')(ml:w'.heap[e.B root]? =some o')(hl:lz e o' jM)(hmm:qe jM=qe cs)(B1: ∀t,au z8 t=if t=root then .box jM else au st.fr t)(hnd:(aS z8).Nodup):bT c Z e {st with fr:=z8} a w':=by
 have yS:=hch.size;have mD:=h.slot root;rw [hf] at mD;refine ⟨h.defers,h.size,h.m,h.key,hnd,?_,?_,?_,?_,?_,h.ff,?_,λb hb=>h.cz b aab⟩
 .intro t;rw [B1];by_cases ht:t=root
  .simp_all;exact ⟨mD.1.qe hmm,⟨mD.2.cz,⟨o',ml,hl⟩,mD.2.free⟩⟩
  .simp only [ht,if_false];have hs:=h.slot t;have V7:=h.bb t root;generalize hg:au st.fr t=s at hs V7;cases s<;>simp only [eD] at hs⊢ <;>try exact hs
   rename_i IP;refine ⟨hs.1,hs.2.cz,?_,hs.2.free⟩;have ⟨o2,h1,h2⟩:=hs.2.obj;exact ⟨o2,by rw [hch.other _ (V7 IP cs rfl hf ht)];exact h1,h2⟩
 .intro t;rw [B1];by_cases ht:t=root
  .simp [ht,dE]
  .have hr:=h.root t;generalize au st.fr t=s at hr;cases s<;>simp only [dE] at hr⊢ <;>(grind [cY])
 .intro f o ho;have ⟨I,cells,h1,h2,h3,h4,h5⟩:=(h.jC f o ho).row;exact ⟨I,cells,h1,h2,Wk hch (h.bf root cs f o hf ho) h3,h4,h5⟩
 .intro t t' c1 c2 h1 h2 eR;rw [B1] at h1 h2;by_cases ht:t=root
  .by_cases V9:t'=root
   .grind
   .simp only [V9,if_false] at h2;rw [ht];exact h.bb root t' cs c2 hf h2 (by grind)
  .simp only [ht,if_false] at h1;by_cases V9:t'=root
   .rw [V9];exact h.bb t root c1 cs h1 hf ht
   .simp only [V9,if_false] at h2;exact h.bb t t' c1 c2 h1 h2 eR
 .intro t c1 f o h1 h2;rw [B1] at h1;by_cases ht:t=root
  .rw [ht];exact h.bf root cs f o hf h2
  .simp only [ht,if_false] at h1;exact h.bf t c1 f o h1 h2
 .intro b o v hv;have eR:b≠e.B root:=by intro eb;subst eb;rw [mD.2.free] at hv;cases hv
  have:=h.mj b o v hv;rw [afz (hch.other _ eR)];exact this
def bT.agv {root:Nat}{cs jM:List aF}{arr ak4:Array Value}{T:TypeId}{z8:Fr}(h:bT c Z e st a w)(hf:au st.fr root= .box cs)(cD:w.heap[e.B root]? =some (.cells arr T (0,0)))(hl:av e ak4.toList jM)(B1: ∀t,au z8 t=if t=root then .box jM else au st.fr t)(hnd:(aS z8).Nodup):bT c Z e {st with fr:=z8} a (w.setRow (e.B root) ak4):=by
 have mD:=h.slot root;rw [hf] at mD;have hm:fU cs=false:=by obtain ⟨o,h1,h2⟩:=mD.2.obj;rw [cD] at h1;cases h1;exact h2.2.Fk
 exact h.setObj hf (.setRow _ _ _) (setRow_heap _ _ _ _ _ _ cD) ⟨rfl,hl⟩ (by rw [G6 hm,G6 hl.Fk]) B1 hnd
def Trans.chg {g:Nat} (φ:Ph)(hch:Chg g w w')(hz:Z g):Trans Z φ w φ w':=⟨.refl φ,λb hb _=>hch.other _ (by grind),λ_ _ _=>rfl,by rw [hch.size];grind,hch.rest⟩
theorem Trans.setRow {g:Nat}{ak4:Array Value} (φ:Ph)(hz:Z g):Trans Z φ w φ (w.setRow g ak4):=⟨.refl φ,(by grind [setRow_other]),λ_ _ _=>rfl,by simp_all,.setRow _ _ _⟩
def Fl {v:Value}{s:Slot}(h:ai e v s)(hu:Fh (aX s)=false)(eR:aX s≠[]):av e v.cells.toList (aX s):=by
 cases s with
 |sc l=>
  simp only [aX] at hu⊢;have lB: ∀l,bp e [v] l->av e v.cells.toList [l]:=by
   intro l hl;have hc:=hl.cells v abu;have:v.cells.toList=[v]:=by cases v<;>simp_all [IT,By]
   rw [this];exact ⟨[v],[],rfl,hl,rfl⟩
  cases l with
  |un=>grind [Fh,Y3]
  |hs k n x=>rw [h.1];exact ⟨bN k x,[],by simp [IT],⟨rfl,h.2⟩,rfl⟩
  |p m=>grind [ai]
  |nil=>grind [ai]
  |mp s es=>grind [Fh,Y3]
  |own f=>grind [ai]
 |ag cs=>obtain ⟨arr,rfl,hl⟩:=h;exact hl
 |_=>exact absurd rfl eR
def pf {t:TypeId}{I:TI}{bg off:Nat}{v:Value}{arr:Array Value}{T:TypeId}(hr:pU c.ti P t I)(hc:I.cy=[])(hs:v.cells.toList.length=I.size)(lB: ∀u∈v.cells.toList,u.oneCell'=true)(cD:w.heap[bg]? =some (.cells arr T (0,0)))(EO:off+I.size<=arr.size): (ahs t (.pointer (some ⟨bg,off,none⟩)) v).run P w= .ok () (w.setRow bg (arr.toList.take off++v.cells.toList++arr.toList.drop (off+I.size)).toArray):=by have ⟨i,hi,yS,_⟩:=hr.info hc;have h1:=run_storeCells_at P bg off T v.cells.toList 0 arr w cD aab lB;simp_all [ahs,afK,storeVar,afv,typeInfo]
theorem ac8 {t:TypeId}{I:TI}{root off:Nat}{v:Value}{cs ls jM:List aF} {K':St->Option R}(IQ:fU cs=false)(hr:pU c.ti P t I)(hc:I.cy=[])(h:bT c Z e st a w)(hf:au st.fr root= .box cs)(hv:av e v.cells.toList ls)(M8:FB ls=I.size)(hp:putAt cs off ls=some jM)(hK:wr st root (.box jM) K'=some r): ∃w' cj,(ahs t (.pointer (some ⟨e.B root,off,none⟩)) v).run P w= .ok () w'/\bT c Z e cj a w'/\Trans Z e.φ w e.φ w'/\K' cj=some r:=by
 have rK:=h.slot root;rw [hf] at rK;have ⟨arr,T,cD,rQ⟩:=rK.2.cells IQ;have ⟨v1,v2,v3,he,h1,h2,h3⟩:=Ag hp rQ hv;have hlen:=hv.width;have yS:arr.size=v1.length+v2.length+v3.length:=by
  have:arr.toList.length=(v1++v2++v3).length:=by rw [he]
  simp at this;omega
 have bU:=pf (P:=P) (w:=w) (bg:=e.B root) (off:=off) hr hc (by rw [hlen,M8]) hv.cells cD aab;have atu:arr.toList.take off=v1:=by rw [he,IN,ako h1]
 have atv:arr.toList.drop (off+I.size)=v3:=by rw [he];exact (by grind)
 rw [atu,atv] at bU;have ⟨hn,hK⟩:=oz hK;simp only [force_eq,pe] at hK;refine ⟨_,_,bU,?_,.setRow _ (YS rK.2.cz (by rw [<-h.defers.2.1,<-bH,hn];simp)),hK⟩;exact h.agv hf cD aab (by grind [bO]) (fA h.nodup)
theorem bn.mono {key:Nat->Nat} {φ φ':Ph}(h:iZ φ φ'){size:Nat}{xs:List MV}: ∀{cs:List Value},bn key φ size cs xs->bn key φ' size cs xs:=by
 induction xs with
 |nil=>intro cs hh;exact hh
 |cons x xs ih=>intro cs hh;obtain ⟨v,q,rfl,h1,h2,h3⟩:=hh;exact ⟨v,q,rfl,h1,h2.mono h,ih h3⟩
theorem bn.length {key:Nat->Nat} {φ:Ph}{size:Nat}{xs:List MV}: ∀{cs:List Value},bn key φ size cs xs->cs.length=xs.length *size:=by
 induction xs with
 |nil=>intro cs hh;cases hh;simp
 |cons x xs ih=>intro cs hh;obtain ⟨v,q,rfl,h1,h2,h3⟩:=hh;grind
def Zn {m:List (Nat×pC)}{f:Nat}{o:pC}(h:aN m f=some o):dh m f o=m:=by
 induction m with
 |nil=>grind [aN]
 |cons p r ih=>simp only [aN,dh,iy] at h⊢;grind
def mF (φ:Ph)(v:Value)(cells:List Value):Ph:=λb off=>if v.ownBlock=some b/\off<cells.length then cells[off]? else φ b off
theorem KD {base:Nat}{t:TypeId}{size n:Nat}{v:Value}{xs ys:List Value}(h:w.ownsRow base t size v n xs) (h':w.ownsRow base t size v n ys){b:Nat}(hb:v.ownBlock=some b):xs=ys:=by
 rcases h.2 with ⟨h1,_⟩|⟨g,cap,dp,h1,_,h2,_,_,_,h3⟩
 .grind [AI]
 .rcases h'.2 with ⟨Md,_⟩|⟨g',agw,tu,Md,_,VM,_,_,_,h3'⟩;all_goals grind
theorem freeze {f:Nat}{o:pC}(h:bT c Z e st a w)(hf:aN st.aT f=some o)(hp:f∉Z.cV\/o.iw=true): ∃φ',iZ e.φ φ'/\(∀b off,¬Z b->φ' b off=e.φ b off)/\bT c Z {e with φ:=φ',m:=dh e.m f ⟨o.ty,true,o.xs⟩} {st with aT:=dh st.aT f ⟨o.ty,true,o.xs⟩} a w/\ jI e.key φ' [e.E f] (.list o.xs)/\ (∀I cells,c.ti o.ty=some I->w.ownsRow 0 o.ty I.size (e.E f) o.xs.length cells-> ∀bg,(e.E f).ownBlock=some bg-> ∀j,j<cells.length->φ' bg j=cells[j]?):=by
 have ⟨I,cells,hI,YV,eS,kp,hz⟩:=(h.jC f o hf).row;have hlen:=kp.length;have hle:iZ e.φ (mF e.φ (e.E f) cells):=by
  intro b off v hv;unfold mF;by_cases hc:(e.E f).ownBlock=some b/\off<cells.length
  .have ⟨hb,ho⟩:=hc;rcases eS.2 with ⟨hE,_⟩|⟨g,cap,dp,hE,_,hg,hn,Ls,Ci,YW⟩
   .grind
   .rw [hE] at hb;simp only [AI,AS] at hb;subst hb;have:=h.mj _ _ _ hv;rw [cell_of hg] at this;grind
  .grind
 have iA: ∀b off v,mF e.φ (e.E f) cells b off=some v->w.cell? ⟨b,off,none⟩=some v:=by
  intro b off v hv;unfold mF at hv;by_cases hc:(e.E f).ownBlock=some b/\off<cells.length
  .simp only [hc,and_self,if_true] at hv;rcases eS.2 with ⟨hE,_⟩|⟨g,cap,dp,hE,_,hg,hn,Ls,Ci,YW⟩
   .grind
   .rw [hE] at hc;simp only [AI,AS] at hc;have ⟨hb,ho⟩:=hc;subst hb;rw [cell_of hg];grind
  .simp only [hc,if_false] at hv;exact h.mj _ _ _ hv
 have atw: ∀b off,¬Z b->mF e.φ (e.E f) cells b off=e.φ b off:=by
  intro b off hb;unfold mF;by_cases hc:(e.E f).ownBlock=some b/\off<cells.length
  .by_cases Fm:f∈Z.cV
   .simp only [hc,and_self,if_true];exact (((hz b hc.1).2.2 Fm (by grind)) off hc.2).symm
   .exact absurd (YS (hz b hc.1).1 Fm) hb
  .simp [hc]
 have Zo: ∀b off,(e.E f).ownBlock≠some b->mF e.φ (e.E f) cells b off=e.φ b off:=by intro b off hb;unfold mF;simp [hb]
 have vA:ll (λ_=>True) (λ_=>True) e {e with φ:=mF e.φ (e.E f) cells,m:=dh e.m f ⟨o.ty,true,o.xs⟩}:=by
  refine ⟨rfl,hle,λ_ _=>rfl,?_⟩;intro f2 o2 dO _;have dO:aN (dh e.m f ⟨o.ty,true,o.xs⟩) f2=some o2:=dO;rw [bt] at dO;by_cases kC:f2=f
  .subst kC;simp at dO;subst dO;exact ⟨o,by grind [h.m],rfl,rfl⟩
  .grind
 have uw: ∀s:Slot,iF (λ_=>True) (λ_=>True) s:=by intro s;cases s<;>simp [iF,ke]
 refine ⟨_,hle,atw,?_,?_,?_⟩;rotate_right
 .grind [KD,mF]
 .refine ⟨h.defers,h.size,by rw [h.m],h.key,h.nodup,?_,h.root,?_,h.bb,?_,?_,iA,h.cz⟩
  .intro t;have hs:=h.slot t;have hbf:=h.bf t;generalize au st.fr t=s at hs hbf;cases s<;>simp only [eD] at hs⊢ <;>try exact hs.on vA (uw _)
   rename_i cs;refine ⟨hs.1,hs.2.cz,?_,?_⟩
   .have ⟨o2,h1,h2⟩:=hs.2.obj;exact ⟨o2,h1,h2.on vA (λl _ f _=>trivial)⟩
   .intro off;show mF e.φ (e.E f) cells (e.B t) off=none;rw [Zo _ _ (hbf cs f o rfl hf)];exact hs.2.free off
  .intro f2 o2 dO;rw [bt] at dO;by_cases kC:f2=f
   .subst kC;simp at dO;subst dO;refine ⟨I,cells,hI,YV,eS,kp.mono hle,?_⟩;intro bg hb;refine ⟨(hz bg hb).1,?_,?_⟩;rotate_left
    .grind [mF]
    intro off u hu;unfold mF at hu;grind
   .simp only [kC,if_false] at dO;have ⟨I2,yA,h1,h2,h3,h4,h5⟩:=(h.jC f2 o2 dO).row;refine ⟨I2,yA,h1,h2,h3,h4.mono hle,?_⟩;intro bg hb;refine ⟨(h5 bg hb).1,?_,?_⟩;rotate_left
    .intro g1 g2 j hj;show mF e.φ (e.E f) cells bg j=_;rw [Zo _ _ (λhbf=>kC (h.ff f2 f o2 o bg dO hf hb hbf))];grind
    intro off u hu;have hu:mF e.φ (e.E f) cells bg off=some u:=hu;rw [Zo _ _ (λhbf=>kC (h.ff f2 f o2 o bg dO hf hb hbf))] at hu;grind
  .intro t cs f2 o2 h1 h2;rw [bt] at h2;by_cases kC:f2=f
   .subst kC;exact h.bf t cs f2 o h1 hf
   .simp only [kC,if_false] at h2;exact h.bf t cs f2 o2 h1 h2
  .intro f1 f2 o1 o2 k h1 h2 h3 h4;rw [bt] at h1 h2;have g1: ∃o',aN st.aT f1=some o':=by
    by_cases kC:f1=f
    .grind
    .grind
   have g2: ∃o',aN st.aT f2=some o':=by
    by_cases kC:f2=f
    .grind
    .grind
   have ⟨q1,g1⟩:=g1;have ⟨q2,g2⟩:=g2;exact h.ff f1 f2 q1 q2 k g1 g2 h3 h4
 .have Cu:=kp.mono hle;rcases eS.2 with ⟨hE,hn⟩|⟨g,cap,dp,hE,_,hg,hn,Ls,Ci,YW⟩
  .have hx:o.xs=[]:=(by grind)
   have hv:[e.E f]=[aeY none 0 0]:=by rw [hE]
   rw [hv,hx];exact .list none 0 [] 0 0 0 (λ_=>[]) abu abu abu abu abu
  .have hv:[e.E f]=[aeY (some ⟨g,0,none⟩) o.xs.length cap]:=by rw [hE]
   rw [hv];have Zp: ∀i (hi:i<o.xs.length),∃v1,v1.length=I.size/\jI e.key (mF e.φ (e.E f) cells) v1 o.xs[i]/\(cells.drop (i *I.size)).take I.size=v1:=by intro i hi;obtain ⟨p1,v1,p2,he,I7,xO,fG⟩:=Cu.at (BY hi);refine ⟨v1,xO,fG,?_⟩;rw [he,IN,<-I7,aks,<-xO,akt]
   refine .list (some ⟨g,0,none⟩) cap o.xs g 0 I.size (λi=>(cells.drop (i *I.size)).take I.size) hn (λ_=>rfl) ?_ ?_ ?_
   .grind
   .intro i j hi hj;have hb:(e.E f).ownBlock=some g:=by rw [hE];rfl
    have ac9:i *I.size+j<cells.length:=by
     rw [hlen];calc i *I.size+j<i *I.size+I.size:=aab
      _=(i+1) *I.size:=by grind
      _<=o.xs.length *I.size:=aft _ hi
    simp_all [agK,mF,and_self,if_true,List.getElem?_take,List.getElem?_drop]
   grind
end
structure Ext (Z:Nat->Prop) (e e':Env):Prop where
 on:ll (λ_=>True) (λ_=>True) e e'
 cz: ∀b off,¬Z b->e'.φ b off=e.φ b off
def Ext.refl (Z:Nat->Prop)(e:Env):Ext Z e e:=⟨⟨rfl,.refl _,λ_ _=>rfl,(by grind)⟩,λ_ _ _=>rfl⟩
theorem Ext.trans {Z:Nat->Prop} {e e' e'':Env}(h:Ext Z e e') (h':Ext Z e' e''):Ext Z e e'':=by refine ⟨⟨h'.on.key.trans h.on.key,h.on.φ.trans h'.on.φ,λr hr=>(h'.on.B r hr).trans (h.on.B r hr),?_⟩,λb off hb=>(h'.cz b off hb).trans (h.cz b off hb)⟩;intro f o ho _;have ⟨o1,h1,h2,h3⟩:=h'.on.jC f o ho trivial;have ⟨o2,h4,h5,h6⟩:=h.on.jC f o1 h1 trivial;grind
theorem Ext.tr {Z:Nat->Prop} {e e':Env}{w:World}(h:Ext Z e e'):Trans Z e.φ w e'.φ w:=⟨h.on.φ,λ_ _ _=>rfl,h.cz,ac4 _,.refl _⟩
def dY (s:Slot):iF (λ_=>True) (λ_=>True) s:=by cases s<;>simp [iF,ke]
def bj (key:Nat->Nat) (φ:Ph):List Value->List MV->Prop
 |vs,[]=>vs=[]
 |vs,m::ms=> ∃v r,vs=v::r/\cQ key φ v m/\bj key φ r ms
theorem bj.mono {key:Nat->Nat} {φ φ':Ph}(h:iZ φ φ'){ms:List MV}: ∀{vs:List Value},bj key φ vs ms->bj key φ' vs ms:=by
 induction ms with
 |nil=>intro vs hh;exact hh
 |cons m ms ih=>intro vs hh;obtain ⟨v,r,rfl,h1,h2⟩:=hh;exact ⟨v,r,rfl,h1.mono h,ih h2⟩
def bj.append {key:Nat->Nat} {φ:Ph}{ms ns:List MV}: ∀{vs us:List Value},bj key φ vs ms->bj key φ us ns->bj key φ (vs++us) (ms++ns):=by
 induction ms with
 |nil=>intro vs us h h';cases h;grind
 |cons m ms ih=>intro vs us h h';obtain ⟨v,r,rfl,h1,h2⟩:=h;exact ⟨v,r++us,rfl,h1,ih h2 h'⟩
section
variable {P:Program}{c:Ctx}{Z:bC}{e:Env}{st:St}{a:Act}{w w':World}{R:Type}{r:R}{Q:Exit->Act->World->Prop}{o:Oper}{K:St->Option R}{e':Env}
def ni {l:aF}{vs:List Value}{K:MV->St->Option R}(h:bT c Z e st a w)(hl:bp e vs l)(hK:mU st l K=some r): ∃e' cj m,bT c Z e' cj a w/\Ext Z e e'/\cj.fr=st.fr/\jI e'.key e'.φ vs m/\K m cj=some r/\(xM l=true->e'=e/\cj=st)/\(∀f,l= .own f-> ∃o,aN st.aT f=some o/\m= .list o.xs)/\((∀k n x,l≠ .hs k n x)->m.one=true):=by
 cases l with
 |un=>grind [mU]
 |p m=>exact ⟨e,st,m,h,.refl _ _,rfl,hl.2,hK,λ_=>⟨rfl,rfl⟩,abu,λ_=>hl.1⟩
 |hs k n x=>obtain ⟨rfl,hl⟩:=hl;exact ⟨e,st,.h k n x,h,.refl _ _,rfl,.h k n x hl,hK,λ_=>⟨rfl,rfl⟩,abu,(by grind)⟩
 |nil=>subst hl;exact ⟨e,st,.list [],h,.refl _ _,rfl,.list none 0 [] 0 0 0 (λ_=>[]) abu abu abu abu abu,hK,(by grind),λ_ he=>(by cases he),λ_=>rfl⟩
 |mp s es=>grind [mU]
 |own f=>
  simp only [mU] at hK;cases hf:aN st.aT f with
  |none=>grind
  |some o=>
   simp only [hf] at hK;have Fm:f∉Z.cV\/o.iw=true:=by
    cases hz:o.iw with
    |true=>grind
    |false=>refine .inl (λhm=> ?_);rw [<-h.defers.2.2.1,<-bH] at hm;grind
   have ⟨φ',h1,h2,h3,h4,_⟩:=freeze h hf Fm;obtain ⟨v,rfl,hv,hE⟩:=hl;have hE:=hE o (by rw [h.m];exact hf);subst hE;have ak5:Ext Z e {e with φ:=φ',m:=dh e.m f ⟨o.ty,true,o.xs⟩}:=by
    refine ⟨⟨rfl,h1,λ_ _=>rfl,?_⟩,h2⟩;intro f2 o2 dO _;have dO:aN (dh e.m f ⟨o.ty,true,o.xs⟩) f2=some o2:=dO;rw [bt] at dO;by_cases kC:f2=f
    .subst kC;simp at dO;subst dO;exact ⟨o,by grind [h.m],rfl,rfl⟩
    .grind
   cases hz:o.iw with
   |true=>
    simp only [hz,cond_true] at hK;have aty:dh st.aT f ⟨o.ty,true,o.xs⟩=st.aT:=by rw [<-hz];exact Zn hf
    rw [aty] at h3;exact ⟨_,st,.list o.xs,h3,ak5,rfl,h4,hK,(by grind [xM]),(by grind),λ_=>rfl⟩
   |false=>simp only [hz,cond_false] at hK;have ⟨hn,hK⟩:=oz hK;simp only [qp] at hK;exact ⟨_,_,.list o.xs,h3,ak5,rfl,h4,hK,(by grind [xM]),(by grind),λ_=>rfl⟩
def oV {ls:List aF}: ∀{e:Env} {st:St} {vs:List Value} {K:List MV->St->Option R},bT c Z e st a w->av e vs ls->vM st ls K=some r-> ∃e' cj ms,bT c Z e' cj a w/\Ext Z e e'/\cj.fr=st.fr/\il e'.key e'.φ vs ms/\K ms cj=some r/\(jv ls=true->e'=e/\cj=st)/\(∀ps,uv ls ms=some ps->av e' vs ps/\jv ps=true):=by
 induction ls with
 |nil=>intro e st vs K h hl hK;cases hl;exact ⟨e,st,[],h,.refl _ _,rfl,.nil,hK,λ_=>⟨rfl,rfl⟩,λps hp=>by simp [uv] at hp;subst hp;exact ⟨rfl,rfl⟩⟩
 |cons l ls ih=>
  intro e st vs K h hl hK;obtain ⟨v,u,rfl,h1,h2⟩:=hl;have ⟨e1,aZ,m,Aj,M9,Lt,Lu,xw,hp1,_,lB⟩:=ni h h1 hK;have ⟨e2,eG,ms,Qm,hx2,ak6,V8,EP,hp2,IU⟩:=ih Aj (h2.on M9.on (λl _ f _=>trivial)) xw;have hrm:jI e2.key e2.φ v m:=by have:=Lu.mono hx2.on.φ;rw [<-hx2.on.key] at this;exact this
  refine ⟨e2,eG,m::ms,Qm,M9.trans hx2,ak6.trans Lt,.cons v m u ms ?_ V8,EP,?_,?_⟩
  .grind
  .simp_all [jv,AT]
  .intro ps hp;cases hq:uv ls ms with
   |none=>cases l<;>simp [uv,hq] at hp
   |some q=>
    have ⟨g1,g2⟩:=IU q hq;by_cases hh: ∃k n x,l= .hs k n x
    .obtain ⟨_,_,x,rfl⟩:=hh;simp [uv,hq] at hp;subst hp;exact ⟨⟨v,u,rfl,h1,g1⟩,by simp [jv,xM,g2]⟩
    .have lB:=lB (λk n x hx=>hh ⟨k,n,x,hx⟩);have hp':ps= .p m::q:=by cases l<;>simp [uv,hq] at hp<;>first|exact hp.symm|grind
     subst hp';exact ⟨⟨v,u,rfl,⟨lB,hrm⟩,g1⟩,by simp [jv,xM,g2]⟩
def nj {s:Slot}{v:Value}{K:MV->St->Option R}(h:bT c Z e st a w)(hl:ai e v s)(hK:pD st s K=some r): ∃e' cj m,bT c Z e' cj a w/\Ext Z e e'/\cj.fr=st.fr/\cQ e'.key e'.φ v m/\K m cj=some r:=by
 cases s with
 |sc l=>
  simp only [pD] at hK;cases l with
  |un=>grind [mU]
  |hs k n x=>simp only [ai] at hl;exact ⟨e,st,.h k n x,h,.refl _ _,rfl,by grind [cQ,bN],hK⟩
  |p m=>refine ⟨e,st,m,h,.refl _ _,rfl,?_,hK⟩;have ⟨h1,h2⟩:=hl;cases m<;>simp [MV.one] at h1<;>exact ⟨rfl,h2⟩
  |nil=>refine ⟨e,st,.list [],h,.refl _ _,rfl,⟨rfl,?_⟩,hK⟩;rw [hl];exact .list none 0 [] 0 0 0 (λ_=>[]) abu abu abu abu abu
  |mp s es=>grind [mU]
  |own f=>
   simp only [mU] at hK;cases hf:aN st.aT f with
   |none=>grind
   |some o=>obtain ⟨e',cj,m,q1,q2,q3,q4,q5,q6,q7⟩:=ni (l:= .own f) h hl (by simpa only [mU,hf] using hK);obtain ⟨o2,_,rfl⟩:=q7.1 f rfl;exact ⟨e',cj,.list o2.xs,q1,q2,q3,⟨rfl,q4⟩,q5⟩
 |ag cs=>have ⟨arr,hv,hl⟩:=hl;have ⟨e',cj,ms,q1,q2,q3,q4,q5,_⟩:=oV h hl hK;exact ⟨e',cj,.agg ms,q1,q2,q3,⟨arr,hv,q4⟩,q5⟩
 |rp cs off=>have ⟨bg,q,vs,hv,rQ,hp,agr⟩:=hl;have ⟨hb,hK⟩:=ob hK;have h0:=sh hb;subst h0;have ⟨e',cj,ms,q1,q2,q3,q4,q5,q6⟩:=oV h rQ hK;refine ⟨e',cj,.rp ms,q1,q2,q3,⟨rfl,?_⟩,q5⟩;rw [hv];exact .rp bg (q+0) vs ms q4 (by grind)
 |_=>grind [pD]
def uR {ss:List Slot}: ∀{e:Env} {st:St} {vs:List Value} {K:List MV->St->Option R},bT c Z e st a w->(∃f:Unit->List Value,f ()=vs/\vs.length=ss.length/\ ∀(i:Nat) (v:Value) (s:Slot),vs[i]? =some v->ss[i]? =some s->ai e v s)-> DO st ss K=some r-> ∃e' cj ms,bT c Z e' cj a w/\Ext Z e e'/\cj.fr=st.fr/\bj e'.key e'.φ vs ms/\K ms cj=some r:=by
 induction ss with
 |nil=>intro e st vs K h hl hK;have ⟨f,_,hlen,_⟩:=hl;have:=afB hlen;subst this;exact ⟨e,st,[],h,.refl _ _,rfl,rfl,hK⟩
 |cons s ss ih=>
  intro e st vs K h hl hK;have ⟨f,_,hlen,fG⟩:=hl;cases vs with
  |nil=>simp at hlen
  |cons v vs=>have ⟨e1,aZ,m,q1,q2,q3,q4,q5⟩:=nj h (fG 0 v s rfl rfl) hK;have ⟨e2,eG,ms,p1,p2,p3,p4,p5⟩:=ih (vs:=vs) q1 ⟨λ_=>vs,rfl,by grind,λi v s h1 h2=>(fG (i+1) v s (by grind) (by grind)).on q2.on (dY s)⟩ q5;refine ⟨e2,eG,m::ms,p1,q2.trans p2,p3.trans q3,⟨v,vs,rfl,?_,p4⟩,p5⟩;have:=q4.mono p2.on.φ;grind [p2.on.key]
def RG {t:TypeId}{I:TI}(hr:pU c.ti P t I)(hc:I.cy=[]): ((I.st=true\/1<I.size)/\ ∀w:World,(isAgg t).run P w= .ok true w)\/(I.st=false/\I.size=1/\ ∀w:World,(isAgg t).run P w= .ok false w):=by
 rcases hr.agg hc with ⟨d,hu,hd,hh⟩|⟨d,hu,hd,h1,h2⟩
 .refine .inl ⟨hh.imp id (·.2),λw=> ?_⟩;unfold isAgg;rw [ahF,run_underlying hu w];cases d<;>simp_all [TypeDesc.isRow]
 .refine .inr ⟨h1,h2,λw=> ?_⟩;unfold isAgg;rw [ahF,run_underlying hu w];cases d<;>simp_all [TypeDesc.isRow]
def agy {t:TypeId}{I:TI}{cs:List aF}{off:Nat}{arr:Array Value} {K':Slot->Option R}(hr:pU c.ti P t I)(hc:I.cy=[])(hv:av e arr.toList cs)(hK:kz I cs off K'=some r): ∃v s,(∀w:World,(akM t arr off).run P w= .ok v w)/\ai e v s/\dE st.fr s/\K' s=some r:=by
 have ⟨i,hi,hs,_⟩:=hr.info hc;have ext: ∀v1 v2 v3:List Value,arr.toList=v1++v2++v3->v1.length=off->(arr.extract off (off+v2.length))=v2.toArray:=by intro v1 v2 v3 h1 h2;apply afA.1;rw [aku,h1,agV,IN,<-h2,aks];simp
 unfold kz at hK;cases fw:I.st with
 |true=>
  simp only [fw,cond_true] at hK;cases hp:Dn.part cs off I.size with
  |none=>grind
  |some ds=>
   simp only [hp] at hK;have ⟨v1,v2,v3,h0,h1,h2,h3⟩:=RD hp hv;rcases RG (P:=P) hr hc with ⟨_,hag⟩|⟨hf,_⟩
   .refine ⟨.agg v2.toArray,.ag ds,?_,?_,trivial,hK⟩
    .have hx:=ext v1 v2 v3 h0 h1;simp_all [akM,afv,typeInfo]
    .simp only [ai];grind
   grind
 |false=>
  simp only [fw,cond_false] at hK;cases hp:cut cs off with
  |none=>grind
  |some ds=>
   cases ds with
   |nil=>grind
   |cons l ls=>
    simp only [hp] at hK;have ⟨hb,hK⟩:=ob hK;have hw:=sh hb;have ⟨v1,v2,h0,h1,h2⟩:=Cs hp hv;obtain ⟨u,u2,rfl,h3,h4⟩:=h2;have hlu:u.length=I.size:=by rw [h3.width,hw]
    rcases RG (P:=P) hr hc with ⟨hh,hag⟩|⟨_,h1s,hag⟩
    .refine ⟨.agg u.toArray,.sc l,?_,h3.slot (.inr ⟨rfl,?_⟩),trivial,hK⟩
     .have hx:=ext v1 u u2 (by rw [h0,IN]) h1;simp_all [akM,afv,typeInfo]
     grind
    .obtain ⟨v,rfl⟩:=afJ.1 (by rw [hlu,h1s]);refine ⟨v,.sc l,?_,h3.slot (.inl ⟨rfl,?_⟩),trivial,hK⟩
     .have:arr[off]? =some v:=by
       have:arr[off]? =arr.toList[off]? :=abu
       rw [this,h0,afD aab,h1];simp
      simp_all [akM]
     grind
def apO {t:TypeId}{x:Operand}{f:Nat}{I:TI}(ho:o.op= .field t x f)(hI:c.tv t=some I)(hT:iz P c.ti)(h:bT c Z e st a w)(hK:apt c I f (aP c st x) (λs=>bB c st o.dst s K)=some r):Rd P c Z K r e a w o (λ_=>True):=by
 have ⟨hx,rO⟩:=h.eval x;have ⟨ng,hc⟩:=a8 hI;have ⟨d,i,h1,h2,h3,h4⟩:=hT t I ng;generalize aP c st x=s at hx hK rO;unfold apt at hK;split at hK
 .rename_i q y cs fw hq hy;have ⟨arr,hx,rQ⟩:=hx;cases hJ:c.tv y with
  |none=>grind
  |some J=>
   simp only [hJ] at hK;have ⟨hJt,hJc⟩:=a8 hJ;have ⟨v,s,bU,h5,h6,h7⟩:=agy (P:=P) (st:=st) (hT y J hJt) hJc rQ hK;refine jN (v:=v) h ?_ h5 h6 h7;cases d<;>simp only [tt] at h4;case struct fs=>
    have ⟨_,_,_,ho1,dO,_⟩:=h4;rw [<-ho1,afu] at hq;rw [<-dO,afu] at hy;cases hf:fs.toList[f]? with
    |none=>grind
    |some fl=>simp_all [execOp,Instr.field,run_underlying,asAgg]
   all_goals grind
 .simp at hK
def TI.mn {I:TI}{t:TypeId}(hr:pU c.ti P t I)(h:I.IK=true):P.underlying t=some (.slice I.elem)/\ ∃E,c.ti I.elem=some E/\E.cy=[]/\0<E.size:=by
 unfold TI.IK at h;split at h
 .rename_i fw hl;have ⟨d,i,h1,h2,h3,h4⟩:=hr;cases d<;>simp only [tt,hl,fw] at h4<;>first|(exfalso;simp_all;done)|skip
  have ⟨_,_,_,rfl,hE,_⟩:=h4;exact ⟨h1,hE⟩
 .cases h
def TI.I8 {I:TI}{t:TypeId}(hr:pU c.ti P t I)(h:I.isS=true):P.underlying t=some .string:=by
 unfold TI.isS at h;split at h
 .rename_i fw hl;have ⟨d,i,h1,h2,h3,h4⟩:=hr;cases d<;>simp only [tt,hl,fw] at h4<;>first|(exfalso;simp_all;done)|skip
  exact h1
 .cases h
def Na {v:Value}{xs:List MV}(h:ai e v (.sc (.p (.list xs)))): ∃ad cap,v= .slice ad xs.length cap/\xs.length<=cap:=by have ⟨_,h⟩:=h;generalize hv:[v]=vs at h;cases h;grind
def uS {f:Nat} {w':pC}{v:Value}(h:bT c Z e st a w)(hv:ai e v (.sc (.own f)))(hf:aN st.aT f=some w'):v=e.E f/\ ∃ad cap,v= .slice ad w'.xs.length cap/\w'.xs.length<=cap:=by
 have ⟨u,hu,_,hE⟩:=hv;simp at hu;subst hu;have hE:=hE w' (by rw [h.m];exact hf);refine ⟨hE,?_⟩;have ⟨I,cells,_,_,eS,_⟩:=(h.jC f w' hf).row;rcases eS.2 with ⟨h1,h2⟩|⟨g,cap,dp,h1,_,_,h2,_⟩
 .exact ⟨none,0,by rw [hE,h1,h2],aab⟩
 .exact ⟨_,cap,by rw [hE,h1],h2⟩
def pE {l:List Operand}:ou c st l=l.map (aP c st):=by
 induction l with
 |nil=>rfl
 |cons x r ih=>simp [ou,ih]
theorem apP {cl:Call}{t:TypeId}{I:TI}(ho:o.op= .call cl)(hb:cl.callee= .builtin .len)(ha:cl.argTypes.toList=[t])(hI:c.tv t=some I)(hT:iz P c.ti)(h:bT c Z e st a w)(hK:af1 I st (ou c st cl.args.toList) (λs=>bB c st o.dst s K)=some r):Rd P c Z K r e a w o (λ_=>True):=by
 have ⟨ng,hc⟩:=a8 hI;have hr:=hT t I ng;have Qz:cl.argTypes= #[t]:=by rw [<-afA,ha]
 rw [pE] at hK;have go: ∀x,cl.args.toList=[x]-> ∀n:Nat,(∃b:ByteArray,a.eval x= .string b/\b.size=n/\P.underlying t=some .string)\/(∃ad cap,a.eval x= .slice ad n cap/\ ∃el,P.underlying t=some (.slice el))-> bB c st o.dst (.sc (.p (.i .i64 n))) K=some r->Rd P c Z K r e a w o (λ_=>True):=by
  intro x hx n Wl hK;have hx':cl.args= #[x]:=by rw [<-afA,hx]
  refine jN h ?_ (yX .i64 (n:Int)) trivial hK;rcases Wl with ⟨b,h1,h2,h3⟩|⟨ad,cap,h1,el,h3⟩
  .simp [execOp,ho,resolve,hb,invoke,builtin,Builtin.len_,Qz,hx',run_underlying h3,h1,goInt,h2]
  .simp [execOp,ho,resolve,hb,invoke,builtin,Builtin.len_,Qz,hx',run_underlying h3,h1,goInt]
 cases hl:cl.args.toList with
 |nil=>grind [af1]
 |cons x ys=>
  rw [hl] at hK;cases ys with
  |cons y zs=>simp_all [afw,af1]
  |nil=>
   simp at hK;have ⟨hx,_⟩:=h.eval x;generalize aP c st x=s at hx hK;unfold af1 at hK;split at hK
   .rename_i l hs;simp at hs;subst hs;have ⟨hS,hK⟩:=ob hK;obtain ⟨b,EM,rfl⟩:=G7 hx;exact go x hl _ (.inl ⟨b,EM,by simp_all,TI.I8 hr hS⟩) hK
   .rename_i l hs;simp at hs;subst hs;have ⟨hS,hK⟩:=ob hK;have ⟨ad,cap,hv,_⟩:=Na hx;exact go x hl _ (.inr ⟨ad,cap,hv,_,(TI.mn hr hS).1⟩) hK
   .rename_i hs;simp at hs;subst hs;have ⟨hS,hK⟩:=ob hK;have hx:[a.eval x]=[aeY none 0 0]:=hx;simp at hx;exact go x hl 0 (.inr ⟨none,0,hx,_,(TI.mn hr hS).1⟩) hK
   .rename_i f hs;simp at hs;subst hs;have ⟨hS,hK⟩:=ob hK;cases hf:aN st.aT f with
    |none=>grind
    |some w'=>simp only [hf] at hK;have ⟨_,ad,cap,hv,_⟩:=uS h hx hf;exact go x hl _ (.inr ⟨ad,cap,hv,_,(TI.mn hr hS).1⟩) hK
   .simp at hK
structure anZ (e:Env) (k:Kd) (vs:List Value) (m:MV) (l:aF):Prop where
 rep:jI e.key e.φ vs m->bp e vs l
 pur:xM l=true
 mv:dz [l]=some [m]
 one: ∀m',l= .p m'->m'.one=true
 wid:l.w=Lr [k]
def nk {k:Kd}{m:MV}{vs:List Value} {K':aF->Option R}(hK:kw k m K'=some r): ∃l,anZ e k vs m l/\K' l=some r:=by
 have mk: ∀m:MV,m.one=true->(Lr [k]=1)->K' (.p m)=some r-> ∃l,anZ e k vs m l/\K' l=some r:=λm h1 h2 h3=>⟨.p m,⟨λh=>⟨h1,h⟩,rfl,rfl,(by grind),h2.symm⟩,h3⟩
 cases k with
 |b=>unfold kw gB at hK;cases m<;>simp at hK;exact mk _ rfl rfl hK
 |s=>unfold kw gS at hK;cases m<;>simp at hK;exact mk _ rfl rfl hK
 |l=>unfold kw gL at hK;cases m<;>simp at hK;exact mk _ rfl rfl hK
 |i k=>
  unfold kw gI at hK;cases m<;>simp at hK;rename_i k' n;by_cases hk:k'=k
  .subst hk;simp at hK;exact mk _ rfl rfl hK
  grind
 |h k n=>
  simp only [kw,gH] at hK;split at hK
  .rename_i k' n' x;have ⟨hq,hK⟩:=ob hK;simp only [AT,decide_eq_true_eq] at hq;have ⟨rfl,hq⟩:=hq;have hq:=sh hq;subst hq;refine ⟨.hs k' n' x,⟨?_,rfl,rfl,abu,rfl⟩,hK⟩;intro h;cases h;rename_i hx;exact ⟨rfl,hx⟩
  .cases hK
 |raw=>unfold kw gR at hK;cases m<;>simp at hK<;>exact mk _ rfl rfl hK
def Fo {l:aF}{ls:List aF}{m:MV}{ms:List MV}(h1:dz [l]=some [m])(h2:dz ls=some ms):dz (l::ls)=some (m::ms):=by cases l<;>simp [dz] at h1⊢ <;>simp [h2,h1]
structure ak7 (e:Env) (ks:List Kd) (vs:List Value) (ms:List MV) (ls:List aF):Prop where
 rep:il e.key e.φ vs ms->av e vs ls
 pur:jv ls=true
 mv:dz ls=some ms
 one: ∀m',aF.p m'∈ls->m'.one=true
 wid:FB ls=Lr ks
def ada (k:Kd)(ks:List Kd):Lr (k::ks)=Lr [k]+Lr ks:=by cases k<;>simp [Lr]
def uT {ks:List Kd}: ∀{ms:List MV} {vs:List Value} {K':List aF->Option R},xH ks ms K'=some r-> ∃ls,ak7 e ks vs ms ls/\K' ls=some r:=by
 induction ks with
 |nil=>
  intro ms vs K' hK;cases ms with
  |nil=>exact ⟨[],⟨λh=>by cases h;rfl,rfl,rfl,abu,rfl⟩,hK⟩
  |cons m ms=>grind [xH,gN]
 |cons k ks ih=>
  intro ms vs K' hK;cases ms with
  |nil=>grind [xH,gC]
  |cons m ms=>
   simp only [xH,gC] at hK;have h1:=λvs=>nk (e:=e) (vs:=vs) hK;have ⟨l,hl,xw⟩:=h1 [];have ⟨ls,Qn,EP⟩:=ih (vs:=[]) xw;refine ⟨l::ls,⟨?_,?_,Fo hl.mv Qn.mv,?_,?_⟩,EP⟩
   .intro h;have g:av e vs (l::ls):=by
     apply h.leaves (Fo hl.mv Qn.mv);intro m' hm;rcases afx.1 hm with hm|hm
     .exact hl.one m' hm.symm
     .exact Qn.one m' hm
    exact g
   .simp [jv,hl.pur,Qn.pur]
   .intro m' hm;rcases afx.1 hm with hm|hm
    .exact hl.one m' hm.symm
    .exact Qn.one m' hm
   .rw [ada,<-hl.wid,<-Qn.wid];rfl
def ak8 {t:TypeId}{I:TI}(hr:pU c.ti P t I)(hc:I.cy=[]):Lr I.lay=I.size:=by
 have ⟨d,i,h1,h2,h3,h4⟩:=hr;cases d<;>simp only [tt] at h4;case struct fs=>grind
 case tuple ts=>grind
 case slice el=>obtain ⟨_,_,hs,_,_,_,_,k,hl,rfl⟩:=h4;rw [hl,hs];rfl
 case array n el=>have ⟨_,_,hs,_,k,m,hm,_,hl,_⟩:=h4;rw [hl,hs,hm];rfl
 all_goals (have ⟨_,_,hs,hl,_⟩:=h4;rw [hl,hs];rfl)
def KE {E:TI}{t:TypeId}{x:MV} {K':List aF->Option R}(hr:pU c.ti P t E)(hc:E.cy=[])(hK:SV E x K'=some r): ∃cs,M1 E.st x cs/\jv cs=true/\FB cs=E.size/\K' cs=some r:=by
 have hlw:=ak8 hr hc;unfold SV at hK;cases fw:E.st with
 |true=>
  simp only [fw,cond_true] at hK;unfold gA at hK;split at hK
  .have ⟨ls,Qn,xw⟩:=uT (e:=⟨λn=>n,λ_ _=>none,λ_=>undef,λ_=>0,[]⟩) (vs:=[]) hK;exact ⟨ls,⟨(by grind [Qn.mv,yx]),Qn.one⟩,Qn.pur,by rw [Qn.wid,hlw],xw⟩
  .simp at hK
 |false=>
  simp only [fw,cond_false] at hK;split at hK
  .rename_i k hl;have ⟨l,xO,xw⟩:=nk (e:=⟨λn=>n,λ_ _=>none,λ_=>undef,λ_=>0,[]⟩) (vs:=[]) hK;refine ⟨[l],⟨(by grind [xO.mv,yx]),?_⟩,by simp [jv,xO.pur],?_,xw⟩
   .intro m hm;simp at hm;exact xO.one m hm.symm
   .rw [<-hlw,hl,<-xO.wid];rfl
  .simp at hK
theorem apQ {t:TypeId}{x y:Operand}{I E:TI}(ho:o.op= .indexAddr t x y)(hI:c.tv t=some I)(hE:c.tv I.elem=some E)(hT:iz P c.ti)(h:bT c Z e st a w)(hK:apu c st I E (aP c st x) (aP c st y) (λs=>bB c st o.dst s K)=some r):Rd P c Z K r e a w o (λ_=>True):=by
 obtain ⟨hx,rO⟩:=h.eval x;obtain ⟨hy,_⟩:=h.eval y;obtain ⟨ng,hc⟩:=a8 hI;obtain ⟨mT,pg⟩:=a8 hE;have hr:=hT t I ng;have hrE:=hT _ E mT;obtain ⟨iE,hiE,hsE,_⟩:=hrE.info pg;have run: ∀k n bg off len cap,P.underlying t=some (.slice I.elem)->a.eval y= .int k n->a.eval x= .slice (some ⟨bg,off,none⟩) len cap->0<=n->n.toNat<len-> ∀w:World,(execOp a.eval o).run P w= .ok (.value (.pointer (some ⟨bg,off+n.toNat *E.size,none⟩))) w:=by
  intro k n bg off len cap hu hy hx h0 h1 w;have h2:n<(len:Int):=aab
  simp [execOp,ho,hx,hy,aky,asIntOf,run_underlying hu,h0,h2,afv,typeInfo,hiE,hsE,afC]
 generalize aP c st x=sx at hx hK rO;generalize aP c st y=sy at hy hK;unfold apu at hK;split at hK
 .rename_i xs k n;have ⟨hL,hK⟩:=ob hK;have ⟨h0,m,hm,hK⟩:=Wg hK;have ⟨cs,h1,h2,h3,hK⟩:=KE hrE pg hK;have dX:n.toNat<xs.length:=(by grind)
  have ⟨_,hx⟩:=hx;generalize hv:[a.eval x]=vs at hx;cases hx with
  |list ad cap _ bg off IM f g1 g2 g3 g4 g5=>
  simp at hv;have fG:=g5 n.toNat dX;rw [(agN.1 hm).2] at fG;have rQ:=fG.M6 h1;have hes:IM=E.size:=by rw [<-h3,<-rQ.width,g3 _ dX]
  rw [g2 aab] at hv;refine jN (s:= .rp cs 0) h (run k n bg off _ cap (TI.mn hr hL).1 (nb hy) hv h0 dX) ?_ trivial hK;simp only [ai];grind
 .rename_i f k n;cases hf:aN st.aT f with
  |none=>grind
  |some fo=>
   simp only [hf] at hK;have ⟨hL,hK⟩:=ob hK;have ⟨h0,m,hm,hK⟩:=Wg hK;have ⟨cs,h1,h2,h3,hK⟩:=KE hrE pg hK;have dX:n.toNat<fo.xs.length:=(by grind)
   have ⟨hv,_⟩:=uS h hx hf;have ⟨J,cells,_,_,eS,_⟩:=(h.jC f fo hf).row;rcases eS.2 with ⟨h5,h6⟩|⟨g,cap,dp,h5,_⟩
   .omega
   .rw [h5] at hv;refine jN (s:= .ep f n.toNat 0 E.st cs) h (run k n g 0 _ cap (TI.mn hr hL).1 (nb hy) hv h0 dX) ?_ trivial hK;simp_all [ai,h.m,agK,akC]
 .rename_i r' o' k n;have ⟨fw,hK⟩:=oz hK;split at hK
  .rename_i k2 m2 hl;have ⟨Nb,hK⟩:=dQ hK;have ⟨h0,h1⟩:=of_decide_eq_true Nb;have ⟨d,i,hu,h2,h3,h4⟩:=hr;cases d<;>simp only [tt,hl,fw] at h4<;>first|(exfalso;simp_all;done)|skip
   obtain ⟨_,_,_,_,kk,mm,rfl,⟨ie,hue,rG,Aj⟩,B0,_⟩:=h4;simp at B0;have ⟨rfl,rfl⟩:=B0;have Md:n<(m2:Int)+2:=aab
   simp only [ai] at hx;refine jN (s:= .hp r' o' m2 n.toNat) (v:= .pointer (some ⟨e.B r',o'+n.toNat,none⟩)) h ?_ ?_ rO hK
   .simp [execOp,ho,hx,nb hy,aky,asIntOf,run_underlying hu,h0,Md,afv,typeInfo,rG,Aj,afK,afC]
   simp_all [ai,trivial]
  .simp at hK
 .rename_i cc _ n;have ⟨fw,hK⟩:=oz hK;split at hK
  .rename_i k m' hl;unfold gC at hK;split at hK;rotate_left
   .cases hK
   rename_i hh rest;dsimp only at hK;unfold gN at hK;split at hK;rotate_left
   .cases hK
   unfold gH at hK;split at hK;rotate_left
   .cases hK
   rename_i k2 m2 xs;cases hq:decide (k2=k)&&bD m2 m' with
   |false=>grind
   |true=>
   simp only [hq,cond_true] at hK;simp only [AT,decide_eq_true_eq] at hq;obtain ⟨rfl,hq⟩:=hq;have hq:=sh hq;subst hq;have ⟨Nb,hK⟩:=dQ hK;have ⟨h0,h1⟩:=of_decide_eq_true Nb;have ⟨d,i,hu,h2,h3,h4⟩:=hr;cases d<;>simp only [tt,hl,fw] at h4<;>first|(exfalso;simp_all;done)|skip
   obtain ⟨_,_,_,_,kk,mm,rfl,⟨ie,hue,rG,Aj⟩,B0,_⟩:=h4;simp at B0;have ⟨rfl,rfl⟩:=B0;have Md:n<(m2:Int)+2:=aab
   have ⟨_,hx⟩:=hx;generalize hv:[a.eval x]=vs at hx;cases hx with
   |rp bg q us ms hr hp=>
   simp at hv;cases hr with
   |cons v1 _ Ak _ g1 g2=>
   cases g2;cases g1;refine jN (s:= .rp [.p (.i k2 (xs.getD n.toNat 0))] 0) (v:= .pointer (some ⟨bg,q+n.toNat,none⟩)) h ?_ ?_ trivial hK
   .simp [execOp,ho,hv,nb hy,aky,asIntOf,run_underlying hu,h0,Md,afv,typeInfo,rG,Aj,afK,afC]
   .refine ⟨bg,q+n.toNat,[.int k2 (xs.getD n.toNat 0)],abu,⟨_,[],rfl,⟨rfl,.i _ _⟩,rfl⟩,rfl,λj hj=> ?_⟩;grind
  .simp at hK
 .simp at hK
def adb {mx:Bool}{k:IntKind}{ss:List Slot}: ∀{vs:List Value} {n:Int} {m:MV},afV mx k n ss=some m->vs.length=ss.length-> (∀(i:Nat) (v:Value) (s:Slot),vs[i]? =some v->ss[i]? =some s->ai e v s)-> ∃v,(∀w:World,(vs.foldlM (if mx then Builtin.max2 else Builtin.min2) (.int k n)).run P w= .ok v w)/\ai e v (.sc (.p m)):=by
 induction ss with
 |nil=>simp_all [afB,afV,yX]
 |cons s ss ih=>
  intro vs n m hm hl hs;cases vs with
  |nil=>simp at hl
  |cons v vs=>
   have h0:=hs 0 v s rfl rfl;unfold afV at hm;split at hm
   .grind
   .rename_i k' y r' Aa;obtain ⟨rfl,rfl⟩:=Aa;by_cases hk:k'=k
    .subst hk;simp at hm;obtain ⟨u,h1,h2⟩:=ih hm (by simpa using hl) (λi v s h1 h2=>hs (i+1) v s (by grind) (by grind));rw [nb h0];cases mx;all_goals simp_all [cond_false,atm,Builtin.min2,cond_true,imax,Builtin.max2]
    grind
   .simp at hm
theorem ade {cl:Call}{mx:Bool}{m:MV}(ho:o.op= .call cl)(hb:cl.callee= .builtin (if mx then .max else .min))(h:bT c Z e st a w)(hm:afW mx (ou c st cl.args.toList)=some m)(hK:bB c st o.dst (.sc (.p m)) K=some r):Rd P c Z K r e a w o (λ_=>True):=by
 rw [pE] at hm;cases hl:cl.args.toList with
 |nil=>grind [afW]
 |cons x xs=>
  rw [hl] at hm;simp at hm;have ⟨hx,_⟩:=h.eval x;generalize aP c st x=s at hx hm;unfold afW at hm;split at hm
  .rename_i k n ss Aa;obtain ⟨rfl,rfl⟩:=Aa;have ⟨v,h1,h2⟩:=adb (e:=e) (P:=P) (vs:=xs.map a.eval) hm abu (by intro i v s h1 h2;simp at h1 h2;obtain ⟨y,h3,rfl⟩:=h1;obtain ⟨y',h4,rfl⟩:=h2;rw [h3] at h4;cases h4;exact (h.eval y).1);have dx:(cl.args.map a.eval).toList= .int k n::xs.map a.eval:=by simp [hl,nb hx]
   refine jN (v:=v) h ?_ h2 trivial hK;intro w;have h1:=h1 w;cases mx
   .have apR: ∀ts t,(Builtin.min_ ts t (cl.args.map a.eval)).run P w= .ok v w:=by intro ts t;unfold Builtin.min_;rw [dx];exact h1
    simp_all [execOp,resolve,invoke,builtin]
   .have apR: ∀ts t,(Builtin.max_ ts t (cl.args.map a.eval)).run P w= .ok v w:=by intro ts t;unfold Builtin.max_;rw [dx];exact h1
    simp_all [execOp,resolve,invoke,builtin]
  .simp at hm
def Al {b:Bool}{lo hi:Option Operand}{len cap:Nat} {K':Nat->Nat->Option R}(h:bT c Z e st a w)(FM:len<=cap)(hK:sliceB (pc c st lo) (pc c st hi) len K'=some r): ∃l h',l<=h'/\h'<=len/\(lo=none->l=0)/\(∀w:World,(ad5 b len cap (lo.map a.eval) (hi.map a.eval) none).run P w= .ok (l,h',cap) w)/\K' l h'=some r:=by
 have bnd: ∀(k:IntKind) (n:Int) (y:Nat) (cd:BoundsCode),0<=n->n<=(y:Int)-> ∀w:World,(afT (.int k n) y cd).run P w= .ok n.toNat w:=by intro k n y cd h1 h2 w;simp [afT,asIntOf,h1,h2]
 unfold sliceB at hK;cases lo with
 |none=>
  cases hi with
  |none=>exact ⟨0,len,aab,aab,λ_=>rfl,by simp [ad5],hK⟩
  |some y=>
   have ⟨hy,_⟩:=h.eval y;simp only [pc] at hK;generalize aP c st y=sy at hy hK;split at hK<;>first|(simp_all;done)|skip
   .rename_i k n h1 h2;simp at h2;subst h2;have ⟨Nb,hK⟩:=dQ hK;have ⟨h3,h4,h5⟩:=of_decide_eq_true Nb;refine ⟨0,n.toNat,aab,aab,λ_=>rfl,?_,hK⟩;have:=bnd k n cap (if b then .sliceAcap else .sliceAlen) h4 aab;cases b<;>simp at this<;>simp [ad5,nb hy,this]
 |some x=>
  have ⟨hx,_⟩:=h.eval x;cases hi with
  |none=>
   simp only [pc] at hK;generalize aP c st x=sx at hx hK;split at hK<;>first|(simp_all;done)|skip
   .rename_i k n h1 h2;simp at h1;subst h1;have ⟨Nb,hK⟩:=dQ hK;have ⟨h3,h4,h5⟩:=of_decide_eq_true Nb;refine ⟨n.toNat,len,aab,aab,abu,?_,by grind⟩;have:=bnd k n len .sliceB h3 h4;simp [ad5,nb hx,this]
  |some y=>
   have ⟨hy,_⟩:=h.eval y;simp only [pc] at hK;generalize aP c st x=sx at hx hK;generalize aP c st y=sy at hy hK;split at hK<;>first|(simp_all;done)|skip
   .rename_i k n k' n' h1 h2;simp at h1 h2;subst h1;subst h2;have ⟨Nb,hK⟩:=dQ hK;have ⟨h3,h4,h5⟩:=of_decide_eq_true Nb;refine ⟨n.toNat,n'.toNat,aab,aab,abu,?_,hK⟩;have t1:=bnd k' n' cap (if b then .sliceAcap else .sliceAlen) aab aab;have t2:=bnd k n n'.toNat .sliceB h3 aab;cases b<;>simp at t1<;>simp [ad5,nb hx,nb hy,t1,t2]
def jI.sub {key:Nat->Nat} {φ:Ph}{ad:Option Addr}{len cap:Nat}{xs:List MV} {l h' size:Nat}(hv:jI key φ [.slice ad len cap] (.list xs))(hl:l<=h')(hh:h'<=xs.length)(hw:l≠0-> ∀x∈xs,x.w=size):len=xs.length/\len<=cap/\jI key φ [.slice (if cap=l then ad else ad.map (·.add (l *size))) (h'-l) (cap-l)] (.list ((xs.take h').drop l)):=by
 generalize EN:[aeY ad len cap]=vs at hv;cases hv with
 |list ad' agw _ bg off IM f g1 g2 g3 g4 g5=>
 simp at EN;have ⟨rfl,rfl,rfl⟩:=EN;have hlen:((xs.take h').drop l).length=h'-l:=by simp;omega
 have aCY:jI key φ [.slice (if cap=l then ad else ad.map (·.add (l *size))) ((xs.take h').drop l).length (cap-l)] (.list ((xs.take h').drop l)):=by
  have mq: ∀i,i<((xs.take h').drop l).length->i+l<xs.length:=by intro i hi;omega
  have hel: ∀(i:Nat) (hi:i<((xs.take h').drop l).length),((xs.take h').drop l)[i]=xs[i+l]'(mq i hi):=by intro i hi;simp [Nat.add_comm]
  refine .list _ _ _ bg (off+l *IM) IM (λi=>f (i+l)) (by grind) ?_ ?_ ?_ ?_
  .intro h0;have eR:cap≠l:=aab
   have hx0:0<xs.length:=aab
   rw [g2 hx0];simp only [eR,if_false,Option.map_some,AS];by_cases hl0:l=0
   .grind [afC]
   .have hes:IM=size:=by have h3:=g5 0 hx0;rw [<-g3 0 hx0,h3.width];exact (by grind)
    rw [hes,afC]
  .grind
  .grind
  .grind
 grind
def G8 {n:Nat}{l:List MV}(h:oL n l=true): ∀x∈l,x.w=n:=by grind [oL,List.all_eq_true,sh]
theorem bn.oL {key:Nat->Nat} {φ:Ph}{size:Nat}{xs:List MV}: ∀{cs:List Value},bn key φ size cs xs-> ∀x∈xs,x.w=size:=by
 induction xs with
 |nil=>grind
 |cons y ys ih=>intro cs h x hx;obtain ⟨v,q,rfl,h1,h2,h3⟩:=h;grind [h2.width]
theorem agz {t:TypeId}{x:Operand}{lo hi:Option Operand}{I:TI}(ho:o.op= .slice t x lo hi none)(hI:c.tv t=some I)(hT:iz P c.ti)(h:bT c Z e st a w)(hK:Y5 c I st (aP c st x) (pc c st lo) (pc c st hi) (λs st=>bB c st o.dst s K)=some r):Rd P c Z K r e a w o (λ_=>True):=by
 have ⟨hx,rO⟩:=h.eval x;have ⟨ng,hc⟩:=a8 hI;have hr:=hT t I ng;have run: ∀{el E},P.underlying t=some (.slice el)->c.ti el=some E->E.cy=[]-> ∀ad len cap l h',a.eval x= .slice ad len cap->(∀w:World,(ad5 true len cap (lo.map a.eval) (hi.map a.eval) none).run P w= .ok (l,h',cap) w)-> ∀w:World,(execOp a.eval o).run P w= .ok (.value (.slice (if cap=l then ad else ad.map (·.add (l *E.size))) (h'-l) (cap-l))) w:=by intro el E hu hE pg ad len cap l h' hv hb w;obtain ⟨iE,hiE,hsE,_⟩:=(hT _ E hE).info pg;simp [execOp,ho,akz,akJ,run_underlying hu,hv,hb,afv,typeInfo,hiE,hsE]
 generalize hs:aP c st x=s at hx hK rO;unfold Y5 at hK;split at hK
 .have ⟨hS,hK⟩:=ob hK;have hu:=TI.I8 hr hS;obtain ⟨b,hb,rfl⟩:=G7 hx;have ⟨l,h',h1,h2,_,h3,hK⟩:=Al (P:=P) (b:=false) (cap:=b.size) h (ac4 _) hK;refine jN (s:= .sc (.p (.s ((b.data.toList.take h').drop l)))) (v:= .string (b.extract l h')) h ?_ ?_ trivial hK
  .simp_all [execOp,akz,akJ,run_underlying]
  grind [akU,ahQ,aku,agV,ak0]
 .rename_i xs;have ⟨hS,hK⟩:=ob hK;have ⟨hu,_⟩:=TI.mn hr hS;cases hE:c.tv I.elem with
  |none=>grind
  |some E=>
   simp only [hE] at hK;have ⟨mT,pg⟩:=a8 hE;have EP:(lo≠none->oL E.size xs=true)/\sliceB (pc c st lo) (pc c st hi) xs.length (λl h'=>bB c st o.dst (.sc (.p (.list ((xs.take h').drop l)))) K)=some r:=by
    cases lo with
    |none=>exact ⟨abu,hK⟩
    |some y=>grind [pc,dQ]
   have ⟨hw,hK⟩:=EP;have ⟨ad,cap,hv,FM⟩:=Na hx;have ⟨l,h',h1,h2,h0,h3,hK⟩:=Al (P:=P) (b:=true) (cap:=cap) h FM hK;rw [hv] at hx;have ⟨_,_,fG⟩:=jI.sub (size:=E.size) hx.2 h1 h2 (λhl=>G8 (hw (λhn=>hl (h0 hn))));refine jN (s:= .sc (.p (.list ((xs.take h').drop l)))) h (run hu mT pg ad _ cap l h' hv h3) ?_ trivial hK;exact ⟨rfl,fG⟩
 .rename_i f;cases hf:aN st.aT f with
  |none=>grind
  |some fo=>simp only [hf] at hK;have ⟨hS,hK⟩:=ob hK;simp only [AT] at hS;have ⟨hu,E,mT,pg,_⟩:=TI.mn hr hS.1;have oM:=sh hS.2;have ⟨hvE,ad,cap,hv,FM⟩:=uS h hx hf;simp only [ai] at hx;have ⟨J,cells,hJ,_,_,kp,_⟩:=(h.jC f fo hf).row;rw [oM,mT] at hJ;cases hJ;have hwx:=kp.oL;have ⟨e',cj,m,yY,ak5,B1,fG,hK,_,hm⟩:=ni h hx hK;obtain ⟨o2,dO,rfl⟩:=hm.1 f rfl;rw [hf] at dO;cases dO;have ⟨l,h',h1,h2,h0,h3,hK⟩:=Al (P:=P) (b:=true) (cap:=cap) h FM hK;rw [hv] at fG;have ⟨_,_,fG⟩:=jI.sub (size:=E.size) fG h1 h2 (λ_=>hwx);refine ac2 (s:= .sc (.p (.list ((fo.xs.take h').drop l)))) (λw _=>run hu mT pg ad _ cap l h' hv h3 w) yY ak5.tr (.of ?_ trivial) hK;exact ⟨rfl,fG⟩
 .have ⟨hS,hK⟩:=ob hK;have ⟨hu,E,mT,pg,_⟩:=TI.mn hr hS;have hx:[a.eval x]=[aeY none 0 0]:=hx;simp at hx;have ⟨l,h',h1,h2,_,h3,hK⟩:=Al (P:=P) (b:=true) (cap:=0) h (ac4 _) hK;have h4:h'=0:=aab
  have h5:l=0:=aab
  subst h4;subst h5;refine jN (s:= .sc .nil) h (run hu mT pg none 0 0 0 0 hx h3) ?_ trivial hK;simp_all [ai,if_true]
 .simp at hK
def ak9 {t:TypeId}{x y z:Operand}{I:TI}(ho:o.op= .slice t x none (some y) (some z))(hI:c.tv t=some I)(hT:iz P c.ti)(h:bT c Z e st a w)(hK:afZ I (aP c st x) (aP c st y) (aP c st z) (λs=>bB c st o.dst s K)=some r):Rd P c Z K r e a w o (λ_=>True):=by
 have ⟨hx,rO⟩:=h.eval x;have ⟨hy,_⟩:=h.eval y;have ⟨hz,_⟩:=h.eval z;have ⟨ng,hc⟩:=a8 hI;have hr:=hT t I ng;generalize aP c st x=s at hx hK rO;generalize aP c st y=s2 at hy hK;generalize aP c st z=s3 at hz hK;unfold afZ at hK;split at hK
 .rename_i l n n';have ⟨hS,hK⟩:=ob hK;have ⟨Nb,EP⟩:=dQ hK;have ⟨hu,E,mT,pg,_⟩:=TI.mn hr hS;have ⟨iE,hiE,hsE,_⟩:=(hT _ E mT).info pg;have ⟨ad,cap,hv,FM⟩:=Na hx;rw [hv] at hx;have bnd: ∀(m:Nat) (cd:BoundsCode),l.length<=m-> ∀w:World,(afT (.int .i64 (l.length:Int)) m cd).run P w= .ok l.length w:=by
   intro m cd hm w;have:(l.length:Int)<=(m:Int):=aab
   simp [afT,asIntOf,this]
  have hb: ∀w:World,(ad5 true l.length cap none (some (.int .i64 (l.length:Int))) (some (.int .i64 (l.length:Int)))).run P w= .ok (0,l.length,l.length) w:=by intro w;have b1:=bnd cap .slice3Acap FM;have b2:=bnd l.length .slice3B (ac4 _);simp [ad5,b1,b2]
  have fG:jI e.key e.φ [.slice ad l.length l.length] (.list l):=by
   have h2:=hx.2;generalize EN:[aeY ad l.length cap]=vs at h2;cases h2 with
   |list ad' agw _ bg off IM f g1 g2 g3 g4 g5=>
   simp at EN;have ⟨rfl,_⟩:=EN;exact .list _ _ _ bg off IM f (ac4 _) g2 g3 g4 g5
  refine jN (s:= .sc (.p (.clip l))) (v:= .slice ad l.length l.length) h (λw=> ?_) ?_ trivial EP
  .simp [execOp,ho,akz,akJ,run_underlying hu,hv,nb hy,nb hz,hb,afv,typeInfo,hiE,hsE];simp_all [Addr.add]
  .exact ⟨rfl,.clip _ _ fG⟩
 .simp at hK
theorem Nc (k:IntKind)(x:List Int)(i:Nat)(b:Int)(hi:i<x.length):bN k (x.set i b)=(bN k x).take i++[.int k b]++(bN k x).drop (i+1):=by simp_all [bN,List.map_set,dj,List.set_eq_take_append_cons_drop,if_pos]
structure agA (e e':Env):Prop where
 key:e'.key=e.key
 φ:iZ e.φ e'.φ
 jC: ∀f o',aN e'.m f=some o'->(∃o,aN e.m f=some o)/\e'.E f=e.E f
def bp.onE (h:agA e e'){vs:List Value}{l:aF}(hr:bp e vs l):bp e' vs l:=by
 cases l with
 |p m=>exact ⟨hr.1,by have:=hr.2.mono h.φ;grind [h.key]⟩
 |own f=>obtain ⟨v,rfl,hv,hf⟩:=hr;refine ⟨v,rfl,hv,λo' FL=> ?_⟩;have ⟨⟨o,ho⟩,hE⟩:=h.jC f o' FL;grind
 |_=>exact hr
def av.onE (h:agA e e'){cs:List aF}: ∀{vs:List Value},av e vs cs->av e' vs cs:=by
 induction cs with
 |nil=>intro vs hr;exact hr
 |cons l r ih=>intro vs hr;obtain ⟨v,w,rfl,h1,h2⟩:=hr;exact ⟨v,w,rfl,h1.onE h,ih h2⟩
def kES (f:Nat)(s:Slot):Slot:=match s with
 | .ep g i o b cs=>bif bD g f then .sc .un else .ep g i o b cs
 |s=>s
theorem yZ (f:Nat)(r:Fr)(t:Nat):au (Qx f r) t=kES f (au r t):=M2 (kES f) rfl r t
theorem adf (f:Nat)(s:Slot):cY (kES f s)=cY s:=by cases s<;>simp only [kES];rename_i g _ _ _ _;cases bD g f<;>rfl
def ai.onE {f:Nat}{T:Nat->Prop}(h:agA e e')(vA:ll (· ≠f) T e e'){v:Value}{s:Slot}(hT:iF (λ_=>True) T s)(hr:ai e v s):ai e' v (kES f s):=by
 cases s with
 |sc l=>
  simp only [kES];cases l with
  |un=>simp [ai]
  |hs k n x=>grind [ai]
  |p m=>simp only [ai] at hr⊢;exact hr.onE h
  |nil=>simp only [ai] at hr⊢;exact hr.onE h
  |mp s es=>exact hr
  |own f=>simp only [ai] at hr⊢;exact hr.onE h
 |ag cs=>have ⟨arr,h1,h2⟩:=hr;exact ⟨arr,h1,h2.onE h⟩
 |tg cs=>have ⟨arr,h1,h2⟩:=hr;exact ⟨arr,h1,h2.onE h⟩
 |ep g i o b cs=>
  simp only [kES];cases hb:bD g f
  .refine hr.on vA ?_;grind [iF,iy]
  .simp [ai]
 |_=>exact hr.on vA hT
def lz.onE (h:agA e e')(hk:e'.key=e.key)(hp:iZ e.φ e'.φ){o:Obj}{cs:List aF}(hr:lz e o cs):lz e' o cs:=by
 cases o with
 |cells arr T z=>exact ⟨hr.1,hr.2.onE h⟩
 |map es clock=>exact hr
 |stringIter x pos=>exact hr
 |_=>exact hr.elim
def bn.set {key:Nat->Nat} {φ:Ph}{size:Nat}{xs:List MV}: ∀{cs:List Value} {i:Nat} {x:MV} {v':List Value},bn key φ size cs xs->i<xs.length->v'.length=size->jI key φ v' x-> bn key φ size (cs.take (i *size)++v'++cs.drop (i *size+size)) (xs.set i x):=by
 induction xs with
 |nil=>grind
 |cons y ys ih=>
  intro cs i x v' h hi hl hr;obtain ⟨v,q,rfl,h1,h2,h3⟩:=h;cases i with
  |zero=>exact ⟨v',q,by grind,hl,hr,h3⟩
  |succ i=>have:=ih h3 (by simpa using hi) hl hr;refine ⟨v,_,?_,h1,h2,this⟩;rw [akD,af2,ahB,afL aab,aie aab];grind
theorem bT.apU {f:Nat}{fo:pC}{I:TI}{g i:Nat}{cap:Nat}{dp:Array Value} {v' cells:List Value}{x:MV}(h:bT c Z e st a w)(hf:aN st.aT f=some fo)(hz:fo.iw=false)(hI:c.ti fo.ty=some I)(YV:I.cy=[])(hE:e.E f= .slice (some ⟨g,0,none⟩) fo.xs.length cap)(eS:w.ownsRow 0 fo.ty I.size (e.E f) fo.xs.length cells)(hg:w.heap[g]? =some (.cells dp fo.ty (0,0)))(kp:bn e.key e.φ I.size cells fo.xs)(hi:i<fo.xs.length)(hl:v'.length=I.size)(hr:jI e.key e.φ v' x)(Fm:f∉Z.cV): bT c Z {e with m:=dh e.m f ⟨fo.ty,false,fo.xs.set i x⟩} {st with fr:=Qx f st.fr,aT:=dh st.aT f ⟨fo.ty,false,fo.xs.set i x⟩} a (w.setRow g (dp.toList.take (i *I.size)++v'++dp.toList.drop (i *I.size+I.size)).toArray)/\Z g:=by
 have hb:(e.E f).ownBlock=some g:=by rw [hE];rfl
 have hZ:Z g/\ ∀off,e.φ g off=none:=by
  obtain ⟨J,yA,_,_,_,_,h5⟩:=(h.jC f fo hf).row;obtain ⟨h6,h7⟩:=h5 g hb;refine ⟨YS h6 Fm,λoff=> ?_⟩;cases hp:e.φ g off with
  |none=>rfl
  |some u=>have:=(h7.1 off u hp).1;rw [hz] at this;cases this
 have yS:=setRow_size w g (dp.toList.take (i *I.size)++v'++dp.toList.drop (i *I.size+I.size)).toArray;have hE1:agA e {e with m:=dh e.m f ⟨fo.ty,false,fo.xs.set i x⟩}:=by
  refine ⟨rfl,.refl _,λf2 o2 dO=>⟨?_,rfl⟩⟩;have dO:aN (dh e.m f ⟨fo.ty,false,fo.xs.set i x⟩) f2=some o2:=dO;rw [bt] at dO;by_cases kC:f2=f
  .grind [h.m]
  .grind
 have vA:ll (· ≠f) (λ_=>True) e {e with m:=dh e.m f ⟨fo.ty,false,fo.xs.set i x⟩}:=by refine ⟨rfl,.refl _,λ_ _=>rfl,λf2 o2 dO eR=> ?_⟩;have dO:aN (dh e.m f ⟨fo.ty,false,fo.xs.set i x⟩) f2=some o2:=dO;rw [bt] at dO;simp only [eR,if_false] at dO;exact ⟨o2,dO,rfl,rfl⟩
 have mq: ∀f2 o2,aN (dh st.aT f ⟨fo.ty,false,fo.xs.set i x⟩) f2=some o2-> ∃o3,aN st.aT f2=some o3:=by
  intro f2 o2 dO;rw [bt] at dO;by_cases kC:f2=f
  .grind
  .grind
 refine ⟨⟨h.defers,h.size,by rw [h.m],h.key,?_,?_,?_,?_,?_,?_,?_,?_,λb hb=>h.cz b aab⟩,hZ.1⟩
 .have:aS (Qx f st.fr)=aS st.fr:=by simp [aS,Qx]
  grind [h.nodup]
 .intro t;rw [yZ];have hs:=h.slot t;have hbf:=h.bf t;generalize au st.fr t=s at hs hbf;by_cases YX: ∃cs,s= .box cs
  .obtain ⟨cs,rfl⟩:=YX;refine ⟨hs.1,hs.2.cz,?_,hs.2.free⟩;have ⟨o2,h1,h2⟩:=hs.2.obj;refine ⟨o2,?_,h2.onE hE1 rfl (.refl _)⟩;rw [setRow_other _ _ _ _ (by grind)];exact h1
  .have yY:ai e (a.tmps.getD t undef) s:=by cases s<;>simp only [eD] at hs<;>first|exact hs|grind
   have h2:=yY.onE (f:=f) hE1 vA (dY s);generalize hks:kES f s=s2 at h2;cases s2<;>first|exact h2|grind [ai]
 .intro t;rw [yZ];have rO:=h.root t;generalize au st.fr t=s at rO;have hk: ∀q,cY (au (Qx f st.fr) q)=cY (au st.fr q):=(by grind [yZ,adf])
  cases s with
  |ptr q o=>show cY (au (Qx f st.fr) q)=true;rw [hk];exact rO
  |hp q o i=>show cY (au (Qx f st.fr) q)=true;rw [hk];exact rO
  |Cl q=>show cY (au (Qx f st.fr) q)=true;rw [hk];exact rO
  |ep g' _ _ _ _=>simp only [kES];cases bD g' f<;>trivial
  |_=>trivial
 .intro f2 o2 dO;rw [bt] at dO;by_cases kC:f2=f
  .subst kC;simp at dO;subst dO;have ⟨hlen,Wl⟩:=eS;refine ⟨I,cells.take (i *I.size)++v'++cells.drop (i *I.size+I.size),hI,YV,⟨?_,?_⟩,?_,?_⟩
   .have hle:i *I.size+I.size<=fo.xs.length *I.size:=by rw [<-akD];exact aft _ hi
    grind
   .have hle:i *I.size+I.size<=fo.xs.length *I.size:=by rw [<-akD];exact aft _ hi
    rcases Wl with ⟨h1,_⟩|⟨g2,I9,EQ,h1,_,h3,h4,h5,h6,h7⟩
    .grind
    .rw [hE] at h1;simp at h1;have ⟨rfl,rfl⟩:=h1;rw [hg] at h3;simp at h3;subst h3;refine .inr ⟨g,cap,(dp.toList.take (i *I.size)++v'++dp.toList.drop (i *I.size+I.size)).toArray,by rw [hE];simp,aab,setRow_heap _ _ _ _ _ _ hg,by grind,h5,?_,?_⟩
     .grind
     .have ER:dp.toList.length=dp.size:=abu
      have hcz:fo.xs.length *I.size<=cap *I.size:=aft _ h4;have e2:(dp.toList.take (fo.xs.length *I.size)).drop (i *I.size+I.size)=(dp.toList.drop (i *I.size+I.size)).take (fo.xs.length *I.size-(i *I.size+I.size)):=by rw [ak0]
      have e3:(dp.toList.take (i *I.size)++v').length=i *I.size+I.size:=by simp only [No,List.length_take,ER];omega
      grind [af2,afL]
   .exact kp.set hi hl hr
   .intro bg qf;rw [hb] at qf;cases qf;exact ⟨.inr hZ.1,(by grind),(by grind)⟩
  .simp only [kC,if_false] at dO;have ⟨I2,yA,h1,h2,h3,h4,h5⟩:=(h.jC f2 o2 dO).row;exact ⟨I2,yA,h1,h2,Zm (λhk=>kC (h.ff f2 f o2 fo g dO hf hk hb)) h3,h4,h5⟩
 .intro t t' c1 c2 h1 h2 eR;rw [yZ] at h1 h2;have g1:au st.fr t= .box c1:=by generalize au st.fr t=s at h1;cases s<;>simp only [kES] at h1<;>first|exact h1|(simp at h1;done)|grind
  have g2:au st.fr t'= .box c2:=by generalize au st.fr t'=s at h2;cases s<;>simp only [kES] at h2<;>first|exact h2|(simp at h2;done)|grind
  exact h.bb t t' c1 c2 g1 g2 eR
 .intro t c1 f2 o2 h1 h2;rw [yZ] at h1;have g1:au st.fr t= .box c1:=by generalize au st.fr t=s at h1;cases s<;>simp only [kES] at h1<;>first|exact h1|(simp at h1;done)|grind
  have ⟨o3,ho3⟩:=mq f2 o2 h2;exact h.bf t c1 f2 o3 g1 ho3
 .intro f1 f2 o1 o2 k h1 h2 h3 h4;have ⟨q1,g1⟩:=mq f1 o1 h1;have ⟨q2,g2⟩:=mq f2 o2 h2;exact h.ff f1 f2 q1 q2 k g1 g2 h3 h4
 .intro b off v hv;have eR:b≠g:=by intro eb;subst eb;rw [hZ.2] at hv;cases hv
  rw [afz (setRow_other _ _ _ _ eR)];exact h.mj b off v hv
def av.adg {cs:List aF}: ∀{vs:List Value} {ms:List MV},av e vs cs->dz cs=some ms->il e.key e.φ vs ms:=by
 induction cs with
 |nil=>intro vs ms h hm;cases h;simp [dz] at hm;subst hm;exact .nil
 |cons l r ih=>
  intro vs ms h hm;obtain ⟨v,u,rfl,h1,h2⟩:=h;cases hr:dz r with
  |none=>simp_all [dz]
  |some q=>
   cases l<;>simp [dz,hr] at hm
   .subst hm;exact .cons v _ u q h1.2 (ih h2 hr)
   .subst hm;obtain ⟨rfl,hx⟩:=h1;exact .cons _ _ u q (.h _ _ _ hx) (ih h2 hr)
def agB {b:Bool}{ms:List MV}{x:MV}{vs:List Value}(h:il e.key e.φ vs ms)(hx:yx b ms=some x):jI e.key e.φ vs x:=by
 cases b with
 |true=>cases ms<;>simp [yx] at hx<;>subst hx<;>exact .agg _ _ h
 |false=>
  cases ms with
  |nil=>grind [yx]
  |cons m ms=>
   cases ms with
   |cons y ys=>grind [yx]
   |nil=>
    simp [yx] at hx;cases h with
    |cons v _ u _ h1 h2=>cases h2;grind
theorem agC {t:TypeId}{x y:Operand}{I:TI}(ho:o.op= .store t x y)(hI:c.tv t=some I)(hT:iz P c.ti)(h:bT c Z e st a w)(hK:stK st I (aP c st x) (aP c st y) (λst=>bB c st o.dst (.sc .un) K)=some r):o.wp P a w (Out c Z K r e.φ w) Q:=by
 obtain ⟨hx,rO⟩:=h.eval x;obtain ⟨hy,_⟩:=h.eval y;obtain ⟨ng,hc⟩:=a8 hI;have hr:=hT t I ng;have go: ∀w' cj,(ahs t (a.eval x) (a.eval y)).run P w= .ok () w'->bT c Z e cj a w'->Trans Z e.φ w e.φ w'->bB c cj o.dst (.sc .un) K=some r->o.wp P a w (Out c Z K r e.φ w) Q:=by intro w' cj h1 h2 h3 h4;refine abt ?_ h2 h3 h4;simp [execOp,ho,h1]
 generalize aP c st x=sx at hx hK rO;generalize aP c st y=sy at hy hK;unfold stK at hK;cases hb:Fh (aX sy)||!bD (FB (aX sy)) I.size with
 |true=>grind
 |false=>
  simp only [hb,cond_false] at hK;simp only [ad1,afE] at hb;have M8:=sh hb.2;have gq:0<I.size:=by
   rcases hr.agg hc with ⟨d,hu,hd,hh⟩|⟨_,_,_,_,hh⟩
   .have ⟨d',i',h1,h2,h3,h4⟩:=hr;grind [tt,absurd]
   .omega
  have eR:aX sy≠[]:=by intro e0;rw [e0] at M8;simp [FB] at M8;omega
  have hcv:=Fl hy hb.1 eR;split at hK
  .simp only [ai] at hx;split at hK
   .grind [putAt,aX,ac8]
   .simp at hK
  .rename_i root off hn i;obtain ⟨hx,apV⟩:=hx;split at hK
   .rename_i cs n Ci;have IQ:fU cs=false:=by cases hq:fU cs<;>simp_all
    simp only [IQ,cond_false] at hK;split at hK
    .rename_i kk n' x ls apK;cases hq:bD n' hn with
     |false=>grind
     |true=>
     simp only [hq,cond_true] at hK;have hq:=sh hq;unfold gI at hK;split at hK
     .rename_i k n;by_cases hk:k=kk
      .subst hk;have hyv:=nb hy;cases hp:putAt cs off [.hs k n' (x.set i n)] with
       |none=>grind
       |some jM=>
        simp only [hp] at hK;have rK:=h.slot root;rw [Ci] at rK;have ⟨arr,T,cD,rQ⟩:=rK.2.cells IQ;have ⟨u1,u2,hu,h4,h5⟩:=Cs apK rQ;obtain ⟨u3,u4,rfl,h6,_⟩:=h5;obtain ⟨rfl,Zq⟩:=h6;have ⟨p1,p2,p3,he,h1,h2,h3⟩:=Ag (ws:=bN k (x.set i n)) hp rQ ⟨_,[],abu,⟨rfl,by grind⟩,rfl⟩;have hlx:=dj k x;have hly:=dj k (x.set i n);rw [List.length_set] at hly;have hpu:p1=u1/\p2++p3=bN k x++u4:=(by grind [List.append_inj,IN])
        have ⟨rfl,hpu⟩:=hpu;obtain ⟨rfl,rfl⟩:=List.append_inj hpu aab;have yS:arr.size=p1.length+x.length+p3.length:=by
         have:arr.toList.length=(p1++bN k x++p3).length:=by rw [he]
         simp at this;omega
        have ala:(a.eval y).cells.toList=[.int k n]:=by rw [hyv];simp [IT]
        have S9:I.size=1:=by rw [<-M8];rfl
        have bU:=pf (P:=P) (w:=w) (bg:=e.B root) (off:=off+i) (v:=a.eval y) hr hc (by grind) (by grind [By]) cD aab;have ml:arr.toList.take (off+i)++(a.eval y).cells.toList++arr.toList.drop (off+i+I.size)=p1++bN k (x.set i n)++p3:=by rw [ala,S9,he,Nc k x i _ aab,IN p1,af2,ahB,af2,ahB];rw [afL aab,aie aab];rw [show off+i-p1.length=i by omega,show off+i+1-p1.length=i+1 by omega,show i-(bN k x).length=0 by omega,show i+1-(bN k x).length=0 by omega];simp
        rw [ml] at bU;have ⟨hn,hK⟩:=oz hK;simp only [force_eq,pe] at hK;exact go _ _ (by rw [hx];exact bU) (h.agv Ci cD aab (by grind [bO]) (fA h.nodup)) (.setRow _ (YS rK.2.cz (by rw [<-h.defers.2.1,<-bH,hn];simp))) hK
      grind
     .simp at hK
    .simp at hK
   .simp at hK
  .rename_i f i off b cs;have ⟨e1,aZ,ms,Aj,M9,Lt,Lu,hK,hp1,IU⟩:=oV h hcv hK;have hx:=hx.on M9.on (dY _);cases hf:aN aZ.aT f with
   |none=>grind
   |some fo=>
    simp only [hf] at hK;have ⟨hz,hK⟩:=oz hK;cases Zj:uv (aX sy) ms with
    |none=>grind
    |some vs=>
     simp only [Zj] at hK;have ⟨EN,_⟩:=IU vs Zj;cases hp:putAt cs off vs with
     |none=>grind
     |some jM=>
      simp only [hp] at hK;cases hm:dz jM with
      |none=>grind
      |some ms'=>
       simp only [hm] at hK;cases hre:yx b ms' with
       |none=>grind
       |some x'=>
        simp only [hre] at hK;have ⟨hn,hK⟩:=oz hK;simp only [apB,qp] at hK;have ⟨bg,cap,hE,⟨x0,hx0,hel⟩,agD⟩:=hx fo (by grind [Aj.m]);have ⟨J,cells,hJ,hJc,eS,kp,_⟩:=(Aj.jC f fo hf).row;have hi:i<fo.xs.length:=(by grind)
        have ⟨p1,v1,p2,hce,I7,xO,fG⟩:=kp.at hx0;have rQ:=fG.M6 hel;have hw1:=rQ.width;have ⟨q1,q2,q3,hv1,hq1,hq2,ml⟩:=Ag hp rQ EN;have ayz:(a.eval y).cells.toList.length=I.size:=by rw [hcv.width,M8]
        have atF:=agB (ml.adg hm) hre;have ⟨hlen,Wl⟩:=eS;rcases Wl with ⟨g1,_⟩|⟨g2,I9,dp,g1,g0,g3,g4,g5,g6,g7⟩
        .grind
        .have RH:w.ownsRow 0 fo.ty J.size (e1.E f) fo.xs.length cells:=⟨hlen,(by grind)⟩
         rw [hE] at g1;simp at g1;have ⟨rfl,rfl⟩:=g1;have hvl:(q1++(a.eval y).cells.toList++q3).length=J.size:=by
          have:v1.length=(q1++q2++q3).length:=by rw [hv1]
          simp only [No] at this⊢;omega
         have ⟨nm,hZ⟩:=Aj.apU hf hz hJ hJc hE RH g3 kp hi hvl atF (by rw [<-Aj.defers.2.2.1,<-bH,hn];simp);have agE:dp.toList=p1++q1++q2++(q3++p2++dp.toList.drop (fo.xs.length *J.size)):=by have:=List.take_append_drop (fo.xs.length *J.size) dp.toList;rw [g7,hce,hv1] at this;refine this.symm.trans ?_;simp
         have ac9:(p1++q1).length=i *J.size+off:=by simp [I7,hq1]
         have aC2:dp.size=(p1++q1).length+I.size+(q3++p2++dp.toList.drop (fo.xs.length *J.size)).length:=by
          have:dp.toList.length=(p1++q1++q2++(q3++p2++dp.toList.drop (fo.xs.length *J.size))).length:=by rw [<-agE]
          rw [No,No] at this;rw [Array.length_toList] at this;omega
         have bU:=pf (P:=P) (w:=w) (bg:=bg) (off:=i *J.size+off) (v:=a.eval y) hr hc ayz hcv.cells g3 aab;have ov:dp.toList.take (i *J.size+off)++(a.eval y).cells.toList++dp.toList.drop (i *J.size+off+I.size)= dp.toList.take (i *J.size)++(q1++(a.eval y).cells.toList++q3)++dp.toList.drop (i *J.size+J.size):=by
          have t1:dp.toList.take (i *J.size+off)=p1++q1:=by
           conv=>lhs;rw [agE,IN (p1++q1)]
           exact ako ac9
          have t2:dp.toList.drop (i *J.size+off+I.size)=q3++p2++dp.toList.drop (fo.xs.length *J.size):=by
           conv=>lhs;rw [agE]
           exact (by grind [List.drop_left',No])
          have t3:dp.toList.take (i *J.size)=p1:=by
           conv=>lhs;rw [agE]
           simp only [IN];exact ako I7
          have t4:dp.toList.drop (i *J.size+J.size)=p2++dp.toList.drop (fo.xs.length *J.size):=by
           have Wm:dp.toList=(p1++(q1++q2++q3))++(p2++dp.toList.drop (fo.xs.length *J.size)):=by
            conv=>lhs;rw [agE]
            simp
           conv=>lhs;rw [Wm]
           exact (by grind [List.drop_left',No])
          rw [t1,t2,t3,t4];simp
         rw [ov] at bU;have ayA:i *FB cs+off=i *J.size+off:=by rw [<-hw1,xO]
         refine abt (w':=w.setRow bg (dp.toList.take (i *J.size)++(q1++(a.eval y).cells.toList++q3)++dp.toList.drop (i *J.size+J.size)).toArray) ?_ nm ?_ hK
         .rw [ayA] at agD;simp [execOp,ho,agD,bU]
         .exact M9.tr.trans (.setRow _ hZ)
  .simp at hK
def RI {place:Nat->Option (Nat×Nat)}{cells:Array Value}{i off:Nat}{v:Value}{rest:List (Nat×Value)}(hp:place i=some (off,v.cells.size))(hle:off+v.cells.size<=cells.size): agM place cells ((i,v)::rest)=agM place (cells.toList.take off++v.cells.toList++cells.toList.drop (off+v.cells.size)).toArray rest:=by
 conv=>lhs;unfold agM
 simp only [hp];rw [if_neg (by simp;omega)];congr 1;rw [<-Array.foldl_toList,Array.toList_zipIdx];have ⟨h1,h2⟩:=Go.Great.foldl_set off v.cells.toList 0 cells;apply Array.ext_getElem?;intro k;have e0:=h2 k;grind
def Zr {I:TI}{places:List (Nat×Nat)}(h:bT c Z e st a w)(Zj: ∀(i q y:Nat)(J:TI),I.xx[i]? =some q->I.acV[i]? =some y->c.tv y=some J->places[i]? =some (q,J.size)/\0<J.size){parts:List (Nat×Operand)}: ∀{cs ds:List aF} {cells:Array Value},av e cells.toList cs->FC c st I parts cs=some ds-> ∃out,agM (places.toArray[·]?) cells (parts.map λp=>(p.1,a.eval p.2))=some out/\av e out.toList ds:=by
 induction parts with
 |nil=>intro cs ds cells hl hb;simp [FC] at hb;subst hb;exact ⟨cells,rfl,hl⟩
 |cons p ps ih=>
  intro cs ds cells hl hb;have ⟨i,x⟩:=p;simp only [FC] at hb;split at hb
  .rename_i q y hq hy;cases hJ:c.tv y with
   |none=>grind
   |some J=>
    simp only [hJ] at hb;have ⟨hpi,gq⟩:=Zj i q y J hq hy hJ;have ⟨hu,hb⟩:=oz hb;simp only [ad1,afE] at hu;have M8:=sh hu.2;cases hp:putAt cs q (aX (aP c st x)) with
    |none=>grind
    |some jM=>
     simp only [hp] at hb;have eR:aX (aP c st x)≠[]:=by intro e0;rw [e0] at M8;simp [FB] at M8;omega
     have hv:=Fl (h.eval x).1 hu.1 eR;have ⟨p1,p2,p3,he,h1,h2,h3⟩:=Ag hp hl hv;have hlen:(a.eval x).cells.size=J.size:=by rw [<-M8,<-hv.width];simp
     have yS:cells.size=p1.length+p2.length+p3.length:=by
      have:cells.toList.length=(p1++p2++p3).length:=by rw [he]
      simp at this;omega
     have VM:p2.length=(a.eval x).cells.size:=by rw [h2];simp
     have atG:=RI (place:=(places.toArray[·]?)) (cells:=cells) (i:=i) (off:=q) (v:=a.eval x) (rest:=ps.map λp=>(p.1,a.eval p.2)) (by grind) aab;have ⟨out,h4,h5⟩:=ih (cells:=(p1++(a.eval x).cells.toList++p3).toArray) (by grind) hb;grind
  .simp at hb
def Zs {kk:IntKind}{nn:Nat}{parts:List (Nat×Operand)}(h:bT c Z e st a w): ∀{x:List Int} {K':List Int->Option R},x.length=nn+2->MR c st kk nn parts x K'=some r-> ∃y,agM (λi=>some (i *1,1)) (bN kk x).toArray (parts.map λp=>(p.1,a.eval p.2))=some (bN kk y).toArray/\y.length=nn+2/\K' y=some r:=by
 induction parts with
 |nil=>intro x K' Zq hb;exact ⟨x,rfl,Zq,hb⟩
 |cons p ps ih=>
  intro x K' Zq hb;have ⟨i,y⟩:=p;simp only [MR] at hb;split at hb
  .rename_i m hm;cases hi:aec (nn+2) i with
   |true=>grind
   |false=>
    simp only [hi,cond_false] at hb;have apV:i<nn+2:=by
     by_cases dX:i<nn+2
     .exact dX
     .grind [aec,akp]
    unfold gI at hb;split at hb
    .rename_i k n;by_cases hk:k=kk
     .have hv:=nb (by have:=(h.eval y).1;rw [hm] at this;exact this);have Nb:(a.eval y).cells= #[.int k n]:=by rw [hv];simp [IT]
      have atG:=RI (place:=λi=>some (i *1,1)) (cells:=(bN k x).toArray) (i:=i) (off:=i *1) (v:=a.eval y) (rest:=ps.map λp=>(p.1,a.eval p.2)) (by rw [Nb];rfl) (by grind [dj]);grind [Nc]
     grind
    .simp at hb
  .simp at hb
def adh (P:Program)(l:List Field):(∀f∈l,∃i,P.info? f.type=some i)-> ∃places,l.mapM (λf=>(P.info? f.type).map λi=>(f.offset,i.size))=some places/\ ∀(k:Nat) (f:Field),l[k]? =some f-> ∃i,P.info? f.type=some i/\places[k]? =some (f.offset,i.size):=by
 induction l with
 |nil=>simp_all
 |cons f fs ih=>intro h;have ⟨i,hi⟩:=h f abu;have ⟨ps,h1,h2⟩:=ih (by grind);refine ⟨(f.offset,i.size)::ps,by grind,?_⟩;grind
def agF {t:TypeId}{parts:Array (Nat×Operand)}{I:TI}(ho:o.op= .build t parts)(hI:c.tv t=some I)(hT:iz P c.ti)(h:bT c Z e st a w)(hK:(bif I.st then (match FC c st I parts.toList I.zero with|some cs=>bB c st o.dst (.ag cs) K|none=>none)
  else (match I.lay with|[.h k n]=>MR c st k n parts.toList (zA n) λx=>bB c st o.dst (.sc (.hs k n x)) K|_=>none))=some r):Rd P c Z K r e a w o (λ_=>True):=by
 have ⟨ng,hc⟩:=a8 hI;have ⟨d,i,h1,h2,h3,h4⟩:=hT t I ng;have hpe:(parts.map λ(i,x)=>(i,a.eval x)).toList=parts.toList.map λp=>(p.1,a.eval p.2):=abu
 have run: ∀out,P.built t (parts.toList.map λp=>(p.1,a.eval p.2))=some out-> ∀w:World,(execOp a.eval o).run P w= .ok (.value (.agg out)) w:=by intro out hb w;have:=run_build (P:=P) w t (parts.map λ(i,x)=>(i,a.eval x)) out (by rw [hpe];exact hb);simp [execOp,ho] at this⊢;simp [this]
 cases fw:I.st with
 |true=>
  simp only [fw,cond_true] at hK;cases d<;>simp only [tt] at h4;case struct fs=>
   have ⟨_,_,_,ho1,dO,ho3,zc,hz,hzl,_⟩:=h4;cases hb:FC c st I parts.toList I.zero with
   |none=>grind
   |some cs=>
    simp only [hb] at hK;have ayB: ∃places,fs.toList.mapM (λf=>(P.info? f.type).map λi=>(f.offset,i.size))=some places/\ (∀(i q y:Nat) (J:TI),I.xx[i]? =some q->I.acV[i]? =some y->c.tv y=some J->places[i]? =some (q,J.size)/\0<J.size):=by
     obtain ⟨places,hp1,hp2⟩:=adh P fs.toList (by intro f hf;obtain ⟨k,hk,rfl⟩:=akr.1 hf;have ⟨J,hJ,hJc,_⟩:=ho3 k fs.toList[k] (by grind);have ⟨i,hi,_⟩:=(hT _ J hJ).info hJc;grind);refine ⟨places,hp1,?_⟩;intro i q y J hq hy hJ;rw [<-ho1,afu] at hq;rw [<-dO,afu] at hy;cases hf:fs.toList[i]? with
     |none=>grind
     |some f=>simp [hf] at hq hy;subst hy;have ⟨J2,hJ2,ayC,gq⟩:=ho3 i f (by grind);have ⟨hJt,_⟩:=a8 hJ;rw [hJ2] at hJt;cases hJt;have ⟨i3,hi3,hs3,_⟩:=(hT _ J hJ2).info ayC;grind
    have ⟨places,Zj,Zt⟩:=ayB;have ⟨out,h5,h6⟩:=Zr h Zt (cells:=zc) (nh hzl) hb;refine jN (v:= .agg out) (s:= .ag cs) h (run out ?_) ?_ trivial hK
    .unfold Program.built;simp_all;exact h5
    .simp only [ai];grind
  all_goals grind
 |false=>
  simp only [fw,cond_false] at hK;split at hK
  .rename_i k' m' hl;cases d<;>simp only [tt,hl,fw] at h4<;>first|(exfalso;simp_all;done)|skip
   obtain ⟨_,_,_,rfl,kk,mm,rfl,⟨ie,hu,rG,Aj⟩,B0,_,hz⟩:=h4;simp at B0;have ⟨rfl,rfl⟩:=B0;have ⟨y,h5,h7,h6⟩:=Zs h abu hK;refine jN (v:= .agg (bN k' y).toArray) (s:= .sc (.hs k' m' y)) h (run _ ?_) ?_ trivial h6
   .unfold Program.built;simp_all;exact h5
   simp_all [ai,trivial]
  .simp at hK
def Env.yB (e:Env)(f:Nat)(v:Value)(fo:pC):Env:={e with E:=λg=>if g=f then v else e.E g,m:=dh e.m f fo}
def St.yB (st:St)(f:Nat)(fo:pC):St:={st with fr:=mZ f st.fr,aT:=dh st.aT f fo}
theorem Ja (f:Nat)(s:Slot):cY (GU f s)=cY s:=by cases s<;>simp only [GU,cY];grind
def xQ {f:Nat}{s:Slot}{cs:List aF}(h:GU f s= .box cs): ∃Lv,s= .box Lv/\cs=Lv.map (S3 f):=by
 cases s<;>simp only [GU] at h<;>first|(simp at h;done)|(rename_i g _ _ _ _;cases hb:bD g f<;>simp [hb] at h;done)|skip
 rename_i Lv;simp at h;exact ⟨Lv,rfl,h.symm⟩
theorem bT.jD {f:Nat}{fo:pC} {v':Value}(h:bT c Z e st a w)(Fm:f∉Z.cV)(im:ch c Z.nc e w' v' fo)(aBf:w.heap.size<=w'.heap.size)(cD: ∀b,b<w.heap.size->(∀o,aN st.aT f=some o->(e.E f).ownBlock≠some b)->w'.heap[b]? =w.heap[b]?)(iA: ∀b o v,e.φ b o=some v->w'.cell? ⟨b,o,none⟩=some v)(ml: ∀b,v'.ownBlock=some b->w.heap.size<=b\/ ∃o,aN st.aT f=some o/\(e.E f).ownBlock=some b): bT c Z (e.yB f v' fo) (st.yB f fo) a w':=by
 have vA:ll (· ≠f) (λ_=>True) e (e.yB f v' fo):=by refine ⟨rfl,.refl _,λ_ _=>rfl,λf2 o2 dO eR=> ?_⟩;have dO:aN (dh e.m f fo) f2=some o2:=dO;rw [bt] at dO;simp only [eR,if_false] at dO;exact ⟨o2,dO,by grind [Env.yB],rfl⟩
 have apW: ∀t cs,au st.fr t= .box cs->e.B t<w.heap.size:=by intro t cs ht;have hs:=h.slot t;rw [ht] at hs;obtain ⟨o2,h1,_⟩:=hs.2.obj;exact bx h1
 have yz: ∀t cs,au st.fr t= .box cs->w'.heap[e.B t]? =w.heap[e.B t]? :=by intro t cs ht;exact cD _ (apW t cs ht) (λo ho=>h.bf t cs f o ht ho)
 refine ⟨h.defers,h.size,by show dh e.m f _=dh st.aT f _;rw [h.m],h.key,?_,?_,?_,?_,?_,?_,?_,iA,λb hb=>h.cz b aab⟩
 .show (aS (mZ f st.fr)).Nodup;have:aS (mZ f st.fr)=aS st.fr:=by simp [aS,mZ]
  grind [h.nodup]
 .intro t;show eD Z _ _ t _ (au (mZ f st.fr) t);rw [iX];have hs:=h.slot t;have Mg:=yz t;generalize au st.fr t=s at hs Mg;by_cases YX: ∃cs,s= .box cs
  .obtain ⟨cs,rfl⟩:=YX;refine ⟨hs.1.qe (Zh f _),hs.2.cz,?_,hs.2.free⟩;have ⟨o2,h1,h2⟩:=hs.2.obj;refine ⟨o2,by show w'.heap[e.B t]? =_;grind,?_⟩;refine (h2.map (λ_ _=>bp.kill f) (λ_ _=>rfl)).on vA ?_;grind [I5]
  .have yY:ai e (a.tmps.getD t undef) s:=by cases s<;>simp only [eD] at hs<;>first|exact hs|grind
   have h2:=(yY.kill f).on vA (agl f _ s (dY s));generalize hks:GU f s=s2 at h2;cases s2<;>first|exact h2|grind [ai]
 .intro t;show dE (mZ f st.fr) (au (mZ f st.fr) t);rw [iX];have rO:=h.root t;generalize au st.fr t=s at rO;have hk: ∀q,cY (au (mZ f st.fr) q)=cY (au st.fr q):=(by grind [iX,Ja])
  cases s with
  |ptr q o=>show cY (au (mZ f st.fr) q)=true;rw [hk];exact rO
  |hp q o i=>show cY (au (mZ f st.fr) q)=true;rw [hk];exact rO
  |Cl q=>show cY (au (mZ f st.fr) q)=true;rw [hk];exact rO
  |ep g' _ _ _ _=>simp only [GU];cases bD g' f<;>trivial
  |_=>trivial
 .intro f2 o2 dO;have dO:aN (dh st.aT f fo) f2=some o2:=dO;rw [bt] at dO;by_cases kC:f2=f
  .have:=(im.to Fm).env (e':=e.yB f2 v' fo) rfl rfl;grind [Env.yB]
  .simp only [kC,if_false] at dO;have ⟨I2,yA,h1,h2,h3,h4,h5⟩:=(h.jC f2 o2 dO).row;refine ⟨I2,yA,h1,h2,?_,h4,?_⟩
   .show w'.ownsRow 0 o2.ty I2.size (if f2=f then v' else e.E f2) o2.xs.length yA;rw [if_neg kC];refine ⟨h3.1,?_⟩;rcases h3.2 with h6|⟨g,cap,dp,g1,g2,g3,g4⟩
    .exact .inl h6
    .refine .inr ⟨g,cap,dp,g1,g2,?_,g4⟩;rw [cD g (bx g3) (λo ho hk=>kC (h.ff f2 f o2 o g dO ho (by rw [g1];rfl) hk))];exact g3
   .intro bg hb;have hb:(if f2=f then v' else e.E f2).ownBlock=some bg:=hb;rw [if_neg kC] at hb;exact h5 bg hb
 .intro t t' c1 c2 h1 h2 eR;have h1:au (mZ f st.fr) t= .box c1:=h1;have h2:au (mZ f st.fr) t'= .box c2:=h2;rw [iX] at h1 h2;have ⟨d1,g1,_⟩:=xQ h1;have ⟨d2,g2,_⟩:=xQ h2;exact h.bb t t' d1 d2 g1 g2 eR
 .intro t c1 f2 o2 h1 h2;have h1:au (mZ f st.fr) t= .box c1:=h1;have h2:aN (dh st.aT f fo) f2=some o2:=h2;rw [iX] at h1;rw [bt] at h2;have ⟨d1,g1,_⟩:=xQ h1;show (if f2=f then v' else e.E f2).ownBlock≠some (e.B t);by_cases kC:f2=f
  .rw [if_pos kC];intro hb;rcases ml _ hb with h3|⟨o,h3,h4⟩
   .grind
   .exact h.bf t d1 f o g1 h3 h4
  .rw [if_neg kC];simp only [kC,if_false] at h2;exact h.bf t d1 f2 o2 g1 h2
 .intro f1 f2 o1 o2 k h1 h2 h3 h4;have h1:aN (dh st.aT f fo) f1=some o1:=h1;have h2:aN (dh st.aT f fo) f2=some o2:=h2;have h3:(if f1=f then v' else e.E f1).ownBlock=some k:=h3;have h4:(if f2=f then v' else e.E f2).ownBlock=some k:=h4;rw [bt] at h1 h2;have vP: ∀g og,aN st.aT g=some og->(e.E g).ownBlock=some k->k<w.heap.size:=by
   intro g og hg hk;obtain ⟨I2,yA,_,_,g3,_⟩:=(h.jC g og hg).row;rcases g3.2 with ⟨g5,_⟩|⟨b,cap,dp,g5,_,g6,_⟩
   .grind [AI]
   .grind [AI,AS,bx]
  by_cases hf1:f1=f
  .by_cases Nd:f2=f
   .rw [hf1,Nd]
   .rw [if_pos hf1] at h3;rw [if_neg Nd] at h4;simp only [Nd,if_false] at h2;rcases ml k h3 with h5|⟨o,h5,h6⟩
    .grind
    .exact hf1.trans (h.ff f f2 o o2 k h5 h2 h6 h4)
  .rw [if_neg hf1] at h3;simp only [hf1,if_false] at h1;by_cases Nd:f2=f
   .rw [if_pos Nd] at h4;rcases ml k h4 with h5|⟨o,h5,h6⟩
    .grind
    .exact (h.ff f1 f o1 o k h1 h5 h3 h6).trans Nd.symm
   .rw [if_neg Nd] at h4;simp only [Nd,if_false] at h2;exact h.ff f1 f2 o1 o2 k h1 h2 h3 h4
def pV {f:Nat}{fo:pC}(hK:jD st f fo K=some r):K (st.yB f fo)=some r:=by
 unfold Dn.jD at hK;cases hn:bL st.cV f with
 |true=>grind
 |false=>grind [agi,qp,St.yB]
def bT.npf {f:Nat}{fo:pC}(h:bT c Z e st a w)(hK:Dn.jD st f fo K=some r):f∉Z.cV:=by intro hm;rw [<-h.defers.2.2.1,<-bH] at hm;simp_all [Dn.jD]
def tw {f:Nat}{fo:pC}{v:Value}(h1:v.oneCell'=true):ai (e.yB f v fo) v (.sc (.own f)):=by exact ⟨v,rfl,h1,(by grind [Env.yB])⟩
def kD {t:TypeId}{I:TI}(hr:pU c.ti P t I)(hc:I.cy=[]): ∃i z,P.info? t=some i/\i.size=I.size/\i.bytes=I.bytes/\i.zero=some z/\z.cells.size=I.size:=by
 have ⟨d,i,h1,h2,h3,h4⟩:=hr;have ⟨h5,h6⟩:=h3 hc;cases d<;>simp only [tt] at h4;case struct fs=>grind [IT]
 case tuple ts=>grind
 case slice el=>have ⟨_,_,hs,_,_,hz,_⟩:=h4;exact ⟨i,_,h2,h5,h6,hz,by rw [hs];rfl⟩
 case array n el=>grind [IT,dj]
 case bool=>have ⟨_,_,hs,_,_,hz⟩:=h4;exact ⟨i,_,h2,h5,h6,hz,by rw [hs];rfl⟩
 case int k=>have ⟨_,_,hs,_,_,hz⟩:=h4;exact ⟨i,_,h2,h5,h6,hz,by rw [hs];rfl⟩
 case string=>have ⟨_,_,hs,_,_,b,hz,_⟩:=h4;exact ⟨i,_,h2,h5,h6,hz,by rw [hs];rfl⟩
 all_goals
  have ⟨_,_,hs,_,v,hz,hv,_⟩:=h4;cases v<;>simp_all [IT,By]
structure Src (e:Env) (w:World) (size:Nat) (v:Value) (ys:List MV) (news:List Value):Prop where
 els:bn e.key e.φ size news ys
 val: ∃ad cap,v= .slice ad ys.length cap/\(ad=none->ys=[])/\ ∀x,ad=some x-> ∀(j:Nat) (u:Value),news[j]? =some u->w.cell? (x.add j)=some u
def bn.Cv {key:Nat->Nat} {φ:Ph}{size:Nat}{xs:List MV}: ∀{cs:List Value},bn key φ size cs xs-> ∀u∈cs,u.oneCell'=true:=by
 induction xs with
 |nil=>intro cs h;cases h;simp
 |cons x xs ih=>
  intro cs h u hu;obtain ⟨v,q,rfl,_,h2,h3⟩:=h;rcases ait.1 hu with hu|hu
  .exact h2.cells u hu
  grind
def bn.append {key:Nat->Nat} {φ:Ph}{size:Nat}{xs ys:List MV}: ∀{cs ds:List Value},bn key φ size cs xs->bn key φ size ds ys->bn key φ size (cs++ds) (xs++ys):=by
 induction xs with
 |nil=>intro cs ds h h';cases h;grind
 |cons x xs ih=>intro cs ds h h';obtain ⟨v,q,rfl,h1,h2,h3⟩:=h;exact ⟨v,q++ds,abu,h1,h2,ih h3 h'⟩
def Nf {key:Nat->Nat} {φ:Ph}{size:Nat}{xs:List MV}: ∀{f:Nat->List Value},(∀i,i<xs.length->(f i).length=size)->(∀(i:Nat) (h:i<xs.length),jI key φ (f i) xs[i])-> ∃cs,bn key φ size cs xs/\ ∀(i j:Nat),i<xs.length->j<size->cs[i *size+j]? =(f i)[j]? :=by
 induction xs with
 |nil=>intro f _ _;exact ⟨[],rfl,(by grind)⟩
 |cons x xs ih=>
  intro f h1 h2;have ⟨cs,h3,h4⟩:=ih (f:=λi=>f (i+1)) (by grind) (by grind);have hl:=h1 0 abu;refine ⟨f 0++cs,⟨f 0,cs,rfl,hl,h2 0 abu,h3⟩,?_⟩;intro i j hi hj;cases i with
  |zero=>grind
  |succ i=>grind
def KF {I E:TI}{x:Slot}{v:Value} {K':List MV->Option R}(h:bT c Z e st a w)(hE:c.ti I.elem=some E)(gq:0<E.size)(hx:ai e v x)(hK:SX I E st x K'=some r): ∃ys news,Src e w E.size v ys news/\K' ys=some r:=by
 unfold SX at hK;split at hK
 .rename_i xs;have ⟨hw,hK⟩:=dQ hK;have ⟨_,hx⟩:=hx;generalize hv:[v]=vs at hx;cases hx with
  |list ad cap _ bg off IM f g1 g2 g3 g4 g5=>
  simp at hv;have hes: ∀i,i<xs.length->(f i).length=E.size:=by intro i hi;rw [(g5 i hi).width];exact G8 hw _ (List.getElem_mem hi)
  have ⟨cs,h1,h2⟩:=Nf hes g5;refine ⟨xs,cs,⟨h1,ad,cap,hv,?_,?_⟩,hK⟩
  .intro hn;simp_all
  .intro x hx j u hj;have M7:j<cs.length:=(by grind)
   rw [h1.length] at M7;have Wn:0<xs.length:=by
    cases xs with
    |nil=>simp at M7
    |cons y ys=>simp
   have hq:j/E.size<xs.length:=(Nat.div_lt_iff_lt_mul gq).2 M7;have hm:=Nat.mod_lt j gq;have Ta:j=j/E.size *E.size+j%E.size:=by rw [Nat.mul_comm];exact (Nat.div_add_mod j E.size).symm
   have e1:=h2 (j/E.size) (j%E.size) hq hm;rw [<-Ta,hj] at e1;have agH:IM=E.size:=by rw [<-g3 0 Wn,hes 0 Wn]
   have e2:=g4 (j/E.size) (j%E.size) hq (by rw [agH];exact hm);rw [<-e1,agH,agu,<-Ta] at e2;have:=h.mj _ _ _ e2;grind [afC]
 .have hx:[v]=[aeY none 0 0]:=hx;simp at hx;exact ⟨[],[],⟨rfl,none,0,hx,λ_=>rfl,abu⟩,hK⟩
 .rename_i f;cases hf:aN st.aT f with
  |none=>grind
  |some fo=>
   simp only [hf] at hK;have ⟨hb,hK⟩:=ob hK;have oM:=sh hb;have ⟨hv,_⟩:=uS h hx hf;have ⟨J,cells,hJ,_,eS,kp,_⟩:=(h.jC f fo hf).row;rw [oM,hE] at hJ;cases hJ;refine ⟨fo.xs,cells,⟨kp,?_⟩,hK⟩;rcases eS.2 with ⟨h1,h2⟩|⟨g,cap,dp,h1,_⟩
   .grind
   .refine ⟨some ⟨g,0,none⟩,cap,by rw [hv,h1],abu,?_⟩;intro x hx j u hj;cases hx;exact eS.cells (g:=g) (by rw [h1];rfl) j u hj
 .simp at hK
end
section
variable {P:Program}{c:Ctx}{Z:bC} {e e':Env}{st:St}{a:Act} {w w':World}{R:Type}{K:St->Option R}{r:R}{Q:Exit->Act->World->Prop}{o:Oper}
structure atH (w w':World) (el:TypeId) (size:Nat) (v v':Value) (n m:Nat) (cells news:List Value):Prop where
 own:w'.ownsRow 0 el size v' (n+m) (cells++news)
 size:w.heap.size<=w'.heap.size
 vP: ∀k,k<w.heap.size->some k≠v.ownBlock->w'.heap[k]? =w.heap[k]?
 cell: ∀(k off:Nat) (u:Value),v.ownBlock=some k->off<cells.length->w.cell? ⟨k,off,none⟩=some u->w'.cell? ⟨k,off,none⟩=some u
 place:v'.ownBlock=v.ownBlock\/v'.ownBlock=some w.heap.size
 rest:Rest w w'
structure Apx (P:Program) (w:World) (u el:TypeId) (size:Nat) (x:Value) (m:Nat) (news:List Value):Prop where
 ty:P.underlying u=some (.slice el)\/P.underlying u=some .string
 len:Builtin.lenOf x=pure m
 now:(afF size m x).run P w= .ok news.toArray w
 drew:(afF size m x).run P w.drew= .ok news.toArray w.drew
 one: ∀y∈news,y.oneCell'=true
 nl:news.length=m *size
def Src.apx {ys:List MV}{news:List Value}{x:Value}{u el:TypeId}{size:Nat}(hu:P.underlying u=some (.slice el))(h:Src e w size x ys news):Apx P w u el size x ys.length news:=by
 have ⟨ad,cap,hx,agI,atJ⟩:=h.val;have QA:=h.els.length;subst hx;cases ad with
 |none=>
  have:news=[]:=(by simp_all)
  subst this;exact ⟨.inl hu,rfl,run_firstCells_none w _ _ _ _,run_firstCells_none w.drew _ _ _ _,h.els.Cv,QA⟩
 |some ad=>exact ⟨.inl hu,rfl,run_firstCells_some w _ _ _ _ _ _ QA (atJ ad rfl),run_firstCells_some w.drew _ _ _ _ _ _ QA (by simp_all),h.els.Cv,QA⟩
def Apx.str {u el:TypeId}(hu:P.underlying u=some .string)(b:ByteArray):Apx P w u el 1 (.string b) b.size (b.data.toList.map λx=> .int .u8 (x.toNat:Int)):=by
 have hf: ∀w',(afF 1 b.size (.string b)).run P w'= .ok (b.data.toList.map λx=>akG .u8 (x.toNat:Int)).toArray w':=by
  intro w';have he:b.extract 0 b.size=b:=by apply ByteArray.ext;rw [ahQ];exact (by simp_all)
  simp only [afF,he,Sem.run_pure];congr 1;apply Array.ext';simp
 exact ⟨.inr hu,rfl,hf w,hf w.drew,by simp [By],abu⟩
section
variable {t u ty el:TypeId}{i:TypeInfo}{z x:Value}{m:Nat}{news:List Value}(ht:P.underlying t=some (.slice el))(hi:P.info? el=some i)(hz:i.zero=some z)(hx:Apx P w u el i.size x m news)
include ht hi hx
def alb (h0:m=0):(OF #[t,u] ty #[.slice none 0 0,x]).run P w= .ok (.slice none 0 0) w:=by subst h0;have hn:=hx.now;have hl:=hx.len;rcases hx.ty with hu|hu<;>simp [OF,run_underlying ht,run_underlying hu,afv,typeInfo,hi,hl,hn]
def alc {g r9 B2:Nat}{dp:Array Value}(hg:w.heap[g]? =some (.cells dp el (0,0)))(xR:r9+m<=B2)(EO:r9 *i.size+news.length<=dp.size): (OF #[t,u] ty #[.slice (some ⟨g,0,none⟩) r9 B2,x]).run P w= .ok (.slice (some ⟨g,0,none⟩) (r9+m) B2) (w.setRow g (dp.toList.take (r9 *i.size)++news++dp.toList.drop (r9 *i.size+news.length)).toArray):=by have fw:=run_storeCells_at P g (r9 *i.size) el news 0 dp w hg (by grind) hx.one;simp only [akC] at fw;have hn:=hx.now;have hl:=hx.len;rcases hx.ty with hu|hu<;>simp [OF,run_underlying ht,run_underlying hu,afv,typeInfo,hi,hl,xR,hn,Addr.add_lit,fw]
include hz
def agJ (h0:0<m)(h63:(m:Int)<=9223372036854775807)(h48:m *i.bytes<=281474976710656): (OF #[t,u] ty #[.slice none 0 0,x]).run P w= .ok (.slice (some ⟨w.heap.size,0,none⟩) m (grownCap w m 0 el)) (w.drew.alloc (.cells (news.toArray++afN z.cells (grownCap w m 0 el-m)) el)):=by
 have eR:m≠0:=aab
 have apX: ¬(9223372036854775807<(m:Int)):=aab
 have apY: ¬(281474976710656<agx m 0 *i.bytes):=by rw [nextslicecap_zero h0];omega
 have hn:=hx.drew;have hl:=hx.len;rcases hx.ty with hu|hu<;>simp [OF,run_underlying ht,run_underlying hu,afv,typeInfo,zeroValue,hi,hz,hl,eR,apX,apY,Question.forced,run_firstCells_none,hn,newRow,grownCap]
def abx {b:Addr}{r9 B2:Nat}{ald:List Value}(hlo:ald.length=r9 *i.size)(holds: ∀j v,ald[j]? =some v->w.cell? (b.add j)=some v)(hg:B2<r9+m)(h63:((r9+m:Nat):Int)<=9223372036854775807)(EO:agx (r9+m) B2 *i.bytes<=281474976710656): (OF #[t,u] ty #[.slice (some b) r9 B2,x]).run P w= .ok (.slice (some ⟨w.heap.size,0,none⟩) (r9+m) (grownCap w (r9+m) B2 el)) (w.drew.alloc (.cells (ald.toArray++news.toArray++afN z.cells (grownCap w (r9+m) B2 el-(r9+m))) el)):=by
 have eR: ¬(r9+m<=B2):=aab
 have apX: ¬(9223372036854775807<((r9:Int)+(m:Int))):=aab
 have apY: ¬(281474976710656<agx (r9+m) B2 *i.bytes):=aab
 have hfo:=run_firstCells_some (P:=P) w.drew i.size r9 b r9 B2 ald hlo (by simp_all);have hn:=hx.drew;have hl:=hx.len;rcases hx.ty with hu|hu<;>(simp [OF,run_underlying ht,run_underlying hu,afv,typeInfo,zeroValue,hi,hz,hl,eR,apX,apY,Question.forced,hn,hfo,newRow,grownCap];grind)
end
theorem FN {t u ty:TypeId}{I E:TI}{v x:Value}{n m:Nat}{cells news:List Value}(hu:P.underlying t=some (.slice I.elem))(hE:c.ti I.elem=some E)(pg:E.cy=[])(gq:0<E.size)(hT:iz P c.ti)(uU:1<=E.bytes)(eS:w.ownsRow 0 I.elem E.size v n cells)(hx:Apx P w u I.elem E.size x m news)(qg:(n+m) *E.bytes<=2^46): ∃v' w',(OF #[t,u] ty #[v,x]).run P w= .ok v' w'/\atH w w' I.elem E.size v v' n m cells news:=by
 have ⟨i,z,hi,hs,hby,hz,Tb⟩:=kD (hT _ E hE) pg;rw [<-hs] at hx eS Tb gq⊢;rw [<-hby] at qg uU;have hle:n+m<=2^46:=afI (afG _ uU) qg;have hml:n+m<=akx:=by unfold akx;omega
 have QA:=hx.nl;have hlen:(cells++news).length=(n+m) *i.size:=by rw [No,eS.1,QA,ag7]
 have grown: ∀(vP:Nat),vP<n+m-> (w.drew.alloc (.cells (cells.toArray++news.toArray++afN z.cells (grownCap w (n+m) vP I.elem-(n+m))) I.elem)).ownsRow 0 I.elem i.size (.slice (some ⟨w.heap.size,0,none⟩) (n+m) (grownCap w (n+m) vP I.elem)) (n+m) (cells++news):=by
  intro vP ho;refine ⟨hlen,.inr ⟨w.heap.size,_,_,rfl,akv _,ju w.drew _,grownCap_ge w (n+m) vP I.elem,grownCap_le_maxLen w (n+m) vP I.elem hml,?_,?_⟩⟩
  .have hge:=grownCap_ge w (n+m) vP I.elem;simp only [akE,akF,size_zeroCells,Tb,eS.1,QA,<-ag7];grind
  .grind
 have rest: ∀cs:Array Value,Rest w (w.drew.alloc (.cells cs I.elem)):=λcs=>⟨rfl,rfl,rfl⟩
 rcases eS.2 with ⟨rfl,rfl⟩|⟨g,cap,dp,rfl,_,hg,Zu,Ls,Ci,YW⟩
 .have hcn:cells=[]:=(by simp_all)
  subst hcn;by_cases hm:m=0
  .have hnn:news=[]:=(by simp_all)
   refine ⟨_,_,alb hu hi hx hm,⟨?_,ac4 _,λ_ _ _=>rfl,(by grind),.inl rfl,.refl _⟩⟩;grind
  .simp at qg hle hml;have hr:=agJ (ty:=ty) hu hi hz hx aab aab aab;have hgr:=grown 0 aab;exact ⟨_,_,hr,⟨by simpa using hgr,abu,λk hk _=>qn w.drew _ k hk,(λ_ _ _ hk=>by cases hk),.inr rfl,rest _⟩⟩
 .by_cases xR:n+m<=cap
  .have EO:n *i.size+news.length<=dp.size:=by rw [QA,Ci,<-ag7];exact aft _ xR
   have hr:=alc (ty:=ty) hu hi hx hg xR EO;have agL:=setRow_heap w g dp (dp.toList.take (n *i.size)++news++dp.toList.drop (n *i.size+news.length)).toArray I.elem _ hg;refine ⟨_,_,hr,⟨⟨hlen,.inr ⟨g,cap,_,rfl,akv _,agL,xR,Ls,?_,?_⟩⟩,abu,λk _ hk=>setRow_other w g k _ (λhe=>hk (by simp [AI,he])),?_,.inl rfl,Rest.setRow w g _⟩⟩
   .simp;omega
   .rw [YW,<-hlen];exact akt
   .intro k off y hk ac9 hc;have hkg:k=g:=by simp [AI] at hk;exact hk.symm
    subst hkg;rw [cell_of hg] at hc;rw [cell_of agL];grind
  .have holds: ∀j y,cells[j]? =some y->w.cell? ((⟨g,0,none⟩:Addr).add j)=some y:=eS.cells (g:=g) rfl;have hr:=abx (ty:=ty) (B2:=cap) hu hi hz hx eS.1 holds aab aab (growslice_fits aab aab);refine ⟨_,_,hr,⟨grown cap aab,abu,λk hk _=>qn w.drew _ k hk,?_,.inr rfl,rest _⟩⟩;intro k off y hk ac9 hc;have hkg:k=g:=by simp [AI] at hk;exact hk.symm
   subst hkg;rw [afz (qn w.drew _ k (bx hg))];exact hc
def Wo {t u ty:TypeId}{I E:TI}{ad:Option Addr}{x:Value}{n m:Nat}{cells news:List Value}(hu:P.underlying t=some (.slice I.elem))(hE:c.ti I.elem=some E)(pg:E.cy=[])(hT:iz P c.ti)(uU:1<=E.bytes)(ER:cells.length=n *E.size)(ale:ad=none->n=0)(bN: ∀y,ad=some y-> ∀(j:Nat)(v:Value),cells[j]? =some v->w.cell? (y.add j)=some v)(hx:Apx P w u I.elem E.size x m news)(hm:0<m)(qg:(n+m) *E.bytes<=2^46): ∃v' w',(OF #[t,u] ty #[.slice ad n n,x]).run P w= .ok v' w'/\w'.ownsRow 0 I.elem E.size v' (n+m) (cells++news)/\v'.ownBlock=some w.heap.size/\dk w w':=by
 have ⟨i,z,hi,hs,hby,hz,Tb⟩:=kD (hT _ E hE) pg;rw [<-hs] at hx ER Tb⊢;rw [<-hby] at qg uU;have hle:n+m<=2^46:=afI (afG _ uU) qg;have hml:n+m<=akx:=by unfold akx;omega
 have QA:=hx.nl;have hlen:(cells++news).length=(n+m) *i.size:=by rw [No,ER,QA,ag7]
 have grown: ∀(vP:Nat),vP<n+m-> (w.drew.alloc (.cells (cells.toArray++news.toArray++afN z.cells (grownCap w (n+m) vP I.elem-(n+m))) I.elem)).ownsRow 0 I.elem i.size (.slice (some ⟨w.heap.size,0,none⟩) (n+m) (grownCap w (n+m) vP I.elem)) (n+m) (cells++news):=by
  intro vP ho;refine ⟨hlen,.inr ⟨w.heap.size,_,_,rfl,akv _,ju w.drew _,grownCap_ge w (n+m) vP I.elem,grownCap_le_maxLen w (n+m) vP I.elem hml,?_,?_⟩⟩
  .have hge:=grownCap_ge w (n+m) vP I.elem;simp only [akE,akF,size_zeroCells,Tb,ER,QA,<-ag7];grind
  .grind
 have rest: ∀cs:Array Value,Rest w (w.drew.alloc (.cells cs I.elem)):=λcs=>⟨rfl,rfl,rfl⟩
 have hgr: ∀cs:Array Value,dk w (w.drew.alloc (.cells cs I.elem)):=λcs=>⟨abu,λk hk=>qn w.drew _ k hk,rest cs⟩
 cases ad with
 |none=>
  have hn:=ale rfl;subst hn;have hcn:cells=[]:=(by grind)
  subst hcn;simp at qg hle hml;have hr:=agJ (ty:=ty) hu hi hz hx aab aab aab;have hg2:=grown 0 aab;exact ⟨_,_,hr,by simpa using hg2,rfl,hgr _⟩
 |some b=>have hr:=abx (ty:=ty) (B2:=n) hu hi hz hx ER (λj v hj=>bN b rfl j v hj) aab aab (growslice_fits aab aab);exact ⟨_,_,hr,grown n aab,rfl,hgr _⟩
end
section
variable {P:Program}{c:Ctx}{Z:bC}{e e':Env}{st:St}{a:Act}{w w':World}{R:Type}{K:St->Option R}{r:R}{Q:Exit->Act->World->Prop}{o:Oper}
def vR {base:Nat}{t:TypeId}{size n:Nat}{v:Value}{xs:List Value}(h:w.ownsRow base t size v n xs):v.oneCell'=true:=by rcases h.2 with ⟨rfl,_⟩|⟨g,cap,dp,rfl,_⟩<;>rfl
def Tc {E:TI}{t:TypeId}(hr:pU c.ti P t E)(h:acW E=true):P.underlying t=some (.int .u8)/\E.size=1:=by
 unfold acW at h;split at h
 .rename_i k fw hl;have:=of_decide_eq_true h;subst this;have ⟨d,i,h1,h2,h3,h4⟩:=hr;cases d<;>simp only [tt,hl,fw] at h4<;>first|(exfalso;simp_all;done)|skip
  have ⟨_,_,h5,h6,_⟩:=h4;simp at h6;subst h6;exact ⟨h1,h5⟩
 .cases h
theorem Td {key:Nat->Nat} {φ:Ph}: ∀l:List UInt8,bn key φ 1 (l.map λx=>akG .u8 (x.toNat:Int)) (MQ l)
 |[]=>rfl
 |b::l=>⟨[.int .u8 (b.toNat:Int)],_,rfl,rfl,.i .u8 _,Td l⟩
theorem Wp {cl:Call}{s x:Operand}{t u:TypeId}{I E:TI}{ys:List MV}{news:List Value}(ho:o.op= .call cl)(hb:cl.callee= .builtin .append)(ha:cl.args.toList=[s,x])(Qz:cl.argTypes.toList=[t,u])(hI:c.tv t=some I)(hL:I.IK=true)(hE:c.tv I.elem=some E)(hT:iz P c.ti)(h:bT c Z e st a w)(Cw:Apx P w u I.elem E.size (a.eval x) ys.length news)(ml:bn e.key e.φ E.size news ys)(hK:acX (bL c.bs (o.dst.getD 0)) (o.dst.getD 0) st I E (aP c st s) ys (λsl st=>bB c st o.dst sl K)=some r):o.wp P a w (Out c Z K r e.φ w) Q:=by
 obtain ⟨ng,hc⟩:=a8 hI;obtain ⟨mT,pg⟩:=a8 hE;obtain ⟨hu,E2,GV,_,gq⟩:=TI.mn (hT t I ng) hL;rw [mT] at GV;cases GV;have ha':cl.args= #[s,x]:=by rw [<-afA,ha]
 have atM:cl.argTypes= #[t,u]:=by rw [<-afA,Qz]
 obtain ⟨hs,_⟩:=h.eval s;have go: ∀(pb:Bool) (f:Nat) (iw:Bool) (xs:List MV) (cells:List Value),1<=E.bytes->(xs.length+ys.length) *E.bytes<=2^46->w.ownsRow 0 I.elem E.size (a.eval s) xs.length cells->bn e.key e.φ E.size cells xs-> (∀bg,(a.eval s).ownBlock=some bg->((f∈Z.cV/\Z.Pr bg)\/Z.In bg)/\(∃o,aN st.aT f=some o/\(e.E f).ownBlock=some bg)/\ ∀off u,e.φ bg off=some u->iw=true/\off<xs.length *E.size)-> jD st f ⟨I.elem,iw,xs++ys⟩ (λst=>bif pb then mU st (.own f) λm st=>bB c st o.dst (.sc (.p m)) K else bB c st o.dst (.sc (.own f)) K)=some r->o.wp P a w (Out c Z K r e.φ w) Q:=by
  intro pb f iw xs cells uU qg eS kp agr hK;obtain ⟨v',w',bU,y7⟩:=FN (P:=P) (ty:=o.type) hu mT pg gq hT uU eS Cw qg;have hlen:cells.length=xs.length *E.size:=kp.length;have Fm:=h.npf hK;have hK:=pV hK;have im:ch c Z.nc e w' v' ⟨I.elem,iw,xs++ys⟩:=by
   refine ⟨E,cells++news,mT,pg,by grind [y7.own],kp.append ml,?_⟩;intro bg qf;rcases y7.place with h1|h1
   .rw [h1] at qf;have ⟨h2,_,h3⟩:=agr bg qf;refine ⟨YS h2 Fm,λoff u hu=> ?_,λhc=>ags hc⟩;have ⟨h4,h5⟩:=h3 off u hu;refine ⟨h4,akA h5 ?_⟩;simp_all [No,aft,Nat.le_add_right]
   .rw [h1] at qf;cases qf;refine ⟨h.cz _ (ac4 _),λoff u hu=> ?_,λhc=>ags hc⟩;have:=ab2 w _ (h.mj _ _ _ hu);simp at this
  have nm:=h.jD (f:=f) Fm im y7.size (λb KG eR=>y7.vP b KG (by grind)) (λb off u hu=>by
    have hc0:=h.mj b off u hu;by_cases hk:(a.eval s).ownBlock=some b
    .exact y7.cell b off u hk (by grind) hc0
    .rw [afz (y7.vP b (ab2 w _ hc0) (λLw=>hk Lw.symm))];exact hc0)
   (λb qf=>by rcases y7.place with h1|h1;all_goals grind)
  have hx:(execOp a.eval o).run P w= .ok (.value v') w':=by simp [execOp,ho,resolve,hb,invoke,builtin,ha',atM,bU]
  have Cj:Trans Z e.φ w e.φ w':=⟨.refl _,λb hz KG=>y7.vP b KG (by grind),λ_ _ _=>rfl,y7.size,y7.rest⟩
  cases pb with
  |false=>exact fin (v:=v') (s:= .sc (.own f)) hx nm Cj (.of (tw (vR y7.own)) trivial) hK
  |true=>
   simp at hK;have hl:bp (e.yB f v' ⟨I.elem,iw,xs++ys⟩) [v'] (.own f):=tw (vR y7.own);have ⟨e3,mr,m,k1,k2,_,k4,hK,_,k7,k8⟩:=ni (l:= .own f) nm (vs:=[v']) hl hK;have hm:m.one=true:=(by grind)
   exact fin (v:=v') (s:= .sc (.p m)) hx k1 (Cj.trans k2.tr) (.of (s:= .sc (.p m)) (by exact ⟨hm,k4⟩) trivial) hK
 generalize aP c st s=ss at hs hK;unfold acX at hK;cases uU:aec 1 E.bytes with
 |false=>grind
 |true=>
  simp only [uU,cond_true] at hK;have uU:=afy uU;split at hK
  .have ⟨qg,hK⟩:=dQ hK;have hs:[a.eval s]=[aeY none 0 0]:=hs;simp at hs;refine go false (o.dst.getD 0) false [] [] uU (by grind) (by rw [hs];exact World.ownsRow_nil w 0 I.elem E.size) rfl ?_ (by grind);grind [AI]
  .rename_i f;cases hf:aN st.aT f with
   |none=>grind
   |some fo=>simp only [hf] at hK;have ⟨qg,hK⟩:=dQ hK;have qg:=of_decide_eq_true qg;have ⟨oM,hK⟩:=ob hK;have oM:=sh oM;have ⟨hv,_⟩:=uS h hs hf;have ⟨J,cells,hJ,_,eS,kp,h5⟩:=(h.jC f fo hf).row;rw [oM,mT] at hJ;cases hJ;refine go (bL c.bs (o.dst.getD 0)) f fo.iw fo.xs cells uU qg (by grind) kp ?_ (by grind);intro bg qf;rw [hv] at qf;exact ⟨(h5 bg qf).1,⟨fo,hf,qf⟩,(h5 bg qf).2.1⟩
  .rename_i xs;have ⟨hw,hK⟩:=dQ hK;have ⟨qg,hK⟩:=dQ hK;have ⟨hm,qg⟩:=of_decide_eq_true qg;have ⟨_,hs⟩:=hs;generalize hv:[a.eval s]=vs at hs;cases hs with
   |clip ad _ hl=>
   simp at hv;have rK:ai e (a.eval s) (.sc (.p (.list xs))):=by simp only [ai,bp];rw [hv];exact ⟨rfl,hl⟩
   have ⟨ys',cells,hsr,hy⟩:=KF (I:=I) (K':=some) (r:=xs) h mT gq rK (by show bS (oL E.size xs) (some xs)=some xs;rw [hw];rfl);cases hy;have ⟨ad',agw,hv2,YU,Nb⟩:=hsr.val;rw [hv] at hv2;simp only [Value.slice.injEq] at hv2;have ⟨rfl,_,_⟩:=hv2;have ⟨v',w',bU,eS,qf,hg⟩:=Wo (P:=P) (ty:=o.type) hu mT pg hT uU hsr.els.length (by grind) Nb Cw hm qg;have Fm:=h.npf hK;have hK:=pV hK;have im:ch c Z.nc e w' v' ⟨I.elem,false,xs++ys⟩:=by refine ⟨E,cells++news,mT,pg,by grind,hsr.els.append ml,?_⟩;intro bg B3;rw [qf] at B3;cases B3;refine ⟨h.cz _ (ac4 _),λoff u hu=> ?_,λhc=>ags hc⟩;have:=ab2 w _ (h.mj _ _ _ hu);simp at this
   have nm:=h.jD (f:=o.dst.getD 0) Fm im hg.size (λb KG _=>hg.vP b KG) (λb off u hu=>hg.cell (h.mj b off u hu)) (by grind);have hx:(execOp a.eval o).run P w= .ok (.value v') w':=by simp [execOp,ho,resolve,hb,invoke,builtin,ha',atM,hv,bU]
   cases VN:bL c.bs (o.dst.getD 0) with
   |false=>simp only [VN,cond_false] at hK;exact fin (v:=v') (s:= .sc (.own (o.dst.getD 0))) hx nm (hg.trans h.cz _) (.of (tw (vR eS)) trivial) hK
   |true=>
    simp only [VN,cond_true] at hK;have hl:bp (e.yB (o.dst.getD 0) v' ⟨I.elem,false,xs++ys⟩) [v'] (.own (o.dst.getD 0)):=tw (vR eS);have ⟨e3,mr,m,k1,k2,_,k4,hK,_,k7,k8⟩:=ni (l:= .own (o.dst.getD 0)) nm (vs:=[v']) hl hK;have hm:m.one=true:=(by grind)
    exact fin (v:=v') (s:= .sc (.p m)) hx k1 ((hg.trans h.cz _).trans k2.tr) (.of (s:= .sc (.p m)) (by exact ⟨hm,k4⟩) trivial) hK
  .simp at hK
theorem adj {cl:Call}{s x:Operand}{t u:TypeId}{I E:TI}(ho:o.op= .call cl)(hb:cl.callee= .builtin .append)(ha:cl.args.toList=[s,x])(Qz:cl.argTypes.toList=[t,u])(hI:c.tv t=some I)(hL:I.IK=true)(hE:c.tv I.elem=some E)(hT:iz P c.ti)(h:bT c Z e st a w)(hK:(bif bD t u then SX I E st (aP c st x) λys=>acX (bL c.bs (o.dst.getD 0)) (o.dst.getD 0) st I E (aP c st s) ys (λsl st=>bB c st o.dst sl K)
  else Y4 c u E (aP c st x) λys=>acX (bL c.bs (o.dst.getD 0)) (o.dst.getD 0) st I E (aP c st s) ys (λsl st=>bB c st o.dst sl K))=some r):o.wp P a w (Out c Z K r e.φ w) Q:=by
 have ⟨ng,_⟩:=a8 hI;have ⟨mT,_⟩:=a8 hE;have ⟨hu,E2,GV,_,gq⟩:=TI.mn (hT t I ng) hL;rw [mT] at GV;cases GV;have ⟨hx,_⟩:=h.eval x;cases B3:bD t u with
 |true=>simp only [B3,cond_true] at hK;obtain rfl:=sh B3;have ⟨ys,news,Cw,hK⟩:=KF h mT gq hx hK;exact Wp ho hb ha Qz hI hL hE hT h (Cw.apx hu) Cw.els hK
 |false=>
  simp only [B3,cond_false] at hK;unfold Y4 at hK;split at hK
  .rename_i T l hTu Zq;have ⟨hSU,hK⟩:=ob hK;simp at hSU;have ⟨hTi,_⟩:=a8 hTu;have hd:=TI.I8 (hT u T hTi) hSU.1;have ⟨he,yS⟩:=Tc (hT _ E mT) hSU.2;rw [Zq] at hx;obtain ⟨b,hb3,rfl⟩:=G7 hx;refine Wp ho hb ha Qz hI hL hE hT h (news:=b.data.toList.map λx=> .int .u8 (x.toNat:Int)) ?_ ?_ hK
   .rw [yS,hb3];have:=Apx.str (w:=w) (el:=I.elem) hd b;rwa [show (MQ b.data.toList).length=b.size by simp_all [MQ,List.length_map]]
   grind [Td]
  .cases hK
def bT.an8 {φ':Ph}(h:bT c Z e st a w)(hle:iZ e.φ φ')(iA: ∀b o v,φ' b o=some v->w.cell? ⟨b,o,none⟩=some v)(yz: ∀t cs,au st.fr t= .box cs-> ∀off,φ' (e.B t) off=e.φ (e.B t) off)(im: ∀f o b,aN st.aT f=some o->(e.E f).ownBlock=some b-> ∀off,φ' b off=e.φ b off): bT c Z {e with φ:=φ'} st a w:=by
 have vA:ll (λ_=>True) (λ_=>True) e {e with φ:=φ'}:=⟨rfl,hle,λ_ _=>rfl,(by grind)⟩
 refine ⟨h.defers,h.size,h.m,h.key,h.nodup,?_,h.root,?_,h.bb,h.bf,h.ff,iA,h.cz⟩
 .intro t;have hs:=h.slot t;have hb:=yz t;show eD Z _ w t _ (au st.fr t);generalize au st.fr t=s at hs hb;cases s<;>simp only [eD] at hs⊢ <;>try exact hs.on vA (dY _)
  rename_i cs;refine ⟨hs.1,hs.2.cz,?_,λoff=>by show φ' (e.B t) off=none;rw [hb cs rfl];exact hs.2.free off⟩;obtain ⟨o2,h1,h2⟩:=hs.2.obj;exact ⟨o2,h1,h2.on vA (λl _ f _=>trivial)⟩
 .intro f o ho;obtain ⟨I,cells,h1,h2,h3,h4,h5⟩:=(h.jC f o ho).row;refine ⟨I,cells,h1,h2,h3,h4.mono hle,λbg hb=>⟨(h5 bg hb).1,λoff u hu=>(h5 bg hb).2.1 off u ?_,λg1 g2 j hj=>hle.G0 ((h5 bg hb).2.2 g1 g2 j hj) hj⟩⟩;have hu:φ' bg off=some u:=hu;rw [im f o bg ho hb] at hu;exact hu
theorem cQ.cells {key:Nat->Nat} {φ:Ph}{v:Value}{m:MV}(h:cQ key φ v m):jI key φ v.cells.toList m:=by
 have one:m.one=true->jI key φ [v] m->jI key φ v.cells.toList m:=by
  intro h1 h2;have:=h2.cells v abu;have hv:v.cells.toList=[v]:=by cases v<;>simp_all [IT,By]
  rw [hv];exact h2
 cases m<;>simp only [cQ] at h<;>first|exact one h.1 h.2|skip
 .obtain ⟨rfl,h⟩:=h;simpa [IT] using jI.h _ _ _ h
 .obtain ⟨arr,rfl,h⟩:=h;exact .agg _ _ (by grind [IT])
def adk {parts:List (Nat×Operand)}: ∀{e:Env} {st:St} {n:Nat} {K':List MV->St->Option R},bT c Z e st a w->afU c st parts n K'=some r-> ∃e' cj ms,bT c Z e' cj a w/\Ext Z e e'/\bj e'.key e'.φ (parts.map λp=>a.eval p.2) ms/\K' ms cj=some r/\parts.map (λp=>(p.1,a.eval p.2))=((parts.map λp=>a.eval p.2).zipIdx n).map (λx=>(x.2,x.1)):=by
 induction parts with
 |nil=>intro e st n K' h hK;exact ⟨e,st,[],h,.refl _ _,rfl,hK,rfl⟩
 |cons p ps ih=>
  intro e st n K' h hK;obtain ⟨i,x⟩:=p;simp only [afU] at hK;obtain ⟨hi,hK⟩:=ob hK;have Am:=sh hi;subst Am;obtain ⟨e1,aZ,m,q1,q2,q3,q4,q5⟩:=nj h (h.eval x).1 hK;obtain ⟨e2,eG,ms,p1,p2,p4,p5,p6⟩:=ih q1 q5;refine ⟨e2,eG,m::ms,p1,q2.trans p2,⟨_,_,rfl,?_,p4⟩,p5,?_⟩
  .have:=q4.mono p2.on.φ;grind [p2.on.key]
  simp_all
def QB {key:Nat->Nat} {φ:Ph}{size:Nat}{ms:List MV}: ∀{vs:List Value},bj key φ vs ms->oL size ms=true->bn key φ size (vs.flatMap λv=>v.cells.toList) ms/\vs.length=ms.length/\ ∀v∈vs,v.cells.size=size:=by
 induction ms with
 |nil=>intro vs h _;cases h;exact ⟨rfl,rfl,abu⟩
 |cons m ms ih=>
  intro vs h hw;obtain ⟨v,u,rfl,h1,h2⟩:=h;have hm:=G8 hw m abu;have hw2:oL size ms=true:=by unfold oL at hw⊢;simp only [List.all_cons,AT] at hw;exact hw.2
  obtain ⟨h3,h4,h5⟩:=ih h2 hw2;have hl:v.cells.toList.length=size:=by rw [h1.cells.width,hm]
  refine ⟨⟨v.cells.toList,_,rfl,hl,h1.cells,h3⟩,by simp [h4],?_⟩;grind
def Te {t:TypeId}{I E:TI}{vs:List Value}{parts:Array (Nat×Value)}(hu:P.underlying t=some (.slice I.elem))(hE:c.ti I.elem=some E)(pg:E.cy=[])(gq:0<E.size)(hT:iz P c.ti)(qg:vs.length *E.size<=16777216)(hv: ∀v∈vs,v.cells.size=E.size)(hp:parts.toList=(vs.zipIdx 0).map λx=>(x.2,x.1)): (Instr.buildSlice t vs.length parts).run P w= .ok (.slice (some ⟨w.heap.size,0,none⟩) vs.length vs.length) (w.alloc (.cells (vs.flatMap λv=>v.cells.toList).toArray I.elem)):=by
 have ⟨i,z,hi,hs,hby,hz,Tb⟩:=kD (hT _ E hE) pg;by_cases h0:vs.length=0
 .have EN:=afB h0;subst EN;have hp':parts= #[]:=by rw [<-afA,hp];rfl
  simp [Instr.buildSlice,run_underlying hu,afv,typeInfo,hi,hp',agM,newRow,alu];grind
 .have eR: ¬vs.length *i.size=0:=by rw [hs];exact Nat.mul_ne_zero h0 aab
  refine run_buildSlice w t I.elem vs.length parts _ i z hu hi hz (by grind) eR ?_;grind [Go.Great.fill_whole]
def aby {key:Nat->Nat} {φ:Ph}{size cap bg:Nat}{xs:List MV}{cells:List Value}(h:bn key φ size cells xs)(FM:xs.length<=cap)(hp: ∀off,off<cells.length->φ bg off=cells[off]?): jI key φ [.slice (some ⟨bg,0,none⟩) xs.length cap] (.list xs):=by
 have Zp: ∀i (hi:i<xs.length),∃v1,v1.length=size/\jI key φ v1 xs[i]/\(cells.drop (i *size)).take size=v1:=by intro i hi;obtain ⟨p1,v1,p2,he,I7,xO,fG⟩:=h.at (BY hi);refine ⟨v1,xO,fG,?_⟩;rw [he,IN,<-I7,aks,<-xO,akt]
 refine .list (some ⟨bg,0,none⟩) cap xs bg 0 size (λi=>(cells.drop (i *size)).take size) FM (λ_=>rfl) ?_ ?_ ?_;all_goals grind
theorem QC {t:TypeId}{n:Nat}{parts:Array (Nat×Operand)}{I E:TI}(ho:o.op= .buildSlice t n parts)(hI:c.tv t=some I)(hL:I.IK=true)(hE:c.tv I.elem=some E)(hT:iz P c.ti)(h:bT c Z e st a w)(qg:aec (n *E.size) 16777216=true)(hK:afU c st parts.toList 0 (λms st=>bif bD ms.length n then bS (oL E.size ms) (bif bL c.bs (o.dst.getD 0) then bB c st o.dst (.sc (.p (.list ms))) K else jD st (o.dst.getD 0) ⟨I.elem,false,ms⟩ λst=>bB c st o.dst (.sc (.own (o.dst.getD 0))) K) else none)=some r): o.wp P a w (λa' w'=>dk w w'/\Out c Z K r e.φ w a' w') Q:=by
 have ⟨ng,hc⟩:=a8 hI;have ⟨mT,pg⟩:=a8 hE;have ⟨hu,E2,GV,_,gq⟩:=TI.mn (hT t I ng) hL;rw [mT] at GV;cases GV;have ⟨e1,aZ,ms,Aj,M9,dx,hK,apZ⟩:=adk h hK;have ⟨hn,hK⟩:=ob hK;have hn:=sh hn;have ⟨hw,hK⟩:=dQ hK;have ⟨kp,hlen,Ci⟩:=QB dx hw;generalize EN:parts.toList.map (λp=>a.eval p.2)=vs at dx apZ kp hlen Ci;have qg:=afy qg;have bU:=Te (P:=P) (c:=c) (w:=w) (t:=t) (I:=I) (vs:=vs) (parts:=parts.map λ(i,x)=>(i,a.eval x)) hu mT pg gq hT (by grind) Ci (by simp_all);have an9:(execOp a.eval o).run P w= .ok (.value (.slice (some ⟨w.heap.size,0,none⟩) vs.length vs.length)) (w.alloc (.cells (vs.flatMap λv=>v.cells.toList).toArray I.elem)):=by rw [hlen,hn] at bU⊢;simp [execOp,ho] at bU⊢;simp [bU]
 have hg:dk w (w.alloc (.cells (vs.flatMap λv=>v.cells.toList).toArray I.elem)):= .alloc w _ _;have agI: ∀off,e1.φ w.heap.size off=none:=by
  intro off;cases hp:e1.φ w.heap.size off with
  |none=>rfl
  |some u=>have:=ab2 w _ (Aj.mj _ _ _ hp);simp at this
 have aoa:(vs.flatMap λv=>v.cells.toList).length=ms.length *E.size:=kp.length;have FM:ms.length<=16777216:=afI (afG _ gq) (by grind);cases hb:bL c.bs (o.dst.getD 0) with
 |false=>
  simp only [hb,cond_false] at hK;have Fm:=Aj.npf hK;have hK:=pV hK;have im:ch c Z.nc e1 (w.alloc (.cells (vs.flatMap λv=>v.cells.toList).toArray I.elem)) (.slice (some ⟨w.heap.size,0,none⟩) vs.length vs.length) ⟨I.elem,false,ms⟩:=by
   refine ⟨E,_,mT,pg,⟨aoa,.inr ⟨w.heap.size,vs.length,_,by rw [hlen],akv _,ju w _,by grind,by grind [akx],?_,?_⟩⟩,kp,?_⟩
   .grind
   .grind
   .intro bg qf;simp [AI] at qf;subst qf;refine ⟨Aj.cz _ (ac4 _),(by grind),λhc=>ags hc⟩
  have nm:=Aj.jD (f:=o.dst.getD 0) Fm im hg.size (λb KG _=>hg.vP b KG) (λb off u hu=>hg.cell (Aj.mj b off u hu)) (by grind [AI]);exact Zk (s:= .sc (.own (o.dst.getD 0))) hg an9 nm (M9.tr.trans (hg.trans Aj.cz _)) (.of (tw rfl) trivial) hK
 |true=>
  simp only [hb,cond_true] at hK;generalize hfl:(vs.flatMap λv=>v.cells.toList)=flat at *;have hle:iZ e1.φ (λb off=>if b=w.heap.size/\off<flat.length then flat[off]? else e1.φ b off):=by
   intro b off u hu;by_cases VN:b=w.heap.size
   .grind
   .grind
  have iA: ∀b off u,(λb off=>if b=w.heap.size/\off<flat.length then flat[off]? else e1.φ b off) b off=some u->(w.alloc (.cells flat.toArray I.elem)).cell? ⟨b,off,none⟩=some u:=by
   intro b off u hu;by_cases VN:b=w.heap.size/\off<flat.length
   .simp only [VN,and_self,if_true] at hu;simp_all
   .simp only [VN,if_false] at hu;exact hg.cell (Aj.mj b off u hu)
  have nm:=(Aj.grow hg).an8 hle iA (by
    intro t2 IP ht off;have Qm:=Aj.slot t2;rw [ht] at Qm;have ⟨o2,h1,_⟩:=Qm.2.obj;grind)
   (by
    intro f o2 b dO B3 off;have ⟨J,yA,_,_,h3,_⟩:=(Aj.jC f o2 dO).row;rcases h3.2 with ⟨h1,_⟩|⟨g,cap,dp,h1,_,h4,_⟩
    .grind [AI]
    .simp [AI] at B3;grind)
  refine Zk (s:= .sc (.p (.list ms))) hg an9 nm ?_ (.of ?_ trivial) hK
  .refine M9.tr.trans ⟨hle,λb hz KG=>hg.vP b KG,λb off hz=> ?_,hg.size,hg.rest⟩;have eR: ¬b=w.heap.size:=by intro hbe;subst hbe;exact hz (Aj.cz _ (ac4 _))
   simp [eR]
  .rw [hlen];exact ⟨rfl,aby (kp.mono hle) (ac4 _) (by grind)⟩
theorem bT.adl {root:Nat}{cs jM:List aF}{arr:Array Value}{T:TypeId}(h:bT c Z e st a w)(hf:au st.fr root= .box cs)(cD:w.heap[e.B root]? =some (.cells arr T (0,0)))(hl:av e arr.toList jM)(hp:jv jM=true)(Tf:root∉Z.cX)(IU:DN root=false): ∃φ',iZ e.φ φ'/\(∀b off,¬Z b->φ' b off=e.φ b off)/\(∀j,j<arr.toList.length->φ' (e.B root) j=arr.toList[j]?)/\ bT c Z {e with φ:=φ'} {st with fr:=gV st.fr root (.MM jM)} a w:=by
 have mD:=h.slot root;rw [hf] at mD;have rR:=mD.2.free;have IQ:fU cs=false:=by obtain ⟨o,h1,h2⟩:=mD.2.obj;rw [cD] at h1;cases h1;exact h2.2.Fk
 refine ⟨λb off=>if b=e.B root/\off<arr.toList.length then arr.toList[off]? else e.φ b off,?_,?_,?_,?_⟩
 .intro b off v hv;grind
 .intro b off hz;have hb: ¬b=e.B root:=by intro hb;subst hb;exact hz (YS mD.2.cz Tf)
  simp [hb]
 .grind
 .have hle:iZ e.φ (λb off=>if b=e.B root/\off<arr.toList.length then arr.toList[off]? else e.φ b off):=by
   intro b off v hv;by_cases hb:b=e.B root
   .grind
   .grind
  have vA:ll (λ_=>True) (λ_=>True) e {e with φ:=λb off=>if b=e.B root/\off<arr.toList.length then arr.toList[off]? else e.φ b off}:=⟨rfl,hle,λ_ _=>rfl,(by grind)⟩
  have hbk: ∀q,cY (au st.fr q)=true->cY (au (gV st.fr root (.MM jM)) q)=true:=by
   intro q hq;rw [bO];by_cases hqr:q=root
   .grind [cY]
   .grind
  refine ⟨h.defers,h.size,h.m,h.key,fA h.nodup,?_,?_,?_,?_,?_,h.ff,?_,h.cz⟩
  .intro t;rw [bO];by_cases ht:t=root
   .simp_all;refine ⟨e.B t,0,arr.toList,by have:=mD.1.1 IU;grind [yy],hl.on vA (λl _ f _=>trivial),hp,?_⟩;grind
   .simp only [ht,if_false];have hs:=h.slot t;have V7:=h.bb t root;generalize au st.fr t=s at hs V7;cases s<;>simp only [eD] at hs⊢ <;>try exact hs.on vA (dY _)
    rename_i IP;refine ⟨hs.1,hs.2.cz,?_,?_⟩
    .have ⟨o2,h1,h2⟩:=hs.2.obj;exact ⟨o2,h1,h2.on vA (λl _ f _=>trivial)⟩
    .intro off;simp_all;exact hs.2.free off
  .intro t;rw [bO];by_cases ht:t=root
   .simp [ht,dE]
   .simp_all;have rO:=h.root t;generalize au st.fr t=s at rO;cases s with
    |ptr q o=>exact hbk q rO
    |hp q o i=>exact hbk q rO
    |Cl q=>exact hbk q rO
    |_=>trivial
  .intro f o ho;have ⟨I,cells,h1,h2,h3,h4,h5⟩:=(h.jC f o ho).row;refine ⟨I,cells,h1,h2,h3,h4.mono hle,λbg hb=>⟨(h5 bg hb).1,λoff u hu=>(h5 bg hb).2.1 off u ?_,(by grind)⟩⟩;have eR: ¬bg=e.B root:=by intro hbe;exact h.bf root cs f o hf ho (by rw [hb,hbe])
   grind
  .intro t t' c1 c2 h1 h2 eR;rw [bO] at h1 h2;by_cases ht:t=root
   .grind
   .by_cases V9:t'=root
    .grind
    .simp only [ht,V9,if_false] at h1 h2;exact h.bb t t' c1 c2 h1 h2 eR
  .intro t c1 f o h1 h2;rw [bO] at h1;by_cases ht:t=root
   .grind
   .simp only [ht,if_false] at h1;exact h.bf t c1 f o h1 h2
  .intro b off v hv;by_cases hb:b=e.B root/\off<arr.toList.length
   .grind [cell_of]
   .simp only [hb,if_false] at hv;exact h.mj b off v hv
def vS {os:List Operand}: ∀{e:Env} {st:St} {K':List MV->St->Option R},bT c Z e st a w->Fi c st os K'=some r-> ∃e' cj ms,bT c Z e' cj a w/\Ext Z e e'/\il e'.key e'.φ (os.map a.eval) ms/\K' ms cj=some r/\(∀m∈ms,m.one=true):=by
 induction os with
 |nil=>intro e st K' h hK;exact ⟨e,st,[],h,.refl _ _,.nil,hK,abu⟩
 |cons x xs ih=>
  intro e st K' h hK;simp only [Fi] at hK;obtain ⟨hx,_⟩:=h.eval x;generalize aP c st x=s at hx hK;split at hK
  .rename_i root;simp only [ai] at hx;split at hK
   .rename_i cs Ci;obtain ⟨hup,hK⟩:=oz hK;obtain ⟨hu,ayH⟩:=ad1.1 hup;have rK:=h.slot root;rw [Ci] at rK;have IQ:fU cs=false:=by
     cases hm:fU cs with
     |false=>rfl
     |true=>grind [S6,Fh,Y3]
    obtain ⟨arr,T,cD,rQ⟩:=rK.2.cells IQ;obtain ⟨e1,aZ,ms,Aj,M9,Lt,Lu,hK,_,IU⟩:=oV h rQ hK;cases Zj:uv cs ms with
    |none=>grind
    |some jM=>
     simp only [Zj] at hK;obtain ⟨QD,hp'⟩:=IU jM Zj;have hB:e1.B root=e.B root:=M9.on.B root trivial;unfold wr at hK;cases hn:bL aZ.cX root with
     |true=>grind
     |false=>
      obtain ⟨φ',g1,g2,g3,g4⟩:=Aj.adl (root:=root) (cs:=cs) (by grind) (by rw [hB];exact cD) QD hp' (by rw [<-Aj.defers.2.1,<-bH,hn];simp) ayH;simp only [hn,cond_false,force_eq,pe] at hK;have hx2:Ext Z e1 {e1 with φ:=φ'}:=⟨⟨rfl,g1,λ_ _=>rfl,(by grind)⟩,g2⟩
      obtain ⟨e3,mr,ns,hs3,hx3,hr3,hK,lB⟩:=ih g4 hK;refine ⟨e3,mr,.rp ms::ns,hs3,(M9.trans hx2).trans hx3,?_,hK,by intro m hm;rcases afx.1 hm with rfl|hm<;>first|rfl|grind⟩;have fG:jI e1.key φ' [a.eval x] (.rp ms):=by rw [hx,<-hB];refine .rp (e1.B root) 0 arr.toList ms (Lu.mono g1) ?_;intro j hj;rw [agK];exact g3 j hj
      have fG:=fG.mono hx3.on.φ;have hk3:e3.key=e1.key:=hx3.on.key;rw [<-hk3] at fG;exact .cons [a.eval x] _ _ _ fG hr3
   .simp at hK
  .rename_i cs;simp only [ai] at hx;obtain ⟨bg,q,vs,hv,rQ,hp,agr⟩:=hx;obtain ⟨e1,aZ,ms,Aj,M9,Lt,Lu,EP,h6,_⟩:=oV h rQ hK;clear hK;obtain ⟨rfl,rfl⟩:=h6 hp;obtain ⟨e3,mr,ns,hs3,hx3,hr3,QE,lB⟩:=ih Aj EP;refine ⟨e3,mr,.rp ms::ns,hs3,M9.trans hx3,?_,QE,by intro m hm;rcases afx.1 hm with rfl|hm<;>first|rfl|grind⟩;have fG:jI e1.key e1.φ [a.eval x] (.rp ms):=by rw [hv];exact .rp bg (q+0) vs ms Lu (by grind)
   have fG:=fG.mono hx3.on.φ;rw [<-hx3.on.key] at fG;exact .cons [a.eval x] _ _ _ fG hr3
  .simp at hK
def Wq {f:Nat}{aV:Array Operand}(ho:o.op= .makeFunc (.func f) #[] aV)(h:bT c Z e st a w)(hK:Fi c st aV.toList (λms st=>bB c st o.dst (.sc (.p (.func (c.key f) ms))) K)=some r):Rd P c Z K r e a w o (λ_=>True):=by
 obtain ⟨e1,aZ,ms,Aj,M9,Lu,hK,lB⟩:=vS h hK;refine ac2 (v:= .func (.func f) #[] (aV.map a.eval)) (s:= .sc (.p (.func (c.key f) ms))) (λw _=> ?_) Aj M9.tr (.of ?_ trivial) hK
 .simp [execOp,ho,Instr.makeFunc]
 .simp only [ai,bp];exact ⟨rfl,.func f _ _ ms (by rw [Aj.key]) (by simp_all) lB⟩
end
def oN (φ:Ph)(w:World):Prop:= ∀b o v,φ b o=some v->w.cell? ⟨b,o,none⟩=some v
def np (key:Nat->Nat) (φ:Ph):Env:=⟨key,φ,λ_=>undef,λ_=>0,[]⟩
def dF (P:Program)(f:FuncId)(args:Array Value)(w:World)(R:Value->World->Prop):Prop:=match (callFunc f args).run P w with
 | .ok (.enter g as) w'=>Calls P g as w' λx I6=> ∃v,x= .returned v/\R v I6
 | .ok (.value v) w'=>R v w'
 |_=>False
def RJ (ks:List LK)(ls:List MV):Option (List aF×List (Nat×pC)):=cZ ⟨[],[],[],[]⟩ ks ls λcs rest st=>gN rest (some (cs,st.aT))
def eY (c:Ctx)(Z:Nat->Prop) (φ:Ph)(w:World)(bg:Nat)(ks:List LK)(ls:List MV):Prop:=∃cs m,∃E:Nat->Value,∃arr T,RJ ks ls=some (cs,m)/\w.heap[bg]? =some (.cells arr T (0,0))/\Z bg/\(∀o,φ bg o=none)/\av ⟨c.key,φ,E,λ_=>bg,m⟩ arr.toList cs/\ (∀f o,aN m f=some o->ch c (bC.plain Z) ⟨c.key,φ,E,λ_=>bg,m⟩ w (E f) o/\(E f).ownBlock≠some bg)/\ (∀f f' o o' k,aN m f=some o->aN m f'=some o'->(E f).ownBlock=some k->(E f').ownBlock=some k->f=f')
def aoc (c:Ctx)(Z:Nat->Prop) (φ:Ph)(w:World)(k:Nat)(vs:List Value)(ms:List MV):Prop:=∃pos ks ko off ls bg,c.sig k=some (pos,ks,ko)/\vs[pos]? =some (.pointer (some ⟨bg,off,none⟩))/\ms[pos]? =some (.cell (.func off ls))/\bj c.key φ vs (ms.set pos (.rp []))/\eY c Z φ w bg ks ls
def cR (c:Ctx)(Z:Nat->Prop) (φ:Ph)(w:World)(k:Nat)(vs:List Value)(ms:List MV):Prop:=if c.cS k then (∃v0 v1 v2 xs m1 ys,vs=[v0,v1,v2]/\ms=[.fresh xs,m1,.fresh ys]/\ch c (bC.plain Z) (np c.key φ) w v0 ⟨c.mV k,false,xs⟩/\cQ c.key φ v1 m1/\ ch c (bC.plain Z) (np c.key φ) w v2 ⟨c.mV k,false,ys⟩/\ ∀b,v0.ownBlock=some b->v2.ownBlock≠some b)\/ (∃v0 v1 v2 xs m1 m2,vs=[v0,v1,v2]/\ms=[.fresh xs,m1,m2]/\m2.one=true/\ch c (bC.plain Z) (np c.key φ) w v0 ⟨c.mV k,false,xs⟩/\cQ c.key φ v1 m1/\cQ c.key φ v2 m2)\/ aoc c Z φ w k vs ms
 else bj c.key φ vs ms
def QF (c:Ctx)(Z:Nat->Prop) (φ:Ph)(w:World)(k:Nat)(v:Value):List MV->Prop
 | .fresh xs::ms=> ∃v0 us,v= .tuple (v0::us).toArray/\ch c (bC.plain Z) (np c.key φ) w v0 ⟨c.mV k,false,xs⟩/\bj c.key φ us ms
 |ms=> ∃arr,v= .tuple arr/\bj c.key φ arr.toList ms
def QF.args {c:Ctx}{Z:Nat->Prop} {φ:Ph}{w:World}{k:Nat}{arr:Array Value}{ms:List MV}(h:bj c.key φ arr.toList ms):QF c Z φ w k (.tuple arr) ms:=by
 cases ms with
 |nil=>exact ⟨arr,rfl,h⟩
 |cons m r=>
  cases m<;>first|exact ⟨arr,rfl,h⟩|skip
  have ⟨_,_,_,h1,_⟩:=h;have h1:(MV.fresh _).one=true/\_:=h1;grind [MV.one]
def iG (c:Ctx)(Z:Nat->Prop) (φ:Ph)(w:World)(k:Nat)(v:Value):MV->Prop
 | .fresh xs=>ch c (bC.plain Z) (np c.key φ) w v ⟨c.mV k,false,xs⟩
 | .cw ms=>QF c Z φ w k v ms
 |m=>cQ c.key φ v m
def vT (c:Ctx)(Z:Nat->Prop) (φ:Ph)(w:World)(k:Nat)(vs:List Value)(v:Value):MV->Prop
 | .eH r outs=>iG c Z φ w k v r/\ ∃pos ks ko bg off,c.sig k=some (pos,ks,ko)/\vs[pos]? =some (.pointer (some ⟨bg,off,none⟩))/\eY c Z φ w bg ko outs
 |r=>iG c Z φ w k v r
def dG (P:Program)(c:Ctx)(f:Nat)(ms:List MV)(r:MV):Prop:=∀(φ:Ph) (w:World) (Z:Nat->Prop) (vs:List Value),(∀b,w.heap.size<=b->Z b)->cR c Z φ w (c.key f) vs ms->oN φ w-> dF P f vs.toArray w λv w'=> ∃φ',Trans Z φ w φ' w'/\oN φ' w'/\vT c Z φ' w' (c.key f) vs v r
def Sound (P:Program)(c:Ctx):Prop:= ∀f ms r,c.g (c.key f) ms=some r->dG P c f ms r
section
variable {P:Program}{c:Ctx}{Z:bC}{Z':Nat->Prop}{e e':Env}{st:St}{a:Act}{w w':World}{R:Type}{K:St->Option R}{r:R}{Q:Exit->Act->World->Prop}{o:Oper}
theorem vT.plain {c:Ctx}{Z:Nat->Prop} {φ:Ph}{w:World}{k:Nat}{vs:List Value}{v:Value}{r:MV}(h:iG c Z φ w k v r):vT c Z φ w k vs v r:=by cases r<;>first|exact h|exact absurd h.1 (by simp [MV.one])
def isW:MV->Bool
 | .eH _ _=>true
 |_=>false
def vT.of {c:Ctx}{Z:Nat->Prop} {φ:Ph}{w:World}{k:Nat}{vs:List Value}{v:Value}{r:MV}(h:vT c Z φ w k vs v r)(hr:isW r=false):iG c Z φ w k v r:=by cases r<;>first|exact h|cases hr
def bT.called {φ':Ph}(h:bT c Z e st a w)(hz: ∀b,Z' b->Z.In b)(yz: ∀t cs,au st.fr t= .box cs-> ¬Z' (e.B t))(im: ∀f o k,aN st.aT f=some o->(e.E f).ownBlock=some k-> ¬Z' k)(ht:Trans Z' e.φ w φ' w')(hi:oN φ' w'):bT c Z {e with φ:=φ'} st a w':=by
 have vA:ll (λ_=>True) (λ_=>True) e {e with φ:=φ'}:=⟨rfl,ht.ph,λ_ _=>rfl,(by grind)⟩
 refine ⟨h.defers,h.size,h.m,h.key,h.nodup,?_,h.root,?_,h.bb,h.bf,h.ff,hi,λb hb=>h.cz b (afI ht.size hb)⟩
 .intro t;have hs:=h.slot t;have hb:=yz t;generalize au st.fr t=s at hs hb;cases s<;>simp only [eD] at hs⊢ <;>try exact hs.on vA (dY _)
  rename_i cs;refine ⟨hs.1,hs.2.cz,?_,?_⟩
  .have ⟨o2,h1,h2⟩:=hs.2.obj;exact ⟨o2,by rw [ht.heap _ (hb cs rfl) (bx h1)];exact h1,h2.on vA (λl _ f _=>trivial)⟩
  .intro off;show φ' (e.B t) off=none;rw [ht.free _ off (hb cs rfl)];exact hs.2.free off
 .intro f o ho;have ⟨I,cells,h1,h2,h3,h4,h5⟩:=(h.jC f o ho).row;refine ⟨I,cells,h1,h2,?_,h4.mono ht.ph,?_⟩
  .refine ⟨h3.1,?_⟩;rcases h3.2 with h6|⟨g,cap,dp,g1,g2,g3,g4⟩
   .exact .inl h6
   .refine .inr ⟨g,cap,dp,g1,g2,?_,g4⟩;rw [ht.heap g (im f o g ho (by rw [g1];rfl)) (bx g3)];exact g3
  .intro bg hb;refine ⟨(h5 bg hb).1,λoff u hu=>(h5 bg hb).2.1 off u ?_,λg1 g2 j hj=>ht.ph.G0 (by grind) hj⟩;have hu:φ' bg off=some u:=hu;rw [ht.free _ off (im f o bg ho hb)] at hu;exact hu
theorem bT.Tg {f:Nat}{fo:pC} {v':Value}(h:bT c Z e st a w)(Fm:f∉Z.cV)(im:ch c Z.nc e w v' fo)(hb: ∀b,v'.ownBlock=some b->(∀t cs,au st.fr t= .box cs->e.B t≠b)/\(∀g o,aN st.aT g=some o->(e.E g).ownBlock≠some b)): bT c Z (e.yB f v' fo) (st.yB f fo) a w:=by
 have vA:ll (· ≠f) (λ_=>True) e (e.yB f v' fo):=by refine ⟨rfl,.refl _,λ_ _=>rfl,λf2 o2 dO eR=> ?_⟩;have dO:aN (dh e.m f fo) f2=some o2:=dO;rw [bt] at dO;simp only [eR,if_false] at dO;exact ⟨o2,dO,by grind [Env.yB],rfl⟩
 refine ⟨h.defers,h.size,by show dh e.m f _=dh st.aT f _;rw [h.m],h.key,?_,?_,?_,?_,?_,?_,?_,h.mj,h.cz⟩
 .show (aS (mZ f st.fr)).Nodup;have:aS (mZ f st.fr)=aS st.fr:=by simp [aS,mZ]
  grind [h.nodup]
 .intro t;show eD Z _ _ t _ (au (mZ f st.fr) t);rw [iX];have hs:=h.slot t;generalize au st.fr t=s at hs;by_cases YX: ∃cs,s= .box cs
  .obtain ⟨cs,rfl⟩:=YX;refine ⟨hs.1.qe (Zh f _),hs.2.cz,?_,hs.2.free⟩;have ⟨o2,h1,h2⟩:=hs.2.obj;refine ⟨o2,h1,?_⟩;refine (h2.map (λ_ _=>bp.kill f) (λ_ _=>rfl)).on vA ?_;grind [I5]
  .have yY:ai e (a.tmps.getD t undef) s:=by cases s<;>simp only [eD] at hs<;>first|exact hs|grind
   have h2:=(yY.kill f).on vA (agl f _ s (dY s));generalize hks:GU f s=s2 at h2;cases s2<;>first|exact h2|grind [ai]
 .intro t;show dE (mZ f st.fr) (au (mZ f st.fr) t);rw [iX];have rO:=h.root t;generalize au st.fr t=s at rO;have hk: ∀q,cY (au (mZ f st.fr) q)=cY (au st.fr q):=(by grind [iX,Ja])
  cases s with
  |ptr q o=>show cY (au (mZ f st.fr) q)=true;rw [hk];exact rO
  |hp q o i=>show cY (au (mZ f st.fr) q)=true;rw [hk];exact rO
  |Cl q=>show cY (au (mZ f st.fr) q)=true;rw [hk];exact rO
  |ep g' _ _ _ _=>simp only [GU];cases bD g' f<;>trivial
  |_=>trivial
 .intro f2 o2 dO;have dO:aN (dh st.aT f fo) f2=some o2:=dO;rw [bt] at dO;show ch c (Z.fz f2) _ w (if f2=f then v' else e.E f2) o2;by_cases kC:f2=f
  .rw [if_pos kC];rw [if_pos kC] at dO;cases dO;rw [kC];exact (im.to Fm).env rfl rfl
  .rw [if_neg kC];simp only [kC,if_false] at dO;exact (h.jC f2 o2 dO).env rfl rfl
 .intro t t' c1 c2 h1 h2 eR;have h1:au (mZ f st.fr) t= .box c1:=h1;have h2:au (mZ f st.fr) t'= .box c2:=h2;rw [iX] at h1 h2;have ⟨d1,g1,_⟩:=xQ h1;have ⟨d2,g2,_⟩:=xQ h2;exact h.bb t t' d1 d2 g1 g2 eR
 .intro t c1 f2 o2 h1 h2;have h1:au (mZ f st.fr) t= .box c1:=h1;have h2:aN (dh st.aT f fo) f2=some o2:=h2;rw [iX] at h1;rw [bt] at h2;have ⟨d1,g1,_⟩:=xQ h1;show (if f2=f then v' else e.E f2).ownBlock≠some (e.B t);by_cases kC:f2=f
  .grind
  .rw [if_neg kC];simp only [kC,if_false] at h2;exact h.bf t d1 f2 o2 g1 h2
 .intro f1 f2 o1 o2 k h1 h2 h3 h4;have h1:aN (dh st.aT f fo) f1=some o1:=h1;have h2:aN (dh st.aT f fo) f2=some o2:=h2;have h3:(if f1=f then v' else e.E f1).ownBlock=some k:=h3;have h4:(if f2=f then v' else e.E f2).ownBlock=some k:=h4;rw [bt] at h1 h2;by_cases hf1:f1=f
  .grind
  .rw [if_neg hf1] at h3;simp only [hf1,if_false] at h1;by_cases Nd:f2=f
   .grind
   .rw [if_neg Nd] at h4;simp only [Nd,if_false] at h2;exact h.ff f1 f2 o1 o2 k h1 h2 h3 h4
theorem An {I:TI}{x:MV}{v:Value} {K':Slot->Option R}(hv:cQ e.key e.φ v x)(hK:xJ I x K'=some r): ∃s,ai e v s/\G3 s=true/\K' s=some r:=by
 unfold xJ at hK;cases fw:I.st with
 |true=>
  simp only [fw,cond_true] at hK;unfold gA at hK;split at hK
  .obtain ⟨arr,rfl,hr⟩:=hv;have ⟨ls,Qn,xw⟩:=uT (e:=e) (vs:=arr.toList) hK;exact ⟨.ag ls,⟨arr,rfl,Qn.rep hr⟩,Qn.pur,xw⟩
  .simp at hK
 |false=>
  simp only [fw,cond_false] at hK;split at hK
  .have ⟨l,xO,xw⟩:=nk (e:=e) (vs:=[v]) hK;refine ⟨.sc l,?_,xO.pur,xw⟩;have hp:=xO.pur;have hm:=xO.mv;cases l<;>simp [xM] at hp<;>simp [dz] at hm
   .subst hm;have h1:=xO.one _ rfl;rename_i m;have:m.one=true/\jI e.key e.φ [v] m:=by cases m<;>simp [MV.one] at h1<;>exact ⟨rfl,hv.2⟩
    exact this
   .subst hm;exact hv
  .simp at hK
def Wr {ts:List Nat}: ∀{vs:List Value} {ms:List MV} {K':List Slot->Option R},bj e.key e.φ vs ms->Cm c ts ms K'=some r-> ∃ss,mY e vs ss/\K' ss=some r:=by
 induction ts with
 |nil=>
  intro vs ms K' h hK;cases ms with
  |nil=>cases h;exact ⟨[],rfl,hK⟩
  |cons m ms=>grind [Cm,gN]
 |cons t ts ih=>
  intro vs ms K' h hK;simp only [Cm] at hK;cases hI:c.tv t with
  |none=>grind
  |some I=>
   simp only [hI] at hK;cases ms with
   |nil=>grind [gC]
   |cons m ms=>simp only [gC] at hK;obtain ⟨v,u,rfl,h1,h2⟩:=h;have ⟨s,g1,g2,hK⟩:=An h1 hK;have ⟨ss,g3,hK⟩:=ih h2 hK;exact ⟨s::ss,⟨v,u,rfl,g1,g2,g3⟩,hK⟩
theorem Zv {fr:Fr}{s:Slot}(h:G3 s=true):dE fr s:=by cases s<;>simp [G3] at h<;>trivial
theorem KH {I:TI}{xs:List MV} {K':Slot->Option R}:xJ I (.fresh xs) K'=none:=by unfold xJ gA;unfold kw;grind [gB,gI,gS,gL,gH,gR]
theorem Th {ts:List Nat}{xs:List MV}{ms:List MV} {K':List Slot->Option R}:Cm c ts (.fresh xs::ms) K'=none:=by
 cases ts with
 |nil=>simp [Cm,gN]
 |cons t ts=>grind [Cm,gC,KH]
def Ws {ts:List Nat}: ∀{vs:List Value} {ms:List MV} {K':List aF->Option R},bj e.key e.φ vs ms->MU c ts ms K'=some r-> ∃ls,av e vs ls/\jv ls=true/\K' ls=some r:=by
 induction ts with
 |nil=>
  intro vs ms K' h hK;cases ms with
  |nil=>cases h;exact ⟨[],rfl,rfl,hK⟩
  |cons m ms=>grind [MU,gN]
 |cons t ts ih=>
  intro vs ms K' h hK;simp only [MU] at hK;cases hI:c.tv t with
  |none=>grind
  |some I=>
   simp only [hI] at hK;cases ms with
   |nil=>grind [gC]
   |cons m ms=>
    simp only [gC] at hK;obtain ⟨v,u,rfl,h1,h2⟩:=h;have ⟨s,g1,g2,hK⟩:=An h1 hK;split at hK
    .rename_i x;have ⟨ls,g3,g4,hK⟩:=ih h2 hK;exact ⟨.p x::ls,⟨[v],u,rfl,g1,g3⟩,by simp_all [jv,xM,Bool.true_and],hK⟩
    .cases hK
def Ao {I:TI}{x:MV}{v:Value}{k:Nat} {K':Slot->Option R}(hk:e.key=c.key)(hv:iG c Z' e.φ w k v x)(hK:uQ c I x K'=some r): ∃s,ai e v s/\dE st.fr s/\K' s=some r:=by
 unfold uQ at hK;split at hK
 .have Wd:cQ e.key e.φ v x:=by
   rw [hk];cases x<;>first|exact hv|skip
   .unfold xJ gA at hK;unfold kw at hK;grind [gB,gI,gS,gL,gH,gR]
   .unfold xJ gA at hK;unfold kw at hK;grind [gB,gI,gS,gL,gH,gR]
  grind [An,Zv]
 .unfold gT at hK;split at hK
  .rename_i vs;have hv: ∃arr,v= .tuple arr/\bj c.key e.φ arr.toList vs:=by
    cases vs with
    |nil=>exact hv
    |cons m ms=>cases m<;>first|exact hv|grind [Th]
   obtain ⟨arr,rfl,h1⟩:=hv;obtain ⟨ss,h2,hK⟩:=Wr (by rw [hk];exact h1) hK;exact ⟨.cw ss,⟨arr,rfl,h2⟩,trivial,hK⟩
  .simp at hK
theorem Ap (h:bT c Z e st a w){t:Nat}{cs:List aF}(ht:au st.fr t= .box cs):e.B t<w.heap.size:=by have hs:=h.slot t;rw [ht] at hs;have ⟨o2,h1,_⟩:=hs.2.obj;grind
def Ng {base:Nat}{ty:TypeId}{size n:Nat}{v:Value}{xs:List Value}(h:w.ownsRow base ty size v n xs){b:Nat}(hb:v.ownBlock=some b):b<w.heap.size:=by rcases h.2 with ⟨h1,_⟩|⟨g,cap,dp,h1,_,h2,_⟩;all_goals grind [AI,AS,bx]
theorem Aq (h:bT c Z e st a w){f:Nat}{o:pC}(hf:aN st.aT f=some o){b:Nat}(hb:(e.E f).ownBlock=some b):b<w.heap.size:=by have ⟨I,cells,_,_,h3,_⟩:=(h.jC f o hf).row;exact Ng h3 hb
structure Handed (c:Ctx) (Z:bC) (Z':Nat->Prop) (e:Env) (st:St) (a:Act) (w:World) (k:Nat) (vs:List Value) (ms:List MV):Prop where
 vU:bT c Z e st a w
 new: ∀b,w.heap.size<=b->Z' b
 sub: ∀b,Z' b->Z.In b
 box: ∀t cs,au st.fr t= .box cs-> ¬Z' (e.B t)
 jC: ∀f o b,aN st.aT f=some o->(e.E f).ownBlock=some b-> ¬Z' b
 args:cR c Z' e.φ w k vs ms
 grow:c.cS k=false-> ∀b,Z' b->w.heap.size<=b
structure ayK (c:Ctx) (Z:bC) (e e':Env) (st cj:St) (a:Act) (w:World) (k:Nat) (v:Value) (xs:List MV):Prop where
 vU:bT c Z e' cj a w
 φ:e'.φ=e.φ
 row:ch c (bC.plain λb=>v.ownBlock=some b) (np c.key e.φ) w v ⟨c.mV k,false,xs⟩
 In: ∀b,v.ownBlock=some b->Z.In b
 box: ∀t cs,au cj.fr t= .box cs->v.ownBlock≠some (e'.B t)
 jC: ∀f o b,aN cj.aT f=some o->(e'.E f).ownBlock=some b->v.ownBlock≠some b
 keep: ∀(u:Value) (s:Slot) (g:Nat),s= .sc (.own g)->ai e u s->(∃o,aN cj.aT g=some o/\o.iw=false)->ai e' u s
 boxes: ∀t cs,au cj.fr t= .box cs-> ∃Lv,au st.fr t= .box Lv/\e'.B t=e.B t
 aT: ∀f o b,aN cj.aT f=some o->(e'.E f).ownBlock=some b-> ∃o0,aN st.aT f=some o0/\(e.E f).ownBlock=some b
theorem vV {k:Nat}{s:Slot}{v:Value} {K':MV->St->Option R}(h:bT c Z e st a w)(hs:ai e v s)(hK:GW c k st s K'=some r): ∃e' cj xs,ayK c Z e e' st cj a w k v xs/\K' (.fresh xs) cj=some r:=by
 unfold GW at hK;split at hK
 .rename_i f;cases hf:aN st.aT f with
  |none=>grind
  |some o=>
   simp only [hf] at hK;have ⟨hz,hK⟩:=oz hK;simp only [ad1,afE] at hz;have oM:=sh hz.2;have hv:v=e.E f:=(uS h hs hf).1;have im:=h.jC f o hf;have ale:ch c Z.nc e w (.slice none 0 0) ⟨o.ty,true,[]⟩:=by obtain ⟨I,cells,g1,g2,_⟩:=im.row;exact ⟨I,[],g1,g2,⟨abu,.inl ⟨rfl,rfl⟩⟩,rfl,(by grind [AI])⟩
   have Fm:=h.npf hK;have h5:=h.Tg (f:=f) Fm ale (by grind [AI]);refine ⟨_,_,o.xs,⟨h5,rfl,?_,?_,?_,?_,?_,?_,?_⟩,pV hK⟩
   .have ⟨I,cells,g1,g2,g3,g4,g5⟩:=im.row;rw [<-oM];refine ⟨I,cells,g1,g2,by grind,by show bn c.key e.φ _ _ _;grind [h.key],λbg hb=>⟨hb,λoff u hu=> ?_,λhc=>ags hc⟩⟩;have:=((g5 bg (by grind)).2.1 off u hu).1;grind
   .intro b hb;have ⟨I,cells,_,_,_,_,g5⟩:=im.row;exact YS (g5 b (by grind)).1 Fm
   .intro t cs ht hb;have ht:au (mZ f st.fr) t= .box cs:=ht;rw [iX] at ht;have ⟨d1,g1,_⟩:=xQ ht;exact h.bf t d1 f o g1 hf (by rw [<-hv];exact hb)
   .intro f2 o2 b dO hb hvb;have dO:aN (dh st.aT f ⟨o.ty,true,[]⟩) f2=some o2:=dO;have hb:(if f2=f then aeY none 0 0 else e.E f2).ownBlock=some b:=hb;rw [bt] at dO;by_cases kC:f2=f
    .simp_all [if_pos,AI]
    .rw [if_neg kC] at hb dO;exact kC (h.ff f2 f o2 o b dO hf hb (by grind))
   .rintro u s g rfl rK ⟨o2,dO,hz2⟩;have dO:aN (dh st.aT f ⟨o.ty,true,[]⟩) g=some o2:=dO;rw [bt] at dO;by_cases YY:g=f
    .grind
    .have ⟨x,hx,M9,hx2⟩:=rK;refine ⟨x,hx,M9,λo3 ho3=> ?_⟩;show x=if g=f then aeY none 0 0 else e.E g
     simp_all [if_neg,h.m]
   .intro t cs ht;have ht:au (mZ f st.fr) t= .box cs:=ht;rw [iX] at ht;have ⟨d1,g1,_⟩:=xQ ht;exact ⟨d1,g1,rfl⟩
   .intro f2 o2 b dO hb;have dO:aN (dh st.aT f ⟨o.ty,true,[]⟩) f2=some o2:=dO;have hb:(if f2=f then aeY none 0 0 else e.E f2).ownBlock=some b:=hb;rw [bt] at dO;by_cases kC:f2=f;all_goals simp_all [if_pos,AI,if_neg]
 .cases hI:c.tv (c.mV k) with
  |none=>grind
  |some I=>simp only [hI] at hK;have ⟨S9,VL⟩:=a8 hI;simp only [ai,bp,akn,and_true] at hs;subst hs;refine ⟨e,st,[],⟨h,rfl,⟨I,[],S9,VL,⟨abu,.inl ⟨rfl,rfl⟩⟩,rfl,(by grind [AI])⟩,(by grind [AI]),(by grind [AI]),(by grind [AI]),λu s g _ hs _=>hs,(by grind),(by grind)⟩,hK⟩
 .simp at hK
def KI {k:Nat}{s:Slot} {K':MV->St->Option R}(hK:GW c k st s K'=some r):(∃g o,s= .sc (.own g)/\aN st.aT g=some o/\o.iw=false)\/s= .sc .nil:=by unfold GW at hK;grind
theorem Zx {k:Nat}{ss:List Slot}{vs:List Value} {K':List MV->St->Option R}(h:bT c Z e st a w)(hlen:vs.length=ss.length)(fG: ∀(i:Nat)(v:Value)(s:Slot),vs[i]? =some v->ss[i]? =some s->ai e v s)(hK:abn c k st ss K'=some r): ∃e' cj ms,∃Z':Nat->Prop,Handed c Z Z' e' cj a w k vs ms/\Trans Z e.φ w e'.φ w/\K' ms cj=some r:=by
 unfold abn at hK;cases hg:c.cS k with
 |false=>
  simp only [hg,cond_false] at hK;have ⟨e1,aZ,ms,h1,h2,h3,h4,hK⟩:=uR h ⟨λ_=>vs,rfl,hlen,fG⟩ hK;refine ⟨e1,aZ,ms,λb=>w.heap.size<=b,⟨h1,λb hb=>hb,h1.cz,?_,?_,?_,λ_ b hb=>hb⟩,h2.tr,hK⟩
  .intro t cs ht hz;have:=Ap h1 ht;omega
  .intro f o b ho hb hz;have:=Aq h1 ho hb;omega
  simp_all [cR,akB,if_false,h1.key]
 |true=>
  simp only [hg,cond_true] at hK;split at hK
  .rename_i s0 s1 s2;match vs,hlen with
   |[v0,v1,v2],aBi=>
    split at hK
    .rename_i m2;have ⟨e1,aZ,m1,h1,x1,Lt,r1,xw⟩:=nj h (fG 1 v1 s1 rfl rfl) hK;have ⟨e2,eG,xs,G1,EP⟩:=vV h1 ((fG 0 v0 s0 rfl rfl).on x1.on (dY s0)) xw;have Qm:m2.one=true/\jI e.key e.φ [v2] m2:=fG 2 v2 (.sc (.p m2)) rfl rfl;have ha2:cQ e.key e.φ v2 m2:=by obtain ⟨g1,g2⟩:=Qm;cases m2<;>simp [MV.one] at g1<;>exact ⟨rfl,g2⟩
     have ayL:cQ c.key e1.φ v2 m2:=by rw [<-h.key];exact ha2.mono x1.on.φ
     have wide: ∀{v:Value} {zs:List MV} (Z1:Nat->Prop),(∀b,v.ownBlock=some b->Z1 b)->ch c (bC.plain λb=>v.ownBlock=some b) (np c.key e1.φ) w v ⟨c.mV k,false,zs⟩->ch c (bC.plain Z1) (np c.key e1.φ) w v ⟨c.mV k,false,zs⟩:=by intro v zs Z1 hz hf;obtain ⟨I,cells,g1,g2,g3,g4,g5⟩:=hf.row;exact ⟨I,cells,g1,g2,g3,g4,λbg hb=>⟨hz bg hb,(g5 bg hb).2⟩⟩
     refine ⟨e2,eG,[.fresh xs,m1,m2],λb=>w.heap.size<=b\/v0.ownBlock=some b,⟨G1.vU,λb hb=> .inl hb,?_,?_,?_,?_,(by grind)⟩,by grind [G1.φ,x1.tr],EP⟩
     .intro b hb;rcases hb with hb|hb
      .exact h1.cz b hb
      .exact G1.In b hb
     .intro t cs ht hb;rcases hb with hb|hb
      .have:=Ap G1.vU ht;grind
      .exact G1.box t cs ht hb
     .intro f o b ho hb hz;rcases hz with hz|hz
      .have:=Aq G1.vU ho hb;omega
      .exact G1.jC f o b ho hb hz
     .simp only [cR,hg,if_true];rw [G1.φ];exact .inr (.inl ⟨v0,v1,v2,xs,m1,m2,rfl,rfl,Qm.1,(by grind [G1.row]),by grind [h1.key],ayL⟩)
    .have ⟨e1,aZ,m1,h1,x1,Lt,r1,xw⟩:=nj h (fG 1 v1 s1 rfl rfl) hK;have ⟨e2,eG,xs,G1,EP⟩:=vV h1 ((fG 0 v0 s0 rfl rfl).on x1.on (dY s0)) xw;have Qm:=(fG 2 v2 s2 rfl rfl).on x1.on (dY s2);have ap0:ai e2 v2 s2:=by
      rcases KI EP with ⟨g,o,h5,h6,h7⟩|h5
      .exact G1.keep v2 s2 g h5 Qm ⟨o,h6,h7⟩
      .rw [h5] at Qm⊢;exact Qm
     have ⟨e3,mr,ys,G2,QE⟩:=vV G1.vU ap0 EP;have aod:ch c (bC.plain λb=>v2.ownBlock=some b) (np c.key e1.φ) w v2 ⟨c.mV k,false,ys⟩:=by have:=G2.row;rw [G1.φ] at this;exact this
     have y7: ∀b,v0.ownBlock=some b->v2.ownBlock≠some b:=by
      intro b h0 B3;rcases KI EP with ⟨g,o,h5,h6,h7⟩|h5
      .rw [h5] at ap0;have hv2:v2=e2.E g:=(uS G1.vU ap0 h6).1;exact G1.jC g o b h6 (by grind) h0
      .simp_all [ai,bp,akn,and_true,AI]
     have wide: ∀{v:Value} {zs:List MV} (Z1:Nat->Prop),(∀b,v.ownBlock=some b->Z1 b)->ch c (bC.plain λb=>v.ownBlock=some b) (np c.key e1.φ) w v ⟨c.mV k,false,zs⟩->ch c (bC.plain Z1) (np c.key e1.φ) w v ⟨c.mV k,false,zs⟩:=by intro v zs Z1 hz hf;obtain ⟨I,cells,g1,g2,g3,g4,g5⟩:=hf.row;exact ⟨I,cells,g1,g2,g3,g4,λbg hb=>⟨hz bg hb,(g5 bg hb).2⟩⟩
     have h3φ:e3.φ=e1.φ:=G2.φ.trans G1.φ;refine ⟨e3,mr,[.fresh xs,m1,.fresh ys],λb=>w.heap.size<=b\/v0.ownBlock=some b\/v2.ownBlock=some b,⟨G2.vU,λb hb=> .inl hb,?_,?_,?_,?_,(by grind)⟩,by grind [x1.tr],QE⟩
     .intro b hb;rcases hb with hb|hb|hb
      .exact h1.cz b hb
      .exact G1.In b hb
      .exact G2.In b hb
     .intro t cs ht hb;rcases hb with hb|hb|hb
      .have:=Ap G2.vU ht;grind
      .have ⟨Lv,k1,k2⟩:=G2.boxes t cs ht;rw [k2] at hb;exact G1.box t Lv k1 hb
      .exact G2.box t cs ht hb
     .intro f o b ho hb hz;rcases hz with hz|hz|hz
      .have:=Aq G2.vU ho hb;omega
      .have ⟨o0,k1,k2⟩:=G2.aT f o b ho hb;exact G1.jC f o0 b k1 k2 hz
      .exact G2.jC f o b ho hb hz
     .simp only [cR,hg,if_true];exact .inl ⟨v0,v1,v2,xs,m1,ys,rfl,rfl,(by grind [G1.row]),by grind [h1.key],(by grind),y7⟩
  .simp at hK
def bj.map {os:List Operand}(h:bT c Z e st a w): ∀(i:Nat) (v:Value) (s:Slot),(os.map a.eval)[i]? =some v->(ou c st os)[i]? =some s->ai e v s:=by
 intro i v s h1 h2;rw [pE,afu] at h2;cases ho:os[i]? with
 |none=>grind
 |some x=>simp [ho] at h1 h2;rw [<-h1,<-h2];exact (h.eval x).1
def y8 {f:Nat}{args:Array Value}{Rp:Value->World->Prop}(bU:(execOp a.eval o).run P w=(callFunc f args).run P w)(hc:dF P f args w Rp){Nx:Act->World->Prop}(Wt: ∀v w',Rp v w'->Nx (a.put o.dst v) w'):o.wp P a w Nx Q:=by
 unfold akL;rw [bU];unfold dF at hc;generalize (callFunc f args).run P w=res at hc;cases res with
 |halt=>exact hc.elim
 |ok n w1=>
  cases n<;>simp only at hc<;>try exact hc.elim
  .exact Wt _ _ hc
  .refine hc.mono ?_;grind
theorem agP {R':Type}{d k:Nat}{ts:List Nat}{x:MV}{outs:List MV} {K':Slot->St->Option R'}:MW c d st k (.eH x outs) ts K'=none:=by
 cases ts with
 |nil=>rfl
 |cons t ts=>
  simp only [MW];cases c.tv t with
  |none=>rfl
  |some I=>cases hq:bD I.elem (c.mV k)<;>simp [hq,gT]
theorem agQ {Z':Nat->Prop}{k d:Nat}{ms:List MV}{x:MV}{v:Value} {φ':Ph}{I:TI}{vs:List Value}(hh:Handed c Z Z' e st a w k vs ms)(hd:o.dst.getD 0=d)(ht:Trans Z' e.φ w φ' w')(hi:oN φ' w')(hr:iG c Z' φ' w' k v x)(hK:(bif c.fresh k then bif bD (c.mV k) 0 then gCl x λxs=>bB c st o.dst (.sc (.p (.clip xs))) K else bif akP I.cy then MW c d st k x I.cy λs st=>bB c st o.dst s K else gF x λxs=>bif !bD I.elem (c.mV k) then none else jD st d ⟨I.elem,false,xs⟩ λst=>(bif bL c.bs d then mU st (.own d) λm st=>bB c st o.dst (.sc (.p m)) K else bB c st o.dst (.sc (.own d)) K) else uQ c I x λs=>bB c st o.dst s K)=some r): Out c Z K r e.φ w (a.put o.dst v) w':=by
 have hs:=hh.vU.called hh.sub hh.box hh.jC ht hi;have Cj:Trans Z e.φ w φ' w':=⟨ht.ph,λb hb=>ht.heap b (λhz=>hb (hh.sub b hz)),λb o hb=>ht.free b o (λhz=>hb (hh.sub b hz)),ht.size,ht.rest⟩
 cases hf:c.fresh k with
 |true=>
  simp only [hf,cond_true] at hK;cases h0:bD (c.mV k) 0 with
  |true=>
   simp only [h0,cond_true] at hK;unfold gCl at hK;split at hK
   .rename_i xs;have V8:ai {e with φ:=φ'} v (.sc (.p (.clip xs))):=by have hr:(MV.clip xs).one=true/\jI c.key φ' [v] (.clip xs):=hr;simp only [ai,bp];rw [hh.vU.key];exact hr
    have ⟨e2,eG,q1,q2,q3⟩:=df hs (.of V8 trivial) hK;exact ⟨e2,eG,q1,by grind,q2⟩
   .simp at hK
  |false=>
  simp only [h0,cond_false] at hK;cases hC:akP I.cy with
  |true=>
   simp only [hC,cond_true] at hK;unfold MW at hK;split at hK
   .cases hK
   .rename_i t0 ts _;cases hI0:c.tv t0 with
    |none=>grind
    |some I0=>
     simp only [hI0] at hK;cases oM:bD I0.elem (c.mV k) with
     |false=>grind
     |true=>
      simp only [oM,ak2,cond_false] at hK;have oM:=sh oM;rw [oM] at hK;unfold gT at hK;split at hK
      .rename_i vs;cases vs with
       |nil=>grind [gC]
       |cons m ms=>
        simp only [gC] at hK;unfold gF at hK;split at hK
        .rename_i xs;obtain ⟨v0,us,rfl,hr,dx⟩: ∃v0 us,v= .tuple (v0::us).toArray/\ch c (bC.plain Z') (np c.key φ') w' v0 ⟨c.mV k,false,xs⟩/\bj c.key φ' us ms:=hr;obtain ⟨ls,Qn,ayM,hK⟩:=Ws (e:={e with φ:=φ'}) (by show bj e.key φ' us ms;grind [hh.vU.key]) hK;have V8:ch c Z.nc {e with φ:=φ'} w' v0 ⟨c.mV k,false,xs⟩:=by obtain ⟨I,cells,g1,g2,g3,g4,g5⟩:=hr.row;exact ⟨I,cells,g1,g2,g3,by rw [hh.vU.key];exact g4,λbg hb=>⟨hh.sub _ (g5 bg hb).1,(g5 bg hb).2.1,λhc=>ags hc⟩⟩
         have h6:=hs.Tg (f:=d) (hh.vU.npf hK) V8 (by intro b hb;have ⟨I,cells,g1,g2,g3,g4,g5⟩:=hr.row;have hz:=(g5 b hb).1;exact ⟨λt cs h1 h2=>hh.box t cs h1 (by rw [h2];exact hz),λg o h1 h2=>hh.jC g o b h1 h2 hz⟩);have h1:v0.oneCell'=true:=by obtain ⟨I,cells,g1,g2,g3,_⟩:=hr.row;exact vR g3
         have vA:ll (λ_=>False) (λ_=>True) {e with φ:=φ'} (Env.yB {e with φ:=φ'} d v0 ⟨c.mV k,false,xs⟩):=⟨rfl,.refl _,λ_ _=>rfl,λ_ _ _ hf=>hf.elim⟩
         have Qn:=Qn.on vA (Ah ayM);have eS:bp (Env.yB {e with φ:=φ'} d v0 ⟨c.mV k,false,xs⟩) [v0] (.own d):=⟨v0,rfl,h1,(by grind [Env.yB])⟩
         have hK:=pV hK;cases VN:bL c.bs d with
         |true=>
          simp only [VN,cond_true] at hK;have ⟨e3,mr,m,k1,k2,_,k4,hK,_,k7,k8⟩:=ni (l:= .own d) h6 (vs:=[v0]) eS hK;have hm:m.one=true:=(by grind)
          obtain ⟨e2,eG,q1,q2,q3⟩:=df k1 (.of (s:= .tg (.p m::ls)) (by exact ⟨_,rfl,[v0],us,rfl,⟨hm,k4⟩,Qn.on k2.on (λl hl f hf=>trivial)⟩) trivial) hK;exact ⟨e2,eG,q1,by rw [q3];exact Cj.trans k2.tr,q2⟩
         |false=>simp only [VN,cond_false] at hK;obtain ⟨e2,eG,q1,q2,q3⟩:=df h6 (.of (s:= .tg (.own d::ls)) (by exact ⟨_,rfl,[v0],us,rfl,eS,Qn⟩) trivial) hK;exact ⟨e2,eG,q1,by rw [q3];exact Cj,q2⟩
        .simp at hK
      .simp at hK
  |false=>
  simp only [hC,cond_false] at hK;unfold gF at hK;split at hK
  .rename_i xs;cases oM:bD I.elem (c.mV k) with
   |false=>grind
   |true=>
    simp only [oM,ak2,cond_false] at hK;have oM:=sh oM;rw [oM] at hK;have V8:ch c Z.nc {e with φ:=φ'} w' v ⟨c.mV k,false,xs⟩:=by obtain ⟨I,cells,g1,g2,g3,g4,g5⟩:=hr.row;exact ⟨I,cells,g1,g2,g3,by rw [hh.vU.key];exact g4,λbg hb=>⟨hh.sub _ (g5 bg hb).1,(g5 bg hb).2.1,λhc=>ags hc⟩⟩
    have h6:=hs.Tg (f:=d) (hh.vU.npf hK) V8 (by intro b hb;have ⟨I,cells,g1,g2,g3,g4,g5⟩:=hr.row;have hz:=(g5 b hb).1;exact ⟨λt cs h1 h2=>hh.box t cs h1 (by rw [h2];exact hz),λg o h1 h2=>hh.jC g o b h1 h2 hz⟩);have h1:v.oneCell'=true:=by obtain ⟨I,cells,g1,g2,g3,_⟩:=hr.row;exact vR g3
    have hK:=pV hK;cases VN:bL c.bs d with
    |true=>
     simp only [VN,cond_true] at hK;have ⟨e3,mr,m,k1,k2,_,k4,hK,_,k7,k8⟩:=ni (l:= .own d) h6 (vs:=[v]) ⟨v,rfl,h1,(by grind [Env.yB])⟩ hK;have hm:m.one=true:=(by grind)
     obtain ⟨e2,eG,q1,q2,q3⟩:=df k1 (.of (s:= .sc (.p m)) (by exact ⟨hm,k4⟩) trivial) hK;exact ⟨e2,eG,q1,by rw [q3];exact Cj.trans k2.tr,q2⟩
    |false=>simp only [VN,cond_false] at hK;have ⟨e2,eG,q1,q2,q3⟩:=df h6 (.of (tw h1) trivial) hK;exact ⟨e2,eG,q1,by rw [q3];exact Cj,q2⟩
  .simp at hK
 |false=>simp only [hf,cond_false] at hK;have ⟨s,g1,g2,hK⟩:=Ao (e:={e with φ:=φ'}) (st:=st) hh.vU.key hr hK;have ⟨e2,eG,q1,q2,q3⟩:=df hs (.of g1 g2) hK;exact ⟨e2,eG,q1,by grind,q2⟩
theorem Out.trans {φ0:Ph}{w0:World} {a':Act}(h:Trans Z φ0 w0 e.φ w) (h':Out c Z K r e.φ w a' w'):Out c Z K r φ0 w0 a' w':=by have ⟨e2,eG,h1,h2,h3⟩:=h';exact ⟨e2,eG,h1,h.trans h2,h3⟩
theorem adm {R':Type}{I:TI}{x:MV}{outs:List MV} {K':Slot->Option R'}:uQ c I (.eH x outs) K'=none:=by
 unfold uQ;split
 .unfold xJ;cases I.st
  .split
   .rename_i k _;cases k<;>rfl
   .rfl
  .rfl
 .rfl
theorem KJ {R':Type} {r':R'}{I:TI}{x:MV} {K':Slot->Option R'}(h:uQ c I x K'=some r'):isW x=false:=by cases x<;>first|rfl|grind [adm]
def alf {cl:Call}{f:Nat}{I:TI}(hS:Sound P c)(ho:o.op= .call cl)(ER:cl.callee= .value (.func f))(h:bT c Z e st a w)(hK:abn c (c.key f) st (ou c st cl.args.toList) (λms st=>anW c (o.dst.getD 0) st (c.key f) ms I λs st=>bB c st o.dst s K)=some r): o.wp P a w (λa' w'=>(c.cS (c.key f)=false->dk w w')/\Out c Z K r e.φ w a' w') Q:=by
 have ⟨e1,aZ,ms,Z',hh,ht,hK⟩:=Zx (vs:=cl.args.toList.map a.eval) h (by simp [pE]) (bj.map h) hK;have ⟨x,hx,hK⟩:=mE hK;have BL:=hS f ms x hx e1.φ w Z' _ hh.new hh.args hh.vU.mj;refine y8 ?_ BL ?_
 .have Ti:(cl.args.toList.map a.eval).toArray=cl.args.map a.eval:=by rw [<-akH,akw]
  simp_all [execOp,resolve,Act.eval,akI,invoke]
 .rintro v w' ⟨φ',t1,t2,t3⟩;have hw:isW x=false:=by
   cases B1:c.fresh (c.key f) with
   |true=>rw [B1] at hK;cases h0:bD (c.mV (c.key f)) 0<;>cases hC:akP I.cy<;>rw [h0] at hK<;>(try rw [hC] at hK)<;>cases x<;>first|rfl|(simp [gF,gCl] at hK;done)|grind [agP]
   |false=>grind [KJ]
  exact ⟨λYY=>⟨t1.size,λb hb=>t1.heap b (λhz=>by have:=hh.grow YY b hz;omega) hb,t1.rest⟩,(agQ hh rfl t1 t2 (t3.of hw) hK).trans ht⟩
theorem il.one {ms:List MV}: ∀{vs:List Value},il e.key e.φ vs ms->(∀m∈ms,m.one=true)->bj e.key e.φ vs ms:=by
 induction ms with
 |nil=>intro vs h _;cases h;rfl
 |cons m ms ih=>
  intro vs h h1;cases h with
  |cons v _ vs _ g1 g2=>obtain ⟨u,rfl,_⟩:=g1.one (h1 m abu);have hm:=h1 m abu;exact ⟨u,vs,rfl,by cases m<;>simp [MV.one] at hm<;>exact ⟨rfl,g1⟩,(by grind)⟩
def ap1 {cl:Call}{x:Operand}{I:TI}(hS:Sound P c)(ho:o.op= .call cl)(ER:cl.callee= .value x)(h:bT c Z e st a w)(hK:SY c st I (aP c st x) (ou c st cl.args.toList) (λs st=>bB c st o.dst s K)=some r): o.wp P a w (λa' w'=>dk w w'/\Out c Z K r e.φ w a' w') Q:=by
 have ⟨hx,_⟩:=h.eval x;generalize aP c st x=s at hx hK;unfold SY at hK;split at hK
 .unfold YQ at hK;split at hK
  .rename_i f aV;have ⟨hg,hK⟩:=dQ hK;have ⟨f',cap,hv,G9,FM,lB⟩: ∃(f':Nat) (cap:Array Value),a.eval x= .func (.func f') #[] cap/\e.key f'=f/\il e.key e.φ cap.toList aV/\ ∀m∈aV,m.one=true:=by have ⟨_,hx⟩:=hx;generalize EN:[a.eval x]=vs at hx;cases hx;grind
   have ⟨e1,aZ,ms,h1,h2,h3,h4,EP⟩:=uR h ⟨λ_=>cl.args.toList.map a.eval,rfl,by simp [pE],bj.map h⟩ hK;have ⟨x',hx',QE⟩:=mE EP;have aoe:c.key f'=f:=by rw [<-h.key];exact G9
   have atO:bj e1.key e1.φ cap.toList aV:=by have:=(il.one FM lB).mono h2.on.φ;rw [<-h2.on.key] at this;exact this
   have dx:cR c (λb=>w.heap.size<=b) e1.φ w (c.key f') (cl.args.toList.map a.eval++cap.toList) (ms++aV):=by
    have hg':c.cS (c.key f')=false:=by rw [aoe];simpa using hg
    simp only [cR,hg',akB,if_false];rw [<-h1.key];exact h4.append atO
   have BL:=hS f' (ms++aV) x' (by grind) e1.φ w (λb=>w.heap.size<=b) _ (λb hb=>hb) dx h1.mj;refine y8 ?_ BL ?_
   .have Ti:(cl.args.toList.map a.eval++cap.toList).toArray=cl.args.map a.eval++cap:=by rw [<-akH,<-Array.toList_append,akw]
    grind [execOp,resolve,akI,invoke]
   .rintro v w' ⟨φ',t1,t2,t3⟩;have hh:Handed c Z (λb=>w.heap.size<=b) e1 aZ a w (c.key f') (cl.args.toList.map a.eval++cap.toList) (ms++aV):=by
     refine ⟨h1,λb hb=>hb,h1.cz,?_,?_,dx,λ_ b hb=>hb⟩
     .intro t cs ht hz;have:=Ap h1 ht;omega
     .intro f o b ho hb hz;have:=Aq h1 ho hb;omega
    have hs:=hh.vU.called hh.sub hh.box hh.jC t1 t2;have Cj:Trans Z e1.φ w φ' w':=⟨t1.ph,λb hb=>t1.heap b (λhz=>hb (hh.sub b hz)),λb o hb=>t1.free b o (λhz=>hb (hh.sub b hz)),t1.size,t1.rest⟩
    have ⟨s,g1,g2,hK4⟩:=Ao (e:={e1 with φ:=φ'}) (st:=aZ) h1.key (t3.of (KJ QE)) QE;have ⟨e2,eG,q1,q2,q3⟩:=df hs (.of g1 g2) hK4;exact ⟨⟨t1.size,λb hb=>t1.heap b (by grind) hb,t1.rest⟩,e2,eG,q1,by rw [q3];exact h2.tr.trans Cj,q2⟩
  .simp at hK
 .simp at hK
end
end
end Dn
