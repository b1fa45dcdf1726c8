import GoSem.Dispatch
import Derived.Orders
import Derived.KernelRfl
import Derived.Calls
import Derived.Laws.AppendOwn
import Derived.Laws.AppendOwnNone
import Derived.Deep.MidRow
import Derived.Laws.Strings
import Derived.Laws.Tables
import Derived.Great.FillDense
import Derived.Maps.AppendAt
import Derived.Great.BuildSlice
/- What Go functions come to, on plain values. Conditions: none. -/
open Nat renaming beq→bo,eq_of_beq_eq_true→sh,le_refl→adZ,mul_le_mul_right→ad2,ble→ad3,le_of_ble_eq_true→ad7,le_mul_of_pos_right→aeg,le_trans→aei,add_assoc→aez,zero_add→aeU,add_mul→afa,ble_eq_true_of_le→afS,zero_le→ahl,lt_of_lt_of_le→ahq,add_zero→ahs,succ_mul→ahw
open Option.some renaming injEq→AI
open Bool renaming and_eq_true→AS,or_eq_false_iff→ad1,not_eq_false'→aeY,not_false→ahR
open Go.Value renaming oneCell'→AT,ownBlock→IN,cells→No,slice→aeb,int→ahG
open List renaming getElem?_eq_getElem→BY,append_assoc→IT,length_append→OF,map_cons→ad5,mem_cons→ad6,getElem?_map→ad9,eq_nil_of_length_eq_zero→aec,getElem?_append_right→aee,length_eq_one_iff→aen,take_of_length_le→aer,take_append→aey,getElem?_eq_some_iff→ae3,getElem?_append_left→ae8,extract_eq_take_drop→ae9,drop_append→afj,drop_of_length_le→afw,mem_append→afA,take_left'→afR,mem_iff_getElem→agc,drop_left→agt,take_left→agv,size_toArray→ahF,nodup_cons→ahJ,drop_left'→ahK,replicate→ahP,mem_map→ahS
open Go.Builtin renaming append_→aa0,firstCells→aef,zeroCells→aev,nextslicecap→aeF
open Go.World renaming block_lt_of_cell?→ab3,cell?_of_block→ad8
open Go.Instr renaming sliceBounds→ad0,sureAddr→aeo,sliceBound→aex,loadAt→aeP,fill→ae1,storeAt→afh,indexAt→aho,sliceAt→ahp,slice→ahI
open Go renaming sizeOf→ad4,maxLen→ahn,part→ahO
open Array renaming toList_inj→aea,toList_extract→ahe,size_append→ahA
open Go.Addr renaming add_mid→aed
open BitVec renaming ofInt→aeh
open Go.Op renaming bytesLess→afn,intArith→aga,equal→ahQ
open Go.Sem renaming run_bind→afo,run→aia
open ByteArray renaming data_extract→afu
open Go.Oper renaming upon_value→afK,wp→ahT
open False renaming elim→ahr
open UInt8 renaming ofNat→ahU
open Go.Utf8 renaming decode→ah7
set_option linter.all false
namespace Dn
open Go
noncomputable section
section
theorem aah{p:Prop}(h:p:=by omega):p:=h
theorem aaD{p:Prop}(h:p:=by decide):p:=h
theorem aaM{p:Prop}(h:p:=by kernel_rfl):p:=h
theorem aaS{p:Prop}(h:p:=by simp):p:=h
open Go
abbrev aiB:=List Int
abbrev zA (n:Nat):List Int:=ahP (n+2) 0
inductive MV where
 |b (x:Bool)
 |i (k:IntKind) (n:Int)
 |s (l:List UInt8)
 |h (k:IntKind) (n:Nat) (x:List Int)
 |raw (v:Value)
 |list (xs:List MV)
 |agg (cs:List MV)
 |cT (vs:List MV)
 |func (f:Nat) (cap:List MV)
 |rp (cs:List MV)
 |fresh (xs:List MV)
 |cell (m:MV)
 |im (r:MV) (outs:List MV)
 |clip (xs:List MV)
instance:Inhabited MV:=⟨.b false⟩
mutual
def MV.w:MV->Nat
 | .h _ n _=>n+2
 | .agg cs=>MV.wl cs
 |_=>1
def MV.wl:List MV->Nat
 |[]=>0
 |m::r=>m.w+MV.wl r
end
def rU (n:Nat)(l:List MV):Bool:=l.all λm=>bo m.w n
inductive Kd where
 |b|i (k:IntKind)|s|l|h (k:IntKind) (n:Nat)|raw
structure MS where
 st:Bool
 lay:List Kd
 b:Bool
def MS.it:MS:=⟨true,[],true⟩
def L0 (s:MS):Bool:=match s.lay with
 |[]=>s.st
 |_=>false
inductive ax where
 |un
 |p (m:MV)
 |hs (k:IntKind) (n:Nat) (x:List Int)
 |nil
 |own (fJ:Nat)
 |mp (s:MS) (es:List MV)
def ax.w:ax->Nat
 | .hs _ n _=>n+2
 |_=>1
inductive Slot where
 |skip
 |sc (l:ax)
 |ag (cs:List ax)
 |tg (cs:List ax)
 |cT (vs:List Slot)
 |box (cs:List ax)
 |IK (cs:List ax)
 |ptr (root off:Nat)
 |zK (root:Nat)
 |rp (cs:List ax) (off:Nat)
 |hp (root off n:Nat) (i:Nat)
 |ep (fJ:Nat) (i:Nat) (off:Nat) (st:Bool) (cs:List ax)
abbrev Fr:=List (Nat×Slot)
structure TI where
 st:Bool
 size:Nat
 bytes:Nat
 lay:List Kd
 zero:List ax
 vN:List Nat
 Xh:List Nat
 elem:Nat
 bR:List Nat
section
variable {R:Type}
def gB (m:MV)(K:Bool->Option R):Option R:=match m with| .b x=>K x|_=>none
def gI (k:IntKind)(m:MV)(K:Int->Option R):Option R:=match m with| .i k' n=>bif decide (k'=k) then K n else none|_=>none
def gS (m:MV)(K:List UInt8->Option R):Option R:=match m with| .s l=>K l|_=>none
def gL (m:MV)(K:List MV->Option R):Option R:=match m with| .list l=>K l|_=>none
def gH (k:IntKind)(n:Nat)(m:MV)(K:List Int->Option R):Option R:=match m with| .h k' n' l=>bif decide (k'=k)&&bo n' n then K l else none|_=>none
def gA (m:MV)(K:List MV->Option R):Option R:=match m with| .agg l=>K l|_=>none
def gT (m:MV)(K:List MV->Option R):Option R:=match m with| .cT l=>K l|_=>none
def gF (m:MV)(K:List MV->Option R):Option R:=match m with| .fresh l=>K l|_=>none
def gCl (m:MV)(K:List MV->Option R):Option R:=match m with| .clip l=>K l|_=>none
def SR (m:MV)(K:Nat->List MV->Option R):Option R:=match m with| .func f c=>K f c|_=>none
def gW (m:MV)(K:MV->List MV->Option R):Option R:=match m with| .im r outs=>K r outs|_=>none
def gP (m:MV)(K:List MV->Option R):Option R:=match m with| .rp c=>K c|_=>none
def gCx (m:MV)(K:Nat->Nat->Option R):Option R:=match m with| .raw (.complex .f64 a b)=>K a b|_=>none
def gR (m:MV)(K:MV->Option R):Option R:=match m with| .raw v=>K (.raw v)| .func f c=>K (.func f c)| .rp c=>K (.rp c)|_=>none
def gC (l:List MV)(K:MV->List MV->Option R):Option R:=match l with|m::r=>K m r|[]=>none
def gN (l:List MV)(K:Option R):Option R:=match l with|[]=>K|_=>none
def bd {α:Type}(x:Option α)(K:α->Option R):Option R:=match x with|some a=>K a|none=>none
def aiC (l:List MV)(i:Int):Option MV:=if 0<=i then l[i.toNat]? else none
def idx (l:List MV)(i:Int)(K:MV->Option R):Option R:=match aiC l i with|some x=>K x|none=>none
def fh (c:Bool)(K:Option R):Option R:=match c with|true=>K|false=>none
def gk (c:Bool)(x y:Option R):Option R:=match c with|true=>x|false=>y
def L2:List Nat->Nat->(Nat->Option R)->Option R
 |[],_,_=>none
 |[p],e,K=>bif bo e p then K p else none
 |p::q::r,e,K=>bif bo e p then K p else L2 (q::r) e K
def oz {β:Type}{c:Bool}{k:Option β}{r:β}(h:(bif c then none else k)=some r):c=false/\k=some r:=by cases c<;>simp_all
def ob {β:Type}{c:Bool}{k:Option β}{r:β}(h:(bif c then k else none)=some r):c=true/\k=some r:=by cases c<;>simp_all
def iq (k:Kd)(m:MV)(K:ax->Option R):Option R:=match k with
 | .b=>gB m λx=>K (.p (.b x))
 | .i k=>gI k m λx=>K (.p (.i k x))
 | .s=>gS m λx=>K (.p (.s x))
 | .l=>gL m λx=>K (.p (.list x))
 | .h k n=>gH k n m λx=>K (.hs k n x)
 | .raw=>gR m λm=>K (.p m)
def uK:List Kd->List MV->(List ax->Option R)->Option R
 |[],l,K=>gN l (K [])
 |k::ks,l,K=>gC l λm r=>iq k m λx=>uK ks r λxs=>K (x::xs)
end
def iter {σ R:Type}(body:σ->Option (Sum σ R)):Nat->σ->Option R
 |0,_=>none
 |n+1,s=>match body s with
  |some (.inl s')=>iter body n s'
  |some (.inr r)=>some r
  |none=>none
open Classical in
def sG {σ R:Type}(k:Nat)(body:σ->Option (Sum σ R))(s:σ):Option R:=match iter body k s with
 |some r=>some r
 |none=>if h: ∃r n,iter body n s=some r then some (Classical.choose h) else none
def Loop {σ R:Type}(body:σ->Option (Sum σ R))(s:σ):Option R:=sG 0 body s
mutual
def MV.same:MV->MV->Bool
 | .b x,.b y=>x==y
 | .i k n,.i k' n'=>decide (k=k')&&decide (n=n')
 | .s l,.s l'=>decide (l=l')
 | .h k n x,.h k' n' y=>decide (k=k')&&(bo n n'&&decide (x=y))
 | .list xs,.list ys=>MV.yO xs ys
 | .agg xs,.agg ys=>MV.yO xs ys
 | .cT xs,.cT ys=>MV.yO xs ys
 | .func f xs,.func g ys=>bo f g&&MV.yO xs ys
 | .rp xs,.rp ys=>MV.yO xs ys
 | .fresh xs,.fresh ys=>MV.yO xs ys
 | .cell x,.cell y=>MV.same x y
 | .im x xs,.im y ys=>MV.same x y&&MV.yO xs ys
 | .clip xs,.clip ys=>MV.yO xs ys
 |_,_=>false
def MV.yO:List MV->List MV->Bool
 |[],[]=>true
 |x::xs,y::ys=>MV.same x y&&MV.yO xs ys
 |_,_=>false
end
class B7 (R:Type) where
 eq:R->R->Bool
 ok: ∀{a b:R},eq a b=true->a=b
mutual
def MV.H9: ∀{a b:MV},MV.same a b=true->a=b
 | .b _,.b _,e=>by simp_all [MV.same,beq_iff_eq]
 | .i _ _,.i _ _,e=>by simp_all [MV.same,AS,decide_eq_true_eq]
 | .s _,.s _,e=>by simp_all [MV.same,decide_eq_true_eq]
 | .h _ _ _,.h _ _ _,e=>by simp_all [MV.same,AS,decide_eq_true_eq,sh]
 | .list _,.list _,e=>by simp only [MV.same] at e;rw [MV.mQ e]
 | .agg _,.agg _,e=>by simp only [MV.same] at e;rw [MV.mQ e]
 | .cT _,.cT _,e=>by simp only [MV.same] at e;rw [MV.mQ e]
 | .func _ _,.func _ _,e=>by simp only [MV.same,AS] at e;rw [sh e.1,MV.mQ e.2]
 | .rp _,.rp _,e=>by simp only [MV.same] at e;rw [MV.mQ e]
 | .fresh _,.fresh _,e=>by simp only [MV.same] at e;rw [MV.mQ e]
 | .cell _,.cell _,e=>by simp only [MV.same] at e;rw [MV.H9 e]
 | .im _ _,.im _ _,e=>by simp only [MV.same,AS] at e;rw [MV.H9 e.1,MV.mQ e.2]
 | .clip _,.clip _,e=>by simp only [MV.same] at e;rw [MV.mQ e]
def MV.mQ: ∀{a b:List MV},MV.yO a b=true->a=b
 |[],[],_=>rfl
 |_::_,_::_,e=>by simp only [MV.yO,AS] at e;rw [MV.H9 e.1,MV.mQ e.2]
end
instance:B7 MV:=⟨MV.same,MV.H9⟩
instance:B7 (List MV):=⟨MV.yO,MV.mQ⟩
instance:B7 Nat:=⟨bo,sh⟩
instance:B7 Unit:=⟨λ_ _=>true,λ_=>rfl⟩
instance {A B:Type} [B7 A] [B7 B]:B7 (A×B):=⟨λx y=>B7.eq x.1 y.1&&B7.eq x.2 y.2,λ{a b} h=>by simp only [AS] at h;grind [Prod.ext,B7.ok]⟩
instance {A B:Type} [B7 A] [B7 B]:B7 (Sum A B):=⟨λx y=>match x,y with| .inl a,.inl b=>B7.eq a b| .inr a,.inr b=>B7.eq a b|_,_=>false,(by grind [B7.ok])⟩
def Z3 {R:Type}[B7 R]:Option R->Option R->Bool
 |some a,some b=>B7.eq a b
 |_,_=>false
open Classical in
def both {R:Type}[B7 R](x y:Option R):Option R:=bif Z3 x y then x else if x=y then x else none
theorem Vz {R:Type}[B7 R]{x y:Option R}:both x y=open Classical in if x=y then x else none:=by
 unfold both;cases hs:Z3 x y with
 |false=>rfl
 |true=>
  have e:x=y:=by
   unfold Z3 at hs;split at hs
   .rw [B7.ok hs]
   .cases hs
  grind
def ap:Fr->Nat->Slot
 |[],_=> .sc .un
 |(k,s)::r,t=>bif bo k t then s else ap r t
def L3 {R:Type}:Fr->Nat->Slot->(Fr->Option R)->Option R
 |[],t,v,K=>K [(t,v)]
 |(k,s)::r,t,v,K=>bif bo k t then K ((k,v)::r) else L3 r t v λr=>K ((k,s)::r)
def force {R:Type}(s:Slot)(K:Slot->Option R):Option R:=match s with
 | .skip=>K .skip
 | .sc l=>K (.sc l)
 | .ag cs=>K (.ag cs)
 | .tg cs=>K (.tg cs)
 | .cT vs=>K (.cT vs)
 | .box cs=>K (.box cs)
 | .IK cs=>K (.IK cs)
 | .ptr r o=>K (.ptr r o)
 | .zK r=>K (.zK r)
 | .rp cs o=>K (.rp cs o)
 | .hp r o n i=>K (.hp r o n i)
 | .ep f i o b cs=>K (.ep f i o b cs)
def bB:List Nat->Nat->Bool
 |[],_=>false
 |k::r,t=>bif bo k t then true else bB r t
def A0 (t:Nat):Bool:=ad3 1000000 t
def posOf (t:Nat):Nat:=(t-1000000)%1000
def Qu (t:Nat):Nat:=(t-1000000)/1000
def plk:List (Nat×Nat)->Nat->Option Nat
 |[],_=>none
 |(k,x)::r,t=>bif bo k t then some x else plk r t
def df:Slot->Bool
 | .ptr _ _| .hp _ _ _ _| .ep _ _ _ _ _| .rp _ _| .zK _=>true
 |_=>false
def wi {R:Type}(ds:List Nat):Fr->(Fr->Option R)->Option R
 |[],K=>K []
 |(k,s)::r,K=>bif df s||bB ds k then wi ds r K else wi ds r λr=>K ((k,s)::r)
def cg:Slot->Bool
 | .box _| .IK _=>true
 |_=>false
def pick {R:Type}(ks:List Nat):Fr->(Fr->Option R)->Option R
 |[],K=>K []
 |(k,s)::r,K=>bif bB ks k&&!df s then pick ks r λr=>K ((k,s)::r) else pick ks r K
structure n8 where
 ty:Nat
 fH:Bool
 xs:List MV
structure St where
 ca:List Nat
 ch:List Nat
 fr:Fr
 aF:List (Nat×n8)
def aB:List (Nat×n8)->Nat->Option n8
 |[],_=>none
 |(k,s)::r,t=>bif bo k t then some s else aB r t
def Qv {R:Type}:List (Nat×n8)->Nat->n8->(List (Nat×n8)->Option R)->Option R
 |[],t,v,K=>K [(t,v)]
 |(k,s)::r,t,v,K=>bif bo k t then K ((k,v)::r) else Qv r t v λr=>K ((k,s)::r)
def kB (a b:IntKind):Bool:=decide (a=b)
def kdB:Kd->Kd->Bool
 | .b,.b=>true
 | .i k,.i k'=>kB k k'
 | .s,.s=>true
 | .l,.l=>true
 | .h k n,.h k' n'=>kB k k'&&bo n n'
 | .raw,.raw=>true
 |_,_=>false
def HC:List Kd->List Kd->Bool
 |[],[]=>true
 |x::xs,y::ys=>kdB x y&&HC xs ys
 |_,_=>false
def msB (s t:MS):Bool:=(s.st==t.st)&&(HC s.lay t.lay&&(s.b==t.b))
def uL {R:Type}(f:Nat):List ax->(List ax->Option R)->Option R
 |[],K=>K []
 |l::r,K=>(match l with
  | .own g=>bif bo g f then uL f r λr=>K (.un::r) else uL f r λr=>K (.own g::r)
  |l=>uL f r λr=>K (l::r))
def IM {R:Type}(f:Nat)(s:Slot)(K:Slot->Option R):Option R:=match s with
 | .sc (.own g)=>bif bo g f then K (.sc .un) else K (.sc (.own g))
 | .ag cs=>uL f cs λcs=>K (.ag cs)
 | .tg cs=>uL f cs λcs=>K (.tg cs)
 | .box cs=>uL f cs λcs=>K (.box cs)
 | .ep g i o b cs=>bif bo g f then K (.sc .un) else K (.ep g i o b cs)
 |s=>K s
def kFr {R:Type}(f:Nat):Fr->(Fr->Option R)->Option R
 |[],K=>K []
 |(k,s)::r,K=>IM f s λs=>kFr f r λr=>K ((k,s)::r)
section
variable {R:Type}
def kI (st:St)(l:ax)(K:MV->St->Option R):Option R:=match l with
 | .un=>none
 | .p m=>K m st
 | .hs k n x=>K (.h k n x) st
 | .nil=>K (.list []) st
 | .mp _ _=>none
 | .own f=>match aB st.aF f with
  |some o=>bif o.fH then K (.list o.xs) st else bif bB st.ch f then none else (match st with|⟨p,q,r,m⟩=>Qv m f ⟨o.ty,true,o.xs⟩ λm=>K (.list o.xs) ⟨p,q,r,m⟩)
  |none=>none
def sH (st:St):List ax->(List MV->St->Option R)->Option R
 |[],K=>K [] st
 |l::r,K=>kI st l λm st=>sH st r λms st=>K (m::ms) st
def nz (st:St)(s:Slot)(K:MV->St->Option R):Option R:=match s with
 | .sc l=>kI st l K
 | .ag cs=>sH st cs λms st=>K (.agg ms) st
 | .rp cs off=>bif bo off 0 then sH st cs λms st=>K (.rp ms) st else none
 |_=>none
def xl (st:St):List Slot->(List MV->St->Option R)->Option R
 |[],K=>K [] st
 |l::r,K=>nz st l λm st=>xl st r λms st=>K (m::ms) st
end
def Cy:List ax->Nat
 |[]=>0
 |k::r=>k.w+Cy r
def cut:List ax->Nat->Option (List ax)
 |cs,0=>some cs
 |c::cs,n+1=>bif ad3 c.w (n+1) then cut cs (n+1-c.w) else none
 |_,_=>none
def S7:List ax->Nat->Option (List ax)
 |_,0=>some []
 |c::cs,n+1=>bif ad3 c.w (n+1) then (match S7 cs (n+1-c.w) with|some b=>some (c::b)|none=>none) else none
 |_,_=>none
def part (cs:List ax)(off n:Nat):Option (List ax):=match cut cs off with
 |some a=>S7 a n
 |none=>none
def over:List ax->List ax->Option (List ax)
 |[],cs=>some cs
 |v::vs,c::cs=>bif bo v.w c.w then (match over vs cs with|some r=>some (v::r)|none=>none) else none
 |_,[]=>none
def putAt:List ax->Nat->List ax->Option (List ax)
 |cs,0,vs=>over vs cs
 |c::cs,n+1,vs=>bif ad3 c.w (n+1) then (match putAt cs (n+1-c.w) vs with|some r=>some (c::r)|none=>none) else none
 |_,_,_=>none
def app {α:Type}:List α->List α->Option (List α)
 |[],l=>some l
 |x::r,l=>(match app r l with|some q=>some (x::q)|none=>none)
def S8:ax->Bool
 | .un=>true
 | .mp _ _=>true
 |_=>false
def dx:List ax->Bool
 |[.mp _ _]=>true
 |_=>false
def Fg:Slot->Bool
 | .box cs=>!dx cs
 |_=>false
def IP {R:Type}(ok:Nat->Bool)(r0:Fr):Fr->Fr->(Fr->Option R)->Option R
 |[],fr,K=>K fr
 |(t,s)::r,fr,K=>match s with
  | .ptr root off=>bif ok t&&(!A0 root&&(Fg (ap r0 root)&&(Fg (ap fr root)&&!cg (ap fr t)))) then L3 fr t (.ptr root off) λfr=>IP ok r0 r fr K else IP ok r0 r fr K
  |_=>IP ok r0 r fr K
def lk:List ax->Bool
 |[.mp s _]=>!L0 s
 |_=>false
def B8:List ax->Bool
 |[]=>false
 |l::r=>bif S8 l then true else B8 r
def kEp {R:Type}(f:Nat):Fr->(Fr->Option R)->Option R
 |[],K=>K []
 |(k,s)::r,K=>(match s with
  | .ep g i o b cs=>bif bo g f then kEp f r λr=>K ((k,.sc .un)::r) else kEp f r λr=>K ((k,.ep g i o b cs)::r)
  |s=>kEp f r λr=>K ((k,s)::r))
inductive LK where
 |k (x:Kd)
 |own (f:Nat) (ty:Nat) (fH:Bool)
inductive OK where
 |sc (l:LK)
 |ag (ls:List LK)
 |box (ls:List LK)
 |mp (s:MS)
 |pt (root off:Nat)
structure eE where
 ca:List Nat
 ch:List Nat
 outs:List (Nat×OK)
 exo:List (Nat×List (Nat×OK))
 fH:List Nat
instance:Inhabited eE:=⟨⟨[],[],[],[],[]⟩⟩
def Z4:List (Nat×List (Nat×OK))->Nat->List (Nat×OK)
 |[],_=>[]
 |(k,l)::r,e=>bif bo k e then l else Z4 r e
def eE.ex (h:eE)(e:Nat):List (Nat×OK):=Z4 h.exo e
def VA:List (Nat×List (Nat×OK))->List (Nat×OK)
 |[]=>[]
 |(_,l)::r=>l++VA r
def eE.all (h:eE):List (Nat×OK):=h.outs++VA h.exo
structure Ctx where
 ti:Nat->Option TI
 key:Nat->Nat
 g:Nat->List MV->Option MV
 bK:Nat->Bool
 fresh:Nat->Bool
 lq:Nat->Nat
 sig:Nat->Option (Nat×List LK×List LK)
 par:List (Nat×Nat)
 n:Nat
 bs:List Nat
 fl:List Nat
 fz:Nat->List Nat
 fk:Nat->Option FloatKind
 mt:Nat->Option (Nat×Bool)
 ord:Nat->List Nat
 dO:Nat->eE
 eg:Nat->eE
 ec:Nat->eE
 Oo:Nat->Bool
 dyn:List Nat
 fuel:Nat
def Ctx.tv (c:Ctx)(t:Nat):Option TI:=match c.ti t with|some I=>(match I.bR with|[]=>some I|_=>none)|none=>none
def A3:Value->Slot
 | .bool b=> .sc (.p (.b b))
 | .int k n=> .sc (.p (.i k n))
 | .string s=> .sc (.p (.s s.data.toList))
 | .slice none 0 0=> .sc .nil
 | .float k b=> .sc (.p (.raw (.float k b)))
 | .complex k a b=> .sc (.p (.raw (.complex k a b)))
 | .pointer none=> .sc (.p (.raw (.pointer none)))
 | .nilFunc=> .sc (.p (.raw .nilFunc))
 | .nilIface=> .sc (.p (.raw .nilIface))
 |_=> .sc .un
def az (c:Ctx)(st:St):Operand->Slot
 | .tmp t=>match plk c.par t with
  |some q=>bif A0 q&&bo (posOf q) t then (match ap st.fr q with| .box cs=>bif dx cs then .sc .un else .ptr q (Qu q)|_=> .sc .un) else .sc .un
  |none=>match ap st.fr t with
   | .box cs=>bif A0 t then .sc .un else bif lk cs then .zK t else .ptr t 0
   | .IK cs=> .rp cs 0
   |s=>s
 | .const v=>A3 v
 | .func f=> .sc (.p (.func (c.key f) []))
 | .global _=> .sc .un
def jh (c:Ctx)(st:St):List Operand->List Slot
 |[]=>[]
 |o::r=>az c st o::jh c st r
section
variable {R:Type}
def wr (st:St)(d:Nat)(s:Slot)(K:St->Option R):Option R:=bif bB st.ca d then none else (match st with|⟨p,q,r,m⟩=>force s λs=>L3 r d s λr=>K ⟨p,q,r,m⟩)
def aR (c:Ctx)(st:St)(d:Option Nat)(s:Slot)(K:St->Option R):Option R:=match d with
 |some d=>bif A0 d||(ad3 c.n d||cg (ap st.fr d)) then none else wr st d s K
 |none=>K st
def ir (st:St)(f:Nat)(o:n8)(K:St->Option R):Option R:=bif bB st.ch f then none else (match st with|⟨p,q,r,m⟩=>kFr f r λr=>Qv m f o λm=>K ⟨p,q,r,m⟩)
def iB (I:TI)(cs:List ax)(off:Nat)(K:Slot->Option R):Option R:=bif I.st then (match part cs off I.size with|some a=>K (.ag a)|none=>none)
 else (match cut cs off with|some (l::_)=>bif bo l.w I.size then K (.sc l) else none|_=>none)
def ldK (st:St)(I:TI)(a:Slot)(K:Slot->Option R):Option R:=match a with
 | .ptr root off=>match ap st.fr root with
  | .box cs=>bif dx cs then none else iB I cs off K
  |_=>none
 | .rp cs off=>iB I cs off K
 | .ep f _ off _ cs=>(match aB st.aF f with|some _=>iB I cs off K|none=>none)
 | .hp root off n i=>bif I.st||!bo I.size 1 then none else (match ap st.fr root with
  | .box cs=>bif dx cs then none else (match cut cs off with|some (.hs k n' x::_)=>bif bo n' n then K (.sc (.p (.i k (x.getD i 0)))) else none|_=>none)
  |_=>none)
 |_=>none
def aD:Slot->List ax
 | .sc l=>[l]
 | .ag cs=>cs
 |_=>[]
def bw:List ax->Option (List MV)
 |[]=>some []
 |l::r=>match l,bw r with
  | .p m,some q=>some (m::q)
  | .hs k n x,some q=>some (.h k n x::q)
  |_,_=>none
def rm:List ax->List MV->Option (List ax)
 |[],[]=>some []
 | .hs k n x::r,_::ms=>(match rm r ms with|some q=>some (.hs k n x::q)|none=>none)
 |_::r,m::ms=>(match rm r ms with|some q=>some (.p m::q)|none=>none)
 |_,_=>none
def vO (b:Bool)(cs:List MV):Option MV:=match b,cs with
 |false,[m]=>some m
 |true,cs=>some (.agg cs)
 |_,_=>none
def isByte (n:Int):Bool:=decide (n=((ahU n.toNat).toNat:Int))
def stK (st:St)(I:TI)(a v:Slot)(K:St->Option R):Option R:=bif B8 (aD v)||!bo (Cy (aD v)) I.size then none else
 match a with
 | .ptr root off=>match ap st.fr root with
  | .box cs=>bif dx cs then none else (match putAt cs off (aD v) with|some gl=>wr st root (.box gl) K|none=>none)
  |_=>none
 | .hp root off n i=>match ap st.fr root,v with
  | .box cs,.sc (.p m)=>bif dx cs then none else (match cut cs off with
   |some (.hs k n' x::_)=>bif bo n' n then gI k m λv=>(match putAt cs off [.hs k n' (x.set i v)] with|some gl=>wr st root (.box gl) K|none=>none) else none
   |_=>none)
  |_,_=>none
 | .ep f i off b cs=>sH st (aD v) λms st=>match aB st.aF f with
  |some o=>bif o.fH then none else
   (match rm (aD v) ms with
   |some vs=>(match putAt cs off vs with
    |some gl=>(match bw gl with
     |some ms'=>(match vO b ms' with
      |some x=>bif bB st.ch f then none else
       (match st with|⟨p,q,r,m⟩=>kEp f r λr=>Qv m f ⟨o.ty,false,o.xs.set i x⟩ λm=>K ⟨p,q,r,m⟩)
      |none=>none)
     |none=>none)
    |none=>none)
   |none=>none)
  |none=>none
 |_=>none
def Oq (I:TI)(x:MV)(K:List ax->Option R):Option R:=bif I.st then gA x λcs=>uK I.lay cs K
 else match I.lay with
  |[k]=>iq k x λx=>K [x]
  |_=>none
def uM (I:TI)(x:MV)(K:Slot->Option R):Option R:=bif I.st then gA x λcs=>uK I.lay cs λcs=>K (.ag cs)
 else match I.lay with
  |[k]=>iq k x λx=>K (.sc x)
  |_=>none
def zL (c:Ctx):List Nat->List MV->(List Slot->Option R)->Option R
 |[],l,K=>gN l (K [])
 |t::ts,l,K=>match c.tv t with
  |some I=>gC l λm r=>uM I m λs=>zL c ts r λss=>K (s::ss)
  |none=>none
def kS (c:Ctx)(I:TI)(x:MV)(K:Slot->Option R):Option R:=match I.bR with
 |[]=>uM I x K
 |ts=>gT x λvs=>zL c ts vs λss=>K (.cT ss)
def IQ:ax->ax->Option Bool
 | .p (.b x),.p (.b y)=>some (decide (x=y))
 | .p (.i k x),.p (.i k' y)=>bif decide (k=k') then some (decide (x=y)) else none
 | .p (.s x),.p (.s y)=>some (decide (x=y))
 | .hs k n x,.hs k' n' y=>bif decide (k=k')&&bo n n' then some (decide (x=y)) else none
 |_,_=>none
def jo:List ax->List ax->Option Bool
 |[],[]=>some true
 |[x],[y]=>IQ x y
 |x::xs,y::ys=>match IQ x y,jo xs ys with
  |some a,some b=>some (a&&b)
  |_,_=>none
 |_,_=>none
def Ot (op:BinOp)(x y:List UInt8):Option MV:=match op with
 | .eql=>some (.b (decide (x=y)))
 | .neq=>some (.b (!decide (x=y)))
 | .lss=>some (.b (afn x y))
 | .gtr=>some (.b (!(afn x y||decide (x=y))))
 | .leq=>some (.b (afn x y||decide (x=y)))
 | .geq=>some (.b (!afn x y))
 |_=>none
def S9 (k:IntKind)(x y:Int):Int:=k.wrap ((aeh k.bits x&&&aeh k.bits y).toNat:Int)
def bOr (k:IntKind)(x y:Int):Int:=k.wrap ((aeh k.bits x|||aeh k.bits y).toNat:Int)
def IU (k:IntKind)(x y:Int):Int:=k.wrap ((aeh k.bits x^^^aeh k.bits y).toNat:Int)
def VB (op:BinOp)(k:IntKind)(x y:Int):Option MV:=match op with
 | .add=>some (.i k (k.wrap (x+y)))
 | .sub=>some (.i k (k.wrap (x-y)))
 | .mul=>some (.i k (k.wrap (x *y)))
 | .and=>some (.i k (S9 k x y))
 | .or=>some (.i k (bOr k x y))
 | .xor=>some (.i k (IU k x y))
 | .eql=>some (.b (decide (x=y)))
 | .neq=>some (.b (!decide (x=y)))
 | .lss=>some (.b (decide (x<y)))
 | .leq=>some (.b (decide (x<=y)))
 | .gtr=>some (.b (decide (y<x)))
 | .geq=>some (.b (decide (y<=x)))
 |_=>none
def pD:Kd->ax->Bool
 | .b,.p (.b _)=>true
 | .i k,.p (.i k' _)=>decide (k'=k)
 | .s,.p (.s _)=>true
 | .h k n,.hs k' n' _=>decide (k'=k)&&bo n' n
 |_,_=>false
def gm:List Kd->List ax->Bool
 |[],[]=>true
 |k::ks,l::ls=>bif pD k l then gm ks ls else false
 |_,_=>false
def pE (st:Bool):Slot->Bool
 | .ag _=>st
 | .sc _=>!st
 |_=>false
def al3 (op:BinOp)(a b:Nat):Option Nat:=match op with
 | .add=>FloatKind.f64.format.add a b
 | .sub=>FloatKind.f64.format.sub a b
 | .mul=>FloatKind.f64.format.mul a b
 |_=>none
def Z5:List ax->Bool
 |[.p (.raw (.pointer none))]=>true
 |_=>false
def aiD (oI:Option TI)(op:BinOp)(x y:Slot)(K:Slot->Option R):Option R:=match x,y with
 | .sc (.p (.i k a)),.sc (.p (.i k' b))=>
  (match op with
   | .quo=>bif decide (k=k') then fh (!decide (b=0)) (K (.sc (.p (.i k (k.wrap (a.tdiv b)))))) else none
   | .rem=>bif decide (k=k') then fh (!decide (b=0)) (K (.sc (.p (.i k (a.tmod b))))) else none
   | .shr=>fh (decide (0<=b)) (K (.sc (.p (.i k (a.fdiv (2^min b.toNat k.bits))))))
   | .shl=>fh (decide (0<=b)) (K (.sc (.p (.i k (k.wrap (a *2^min b.toNat k.bits))))))
   |_=>bif decide (k=k') then (match VB op k a b with|some m=>K (.sc (.p m))|none=>none) else none)
 | .sc (.p (.s a)),.sc (.p (.s b))=>(match op with
  | .add=>fh (decide (a.length+b.length<=2^46)) (K (.sc (.p (.s (a++b)))))
  |_=>(match Ot op a b with|some m=>K (.sc (.p m))|none=>none))
 | .ptr _ _,.sc (.p (.raw (.pointer none)))=>(match oI,op with
  |some I,.eql=>bif Z5 I.zero then K (.sc (.p (.b false))) else none
  |some I,.neq=>bif Z5 I.zero then K (.sc (.p (.b true))) else none
  |_,_=>none)
 | .sc (.p (.raw (.float .f64 a))),.sc (.p (.raw (.float .f64 b)))=>bd (al3 op a b) λr=>K (.sc (.p (.raw (.float .f64 r))))
 |x,y=>match oI with
  |some I=>bif gm I.lay (aD x)&&gm I.lay (aD y)&&(pE I.st x&&pE I.st y) then (match op with
   | .eql=>(match jo (aD x) (aD y) with|some b=>K (.sc (.p (.b b)))|none=>none)
   | .neq=>(match jo (aD x) (aD y) with|some b=>K (.sc (.p (.b (!b))))|none=>none)
   |_=>none) else none
  |none=>none
def sliceB (lo hi:Option Slot)(len:Nat)(K:Nat->Nat->Option R):Option R:=match lo,hi with
 |none,none=>K 0 len
 |some (.sc (.p (.i _ l))),none=>fh (decide (0<=l/\l<=(len:Int)/\(len:Int)<=(len:Int))) (K l.toNat (Int.toNat (len:Int)))
 |none,some (.sc (.p (.i _ h)))=>fh (decide (0<=(0:Int)/\(0:Int)<=h/\h<=(len:Int))) (K (Int.toNat 0) h.toNat)
 |some (.sc (.p (.i _ l))),some (.sc (.p (.i _ h)))=>fh (decide (0<=l/\l<=h/\h<=(len:Int))) (K l.toNat h.toNat)
 |_,_=>none
def na (c:Ctx)(st:St):Option Operand->Option Slot
 |some o=>some (az c st o)
 |none=>none
def zM:List ax->Option (List MV)
 |[]=>some []
 |l::r=>match l,zM r with
  | .p m,some q=>some (m::q)
  | .hs k n x,some q=>some (.h k n x::q)
  | .nil,some q=>some (.list []::q)
  |_,_=>none
def Z6 (d:Nat)(st:St)(I E:TI)(x y:Slot)(K:Slot->St->Option R):Option R:=match x,y with
 | .sc (.p (.i _ n)),.sc (.p (.i _ m))=>bif ad3 1 E.bytes then fh (decide ((0:Int)<=n/\n<=m/\m *E.bytes<=2^46)) (match zM E.zero with
  |some zs=>(match vO E.st zs with
   |some z=>ir st d ⟨I.elem,false,ahP n.toNat z⟩ λst=>K (.sc (.own d)) st
   |none=>none)
  |none=>none) else none
 |_,_=>none
def TI.GN (I:TI):Bool:=match I.st,I.lay with|false,[.l]=>true|_,_=>false
def TI.Z7 (I:TI):Bool:=match I.st,I.lay with|false,[.s]=>true|_,_=>false
def Xi (E:TI):Bool:=match E.st,E.lay with
 |false,[.i k]=>decide (k= .u8)
 |_,_=>false
def IV (l:List UInt8):List MV:=l.map λb=> .i .u8 (b.toNat:Int)
def Ta (c:Ctx)(u:Nat)(E:TI)(x:Slot)(K:List MV->Option R):Option R:=match c.tv u,x with
 |some T,.sc (.p (.s l))=>bif T.Z7&&Xi E then K (IV l) else none
 |_,_=>none
def Ou (I E:TI)(st:St)(x:Slot)(K:List MV->Option R):Option R:=match x with
 | .sc (.p (.list xs))=>fh (rU E.size xs) (K xs)
 | .sc .nil=>K []
 | .sc (.own f)=>(match aB st.aF f with|some o=>bif bo o.ty I.elem then K o.xs else none|none=>none)
 |_=>none
def Cz (c:Ctx)(st:St)(I:TI):List (Nat×Operand)->List ax->Option (List ax)
 |[],cs=>some cs
 |(i,o)::r,cs=>match I.vN[i]?,I.Xh[i]? with
  |some q,some y=>(match c.tv y with
   |some J=>bif B8 (aD (az c st o))||!bo (Cy (aD (az c st o))) J.size then none else
    (match putAt cs q (aD (az c st o)) with|some gl=>Cz c st I r gl|none=>none)
   |none=>none)
  |_,_=>none
def IW (c:Ctx)(st:St)(k:IntKind)(n:Nat):List (Nat×Operand)->List Int->(List Int->Option R)->Option R
 |[],x,K=>K x
 |(i,o)::r,x,K=>match az c st o with
  | .sc (.p m)=>bif ad3 (n+2) i then none else gI k m λv=>IW c st k n r (x.set i v) K
  |_=>none
def Z8 (c:Ctx)(st:St):List (Nat×Operand)->Nat->(List MV->St->Option R)->Option R
 |[],_,K=>K [] st
 |(i,o)::r,n,K=>bif bo i n then nz st (az c st o) λm st=>Z8 c st r (n+1) λms st=>K (m::ms) st else none
def B9 (c:Ctx)(st:St):List Operand->(List MV->St->Option R)->Option R
 |[],K=>K [] st
 |o::r,K=>match az c st o with
  | .ptr root 0=>(match ap st.fr root with
   | .box cs=>bif B8 cs||A0 root then none else sH st cs λms st=>(match rm cs ms with|some gl=>wr st root (.IK gl) λst=>B9 c st r λxs st=>K (.rp ms::xs) st|none=>none)
   |_=>none)
  | .rp cs 0=>sH st cs λms st=>B9 c st r λxs st=>K (.rp ms::xs) st
  |_=>none
def DL (c:Ctx)(k:Nat)(st:St)(s:Slot)(K:MV->St->Option R):Option R:=match s with
 | .sc (.own f)=>(match aB st.aF f with
  |some o=>bif o.fH||!bo o.ty (c.lq k) then none else ir st f ⟨o.ty,true,[]⟩ λst=>K (.fresh o.xs) st
  |none=>none)
 | .sc .nil=>(match c.tv (c.lq k) with|some _=>K (.fresh []) st|none=>none)
 |_=>none
def VC (c:Ctx)(k:Nat)(st:St)(ss:List Slot)(K:List MV->St->Option R):Option R:=bif c.bK k then (match ss with
  |[s0,s1,s2]=>(match s2 with
   | .sc (.p m2)=>nz st s1 λm1 st=>DL c k st s0 λm0 st=>K [m0,m1,m2] st
   |s2=>nz st s1 λm1 st=>DL c k st s0 λm0 st=>DL c k st s2 λm2 st=>K [m0,m1,m2] st)
  |_=>none)
 else xl st ss K
def Fh (x y:Int):Int:=if y<x then y else x
def imax (x y:Int):Int:=if y>x then y else x
def Z9 (mx:Bool)(k:IntKind):Int->List Slot->Option MV
 |x,[]=>some (.i k x)
 |x,.sc (.p (.i k' y))::r=>bif decide (k'=k) then Z9 mx k (bif mx then imax x y else Fh x y) r else none
 |_,_=>none
def Tb (mx:Bool):List Slot->Option MV
 | .sc (.p (.i k n))::r=>Z9 mx k n r
 |_=>none
def aek:List Nat->Bool
 |[]=>false
 |_=>true
def IX (c:Ctx):List Nat->List MV->(List ax->Option R)->Option R
 |[],l,K=>gN l (K [])
 |t::ts,l,K=>match c.tv t with
  |some I=>gC l λm r=>uM I m λs=>(match s with| .sc (.p m)=>IX c ts r λls=>K (.p m::ls)|_=>none)
  |none=>none
def IZ (c:Ctx)(d:Nat)(st:St)(f:Nat)(r:MV)(ts:List Nat)(K:Slot->St->Option R):Option R:=match ts with
 |[]=>none
 |t0::ts=>(match c.tv t0 with
  |some I0=>bif !bo I0.elem (c.lq f) then none else gT r λvs=>gC vs λx vs=>gF x λxs=>IX c ts vs λls=>ir st d ⟨I0.elem,false,xs⟩ λst=>(bif bB c.bs d then kI st (.own d) λm st=>K (.tg (.p m::ls)) st else K (.tg (.own d::ls)) st)
  |none=>none)
def ahf (c:Ctx)(d:Nat)(st:St)(f:Nat)(ms:List MV)(I:TI)(K:Slot->St->Option R):Option R:=bd (c.g f ms) λr=>bif c.fresh f then bif bo (c.lq f) 0 then gCl r λxs=>K (.sc (.p (.clip xs))) st else bif aek I.bR then IZ c d st f r I.bR K else gF r λxs=>bif !bo I.elem (c.lq f) then none else ir st d ⟨I.elem,false,xs⟩ λst=>(bif bB c.bs d then kI st (.own d) λm st=>K (.sc (.p m)) st else K (.sc (.own d)) st) else kS c I r λs=>K s st
def Ov (I:TI):Bool:=match I.st,I.bR,I.lay with
 |false,[],[.b]=>true
 |false,[],[.i _]=>true
 |false,[],[.s]=>true
 |_,_,_=>false
def aaa (c:Ctx)(d:Nat)(st:St)(k:Nat)(ss:List Slot)(I:TI)(K:Slot->St->Option R):Option R:=bif Ov I&&(!c.bK k&&!c.fresh k) then xl st ss λms _=>bd (c.g k ms) λr=>kS c I r λs=>K s st
 else VC c k st ss λms st=>ahf c d st k ms I K
def aiE (s:Slot)(K:Slot->Option R):Option R:=match s with
 | .ptr r o=>K (.ptr r o)
 | .rp cs o=>K (.rp cs o)
 | .sc (.p m)=>gP m λc=>K (.sc (.p (.rp c)))
 |_=>none
def aab (x y z:Slot)(K:Slot->Option R):Option R:=match x with
 | .sc (.p (.b v))=>(match y,z with
  | .sc (.p (.b p)),.sc (.p (.b q))=>K (.sc (.p (.b (bif v then p else q))))
  |p,q=>match v with|true=>K p|false=>K q)
 |_=>none
def aiF (I:TI)(s:Slot)(K:Slot->Option R):Option R:=match s with
 | .sc l=>bif I.st||S8 l||!bo l.w I.size then none else K (.box [l])
 | .ag cs=>bif I.st&&!B8 cs&&bo (Cy cs) I.size then K (.box cs) else none
 |_=>none
def unK (op:UnOp)(s:Slot)(K:Slot->Option R):Option R:=match op,s with
 | .not,.sc (.p (.b v))=>K (.sc (.p (.b (!v))))
 | .neg,.sc (.p (.i k n))=>K (.sc (.p (.i k (k.wrap (0-n)))))
 |_,_=>none
def aac (I:TI)(fk:Option FloatKind)(s:Slot)(K:Slot->Option R):Option R:=match I.st,I.bR,I.lay,s with
 |false,[],[.i k],.sc (.p (.i _ n))=>K (.sc (.p (.i k (k.wrap n))))
 |false,[],[.s],.sc (.p (.s l))=>K (.sc (.p (.s l)))
 |false,[],[.i k],.sc (.p (.raw (.float .f64 a)))=>bd ((FloatKind.decode .f64 a).toInt .zero) λn=>fh (decide (k.min<=n/\n<=k.max)) (K (.sc (.p (.i k n))))
 |false,[],[.raw],.sc (.p (.i _ n))=>(match fk with
  |some .f64=>K (.sc (.p (.raw (.float .f64 (FloatKind.nearest .f64 n)))))
  |_=>none)
 |_,_,_,_=>none
def Tc (c:Ctx)(I:TI)(st:St)(s:Slot)(lo hi:Option Slot)(K:Slot->St->Option R):Option R:=match s with
 | .sc (.p (.s l))=>bif I.Z7 then sliceB lo hi l.length λa b=>K (.sc (.p (.s ((l.take b).drop a)))) st else none
 | .sc (.p (.list l))=>bif I.GN then (match c.tv I.elem with
  |some E=>(match lo with
   |none=>sliceB none hi l.length λa b=>K (.sc (.p (.list ((l.take b).drop a)))) st
   |some lo=>fh (rU E.size l) (sliceB (some lo) hi l.length λa b=>K (.sc (.p (.list ((l.take b).drop a)))) st))
  |none=>none) else none
 | .sc (.own f)=>(match aB st.aF f with
  |some o=>bif I.GN&&bo o.ty I.elem then kI st (.own f) λ_ st=>sliceB lo hi o.xs.length λa b=>K (.sc (.p (.list ((o.xs.take b).drop a)))) st else none
  |none=>none)
 | .sc .nil=>bif I.GN then sliceB lo hi 0 λ_ _=>K (.sc .nil) st else none
 |_=>none
def aad (I:TI)(s h m:Slot)(K:Slot->Option R):Option R:=match s,h,m with
 | .sc (.p (.list l)),.sc (.p (.i .i64 n)),.sc (.p (.i .i64 n'))=>bif I.GN then fh (decide (n=(l.length:Int)/\n'=(l.length:Int))) (K (.sc (.p (.clip l)))) else none
 |_,_,_=>none
def aae (st:St)(I:TI)(f:Nat)(s:Slot)(K:Slot->Option R):Option R:=match I.st,I.vN[f]?,s with
 |true,some q,.ptr r o=>K (.ptr r (o+q))
 |true,some q,.rp cs o=>K (.rp cs (o+q))
 |true,some q,.ep g i o b cs=>(match aB st.aF g with|some _=>K (.ep g i (o+q) b cs)|none=>none)
 |_,_,_=>none
def aiG (c:Ctx)(I:TI)(f:Nat)(s:Slot)(K:Slot->Option R):Option R:=match I.st,I.vN[f]?,I.Xh[f]?,s with
 |true,some q,some y,.ag cs=>(match c.tv y with|some J=>iB J cs q K|none=>none)
 |_,_,_,_=>none
def aiH (c:Ctx)(st:St)(I E:TI)(x i:Slot)(K:Slot->Option R):Option R:=match x,i with
 | .sc (.p (.list xs)),.sc (.p (.i _ n))=>bif I.GN then idx xs n λx=>Oq E x λcs=>K (.rp cs 0) else none
 | .sc (.own f),.sc (.p (.i _ n))=>(match aB st.aF f with
  |some o=>bif I.GN then idx o.xs n λx=>Oq E x λcs=>K (.ep f n.toNat 0 E.st cs) else none
  |none=>none)
 | .ptr r o,.sc (.p (.i _ n))=>bif I.st then none else (match I.lay with|[.h _ m]=>fh (decide ((0:Int)<=n/\n<((m+2:Nat):Int))) (K (.hp r o m n.toNat))|_=>none)
 | .sc (.p (.rp c)),.sc (.p (.i _ n))=>bif I.st then none else (match I.lay with|[.h k m]=>gC c λh r=>gN r<|gH k m h λx=>fh (decide ((0:Int)<=n/\n<((m+2:Nat):Int))) (K (.rp [.p (.i k (x.getD n.toNat 0))] 0))|_=>none)
 |_,_=>none
def ixK (I:TI)(x i:Slot)(K:Slot->Option R):Option R:=match I.st,I.lay,x,i with
 |false,[.s],.sc (.p (.s l)),.sc (.p (.i _ n))=>fh (decide ((0:Int)<=n/\n<(l.length:Int))) (K (.sc (.p (.i .u8 (l.getD n.toNat 0).toNat))))
 |false,[.h k' m'],.sc (.hs k m x),.sc (.p (.i _ n))=>bif bo m' m&&decide (k'=k) then fh (decide ((0:Int)<=n/\n<((m+2:Nat):Int))) (K (.sc (.p (.i k (x.getD n.toNat 0))))) else none
 |_,_,_,_=>none
def VD (k:IntKind):List MV->(List Int->Option R)->Option R
 |[],K=>K []
 |m::r,K=>gI k m λn=>VD k r λl=>K (n::l)
def aiI (st:St)(I:TI)(s:Slot)(K:Slot->St->Option R):Option R:=match I.st,I.lay with
 |false,[.h k m]=>nz st s λx st=>gL x λxs=>fh (decide (m+2<=xs.length)) (VD k xs λns=>K (.rp [.hs k m (ns.take (m+2))] 0) st)
 |_,_=>none
def DM:List ax->Nat->Option ax
 | .p m::_,0=>some (.p m)
 | .own f::_,0=>some (.own f)
 | .un::_,0=>some .un
 | .p _::r,k+1=>DM r k
 | .own _::r,k+1=>DM r k
 | .un::r,k+1=>DM r k
 |_,_=>none
def aiJ (s:Slot)(k:Nat)(K:Slot->Option R):Option R:=match s with
 | .tg cs=>(match DM cs k with|some l=>K (.sc l)|none=>none)
 | .cT vs=>(match vs[k]? with|some s=>K s|none=>none)
 |_=>none
def aaf (I:TI)(st:St)(ss:List Slot)(K:Slot->Option R):Option R:=match ss with
 |[.sc (.p (.s l))]=>bif I.Z7 then K (.sc (.p (.i .i64 l.length))) else none
 |[.sc (.p (.list l))]=>bif I.GN then K (.sc (.p (.i .i64 l.length))) else none
 |[.sc .nil]=>bif I.GN then K (.sc (.p (.i .i64 0))) else none
 |[.sc (.own f)]=>bif I.GN then (match aB st.aF f with|some o=>K (.sc (.p (.i .i64 o.xs.length)))|none=>none) else none
 |_=>none
def Xj (pb:Bool)(d:Nat)(st:St)(I E:TI)(s:Slot)(ys:List MV)(K:Slot->St->Option R):Option R:=bif ad3 1 E.bytes then (match s with
 | .sc .nil=>fh (decide (ys.length *E.bytes<=2^46)) (ir st d ⟨I.elem,false,ys⟩ λst=>K (.sc (.own d)) st)
 | .sc (.own f)=>(match aB st.aF f with
  |some w=>fh (decide ((w.xs.length+ys.length) *E.bytes<=2^46)) (bif bo w.ty I.elem then ir st f ⟨w.ty,w.fH,w.xs++ys⟩ λst=>bif pb then kI st (.own f) λm st=>K (.sc (.p m)) st else K (.sc (.own f)) st else none)
  |none=>none)
 | .sc (.p (.clip xs))=>fh (rU E.size xs) (fh (decide (0<ys.length/\(xs.length+ys.length) *E.bytes<=2^46)) (ir st d ⟨I.elem,false,xs++ys⟩ λst=>bif pb then kI st (.own d) λm st=>K (.sc (.p m)) st else K (.sc (.own d)) st))
 |_=>none) else none
def Ow (c:Ctx)(st:St)(I:TI)(f:Slot)(ss:List Slot)(K:Slot->St->Option R):Option R:=match f with
 | .sc (.p m)=>SR m λf aJ=>fh (!c.bK f)<|xl st ss λms st=>bd (c.g f (ms++aJ)) λr=>kS c I r λs=>K s st
 |_=>none
def L4:MV->MV->Bool
 | .b x,.b y=>decide (x=y)
 | .i k x,.i k' y=>decide (k=k')&&decide (x=y)
 | .s x,.s y=>decide (x=y)
 | .h k n x,.h k' n' y=>decide (k=k')&&(bo n n'&&decide (x=y))
 |_,_=>false
def jS:List MV->List MV->Bool
 |[],[]=>true
 |x::xs,y::ys=>L4 x y&&jS xs ys
 |_,_=>false
def sI:MV->List MV
 | .cT (.agg k::_)=>k
 |_=>[]
def al4:MV->MV
 | .cT [_,v]=>v
 |_=> .b false
def jj:List MV->List MV->Nat
 |[],_=>0
 |e::r,ks=>bif jS (sI e) ks then 0 else jj r ks+1
def asI:MV->Int
 | .i _ n=>n
 |_=>0
def asB:MV->Bool
 | .b x=>x
 |_=>false
def ahg (es:List MV)(ks:List MV):Int:=match es[jj es ks]? with|some e=>asI (al4 e)|none=>0
def ahh (es:List MV)(ks:List MV):Bool:=match es[jj es ks]? with|some e=>asB (al4 e)|none=>false
def Fi (es ks:List MV)(z:MV):List MV:=bif bo (jj es ks) es.length then es++[.cT [.agg ks,z]] else es
def L5 (es:List MV)(i:Nat)(v:MV):List MV:=match es[i]? with|some e=>es.set i (.cT [.agg (sI e),v])|none=>es
def ji (b:Bool):MV:=bif b then .b false else .i .i64 0
def wj (c:Ctx)(t:Nat):Option MS:=match c.mt t with
 |some (kt,b)=>(match c.tv kt with|some I=>bif L0 ⟨I.st,I.lay,b⟩ then none else some ⟨I.st,I.lay,b⟩|none=>none)
 |none=>none
def Qw (s:MS)(k:Slot)(K:List MV->Option R):Option R:=bif gm s.lay (aD k)&&pE s.st k then (match bw (aD k) with|some ks=>K ks|none=>none) else none
def L6 (st:St)(s:MS)(m:Slot)(K:Nat->List MV->Option R):Option R:=match m with
 | .zK r=>(match ap st.fr r with| .box [.mp s' es]=>bif msB s s'&&!L0 s' then K r es else none|_=>none)
 |_=>none
def Xk (b:Bool)(s:Slot)(K:MV->Option R):Option R:=match b,s with
 |true,.sc (.p (.b x))=>K (.b x)
 |false,.sc (.p (.i .i64 n))=>K (.i .i64 n)
 |_,_=>none
def I3 (st:St)(r:Nat)(s:MS)(es:List MV)(K:St->Option R):Option R:=wr st r (.box [.mp s es]) K
def isLT (c:Ctx)(y:Nat):Bool:=match c.tv y with|some Y=>Y.GN|none=>false
def Td (c:Ctx)(y t:Nat):Bool:=match c.tv y,c.tv t with
 |some Y,some I=>Y.Z7&&I.GN&&(match c.tv I.elem with|some E=>Xi E|none=>false)
 |_,_=>false
def eY (c:Ctx)(o:Oper):Bool:=match o.op with
 | .assign (.tmp _)=>(match c.mt o.type with|some _=>true|none=>false)
 | .convert y t _=>Td c y t
 |_=>false
def Ia (c:Ctx)(o:Oper)(st:St)(x:Operand)(K:Slot->St->Option R):Option R:=match x,c.mt o.type with
 | .tmp t,some _=>(match ap st.fr t with
  | .box cs=>bif dx cs then bif bB st.ca t||A0 t then none else (match st with|⟨p,q,r,m⟩=>wi [t] r λr=>K (.box cs) ⟨p,q,r,m⟩) else K (az c st x) st
  |_=>K (az c st x) st)
 |_,_=>K (az c st x) st
def Fj (s:MS)(es ks:List MV):Slot:=bif s.b then .sc (.p (.b (ahh es ks))) else .sc (.p (.i .i64 (ahg es ks)))
def ahi (c:Ctx)(st:St)(t:Nat)(m k:Slot)(K:Slot->Option R):Option R:=match wj c t with
 |some s=>L6 st s m λ_ es=>Qw s k λks=>K (Fj s es ks)
 |none=>none
def ahj (c:Ctx)(st:St)(t:Nat)(m k v:Slot)(K:St->Option R):Option R:=match wj c t with
 |some s=>L6 st s m λr es=>Qw s k λks=>Xk s.b v λv=>I3 st r s (L5 (Fi es ks (ji s.b)) (jj es ks) v) K
 |none=>none
def aag (c:Ctx)(st:St)(t:Nat)(m k:Slot)(K:Slot->St->Option R):Option R:=match wj c t with
 |some s=>L6 st s m λr es=>Qw s k λks=>I3 st r s (Fi es ks (ji s.b)) λst=>K (.cT [Fj s es ks,.sc (.p (.i .i64 (jj es ks)))]) st
 |none=>none
def al5 (c:Ctx)(st:St)(t:Nat)(m i v:Slot)(K:St->Option R):Option R:=match wj c t with
 |some s=>L6 st s m λr es=>(match i with
  | .sc (.p (.i .i64 n))=>fh (decide (0<=n/\n.toNat<es.length)) (Xk s.b v λv=>I3 st r s (L5 es n.toNat v) K)
  |_=>none)
 |none=>none
def itS (es:List MV):List UInt8:=match es with|[.s l,.i .i64 _]=>l|_=>[]
def sJ (es:List MV):Int:=match es with|[.s _,.i .i64 n]=>n|_=>0
def L7 (es:List MV):Bool:=decide (sJ es<((itS es).length:Int))
def CA (es:List MV):Int:=(ah7 ⟨(itS es).toArray⟩ (sJ es).toNat).1
def CB (es:List MV):List MV:=[.s (itS es),.i .i64 (sJ es+(ah7 ⟨(itS es).toArray⟩ (sJ es).toNat).2)]
def itK (st:St)(x:Slot)(K:Slot->St->Option R):Option R:=match x with
 | .ptr t 0=>(match ap st.fr t with
  | .box [.mp s es]=>bif L0 s then
   gk (L7 es) (wr st t (.box [.mp s (CB es)]) λst=>K (.cT [.sc (.p (.b true)),.sc (.p (.i .i64 (sJ es))),.sc (.p (.i .i32 (CA es)))]) st) (K (.cT [.sc (.p (.b false))]) st)
   else none
  |_=>none)
 |_=>none
def byK (m:MV)(K:UInt8->Option R):Option R:=gI .u8 m λn=>fh (isByte n) (K (ahU n.toNat))
def L8:List MV->(List UInt8->Option R)->Option R
 |[],K=>K []
 |m::r,K=>byK m λb=>L8 r λl=>K (b::l)
def Te (I:TI)(x:Slot)(K:Slot->Option R):Option R:=match x with
 | .sc (.p (.s l))=>bif I.Z7 then K (.box [.mp MS.it [.s l,.i .i64 0]]) else none
 |_=>none
def aai (c:Ctx)(st:St)(Y I:TI)(x:Slot)(K:Slot->Option R):Option R:=match c.tv Y.elem with
 |some E=>bif I.Z7&&Xi E then (match x with
  | .sc (.p (.list xs))=>L8 xs λl=>K (.sc (.p (.s l)))
  | .sc .nil=>K (.sc (.p (.s [])))
  | .sc (.own f)=>(match aB st.aF f with
   |some o=>bif bo o.ty Y.elem then L8 o.xs λl=>K (.sc (.p (.s l))) else none
   |none=>none)
  |_=>none) else none
 |none=>none
def still (c:Ctx)(o:Oper):Bool:=match o.op,o.dst with
 | .load _ _,some d=>bB c.fl d
 |_,_=>false
def bx:List LK->List Nat
 |[]=>[]
 | .own f _ _::r=>f::bx r
 |_::r=>bx r
def meets:List Nat->List Nat->Bool
 |[],_=>false
 |k::r,l=>bif bB l k then true else meets r l
def gn (c:Ctx):List LK->Bool
 |[]=>true
 | .own _ ty _::r=>(match c.tv ty with|some _=>gn c r|none=>false)
 |_::r=>gn c r
def pF (ps:List (Nat×Nat))(f g:Nat):Bool:=match ps with
 |[]=>true
 |(a,b)::r=>(bif bo a f then bo b g&&!bo g 0 else (bif bo b g then bo g 0 else true))&&pF r f g
def Ox (st:St)(ps:List (Nat×Nat))(k:LK)(l:ax)(K:MV->List (Nat×Nat)->Option R):Option R:=match k,l with
 | .k .l,.nil=>K (.list []) ps
 | .k (.h k n),.hs k' n' x=>bif decide (k'=k)&&bo n' n then K (.h k n x) ps else none
 | .k x,.p m=>iq x m λ_=>K m ps
 | .own f ty fH,.own g=>match aB st.aF g with
  |some o=>bif !bo o.ty ty||(o.fH&&!fH)||bB st.ch g||!pF ps f (g+1) then none else K (.list o.xs) ((f,g+1)::ps)
  |none=>none
 | .own f _ _,.nil=>bif pF ps f 0 then K (.list []) ((f,0)::ps) else none
 |_,_=>none
def kT (st:St):List (Nat×Nat)->List LK->List ax->(List MV->List (Nat×Nat)->Option R)->Option R
 |ps,[],[],K=>K [] ps
 |ps,k::ks,l::ls,K=>Ox st ps k l λm ps=>kT st ps ks ls λms ps=>K (m::ms) ps
 |_,_,_,_=>none
def kJ (st:St)(k:LK)(m:MV)(K:ax->St->Option R):Option R:=match k with
 | .k x=>iq x m λl=>K l st
 | .own f ty fH=>gL m λxs=>(match st with|⟨p,q,r,n⟩=>Qv n f ⟨ty,fH,xs⟩ λn=>K (.own f) ⟨p,q,r,n⟩)
def ck (st:St):List LK->List MV->(List ax->List MV->St->Option R)->Option R
 |[],ms,K=>K [] ms st
 |k::ks,ms,K=>gC ms λm r=>kJ st k m λl st=>ck st ks r λls ms st=>K (l::ls) ms st
def Qx (gs:List Nat):List (Nat×n8)->(List (Nat×n8)->Option R)->Option R
 |[],K=>K []
 |(k,o)::r,K=>bif bB gs k then Qx gs r K else Qx gs r λr=>K ((k,o)::r)
def ael:List Nat->Fr->(Fr->Option R)->Option R
 |[],r,K=>K r
 |f::fs,r,K=>kFr f r λr=>ael fs r K
def dH:List (Nat×Nat)->List Nat
 |[]=>[]
 |(_,0)::r=>dH r
 |(_,g+1)::r=>g::dH r
def M5:List Nat->List (Nat×n8)->Bool
 |[],_=>false
 |f::r,m=>(match aB m f with|some _=>true|none=>M5 r m)
def M6 (st:St)(root:Nat)(ks:List LK)(ps:List (Nat×Nat))(outs:List MV)(K:St->Option R):Option R:=ck ⟨[],[],[],[]⟩ ks outs λcs rest A4=>gN rest<|Qx (dH ps) st.aF λm=>
  bif M5 (bx ks) m||meets (bx ks) st.ch then none else
   ael (bx ks) st.fr λr=>L3 r root (.box cs) λr=>(match app A4.aF m with|some m=>K ⟨st.ca,st.ch,r,m⟩|none=>none)
def VE (c:Ctx)(gv:Bool)(g:List MV->Option MV)(pos:Nat)(ks ko:List LK)(st:St)(ss:List Slot)(I:Option TI)(K:Slot->St->Option R):Option R:=match ss[pos]? with
 |some (.ptr root off)=>xl st (ss.take pos) λm1 st=>xl st (ss.drop (pos+1)) λm2 st=>
  (match ap st.fr root with
  | .box cs=>bif dx cs||bB st.ca root||!gn c ks||!gv then none else kT st [] ks cs λls ps=>
   (match app m1 (.cell (.func off ls)::m2) with
   |some ms=>bd (g ms) λx=>gW x λr outs=>M6 st root ko ps outs λst=>(match I with
    |some I=>kS c I r λs=>K s st
    |none=>K (.sc .un) st)
   |none=>none)
  |_=>none)
 |_=>none
def aaj (c:Ctx)(key pos:Nat)(ks ko:List LK)(st:St)(ss:List Slot)(I:Option TI)(K:Slot->St->Option R):Option R:=VE c (c.bK key) (c.g key) pos ks ko st ss I K
def VF:List LK->List LK->Bool
 |[],[]=>true
 | .k k1::r,.k k2::q=>kdB k1 k2&&VF r q
 | .own f t z::r,.own f' t' z'::q=>bo f f'&&(bo t t'&&(z==z'&&VF r q))
 |_,_=>false
def Qy (c:Ctx)(pos:Nat)(ks ko:List LK):List Nat->Bool
 |[]=>true
 |k::r=>(match c.sig k with|some sg=>bo sg.1 pos&&(VF sg.2.1 ks&&VF sg.2.2 ko)|none=>false)&&(c.bK k&&Qy c pos ks ko r)
def aak (c:Ctx)(Xl:List Nat)(st:St)(f:Slot)(ss:List Slot)(I:Option TI)(K:Slot->St->Option R):Option R:=match f,Xl with
 | .sc (.p m),k0::_=>(match c.sig k0 with
  |some sg=>bif Qy c sg.1 sg.2.1 sg.2.2 Xl then SR m λk aJ=>gN aJ<|VE c true (λms=>L2 Xl k λk=>c.g k ms) sg.1 sg.2.1 sg.2.2 st ss I K else none
  |none=>none)
 |_,_=>none
def opK (c:Ctx)(o:Oper)(st:St)(K:Slot->St->Option R):Option R:=match o.op with
 | .move x=>K (az c st x) st
 | .assign x=>Ia c o st x K
 | .makeMap t none=>(match wj c t with|some s=>K (.box [.mp s []]) st|none=>none)
 | .lookup t m k false=>ahi c st t (az c st m) (az c st k) λs=>K s st
 | .mapUpdate t m k v=>ahj c st t (az c st m) (az c st k) (az c st v) λst=>K (.sc .un) st
 | .mapEntry t m k=>aag c st t (az c st m) (az c st k) K
 | .entryStore t m i v=>al5 c st t (az c st m) (az c st i) (az c st v) λst=>K (.sc .un) st
 | .nilCheck x=>aiE (az c st x) λs=>K s st
 | .pick x a b=>aab (az c st x) (az c st a) (az c st b) λs=>K s st
 | .alloc t=>(match c.tv t with|some I=>K (.box I.zero) st|none=>none)
 | .box t x=>(match c.tv t with|some I=>aiF I (az c st x) λs=>K s st|none=>none)
 | .build t parts=>(match c.tv t with
  |some I=>bif I.st then (match Cz c st I parts.toList I.zero with|some cs=>K (.ag cs) st|none=>none)
   else (match I.lay with|[.h k n]=>IW c st k n parts.toList (zA n) λx=>K (.sc (.hs k n x)) st|_=>none)
  |none=>none)
 | .buildSlice t n parts=>(match c.tv t with
  |some I=>bif I.GN then (match c.tv I.elem with
   |some E=>bif ad3 (n *E.size) 16777216 then Z8 c st parts.toList 0 λms st=>bif bo ms.length n then fh (rU E.size ms) (bif bB c.bs (o.dst.getD 0) then K (.sc (.p (.list ms))) st else ir st (o.dst.getD 0) ⟨I.elem,false,ms⟩ λst=>K (.sc (.own (o.dst.getD 0))) st) else none else none
   |none=>none) else none
  |none=>none)
 | .makeSlice t x y=>(match c.tv t with
  |some I=>bif I.GN then (match c.tv I.elem with|some E=>Z6 (o.dst.getD 0) st I E (az c st x) (az c st y) K|none=>none) else none
  |none=>none)
 | .load t a=>(match c.tv t with
  |some I=>bif still c o then (match az c st a with| .rp cs off=>iB I cs off λs=>K s st|_=>none) else ldK st I (az c st a) λs=>K s st
  |none=>none)
 | .store t a v=>(match c.tv t with|some I=>stK st I (az c st a) (az c st v) λst=>K (.sc .un) st|none=>none)
 | .binOp op t x y _=>aiD (c.tv t) op (az c st x) (az c st y) λs=>K s st
 | .unOp op _ x=>unK op (az c st x) λs=>K s st
 | .convert y t x=>bif isLT c y then (match c.tv y,c.tv t with|some Y,some I=>aai c st Y I (az c st x) λs=>K s st|_,_=>none)
  else bif Td c y t then (match az c st x with| .sc (.p (.s l))=>K (.sc (.p (.list (IV l)))) st|_=>none)
  else (match c.ti y,c.tv t with|some _,some I=>aac I (c.fk t) (az c st x) λs=>K s st|_,_=>none)
 | .range t x=>(match c.tv t with|some I=>Te I (az c st x) λs=>K s st|none=>none)
 | .next x true=>itK st (az c st x) K
 | .makeFunc (.func f) first aJ=>(match first.toList with
  |[]=>B9 c st aJ.toList λms st=>K (.sc (.p (.func (c.key f) ms))) st
  |_=>none)
 | .slice t x lo hi none=>(match c.tv t with|some I=>Tc c I st (az c st x) (na c st lo) (na c st hi) K|none=>none)
 | .slice t x none (some h) (some m)=>(match c.tv t with|some I=>aad I (az c st x) (az c st h) (az c st m) λs=>K s st|none=>none)
 | .fieldAddr t x f=>(match c.tv t with|some I=>aae st I f (az c st x) λs=>K s st|none=>none)
 | .field t x f=>(match c.tv t with|some I=>aiG c I f (az c st x) λs=>K s st|none=>none)
 | .indexAddr t x i=>(match c.tv t with
  |some I=>(match c.tv I.elem with|some E=>aiH c st I E (az c st x) (az c st i) λs=>K s st|none=>none)
  |none=>none)
 | .index t x i=>(match c.tv t with|some I=>ixK I (az c st x) (az c st i) λs=>K s st|none=>none)
 | .extract x k=>aiJ (az c st x) k λs=>K s st
 | .sliceToArrayPointer t x=>(match c.tv t with|some I=>aiI st I (az c st x) K|none=>none)
 | .call cl=>(match cl.callee with
  | .value (.func f)=>(match c.sig (c.key f) with
   |some sg=>aaj c (c.key f) sg.1 sg.2.1 sg.2.2 st (jh c st cl.args.toList) (c.ti o.type) K
   |none=>match c.ti o.type with
   |some I=>aaa c (o.dst.getD 0) st (c.key f) (jh c st cl.args.toList) I K
   |none=>none)
  | .value x=>(match c.dyn with
   |_::_=>aak c c.dyn st (az c st x) (jh c st cl.args.toList) (c.ti o.type) K
   |[]=>match c.ti o.type with
   |some I=>Ow c st I (az c st x) (jh c st cl.args.toList) K
   |none=>none)
  | .builtin .len=>(match cl.argTypes.toList with
   |[t]=>(match c.tv t with|some I=>aaf I st (jh c st cl.args.toList) λs=>K s st|none=>none)
   |_=>none)
  | .builtin .append=>(match jh c st cl.args.toList,cl.argTypes.toList with
   |[s,x],[t,t']=>(match c.tv t with
    |some I=>bif I.GN then (match c.tv I.elem with
     |some E=>bif bo t t' then Ou I E st x λys=>Xj (bB c.bs (o.dst.getD 0)) (o.dst.getD 0) st I E s ys K else Ta c t' E x λys=>Xj (bB c.bs (o.dst.getD 0)) (o.dst.getD 0) st I E s ys K
     |none=>none) else none
    |none=>none)
   |_,_=>none)
  | .builtin .real=>(match jh c st cl.args.toList with|[.sc (.p m)]=>gCx m λx _=>K (.sc (.p (.raw (.float .f64 x)))) st|_=>none)
  | .builtin .imag=>(match jh c st cl.args.toList with|[.sc (.p m)]=>gCx m λ_ y=>K (.sc (.p (.raw (.float .f64 y)))) st|_=>none)
  | .builtin .complex=>(match jh c st cl.args.toList with|[.sc (.p (.raw (.float .f64 x))),.sc (.p (.raw (.float .f64 y)))]=>K (.sc (.p (.raw (.complex .f64 x y)))) st|_=>none)
  | .builtin .min=>(match Tb false (jh c st cl.args.toList) with|some m=>K (.sc (.p m)) st|none=>none)
  | .builtin .max=>(match Tb true (jh c st cl.args.toList) with|some m=>K (.sc (.p m)) st|none=>none)
  |_=>none)
 |_=>none
def Tf (all:List Oper)(o:Oper)(st:St)(K:Bool->St->Option R):Option R:=match o.guard with
 |none=>K true st
 |some (j,want)=>match all[j]? with
  |some p=>(match p.dst with
   |some t=>(match ap st.fr t with
    | .sc (.p (.b v))=>(match v with
     |true=>(match st with|⟨p,q,r,m⟩=>L3 r t (.sc (.p (.b true))) λr=>K want ⟨p,q,r,m⟩)
     |false=>(match st with|⟨p,q,r,m⟩=>L3 r t (.sc (.p (.b false))) λr=>K (!want) ⟨p,q,r,m⟩))
    | .skip=>K false st
    |_=>none)
   |none=>none)
  |none=>none
def aal (c:Ctx)(all:List Oper)(o:Oper)(st:St)(K:St->Option R):Option R:=Tf all o st λgo st=>
  bif go then opK c o st λs st=>aR c st o.dst s K
  else aR c st o.dst .skip K
def DN (c:Ctx)(all:List Oper):List Oper->St->(St->Option R)->Option R
 |[],st,K=>K st
 |o::r,st,K=>aal c all o st λst=>DN c all r st K
def dL (st:St):List (Nat×Nat)->List (Nat×OK)->(List MV->Option R)->Option R
 |_,[],K=>K []
 |ps,(t,k)::r,K=>match k,ap st.fr t with
  | .sc k,.sc l=>kT st ps [k] [l] λms ps=>dL st ps r λns=>(match app ms ns with|some l=>K l|none=>none)
  | .ag ks,.ag ls=>kT st ps ks ls λms ps=>dL st ps r λns=>(match app ms ns with|some l=>K l|none=>none)
  | .box ks,.box ls=>kT st ps ks ls λms ps=>dL st ps r λns=>(match app ms ns with|some l=>K l|none=>none)
  | .mp s,.box [.mp s' es]=>bif msB s s' then dL st ps r λns=>K (.list es::ns) else none
  | .pt root off,.ptr aam Tg=>bif bo root aam&&(bo off Tg&&(!A0 root&&Fg (ap st.fr root))) then dL st ps r K else none
  |_,_=>none
def L9 (st:St)(t:Nat)(s:Slot)(K:St->Option R):Option R:=match st with|⟨p,q,r,m⟩=>L3 r t s λr=>K ⟨p,q,r,m⟩
def aan:List (Nat×OK)->List MV->St->(St->Option R)->Option R
 |[],ms,st,K=>gN ms (K st)
 |(t,k)::r,ms,st,K=>match k,st with
  | .pt root off,⟨p,q,fr,m⟩=>bif !A0 root&&(Fg (ap fr root)&&!cg (ap fr t)) then L3 fr t (.ptr root off) λfr=>aan r ms ⟨p,q,fr,m⟩ K else none
  |_,_=>none
def od (st:St):List (Nat×OK)->List MV->(St->Option R)->Option R
 |[],ms,K=>gN ms (K st)
 |(t,k)::r,ms,K=>match k with
  | .sc k=>ck st [k] ms λls ms st=>(match ls with|[l]=>L9 st t (.sc l) λst=>od st r ms K|_=>none)
  | .ag ks=>ck st ks ms λls ms st=>L9 st t (.ag ls) λst=>od st r ms K
  | .box ks=>bif A0 t&&!bB st.ca (posOf t) then none else ck st ks ms λls ms st=>L9 st t (.box ls) λst=>od st r ms K
  | .mp s=>bif A0 t then none else gC ms λm ms=>gL m λes=>L9 st t (.box [.mp s es]) λst=>od st r ms K
  | .pt root off=>aan ((t,.pt root off)::r) ms st K
end
def du:List (Nat×OK)->List Nat
 |[]=>[]
 |(t,_)::r=>t::du r
def bO:List (Nat×OK)->List Nat
 |[]=>[]
 |(_,.sc k)::r=>bx [k]++bO r
 |(_,.ag ks)::r=>bx ks++bO r
 |(_,.box ks)::r=>bx ks++bO r
 |(_,.mp _)::r=>bO r
 |(_,.pt _ _)::r=>bO r
def minus:List Nat->List Nat->List Nat
 |[],_=>[]
 |k::r,l=>bif bB l k then minus r l else k::minus r l
def uN {R:Type}(ps:List Nat):List ax->(List ax->Option R)->Option R
 |[],K=>K []
 |l::r,K=>(match l with
  | .own g=>bif bB ps g then uN ps r λr=>K (.own g::r) else uN ps r λr=>K (.un::r)
  |l=>uN ps r λr=>K (l::r))
def M7 {R:Type}(ps:List Nat)(s:Slot)(K:Slot->Option R):Option R:=match s with
 | .sc (.own g)=>bif bB ps g then K (.sc (.own g)) else K (.sc .un)
 | .ag cs=>uN ps cs λcs=>K (.ag cs)
 | .tg cs=>uN ps cs λcs=>K (.tg cs)
 | .box cs=>uN ps cs λcs=>K (.box cs)
 |s=>K s
def nFr {R:Type}(ps:List Nat):Fr->(Fr->Option R)->Option R
 |[],K=>K []
 |(k,s)::r,K=>M7 ps s λs=>nFr ps r λr=>K ((k,s)::r)
def M8 {R:Type}(ks fs qs:List Nat):List (Nat×n8)->(List (Nat×n8)->Option R)->Option R
 |[],K=>K []
 |(k,o)::r,K=>bif bB ks k then M8 ks fs qs r λr=>(bif bB fs k&&!bB qs k then K ((k,⟨o.ty,true,o.xs⟩)::r) else K ((k,o)::r)) else M8 ks fs qs r K
def et (c:Ctx):List (Nat×OK)->Bool
 |[]=>true
 |(_,.sc k)::r=>bif gn c [k] then et c r else false
 |(_,.ag ks)::r=>bif gn c ks then et c r else false
 |(_,.box ks)::r=>bif gn c ks then et c r else false
 |(_,.mp _)::r=>et c r
 |(_,.pt _ _)::r=>et c r
def Th {R:Type}(c:Ctx)(h:eE)(st:St)(K:St->St->Option R):Option R:=match st with
 |⟨p,q,r,m⟩=>
  bif !et c h.all||meets (du h.all) p||meets (bO h.all) q||meets (du h.all) h.ca||meets (bO h.all) h.ch then none else
  match app h.ca p,app h.ch q with
  |some p',some q'=>
   pick h.ca r λrp=>nFr h.ch rp λrp=>pick (du h.all) r λro=>
   M8 h.ch h.fH q m λmp=>M8 (bO h.all) h.fH q m λmo=>
   (match app rp ro,app mp mo with
    |some r1,some m1=>K ⟨p',q',r1,m1⟩ ⟨p',q',rp,mp⟩
    |_,_=>none)
  |_,_=>none
def Fk {R:Type}(c:Ctx)(h:eE)(st:St)(K:St->St->Option R):Option R:=Th c h st λcz cj=>IP (λt=>bB h.ca t||bB (du h.all) t) st.fr st.fr cz.fr λfr=>K ⟨cz.ca,cz.ch,fr,cz.aF⟩ cj
def CC (st cj:St):St:=match st,cj with|⟨p,q,_,_⟩,⟨_,_,r,m⟩=>⟨p,q,r,m⟩
def guarded:List Oper->Bool
 |[]=>false
 |o::r=>match o.guard with|some _=>true|none=>guarded r
def qm:List Oper->List Nat
 |[]=>[]
 |o::r=>match o.op,o.dst with
  | .alloc _,some d=>d::qm r
  | .box _ _,some d=>d::qm r
  | .makeMap _ _,some d=>d::qm r
  | .range _ _,some d=>d::qm r
  |_,_=>qm r
def CD {R:Type}(ds:List Nat)(st:St)(K:St->Option R):Option R:=match st with|⟨p,q,r,m⟩=>wi ds r λr1=>IP (λt=>!bB ds t) r r r1 λr=>K ⟨p,q,r,m⟩
def eZ:Code->Option Nat
 | .region id _ _=>some id
 | .seq a b=>match eZ a with|some n=>some n|none=>eZ b
 | .cond _ a b=>match eZ a with|some n=>some n|none=>eZ b
 | .block _ b| .loop b| .scope b=>eZ b
 |_=>none
def uni:List Nat->List Nat->List Nat
 |[],l=>l
 |k::r,l=>bif bB l k then uni r l else k::uni r l
def lr:Code->List Nat
 | .skip| .region _ _ _=>[0]
 | .seq a b=>bif bB (lr a) 0 then uni (minus (lr a) [0]) (lr b) else lr a
 | .cond _ a b=>uni (lr a) (lr b)
 | .block id b=>bif bB (lr b) (id+2) then uni (minus (lr b) [0,id+2]) [0] else lr b
 | .loop b=>minus (lr b) [0]
 | .exit id=>[id+2]
 | .ret=>[1]
 |_=>[]
def mR (o:Oper):Bool:=match o.op with
 | .load _ _=>true
 | .lookup _ _ _ false=>true
 |_=>false
def jq (c:Ctx)(o:Oper):Bool:=mR o||(match o.op with
 | .convert y _ _=>isLT c y
 |_=>false)
def zN (o:Oper):Option Nat:=match o.op with
 | .lookup t _ _ false=>some t
 |_=>none
def aao (o:Oper):Option Nat:=match o.op with
 | .mapEntry t _ _=>some t
 |_=>none
def uO (o p:Oper):Bool:=match zN o,aao p with
 |some t,some t'=>bo t t'
 |_,_=>false
def fK (o:Oper):Bool:=match o.op with
 | .move _| .assign _| .nilCheck _| .pick _ _ _| .build _ _| .load _ _| .binOp _ _ _ _ _| .unOp _ _ _| .convert _ _ _| .makeFunc _ _ _| .slice _ _ _ _ _| .fieldAddr _ _ _| .field _ _ _| .indexAddr _ _ _| .index _ _ _| .extract _ _| .lookup _ _ _ false=>true
 | .call cl=>(match cl.callee with| .builtin .len| .builtin .min| .builtin .max| .builtin .real| .builtin .imag| .builtin .complex=>true|_=>false)
 |_=>false
def zd (c:Ctx)(o:Oper):Bool:=match o.op with
 | .alloc _| .box _ _| .buildSlice _ _ _| .makeSlice _ _ _=>true
 | .call cl=>(match cl.callee with| .value (.func f)=>!c.bK (c.key f)| .value _=>(match c.dyn with|[]=>true|_::_=>false)|_=>false)
 |_=>false
def Ti:Op->List Operand
 | .build _ ps=>ps.toList.map (·.2)
 | .buildSlice _ _ ps=>ps.toList.map (·.2)
 | .makeFunc _ first captured=>first.toList++captured.toList
 | .slice _ x l h m=>x::(l.toList++(h.toList++m.toList))
 | .call c=>(match c.callee with| .value f=>[f]| .invoke r _=>[r]| .builtin _=>[])++c.args.toList
 |op=>op.operands.toList
def Qz:List Operand->List Nat
 |[]=>[]
 | .tmp t::r=>t::Qz r
 |_::r=>Qz r
def Oy (ops:List Oper)(o:Oper):List Nat:=Qz (Ti o.op)++(match o.guard with|some (g,_)=>(match ops[g]? with|some p=>p.dst.toList|none=>[])|none=>[])
def I4 (ops:List Oper)(x y:Oper):Bool:=(match x.dst with|some d=>!bB (Oy ops y) d&&(match y.dst with|some d'=>!bo d' d|none=>true)|none=>true)&& (match y.dst with|some d=>!bB (Oy ops x) d|none=>true)
def I5 (e:Edge):Bool:=match e.ground with
 | .textOnly _=>false
 | .gcOnly _=>false
 |_=>true
def Fl (o:Oper)(p:Nat->Bool):Bool:=o.after.toList.any λe=>I5 e&&p e.on
def al6 (ops:List Oper):Bool:=ops.all λo=>match o.op with| .select _ _=>false|_=>true
def Oz (c:Ctx)(o:Oper):Bool:=fK o||zd c o
def qz (c:Ctx)(ops:List Oper)(o:Oper):List Nat->List Nat->Bool
 |_,[]=>true
 |D,y::r=>match ops[y]? with
  |some p=>bif Fl p (bB D) then qz c ops o (y::D) r else I4 ops o p&&(!jq c o||Oz c p||still c o||uO o p)&&qz c ops o D r
  |none=>false
def HD (o:Oper):Bool:=match o.op,o.dst,o.guard with
 | .alloc _,some _,none=>o.after.toList.all λe=>!I5 e
 |_,_,_=>false
def aiK (c:Ctx)(o:Oper):Bool:=match o.op with
 | .alloc t=>(match c.tv t with|some _=>true|none=>false)
 |_=>false
def aiL (ops:List Oper)(i:Nat):Bool:=match ops[i]? with
 |some o=>HD o
 |none=>false
def qA (c:Ctx)(ops:List Oper):List Nat->List Nat->Bool
 |_,[]=>true
 |pre,x::rest=>(match ops[x]? with
  |some o=>(o.after.toList.all λe=>!I5 e||bB pre e.on)&&!bB pre x&&!bB rest x&& (bif fK o&&!eY c o then qz c ops o [x] rest
    else (rest.all λy=>match ops[y]? with
     |some p=>bif HD p then I4 ops p o&&aiK c p else Fl p (λi=>bo i x||(bB rest i&&!aiL ops i))
     |none=>false))&&qA c ops (x::pre) rest
  |none=>false)
def sK (c:Ctx)(ops:Array Oper)(ord:List Nat):Bool:=al6 ops.toList&&bo ord.length ops.toList.length&&(List.range ops.toList.length).all (bB ord)&&qA c ops.toList [] ord
def Ic {R:Type}(c:Ctx)(id:Nat)(ops l:List Oper)(st:St)(K:St->Option R):Option R:=bif guarded ops then
  Fk c (c.dO id) st λcz cj=>bd (CD (qm ops) cz λcz=>DN c ops l cz λst=>dL st [] ((c.dO id).ex 0) some) λvs=>od (CC st cj) ((c.dO id).ex 0) vs K
 else CD (qm ops) st λst=>DN c ops l st K
def qn (ops:List Oper):List Nat->Option (List Oper)
 |[]=>some []
 |i::r=>match ops[i]?,qn ops r with
  |some o,some l=>some (o::l)
  |_,_=>none
def pG {S:Type}(step:S->MV->Option (Bool×S)):S->List MV->Option (List MV×S)
 |s,[]=>some ([],s)
 |s,x::xs=>match step s x with
  |some (b,s1)=>(match pG step s1 xs with|some (ys,s2)=>some (bif b then ys else x::ys,s2)|none=>none)
  |none=>none
def aap (g:Nat->List MV->Option MV)(k:Nat)(aJ:List MV):Unit->MV->Option (Bool×Unit):=λ_ x=>match g k (x::aJ) with
 |some (.b b)=>some (b,())
 |_=>none
def QA (g:Nat->List MV->Option MV)(k:Nat)(aJ:List MV):List MV->MV->Option (Bool×List MV):=λls x=>match g k (x::(aJ++[.cell (.func 0 ls)])) with
 |some (.im (.b b) outs)=>some (b,outs)
 |_=>none
def Xm:MV->Bool
 | .agg _=>true
 |_=>false
def aaq {R:Type}(c:Ctx)(h f:Nat)(aJ:List Operand)(x:Operand)(o1 o2:Oper)(st:St)(K:St->Option R):Option R:=
 let fin (ys:List MV) (st:St):Option R:=ir st (o2.dst.getD 0) ⟨c.lq (c.key h),false,ys⟩ λst=>aR c st o2.dst (.sc (.own (o2.dst.getD 0))) λst=>aR c st o1.dst (.sc .un) K;match c.sig (c.key f) with
 |none=>bif c.bK (c.key f) then none else B9 c st aJ λms st=>DL c (c.key h) st (az c st x) λm st=>gF m λxs=>fh (xs.all Xm)<|bd (pG (aap c.g (c.key f) ms) () xs) λp=>fin p.1 st
 |some sg=>B9 c st aJ.dropLast λms st=>DL c (c.key h) st (az c st x) λm st=>gF m λxs=>fh (xs.all Xm)<| (match aJ.getLast? with
  |some y=>(match az c st y with
   | .ptr root 0=>(match ap st.fr root with
    | .box cs=>bif dx cs||bB st.ca root||!gn c sg.2.1||!bo sg.1 (ms.length+1)||!c.bK (c.key f)||!VF sg.2.1 sg.2.2 then none else
     kT st [] sg.2.1 cs λls ps=>bd (pG (QA c.g (c.key f) ms) ls xs) λp=>M6 st root sg.2.1 ps p.2 λst=>fin p.1 st
    |_=>none)
   |_=>none)
  |none=>none)
def GO (c:Ctx):List Oper->List Oper->Option (List Oper×Nat×List Operand×Nat×Operand×Oper×Oper×List Oper)
 |pre,o1::o2::r=>match o1.op,o2.op with
  | .makeFunc (.func f) first aJ,.call cl=>(match cl.callee,cl.args.toList,first.toList,o1.dst with
   | .value (.func h),[.tmp x,.tmp y],[],some d=>bif c.Oo h&&bo y d&&!bo x d&&!ad3 c.n d&&!bo (o2.dst.getD d) d then some (pre.reverse,f,aJ.toList,h,.tmp x,o1,o2,r) else GO c (o1::pre) (o2::r)
   |_,_,_,_=>GO c (o1::pre) (o2::r))
  |_,_=>GO c (o1::pre) (o2::r)
 |_,_=>none
def I6:List Oper->Bool
 |[]=>true
 |o::r=>(match o.guard with|none=>I6 r|some _=>false)
def aar {R:Type}(c:Ctx)(id:Nat)(ops:List Oper)(st:St)(K:St->Option R):Option R:=match GO c [] ops with
 |some (pre,f,aJ,h,x,o1,o2,post)=>bif I6 ops then CD (qm ops) st λst=>DN c ops pre st λst=>aaq c h f aJ x o1 o2 st λst=>DN c ops post st K else none
 |none=>Ic c id ops ops st K
def fzK {R:Type}(c:Ctx)(ts:List Nat)(st:St)(K:St->Option R):Option R:=match ts with
 |[]=>K st
 |ts=>B9 c st (ts.map .tmp) λ_ st=>K st
def Ma (ops:Array Oper)(A B:Nat):Array Oper:=ops.modify B λo=>{o with after:=o.after.push ⟨A,.data⟩}
def aas (n:Nat)(l:List Nat):Option (List Nat×List Nat×Nat×Nat):=match l.drop (l.length-3) with
 |[m,A,B]=>bif bo A B||(ad3 n A||ad3 n B) then none else some (l.take m,(l.drop m).take (l.length-3-m),A,B)
 |_=>none
def aat {R:Type}(c:Ctx)(ops:Array Oper)(l:List Nat)(st:St)(K:St->Option R):Option R:=bif sK c ops l then (match qn ops.toList l with
 |some l=>DN c ops.toList l st K
 |none=>none) else none
def I7 {R:Type}[B7 R](c:Ctx)(st:St)(K:St->Option R):Nat->Array Oper->List Nat->Option R
 |0,_,_=>none
 |k+1,ops,l=>bif bo l.length ops.toList.length then aat c ops l st K else (match aas ops.toList.length l with
  |some (o1,o2,A,B)=>both (I7 c st K k (Ma ops A B) o1) (I7 c st K k (Ma ops B A) o2)
  |none=>none)
def al7 {R:Type}[B7 R](c:Ctx)(id:Nat)(ops:Array Oper)(ord:List Nat)(st:St)(K:St->Option R):Option R:=bif guarded ops.toList then
  Fk c (c.dO id) st λcz cj=>bd (CD (qm ops.toList) cz λcz=>I7 c cz (λst=>dL st [] ((c.dO id).ex 0) some) ord.length ops ord) λvs=>od (CC st cj) ((c.dO id).ex 0) vs K
 else CD (qm ops.toList) st λst=>I7 c st K ord.length ops ord
def VG {R:Type}[B7 R](c:Ctx)(id:Nat)(ops:Array Oper)(draw:Bool)(st:St)(K:St->Option R):Option R:=fzK c (c.fz id) st λst=>bif draw then (bif !bo (c.ord id).length ops.toList.length then al7 c id ops (c.ord id) st K else bif sK c ops (c.ord id) then (match qn ops.toList (c.ord id) with|some l=>Ic c id ops.toList l st K|none=>none) else none)
 else aar c id ops.toList st K
def lu (c:Ctx):Code->(R:Type)->[B7 R]->St->(Nat->St->Option R)->Option R
 | .skip,_,_,st,K=>K 0 st
 | .region id ops d,_,_,st,K=>VG c id ops d st λst=>K 0 st
 | .seq a b,R,_,st,K=>lu c a R st λe st=>bif bo e 0 then lu c b R st K else K e st
 | .cond x a b,R,_,st,K=>(match az c st x with
  | .sc (.p (.b v))=>
   bif bB (lr a) 0&&bB (lr b) 0 then
    Fk c (c.eg ((eZ (.seq a b)).getD 0)) st λcz cj=>
    bd (gk v (lu c a (Nat×List MV) cz λe st=>dL st [] ((c.eg ((eZ (.seq a b)).getD 0)).ex e) λvs=>some (e,vs)) (lu c b (Nat×List MV) cz λe st=>dL st [] ((c.eg ((eZ (.seq a b)).getD 0)).ex e) λvs=>some (e,vs))) λr=>L2 (uni (lr a) (lr b)) r.1 λe=>od (CC st cj) ((c.eg ((eZ (.seq a b)).getD 0)).ex e) r.2 λst=>K e st
   else gk v (lu c a R st K) (lu c b R st K)
  |_=>none)
 | .block id b,R,_,st,K=>lu c b R st λe st=>bif bo e (id+2) then K 0 st else K e st
 | .loop b,_,_,st,K=>
  Fk c (c.ec ((eZ b).getD 0)) st λcz cj=>dL cz [] (c.ec ((eZ b).getD 0)).outs λvs=>
   bd (sG c.fuel (λms=>od cj (c.ec ((eZ b).getD 0)).outs ms λst=>lu c b (Sum (List MV) (Nat×List MV)) st λe st=>
    bif bo e 0 then dL st [] (c.ec ((eZ b).getD 0)).outs λvs=>some (.inl vs) else dL st [] ((c.ec ((eZ b).getD 0)).ex e) λvs=>some (.inr (e,vs))) vs)
    λr=>L2 (minus (lr b) [0]) r.1 λe=>od (CC st cj) ((c.ec ((eZ b).getD 0)).ex e) r.2 λst=>K e st
 | .exit id,_,_,st,K=>K (id+2) st
 | .ret,_,_,st,K=>K 1 st
 |_,_,_,_,_=>none
def I8 {R:Type}(c:Ctx):List Nat->Nat->List MV->(Fr->List MV->Option R)->Option R
 |[],_,ms,K=>K [] ms
 |t::ts,n,ms,K=>match c.tv t with
  |some I=>gC ms λm r=>uM I m λs=>I8 c ts (n+1) r λfr ms=>K ((n,s)::fr) ms
  |none=>none
def Tj {R:Type}:List (List Kd)->Nat->List MV->(Fr->Option R)->Option R
 |[],_,ms,K=>gN ms (K [])
 |ks::r,n,ms,K=>gC ms λm ms=>gP m λcs=>uK ks cs λcs=>Tj r (n+1) ms λfr=>K ((n,.IK cs)::fr)
def QB {R:Type}(c:Ctx)(st:St):List ResultVar->(List MV->Option R)->Option R
 |[],K=>K []
 |r::rs,K=>
  let go (s:Slot):Option R:=match s with
   | .sc (.p m)=>QB c st rs λms=>K (m::ms)
   |_=>none
  match r with
  | .tmp t=>go (ap st.fr t)
  | .cell a t=>match c.tv t,ap st.fr a with
   |some I,.box cs=>bif dx cs||A0 a then none else iB I cs 0 λs=>go s
   |_,_=>none
def OA {R:Type}(c:Ctx)(st:St)(fresh:Option Nat):List ResultVar->(List MV->Option R)->Option R
 |[],K=>K []
 |r::rs,K=>
  let go (s:Slot):Option R:=match fresh with
   |some ty=>(match s with
    | .sc (.own f)=>(match aB st.aF f with|some o=>bif o.fH||!bo o.ty ty then none else QB c st rs λms=>K (.fresh o.xs::ms)|none=>none)
    | .sc .nil=>QB c st rs λms=>K (.fresh []::ms)
    |_=>none)
   |none=>nz st s λm st=>OA c st fresh rs λms=>K (m::ms)
  match r with
  | .tmp t=>(match fresh,ap st.fr t with
   |none,.ptr _ _=>B9 c st [.tmp t] λms st=>gC ms λm r=>gN r<|OA c st fresh rs λms=>K (m::ms)
   |_,s=>go s)
  | .cell a t=>match c.tv t,ap st.fr a with
   |some I,.box cs=>bif dx cs||A0 a then none else iB I cs 0 λs=>go s
   |_,_=>none
def Xn {R:Type}(c:Ctx)(st:St):List ResultVar->(List MV->St->Option R)->Option R
 |[],K=>K [] st
 |r::rs,K=>(match r with
  | .tmp t=>nz st (ap st.fr t) λm st=>Xn c st rs λms st=>K (m::ms) st
  | .cell a t=>(match c.tv t,ap st.fr a with
   |some I,.box cs=>bif dx cs||A0 a then none else iB I cs 0 λs=>nz st s λm st=>Xn c st rs λms st=>K (m::ms) st
   |_,_=>none))
def al8:List MV->MV
 |[m]=>m
 |ms=> .cT ms
def aiM:LK->ax->Bool
 | .k .l,.own _=>true
 |_,_=>false
def I9 {R:Type}:List LK->St->List ax->(List ax->St->Option R)->Option R
 |k::ks,st,l::ls,K=>bif aiM k l then kI st l λm st=>I9 ks st ls λls st=>K (.p m::ls) st else I9 ks st ls λls st=>K (l::ls) st
 |_,st,ls,K=>K ls st
def DO (c:Ctx)(aJ:List (List Kd))(pos:Nat)(ks ko:List LK)(f:Func)(args:List MV):Option MV:=match f.body,args[pos]? with
 |some b,some (.cell (.func off ls))=>bif !gn c ks||!gn c ko||!ad3 pos 999 then none else
  I8 c f.params.toList 0 (args.set pos (.rp [])) λfr ms=>Tj aJ f.params.size ms λxi=>
   (match app fr xi with
   |some fr=>ck ⟨[],[],[],[]⟩ ks ls λcs rest A4=>gN rest<| lu c b MV ⟨[pos],[],(1000000+off *1000+pos,.box cs)::fr,A4.aF⟩ λe st=>
     bif ad3 e 1 then Xn c st f.results.toList λms st=>(match ap st.fr (1000000+off *1000+pos) with
      | .box cs=>bif dx cs then none else I9 ko st cs λcs st=>L9 st (1000000+off *1000+pos) (.box cs) λst=>kT st [] ko cs λouts _=>some (.im (al8 ms) outs)
      |_=>none) else none
   |none=>none)
 |_,_=>none
def VH (X:Code->St->(Nat->St->Option MV)->Option MV)(c:Ctx)(aJ:List (List Kd))(fresh:Option Nat)(f:Func)(args:List MV):Option MV:=match f.body with
 |some b=>I8 c f.params.toList 0 args λfr ms=>Tj aJ f.params.size ms λxi=>
  match app fr xi with
  |some fr=>X b ⟨[],[],fr,[]⟩ λe st=>bif ad3 e 1 then OA c st fresh f.results.toList λms=>(match ms with|[m]=>some m|ms=>some (.cT ms)) else none
  |none=>none
 |none=>none
def qB (c:Ctx)(aJ:List (List Kd))(fresh:Option Nat)(f:Func)(args:List MV):Option MV:=VH (λb st K=>lu c b MV st K) c aJ fresh f args
end
def fL (w:World)(o:Obj):(w.alloc o).heap[w.heap.size]? =some o:=by show (w.heap.push o)[w.heap.size]? =some o;simp
theorem nb (w:World)(o:Obj)(i:Nat)(h:i<w.heap.size):(w.alloc o).heap[i]? =w.heap[i]? :=by show (w.heap.push o)[i]? =w.heap[i]?;grind
def MV.one:MV->Bool
 | .h _ _ _| .agg _| .cT _| .fresh _| .cell _| .im _ _=>false
 |_=>true
abbrev Ph:=Nat->Nat->Option Value
section
variable (key:Nat->Nat) (φ:Ph)
mutual
inductive il:List Value->MV->Prop
 |b (x:Bool):il [.bool x] (.b x)
 |i (k:IntKind) (n:Int):il [.int k n] (.i k n)
 |s (bs:ByteArray):il [.string bs] (.s bs.data.toList)
 |h (k:IntKind) (n:Nat) (x:List Int):x.length=n+2->il (x.map (.int k)) (.h k n x)
 |raw (v:Value):v.oneCell'=true->il [v] (.raw v)
 |list (a:Option Addr) (cap:Nat) (xs:List MV) (aQ off Fe:Nat) (f:Nat->List Value): xs.length<=cap->(0<xs.length->a=some ⟨aQ,off,none⟩)->(∀i,i<xs.length->(f i).length=Fe)-> (∀i j,i<xs.length->j<Fe->φ aQ (off+i *Fe+j)=(f i)[j]?)-> (∀(i:Nat) (h:i<xs.length),il (f i) xs[i])->il [.slice a xs.length cap] (.list xs)
 |agg (vs:List Value) (ms:List MV):fq vs ms->il vs (.agg ms)
 |func (f k:Nat) (cap:Array Value) (ms:List MV):key f=k->fq cap.toList ms->(∀m∈ms,m.one=true)->il [.func (.func f) #[] cap] (.func k ms)
 |rp (aQ off:Nat) (vs:List Value) (ms:List MV):fq vs ms->(∀j,j<vs.length->φ aQ (off+j)=vs[j]?)->il [.pointer (some ⟨aQ,off,none⟩)] (.rp ms)
 |clip (a:Option Addr) (xs:List MV):il [.slice a xs.length xs.length] (.list xs)->il [.slice a xs.length xs.length] (.clip xs)
inductive fq:List Value->List MV->Prop
 |nil:fq [] []
 |cons (v:List Value) (m:MV) (vs:List Value) (ms:List MV):il v m->fq vs ms->fq (v++vs) (m::ms)
end
end
def gx (φ φ':Ph):Prop:= ∀b o v,φ b o=some v->φ' b o=some v
def gx.refl (φ:Ph):gx φ φ:=λ_ _ _ h=>h
def gx.DP {φ φ':Ph}(h:gx φ φ'){b j:Nat}{cs:List Value}(e:φ b j=cs[j]?)(hj:j<cs.length):φ' b j=cs[j]? :=by rw [BY hj] at e⊢;exact h _ _ _ e
theorem gx.trans {φ φ' φ'':Ph}(h:gx φ φ') (h':gx φ' φ''):gx φ φ'':=λb o v e=>h' b o v (h b o v e)
section
variable {key:Nat->Nat} {φ φ':Ph}(hle:gx φ φ')
include hle
def OB {b o:Nat}{vs:List Value}{j:Nat}(hj:j<vs.length)(h:φ b o=vs[j]?):φ' b o=vs[j]? :=by rw [BY hj] at h⊢;exact hle _ _ _ h
mutual
theorem il.mono {vs:List Value}{m:MV}:il key φ vs m->il key φ' vs m
 | .b x=> .b x
 | .i k n=> .i k n
 | .s bs=> .s bs
 | .h k n x h=> .h k n x h
 | .raw v h=> .raw v h
 | .list a cap xs aQ off Fe f h1 h2 h3 h4 h5=> .list a cap xs aQ off Fe f h1 h2 h3 (λi j hi hj=>OB hle (by grind) (h4 i j hi hj)) (λi hi=>(h5 i hi).mono)
 | .agg vs ms h=> .agg vs ms h.mono
 | .func f k cap ms h1 h2 h3=> .func f k cap ms h1 h2.mono h3
 | .rp aQ off vs ms h1 h2=> .rp aQ off vs ms h1.mono (λj hj=>OB hle hj (h2 j hj))
 | .clip a xs h=> .clip a xs h.mono
theorem fq.mono {vs:List Value}{ms:List MV}:fq key φ vs ms->fq key φ' vs ms
 | .nil=> .nil
 | .cons v m vs ms h1 h2=> .cons v m vs ms h1.mono h2.mono
end
end
section
variable {key:Nat->Nat}{φ:Ph}
mutual
theorem il.cells {vs:List Value}{m:MV}:il key φ vs m-> ∀v∈vs,v.oneCell'=true
 | .b x=>by simp [AT]
 | .i k n=>by simp [AT]
 | .s bs=>by simp [AT]
 | .h k n x h=>by intro v hv;obtain ⟨b,_,rfl⟩:=ahS.1 hv;rfl
 | .raw v h=>by simpa using h
 | .list .. =>by simp [AT]
 | .agg vs ms h=>h.cells
 | .func .. =>by simp [AT]
 | .rp .. =>by simp [AT]
 | .clip .. =>by simp [AT]
theorem fq.cells {vs:List Value}{ms:List MV}:fq key φ vs ms-> ∀v∈vs,v.oneCell'=true
 | .nil=>aaS
 | .cons v m vs ms h1 h2=>by
  intro x hx;rcases afA.1 hx with hx|hx
  .exact h1.cells x hx
  .exact h2.cells x hx
end
mutual
theorem il.width {vs:List Value}{m:MV}:il key φ vs m->vs.length=m.w
 | .b x=>by simp [MV.w]
 | .i k n=>by simp [MV.w]
 | .s bs=>by simp [MV.w]
 | .h k n x h=>by simp [MV.w,h]
 | .raw v h=>by simp [MV.w]
 | .list .. =>by simp [MV.w]
 | .agg vs ms h=>by rw [h.width];simp [MV.w]
 | .func .. =>by simp [MV.w]
 | .rp .. =>by simp [MV.w]
 | .clip .. =>by simp [MV.w]
theorem fq.width {vs:List Value}{ms:List MV}:fq key φ vs ms->vs.length=MV.wl ms
 | .nil=>by simp [MV.wl]
 | .cons v m vs ms h1 h2=>by simp [MV.wl,h1.width,h2.width]
end
end
theorem il.one {key:Nat->Nat} {φ:Ph}{vs:List Value}{m:MV}(h:il key φ vs m)(hm:m.one=true): ∃v,vs=[v]/\v.oneCell'=true:=by have hc:=h.cells;cases h<;>simp [MV.one] at hm<;>exact (by grind)
def cG (key:Nat->Nat) (φ:Ph)(v:Value):MV->Prop
 | .h k n x=>v= .agg (x.map (ahG k)).toArray/\x.length=n+2
 | .agg ms=> ∃arr,v= .agg arr/\fq key φ arr.toList ms
 |m=>m.one=true/\il key φ [v] m
theorem cG.mono {key:Nat->Nat} {φ φ':Ph}(hle:gx φ φ'){v:Value}{m:MV}(h:cG key φ v m):cG key φ' v m:=by cases m<;>simp only [cG] at h⊢ <;>first|exact h|exact ⟨h.1,h.2.mono hle⟩|(have ⟨arr,h1,h2⟩:=h;exact ⟨arr,h1,h2.mono hle⟩)
structure Env where
 key:Nat->Nat
 φ:Ph
 E:Nat->Value
 B:Nat->Nat
 m:List (Nat×n8)
def bE (k:IntKind)(x:List Int):List Value:=x.map (ahG k)
theorem cA (k:IntKind)(x:List Int):(bE k x).length=x.length:=by simp [bE]
def aP (e:Env)(vs:List Value):ax->Prop
 | .un=> ∃v,vs=[v]/\v.oneCell'=true
 | .p x=>x.one=true/\il e.key e.φ vs x
 | .hs k n x=>vs=bE k x/\x.length=n+2
 | .nil=>vs=[.slice none 0 0]
 | .mp _ _=>False
 | .own f=> ∃v,vs=[v]/\v.oneCell'=true/\(∀o,aB e.m f=some o->v=e.E f)
def ar (e:Env):List Value->List ax->Prop
 |vs,[]=>vs=[]
 |vs,l::ls=> ∃v r,vs=v++r/\aP e v l/\ar e r ls
def uP:ax->Bool
 | .p _| .hs _ _ _=>true
 |_=>false
def gY:List ax->Bool
 |[]=>true
 |l::r=>uP l&&gY r
def Ja (st:Bool)(x:MV)(cs:List ax):Prop:=(∃ms,bw cs=some ms/\vO st ms=some x)/\ ∀m,ax.p m∈cs->m.one=true
def Ca:Slot->Bool
 | .sc l=>uP l
 | .ag cs=>gY cs
 |_=>false
mutual
def af (e:Env)(v:Value):Slot->Prop
 | .skip=>v=undef
 | .sc l=>match l with
  | .un=>True
  | .hs k n x=>v= .agg (bE k x).toArray/\x.length=n+2
  |l=>aP e [v] l
 | .ag cs=> ∃arr,v= .agg arr/\ar e arr.toList cs
 | .tg cs=> ∃arr,v= .tuple arr/\ar e arr.toList cs
 | .cT vs=> ∃arr,v= .tuple arr/\lz e arr.toList vs
 | .box _=>False
 | .IK cs=> ∃aQ o vs,v= .pointer (some ⟨aQ,o,none⟩)/\ar e vs cs/\gY cs=true/\(∀j,j<vs.length->e.φ aQ (o+j)=vs[j]?)
 | .ptr r o=>v= .pointer (some ⟨e.B r,o,none⟩)
 | .zK r=>v= .map (some (e.B r))
 | .rp cs off=> ∃aQ o vs,v= .pointer (some ⟨aQ,o+off,none⟩)/\ar e vs cs/\gY cs=true/\(∀j,j<vs.length->e.φ aQ (o+j)=vs[j]?)
 | .hp r o n i=>v= .pointer (some ⟨e.B r,o+i,none⟩)/\i<n+2
 | .ep f i off st cs=> ∀o,aB e.m f=some o-> ∃aQ cap,e.E f= .slice (some ⟨aQ,0,none⟩) o.xs.length cap/\(∃x,o.xs[i]? =some x/\Ja st x cs)/\ v= .pointer (some ⟨aQ,i *Cy cs+off,none⟩)
def lz (e:Env):List Value->List Slot->Prop
 |vs,[]=>vs=[]
 |vs,s::ss=> ∃v r,vs=v::r/\af e v s/\Ca s=true/\lz e r ss
end
def aau:ax->List Value->Bool
 | .p (.b x),[.bool y]=>x==y
 | .p (.i k n),[.int k' n']=>decide (k=k')&&decide (n=n')
 | .p (.s l),[.string s]=>decide (l=s.data.toList)
 | .p (.raw v),[w]=>match v,w with
  | .nilFunc,.nilFunc=>true
  | .nilIface,.nilIface=>true
  | .pointer none,.pointer none=>true
  |_,_=>false
 | .nil,[.slice none 0 0]=>true
 | .un,[v]=>v.oneCell'
 | .hs k n x,vs=>(vs.length==n+2)&&(x.length==n+2)&&(vs.zip x).all λp=>match p.1 with| .int k' v=>decide (k'=k)&&decide (v=p.2)|_=>false
 |_,_=>false
def uQ:List ax->List Value->Bool
 |[],vs=>vs.isEmpty
 |l::ls,vs=>aau l (vs.take l.w)&&uQ ls (vs.drop l.w)&&decide (l.w<=vs.length)
def dM:Fr->Nat->Slot->Fr
 |[],t,v=>[(t,v)]
 |(k,s)::r,t,v=>bif bo k t then (k,v)::r else (k,s)::dM r t v
def dk (ds:List Nat):Fr->Fr
 |[]=>[]
 |(k,s)::r=>bif df s||bB ds k then dk ds r else (k,s)::dk ds r
def oe (ks:List Nat):Fr->Fr
 |[]=>[]
 |(k,s)::r=>bif bB ks k&&!df s then (k,s)::oe ks r else oe ks r
def ct:List (Nat×n8)->Nat->n8->List (Nat×n8)
 |[],t,v=>[(t,v)]
 |(k,s)::r,t,v=>bif bo k t then (k,v)::r else (k,s)::ct r t v
def OC (f:Nat):ax->ax
 | .own g=>bif bo g f then .un else .own g
 |l=>l
def DF (f:Nat):Slot->Slot
 | .sc l=> .sc (OC f l)
 | .ag cs=> .ag (cs.map (OC f))
 | .tg cs=> .tg (cs.map (OC f))
 | .box cs=> .box (cs.map (OC f))
 | .ep g i o b cs=>bif bo g f then .sc .un else .ep g i o b cs
 |s=>s
def lB (f:Nat)(r:Fr):Fr:=r.map λp=>(p.1,DF f p.2)
def Mb (f:Nat)(r:Fr):Fr:=r.map λp=>(p.1,match p.2 with
 | .ep g i o b cs=>bif bo g f then .sc .un else .ep g i o b cs
 |s=>s)
def SS (ps:List Nat):ax->ax
 | .own g=>bif bB ps g then .own g else .un
 |l=>l
def Mc (ps:List Nat):Slot->Slot
 | .sc l=> .sc (SS ps l)
 | .ag cs=> .ag (cs.map (SS ps))
 | .tg cs=> .tg (cs.map (SS ps))
 | .box cs=> .box (cs.map (SS ps))
 |s=>s
def Tk (ps:List Nat)(r:Fr):Fr:=r.map λp=>(p.1,Mc ps p.2)
def sL (ks fs qs:List Nat):List (Nat×n8)->List (Nat×n8)
 |[]=>[]
 |(k,o)::r=>bif bB ks k then (bif bB fs k&&!bB qs k then (k,⟨o.ty,true,o.xs⟩) else (k,o))::sL ks fs qs r else sL ks fs qs r
section
variable {R:Type}
def force_eq (s:Slot)(K:Slot->Option R):force s K=K s:=by cases s<;>rfl
def kU (r:Fr)(t:Nat)(s:Slot)(K:Fr->Option R):L3 r t s K=K (dM r t s):=by
 induction r generalizing K with
 |nil=>rfl
 |cons p r ih=>grind [L3,dM,bo]
def GP (ds:List Nat)(r:Fr)(K:Fr->Option R):wi ds r K=K (dk ds r):=by
 induction r generalizing K with
 |nil=>rfl
 |cons p r ih=>grind [wi,dk,df,bB]
def aem (ks:List Nat)(r:Fr)(K:Fr->Option R):pick ks r K=K (oe ks r):=by
 induction r generalizing K with
 |nil=>rfl
 |cons p r ih=>grind [pick,oe,bB,df]
theorem oh (r:List (Nat×n8))(t:Nat)(s:n8)(K:List (Nat×n8)->Option R):Qv r t s K=K (ct r t s):=by
 induction r generalizing K with
 |nil=>rfl
 |cons p r ih=>grind [Qv,ct,bo]
theorem CE (f:Nat)(cs:List ax)(K:List ax->Option R):uL f cs K=K (cs.map (OC f)):=by
 induction cs generalizing K with
 |nil=>rfl
 |cons l r ih=>cases l<;>simp only [uL,ad5,OC,ih];grind
theorem aav (f:Nat)(s:Slot)(K:Slot->Option R):IM f s K=K (DF f s):=by
 cases s with
 |sc l=>cases l<;>simp only [IM,DF,OC];grind
 |ag cs=>grind [IM,DF,CE]
 |tg cs=>grind [IM,DF,CE]
 |box cs=>grind [IM,DF,CE]
 |ep g i o b cs=>grind [IM,DF,bo]
 |_=>rfl
theorem aaw (f:Nat)(r:Fr)(K:Fr->Option R):kFr f r K=K (lB f r):=by
 induction r generalizing K with
 |nil=>rfl
 |cons p r ih=>grind [kFr,aav,lB]
def aiN (f:Nat)(r:Fr)(K:Fr->Option R):kEp f r K=K (Mb f r):=by
 induction r generalizing K with
 |nil=>rfl
 |cons p r ih=>grind [kEp,Mb,bo]
theorem CF (f:List Nat)(cs:List ax)(K:List ax->Option R):uN f cs K=K (cs.map (SS f)):=by
 induction cs generalizing K with
 |nil=>rfl
 |cons l r ih=>cases l<;>simp only [uN,ad5,SS,ih];grind
theorem aax (f:List Nat)(s:Slot)(K:Slot->Option R):M7 f s K=K (Mc f s):=by
 cases s with
 |sc l=>cases l<;>simp only [M7,Mc,SS];grind
 |ag cs=>grind [M7,Mc,CF]
 |tg cs=>grind [M7,Mc,CF]
 |box cs=>grind [M7,Mc,CF]
 |_=>rfl
def aiO (f:List Nat)(r:Fr)(K:Fr->Option R):nFr f r K=K (Tk f r):=by
 induction r generalizing K with
 |nil=>rfl
 |cons p r ih=>grind [nFr,aax,Tk]
def aay (ks fs qs:List Nat)(r:List (Nat×n8))(K:List (Nat×n8)->Option R):M8 ks fs qs r K=K (sL ks fs qs r):=by
 induction r generalizing K with
 |nil=>rfl
 |cons p r ih=>simp only [M8,sL];grind
def xm {α:Type}(x y:List α):app x y=some (x++y):=by
 induction x with
 |nil=>rfl
 |cons a r ih=>simp [app,ih]
end
theorem eQ (a b:Nat):bo a b=decide (a=b):=by by_cases h:a=b;all_goals simp_all [decide_false,Bool.eq_false_iff,sh]
theorem bm (l:List Nat)(t:Nat):bB l t=true↔t∈l:=by
 induction l with
 |nil=>simp [bB]
 |cons k r ih=>simp only [bB,eQ,ad6];grind
theorem bA (r:Fr)(d t:Nat)(s:Slot):ap (dM r d s) t=if t=d then s else ap r t:=by
 induction r with
 |nil=>simp only [dM,ap,eQ];grind
 |cons p r ih=>
  have ⟨k,x⟩:=p;simp only [dM,eQ];by_cases hk:k=d
  .subst hk;simp only [decide_true,cond_true,ap,eQ];grind
  .simp only [hk,decide_false,cond_false,ap,eQ,ih];grind
theorem aW (r:List (Nat×n8))(d t:Nat)(s:n8):aB (ct r d s) t=if t=d then some s else aB r t:=by
 induction r with
 |nil=>simp only [ct,aB,eQ];grind
 |cons p r ih=>
  have ⟨k,x⟩:=p;simp only [ct,eQ];by_cases hk:k=d
  .subst hk;simp only [decide_true,cond_true,aB,eQ];grind
  .simp only [hk,decide_false,cond_false,aB,eQ,ih];grind
def Jb (g:Slot->Slot)(hg:g (.sc .un)= .sc .un)(r:Fr)(t:Nat):ap (r.map λp=>(p.1,g p.2)) t=g (ap r t):=by
 induction r with
 |nil=>simp [ap,hg]
 |cons p r ih=>grind [ap,eQ]
theorem gu (f:Nat)(r:Fr)(t:Nat):ap (lB f r) t=DF f (ap r t):=Jb (DF f) rfl r t
def M9 (f:List Nat)(r:Fr)(t:Nat):ap (Tk f r) t=Mc f (ap r t):=Jb (Mc f) rfl r t
def aG (r:Fr):List Nat:=r.map Prod.fst
theorem sw (r:Fr)(t:Nat)(h:t∉aG r):ap r t= .sc .un:=by
 induction r with
 |nil=>rfl
 |cons p r ih=>have ⟨k,x⟩:=p;simp only [aG,ad5,ad6,not_or] at h;have h': ¬k=t:=λe=>h.1 e.symm;simp only [ap,eQ,h',decide_false,cond_false];exact ih h.2
def DQ (ds:List Nat)(r:Fr):List.Sublist (aG (dk ds r)) (aG r):=by
 induction r with
 |nil=>simp [aG,dk]
 |cons p r ih=>grind [dk,df,bB,aG]
theorem xn (ds:List Nat)(r:Fr):List.Sublist (aG (oe ds r)) (aG r):=by
 induction r with
 |nil=>simp [aG,oe]
 |cons p r ih=>grind [oe,bB,df,aG]
def Jc (ds:List Nat)(r:Fr)(hn:(aG r).Nodup)(t:Nat):ap (dk ds r) t=if df (ap r t)||bB ds t then .sc .un else ap r t:=by
 induction r with
 |nil=>simp [ap,dk]
 |cons p r ih=>
  have ⟨k,x⟩:=p;simp only [aG,ad5,ahJ] at hn;have ih:=ih hn.2;simp only [dk];by_cases hk:k=t
  .subst hk;cases hb:df x||bB ds k
   .simp [ap,eQ,hb]
   .simp only [cond_true,ap,eQ,decide_true,hb,if_true];refine sw _ _ (λhm=>hn.1 ((DQ ds r).subset hm))
  grind [df,bB,ap,eQ]
def CG (ds:List Nat)(r:Fr)(hn:(aG r).Nodup)(t:Nat):ap (oe ds r) t=if bB ds t&&!df (ap r t) then ap r t else .sc .un:=by
 induction r with
 |nil=>simp [ap,oe]
 |cons p r ih=>
  have ⟨k,x⟩:=p;simp only [aG,ad5,ahJ] at hn;have ih:=ih hn.2;simp only [oe];by_cases hk:k=t
  .subst hk;cases hb:bB ds k&&!df x
   .simp only [cond_false,ap,eQ,decide_true,cond_true,hb];exact sw _ _ (λhm=>hn.1 ((xn ds r).subset hm))
   grind [ap,eQ]
  grind [bB,df,ap,eQ]
def zP (r s:Fr)(t:Nat):ap (r++s) t=if t∈aG r then ap r t else ap s t:=by
 induction r with
 |nil=>simp [aG]
 |cons p r ih=>
  have ⟨k,x⟩:=p;simp only [List.cons_append,ap,eQ,aG,ad5,ad6];by_cases h:k=t
  .simp [h]
  .have h': ¬t=k:=λe=>h e.symm;simp only [h,h',decide_false,cond_false,ih,false_or];rfl
section
variable {e e':Env}
theorem aP.width {vs:List Value}{l:ax}(h:aP e vs l):vs.length=l.w:=by
 cases l with
 |un=>obtain ⟨v,rfl,_⟩:=h;rfl
 |p m=>obtain ⟨v,rfl,_⟩:=h.2.one h.1;rfl
 |hs k n x=>obtain ⟨rfl,h⟩:=h;simp [bE,h,ax.w]
 |nil=>cases h;rfl
 |mp s es=>exact h.elim
 |own f=>obtain ⟨v,rfl,_⟩:=h;rfl
theorem aP.cells {vs:List Value}{l:ax}(h:aP e vs l): ∀v∈vs,v.oneCell'=true:=by
 cases l with
 |un=>obtain ⟨v,rfl,hv⟩:=h;grind
 |p m=>exact h.2.cells
 |hs k n x=>obtain ⟨rfl,h⟩:=h;intro v hv;obtain ⟨b,_,rfl⟩:=ahS.1 hv;rfl
 |nil=>cases h;simp [AT]
 |mp s es=>exact h.elim
 |own f=>obtain ⟨v,rfl,hv,_⟩:=h;grind
theorem ar.width {cs:List ax}: ∀{vs:List Value},ar e vs cs->vs.length=Cy cs:=by
 induction cs with
 |nil=>intro vs h;cases h;rfl
 |cons l r ih=>intro vs h;obtain ⟨v,w,rfl,h1,h2⟩:=h;grind [Cy,h1.width]
theorem ar.cells {cs:List ax}: ∀{vs:List Value},ar e vs cs-> ∀v∈vs,v.oneCell'=true:=by
 induction cs with
 |nil=>intro vs h;cases h;simp
 |cons l r ih=>
  intro vs h v hv;obtain ⟨a,w,rfl,h1,h2⟩:=h;rcases afA.1 hv with hv|hv
  .exact h1.cells v hv
  grind
def ar.append {cs ds:List ax}: ∀{vs ws:List Value},ar e vs cs->ar e ws ds->ar e (vs++ws) (cs++ds):=by
 induction cs with
 |nil=>intro vs ws h h';cases h;grind
 |cons l r ih=>intro vs ws h h';obtain ⟨v,w,rfl,h1,h2⟩:=h;exact ⟨v,w++ws,aaS,h1,ih h2 h'⟩
theorem zQ {cs:List ax}: ∀{off:Nat} {ds:List ax} {vs:List Value},cut cs off=some ds->ar e vs cs-> ∃v1 v2,vs=v1++v2/\v1.length=off/\ar e v2 ds:=by
 induction cs with
 |nil=>
  intro off ds vs h hr;cases off with
  |zero=>simp only [cut,AI] at h;subst h;exact ⟨[],vs,rfl,rfl,hr⟩
  |succ n=>grind [cut]
 |cons l r ih=>
  intro off ds vs h hr;cases off with
  |zero=>simp only [cut,AI] at h;subst h;exact ⟨[],vs,rfl,rfl,hr⟩
  |succ n=>have ⟨hb,h⟩:=ob h;have hle:=ad7 hb;obtain ⟨v,w,rfl,h1,h2⟩:=hr;grind [h1.width]
theorem Xo {cs:List ax}: ∀{n:Nat} {ds:List ax} {vs:List Value},S7 cs n=some ds->ar e vs cs-> ∃v1 v2,vs=v1++v2/\v1.length=n/\ar e v1 ds:=by
 induction cs with
 |nil=>
  intro n ds vs h hr;cases n with
  |zero=>simp only [S7,AI] at h;subst h;exact ⟨[],vs,rfl,rfl,rfl⟩
  |succ n=>grind [S7]
 |cons l r ih=>
  intro n ds vs h hr;cases n with
  |zero=>simp only [S7,AI] at h;subst h;exact ⟨[],vs,rfl,rfl,rfl⟩
  |succ n=>
   have ⟨hb,h⟩:=ob h;have hle:=ad7 hb;obtain ⟨v,w,rfl,h1,h2⟩:=hr;cases hu:S7 r (n+1-l.w) with
   |none=>grind
   |some b=>simp only [hu,AI] at h;subst h;obtain ⟨v1,v2,rfl,hl,h3⟩:=ih hu h2;exact ⟨v++v1,v2,aaS,by grind [h1.width],v,v1,rfl,h1,h3⟩
def Na {cs:List ax}{off n:Nat}{ds:List ax}{vs:List Value}(h:part cs off n=some ds)(hr:ar e vs cs): ∃v1 v2 v3,vs=v1++v2++v3/\v1.length=off/\v2.length=n/\ar e v2 ds:=by grind [part,cut,zQ,Xo]
def Nb {ls:List ax}: ∀{cs ds:List ax} {vs ws:List Value},over ls cs=some ds->ar e vs cs->ar e ws ls-> ∃v1 v2,vs=v1++v2/\v1.length=ws.length/\ar e (ws++v2) ds:=by
 induction ls with
 |nil=>intro cs ds vs ws h hr hw;simp only [over,AI] at h;subst h;cases hw;exact ⟨[],vs,rfl,rfl,hr⟩
 |cons l r ih=>
  intro cs ds vs ws h hr hw;cases cs with
  |nil=>grind [over]
  |cons c cs=>
   have ⟨hb,h⟩:=ob h;have hww:=sh hb;cases ho:over r cs with
   |none=>grind
   |some q=>simp only [ho,AI] at h;subst h;obtain ⟨v,w,rfl,h1,h2⟩:=hr;obtain ⟨a,b,rfl,h3,h4⟩:=hw;obtain ⟨v1,v2,rfl,hl,h5⟩:=ih ho h2 h4;exact ⟨v++v1,v2,aaS,by grind [h1.width,h3.width],a,b++v2,aaS,h3,h5⟩
def xp {cs:List ax}: ∀{off:Nat} {ls ds:List ax} {vs ws:List Value},putAt cs off ls=some ds->ar e vs cs->ar e ws ls-> ∃v1 v2 v3,vs=v1++v2++v3/\v1.length=off/\v2.length=ws.length/\ar e (v1++ws++v3) ds:=by
 induction cs with
 |nil=>
  intro off ls ds vs ws h hr hw;cases off with
  |zero=>obtain ⟨v1,v2,rfl,h1,h2⟩:=Nb h hr hw;exact ⟨[],v1,v2,aaS,rfl,h1,by grind⟩
  |succ n=>grind [putAt]
 |cons l r ih=>
  intro off ls ds vs ws h hr hw;cases off with
  |zero=>obtain ⟨v1,v2,rfl,h1,h2⟩:=Nb h hr hw;exact ⟨[],v1,v2,aaS,rfl,h1,by grind⟩
  |succ n=>
   have ⟨hb,h⟩:=ob h;have hle:=ad7 hb;obtain ⟨v,w,rfl,h1,h2⟩:=hr;cases hu:putAt r (n+1-l.w) ls with
   |none=>grind
   |some b=>simp only [hu,AI] at h;subst h;obtain ⟨v1,v2,v3,rfl,hl,uR,h3⟩:=ih hu h2 hw;exact ⟨v++v1,v2,v3,aaS,by grind [h1.width],uR,v,v1++ws++v3,aaS,h1,h3⟩
structure jT (S T:Nat->Prop) (e e':Env):Prop where
 key:e'.key=e.key
 φ:gx e.φ e'.φ
 B: ∀r,T r->e'.B r=e.B r
 fJ: ∀f o',aB e'.m f=some o'->S f-> ∃o,aB e.m f=some o/\e'.E f=e.E f/\o'.xs=o.xs
def iZ (S:Nat->Prop)(l:ax):Prop:= ∀f,l= .own f->S f
def fO (S T:Nat->Prop):Slot->Prop
 | .ptr r _=>T r
 | .zK r=>T r
 | .hp r _ _ _=>T r
 | .sc l=>iZ S l
 | .ag cs=> ∀l∈cs,iZ S l
 | .tg cs=> ∀l∈cs,iZ S l
 | .ep g _ _ _ _=>S g
 |_=>True
def aP.on {S T:Nat->Prop}(h:jT S T e e'){vs:List Value}{l:ax}(hl:iZ S l)(hr:aP e vs l):aP e' vs l:=by
 cases l with
 |un=>exact hr
 |p m=>exact ⟨hr.1,by have:=hr.2.mono h.φ;grind [h.key]⟩
 |hs k n x=>exact hr
 |nil=>exact hr
 |mp s es=>exact hr
 |own f=>obtain ⟨v,rfl,hv,hf⟩:=hr;refine ⟨v,rfl,hv,λo' CH=> ?_⟩;have ⟨o,ho,hE,_⟩:=h.fJ f o' CH (hl f rfl);grind
def ar.on {S T:Nat->Prop}(h:jT S T e e'){cs:List ax}: ∀{vs:List Value},(∀l∈cs,iZ S l)->ar e vs cs->ar e' vs cs:=by
 induction cs with
 |nil=>intro vs _ hr;exact hr
 |cons l r ih=>intro vs hl hr;obtain ⟨v,w,rfl,h1,h2⟩:=hr;exact ⟨v,w,rfl,h1.on h (hl l aaS),(by grind)⟩
theorem Jd {S:Nat->Prop}{l:ax}(h:uP l=true):iZ S l:=by intro f hf;grind [uP]
theorem xq {S:Nat->Prop}{cs:List ax}(h:gY cs=true): ∀l∈cs,iZ S l:=by
 induction cs with
 |nil=>simp
 |cons l r ih=>simp_all [gY,AS,ad6,Jd]
mutual
def af.on {S T:Nat->Prop}(h:jT S T e e'){v:Value}: ∀{s:Slot},fO S T s->af e v s->af e' v s
 | .skip,_,hr=>by grind [af]
 | .sc l,hs,hr=>by
  cases l with
  |un=>simp [af]
  |hs k n x=>grind [af]
  |p m=>simp only [af] at hr⊢;exact hr.on h hs
  |nil=>simp only [af] at hr⊢;exact hr.on h hs
  |mp s es=>exact hr
  |own f=>simp only [af] at hr⊢;exact hr.on h hs
 | .ag cs,hs,hr=>by have ⟨arr,h1,h2⟩:=hr;exact ⟨arr,h1,h2.on h hs⟩
 | .tg cs,hs,hr=>by have ⟨arr,h1,h2⟩:=hr;exact ⟨arr,h1,h2.on h hs⟩
 | .cT vs,_,hr=>by have ⟨arr,h1,h2⟩:=hr;exact ⟨arr,h1,lz.on h h2⟩
 | .box _,_,hr=>by grind [af]
 | .IK cs,_,hr=>by have ⟨aQ,o,vs,h1,h2,h3,h4⟩:=hr;exact ⟨aQ,o,vs,h1,h2.on h (xq h3),h3,λj hj=>OB h.φ hj (h4 j hj)⟩
 | .ptr r o,hs,hr=>by simp only [af] at hr⊢;rw [h.B r hs];exact hr
 | .zK r,hs,hr=>by simp only [af] at hr⊢;rw [h.B r hs];exact hr
 | .rp cs off,_,hr=>by have ⟨aQ,o,vs,h1,h2,h3,h4⟩:=hr;exact ⟨aQ,o,vs,h1,h2.on h (xq h3),h3,λj hj=>OB h.φ hj (h4 j hj)⟩
 | .hp r o n i,hs,hr=>by simp only [af] at hr⊢;rw [h.B r hs];exact hr
 | .ep f i off st cs,hs,hr=>by simp only [af] at hr⊢;intro o' CH;have ⟨o,ho,hE,hx⟩:=h.fJ f o' CH hs;grind
def lz.on {S T:Nat->Prop}(h:jT S T e e'): ∀{vs:List Value} {ss:List Slot},lz e vs ss->lz e' vs ss
 |vs,[],hr=>hr
 |vs,s::ss,hr=>by have ⟨v,r,h1,h2,h3,h4⟩:=hr;refine ⟨v,r,h1,af.on h ?_ h2,h3,lz.on h h4⟩;cases s<;>simp [Ca] at h3<;>simp only [fO];all_goals grind [Jd,xq]
end
def aP.kill {vs:List Value}{l:ax}(f:Nat)(h:aP e vs l):aP e vs (OC f l):=by
 cases l with
 |own g=>
  simp only [OC];cases bo g f
  .exact h
  .obtain ⟨v,rfl,hv,_⟩:=h;exact ⟨v,rfl,hv⟩
 |_=>exact h
theorem Fm (f:Nat)(l:ax):iZ (· ≠f) (OC f l):=by intro g hg;cases l<;>simp [OC] at hg;grind [bo,eQ]
theorem aP.QC {vs:List Value}{l:ax}(f:List Nat)(h:aP e vs l):aP e vs (SS f l):=by
 cases l with
 |own g=>
  simp only [SS];cases bB f g
  .obtain ⟨v,rfl,hv,_⟩:=h;exact ⟨v,rfl,hv⟩
  .exact h
 |_=>exact h
def OD (f:List Nat)(l:ax):iZ (· ∈f) (SS f l):=by intro g hg;cases l<;>simp [SS] at hg;grind [bB,bm]
def ar.map {g:ax->ax}(hg: ∀vs l,aP e vs l->aP e vs (g l)){cs:List ax}: ∀{vs:List Value},ar e vs cs->ar e vs (cs.map g):=by
 induction cs with
 |nil=>grind
 |cons l r ih=>intro vs h;obtain ⟨v,w,rfl,h1,h2⟩:=h;exact ⟨v,w,rfl,hg _ _ h1,ih h2⟩
theorem af.aiP {v:Value}{l:ax}(hl: ∀k n x,l≠ .hs k n x)(hu:l≠ .un):af e v (.sc l)↔aP e [v] l:=by simp_all [af]
def af.kill {v:Value}{s:Slot}(f:Nat)(h:af e v s):af e v (DF f s):=by
 cases s with
 |sc l=>
  cases l with
  |own g=>grind [DF,OC,bo,af]
  |_=>exact h
 |ag cs=>have ⟨arr,h1,h2⟩:=h;exact ⟨arr,h1,h2.map (λ_ _=>aP.kill f)⟩
 |tg cs=>have ⟨arr,h1,h2⟩:=h;exact ⟨arr,h1,h2.map (λ_ _=>aP.kill f)⟩
 |box cs=>grind [af]
 |ep g i o b cs=>grind [DF,bo,af]
 |_=>exact h
def aaz (f:Nat)(T:Nat->Prop)(s:Slot)(hT:fO (λ_=>True) T s):fO (· ≠f) T (DF f s):=by
 cases s with
 |sc l=>exact Fm f l
 |ag cs=>intro l hl;grind [Fm]
 |tg cs=>intro l hl;grind [Fm]
 |ep g i o b cs=>simp only [DF];cases hb:bo g f;all_goals simp_all [cond_false,fO,eQ,iZ]
 |ptr r o=>exact hT
 |hp r o n i=>exact hT
 |_=>trivial
theorem af.QC {v:Value}{s:Slot}(f:List Nat)(h:af e v s):af e v (Mc f s):=by
 cases s with
 |sc l=>
  cases l with
  |own g=>grind [Mc,SS,bB,af]
  |_=>exact h
 |ag cs=>have ⟨arr,h1,h2⟩:=h;exact ⟨arr,h1,h2.map (λ_ _=>aP.QC f)⟩
 |tg cs=>have ⟨arr,h1,h2⟩:=h;exact ⟨arr,h1,h2.map (λ_ _=>aP.QC f)⟩
 |box cs=>grind [af]
 |_=>exact h
end
def aU (key:Nat->Nat) (φ:Ph)(size:Nat):List Value->List MV->Prop
 |vs,[]=>vs=[]
 |vs,x::xs=> ∃v r,vs=v++r/\v.length=size/\il key φ v x/\aU key φ size r xs
structure bn where
 In:Nat->Prop
 ca:List Nat
 ch:List Nat
 T:Nat->Value
 cov:Prop
 Pr:Nat->Prop
instance:CoeFun bn (λ_=>Nat->Prop):=⟨bn.In⟩
instance:Coe bn (Nat->Prop):=⟨bn.In⟩
def QD {a b c:Prop}(h:(a/\b)\/c)(hn: ¬a):c:=(by grind)
def bn.nc (Z:bn):bn:={Z with cov:=False}
def bn.plain (I:Nat->Prop):bn:=⟨I,[],[],λ_=>undef,False,λ_=>True⟩
def bn.bz (Z:bn)(t:Nat):bn:={Z with In:=λb=>(t∈Z.ca/\Z.Pr b)\/Z.In b}
def bn.fz (Z:bn)(f:Nat):bn:={Z with In:=λb=>(f∈Z.ch/\Z.Pr b)\/Z.In b,cov:=f∈Z.ch}
def DR:Kd->MV->Bool
 | .b,.b _=>true
 | .i k,.i k' _=>decide (k'=k)
 | .s,.s _=>true
 | .h k n,.h k' n' x=>decide (k'=k)&&(bo n' n&&bo x.length (n+2))
 |_,_=>false
def cL:List Kd->List MV->Bool
 |[],[]=>true
 |k::ks,m::ms=>DR k m&&cL ks ms
 |_,_=>false
def GQ:MV->List Value
 | .b x=>[.bool x]
 | .i k n=>[.int k n]
 | .s l=>[.string ⟨l.toArray⟩]
 | .h k n x=>bE k x
 |_=>[]
def ft (st:Bool)(ks:List MV):Value:=match st,ks with
 |false,[.h k n x]=> .agg (bE k x).toArray
 |false,[.b x]=> .bool x
 |false,[.i k n]=> .int k n
 |false,[.s l]=> .string ⟨l.toArray⟩
 |_,ks=> .agg (ks.flatMap GQ).toArray
def BL (b:Bool)(m:MV):Value:=match b,m with
 |true,.b x=> .bool x
 |false,.i .i64 n=> .int .i64 n
 |_,_=>undef
def Tl (b:Bool)(m:MV):Bool:=match b,m with
 |true,.b x=>true
 |false,.i .i64 n=>true
 |_,_=>false
def ahk (s:MS)(x:MapEntry)(m:MV)(i:Nat):Prop:=x.born=i/\ ∃ks v,m= .cT [.agg ks,v]/\cL s.lay ks=true/\x.key=ft s.st ks/\Tl s.b v=true/\x.val=BL s.b v
structure sM (s:MS) (es:Array MapEntry) (clock:Nat) (ms:List MV):Prop where
 size:es.size=ms.length
 clock:clock=ms.length
 ent: ∀(i:Nat) x m,es[i]? =some x->ms[i]? =some m->ahk s x m i
def jZ (e:Env)(o:Obj)(cs:List ax):Prop:=match o with
 | .cells arr _ z=>z=(0,0)/\ar e arr.toList cs
 | .map es clock=> ∃s ms,cs=[.mp s ms]/\L0 s=false/\sM s es clock ms
 | .stringIter x pos=>cs=[.mp MS.it [.s x.data.toList,.i .i64 pos]]
 |_=>False
def OE (cs:List ax)(b:Nat):Value:=bif lk cs then .map (some b) else .pointer (some ⟨b,0,none⟩)
structure uS (Z:bn) (e:Env) (w:World) (aQ:Nat) (cs:List ax):Prop where
 bI:Z.In aQ
 obj: ∃o,w.heap[aQ]? =some o/\jZ e o cs
 free: ∀off,e.φ aQ off=none
def jZ.on {S T:Nat->Prop} {e e':Env}(h:jT S T e e'){o:Obj}{cs:List ax}(hl: ∀l∈cs,iZ S l)(hr:jZ e o cs):jZ e' o cs:=by
 cases o with
 |cells arr T z=>exact ⟨hr.1,hr.2.on h hl⟩
 |map es clock=>exact hr
 |stringIter x pos=>exact hr
 |_=>exact hr.elim
theorem Ig {cs:List ax}(h:dx cs=true): ∃s ms,cs=[.mp s ms]:=by unfold dx at h;grind
theorem jZ.cells {e:Env}{o:Obj}{cs:List ax}(hr:jZ e o cs)(hm:dx cs=false): ∃arr T,o= .cells arr T (0,0)/\ar e arr.toList cs:=by
 cases o with
 |cells arr T z=>obtain ⟨rfl,h⟩:=hr;grind
 |map es clock=>obtain ⟨s,ms,rfl,_⟩:=hr;grind [dx]
 |stringIter x pos=>rw [show cs=_ from hr] at hm;grind [dx]
 |_=>exact hr.elim
theorem DT {cs:List ax}(h:dx cs=false):lk cs=false:=by unfold lk;grind [dx]
def QE (g:ax->ax)(h1: ∀s es,g (.mp s es)= .mp s es)(h2: ∀l,(∀s es,l≠ .mp s es)-> ∀s es,g l≠ .mp s es)(cs:List ax):lk (cs.map g)=lk cs:=by
 cases cs with
 |nil=>rfl
 |cons l r=>
  cases r with
  |nil=>
   by_cases hl: ∃s es,l= .mp s es
   .grind
   simp_all [ad5,List.map_nil,lk]
  |cons x y=>simp_all [lk]
theorem uS.cells {Z:bn}{e:Env}{w:World}{aQ:Nat}{cs:List ax}(h:uS Z e w aQ cs)(hm:dx cs=false): ∃arr T,w.heap[aQ]? =some (.cells arr T (0,0))/\ar e arr.toList cs:=by have ⟨o,h1,h2⟩:=h.obj;obtain ⟨arr,T,rfl,h3⟩:=h2.cells hm;grind
def Tn {cs:List ax}(hm:lk cs=false)(b:Nat):OE cs b= .pointer (some ⟨b,0,none⟩):=by simp [OE,hm]
theorem sN {cs:List ax}(hm:dx cs=false)(b:Nat):OE cs b= .pointer (some ⟨b,0,none⟩):=Tn (DT hm) b
theorem aaA {cs:List ax}(hm:lk cs=true)(b:Nat):OE cs b= .map (some b):=by simp [OE,hm]
def jZ.map {e:Env}{g:ax->ax}(hg: ∀vs l,aP e vs l->aP e vs (g l))(hm: ∀s es,g (.mp s es)= .mp s es){o:Obj}{cs:List ax}(hr:jZ e o cs):jZ e o (cs.map g):=by
 cases o with
 |cells arr T z=>exact ⟨hr.1,hr.2.map hg⟩
 |map es clock=>obtain ⟨s,ms,rfl,h2⟩:=hr;exact ⟨s,ms,by simp [hm],h2⟩
 |stringIter x pos=>rw [show cs=_ from hr];show List.map g _=_;simp [hm]
 |_=>exact hr.elim
def Tp (f:Nat)(cs:List ax):lk (cs.map (OC f))=lk cs:=QE _ (λ_ _=>rfl) (λl hl s es=>by cases l<;>simp_all [OC];grind) cs
def aiQ (f:List Nat)(cs:List ax):lk (cs.map (SS f))=lk cs:=QE _ (λ_ _=>rfl) (λl hl s es=>by cases l<;>simp_all [SS];grind) cs
structure bU (c:Ctx) (Z:bn) (e:Env) (w:World) (v:Value) (o:n8):Prop where
 row: ∃I cells,c.ti o.ty=some I/\I.bR=[]/\w.ownsRow 0 o.ty I.size v o.xs.length cells/\aU e.key e.φ I.size cells o.xs/\ ∀aQ,v.ownBlock=some aQ->Z.In aQ/\(∀off u,e.φ aQ off=some u->o.fH=true/\off<o.xs.length *I.size)/\(Z.cov->o.fH=true-> ∀j,j<cells.length->e.φ aQ j=cells[j]?)
def tied (Z:bn)(t:Nat)(v:Value)(cs:List ax)(b:Nat):Prop:=(A0 t=false->v=OE cs b)/\(A0 t=true->posOf t∈Z.ca/\Z.T (posOf t)= .pointer (some ⟨b,Qu t,none⟩))
theorem tied.lk {Z:bn}{t:Nat}{v:Value}{cs gl:List ax}{b:Nat}(h:tied Z t v cs b)(hm:lk gl=lk cs):tied Z t v gl b:=⟨λhp=>by rw [h.1 hp];simp [OE,hm],h.2⟩
theorem tied.own {Z:bn}{t:Nat}{v:Value}{cs:List ax}{b:Nat}(hp:A0 t=false)(h:v=OE cs b):tied Z t v cs b:=⟨λ_=>h,(by grind)⟩
def dy (Z:bn)(e:Env)(w:World)(t:Nat)(v:Value):Slot->Prop
 | .box cs=>tied Z t v cs (e.B t)/\uS (Z.bz t) e w (e.B t) cs
 |s=>af e v s
def cM (fr:Fr):Slot->Prop
 | .ptr r _=>cg (ap fr r)=true
 | .hp r _ _ _=>cg (ap fr r)=true
 | .zK r=>cg (ap fr r)=true
 |_=>True
structure bC (c:Ctx) (Z:bn) (e:Env) (st:St) (a:Act) (w:World):Prop where
 defers:a.defers=[]/\st.ca=Z.ca/\st.ch=Z.ch/\ ∀t∈Z.ca,a.tmps.getD t undef=Z.T t
 size:a.tmps.size=c.n
 m:e.m=st.aF
 key:e.key=c.key
 nodup:(aG st.fr).Nodup
 slot: ∀t,dy Z e w t (a.tmps.getD t undef) (ap st.fr t)
 root: ∀t,cM st.fr (ap st.fr t)
 fJ: ∀f o,aB st.aF f=some o->bU c (Z.fz f) e w (e.E f) o
 bb: ∀t t' cs gl,ap st.fr t= .box cs->ap st.fr t'= .box gl->t≠t'->e.B t≠e.B t'
 bf: ∀t cs f o,ap st.fr t= .box cs->aB st.aF f=some o->(e.E f).ownBlock≠some (e.B t)
 ff: ∀f f' o o' k,aB st.aF f=some o->aB st.aF f'=some o'->(e.E f).ownBlock=some k->(e.E f').ownBlock=some k->f=f'
 jU: ∀b o v,e.φ b o=some v->w.cell? ⟨b,o,none⟩=some v
 bI: ∀b,w.heap.size<=b->Z.In b
def Rest (w w':World):Prop:=w'.os=w.os/\w'.tape=w.tape/\w'.output=w.output
def Rest.refl (w:World):Rest w w:=⟨rfl,rfl,rfl⟩
theorem Rest.trans {w w' Fo:World}(h:Rest w w') (h':Rest w' Fo):Rest w Fo:=⟨h'.1.trans h.1,h'.2.1.trans h.2.1,h'.2.2.trans h.2.2⟩
def Rest.alloc (w:World)(cs:Array Value)(t:TypeId):Rest w (w.alloc (.cells cs t)):=⟨rfl,rfl,rfl⟩
theorem Rest.setRow (w:World)(g:Nat)(cs:Array Value):Rest w (w.setRow g cs):=⟨rfl,rfl,rfl⟩
structure cq (w w':World):Prop where
 size:w.heap.size<=w'.heap.size
 qo: ∀b,b<w.heap.size->w'.heap[b]? =w.heap[b]?
 rest:Rest w w'
theorem a8 {w:World}{b:Nat}{x:Obj}(h:w.heap[b]? =some x):b<w.heap.size:=(by grind)
def cq.cell {w w':World}(g:cq w w'){ad:Addr}{v:Value}(h:w.cell? ad=some v):w'.cell? ad=some v:=by have hl:=ab3 w ad h;rw [ad8 (g.qo ad.block hl)];exact h
structure Trans (Z:Nat->Prop) (φ:Ph) (w:World) (φ':Ph) (w':World):Prop where
 ph:gx φ φ'
 heap: ∀b,¬Z b->b<w.heap.size->w'.heap[b]? =w.heap[b]?
 free: ∀b o,¬Z b->φ' b o=φ b o
 size:w.heap.size<=w'.heap.size
 rest:Rest w w'
def Trans.refl (Z:Nat->Prop) (φ:Ph)(w:World):Trans Z φ w φ w:=⟨.refl φ,λ_ _ _=>rfl,λ_ _ _=>rfl,adZ _,.refl _⟩
theorem Trans.trans {Z:Nat->Prop} {φ φ' φ'':Ph} {w w' Fo:World}(h:Trans Z φ w φ' w') (h':Trans Z φ' w' φ'' Fo):Trans Z φ w φ'' Fo:=⟨h.ph.trans h'.ph,λb hb hl=>(h'.heap b hb (ahq hl h.size)).trans (h.heap b hb hl),λb o hb=>(h'.free b o hb).trans (h.free b o hb),aei h.size h'.size,h.rest.trans h'.rest⟩
def rn (Z:bn)(e:Env)(w:World)(st:St)(v:Value):Slot->Prop
 | .box cs=> ∃aQ,v=OE cs aQ/\uS Z e w aQ cs/\(∀t gl,ap st.fr t= .box gl->e.B t≠aQ)/\(∀f o,aB st.aF f=some o->(e.E f).ownBlock≠some aQ)
 |s=>af e v s/\cM st.fr s
section
variable {c:Ctx}{Z:bn}{e:Env}{st:St}{a:Act}{w:World}
def af.const {v:Value}:af e v (A3 v):=by
 unfold A3;split<;>simp only [af,aP,MV.one]<;> first
   |exact ⟨trivial,.b _⟩
   |exact ⟨trivial,.i _ _⟩
   |exact ⟨trivial,.s _⟩
   |exact ⟨trivial,.raw _ rfl⟩
theorem bC.eval (h:bC c Z e st a w)(x:Operand):af e (a.eval x) (az c st x)/\cM st.fr (az c st x):=by
 cases x with
 |tmp t=>
  have hs:=h.slot t;have hr:=h.root t;simp only [Act.eval,az];cases ZE:plk c.par t with
  |some q=>
   simp only;cases hq:A0 q&&bo (posOf q) t with
   |false=>exact ⟨by simp [af],trivial⟩
   |true=>
    simp only [AS] at hq;have hqt:=sh hq.2;have hsq:=h.slot q;split
    .rename_i cs hfq;rw [hfq] at hsq;cases hm:dx cs with
     |true=>exact ⟨by simp [af],trivial⟩
     |false=>have ⟨k1,k2⟩:=hsq.1.2 hq.1;refine ⟨?_,by grind [cM,cg]⟩;show a.tmps.getD t undef=_;rw [<-hqt,h.defers.2.2.2 _ k1,k2]
    .exact ⟨by simp [af],trivial⟩
  |none=>
  generalize hf:ap st.fr t=s at hs hr;cases s<;>simp only [dy] at hs<;>try exact ⟨hs,hr⟩
  .rename_i cs;cases hpt:A0 t with
   |true=>exact ⟨by simp [af],trivial⟩
   |false=>
   simp_all;cases hm:lk cs with
   |true=>simp only [hm,cond_true,af,cM,hf,cg];exact ⟨by rw [hs.1.1 hpt,aaA hm],trivial⟩
   |false=>simp only [hm,cond_false,af,cM,hf,cg];exact ⟨by rw [hs.1.1 hpt,Tn hm],trivial⟩
 |const v=>refine ⟨af.const,?_⟩;simp only [az];unfold A3;split<;>trivial
 |func f=>simp only [Act.eval,az,af,aP,MV.one,cM,and_true,true_and];exact .func f _ #[] [] (by rw [h.key]) (by simpa using fq.nil) aaS
 |global g=>simp [az,af,cM]
end
def Act.zR {a:Act}{d t:Nat}{v:Value}(hd:d<a.tmps.size):(a.put (some d) v).tmps.getD t undef=if t=d then v else a.tmps.getD t undef:=by simp only [Act.put,Array.getD_eq_getD_getElem?,Array.getElem?_setIfInBounds];grind
def aaB {fr:Fr}{s:Slot}(h:cM fr s):fO (λ_=>True) (λr=>cg (ap fr r)=true) s:=by cases s<;>simp_all [cM,fO,iZ]
def OG (r:Fr)(d:Nat)(s:Slot):aG (dM r d s)=if d∈aG r then aG r else aG r++[d]:=by
 induction r with
 |nil=>simp [dM,aG]
 |cons p r ih=>
  have ⟨k,x⟩:=p;simp only [dM,eQ];by_cases h:k=d
  .simp [h,aG]
  .have h': ¬d=k:=λe=>h e.symm;have ih':List.map Prod.fst (dM r d s)=if d∈aG r then aG r else aG r++[d]:=ih
   simp only [h,h',decide_false,cond_false,aG,ad5,ad6,false_or,ih'];grind
theorem dg {r:Fr}{d:Nat}{s:Slot}(h:(aG r).Nodup):(aG (dM r d s)).Nodup:=by rw [OG];grind
section
variable {c:Ctx}{Z:bn}{e:Env}{st:St}{a:Act}{w:World}{R:Type}{K:St->Option R}{r:R}
def Env.BM (e:Env)(d aQ:Nat):Env:={e with B:=λt=>if t=d then aQ else e.B t}
def uS.env {e e':Env}{aQ:Nat}{cs:List ax}(h:uS Z e w aQ cs)(hk:e'.key=e.key)(hp:e'.φ=e.φ)(hE:e'.E=e.E)(hm:e'.m=e.m):uS Z e' w aQ cs:=by refine ⟨h.bI,?_,λoff=>by rw [hp];exact h.free off⟩;have ⟨o,h1,h2⟩:=h.obj;refine ⟨o,h1,h2.on (S:=λ_=>True) (T:=λ_=>False) ⟨hk,by rw [hp];exact .refl _,aaS,?_⟩ (by intro l _ f _;trivial)⟩;grind
def bU.env {e e':Env}{v:Value}{o:n8}(h:bU c Z e w v o)(hk:e'.key=e.key)(hp:e'.φ=e.φ):bU c Z e' w v o:=by have ⟨I,cells,h1,h2,h3,h4,h5⟩:=h.row;exact ⟨I,cells,h1,h2,h3,by grind,by rw [hp];exact h5⟩
def uS.to {aQ:Nat}{cs:List ax}(h:uS Z e w aQ cs)(t:Nat):uS (Z.bz t) e w aQ cs:=⟨.inr h.bI,h.obj,h.free⟩
def bU.to {v:Value}{o:n8}{f:Nat}(h:bU c Z.nc e w v o)(hf:f∉Z.ch):bU c (Z.fz f) e w v o:=by have ⟨I,cells,h1,h2,h3,h4,h5⟩:=h.row;exact ⟨I,cells,h1,h2,h3,h4,λaQ hb=>⟨.inr (h5 aQ hb).1,(h5 aQ hb).2.1,λhc=>absurd hc hf⟩⟩
theorem bV {d:Option Nat}{s:Slot}{v:Value}(h:bC c Z e st a w)(hv:rn Z e w st v s)(hK:aR c st d s K=some r): ∃e' bG,bC c Z e' bG (a.put d v) w/\K bG=some r/\e'.φ=e.φ:=by
 cases d with
 |none=>exact ⟨e,st,h,hK,rfl⟩
 |some d=>
  simp only [aR] at hK;cases QF:A0 d||(ad3 c.n d||cg (ap st.fr d)) with
  |true=>grind
  |false=>
   obtain ⟨aqO,hb⟩:=ad1.1 QF;simp only [QF,cond_false,wr] at hK;obtain ⟨hp,hK⟩:=oz hK;simp only [force_eq,kU] at hK;simp only [ad1] at hb;have hdn:d<a.tmps.size:=by
    rw [h.size];have:=hb.1;by_cases dh:d<c.n
    .exact dh
    .have:ad3 c.n d=true:=afS aah;simp_all
   have hdp:d∉Z.ca:=by intro hm;rw [<-h.defers.2.1,<-bm,hp] at hm;cases hm
   have amb: ∀fr:Fr,(a.put (some d) v).defers=[]/\({st with fr:=fr}:St).ca=Z.ca/\({st with fr:=fr}:St).ch=Z.ch/\ ∀t∈Z.ca,(a.put (some d) v).tmps.getD t undef=Z.T t:=by intro fr;refine ⟨h.defers.1,h.defers.2.1,h.defers.2.2.1,λt ht=> ?_⟩;rw [Act.zR hdn,if_neg (by grind)];exact h.defers.2.2.2 t ht
   have mF: ∀t,fO (λ_=>True) (λr=>r≠d) (ap st.fr t):=by intro t;have:=aaB (h.root t);generalize ap st.fr t=x at this;cases x<;>simp_all [fO,iZ]<;>(grind)
   by_cases hs: ∃cs,s= .box cs
   .obtain ⟨cs,rfl⟩:=hs;obtain ⟨aQ,rfl,vP,hnb,hnf⟩:=hv;have sB:jT (λ_=>True) (λr=>r≠d) e (e.BM d aQ):=⟨rfl,.refl _,(by grind [Env.BM]),λf o ho _=>⟨o,ho,rfl,rfl⟩⟩
    refine ⟨e.BM d aQ,_,?_,hK,rfl⟩;refine ⟨amb _,by grind [Act.put,h.size],h.m,h.key,dg h.nodup,?_,?_,?_,?_,?_,?_,h.jU,h.bI⟩
    .intro t;rw [Act.zR hdn,bA];by_cases ht:t=d
     .subst ht;simp only [if_true,dy,Env.BM];exact ⟨.own aqO rfl,(vP.to t).env rfl rfl rfl rfl⟩
     .simp only [ht,if_false];have nA:=h.slot t;have pq:=mF t;generalize ap st.fr t=x at nA pq;cases x<;>simp only [dy] at nA⊢ <;>try exact nA.on sB pq
      simp only [Env.BM,ht,if_false];exact ⟨nA.1,nA.2.env rfl rfl rfl rfl⟩
    .intro t;simp only [bA];by_cases ht:t=d
     .simp [ht,cM]
     .have pq:=h.root t;have QG:=mF t;generalize ap st.fr t=x at pq QG;cases x<;>simp_all [cM,bA,fO]
    .intro f o ho;exact (h.fJ f o ho).env rfl rfl
    .intro t t' DG Ih h1 h2 dt;simp only [bA] at h1 h2;simp only [Env.BM];by_cases ht:t=d
     .grind
     .simp only [ht,if_false] at h1;by_cases QH:t'=d
      .grind
      .simp_all;exact h.bb t t' DG Ih h1 h2 dt
    .intro t DG f o h1 h2;simp only [bA] at h1;simp only [Env.BM];by_cases ht:t=d
     .grind
     .simp only [ht,if_false] at h1⊢;exact h.bf t DG f o h1 h2
    .exact h.ff
   .have VI:af e v s/\cM st.fr s:=by cases s<;>simp_all [rn]
    refine ⟨e,_,?_,hK,rfl⟩;refine ⟨amb _,by grind [Act.put,h.size],h.m,h.key,dg h.nodup,?_,?_,h.fJ,?_,?_,h.ff,h.jU,h.bI⟩
    .intro t;rw [Act.zR hdn,bA];by_cases ht:t=d
     .cases s<;>simp only [dy]<;>first|exact VI.1|grind
     .simp only [ht,if_false];exact h.slot t
    .intro t;simp only [bA];by_cases ht:t=d
     .have hr:=VI.2;cases s<;>simp only [cM,bA] at hr⊢;all_goals grind
     .have pq:=h.root t;have QG:=mF t;generalize ap st.fr t=x at pq QG;cases x<;>simp_all [cM,bA,fO]
    .intro t t' DG Ih h1 h2 dt;simp only [bA] at h1 h2;by_cases ht:t=d
     .grind
     .by_cases QH:t'=d
      .grind
      .simp only [ht,QH,if_false] at h1 h2;exact h.bb t t' DG Ih h1 h2 dt
    .intro t DG f o h1 h2;simp only [bA] at h1;by_cases ht:t=d
     .grind
     .simp only [ht,if_false] at h1;exact h.bf t DG f o h1 h2
end
def Out (c:Ctx)(Z:bn){R:Type}(K:St->Option R)(r:R) (φ:Ph)(w:World) (a':Act) (w':World):Prop:=∃e' bG,bC c Z e' bG a' w'/\Trans Z φ w e'.φ w'/\K bG=some r
section
variable {P:Program}{c:Ctx}{Z:bn}{e:Env}{st:St}{a:Act}{w:World}{R:Type}{K:St->Option R}{r:R}{Q:Exit->Act->World->Prop}{o:Oper}
def rn.of {s:Slot}{v:Value}(h:af e v s)(hr:cM st.fr s):rn Z e w st v s:=by cases s<;>first|exact ⟨h,hr⟩|grind [af]
def fin {e':Env}{bG:St} {w':World}{s:Slot}{v:Value}(bF:(execOp a.eval o).run P w= .ok (.value v) w')(hs:bC c Z e' bG a w')(ht:Trans Z e.φ w e'.φ w')(hv:rn Z e' w' bG v s)(hK:aR c bG o.dst s K=some r):o.wp P a w (Out c Z K r e.φ w) Q:=by unfold ahT;rw [bF,afK];have ⟨e2,cj,h1,h2,h3⟩:=bV hs hv hK;exact ⟨e2,cj,h1,by grind,h2⟩
def DU {e':Env}{bG:St} {w':World}(bF:(execOp a.eval o).run P w= .ok .skip w')(hs:bC c Z e' bG a w')(ht:Trans Z e.φ w e'.φ w')(hK:aR c bG o.dst (.sc .un) K=some r):o.wp P a w (Out c Z K r e.φ w) Q:=by unfold ahT;rw [bF,Oper.upon_skip];have ⟨e2,cj,h1,h2,h3⟩:=bV (v:=undef) hs (by simp [rn,af,cM]) hK;exact ⟨e2,cj,h1,by grind,h2⟩
def Tq {e':Env}{bG:St} {w':World}{s:Slot}{v:Value}(hg:cq w w')(bF:(execOp a.eval o).run P w= .ok (.value v) w')(hs:bC c Z e' bG a w')(ht:Trans Z e.φ w e'.φ w')(hv:rn Z e' w' bG v s)(hK:aR c bG o.dst s K=some r):o.wp P a w (λa' w'=>cq w w'/\Out c Z K r e.φ w a' w') Q:=by unfold ahT;rw [bF,afK];have ⟨e2,cj,h1,h2,h3⟩:=bV hs hv hK;exact ⟨hg,e2,cj,h1,by grind,h2⟩
def Rd (P:Program)(c:Ctx)(Z:bn){R:Type}(K:St->Option R)(r:R)(e:Env)(a:Act)(w:World)(o:Oper)(G:World->Prop):Prop:=∃v,(∀w',G w'->(execOp a.eval o).run P w'= .ok (.value v) w')/\Out c Z K r e.φ w (a.put o.dst v) w
theorem Rd.wp {G:World->Prop}(h:Rd P c Z K r e a w o G)(hg:G w):o.wp P a w (Out c Z K r e.φ w) Q:=by have ⟨v,h1,h2⟩:=h;grind [ahT,afK]
def Ts {G:World->Prop} {e':Env}{bG:St}{s:Slot}{v:Value}(bF: ∀w':World,G w'->(execOp a.eval o).run P w'= .ok (.value v) w')(hs:bC c Z e' bG a w)(ht:Trans Z e.φ w e'.φ w)(hv:rn Z e' w bG v s)(hK:aR c bG o.dst s K=some r):Rd P c Z K r e a w o G:=by have ⟨e2,cj,h1,h2,h3⟩:=bV hs hv hK;exact ⟨v,bF,e2,cj,h1,by grind,h2⟩
theorem gy {s:Slot}{v:Value}(h:bC c Z e st a w)(bF: ∀w':World,(execOp a.eval o).run P w'= .ok (.value v) w')(hv:af e v s)(hr:cM st.fr s)(hK:aR c st o.dst s K=some r):Rd P c Z K r e a w o (λ_=>True):=Ts (λw' _=>bF w') h (.refl _ _ _) (.of hv hr) hK
def Nc {v:Value}{x:Bool}(h:af e v (.sc (.p (.b x)))):v= .bool x:=by have ⟨_,h⟩:=h;generalize hv:[v]=vs at h;cases h;grind
def kq {v:Value}{k:IntKind}{n:Int}(h:af e v (.sc (.p (.i k n)))):v= .int k n:=by have ⟨_,h⟩:=h;generalize hv:[v]=vs at h;cases h;grind
def DV {v:Value}{l:List UInt8}(h:af e v (.sc (.p (.s l)))): ∃b:ByteArray,v= .string b/\l=b.data.toList:=by have ⟨_,h⟩:=h;generalize hv:[v]=vs at h;cases h;grind
theorem DW (x:Bool):af e (.bool x) (.sc (.p (.b x))):=by exact ⟨rfl,.b x⟩
theorem sO (k:IntKind)(n:Int):af e (.int k n) (.sc (.p (.i k n))):=by exact ⟨rfl,.i k n⟩
theorem aep (b:ByteArray):af e (.string b) (.sc (.p (.s b.data.toList))):=by exact ⟨rfl,.s b⟩
def uT {v u:Value}(h:af e v (.sc (.p (.raw u)))):v=u:=by have ⟨_,h⟩:=h;generalize hv:[v]=vs at h;cases h;grind
def Je (u:Value)(h:u.oneCell'=true):af e u (.sc (.p (.raw u))):=by exact ⟨rfl,.raw u h⟩
def OH {x:Operand}(ho:o.op= .move x\/o.op= .assign x)(h:bC c Z e st a w)(hK:aR c st o.dst (az c st x) K=some r): Rd P c Z K r e a w o (λ_=>True):=by have ⟨h1,h2⟩:=h.eval x;refine gy h ?_ h1 h2 hK;rcases ho with ho|ho<;>simp [execOp,ho]
def QI {x:Operand}(ho:o.op= .nilCheck x)(h:bC c Z e st a w)(hK:aiE (az c st x) (λs=>aR c st o.dst s K)=some r):Rd P c Z K r e a w o (λ_=>True):=by
 have ⟨h1,h2⟩:=h.eval x;unfold aiE at hK;split at hK
 .rename_i ol;rw [ol] at h1 h2;refine gy h ?_ (v:=a.eval x) h1 h2 hK;simp_all [af,execOp]
 .rename_i ol;rw [ol] at h1 h2;refine gy h ?_ (v:=a.eval x) h1 h2 hK;have ⟨aQ,q,vs,Ij,h3⟩:=h1;simp_all [execOp]
 .rename_i m ol;rw [ol] at h1;unfold gP at hK;split at hK
  .rename_i c';have ⟨h0,h1⟩:=h1;refine gy (s:= .sc (.p (.rp c'))) h ?_ (v:=a.eval x) (by grind [af,aP]) trivial hK;generalize hv:[a.eval x]=vs at h1;cases h1 with
   |rp aQ off us ms hr hp=>
   simp_all [List.cons.injEq,and_true,execOp]
  .cases hK
 .simp at hK
def aeq {x y z:Operand}(ho:o.op= .pick x y z)(h:bC c Z e st a w)(hK:aab (az c st x) (az c st y) (az c st z) (λs=>aR c st o.dst s K)=some r):Rd P c Z K r e a w o (λ_=>True):=by
 have ⟨hx,_⟩:=h.eval x;have ⟨hy,hy2⟩:=h.eval y;have ⟨hz,hz2⟩:=h.eval z;have bF: ∀v,a.eval x= .bool v-> ∀w:World,(execOp a.eval o).run P w= .ok (.value (if v then a.eval y else a.eval z)) w:=by intro v hv w;simp [execOp,ho,hv,asBool]
 unfold aab at hK;split at hK
 .rename_i v hv;have hxv:=Nc (by rw [hv] at hx;exact hx);have hr:=bF v hxv;split at hK
  .rename_i p q hp hq;refine gy h hr ?_ (s:= .sc (.p (.b (bif v then p else q)))) trivial hK;grind [DW]
  grind [gy]
 .simp at hK
def aes {op:UnOp}{ty:TypeId}{x:Operand}(ho:o.op= .unOp op ty x)(h:bC c Z e st a w)(hK:unK op (az c st x) (λs=>aR c st o.dst s K)=some r):Rd P c Z K r e a w o (λ_=>True):=by
 have ⟨hx,_⟩:=h.eval x;generalize az c st x=s at hx hK;unfold unK at hK;split at hK
 .refine gy h ?_ (DW _) trivial hK;simp [execOp,ho,Nc hx,Op.unary]
 .refine gy h ?_ (sO _ _) trivial hK;simp [execOp,ho,kq hx,Op.unary,aga]
 .simp at hK
end
def HE:List Kd->Nat
 |[]=>0
 | .h _ n::r=>(n+2)+HE r
 |_::r=>1+HE r
def qD (ti:Nat->Option TI)(P:Program)(I:TI)(z:Option Value):TypeDesc->Prop
 | .struct fs=>I.st=true/\I.bR=[]/\(0<I.size/\HE I.lay=I.size)/\fs.toList.map (·.offset)=I.vN/\fs.toList.map (·.type)=I.Xh/\ (∀(k:Nat) (f:Field),fs[k]? =some f-> ∃J,ti f.type=some J/\J.bR=[]/\0<J.size)/\ ∃cs,z=some (.agg cs)/\uQ I.zero cs.toList=true/\cs.size=I.size
 | .tuple ts=>I.bR=ts.toList/\I.bR≠[]/\I.lay=[]/\I.st=false
 | .slice el=>I.st=false/\I.bR=[]/\I.size=1/\I.elem=el/\(∃E,ti el=some E/\E.bR=[]/\0<E.size)/\z=some (.slice none 0 0)/\I.zero=[.nil]/\(∃k,I.lay=[k]/\k= .l)
 | .array n el=>I.st=false/\I.bR=[]/\I.size=n/\I.elem=el/\ ∃k m,n=m+2/\(∃i,P.underlying el=some (.int k)/\P.info? el=some i/\i.size=1)/\I.lay=[.h k m]/\I.zero=[.hs k m (zA m)]/\z=some (.agg (bE k (zA m)).toArray)
 | .bool=>I.st=false/\I.bR=[]/\I.size=1/\I.lay=[.b]/\I.zero=[.p (.b false)]/\z=some (.bool false)
 | .int k=>I.st=false/\I.bR=[]/\I.size=1/\I.lay=[.i k]/\I.zero=[.p (.i k 0)]/\z=some (.int k 0)
 | .string=>I.st=false/\I.bR=[]/\I.size=1/\I.lay=[.s]/\I.zero=[.p (.s [])]/\ ∃b:ByteArray,z=some (.string b)/\b.data.toList=[]
 |_=>I.st=false/\I.bR=[]/\I.size=1/\I.lay=[.raw]/\ ∃v,z=some v/\v.oneCell'=true/\uQ I.zero [v]=true
def nQ (ti:Nat->Option TI)(P:Program)(t:Nat)(I:TI):Prop:=∃d i,P.underlying t=some d/\P.info? t=some i/\(I.bR=[]->i.size=I.size/\i.bytes=I.bytes)/\qD ti P I i.zero d
def fw (P:Program)(ti:Nat->Option TI):Prop:= ∀t I,ti t=some I->nQ ti P t I
section
variable {P:Program}{c:Ctx}{Z:bn}{e:Env}{st:St}{a:Act}{w:World}{R:Type}{K:St->Option R}{r:R}{Q:Exit->Act->World->Prop}{o:Oper}{w':World}
theorem cN {x:Bool}{k:Option R}(h:fh x k=some r):x=true/\k=some r:=by
 cases x
 .grind [fh]
 .exact ⟨rfl,h⟩
def ng {α:Type}{x:Option α}{k:α->Option R}(h:bd x k=some r): ∃y,x=some y/\k y=some r:=by
 cases x with
 |none=>grind [bd]
 |some y=>exact ⟨y,rfl,h⟩
def QJ {l:List MV}{i:Int}{k:MV->Option R}(h:idx l i k=some r):0<=i/\ ∃y,l[i.toNat]? =some y/\k y=some r:=by unfold idx aiC at h;grind
def nQ.agg {ti:Nat->Option TI}{t:Nat}{I:TI}(h:nQ ti P t I)(hc:I.bR=[]): (∃d,P.underlying t=some d/\d.isRow=true/\(I.st=true\/I.st=false/\1<I.size))\/(∃d,P.underlying t=some d/\d.isRow=false/\I.st=false/\I.size=1):=by
 have ⟨d,i,h1,h2,h3,h4⟩:=h;cases d<;>simp only [qD] at h4<;>first
  |exact (by grind)
  |exact (by grind)
  |exact (by grind)
  |grind
def nQ.info {ti:Nat->Option TI}{t:Nat}{I:TI}(h:nQ ti P t I)(hc:I.bR=[]): ∃i,P.info? t=some i/\i.size=I.size/\i.bytes=I.bytes:=by have ⟨d,i,h1,h2,h3,h4⟩:=h;grind
theorem aM {t:Nat}{I:TI}(h:c.tv t=some I):c.ti t=some I/\I.bR=[]:=by unfold Ctx.tv at h;grind
def Tt {s t:TypeId}{x:Operand}{I:TI}(ho:o.op= .convert s t x)(hI:c.ti t=some I)(hT:fw P c.ti)(hs: ∃d,P.underlying s=some d){fk:Option FloatKind}(Qj: ∀k,fk=some k->P.underlying t=some (.float k))(h:bC c Z e st a w)(hK:aac I fk (az c st x) (λs=>aR c st o.dst s K)=some r):Rd P c Z K r e a w o (λ_=>True):=by
 obtain ⟨hx,_⟩:=h.eval x;obtain ⟨ds,uy⟩:=hs;obtain ⟨d,i,h1,h2,h3,h4⟩:=hT t I hI;generalize az c st x=s' at hx hK;unfold aac at hK;split at hK
 .rename_i k k' n eh HF hl;have hd:d= .int k:=by cases d<;>simp only [qD,hl,eh,HF] at h4<;>simp_all
  subst hd;refine gy h ?_ (sO _ _) trivial hK;simp [execOp,ho,kq hx,convert,run_underlying uy,run_underlying h1,Conv.intToInt]
 .rename_i l eh HF hl;have hd:d= .string:=by cases d<;>simp only [qD,hl,eh,HF] at h4<;>simp_all
  obtain ⟨b,hb,rfl⟩:=DV hx;refine gy h ?_ (aep b) trivial hK;simp_all [execOp,convert,run_underlying]
 .rename_i k x eh HF hl;have hd:d= .int k:=by cases d<;>simp only [qD,hl,eh,HF] at h4<;>simp_all
  subst hd;have ⟨n,hn,hK⟩:=ng hK;have ⟨hr,hK⟩:=cN hK;have hr:=of_decide_eq_true hr;refine gy h ?_ (sO _ _) trivial hK;simp [execOp,ho,uT hx,convert,run_underlying uy,run_underlying h1,Conv.floatToInt,hn,hr]
 .split at hK
  .have Ij:=Qj _ rfl;refine gy h ?_ (Je _ rfl) trivial hK;simp [execOp,ho,kq hx,convert,run_underlying uy,run_underlying Ij,Conv.intToFloat]
  .simp at hK
 .simp at hK
def aet {op:BinOp}{k:IntKind}{x y:Int}{m:MV}{t:TypeId}(hm:VB op k x y=some m): ∃v,(∀w:World,(binOp op t (.int k x) (.int k y)).run P w= .ok v w)/\af e v (.sc (.p m)):=by
 cases op<;>simp only [VB,AI,reduceCtorEq] at hm<;>subst hm
 .simp_all [binOp,aga,sO]
 .simp_all [binOp,aga,sO]
 .simp_all [binOp,aga,sO]
 .exact ⟨.int k (S9 k x y),λw=>by simp [binOp];rfl,sO _ _⟩
 .exact ⟨.int k (bOr k x y),λw=>by simp [binOp];rfl,sO _ _⟩
 .exact ⟨.int k (IU k x y),λw=>by simp [binOp];rfl,sO _ _⟩
 .refine ⟨.bool (decide (x=y)),λw=> ?_,DW _⟩;simp [binOp,Op.intCmp];rfl
 .refine ⟨.bool (!decide (x=y)),λw=> ?_,DW _⟩;simp [binOp,Op.intCmp];rfl
 all_goals simp_all [decide,binOp,Op.intCmp,DW]
def toList_data (b:ByteArray):b.toList=b.data.toList:=by exact ByteArray.toList_eq b
def aeu {op:BinOp}{x y:ByteArray}{m:MV}{t:TypeId}(hm:Ot op x.data.toList y.data.toList=some m): ∃v,(∀w:World,(binOp op t (.string x) (.string y)).run P w= .ok v w)/\af e v (.sc (.p m)):=by
 have avI:(x.data.toList==y.data.toList)=decide (x.data.toList=y.data.toList):=by rw [Bool.eq_iff_iff];simp
 cases op<;>simp only [Ot,AI,reduceCtorEq] at hm<;>subst hm<;> exact ⟨_,λw=>by simp_all [binOp,Op.stringOp,toList_data],DW _⟩
def Xp (b:ByteArray)(n:Nat):b[n]? =b.data.toList[n]? :=by
 by_cases h:n<b.size
 .have h2:n<b.data.toList.length:=by simpa using h
  rw [getElem?_pos b n h,BY h2];rfl
 simp_all
def xr (k:IntKind)(x:List Int)(n:Nat)(hl:n<x.length):(bE k x)[n]? =some (.int k (x.getD n 0)):=by simp [bE,ad9,List.getD,BY hl]
theorem amc {t:TypeId}{x y:Operand}{I:TI}(ho:o.op= .index t x y)(hI:c.ti t=some I)(hT:fw P c.ti)(h:bC c Z e st a w)(hK:ixK I (az c st x) (az c st y) (λs=>aR c st o.dst s K)=some r):Rd P c Z K r e a w o (λ_=>True):=by
 have ⟨hx,_⟩:=h.eval x;have ⟨hy,_⟩:=h.eval y;have ⟨d,i,h1,h2,h3,h4⟩:=hT t I hI;generalize az c st x=sx at hx hK;generalize az c st y=sy at hy hK;unfold ixK at hK;split at hK
 .rename_i l k n eh hl;have hd:d= .string:=by cases d<;>simp only [qD,hl,eh] at h4<;>simp_all
  subst hd;have ⟨hc,hK⟩:=ob hK;have ⟨hn0,Nd⟩:=of_decide_eq_true hc;obtain ⟨b,hb,rfl⟩:=DV hx;have dh:n.toNat<b.data.toList.length:=aah
  refine gy h ?_ (sO .u8 ((b.data.toList.getD n.toNat 0).toNat:Int)) trivial hK;have hg:b[n.toNat]? =some (b.data.toList.getD n.toNat 0):=by rw [Xp,BY dh];simp [List.getD,BY dh]
  simp [execOp,ho,hb,kq hy,Instr.index,run_underlying h1,asIntOf,hn0,hg]
 .rename_i k' m' k m b _ n eh hl;cases hq:bo m' m&&decide (k'=k) with
  |false=>grind
  |true=>
  simp only [hq,cond_true] at hK;simp only [AS,decide_eq_true_eq] at hq;have ⟨hm,rfl⟩:=hq;have hm:=sh hm;cases d<;>simp only [qD,hl,eh] at h4<;>first|(exfalso;simp_all;done)|skip
  have ⟨hc,hK⟩:=cN hK;have ⟨hn0,Nd⟩:=of_decide_eq_true hc;have aqQ:n<(m':Int)+2:=aah
  .simp only [af] at hx;obtain ⟨_,_,_,_,kk,mm,rfl,⟨ie,hu,pu,xt⟩,ze,_⟩:=h4;simp at ze;have ⟨rfl,rfl⟩:=ze;refine gy h ?_ (sO k' (b.getD n.toNat 0)) trivial hK;have hg:=xr k' b n.toNat aah;have hg':(bE k' b).toArray[n.toNat]? =some (.int k' (b.getD n.toNat 0)):=by simpa using hg
   simp [execOp,ho,hx,kq hy,Instr.index,run_underlying h1,asIntOf,hn0,aqQ,ahO,isAgg,run_underlying hu,ad4,typeInfo,pu,xt,hg,hg']
 .simp at hK
def QK (P:Program)(ti:Nat->Option TI):Prop:=(∀t I,ti t=some I->Z5 I.zero=true-> ∃el,P.underlying t=some (.pointer el))/\ ∀t I,ti t=some I->I.bR=[]-> ∀(e:Env) (w:World) (vx vy:Value) (sx sy:Slot) (b:Bool),af e vx sx->af e vy sy-> gm I.lay (aD sx)=true->gm I.lay (aD sy)=true->pE I.st sx=true->pE I.st sy=true->jo (aD sx) (aD sy)=some b-> (∀k n k' n',sx= .sc (.p (.i k n))->sy= .sc (.p (.i k' n'))->False)->(∀l l',sx= .sc (.p (.s l))->sy= .sc (.p (.s l'))->False)-> (ahQ t vx vy).run P w= .ok b w/\ ∀(x y:Operand) (op:BinOp),(eqGuard op t x y vx vy).run P w= .ok () w/\(op= .eql->binOp op t vx vy=(do pure (.bool (<-ahQ t vx vy))))/\(op= .neq->binOp op t vx vy=(do pure (.bool (!(<-ahQ t vx vy)))))
theorem aaC {op:BinOp} {t t':TypeId}{x y:Operand}(ho:o.op= .binOp op t x y t')(h:bC c Z e st a w)(hE:QK P c.ti)(hK:aiD (c.tv t) op (az c st x) (az c st y) (λs=>aR c st o.dst s K)=some r):Rd P c Z K r e a w o (λ_=>True):=by
 obtain ⟨hP,hE⟩:=hE;obtain ⟨hx,_⟩:=h.eval x;obtain ⟨hy,_⟩:=h.eval y;generalize hsx:az c st x=sx at hx hK;generalize hsy:az c st y=sy at hy hK;have bF: ∀v,(∀w:World,(binOp op t (a.eval x) (a.eval y)).run P w= .ok v w)->(∀cs,a.eval x≠ .agg cs)->a.eval x≠ .nilIface-> ∀w:World,(execOp a.eval o).run P w= .ok (.value v) w:=by
  intro v hv hna hni w;have hg:(eqGuard op t x y (a.eval x) (a.eval y)).run P w= .ok () w:=by
   generalize a.eval x=va at hna hni;generalize a.eval y=vb;have hm: ∀(u v:Value),u=va->(∀cs,u≠ .agg cs)->u≠ .nilIface->(eqGuard op t x y u v).run P w= .ok () w:=by
    intro u v _ h1 h2;cases u<;>first
     |exact absurd rfl h2
     |exact absurd rfl (h1 _)
     |(cases op<;>rfl)
   exact hm va vb rfl hna hni
  simp [execOp,ho,hg,hv]
 unfold aiD at hK;split at hK
 .rename_i k n k' n';have e1:=kq hx;have e2:=kq hy;split at hK
  .cases hk:decide (k=k') with
   |false=>grind
   |true=>
    have hk:=of_decide_eq_true hk;subst hk;cases hz:decide (n'=0) with
    |true=>grind [fh]
    |false=>simp only [fh,hz,ahR] at hK;have hz:=of_decide_eq_false hz;refine gy h (bF _ ?_ (by simp [e1]) (by simp [e1])) (sO _ _) trivial hK;simp [binOp,e1,e2,Op.intDiv,hz]
  .cases hk:decide (k=k') with
   |false=>grind
   |true=>
    have hk:=of_decide_eq_true hk;subst hk;cases hz:decide (n'=0) with
    |true=>grind [fh]
    |false=>simp only [fh,hz,ahR] at hK;have hz:=of_decide_eq_false hz;refine gy h (bF _ ?_ (by simp [e1]) (by simp [e1])) (sO _ _) trivial hK;simp [binOp,e1,e2,Op.intDiv,hz]
  .have ⟨hz,hK⟩:=ob hK;have hz:=of_decide_eq_true hz;refine gy h (bF _ ?_ (by simp [e1]) (by simp [e1])) (sO _ _) trivial hK;have: ¬n'<0:=aah
   simp [binOp,e1,e2,Op.shift,this]
  .have ⟨hz,hK⟩:=ob hK;have hz:=of_decide_eq_true hz;refine gy h (bF _ ?_ (by simp [e1]) (by simp [e1])) (sO _ _) trivial hK;have: ¬n'<0:=aah
   simp [binOp,e1,e2,Op.shift,this]
  .cases hk:decide (k=k') with
   |false=>grind
   |true=>
    have hk:=of_decide_eq_true hk;subst hk;cases hm:VB op k n n' with
    |none=>grind
    |some m=>simp only [hm] at hK;have ⟨v,hv,hr⟩:=aet (P:=P) (e:=e) (t:=t) hm;exact gy h (by grind) hr trivial hK
 .obtain ⟨b,hb,rfl⟩:=DV hx;obtain ⟨b',Nf,rfl⟩:=DV hy;split at hK
  .have ⟨hz,hK⟩:=cN hK
   .have hz:=of_decide_eq_true hz;have hr:af e (.string (b++b')) (.sc (.p (.s (b.data.toList++b'.data.toList)))):=by have:=aep (e:=e) (b++b');simpa [ByteArray.data_append] using this
    refine gy h (bF _ ?_ (by simp [hb]) (by simp [hb])) hr trivial hK;have hs: ¬(((b.size+b'.size:Nat):Int)>IntKind.i64.max):=by
     have h1:b.size=b.data.toList.length:=aaS
     have h2:b'.size=b'.data.toList.length:=aaS
     have:IntKind.i64.max=9223372036854775807:=aaD
     rw [this];omega
    intro w;simp only [binOp,hb,Nf,Op.stringOp,hs,if_false];rfl
  .cases hm:Ot op b.data.toList b'.data.toList with
   |none=>grind
   |some m=>simp only [hm] at hK;have ⟨v,hv,hr⟩:=aeu (P:=P) (e:=e) (t:=t) hm;exact gy h (by grind) hr trivial hK
 .have e2:=uT hy;simp only [af] at hx;have ptr: ∀I:TI,c.tv t=some I->Z5 I.zero=true-> ∀w:World,(ahQ t (a.eval x) (a.eval y)).run P w= .ok false w:=by
   intro I hI hz w;obtain ⟨el,hu⟩:=hP t I (aM hI).1 hz;rw [hx,e2];have key: ∀(d:Nat) (ad:Addr),(Op.equalIn (d+1) t (.pointer (some ad)) (.pointer none)).run P w= .ok false w:=λd ad=>by simp [Op.equalIn,afo,run_underlying hu]
   exact key 9999 _
  split at hK
  .rename_i I hI;have ⟨hz,hK⟩:=ob hK;refine gy h (bF (.bool false) (λw=> ?_) (by simp [hx]) (by simp [hx])) (DW _) trivial hK;have:=ptr I hI hz w;rw [hx,e2] at this⊢;simp [binOp,this]
  .rename_i I hI;have ⟨hz,hK⟩:=ob hK;refine gy h (bF (.bool true) (λw=> ?_) (by simp [hx]) (by simp [hx])) (DW _) trivial hK;have:=ptr I hI hz w;rw [hx,e2] at this⊢;simp [binOp,this]
  .simp at hK
 .have e1:=uT hx;have e2:=uT hy;have ⟨r',hr',hK⟩:=ng hK;refine gy h (bF _ ?_ (by simp [e1]) (by simp [e1])) (Je (.float .f64 r') rfl) trivial hK;cases op<;>simp only [al3,reduceCtorEq] at hr'<;>simp [binOp,e1,e2,Op.floatArith,hr']
 .rename_i Nd Ik _ hn3;split at hK
  .rename_i I hI;have ⟨OI,Qk⟩:=aM hI;have ⟨hf,hK⟩:=ob hK;simp at hf;have ⟨hf,hsh⟩:=hf;split at hK
   .cases hm:jo (aD sx) (aD sy) with
    |none=>grind
    |some b=>simp only [hm] at hK;refine gy h ?_ (DW b) trivial hK;intro w;have ⟨h1,h2⟩:=hE t I OI Qk e w _ _ sx sy b hx hy hf.1 hf.2 hsh.1 hsh.2 hm Nd Ik;have:=(h2 x y .eql).1;simp [execOp,ho,this,(h2 x y .eql).2.1 rfl,h1]
   .cases hm:jo (aD sx) (aD sy) with
    |none=>grind
    |some b=>simp only [hm] at hK;refine gy h ?_ (DW (!b)) trivial hK;intro w;have ⟨h1,h2⟩:=hE t I OI Qk e w _ _ sx sy b hx hy hf.1 hf.2 hsh.1 hsh.2 hm Nd Ik;have:=(h2 x y .neq).1;simp [execOp,ho,this,(h2 x y .neq).2.2 rfl,h1]
   .simp at hK
  .simp at hK
theorem cell_of {aQ:Nat}{arr:Array Value}{T:TypeId}{fr:Nat×Nat}(h:w.heap[aQ]? =some (.cells arr T fr))(j:Nat):w.cell? ⟨aQ,j,none⟩=arr[j]? :=by simp [World.cell?,h]
def jr {t:TypeId}{I:TI}{aQ off:Nat}{vs:List Value}(hr:nQ c.ti P t I)(hc:I.bR=[])(hl:vs.length=I.size)(hm:w.rangeAt aQ off vs): ((I.st=true\/1<I.size)/\ ∀w:World,w.rangeAt aQ off vs->(aeP t (.pointer (some ⟨aQ,off,none⟩))).run P w= .ok (.agg vs.toArray) w)\/ (I.st=false/\ ∃v,vs=[v]/\ ∀w:World,w.rangeAt aQ off vs->(aeP t (.pointer (some ⟨aQ,off,none⟩))).run P w= .ok v w):=by
 have ⟨i,hi,hs,_⟩:=hr.info hc;rcases hr.agg hc with ⟨d,hu,hd,hh⟩|⟨d,hu,hd,h1,h2⟩
 .grind [id,run_loadAt_mid]
 .refine .inr ⟨h1,?_⟩;rw [h2] at hl;obtain ⟨v,rfl⟩:=aen.1 hl;refine ⟨v,rfl,λw hm=> ?_⟩;have qE:w.cell? ⟨aQ,off,none⟩=some v:=hm 0 v rfl;have hag:(isAgg t).run P w= .ok false w:=by unfold isAgg;rw [afo,run_underlying hu w];cases d<;>simp_all
  simp_all [aeP,aeo,loadVar]
def aP.slot {vs:List Value}{l:ax}{v:Value}(h:aP e vs l)(hv:(vs=[v]/\l.w=1)\/(v= .agg vs.toArray/\1<l.w)):af e v (.sc l):=by
 rcases hv with ⟨rfl,hw⟩|⟨rfl,hw⟩
 .cases l<;>simp [af,ax.w] at hw⊢ <;>exact h
 .cases l<;>simp [ax.w] at hw;simp only [af];obtain ⟨rfl,h2⟩:=h;grind
def fP {t:TypeId}{I:TI}{cs:List ax}{aQ base off:Nat}{vs:List Value}{s:Slot} {K':Slot->Option R}(hr:nQ c.ti P t I)(hc:I.bR=[])(hv:ar e vs cs)(hm:w.rangeAt aQ base vs)(hK:iB I cs off K'=some r): ∃v s,(∀w:World,w.rangeAt aQ base vs->(aeP t (.pointer (some ⟨aQ,base+off,none⟩))).run P w= .ok v w)/\af e v s/\cM st.fr s/\K' s=some r:=by
 unfold iB at hK;cases eh:I.st with
 |true=>
  simp only [eh,cond_true] at hK;cases hp:Dn.part cs off I.size with
  |none=>grind
  |some ds=>
   simp only [hp] at hK;obtain ⟨v1,v2,v3,rfl,h1,h2,h3⟩:=Na hp hv;have SU: ∀w:World,w.rangeAt aQ base (v1++v2++v3)->w.rangeAt aQ (base+off) v2:=by
    intro w hm j v hj;have hj2:j<v2.length:=(by grind)
    have:=hm (off+j) v (by grind);rwa [<-aez] at this
   rcases jr hr hc h2 (SU w hm) with ⟨_,bF⟩|⟨hf,_⟩
   .refine ⟨_,.ag ds,λw hm=>bF w (SU w hm),?_,trivial,hK⟩;simp only [af];grind
   grind
 |false=>
  simp only [eh,cond_false] at hK;cases hp:cut cs off with
  |none=>grind
  |some ds=>
   cases ds with
   |nil=>grind
   |cons l ls=>
    simp only [hp] at hK;have ⟨hb,hK⟩:=ob hK;have hw:=sh hb;obtain ⟨v1,v2,rfl,h1,h2⟩:=zQ hp hv;obtain ⟨u,u2,rfl,h3,h4⟩:=h2;have SU: ∀w:World,w.rangeAt aQ base (v1++(u++u2))->w.rangeAt aQ (base+off) u:=by
     intro w hm j v hj;have hj2:j<u.length:=(by grind)
     have:=hm (off+j) v (by grind);rwa [<-aez] at this
    rcases jr hr hc (by rw [h3.width,hw]) (SU w hm) with ⟨hh,bF⟩|⟨_,v,hv1,bF⟩
    .refine ⟨_,.sc l,(by grind),h3.slot (.inr ⟨rfl,?_⟩),trivial,hK⟩;grind
    .refine ⟨_,.sc l,(by grind),h3.slot (.inl ⟨hv1,?_⟩),trivial,hK⟩;grind [h3.width]
def aU.at {key:Nat->Nat} {φ:Ph}{size:Nat}{xs:List MV}: ∀{cs:List Value} {i:Nat} {x:MV},aU key φ size cs xs->xs[i]? =some x-> ∃a v b,cs=a++v++b/\a.length=i *size/\v.length=size/\il key φ v x:=by
 induction xs with
 |nil=>grind
 |cons y ys ih=>
  intro cs i x h hx;obtain ⟨v,q,rfl,hl,hr,he⟩:=h;cases i with
  |zero=>simp at hx;subst hx;exact ⟨[],v,q,aaS,aaS,hl,hr⟩
  |succ i=>grind
def fq.leaves {ms:List MV}: ∀{vs:List Value} {cs:List ax},fq e.key e.φ vs ms->bw cs=some ms->(∀m,ax.p m∈cs->m.one=true)->ar e vs cs:=by
 induction ms with
 |nil=>
  intro vs cs h hc _;cases h;cases cs with
  |nil=>rfl
  |cons l r=>cases hr:bw r<;>cases l<;>simp [bw,hr] at hc
 |cons m ms ih=>
  intro vs cs h hc ho;cases cs with
  |nil=>simp [bw] at hc
  |cons l r=>
   generalize DH:vs=QL at h;cases h with
   |cons v _ vs _ h1 h2=>
   cases hr:bw r with
   |none=>simp_all [bw]
   |some q=>
    have cV: ∀m,ax.p m∈r->m.one=true:=(by grind)
    cases l<;>simp [bw,hr] at hc
    .have ⟨rfl,rfl⟩:=hc;exact ⟨v,vs,rfl,⟨ho _ aaS,h1⟩,ih h2 hr cV⟩
    .have ⟨rfl,rfl⟩:=hc;refine ⟨v,vs,rfl,?_,ih h2 hr cV⟩;cases h1;rename_i hx;exact ⟨rfl,hx⟩
def il.Jf {vs:List Value}{x:MV}{b:Bool}{cs:List ax}(h:il e.key e.φ vs x)(hc:Ja b x cs):ar e vs cs:=by
 have ⟨⟨ms,h1,h2⟩,h3⟩:=hc;cases b with
 |true=>cases ms<;>simp [vO] at h2<;>subst h2<;>(cases h;rename_i hh;exact hh.leaves h1 h3)
 |false=>
  cases ms with
  |nil=>grind [vO]
  |cons m ms=>
   cases ms with
   |cons y ys=>grind [vO]
   |nil=>simp [vO] at h2;subst h2;have:fq e.key e.φ (vs++[]) [m]:= .cons vs m [] [] h .nil;rw [List.append_nil] at this;exact this.leaves h1 h3
def aaE {t:TypeId}{x:Operand}{I:TI}{cs:List ax}{off:Nat}(ho:o.op= .load t x)(hI:c.tv t=some I)(hT:fw P c.ti)(h:bC c Z e st a w)(Md:az c st x= .rp cs off)(hK:iB I cs off (λs=>aR c st o.dst s K)=some r):Rd P c Z K r e a w o (λw'=> ∀b q v,e.φ b q=some v->w'.cell? ⟨b,q,none⟩=some v):=by
 have ⟨hx,pq⟩:=h.eval x;have ⟨lC,hc⟩:=aM hI;have hr:=hT t I lC;rw [Md] at hx;have ⟨aQ,q,vs,hx,pi,_,aaF⟩:=hx;have hm: ∀w':World,(∀b q v,e.φ b q=some v->w'.cell? ⟨b,q,none⟩=some v)->w'.rangeAt aQ q vs:=by
  intro w' hi j v hj;have hj2:j<vs.length:=(by grind)
  exact (by grind)
 have ⟨v,s,h1,h2,h3,h4⟩:=fP (st:=st) (s:= .skip) hr hc pi (hm w h.jU) hK;refine Ts (λw' hi=> ?_) h (.refl _ _ _) (.of h2 h3) h4;simp [execOp,ho,hx,h1 w' (hm w' hi)]
theorem aew {t:TypeId}{x:Operand}{I:TI}(ho:o.op= .load t x)(hI:c.tv t=some I)(hT:fw P c.ti)(h:bC c Z e st a w)(hK:ldK st I (az c st x) (λs=>aR c st o.dst s K)=some r):Rd P c Z K r e a w o (cq w):=by
 have ⟨hx,pq⟩:=h.eval x;have ⟨lC,hc⟩:=aM hI;have hr:=hT t I lC;have aqS: ∀v s,(∀w':World,cq w w'->(aeP t (a.eval x)).run P w'= .ok v w')->af e v s->cM st.fr s->aR c st o.dst s K=some r->Rd P c Z K r e a w o (cq w):=by intro v s h1 h2 h3 h4;refine Ts (λw' hg=> ?_) h (.refl _ _ _) (.of h2 h3) h4;simp [execOp,ho,h1 w' hg]
 have keep: ∀{w':World} {aQ off:Nat} {vs:List Value},cq w w'->w.rangeAt aQ off vs->w'.rangeAt aQ off vs:=by intro w' aQ off vs hg hm j v hj;exact hg.cell (hm j v hj)
 generalize az c st x=s at hx hK pq;unfold ldK at hK;split at hK
 .rename_i root off;simp only [af] at hx;have nA:=h.slot root;split at hK
  .rename_i cs xu;rw [xu] at nA;have zG:dx cs=false:=by cases hq:dx cs<;>simp_all
   simp only [zG,cond_false] at hK;have ⟨_,vP⟩:=nA;have ⟨arr,T,bW,pi⟩:=vP.cells zG;have hm:w.rangeAt (e.B root) 0 arr.toList:=by intro j v hj;rw [aeU,cell_of bW];simpa using hj
   have ⟨v,s,h1,h2,h3,h4⟩:=fP (st:=st) (s:= .skip) hr hc pi hm hK;grind
  .simp at hK
 .have ⟨aQ,q,vs,hx,pi,_,aaF⟩:=hx;have hm:w.rangeAt aQ q vs:=by
   intro j v hj;have hj2:j<vs.length:=(by grind)
   exact h.jU _ _ _ (by grind)
  have ⟨v,s,h1,h2,h3,h4⟩:=fP (st:=st) (s:= .skip) hr hc pi hm hK;grind
 .rename_i f i off b cs;cases hf:aB st.aF f with
  |none=>grind
  |some o'=>
   simp only [hf] at hK;have ⟨aQ,cap,hE,⟨x,hxi,hel⟩,hx⟩:=hx o' (by grind [h.m]);have ⟨J,cells,hJ,hJc,dI,jk,_⟩:=(h.fJ f o' hf).row;obtain ⟨p1,v1,p2,rfl,GR,uR,eu⟩:=jk.at hxi;have pi:=eu.Jf hel;rw [hE] at dI;have qE:=dI.cells (g:=aQ) rfl;have hm:w.rangeAt aQ (i *Cy cs) v1:=by intro j v hj;have hj2:j<v1.length:=(ae3.1 hj).1;have:=qE (i *J.size+j) v (by rw [IT,aee aah,ae8 aah];rw [show i *J.size+j-p1.length=j by omega];exact hj);rw [aed,aeU] at this;rw [<-pi.width,uR];exact this
   have ⟨v,s,h1,h2,h3,h4⟩:=fP (st:=st) (s:= .skip) hr hc pi hm hK;grind
 .rename_i root off hn i;simp only [af] at hx;have nA:=h.slot root;cases hb:I.st||!bo I.size 1 with
  |true=>grind
  |false=>
   simp only [hb,cond_false] at hK;simp only [ad1,aeY] at hb;have uw:=sh hb.2;split at hK
   .rename_i cs xu;rw [xu] at nA;have zG:dx cs=false:=by cases hq:dx cs<;>simp_all
    simp only [zG,cond_false] at hK;have ⟨_,vP⟩:=nA;have ⟨arr,T,bW,pi⟩:=vP.cells zG;split at hK
    .rename_i kk n' b ls aiV;cases hq:bo n' hn with
     |false=>grind
     |true=>
     simp only [hq,cond_true] at hK;have hq:=sh hq;have ⟨v1,v2,aqT,h1,h2⟩:=zQ aiV pi;obtain ⟨u,u2,rfl,h3,h4⟩:=h2;obtain ⟨rfl,h3⟩:=h3;have hg:=xr kk b i aah;have hlen:=cA kk b;have hm:w.rangeAt (e.B root) (off+i) [.int kk (b.getD i 0)]:=by
      intro j v hj;cases j with
      |succ j=>simp at hj
      |zero=>
       rw [ahs,cell_of bW];have:arr[off+i]? =arr.toList[off+i]? :=aaS
       rw [this,aqT,aee aah,ae8 aah,show off+i-v1.length=i by omega,hg,<-hj];simp [List.getD]
     rcases jr hr hc (by simp [uw]) hm with ⟨hh,_⟩|⟨_,v,hv1,bF⟩
     .grind
     .exact aqS _ _ (by grind) (sO _ _) trivial hK
    .simp at hK
   .simp at hK
 .simp at hK
def Xq {t:TypeId}{x:Operand}{f:Nat}{I:TI}(ho:o.op= .fieldAddr t x f)(hI:c.tv t=some I)(hT:fw P c.ti)(h:bC c Z e st a w)(hK:aae st I f (az c st x) (λs=>aR c st o.dst s K)=some r):Rd P c Z K r e a w o (λ_=>True):=by
 have ⟨hx,pq⟩:=h.eval x;have ⟨lC,hc⟩:=aM hI;have ⟨d,i,h1,h2,h3,h4⟩:=hT t I lC;have key: ∀q aQ off,I.st=true->I.vN[f]? =some q->a.eval x= .pointer (some ⟨aQ,off,none⟩)-> ∀w:World,(execOp a.eval o).run P w= .ok (.value (.pointer (some ⟨aQ,off+q,none⟩))) w:=by
  intro q aQ off eh hq hv w;cases d<;>simp only [qD] at h4;case struct fs=>
   have ⟨_,_,_,ho1,cV,VJ,_⟩:=h4;rw [<-ho1,ad9] at hq;cases hf:fs.toList[f]? with
   |none=>grind
   |some fl=>
    simp [hf] at hq;subst hq;have hf':fs[f]? =some fl:=by simpa using hf
    have ⟨J,hJ,hJc,hJs⟩:=VJ f fl hf';have ⟨ij,ZF,hs,_⟩:=(hT _ _ hJ).info hJc;have hz:ij.size≠0:=aah
    simp [execOp,ho,hv,Instr.fieldAt,run_underlying h1,hf',aeo,fieldPlace,ad4,typeInfo,ZF,hz,aed]
  all_goals grind
 generalize az c st x=s at hx hK pq;unfold aae at hK;split at hK
 .rename_i q r' o' eh hq;refine gy (s:= .ptr r' (o'+q)) h (key q _ _ eh hq hx) ?_ pq hK;grind [af]
 .rename_i q cs o' eh hq;have ⟨aQ,b,vs,hx,hh⟩:=hx;refine gy (s:= .rp cs (o'+q)) h (key q _ _ eh hq hx) ?_ trivial hK;grind [af,aez]
 .rename_i q g i' o' b cs eh hq;cases hf:aB st.aF g with
  |none=>grind
  |some w'=>simp only [hf] at hK;have ⟨aQ,cap,h5,h6,h7⟩:=hx w' (by grind [h.m]);refine gy (s:= .ep g i' (o'+q) b cs) h (key q _ _ eh hq h7) ?_ trivial hK;grind [af,h.m,aez]
 .simp at hK
def Xr {cs:List ax}: ∀{vs:List Value} {k:Nat} {l:ax},ar e vs cs->DM cs k=some l-> ∃v,vs[k]? =some v/\af e v (.sc l):=by
 induction cs with
 |nil=>grind [DM]
 |cons x xs ih=>
  intro vs k l hr hk;obtain ⟨v0,q,rfl,h1,h2⟩:=hr;have hw:=h1.width;have hx:x.w=1/\(k=0->x=l)/\(∀j,k=j+1->DM xs j=some l)/\ ∀kk n y,x≠ .hs kk n y:=by cases x<;>cases k<;>simp [DM,ax.w] at hk⊢ <;>exact hk
  have ⟨w1,w2,w3,w4⟩:=hx;rw [w1] at hw;obtain ⟨u,rfl⟩:=aen.1 hw;cases k with
  |zero=>refine ⟨u,rfl,?_⟩;cases x<;>first|grind [af]|exact absurd rfl (w4 _ _ _)|grind [af]
  |succ j=>grind
def aiW {x:Operand}{k:Nat}(ho:o.op= .extract x k)(h:bC c Z e st a w)(hK:aiJ (az c st x) k (λs=>aR c st o.dst s K)=some r):Rd P c Z K r e a w o (λ_=>True):=by
 have ⟨hx,pq⟩:=h.eval x;generalize az c st x=s at hx hK;unfold aiJ at hK;split at hK
 .rename_i cs;have ⟨arr,hv,hs⟩:=hx;cases hk:DM cs k with
  |none=>grind
  |some l=>simp only [hk] at hK;have ⟨v,Xs,h1⟩:=Xr hs hk;refine gy h ?_ h1 trivial hK;simp_all [execOp,Instr.extract]
 .rename_i vs;have ⟨arr,hv,hs⟩:=hx;cases hk:vs[k]? with
  |none=>grind
  |some s=>
   simp only [hk] at hK;have: ∀(k:Nat) (vs:List Slot) (l:List Value),lz e l vs->vs[k]? =some s-> ∃v,l[k]? =some v/\af e v s/\Ca s=true:=by
    intro k;induction k with
    |zero=>
     intro vs l hl hk;cases vs with
     |nil=>simp at hk
     |cons y ys=>simp only [lz] at hl;grind
    |succ k ih=>
     intro vs l hl hk;cases vs with
     |nil=>simp at hk
     |cons y ys=>grind [lz]
   have ⟨v,Xs,h1,h2⟩:=this k vs arr.toList hs hk;refine gy h ?_ h1 ?_ hK
   .simp_all [execOp,Instr.extract]
   .cases s<;>simp [Ca] at h2<;>trivial
 .simp at hK
def cq.refl (w:World):cq w w:=⟨adZ _,λ_ _=>rfl,.refl _⟩
def cq.alloc (w:World)(cs:Array Value)(t:TypeId):cq w (w.alloc (.cells cs t)):=⟨aaS,(by grind [nb]),.alloc w cs t⟩
def cq.aqU (g:cq w w'){base:Nat}{t:TypeId}{size:Nat}{v:Value}{n:Nat}{xs:List Value}(h:w.ownsRow base t size v n xs):w'.ownsRow base t size v n xs:=by
 refine ⟨h.1,?_⟩;rcases h.2 with h|⟨b,cap,cD,h1,h2,h3,h4⟩
 .exact .inl h
 .exact .inr ⟨b,cap,cD,h1,h2,by rw [g.qo b (a8 h3)];exact h3,h4⟩
def uS.grow (g:cq w w'){aQ:Nat}{cs:List ax}(h:uS Z e w aQ cs):uS Z e w' aQ cs:=by have ⟨o,h1,h2⟩:=h.obj;exact ⟨h.bI,⟨o,by rw [g.qo _ (a8 h1)];exact h1,h2⟩,h.free⟩
def bU.grow (g:cq w w'){v:Value}{f:n8}(h:bU c Z e w v f):bU c Z e w' v f:=by have ⟨I,cells,h1,h2,h3,h4,h5⟩:=h.row;exact ⟨I,cells,h1,h2,g.aqU h3,h4,h5⟩
def bC.grow (g:cq w w')(h:bC c Z e st a w):bC c Z e st a w':=by refine ⟨h.defers,h.size,h.m,h.key,h.nodup,?_,h.root,λf o ho=>(h.fJ f o ho).grow g,h.bb,h.bf,h.ff,λb o v hv=>g.cell (h.jU b o v hv),λb hb=>h.bI b (aei g.size hb)⟩;intro t;have hs:=h.slot t;generalize ap st.fr t=s at hs;cases s<;>simp only [dy] at hs⊢ <;>first|exact hs|exact ⟨hs.1,hs.2.grow g⟩
theorem cq.trans (g:cq w w')(hz: ∀b,w.heap.size<=b->Z b) (φ:Ph):Trans Z φ w φ w':=⟨.refl φ,λb _ hl=>g.qo b hl,λ_ _ _=>rfl,g.size,g.rest⟩
def Xt {l:ax}{vs:List Value}(h:aau l vs=true):aP e vs l:=by
 unfold aau at h;split at h
 .simp at h;subst h;exact ⟨rfl,.b _⟩
 .simp at h;have ⟨rfl,rfl⟩:=h;exact ⟨rfl,.i _ _⟩
 .simp at h;subst h;exact ⟨rfl,.s _⟩
 .split at h
  .exact ⟨rfl,.raw _ rfl⟩
  .exact ⟨rfl,.raw _ rfl⟩
  .exact ⟨rfl,.raw _ rfl⟩
  .simp at h
 .rfl
 .exact ⟨_,rfl,h⟩
 .rename_i kk n x;simp only [AS,beq_iff_eq] at h;have ⟨⟨h1,h0⟩,h2⟩:=h;refine ⟨?_,h0⟩;apply List.ext_getElem?;intro j;by_cases Mf:j<x.length
  .rw [xr kk x j Mf];have hm:(vs[j],x[j])∈vs.zip x:=(by grind [agc])
   grind
  grind [List.getElem?_eq_none,cA]
 .simp at h
theorem lD {ls:List ax}: ∀{vs:List Value},uQ ls vs=true->ar e vs ls:=by
 induction ls with
 |nil=>grind [uQ,ar]
 |cons l r ih=>intro vs h;simp only [uQ,AS] at h;exact ⟨vs.take l.w,vs.drop l.w,aaS,Xt h.1.1,ih h.1.2⟩
def ar.zS {cs:List ax}{vs:List Value}(h:ar e vs cs):dx cs=false:=by
 cases hm:dx cs with
 |false=>rfl
 |true=>obtain ⟨s,ms,rfl⟩:=Ig hm;have ⟨_,_,_,h1,_⟩:=h;exact h1.elim
def Jg (h:bC c Z e st a w)(off:Nat):e.φ w.heap.size off=none:=by
 cases hp:e.φ w.heap.size off with
 |none=>rfl
 |some v=>have:=ab3 w _ (h.jU _ _ _ hp);simp at this
def A5 (h:bC c Z e st a w):(∀t gl,ap st.fr t= .box gl->e.B t≠w.heap.size)/\(∀f o,aB st.aF f=some o->(e.E f).ownBlock≠some w.heap.size):=by
 refine ⟨?_,?_⟩
 .intro t gl ht;have hs:=h.slot t;rw [ht] at hs;have ⟨o,h1,_⟩:=hs.2.obj;grind
 .intro f o ho hk;have ⟨I,cells,h1,h2,h3,h4,h5⟩:=(h.fJ f o ho).row;rcases h3.2 with ⟨hv,_⟩|⟨g,cap,cD,hv,_,hg,_⟩;all_goals grind [IN,AI,a8]
def VK {cells:Array Value}{T:TypeId}{cs:List ax}(h:bC c Z e st a w)(hl:ar e cells.toList cs): rn Z e (w.alloc (.cells cells T)) st (.pointer (some ⟨w.heap.size,0,none⟩)) (.box cs):=by exact ⟨w.heap.size,by rw [sN hl.zS],⟨h.bI _ (adZ _),⟨_,fL w _,rfl,hl⟩,Jg h⟩,(A5 h).1,(A5 h).2⟩
def aaG {t:TypeId}{I:TI}(ho:o.op= .alloc t)(hI:c.tv t=some I)(hT:fw P c.ti)(h:bC c Z e st a w)(hK:aR c st o.dst (.box I.zero) K=some r):o.wp P a w (λa' w'=>cq w w'/\Out c Z K r e.φ w a' w') Q:=by
 have ⟨lC,hc⟩:=aM hI;have ⟨d,i,h1,h2,h3,h4⟩:=hT t I lC;have hz: ∃z,i.zero=some z/\ar e z.cells.toList I.zero:=by
  cases d<;>simp only [qD] at h4;case struct fs=>grind [No,lD]
  case tuple ts=>grind
  case slice el=>have ⟨_,_,_,_,_,hz,hl,_⟩:=h4;exact ⟨_,hz,by rw [hl];exact ⟨[.slice none 0 0],[],rfl,rfl,rfl⟩⟩
  case array n el=>have ⟨_,_,_,_,k,m,_,_,_,hl,hz⟩:=h4;exact ⟨_,hz,by rw [hl];exact ⟨bE k (zA m),[],by simp [No],⟨rfl,aaS⟩,rfl⟩⟩
  case bool=>have ⟨_,_,_,_,hl,hz⟩:=h4;exact ⟨_,hz,by rw [hl];exact ⟨[.bool false],[],rfl,⟨rfl,.b _⟩,rfl⟩⟩
  case int k=>have ⟨_,_,_,_,hl,hz⟩:=h4;exact ⟨_,hz,by rw [hl];exact ⟨[.int k 0],[],rfl,⟨rfl,.i _ _⟩,rfl⟩⟩
  case string=>have ⟨_,_,_,_,hl,b,hz,hb⟩:=h4;refine ⟨_,hz,by rw [hl];refine ⟨[.string b],[],rfl,⟨rfl,?_⟩,rfl⟩;rw [<-hb];exact .s b⟩
  all_goals
   have ⟨_,_,_,_,v,hz,hv,hl⟩:=h4;have:v.cells.toList=[v]:=by cases v<;>simp_all [No,AT]
   grind [lD]
 have ⟨z,hz,hl⟩:=hz;have bF:(execOp a.eval o).run P w= .ok (.value (.pointer (some ⟨w.heap.size,0,none⟩))) (w.alloc (.cells z.cells t)):=by simp [execOp,ho,Instr.alloc,zeroValue,typeInfo,h2,hz,newVar,newRow,newObj,aia]
 exact Tq (.alloc w _ _) bF (h.grow (.alloc w _ _)) ((cq.alloc w _ _).trans h.bI _) (VK h hl) hK
def aiX {t:TypeId}{x:Operand}{I:TI}(ho:o.op= .box t x)(h:bC c Z e st a w)(hK:aiF I (az c st x) (λs=>aR c st o.dst s K)=some r):o.wp P a w (λa' w'=>cq w w'/\Out c Z K r e.φ w a' w') Q:=by
 have ⟨hx,pq⟩:=h.eval x;have bF:(execOp a.eval o).run P w= .ok (.value (.pointer (some ⟨w.heap.size,0,none⟩))) (w.alloc (.cells (a.eval x).cells t)):=by simp [execOp,ho,Instr.box,newVar,newRow,newObj,aia]
 have go: ∀cs,ar e (a.eval x).cells.toList cs->aR c st o.dst (.box cs) K=some r->o.wp P a w (λa' w'=>cq w w'/\Out c Z K r e.φ w a' w') Q:=λcs h1 h2=>Tq (.alloc w _ _) bF (h.grow (.alloc w _ _)) ((cq.alloc w _ _).trans h.bI _) (VK h h1) h2;generalize az c st x=s at hx hK pq;unfold aiF at hK;split at hK
 .rename_i l;have ⟨hb,hK⟩:=oz hK;refine go [l] ?_ hK;cases l with
  |un=>grind [S8]
  |hs kk n y=>rw [hx.1];exact ⟨bE kk y,[],by simp [No],⟨rfl,hx.2⟩,rfl⟩
  |p m=>
   simp only [af] at hx;have:(a.eval x).cells.toList=[a.eval x]:=by have:=hx.cells (a.eval x) aaS;generalize a.eval x=v at this;cases v<;>simp_all [No,AT]
   rw [this];exact ⟨_,[],rfl,hx,rfl⟩
  |nil=>have hx':[a.eval x]=[aeb none 0 0]:=hx;simp at hx';rw [hx'];exact ⟨[.slice none 0 0],[],rfl,rfl,rfl⟩
  |mp s es=>grind [S8]
  |own f=>
   simp only [af] at hx;have:(a.eval x).cells.toList=[a.eval x]:=by have:=hx.cells (a.eval x) aaS;generalize a.eval x=v at this;cases v<;>simp_all [No,AT]
   rw [this];exact ⟨_,[],rfl,hx,rfl⟩
 .rename_i cs;have ⟨hb,hK⟩:=ob hK;have ⟨arr,hx,hl⟩:=hx;exact go cs (by rw [hx];exact hl) hK
 .simp at hK
def setRow_size (w:World)(g:Nat)(cs:Array Value):(w.setRow g cs).heap.size=w.heap.size:=by simp_all
structure ZG (g:Nat) (w w':World):Prop where
 size:w'.heap.size=w.heap.size
 other: ∀b,b≠g->w'.heap[b]? =w.heap[b]?
 rest:Rest w w'
theorem ZG.setRow (w:World)(g:Nat)(cs:Array Value):ZG g w (w.setRow g cs):=⟨setRow_size _ _ _,(by grind [setRow_other]),.setRow _ _ _⟩
def QM {g:Nat}(hc:ZG g w w'){base:Nat}{t:TypeId}{size:Nat}{v:Value}{n:Nat}{xs:List Value}(dt:v.ownBlock≠some g)(h:w.ownsRow base t size v n xs):w'.ownsRow base t size v n xs:=by
 refine ⟨h.1,?_⟩;rcases h.2 with h|⟨b,cap,cD,h1,h2,h3,h4⟩
 .exact .inl h
 .refine .inr ⟨b,cap,cD,h1,h2,?_,h4⟩;rw [hc.other _ (by intro e;subst e;subst h1;exact dt rfl)];exact h3
def Tu {g:Nat}{cs:Array Value}{base:Nat}{t:TypeId}{size:Nat}{v:Value}{n:Nat}{xs:List Value}(dt:v.ownBlock≠some g)(h:w.ownsRow base t size v n xs):(w.setRow g cs).ownsRow base t size v n xs:=QM (.setRow w g cs) dt h
def bC.setObj {root:Nat}{cs gl:List ax} {o':Obj}{xi:Fr}(h:bC c Z e st a w)(hf:ap st.fr root= .box cs)(SV:ZG (e.B root) w w')(ja:w'.heap[e.B root]? =some o')(hl:jZ e o' gl)(hmm:lk gl=lk cs)(zT: ∀t,ap xi t=if t=root then .box gl else ap st.fr t)(hnd:(aG xi).Nodup):bC c Z e {st with fr:=xi} a w':=by
 have uw:=SV.size;have mF:=h.slot root;rw [hf] at mF;refine ⟨h.defers,h.size,h.m,h.key,hnd,?_,?_,?_,?_,?_,h.ff,?_,λb hb=>h.bI b aah⟩
 .intro t;rw [zT];by_cases ht:t=root
  .simp_all;exact ⟨mF.1.lk hmm,⟨mF.2.bI,⟨o',ja,hl⟩,mF.2.free⟩⟩
  .simp only [ht,if_false];have hs:=h.slot t;have QF:=h.bb t root;generalize hg:ap st.fr t=s at hs QF;cases s<;>simp only [dy] at hs⊢ <;>try exact hs
   rename_i Ih;refine ⟨hs.1,hs.2.bI,?_,hs.2.free⟩;have ⟨o2,h1,h2⟩:=hs.2.obj;exact ⟨o2,by rw [SV.other _ (QF Ih cs rfl hf ht)];exact h1,h2⟩
 .intro t;rw [zT];by_cases ht:t=root
  .simp [ht,cM]
  .have hr:=h.root t;generalize ap st.fr t=s at hr;cases s<;>simp only [cM] at hr⊢ <;>(grind [cg])
 .intro f o ho;have ⟨I,cells,h1,h2,h3,h4,h5⟩:=(h.fJ f o ho).row;exact ⟨I,cells,h1,h2,QM SV (h.bf root cs f o hf ho) h3,h4,h5⟩
 .intro t t' c1 c2 h1 h2 dt;rw [zT] at h1 h2;by_cases ht:t=root
  .by_cases QH:t'=root
   .grind
   .simp only [QH,if_false] at h2;rw [ht];exact h.bb root t' cs c2 hf h2 (by grind)
  .simp only [ht,if_false] at h1;by_cases QH:t'=root
   .rw [QH];exact h.bb t root c1 cs h1 hf ht
   .simp only [QH,if_false] at h2;exact h.bb t t' c1 c2 h1 h2 dt
 .intro t c1 f o h1 h2;rw [zT] at h1;by_cases ht:t=root
  .rw [ht];exact h.bf root cs f o hf h2
  .simp only [ht,if_false] at h1;exact h.bf t c1 f o h1 h2
 .intro b o v hv;have dt:b≠e.B root:=by intro eb;subst eb;rw [mF.2.free] at hv;cases hv
  have:=h.jU b o v hv;rw [ad8 (SV.other _ dt)];exact this
def bC.aaH {root:Nat}{cs gl:List ax}{arr Mg:Array Value}{T:TypeId}{xi:Fr}(h:bC c Z e st a w)(hf:ap st.fr root= .box cs)(bW:w.heap[e.B root]? =some (.cells arr T (0,0)))(hl:ar e Mg.toList gl)(zT: ∀t,ap xi t=if t=root then .box gl else ap st.fr t)(hnd:(aG xi).Nodup):bC c Z e {st with fr:=xi} a (w.setRow (e.B root) Mg):=by
 have mF:=h.slot root;rw [hf] at mF;have hm:dx cs=false:=by obtain ⟨o,h1,h2⟩:=mF.2.obj;rw [bW] at h1;cases h1;exact h2.2.zS
 exact h.setObj hf (.setRow _ _ _) (setRow_heap _ _ _ _ _ _ bW) ⟨rfl,hl⟩ (by rw [DT hm,DT hl.zS]) zT hnd
def Trans.chg {g:Nat} (φ:Ph)(SV:ZG g w w')(hz:Z g):Trans Z φ w φ w':=⟨.refl φ,λb hb _=>SV.other _ (by grind),λ_ _ _=>rfl,by rw [SV.size];grind,SV.rest⟩
theorem Trans.setRow {g:Nat}{Mg:Array Value} (φ:Ph)(hz:Z g):Trans Z φ w φ (w.setRow g Mg):=⟨.refl φ,(by grind [setRow_other]),λ_ _ _=>rfl,by simp_all,.setRow _ _ _⟩
def Cb {v:Value}{s:Slot}(h:af e v s)(hu:B8 (aD s)=false)(dt:aD s≠[]):ar e v.cells.toList (aD s):=by
 cases s with
 |sc l=>
  simp only [aD] at hu⊢;have j0: ∀l,aP e [v] l->ar e v.cells.toList [l]:=by
   intro l hl;have hc:=hl.cells v aaS;have:v.cells.toList=[v]:=by cases v<;>simp_all [No,AT]
   rw [this];exact ⟨[v],[],rfl,hl,rfl⟩
  cases l with
  |un=>grind [B8,S8]
  |hs k n x=>rw [h.1];exact ⟨bE k x,[],by simp [No],⟨rfl,h.2⟩,rfl⟩
  |p m=>grind [af]
  |nil=>grind [af]
  |mp s es=>grind [B8,S8]
  |own f=>grind [af]
 |ag cs=>obtain ⟨arr,rfl,hl⟩:=h;exact hl
 |_=>exact absurd rfl dt
def nh {t:TypeId}{I:TI}{aQ off:Nat}{v:Value}{arr:Array Value}{T:TypeId}(hr:nQ c.ti P t I)(hc:I.bR=[])(hs:v.cells.toList.length=I.size)(j0: ∀u∈v.cells.toList,u.oneCell'=true)(bW:w.heap[aQ]? =some (.cells arr T (0,0)))(BN:off+I.size<=arr.size): (afh t (.pointer (some ⟨aQ,off,none⟩)) v).run P w= .ok () (w.setRow aQ (arr.toList.take off++v.cells.toList++arr.toList.drop (off+I.size)).toArray):=by have ⟨i,hi,uw,_⟩:=hr.info hc;have h1:=run_storeCells_at P aQ off T v.cells.toList 0 arr w bW aah j0;simp_all [afh,aeo,storeVar,ad4,typeInfo]
theorem Xu {t:TypeId}{I:TI}{root off:Nat}{v:Value}{cs ls gl:List ax} {K':St->Option R}(zG:dx cs=false)(hr:nQ c.ti P t I)(hc:I.bR=[])(h:bC c Z e st a w)(hf:ap st.fr root= .box cs)(hv:ar e v.cells.toList ls)(Jh:Cy ls=I.size)(hp:putAt cs off ls=some gl)(hK:wr st root (.box gl) K'=some r): ∃w' bG,(afh t (.pointer (some ⟨e.B root,off,none⟩)) v).run P w= .ok () w'/\bC c Z e bG a w'/\Trans Z e.φ w e.φ w'/\K' bG=some r:=by
 have nA:=h.slot root;rw [hf] at nA;have ⟨arr,T,bW,pi⟩:=nA.2.cells zG;have ⟨v1,v2,v3,he,h1,h2,h3⟩:=xp hp pi hv;have hlen:=hv.width;have uw:arr.size=v1.length+v2.length+v3.length:=by
  have:arr.toList.length=(v1++v2++v3).length:=by rw [he]
  simp at this;omega
 have bF:=nh (P:=P) (w:=w) (aQ:=e.B root) (off:=off) hr hc (by rw [hlen,Jh]) hv.cells bW aah;have ame:arr.toList.take off=v1:=by rw [he,IT,afR h1]
 have amf:arr.toList.drop (off+I.size)=v3:=by rw [he];exact (by grind)
 rw [ame,amf] at bF;have ⟨hn,hK⟩:=oz hK;simp only [force_eq,kU] at hK;refine ⟨_,_,bF,?_,.setRow _ (QD nA.2.bI (by rw [<-h.defers.2.1,<-bm,hn];simp)),hK⟩;exact h.aaH hf bW aah (by grind [bA]) (dg h.nodup)
theorem aU.mono {key:Nat->Nat} {φ φ':Ph}(h:gx φ φ'){size:Nat}{xs:List MV}: ∀{cs:List Value},aU key φ size cs xs->aU key φ' size cs xs:=by
 induction xs with
 |nil=>intro cs hh;exact hh
 |cons x xs ih=>intro cs hh;obtain ⟨v,q,rfl,h1,h2,h3⟩:=hh;exact ⟨v,q,rfl,h1,h2.mono h,ih h3⟩
theorem aU.length {key:Nat->Nat} {φ:Ph}{size:Nat}{xs:List MV}: ∀{cs:List Value},aU key φ size cs xs->cs.length=xs.length *size:=by
 induction xs with
 |nil=>intro cs hh;cases hh;simp
 |cons x xs ih=>intro cs hh;obtain ⟨v,q,rfl,h1,h2,h3⟩:=hh;grind
def Tv {m:List (Nat×n8)}{f:Nat}{o:n8}(h:aB m f=some o):ct m f o=m:=by
 induction m with
 |nil=>grind [aB]
 |cons p r ih=>simp only [aB,ct,eQ] at h⊢;grind
def kV (φ:Ph)(v:Value)(cells:List Value):Ph:=λb off=>if v.ownBlock=some b/\off<cells.length then cells[off]? else φ b off
theorem GS {base:Nat}{t:TypeId}{size n:Nat}{v:Value}{xs ys:List Value}(h:w.ownsRow base t size v n xs) (h':w.ownsRow base t size v n ys){b:Nat}(hb:v.ownBlock=some b):xs=ys:=by
 rcases h.2 with ⟨h1,_⟩|⟨g,cap,cD,h1,_,h2,_,_,_,h3⟩
 .grind [IN]
 .rcases h'.2 with ⟨Ij,_⟩|⟨g',aaI,qG,Ij,_,SW,_,_,_,ZH⟩;all_goals grind
theorem freeze {f:Nat}{o:n8}(h:bC c Z e st a w)(hf:aB st.aF f=some o)(hp:f∉Z.ch\/o.fH=true): ∃φ',gx e.φ φ'/\(∀b off,¬Z b->φ' b off=e.φ b off)/\bC c Z {e with φ:=φ',m:=ct e.m f ⟨o.ty,true,o.xs⟩} {st with aF:=ct st.aF f ⟨o.ty,true,o.xs⟩} a w/\ il e.key φ' [e.E f] (.list o.xs)/\ (∀I cells,c.ti o.ty=some I->w.ownsRow 0 o.ty I.size (e.E f) o.xs.length cells-> ∀aQ,(e.E f).ownBlock=some aQ-> ∀j,j<cells.length->φ' aQ j=cells[j]?):=by
 have ⟨I,cells,hI,SX,dI,jk,hz⟩:=(h.fJ f o hf).row;have hlen:=jk.length;have hle:gx e.φ (kV e.φ (e.E f) cells):=by
  intro b off v hv;unfold kV;by_cases hc:(e.E f).ownBlock=some b/\off<cells.length
  .have ⟨hb,ho⟩:=hc;rcases dI.2 with ⟨hE,_⟩|⟨g,cap,cD,hE,_,hg,hn,HF,xu,SY⟩
   .grind
   .rw [hE] at hb;simp only [IN,AI] at hb;subst hb;have:=h.jU _ _ _ hv;rw [cell_of hg] at this;grind
  .grind
 have iu: ∀b off v,kV e.φ (e.E f) cells b off=some v->w.cell? ⟨b,off,none⟩=some v:=by
  intro b off v hv;unfold kV at hv;by_cases hc:(e.E f).ownBlock=some b/\off<cells.length
  .simp only [hc,and_self,if_true] at hv;rcases dI.2 with ⟨hE,_⟩|⟨g,cap,cD,hE,_,hg,hn,HF,xu,SY⟩
   .grind
   .rw [hE] at hc;simp only [IN,AI] at hc;have ⟨hb,ho⟩:=hc;subst hb;rw [cell_of hg];grind
  .simp only [hc,if_false] at hv;exact h.jU _ _ _ hv
 have amg: ∀b off,¬Z b->kV e.φ (e.E f) cells b off=e.φ b off:=by
  intro b off hb;unfold kV;by_cases hc:(e.E f).ownBlock=some b/\off<cells.length
  .by_cases Cc:f∈Z.ch
   .simp only [hc,and_self,if_true];exact (((hz b hc.1).2.2 Cc (by grind)) off hc.2).symm
   .exact absurd (QD (hz b hc.1).1 Cc) hb
  .simp [hc]
 have Tw: ∀b off,(e.E f).ownBlock≠some b->kV e.φ (e.E f) cells b off=e.φ b off:=by intro b off hb;unfold kV;simp [hb]
 have sB:jT (λ_=>True) (λ_=>True) e {e with φ:=kV e.φ (e.E f) cells,m:=ct e.m f ⟨o.ty,true,o.xs⟩}:=by
  refine ⟨rfl,hle,λ_ _=>rfl,?_⟩;intro f2 o2 cV _;have cV:aB (ct e.m f ⟨o.ty,true,o.xs⟩) f2=some o2:=cV;rw [aW] at cV;by_cases jt:f2=f
  .subst jt;simp at cV;subst cV;exact ⟨o,by grind [h.m],rfl,rfl⟩
  .grind
 have rV: ∀s:Slot,fO (λ_=>True) (λ_=>True) s:=by intro s;cases s<;>simp [fO,iZ]
 refine ⟨_,hle,amg,?_,?_,?_⟩;rotate_right
 .grind [GS,kV]
 .refine ⟨h.defers,h.size,by rw [h.m],h.key,h.nodup,?_,h.root,?_,h.bb,?_,?_,iu,h.bI⟩
  .intro t;have hs:=h.slot t;have hbf:=h.bf t;generalize ap st.fr t=s at hs hbf;cases s<;>simp only [dy] at hs⊢ <;>try exact hs.on sB (rV _)
   rename_i cs;refine ⟨hs.1,hs.2.bI,?_,?_⟩
   .have ⟨o2,h1,h2⟩:=hs.2.obj;exact ⟨o2,h1,h2.on sB (λl _ f _=>trivial)⟩
   .intro off;show kV e.φ (e.E f) cells (e.B t) off=none;rw [Tw _ _ (hbf cs f o rfl hf)];exact hs.2.free off
  .intro f2 o2 cV;rw [aW] at cV;by_cases jt:f2=f
   .subst jt;simp at cV;subst cV;refine ⟨I,cells,hI,SX,dI,jk.mono hle,?_⟩;intro aQ hb;refine ⟨(hz aQ hb).1,?_,?_⟩;rotate_left
    .grind [kV]
    intro off u hu;unfold kV at hu;grind
   .simp only [jt,if_false] at cV;have ⟨I2,vQ,h1,h2,h3,h4,h5⟩:=(h.fJ f2 o2 cV).row;refine ⟨I2,vQ,h1,h2,h3,h4.mono hle,?_⟩;intro aQ hb;refine ⟨(h5 aQ hb).1,?_,?_⟩;rotate_left
    .intro g1 g2 j hj;show kV e.φ (e.E f) cells aQ j=_;rw [Tw _ _ (λhbf=>jt (h.ff f2 f o2 o aQ cV hf hb hbf))];grind
    intro off u hu;have hu:kV e.φ (e.E f) cells aQ off=some u:=hu;rw [Tw _ _ (λhbf=>jt (h.ff f2 f o2 o aQ cV hf hb hbf))] at hu;grind
  .intro t cs f2 o2 h1 h2;rw [aW] at h2;by_cases jt:f2=f
   .subst jt;exact h.bf t cs f2 o h1 hf
   .simp only [jt,if_false] at h2;exact h.bf t cs f2 o2 h1 h2
  .intro f1 f2 o1 o2 k h1 h2 h3 h4;rw [aW] at h1 h2;have g1: ∃o',aB st.aF f1=some o':=by
    by_cases jt:f1=f
    .grind
    .grind
   have g2: ∃o',aB st.aF f2=some o':=by
    by_cases jt:f2=f
    .grind
    .grind
   have ⟨q1,g1⟩:=g1;have ⟨q2,g2⟩:=g2;exact h.ff f1 f2 q1 q2 k g1 g2 h3 h4
 .have zU:=jk.mono hle;rcases dI.2 with ⟨hE,hn⟩|⟨g,cap,cD,hE,_,hg,hn,HF,xu,SY⟩
  .have hx:o.xs=[]:=(by grind)
   have hv:[e.E f]=[aeb none 0 0]:=by rw [hE]
   rw [hv,hx];exact .list none 0 [] 0 0 0 (λ_=>[]) aaS aaS aaS aaS aaS
  .have hv:[e.E f]=[aeb (some ⟨g,0,none⟩) o.xs.length cap]:=by rw [hE]
   rw [hv];have Tx: ∀i (hi:i<o.xs.length),∃v1,v1.length=I.size/\il e.key (kV e.φ (e.E f) cells) v1 o.xs[i]/\(cells.drop (i *I.size)).take I.size=v1:=by intro i hi;obtain ⟨p1,v1,p2,he,GR,uR,eu⟩:=zU.at (BY hi);refine ⟨v1,uR,eu,?_⟩;rw [he,IT,<-GR,agt,<-uR,agv]
   refine .list (some ⟨g,0,none⟩) cap o.xs g 0 I.size (λi=>(cells.drop (i *I.size)).take I.size) hn (λ_=>rfl) ?_ ?_ ?_
   .grind
   .intro i j hi hj;have hb:(e.E f).ownBlock=some g:=by rw [hE];rfl
    have Xv:i *I.size+j<cells.length:=by
     rw [hlen];calc i *I.size+j<i *I.size+I.size:=aah
      _=(i+1) *I.size:=by grind
      _<=o.xs.length *I.size:=ad2 _ hi
    simp_all [aeU,kV,and_self,if_true,List.getElem?_take,List.getElem?_drop]
   grind
end
structure Ext (Z:Nat->Prop) (e e':Env):Prop where
 on:jT (λ_=>True) (λ_=>True) e e'
 bI: ∀b off,¬Z b->e'.φ b off=e.φ b off
def Ext.refl (Z:Nat->Prop)(e:Env):Ext Z e e:=⟨⟨rfl,.refl _,λ_ _=>rfl,(by grind)⟩,λ_ _ _=>rfl⟩
theorem Ext.trans {Z:Nat->Prop} {e e' e'':Env}(h:Ext Z e e') (h':Ext Z e' e''):Ext Z e e'':=by refine ⟨⟨h'.on.key.trans h.on.key,h.on.φ.trans h'.on.φ,λr hr=>(h'.on.B r hr).trans (h.on.B r hr),?_⟩,λb off hb=>(h'.bI b off hb).trans (h.bI b off hb)⟩;intro f o ho _;have ⟨o1,h1,h2,h3⟩:=h'.on.fJ f o ho trivial;have ⟨o2,h4,h5,h6⟩:=h.on.fJ f o1 h1 trivial;grind
theorem Ext.tr {Z:Nat->Prop} {e e':Env}{w:World}(h:Ext Z e e'):Trans Z e.φ w e'.φ w:=⟨h.on.φ,λ_ _ _=>rfl,h.bI,adZ _,.refl _⟩
def cZ (s:Slot):fO (λ_=>True) (λ_=>True) s:=by cases s<;>simp [fO,iZ]
def aL (key:Nat->Nat) (φ:Ph):List Value->List MV->Prop
 |vs,[]=>vs=[]
 |vs,m::ms=> ∃v r,vs=v::r/\cG key φ v m/\aL key φ r ms
theorem aL.mono {key:Nat->Nat} {φ φ':Ph}(h:gx φ φ'){ms:List MV}: ∀{vs:List Value},aL key φ vs ms->aL key φ' vs ms:=by
 induction ms with
 |nil=>intro vs hh;exact hh
 |cons m ms ih=>intro vs hh;obtain ⟨v,r,rfl,h1,h2⟩:=hh;exact ⟨v,r,rfl,h1.mono h,ih h2⟩
def aL.append {key:Nat->Nat} {φ:Ph}{ms ns:List MV}: ∀{vs us:List Value},aL key φ vs ms->aL key φ us ns->aL key φ (vs++us) (ms++ns):=by
 induction ms with
 |nil=>intro vs us h h';cases h;grind
 |cons m ms ih=>intro vs us h h';obtain ⟨v,r,rfl,h1,h2⟩:=h;exact ⟨v,r++us,rfl,h1,ih h2 h'⟩
section
variable {P:Program}{c:Ctx}{Z:bn}{e:Env}{st:St}{a:Act}{w w':World}{R:Type}{r:R}{Q:Exit->Act->World->Prop}{o:Oper}{K:St->Option R}{e':Env}
def jV {l:ax}{vs:List Value}{K:MV->St->Option R}(h:bC c Z e st a w)(hl:aP e vs l)(hK:kI st l K=some r): ∃e' bG m,bC c Z e' bG a w/\Ext Z e e'/\bG.fr=st.fr/\il e'.key e'.φ vs m/\K m bG=some r/\(uP l=true->e'=e/\bG=st)/\(∀f,l= .own f-> ∃o,aB st.aF f=some o/\m= .list o.xs)/\((∀k n x,l≠ .hs k n x)->m.one=true):=by
 cases l with
 |un=>grind [kI]
 |p m=>exact ⟨e,st,m,h,.refl _ _,rfl,hl.2,hK,λ_=>⟨rfl,rfl⟩,aaS,λ_=>hl.1⟩
 |hs k n x=>obtain ⟨rfl,hl⟩:=hl;exact ⟨e,st,.h k n x,h,.refl _ _,rfl,.h k n x hl,hK,λ_=>⟨rfl,rfl⟩,aaS,(by grind)⟩
 |nil=>subst hl;exact ⟨e,st,.list [],h,.refl _ _,rfl,.list none 0 [] 0 0 0 (λ_=>[]) aaS aaS aaS aaS aaS,hK,(by grind),λ_ he=>(by cases he),λ_=>rfl⟩
 |mp s es=>grind [kI]
 |own f=>
  simp only [kI] at hK;cases hf:aB st.aF f with
  |none=>grind
  |some o=>
   simp only [hf] at hK;have Cc:f∉Z.ch\/o.fH=true:=by
    cases hz:o.fH with
    |true=>grind
    |false=>refine .inl (λhm=> ?_);rw [<-h.defers.2.2.1,<-bm] at hm;grind
   have ⟨φ',h1,h2,h3,h4,_⟩:=freeze h hf Cc;obtain ⟨v,rfl,hv,hE⟩:=hl;have hE:=hE o (by rw [h.m];exact hf);subst hE;have aeA:Ext Z e {e with φ:=φ',m:=ct e.m f ⟨o.ty,true,o.xs⟩}:=by
    refine ⟨⟨rfl,h1,λ_ _=>rfl,?_⟩,h2⟩;intro f2 o2 cV _;have cV:aB (ct e.m f ⟨o.ty,true,o.xs⟩) f2=some o2:=cV;rw [aW] at cV;by_cases jt:f2=f
    .subst jt;simp at cV;subst cV;exact ⟨o,by grind [h.m],rfl,rfl⟩
    .grind
   cases hz:o.fH with
   |true=>
    simp only [hz,cond_true] at hK;have ami:ct st.aF f ⟨o.ty,true,o.xs⟩=st.aF:=by rw [<-hz];exact Tv hf
    rw [ami] at h3;exact ⟨_,st,.list o.xs,h3,aeA,rfl,h4,hK,(by grind [uP]),(by grind),λ_=>rfl⟩
   |false=>simp only [hz,cond_false] at hK;have ⟨hn,hK⟩:=oz hK;simp only [oh] at hK;exact ⟨_,_,.list o.xs,h3,aeA,rfl,h4,hK,(by grind [uP]),(by grind),λ_=>rfl⟩
def mS {ls:List ax}: ∀{e:Env} {st:St} {vs:List Value} {K:List MV->St->Option R},bC c Z e st a w->ar e vs ls->sH st ls K=some r-> ∃e' bG ms,bC c Z e' bG a w/\Ext Z e e'/\bG.fr=st.fr/\fq e'.key e'.φ vs ms/\K ms bG=some r/\(gY ls=true->e'=e/\bG=st)/\(∀ps,rm ls ms=some ps->ar e' vs ps/\gY ps=true):=by
 induction ls with
 |nil=>intro e st vs K h hl hK;cases hl;exact ⟨e,st,[],h,.refl _ _,rfl,.nil,hK,λ_=>⟨rfl,rfl⟩,λps hp=>by simp [rm] at hp;subst hp;exact ⟨rfl,rfl⟩⟩
 |cons l ls ih=>
  intro e st vs K h hl hK;obtain ⟨v,u,rfl,h1,h2⟩:=hl;have ⟨e1,cz,m,xt,GU,DX,CJ,qH,hp1,_,j0⟩:=jV h h1 hK;have ⟨e2,cj,ms,Il,SZ,QN,QG,rq,ZI,GV⟩:=ih xt (h2.on GU.on (λl _ f _=>trivial)) qH;have hrm:il e2.key e2.φ v m:=by have:=CJ.mono SZ.on.φ;rw [<-SZ.on.key] at this;exact this
  refine ⟨e2,cj,m::ms,Il,GU.trans SZ,QN.trans DX,.cons v m u ms ?_ QG,rq,?_,?_⟩
  .grind
  .simp_all [gY,AS]
  .intro ps hp;cases hq:rm ls ms with
   |none=>cases l<;>simp [rm,hq] at hp
   |some q=>
    have ⟨g1,g2⟩:=GV q hq;by_cases hh: ∃k n x,l= .hs k n x
    .obtain ⟨_,_,x,rfl⟩:=hh;simp [rm,hq] at hp;subst hp;exact ⟨⟨v,u,rfl,h1,g1⟩,by simp [gY,uP,g2]⟩
    .have j0:=j0 (λk n x hx=>hh ⟨k,n,x,hx⟩);have VL:ps= .p m::q:=by cases l<;>simp [rm,hq] at hp<;>first|exact hp.symm|grind
     subst VL;exact ⟨⟨v,u,rfl,⟨j0,hrm⟩,g1⟩,by simp [gY,uP,g2]⟩
def lE {s:Slot}{v:Value}{K:MV->St->Option R}(h:bC c Z e st a w)(hl:af e v s)(hK:nz st s K=some r): ∃e' bG m,bC c Z e' bG a w/\Ext Z e e'/\bG.fr=st.fr/\cG e'.key e'.φ v m/\K m bG=some r:=by
 cases s with
 |sc l=>
  simp only [nz] at hK;cases l with
  |un=>grind [kI]
  |hs k n x=>simp only [af] at hl;exact ⟨e,st,.h k n x,h,.refl _ _,rfl,by grind [cG,bE],hK⟩
  |p m=>refine ⟨e,st,m,h,.refl _ _,rfl,?_,hK⟩;have ⟨h1,h2⟩:=hl;cases m<;>simp [MV.one] at h1<;>exact ⟨rfl,h2⟩
  |nil=>refine ⟨e,st,.list [],h,.refl _ _,rfl,⟨rfl,?_⟩,hK⟩;rw [hl];exact .list none 0 [] 0 0 0 (λ_=>[]) aaS aaS aaS aaS aaS
  |mp s es=>grind [kI]
  |own f=>
   simp only [kI] at hK;cases hf:aB st.aF f with
   |none=>grind
   |some o=>obtain ⟨e',bG,m,q1,q2,q3,q4,q5,q6,q7⟩:=jV (l:= .own f) h hl (by simpa only [kI,hf] using hK);obtain ⟨o2,_,rfl⟩:=q7.1 f rfl;exact ⟨e',bG,.list o2.xs,q1,q2,q3,⟨rfl,q4⟩,q5⟩
 |ag cs=>have ⟨arr,hv,hl⟩:=hl;have ⟨e',bG,ms,q1,q2,q3,q4,q5,_⟩:=mS h hl hK;exact ⟨e',bG,.agg ms,q1,q2,q3,⟨arr,hv,q4⟩,q5⟩
 |rp cs off=>have ⟨aQ,q,vs,hv,pi,hp,aaF⟩:=hl;have ⟨hb,hK⟩:=ob hK;have h0:=sh hb;subst h0;have ⟨e',bG,ms,q1,q2,q3,q4,q5,q6⟩:=mS h pi hK;refine ⟨e',bG,.rp ms,q1,q2,q3,⟨rfl,?_⟩,q5⟩;rw [hv];exact .rp aQ (q+0) vs ms q4 (by grind)
 |_=>grind [nz]
def om {ss:List Slot}: ∀{e:Env} {st:St} {vs:List Value} {K:List MV->St->Option R},bC c Z e st a w->(∃f:Unit->List Value,f ()=vs/\vs.length=ss.length/\ ∀(i:Nat) (v:Value) (s:Slot),vs[i]? =some v->ss[i]? =some s->af e v s)-> xl st ss K=some r-> ∃e' bG ms,bC c Z e' bG a w/\Ext Z e e'/\bG.fr=st.fr/\aL e'.key e'.φ vs ms/\K ms bG=some r:=by
 induction ss with
 |nil=>intro e st vs K h hl hK;have ⟨f,_,hlen,_⟩:=hl;have:=aec hlen;subst this;exact ⟨e,st,[],h,.refl _ _,rfl,rfl,hK⟩
 |cons s ss ih=>
  intro e st vs K h hl hK;have ⟨f,_,hlen,eu⟩:=hl;cases vs with
  |nil=>simp at hlen
  |cons v vs=>have ⟨e1,cz,m,q1,q2,q3,q4,q5⟩:=lE h (eu 0 v s rfl rfl) hK;have ⟨e2,cj,ms,p1,p2,p3,p4,p5⟩:=ih (vs:=vs) q1 ⟨λ_=>vs,rfl,by grind,λi v s h1 h2=>(eu (i+1) v s (by grind) (by grind)).on q2.on (cZ s)⟩ q5;refine ⟨e2,cj,m::ms,p1,q2.trans p2,p3.trans q3,⟨v,vs,rfl,?_,p4⟩,p5⟩;have:=q4.mono p2.on.φ;grind [p2.on.key]
def Ng {t:TypeId}{I:TI}(hr:nQ c.ti P t I)(hc:I.bR=[]): ((I.st=true\/1<I.size)/\ ∀w:World,(isAgg t).run P w= .ok true w)\/(I.st=false/\I.size=1/\ ∀w:World,(isAgg t).run P w= .ok false w):=by
 rcases hr.agg hc with ⟨d,hu,hd,hh⟩|⟨d,hu,hd,h1,h2⟩
 .refine .inl ⟨hh.imp id (·.2),λw=> ?_⟩;unfold isAgg;rw [afo,run_underlying hu w];cases d<;>simp_all [TypeDesc.isRow]
 .refine .inr ⟨h1,h2,λw=> ?_⟩;unfold isAgg;rw [afo,run_underlying hu w];cases d<;>simp_all [TypeDesc.isRow]
def aaJ {t:TypeId}{I:TI}{cs:List ax}{off:Nat}{arr:Array Value} {K':Slot->Option R}(hr:nQ c.ti P t I)(hc:I.bR=[])(hv:ar e arr.toList cs)(hK:iB I cs off K'=some r): ∃v s,(∀w:World,(ahO t arr off).run P w= .ok v w)/\af e v s/\cM st.fr s/\K' s=some r:=by
 have ⟨i,hi,hs,_⟩:=hr.info hc;have ext: ∀v1 v2 v3:List Value,arr.toList=v1++v2++v3->v1.length=off->(arr.extract off (off+v2.length))=v2.toArray:=by intro v1 v2 v3 h1 h2;apply aea.1;rw [ahe,h1,ae9,IT,<-h2,agt];simp
 unfold iB at hK;cases eh:I.st with
 |true=>
  simp only [eh,cond_true] at hK;cases hp:Dn.part cs off I.size with
  |none=>grind
  |some ds=>
   simp only [hp] at hK;have ⟨v1,v2,v3,h0,h1,h2,h3⟩:=Na hp hv;rcases Ng (P:=P) hr hc with ⟨_,hag⟩|⟨hf,_⟩
   .refine ⟨.agg v2.toArray,.ag ds,?_,?_,trivial,hK⟩
    .have hx:=ext v1 v2 v3 h0 h1;simp_all [ahO,ad4,typeInfo]
    .simp only [af];grind
   grind
 |false=>
  simp only [eh,cond_false] at hK;cases hp:cut cs off with
  |none=>grind
  |some ds=>
   cases ds with
   |nil=>grind
   |cons l ls=>
    simp only [hp] at hK;have ⟨hb,hK⟩:=ob hK;have hw:=sh hb;have ⟨v1,v2,h0,h1,h2⟩:=zQ hp hv;obtain ⟨u,u2,rfl,h3,h4⟩:=h2;have hlu:u.length=I.size:=by rw [h3.width,hw]
    rcases Ng (P:=P) hr hc with ⟨hh,hag⟩|⟨_,h1s,hag⟩
    .refine ⟨.agg u.toArray,.sc l,?_,h3.slot (.inr ⟨rfl,?_⟩),trivial,hK⟩
     .have hx:=ext v1 u u2 (by rw [h0,IT]) h1;simp_all [ahO,ad4,typeInfo]
     grind
    .obtain ⟨v,rfl⟩:=aen.1 (by rw [hlu,h1s]);refine ⟨v,.sc l,?_,h3.slot (.inl ⟨rfl,?_⟩),trivial,hK⟩
     .have:arr[off]? =some v:=by
       have:arr[off]? =arr.toList[off]? :=aaS
       rw [this,h0,aee aah,h1];simp
      simp_all [ahO]
     grind
def aiY {t:TypeId}{x:Operand}{f:Nat}{I:TI}(ho:o.op= .field t x f)(hI:c.tv t=some I)(hT:fw P c.ti)(h:bC c Z e st a w)(hK:aiG c I f (az c st x) (λs=>aR c st o.dst s K)=some r):Rd P c Z K r e a w o (λ_=>True):=by
 have ⟨hx,pq⟩:=h.eval x;have ⟨lC,hc⟩:=aM hI;have ⟨d,i,h1,h2,h3,h4⟩:=hT t I lC;generalize az c st x=s at hx hK pq;unfold aiG at hK;split at hK
 .rename_i q y cs eh hq hy;have ⟨arr,hx,pi⟩:=hx;cases hJ:c.tv y with
  |none=>grind
  |some J=>
   simp only [hJ] at hK;have ⟨hJt,hJc⟩:=aM hJ;have ⟨v,s,bF,h5,h6,h7⟩:=aaJ (P:=P) (st:=st) (hT y J hJt) hJc pi hK;refine gy (v:=v) h ?_ h5 h6 h7;cases d<;>simp only [qD] at h4;case struct fs=>
    have ⟨_,_,_,ho1,cV,_⟩:=h4;rw [<-ho1,ad9] at hq;rw [<-cV,ad9] at hy;cases hf:fs.toList[f]? with
    |none=>grind
    |some fl=>simp_all [execOp,Instr.field,run_underlying,asAgg]
   all_goals grind
 .simp at hK
def TI.kK {I:TI}{t:TypeId}(hr:nQ c.ti P t I)(h:I.GN=true):P.underlying t=some (.slice I.elem)/\ ∃E,c.ti I.elem=some E/\E.bR=[]/\0<E.size:=by
 unfold TI.GN at h;split at h
 .rename_i eh hl;have ⟨d,i,h1,h2,h3,h4⟩:=hr;cases d<;>simp only [qD,hl,eh] at h4<;>first|(exfalso;simp_all;done)|skip
  have ⟨_,_,_,rfl,hE,_⟩:=h4;exact ⟨h1,hE⟩
 .cases h
def TI.Fp {I:TI}{t:TypeId}(hr:nQ c.ti P t I)(h:I.Z7=true):P.underlying t=some .string:=by
 unfold TI.Z7 at h;split at h
 .rename_i eh hl;have ⟨d,i,h1,h2,h3,h4⟩:=hr;cases d<;>simp only [qD,hl,eh] at h4<;>first|(exfalso;simp_all;done)|skip
  exact h1
 .cases h
def Ji {v:Value}{xs:List MV}(h:af e v (.sc (.p (.list xs)))): ∃ad cap,v= .slice ad xs.length cap/\xs.length<=cap:=by have ⟨_,h⟩:=h;generalize hv:[v]=vs at h;cases h;grind
def rW {f:Nat} {w':n8}{v:Value}(h:bC c Z e st a w)(hv:af e v (.sc (.own f)))(hf:aB st.aF f=some w'):v=e.E f/\ ∃ad cap,v= .slice ad w'.xs.length cap/\w'.xs.length<=cap:=by
 have ⟨u,hu,_,hE⟩:=hv;simp at hu;subst hu;have hE:=hE w' (by rw [h.m];exact hf);refine ⟨hE,?_⟩;have ⟨I,cells,_,_,dI,_⟩:=(h.fJ f w' hf).row;rcases dI.2 with ⟨h1,h2⟩|⟨g,cap,cD,h1,_,_,h2,_⟩
 .exact ⟨none,0,by rw [hE,h1,h2],aah⟩
 .exact ⟨_,cap,by rw [hE,h1],h2⟩
def gz {l:List Operand}:jh c st l=l.map (az c st):=by
 induction l with
 |nil=>rfl
 |cons x r ih=>simp [jh,ih]
theorem aiZ {cl:Call}{t:TypeId}{I:TI}(ho:o.op= .call cl)(hb:cl.callee= .builtin .len)(ha:cl.argTypes.toList=[t])(hI:c.tv t=some I)(hT:fw P c.ti)(h:bC c Z e st a w)(hK:aaf I st (jh c st cl.args.toList) (λs=>aR c st o.dst s K)=some r):Rd P c Z K r e a w o (λ_=>True):=by
 have ⟨lC,hc⟩:=aM hI;have hr:=hT t I lC;have Ql:cl.argTypes= #[t]:=by rw [<-aea,ha]
 rw [gz] at hK;have go: ∀x,cl.args.toList=[x]-> ∀n:Nat,(∃b:ByteArray,a.eval x= .string b/\b.size=n/\P.underlying t=some .string)\/(∃ad cap,a.eval x= .slice ad n cap/\ ∃el,P.underlying t=some (.slice el))-> aR c st o.dst (.sc (.p (.i .i64 n))) K=some r->Rd P c Z K r e a w o (λ_=>True):=by
  intro x hx n QO hK;have hx':cl.args= #[x]:=by rw [<-aea,hx]
  refine gy h ?_ (sO .i64 (n:Int)) trivial hK;rcases QO with ⟨b,h1,h2,h3⟩|⟨ad,cap,h1,el,h3⟩
  .simp [execOp,ho,resolve,hb,invoke,builtin,Builtin.len_,Ql,hx',run_underlying h3,h1,goInt,h2]
  .simp [execOp,ho,resolve,hb,invoke,builtin,Builtin.len_,Ql,hx',run_underlying h3,h1,goInt]
 cases hl:cl.args.toList with
 |nil=>grind [aaf]
 |cons x ys=>
  rw [hl] at hK;cases ys with
  |cons y zs=>simp_all [ad5,aaf]
  |nil=>
   simp at hK;have ⟨hx,_⟩:=h.eval x;generalize az c st x=s at hx hK;unfold aaf at hK;split at hK
   .rename_i l hs;simp at hs;subst hs;have ⟨hS,hK⟩:=ob hK;obtain ⟨b,Nf,rfl⟩:=DV hx;exact go x hl _ (.inl ⟨b,Nf,by simp_all,TI.Fp hr hS⟩) hK
   .rename_i l hs;simp at hs;subst hs;have ⟨hS,hK⟩:=ob hK;have ⟨ad,cap,hv,_⟩:=Ji hx;exact go x hl _ (.inr ⟨ad,cap,hv,_,(TI.kK hr hS).1⟩) hK
   .rename_i hs;simp at hs;subst hs;have ⟨hS,hK⟩:=ob hK;have hx:[a.eval x]=[aeb none 0 0]:=hx;simp at hx;exact go x hl 0 (.inr ⟨none,0,hx,_,(TI.kK hr hS).1⟩) hK
   .rename_i f hs;simp at hs;subst hs;have ⟨hS,hK⟩:=ob hK;cases hf:aB st.aF f with
    |none=>grind
    |some w'=>simp only [hf] at hK;have ⟨_,ad,cap,hv,_⟩:=rW h hx hf;exact go x hl _ (.inr ⟨ad,cap,hv,_,(TI.kK hr hS).1⟩) hK
   .simp at hK
structure ahm (e:Env) (k:Kd) (vs:List Value) (m:MV) (l:ax):Prop where
 rep:il e.key e.φ vs m->aP e vs l
 ZJ:uP l=true
 mv:bw [l]=some [m]
 one: ∀m',l= .p m'->m'.one=true
 wid:l.w=HE [k]
def nB {k:Kd}{m:MV}{vs:List Value} {K':ax->Option R}(hK:iq k m K'=some r): ∃l,ahm e k vs m l/\K' l=some r:=by
 have mk: ∀m:MV,m.one=true->(HE [k]=1)->K' (.p m)=some r-> ∃l,ahm e k vs m l/\K' l=some r:=λm h1 h2 h3=>⟨.p m,⟨λh=>⟨h1,h⟩,rfl,rfl,(by grind),h2.symm⟩,h3⟩
 cases k with
 |b=>unfold iq gB at hK;cases m<;>simp at hK;exact mk _ rfl rfl hK
 |s=>unfold iq gS at hK;cases m<;>simp at hK;exact mk _ rfl rfl hK
 |l=>unfold iq gL at hK;cases m<;>simp at hK;exact mk _ rfl rfl hK
 |i k=>
  unfold iq gI at hK;cases m<;>simp at hK;rename_i k' n;by_cases hk:k'=k
  .subst hk;simp at hK;exact mk _ rfl rfl hK
  grind
 |h k n=>
  simp only [iq,gH] at hK;split at hK
  .rename_i k' n' x;have ⟨hq,hK⟩:=ob hK;simp only [AS,decide_eq_true_eq] at hq;have ⟨rfl,hq⟩:=hq;have hq:=sh hq;subst hq;refine ⟨.hs k' n' x,⟨?_,rfl,rfl,aaS,rfl⟩,hK⟩;intro h;cases h;rename_i hx;exact ⟨rfl,hx⟩
  .cases hK
 |raw=>unfold iq gR at hK;cases m<;>simp at hK<;>exact mk _ rfl rfl hK
def Cd {l:ax}{ls:List ax}{m:MV}{ms:List MV}(h1:bw [l]=some [m])(h2:bw ls=some ms):bw (l::ls)=some (m::ms):=by cases l<;>simp [bw] at h1⊢ <;>simp [h2,h1]
structure aeB (e:Env) (ks:List Kd) (vs:List Value) (ms:List MV) (ls:List ax):Prop where
 rep:fq e.key e.φ vs ms->ar e vs ls
 ZJ:gY ls=true
 mv:bw ls=some ms
 one: ∀m',ax.p m'∈ls->m'.one=true
 wid:Cy ls=HE ks
def Xw (k:Kd)(ks:List Kd):HE (k::ks)=HE [k]+HE ks:=by cases k<;>simp [HE]
def xv {ks:List Kd}: ∀{ms:List MV} {vs:List Value} {K':List ax->Option R},uK ks ms K'=some r-> ∃ls,aeB e ks vs ms ls/\K' ls=some r:=by
 induction ks with
 |nil=>
  intro ms vs K' hK;cases ms with
  |nil=>exact ⟨[],⟨λh=>by cases h;rfl,rfl,rfl,aaS,rfl⟩,hK⟩
  |cons m ms=>grind [uK,gN]
 |cons k ks ih=>
  intro ms vs K' hK;cases ms with
  |nil=>grind [uK,gC]
  |cons m ms=>
   simp only [uK,gC] at hK;have h1:=λvs=>nB (e:=e) (vs:=vs) hK;have ⟨l,hl,qH⟩:=h1 [];have ⟨ls,LW,rq⟩:=ih (vs:=[]) qH;refine ⟨l::ls,⟨?_,?_,Cd hl.mv LW.mv,?_,?_⟩,rq⟩
   .intro h;have g:ar e vs (l::ls):=by
     apply h.leaves (Cd hl.mv LW.mv);intro m' hm;rcases ad6.1 hm with hm|hm
     .exact hl.one m' hm.symm
     .exact LW.one m' hm
    exact g
   .simp [gY,hl.ZJ,LW.ZJ]
   .intro m' hm;rcases ad6.1 hm with hm|hm
    .exact hl.one m' hm.symm
    .exact LW.one m' hm
   .rw [Xw,<-hl.wid,<-LW.wid];rfl
def aeC {t:TypeId}{I:TI}(hr:nQ c.ti P t I)(hc:I.bR=[]):HE I.lay=I.size:=by
 have ⟨d,i,h1,h2,h3,h4⟩:=hr;cases d<;>simp only [qD] at h4;case struct fs=>grind
 case tuple ts=>grind
 case slice el=>obtain ⟨_,_,hs,_,_,_,_,k,hl,rfl⟩:=h4;rw [hl,hs];rfl
 case array n el=>have ⟨_,_,hs,_,k,m,hm,_,hl,_⟩:=h4;rw [hl,hs,hm];rfl
 all_goals (have ⟨_,_,hs,hl,_⟩:=h4;rw [hl,hs];rfl)
def GW {E:TI}{t:TypeId}{x:MV} {K':List ax->Option R}(hr:nQ c.ti P t E)(hc:E.bR=[])(hK:Oq E x K'=some r): ∃cs,Ja E.st x cs/\gY cs=true/\Cy cs=E.size/\K' cs=some r:=by
 have hlw:=aeC hr hc;unfold Oq at hK;cases eh:E.st with
 |true=>
  simp only [eh,cond_true] at hK;unfold gA at hK;split at hK
  .have ⟨ls,LW,qH⟩:=xv (e:=⟨λn=>n,λ_ _=>none,λ_=>undef,λ_=>0,[]⟩) (vs:=[]) hK;exact ⟨ls,⟨(by grind [LW.mv,vO]),LW.one⟩,LW.ZJ,by rw [LW.wid,hlw],qH⟩
  .simp at hK
 |false=>
  simp only [eh,cond_false] at hK;split at hK
  .rename_i k hl;have ⟨l,uR,qH⟩:=nB (e:=⟨λn=>n,λ_ _=>none,λ_=>undef,λ_=>0,[]⟩) (vs:=[]) hK;refine ⟨[l],⟨(by grind [uR.mv,vO]),?_⟩,by simp [gY,uR.ZJ],?_,qH⟩
   .intro m hm;simp at hm;exact uR.one m hm.symm
   .rw [<-hlw,hl,<-uR.wid];rfl
  .simp at hK
theorem ai0 {t:TypeId}{x y:Operand}{I E:TI}(ho:o.op= .indexAddr t x y)(hI:c.tv t=some I)(hE:c.tv I.elem=some E)(hT:fw P c.ti)(h:bC c Z e st a w)(hK:aiH c st I E (az c st x) (az c st y) (λs=>aR c st o.dst s K)=some r):Rd P c Z K r e a w o (λ_=>True):=by
 obtain ⟨hx,pq⟩:=h.eval x;obtain ⟨hy,_⟩:=h.eval y;obtain ⟨lC,hc⟩:=aM hI;obtain ⟨mn,nR⟩:=aM hE;have hr:=hT t I lC;have hrE:=hT _ E mn;obtain ⟨iE,hiE,hsE,_⟩:=hrE.info nR;have run: ∀k n aQ off len cap,P.underlying t=some (.slice I.elem)->a.eval y= .int k n->a.eval x= .slice (some ⟨aQ,off,none⟩) len cap->0<=n->n.toNat<len-> ∀w:World,(execOp a.eval o).run P w= .ok (.value (.pointer (some ⟨aQ,off+n.toNat *E.size,none⟩))) w:=by
  intro k n aQ off len cap hu hy hx h0 h1 w;have h2:n<(len:Int):=aah
  simp [execOp,ho,hx,hy,aho,asIntOf,run_underlying hu,h0,h2,ad4,typeInfo,hiE,hsE,aed]
 generalize az c st x=sx at hx hK pq;generalize az c st y=sy at hy hK;unfold aiH at hK;split at hK
 .rename_i xs k n;have ⟨hL,hK⟩:=ob hK;have ⟨h0,m,hm,hK⟩:=QJ hK;have ⟨cs,h1,h2,h3,hK⟩:=GW hrE nR hK;have dh:n.toNat<xs.length:=(by grind)
  have ⟨_,hx⟩:=hx;generalize hv:[a.eval x]=vs at hx;cases hx with
  |list ad cap _ aQ off Fe f g1 g2 g3 g4 g5=>
  simp at hv;have eu:=g5 n.toNat dh;rw [(ae3.1 hm).2] at eu;have pi:=eu.Jf h1;have hes:Fe=E.size:=by rw [<-h3,<-pi.width,g3 _ dh]
  rw [g2 aah] at hv;refine gy (s:= .rp cs 0) h (run k n aQ off _ cap (TI.kK hr hL).1 (kq hy) hv h0 dh) ?_ trivial hK;simp only [af];grind
 .rename_i f k n;cases hf:aB st.aF f with
  |none=>grind
  |some fo=>
   simp only [hf] at hK;have ⟨hL,hK⟩:=ob hK;have ⟨h0,m,hm,hK⟩:=QJ hK;have ⟨cs,h1,h2,h3,hK⟩:=GW hrE nR hK;have dh:n.toNat<fo.xs.length:=(by grind)
   have ⟨hv,_⟩:=rW h hx hf;have ⟨J,cells,_,_,dI,_⟩:=(h.fJ f fo hf).row;rcases dI.2 with ⟨h5,h6⟩|⟨g,cap,cD,h5,_⟩
   .omega
   .rw [h5] at hv;refine gy (s:= .ep f n.toNat 0 E.st cs) h (run k n g 0 _ cap (TI.kK hr hL).1 (kq hy) hv h0 dh) ?_ trivial hK;simp_all [af,h.m,aeU,ahs]
 .rename_i r' o' k n;have ⟨eh,hK⟩:=oz hK;split at hK
  .rename_i k2 m2 hl;have ⟨Im,hK⟩:=cN hK;have ⟨h0,h1⟩:=of_decide_eq_true Im;have ⟨d,i,hu,h2,h3,h4⟩:=hr;cases d<;>simp only [qD,hl,eh] at h4<;>first|(exfalso;simp_all;done)|skip
   obtain ⟨_,_,_,_,kk,mm,rfl,⟨ie,hue,pu,xt⟩,ze,_⟩:=h4;simp at ze;have ⟨rfl,rfl⟩:=ze;have Ij:n<(m2:Int)+2:=aah
   simp only [af] at hx;refine gy (s:= .hp r' o' m2 n.toNat) (v:= .pointer (some ⟨e.B r',o'+n.toNat,none⟩)) h ?_ ?_ pq hK
   .simp [execOp,ho,hx,kq hy,aho,asIntOf,run_underlying hu,h0,Ij,ad4,typeInfo,pu,xt,aeo,aed]
   simp_all [af,trivial]
  .simp at hK
 .rename_i cc _ n;have ⟨eh,hK⟩:=oz hK;split at hK
  .rename_i k m' hl;unfold gC at hK;split at hK;rotate_left
   .cases hK
   rename_i hh rest;dsimp only at hK;unfold gN at hK;split at hK;rotate_left
   .cases hK
   unfold gH at hK;split at hK;rotate_left
   .cases hK
   rename_i k2 m2 xs;cases hq:decide (k2=k)&&bo m2 m' with
   |false=>grind
   |true=>
   simp only [hq,cond_true] at hK;simp only [AS,decide_eq_true_eq] at hq;obtain ⟨rfl,hq⟩:=hq;have hq:=sh hq;subst hq;have ⟨Im,hK⟩:=cN hK;have ⟨h0,h1⟩:=of_decide_eq_true Im;have ⟨d,i,hu,h2,h3,h4⟩:=hr;cases d<;>simp only [qD,hl,eh] at h4<;>first|(exfalso;simp_all;done)|skip
   obtain ⟨_,_,_,_,kk,mm,rfl,⟨ie,hue,pu,xt⟩,ze,_⟩:=h4;simp at ze;have ⟨rfl,rfl⟩:=ze;have Ij:n<(m2:Int)+2:=aah
   have ⟨_,hx⟩:=hx;generalize hv:[a.eval x]=vs at hx;cases hx with
   |rp aQ q us ms hr hp=>
   simp at hv;cases hr with
   |cons v1 _ Ce _ g1 g2=>
   cases g2;cases g1;refine gy (s:= .rp [.p (.i k2 (xs.getD n.toNat 0))] 0) (v:= .pointer (some ⟨aQ,q+n.toNat,none⟩)) h ?_ ?_ trivial hK
   .simp [execOp,ho,hv,kq hy,aho,asIntOf,run_underlying hu,h0,Ij,ad4,typeInfo,pu,xt,aeo,aed]
   .refine ⟨aQ,q+n.toNat,[.int k2 (xs.getD n.toNat 0)],aaS,⟨_,[],rfl,⟨rfl,.i _ _⟩,rfl⟩,rfl,λj hj=> ?_⟩;grind
  .simp at hK
 .simp at hK
def Xx {mx:Bool}{k:IntKind}{ss:List Slot}: ∀{vs:List Value} {n:Int} {m:MV},Z9 mx k n ss=some m->vs.length=ss.length-> (∀(i:Nat) (v:Value) (s:Slot),vs[i]? =some v->ss[i]? =some s->af e v s)-> ∃v,(∀w:World,(vs.foldlM (if mx then Builtin.max2 else Builtin.min2) (.int k n)).run P w= .ok v w)/\af e v (.sc (.p m)):=by
 induction ss with
 |nil=>simp_all [aec,Z9,sO]
 |cons s ss ih=>
  intro vs n m hm hl hs;cases vs with
  |nil=>simp at hl
  |cons v vs=>
   have h0:=hs 0 v s rfl rfl;unfold Z9 at hm;split at hm
   .grind
   .rename_i k' y r' ol;obtain ⟨rfl,rfl⟩:=ol;by_cases hk:k'=k
    .subst hk;simp at hm;obtain ⟨u,h1,h2⟩:=ih hm (by simpa using hl) (λi v s h1 h2=>hs (i+1) v s (by grind) (by grind));rw [kq h0];cases mx;all_goals simp_all [cond_false,Fh,Builtin.min2,cond_true,imax,Builtin.max2]
    grind
   .simp at hm
theorem Nh {cl:Call}{mx:Bool}{m:MV}(ho:o.op= .call cl)(hb:cl.callee= .builtin (if mx then .max else .min))(h:bC c Z e st a w)(hm:Tb mx (jh c st cl.args.toList)=some m)(hK:aR c st o.dst (.sc (.p m)) K=some r):Rd P c Z K r e a w o (λ_=>True):=by
 rw [gz] at hm;cases hl:cl.args.toList with
 |nil=>grind [Tb]
 |cons x xs=>
  rw [hl] at hm;simp at hm;have ⟨hx,_⟩:=h.eval x;generalize az c st x=s at hx hm;unfold Tb at hm;split at hm
  .rename_i k n ss ol;obtain ⟨rfl,rfl⟩:=ol;have ⟨v,h1,h2⟩:=Xx (e:=e) (P:=P) (vs:=xs.map a.eval) hm aaS (by intro i v s h1 h2;simp at h1 h2;obtain ⟨y,h3,rfl⟩:=h1;obtain ⟨y',h4,rfl⟩:=h2;rw [h3] at h4;cases h4;exact (h.eval y).1);have di:(cl.args.map a.eval).toList= .int k n::xs.map a.eval:=by simp [hl,kq hx]
   refine gy (v:=v) h ?_ h2 trivial hK;intro w;have h1:=h1 w;cases mx
   .have ai1: ∀ts t,(Builtin.min_ ts t (cl.args.map a.eval)).run P w= .ok v w:=by intro ts t;unfold Builtin.min_;rw [di];exact h1
    simp_all [execOp,resolve,invoke,builtin]
   .have ai1: ∀ts t,(Builtin.max_ ts t (cl.args.map a.eval)).run P w= .ok v w:=by intro ts t;unfold Builtin.max_;rw [di];exact h1
    simp_all [execOp,resolve,invoke,builtin]
  .simp at hm
def xw {b:Bool}{lo hi:Option Operand}{len cap:Nat} {K':Nat->Nat->Option R}(h:bC c Z e st a w)(CL:len<=cap)(hK:sliceB (na c st lo) (na c st hi) len K'=some r): ∃l h',l<=h'/\h'<=len/\(lo=none->l=0)/\(∀w:World,(ad0 b len cap (lo.map a.eval) (hi.map a.eval) none).run P w= .ok (l,h',cap) w)/\K' l h'=some r:=by
 have bnd: ∀(k:IntKind) (n:Int) (y:Nat) (cd:BoundsCode),0<=n->n<=(y:Int)-> ∀w:World,(aex (.int k n) y cd).run P w= .ok n.toNat w:=by intro k n y cd h1 h2 w;simp [aex,asIntOf,h1,h2]
 unfold sliceB at hK;cases lo with
 |none=>
  cases hi with
  |none=>exact ⟨0,len,aah,aah,λ_=>rfl,by simp [ad0],hK⟩
  |some y=>
   have ⟨hy,_⟩:=h.eval y;simp only [na] at hK;generalize az c st y=sy at hy hK;split at hK<;>first|(simp_all;done)|skip
   .rename_i k n h1 h2;simp at h2;subst h2;have ⟨Im,hK⟩:=cN hK;have ⟨h3,h4,h5⟩:=of_decide_eq_true Im;refine ⟨0,n.toNat,aah,aah,λ_=>rfl,?_,hK⟩;have:=bnd k n cap (if b then .sliceAcap else .sliceAlen) h4 aah;cases b<;>simp at this<;>simp [ad0,kq hy,this]
 |some x=>
  have ⟨hx,_⟩:=h.eval x;cases hi with
  |none=>
   simp only [na] at hK;generalize az c st x=sx at hx hK;split at hK<;>first|(simp_all;done)|skip
   .rename_i k n h1 h2;simp at h1;subst h1;have ⟨Im,hK⟩:=cN hK;have ⟨h3,h4,h5⟩:=of_decide_eq_true Im;refine ⟨n.toNat,len,aah,aah,aaS,?_,by grind⟩;have:=bnd k n len .sliceB h3 h4;simp [ad0,kq hx,this]
  |some y=>
   have ⟨hy,_⟩:=h.eval y;simp only [na] at hK;generalize az c st x=sx at hx hK;generalize az c st y=sy at hy hK;split at hK<;>first|(simp_all;done)|skip
   .rename_i k n k' n' h1 h2;simp at h1 h2;subst h1;subst h2;have ⟨Im,hK⟩:=cN hK;have ⟨h3,h4,h5⟩:=of_decide_eq_true Im;refine ⟨n.toNat,n'.toNat,aah,aah,aaS,?_,hK⟩;have t1:=bnd k' n' cap (if b then .sliceAcap else .sliceAlen) aah aah;have t2:=bnd k n n'.toNat .sliceB h3 aah;cases b<;>simp at t1<;>simp [ad0,kq hx,kq hy,t1,t2]
def il.sub {key:Nat->Nat} {φ:Ph}{ad:Option Addr}{len cap:Nat}{xs:List MV} {l h' size:Nat}(hv:il key φ [.slice ad len cap] (.list xs))(hl:l<=h')(hh:h'<=xs.length)(hw:l≠0-> ∀x∈xs,x.w=size):len=xs.length/\len<=cap/\il key φ [.slice (if cap=l then ad else ad.map (·.add (l *size))) (h'-l) (cap-l)] (.list ((xs.take h').drop l)):=by
 generalize DH:[aeb ad len cap]=vs at hv;cases hv with
 |list ad' aaI _ aQ off Fe f g1 g2 g3 g4 g5=>
 simp at DH;have ⟨rfl,rfl,rfl⟩:=DH;have hlen:((xs.take h').drop l).length=h'-l:=by simp;omega
 have avO:il key φ [.slice (if cap=l then ad else ad.map (·.add (l *size))) ((xs.take h').drop l).length (cap-l)] (.list ((xs.take h').drop l)):=by
  have nC: ∀i,i<((xs.take h').drop l).length->i+l<xs.length:=by intro i hi;omega
  have hel: ∀(i:Nat) (hi:i<((xs.take h').drop l).length),((xs.take h').drop l)[i]=xs[i+l]'(nC i hi):=by intro i hi;simp [Nat.add_comm]
  refine .list _ _ _ aQ (off+l *Fe) Fe (λi=>f (i+l)) (by grind) ?_ ?_ ?_ ?_
  .intro h0;have dt:cap≠l:=aah
   have hx0:0<xs.length:=aah
   rw [g2 hx0];simp only [dt,if_false,Option.map_some,AI];by_cases hl0:l=0
   .grind [aed]
   .have hes:Fe=size:=by have h3:=g5 0 hx0;rw [<-g3 0 hx0,h3.width];exact (by grind)
    rw [hes,aed]
  .grind
  .grind
  .grind
 grind
def DY {n:Nat}{l:List MV}(h:rU n l=true): ∀x∈l,x.w=n:=by grind [rU,List.all_eq_true,sh]
theorem aU.rU {key:Nat->Nat} {φ:Ph}{size:Nat}{xs:List MV}: ∀{cs:List Value},aU key φ size cs xs-> ∀x∈xs,x.w=size:=by
 induction xs with
 |nil=>grind
 |cons y ys ih=>intro cs h x hx;obtain ⟨v,q,rfl,h1,h2,h3⟩:=h;grind [h2.width]
theorem aaK {t:TypeId}{x:Operand}{lo hi:Option Operand}{I:TI}(ho:o.op= .slice t x lo hi none)(hI:c.tv t=some I)(hT:fw P c.ti)(h:bC c Z e st a w)(hK:Tc c I st (az c st x) (na c st lo) (na c st hi) (λs st=>aR c st o.dst s K)=some r):Rd P c Z K r e a w o (λ_=>True):=by
 have ⟨hx,pq⟩:=h.eval x;have ⟨lC,hc⟩:=aM hI;have hr:=hT t I lC;have run: ∀{el E},P.underlying t=some (.slice el)->c.ti el=some E->E.bR=[]-> ∀ad len cap l h',a.eval x= .slice ad len cap->(∀w:World,(ad0 true len cap (lo.map a.eval) (hi.map a.eval) none).run P w= .ok (l,h',cap) w)-> ∀w:World,(execOp a.eval o).run P w= .ok (.value (.slice (if cap=l then ad else ad.map (·.add (l *E.size))) (h'-l) (cap-l))) w:=by intro el E hu hE nR ad len cap l h' hv hb w;obtain ⟨iE,hiE,hsE,_⟩:=(hT _ E hE).info nR;simp [execOp,ho,ahp,ahI,run_underlying hu,hv,hb,ad4,typeInfo,hiE,hsE]
 generalize hs:az c st x=s at hx hK pq;unfold Tc at hK;split at hK
 .have ⟨hS,hK⟩:=ob hK;have hu:=TI.Fp hr hS;obtain ⟨b,hb,rfl⟩:=DV hx;have ⟨l,h',h1,h2,_,h3,hK⟩:=xw (P:=P) (b:=false) (cap:=b.size) h (adZ _) hK;refine gy (s:= .sc (.p (.s ((b.data.toList.take h').drop l)))) (v:= .string (b.extract l h')) h ?_ ?_ trivial hK
  .simp_all [execOp,ahp,ahI,run_underlying]
  grind [aep,afu,ahe,ae9,List.drop_take]
 .rename_i xs;have ⟨hS,hK⟩:=ob hK;have ⟨hu,_⟩:=TI.kK hr hS;cases hE:c.tv I.elem with
  |none=>grind
  |some E=>
   simp only [hE] at hK;have ⟨mn,nR⟩:=aM hE;have rq:(lo≠none->rU E.size xs=true)/\sliceB (na c st lo) (na c st hi) xs.length (λl h'=>aR c st o.dst (.sc (.p (.list ((xs.take h').drop l)))) K)=some r:=by
    cases lo with
    |none=>exact ⟨aaS,hK⟩
    |some y=>grind [na,cN]
   have ⟨hw,hK⟩:=rq;have ⟨ad,cap,hv,CL⟩:=Ji hx;have ⟨l,h',h1,h2,h0,h3,hK⟩:=xw (P:=P) (b:=true) (cap:=cap) h CL hK;rw [hv] at hx;have ⟨_,_,eu⟩:=il.sub (size:=E.size) hx.2 h1 h2 (λhl=>DY (hw (λhn=>hl (h0 hn))));refine gy (s:= .sc (.p (.list ((xs.take h').drop l)))) h (run hu mn nR ad _ cap l h' hv h3) ?_ trivial hK;exact ⟨rfl,eu⟩
 .rename_i f;cases hf:aB st.aF f with
  |none=>grind
  |some fo=>simp only [hf] at hK;have ⟨hS,hK⟩:=ob hK;simp only [AS] at hS;have ⟨hu,E,mn,nR,_⟩:=TI.kK hr hS.1;have ll:=sh hS.2;have ⟨hvE,ad,cap,hv,CL⟩:=rW h hx hf;simp only [af] at hx;have ⟨J,cells,hJ,_,_,jk,_⟩:=(h.fJ f fo hf).row;rw [ll,mn] at hJ;cases hJ;have hwx:=jk.rU;have ⟨e',bG,m,zf,aeA,zT,eu,hK,_,hm⟩:=jV h hx hK;obtain ⟨o2,cV,rfl⟩:=hm.1 f rfl;rw [hf] at cV;cases cV;have ⟨l,h',h1,h2,h0,h3,hK⟩:=xw (P:=P) (b:=true) (cap:=cap) h CL hK;rw [hv] at eu;have ⟨_,_,eu⟩:=il.sub (size:=E.size) eu h1 h2 (λ_=>hwx);refine Ts (s:= .sc (.p (.list ((fo.xs.take h').drop l)))) (λw _=>run hu mn nR ad _ cap l h' hv h3 w) zf aeA.tr (.of ?_ trivial) hK;exact ⟨rfl,eu⟩
 .have ⟨hS,hK⟩:=ob hK;have ⟨hu,E,mn,nR,_⟩:=TI.kK hr hS;have hx:[a.eval x]=[aeb none 0 0]:=hx;simp at hx;have ⟨l,h',h1,h2,_,h3,hK⟩:=xw (P:=P) (b:=true) (cap:=0) h (adZ _) hK;have h4:h'=0:=aah
  have h5:l=0:=aah
  subst h4;subst h5;refine gy (s:= .sc .nil) h (run hu mn nR none 0 0 0 0 hx h3) ?_ trivial hK;simp_all [af,if_true]
 .simp at hK
def aeD {t:TypeId}{x y z:Operand}{I:TI}(ho:o.op= .slice t x none (some y) (some z))(hI:c.tv t=some I)(hT:fw P c.ti)(h:bC c Z e st a w)(hK:aad I (az c st x) (az c st y) (az c st z) (λs=>aR c st o.dst s K)=some r):Rd P c Z K r e a w o (λ_=>True):=by
 have ⟨hx,pq⟩:=h.eval x;have ⟨hy,_⟩:=h.eval y;have ⟨hz,_⟩:=h.eval z;have ⟨lC,hc⟩:=aM hI;have hr:=hT t I lC;generalize az c st x=s at hx hK pq;generalize az c st y=s2 at hy hK;generalize az c st z=s3 at hz hK;unfold aad at hK;split at hK
 .rename_i l n n';have ⟨hS,hK⟩:=ob hK;have ⟨Im,rq⟩:=cN hK;have ⟨hu,E,mn,nR,_⟩:=TI.kK hr hS;have ⟨iE,hiE,hsE,_⟩:=(hT _ E mn).info nR;have ⟨ad,cap,hv,CL⟩:=Ji hx;rw [hv] at hx;have bnd: ∀(m:Nat) (cd:BoundsCode),l.length<=m-> ∀w:World,(aex (.int .i64 (l.length:Int)) m cd).run P w= .ok l.length w:=by
   intro m cd hm w;have:(l.length:Int)<=(m:Int):=aah
   simp [aex,asIntOf,this]
  have hb: ∀w:World,(ad0 true l.length cap none (some (.int .i64 (l.length:Int))) (some (.int .i64 (l.length:Int)))).run P w= .ok (0,l.length,l.length) w:=by intro w;have b1:=bnd cap .slice3Acap CL;have b2:=bnd l.length .slice3B (adZ _);simp [ad0,b1,b2]
  have eu:il e.key e.φ [.slice ad l.length l.length] (.list l):=by
   have h2:=hx.2;generalize DH:[aeb ad l.length cap]=vs at h2;cases h2 with
   |list ad' aaI _ aQ off Fe f g1 g2 g3 g4 g5=>
   simp at DH;have ⟨rfl,_⟩:=DH;exact .list _ _ _ aQ off Fe f (adZ _) g2 g3 g4 g5
  refine gy (s:= .sc (.p (.clip l))) (v:= .slice ad l.length l.length) h (λw=> ?_) ?_ trivial rq
  .simp [execOp,ho,ahp,ahI,run_underlying hu,hv,kq hy,kq hz,hb,ad4,typeInfo,hiE,hsE];simp_all [Addr.add]
  .exact ⟨rfl,.clip _ _ eu⟩
 .simp at hK
theorem Jj (k:IntKind)(x:List Int)(i:Nat)(b:Int)(hi:i<x.length):bE k (x.set i b)=(bE k x).take i++[.int k b]++(bE k x).drop (i+1):=by simp_all [bE,List.map_set,cA,List.set_eq_take_append_cons_drop,if_pos]
structure aaL (e e':Env):Prop where
 key:e'.key=e.key
 φ:gx e.φ e'.φ
 fJ: ∀f o',aB e'.m f=some o'->(∃o,aB e.m f=some o)/\e'.E f=e.E f
def aP.ZK (h:aaL e e'){vs:List Value}{l:ax}(hr:aP e vs l):aP e' vs l:=by
 cases l with
 |p m=>exact ⟨hr.1,by have:=hr.2.mono h.φ;grind [h.key]⟩
 |own f=>obtain ⟨v,rfl,hv,hf⟩:=hr;refine ⟨v,rfl,hv,λo' CH=> ?_⟩;have ⟨⟨o,ho⟩,hE⟩:=h.fJ f o' CH;grind
 |_=>exact hr
def ar.ZK (h:aaL e e'){cs:List ax}: ∀{vs:List Value},ar e vs cs->ar e' vs cs:=by
 induction cs with
 |nil=>intro vs hr;exact hr
 |cons l r ih=>intro vs hr;obtain ⟨v,w,rfl,h1,h2⟩:=hr;exact ⟨v,w,rfl,h1.ZK h,ih h2⟩
def ZL (f:Nat)(s:Slot):Slot:=match s with
 | .ep g i o b cs=>bif bo g f then .sc .un else .ep g i o b cs
 |s=>s
theorem wk (f:Nat)(r:Fr)(t:Nat):ap (Mb f r) t=ZL f (ap r t):=Jb (ZL f) rfl r t
theorem Xy (f:Nat)(s:Slot):cg (ZL f s)=cg s:=by cases s<;>simp only [ZL];rename_i g _ _ _ _;cases bo g f<;>rfl
def af.ZK {f:Nat}{T:Nat->Prop}(h:aaL e e')(sB:jT (· ≠f) T e e'){v:Value}{s:Slot}(hT:fO (λ_=>True) T s)(hr:af e v s):af e' v (ZL f s):=by
 cases s with
 |sc l=>
  simp only [ZL];cases l with
  |un=>simp [af]
  |hs k n x=>grind [af]
  |p m=>simp only [af] at hr⊢;exact hr.ZK h
  |nil=>simp only [af] at hr⊢;exact hr.ZK h
  |mp s es=>exact hr
  |own f=>simp only [af] at hr⊢;exact hr.ZK h
 |ag cs=>have ⟨arr,h1,h2⟩:=hr;exact ⟨arr,h1,h2.ZK h⟩
 |tg cs=>have ⟨arr,h1,h2⟩:=hr;exact ⟨arr,h1,h2.ZK h⟩
 |ep g i o b cs=>
  simp only [ZL];cases hb:bo g f
  .refine hr.on sB ?_;grind [fO,eQ]
  .simp [af]
 |_=>exact hr.on sB hT
def jZ.ZK (h:aaL e e')(hk:e'.key=e.key)(hp:gx e.φ e'.φ){o:Obj}{cs:List ax}(hr:jZ e o cs):jZ e' o cs:=by
 cases o with
 |cells arr T z=>exact ⟨hr.1,hr.2.ZK h⟩
 |map es clock=>exact hr
 |stringIter x pos=>exact hr
 |_=>exact hr.elim
def aU.set {key:Nat->Nat} {φ:Ph}{size:Nat}{xs:List MV}: ∀{cs:List Value} {i:Nat} {x:MV} {v':List Value},aU key φ size cs xs->i<xs.length->v'.length=size->il key φ v' x-> aU key φ size (cs.take (i *size)++v'++cs.drop (i *size+size)) (xs.set i x):=by
 induction xs with
 |nil=>grind
 |cons y ys ih=>
  intro cs i x v' h hi hl hr;obtain ⟨v,q,rfl,h1,h2,h3⟩:=h;cases i with
  |zero=>exact ⟨v',q,by grind,hl,hr,h3⟩
  |succ i=>have:=ih h3 (by simpa using hi) hl hr;refine ⟨v,_,?_,h1,h2,this⟩;rw [ahw,aey,afj,aer aah,afw aah];grind
theorem bC.ai4 {f:Nat}{fo:n8}{I:TI}{g i:Nat}{cap:Nat}{cD:Array Value} {v' cells:List Value}{x:MV}(h:bC c Z e st a w)(hf:aB st.aF f=some fo)(hz:fo.fH=false)(hI:c.ti fo.ty=some I)(SX:I.bR=[])(hE:e.E f= .slice (some ⟨g,0,none⟩) fo.xs.length cap)(dI:w.ownsRow 0 fo.ty I.size (e.E f) fo.xs.length cells)(hg:w.heap[g]? =some (.cells cD fo.ty (0,0)))(jk:aU e.key e.φ I.size cells fo.xs)(hi:i<fo.xs.length)(hl:v'.length=I.size)(hr:il e.key e.φ v' x)(Cc:f∉Z.ch): bC c Z {e with m:=ct e.m f ⟨fo.ty,false,fo.xs.set i x⟩} {st with fr:=Mb f st.fr,aF:=ct st.aF f ⟨fo.ty,false,fo.xs.set i x⟩} a (w.setRow g (cD.toList.take (i *I.size)++v'++cD.toList.drop (i *I.size+I.size)).toArray)/\Z g:=by
 have hb:(e.E f).ownBlock=some g:=by rw [hE];rfl
 have hZ:Z g/\ ∀off,e.φ g off=none:=by
  obtain ⟨J,vQ,_,_,_,_,h5⟩:=(h.fJ f fo hf).row;obtain ⟨h6,h7⟩:=h5 g hb;refine ⟨QD h6 Cc,λoff=> ?_⟩;cases hp:e.φ g off with
  |none=>rfl
  |some u=>have:=(h7.1 off u hp).1;rw [hz] at this;cases this
 have uw:=setRow_size w g (cD.toList.take (i *I.size)++v'++cD.toList.drop (i *I.size+I.size)).toArray;have hE1:aaL e {e with m:=ct e.m f ⟨fo.ty,false,fo.xs.set i x⟩}:=by
  refine ⟨rfl,.refl _,λf2 o2 cV=>⟨?_,rfl⟩⟩;have cV:aB (ct e.m f ⟨fo.ty,false,fo.xs.set i x⟩) f2=some o2:=cV;rw [aW] at cV;by_cases jt:f2=f
  .grind [h.m]
  .grind
 have sB:jT (· ≠f) (λ_=>True) e {e with m:=ct e.m f ⟨fo.ty,false,fo.xs.set i x⟩}:=by refine ⟨rfl,.refl _,λ_ _=>rfl,λf2 o2 cV dt=> ?_⟩;have cV:aB (ct e.m f ⟨fo.ty,false,fo.xs.set i x⟩) f2=some o2:=cV;rw [aW] at cV;simp only [dt,if_false] at cV;exact ⟨o2,cV,rfl,rfl⟩
 have nC: ∀f2 o2,aB (ct st.aF f ⟨fo.ty,false,fo.xs.set i x⟩) f2=some o2-> ∃o3,aB st.aF f2=some o3:=by
  intro f2 o2 cV;rw [aW] at cV;by_cases jt:f2=f
  .grind
  .grind
 refine ⟨⟨h.defers,h.size,by rw [h.m],h.key,?_,?_,?_,?_,?_,?_,?_,?_,λb hb=>h.bI b aah⟩,hZ.1⟩
 .have:aG (Mb f st.fr)=aG st.fr:=by simp [aG,Mb]
  grind [h.nodup]
 .intro t;rw [wk];have hs:=h.slot t;have hbf:=h.bf t;generalize ap st.fr t=s at hs hbf;by_cases S0: ∃cs,s= .box cs
  .obtain ⟨cs,rfl⟩:=S0;refine ⟨hs.1,hs.2.bI,?_,hs.2.free⟩;have ⟨o2,h1,h2⟩:=hs.2.obj;refine ⟨o2,?_,h2.ZK hE1 rfl (.refl _)⟩;rw [setRow_other _ _ _ _ (by grind)];exact h1
  .have zf:af e (a.tmps.getD t undef) s:=by cases s<;>simp only [dy] at hs<;>first|exact hs|grind
   have h2:=zf.ZK (f:=f) hE1 sB (cZ s);generalize hks:ZL f s=s2 at h2;cases s2<;>first|exact h2|grind [af]
 .intro t;rw [wk];have pq:=h.root t;generalize ap st.fr t=s at pq;have hk: ∀q,cg (ap (Mb f st.fr) q)=cg (ap st.fr q):=(by grind [wk,Xy])
  cases s with
  |ptr q o=>show cg (ap (Mb f st.fr) q)=true;rw [hk];exact pq
  |hp q o i=>show cg (ap (Mb f st.fr) q)=true;rw [hk];exact pq
  |zK q=>show cg (ap (Mb f st.fr) q)=true;rw [hk];exact pq
  |ep g' _ _ _ _=>simp only [ZL];cases bo g' f<;>trivial
  |_=>trivial
 .intro f2 o2 cV;rw [aW] at cV;by_cases jt:f2=f
  .subst jt;simp at cV;subst cV;have ⟨hlen,QO⟩:=dI;refine ⟨I,cells.take (i *I.size)++v'++cells.drop (i *I.size+I.size),hI,SX,⟨?_,?_⟩,?_,?_⟩
   .have hle:i *I.size+I.size<=fo.xs.length *I.size:=by rw [<-ahw];exact ad2 _ hi
    grind
   .have hle:i *I.size+I.size<=fo.xs.length *I.size:=by rw [<-ahw];exact ad2 _ hi
    rcases QO with ⟨h1,_⟩|⟨g2,zV,BO,h1,_,h3,h4,h5,h6,h7⟩
    .grind
    .rw [hE] at h1;simp at h1;have ⟨rfl,rfl⟩:=h1;rw [hg] at h3;simp at h3;subst h3;refine .inr ⟨g,cap,(cD.toList.take (i *I.size)++v'++cD.toList.drop (i *I.size+I.size)).toArray,by rw [hE];simp,aah,setRow_heap _ _ _ _ _ _ hg,by grind,h5,?_,?_⟩
     .grind
     .have BP:cD.toList.length=cD.size:=aaS
      have hcz:fo.xs.length *I.size<=cap *I.size:=ad2 _ h4;have e2:(cD.toList.take (fo.xs.length *I.size)).drop (i *I.size+I.size)=(cD.toList.drop (i *I.size+I.size)).take (fo.xs.length *I.size-(i *I.size+I.size)):=by rw [List.drop_take]
      have e3:(cD.toList.take (i *I.size)++v').length=i *I.size+I.size:=by simp only [OF,List.length_take,BP];omega
      grind [aey,aer]
   .exact jk.set hi hl hr
   .intro aQ n9;rw [hb] at n9;cases n9;exact ⟨.inr hZ.1,(by grind),(by grind)⟩
  .simp only [jt,if_false] at cV;have ⟨I2,vQ,h1,h2,h3,h4,h5⟩:=(h.fJ f2 o2 cV).row;exact ⟨I2,vQ,h1,h2,Tu (λhk=>jt (h.ff f2 f o2 fo g cV hf hk hb)) h3,h4,h5⟩
 .intro t t' c1 c2 h1 h2 dt;rw [wk] at h1 h2;have g1:ap st.fr t= .box c1:=by generalize ap st.fr t=s at h1;cases s<;>simp only [ZL] at h1<;>first|exact h1|(simp at h1;done)|grind
  have g2:ap st.fr t'= .box c2:=by generalize ap st.fr t'=s at h2;cases s<;>simp only [ZL] at h2<;>first|exact h2|(simp at h2;done)|grind
  exact h.bb t t' c1 c2 g1 g2 dt
 .intro t c1 f2 o2 h1 h2;rw [wk] at h1;have g1:ap st.fr t= .box c1:=by generalize ap st.fr t=s at h1;cases s<;>simp only [ZL] at h1<;>first|exact h1|(simp at h1;done)|grind
  have ⟨o3,VJ⟩:=nC f2 o2 h2;exact h.bf t c1 f2 o3 g1 VJ
 .intro f1 f2 o1 o2 k h1 h2 h3 h4;have ⟨q1,g1⟩:=nC f1 o1 h1;have ⟨q2,g2⟩:=nC f2 o2 h2;exact h.ff f1 f2 q1 q2 k g1 g2 h3 h4
 .intro b off v hv;have dt:b≠g:=by intro eb;subst eb;rw [hZ.2] at hv;cases hv
  rw [ad8 (setRow_other _ _ _ _ dt)];exact h.jU b off v hv
def ar.Xz {cs:List ax}: ∀{vs:List Value} {ms:List MV},ar e vs cs->bw cs=some ms->fq e.key e.φ vs ms:=by
 induction cs with
 |nil=>intro vs ms h hm;cases h;simp [bw] at hm;subst hm;exact .nil
 |cons l r ih=>
  intro vs ms h hm;obtain ⟨v,u,rfl,h1,h2⟩:=h;cases hr:bw r with
  |none=>simp_all [bw]
  |some q=>
   cases l<;>simp [bw,hr] at hm
   .subst hm;exact .cons v _ u q h1.2 (ih h2 hr)
   .subst hm;obtain ⟨rfl,hx⟩:=h1;exact .cons _ _ u q (.h _ _ _ hx) (ih h2 hr)
def aaN {b:Bool}{ms:List MV}{x:MV}{vs:List Value}(h:fq e.key e.φ vs ms)(hx:vO b ms=some x):il e.key e.φ vs x:=by
 cases b with
 |true=>cases ms<;>simp [vO] at hx<;>subst hx<;>exact .agg _ _ h
 |false=>
  cases ms with
  |nil=>grind [vO]
  |cons m ms=>
   cases ms with
   |cons y ys=>grind [vO]
   |nil=>
    simp [vO] at hx;cases h with
    |cons v _ u _ h1 h2=>cases h2;grind
theorem aaO {t:TypeId}{x y:Operand}{I:TI}(ho:o.op= .store t x y)(hI:c.tv t=some I)(hT:fw P c.ti)(h:bC c Z e st a w)(hK:stK st I (az c st x) (az c st y) (λst=>aR c st o.dst (.sc .un) K)=some r):o.wp P a w (Out c Z K r e.φ w) Q:=by
 obtain ⟨hx,pq⟩:=h.eval x;obtain ⟨hy,_⟩:=h.eval y;obtain ⟨lC,hc⟩:=aM hI;have hr:=hT t I lC;have go: ∀w' bG,(afh t (a.eval x) (a.eval y)).run P w= .ok () w'->bC c Z e bG a w'->Trans Z e.φ w e.φ w'->aR c bG o.dst (.sc .un) K=some r->o.wp P a w (Out c Z K r e.φ w) Q:=by intro w' bG h1 h2 h3 h4;refine DU ?_ h2 h3 h4;simp [execOp,ho,h1]
 generalize az c st x=sx at hx hK pq;generalize az c st y=sy at hy hK;unfold stK at hK;cases hb:B8 (aD sy)||!bo (Cy (aD sy)) I.size with
 |true=>grind
 |false=>
  simp only [hb,cond_false] at hK;simp only [ad1,aeY] at hb;have Jh:=sh hb.2;have fj:0<I.size:=by
   rcases hr.agg hc with ⟨d,hu,hd,hh⟩|⟨_,_,_,_,hh⟩
   .have ⟨d',i',h1,h2,h3,h4⟩:=hr;grind [qD,absurd]
   .omega
  have dt:aD sy≠[]:=by intro e0;rw [e0] at Jh;simp [Cy] at Jh;omega
  have hcv:=Cb hy hb.1 dt;split at hK
  .simp only [af] at hx;split at hK
   .grind [putAt,aD,Xu]
   .simp at hK
  .rename_i root off hn i;obtain ⟨hx,ai5⟩:=hx;split at hK
   .rename_i cs n xu;have zG:dx cs=false:=by cases hq:dx cs<;>simp_all
    simp only [zG,cond_false] at hK;split at hK
    .rename_i kk n' x ls aiV;cases hq:bo n' hn with
     |false=>grind
     |true=>
     simp only [hq,cond_true] at hK;have hq:=sh hq;unfold gI at hK;split at hK
     .rename_i k n;by_cases hk:k=kk
      .subst hk;have hyv:=kq hy;cases hp:putAt cs off [.hs k n' (x.set i n)] with
       |none=>grind
       |some gl=>
        simp only [hp] at hK;have nA:=h.slot root;rw [xu] at nA;have ⟨arr,T,bW,pi⟩:=nA.2.cells zG;have ⟨u1,u2,hu,h4,h5⟩:=zQ aiV pi;obtain ⟨u3,u4,rfl,h6,_⟩:=h5;obtain ⟨rfl,Ty⟩:=h6;have ⟨p1,p2,p3,he,h1,h2,h3⟩:=xp (ws:=bE k (x.set i n)) hp pi ⟨_,[],aaS,⟨rfl,by grind⟩,rfl⟩;have hlx:=cA k x;have hly:=cA k (x.set i n);rw [List.length_set] at hly;have hpu:p1=u1/\p2++p3=bE k x++u4:=(by grind [List.append_inj,IT])
        have ⟨rfl,hpu⟩:=hpu;obtain ⟨rfl,rfl⟩:=List.append_inj hpu aah;have uw:arr.size=p1.length+x.length+p3.length:=by
         have:arr.toList.length=(p1++bE k x++p3).length:=by rw [he]
         simp at this;omega
        have aeE:(a.eval y).cells.toList=[.int k n]:=by rw [hyv];simp [No]
        have OI:I.size=1:=by rw [<-Jh];rfl
        have bF:=nh (P:=P) (w:=w) (aQ:=e.B root) (off:=off+i) (v:=a.eval y) hr hc (by grind) (by grind [AT]) bW aah;have ja:arr.toList.take (off+i)++(a.eval y).cells.toList++arr.toList.drop (off+i+I.size)=p1++bE k (x.set i n)++p3:=by rw [aeE,OI,he,Jj k x i _ aah,IT p1,aey,afj,aey,afj];rw [aer aah,afw aah];rw [show off+i-p1.length=i by omega,show off+i+1-p1.length=i+1 by omega,show i-(bE k x).length=0 by omega,show i+1-(bE k x).length=0 by omega];simp
        rw [ja] at bF;have ⟨hn,hK⟩:=oz hK;simp only [force_eq,kU] at hK;exact go _ _ (by rw [hx];exact bF) (h.aaH xu bW aah (by grind [bA]) (dg h.nodup)) (.setRow _ (QD nA.2.bI (by rw [<-h.defers.2.1,<-bm,hn];simp))) hK
      grind
     .simp at hK
    .simp at hK
   .simp at hK
  .rename_i f i off b cs;have ⟨e1,cz,ms,xt,GU,DX,CJ,hK,hp1,GV⟩:=mS h hcv hK;have hx:=hx.on GU.on (cZ _);cases hf:aB cz.aF f with
   |none=>grind
   |some fo=>
    simp only [hf] at hK;have ⟨hz,hK⟩:=oz hK;cases ZE:rm (aD sy) ms with
    |none=>grind
    |some vs=>
     simp only [ZE] at hK;have ⟨DH,_⟩:=GV vs ZE;cases hp:putAt cs off vs with
     |none=>grind
     |some gl=>
      simp only [hp] at hK;cases hm:bw gl with
      |none=>grind
      |some ms'=>
       simp only [hm] at hK;cases hre:vO b ms' with
       |none=>grind
       |some x'=>
        simp only [hre] at hK;have ⟨hn,hK⟩:=oz hK;simp only [aiN,oh] at hK;have ⟨aQ,cap,hE,⟨x0,hx0,hel⟩,aaP⟩:=hx fo (by grind [xt.m]);have ⟨J,cells,hJ,hJc,dI,jk,_⟩:=(xt.fJ f fo hf).row;have hi:i<fo.xs.length:=(by grind)
        have ⟨p1,v1,p2,hce,GR,uR,eu⟩:=jk.at hx0;have pi:=eu.Jf hel;have hw1:=pi.width;have ⟨q1,q2,q3,hv1,hq1,hq2,ja⟩:=xp hp pi DH;have aq0:(a.eval y).cells.toList.length=I.size:=by rw [hcv.width,Jh]
        have amp:=aaN (ja.Xz hm) hre;have ⟨hlen,QO⟩:=dI;rcases QO with ⟨g1,_⟩|⟨g2,zV,cD,g1,g0,g3,g4,g5,g6,g7⟩
        .grind
        .have Ni:w.ownsRow 0 fo.ty J.size (e1.E f) fo.xs.length cells:=⟨hlen,(by grind)⟩
         rw [hE] at g1;simp at g1;have ⟨rfl,rfl⟩:=g1;have hvl:(q1++(a.eval y).cells.toList++q3).length=J.size:=by
          have:v1.length=(q1++q2++q3).length:=by rw [hv1]
          simp only [OF] at this⊢;omega
         have ⟨lm,hZ⟩:=xt.ai4 hf hz hJ hJc hE Ni g3 jk hi hvl amp (by rw [<-xt.defers.2.2.1,<-bm,hn];simp);have aaQ:cD.toList=p1++q1++q2++(q3++p2++cD.toList.drop (fo.xs.length *J.size)):=by have:=List.take_append_drop (fo.xs.length *J.size) cD.toList;rw [g7,hce,hv1] at this;refine this.symm.trans ?_;simp
         have Xv:(p1++q1).length=i *J.size+off:=by simp [GR,hq1]
         have avU:cD.size=(p1++q1).length+I.size+(q3++p2++cD.toList.drop (fo.xs.length *J.size)).length:=by
          have:cD.toList.length=(p1++q1++q2++(q3++p2++cD.toList.drop (fo.xs.length *J.size))).length:=by rw [<-aaQ]
          rw [OF,OF] at this;rw [Array.length_toList] at this;omega
         have bF:=nh (P:=P) (w:=w) (aQ:=aQ) (off:=i *J.size+off) (v:=a.eval y) hr hc aq0 hcv.cells g3 aah;have kW:cD.toList.take (i *J.size+off)++(a.eval y).cells.toList++cD.toList.drop (i *J.size+off+I.size)= cD.toList.take (i *J.size)++(q1++(a.eval y).cells.toList++q3)++cD.toList.drop (i *J.size+J.size):=by
          have t1:cD.toList.take (i *J.size+off)=p1++q1:=by
           conv=>lhs;rw [aaQ,IT (p1++q1)]
           exact afR Xv
          have t2:cD.toList.drop (i *J.size+off+I.size)=q3++p2++cD.toList.drop (fo.xs.length *J.size):=by
           conv=>lhs;rw [aaQ]
           exact (by grind [ahK,OF])
          have t3:cD.toList.take (i *J.size)=p1:=by
           conv=>lhs;rw [aaQ]
           simp only [IT];exact afR GR
          have t4:cD.toList.drop (i *J.size+J.size)=p2++cD.toList.drop (fo.xs.length *J.size):=by
           have QP:cD.toList=(p1++(q1++q2++q3))++(p2++cD.toList.drop (fo.xs.length *J.size)):=by
            conv=>lhs;rw [aaQ]
            simp
           conv=>lhs;rw [QP]
           exact (by grind [ahK,OF])
          rw [t1,t2,t3,t4];simp
         rw [kW] at bF;have aq1:i *Cy cs+off=i *J.size+off:=by rw [<-hw1,uR]
         refine DU (w':=w.setRow aQ (cD.toList.take (i *J.size)++(q1++(a.eval y).cells.toList++q3)++cD.toList.drop (i *J.size+J.size)).toArray) ?_ lm ?_ hK
         .rw [aq1] at aaP;simp [execOp,ho,aaP,bF]
         .exact GU.tr.trans (.setRow _ hZ)
  .simp at hK
def Nj {place:Nat->Option (Nat×Nat)}{cells:Array Value}{i off:Nat}{v:Value}{rest:List (Nat×Value)}(hp:place i=some (off,v.cells.size))(hle:off+v.cells.size<=cells.size): ae1 place cells ((i,v)::rest)=ae1 place (cells.toList.take off++v.cells.toList++cells.toList.drop (off+v.cells.size)).toArray rest:=by
 conv=>lhs;unfold ae1
 simp only [hp];rw [if_neg (by simp;omega)];congr 1;rw [<-Array.foldl_toList,Array.toList_zipIdx];have ⟨h1,h2⟩:=Go.Great.foldl_set off v.cells.toList 0 cells;apply Array.ext_getElem?;intro k;have e0:=h2 k;grind
def Tz {I:TI}{places:List (Nat×Nat)}(h:bC c Z e st a w)(ZE: ∀(i q y:Nat)(J:TI),I.vN[i]? =some q->I.Xh[i]? =some y->c.tv y=some J->places[i]? =some (q,J.size)/\0<J.size){parts:List (Nat×Operand)}: ∀{cs ds:List ax} {cells:Array Value},ar e cells.toList cs->Cz c st I parts cs=some ds-> ∃out,ae1 (places.toArray[·]?) cells (parts.map λp=>(p.1,a.eval p.2))=some out/\ar e out.toList ds:=by
 induction parts with
 |nil=>intro cs ds cells hl hb;simp [Cz] at hb;subst hb;exact ⟨cells,rfl,hl⟩
 |cons p ps ih=>
  intro cs ds cells hl hb;have ⟨i,x⟩:=p;simp only [Cz] at hb;split at hb
  .rename_i q y hq hy;cases hJ:c.tv y with
   |none=>grind
   |some J=>
    simp only [hJ] at hb;have ⟨hpi,fj⟩:=ZE i q y J hq hy hJ;have ⟨hu,hb⟩:=oz hb;simp only [ad1,aeY] at hu;have Jh:=sh hu.2;cases hp:putAt cs q (aD (az c st x)) with
    |none=>grind
    |some gl=>
     simp only [hp] at hb;have dt:aD (az c st x)≠[]:=by intro e0;rw [e0] at Jh;simp [Cy] at Jh;omega
     have hv:=Cb (h.eval x).1 hu.1 dt;have ⟨p1,p2,p3,he,h1,h2,h3⟩:=xp hp hl hv;have hlen:(a.eval x).cells.size=J.size:=by rw [<-Jh,<-hv.width];simp
     have uw:cells.size=p1.length+p2.length+p3.length:=by
      have:cells.toList.length=(p1++p2++p3).length:=by rw [he]
      simp at this;omega
     have SW:p2.length=(a.eval x).cells.size:=by rw [h2];simp
     have amq:=Nj (place:=(places.toArray[·]?)) (cells:=cells) (i:=i) (off:=q) (v:=a.eval x) (rest:=ps.map λp=>(p.1,a.eval p.2)) (by grind) aah;have ⟨out,h4,h5⟩:=ih (cells:=(p1++(a.eval x).cells.toList++p3).toArray) (by grind) hb;grind
  .simp at hb
def TA {kk:IntKind}{nn:Nat}{parts:List (Nat×Operand)}(h:bC c Z e st a w): ∀{x:List Int} {K':List Int->Option R},x.length=nn+2->IW c st kk nn parts x K'=some r-> ∃y,ae1 (λi=>some (i *1,1)) (bE kk x).toArray (parts.map λp=>(p.1,a.eval p.2))=some (bE kk y).toArray/\y.length=nn+2/\K' y=some r:=by
 induction parts with
 |nil=>intro x K' Ty hb;exact ⟨x,rfl,Ty,hb⟩
 |cons p ps ih=>
  intro x K' Ty hb;have ⟨i,y⟩:=p;simp only [IW] at hb;split at hb
  .rename_i m hm;cases hi:ad3 (nn+2) i with
   |true=>grind
   |false=>
    simp only [hi,cond_false] at hb;have ai5:i<nn+2:=by
     by_cases dh:i<nn+2
     .exact dh
     .grind [ad3,afS]
    unfold gI at hb;split at hb
    .rename_i k n;by_cases hk:k=kk
     .have hv:=kq (by have:=(h.eval y).1;rw [hm] at this;exact this);have Im:(a.eval y).cells= #[.int k n]:=by rw [hv];simp [No]
      have amq:=Nj (place:=λi=>some (i *1,1)) (cells:=(bE k x).toArray) (i:=i) (off:=i *1) (v:=a.eval y) (rest:=ps.map λp=>(p.1,a.eval p.2)) (by rw [Im];rfl) (by grind [cA]);grind [Jj]
     grind
    .simp at hb
  .simp at hb
def XA (P:Program)(l:List Field):(∀f∈l,∃i,P.info? f.type=some i)-> ∃places,l.mapM (λf=>(P.info? f.type).map λi=>(f.offset,i.size))=some places/\ ∀(k:Nat) (f:Field),l[k]? =some f-> ∃i,P.info? f.type=some i/\places[k]? =some (f.offset,i.size):=by
 induction l with
 |nil=>simp_all
 |cons f fs ih=>intro h;have ⟨i,hi⟩:=h f aaS;have ⟨ps,h1,h2⟩:=ih (by grind);refine ⟨(f.offset,i.size)::ps,by grind,?_⟩;grind
def aaR {t:TypeId}{parts:Array (Nat×Operand)}{I:TI}(ho:o.op= .build t parts)(hI:c.tv t=some I)(hT:fw P c.ti)(h:bC c Z e st a w)(hK:(bif I.st then (match Cz c st I parts.toList I.zero with|some cs=>aR c st o.dst (.ag cs) K|none=>none)
  else (match I.lay with|[.h k n]=>IW c st k n parts.toList (zA n) λx=>aR c st o.dst (.sc (.hs k n x)) K|_=>none))=some r):Rd P c Z K r e a w o (λ_=>True):=by
 have ⟨lC,hc⟩:=aM hI;have ⟨d,i,h1,h2,h3,h4⟩:=hT t I lC;have hpe:(parts.map λ(i,x)=>(i,a.eval x)).toList=parts.toList.map λp=>(p.1,a.eval p.2):=aaS
 have run: ∀out,P.built t (parts.toList.map λp=>(p.1,a.eval p.2))=some out-> ∀w:World,(execOp a.eval o).run P w= .ok (.value (.agg out)) w:=by intro out hb w;have:=run_build (P:=P) w t (parts.map λ(i,x)=>(i,a.eval x)) out (by rw [hpe];exact hb);simp [execOp,ho] at this⊢;simp [this]
 cases eh:I.st with
 |true=>
  simp only [eh,cond_true] at hK;cases d<;>simp only [qD] at h4;case struct fs=>
   have ⟨_,_,_,ho1,cV,VJ,zc,hz,hzl,_⟩:=h4;cases hb:Cz c st I parts.toList I.zero with
   |none=>grind
   |some cs=>
    simp only [hb] at hK;have aq2: ∃places,fs.toList.mapM (λf=>(P.info? f.type).map λi=>(f.offset,i.size))=some places/\ (∀(i q y:Nat) (J:TI),I.vN[i]? =some q->I.Xh[i]? =some y->c.tv y=some J->places[i]? =some (q,J.size)/\0<J.size):=by
     obtain ⟨places,hp1,ZI⟩:=XA P fs.toList (by intro f hf;obtain ⟨k,hk,rfl⟩:=agc.1 hf;have ⟨J,hJ,hJc,_⟩:=VJ k fs.toList[k] (by grind);have ⟨i,hi,_⟩:=(hT _ J hJ).info hJc;grind);refine ⟨places,hp1,?_⟩;intro i q y J hq hy hJ;rw [<-ho1,ad9] at hq;rw [<-cV,ad9] at hy;cases hf:fs.toList[i]? with
     |none=>grind
     |some f=>simp [hf] at hq hy;subst hy;have ⟨J2,hJ2,aq3,fj⟩:=VJ i f (by grind);have ⟨hJt,_⟩:=aM hJ;rw [hJ2] at hJt;cases hJt;have ⟨i3,hi3,hs3,_⟩:=(hT _ J hJ2).info aq3;grind
    have ⟨places,ZE,TB⟩:=aq2;have ⟨out,h5,h6⟩:=Tz h TB (cells:=zc) (lD hzl) hb;refine gy (v:= .agg out) (s:= .ag cs) h (run out ?_) ?_ trivial hK
    .unfold Program.built;simp_all;exact h5
    .simp only [af];grind
  all_goals grind
 |false=>
  simp only [eh,cond_false] at hK;split at hK
  .rename_i k' m' hl;cases d<;>simp only [qD,hl,eh] at h4<;>first|(exfalso;simp_all;done)|skip
   obtain ⟨_,_,_,rfl,kk,mm,rfl,⟨ie,hu,pu,xt⟩,ze,_,hz⟩:=h4;simp at ze;have ⟨rfl,rfl⟩:=ze;have ⟨y,h5,h7,h6⟩:=TA h aaS hK;refine gy (v:= .agg (bE k' y).toArray) (s:= .sc (.hs k' m' y)) h (run _ ?_) ?_ trivial h6
   .unfold Program.built;simp_all;exact h5
   simp_all [af,trivial]
  .simp at hK
def Env.vR (e:Env)(f:Nat)(v:Value)(fo:n8):Env:={e with E:=λg=>if g=f then v else e.E g,m:=ct e.m f fo}
def St.vR (st:St)(f:Nat)(fo:n8):St:={st with fr:=lB f st.fr,aF:=ct st.aF f fo}
theorem Fq (f:Nat)(s:Slot):cg (DF f s)=cg s:=by cases s<;>simp only [DF,cg];grind
def uU {f:Nat}{s:Slot}{cs:List ax}(h:DF f s= .box cs): ∃HG,s= .box HG/\cs=HG.map (OC f):=by
 cases s<;>simp only [DF] at h<;>first|(simp at h;done)|(rename_i g _ _ _ _;cases hb:bo g f<;>simp [hb] at h;done)|skip
 rename_i HG;simp at h;exact ⟨HG,rfl,h.symm⟩
theorem bC.ir {f:Nat}{fo:n8} {v':Value}(h:bC c Z e st a w)(Cc:f∉Z.ch)(fQ:bU c Z.nc e w' v' fo)(at0:w.heap.size<=w'.heap.size)(bW: ∀b,b<w.heap.size->(∀o,aB st.aF f=some o->(e.E f).ownBlock≠some b)->w'.heap[b]? =w.heap[b]?)(iu: ∀b o v,e.φ b o=some v->w'.cell? ⟨b,o,none⟩=some v)(ja: ∀b,v'.ownBlock=some b->w.heap.size<=b\/ ∃o,aB st.aF f=some o/\(e.E f).ownBlock=some b): bC c Z (e.vR f v' fo) (st.vR f fo) a w':=by
 have sB:jT (· ≠f) (λ_=>True) e (e.vR f v' fo):=by refine ⟨rfl,.refl _,λ_ _=>rfl,λf2 o2 cV dt=> ?_⟩;have cV:aB (ct e.m f fo) f2=some o2:=cV;rw [aW] at cV;simp only [dt,if_false] at cV;exact ⟨o2,cV,by grind [Env.vR],rfl⟩
 have ai6: ∀t cs,ap st.fr t= .box cs->e.B t<w.heap.size:=by intro t cs ht;have hs:=h.slot t;rw [ht] at hs;obtain ⟨o2,h1,_⟩:=hs.2.obj;exact a8 h1
 have vP: ∀t cs,ap st.fr t= .box cs->w'.heap[e.B t]? =w.heap[e.B t]? :=by intro t cs ht;exact bW _ (ai6 t cs ht) (λo ho=>h.bf t cs f o ht ho)
 refine ⟨h.defers,h.size,by show ct e.m f _=ct st.aF f _;rw [h.m],h.key,?_,?_,?_,?_,?_,?_,?_,iu,λb hb=>h.bI b aah⟩
 .show (aG (lB f st.fr)).Nodup;have:aG (lB f st.fr)=aG st.fr:=by simp [aG,lB]
  grind [h.nodup]
 .intro t;show dy Z _ _ t _ (ap (lB f st.fr) t);rw [gu];have hs:=h.slot t;have Ip:=vP t;generalize ap st.fr t=s at hs Ip;by_cases S0: ∃cs,s= .box cs
  .obtain ⟨cs,rfl⟩:=S0;refine ⟨hs.1.lk (Tp f _),hs.2.bI,?_,hs.2.free⟩;have ⟨o2,h1,h2⟩:=hs.2.obj;refine ⟨o2,by show w'.heap[e.B t]? =_;grind,?_⟩;refine (h2.map (λ_ _=>aP.kill f) (λ_ _=>rfl)).on sB ?_;grind [Fm]
  .have zf:af e (a.tmps.getD t undef) s:=by cases s<;>simp only [dy] at hs<;>first|exact hs|grind
   have h2:=(zf.kill f).on sB (aaz f _ s (cZ s));generalize hks:DF f s=s2 at h2;cases s2<;>first|exact h2|grind [af]
 .intro t;show cM (lB f st.fr) (ap (lB f st.fr) t);rw [gu];have pq:=h.root t;generalize ap st.fr t=s at pq;have hk: ∀q,cg (ap (lB f st.fr) q)=cg (ap st.fr q):=(by grind [gu,Fq])
  cases s with
  |ptr q o=>show cg (ap (lB f st.fr) q)=true;rw [hk];exact pq
  |hp q o i=>show cg (ap (lB f st.fr) q)=true;rw [hk];exact pq
  |zK q=>show cg (ap (lB f st.fr) q)=true;rw [hk];exact pq
  |ep g' _ _ _ _=>simp only [DF];cases bo g' f<;>trivial
  |_=>trivial
 .intro f2 o2 cV;have cV:aB (ct st.aF f fo) f2=some o2:=cV;rw [aW] at cV;by_cases jt:f2=f
  .have:=(fQ.to Cc).env (e':=e.vR f2 v' fo) rfl rfl;grind [Env.vR]
  .simp only [jt,if_false] at cV;have ⟨I2,vQ,h1,h2,h3,h4,h5⟩:=(h.fJ f2 o2 cV).row;refine ⟨I2,vQ,h1,h2,?_,h4,?_⟩
   .show w'.ownsRow 0 o2.ty I2.size (if f2=f then v' else e.E f2) o2.xs.length vQ;rw [if_neg jt];refine ⟨h3.1,?_⟩;rcases h3.2 with h6|⟨g,cap,cD,g1,g2,g3,g4⟩
    .exact .inl h6
    .refine .inr ⟨g,cap,cD,g1,g2,?_,g4⟩;rw [bW g (a8 g3) (λo ho hk=>jt (h.ff f2 f o2 o g cV ho (by rw [g1];rfl) hk))];exact g3
   .intro aQ hb;have hb:(if f2=f then v' else e.E f2).ownBlock=some aQ:=hb;rw [if_neg jt] at hb;exact h5 aQ hb
 .intro t t' c1 c2 h1 h2 dt;have h1:ap (lB f st.fr) t= .box c1:=h1;have h2:ap (lB f st.fr) t'= .box c2:=h2;rw [gu] at h1 h2;have ⟨d1,g1,_⟩:=uU h1;have ⟨d2,g2,_⟩:=uU h2;exact h.bb t t' d1 d2 g1 g2 dt
 .intro t c1 f2 o2 h1 h2;have h1:ap (lB f st.fr) t= .box c1:=h1;have h2:aB (ct st.aF f fo) f2=some o2:=h2;rw [gu] at h1;rw [aW] at h2;have ⟨d1,g1,_⟩:=uU h1;show (if f2=f then v' else e.E f2).ownBlock≠some (e.B t);by_cases jt:f2=f
  .rw [if_pos jt];intro hb;rcases ja _ hb with h3|⟨o,h3,h4⟩
   .grind
   .exact h.bf t d1 f o g1 h3 h4
  .rw [if_neg jt];simp only [jt,if_false] at h2;exact h.bf t d1 f2 o2 g1 h2
 .intro f1 f2 o1 o2 k h1 h2 h3 h4;have h1:aB (ct st.aF f fo) f1=some o1:=h1;have h2:aB (ct st.aF f fo) f2=some o2:=h2;have h3:(if f1=f then v' else e.E f1).ownBlock=some k:=h3;have h4:(if f2=f then v' else e.E f2).ownBlock=some k:=h4;rw [aW] at h1 h2;have qo: ∀g og,aB st.aF g=some og->(e.E g).ownBlock=some k->k<w.heap.size:=by
   intro g og hg hk;obtain ⟨I2,vQ,_,_,g3,_⟩:=(h.fJ g og hg).row;rcases g3.2 with ⟨g5,_⟩|⟨b,cap,cD,g5,_,g6,_⟩
   .grind [IN]
   .grind [IN,AI,a8]
  by_cases TD:f1=f
  .by_cases DZ:f2=f
   .rw [TD,DZ]
   .rw [if_pos TD] at h3;rw [if_neg DZ] at h4;simp only [DZ,if_false] at h2;rcases ja k h3 with h5|⟨o,h5,h6⟩
    .grind
    .exact TD.trans (h.ff f f2 o o2 k h5 h2 h6 h4)
  .rw [if_neg TD] at h3;simp only [TD,if_false] at h1;by_cases DZ:f2=f
   .rw [if_pos DZ] at h4;rcases ja k h4 with h5|⟨o,h5,h6⟩
    .grind
    .exact (h.ff f1 f o1 o k h1 h5 h3 h6).trans DZ.symm
   .rw [if_neg DZ] at h4;simp only [DZ,if_false] at h2;exact h.ff f1 f2 o1 o2 k h1 h2 h3 h4
def nS {f:Nat}{fo:n8}(hK:ir st f fo K=some r):K (st.vR f fo)=some r:=by
 unfold Dn.ir at hK;cases hn:bB st.ch f with
 |true=>grind
 |false=>grind [aaw,oh,St.vR]
def bC.npf {f:Nat}{fo:n8}(h:bC c Z e st a w)(hK:Dn.ir st f fo K=some r):f∉Z.ch:=by intro hm;rw [<-h.defers.2.2.1,<-bm] at hm;simp_all [Dn.ir]
def qI {f:Nat}{fo:n8}{v:Value}(h1:v.oneCell'=true):af (e.vR f v fo) v (.sc (.own f)):=by exact ⟨v,rfl,h1,(by grind [Env.vR])⟩
def kG {t:TypeId}{I:TI}(hr:nQ c.ti P t I)(hc:I.bR=[]): ∃i z,P.info? t=some i/\i.size=I.size/\i.bytes=I.bytes/\i.zero=some z/\z.cells.size=I.size:=by
 have ⟨d,i,h1,h2,h3,h4⟩:=hr;have ⟨h5,h6⟩:=h3 hc;cases d<;>simp only [qD] at h4;case struct fs=>grind [No]
 case tuple ts=>grind
 case slice el=>have ⟨_,_,hs,_,_,hz,_⟩:=h4;exact ⟨i,_,h2,h5,h6,hz,by rw [hs];rfl⟩
 case array n el=>grind [No,cA]
 case bool=>have ⟨_,_,hs,_,_,hz⟩:=h4;exact ⟨i,_,h2,h5,h6,hz,by rw [hs];rfl⟩
 case int k=>have ⟨_,_,hs,_,_,hz⟩:=h4;exact ⟨i,_,h2,h5,h6,hz,by rw [hs];rfl⟩
 case string=>have ⟨_,_,hs,_,_,b,hz,_⟩:=h4;exact ⟨i,_,h2,h5,h6,hz,by rw [hs];rfl⟩
 all_goals
  have ⟨_,_,hs,_,v,hz,hv,_⟩:=h4;cases v<;>simp_all [No,AT]
structure Src (e:Env) (w:World) (size:Nat) (v:Value) (ys:List MV) (news:List Value):Prop where
 els:aU e.key e.φ size news ys
 val: ∃ad cap,v= .slice ad ys.length cap/\(ad=none->ys=[])/\ ∀x,ad=some x-> ∀(j:Nat) (u:Value),news[j]? =some u->w.cell? (x.add j)=some u
def aU.zW {key:Nat->Nat} {φ:Ph}{size:Nat}{xs:List MV}: ∀{cs:List Value},aU key φ size cs xs-> ∀u∈cs,u.oneCell'=true:=by
 induction xs with
 |nil=>intro cs h;cases h;simp
 |cons x xs ih=>
  intro cs h u hu;obtain ⟨v,q,rfl,_,h2,h3⟩:=h;rcases afA.1 hu with hu|hu
  .exact h2.cells u hu
  grind
def aU.append {key:Nat->Nat} {φ:Ph}{size:Nat}{xs ys:List MV}: ∀{cs ds:List Value},aU key φ size cs xs->aU key φ size ds ys->aU key φ size (cs++ds) (xs++ys):=by
 induction xs with
 |nil=>intro cs ds h h';cases h;grind
 |cons x xs ih=>intro cs ds h h';obtain ⟨v,q,rfl,h1,h2,h3⟩:=h;exact ⟨v,q++ds,aaS,h1,h2,ih h3 h'⟩
def Jk {key:Nat->Nat} {φ:Ph}{size:Nat}{xs:List MV}: ∀{f:Nat->List Value},(∀i,i<xs.length->(f i).length=size)->(∀(i:Nat) (h:i<xs.length),il key φ (f i) xs[i])-> ∃cs,aU key φ size cs xs/\ ∀(i j:Nat),i<xs.length->j<size->cs[i *size+j]? =(f i)[j]? :=by
 induction xs with
 |nil=>intro f _ _;exact ⟨[],rfl,(by grind)⟩
 |cons x xs ih=>
  intro f h1 h2;have ⟨cs,h3,h4⟩:=ih (f:=λi=>f (i+1)) (by grind) (by grind);have hl:=h1 0 aaS;refine ⟨f 0++cs,⟨f 0,cs,rfl,hl,h2 0 aaS,h3⟩,?_⟩;intro i j hi hj;cases i with
  |zero=>grind
  |succ i=>grind
def GX {I E:TI}{x:Slot}{v:Value} {K':List MV->Option R}(h:bC c Z e st a w)(hE:c.ti I.elem=some E)(fj:0<E.size)(hx:af e v x)(hK:Ou I E st x K'=some r): ∃ys news,Src e w E.size v ys news/\K' ys=some r:=by
 unfold Ou at hK;split at hK
 .rename_i xs;have ⟨hw,hK⟩:=cN hK;have ⟨_,hx⟩:=hx;generalize hv:[v]=vs at hx;cases hx with
  |list ad cap _ aQ off Fe f g1 g2 g3 g4 g5=>
  simp at hv;have hes: ∀i,i<xs.length->(f i).length=E.size:=by intro i hi;rw [(g5 i hi).width];exact DY hw _ (List.getElem_mem hi)
  have ⟨cs,h1,h2⟩:=Jk hes g5;refine ⟨xs,cs,⟨h1,ad,cap,hv,?_,?_⟩,hK⟩
  .intro hn;simp_all
  .intro x hx j u hj;have Mf:j<cs.length:=(by grind)
   rw [h1.length] at Mf;have QQ:0<xs.length:=by
    cases xs with
    |nil=>simp at Mf
    |cons y ys=>simp
   have hq:j/E.size<xs.length:=(Nat.div_lt_iff_lt_mul fj).2 Mf;have hm:=Nat.mod_lt j fj;have hj2:j=j/E.size *E.size+j%E.size:=by rw [Nat.mul_comm];exact (Nat.div_add_mod j E.size).symm
   have e1:=h2 (j/E.size) (j%E.size) hq hm;rw [<-hj2,hj] at e1;have aaT:Fe=E.size:=by rw [<-g3 0 QQ,hes 0 QQ]
   have e2:=g4 (j/E.size) (j%E.size) hq (by rw [aaT];exact hm);rw [<-e1,aaT,aez,<-hj2] at e2;have:=h.jU _ _ _ e2;grind [aed]
 .have hx:[v]=[aeb none 0 0]:=hx;simp at hx;exact ⟨[],[],⟨rfl,none,0,hx,λ_=>rfl,aaS⟩,hK⟩
 .rename_i f;cases hf:aB st.aF f with
  |none=>grind
  |some fo=>
   simp only [hf] at hK;have ⟨hb,hK⟩:=ob hK;have ll:=sh hb;have ⟨hv,_⟩:=rW h hx hf;have ⟨J,cells,hJ,_,dI,jk,_⟩:=(h.fJ f fo hf).row;rw [ll,hE] at hJ;cases hJ;refine ⟨fo.xs,cells,⟨jk,?_⟩,hK⟩;rcases dI.2 with ⟨h1,h2⟩|⟨g,cap,cD,h1,_⟩
   .grind
   .refine ⟨some ⟨g,0,none⟩,cap,by rw [hv,h1],aaS,?_⟩;intro x hx j u hj;cases hx;exact dI.cells (g:=g) (by rw [h1];rfl) j u hj
 .simp at hK
end
section
variable {P:Program}{c:Ctx}{Z:bn} {e e':Env}{st:St}{a:Act} {w w':World}{R:Type}{K:St->Option R}{r:R}{Q:Exit->Act->World->Prop}{o:Oper}
structure amr (w w':World) (el:TypeId) (size:Nat) (v v':Value) (n m:Nat) (cells news:List Value):Prop where
 own:w'.ownsRow 0 el size v' (n+m) (cells++news)
 size:w.heap.size<=w'.heap.size
 qo: ∀k,k<w.heap.size->some k≠v.ownBlock->w'.heap[k]? =w.heap[k]?
 cell: ∀(k off:Nat) (u:Value),v.ownBlock=some k->off<cells.length->w.cell? ⟨k,off,none⟩=some u->w'.cell? ⟨k,off,none⟩=some u
 place:v'.ownBlock=v.ownBlock\/v'.ownBlock=some w.heap.size
 rest:Rest w w'
structure Apx (P:Program) (w:World) (u el:TypeId) (size:Nat) (x:Value) (m:Nat) (news:List Value):Prop where
 ty:P.underlying u=some (.slice el)\/P.underlying u=some .string
 len:Builtin.lenOf x=pure m
 now:(aef size m x).run P w= .ok news.toArray w
 drew:(aef size m x).run P w.drew= .ok news.toArray w.drew
 one: ∀y∈news,y.oneCell'=true
 nl:news.length=m *size
def Src.apx {ys:List MV}{news:List Value}{x:Value}{u el:TypeId}{size:Nat}(hu:P.underlying u=some (.slice el))(h:Src e w size x ys news):Apx P w u el size x ys.length news:=by
 have ⟨ad,cap,hx,QR,ams⟩:=h.val;have Mh:=h.els.length;subst hx;cases ad with
 |none=>
  have:news=[]:=(by simp_all)
  subst this;exact ⟨.inl hu,rfl,run_firstCells_none w _ _ _ _,run_firstCells_none w.drew _ _ _ _,h.els.zW,Mh⟩
 |some ad=>exact ⟨.inl hu,rfl,run_firstCells_some w _ _ _ _ _ _ Mh (ams ad rfl),run_firstCells_some w.drew _ _ _ _ _ _ Mh (by simp_all),h.els.zW,Mh⟩
def Apx.str {u el:TypeId}(hu:P.underlying u=some .string)(b:ByteArray):Apx P w u el 1 (.string b) b.size (b.data.toList.map λx=> .int .u8 (x.toNat:Int)):=by
 have hf: ∀w',(aef 1 b.size (.string b)).run P w'= .ok (b.data.toList.map λx=>ahG .u8 (x.toNat:Int)).toArray w':=by
  intro w';have he:b.extract 0 b.size=b:=by apply ByteArray.ext;rw [afu];exact (by simp_all)
  simp only [aef,he,Sem.run_pure];congr 1;apply Array.ext';simp
 exact ⟨.inr hu,rfl,hf w,hf w.drew,by simp [AT],aaS⟩
section
variable {t u ty el:TypeId}{i:TypeInfo}{z x:Value}{m:Nat}{news:List Value}(ht:P.underlying t=some (.slice el))(hi:P.info? el=some i)(hz:i.zero=some z)(hx:Apx P w u el i.size x m news)
include ht hi hx
def aeG (h0:m=0):(aa0 #[t,u] ty #[.slice none 0 0,x]).run P w= .ok (.slice none 0 0) w:=by subst h0;have hn:=hx.now;have hl:=hx.len;rcases hx.ty with hu|hu<;>simp [aa0,run_underlying ht,run_underlying hu,ad4,typeInfo,hi,hl,hn]
def aeH {g pH zg:Nat}{cD:Array Value}(hg:w.heap[g]? =some (.cells cD el (0,0)))(uV:pH+m<=zg)(BN:pH *i.size+news.length<=cD.size): (aa0 #[t,u] ty #[.slice (some ⟨g,0,none⟩) pH zg,x]).run P w= .ok (.slice (some ⟨g,0,none⟩) (pH+m) zg) (w.setRow g (cD.toList.take (pH *i.size)++news++cD.toList.drop (pH *i.size+news.length)).toArray):=by have eh:=run_storeCells_at P g (pH *i.size) el news 0 cD w hg (by grind) hx.one;simp only [ahs] at eh;have hn:=hx.now;have hl:=hx.len;rcases hx.ty with hu|hu<;>simp [aa0,run_underlying ht,run_underlying hu,ad4,typeInfo,hi,hl,uV,hn,Addr.add_lit,eh]
include hz
def aaU (h0:0<m)(h63:(m:Int)<=9223372036854775807)(VM:m *i.bytes<=281474976710656): (aa0 #[t,u] ty #[.slice none 0 0,x]).run P w= .ok (.slice (some ⟨w.heap.size,0,none⟩) m (grownCap w m 0 el)) (w.drew.alloc (.cells (news.toArray++aev z.cells (grownCap w m 0 el-m)) el)):=by
 have dt:m≠0:=aah
 have ai7: ¬(9223372036854775807<(m:Int)):=aah
 have ai8: ¬(281474976710656<aeF m 0 *i.bytes):=by rw [nextslicecap_zero h0];omega
 have hn:=hx.drew;have hl:=hx.len;rcases hx.ty with hu|hu<;>simp [aa0,run_underlying ht,run_underlying hu,ad4,typeInfo,zeroValue,hi,hz,hl,dt,ai7,ai8,Question.forced,run_firstCells_none,hn,newRow,grownCap]
def VN {b:Addr}{pH zg:Nat}{aeI:List Value}(hlo:aeI.length=pH *i.size)(holds: ∀j v,aeI[j]? =some v->w.cell? (b.add j)=some v)(hg:zg<pH+m)(h63:((pH+m:Nat):Int)<=9223372036854775807)(BN:aeF (pH+m) zg *i.bytes<=281474976710656): (aa0 #[t,u] ty #[.slice (some b) pH zg,x]).run P w= .ok (.slice (some ⟨w.heap.size,0,none⟩) (pH+m) (grownCap w (pH+m) zg el)) (w.drew.alloc (.cells (aeI.toArray++news.toArray++aev z.cells (grownCap w (pH+m) zg el-(pH+m))) el)):=by
 have dt: ¬(pH+m<=zg):=aah
 have ai7: ¬(9223372036854775807<((pH:Int)+(m:Int))):=aah
 have ai8: ¬(281474976710656<aeF (pH+m) zg *i.bytes):=aah
 have hfo:=run_firstCells_some (P:=P) w.drew i.size pH b pH zg aeI hlo (by simp_all);have hn:=hx.drew;have hl:=hx.len;rcases hx.ty with hu|hu<;>(simp [aa0,run_underlying ht,run_underlying hu,ad4,typeInfo,zeroValue,hi,hz,hl,dt,ai7,ai8,Question.forced,hn,hfo,newRow,grownCap];grind)
end
theorem CM {t u ty:TypeId}{I E:TI}{v x:Value}{n m:Nat}{cells news:List Value}(hu:P.underlying t=some (.slice I.elem))(hE:c.ti I.elem=some E)(nR:E.bR=[])(fj:0<E.size)(hT:fw P c.ti)(ru:1<=E.bytes)(dI:w.ownsRow 0 I.elem E.size v n cells)(hx:Apx P w u I.elem E.size x m news)(oa:(n+m) *E.bytes<=2^46): ∃v' w',(aa0 #[t,u] ty #[v,x]).run P w= .ok v' w'/\amr w w' I.elem E.size v v' n m cells news:=by
 have ⟨i,z,hi,hs,hby,hz,OJ⟩:=kG (hT _ E hE) nR;rw [<-hs] at hx dI OJ fj⊢;rw [<-hby] at oa ru;have hle:n+m<=2^46:=aei (aeg _ ru) oa;have hml:n+m<=ahn:=by unfold ahn;omega
 have Mh:=hx.nl;have hlen:(cells++news).length=(n+m) *i.size:=by rw [OF,dI.1,Mh,afa]
 have grown: ∀(qo:Nat),qo<n+m-> (w.drew.alloc (.cells (cells.toArray++news.toArray++aev z.cells (grownCap w (n+m) qo I.elem-(n+m))) I.elem)).ownsRow 0 I.elem i.size (.slice (some ⟨w.heap.size,0,none⟩) (n+m) (grownCap w (n+m) qo I.elem)) (n+m) (cells++news):=by
  intro qo ho;refine ⟨hlen,.inr ⟨w.heap.size,_,_,rfl,ahl _,fL w.drew _,grownCap_ge w (n+m) qo I.elem,grownCap_le_maxLen w (n+m) qo I.elem hml,?_,?_⟩⟩
  .have hge:=grownCap_ge w (n+m) qo I.elem;simp only [ahA,ahF,size_zeroCells,OJ,dI.1,Mh,<-afa];grind
  .grind
 have rest: ∀cs:Array Value,Rest w (w.drew.alloc (.cells cs I.elem)):=λcs=>⟨rfl,rfl,rfl⟩
 rcases dI.2 with ⟨rfl,rfl⟩|⟨g,cap,cD,rfl,_,hg,TE,HF,xu,SY⟩
 .have hcn:cells=[]:=(by simp_all)
  subst hcn;by_cases hm:m=0
  .have hnn:news=[]:=(by simp_all)
   refine ⟨_,_,aeG hu hi hx hm,⟨?_,adZ _,λ_ _ _=>rfl,(by grind),.inl rfl,.refl _⟩⟩;grind
  .simp at oa hle hml;have hr:=aaU (ty:=ty) hu hi hz hx aah aah aah;have XB:=grown 0 aah;exact ⟨_,_,hr,⟨by simpa using XB,aaS,λk hk _=>nb w.drew _ k hk,(λ_ _ _ hk=>by cases hk),.inr rfl,rest _⟩⟩
 .by_cases uV:n+m<=cap
  .have BN:n *i.size+news.length<=cD.size:=by rw [Mh,xu,<-afa];exact ad2 _ uV
   have hr:=aeH (ty:=ty) hu hi hx hg uV BN;have amv:=setRow_heap w g cD (cD.toList.take (n *i.size)++news++cD.toList.drop (n *i.size+news.length)).toArray I.elem _ hg;refine ⟨_,_,hr,⟨⟨hlen,.inr ⟨g,cap,_,rfl,ahl _,amv,uV,HF,?_,?_⟩⟩,aaS,λk _ hk=>setRow_other w g k _ (λhe=>hk (by simp [IN,he])),?_,.inl rfl,Rest.setRow w g _⟩⟩
   .simp;omega
   .rw [SY,<-hlen];exact agv
   .intro k off y hk Xv hc;have hkg:k=g:=by simp [IN] at hk;exact hk.symm
    subst hkg;rw [cell_of hg] at hc;rw [cell_of amv];grind
  .have holds: ∀j y,cells[j]? =some y->w.cell? ((⟨g,0,none⟩:Addr).add j)=some y:=dI.cells (g:=g) rfl;have hr:=VN (ty:=ty) (zg:=cap) hu hi hz hx dI.1 holds aah aah (growslice_fits aah aah);refine ⟨_,_,hr,⟨grown cap aah,aaS,λk hk _=>nb w.drew _ k hk,?_,.inr rfl,rest _⟩⟩;intro k off y hk Xv hc;have hkg:k=g:=by simp [IN] at hk;exact hk.symm
   subst hkg;rw [ad8 (nb w.drew _ k (a8 hg))];exact hc
def QS {t u ty:TypeId}{I E:TI}{ad:Option Addr}{x:Value}{n m:Nat}{cells news:List Value}(hu:P.underlying t=some (.slice I.elem))(hE:c.ti I.elem=some E)(nR:E.bR=[])(hT:fw P c.ti)(ru:1<=E.bytes)(BP:cells.length=n *E.size)(aeJ:ad=none->n=0)(bE: ∀y,ad=some y-> ∀(j:Nat)(v:Value),cells[j]? =some v->w.cell? (y.add j)=some v)(hx:Apx P w u I.elem E.size x m news)(hm:0<m)(oa:(n+m) *E.bytes<=2^46): ∃v' w',(aa0 #[t,u] ty #[.slice ad n n,x]).run P w= .ok v' w'/\w'.ownsRow 0 I.elem E.size v' (n+m) (cells++news)/\v'.ownBlock=some w.heap.size/\cq w w':=by
 have ⟨i,z,hi,hs,hby,hz,OJ⟩:=kG (hT _ E hE) nR;rw [<-hs] at hx BP OJ⊢;rw [<-hby] at oa ru;have hle:n+m<=2^46:=aei (aeg _ ru) oa;have hml:n+m<=ahn:=by unfold ahn;omega
 have Mh:=hx.nl;have hlen:(cells++news).length=(n+m) *i.size:=by rw [OF,BP,Mh,afa]
 have grown: ∀(qo:Nat),qo<n+m-> (w.drew.alloc (.cells (cells.toArray++news.toArray++aev z.cells (grownCap w (n+m) qo I.elem-(n+m))) I.elem)).ownsRow 0 I.elem i.size (.slice (some ⟨w.heap.size,0,none⟩) (n+m) (grownCap w (n+m) qo I.elem)) (n+m) (cells++news):=by
  intro qo ho;refine ⟨hlen,.inr ⟨w.heap.size,_,_,rfl,ahl _,fL w.drew _,grownCap_ge w (n+m) qo I.elem,grownCap_le_maxLen w (n+m) qo I.elem hml,?_,?_⟩⟩
  .have hge:=grownCap_ge w (n+m) qo I.elem;simp only [ahA,ahF,size_zeroCells,OJ,BP,Mh,<-afa];grind
  .grind
 have rest: ∀cs:Array Value,Rest w (w.drew.alloc (.cells cs I.elem)):=λcs=>⟨rfl,rfl,rfl⟩
 have XB: ∀cs:Array Value,cq w (w.drew.alloc (.cells cs I.elem)):=λcs=>⟨aaS,λk hk=>nb w.drew _ k hk,rest cs⟩
 cases ad with
 |none=>
  have hn:=aeJ rfl;subst hn;have hcn:cells=[]:=(by grind)
  subst hcn;simp at oa hle hml;have hr:=aaU (ty:=ty) hu hi hz hx aah aah aah;have hg2:=grown 0 aah;exact ⟨_,_,hr,by simpa using hg2,rfl,XB _⟩
 |some b=>have hr:=VN (ty:=ty) (zg:=n) hu hi hz hx BP (λj v hj=>bE b rfl j v hj) aah aah (growslice_fits aah aah);exact ⟨_,_,hr,grown n aah,rfl,XB _⟩
end
section
variable {P:Program}{c:Ctx}{Z:bn}{e e':Env}{st:St}{a:Act}{w w':World}{R:Type}{K:St->Option R}{r:R}{Q:Exit->Act->World->Prop}{o:Oper}
def wm {base:Nat}{t:TypeId}{size n:Nat}{v:Value}{xs:List Value}(h:w.ownsRow base t size v n xs):v.oneCell'=true:=by rcases h.2 with ⟨rfl,_⟩|⟨g,cap,cD,rfl,_⟩<;>rfl
def OL {E:TI}{t:TypeId}(hr:nQ c.ti P t E)(h:Xi E=true):P.underlying t=some (.int .u8)/\E.size=1:=by
 unfold Xi at h;split at h
 .rename_i k eh hl;have:=of_decide_eq_true h;subst this;have ⟨d,i,h1,h2,h3,h4⟩:=hr;cases d<;>simp only [qD,hl,eh] at h4<;>first|(exfalso;simp_all;done)|skip
  have ⟨_,_,h5,h6,_⟩:=h4;simp at h6;subst h6;exact ⟨h1,h5⟩
 .cases h
theorem OM {key:Nat->Nat} {φ:Ph}: ∀l:List UInt8,aU key φ 1 (l.map λx=>ahG .u8 (x.toNat:Int)) (IV l)
 |[]=>rfl
 |b::l=>⟨[.int .u8 (b.toNat:Int)],_,rfl,rfl,.i .u8 _,OM l⟩
theorem QT {cl:Call}{s x:Operand}{t u:TypeId}{I E:TI}{ys:List MV}{news:List Value}(ho:o.op= .call cl)(hb:cl.callee= .builtin .append)(ha:cl.args.toList=[s,x])(Ql:cl.argTypes.toList=[t,u])(hI:c.tv t=some I)(hL:I.GN=true)(hE:c.tv I.elem=some E)(hT:fw P c.ti)(h:bC c Z e st a w)(zX:Apx P w u I.elem E.size (a.eval x) ys.length news)(ja:aU e.key e.φ E.size news ys)(hK:Xj (bB c.bs (o.dst.getD 0)) (o.dst.getD 0) st I E (az c st s) ys (λsl st=>aR c st o.dst sl K)=some r):o.wp P a w (Out c Z K r e.φ w) Q:=by
 obtain ⟨lC,hc⟩:=aM hI;obtain ⟨mn,nR⟩:=aM hE;obtain ⟨hu,E2,DI,_,fj⟩:=TI.kK (hT t I lC) hL;rw [mn] at DI;cases DI;have ha':cl.args= #[s,x]:=by rw [<-aea,ha]
 have amw:cl.argTypes= #[t,u]:=by rw [<-aea,Ql]
 obtain ⟨hs,_⟩:=h.eval s;have go: ∀(pb:Bool) (f:Nat) (fH:Bool) (xs:List MV) (cells:List Value),1<=E.bytes->(xs.length+ys.length) *E.bytes<=2^46->w.ownsRow 0 I.elem E.size (a.eval s) xs.length cells->aU e.key e.φ E.size cells xs-> (∀aQ,(a.eval s).ownBlock=some aQ->((f∈Z.ch/\Z.Pr aQ)\/Z.In aQ)/\(∃o,aB st.aF f=some o/\(e.E f).ownBlock=some aQ)/\ ∀off u,e.φ aQ off=some u->fH=true/\off<xs.length *E.size)-> ir st f ⟨I.elem,fH,xs++ys⟩ (λst=>bif pb then kI st (.own f) λm st=>aR c st o.dst (.sc (.p m)) K else aR c st o.dst (.sc (.own f)) K)=some r->o.wp P a w (Out c Z K r e.φ w) Q:=by
  intro pb f fH xs cells ru oa dI jk aaF hK;obtain ⟨v',w',bF,wo⟩:=CM (P:=P) (ty:=o.type) hu mn nR fj hT ru dI zX oa;have hlen:cells.length=xs.length *E.size:=jk.length;have Cc:=h.npf hK;have hK:=nS hK;have fQ:bU c Z.nc e w' v' ⟨I.elem,fH,xs++ys⟩:=by
   refine ⟨E,cells++news,mn,nR,by grind [wo.own],jk.append ja,?_⟩;intro aQ n9;rcases wo.place with h1|h1
   .rw [h1] at n9;have ⟨h2,_,h3⟩:=aaF aQ n9;refine ⟨QD h2 Cc,λoff u hu=> ?_,λhc=>ahr hc⟩;have ⟨h4,h5⟩:=h3 off u hu;refine ⟨h4,ahq h5 ?_⟩;simp_all [OF,ad2,Nat.le_add_right]
   .rw [h1] at n9;cases n9;refine ⟨h.bI _ (adZ _),λoff u hu=> ?_,λhc=>ahr hc⟩;have:=ab3 w _ (h.jU _ _ _ hu);simp at this
  have lm:=h.ir (f:=f) Cc fQ wo.size (λb LX dt=>wo.qo b LX (by grind)) (λb off u hu=>by
    have hc0:=h.jU b off u hu;by_cases hk:(a.eval s).ownBlock=some b
    .exact wo.cell b off u hk (by grind) hc0
    .rw [ad8 (wo.qo b (ab3 w _ hc0) (λTF=>hk TF.symm))];exact hc0)
   (λb n9=>by rcases wo.place with h1|h1;all_goals grind)
  have hx:(execOp a.eval o).run P w= .ok (.value v') w':=by simp [execOp,ho,resolve,hb,invoke,builtin,ha',amw,bF]
  have xj:Trans Z e.φ w e.φ w':=⟨.refl _,λb hz LX=>wo.qo b LX (by grind),λ_ _ _=>rfl,wo.size,wo.rest⟩
  cases pb with
  |false=>exact fin (v:=v') (s:= .sc (.own f)) hx lm xj (.of (qI (wm wo.own)) trivial) hK
  |true=>
   simp at hK;have hl:aP (e.vR f v' ⟨I.elem,fH,xs++ys⟩) [v'] (.own f):=qI (wm wo.own);have ⟨e3,jQ,m,k1,k2,_,k4,hK,_,k7,k8⟩:=jV (l:= .own f) lm (vs:=[v']) hl hK;have hm:m.one=true:=(by grind)
   exact fin (v:=v') (s:= .sc (.p m)) hx k1 (xj.trans k2.tr) (.of (s:= .sc (.p m)) (by exact ⟨hm,k4⟩) trivial) hK
 generalize az c st s=ss at hs hK;unfold Xj at hK;cases ru:ad3 1 E.bytes with
 |false=>grind
 |true=>
  simp only [ru,cond_true] at hK;have ru:=ad7 ru;split at hK
  .have ⟨oa,hK⟩:=cN hK;have hs:[a.eval s]=[aeb none 0 0]:=hs;simp at hs;refine go false (o.dst.getD 0) false [] [] ru (by grind) (by rw [hs];exact World.ownsRow_nil w 0 I.elem E.size) rfl ?_ (by grind);grind [IN]
  .rename_i f;cases hf:aB st.aF f with
   |none=>grind
   |some fo=>simp only [hf] at hK;have ⟨oa,hK⟩:=cN hK;have oa:=of_decide_eq_true oa;have ⟨ll,hK⟩:=ob hK;have ll:=sh ll;have ⟨hv,_⟩:=rW h hs hf;have ⟨J,cells,hJ,_,dI,jk,h5⟩:=(h.fJ f fo hf).row;rw [ll,mn] at hJ;cases hJ;refine go (bB c.bs (o.dst.getD 0)) f fo.fH fo.xs cells ru oa (by grind) jk ?_ (by grind);intro aQ n9;rw [hv] at n9;exact ⟨(h5 aQ n9).1,⟨fo,hf,n9⟩,(h5 aQ n9).2.1⟩
  .rename_i xs;have ⟨hw,hK⟩:=cN hK;have ⟨oa,hK⟩:=cN hK;have ⟨hm,oa⟩:=of_decide_eq_true oa;have ⟨_,hs⟩:=hs;generalize hv:[a.eval s]=vs at hs;cases hs with
   |clip ad _ hl=>
   simp at hv;have nA:af e (a.eval s) (.sc (.p (.list xs))):=by simp only [af,aP];rw [hv];exact ⟨rfl,hl⟩
   have ⟨ys',cells,hsr,hy⟩:=GX (I:=I) (K':=some) (r:=xs) h mn fj nA (by show fh (rU E.size xs) (some xs)=some xs;rw [hw];rfl);cases hy;have ⟨ad',aaI,Xs,Nd,Im⟩:=hsr.val;rw [hv] at Xs;simp only [Value.slice.injEq] at Xs;have ⟨rfl,_,_⟩:=Xs;have ⟨v',w',bF,dI,n9,hg⟩:=QS (P:=P) (ty:=o.type) hu mn nR hT ru hsr.els.length (by grind) Im zX hm oa;have Cc:=h.npf hK;have hK:=nS hK;have fQ:bU c Z.nc e w' v' ⟨I.elem,false,xs++ys⟩:=by refine ⟨E,cells++news,mn,nR,by grind,hsr.els.append ja,?_⟩;intro aQ Cf;rw [n9] at Cf;cases Cf;refine ⟨h.bI _ (adZ _),λoff u hu=> ?_,λhc=>ahr hc⟩;have:=ab3 w _ (h.jU _ _ _ hu);simp at this
   have lm:=h.ir (f:=o.dst.getD 0) Cc fQ hg.size (λb LX _=>hg.qo b LX) (λb off u hu=>hg.cell (h.jU b off u hu)) (by grind);have hx:(execOp a.eval o).run P w= .ok (.value v') w':=by simp [execOp,ho,resolve,hb,invoke,builtin,ha',amw,hv,bF]
   cases QU:bB c.bs (o.dst.getD 0) with
   |false=>simp only [QU,cond_false] at hK;exact fin (v:=v') (s:= .sc (.own (o.dst.getD 0))) hx lm (hg.trans h.bI _) (.of (qI (wm dI)) trivial) hK
   |true=>
    simp only [QU,cond_true] at hK;have hl:aP (e.vR (o.dst.getD 0) v' ⟨I.elem,false,xs++ys⟩) [v'] (.own (o.dst.getD 0)):=qI (wm dI);have ⟨e3,jQ,m,k1,k2,_,k4,hK,_,k7,k8⟩:=jV (l:= .own (o.dst.getD 0)) lm (vs:=[v']) hl hK;have hm:m.one=true:=(by grind)
    exact fin (v:=v') (s:= .sc (.p m)) hx k1 ((hg.trans h.bI _).trans k2.tr) (.of (s:= .sc (.p m)) (by exact ⟨hm,k4⟩) trivial) hK
  .simp at hK
theorem XC {cl:Call}{s x:Operand}{t u:TypeId}{I E:TI}(ho:o.op= .call cl)(hb:cl.callee= .builtin .append)(ha:cl.args.toList=[s,x])(Ql:cl.argTypes.toList=[t,u])(hI:c.tv t=some I)(hL:I.GN=true)(hE:c.tv I.elem=some E)(hT:fw P c.ti)(h:bC c Z e st a w)(hK:(bif bo t u then Ou I E st (az c st x) λys=>Xj (bB c.bs (o.dst.getD 0)) (o.dst.getD 0) st I E (az c st s) ys (λsl st=>aR c st o.dst sl K)
  else Ta c u E (az c st x) λys=>Xj (bB c.bs (o.dst.getD 0)) (o.dst.getD 0) st I E (az c st s) ys (λsl st=>aR c st o.dst sl K))=some r):o.wp P a w (Out c Z K r e.φ w) Q:=by
 have ⟨lC,_⟩:=aM hI;have ⟨mn,_⟩:=aM hE;have ⟨hu,E2,DI,_,fj⟩:=TI.kK (hT t I lC) hL;rw [mn] at DI;cases DI;have ⟨hx,_⟩:=h.eval x;cases Cf:bo t u with
 |true=>simp only [Cf,cond_true] at hK;obtain rfl:=sh Cf;have ⟨ys,news,zX,hK⟩:=GX h mn fj hx hK;exact QT ho hb ha Ql hI hL hE hT h (zX.apx hu) zX.els hK
 |false=>
  simp only [Cf,cond_false] at hK;unfold Ta at hK;split at hK
  .rename_i T l hTu Ty;have ⟨hSU,hK⟩:=ob hK;simp at hSU;have ⟨hTi,_⟩:=aM hTu;have hd:=TI.Fp (hT u T hTi) hSU.1;have ⟨he,uw⟩:=OL (hT _ E mn) hSU.2;rw [Ty] at hx;obtain ⟨b,hb3,rfl⟩:=DV hx;refine QT ho hb ha Ql hI hL hE hT h (news:=b.data.toList.map λx=> .int .u8 (x.toNat:Int)) ?_ ?_ hK
   .rw [uw,hb3];have:=Apx.str (w:=w) (el:=I.elem) hd b;rwa [show (IV b.data.toList).length=b.size by simp_all [IV,List.length_map]]
   grind [OM]
  .cases hK
def bC.aht {φ':Ph}(h:bC c Z e st a w)(hle:gx e.φ φ')(iu: ∀b o v,φ' b o=some v->w.cell? ⟨b,o,none⟩=some v)(vP: ∀t cs,ap st.fr t= .box cs-> ∀off,φ' (e.B t) off=e.φ (e.B t) off)(fQ: ∀f o b,aB st.aF f=some o->(e.E f).ownBlock=some b-> ∀off,φ' b off=e.φ b off): bC c Z {e with φ:=φ'} st a w:=by
 have sB:jT (λ_=>True) (λ_=>True) e {e with φ:=φ'}:=⟨rfl,hle,λ_ _=>rfl,(by grind)⟩
 refine ⟨h.defers,h.size,h.m,h.key,h.nodup,?_,h.root,?_,h.bb,h.bf,h.ff,iu,h.bI⟩
 .intro t;have hs:=h.slot t;have hb:=vP t;show dy Z _ w t _ (ap st.fr t);generalize ap st.fr t=s at hs hb;cases s<;>simp only [dy] at hs⊢ <;>try exact hs.on sB (cZ _)
  rename_i cs;refine ⟨hs.1,hs.2.bI,?_,λoff=>by show φ' (e.B t) off=none;rw [hb cs rfl];exact hs.2.free off⟩;obtain ⟨o2,h1,h2⟩:=hs.2.obj;exact ⟨o2,h1,h2.on sB (λl _ f _=>trivial)⟩
 .intro f o ho;obtain ⟨I,cells,h1,h2,h3,h4,h5⟩:=(h.fJ f o ho).row;refine ⟨I,cells,h1,h2,h3,h4.mono hle,λaQ hb=>⟨(h5 aQ hb).1,λoff u hu=>(h5 aQ hb).2.1 off u ?_,λg1 g2 j hj=>hle.DP ((h5 aQ hb).2.2 g1 g2 j hj) hj⟩⟩;have hu:φ' aQ off=some u:=hu;rw [fQ f o aQ ho hb] at hu;exact hu
theorem cG.cells {key:Nat->Nat} {φ:Ph}{v:Value}{m:MV}(h:cG key φ v m):il key φ v.cells.toList m:=by
 have one:m.one=true->il key φ [v] m->il key φ v.cells.toList m:=by
  intro h1 h2;have:=h2.cells v aaS;have hv:v.cells.toList=[v]:=by cases v<;>simp_all [No,AT]
  rw [hv];exact h2
 cases m<;>simp only [cG] at h<;>first|exact one h.1 h.2|skip
 .obtain ⟨rfl,h⟩:=h;simpa [No] using il.h _ _ _ h
 .obtain ⟨arr,rfl,h⟩:=h;exact .agg _ _ (by grind [No])
def XD {parts:List (Nat×Operand)}: ∀{e:Env} {st:St} {n:Nat} {K':List MV->St->Option R},bC c Z e st a w->Z8 c st parts n K'=some r-> ∃e' bG ms,bC c Z e' bG a w/\Ext Z e e'/\aL e'.key e'.φ (parts.map λp=>a.eval p.2) ms/\K' ms bG=some r/\parts.map (λp=>(p.1,a.eval p.2))=((parts.map λp=>a.eval p.2).zipIdx n).map (λx=>(x.2,x.1)):=by
 induction parts with
 |nil=>intro e st n K' h hK;exact ⟨e,st,[],h,.refl _ _,rfl,hK,rfl⟩
 |cons p ps ih=>
  intro e st n K' h hK;obtain ⟨i,x⟩:=p;simp only [Z8] at hK;obtain ⟨hi,hK⟩:=ob hK;have zY:=sh hi;subst zY;obtain ⟨e1,cz,m,q1,q2,q3,q4,q5⟩:=lE h (h.eval x).1 hK;obtain ⟨e2,cj,ms,p1,p2,p4,p5,p6⟩:=ih q1 q5;refine ⟨e2,cj,m::ms,p1,q2.trans p2,⟨_,_,rfl,?_,p4⟩,p5,?_⟩
  .have:=q4.mono p2.on.φ;grind [p2.on.key]
  simp_all
def Mi {key:Nat->Nat} {φ:Ph}{size:Nat}{ms:List MV}: ∀{vs:List Value},aL key φ vs ms->rU size ms=true->aU key φ size (vs.flatMap λv=>v.cells.toList) ms/\vs.length=ms.length/\ ∀v∈vs,v.cells.size=size:=by
 induction ms with
 |nil=>intro vs h _;cases h;exact ⟨rfl,rfl,aaS⟩
 |cons m ms ih=>
  intro vs h hw;obtain ⟨v,u,rfl,h1,h2⟩:=h;have hm:=DY hw m aaS;have hw2:rU size ms=true:=by unfold rU at hw⊢;simp only [List.all_cons,AS] at hw;exact hw.2
  obtain ⟨h3,h4,h5⟩:=ih h2 hw2;have hl:v.cells.toList.length=size:=by rw [h1.cells.width,hm]
  refine ⟨⟨v.cells.toList,_,rfl,hl,h1.cells,h3⟩,by simp [h4],?_⟩;grind
def ON {t:TypeId}{I E:TI}{vs:List Value}{parts:Array (Nat×Value)}(hu:P.underlying t=some (.slice I.elem))(hE:c.ti I.elem=some E)(nR:E.bR=[])(fj:0<E.size)(hT:fw P c.ti)(oa:vs.length *E.size<=16777216)(hv: ∀v∈vs,v.cells.size=E.size)(hp:parts.toList=(vs.zipIdx 0).map λx=>(x.2,x.1)): (Instr.buildSlice t vs.length parts).run P w= .ok (.slice (some ⟨w.heap.size,0,none⟩) vs.length vs.length) (w.alloc (.cells (vs.flatMap λv=>v.cells.toList).toArray I.elem)):=by
 have ⟨i,z,hi,hs,hby,hz,OJ⟩:=kG (hT _ E hE) nR;by_cases h0:vs.length=0
 .have DH:=aec h0;subst DH;have VL:parts= #[]:=by rw [<-aea,hp];rfl
  simp [Instr.buildSlice,run_underlying hu,ad4,typeInfo,hi,VL,ae1,newRow,aia];grind
 .have dt: ¬vs.length *i.size=0:=by rw [hs];exact Nat.mul_ne_zero h0 aah
  refine run_buildSlice w t I.elem vs.length parts _ i z hu hi hz (by grind) dt ?_;grind [Go.Great.fill_whole]
def VO {key:Nat->Nat} {φ:Ph}{size cap aQ:Nat}{xs:List MV}{cells:List Value}(h:aU key φ size cells xs)(CL:xs.length<=cap)(hp: ∀off,off<cells.length->φ aQ off=cells[off]?): il key φ [.slice (some ⟨aQ,0,none⟩) xs.length cap] (.list xs):=by
 have Tx: ∀i (hi:i<xs.length),∃v1,v1.length=size/\il key φ v1 xs[i]/\(cells.drop (i *size)).take size=v1:=by intro i hi;obtain ⟨p1,v1,p2,he,GR,uR,eu⟩:=h.at (BY hi);refine ⟨v1,uR,eu,?_⟩;rw [he,IT,<-GR,agt,<-uR,agv]
 refine .list (some ⟨aQ,0,none⟩) cap xs aQ 0 size (λi=>(cells.drop (i *size)).take size) CL (λ_=>rfl) ?_ ?_ ?_;all_goals grind
theorem Mj {t:TypeId}{n:Nat}{parts:Array (Nat×Operand)}{I E:TI}(ho:o.op= .buildSlice t n parts)(hI:c.tv t=some I)(hL:I.GN=true)(hE:c.tv I.elem=some E)(hT:fw P c.ti)(h:bC c Z e st a w)(oa:ad3 (n *E.size) 16777216=true)(hK:Z8 c st parts.toList 0 (λms st=>bif bo ms.length n then fh (rU E.size ms) (bif bB c.bs (o.dst.getD 0) then aR c st o.dst (.sc (.p (.list ms))) K else ir st (o.dst.getD 0) ⟨I.elem,false,ms⟩ λst=>aR c st o.dst (.sc (.own (o.dst.getD 0))) K) else none)=some r): o.wp P a w (λa' w'=>cq w w'/\Out c Z K r e.φ w a' w') Q:=by
 have ⟨lC,hc⟩:=aM hI;have ⟨mn,nR⟩:=aM hE;have ⟨hu,E2,DI,_,fj⟩:=TI.kK (hT t I lC) hL;rw [mn] at DI;cases DI;have ⟨e1,cz,ms,xt,GU,di,hK,ai9⟩:=XD h hK;have ⟨hn,hK⟩:=ob hK;have hn:=sh hn;have ⟨hw,hK⟩:=cN hK;have ⟨jk,hlen,xu⟩:=Mi di hw;generalize DH:parts.toList.map (λp=>a.eval p.2)=vs at di ai9 jk hlen xu;have oa:=ad7 oa;have bF:=ON (P:=P) (c:=c) (w:=w) (t:=t) (I:=I) (vs:=vs) (parts:=parts.map λ(i,x)=>(i,a.eval x)) hu mn nR fj hT (by grind) xu (by simp_all);have ahu:(execOp a.eval o).run P w= .ok (.value (.slice (some ⟨w.heap.size,0,none⟩) vs.length vs.length)) (w.alloc (.cells (vs.flatMap λv=>v.cells.toList).toArray I.elem)):=by rw [hlen,hn] at bF⊢;simp [execOp,ho] at bF⊢;simp [bF]
 have hg:cq w (w.alloc (.cells (vs.flatMap λv=>v.cells.toList).toArray I.elem)):= .alloc w _ _;have QR: ∀off,e1.φ w.heap.size off=none:=by
  intro off;cases hp:e1.φ w.heap.size off with
  |none=>rfl
  |some u=>have:=ab3 w _ (xt.jU _ _ _ hp);simp at this
 have ahv:(vs.flatMap λv=>v.cells.toList).length=ms.length *E.size:=jk.length;have CL:ms.length<=16777216:=aei (aeg _ fj) (by grind);cases hb:bB c.bs (o.dst.getD 0) with
 |false=>
  simp only [hb,cond_false] at hK;have Cc:=xt.npf hK;have hK:=nS hK;have fQ:bU c Z.nc e1 (w.alloc (.cells (vs.flatMap λv=>v.cells.toList).toArray I.elem)) (.slice (some ⟨w.heap.size,0,none⟩) vs.length vs.length) ⟨I.elem,false,ms⟩:=by
   refine ⟨E,_,mn,nR,⟨ahv,.inr ⟨w.heap.size,vs.length,_,by rw [hlen],ahl _,fL w _,by grind,by grind [ahn],?_,?_⟩⟩,jk,?_⟩
   .grind
   .grind
   .intro aQ n9;simp [IN] at n9;subst n9;refine ⟨xt.bI _ (adZ _),(by grind),λhc=>ahr hc⟩
  have lm:=xt.ir (f:=o.dst.getD 0) Cc fQ hg.size (λb LX _=>hg.qo b LX) (λb off u hu=>hg.cell (xt.jU b off u hu)) (by grind [IN]);exact Tq (s:= .sc (.own (o.dst.getD 0))) hg ahu lm (GU.tr.trans (hg.trans xt.bI _)) (.of (qI rfl) trivial) hK
 |true=>
  simp only [hb,cond_true] at hK;generalize hfl:(vs.flatMap λv=>v.cells.toList)=flat at *;have hle:gx e1.φ (λb off=>if b=w.heap.size/\off<flat.length then flat[off]? else e1.φ b off):=by
   intro b off u hu;by_cases QU:b=w.heap.size
   .grind
   .grind
  have iu: ∀b off u,(λb off=>if b=w.heap.size/\off<flat.length then flat[off]? else e1.φ b off) b off=some u->(w.alloc (.cells flat.toArray I.elem)).cell? ⟨b,off,none⟩=some u:=by
   intro b off u hu;by_cases QU:b=w.heap.size/\off<flat.length
   .simp only [QU,and_self,if_true] at hu;simp_all
   .simp only [QU,if_false] at hu;exact hg.cell (xt.jU b off u hu)
  have lm:=(xt.grow hg).aht hle iu (by
    intro t2 Ih ht off;have Il:=xt.slot t2;rw [ht] at Il;have ⟨o2,h1,_⟩:=Il.2.obj;grind)
   (by
    intro f o2 b cV Cf off;have ⟨J,vQ,_,_,h3,_⟩:=(xt.fJ f o2 cV).row;rcases h3.2 with ⟨h1,_⟩|⟨g,cap,cD,h1,_,h4,_⟩
    .grind [IN]
    .simp [IN] at Cf;grind)
  refine Tq (s:= .sc (.p (.list ms))) hg ahu lm ?_ (.of ?_ trivial) hK
  .refine GU.tr.trans ⟨hle,λb hz LX=>hg.qo b LX,λb off hz=> ?_,hg.size,hg.rest⟩;have dt: ¬b=w.heap.size:=by intro ZM;subst ZM;exact hz (xt.bI _ (adZ _))
   simp [dt]
  .rw [hlen];exact ⟨rfl,VO (jk.mono hle) (adZ _) (by grind)⟩
theorem bC.XE {root:Nat}{cs gl:List ax}{arr:Array Value}{T:TypeId}(h:bC c Z e st a w)(hf:ap st.fr root= .box cs)(bW:w.heap[e.B root]? =some (.cells arr T (0,0)))(hl:ar e arr.toList gl)(hp:gY gl=true)(OO:root∉Z.ca)(GV:A0 root=false): ∃φ',gx e.φ φ'/\(∀b off,¬Z b->φ' b off=e.φ b off)/\(∀j,j<arr.toList.length->φ' (e.B root) j=arr.toList[j]?)/\ bC c Z {e with φ:=φ'} {st with fr:=dM st.fr root (.IK gl)} a w:=by
 have mF:=h.slot root;rw [hf] at mF;have pv:=mF.2.free;have zG:dx cs=false:=by obtain ⟨o,h1,h2⟩:=mF.2.obj;rw [bW] at h1;cases h1;exact h2.2.zS
 refine ⟨λb off=>if b=e.B root/\off<arr.toList.length then arr.toList[off]? else e.φ b off,?_,?_,?_,?_⟩
 .intro b off v hv;grind
 .intro b off hz;have hb: ¬b=e.B root:=by intro hb;subst hb;exact hz (QD mF.2.bI OO)
  simp [hb]
 .grind
 .have hle:gx e.φ (λb off=>if b=e.B root/\off<arr.toList.length then arr.toList[off]? else e.φ b off):=by
   intro b off v hv;by_cases hb:b=e.B root
   .grind
   .grind
  have sB:jT (λ_=>True) (λ_=>True) e {e with φ:=λb off=>if b=e.B root/\off<arr.toList.length then arr.toList[off]? else e.φ b off}:=⟨rfl,hle,λ_ _=>rfl,(by grind)⟩
  have hbk: ∀q,cg (ap st.fr q)=true->cg (ap (dM st.fr root (.IK gl)) q)=true:=by
   intro q hq;rw [bA];by_cases hqr:q=root
   .grind [cg]
   .grind
  refine ⟨h.defers,h.size,h.m,h.key,dg h.nodup,?_,?_,?_,?_,?_,h.ff,?_,h.bI⟩
  .intro t;rw [bA];by_cases ht:t=root
   .simp_all;refine ⟨e.B t,0,arr.toList,by have:=mF.1.1 GV;grind [sN],hl.on sB (λl _ f _=>trivial),hp,?_⟩;grind
   .simp only [ht,if_false];have hs:=h.slot t;have QF:=h.bb t root;generalize ap st.fr t=s at hs QF;cases s<;>simp only [dy] at hs⊢ <;>try exact hs.on sB (cZ _)
    rename_i Ih;refine ⟨hs.1,hs.2.bI,?_,?_⟩
    .have ⟨o2,h1,h2⟩:=hs.2.obj;exact ⟨o2,h1,h2.on sB (λl _ f _=>trivial)⟩
    .intro off;simp_all;exact hs.2.free off
  .intro t;rw [bA];by_cases ht:t=root
   .simp [ht,cM]
   .simp_all;have pq:=h.root t;generalize ap st.fr t=s at pq;cases s with
    |ptr q o=>exact hbk q pq
    |hp q o i=>exact hbk q pq
    |zK q=>exact hbk q pq
    |_=>trivial
  .intro f o ho;have ⟨I,cells,h1,h2,h3,h4,h5⟩:=(h.fJ f o ho).row;refine ⟨I,cells,h1,h2,h3,h4.mono hle,λaQ hb=>⟨(h5 aQ hb).1,λoff u hu=>(h5 aQ hb).2.1 off u ?_,(by grind)⟩⟩;have dt: ¬aQ=e.B root:=by intro ZM;exact h.bf root cs f o hf ho (by rw [hb,ZM])
   grind
  .intro t t' c1 c2 h1 h2 dt;rw [bA] at h1 h2;by_cases ht:t=root
   .grind
   .by_cases QH:t'=root
    .grind
    .simp only [ht,QH,if_false] at h1 h2;exact h.bb t t' c1 c2 h1 h2 dt
  .intro t c1 f o h1 h2;rw [bA] at h1;by_cases ht:t=root
   .grind
   .simp only [ht,if_false] at h1;exact h.bf t c1 f o h1 h2
  .intro b off v hv;by_cases hb:b=e.B root/\off<arr.toList.length
   .grind [cell_of]
   .simp only [hb,if_false] at hv;exact h.jU b off v hv
def sP {os:List Operand}: ∀{e:Env} {st:St} {K':List MV->St->Option R},bC c Z e st a w->B9 c st os K'=some r-> ∃e' bG ms,bC c Z e' bG a w/\Ext Z e e'/\fq e'.key e'.φ (os.map a.eval) ms/\K' ms bG=some r/\(∀m∈ms,m.one=true):=by
 induction os with
 |nil=>intro e st K' h hK;exact ⟨e,st,[],h,.refl _ _,.nil,hK,aaS⟩
 |cons x xs ih=>
  intro e st K' h hK;simp only [B9] at hK;obtain ⟨hx,_⟩:=h.eval x;generalize az c st x=s at hx hK;split at hK
  .rename_i root;simp only [af] at hx;split at hK
   .rename_i cs xu;obtain ⟨hup,hK⟩:=oz hK;obtain ⟨hu,aq9⟩:=ad1.1 hup;have nA:=h.slot root;rw [xu] at nA;have zG:dx cs=false:=by
     cases hm:dx cs with
     |false=>rfl
     |true=>grind [Ig,B8,S8]
    obtain ⟨arr,T,bW,pi⟩:=nA.2.cells zG;obtain ⟨e1,cz,ms,xt,GU,DX,CJ,hK,_,GV⟩:=mS h pi hK;cases ZE:rm cs ms with
    |none=>grind
    |some gl=>
     simp only [ZE] at hK;obtain ⟨Mk,VL⟩:=GV gl ZE;have hB:e1.B root=e.B root:=GU.on.B root trivial;unfold wr at hK;cases hn:bB cz.ca root with
     |true=>grind
     |false=>
      obtain ⟨φ',g1,g2,g3,g4⟩:=xt.XE (root:=root) (cs:=cs) (by grind) (by rw [hB];exact bW) Mk VL (by rw [<-xt.defers.2.1,<-bm,hn];simp) aq9;simp only [hn,cond_false,force_eq,kU] at hK;have SZ:Ext Z e1 {e1 with φ:=φ'}:=⟨⟨rfl,g1,λ_ _=>rfl,(by grind)⟩,g2⟩
      obtain ⟨e3,jQ,ns,hs3,hx3,hr3,hK,j0⟩:=ih g4 hK;refine ⟨e3,jQ,.rp ms::ns,hs3,(GU.trans SZ).trans hx3,?_,hK,by intro m hm;rcases ad6.1 hm with rfl|hm<;>first|rfl|grind⟩;have eu:il e1.key φ' [a.eval x] (.rp ms):=by rw [hx,<-hB];refine .rp (e1.B root) 0 arr.toList ms (CJ.mono g1) ?_;intro j hj;rw [aeU];exact g3 j hj
      have eu:=eu.mono hx3.on.φ;have hk3:e3.key=e1.key:=hx3.on.key;rw [<-hk3] at eu;exact .cons [a.eval x] _ _ _ eu hr3
   .simp at hK
  .rename_i cs;simp only [af] at hx;obtain ⟨aQ,q,vs,hv,pi,hp,aaF⟩:=hx;obtain ⟨e1,cz,ms,xt,GU,DX,CJ,rq,h6,_⟩:=mS h pi hK;clear hK;obtain ⟨rfl,rfl⟩:=h6 hp;obtain ⟨e3,jQ,ns,hs3,hx3,hr3,DJ,j0⟩:=ih xt rq;refine ⟨e3,jQ,.rp ms::ns,hs3,GU.trans hx3,?_,DJ,by intro m hm;rcases ad6.1 hm with rfl|hm<;>first|rfl|grind⟩;have eu:il e1.key e1.φ [a.eval x] (.rp ms):=by rw [hv];exact .rp aQ (q+0) vs ms CJ (by grind)
   have eu:=eu.mono hx3.on.φ;rw [<-hx3.on.key] at eu;exact .cons [a.eval x] _ _ _ eu hr3
  .simp at hK
def QV {f:Nat}{aJ:Array Operand}(ho:o.op= .makeFunc (.func f) #[] aJ)(h:bC c Z e st a w)(hK:B9 c st aJ.toList (λms st=>aR c st o.dst (.sc (.p (.func (c.key f) ms))) K)=some r):Rd P c Z K r e a w o (λ_=>True):=by
 obtain ⟨e1,cz,ms,xt,GU,CJ,hK,j0⟩:=sP h hK;refine Ts (v:= .func (.func f) #[] (aJ.map a.eval)) (s:= .sc (.p (.func (c.key f) ms))) (λw _=> ?_) xt GU.tr (.of ?_ trivial) hK
 .simp [execOp,ho,Instr.makeFunc]
 .simp only [af,aP];exact ⟨rfl,.func f _ _ ms (by rw [xt.key]) (by simp_all) j0⟩
end
def ni (φ:Ph)(w:World):Prop:= ∀b o v,φ b o=some v->w.cell? ⟨b,o,none⟩=some v
def mT (key:Nat->Nat) (φ:Ph):Env:=⟨key,φ,λ_=>undef,λ_=>0,[]⟩
def da (P:Program)(f:FuncId)(args:Array Value)(w:World)(R:Value->World->Prop):Prop:=match (callFunc f args).run P w with
 | .ok (.enter g as) w'=>Calls P g as w' λx Fo=> ∃v,x= .returned v/\R v Fo
 | .ok (.value v) w'=>R v w'
 |_=>False
def Nk (ks:List LK)(ls:List MV):Option (List ax×List (Nat×n8)):=ck ⟨[],[],[],[]⟩ ks ls λcs rest st=>gN rest (some (cs,st.aF))
def ez (c:Ctx)(Z:Nat->Prop) (φ:Ph)(w:World)(aQ:Nat)(ks:List LK)(ls:List MV):Prop:=∃cs m,∃E:Nat->Value,∃arr T,Nk ks ls=some (cs,m)/\w.heap[aQ]? =some (.cells arr T (0,0))/\Z aQ/\(∀o,φ aQ o=none)/\ar ⟨c.key,φ,E,λ_=>aQ,m⟩ arr.toList cs/\ (∀f o,aB m f=some o->bU c (bn.plain Z) ⟨c.key,φ,E,λ_=>aQ,m⟩ w (E f) o/\(E f).ownBlock≠some aQ)/\ (∀f f' o o' k,aB m f=some o->aB m f'=some o'->(E f).ownBlock=some k->(E f').ownBlock=some k->f=f')
def ahx (c:Ctx)(Z:Nat->Prop) (φ:Ph)(w:World)(k:Nat)(vs:List Value)(ms:List MV):Prop:=∃pos ks ko off ls aQ,c.sig k=some (pos,ks,ko)/\vs[pos]? =some (.pointer (some ⟨aQ,off,none⟩))/\ms[pos]? =some (.cell (.func off ls))/\aL c.key φ vs (ms.set pos (.rp []))/\ez c Z φ w aQ ks ls
def cv (c:Ctx)(Z:Nat->Prop) (φ:Ph)(w:World)(k:Nat)(vs:List Value)(ms:List MV):Prop:=if c.bK k then (∃v0 v1 v2 xs m1 ys,vs=[v0,v1,v2]/\ms=[.fresh xs,m1,.fresh ys]/\bU c (bn.plain Z) (mT c.key φ) w v0 ⟨c.lq k,false,xs⟩/\cG c.key φ v1 m1/\ bU c (bn.plain Z) (mT c.key φ) w v2 ⟨c.lq k,false,ys⟩/\ ∀b,v0.ownBlock=some b->v2.ownBlock≠some b)\/ (∃v0 v1 v2 xs m1 m2,vs=[v0,v1,v2]/\ms=[.fresh xs,m1,m2]/\m2.one=true/\bU c (bn.plain Z) (mT c.key φ) w v0 ⟨c.lq k,false,xs⟩/\cG c.key φ v1 m1/\cG c.key φ v2 m2)\/ ahx c Z φ w k vs ms
 else aL c.key φ vs ms
def Ml (c:Ctx)(Z:Nat->Prop) (φ:Ph)(w:World)(k:Nat)(v:Value):List MV->Prop
 | .fresh xs::ms=> ∃v0 us,v= .tuple (v0::us).toArray/\bU c (bn.plain Z) (mT c.key φ) w v0 ⟨c.lq k,false,xs⟩/\aL c.key φ us ms
 |ms=> ∃arr,v= .tuple arr/\aL c.key φ arr.toList ms
def Ml.args {c:Ctx}{Z:Nat->Prop} {φ:Ph}{w:World}{k:Nat}{arr:Array Value}{ms:List MV}(h:aL c.key φ arr.toList ms):Ml c Z φ w k (.tuple arr) ms:=by
 cases ms with
 |nil=>exact ⟨arr,rfl,h⟩
 |cons m r=>
  cases m<;>first|exact ⟨arr,rfl,h⟩|skip
  have ⟨_,_,_,h1,_⟩:=h;have h1:(MV.fresh _).one=true/\_:=h1;grind [MV.one]
def fA (c:Ctx)(Z:Nat->Prop) (φ:Ph)(w:World)(k:Nat)(v:Value):MV->Prop
 | .fresh xs=>bU c (bn.plain Z) (mT c.key φ) w v ⟨c.lq k,false,xs⟩
 | .cT ms=>Ml c Z φ w k v ms
 |m=>cG c.key φ v m
def sQ (c:Ctx)(Z:Nat->Prop) (φ:Ph)(w:World)(k:Nat)(vs:List Value)(v:Value):MV->Prop
 | .im r outs=>fA c Z φ w k v r/\ ∃pos ks ko aQ off,c.sig k=some (pos,ks,ko)/\vs[pos]? =some (.pointer (some ⟨aQ,off,none⟩))/\ez c Z φ w aQ ko outs
 |r=>fA c Z φ w k v r
def dJ (P:Program)(c:Ctx)(f:Nat)(ms:List MV)(r:MV):Prop:=∀(φ:Ph) (w:World) (Z:Nat->Prop) (vs:List Value),(∀b,w.heap.size<=b->Z b)->cv c Z φ w (c.key f) vs ms->ni φ w-> da P f vs.toArray w λv w'=> ∃φ',Trans Z φ w φ' w'/\ni φ' w'/\sQ c Z φ' w' (c.key f) vs v r
def Sound (P:Program)(c:Ctx):Prop:= ∀f ms r,c.g (c.key f) ms=some r->dJ P c f ms r
section
variable {P:Program}{c:Ctx}{Z:bn}{Z':Nat->Prop}{e e':Env}{st:St}{a:Act}{w w':World}{R:Type}{K:St->Option R}{r:R}{Q:Exit->Act->World->Prop}{o:Oper}
theorem sQ.plain {c:Ctx}{Z:Nat->Prop} {φ:Ph}{w:World}{k:Nat}{vs:List Value}{v:Value}{r:MV}(h:fA c Z φ w k v r):sQ c Z φ w k vs v r:=by cases r<;>first|exact h|exact absurd h.1 (by simp [MV.one])
def isW:MV->Bool
 | .im _ _=>true
 |_=>false
def sQ.of {c:Ctx}{Z:Nat->Prop} {φ:Ph}{w:World}{k:Nat}{vs:List Value}{v:Value}{r:MV}(h:sQ c Z φ w k vs v r)(hr:isW r=false):fA c Z φ w k v r:=by cases r<;>first|exact h|cases hr
def bC.called {φ':Ph}(h:bC c Z e st a w)(hz: ∀b,Z' b->Z.In b)(vP: ∀t cs,ap st.fr t= .box cs-> ¬Z' (e.B t))(fQ: ∀f o k,aB st.aF f=some o->(e.E f).ownBlock=some k-> ¬Z' k)(ht:Trans Z' e.φ w φ' w')(hi:ni φ' w'):bC c Z {e with φ:=φ'} st a w':=by
 have sB:jT (λ_=>True) (λ_=>True) e {e with φ:=φ'}:=⟨rfl,ht.ph,λ_ _=>rfl,(by grind)⟩
 refine ⟨h.defers,h.size,h.m,h.key,h.nodup,?_,h.root,?_,h.bb,h.bf,h.ff,hi,λb hb=>h.bI b (aei ht.size hb)⟩
 .intro t;have hs:=h.slot t;have hb:=vP t;generalize ap st.fr t=s at hs hb;cases s<;>simp only [dy] at hs⊢ <;>try exact hs.on sB (cZ _)
  rename_i cs;refine ⟨hs.1,hs.2.bI,?_,?_⟩
  .have ⟨o2,h1,h2⟩:=hs.2.obj;exact ⟨o2,by rw [ht.heap _ (hb cs rfl) (a8 h1)];exact h1,h2.on sB (λl _ f _=>trivial)⟩
  .intro off;show φ' (e.B t) off=none;rw [ht.free _ off (hb cs rfl)];exact hs.2.free off
 .intro f o ho;have ⟨I,cells,h1,h2,h3,h4,h5⟩:=(h.fJ f o ho).row;refine ⟨I,cells,h1,h2,?_,h4.mono ht.ph,?_⟩
  .refine ⟨h3.1,?_⟩;rcases h3.2 with h6|⟨g,cap,cD,g1,g2,g3,g4⟩
   .exact .inl h6
   .refine .inr ⟨g,cap,cD,g1,g2,?_,g4⟩;rw [ht.heap g (fQ f o g ho (by rw [g1];rfl)) (a8 g3)];exact g3
  .intro aQ hb;refine ⟨(h5 aQ hb).1,λoff u hu=>(h5 aQ hb).2.1 off u ?_,λg1 g2 j hj=>ht.ph.DP (by grind) hj⟩;have hu:φ' aQ off=some u:=hu;rw [ht.free _ off (fQ f o aQ ho hb)] at hu;exact hu
theorem bC.OP {f:Nat}{fo:n8} {v':Value}(h:bC c Z e st a w)(Cc:f∉Z.ch)(fQ:bU c Z.nc e w v' fo)(hb: ∀b,v'.ownBlock=some b->(∀t cs,ap st.fr t= .box cs->e.B t≠b)/\(∀g o,aB st.aF g=some o->(e.E g).ownBlock≠some b)): bC c Z (e.vR f v' fo) (st.vR f fo) a w:=by
 have sB:jT (· ≠f) (λ_=>True) e (e.vR f v' fo):=by refine ⟨rfl,.refl _,λ_ _=>rfl,λf2 o2 cV dt=> ?_⟩;have cV:aB (ct e.m f fo) f2=some o2:=cV;rw [aW] at cV;simp only [dt,if_false] at cV;exact ⟨o2,cV,by grind [Env.vR],rfl⟩
 refine ⟨h.defers,h.size,by show ct e.m f _=ct st.aF f _;rw [h.m],h.key,?_,?_,?_,?_,?_,?_,?_,h.jU,h.bI⟩
 .show (aG (lB f st.fr)).Nodup;have:aG (lB f st.fr)=aG st.fr:=by simp [aG,lB]
  grind [h.nodup]
 .intro t;show dy Z _ _ t _ (ap (lB f st.fr) t);rw [gu];have hs:=h.slot t;generalize ap st.fr t=s at hs;by_cases S0: ∃cs,s= .box cs
  .obtain ⟨cs,rfl⟩:=S0;refine ⟨hs.1.lk (Tp f _),hs.2.bI,?_,hs.2.free⟩;have ⟨o2,h1,h2⟩:=hs.2.obj;refine ⟨o2,h1,?_⟩;refine (h2.map (λ_ _=>aP.kill f) (λ_ _=>rfl)).on sB ?_;grind [Fm]
  .have zf:af e (a.tmps.getD t undef) s:=by cases s<;>simp only [dy] at hs<;>first|exact hs|grind
   have h2:=(zf.kill f).on sB (aaz f _ s (cZ s));generalize hks:DF f s=s2 at h2;cases s2<;>first|exact h2|grind [af]
 .intro t;show cM (lB f st.fr) (ap (lB f st.fr) t);rw [gu];have pq:=h.root t;generalize ap st.fr t=s at pq;have hk: ∀q,cg (ap (lB f st.fr) q)=cg (ap st.fr q):=(by grind [gu,Fq])
  cases s with
  |ptr q o=>show cg (ap (lB f st.fr) q)=true;rw [hk];exact pq
  |hp q o i=>show cg (ap (lB f st.fr) q)=true;rw [hk];exact pq
  |zK q=>show cg (ap (lB f st.fr) q)=true;rw [hk];exact pq
  |ep g' _ _ _ _=>simp only [DF];cases bo g' f<;>trivial
  |_=>trivial
 .intro f2 o2 cV;have cV:aB (ct st.aF f fo) f2=some o2:=cV;rw [aW] at cV;show bU c (Z.fz f2) _ w (if f2=f then v' else e.E f2) o2;by_cases jt:f2=f
  .rw [if_pos jt];rw [if_pos jt] at cV;cases cV;rw [jt];exact (fQ.to Cc).env rfl rfl
  .rw [if_neg jt];simp only [jt,if_false] at cV;exact (h.fJ f2 o2 cV).env rfl rfl
 .intro t t' c1 c2 h1 h2 dt;have h1:ap (lB f st.fr) t= .box c1:=h1;have h2:ap (lB f st.fr) t'= .box c2:=h2;rw [gu] at h1 h2;have ⟨d1,g1,_⟩:=uU h1;have ⟨d2,g2,_⟩:=uU h2;exact h.bb t t' d1 d2 g1 g2 dt
 .intro t c1 f2 o2 h1 h2;have h1:ap (lB f st.fr) t= .box c1:=h1;have h2:aB (ct st.aF f fo) f2=some o2:=h2;rw [gu] at h1;rw [aW] at h2;have ⟨d1,g1,_⟩:=uU h1;show (if f2=f then v' else e.E f2).ownBlock≠some (e.B t);by_cases jt:f2=f
  .grind
  .rw [if_neg jt];simp only [jt,if_false] at h2;exact h.bf t d1 f2 o2 g1 h2
 .intro f1 f2 o1 o2 k h1 h2 h3 h4;have h1:aB (ct st.aF f fo) f1=some o1:=h1;have h2:aB (ct st.aF f fo) f2=some o2:=h2;have h3:(if f1=f then v' else e.E f1).ownBlock=some k:=h3;have h4:(if f2=f then v' else e.E f2).ownBlock=some k:=h4;rw [aW] at h1 h2;by_cases TD:f1=f
  .grind
  .rw [if_neg TD] at h3;simp only [TD,if_false] at h1;by_cases DZ:f2=f
   .grind
   .rw [if_neg DZ] at h4;simp only [DZ,if_false] at h2;exact h.ff f1 f2 o1 o2 k h1 h2 h3 h4
theorem xx {I:TI}{x:MV}{v:Value} {K':Slot->Option R}(hv:cG e.key e.φ v x)(hK:uM I x K'=some r): ∃s,af e v s/\Ca s=true/\K' s=some r:=by
 unfold uM at hK;cases eh:I.st with
 |true=>
  simp only [eh,cond_true] at hK;unfold gA at hK;split at hK
  .obtain ⟨arr,rfl,hr⟩:=hv;have ⟨ls,LW,qH⟩:=xv (e:=e) (vs:=arr.toList) hK;exact ⟨.ag ls,⟨arr,rfl,LW.rep hr⟩,LW.ZJ,qH⟩
  .simp at hK
 |false=>
  simp only [eh,cond_false] at hK;split at hK
  .have ⟨l,uR,qH⟩:=nB (e:=e) (vs:=[v]) hK;refine ⟨.sc l,?_,uR.ZJ,qH⟩;have hp:=uR.ZJ;have hm:=uR.mv;cases l<;>simp [uP] at hp<;>simp [bw] at hm
   .subst hm;have h1:=uR.one _ rfl;rename_i m;have:m.one=true/\il e.key e.φ [v] m:=by cases m<;>simp [MV.one] at h1<;>exact ⟨rfl,hv.2⟩
    exact this
   .subst hm;exact hv
  .simp at hK
def QW {ts:List Nat}: ∀{vs:List Value} {ms:List MV} {K':List Slot->Option R},aL e.key e.φ vs ms->zL c ts ms K'=some r-> ∃ss,lz e vs ss/\K' ss=some r:=by
 induction ts with
 |nil=>
  intro vs ms K' h hK;cases ms with
  |nil=>cases h;exact ⟨[],rfl,hK⟩
  |cons m ms=>grind [zL,gN]
 |cons t ts ih=>
  intro vs ms K' h hK;simp only [zL] at hK;cases hI:c.tv t with
  |none=>grind
  |some I=>
   simp only [hI] at hK;cases ms with
   |nil=>grind [gC]
   |cons m ms=>simp only [gC] at hK;obtain ⟨v,u,rfl,h1,h2⟩:=h;have ⟨s,g1,g2,hK⟩:=xx h1 hK;have ⟨ss,g3,hK⟩:=ih h2 hK;exact ⟨s::ss,⟨v,u,rfl,g1,g2,g3⟩,hK⟩
theorem TG {fr:Fr}{s:Slot}(h:Ca s=true):cM fr s:=by cases s<;>simp [Ca] at h<;>trivial
theorem QX {I:TI}{xs:List MV} {K':Slot->Option R}:uM I (.fresh xs) K'=none:=by unfold uM gA;unfold iq;grind [gB,gI,gS,gL,gH,gR]
theorem OQ {ts:List Nat}{xs:List MV}{ms:List MV} {K':List Slot->Option R}:zL c ts (.fresh xs::ms) K'=none:=by
 cases ts with
 |nil=>simp [zL,gN]
 |cons t ts=>grind [zL,gC,QX]
def QY {ts:List Nat}: ∀{vs:List Value} {ms:List MV} {K':List ax->Option R},aL e.key e.φ vs ms->IX c ts ms K'=some r-> ∃ls,ar e vs ls/\gY ls=true/\K' ls=some r:=by
 induction ts with
 |nil=>
  intro vs ms K' h hK;cases ms with
  |nil=>cases h;exact ⟨[],rfl,rfl,hK⟩
  |cons m ms=>grind [IX,gN]
 |cons t ts ih=>
  intro vs ms K' h hK;simp only [IX] at hK;cases hI:c.tv t with
  |none=>grind
  |some I=>
   simp only [hI] at hK;cases ms with
   |nil=>grind [gC]
   |cons m ms=>
    simp only [gC] at hK;obtain ⟨v,u,rfl,h1,h2⟩:=h;have ⟨s,g1,g2,hK⟩:=xx h1 hK;split at hK
    .rename_i x;have ⟨ls,g3,g4,hK⟩:=ih h2 hK;exact ⟨.p x::ls,⟨[v],u,rfl,g1,g3⟩,by simp_all [gY,uP,Bool.true_and],hK⟩
    .cases hK
def rX {I:TI}{x:MV}{v:Value}{k:Nat} {K':Slot->Option R}(hk:e.key=c.key)(hv:fA c Z' e.φ w k v x)(hK:kS c I x K'=some r): ∃s,af e v s/\cM st.fr s/\K' s=some r:=by
 unfold kS at hK;split at hK
 .have VI:cG e.key e.φ v x:=by
   rw [hk];cases x<;>first|exact hv|skip
   .unfold uM gA at hK;unfold iq at hK;grind [gB,gI,gS,gL,gH,gR]
   .unfold uM gA at hK;unfold iq at hK;grind [gB,gI,gS,gL,gH,gR]
  grind [xx,TG]
 .unfold gT at hK;split at hK
  .rename_i vs;have hv: ∃arr,v= .tuple arr/\aL c.key e.φ arr.toList vs:=by
    cases vs with
    |nil=>exact hv
    |cons m ms=>cases m<;>first|exact hv|grind [OQ]
   obtain ⟨arr,rfl,h1⟩:=hv;obtain ⟨ss,h2,hK⟩:=QW (by rw [hk];exact h1) hK;exact ⟨.cT ss,⟨arr,rfl,h2⟩,trivial,hK⟩
  .simp at hK
end
end
end Dn
