import GoSem.Dispatch
import Derived.Orders
import Derived.Calls
import Derived.Laws.AppendOwn
import Derived.Laws.AppendOwnNone
import Derived.Deep.MidRow
import Derived.Laws.Strings
import Derived.Laws.Tables
import Derived.Great.FillDense
import Derived.Maps.AppendAt
import Derived.Great.BuildSlice
/-
  An abstract run of Go functions over values that no one changes: definitions. Conditions: none.
-/
set_option linter.unusedVariables false
set_option linter.unusedSectionVars false
set_option linter.unusedSimpArgs false
open Nat renaming beq→eJ,eq_of_beq_eq_true→sh,le_refl→aas,mul_le_mul_right→aaL,zero_add→aaT,ble→aaZ,le_of_ble_eq_true→aa9,succ_mul→abt,le_mul_of_pos_right→ab8,add_assoc→acm,add_mul→aco,le_trans→acv,add_zero→acx,ble_eq_true_of_le→adI,zero_le→adU,lt_of_lt_of_le→ad9,add_comm→aeA,zero_mul→aeB
open List renaming append_assoc→AI,eq_nil_of_length_eq_zero→AT,getElem?_eq_some_iff→BY,length_append→IS,getElem?_eq_getElem→IT,map_cons→OF,getElem?_append_right→aah,getElem?_append_left→aai,getElem?_map→aa1,mem_cons→aa6,getElem?_take→aa8,take_of_length_le→abu,size_toArray→abv,drop_left'→ab2,take_left→aca,getElem?_eq_none→ace,take_append→acg,length_take→ach,take_left'→acu,getElem?_drop→acE,extract_eq_take_drop→acN,drop_append→adb,length_drop→adg,mem_map→adv,length_eq_one_iff→adw,drop_of_length_le→ady,mem_append→adB,nil_append→adH,mem_iff_getElem→adN,drop_left→adO,all_eq_true→aeJ,getElem_mem→aeK,nodup_cons→aeV,length_set→aeW,map→aeZ,map_nil→afA
open Option.some renaming injEq→IN
open Go.Value renaming ownBlock→No,oneCell'→aaa,cells→aaD,slice→abj,int→aeI
open Go.Builtin renaming append_→aaN,firstCells→ab6,zeroCells→acb,nextslicecap→acp
open Bool renaming and_eq_true→aaR,or_eq_false_iff→abb,not_eq_false'→acz,not_false→aft
open Go.World renaming block_lt_of_cell?→aaS,cell?_of_block→aba,ownsRow_nil→aeH,frozen?→afu,setRow→afK
open Go.Instr renaming sliceBounds→aaX,sliceBound→acf,loadAt→acw,sureAddr→acy,fill→acJ,storeAt→acP,sliceAt→ad6,slice→aeL
open Go renaming sizeOf→aa7,maxLen→adW,part→aeX
open Array renaming length_toList→abk,toList_inj→abr,toList_extract→adP,toList_append→ad2,ext_getElem?→aea,size_append→aeG
open UInt8 renaming ofNat→abM
open Go.Addr renaming add_mid→ab1
open BitVec renaming ofInt→ab9
open Go.Op renaming intCmp→acR,bytesLess→adk,intArith→adK,equal→afN
open ByteArray renaming data_extract→adx
open Go.Oper renaming upon_value→adD,wp→afL
open False renaming elim→aee
open Go.Sem renaming run_bind→aei
open Go.Utf8 renaming decode→afM
namespace Dn
noncomputable section
open Go
structure lp where
 l:List UInt8
 h:l.length=32
theorem lp.ext' {a b:lp}(e:a.l=b.l):a=b:=by cases a;cases b;cases e;rfl
instance:DecidableEq lp:=λa b=>if e:a.l=b.l then .isTrue (lp.ext' e) else .isFalse (λh=>e (by rw [h]))
def lp.zero:lp:=⟨[0,0,0,0,0,0,0,0,0,0,0,0,0,0,0,0,0,0,0,0,0,0,0,0,0,0,0,0,0,0,0,0],rfl⟩
def lp.put (x:lp)(i:Nat)(b:UInt8):lp:=⟨x.l.set i b,by simp [x.h]⟩
inductive MV where
 |b (x:Bool)
 |i (k:IntKind) (n:Int)
 |s (l:List UInt8)
 |h (x:lp)
 |raw (v:Value)
 |list (xs:List MV)
 |agg (cs:List MV)
 |ej (vs:List MV)
 |func (f:Nat) (cap:List MV)
 |rp (cs:List MV)
 |fresh (xs:List MV)
 |cell (m:MV)
 |fZ (r:MV) (outs:List MV)
 |clip (xs:List MV)
instance:Inhabited MV:=⟨.b false⟩
mutual
def MV.w:MV->Nat
 | .h _=>32
 | .agg cs=>MV.wl cs
 |_=>1
def MV.wl:List MV->Nat
 |[]=>0
 |m::r=>m.w+MV.wl r
end
def iG (n:Nat)(l:List MV):Bool:=l.all λm=>eJ m.w n
inductive Kd where
 |b|i (k:IntKind)|s|l|h|raw
structure MS where
 st:Bool
 lay:List Kd
 b:Bool
def MS.it:MS:=⟨true,[],true⟩
def De (s:MS):Bool:=match s.lay with
 |[]=>s.st
 |_=>false
inductive aJ where
 |un
 |p (m:MV)
 |hs (x:lp)
 |nil
 |own (jA:Nat)
 |mp (s:MS) (es:List MV)
def aJ.w:aJ->Nat
 | .hs _=>32
 |_=>1
inductive Slot where
 |skip
 |sc (l:aJ)
 |ag (cs:List aJ)
 |ej (vs:List Slot)
 |box (cs:List aJ)
 |zB (cs:List aJ)
 |ptr (root off:Nat)
 |zC (root:Nat)
 |rp (cs:List aJ) (off:Nat)
 |hp (root off:Nat) (i:Nat)
 |ep (jA:Nat) (i:Nat) (off:Nat) (st:Bool) (cs:List aJ)
abbrev Fr:=List (Nat×Slot)
structure TI where
 st:Bool
 size:Nat
 bytes:Nat
 lay:List Kd
 zero:List aJ
 Ow:List Nat
 TZ:List Nat
 elem:Nat
 dp:List Nat
section
variable {R:Type}
def gB (m:MV)(K:Bool->Option R):Option R:=match m with| .b x=>K x|_=>none
def gI (k:IntKind)(m:MV)(K:Int->Option R):Option R:=match m with| .i k' n=>bif decide (k'=k) then K n else none|_=>none
def gS (m:MV)(K:List UInt8->Option R):Option R:=match m with| .s l=>K l|_=>none
def gL (m:MV)(K:List MV->Option R):Option R:=match m with| .list l=>K l|_=>none
def gH (m:MV)(K:lp->Option R):Option R:=match m with| .h l=>K l|_=>none
def gA (m:MV)(K:List MV->Option R):Option R:=match m with| .agg l=>K l|_=>none
def gT (m:MV)(K:List MV->Option R):Option R:=match m with| .ej l=>K l|_=>none
def gF (m:MV)(K:List MV->Option R):Option R:=match m with| .fresh l=>K l|_=>none
def Da (m:MV)(K:List MV->Option R):Option R:=match m with| .clip l=>K l|_=>none
def QJ (m:MV)(K:Nat->List MV->Option R):Option R:=match m with| .func f c=>K f c|_=>none
def gW (m:MV)(K:MV->List MV->Option R):Option R:=match m with| .fZ r outs=>K r outs|_=>none
def gP (m:MV)(K:List MV->Option R):Option R:=match m with| .rp c=>K c|_=>none
def Z4 (m:MV)(K:Nat->Nat->Option R):Option R:=match m with| .raw (.complex .f64 a b)=>K a b|_=>none
def gR (m:MV)(K:MV->Option R):Option R:=match m with| .raw v=>K (.raw v)| .func f c=>K (.func f c)| .rp c=>K (.rp c)|_=>none
def gC (l:List MV)(K:MV->List MV->Option R):Option R:=match l with|m::r=>K m r|[]=>none
def gN (l:List MV)(K:Option R):Option R:=match l with|[]=>K|_=>none
def bd {α:Type}(x:Option α)(K:α->Option R):Option R:=match x with|some a=>K a|none=>none
def adj (l:List MV)(i:Int):Option MV:=if 0<=i then l[i.toNat]? else none
def idx (l:List MV)(i:Int)(K:MV->Option R):Option R:=match adj l i with|some x=>K x|none=>none
def ca (c:Bool)(K:Option R):Option R:=match c with|true=>K|false=>none
def bl (c:Bool)(x y:Option R):Option R:=match c with|true=>x|false=>y
def T2:List Nat->Nat->(Nat->Option R)->Option R
 |[],_,_=>none
 |[p],e,K=>bif eJ e p then K p else none
 |p::q::r,e,K=>bif eJ e p then K p else T2 (q::r) e K
def lq (k:Kd)(m:MV)(K:aJ->Option R):Option R:=match k with
 | .b=>gB m λx=>K (.p (.b x))
 | .i k=>gI k m λx=>K (.p (.i k x))
 | .s=>gS m λx=>K (.p (.s x))
 | .l=>gL m λx=>K (.p (.list x))
 | .h=>gH m λx=>K (.hs x)
 | .raw=>gR m λm=>K (.p m)
def vc:List Kd->List MV->(List aJ->Option R)->Option R
 |[],l,K=>gN l (K [])
 |k::ks,l,K=>gC l λm r=>lq k m λx=>vc ks r λxs=>K (x::xs)
end
def iter {σ R:Type}(body:σ->Option (Sum σ R)):Nat->σ->Option R
 |0,_=>none
 |n+1,s=>match body s with
  |some (.inl s')=>iter body n s'
  |some (.inr r)=>some r
  |none=>none
open Classical in
def Loop {σ R:Type}(body:σ->Option (Sum σ R))(s:σ):Option R:=if h: ∃r n,iter body n s=some r then some (Classical.choose h) else none
def aw:Fr->Nat->Slot
 |[],_=> .sc .un
 |(k,s)::r,t=>bif eJ k t then s else aw r t
def Kj {R:Type}:Fr->Nat->Slot->(Fr->Option R)->Option R
 |[],t,v,K=>K [(t,v)]
 |(k,s)::r,t,v,K=>bif eJ k t then K ((k,v)::r) else Kj r t v λr=>K ((k,s)::r)
def force {R:Type}(s:Slot)(K:Slot->Option R):Option R:=match s with
 | .skip=>K .skip
 | .sc l=>K (.sc l)
 | .ag cs=>K (.ag cs)
 | .ej vs=>K (.ej vs)
 | .box cs=>K (.box cs)
 | .zB cs=>K (.zB cs)
 | .ptr r o=>K (.ptr r o)
 | .zC r=>K (.zC r)
 | .rp cs o=>K (.rp cs o)
 | .hp r o i=>K (.hp r o i)
 | .ep f i o b cs=>K (.ep f i o b cs)
def bL:List Nat->Nat->Bool
 |[],_=>false
 |k::r,t=>bif eJ k t then true else bL r t
def zu (t:Nat):Bool:=aaZ 1000000 t
def posOf (t:Nat):Nat:=(t-1000000)%1000
def Ox (t:Nat):Nat:=(t-1000000)/1000
def plk:List (Nat×Nat)->Nat->Option Nat
 |[],_=>none
 |(k,x)::r,t=>bif eJ k t then some x else plk r t
def dQ:Slot->Bool
 | .ptr _ _| .hp _ _ _| .ep _ _ _ _ _| .rp _ _| .zC _=>true
 |_=>false
def wM {R:Type}(ds:List Nat):Fr->(Fr->Option R)->Option R
 |[],K=>K []
 |(k,s)::r,K=>bif dQ s||bL ds k then wM ds r K else wM ds r λr=>K ((k,s)::r)
def di:Slot->Bool
 | .box _| .zB _=>true
 |_=>false
def pick {R:Type}(ks:List Nat):Fr->(Fr->Option R)->Option R
 |[],K=>K []
 |(k,s)::r,K=>bif bL ks k&&!dQ s then pick ks r λr=>K ((k,s)::r) else pick ks r K
structure pH where
 ty:Nat
 eX:Bool
 xs:List MV
structure St where
 cJ:List Nat
 cV:List Nat
 fr:Fr
 bn:List (Nat×pH)
def aT:List (Nat×pH)->Nat->Option pH
 |[],_=>none
 |(k,s)::r,t=>bif eJ k t then some s else aT r t
def QT {R:Type}:List (Nat×pH)->Nat->pH->(List (Nat×pH)->Option R)->Option R
 |[],t,v,K=>K [(t,v)]
 |(k,s)::r,t,v,K=>bif eJ k t then K ((k,v)::r) else QT r t v λr=>K ((k,s)::r)
def kB (a b:IntKind):Bool:=decide (a=b)
def kdB:Kd->Kd->Bool
 | .b,.b=>true
 | .i k,.i k'=>kB k k'
 | .s,.s=>true
 | .l,.l=>true
 | .h,.h=>true
 | .raw,.raw=>true
 |_,_=>false
def Df:List Kd->List Kd->Bool
 |[],[]=>true
 |x::xs,y::ys=>kdB x y&&Df xs ys
 |_,_=>false
def msB (s t:MS):Bool:=(s.st==t.st)&&(Df s.lay t.lay&&(s.b==t.b))
def xJ {R:Type}(f:Nat):List aJ->(List aJ->Option R)->Option R
 |[],K=>K []
 |l::r,K=>(match l with
  | .own g=>bif eJ g f then xJ f r λr=>K (.un::r) else xJ f r λr=>K (.own g::r)
  |l=>xJ f r λr=>K (l::r))
def Lb {R:Type}(f:Nat)(s:Slot)(K:Slot->Option R):Option R:=match s with
 | .sc (.own g)=>bif eJ g f then K (.sc .un) else K (.sc (.own g))
 | .ag cs=>xJ f cs λcs=>K (.ag cs)
 | .box cs=>xJ f cs λcs=>K (.box cs)
 | .ep g i o b cs=>bif eJ g f then K (.sc .un) else K (.ep g i o b cs)
 |s=>K s
def kFr {R:Type}(f:Nat):Fr->(Fr->Option R)->Option R
 |[],K=>K []
 |(k,s)::r,K=>Lb f s λs=>kFr f r λr=>K ((k,s)::r)
section
variable {R:Type}
def pI (st:St)(l:aJ)(K:MV->St->Option R):Option R:=match l with
 | .un=>none
 | .p m=>K m st
 | .hs x=>K (.h x) st
 | .nil=>K (.list []) st
 | .mp _ _=>none
 | .own f=>match aT st.bn f with
  |some o=>bif o.eX then K (.list o.xs) st else bif bL st.cV f then none else (match st with|⟨p,q,r,m⟩=>QT m f ⟨o.ty,true,o.xs⟩ λm=>K (.list o.xs) ⟨p,q,r,m⟩)
  |none=>none
def rP (st:St):List aJ->(List MV->St->Option R)->Option R
 |[],K=>K [] st
 |l::r,K=>pI st l λm st=>rP st r λms st=>K (m::ms) st
def nW (st:St)(s:Slot)(K:MV->St->Option R):Option R:=match s with
 | .sc l=>pI st l K
 | .ag cs=>rP st cs λms st=>K (.agg ms) st
 | .rp cs off=>bif eJ off 0 then rP st cs λms st=>K (.rp ms) st else none
 |_=>none
def xK (st:St):List Slot->(List MV->St->Option R)->Option R
 |[],K=>K [] st
 |l::r,K=>nW st l λm st=>xK st r λms st=>K (m::ms) st
end
def zD:List aJ->Nat
 |[]=>0
 |k::r=>k.w+zD r
def cut:List aJ->Nat->Option (List aJ)
 |cs,0=>some cs
 |c::cs,n+1=>bif aaZ c.w (n+1) then cut cs (n+1-c.w) else none
 |_,_=>none
def Oy:List aJ->Nat->Option (List aJ)
 |_,0=>some []
 |c::cs,n+1=>bif aaZ c.w (n+1) then (match Oy cs (n+1-c.w) with|some b=>some (c::b)|none=>none) else none
 |_,_=>none
def part (cs:List aJ)(off n:Nat):Option (List aJ):=match cut cs off with
 |some a=>Oy a n
 |none=>none
def over:List aJ->List aJ->Option (List aJ)
 |[],cs=>some cs
 |v::vs,c::cs=>bif eJ v.w c.w then (match over vs cs with|some r=>some (v::r)|none=>none) else none
 |_,[]=>none
def putAt:List aJ->Nat->List aJ->Option (List aJ)
 |cs,0,vs=>over vs cs
 |c::cs,n+1,vs=>bif aaZ c.w (n+1) then (match putAt cs (n+1-c.w) vs with|some r=>some (c::r)|none=>none) else none
 |_,_,_=>none
def app {α:Type}:List α->List α->Option (List α)
 |[],l=>some l
 |x::r,l=>(match app r l with|some q=>some (x::q)|none=>none)
def Oz:aJ->Bool
 | .un=>true
 | .mp _ _=>true
 |_=>false
def gM:List aJ->Bool
 |[.mp _ _]=>true
 |_=>false
def ER:Slot->Bool
 | .box cs=>!gM cs
 |_=>false
def Ho {R:Type}(ok:Nat->Bool)(r0:Fr):Fr->Fr->(Fr->Option R)->Option R
 |[],fr,K=>K fr
 |(t,s)::r,fr,K=>match s with
  | .ptr root off=>bif ok t&&(!zu root&&(ER (aw r0 root)&&(ER (aw fr root)&&!di (aw fr t)))) then Kj fr t (.ptr root off) λfr=>Ho ok r0 r fr K else Ho ok r0 r fr K
  |_=>Ho ok r0 r fr K
def mH:List aJ->Bool
 |[.mp s _]=>!De s
 |_=>false
def wN:List aJ->Bool
 |[]=>false
 |l::r=>bif Oz l then true else wN r
def kEp {R:Type}(f:Nat):Fr->(Fr->Option R)->Option R
 |[],K=>K []
 |(k,s)::r,K=>(match s with
  | .ep g i o b cs=>bif eJ g f then kEp f r λr=>K ((k,.sc .un)::r) else kEp f r λr=>K ((k,.ep g i o b cs)::r)
  |s=>kEp f r λr=>K ((k,s)::r))
inductive LK where
 |k (x:Kd)
 |own (f:Nat) (ty:Nat) (eX:Bool)
inductive OK where
 |sc (l:LK)
 |ag (ls:List LK)
 |box (ls:List LK)
 |mp (s:MS)
 |pt (root off:Nat)
structure pJ where
 cJ:List Nat
 cV:List Nat
 outs:List (Nat×OK)
 exo:List (Nat×List (Nat×OK))
 eX:List Nat
instance:Inhabited pJ:=⟨⟨[],[],[],[],[]⟩⟩
def V7:List (Nat×List (Nat×OK))->Nat->List (Nat×OK)
 |[],_=>[]
 |(k,l)::r,e=>bif eJ k e then l else V7 r e
def pJ.ex (h:pJ)(e:Nat):List (Nat×OK):=V7 h.exo e
def SS:List (Nat×List (Nat×OK))->List (Nat×OK)
 |[]=>[]
 |(_,l)::r=>l++SS r
def pJ.all (h:pJ):List (Nat×OK):=h.outs++SS h.exo
structure Ctx where
 ti:Nat->Option TI
 key:Nat->Nat
 g:Nat->List MV->Option MV
 iL:Nat->Bool
 fresh:Nat->Bool
 sI:Nat->Nat
 sig:Nat->Option (Nat×List LK)
 par:List (Nat×Nat)
 n:Nat
 bs:List Nat
 fl:List Nat
 fz:Nat->List Nat
 fk:Nat->Option FloatKind
 mt:Nat->Option (Nat×Bool)
 ord:Nat->List Nat
 zb:Nat->pJ
 AL:Nat->pJ
 wH:Nat->pJ
 T3:Nat->Bool
 dyn:List Nat
def Ctx.tv (c:Ctx)(t:Nat):Option TI:=match c.ti t with|some I=>(match I.dp with|[]=>some I|_=>none)|none=>none
def AM:Value->Slot
 | .bool b=> .sc (.p (.b b))
 | .int k n=> .sc (.p (.i k n))
 | .string s=> .sc (.p (.s s.data.toList))
 | .slice none 0 0=> .sc .nil
 | .float k b=> .sc (.p (.raw (.float k b)))
 | .complex k a b=> .sc (.p (.raw (.complex k a b)))
 | .pointer none=> .sc (.p (.raw (.pointer none)))
 | .nilFunc=> .sc (.p (.raw .nilFunc))
 | .nilIface=> .sc (.p (.raw .nilIface))
 |_=> .sc .un
def aM (c:Ctx)(st:St):Operand->Slot
 | .tmp t=>match plk c.par t with
  |some q=>bif zu q&&eJ (posOf q) t then (match aw st.fr q with| .box cs=>bif gM cs then .sc .un else .ptr q (Ox q)|_=> .sc .un) else .sc .un
  |none=>match aw st.fr t with
   | .box cs=>bif zu t then .sc .un else bif mH cs then .zC t else .ptr t 0
   | .zB cs=> .rp cs 0
   |s=>s
 | .const v=>AM v
 | .func f=> .sc (.p (.func (c.key f) []))
 | .global _=> .sc .un
def kq (c:Ctx)(st:St):List Operand->List Slot
 |[]=>[]
 |o::r=>aM c st o::kq c st r
section
variable {R:Type}
def wr (st:St)(d:Nat)(s:Slot)(K:St->Option R):Option R:=bif bL st.cJ d then none else (match st with|⟨p,q,r,m⟩=>force s λs=>Kj r d s λr=>K ⟨p,q,r,m⟩)
def bu (c:Ctx)(st:St)(d:Option Nat)(s:Slot)(K:St->Option R):Option R:=match d with
 |some d=>bif zu d||(aaZ c.n d||di (aw st.fr d)) then none else wr st d s K
 |none=>K st
def kR (st:St)(f:Nat)(o:pH)(K:St->Option R):Option R:=bif bL st.cV f then none else (match st with|⟨p,q,r,m⟩=>kFr f r λr=>QT m f o λm=>K ⟨p,q,r,m⟩)
def lr (I:TI)(cs:List aJ)(off:Nat)(K:Slot->Option R):Option R:=bif I.st then (match part cs off I.size with|some a=>K (.ag a)|none=>none)
 else (match cut cs off with|some (l::_)=>bif eJ l.w I.size then K (.sc l) else none|_=>none)
def ldK (st:St)(I:TI)(a:Slot)(K:Slot->Option R):Option R:=match a with
 | .ptr root off=>match aw st.fr root with
  | .box cs=>bif gM cs then none else lr I cs off K
  |_=>none
 | .rp cs off=>lr I cs off K
 | .ep f _ off _ cs=>(match aT st.bn f with|some _=>lr I cs off K|none=>none)
 | .hp root off i=>bif I.st||!eJ I.size 1 then none else (match aw st.fr root with
  | .box cs=>bif gM cs then none else (match cut cs off with|some (.hs x::_)=>K (.sc (.p (.i .u8 (x.l.getD i 0).toNat)))|_=>none)
  |_=>none)
 |_=>none
def aP:Slot->List aJ
 | .sc l=>[l]
 | .ag cs=>cs
 |_=>[]
def bT:List aJ->Option (List MV)
 |[]=>some []
 |l::r=>match l,bT r with
  | .p m,some q=>some (m::q)
  | .hs x,some q=>some (.h x::q)
  |_,_=>none
def su:List aJ->List MV->Option (List aJ)
 |[],[]=>some []
 | .hs x::r,_::ms=>(match su r ms with|some q=>some (.hs x::q)|none=>none)
 |_::r,m::ms=>(match su r ms with|some q=>some (.p m::q)|none=>none)
 |_,_=>none
def vW (b:Bool)(cs:List MV):Option MV:=match b,cs with
 |false,[m]=>some m
 |true,cs=>some (.agg cs)
 |_,_=>none
def isByte (n:Int):Bool:=decide (n=((abM n.toNat).toNat:Int))
def stK (st:St)(I:TI)(a v:Slot)(K:St->Option R):Option R:=bif wN (aP v)||!eJ (zD (aP v)) I.size then none else
 match a with
 | .ptr root off=>match aw st.fr root with
  | .box cs=>bif gM cs then none else (match putAt cs off (aP v) with|some kh=>wr st root (.box kh) K|none=>none)
  |_=>none
 | .hp root off i=>match aw st.fr root,v with
  | .box cs,.sc (.p n)=>bif gM cs then none else (match cut cs off with
   |some (.hs x::_)=>gI .u8 n λn=>ca (isByte n) (match putAt cs off [.hs (x.put i (abM n.toNat))] with|some kh=>wr st root (.box kh) K|none=>none)
   |_=>none)
  |_,_=>none
 | .ep f i off b cs=>rP st (aP v) λms st=>match aT st.bn f with
  |some o=>bif o.eX then none else
   (match su (aP v) ms with
   |some vs=>(match putAt cs off vs with
    |some kh=>(match bT kh with
     |some ms'=>(match vW b ms' with
      |some x=>bif bL st.cV f then none else
       (match st with|⟨p,q,r,m⟩=>kEp f r λr=>QT m f ⟨o.ty,false,o.xs.set i x⟩ λm=>K ⟨p,q,r,m⟩)
      |none=>none)
     |none=>none)
    |none=>none)
   |none=>none)
  |none=>none
 |_=>none
def MF (I:TI)(x:MV)(K:List aJ->Option R):Option R:=bif I.st then gA x λcs=>vc I.lay cs K
 else match I.lay with
  |[k]=>lq k x λx=>K [x]
  |_=>none
def FO (I:TI)(x:MV)(K:Slot->Option R):Option R:=bif I.st then gA x λcs=>vc I.lay cs λcs=>K (.ag cs)
 else match I.lay with
  |[k]=>lq k x λx=>K (.sc x)
  |_=>none
def Hp (c:Ctx):List Nat->List MV->(List Slot->Option R)->Option R
 |[],l,K=>gN l (K [])
 |t::ts,l,K=>match c.tv t with
  |some I=>gC l λm r=>FO I m λs=>Hp c ts r λss=>K (s::ss)
  |none=>none
def sP (c:Ctx)(I:TI)(x:MV)(K:Slot->Option R):Option R:=match I.dp with
 |[]=>FO I x K
 |ts=>gT x λvs=>Hp c ts vs λss=>K (.ej ss)
def ES:aJ->aJ->Option Bool
 | .p (.b x),.p (.b y)=>some (decide (x=y))
 | .p (.i k x),.p (.i k' y)=>bif decide (k=k') then some (decide (x=y)) else none
 | .p (.s x),.p (.s y)=>some (decide (x=y))
 | .hs x,.hs y=>some (decide (x=y))
 |_,_=>none
def ku:List aJ->List aJ->Option Bool
 |[],[]=>some true
 |[x],[y]=>ES x y
 |x::xs,y::ys=>match ES x y,ku xs ys with
  |some a,some b=>some (a&&b)
  |_,_=>none
 |_,_=>none
def MG (op:BinOp)(x y:List UInt8):Option MV:=match op with
 | .eql=>some (.b (decide (x=y)))
 | .neq=>some (.b (!decide (x=y)))
 | .lss=>some (.b (adk x y))
 | .gtr=>some (.b (!(adk x y||decide (x=y))))
 | .leq=>some (.b (adk x y||decide (x=y)))
 | .geq=>some (.b (!adk x y))
 |_=>none
def QU (k:IntKind)(x y:Int):Int:=k.wrap ((ab9 k.bits x&&&ab9 k.bits y).toNat:Int)
def bOr (k:IntKind)(x y:Int):Int:=k.wrap ((ab9 k.bits x|||ab9 k.bits y).toNat:Int)
def ET (k:IntKind)(x y:Int):Int:=k.wrap ((ab9 k.bits x^^^ab9 k.bits y).toNat:Int)
def SU (op:BinOp)(k:IntKind)(x y:Int):Option MV:=match op with
 | .add=>some (.i k (k.wrap (x+y)))
 | .sub=>some (.i k (k.wrap (x-y)))
 | .mul=>some (.i k (k.wrap (x *y)))
 | .and=>some (.i k (QU k x y))
 | .or=>some (.i k (bOr k x y))
 | .xor=>some (.i k (ET k x y))
 | .eql=>some (.b (decide (x=y)))
 | .neq=>some (.b (!decide (x=y)))
 | .lss=>some (.b (decide (x<y)))
 | .leq=>some (.b (decide (x<=y)))
 | .gtr=>some (.b (decide (y<x)))
 | .geq=>some (.b (decide (y<=x)))
 |_=>none
def oW:Kd->aJ->Bool
 | .b,.p (.b _)=>true
 | .i k,.p (.i k' _)=>decide (k'=k)
 | .s,.p (.s _)=>true
 | .h,.hs _=>true
 |_,_=>false
def ga:List Kd->List aJ->Bool
 |[],[]=>true
 |k::ks,l::ls=>bif oW k l then ga ks ls else false
 |_,_=>false
def nX (st:Bool):Slot->Bool
 | .ag _=>st
 | .sc _=>!st
 |_=>false
def agh (op:BinOp)(a b:Nat):Option Nat:=match op with
 | .add=>FloatKind.f64.format.add a b
 | .sub=>FloatKind.f64.format.sub a b
 | .mul=>FloatKind.f64.format.mul a b
 |_=>none
def adl (oI:Option TI)(op:BinOp)(x y:Slot)(K:Slot->Option R):Option R:=match x,y with
 | .sc (.p (.i k a)),.sc (.p (.i k' b))=>
  (match op with
   | .quo=>bif decide (k=k') then ca (!decide (b=0)) (K (.sc (.p (.i k (k.wrap (a.tdiv b)))))) else none
   | .rem=>bif decide (k=k') then ca (!decide (b=0)) (K (.sc (.p (.i k (a.tmod b))))) else none
   | .shr=>ca (decide (0<=b)) (K (.sc (.p (.i k (a.fdiv (2^min b.toNat k.bits))))))
   | .shl=>ca (decide (0<=b)) (K (.sc (.p (.i k (k.wrap (a *2^min b.toNat k.bits))))))
   |_=>bif decide (k=k') then (match SU op k a b with|some m=>K (.sc (.p m))|none=>none) else none)
 | .sc (.p (.s a)),.sc (.p (.s b))=>(match op with
  | .add=>ca (decide (a.length+b.length<=2^46)) (K (.sc (.p (.s (a++b)))))
  |_=>(match MG op a b with|some m=>K (.sc (.p m))|none=>none))
 | .sc (.p (.raw (.float .f64 a))),.sc (.p (.raw (.float .f64 b)))=>bd (agh op a b) λr=>K (.sc (.p (.raw (.float .f64 r))))
 |x,y=>match oI with
  |some I=>bif ga I.lay (aP x)&&ga I.lay (aP y)&&(nX I.st x&&nX I.st y) then (match op with
   | .eql=>(match ku (aP x) (aP y) with|some b=>K (.sc (.p (.b b)))|none=>none)
   | .neq=>(match ku (aP x) (aP y) with|some b=>K (.sc (.p (.b (!b))))|none=>none)
   |_=>none) else none
  |none=>none
def sliceB (lo hi:Option Slot)(len:Nat)(K:Nat->Nat->Option R):Option R:=match lo,hi with
 |none,none=>K 0 len
 |some (.sc (.p (.i _ l))),none=>ca (decide (0<=l/\l<=(len:Int)/\(len:Int)<=(len:Int))) (K l.toNat (Int.toNat (len:Int)))
 |none,some (.sc (.p (.i _ h)))=>ca (decide (0<=(0:Int)/\(0:Int)<=h/\h<=(len:Int))) (K (Int.toNat 0) h.toNat)
 |some (.sc (.p (.i _ l))),some (.sc (.p (.i _ h)))=>ca (decide (0<=l/\l<=h/\h<=(len:Int))) (K l.toNat h.toNat)
 |_,_=>none
def nr (c:Ctx)(st:St):Option Operand->Option Slot
 |some o=>some (aM c st o)
 |none=>none
def zE:List aJ->Option (List MV)
 |[]=>some []
 |l::r=>match l,zE r with
  | .p m,some q=>some (m::q)
  | .hs x,some q=>some (.h x::q)
  | .nil,some q=>some (.list []::q)
  |_,_=>none
def V8 (d:Nat)(st:St)(I E:TI)(x y:Slot)(K:Slot->St->Option R):Option R:=match x,y with
 | .sc (.p (.i _ n)),.sc (.p (.i _ m))=>bif aaZ 1 E.bytes then ca (decide ((0:Int)<=n/\n=m/\n *E.bytes<=2^46)) (match zE E.zero with
  |some zs=>(match vW E.st zs with
   |some z=>kR st d ⟨I.elem,false,List.replicate n.toNat z⟩ λst=>K (.sc (.own d)) st
   |none=>none)
  |none=>none) else none
 |_,_=>none
def TI.AN (I:TI):Bool:=match I.st,I.lay with|false,[.l]=>true|_,_=>false
def TI.VJ (I:TI):Bool:=match I.st,I.lay with|false,[.s]=>true|_,_=>false
def T4 (E:TI):Bool:=match E.st,E.lay with
 |false,[.i k]=>decide (k= .u8)
 |_,_=>false
def OA (l:List UInt8):List MV:=l.map λb=> .i .u8 (b.toNat:Int)
def QV (c:Ctx)(u:Nat)(E:TI)(x:Slot)(K:List MV->Option R):Option R:=match c.tv u,x with
 |some T,.sc (.p (.s l))=>bif T.VJ&&T4 E then K (OA l) else none
 |_,_=>none
def MH (I E:TI)(st:St)(x:Slot)(K:List MV->Option R):Option R:=match x with
 | .sc (.p (.list xs))=>ca (iG E.size xs) (K xs)
 | .sc .nil=>K []
 | .sc (.own f)=>(match aT st.bn f with|some o=>bif eJ o.ty I.elem then K o.xs else none|none=>none)
 |_=>none
def Cg (c:Ctx)(st:St)(I:TI):List (Nat×Operand)->List aJ->Option (List aJ)
 |[],cs=>some cs
 |(i,o)::r,cs=>match I.Ow[i]?,I.TZ[i]? with
  |some q,some y=>(match c.tv y with
   |some J=>bif wN (aP (aM c st o))||!eJ (zD (aP (aM c st o))) J.size then none else
    (match putAt cs q (aP (aM c st o)) with|some kh=>Cg c st I r kh|none=>none)
   |none=>none)
  |_,_=>none
def Hq (c:Ctx)(st:St):List (Nat×Operand)->lp->(lp->Option R)->Option R
 |[],x,K=>K x
 |(i,o)::r,x,K=>match aM c st o with
  | .sc (.p m)=>bif aaZ 32 i then none else gI .u8 m λn=>ca (isByte n) (Hq c st r (x.put i (abM n.toNat)) K)
  |_=>none
def V9 (c:Ctx)(st:St):List (Nat×Operand)->Nat->(List MV->St->Option R)->Option R
 |[],_,K=>K [] st
 |(i,o)::r,n,K=>bif eJ i n then nW st (aM c st o) λm st=>V9 c st r (n+1) λms st=>K (m::ms) st else none
def Hr (c:Ctx)(st:St):List Operand->(List MV->St->Option R)->Option R
 |[],K=>K [] st
 |o::r,K=>match aM c st o with
  | .ptr root 0=>(match aw st.fr root with
   | .box cs=>bif wN cs||zu root then none else rP st cs λms st=>(match su cs ms with|some kh=>wr st root (.zB kh) λst=>Hr c st r λxs st=>K (.rp ms::xs) st|none=>none)
   |_=>none)
  | .rp cs 0=>rP st cs λms st=>Hr c st r λxs st=>K (.rp ms::xs) st
  |_=>none
def Hs (c:Ctx)(k:Nat)(st:St)(s:Slot)(K:MV->St->Option R):Option R:=match s with
 | .sc (.own f)=>(match aT st.bn f with
  |some o=>bif o.eX||!eJ o.ty (c.sI k) then none else kR st f ⟨o.ty,true,[]⟩ λst=>K (.fresh o.xs) st
  |none=>none)
 | .sc .nil=>(match c.tv (c.sI k) with|some _=>K (.fresh []) st|none=>none)
 |_=>none
def SV (c:Ctx)(k:Nat)(st:St)(ss:List Slot)(K:List MV->St->Option R):Option R:=bif c.iL k then (match ss with
  |[s0,s1,s2]=>(match s2 with
   | .sc (.p m2)=>nW st s1 λm1 st=>Hs c k st s0 λm0 st=>K [m0,m1,m2] st
   |s2=>nW st s1 λm1 st=>Hs c k st s0 λm0 st=>Hs c k st s2 λm2 st=>K [m0,m1,m2] st)
  |_=>none)
 else xK st ss K
def agi (x y:Int):Int:=if y<x then y else x
def imax (x y:Int):Int:=if y>x then y else x
def Wa (mx:Bool)(k:IntKind):Int->List Slot->Option MV
 |x,[]=>some (.i k x)
 |x,.sc (.p (.i k' y))::r=>bif decide (k'=k) then Wa mx k (bif mx then imax x y else agi x y) r else none
 |_,_=>none
def QW (mx:Bool):List Slot->Option MV
 | .sc (.p (.i k n))::r=>Wa mx k n r
 |_=>none
def Wb (c:Ctx)(d:Nat)(st:St)(f:Nat)(ms:List MV)(I:TI)(K:Slot->St->Option R):Option R:=bd (c.g f ms) λr=>bif c.fresh f then bif eJ (c.sI f) 0 then Da r λxs=>K (.sc (.p (.clip xs))) st else gF r λxs=>bif !eJ I.elem (c.sI f) then none else kR st d ⟨I.elem,false,xs⟩ λst=>(bif bL c.bs d then pI st (.own d) λm st=>K (.sc (.p m)) st else K (.sc (.own d)) st) else sP c I r λs=>K s st
def adm (s:Slot)(K:Slot->Option R):Option R:=match s with
 | .ptr r o=>K (.ptr r o)
 | .rp cs o=>K (.rp cs o)
 |_=>none
def Wc (x y z:Slot)(K:Slot->Option R):Option R:=match x with
 | .sc (.p (.b v))=>(match y,z with
  | .sc (.p (.b p)),.sc (.p (.b q))=>K (.sc (.p (.b (bif v then p else q))))
  |p,q=>match v with|true=>K p|false=>K q)
 |_=>none
def adn (I:TI)(s:Slot)(K:Slot->Option R):Option R:=match s with
 | .sc l=>bif I.st||Oz l||!eJ l.w I.size then none else K (.box [l])
 | .ag cs=>bif I.st&&!wN cs&&eJ (zD cs) I.size then K (.box cs) else none
 |_=>none
def unK (op:UnOp)(s:Slot)(K:Slot->Option R):Option R:=match op,s with
 | .not,.sc (.p (.b v))=>K (.sc (.p (.b (!v))))
 | .neg,.sc (.p (.i k n))=>K (.sc (.p (.i k (k.wrap (0-n)))))
 |_,_=>none
def Wd (I:TI)(fk:Option FloatKind)(s:Slot)(K:Slot->Option R):Option R:=match I.st,I.dp,I.lay,s with
 |false,[],[.i k],.sc (.p (.i _ n))=>K (.sc (.p (.i k (k.wrap n))))
 |false,[],[.s],.sc (.p (.s l))=>K (.sc (.p (.s l)))
 |false,[],[.i k],.sc (.p (.raw (.float .f64 a)))=>bd ((FloatKind.decode .f64 a).toInt .zero) λn=>ca (decide (k.min<=n/\n<=k.max)) (K (.sc (.p (.i k n))))
 |false,[],[.raw],.sc (.p (.i _ n))=>(match fk with
  |some .f64=>K (.sc (.p (.raw (.float .f64 (FloatKind.nearest .f64 n)))))
  |_=>none)
 |_,_,_,_=>none
def QX (c:Ctx)(I:TI)(st:St)(s:Slot)(lo hi:Option Slot)(K:Slot->St->Option R):Option R:=match s with
 | .sc (.p (.s l))=>bif I.VJ then sliceB lo hi l.length λa b=>K (.sc (.p (.s ((l.take b).drop a)))) st else none
 | .sc (.p (.list l))=>bif I.AN then (match c.tv I.elem with
  |some E=>(match lo with
   |none=>sliceB none hi l.length λa b=>K (.sc (.p (.list ((l.take b).drop a)))) st
   |some lo=>ca (iG E.size l) (sliceB (some lo) hi l.length λa b=>K (.sc (.p (.list ((l.take b).drop a)))) st))
  |none=>none) else none
 | .sc (.own f)=>(match aT st.bn f with
  |some o=>bif I.AN&&eJ o.ty I.elem then pI st (.own f) λ_ st=>sliceB lo hi o.xs.length λa b=>K (.sc (.p (.list ((o.xs.take b).drop a)))) st else none
  |none=>none)
 | .sc .nil=>bif I.AN then sliceB lo hi 0 λ_ _=>K (.sc .nil) st else none
 |_=>none
def We (I:TI)(s h m:Slot)(K:Slot->Option R):Option R:=match s,h,m with
 | .sc (.p (.list l)),.sc (.p (.i .i64 n)),.sc (.p (.i .i64 n'))=>bif I.AN then ca (decide (n=(l.length:Int)/\n'=(l.length:Int))) (K (.sc (.p (.clip l)))) else none
 |_,_,_=>none
def Wf (st:St)(I:TI)(f:Nat)(s:Slot)(K:Slot->Option R):Option R:=match I.st,I.Ow[f]?,s with
 |true,some q,.ptr r o=>K (.ptr r (o+q))
 |true,some q,.rp cs o=>K (.rp cs (o+q))
 |true,some q,.ep g i o b cs=>(match aT st.bn g with|some _=>K (.ep g i (o+q) b cs)|none=>none)
 |_,_,_=>none
def ado (c:Ctx)(I:TI)(f:Nat)(s:Slot)(K:Slot->Option R):Option R:=match I.st,I.Ow[f]?,I.TZ[f]?,s with
 |true,some q,some y,.ag cs=>(match c.tv y with|some J=>lr J cs q K|none=>none)
 |_,_,_,_=>none
def adp (c:Ctx)(st:St)(I E:TI)(x i:Slot)(K:Slot->Option R):Option R:=match x,i with
 | .sc (.p (.list xs)),.sc (.p (.i _ n))=>bif I.AN then idx xs n λx=>MF E x λcs=>K (.rp cs 0) else none
 | .sc (.own f),.sc (.p (.i _ n))=>(match aT st.bn f with
  |some o=>bif I.AN then idx o.xs n λx=>MF E x λcs=>K (.ep f n.toNat 0 E.st cs) else none
  |none=>none)
 | .ptr r o,.sc (.p (.i _ n))=>bif I.st then none else (match I.lay with|[.h]=>ca (decide ((0:Int)<=n/\n<32)) (K (.hp r o n.toNat))|_=>none)
 |_,_=>none
def ixK (I:TI)(x i:Slot)(K:Slot->Option R):Option R:=match I.st,I.lay,x,i with
 |false,[.s],.sc (.p (.s l)),.sc (.p (.i _ n))=>ca (decide ((0:Int)<=n/\n<(l.length:Int))) (K (.sc (.p (.i .u8 (l.getD n.toNat 0).toNat))))
 |false,[.h],.sc (.hs x),.sc (.p (.i _ n))=>ca (decide ((0:Int)<=n/\n<32)) (K (.sc (.p (.i .u8 (x.l.getD n.toNat 0).toNat))))
 |_,_,_,_=>none
def adq (s:Slot)(k:Nat)(K:Slot->Option R):Option R:=match s with
 | .ej vs=>(match vs[k]? with|some s=>K s|none=>none)
 |_=>none
def Wg (I:TI)(st:St)(ss:List Slot)(K:Slot->Option R):Option R:=match ss with
 |[.sc (.p (.s l))]=>bif I.VJ then K (.sc (.p (.i .i64 l.length))) else none
 |[.sc (.p (.list l))]=>bif I.AN then K (.sc (.p (.i .i64 l.length))) else none
 |[.sc .nil]=>bif I.AN then K (.sc (.p (.i .i64 0))) else none
 |[.sc (.own f)]=>bif I.AN then (match aT st.bn f with|some o=>K (.sc (.p (.i .i64 o.xs.length)))|none=>none) else none
 |_=>none
def T5 (pb:Bool)(d:Nat)(st:St)(I E:TI)(s:Slot)(ys:List MV)(K:Slot->St->Option R):Option R:=bif aaZ 1 E.bytes then (match s with
 | .sc .nil=>ca (decide (ys.length *E.bytes<=2^46)) (kR st d ⟨I.elem,false,ys⟩ λst=>K (.sc (.own d)) st)
 | .sc (.own f)=>(match aT st.bn f with
  |some w=>ca (decide ((w.xs.length+ys.length) *E.bytes<=2^46)) (bif eJ w.ty I.elem then kR st f ⟨w.ty,w.eX,w.xs++ys⟩ λst=>K (.sc (.own f)) st else none)
  |none=>none)
 | .sc (.p (.clip xs))=>ca (iG E.size xs) (ca (decide (0<ys.length/\(xs.length+ys.length) *E.bytes<=2^46)) (kR st d ⟨I.elem,false,xs++ys⟩ λst=>bif pb then pI st (.own d) λm st=>K (.sc (.p m)) st else K (.sc (.own d)) st))
 |_=>none) else none
def MI (c:Ctx)(st:St)(I:TI)(f:Slot)(ss:List Slot)(K:Slot->St->Option R):Option R:=match f with
 | .sc (.p m)=>QJ m λf dm=>ca (!c.iL f)<|xK st ss λms st=>bd (c.g f (ms++dm)) λr=>sP c I r λs=>K s st
 |_=>none
def EU:MV->MV->Bool
 | .b x,.b y=>decide (x=y)
 | .i k x,.i k' y=>decide (k=k')&&decide (x=y)
 | .s x,.s y=>decide (x=y)
 | .h x,.h y=>decide (x=y)
 |_,_=>false
def eO:List MV->List MV->Bool
 |[],[]=>true
 |x::xs,y::ys=>EU x y&&eO xs ys
 |_,_=>false
def kv:MV->List MV
 | .ej (.agg k::_)=>k
 |_=>[]
def Z5:MV->MV
 | .ej [_,v]=>v
 |_=> .b false
def cI:List MV->List MV->Nat
 |[],_=>0
 |e::r,ks=>bif eO (kv e) ks then 0 else cI r ks+1
def asI:MV->Int
 | .i _ n=>n
 |_=>0
def asB:MV->Bool
 | .b x=>x
 |_=>false
def n8 (es:List MV)(ks:List MV):Int:=match es[cI es ks]? with|some e=>asI (Z5 e)|none=>0
def ab3 (es:List MV)(ks:List MV):Bool:=match es[cI es ks]? with|some e=>asB (Z5 e)|none=>false
def nY (es ks:List MV)(z:MV):List MV:=bif eJ (cI es ks) es.length then es++[.ej [.agg ks,z]] else es
def tM (es:List MV)(i:Nat)(v:MV):List MV:=match es[i]? with|some e=>es.set i (.ej [.agg (kv e),v])|none=>es
def kc (b:Bool):MV:=bif b then .b false else .i .i64 0
def vX (c:Ctx)(t:Nat):Option MS:=match c.mt t with
 |some (kt,b)=>(match c.tv kt with|some I=>bif De ⟨I.st,I.lay,b⟩ then none else some ⟨I.st,I.lay,b⟩|none=>none)
 |none=>none
def OB (s:MS)(k:Slot)(K:List MV->Option R):Option R:=bif ga s.lay (aP k)&&nX s.st k then (match bT (aP k) with|some ks=>K ks|none=>none) else none
def Kk (st:St)(s:MS)(m:Slot)(K:Nat->List MV->Option R):Option R:=match m with
 | .zC r=>(match aw st.fr r with| .box [.mp s' es]=>bif msB s s'&&!De s' then K r es else none|_=>none)
 |_=>none
def T6 (b:Bool)(s:Slot)(K:MV->Option R):Option R:=match b,s with
 |true,.sc (.p (.b x))=>K (.b x)
 |false,.sc (.p (.i .i64 n))=>K (.i .i64 n)
 |_,_=>none
def FP (st:St)(r:Nat)(s:MS)(es:List MV)(K:St->Option R):Option R:=wr st r (.box [.mp s es]) K
def isLT (c:Ctx)(y:Nat):Bool:=match c.tv y with|some Y=>Y.AN|none=>false
def nt (c:Ctx)(o:Oper):Bool:=match o.op with
 | .assign (.tmp _)=>(match c.mt o.type with|some _=>true|none=>false)
 |_=>false
def Hd (c:Ctx)(o:Oper)(st:St)(x:Operand)(K:Slot->St->Option R):Option R:=match x,c.mt o.type with
 | .tmp t,some _=>(match aw st.fr t with
  | .box cs=>bif gM cs then bif bL st.cJ t||zu t then none else (match st with|⟨p,q,r,m⟩=>wM [t] r λr=>K (.box cs) ⟨p,q,r,m⟩) else K (aM c st x) st
  |_=>K (aM c st x) st)
 |_,_=>K (aM c st x) st
def EV (s:MS)(es ks:List MV):Slot:=bif s.b then .sc (.p (.b (ab3 es ks))) else .sc (.p (.i .i64 (n8 es ks)))
def ab4 (c:Ctx)(st:St)(t:Nat)(m k:Slot)(K:Slot->Option R):Option R:=match vX c t with
 |some s=>Kk st s m λ_ es=>OB s k λks=>K (EV s es ks)
 |none=>none
def ab5 (c:Ctx)(st:St)(t:Nat)(m k v:Slot)(K:St->Option R):Option R:=match vX c t with
 |some s=>Kk st s m λr es=>OB s k λks=>T6 s.b v λv=>FP st r s (tM (nY es ks (kc s.b)) (cI es ks) v) K
 |none=>none
def Wh (c:Ctx)(st:St)(t:Nat)(m k:Slot)(K:Slot->St->Option R):Option R:=match vX c t with
 |some s=>Kk st s m λr es=>OB s k λks=>FP st r s (nY es ks (kc s.b)) λst=>K (.ej [EV s es ks,.sc (.p (.i .i64 (cI es ks)))]) st
 |none=>none
def agj (c:Ctx)(st:St)(t:Nat)(m i v:Slot)(K:St->Option R):Option R:=match vX c t with
 |some s=>Kk st s m λr es=>(match i with
  | .sc (.p (.i .i64 n))=>ca (decide (0<=n/\n.toNat<es.length)) (T6 s.b v λv=>FP st r s (tM es n.toNat v) K)
  |_=>none)
 |none=>none
def itS (es:List MV):List UInt8:=match es with|[.s l,.i .i64 _]=>l|_=>[]
def BH (es:List MV):Int:=match es with|[.s _,.i .i64 n]=>n|_=>0
def Z6 (es:List MV):Bool:=decide (BH es<((itS es).length:Int))
def QY (es:List MV):Int:=(afM ⟨(itS es).toArray⟩ (BH es).toNat).1
def QZ (es:List MV):List MV:=[.s (itS es),.i .i64 (BH es+(afM ⟨(itS es).toArray⟩ (BH es).toNat).2)]
def itK (st:St)(x:Slot)(K:Slot->St->Option R):Option R:=match x with
 | .ptr t 0=>(match aw st.fr t with
  | .box [.mp s es]=>bif De s then
   bl (Z6 es) (wr st t (.box [.mp s (QZ es)]) λst=>K (.ej [.sc (.p (.b true)),.sc (.p (.i .i64 (BH es))),.sc (.p (.i .i32 (QY es)))]) st) (K (.ej [.sc (.p (.b false))]) st)
   else none
  |_=>none)
 |_=>none
def byK (m:MV)(K:UInt8->Option R):Option R:=gI .u8 m λn=>ca (isByte n) (K (abM n.toNat))
def MJ:List MV->(List UInt8->Option R)->Option R
 |[],K=>K []
 |m::r,K=>byK m λb=>MJ r λl=>K (b::l)
def Q0 (I:TI)(x:Slot)(K:Slot->Option R):Option R:=match x with
 | .sc (.p (.s l))=>bif I.VJ then K (.box [.mp MS.it [.s l,.i .i64 0]]) else none
 |_=>none
def Wi (c:Ctx)(st:St)(Y I:TI)(x:Slot)(K:Slot->Option R):Option R:=match c.tv Y.elem with
 |some E=>bif I.VJ&&T4 E then (match x with
  | .sc (.p (.list xs))=>MJ xs λl=>K (.sc (.p (.s l)))
  | .sc .nil=>K (.sc (.p (.s [])))
  | .sc (.own f)=>(match aT st.bn f with
   |some o=>bif eJ o.ty Y.elem then MJ o.xs λl=>K (.sc (.p (.s l))) else none
   |none=>none)
  |_=>none) else none
 |none=>none
def still (c:Ctx)(o:Oper):Bool:=match o.op,o.dst with
 | .load _ _,some d=>bL c.fl d
 |_,_=>false
def cE:List LK->List Nat
 |[]=>[]
 | .own f _ _::r=>f::cE r
 |_::r=>cE r
def meets:List Nat->List Nat->Bool
 |[],_=>false
 |k::r,l=>bif bL l k then true else meets r l
def ke (c:Ctx):List LK->Bool
 |[]=>true
 | .own _ ty _::r=>(match c.tv ty with|some _=>ke c r|none=>false)
 |_::r=>ke c r
def nZ (ps:List (Nat×Nat))(f g:Nat):Bool:=match ps with
 |[]=>true
 |(a,b)::r=>(bif eJ a f then eJ b g&&!eJ g 0 else (bif eJ b g then eJ g 0 else true))&&nZ r f g
def MK (st:St)(ps:List (Nat×Nat))(k:LK)(l:aJ)(K:MV->List (Nat×Nat)->Option R):Option R:=match k,l with
 | .k .l,.nil=>K (.list []) ps
 | .k .h,.hs x=>K (.h x) ps
 | .k x,.p m=>lq x m λ_=>K m ps
 | .own f ty eX,.own g=>match aT st.bn g with
  |some o=>bif !eJ o.ty ty||(o.eX&&!eX)||bL st.cV g||!nZ ps f (g+1) then none else K (.list o.xs) ((f,g+1)::ps)
  |none=>none
 | .own f _ _,.nil=>bif nZ ps f 0 then K (.list []) ((f,0)::ps) else none
 |_,_=>none
def mf (st:St):List (Nat×Nat)->List LK->List aJ->(List MV->List (Nat×Nat)->Option R)->Option R
 |ps,[],[],K=>K [] ps
 |ps,k::ks,l::ls,K=>MK st ps k l λm ps=>mf st ps ks ls λms ps=>K (m::ms) ps
 |_,_,_,_=>none
def mI (st:St)(k:LK)(m:MV)(K:aJ->St->Option R):Option R:=match k with
 | .k x=>lq x m λl=>K l st
 | .own f ty eX=>gL m λxs=>(match st with|⟨p,q,r,n⟩=>QT n f ⟨ty,eX,xs⟩ λn=>K (.own f) ⟨p,q,r,n⟩)
def dq (st:St):List LK->List MV->(List aJ->List MV->St->Option R)->Option R
 |[],ms,K=>K [] ms st
 |k::ks,ms,K=>gC ms λm r=>mI st k m λl st=>dq st ks r λls ms st=>K (l::ls) ms st
def OC (gs:List Nat):List (Nat×pH)->(List (Nat×pH)->Option R)->Option R
 |[],K=>K []
 |(k,o)::r,K=>bif bL gs k then OC gs r K else OC gs r λr=>K ((k,o)::r)
def Z7:List Nat->Fr->(Fr->Option R)->Option R
 |[],r,K=>K r
 |f::fs,r,K=>kFr f r λr=>Z7 fs r K
def lT:List (Nat×Nat)->List Nat
 |[]=>[]
 |(_,0)::r=>lT r
 |(_,g+1)::r=>g::lT r
def OD:List Nat->List (Nat×pH)->Bool
 |[],_=>false
 |f::r,m=>(match aT m f with|some _=>true|none=>OD r m)
def Wj (st:St)(root:Nat)(ks:List LK)(ps:List (Nat×Nat))(outs:List MV)(K:St->Option R):Option R:=dq ⟨[],[],[],[]⟩ ks outs λcs rest Ht=>gN rest<|OC (lT ps) st.bn λm=>
  bif OD (cE ks) m||meets (cE ks) st.cV then none else
   Z7 (cE ks) st.fr λr=>Kj r root (.box cs) λr=>(match app Ht.bn m with|some m=>K ⟨st.cJ,st.cV,r,m⟩|none=>none)
def SW (c:Ctx)(gv:Bool)(g:List MV->Option MV)(pos:Nat)(ks:List LK)(st:St)(ss:List Slot)(I:Option TI)(K:Slot->St->Option R):Option R:=match ss[pos]? with
 |some (.ptr root off)=>xK st (ss.take pos) λm1 st=>xK st (ss.drop (pos+1)) λm2 st=>
  (match aw st.fr root with
  | .box cs=>bif gM cs||bL st.cJ root||!ke c ks||!gv then none else mf st [] ks cs λls ps=>
   (match app m1 (.cell (.func off ls)::m2) with
   |some ms=>bd (g ms) λx=>gW x λr outs=>Wj st root ks ps outs λst=>(match I with
    |some I=>sP c I r λs=>K s st
    |none=>K (.sc .un) st)
   |none=>none)
  |_=>none)
 |_=>none
def ab7 (c:Ctx)(key pos:Nat)(ks:List LK)(st:St)(ss:List Slot)(I:Option TI)(K:Slot->St->Option R):Option R:=SW c (c.iL key) (c.g key) pos ks st ss I K
def Wk:List LK->List LK->Bool
 |[],[]=>true
 | .k k1::r,.k k2::q=>kdB k1 k2&&Wk r q
 | .own f t z::r,.own f' t' z'::q=>eJ f f'&&(eJ t t'&&(z==z'&&Wk r q))
 |_,_=>false
def OE (c:Ctx)(pos:Nat)(ks:List LK):List Nat->Bool
 |[]=>true
 |k::r=>(match c.sig k with|some sg=>eJ sg.1 pos&&Wk sg.2 ks|none=>false)&&(c.iL k&&OE c pos ks r)
def Wl (c:Ctx)(T7:List Nat)(st:St)(f:Slot)(ss:List Slot)(I:Option TI)(K:Slot->St->Option R):Option R:=match f,T7 with
 | .sc (.p m),k0::_=>(match c.sig k0 with
  |some sg=>bif OE c sg.1 sg.2 T7 then QJ m λk dm=>gN dm<|SW c true (λms=>T2 T7 k λk=>c.g k ms) sg.1 sg.2 st ss I K else none
  |none=>none)
 |_,_=>none
def opK (c:Ctx)(o:Oper)(st:St)(K:Slot->St->Option R):Option R:=match o.op with
 | .move x=>K (aM c st x) st
 | .assign x=>Hd c o st x K
 | .makeMap t none=>(match vX c t with|some s=>K (.box [.mp s []]) st|none=>none)
 | .lookup t m k false=>ab4 c st t (aM c st m) (aM c st k) λs=>K s st
 | .mapUpdate t m k v=>ab5 c st t (aM c st m) (aM c st k) (aM c st v) λst=>K (.sc .un) st
 | .mapEntry t m k=>Wh c st t (aM c st m) (aM c st k) K
 | .entryStore t m i v=>agj c st t (aM c st m) (aM c st i) (aM c st v) λst=>K (.sc .un) st
 | .nilCheck x=>adm (aM c st x) λs=>K s st
 | .pick x a b=>Wc (aM c st x) (aM c st a) (aM c st b) λs=>K s st
 | .alloc t=>(match c.tv t with|some I=>K (.box I.zero) st|none=>none)
 | .box t x=>(match c.tv t with|some I=>adn I (aM c st x) λs=>K s st|none=>none)
 | .build t parts=>(match c.tv t with
  |some I=>bif I.st then (match Cg c st I parts.toList I.zero with|some cs=>K (.ag cs) st|none=>none)
   else (match I.lay with|[.h]=>Hq c st parts.toList lp.zero λx=>K (.sc (.hs x)) st|_=>none)
  |none=>none)
 | .buildSlice t n parts=>(match c.tv t with
  |some I=>bif I.AN then (match c.tv I.elem with
   |some E=>bif aaZ (n *E.size) 16777216 then V9 c st parts.toList 0 λms st=>bif eJ ms.length n then ca (iG E.size ms) (bif bL c.bs (o.dst.getD 0) then K (.sc (.p (.list ms))) st else kR st (o.dst.getD 0) ⟨I.elem,false,ms⟩ λst=>K (.sc (.own (o.dst.getD 0))) st) else none else none
   |none=>none) else none
  |none=>none)
 | .makeSlice t x y=>(match c.tv t with
  |some I=>bif I.AN then (match c.tv I.elem with|some E=>V8 (o.dst.getD 0) st I E (aM c st x) (aM c st y) K|none=>none) else none
  |none=>none)
 | .load t a=>(match c.tv t with
  |some I=>bif still c o then (match aM c st a with| .rp cs off=>lr I cs off λs=>K s st|_=>none) else ldK st I (aM c st a) λs=>K s st
  |none=>none)
 | .store t a v=>(match c.tv t with|some I=>stK st I (aM c st a) (aM c st v) λst=>K (.sc .un) st|none=>none)
 | .binOp op t x y _=>adl (c.tv t) op (aM c st x) (aM c st y) λs=>K s st
 | .unOp op _ x=>unK op (aM c st x) λs=>K s st
 | .convert y t x=>bif isLT c y then (match c.tv y,c.tv t with|some Y,some I=>Wi c st Y I (aM c st x) λs=>K s st|_,_=>none)
  else (match c.ti y,c.tv t with|some _,some I=>Wd I (c.fk t) (aM c st x) λs=>K s st|_,_=>none)
 | .range t x=>(match c.tv t with|some I=>Q0 I (aM c st x) λs=>K s st|none=>none)
 | .next x true=>itK st (aM c st x) K
 | .makeFunc (.func f) first dm=>(match first.toList with
  |[]=>Hr c st dm.toList λms st=>K (.sc (.p (.func (c.key f) ms))) st
  |_=>none)
 | .slice t x lo hi none=>(match c.tv t with|some I=>QX c I st (aM c st x) (nr c st lo) (nr c st hi) K|none=>none)
 | .slice t x none (some h) (some m)=>(match c.tv t with|some I=>We I (aM c st x) (aM c st h) (aM c st m) λs=>K s st|none=>none)
 | .fieldAddr t x f=>(match c.tv t with|some I=>Wf st I f (aM c st x) λs=>K s st|none=>none)
 | .field t x f=>(match c.tv t with|some I=>ado c I f (aM c st x) λs=>K s st|none=>none)
 | .indexAddr t x i=>(match c.tv t with
  |some I=>(match c.tv I.elem with|some E=>adp c st I E (aM c st x) (aM c st i) λs=>K s st|none=>none)
  |none=>none)
 | .index t x i=>(match c.tv t with|some I=>ixK I (aM c st x) (aM c st i) λs=>K s st|none=>none)
 | .extract x k=>adq (aM c st x) k λs=>K s st
 | .call cl=>(match cl.callee with
  | .value (.func f)=>(match c.sig (c.key f) with
   |some sg=>ab7 c (c.key f) sg.1 sg.2 st (kq c st cl.args.toList) (c.ti o.type) K
   |none=>match c.ti o.type with
   |some I=>SV c (c.key f) st (kq c st cl.args.toList) λms st=>Wb c (o.dst.getD 0) st (c.key f) ms I K
   |none=>none)
  | .value x=>(match c.dyn with
   |_::_=>Wl c c.dyn st (aM c st x) (kq c st cl.args.toList) (c.ti o.type) K
   |[]=>match c.ti o.type with
   |some I=>MI c st I (aM c st x) (kq c st cl.args.toList) K
   |none=>none)
  | .builtin .len=>(match cl.argTypes.toList with
   |[t]=>(match c.tv t with|some I=>Wg I st (kq c st cl.args.toList) λs=>K s st|none=>none)
   |_=>none)
  | .builtin .append=>(match kq c st cl.args.toList,cl.argTypes.toList with
   |[s,x],[t,t']=>(match c.tv t with
    |some I=>bif I.AN then (match c.tv I.elem with
     |some E=>bif eJ t t' then MH I E st x λys=>T5 (bL c.bs (o.dst.getD 0)) (o.dst.getD 0) st I E s ys K else QV c t' E x λys=>T5 (bL c.bs (o.dst.getD 0)) (o.dst.getD 0) st I E s ys K
     |none=>none) else none
    |none=>none)
   |_,_=>none)
  | .builtin .real=>(match kq c st cl.args.toList with|[.sc (.p m)]=>Z4 m λx _=>K (.sc (.p (.raw (.float .f64 x)))) st|_=>none)
  | .builtin .imag=>(match kq c st cl.args.toList with|[.sc (.p m)]=>Z4 m λ_ y=>K (.sc (.p (.raw (.float .f64 y)))) st|_=>none)
  | .builtin .complex=>(match kq c st cl.args.toList with|[.sc (.p (.raw (.float .f64 x))),.sc (.p (.raw (.float .f64 y)))]=>K (.sc (.p (.raw (.complex .f64 x y)))) st|_=>none)
  | .builtin .min=>(match QW false (kq c st cl.args.toList) with|some m=>K (.sc (.p m)) st|none=>none)
  | .builtin .max=>(match QW true (kq c st cl.args.toList) with|some m=>K (.sc (.p m)) st|none=>none)
  |_=>none)
 |_=>none
def Q1 (all:List Oper)(o:Oper)(st:St)(K:Bool->St->Option R):Option R:=match o.guard with
 |none=>K true st
 |some (j,want)=>match all[j]? with
  |some p=>(match p.dst with
   |some t=>(match aw st.fr t with
    | .sc (.p (.b v))=>(match v with
     |true=>(match st with|⟨p,q,r,m⟩=>Kj r t (.sc (.p (.b true))) λr=>K want ⟨p,q,r,m⟩)
     |false=>(match st with|⟨p,q,r,m⟩=>Kj r t (.sc (.p (.b false))) λr=>K (!want) ⟨p,q,r,m⟩))
    | .skip=>K false st
    |_=>none)
   |none=>none)
  |none=>none
def SX (c:Ctx)(all:List Oper)(o:Oper)(st:St)(K:St->Option R):Option R:=Q1 all o st λgo st=>
  bif go then opK c o st λs st=>bu c st o.dst s K
  else bu c st o.dst .skip K
def Ch (c:Ctx)(all:List Oper):List Oper->St->(St->Option R)->Option R
 |[],st,K=>K st
 |o::r,st,K=>SX c all o st λst=>Ch c all r st K
end
section
variable {R:Type}
def mJ (st:St):List (Nat×Nat)->List (Nat×OK)->(List MV->Option R)->Option R
 |_,[],K=>K []
 |ps,(t,k)::r,K=>match k,aw st.fr t with
  | .sc k,.sc l=>mf st ps [k] [l] λms ps=>mJ st ps r λns=>(match app ms ns with|some l=>K l|none=>none)
  | .ag ks,.ag ls=>mf st ps ks ls λms ps=>mJ st ps r λns=>(match app ms ns with|some l=>K l|none=>none)
  | .box ks,.box ls=>mf st ps ks ls λms ps=>mJ st ps r λns=>(match app ms ns with|some l=>K l|none=>none)
  | .mp s,.box [.mp s' es]=>bif msB s s' then mJ st ps r λns=>K (.list es::ns) else none
  | .pt root off,.ptr Wm Wn=>bif eJ root Wm&&(eJ off Wn&&(!zu root&&ER (aw st.fr root))) then mJ st ps r K else none
  |_,_=>none
def OG (st:St)(t:Nat)(s:Slot)(K:St->Option R):Option R:=match st with|⟨p,q,r,m⟩=>Kj r t s λr=>K ⟨p,q,r,m⟩
def Wo:List (Nat×OK)->List MV->St->(St->Option R)->Option R
 |[],ms,st,K=>gN ms (K st)
 |(t,k)::r,ms,st,K=>match k,st with
  | .pt root off,⟨p,q,fr,m⟩=>bif !zu root&&(ER (aw fr root)&&!di (aw fr t)) then Kj fr t (.ptr root off) λfr=>Wo r ms ⟨p,q,fr,m⟩ K else none
  |_,_=>none
def nQ (st:St):List (Nat×OK)->List MV->(St->Option R)->Option R
 |[],ms,K=>gN ms (K st)
 |(t,k)::r,ms,K=>match k with
  | .sc k=>dq st [k] ms λls ms st=>(match ls with|[l]=>OG st t (.sc l) λst=>nQ st r ms K|_=>none)
  | .ag ks=>dq st ks ms λls ms st=>OG st t (.ag ls) λst=>nQ st r ms K
  | .box ks=>bif zu t&&!bL st.cJ (posOf t) then none else dq st ks ms λls ms st=>OG st t (.box ls) λst=>nQ st r ms K
  | .mp s=>bif zu t then none else gC ms λm ms=>gL m λes=>OG st t (.box [.mp s es]) λst=>nQ st r ms K
  | .pt root off=>Wo ((t,.pt root off)::r) ms st K
end
def dU:List (Nat×OK)->List Nat
 |[]=>[]
 |(t,_)::r=>t::dU r
def cB:List (Nat×OK)->List Nat
 |[]=>[]
 |(_,.sc k)::r=>cE [k]++cB r
 |(_,.ag ks)::r=>cE ks++cB r
 |(_,.box ks)::r=>cE ks++cB r
 |(_,.mp _)::r=>cB r
 |(_,.pt _ _)::r=>cB r
def minus:List Nat->List Nat->List Nat
 |[],_=>[]
 |k::r,l=>bif bL l k then minus r l else k::minus r l
def xL {R:Type}(ps:List Nat):List aJ->(List aJ->Option R)->Option R
 |[],K=>K []
 |l::r,K=>(match l with
  | .own g=>bif bL ps g then xL ps r λr=>K (.own g::r) else xL ps r λr=>K (.un::r)
  |l=>xL ps r λr=>K (l::r))
def OH {R:Type}(ps:List Nat)(s:Slot)(K:Slot->Option R):Option R:=match s with
 | .sc (.own g)=>bif bL ps g then K (.sc (.own g)) else K (.sc .un)
 | .ag cs=>xL ps cs λcs=>K (.ag cs)
 | .box cs=>xL ps cs λcs=>K (.box cs)
 |s=>K s
def nFr {R:Type}(ps:List Nat):Fr->(Fr->Option R)->Option R
 |[],K=>K []
 |(k,s)::r,K=>OH ps s λs=>nFr ps r λr=>K ((k,s)::r)
def Lc {R:Type}(ks fs qs:List Nat):List (Nat×pH)->(List (Nat×pH)->Option R)->Option R
 |[],K=>K []
 |(k,o)::r,K=>bif bL ks k then Lc ks fs qs r λr=>(bif bL fs k&&!bL qs k then K ((k,⟨o.ty,true,o.xs⟩)::r) else K ((k,o)::r)) else Lc ks fs qs r K
def fC (c:Ctx):List (Nat×OK)->Bool
 |[]=>true
 |(_,.sc k)::r=>bif ke c [k] then fC c r else false
 |(_,.ag ks)::r=>bif ke c ks then fC c r else false
 |(_,.box ks)::r=>bif ke c ks then fC c r else false
 |(_,.mp _)::r=>fC c r
 |(_,.pt _ _)::r=>fC c r
def Q2 {R:Type}(c:Ctx)(h:pJ)(st:St)(K:St->St->Option R):Option R:=match st with
 |⟨p,q,r,m⟩=>
  bif !fC c h.all||meets (dU h.all) p||meets (cB h.all) q||meets (dU h.all) h.cJ||meets (cB h.all) h.cV then none else
  match app h.cJ p,app h.cV q with
  |some p',some q'=>
   pick h.cJ r λrp=>nFr h.cV rp λrp=>pick (dU h.all) r λro=>
   Lc h.cV h.eX q m λmp=>Lc (cB h.all) h.eX q m λmo=>
   (match app rp ro,app mp mo with
    |some r1,some m1=>K ⟨p',q',r1,m1⟩ ⟨p',q',rp,mp⟩
    |_,_=>none)
  |_,_=>none
def Ci {R:Type}(c:Ctx)(h:pJ)(st:St)(K:St->St->Option R):Option R:=Q2 c h st λcR dV=>Ho (λt=>bL h.cJ t||bL (dU h.all) t) st.fr st.fr cR.fr λfr=>K ⟨cR.cJ,cR.cV,fr,cR.bn⟩ dV
def vY (st dV:St):St:=match st,dV with|⟨p,q,_,_⟩,⟨_,_,r,m⟩=>⟨p,q,r,m⟩
def guarded:List Oper->Bool
 |[]=>false
 |o::r=>match o.guard with|some _=>true|none=>guarded r
def sQ:List Oper->List Nat
 |[]=>[]
 |o::r=>match o.op,o.dst with
  | .alloc _,some d=>d::sQ r
  | .box _ _,some d=>d::sQ r
  | .makeMap _ _,some d=>d::sQ r
  | .range _ _,some d=>d::sQ r
  |_,_=>sQ r
def EW {R:Type}(ds:List Nat)(st:St)(K:St->Option R):Option R:=match st with|⟨p,q,r,m⟩=>wM ds r λr1=>Ho (λt=>!bL ds t) r r r1 λr=>K ⟨p,q,r,m⟩
def gO:Code->Option Nat
 | .region id _ _=>some id
 | .seq a b=>match gO a with|some n=>some n|none=>gO b
 | .cond _ a b=>match gO a with|some n=>some n|none=>gO b
 | .block _ b| .loop b| .scope b=>gO b
 |_=>none
def uni:List Nat->List Nat->List Nat
 |[],l=>l
 |k::r,l=>bif bL l k then uni r l else k::uni r l
def lU:Code->List Nat
 | .skip| .region _ _ _=>[0]
 | .seq a b=>bif bL (lU a) 0 then uni (minus (lU a) [0]) (lU b) else lU a
 | .cond _ a b=>uni (lU a) (lU b)
 | .block id b=>bif bL (lU b) (id+2) then uni (minus (lU b) [0,id+2]) [0] else lU b
 | .loop b=>minus (lU b) [0]
 | .exit id=>[id+2]
 | .ret=>[1]
 |_=>[]
def qP (o:Oper):Bool:=match o.op with
 | .load _ _=>true
 | .lookup _ _ _ false=>true
 |_=>false
def mK (c:Ctx)(o:Oper):Bool:=qP o||(match o.op with
 | .convert y _ _=>isLT c y
 |_=>false)
def Wp (o:Oper):Option Nat:=match o.op with
 | .lookup t _ _ false=>some t
 |_=>none
def Z8 (o:Oper):Option Nat:=match o.op with
 | .mapEntry t _ _=>some t
 |_=>none
def BI (o p:Oper):Bool:=match Wp o,Z8 p with
 |some t,some t'=>eJ t t'
 |_,_=>false
def qQ (o:Oper):Bool:=match o.op with
 | .move _| .assign _| .nilCheck _| .pick _ _ _| .build _ _| .load _ _| .binOp _ _ _ _ _| .unOp _ _ _| .convert _ _ _| .makeFunc _ _ _| .slice _ _ _ _ _| .fieldAddr _ _ _| .field _ _ _| .indexAddr _ _ _| .index _ _ _| .extract _ _| .lookup _ _ _ false=>true
 | .call cl=>(match cl.callee with| .builtin .len| .builtin .min| .builtin .max| .builtin .real| .builtin .imag| .builtin .complex=>true|_=>false)
 |_=>false
def Br (c:Ctx)(o:Oper):Bool:=match o.op with
 | .alloc _| .box _ _| .buildSlice _ _ _| .makeSlice _ _ _=>true
 | .call cl=>(match cl.callee with| .value (.func f)=>!c.iL (c.key f)| .value _=>(match c.dyn with|[]=>true|_::_=>false)|_=>false)
 |_=>false
def Q3:Op->List Operand
 | .build _ ps=>ps.toList.map (·.2)
 | .buildSlice _ _ ps=>ps.toList.map (·.2)
 | .makeFunc _ first captured=>first.toList++captured.toList
 | .slice _ x l h m=>x::(l.toList++(h.toList++m.toList))
 | .call c=>(match c.callee with| .value f=>[f]| .invoke r _=>[r]| .builtin _=>[])++c.args.toList
 |op=>op.operands.toList
def OI:List Operand->List Nat
 |[]=>[]
 | .tmp t::r=>t::OI r
 |_::r=>OI r
def ML (ops:List Oper)(o:Oper):List Nat:=OI (Q3 o.op)++(match o.guard with|some (g,_)=>(match ops[g]? with|some p=>p.dst.toList|none=>[])|none=>[])
def MM (ops:List Oper)(x y:Oper):Bool:=(match x.dst with|some d=>!bL (ML ops y) d&&(match y.dst with|some d'=>!eJ d' d|none=>true)|none=>true)&& (match y.dst with|some d=>!bL (ML ops x) d|none=>true)
def Cj (e:Edge):Bool:=match e.ground with
 | .textOnly _=>false
 | .gcOnly _=>false
 |_=>true
def Ck (o:Oper)(p:Nat->Bool):Bool:=o.after.toList.any λe=>Cj e&&p e.on
def agk (ops:List Oper):Bool:=ops.all λo=>match o.op with| .select _ _=>false|_=>true
def Wq (c:Ctx)(o:Oper):Bool:=qQ o||Br c o
def tN (c:Ctx)(ops:List Oper)(o:Oper):List Nat->List Nat->Bool
 |_,[]=>true
 |D,y::r=>match ops[y]? with
  |some p=>bif Ck p (bL D) then tN c ops o (y::D) r else MM ops o p&&(!mK c o||Wq c p||still c o||BI o p)&&tN c ops o D r
  |none=>false
def OJ (o:Oper):Bool:=match o.op,o.dst,o.guard with
 | .alloc _,some _,none=>o.after.toList.all λe=>!Cj e
 |_,_,_=>false
def agl (c:Ctx)(o:Oper):Bool:=match o.op with
 | .alloc t=>(match c.tv t with|some _=>true|none=>false)
 |_=>false
def agm (ops:List Oper)(i:Nat):Bool:=match ops[i]? with
 |some o=>OJ o
 |none=>false
def wO (c:Ctx)(ops:List Oper):List Nat->List Nat->Bool
 |_,[]=>true
 |pre,x::rest=>(match ops[x]? with
  |some o=>(o.after.toList.all λe=>!Cj e||bL pre e.on)&&!bL pre x&&!bL rest x&& (bif qQ o&&!nt c o then tN c ops o [x] rest
    else (rest.all λy=>match ops[y]? with
     |some p=>bif OJ p then MM ops p o&&agl c p else Ck p (λi=>eJ i x||(bL rest i&&!agm ops i))
     |none=>false))&&wO c ops (x::pre) rest
  |none=>false)
def Cl (c:Ctx)(ops:Array Oper)(ord:List Nat):Bool:=agk ops.toList&&eJ ord.length ops.toList.length&&(List.range ops.toList.length).all (bL ord)&&wO c ops.toList [] ord
def He {R:Type}(c:Ctx)(id:Nat)(ops l:List Oper)(st:St)(K:St->Option R):Option R:=bif guarded ops then
  Ci c (c.zb id) st λcR dV=>bd (EW (sQ ops) cR λcR=>Ch c ops l cR λst=>mJ st [] ((c.zb id).ex 0) some) λvs=>nQ (vY st dV) ((c.zb id).ex 0) vs K
 else EW (sQ ops) st λst=>Ch c ops l st K
def rm (ops:List Oper):List Nat->Option (List Oper)
 |[]=>some []
 |i::r=>match ops[i]?,rm ops r with
  |some o,some l=>some (o::l)
  |_,_=>none
def agn {S:Type}(step:S->MV->Option (Bool×S)):S->List MV->Option (List MV×S)
 |s,[]=>some ([],s)
 |s,x::xs=>match step s x with
  |some (b,s1)=>(match agn step s1 xs with|some (ys,s2)=>some (bif b then ys else x::ys,s2)|none=>none)
  |none=>none
def Wr {R:Type}(c:Ctx)(id:Nat)(ops:List Oper)(st:St)(K:St->Option R):Option R:=He c id ops ops st K
def fzK {R:Type}(c:Ctx)(ts:List Nat)(st:St)(K:St->Option R):Option R:=match ts with
 |[]=>K st
 |ts=>Hr c st (ts.map .tmp) λ_ st=>K st
def Kl (ops:Array Oper)(A B:Nat):Array Oper:=ops.modify B λo=>{o with after:=o.after.push ⟨A,.data⟩}
open Classical in
def both {R:Type}(x y:Option R):Option R:=if x=y then x else none
def Ws (n:Nat)(l:List Nat):Option (List Nat×List Nat×Nat×Nat):=match l.drop (l.length-3) with
 |[m,A,B]=>bif eJ A B||(aaZ n A||aaZ n B) then none else some (l.take m,(l.drop m).take (l.length-3-m),A,B)
 |_=>none
def Wt {R:Type}(c:Ctx)(ops:Array Oper)(l:List Nat)(st:St)(K:St->Option R):Option R:=bif Cl c ops l then (match rm ops.toList l with
 |some l=>Ch c ops.toList l st K
 |none=>none) else none
def Hu {R:Type}(c:Ctx)(st:St)(K:St->Option R):Nat->Array Oper->List Nat->Option R
 |0,_,_=>none
 |k+1,ops,l=>bif eJ l.length ops.toList.length then Wt c ops l st K else (match Ws ops.toList.length l with
  |some (o1,o2,A,B)=>both (Hu c st K k (Kl ops A B) o1) (Hu c st K k (Kl ops B A) o2)
  |none=>none)
def ago {R:Type}(c:Ctx)(id:Nat)(ops:Array Oper)(ord:List Nat)(st:St)(K:St->Option R):Option R:=bif guarded ops.toList then
  Ci c (c.zb id) st λcR dV=>bd (EW (sQ ops.toList) cR λcR=>Hu c cR (λst=>mJ st [] ((c.zb id).ex 0) some) ord.length ops ord) λvs=>nQ (vY st dV) ((c.zb id).ex 0) vs K
 else EW (sQ ops.toList) st λst=>Hu c st K ord.length ops ord
def SY {R:Type}(c:Ctx)(id:Nat)(ops:Array Oper)(draw:Bool)(st:St)(K:St->Option R):Option R:=fzK c (c.fz id) st λst=>bif draw then (bif !eJ (c.ord id).length ops.toList.length then ago c id ops (c.ord id) st K else bif Cl c ops (c.ord id) then (match rm ops.toList (c.ord id) with|some l=>He c id ops.toList l st K|none=>none) else none)
 else Wr c id ops.toList st K
def lu (c:Ctx):Code->(R:Type)->St->(Nat->St->Option R)->Option R
 | .skip,_,st,K=>K 0 st
 | .region id ops d,_,st,K=>SY c id ops d st λst=>K 0 st
 | .seq a b,R,st,K=>lu c a R st λe st=>bif eJ e 0 then lu c b R st K else K e st
 | .cond x a b,R,st,K=>(match aM c st x with
  | .sc (.p (.b v))=>
   bif bL (lU a) 0&&bL (lU b) 0 then
    Ci c (c.AL ((gO (.seq a b)).getD 0)) st λcR dV=>
    bd (bl v (lu c a (Nat×List MV) cR λe st=>mJ st [] ((c.AL ((gO (.seq a b)).getD 0)).ex e) λvs=>some (e,vs)) (lu c b (Nat×List MV) cR λe st=>mJ st [] ((c.AL ((gO (.seq a b)).getD 0)).ex e) λvs=>some (e,vs))) λr=>T2 (uni (lU a) (lU b)) r.1 λe=>nQ (vY st dV) ((c.AL ((gO (.seq a b)).getD 0)).ex e) r.2 λst=>K e st
   else bl v (lu c a R st K) (lu c b R st K)
  |_=>none)
 | .block id b,R,st,K=>lu c b R st λe st=>bif eJ e (id+2) then K 0 st else K e st
 | .loop b,_,st,K=>
  Ci c (c.wH ((gO b).getD 0)) st λcR dV=>mJ cR [] (c.wH ((gO b).getD 0)).outs λvs=>
   bd (Loop (λms=>nQ dV (c.wH ((gO b).getD 0)).outs ms λst=>lu c b (Sum (List MV) (Nat×List MV)) st λe st=>
    bif eJ e 0 then mJ st [] (c.wH ((gO b).getD 0)).outs λvs=>some (.inl vs) else mJ st [] ((c.wH ((gO b).getD 0)).ex e) λvs=>some (.inr (e,vs))) vs)
    λr=>T2 (minus (lU b) [0]) r.1 λe=>nQ (vY st dV) ((c.wH ((gO b).getD 0)).ex e) r.2 λst=>K e st
 | .exit id,_,st,K=>K (id+2) st
 | .ret,_,st,K=>K 1 st
 |_,_,_,_=>none
def Hv {R:Type}(c:Ctx):List Nat->Nat->List MV->(Fr->List MV->Option R)->Option R
 |[],_,ms,K=>K [] ms
 |t::ts,n,ms,K=>match c.tv t with
  |some I=>gC ms λm r=>FO I m λs=>Hv c ts (n+1) r λfr ms=>K ((n,s)::fr) ms
  |none=>none
def Q4 {R:Type}:List (List Kd)->Nat->List MV->(Fr->Option R)->Option R
 |[],_,ms,K=>gN ms (K [])
 |ks::r,n,ms,K=>gC ms λm ms=>gP m λcs=>vc ks cs λcs=>Q4 r (n+1) ms λfr=>K ((n,.zB cs)::fr)
def EX {R:Type}(c:Ctx)(st:St)(fresh:Option Nat):List ResultVar->(List MV->Option R)->Option R
 |[],K=>K []
 |r::rs,K=>
  let go (s:Slot):Option R:=match fresh with
   |some ty=>(match s with
    | .sc (.own f)=>(match aT st.bn f with|some o=>bif o.eX||!eJ o.ty ty then none else EX c st fresh rs λms=>K (.fresh o.xs::ms)|none=>none)
    | .sc .nil=>EX c st fresh rs λms=>K (.fresh []::ms)
    |_=>none)
   |none=>nW st s λm st=>EX c st fresh rs λms=>K (m::ms)
  match r with
  | .tmp t=>go (aw st.fr t)
  | .cell a t=>match c.tv t,aw st.fr a with
   |some I,.box cs=>bif gM cs||zu a then none else lr I cs 0 λs=>go s
   |_,_=>none
def T8 {R:Type}(c:Ctx)(st:St):List ResultVar->(List MV->St->Option R)->Option R
 |[],K=>K [] st
 |r::rs,K=>(match r with
  | .tmp t=>nW st (aw st.fr t) λm st=>T8 c st rs λms st=>K (m::ms) st
  | .cell a t=>(match c.tv t,aw st.fr a with
   |some I,.box cs=>bif gM cs||zu a then none else lr I cs 0 λs=>nW st s λm st=>T8 c st rs λms st=>K (m::ms) st
   |_,_=>none))
def agp:List MV->MV
 |[m]=>m
 |ms=> .ej ms
def Dg (c:Ctx)(dm:List (List Kd))(pos:Nat)(ks:List LK)(f:Func)(args:List MV):Option MV:=match f.body,args[pos]? with
 |some b,some (.cell (.func off ls))=>bif !ke c ks||!aaZ pos 999 then none else
  Hv c f.params.toList 0 (args.set pos (.rp [])) λfr ms=>Q4 dm f.params.size ms λqR=>
   (match app fr qR with
   |some fr=>dq ⟨[],[],[],[]⟩ ks ls λcs rest Ht=>gN rest<| lu c b MV ⟨[pos],[],(1000000+off *1000+pos,.box cs)::fr,Ht.bn⟩ λe st=>
     bif aaZ e 1 then T8 c st f.results.toList λms st=>(match aw st.fr (1000000+off *1000+pos) with
      | .box cs=>bif gM cs then none else mf st [] ks cs λouts _=>some (.fZ (agp ms) outs)
      |_=>none) else none
   |none=>none)
 |_,_=>none
def SZ (X:Code->St->(Nat->St->Option MV)->Option MV)(c:Ctx)(dm:List (List Kd))(fresh:Option Nat)(f:Func)(args:List MV):Option MV:=match f.body with
 |some b=>Hv c f.params.toList 0 args λfr ms=>Q4 dm f.params.size ms λqR=>
  match app fr qR with
  |some fr=>X b ⟨[],[],fr,[]⟩ λe st=>bif aaZ e 1 then EX c st fresh f.results.toList λms=>(match ms with|[m]=>some m|ms=>some (.ej ms)) else none
  |none=>none
 |none=>none
def Ld (c:Ctx)(dm:List (List Kd))(fresh:Option Nat)(f:Func)(args:List MV):Option MV:=SZ (λb st K=>lu c b MV st K) c dm fresh f args
end
end Dn
/-
  What abstract values and slots say of Go's memory. Conditions: none.
-/
namespace Dn
open Go
theorem ki (w:World)(o:Obj):(w.alloc o).heap[w.heap.size]? =some o:=by show (w.heap.push o)[w.heap.size]? =some o;simp
theorem rn (w:World)(o:Obj)(i:Nat)(h:i<w.heap.size):(w.alloc o).heap[i]? =w.heap[i]? :=by show (w.heap.push o)[i]? =w.heap[i]?;rw [Array.getElem?_push,if_neg (Nat.ne_of_lt h)]
def MV.one:MV->Bool
 | .h _| .agg _| .ej _| .fresh _| .cell _| .fZ _ _=>false
 |_=>true
abbrev Ph:=Nat->Nat->Option Value
section
variable (key:Nat->Nat) (φ:Ph)
mutual
inductive nu:List Value->MV->Prop
 |b (x:Bool):nu [.bool x] (.b x)
 |i (k:IntKind) (n:Int):nu [.int k n] (.i k n)
 |s (bs:ByteArray):nu [.string bs] (.s bs.data.toList)
 |h (x:lp):nu (x.l.map λb=> .int .u8 (b.toNat:Int)) (.h x)
 |raw (v:Value):v.oneCell'=true->nu [v] (.raw v)
 |list (a:Option Addr) (cap:Nat) (xs:List MV) (bx off Le:Nat) (f:Nat->List Value): xs.length<=cap->(0<xs.length->a=some ⟨bx,off,none⟩)->(∀i,i<xs.length->(f i).length=Le)-> (∀i j,i<xs.length->j<Le->φ bx (off+i *Le+j)=(f i)[j]?)-> (∀(i:Nat) (h:i<xs.length),nu (f i) xs[i])->nu [.slice a xs.length cap] (.list xs)
 |agg (vs:List Value) (ms:List MV):jB vs ms->nu vs (.agg ms)
 |func (f k:Nat) (cap:Array Value) (ms:List MV):key f=k->jB cap.toList ms->(∀m∈ms,m.one=true)->nu [.func (.func f) #[] cap] (.func k ms)
 |rp (bx off:Nat) (vs:List Value) (ms:List MV):jB vs ms->(∀j,j<vs.length->φ bx (off+j)=vs[j]?)->nu [.pointer (some ⟨bx,off,none⟩)] (.rp ms)
 |clip (a:Option Addr) (xs:List MV):nu [.slice a xs.length xs.length] (.list xs)->nu [.slice a xs.length xs.length] (.clip xs)
inductive jB:List Value->List MV->Prop
 |nil:jB [] []
 |cons (v:List Value) (m:MV) (vs:List Value) (ms:List MV):nu v m->jB vs ms->jB (v++vs) (m::ms)
end
end
def sR (φ φ':Ph):Prop:= ∀b o v,φ b o=some v->φ' b o=some v
theorem sR.refl (φ:Ph):sR φ φ:=λ_ _ _ h=>h
theorem sR.Dh {φ φ':Ph}(h:sR φ φ'){b j:Nat}{cs:List Value}(e:φ b j=cs[j]?)(hj:j<cs.length):φ' b j=cs[j]? :=by rw [IT hj] at e⊢;exact h _ _ _ e
theorem sR.trans {φ φ' φ'':Ph}(h:sR φ φ') (h':sR φ' φ''):sR φ φ'':=λb o v e=>h' b o v (h b o v e)
section
variable {key:Nat->Nat} {φ φ':Ph}(hle:sR φ φ')
include hle
theorem MN {b o:Nat}{vs:List Value}{j:Nat}(hj:j<vs.length)(h:φ b o=vs[j]?):φ' b o=vs[j]? :=by rw [IT hj] at h⊢;exact hle _ _ _ h
mutual
theorem nu.mono {vs:List Value}{m:MV}:nu key φ vs m->nu key φ' vs m
 | .b x=> .b x
 | .i k n=> .i k n
 | .s bs=> .s bs
 | .h x=> .h x
 | .raw v h=> .raw v h
 | .list a cap xs bx off Le f h1 h2 h3 h4 h5=> .list a cap xs bx off Le f h1 h2 h3 (λi j hi hj=>MN hle (by rw [h3 i hi];exact hj) (h4 i j hi hj)) (λi hi=>(h5 i hi).mono)
 | .agg vs ms h=> .agg vs ms h.mono
 | .func f k cap ms h1 h2 h3=> .func f k cap ms h1 h2.mono h3
 | .rp bx off vs ms h1 h2=> .rp bx off vs ms h1.mono (λj hj=>MN hle hj (h2 j hj))
 | .clip a xs h=> .clip a xs h.mono
theorem jB.mono {vs:List Value}{ms:List MV}:jB key φ vs ms->jB key φ' vs ms
 | .nil=> .nil
 | .cons v m vs ms h1 h2=> .cons v m vs ms h1.mono h2.mono
end
end
section
variable {key:Nat->Nat} {φ:Ph}
mutual
theorem nu.cells {vs:List Value}{m:MV}:nu key φ vs m-> ∀v∈vs,v.oneCell'=true
 | .b x=>by simp [aaa]
 | .i k n=>by simp [aaa]
 | .s bs=>by simp [aaa]
 | .h x=>by intro v hv;obtain ⟨b,_,rfl⟩:=adv.1 hv;rfl
 | .raw v h=>by simpa using h
 | .list .. =>by simp [aaa]
 | .agg vs ms h=>h.cells
 | .func .. =>by simp [aaa]
 | .rp .. =>by simp [aaa]
 | .clip .. =>by simp [aaa]
theorem jB.cells {vs:List Value}{ms:List MV}:jB key φ vs ms-> ∀v∈vs,v.oneCell'=true
 | .nil=>by simp
 | .cons v m vs ms h1 h2=>by
  intro x hx;rcases adB.1 hx with hx|hx
  ·exact h1.cells x hx
  ·exact h2.cells x hx
end
end
section
variable {key:Nat->Nat} {φ:Ph}
mutual
theorem nu.width {vs:List Value}{m:MV}:nu key φ vs m->vs.length=m.w
 | .b x=>by simp [MV.w]
 | .i k n=>by simp [MV.w]
 | .s bs=>by simp [MV.w]
 | .h x=>by simp [MV.w,x.h]
 | .raw v h=>by simp [MV.w]
 | .list .. =>by simp [MV.w]
 | .agg vs ms h=>by rw [h.width];simp [MV.w]
 | .func .. =>by simp [MV.w]
 | .rp .. =>by simp [MV.w]
 | .clip .. =>by simp [MV.w]
theorem jB.width {vs:List Value}{ms:List MV}:jB key φ vs ms->vs.length=MV.wl ms
 | .nil=>by simp [MV.wl]
 | .cons v m vs ms h1 h2=>by simp [MV.wl,h1.width,h2.width]
end
end
theorem nu.one {key:Nat->Nat} {φ:Ph}{vs:List Value}{m:MV}(h:nu key φ vs m)(hm:m.one=true): ∃v,vs=[v]/\v.oneCell'=true:=by have hc:=h.cells;cases h<;>simp [MV.one] at hm<;>exact ⟨_,rfl,hc _ (by simp)⟩
def jU (key:Nat->Nat) (φ:Ph)(v:Value):MV->Prop
 | .h x=>v= .agg (x.l.map λb=>aeI .u8 (b.toNat:Int)).toArray
 | .agg ms=> ∃arr,v= .agg arr/\jB key φ arr.toList ms
 |m=>m.one=true/\nu key φ [v] m
theorem jU.mono {key:Nat->Nat} {φ φ':Ph}(hle:sR φ φ'){v:Value}{m:MV}(h:jU key φ v m):jU key φ' v m:=by cases m<;>simp only [jU] at h⊢ <;>first|exact h|exact ⟨h.1,h.2.mono hle⟩|(obtain ⟨arr,h1,h2⟩:=h;exact ⟨arr,h1,h2.mono hle⟩)
structure Env where
 key:Nat->Nat
 φ:Ph
 E:Nat->Value
 B:Nat->Nat
 m:List (Nat×pH)
def bM (x:lp):List Value:=x.l.map λb=>aeI .u8 (b.toNat:Int)
theorem dr (x:lp):(bM x).length=32:=by simp [bM,x.h]
def aY (e:Env)(vs:List Value):aJ->Prop
 | .un=> ∃v,vs=[v]/\v.oneCell'=true
 | .p x=>x.one=true/\nu e.key e.φ vs x
 | .hs x=>vs=bM x
 | .nil=>vs=[.slice none 0 0]
 | .mp _ _=>False
 | .own f=> ∃v,vs=[v]/\v.oneCell'=true/\(∀o,aT e.m f=some o->v=e.E f)
def aC (e:Env):List Value->List aJ->Prop
 |vs,[]=>vs=[]
 |vs,l::ls=> ∃v r,vs=v++r/\aY e v l/\aC e r ls
def vd:aJ->Bool
 | .p _| .hs _=>true
 |_=>false
def kj:List aJ->Bool
 |[]=>true
 |l::r=>vd l&&kj r
def Hw (st:Bool)(x:MV)(cs:List aJ):Prop:=(∃ms,bT cs=some ms/\vW st ms=some x)/\ ∀m,aJ.p m∈cs->m.one=true
def BJ:Slot->Bool
 | .sc l=>vd l
 | .ag cs=>kj cs
 |_=>false
mutual
def ah (e:Env)(v:Value):Slot->Prop
 | .skip=>v=undef
 | .sc l=>match l with
  | .un=>True
  | .hs x=>v= .agg (bM x).toArray
  |l=>aY e [v] l
 | .ag cs=> ∃arr,v= .agg arr/\aC e arr.toList cs
 | .ej vs=> ∃arr,v= .tuple arr/\lv e arr.toList vs
 | .box _=>False
 | .zB cs=> ∃bx o vs,v= .pointer (some ⟨bx,o,none⟩)/\aC e vs cs/\kj cs=true/\(∀j,j<vs.length->e.φ bx (o+j)=vs[j]?)
 | .ptr r o=>v= .pointer (some ⟨e.B r,o,none⟩)
 | .zC r=>v= .map (some (e.B r))
 | .rp cs off=> ∃bx o vs,v= .pointer (some ⟨bx,o+off,none⟩)/\aC e vs cs/\kj cs=true/\(∀j,j<vs.length->e.φ bx (o+j)=vs[j]?)
 | .hp r o i=>v= .pointer (some ⟨e.B r,o+i,none⟩)/\i<32
 | .ep f i off st cs=> ∀o,aT e.m f=some o-> ∃bx cap,e.E f= .slice (some ⟨bx,0,none⟩) o.xs.length cap/\(∃x,o.xs[i]? =some x/\Hw st x cs)/\ v= .pointer (some ⟨bx,i *zD cs+off,none⟩)
def lv (e:Env):List Value->List Slot->Prop
 |vs,[]=>vs=[]
 |vs,s::ss=> ∃v r,vs=v::r/\ah e v s/\BJ s=true/\lv e r ss
end
def Wu:aJ->List Value->Bool
 | .p (.b x),[.bool y]=>x==y
 | .p (.i k n),[.int k' n']=>decide (k=k')&&decide (n=n')
 | .p (.s l),[.string s]=>decide (l=s.data.toList)
 | .p (.raw v),[w]=>match v,w with
  | .nilFunc,.nilFunc=>true
  | .nilIface,.nilIface=>true
  | .pointer none,.pointer none=>true
  |_,_=>false
 | .nil,[.slice none 0 0]=>true
 | .un,[v]=>v.oneCell'
 | .hs x,vs=>(vs.length==32)&&(vs.zip x.l).all λp=>match p.1 with| .int .u8 n=>decide (n=(p.2.toNat:Int))|_=>false
 |_,_=>false
def ve:List aJ->List Value->Bool
 |[],vs=>vs.isEmpty
 |l::ls,vs=>Wu l (vs.take l.w)&&ve ls (vs.drop l.w)&&decide (l.w<=vs.length)
end Dn
/-
  How an abstract state stands to a frame and a memory; laws of frames and leaves. Conditions: none.
-/
namespace Dn
open Go
def dg:Fr->Nat->Slot->Fr
 |[],t,v=>[(t,v)]
 |(k,s)::r,t,v=>bif eJ k t then (k,v)::r else (k,s)::dg r t v
def pf (ds:List Nat):Fr->Fr
 |[]=>[]
 |(k,s)::r=>bif dQ s||bL ds k then pf ds r else (k,s)::pf ds r
def pK (ks:List Nat):Fr->Fr
 |[]=>[]
 |(k,s)::r=>bif bL ks k&&!dQ s then (k,s)::pK ks r else pK ks r
def ck:List (Nat×pH)->Nat->pH->List (Nat×pH)
 |[],t,v=>[(t,v)]
 |(k,s)::r,t,v=>bif eJ k t then (k,v)::r else (k,s)::ck r t v
def Oi (f:Nat):aJ->aJ
 | .own g=>bif eJ g f then .un else .own g
 |l=>l
def BK (f:Nat):Slot->Slot
 | .sc l=> .sc (Oi f l)
 | .ag cs=> .ag (cs.map (Oi f))
 | .box cs=> .box (cs.map (Oi f))
 | .ep g i o b cs=>bif eJ g f then .sc .un else .ep g i o b cs
 |s=>s
def mw (f:Nat)(r:Fr):Fr:=r.map λp=>(p.1,BK f p.2)
def zF (f:Nat)(r:Fr):Fr:=r.map λp=>(p.1,match p.2 with
 | .ep g i o b cs=>bif eJ g f then .sc .un else .ep g i o b cs
 |s=>s)
def Q5 (ps:List Nat):aJ->aJ
 | .own g=>bif bL ps g then .own g else .un
 |l=>l
def Kg (ps:List Nat):Slot->Slot
 | .sc l=> .sc (Q5 ps l)
 | .ag cs=> .ag (cs.map (Q5 ps))
 | .box cs=> .box (cs.map (Q5 ps))
 |s=>s
def Q6 (ps:List Nat)(r:Fr):Fr:=r.map λp=>(p.1,Kg ps p.2)
def tO (ks fs qs:List Nat):List (Nat×pH)->List (Nat×pH)
 |[]=>[]
 |(k,o)::r=>bif bL ks k then (bif bL fs k&&!bL qs k then (k,⟨o.ty,true,o.xs⟩) else (k,o))::tO ks fs qs r else tO ks fs qs r
section
variable {R:Type}
theorem force_eq (s:Slot)(K:Slot->Option R):force s K=K s:=by cases s<;>rfl
theorem oK (r:Fr)(t:Nat)(s:Slot)(K:Fr->Option R):Kj r t s K=K (dg r t s):=by
 induction r generalizing K with
 |nil=>rfl
 |cons p r ih=>obtain ⟨k,x⟩:=p;simp only [Kj,dg];cases eJ k t<;>simp [ih]
theorem FQ (ds:List Nat)(r:Fr)(K:Fr->Option R):wM ds r K=K (pf ds r):=by
 induction r generalizing K with
 |nil=>rfl
 |cons p r ih=>obtain ⟨k,x⟩:=p;simp only [wM,pf];cases dQ x||bL ds k<;>simp [ih]
theorem Z9 (ks:List Nat)(r:Fr)(K:Fr->Option R):pick ks r K=K (pK ks r):=by
 induction r generalizing K with
 |nil=>rfl
 |cons p r ih=>obtain ⟨k,x⟩:=p;simp only [pick,pK];cases bL ks k&&!dQ x<;>simp [ih]
theorem pL (r:List (Nat×pH))(t:Nat)(s:pH)(K:List (Nat×pH)->Option R):QT r t s K=K (ck r t s):=by
 induction r generalizing K with
 |nil=>rfl
 |cons p r ih=>obtain ⟨k,x⟩:=p;simp only [QT,ck];cases eJ k t<;>simp [ih]
theorem Hx (f:Nat)(cs:List aJ)(K:List aJ->Option R):xJ f cs K=K (cs.map (Oi f)):=by
 induction cs generalizing K with
 |nil=>rfl
 |cons l r ih=>cases l<;>simp only [xJ,OF,Oi,ih];rename_i g;cases eJ g f<;>rfl
theorem Wv (f:Nat)(s:Slot)(K:Slot->Option R):Lb f s K=K (BK f s):=by
 cases s with
 |sc l=>cases l<;>simp only [Lb,BK,Oi];rename_i g;cases eJ g f<;>rfl
 |ag cs=>simp only [Lb,BK,Hx]
 |box cs=>simp only [Lb,BK,Hx]
 |ep g i o b cs=>simp only [Lb,BK];cases eJ g f<;>rfl
 |_=>rfl
theorem Ww (f:Nat)(r:Fr)(K:Fr->Option R):kFr f r K=K (mw f r):=by
 induction r generalizing K with
 |nil=>rfl
 |cons p r ih=>obtain ⟨k,x⟩:=p;simp only [kFr,Wv,ih,mw,OF]
theorem adr (f:Nat)(r:Fr)(K:Fr->Option R):kEp f r K=K (zF f r):=by
 induction r generalizing K with
 |nil=>rfl
 |cons p r ih=>obtain ⟨k,x⟩:=p;cases x<;>simp only [kEp,ih,zF,OF];rename_i g i o b cs;cases eJ g f<;>rfl
theorem Hy (f:List Nat)(cs:List aJ)(K:List aJ->Option R):xL f cs K=K (cs.map (Q5 f)):=by
 induction cs generalizing K with
 |nil=>rfl
 |cons l r ih=>cases l<;>simp only [xL,OF,Q5,ih];rename_i g;cases bL f g<;>rfl
theorem Wx (f:List Nat)(s:Slot)(K:Slot->Option R):OH f s K=K (Kg f s):=by
 cases s with
 |sc l=>cases l<;>simp only [OH,Kg,Q5];rename_i g;cases bL f g<;>rfl
 |ag cs=>simp only [OH,Kg,Hy]
 |box cs=>simp only [OH,Kg,Hy]
 |_=>rfl
theorem ads (f:List Nat)(r:Fr)(K:Fr->Option R):nFr f r K=K (Q6 f r):=by
 induction r generalizing K with
 |nil=>rfl
 |cons p r ih=>obtain ⟨k,x⟩:=p;simp only [nFr,Wx,ih,Q6,OF]
theorem Wy (ks fs qs:List Nat)(r:List (Nat×pH))(K:List (Nat×pH)->Option R):Lc ks fs qs r K=K (tO ks fs qs r):=by
 induction r generalizing K with
 |nil=>rfl
 |cons p r ih=>
  obtain ⟨k,x⟩:=p;simp only [Lc,tO];cases bL ks k
  ·simp [ih]
  ·simp only [cond_true,ih];cases bL fs k&&!bL qs k<;>rfl
theorem zG {α:Type}(x y:List α):app x y=some (x++y):=by
 induction x with
 |nil=>rfl
 |cons a r ih=>simp [app,ih]
end
theorem eH (a b:Nat):eJ a b=decide (a=b):=by
 by_cases h:a=b
 ·subst h;simp
 ·simp only [h,decide_false];exact Bool.eq_false_iff.2 (λe=>h (sh e))
theorem bU (l:List Nat)(t:Nat):bL l t=true↔t∈l:=by
 induction l with
 |nil=>simp [bL]
 |cons k r ih=>
  simp only [bL,eH,aa6];by_cases h:k=t
  ·simp [h]
  ·simp only [h,decide_false,cond_false,ih];exact ⟨.inr,λh'=>h'.resolve_left (λe=>h e.symm)⟩
theorem cb (r:Fr)(d t:Nat)(s:Slot):aw (dg r d s) t=if t=d then s else aw r t:=by
 induction r with
 |nil=>simp only [dg,aw,eH];by_cases h:t=d<;>simp [h,Ne.symm]<;>(intro e;exact absurd e.symm h)
 |cons p r ih=>
  obtain ⟨k,x⟩:=p;simp only [dg,eH];by_cases hk:k=d
  ·subst hk;simp only [decide_true,cond_true,aw,eH];by_cases h:k=t
   ·simp [h]
   ·have h': ¬t=k:=λe=>h e.symm;simp [h,h']
  ·simp only [hk,decide_false,cond_false,aw,eH,ih];by_cases h:k=t
   ·subst h;simp [hk]
   ·simp [h]
theorem bw (r:List (Nat×pH))(d t:Nat)(s:pH):aT (ck r d s) t=if t=d then some s else aT r t:=by
 induction r with
 |nil=>simp only [ck,aT,eH];by_cases h:t=d<;>simp [h,Ne.symm]<;>(intro e;exact absurd e.symm h)
 |cons p r ih=>
  obtain ⟨k,x⟩:=p;simp only [ck,eH];by_cases hk:k=d
  ·subst hk;simp only [decide_true,cond_true,aT,eH];by_cases h:k=t
   ·simp [h]
   ·have h': ¬t=k:=λe=>h e.symm;simp [h,h']
  ·simp only [hk,decide_false,cond_false,aT,eH,ih];by_cases h:k=t
   ·subst h;simp [hk]
   ·simp [h]
theorem Hz (g:Slot->Slot)(hg:g (.sc .un)= .sc .un)(r:Fr)(t:Nat):aw (r.map λp=>(p.1,g p.2)) t=g (aw r t):=by
 induction r with
 |nil=>simp [aw,hg]
 |cons p r ih=>obtain ⟨k,x⟩:=p;simp only [OF,aw,eH];by_cases h:k=t<;>simp [h,ih]
theorem iQ (f:Nat)(r:Fr)(t:Nat):aw (mw f r) t=BK f (aw r t):=Hz (BK f) rfl r t
theorem Lf (f:List Nat)(r:Fr)(t:Nat):aw (Q6 f r) t=Kg f (aw r t):=Hz (Kg f) rfl r t
def aV (r:Fr):List Nat:=r.map Prod.fst
theorem tm (r:Fr)(t:Nat)(h:t∉aV r):aw r t= .sc .un:=by
 induction r with
 |nil=>rfl
 |cons p r ih=>obtain ⟨k,x⟩:=p;simp only [aV,OF,aa6,not_or] at h;have h': ¬k=t:=λe=>h.1 e.symm;simp only [aw,eH,h',decide_false,cond_false];exact ih h.2
theorem Di (ds:List Nat)(r:Fr):List.Sublist (aV (pf ds r)) (aV r):=by
 induction r with
 |nil=>simp [aV,pf]
 |cons p r ih=>
  obtain ⟨k,x⟩:=p;simp only [pf];cases dQ x||bL ds k
  ·simpa [aV] using ih
  ·exact (List.Sublist.cons _ ih)
theorem xM (ds:List Nat)(r:Fr):List.Sublist (aV (pK ds r)) (aV r):=by
 induction r with
 |nil=>simp [aV,pK]
 |cons p r ih=>
  obtain ⟨k,x⟩:=p;simp only [pK];cases bL ds k&&!dQ x
  ·exact (List.Sublist.cons _ ih)
  ·simpa [aV] using ih
theorem HA (ds:List Nat)(r:Fr)(hn:(aV r).Nodup)(t:Nat):aw (pf ds r) t=if dQ (aw r t)||bL ds t then .sc .un else aw r t:=by
 induction r with
 |nil=>simp [aw,pf]
 |cons p r ih=>
  obtain ⟨k,x⟩:=p;simp only [aV,OF,aeV] at hn;have ih:=ih hn.2;simp only [pf];by_cases hk:k=t
  ·subst hk;cases hb:dQ x||bL ds k
   ·simp [aw,eH,hb]
   ·simp only [cond_true,aw,eH,decide_true,hb,if_true];refine tm _ _ (λhm=>hn.1 ((Di ds r).subset hm))
  ·cases hb:dQ x||bL ds k
   ·simp [aw,eH,hk,ih]
   ·simp [aw,eH,hk,ih]
theorem Cm (ds:List Nat)(r:Fr)(hn:(aV r).Nodup)(t:Nat):aw (pK ds r) t=if bL ds t&&!dQ (aw r t) then aw r t else .sc .un:=by
 induction r with
 |nil=>simp [aw,pK]
 |cons p r ih=>
  obtain ⟨k,x⟩:=p;simp only [aV,OF,aeV] at hn;have ih:=ih hn.2;simp only [pK];by_cases hk:k=t
  ·subst hk;cases hb:bL ds k&&!dQ x
   ·simp only [cond_false,aw,eH,decide_true,cond_true,hb];exact tm _ _ (λhm=>hn.1 ((xM ds r).subset hm))
   ·simp [aw,eH,hb]
  ·cases hb:bL ds k&&!dQ x<;>simp [aw,eH,hk,ih]
theorem zH (r s:Fr)(t:Nat):aw (r++s) t=if t∈aV r then aw r t else aw s t:=by
 induction r with
 |nil=>simp [aV]
 |cons p r ih=>
  obtain ⟨k,x⟩:=p;simp only [List.cons_append,aw,eH,aV,OF,aa6];by_cases h:k=t
  ·simp [h]
  ·have h': ¬t=k:=λe=>h e.symm;simp only [h,h',decide_false,cond_false,ih,false_or];rfl
end Dn
/-
  Laws of leaves and slots: offsets, and what changes elsewhere. Conditions: none.
-/
namespace Dn
open Go
section
variable {e e':Env}
theorem aY.width {vs:List Value}{l:aJ}(h:aY e vs l):vs.length=l.w:=by
 cases l with
 |un=>obtain ⟨v,rfl,_⟩:=h;rfl
 |p m=>obtain ⟨v,rfl,_⟩:=h.2.one h.1;rfl
 |hs x=>cases h;simp [bM,x.h,aJ.w]
 |nil=>cases h;rfl
 |mp s es=>exact h.elim
 |own f=>obtain ⟨v,rfl,_⟩:=h;rfl
theorem aY.cells {vs:List Value}{l:aJ}(h:aY e vs l): ∀v∈vs,v.oneCell'=true:=by
 cases l with
 |un=>obtain ⟨v,rfl,hv⟩:=h;simpa using hv
 |p m=>exact h.2.cells
 |hs x=>cases h;intro v hv;obtain ⟨b,_,rfl⟩:=adv.1 hv;rfl
 |nil=>cases h;simp [aaa]
 |mp s es=>exact h.elim
 |own f=>obtain ⟨v,rfl,hv,_⟩:=h;simpa using hv
theorem aC.width {cs:List aJ}: ∀{vs:List Value},aC e vs cs->vs.length=zD cs:=by
 induction cs with
 |nil=>intro vs h;cases h;rfl
 |cons l r ih=>intro vs h;obtain ⟨v,w,rfl,h1,h2⟩:=h;simp [zD,h1.width,ih h2]
theorem aC.cells {cs:List aJ}: ∀{vs:List Value},aC e vs cs-> ∀v∈vs,v.oneCell'=true:=by
 induction cs with
 |nil=>intro vs h;cases h;simp
 |cons l r ih=>
  intro vs h v hv;obtain ⟨a,w,rfl,h1,h2⟩:=h;rcases adB.1 hv with hv|hv
  ·exact h1.cells v hv
  ·exact ih h2 v hv
theorem aC.append {cs ds:List aJ}: ∀{vs ws:List Value},aC e vs cs->aC e ws ds->aC e (vs++ws) (cs++ds):=by
 induction cs with
 |nil=>intro vs ws h h';cases h;simpa using h'
 |cons l r ih=>intro vs ws h h';obtain ⟨v,w,rfl,h1,h2⟩:=h;exact ⟨v,w++ws,by simp,h1,ih h2 h'⟩
theorem zI {cs:List aJ}: ∀{off:Nat} {ds:List aJ} {vs:List Value},cut cs off=some ds->aC e vs cs-> ∃v1 v2,vs=v1++v2/\v1.length=off/\aC e v2 ds:=by
 induction cs with
 |nil=>
  intro off ds vs h hr;cases off with
  |zero=>simp only [cut,IN] at h;subst h;exact ⟨[],vs,rfl,rfl,hr⟩
  |succ n=>simp [cut] at h
 |cons l r ih=>
  intro off ds vs h hr;cases off with
  |zero=>simp only [cut,IN] at h;subst h;exact ⟨[],vs,rfl,rfl,hr⟩
  |succ n=>
   simp only [cut] at h;cases hb:aaZ l.w (n+1) with
   |false=>simp [hb] at h
   |true=>simp only [hb,cond_true] at h;have hle:=aa9 hb;obtain ⟨v,w,rfl,h1,h2⟩:=hr;obtain ⟨v1,v2,rfl,hl,h3⟩:=ih h h2;exact ⟨v++v1,v2,by simp,by simp [h1.width,hl];omega,h3⟩
theorem T9 {cs:List aJ}: ∀{n:Nat} {ds:List aJ} {vs:List Value},Oy cs n=some ds->aC e vs cs-> ∃v1 v2,vs=v1++v2/\v1.length=n/\aC e v1 ds:=by
 induction cs with
 |nil=>
  intro n ds vs h hr;cases n with
  |zero=>simp only [Oy,IN] at h;subst h;exact ⟨[],vs,rfl,rfl,rfl⟩
  |succ n=>simp [Oy] at h
 |cons l r ih=>
  intro n ds vs h hr;cases n with
  |zero=>simp only [Oy,IN] at h;subst h;exact ⟨[],vs,rfl,rfl,rfl⟩
  |succ n=>
   simp only [Oy] at h;cases hb:aaZ l.w (n+1) with
   |false=>simp [hb] at h
   |true=>
    simp only [hb,cond_true] at h;have hle:=aa9 hb;obtain ⟨v,w,rfl,h1,h2⟩:=hr;cases hu:Oy r (n+1-l.w) with
    |none=>simp [hu] at h
    |some b=>simp only [hu,IN] at h;subst h;obtain ⟨v1,v2,rfl,hl,h3⟩:=ih hu h2;exact ⟨v++v1,v2,by simp,by simp [h1.width,hl];omega,v,v1,rfl,h1,h3⟩
theorem Lg {cs:List aJ}{off n:Nat}{ds:List aJ}{vs:List Value}(h:part cs off n=some ds)(hr:aC e vs cs): ∃v1 v2 v3,vs=v1++v2++v3/\v1.length=off/\v2.length=n/\aC e v2 ds:=by
 unfold part at h;cases hc:cut cs off with
 |none=>simp [hc] at h
 |some a=>simp only [hc] at h;obtain ⟨v1,v2,rfl,h1,h2⟩:=zI hc hr;obtain ⟨v3,v4,rfl,h3,h4⟩:=T9 h h2;exact ⟨v1,v3,v4,by simp,h1,h3,h4⟩
theorem Lh {ls:List aJ}: ∀{cs ds:List aJ} {vs ws:List Value},over ls cs=some ds->aC e vs cs->aC e ws ls-> ∃v1 v2,vs=v1++v2/\v1.length=ws.length/\aC e (ws++v2) ds:=by
 induction ls with
 |nil=>intro cs ds vs ws h hr hw;simp only [over,IN] at h;subst h;cases hw;exact ⟨[],vs,rfl,rfl,hr⟩
 |cons l r ih=>
  intro cs ds vs ws h hr hw;cases cs with
  |nil=>simp [over] at h
  |cons c cs=>
   simp only [over] at h;cases hb:eJ l.w c.w with
   |false=>simp [hb] at h
   |true=>
    simp only [hb,cond_true] at h;have hww:=sh hb;cases ho:over r cs with
    |none=>simp [ho] at h
    |some q=>simp only [ho,IN] at h;subst h;obtain ⟨v,w,rfl,h1,h2⟩:=hr;obtain ⟨a,b,rfl,h3,h4⟩:=hw;obtain ⟨v1,v2,rfl,hl,h5⟩:=ih ho h2 h4;exact ⟨v++v1,v2,by simp,by simp [h1.width,h3.width,hl,hww],a,b++v2,by simp,h3,h5⟩
theorem xN {cs:List aJ}: ∀{off:Nat} {ls ds:List aJ} {vs ws:List Value},putAt cs off ls=some ds->aC e vs cs->aC e ws ls-> ∃v1 v2 v3,vs=v1++v2++v3/\v1.length=off/\v2.length=ws.length/\aC e (v1++ws++v3) ds:=by
 induction cs with
 |nil=>
  intro off ls ds vs ws h hr hw;cases off with
  |zero=>simp only [putAt] at h;obtain ⟨v1,v2,rfl,h1,h2⟩:=Lh h hr hw;exact ⟨[],v1,v2,by simp,rfl,h1,by simpa using h2⟩
  |succ n=>simp [putAt] at h
 |cons l r ih=>
  intro off ls ds vs ws h hr hw;cases off with
  |zero=>simp only [putAt] at h;obtain ⟨v1,v2,rfl,h1,h2⟩:=Lh h hr hw;exact ⟨[],v1,v2,by simp,rfl,h1,by simpa using h2⟩
  |succ n=>
   simp only [putAt] at h;cases hb:aaZ l.w (n+1) with
   |false=>simp [hb] at h
   |true=>
    simp only [hb,cond_true] at h;have hle:=aa9 hb;obtain ⟨v,w,rfl,h1,h2⟩:=hr;cases hu:putAt r (n+1-l.w) ls with
    |none=>simp [hu] at h
    |some b=>simp only [hu,IN] at h;subst h;obtain ⟨v1,v2,v3,rfl,hl,Cn,h3⟩:=ih hu h2 hw;exact ⟨v++v1,v2,v3,by simp,by simp [h1.width,hl];omega,Cn,v,v1++ws++v3,by simp,h1,h3⟩
structure n9 (S T:Nat->Prop) (e e':Env):Prop where
 key:e'.key=e.key
 φ:sR e.φ e'.φ
 B: ∀r,T r->e'.B r=e.B r
 jA: ∀f o',aT e'.m f=some o'->S f-> ∃o,aT e.m f=some o/\e'.E f=e.E f/\o'.xs=o.xs
def kw (S:Nat->Prop)(l:aJ):Prop:= ∀f,l= .own f->S f
def gQ (S T:Nat->Prop):Slot->Prop
 | .ptr r _=>T r
 | .zC r=>T r
 | .hp r _ _=>T r
 | .sc l=>kw S l
 | .ag cs=> ∀l∈cs,kw S l
 | .ep g _ _ _ _=>S g
 |_=>True
theorem aY.on {S T:Nat->Prop}(h:n9 S T e e'){vs:List Value}{l:aJ}(hl:kw S l)(hr:aY e vs l):aY e' vs l:=by
 cases l with
 |un=>exact hr
 |p m=>exact ⟨hr.1,by have:=hr.2.mono h.φ;rw [<-h.key] at this;exact this⟩
 |hs x=>exact hr
 |nil=>exact hr
 |mp s es=>exact hr
 |own f=>obtain ⟨v,rfl,hv,hf⟩:=hr;refine ⟨v,rfl,hv,λo' Km=> ?_⟩;obtain ⟨o,ho,hE,_⟩:=h.jA f o' Km (hl f rfl);rw [hE];exact hf o ho
theorem aC.on {S T:Nat->Prop}(h:n9 S T e e'){cs:List aJ}: ∀{vs:List Value},(∀l∈cs,kw S l)->aC e vs cs->aC e' vs cs:=by
 induction cs with
 |nil=>intro vs _ hr;exact hr
 |cons l r ih=>intro vs hl hr;obtain ⟨v,w,rfl,h1,h2⟩:=hr;exact ⟨v,w,rfl,h1.on h (hl l (by simp)),ih (λx hx=>hl x (by simp [hx])) h2⟩
theorem HB {S:Nat->Prop}{l:aJ}(h:vd l=true):kw S l:=by intro f hf;subst hf;simp [vd] at h
theorem Co {S:Nat->Prop}{cs:List aJ}(h:kj cs=true): ∀l∈cs,kw S l:=by
 induction cs with
 |nil=>simp
 |cons l r ih=>
  simp only [kj,aaR] at h;intro x hx;rcases aa6.1 hx with rfl|hx
  ·exact HB h.1
  ·exact ih h.2 x hx
mutual
theorem ah.on {S T:Nat->Prop}(h:n9 S T e e'){v:Value}: ∀{s:Slot},gQ S T s->ah e v s->ah e' v s
 | .skip,_,hr=>by simpa [ah] using hr
 | .sc l,hs,hr=>by
  cases l with
  |un=>simp [ah]
  |hs x=>simpa [ah] using hr
  |p m=>simp only [ah] at hr⊢;exact hr.on h hs
  |nil=>simp only [ah] at hr⊢;exact hr.on h hs
  |mp s es=>simp only [ah] at hr⊢;exact hr
  |own f=>simp only [ah] at hr⊢;exact hr.on h hs
 | .ag cs,hs,hr=>by simp only [ah] at hr⊢;obtain ⟨arr,h1,h2⟩:=hr;exact ⟨arr,h1,h2.on h hs⟩
 | .ej vs,_,hr=>by simp only [ah] at hr⊢;obtain ⟨arr,h1,h2⟩:=hr;exact ⟨arr,h1,lv.on h h2⟩
 | .box _,_,hr=>by simp [ah] at hr
 | .zB cs,_,hr=>by simp only [ah] at hr⊢;obtain ⟨bx,o,vs,h1,h2,h3,h4⟩:=hr;exact ⟨bx,o,vs,h1,h2.on h (Co h3),h3,λj hj=>MN h.φ hj (h4 j hj)⟩
 | .ptr r o,hs,hr=>by simp only [ah] at hr⊢;rw [h.B r hs];exact hr
 | .zC r,hs,hr=>by simp only [ah] at hr⊢;rw [h.B r hs];exact hr
 | .rp cs off,_,hr=>by simp only [ah] at hr⊢;obtain ⟨bx,o,vs,h1,h2,h3,h4⟩:=hr;exact ⟨bx,o,vs,h1,h2.on h (Co h3),h3,λj hj=>MN h.φ hj (h4 j hj)⟩
 | .hp r o i,hs,hr=>by simp only [ah] at hr⊢;rw [h.B r hs];exact hr
 | .ep f i off st cs,hs,hr=>by simp only [ah] at hr⊢;intro o' Km;obtain ⟨o,ho,hE,hx⟩:=h.jA f o' Km hs;obtain ⟨bx,cap,h1,h2,h3⟩:=hr o ho;exact ⟨bx,cap,by rw [hE,hx];exact h1,by rw [hx];exact h2,h3⟩
theorem lv.on {S T:Nat->Prop}(h:n9 S T e e'): ∀{vs:List Value} {ss:List Slot},lv e vs ss->lv e' vs ss
 |vs,[],hr=>hr
 |vs,s::ss,hr=>by
  simp only [lv] at hr⊢;obtain ⟨v,r,h1,h2,h3,h4⟩:=hr;refine ⟨v,r,h1,ah.on h ?_ h2,h3,lv.on h h4⟩;cases s<;>simp [BJ] at h3<;>simp only [gQ]
  ·exact HB h3
  ·exact Co h3
end
end
end Dn
/-
  The relation between an abstract state and a running frame; operations that change no memory. Conditions: none.
-/
namespace Dn
open Go
section
variable {e e':Env}
theorem aY.kill {vs:List Value}{l:aJ}(f:Nat)(h:aY e vs l):aY e vs (Oi f l):=by
 cases l with
 |own g=>
  simp only [Oi];cases eJ g f
  ·exact h
  ·obtain ⟨v,rfl,hv,_⟩:=h;exact ⟨v,rfl,hv⟩
 |_=>exact h
theorem HC (f:Nat)(l:aJ):kw (· ≠f) (Oi f l):=by intro g hg;cases l<;>simp [Oi] at hg;rename_i g';cases hb:eJ g' f<;>simp [hb] at hg;subst hg;intro e;subst e;simp [eH] at hb
theorem aY.S0 {vs:List Value}{l:aJ}(f:List Nat)(h:aY e vs l):aY e vs (Q5 f l):=by
 cases l with
 |own g=>
  simp only [Q5];cases bL f g
  ·obtain ⟨v,rfl,hv,_⟩:=h;exact ⟨v,rfl,hv⟩
  ·exact h
 |_=>exact h
theorem Q7 (f:List Nat)(l:aJ):kw (· ∈f) (Q5 f l):=by intro g hg;cases l<;>simp [Q5] at hg;rename_i g';cases hb:bL f g'<;>simp [hb] at hg;subst hg;exact (bU _ _).1 hb
theorem aC.map {g:aJ->aJ}(hg: ∀vs l,aY e vs l->aY e vs (g l)){cs:List aJ}: ∀{vs:List Value},aC e vs cs->aC e vs (cs.map g):=by
 induction cs with
 |nil=>intro vs h;exact h
 |cons l r ih=>intro vs h;obtain ⟨v,w,rfl,h1,h2⟩:=h;exact ⟨v,w,rfl,hg _ _ h1,ih h2⟩
theorem ah.adt {v:Value}{l:aJ}(hl: ∀x,l≠ .hs x)(hu:l≠ .un):ah e v (.sc l)↔aY e [v] l:=by cases l<;>simp_all [ah]
theorem ah.kill {v:Value}{s:Slot}(f:Nat)(h:ah e v s):ah e v (BK f s):=by
 cases s with
 |sc l=>
  cases l with
  |own g=>
   simp only [BK,Oi];cases eJ g f
   ·exact h
   ·simp [ah]
  |_=>exact h
 |ag cs=>simp only [BK,ah] at h⊢;obtain ⟨arr,h1,h2⟩:=h;exact ⟨arr,h1,h2.map (λ_ _=>aY.kill f)⟩
 |box cs=>simp [ah] at h
 |ep g i o b cs=>
  simp only [BK];cases eJ g f
  ·exact h
  ·simp [ah]
 |_=>exact h
theorem Wz (f:Nat)(T:Nat->Prop)(s:Slot)(hT:gQ (λ_=>True) T s):gQ (· ≠f) T (BK f s):=by
 cases s with
 |sc l=>exact HC f l
 |ag cs=>intro l hl;obtain ⟨x,_,rfl⟩:=adv.1 hl;exact HC f x
 |ep g i o b cs=>
  simp only [BK];cases hb:eJ g f
  ·simp only [cond_false,gQ];intro e;subst e;simp [eH] at hb
  ·simp [gQ,kw]
 |ptr r o=>exact hT
 |hp r o i=>exact hT
 |_=>trivial
theorem ah.S0 {v:Value}{s:Slot}(f:List Nat)(h:ah e v s):ah e v (Kg f s):=by
 cases s with
 |sc l=>
  cases l with
  |own g=>
   simp only [Kg,Q5];cases bL f g
   ·simp [ah]
   ·exact h
  |_=>exact h
 |ag cs=>simp only [Kg,ah] at h⊢;obtain ⟨arr,h1,h2⟩:=h;exact ⟨arr,h1,h2.map (λ_ _=>aY.S0 f)⟩
 |box cs=>simp [ah] at h
 |_=>exact h
end
def bB (key:Nat->Nat) (φ:Ph)(size:Nat):List Value->List MV->Prop
 |vs,[]=>vs=[]
 |vs,x::xs=> ∃v r,vs=v++r/\v.length=size/\nu key φ v x/\bB key φ size r xs
structure bR where
 In:Nat->Prop
 cJ:List Nat
 cV:List Nat
 T:Nat->Value
 cov:Prop
 Pr:Nat->Prop
instance:CoeFun bR (λ_=>Nat->Prop):=⟨bR.In⟩
instance:Coe bR (Nat->Prop):=⟨bR.In⟩
theorem Oj {a b c:Prop}(h:(a/\b)\/c)(hn: ¬a):c:=h.resolve_left λh=>hn h.1
def bR.nc (Z:bR):bR:={Z with cov:=False}
def bR.plain (I:Nat->Prop):bR:=⟨I,[],[],λ_=>undef,False,λ_=>True⟩
def bR.bz (Z:bR)(t:Nat):bR:={Z with In:=λb=>(t∈Z.cJ/\Z.Pr b)\/Z.In b}
def bR.fz (Z:bR)(f:Nat):bR:={Z with In:=λb=>(f∈Z.cV/\Z.Pr b)\/Z.In b,cov:=f∈Z.cV}
def EY:Kd->MV->Bool
 | .b,.b _=>true
 | .i k,.i k' _=>decide (k'=k)
 | .s,.s _=>true
 | .h,.h _=>true
 |_,_=>false
def dR:List Kd->List MV->Bool
 |[],[]=>true
 |k::ks,m::ms=>EY k m&&dR ks ms
 |_,_=>false
def EO:MV->List Value
 | .b x=>[.bool x]
 | .i k n=>[.int k n]
 | .s l=>[.string ⟨l.toArray⟩]
 | .h x=>bM x
 |_=>[]
def gn (st:Bool)(ks:List MV):Value:=match st,ks with
 |false,[.h x]=> .agg (bM x).toArray
 |false,[.b x]=> .bool x
 |false,[.i k n]=> .int k n
 |false,[.s l]=> .string ⟨l.toArray⟩
 |_,ks=> .agg (ks.flatMap EO).toArray
def Bs (b:Bool)(m:MV):Value:=match b,m with
 |true,.b x=> .bool x
 |false,.i .i64 n=> .int .i64 n
 |_,_=>undef
def Q8 (b:Bool)(m:MV):Bool:=match b,m with
 |true,.b x=>true
 |false,.i .i64 n=>true
 |_,_=>false
def WA (s:MS)(x:MapEntry)(m:MV)(i:Nat):Prop:=x.born=i/\ ∃ks v,m= .ej [.agg ks,v]/\dR s.lay ks=true/\x.key=gn s.st ks/\Q8 s.b v=true/\x.val=Bs s.b v
structure rQ (s:MS) (es:Array MapEntry) (clock:Nat) (ms:List MV):Prop where
 size:es.size=ms.length
 clock:clock=ms.length
 ZF: ∀(i:Nat) x m,es[i]? =some x->ms[i]? =some m->WA s x m i
def kT (e:Env)(o:Obj)(cs:List aJ):Prop:=match o with
 | .cells arr _ z=>z=(0,0)/\aC e arr.toList cs
 | .map es clock=> ∃s ms,cs=[.mp s ms]/\De s=false/\rQ s es clock ms
 | .stringIter x pos=>cs=[.mp MS.it [.s x.data.toList,.i .i64 pos]]
 |_=>False
def HD (cs:List aJ)(b:Nat):Value:=bif mH cs then .map (some b) else .pointer (some ⟨b,0,none⟩)
structure vf (Z:bR) (e:Env) (w:World) (bx:Nat) (cs:List aJ):Prop where
 cP:Z.In bx
 obj: ∃o,w.heap[bx]? =some o/\kT e o cs
 free: ∀off,e.φ bx off=none
theorem kT.on {S T:Nat->Prop} {e e':Env}(h:n9 S T e e'){o:Obj}{cs:List aJ}(hl: ∀l∈cs,kw S l)(hr:kT e o cs):kT e' o cs:=by
 cases o with
 |cells arr T z=>exact ⟨hr.1,hr.2.on h hl⟩
 |map es clock=>exact hr
 |stringIter x pos=>exact hr
 |_=>exact hr.elim
theorem MO {cs:List aJ}(h:gM cs=true): ∃s ms,cs=[.mp s ms]:=by
 unfold gM at h;split at h
 ·exact ⟨_,_,rfl⟩
 ·cases h
theorem kT.cells {e:Env}{o:Obj}{cs:List aJ}(hr:kT e o cs)(hm:gM cs=false): ∃arr T,o= .cells arr T (0,0)/\aC e arr.toList cs:=by
 cases o with
 |cells arr T z=>obtain ⟨rfl,h⟩:=hr;exact ⟨arr,T,rfl,h⟩
 |map es clock=>obtain ⟨s,ms,rfl,_⟩:=hr;simp [gM] at hm
 |stringIter x pos=>rw [show cs=_ from hr] at hm;simp [gM] at hm
 |_=>exact hr.elim
theorem Dj {cs:List aJ}(h:gM cs=false):mH cs=false:=by
 unfold mH;split
 ·simp [gM] at h
 ·rfl
theorem OL (g:aJ->aJ)(h1: ∀s es,g (.mp s es)= .mp s es)(h2: ∀l,(∀s es,l≠ .mp s es)-> ∀s es,g l≠ .mp s es)(cs:List aJ):mH (cs.map g)=mH cs:=by
 cases cs with
 |nil=>rfl
 |cons l r=>
  cases r with
  |nil=>
   by_cases hl: ∃s es,l= .mp s es
   ·obtain ⟨s,es,rfl⟩:=hl;simp [h1,mH]
   ·have EZ: ∀s es,l≠ .mp s es:=λs es e=>hl ⟨s,es,e⟩;have hg:=h2 l EZ;simp only [OF,afA];have a:mH [l]=false:=by cases l<;>simp_all [mH]
    have b:mH [g l]=false:=by cases hq:g l<;>simp_all [mH]
    rw [a,b]
  |cons x y=>cases hl:l<;>simp [mH]
theorem vf.cells {Z:bR}{e:Env}{w:World}{bx:Nat}{cs:List aJ}(h:vf Z e w bx cs)(hm:gM cs=false): ∃arr T,w.heap[bx]? =some (.cells arr T (0,0))/\aC e arr.toList cs:=by obtain ⟨o,h1,h2⟩:=h.obj;obtain ⟨arr,T,rfl,h3⟩:=h2.cells hm;exact ⟨arr,T,h1,h3⟩
theorem Q9 {cs:List aJ}(hm:mH cs=false)(b:Nat):HD cs b= .pointer (some ⟨b,0,none⟩):=by simp [HD,hm]
theorem vZ {cs:List aJ}(hm:gM cs=false)(b:Nat):HD cs b= .pointer (some ⟨b,0,none⟩):=Q9 (Dj hm) b
theorem WB {cs:List aJ}(hm:mH cs=true)(b:Nat):HD cs b= .map (some b):=by simp [HD,hm]
theorem kT.map {e:Env}{g:aJ->aJ}(hg: ∀vs l,aY e vs l->aY e vs (g l))(hm: ∀s es,g (.mp s es)= .mp s es){o:Obj}{cs:List aJ}(hr:kT e o cs):kT e o (cs.map g):=by
 cases o with
 |cells arr T z=>exact ⟨hr.1,hr.2.map hg⟩
 |map es clock=>obtain ⟨s,ms,rfl,h2⟩:=hr;exact ⟨s,ms,by simp [hm],h2⟩
 |stringIter x pos=>rw [show cs=_ from hr];show aeZ g _=_;simp [hm]
 |_=>exact hr.elim
theorem Ra (f:Nat)(cs:List aJ):mH (cs.map (Oi f))=mH cs:=OL _ (λ_ _=>rfl) (λl hl s es=>by cases l<;>simp_all [Oi];rename_i g;cases eJ g f<;>simp) cs
theorem adu (f:List Nat)(cs:List aJ):mH (cs.map (Q5 f))=mH cs:=OL _ (λ_ _=>rfl) (λl hl s es=>by cases l<;>simp_all [Q5];rename_i g;cases bL f g<;>simp) cs
structure dW (c:Ctx) (Z:bR) (e:Env) (w:World) (v:Value) (o:pH):Prop where
 row: ∃I cells,c.ti o.ty=some I/\I.dp=[]/\w.ownsRow 0 o.ty I.size v o.xs.length cells/\bB e.key e.φ I.size cells o.xs/\ ∀bx,v.ownBlock=some bx->Z.In bx/\(∀off u,e.φ bx off=some u->o.eX=true/\off<o.xs.length *I.size)/\(Z.cov->o.eX=true-> ∀j,j<cells.length->e.φ bx j=cells[j]?)
def tied (Z:bR)(t:Nat)(v:Value)(cs:List aJ)(b:Nat):Prop:=(zu t=false->v=HD cs b)/\(zu t=true->posOf t∈Z.cJ/\Z.T (posOf t)= .pointer (some ⟨b,Ox t,none⟩))
theorem tied.mH {Z:bR}{t:Nat}{v:Value}{cs kh:List aJ}{b:Nat}(h:tied Z t v cs b)(hm:mH kh=mH cs):tied Z t v kh b:=⟨λhp=>by rw [h.1 hp];simp [HD,hm],h.2⟩
theorem tied.own {Z:bR}{t:Nat}{v:Value}{cs:List aJ}{b:Nat}(hp:zu t=false)(h:v=HD cs b):tied Z t v cs b:=⟨λ_=>h,λhq=>by rw [hp] at hq;cases hq⟩
def cz (Z:bR)(e:Env)(w:World)(t:Nat)(v:Value):Slot->Prop
 | .box cs=>tied Z t v cs (e.B t)/\vf (Z.bz t) e w (e.B t) cs
 |s=>ah e v s
def cS (fr:Fr):Slot->Prop
 | .ptr r _=>di (aw fr r)=true
 | .hp r _ _=>di (aw fr r)=true
 | .zC r=>di (aw fr r)=true
 |_=>True
structure cc (c:Ctx) (Z:bR) (e:Env) (st:St) (a:Act) (w:World):Prop where
 defers:a.defers=[]/\st.cJ=Z.cJ/\st.cV=Z.cV/\ ∀t∈Z.cJ,a.tmps.getD t undef=Z.T t
 size:a.tmps.size=c.n
 m:e.m=st.bn
 key:e.key=c.key
 nodup:(aV st.fr).Nodup
 slot: ∀t,cz Z e w t (a.tmps.getD t undef) (aw st.fr t)
 root: ∀t,cS st.fr (aw st.fr t)
 jA: ∀f o,aT st.bn f=some o->dW c (Z.fz f) e w (e.E f) o
 bb: ∀t t' cs kh,aw st.fr t= .box cs->aw st.fr t'= .box kh->t≠t'->e.B t≠e.B t'
 bf: ∀t cs f o,aw st.fr t= .box cs->aT st.bn f=some o->(e.E f).ownBlock≠some (e.B t)
 ff: ∀f f' o o' k,aT st.bn f=some o->aT st.bn f'=some o'->(e.E f).ownBlock=some k->(e.E f').ownBlock=some k->f=f'
 pM: ∀b o v,e.φ b o=some v->w.cell? ⟨b,o,none⟩=some v
 cP: ∀b,w.heap.size<=b->Z.In b
def Rest (w w':World):Prop:=w'.os=w.os/\w'.tape=w.tape/\w'.output=w.output/\ ∀a,w'.frozen? a=w.frozen? a
theorem Rest.refl (w:World):Rest w w:=⟨rfl,rfl,rfl,λ_=>rfl⟩
theorem Rest.trans {w w' AO:World}(h:Rest w w') (h':Rest w' AO):Rest w AO:=⟨h'.1.trans h.1,h'.2.1.trans h.2.1,h'.2.2.1.trans h.2.2.1,λa=>(h'.2.2.2 a).trans (h.2.2.2 a)⟩
theorem Rest.alloc (w:World)(cs:Array Value)(t:TypeId):Rest w (w.alloc (.cells cs t)):=by
 refine ⟨rfl,rfl,rfl,λa=> ?_⟩;by_cases h:a.block=w.heap.size
 ·have e1:(w.alloc (.cells cs t)).heap[a.block]? =some (.cells cs t (0,0)):=by rw [h];exact ki w _
  have e2:w.heap[a.block]? =none:=by rw [h];simp
  simp [afu,e1,e2]
 ·exact World.frozen?_alloc_old _ _ _ h
theorem Rest.setRow (w:World)(g:Nat)(cs:Array Value):Rest w (w.setRow g cs):=by
 refine ⟨rfl,rfl,rfl,λa=> ?_⟩;by_cases h:a.block=g
 ·unfold afu afK;simp only [Array.getElem?_modify,h,if_true];cases hg:w.heap[g]? with
  |none=>rfl
  |some o=>cases o<;>rfl
 ·exact World.frozen?_of_block (setRow_other _ _ _ _ h)
structure eF (w w':World):Prop where
 size:w.heap.size<=w'.heap.size
 v8: ∀b,b<w.heap.size->w'.heap[b]? =w.heap[b]?
 rest:Rest w w'
theorem bD {w:World}{b:Nat}{x:Obj}(h:w.heap[b]? =some x):b<w.heap.size:=(Array.getElem?_eq_some_iff.1 h).1
theorem eF.cell {w w':World}(g:eF w w'){ad:Addr}{v:Value}(h:w.cell? ad=some v):w'.cell? ad=some v:=by have hl:=aaS w ad h;rw [aba (g.v8 ad.block hl)];exact h
structure Trans (Z:Nat->Prop) (φ:Ph) (w:World) (φ':Ph) (w':World):Prop where
 ph:sR φ φ'
 heap: ∀b,¬Z b->b<w.heap.size->w'.heap[b]? =w.heap[b]?
 free: ∀b o,¬Z b->φ' b o=φ b o
 size:w.heap.size<=w'.heap.size
 rest:Rest w w'
theorem Trans.refl (Z:Nat->Prop) (φ:Ph)(w:World):Trans Z φ w φ w:=⟨.refl φ,λ_ _ _=>rfl,λ_ _ _=>rfl,aas _,.refl _⟩
theorem Trans.trans {Z:Nat->Prop} {φ φ' φ'':Ph} {w w' AO:World}(h:Trans Z φ w φ' w') (h':Trans Z φ' w' φ'' AO):Trans Z φ w φ'' AO:=⟨h.ph.trans h'.ph,λb hb hl=>(h'.heap b hb (ad9 hl h.size)).trans (h.heap b hb hl),λb o hb=>(h'.free b o hb).trans (h.free b o hb),acv h.size h'.size,h.rest.trans h'.rest⟩
def qS (Z:bR)(e:Env)(w:World)(st:St)(v:Value):Slot->Prop
 | .box cs=> ∃bx,v=HD cs bx/\vf Z e w bx cs/\(∀t kh,aw st.fr t= .box kh->e.B t≠bx)/\(∀f o,aT st.bn f=some o->(e.E f).ownBlock≠some bx)
 |s=>ah e v s/\cS st.fr s
section
variable {c:Ctx}{Z:bR}{e:Env}{st:St}{a:Act}{w:World}
theorem ah.const {v:Value}:ah e v (AM v):=by
 unfold AM;split<;>simp only [ah,aY,MV.one]<;> first
   |exact ⟨trivial,.b _⟩
   |exact ⟨trivial,.i _ _⟩
   |exact ⟨trivial,.s _⟩
   |exact ⟨trivial,.raw _ rfl⟩
theorem cc.eval (h:cc c Z e st a w)(x:Operand):ah e (a.eval x) (aM c st x)/\cS st.fr (aM c st x):=by
 cases x with
 |tmp t=>
  have hs:=h.slot t;have hr:=h.root t;simp only [Act.eval,aM];cases MP:plk c.par t with
  |some q=>
   simp only;cases hq:zu q&&eJ (posOf q) t with
   |false=>exact ⟨by simp [ah],trivial⟩
   |true=>
    simp only [cond_true];simp only [aaR] at hq;have hqt:=sh hq.2;have hsq:=h.slot q;split
    ·rename_i cs hfq;rw [hfq] at hsq;cases hm:gM cs with
     |true=>exact ⟨by simp [ah],trivial⟩
     |false=>obtain ⟨k1,k2⟩:=hsq.1.2 hq.1;refine ⟨?_,by simp [cS,hfq,di]⟩;show a.tmps.getD t undef=_;rw [<-hqt,h.defers.2.2.2 _ k1,k2]
    ·exact ⟨by simp [ah],trivial⟩
  |none=>
  simp only;generalize hf:aw st.fr t=s at hs hr;cases s<;>simp only [cz] at hs<;>try exact ⟨hs,hr⟩
  ·rename_i cs;cases hpt:zu t with
   |true=>simp only [cond_true];exact ⟨by simp [ah],trivial⟩
   |false=>
   simp only [cond_false];cases hm:mH cs with
   |true=>simp only [hm,cond_true,ah,cS,hf,di];exact ⟨by rw [hs.1.1 hpt,WB hm],trivial⟩
   |false=>simp only [hm,cond_false,ah,cS,hf,di];exact ⟨by rw [hs.1.1 hpt,Q9 hm],trivial⟩
 |const v=>refine ⟨ah.const,?_⟩;simp only [aM];unfold AM;split<;>trivial
 |func f=>simp only [Act.eval,aM,ah,aY,MV.one,cS,and_true,true_and];exact .func f _ #[] [] (by rw [h.key]) (by simpa using jB.nil) (by simp)
 |global g=>simp [aM,ah,cS]
end
theorem Act.zJ {a:Act}{d t:Nat}{v:Value}(hd:d<a.tmps.size):(a.put (some d) v).tmps.getD t undef=if t=d then v else a.tmps.getD t undef:=by
 simp only [Act.put,Array.getD_eq_getD_getElem?,Array.getElem?_setIfInBounds];by_cases h:d=t
 ·subst h;simp [hd]
 ·have h': ¬t=d:=λe=>h e.symm;simp [h,h']
theorem WC {fr:Fr}{s:Slot}(h:cS fr s):gQ (λ_=>True) (λr=>di (aw fr r)=true) s:=by cases s<;>simp_all [cS,gQ,kw]
theorem MQ (r:Fr)(d:Nat)(s:Slot):aV (dg r d s)=if d∈aV r then aV r else aV r++[d]:=by
 induction r with
 |nil=>simp [dg,aV]
 |cons p r ih=>
  obtain ⟨k,x⟩:=p;simp only [dg,eH];by_cases h:k=d
  ·simp [h,aV]
  ·have h': ¬d=k:=λe=>h e.symm;have ih':aeZ Prod.fst (dg r d s)=if d∈aV r then aV r else aV r++[d]:=ih
   simp only [h,h',decide_false,cond_false,aV,OF,aa6,false_or,ih'];by_cases hm:d∈aV r
   ·have HE:d∈aeZ Prod.fst r:=hm;simp [hm,HE,aV]
   ·have HE:d∉aeZ Prod.fst r:=hm;simp [hm,HE,aV]
theorem fP {r:Fr}{d:Nat}{s:Slot}(h:(aV r).Nodup):(aV (dg r d s)).Nodup:=by
 rw [MQ];by_cases hm:d∈aV r
 ·simpa [hm] using h
 ·simp only [hm,if_false];exact List.nodup_append.2 ⟨h,by simp,by intro x hx y hy;simp at hy;subst hy;intro e;subst e;exact hm hx⟩
section
variable {c:Ctx}{Z:bR}{e:Env}{st:St}{a:Act}{w:World}{R:Type}{K:St->Option R}{r:R}
def Env.Dk (e:Env)(d bx:Nat):Env:={e with B:=λt=>if t=d then bx else e.B t}
theorem vf.env {e e':Env}{bx:Nat}{cs:List aJ}(h:vf Z e w bx cs)(hk:e'.key=e.key)(hp:e'.φ=e.φ)(hE:e'.E=e.E)(hm:e'.m=e.m):vf Z e' w bx cs:=by refine ⟨h.cP,?_,λoff=>by rw [hp];exact h.free off⟩;obtain ⟨o,h1,h2⟩:=h.obj;refine ⟨o,h1,h2.on (S:=λ_=>True) (T:=λ_=>False) ⟨hk,by rw [hp];exact .refl _,by simp,?_⟩ (by intro l _ f _;trivial)⟩;intro f o ho _;exact ⟨o,by rw [<-hm];exact ho,by rw [hE],rfl⟩
theorem dW.env {e e':Env}{v:Value}{o:pH}(h:dW c Z e w v o)(hk:e'.key=e.key)(hp:e'.φ=e.φ):dW c Z e' w v o:=by obtain ⟨I,cells,h1,h2,h3,h4,h5⟩:=h.row;exact ⟨I,cells,h1,h2,h3,by rw [hk,hp];exact h4,by rw [hp];exact h5⟩
theorem vf.to {bx:Nat}{cs:List aJ}(h:vf Z e w bx cs)(t:Nat):vf (Z.bz t) e w bx cs:=⟨.inr h.cP,h.obj,h.free⟩
theorem dW.to {v:Value}{o:pH}{f:Nat}(h:dW c Z.nc e w v o)(hf:f∉Z.cV):dW c (Z.fz f) e w v o:=by obtain ⟨I,cells,h1,h2,h3,h4,h5⟩:=h.row;exact ⟨I,cells,h1,h2,h3,h4,λbx hb=>⟨.inr (h5 bx hb).1,(h5 bx hb).2.1,λhc=>absurd hc hf⟩⟩
theorem dM {d:Option Nat}{s:Slot}{v:Value}(h:cc c Z e st a w)(hv:qS Z e w st v s)(hK:bu c st d s K=some r): ∃e' b7,cc c Z e' b7 (a.put d v) w/\K b7=some r/\e'.φ=e.φ:=by
 cases d with
 |none=>exact ⟨e,st,h,hK,rfl⟩
 |some d=>
  simp only [bu] at hK;cases tP:zu d||(aaZ c.n d||di (aw st.fr d)) with
  |true=>simp [tP] at hK
  |false=>
   obtain ⟨akG,hb⟩:=abb.1 tP;simp only [tP,cond_false,wr] at hK;cases hp:bL st.cJ d with
   |true=>simp [hp] at hK
   |false=>
    simp only [hp,cond_false,force_eq,oK] at hK;simp only [abb] at hb;have hdn:d<a.tmps.size:=by
     rw [h.size];have:=hb.1;by_cases dO:d<c.n
     ·exact dO
     ·have:aaZ c.n d=true:=adI (by omega);simp_all
    have hdp:d∉Z.cJ:=by intro hm;rw [<-h.defers.2.1,<-bU,hp] at hm;cases hm
    have agt: ∀fr:Fr,(a.put (some d) v).defers=[]/\({st with fr:=fr}:St).cJ=Z.cJ/\({st with fr:=fr}:St).cV=Z.cV/\ ∀t∈Z.cJ,(a.put (some d) v).tmps.getD t undef=Z.T t:=by intro fr;refine ⟨h.defers.1,h.defers.2.1,h.defers.2.2.1,λt ht=> ?_⟩;rw [Act.zJ hdn,if_neg (by intro e;subst e;exact hdp ht)];exact h.defers.2.2.2 t ht
    have pN: ∀t,gQ (λ_=>True) (λr=>r≠d) (aw st.fr t):=by intro t;have:=WC (h.root t);generalize aw st.fr t=x at this;cases x<;>simp_all [gQ,kw]<;>(intro e;subst e;simp_all)
    by_cases hs: ∃cs,s= .box cs
    ·obtain ⟨cs,rfl⟩:=hs;obtain ⟨bx,rfl,sS,hnb,hnf⟩:=hv;have xF:n9 (λ_=>True) (λr=>r≠d) e (e.Dk d bx):=⟨rfl,.refl _,λr hr=>by simp [Env.Dk,hr],λf o ho _=>⟨o,ho,rfl,rfl⟩⟩
     refine ⟨e.Dk d bx,_,?_,hK,rfl⟩;refine ⟨agt _,by simpa [Act.put] using h.size,h.m,h.key,fP h.nodup,?_,?_,?_,?_,?_,?_,h.pM,h.cP⟩
     ·intro t;rw [Act.zJ hdn,cb];by_cases ht:t=d
      ·subst ht;simp only [if_true,cz,Env.Dk];exact ⟨.own akG rfl,(sS.to t).env rfl rfl rfl rfl⟩
      ·simp only [ht,if_false];have nv:=h.slot t;have rR:=pN t;generalize aw st.fr t=x at nv rR;cases x<;>simp only [cz] at nv⊢ <;>try exact nv.on xF rR
       simp only [Env.Dk,ht,if_false];exact ⟨nv.1,nv.2.env rfl rfl rfl rfl⟩
     ·intro t;simp only [cb];by_cases ht:t=d
      ·simp [ht,cS]
      ·simp only [ht,if_false];have rR:=h.root t;have Hf:=pN t;generalize aw st.fr t=x at rR Hf;cases x<;>simp_all [cS,cb,gQ]
     ·intro f o ho;exact (h.jA f o ho).env rfl rfl
     ·intro t t' fF qC h1 h2 dS;simp only [cb] at h1 h2;simp only [Env.Dk];by_cases ht:t=d
      ·by_cases Dl:t'=d
       ·exact absurd (ht.trans Dl.symm) dS
       ·simp only [Dl,if_false] at h2;simp only [ht,Dl,if_true,if_false];exact λe=>hnb t' qC h2 e.symm
      ·simp only [ht,if_false] at h1;by_cases Dl:t'=d
       ·simp only [ht,Dl,if_true,if_false];exact hnb t fF h1
       ·simp only [Dl,if_false] at h2;simp only [ht,Dl,if_false];exact h.bb t t' fF qC h1 h2 dS
     ·intro t fF f o h1 h2;simp only [cb] at h1;simp only [Env.Dk];by_cases ht:t=d
      ·simp only [ht,if_true];exact hnf f o h2
      ·simp only [ht,if_false] at h1⊢;exact h.bf t fF f o h1 h2
     ·exact h.ff
    ·have ZG:ah e v s/\cS st.fr s:=by cases s<;>simp_all [qS]
     refine ⟨e,_,?_,hK,rfl⟩;refine ⟨agt _,by simpa [Act.put] using h.size,h.m,h.key,fP h.nodup,?_,?_,h.jA,?_,?_,h.ff,h.pM,h.cP⟩
     ·intro t;rw [Act.zJ hdn,cb];by_cases ht:t=d
      ·simp only [ht,if_true];cases s<;>simp only [cz]<;>first|exact ZG.1|exact absurd ⟨_,rfl⟩ hs
      ·simp only [ht,if_false];exact h.slot t
     ·intro t;simp only [cb];by_cases ht:t=d
      ·simp only [ht,if_true];have hr:=ZG.2;cases s<;>simp only [cS,cb] at hr⊢
       ·rename_i r o;by_cases OM:r=d
        ·subst OM;simp_all
        ·simp only [OM,if_false];exact hr
       ·rename_i r;by_cases OM:r=d
        ·subst OM;simp_all
        ·simp only [OM,if_false];exact hr
       ·rename_i r o i;by_cases OM:r=d
        ·subst OM;simp_all
        ·simp only [OM,if_false];exact hr
      ·simp only [ht,if_false];have rR:=h.root t;have Hf:=pN t;generalize aw st.fr t=x at rR Hf;cases x<;>simp_all [cS,cb,gQ]
     ·intro t t' fF qC h1 h2 dS;simp only [cb] at h1 h2;by_cases ht:t=d
      ·simp only [ht,if_true] at h1;exact absurd ⟨_,h1⟩ hs
      ·by_cases Dl:t'=d
       ·simp only [Dl,if_true] at h2;exact absurd ⟨_,h2⟩ hs
       ·simp only [ht,Dl,if_false] at h1 h2;exact h.bb t t' fF qC h1 h2 dS
     ·intro t fF f o h1 h2;simp only [cb] at h1;by_cases ht:t=d
      ·simp only [ht,if_true] at h1;exact absurd ⟨_,h1⟩ hs
      ·simp only [ht,if_false] at h1;exact h.bf t fF f o h1 h2
end
end Dn
/-
  Operations that change no memory: moves, numbers, texts, places. Conditions: none.
-/
namespace Dn
open Go
def Out (c:Ctx)(Z:bR){R:Type}(K:St->Option R)(r:R) (φ:Ph)(w:World) (a':Act) (w':World):Prop:=∃e' b7,cc c Z e' b7 a' w'/\Trans Z φ w e'.φ w'/\K b7=some r
section
variable {P:Program}{c:Ctx}{Z:bR}{e:Env}{st:St}{a:Act}{w:World}{R:Type}{K:St->Option R}{r:R}{Q:Exit->Act->World->Prop}{o:Oper}
theorem qS.of {s:Slot}{v:Value}(h:ah e v s)(hr:cS st.fr s):qS Z e w st v s:=by cases s<;>first|exact ⟨h,hr⟩|(simp [ah] at h)
theorem fin {e':Env}{b7:St} {w':World}{s:Slot}{v:Value}(cy:(execOp a.eval o).run P w= .ok (.value v) w')(hs:cc c Z e' b7 a w')(ht:Trans Z e.φ w e'.φ w')(hv:qS Z e' w' b7 v s)(hK:bu c b7 o.dst s K=some r):o.wp P a w (Out c Z K r e.φ w) Q:=by unfold afL;rw [cy,adD];obtain ⟨e2,dV,h1,h2,h3⟩:=dM hs hv hK;exact ⟨e2,dV,h1,by rw [h3];exact ht,h2⟩
theorem Dm {e':Env}{b7:St} {w':World}(cy:(execOp a.eval o).run P w= .ok .skip w')(hs:cc c Z e' b7 a w')(ht:Trans Z e.φ w e'.φ w')(hK:bu c b7 o.dst (.sc .un) K=some r):o.wp P a w (Out c Z K r e.φ w) Q:=by unfold afL;rw [cy,Oper.upon_skip];obtain ⟨e2,dV,h1,h2,h3⟩:=dM (v:=undef) hs (by simp [qS,ah,cS]) hK;exact ⟨e2,dV,h1,by rw [h3];exact ht,h2⟩
theorem Ua {e':Env}{b7:St} {w':World}{s:Slot}{v:Value}(hg:eF w w')(cy:(execOp a.eval o).run P w= .ok (.value v) w')(hs:cc c Z e' b7 a w')(ht:Trans Z e.φ w e'.φ w')(hv:qS Z e' w' b7 v s)(hK:bu c b7 o.dst s K=some r):o.wp P a w (λa' w'=>eF w w'/\Out c Z K r e.φ w a' w') Q:=by unfold afL;rw [cy,adD];obtain ⟨e2,dV,h1,h2,h3⟩:=dM hs hv hK;exact ⟨hg,e2,dV,h1,by rw [h3];exact ht,h2⟩
def Rd (P:Program)(c:Ctx)(Z:bR){R:Type}(K:St->Option R)(r:R)(e:Env)(a:Act)(w:World)(o:Oper)(G:World->Prop):Prop:=∃v,(∀w',G w'->(execOp a.eval o).run P w'= .ok (.value v) w')/\Out c Z K r e.φ w (a.put o.dst v) w
theorem Rd.wp {G:World->Prop}(h:Rd P c Z K r e a w o G)(hg:G w):o.wp P a w (Out c Z K r e.φ w) Q:=by obtain ⟨v,h1,h2⟩:=h;unfold afL;rw [h1 w hg,adD];exact h2
theorem Rb {G:World->Prop} {e':Env}{b7:St}{s:Slot}{v:Value}(cy: ∀w':World,G w'->(execOp a.eval o).run P w'= .ok (.value v) w')(hs:cc c Z e' b7 a w)(ht:Trans Z e.φ w e'.φ w)(hv:qS Z e' w b7 v s)(hK:bu c b7 o.dst s K=some r):Rd P c Z K r e a w o G:=by obtain ⟨e2,dV,h1,h2,h3⟩:=dM hs hv hK;exact ⟨v,cy,e2,dV,h1,by rw [h3];exact ht,h2⟩
theorem jV {s:Slot}{v:Value}(h:cc c Z e st a w)(cy: ∀w':World,(execOp a.eval o).run P w'= .ok (.value v) w')(hv:ah e v s)(hr:cS st.fr s)(hK:bu c st o.dst s K=some r):Rd P c Z K r e a w o (λ_=>True):=Rb (λw' _=>cy w') h (.refl _ _ _) (.of hv hr) hK
theorem zK {v:Value}{x:Bool}(h:ah e v (.sc (.p (.b x)))):v= .bool x:=by simp only [ah,aY] at h;obtain ⟨_,h⟩:=h;generalize hv:[v]=vs at h;cases h;simpa using hv
theorem mg {v:Value}{k:IntKind}{n:Int}(h:ah e v (.sc (.p (.i k n)))):v= .int k n:=by simp only [ah,aY] at h;obtain ⟨_,h⟩:=h;generalize hv:[v]=vs at h;cases h;simpa using hv
theorem FR {v:Value}{l:List UInt8}(h:ah e v (.sc (.p (.s l)))): ∃b:ByteArray,v= .string b/\l=b.data.toList:=by simp only [ah,aY] at h;obtain ⟨_,h⟩:=h;generalize hv:[v]=vs at h;cases h;exact ⟨_,by simpa using hv,rfl⟩
theorem zd (x:Bool):ah e (.bool x) (.sc (.p (.b x))):=by simp only [ah,aY];exact ⟨rfl,.b x⟩
theorem sU (k:IntKind)(n:Int):ah e (.int k n) (.sc (.p (.i k n))):=by simp only [ah,aY];exact ⟨rfl,.i k n⟩
theorem WD (b:ByteArray):ah e (.string b) (.sc (.p (.s b.data.toList))):=by simp only [ah,aY];exact ⟨rfl,.s b⟩
theorem xO {v u:Value}(h:ah e v (.sc (.p (.raw u)))):v=u:=by simp only [ah,aY] at h;obtain ⟨_,h⟩:=h;generalize hv:[v]=vs at h;cases h;simpa using hv
theorem HF (u:Value)(h:u.oneCell'=true):ah e u (.sc (.p (.raw u))):=by simp only [ah,aY];exact ⟨rfl,.raw u h⟩
theorem MR {x:Operand}(ho:o.op= .move x\/o.op= .assign x)(h:cc c Z e st a w)(hK:bu c st o.dst (aM c st x) K=some r): Rd P c Z K r e a w o (λ_=>True):=by obtain ⟨h1,h2⟩:=h.eval x;refine jV h ?_ h1 h2 hK;rcases ho with ho|ho<;>simp [execOp,ho]
theorem ON {x:Operand}(ho:o.op= .nilCheck x)(h:cc c Z e st a w)(hK:adm (aM c st x) (λs=>bu c st o.dst s K)=some r):Rd P c Z K r e a w o (λ_=>True):=by
 obtain ⟨h1,h2⟩:=h.eval x;unfold adm at hK;split at hK
 ·rename_i jC;rw [jC] at h1 h2;refine jV h ?_ (v:=a.eval x) h1 h2 hK;simp only [ah] at h1;simp [execOp,ho,h1]
 ·rename_i jC;rw [jC] at h1 h2;refine jV h ?_ (v:=a.eval x) h1 h2 hK;simp only [ah] at h1;obtain ⟨bx,q,vs,FU,h3⟩:=h1;simp [execOp,ho,FU]
 ·simp at hK
theorem aab {x y z:Operand}(ho:o.op= .pick x y z)(h:cc c Z e st a w)(hK:Wc (aM c st x) (aM c st y) (aM c st z) (λs=>bu c st o.dst s K)=some r):Rd P c Z K r e a w o (λ_=>True):=by
 obtain ⟨hx,_⟩:=h.eval x;obtain ⟨hy,hy2⟩:=h.eval y;obtain ⟨hz,hz2⟩:=h.eval z;have cy: ∀v,a.eval x= .bool v-> ∀w:World,(execOp a.eval o).run P w= .ok (.value (if v then a.eval y else a.eval z)) w:=by intro v hv w;simp [execOp,ho,hv,asBool]
 unfold Wc at hK;split at hK
 ·rename_i v hv;have hxv:=zK (by rw [hv] at hx;exact hx);have hr:=cy v hxv;split at hK
  ·rename_i p q hp hq;rw [hp] at hy;rw [hq] at hz;simp only [zK hy,zK hz] at hr;refine jV h hr ?_ (s:= .sc (.p (.b (bif v then p else q)))) trivial hK;cases v
   ·exact zd q
   ·exact zd p
  ·cases v
   ·exact jV h hr hz hz2 hK
   ·exact jV h hr hy hy2 hK
 ·simp at hK
theorem aac {op:UnOp}{ty:TypeId}{x:Operand}(ho:o.op= .unOp op ty x)(h:cc c Z e st a w)(hK:unK op (aM c st x) (λs=>bu c st o.dst s K)=some r):Rd P c Z K r e a w o (λ_=>True):=by
 obtain ⟨hx,_⟩:=h.eval x;generalize aM c st x=s at hx hK;unfold unK at hK;split at hK
 ·refine jV h ?_ (zd _) trivial hK;simp [execOp,ho,zK hx,Op.unary]
 ·refine jV h ?_ (sU _ _) trivial hK;simp [execOp,ho,mg hx,Op.unary,adK]
 ·simp at hK
end
end Dn
/-
  The type table; numbers, texts, places, loads. Conditions: none.
-/
namespace Dn
open Go
def GM:List Kd->Nat
 |[]=>0
 | .h::r=>32+GM r
 |_::r=>1+GM r
def tQ (ti:Nat->Option TI)(P:Program)(I:TI)(z:Option Value):TypeDesc->Prop
 | .struct fs=>I.st=true/\I.dp=[]/\(0<I.size/\GM I.lay=I.size)/\fs.toList.map (·.offset)=I.Ow/\fs.toList.map (·.type)=I.TZ/\ (∀(k:Nat) (f:Field),fs[k]? =some f-> ∃J,ti f.type=some J/\J.dp=[]/\0<J.size)/\ ∃cs,z=some (.agg cs)/\ve I.zero cs.toList=true/\cs.size=I.size
 | .tuple ts=>I.dp=ts.toList/\I.dp≠[]/\I.lay=[]/\I.st=false
 | .slice el=>I.st=false/\I.dp=[]/\I.size=1/\I.elem=el/\(∃E,ti el=some E/\E.dp=[]/\0<E.size)/\z=some (.slice none 0 0)/\I.zero=[.nil]/\(∃k,I.lay=[k]/\k= .l)
 | .array n el=>I.st=false/\I.dp=[]/\I.size=32/\n=32/\I.elem=el/\(∃i,P.underlying el=some (.int .u8)/\P.info? el=some i/\i.size=1)/\I.lay=[.h]/\I.zero=[.hs lp.zero]/\z=some (.agg (bM lp.zero).toArray)
 | .bool=>I.st=false/\I.dp=[]/\I.size=1/\I.lay=[.b]/\I.zero=[.p (.b false)]/\z=some (.bool false)
 | .int k=>I.st=false/\I.dp=[]/\I.size=1/\I.lay=[.i k]/\I.zero=[.p (.i k 0)]/\z=some (.int k 0)
 | .string=>I.st=false/\I.dp=[]/\I.size=1/\I.lay=[.s]/\I.zero=[.p (.s [])]/\ ∃b:ByteArray,z=some (.string b)/\b.data.toList=[]
 |_=>I.st=false/\I.dp=[]/\I.size=1/\I.lay=[.raw]/\ ∃v,z=some v/\v.oneCell'=true/\ve I.zero [v]=true
def qH (ti:Nat->Option TI)(P:Program)(t:Nat)(I:TI):Prop:=∃d i,P.underlying t=some d/\P.info? t=some i/\(I.dp=[]->i.size=I.size/\i.bytes=I.bytes)/\tQ ti P I i.zero d
def lV (P:Program)(ti:Nat->Option TI):Prop:= ∀t I,ti t=some I->qH ti P t I
section
variable {P:Program}{c:Ctx}{Z:bR}{e:Env}{st:St}{a:Act}{w:World}{R:Type}{K:St->Option R}{r:R}{Q:Exit->Act->World->Prop}{o:Oper}
theorem eY {x:Bool}{k:Option R}(h:ca x k=some r):x=true/\k=some r:=by
 cases x
 ·simp [ca] at h
 ·exact ⟨rfl,h⟩
theorem rq {α:Type}{x:Option α}{k:α->Option R}(h:bd x k=some r): ∃y,x=some y/\k y=some r:=by
 cases x with
 |none=>simp [bd] at h
 |some y=>exact ⟨y,rfl,h⟩
theorem OO {l:List MV}{i:Int}{k:MV->Option R}(h:idx l i k=some r):0<=i/\ ∃y,l[i.toNat]? =some y/\k y=some r:=by
 unfold idx adj at h;by_cases hi:0<=i
 ·simp only [hi,if_true] at h;cases hl:l[i.toNat]? with
  |none=>simp [hl] at h
  |some y=>exact ⟨hi,y,rfl,by simpa [hl] using h⟩
 ·simp [hi] at h
theorem qH.agg {ti:Nat->Option TI}{t:Nat}{I:TI}(h:qH ti P t I)(hc:I.dp=[]): (∃d,P.underlying t=some d/\d.isRow=true/\(I.st=true\/I.st=false/\I.size=32))\/(∃d,P.underlying t=some d/\d.isRow=false/\I.st=false/\I.size=1):=by
 obtain ⟨d,i,h1,h2,h3,h4⟩:=h;cases d<;>simp only [tQ] at h4<;>first
  |exact .inl ⟨_,h1,rfl,.inl h4.1⟩
  |exact .inl ⟨_,h1,rfl,.inr ⟨h4.1,h4.2.2.1⟩⟩
  |exact .inr ⟨_,h1,rfl,h4.1,h4.2.2.1⟩
  |exact absurd hc h4.2.1
theorem qH.info {ti:Nat->Option TI}{t:Nat}{I:TI}(h:qH ti P t I)(hc:I.dp=[]): ∃i,P.info? t=some i/\i.size=I.size/\i.bytes=I.bytes:=by obtain ⟨d,i,h1,h2,h3,h4⟩:=h;exact ⟨i,h2,h3 hc⟩
theorem b6 {t:Nat}{I:TI}(h:c.tv t=some I):c.ti t=some I/\I.dp=[]:=by
 unfold Ctx.tv at h;cases hc:c.ti t with
 |none=>simp [hc] at h
 |some J=>
  cases hj:J.dp with
  |nil=>simp [hc,hj] at h;subst h;exact ⟨rfl,hj⟩
  |cons x y=>simp [hc,hj] at h
theorem Rc {s t:TypeId}{x:Operand}{I:TI}(ho:o.op= .convert s t x)(hI:c.ti t=some I)(hT:lV P c.ti)(hs: ∃d,P.underlying s=some d){fk:Option FloatKind}(HG: ∀k,fk=some k->P.underlying t=some (.float k))(h:cc c Z e st a w)(hK:Wd I fk (aM c st x) (λs=>bu c st o.dst s K)=some r):Rd P c Z K r e a w o (λ_=>True):=by
 obtain ⟨hx,_⟩:=h.eval x;obtain ⟨ds,hds⟩:=hs;obtain ⟨d,i,h1,h2,h3,h4⟩:=hT t I hI;generalize aM c st x=s' at hx hK;unfold Wd at hK;split at hK
 ·rename_i k k' n jn Ok hl;have hd:d= .int k:=by cases d<;>simp only [tQ,hl,jn,Ok] at h4<;>simp_all
  subst hd;refine jV h ?_ (sU _ _) trivial hK;simp [execOp,ho,mg hx,convert,run_underlying hds,run_underlying h1,Conv.intToInt]
 ·rename_i l jn Ok hl;have hd:d= .string:=by cases d<;>simp only [tQ,hl,jn,Ok] at h4<;>simp_all
  subst hd;obtain ⟨b,hb,rfl⟩:=FR hx;refine jV h ?_ (WD b) trivial hK;simp [execOp,ho,hb,convert,run_underlying hds,run_underlying h1]
 ·rename_i k x jn Ok hl;have hd:d= .int k:=by cases d<;>simp only [tQ,hl,jn,Ok] at h4<;>simp_all
  subst hd;obtain ⟨n,hn,hK⟩:=rq hK;obtain ⟨hr,hK⟩:=eY hK;have hr:=of_decide_eq_true hr;refine jV h ?_ (sU _ _) trivial hK;simp [execOp,ho,xO hx,convert,run_underlying hds,run_underlying h1,Conv.floatToInt,hn,hr]
 ·rename_i k n jn Ok hl;split at hK
  ·have FU:=HG _ rfl;refine jV h ?_ (HF _ rfl) trivial hK;simp [execOp,ho,mg hx,convert,run_underlying hds,run_underlying FU,Conv.intToFloat]
  ·simp at hK
 ·simp at hK
theorem aad {op:BinOp}{k:IntKind}{x y:Int}{m:MV}{t:TypeId}(hm:SU op k x y=some m): ∃v,(∀w:World,(binOp op t (.int k x) (.int k y)).run P w= .ok v w)/\ah e v (.sc (.p m)):=by
 cases op<;>simp only [SU,IN,reduceCtorEq] at hm<;>subst hm
 ·exact ⟨_,by simp [binOp,adK],sU _ _⟩
 ·exact ⟨_,by simp [binOp,adK],sU _ _⟩
 ·exact ⟨_,by simp [binOp,adK],sU _ _⟩
 ·exact ⟨.int k (QU k x y),λw=>by simp [binOp];rfl,sU _ _⟩
 ·exact ⟨.int k (bOr k x y),λw=>by simp [binOp];rfl,sU _ _⟩
 ·exact ⟨.int k (ET k x y),λw=>by simp [binOp];rfl,sU _ _⟩
 ·refine ⟨.bool (decide (x=y)),λw=> ?_,zd _⟩;simp [binOp,acR];rfl
 ·refine ⟨.bool (!decide (x=y)),λw=> ?_,zd _⟩;simp [binOp,acR];rfl
 ·exact ⟨.bool (decide (x<y)),by simp [binOp,acR],zd _⟩
 ·exact ⟨.bool (decide (x<=y)),by simp [binOp,acR],zd _⟩
 ·exact ⟨.bool (decide (y<x)),by simp [binOp,acR],zd _⟩
 ·exact ⟨.bool (decide (y<=x)),by simp [binOp,acR],zd _⟩
theorem toList_data (b:ByteArray):b.toList=b.data.toList:=by exact ByteArray.toList_eq b
theorem aae {op:BinOp}{x y:ByteArray}{m:MV}{t:TypeId}(hm:MG op x.data.toList y.data.toList=some m): ∃v,(∀w:World,(binOp op t (.string x) (.string y)).run P w= .ok v w)/\ah e v (.sc (.p m)):=by
 have akH:(x.data.toList==y.data.toList)=decide (x.data.toList=y.data.toList):=by rw [Bool.eq_iff_iff];simp
 cases op<;>simp only [MG,IN,reduceCtorEq] at hm<;>subst hm<;> exact ⟨_,λw=>by simp only [binOp,Op.stringOp,toList_data,akH];rfl,zd _⟩
theorem Ub (b:ByteArray)(n:Nat):b[n]? =b.data.toList[n]? :=by
 by_cases h:n<b.size
 ·have h2:n<b.data.toList.length:=by simpa using h
  rw [getElem?_pos b n h,IT h2];rfl
 ·have h2: ¬n<b.data.toList.length:=by simpa using h
  rw [getElem?_neg b n h,ace (by omega)]
theorem Cp (x:lp)(n:Nat)(h:n<32):(bM x)[n]? =some (.int .u8 ((x.l.getD n 0).toNat:Int)):=by
 have hl:n<x.l.length:=by rw [x.h];exact h
 simp [bM,aa1,List.getD,IT hl]
theorem agv {t:TypeId}{x y:Operand}{I:TI}(ho:o.op= .index t x y)(hI:c.ti t=some I)(hT:lV P c.ti)(h:cc c Z e st a w)(hK:ixK I (aM c st x) (aM c st y) (λs=>bu c st o.dst s K)=some r):Rd P c Z K r e a w o (λ_=>True):=by
 obtain ⟨hx,_⟩:=h.eval x;obtain ⟨hy,_⟩:=h.eval y;obtain ⟨d,i,h1,h2,h3,h4⟩:=hT t I hI;generalize aM c st x=sx at hx hK;generalize aM c st y=sy at hy hK;unfold ixK at hK;split at hK
 ·rename_i l k n jn hl;have hd:d= .string:=by cases d<;>simp only [tQ,hl,jn] at h4<;>simp_all
  subst hd;cases hc:decide ((0:Int)<=n/\n<(l.length:Int)) with
  |false=>simp [ca,hc] at hK
  |true=>
   simp only [ca,hc] at hK;obtain ⟨VK,Ol⟩:=of_decide_eq_true hc;obtain ⟨b,hb,rfl⟩:=FR hx;have dO:n.toNat<b.data.toList.length:=by omega
   refine jV h ?_ (sU .u8 ((b.data.toList.getD n.toNat 0).toNat:Int)) trivial hK;have hg:b[n.toNat]? =some (b.data.toList.getD n.toNat 0):=by rw [Ub,IT dO];simp [List.getD,IT dO]
   simp [execOp,ho,hb,mg hy,Instr.index,run_underlying h1,asIntOf,VK,hg]
 ·rename_i b k n jn hl;cases d<;>simp only [tQ,hl,jn] at h4<;>first|(exfalso;simp_all;done)|skip
  rename_i len el;cases hc:decide ((0:Int)<=n/\n<32) with
  |false=>simp [ca,hc] at hK
  |true=>
   simp only [ca,hc] at hK;obtain ⟨VK,Ol⟩:=of_decide_eq_true hc;simp only [ah] at hx;obtain ⟨_,_,_,rfl,_,⟨ie,hu,Db,zv⟩,_⟩:=h4;refine jV h ?_ (sU .u8 ((b.l.getD n.toNat 0).toNat:Int)) trivial hK;have hg:=Cp b n.toNat (by omega);have hg':(bM b).toArray[n.toNat]? =some (.int .u8 ((b.l.getD n.toNat 0).toNat:Int)):=by simpa using hg
   simp [execOp,ho,hx,mg hy,Instr.index,run_underlying h1,asIntOf,VK,Ol,aeX,isAgg,run_underlying hu,aa7,typeInfo,Db,zv,hg,hg']
 ·simp at hK
def MU (P:Program)(ti:Nat->Option TI):Prop:= ∀t I,ti t=some I->I.dp=[]-> ∀(e:Env) (w:World) (vx vy:Value) (sx sy:Slot) (b:Bool),ah e vx sx->ah e vy sy-> ga I.lay (aP sx)=true->ga I.lay (aP sy)=true->nX I.st sx=true->nX I.st sy=true->ku (aP sx) (aP sy)=some b-> (∀k n k' n',sx= .sc (.p (.i k n))->sy= .sc (.p (.i k' n'))->False)->(∀l l',sx= .sc (.p (.s l))->sy= .sc (.p (.s l'))->False)-> (afN t vx vy).run P w= .ok b w/\ ∀(x y:Operand) (op:BinOp),(eqGuard op t x y vx vy).run P w= .ok () w/\(op= .eql->binOp op t vx vy=(do pure (.bool (<-afN t vx vy))))/\(op= .neq->binOp op t vx vy=(do pure (.bool (!(<-afN t vx vy)))))
theorem WE {op:BinOp} {t t':TypeId}{x y:Operand}(ho:o.op= .binOp op t x y t')(h:cc c Z e st a w)(hE:MU P c.ti)(hK:adl (c.tv t) op (aM c st x) (aM c st y) (λs=>bu c st o.dst s K)=some r):Rd P c Z K r e a w o (λ_=>True):=by
 obtain ⟨hx,_⟩:=h.eval x;obtain ⟨hy,_⟩:=h.eval y;generalize hsx:aM c st x=sx at hx hK;generalize hsy:aM c st y=sy at hy hK;have cy: ∀v,(∀w:World,(binOp op t (a.eval x) (a.eval y)).run P w= .ok v w)->(∀cs,a.eval x≠ .agg cs)->a.eval x≠ .nilIface-> ∀w:World,(execOp a.eval o).run P w= .ok (.value v) w:=by
  intro v hv hna hni w;have hg:(eqGuard op t x y (a.eval x) (a.eval y)).run P w= .ok () w:=by
   generalize a.eval x=va at hna hni;generalize a.eval y=vb;have hm: ∀(u v:Value),u=va->(∀cs,u≠ .agg cs)->u≠ .nilIface->(eqGuard op t x y u v).run P w= .ok () w:=by
    intro u v _ h1 h2;cases u<;>first
     |exact absurd rfl h2
     |exact absurd rfl (h1 _)
     |(cases op<;>rfl)
   exact hm va vb rfl hna hni
  simp [execOp,ho,hg,hv]
 unfold adl at hK;split at hK
 ·rename_i k n k' n';have e1:=mg hx;have e2:=mg hy;split at hK
  ·cases hk:decide (k=k') with
   |false=>simp [hk] at hK
   |true=>
    have hk:=of_decide_eq_true hk;subst hk;simp only [decide_true,cond_true] at hK;cases hz:decide (n'=0) with
    |true=>simp [ca,hz] at hK
    |false=>simp only [ca,hz,aft] at hK;have hz:=of_decide_eq_false hz;refine jV h (cy _ ?_ (by simp [e1]) (by simp [e1])) (sU _ _) trivial hK;simp [binOp,e1,e2,Op.intDiv,hz]
  ·cases hk:decide (k=k') with
   |false=>simp [hk] at hK
   |true=>
    have hk:=of_decide_eq_true hk;subst hk;simp only [decide_true,cond_true] at hK;cases hz:decide (n'=0) with
    |true=>simp [ca,hz] at hK
    |false=>simp only [ca,hz,aft] at hK;have hz:=of_decide_eq_false hz;refine jV h (cy _ ?_ (by simp [e1]) (by simp [e1])) (sU _ _) trivial hK;simp [binOp,e1,e2,Op.intDiv,hz]
  ·cases hz:decide ((0:Int)<=n') with
   |false=>simp [ca,hz] at hK
   |true=>
    simp only [ca,hz] at hK;have hz:=of_decide_eq_true hz;refine jV h (cy _ ?_ (by simp [e1]) (by simp [e1])) (sU _ _) trivial hK;have: ¬n'<0:=by omega
    simp [binOp,e1,e2,Op.shift,this]
  ·cases hz:decide ((0:Int)<=n') with
   |false=>simp [ca,hz] at hK
   |true=>
    simp only [ca,hz] at hK;have hz:=of_decide_eq_true hz;refine jV h (cy _ ?_ (by simp [e1]) (by simp [e1])) (sU _ _) trivial hK;have: ¬n'<0:=by omega
    simp [binOp,e1,e2,Op.shift,this]
  ·cases hk:decide (k=k') with
   |false=>simp [hk] at hK
   |true=>
    have hk:=of_decide_eq_true hk;subst hk;simp only [decide_true,cond_true] at hK;cases hm:SU op k n n' with
    |none=>simp [hm] at hK
    |some m=>simp only [hm] at hK;obtain ⟨v,hv,hr⟩:=aad (P:=P) (e:=e) (t:=t) hm;exact jV h (cy v (by rw [e1,e2];exact hv) (by simp [e1]) (by simp [e1])) hr trivial hK
 ·rename_i l l';obtain ⟨b,hb,rfl⟩:=FR hx;obtain ⟨b',GN,rfl⟩:=FR hy;split at hK
  ·obtain ⟨hz,hK⟩:=eY hK
   ·have hz:=of_decide_eq_true hz;have hr:ah e (.string (b++b')) (.sc (.p (.s (b.data.toList++b'.data.toList)))):=by have:=WD (e:=e) (b++b');simpa [ByteArray.data_append] using this
    refine jV h (cy _ ?_ (by simp [hb]) (by simp [hb])) hr trivial hK;have hs: ¬(((b.size+b'.size:Nat):Int)>IntKind.i64.max):=by
     have h1:b.size=b.data.toList.length:=by simp
     have h2:b'.size=b'.data.toList.length:=by simp
     have:IntKind.i64.max=9223372036854775807:=by decide
     rw [this];omega
    intro w;simp only [binOp,hb,GN,Op.stringOp,hs,if_false];rfl
  ·cases hm:MG op b.data.toList b'.data.toList with
   |none=>simp [hm] at hK
   |some m=>simp only [hm] at hK;obtain ⟨v,hv,hr⟩:=aae (P:=P) (e:=e) (t:=t) hm;exact jV h (cy v (by rw [hb,GN];exact hv) (by simp [hb]) (by simp [hb])) hr trivial hK
 ·have e1:=xO hx;have e2:=xO hy;obtain ⟨r',hr',hK⟩:=rq hK;refine jV h (cy _ ?_ (by simp [e1]) (by simp [e1])) (HF (.float .f64 r') rfl) trivial hK;intro w;cases op<;>simp only [agh,reduceCtorEq] at hr'<;>simp [binOp,e1,e2,Op.floatArith,hr']
 ·rename_i Ol MW hn3;split at hK
  ·rename_i I hI;obtain ⟨Re,QK⟩:=b6 hI;cases hf:ga I.lay (aP sx)&&ga I.lay (aP sy)&&(nX I.st sx&&nX I.st sy) with
   |false=>simp [hf] at hK
   |true=>
    simp only [hf,cond_true] at hK;simp only [aaR] at hf;obtain ⟨hf,WG⟩:=hf;split at hK
    ·cases hm:ku (aP sx) (aP sy) with
     |none=>simp [hm] at hK
     |some b=>simp only [hm] at hK;refine jV h ?_ (zd b) trivial hK;intro w;obtain ⟨h1,h2⟩:=hE t I Re QK e w _ _ sx sy b hx hy hf.1 hf.2 WG.1 WG.2 hm Ol MW;have:=(h2 x y .eql).1;simp [execOp,ho,this,(h2 x y .eql).2.1 rfl,h1]
    ·cases hm:ku (aP sx) (aP sy) with
     |none=>simp [hm] at hK
     |some b=>simp only [hm] at hK;refine jV h ?_ (zd (!b)) trivial hK;intro w;obtain ⟨h1,h2⟩:=hE t I Re QK e w _ _ sx sy b hx hy hf.1 hf.2 WG.1 WG.2 hm Ol MW;have:=(h2 x y .neq).1;simp [execOp,ho,this,(h2 x y .neq).2.2 rfl,h1]
    ·simp at hK
  ·simp at hK
end
end Dn
/-
  Lengths, parts, places, loads. Conditions: none.
-/
namespace Dn
open Go
section
variable {P:Program}{c:Ctx}{Z:bR}{e:Env}{st:St}{a:Act}{w:World}{R:Type}{K:St->Option R}{r:R}{Q:Exit->Act->World->Prop}{o:Oper}
theorem cell_of {bx:Nat}{arr:Array Value}{T:TypeId}{fr:Nat×Nat}(h:w.heap[bx]? =some (.cells arr T fr))(j:Nat):w.cell? ⟨bx,j,none⟩=arr[j]? :=by simp [World.cell?,h]
theorem tR {t:TypeId}{I:TI}{bx off:Nat}{vs:List Value}(hr:qH c.ti P t I)(hc:I.dp=[])(hl:vs.length=I.size)(hm:w.rangeAt bx off vs): ((I.st=true\/I.size=32)/\ ∀w:World,w.rangeAt bx off vs->(acw t (.pointer (some ⟨bx,off,none⟩))).run P w= .ok (.agg vs.toArray) w)\/ (I.st=false/\ ∃v,vs=[v]/\ ∀w:World,w.rangeAt bx off vs->(acw t (.pointer (some ⟨bx,off,none⟩))).run P w= .ok v w):=by
 obtain ⟨i,hi,hs,_⟩:=hr.info hc;rcases hr.agg hc with ⟨d,hu,hd,hh⟩|⟨d,hu,hd,h1,h2⟩
 ·refine .inl ⟨hh.imp id (·.2),λw hm=> ?_⟩;exact run_loadAt_mid w bx off t vs d hm hu hd (by simp [hi,hs,hl])
 ·refine .inr ⟨h1,?_⟩;rw [h2] at hl;obtain ⟨v,rfl⟩:=adw.1 hl;refine ⟨v,rfl,λw hm=> ?_⟩;have BL:w.cell? ⟨bx,off,none⟩=some v:=hm 0 v rfl;have hag:(isAgg t).run P w= .ok false w:=by unfold isAgg;rw [aei,run_underlying hu w];cases d<;>simp_all
  simp [acw,acy,loadVar,hag,BL]
theorem aY.slot {vs:List Value}{l:aJ}{v:Value}(h:aY e vs l)(hv:(vs=[v]/\l.w=1)\/(v= .agg vs.toArray/\l.w=32)):ah e v (.sc l):=by
 rcases hv with ⟨rfl,hw⟩|⟨rfl,hw⟩
 ·cases l<;>simp [ah,aJ.w] at hw⊢ <;>exact h
 ·cases l<;>simp [aJ.w] at hw;simp only [ah];have:vs=bM _:=h;rw [this]
theorem kU {t:TypeId}{I:TI}{cs:List aJ}{bx base off:Nat}{vs:List Value}{s:Slot} {K':Slot->Option R}(hr:qH c.ti P t I)(hc:I.dp=[])(hv:aC e vs cs)(hm:w.rangeAt bx base vs)(hK:lr I cs off K'=some r): ∃v s,(∀w:World,w.rangeAt bx base vs->(acw t (.pointer (some ⟨bx,base+off,none⟩))).run P w= .ok v w)/\ah e v s/\cS st.fr s/\K' s=some r:=by
 unfold lr at hK;cases jn:I.st with
 |true=>
  simp only [jn,cond_true] at hK;cases hp:Dn.part cs off I.size with
  |none=>simp [hp] at hK
  |some ds=>
   simp only [hp] at hK;obtain ⟨v1,v2,v3,rfl,h1,h2,h3⟩:=Lg hp hv;have S1: ∀w:World,w.rangeAt bx base (v1++v2++v3)->w.rangeAt bx (base+off) v2:=by intro w hm j v hj;have QL:j<v2.length:=(BY.1 hj).1;have:=hm (off+j) v (by rw [AI,aah (by omega),aai (by omega)];rw [show off+j-v1.length=j by omega];exact hj);rwa [<-acm] at this
   rcases tR hr hc h2 (S1 w hm) with ⟨_,cy⟩|⟨hf,_⟩
   ·refine ⟨_,.ag ds,λw hm=>cy w (S1 w hm),?_,trivial,hK⟩;simp only [ah];exact ⟨_,rfl,by simpa using h3⟩
   ·rw [jn] at hf;cases hf
 |false=>
  simp only [jn,cond_false] at hK;cases hp:cut cs off with
  |none=>simp [hp] at hK
  |some ds=>
   cases ds with
   |nil=>simp [hp] at hK
   |cons l ls=>
    simp only [hp] at hK;cases hb:eJ l.w I.size with
    |false=>simp [hb] at hK
    |true=>
     simp only [hb,cond_true] at hK;have hw:=sh hb;obtain ⟨v1,v2,rfl,h1,h2⟩:=zI hp hv;obtain ⟨u,u2,rfl,h3,h4⟩:=h2;have S1: ∀w:World,w.rangeAt bx base (v1++(u++u2))->w.rangeAt bx (base+off) u:=by intro w hm j v hj;have QL:j<u.length:=(BY.1 hj).1;have:=hm (off+j) v (by rw [aah (by omega),aai (by omega)];rw [show off+j-v1.length=j by omega];exact hj);rwa [<-acm] at this
     rcases tR hr hc (by rw [h3.width,hw]) (S1 w hm) with ⟨hh,cy⟩|⟨_,v,OP,cy⟩
     ·refine ⟨_,.sc l,λw hm=>cy w (S1 w hm),h3.slot (.inr ⟨rfl,?_⟩),trivial,hK⟩;rcases hh with hh|hh
      ·rw [jn] at hh;cases hh
      ·rw [hw,hh]
     ·refine ⟨_,.sc l,λw hm=>cy w (S1 w hm),h3.slot (.inl ⟨OP,?_⟩),trivial,hK⟩;rw [<-h3.width,OP];rfl
theorem bB.at {key:Nat->Nat} {φ:Ph}{size:Nat}{xs:List MV}: ∀{cs:List Value} {i:Nat} {x:MV},bB key φ size cs xs->xs[i]? =some x-> ∃a v b,cs=a++v++b/\a.length=i *size/\v.length=size/\nu key φ v x:=by
 induction xs with
 |nil=>intro cs i x _ hx;simp at hx
 |cons y ys ih=>
  intro cs i x h hx;obtain ⟨v,q,rfl,hl,hr,he⟩:=h;cases i with
  |zero=>simp at hx;subst hx;exact ⟨[],v,q,by simp,by simp,hl,hr⟩
  |succ i=>obtain ⟨a,u,b,rfl,h1,h2,h3⟩:=ih he (by simpa using hx);exact ⟨v++a,u,b,by simp,by simp [hl,h1,abt,aeA],h2,h3⟩
theorem jB.leaves {ms:List MV}: ∀{vs:List Value} {cs:List aJ},jB e.key e.φ vs ms->bT cs=some ms->(∀m,aJ.p m∈cs->m.one=true)->aC e vs cs:=by
 induction ms with
 |nil=>
  intro vs cs h hc _;cases h;cases cs with
  |nil=>rfl
  |cons l r=>cases hr:bT r<;>cases l<;>simp [bT,hr] at hc
 |cons m ms ih=>
  intro vs cs h hc ho;cases cs with
  |nil=>simp [bT] at hc
  |cons l r=>
   generalize BM:vs=QM at h;cases h with
   |cons v _ vs _ h1 h2=>
   subst BM;cases hr:bT r with
   |none=>cases l<;>simp [bT,hr] at hc
   |some q=>
    have cU: ∀m,aJ.p m∈r->m.one=true:=λm hm=>ho m (by simp [hm]);cases l<;>simp [bT,hr] at hc
    ·obtain ⟨rfl,rfl⟩:=hc;exact ⟨v,vs,rfl,⟨ho _ (by simp),h1⟩,ih h2 hr cU⟩
    ·obtain ⟨rfl,rfl⟩:=hc;refine ⟨v,vs,rfl,?_,ih h2 hr cU⟩;generalize hv:v=v' at h1;cases h1;exact rfl
theorem nu.HH {vs:List Value}{x:MV}{b:Bool}{cs:List aJ}(h:nu e.key e.φ vs x)(hc:Hw b x cs):aC e vs cs:=by
 obtain ⟨⟨ms,h1,h2⟩,h3⟩:=hc;cases b with
 |true=>cases ms<;>simp [vW] at h2<;>subst h2<;>(generalize hv:vs=v' at h;cases h;subst hv;rename_i hh;exact hh.leaves h1 h3)
 |false=>
  cases ms with
  |nil=>simp [vW] at h2
  |cons m ms=>
   cases ms with
   |cons y ys=>simp [vW] at h2
   |nil=>simp [vW] at h2;subst h2;have:jB e.key e.φ (vs++[]) [m]:= .cons vs m [] [] h .nil;rw [List.append_nil] at this;exact this.leaves h1 h3
theorem WH {t:TypeId}{x:Operand}{I:TI}{cs:List aJ}{off:Nat}(ho:o.op= .load t x)(hI:c.tv t=some I)(hT:lV P c.ti)(h:cc c Z e st a w)(Kn:aM c st x= .rp cs off)(hK:lr I cs off (λs=>bu c st o.dst s K)=some r):Rd P c Z K r e a w o (λw'=> ∀b q v,e.φ b q=some v->w'.cell? ⟨b,q,none⟩=some v):=by
 obtain ⟨hx,rR⟩:=h.eval x;obtain ⟨pO,hc⟩:=b6 hI;have hr:=hT t I pO;rw [Kn] at hx;simp only [ah] at hx;obtain ⟨bx,q,vs,hx,sV,_,E0⟩:=hx;have hm: ∀w':World,(∀b q v,e.φ b q=some v->w'.cell? ⟨b,q,none⟩=some v)->w'.rangeAt bx q vs:=by intro w' hi j v hj;have QL:j<vs.length:=(BY.1 hj).1;exact hi _ _ _ (by rw [E0 j QL];exact hj)
 obtain ⟨v,s,h1,h2,h3,h4⟩:=kU (st:=st) (s:= .skip) hr hc sV (hm w h.pM) hK;refine Rb (λw' hi=> ?_) h (.refl _ _ _) (.of h2 h3) h4;simp [execOp,ho,hx,h1 w' (hm w' hi)]
theorem aaf {t:TypeId}{x:Operand}{I:TI}(ho:o.op= .load t x)(hI:c.tv t=some I)(hT:lV P c.ti)(h:cc c Z e st a w)(hK:ldK st I (aM c st x) (λs=>bu c st o.dst s K)=some r):Rd P c Z K r e a w o (eF w):=by
 obtain ⟨hx,rR⟩:=h.eval x;obtain ⟨pO,hc⟩:=b6 hI;have hr:=hT t I pO;have aag: ∀v s,(∀w':World,eF w w'->(acw t (a.eval x)).run P w'= .ok v w')->ah e v s->cS st.fr s->bu c st o.dst s K=some r->Rd P c Z K r e a w o (eF w):=by intro v s h1 h2 h3 h4;refine Rb (λw' hg=> ?_) h (.refl _ _ _) (.of h2 h3) h4;simp [execOp,ho,h1 w' hg]
 have keep: ∀{w':World} {bx off:Nat} {vs:List Value},eF w w'->w.rangeAt bx off vs->w'.rangeAt bx off vs:=by intro w' bx off vs hg hm j v hj;exact hg.cell (hm j v hj)
 generalize aM c st x=s at hx hK rR;unfold ldK at hK;split at hK
 ·rename_i root off;simp only [ah] at hx;have nv:=h.slot root;split at hK
  ·rename_i cs zL;rw [zL] at nv;have wI:gM cs=false:=by cases hq:gM cs<;>simp_all
   simp only [wI,cond_false] at hK;obtain ⟨_,sS⟩:=nv;obtain ⟨arr,T,eZ,sV⟩:=sS.cells wI;have hm:w.rangeAt (e.B root) 0 arr.toList:=by intro j v hj;rw [aaT,cell_of eZ];simpa using hj
   obtain ⟨v,s,h1,h2,h3,h4⟩:=kU (st:=st) (s:= .skip) hr hc sV hm hK;rw [aaT] at h1;exact aag v s (λw' hg=>by rw [hx];exact h1 w' (keep hg hm)) h2 h3 h4
  ·simp at hK
 ·rename_i cs off;simp only [ah] at hx;obtain ⟨bx,q,vs,hx,sV,_,E0⟩:=hx;have hm:w.rangeAt bx q vs:=by intro j v hj;have QL:j<vs.length:=(BY.1 hj).1;exact h.pM _ _ _ (by rw [E0 j QL];exact hj)
  obtain ⟨v,s,h1,h2,h3,h4⟩:=kU (st:=st) (s:= .skip) hr hc sV hm hK;exact aag v s (λw' hg=>by rw [hx];exact h1 w' (keep hg hm)) h2 h3 h4
 ·rename_i f i off b cs;cases hf:aT st.bn f with
  |none=>simp [hf] at hK
  |some o'=>
   simp only [hf] at hK;simp only [ah] at hx;obtain ⟨bx,cap,hE,⟨x,hxi,hel⟩,hx⟩:=hx o' (by rw [h.m];exact hf);obtain ⟨J,cells,hJ,hJc,fT,pP,_⟩:=(h.jA f o' hf).row;obtain ⟨p1,v1,p2,rfl,QN,Cn,iv⟩:=pP.at hxi;have sV:=iv.HH hel;rw [hE] at fT;have BL:=fT.cells (g:=bx) rfl;have hm:w.rangeAt bx (i *zD cs) v1:=by intro j v hj;have QL:j<v1.length:=(BY.1 hj).1;have:=BL (i *J.size+j) v (by rw [AI,aah (by omega),aai (by omega)];rw [show i *J.size+j-p1.length=j by omega];exact hj);rw [ab1,aaT] at this;rw [<-sV.width,Cn];exact this
   obtain ⟨v,s,h1,h2,h3,h4⟩:=kU (st:=st) (s:= .skip) hr hc sV hm hK;exact aag v s (λw' hg=>by rw [hx];exact h1 w' (keep hg hm)) h2 h3 h4
 ·rename_i root off i;simp only [ah] at hx;obtain ⟨hx,Rf⟩:=hx;have nv:=h.slot root;cases hb:I.st||!eJ I.size 1 with
  |true=>simp [hb] at hK
  |false=>
   simp only [hb,cond_false] at hK;simp only [abb,acz] at hb;have tp:=sh hb.2;split at hK
   ·rename_i cs zL;rw [zL] at nv;have wI:gM cs=false:=by cases hq:gM cs<;>simp_all
    simp only [wI,cond_false] at hK;obtain ⟨_,sS⟩:=nv;obtain ⟨arr,T,eZ,sV⟩:=sS.cells wI;split at hK
    ·rename_i b ls adz;obtain ⟨v1,v2,akI,h1,h2⟩:=zI adz sV;obtain ⟨u,u2,rfl,h3,h4⟩:=h2;have h3:u=bM b:=h3;subst h3;have hg:=Cp b i Rf;have hlen:=dr b;have hm:w.rangeAt (e.B root) (off+i) [.int .u8 ((b.l.getD i 0).toNat:Int)]:=by
      intro j v hj;cases j with
      |succ j=>simp at hj
      |zero=>
       simp at hj;rw [acx,cell_of eZ];have:arr[off+i]? =arr.toList[off+i]? :=by simp
       rw [this,akI,aah (by omega),aai (by omega),show off+i-v1.length=i by omega,hg,<-hj];simp [List.getD]
     rcases tR hr hc (by simp [tp]) hm with ⟨hh,_⟩|⟨_,v,OP,cy⟩
     ·rcases hh with hh|hh
      ·rw [hb.1] at hh;cases hh
      ·omega
     ·simp at OP;subst OP;exact aag _ _ (λw' hg=>by rw [hx];exact cy w' (keep hg hm)) (sU _ _) trivial hK
    ·simp at hK
   ·simp at hK
 ·simp at hK
theorem Uc {t:TypeId}{x:Operand}{f:Nat}{I:TI}(ho:o.op= .fieldAddr t x f)(hI:c.tv t=some I)(hT:lV P c.ti)(h:cc c Z e st a w)(hK:Wf st I f (aM c st x) (λs=>bu c st o.dst s K)=some r):Rd P c Z K r e a w o (λ_=>True):=by
 obtain ⟨hx,rR⟩:=h.eval x;obtain ⟨pO,hc⟩:=b6 hI;obtain ⟨d,i,h1,h2,h3,h4⟩:=hT t I pO;have key: ∀q bx off,I.st=true->I.Ow[f]? =some q->a.eval x= .pointer (some ⟨bx,off,none⟩)-> ∀w:World,(execOp a.eval o).run P w= .ok (.value (.pointer (some ⟨bx,off+q,none⟩))) w:=by
  intro q bx off jn hq hv w;cases d<;>simp only [tQ] at h4;case struct fs=>
   obtain ⟨_,_,_,Ud,cU,Rg,_⟩:=h4;rw [<-Ud,aa1] at hq;cases hf:fs.toList[f]? with
   |none=>simp [hf] at hq
   |some fl=>
    simp [hf] at hq;subst hq;have ZH:fs[f]? =some fl:=by simpa using hf
    obtain ⟨J,hJ,hJc,hJs⟩:=Rg f fl ZH;obtain ⟨ij,hij,hs,_⟩:=(hT _ _ hJ).info hJc;have hz:ij.size≠0:=by omega
    simp [execOp,ho,hv,Instr.fieldAt,run_underlying h1,ZH,acy,fieldPlace,aa7,typeInfo,hij,hz,ab1]
  all_goals (exfalso;simp_all)
 generalize aM c st x=s at hx hK rR;unfold Wf at hK;split at hK
 ·rename_i q r' o' jn hq;simp only [ah] at hx;refine jV (s:= .ptr r' (o'+q)) h (key q _ _ jn hq hx) ?_ rR hK;simp only [ah]
 ·rename_i q cs o' jn hq;simp only [ah] at hx;obtain ⟨bx,b,vs,hx,hh⟩:=hx;refine jV (s:= .rp cs (o'+q)) h (key q _ _ jn hq hx) ?_ trivial hK;simp only [ah];exact ⟨bx,b,vs,by rw [acm],hh⟩
 ·rename_i q g i' o' b cs jn hq;cases hf:aT st.bn g with
  |none=>simp [hf] at hK
  |some w'=>simp only [hf] at hK;simp only [ah] at hx;obtain ⟨bx,cap,h5,h6,h7⟩:=hx w' (by rw [h.m];exact hf);refine jV (s:= .ep g i' (o'+q) b cs) h (key q _ _ jn hq h7) ?_ trivial hK;simp only [ah];intro o2 cU;rw [h.m,hf] at cU;cases cU;exact ⟨bx,cap,h5,h6,by rw [acm]⟩
 ·simp at hK
theorem adA {x:Operand}{k:Nat}(ho:o.op= .extract x k)(h:cc c Z e st a w)(hK:adq (aM c st x) k (λs=>bu c st o.dst s K)=some r):Rd P c Z K r e a w o (λ_=>True):=by
 obtain ⟨hx,rR⟩:=h.eval x;generalize aM c st x=s at hx hK;unfold adq at hK;split at hK
 ·rename_i vs;simp only [ah] at hx;obtain ⟨arr,hv,hs⟩:=hx;cases hk:vs[k]? with
  |none=>simp [hk] at hK
  |some s=>
   simp only [hk] at hK;have: ∀(k:Nat) (vs:List Slot) (l:List Value),lv e l vs->vs[k]? =some s-> ∃v,l[k]? =some v/\ah e v s/\BJ s=true:=by
    intro k;induction k with
    |zero=>
     intro vs l hl hk;cases vs with
     |nil=>simp at hk
     |cons y ys=>simp at hk;subst hk;simp only [lv] at hl;obtain ⟨v,q,rfl,h1,h2,_⟩:=hl;exact ⟨v,rfl,h1,h2⟩
    |succ k ih=>
     intro vs l hl hk;cases vs with
     |nil=>simp at hk
     |cons y ys=>simp only [lv] at hl;obtain ⟨v,q,rfl,_,_,h3⟩:=hl;obtain ⟨u,h4,h5⟩:=ih ys q h3 (by simpa using hk);exact ⟨u,by simpa using h4,h5⟩
   obtain ⟨v,S2,h1,h2⟩:=this k vs arr.toList hs hk;have hv3:arr[k]? =some v:=by simpa using S2
   refine jV h ?_ h1 ?_ hK
   ·simp [execOp,ho,hv,Instr.extract,hv3]
   ·cases s<;>simp [BJ] at h2<;>trivial
 ·simp at hK
end
end Dn
/-
  Operations that make memory: variables. Conditions: none.
-/
namespace Dn
open Go
section
variable {P:Program}{c:Ctx}{Z:bR}{e:Env}{st:St}{a:Act} {w w':World}{R:Type}{K:St->Option R}{r:R}{Q:Exit->Act->World->Prop}{o:Oper}
theorem eF.refl (w:World):eF w w:=⟨aas _,λ_ _=>rfl,.refl _⟩
theorem eF.alloc (w:World)(cs:Array Value)(t:TypeId):eF w (w.alloc (.cells cs t)):=⟨by simp,λb hb=>rn w _ b hb,.alloc w cs t⟩
theorem eF.akJ (g:eF w w'){base:Nat}{t:TypeId}{size:Nat}{v:Value}{n:Nat}{xs:List Value}(h:w.ownsRow base t size v n xs):w'.ownsRow base t size v n xs:=by
 refine ⟨h.1,?_⟩;rcases h.2 with h|⟨b,cap,gJ,h1,h2,h3,h4⟩
 ·exact .inl h
 ·exact .inr ⟨b,cap,gJ,h1,h2,by rw [g.v8 b (bD h3)];exact h3,h4⟩
theorem vf.grow (g:eF w w'){bx:Nat}{cs:List aJ}(h:vf Z e w bx cs):vf Z e w' bx cs:=by obtain ⟨o,h1,h2⟩:=h.obj;exact ⟨h.cP,⟨o,by rw [g.v8 _ (bD h1)];exact h1,h2⟩,h.free⟩
theorem dW.grow (g:eF w w'){v:Value}{f:pH}(h:dW c Z e w v f):dW c Z e w' v f:=by obtain ⟨I,cells,h1,h2,h3,h4,h5⟩:=h.row;exact ⟨I,cells,h1,h2,g.akJ h3,h4,h5⟩
theorem cc.grow (g:eF w w')(h:cc c Z e st a w):cc c Z e st a w':=by refine ⟨h.defers,h.size,h.m,h.key,h.nodup,?_,h.root,λf o ho=>(h.jA f o ho).grow g,h.bb,h.bf,h.ff,λb o v hv=>g.cell (h.pM b o v hv),λb hb=>h.cP b (acv g.size hb)⟩;intro t;have hs:=h.slot t;generalize aw st.fr t=s at hs;cases s<;>simp only [cz] at hs⊢ <;>first|exact hs|exact ⟨hs.1,hs.2.grow g⟩
theorem eF.trans (g:eF w w')(hz: ∀b,w.heap.size<=b->Z b) (φ:Ph):Trans Z φ w φ w':=⟨.refl φ,λb _ hl=>g.v8 b hl,λ_ _ _=>rfl,g.size,g.rest⟩
theorem Ue {l:aJ}{vs:List Value}(h:Wu l vs=true):aY e vs l:=by
 unfold Wu at h;split at h
 ·simp at h;subst h;exact ⟨rfl,.b _⟩
 ·simp at h;obtain ⟨rfl,rfl⟩:=h;exact ⟨rfl,.i _ _⟩
 ·simp at h;subst h;exact ⟨rfl,.s _⟩
 ·split at h
  ·exact ⟨rfl,.raw _ rfl⟩
  ·exact ⟨rfl,.raw _ rfl⟩
  ·exact ⟨rfl,.raw _ rfl⟩
  ·simp at h
 ·rfl
 ·exact ⟨_,rfl,h⟩
 ·rename_i x;simp only [aaR,beq_iff_eq] at h;obtain ⟨h1,h2⟩:=h;show vs=bM x;apply List.ext_getElem?;intro j;by_cases hj:j<32
  ·rw [Cp x j hj];have hjv:j<vs.length:=by omega
   have EP:j<x.l.length:=by rw [x.h];exact hj
   rw [aeJ] at h2;have hm:(vs[j],x.l[j])∈vs.zip x.l:=adN.2 ⟨j,by simp;omega,by simp⟩;have:=h2 _ hm;rw [IT hjv];dsimp only at this;split at this
   ·rename_i n hn;rw [hn,of_decide_eq_true this];simp [List.getD,IT EP]
   ·simp at this
  ·rw [ace (by omega),ace (by rw [dr];omega)]
 ·simp at h
theorem mL {ls:List aJ}: ∀{vs:List Value},ve ls vs=true->aC e vs ls:=by
 induction ls with
 |nil=>intro vs h;simpa [ve,aC] using h
 |cons l r ih=>intro vs h;simp only [ve,aaR] at h;exact ⟨vs.take l.w,vs.drop l.w,by simp,Ue h.1.1,ih h.1.2⟩
theorem aC.zM {cs:List aJ}{vs:List Value}(h:aC e vs cs):gM cs=false:=by
 cases hm:gM cs with
 |false=>rfl
 |true=>obtain ⟨s,ms,rfl⟩:=MO hm;obtain ⟨_,_,_,h1,_⟩:=h;exact h1.elim
theorem HI (h:cc c Z e st a w)(off:Nat):e.φ w.heap.size off=none:=by
 cases hp:e.φ w.heap.size off with
 |none=>rfl
 |some v=>have:=aaS w _ (h.pM _ _ _ hp);simp at this
theorem AP (h:cc c Z e st a w):(∀t kh,aw st.fr t= .box kh->e.B t≠w.heap.size)/\(∀f o,aT st.bn f=some o->(e.E f).ownBlock≠some w.heap.size):=by
 refine ⟨?_,?_⟩
 ·intro t kh ht;have hs:=h.slot t;rw [ht] at hs;obtain ⟨o,h1,_⟩:=hs.2.obj;have:=bD h1;omega
 ·intro f o ho hk;obtain ⟨I,cells,h1,h2,h3,h4,h5⟩:=(h.jA f o ho).row;rcases h3.2 with ⟨hv,_⟩|⟨g,cap,gJ,hv,_,hg,_⟩
  ·rw [hv] at hk;simp [No] at hk
  ·rw [hv] at hk;simp only [No,IN] at hk;have:=bD hg;omega
theorem S3 {cells:Array Value}{T:TypeId}{cs:List aJ}(h:cc c Z e st a w)(hl:aC e cells.toList cs): qS Z e (w.alloc (.cells cells T)) st (.pointer (some ⟨w.heap.size,0,none⟩)) (.box cs):=by exact ⟨w.heap.size,by rw [vZ hl.zM],⟨h.cP _ (aas _),⟨_,ki w _,rfl,hl⟩,HI h⟩,(AP h).1,(AP h).2⟩
theorem WI {t:TypeId}{I:TI}(ho:o.op= .alloc t)(hI:c.tv t=some I)(hT:lV P c.ti)(h:cc c Z e st a w)(hK:bu c st o.dst (.box I.zero) K=some r):o.wp P a w (λa' w'=>eF w w'/\Out c Z K r e.φ w a' w') Q:=by
 obtain ⟨pO,hc⟩:=b6 hI;obtain ⟨d,i,h1,h2,h3,h4⟩:=hT t I pO;have hz: ∃z,i.zero=some z/\aC e z.cells.toList I.zero:=by
  cases d<;>simp only [tQ] at h4;case struct fs=>obtain ⟨_,_,_,_,_,_,cs,hz,hl,_⟩:=h4;exact ⟨_,hz,by simpa [aaD] using mL hl⟩
  case tuple ts=>exact absurd hc h4.2.1
  case slice el=>obtain ⟨_,_,_,_,_,hz,hl,_⟩:=h4;exact ⟨_,hz,by rw [hl];exact ⟨[.slice none 0 0],[],rfl,rfl,rfl⟩⟩
  case array n el=>obtain ⟨_,_,_,_,_,_,_,hl,hz⟩:=h4;exact ⟨_,hz,by rw [hl];exact ⟨bM lp.zero,[],by simp [aaD],rfl,rfl⟩⟩
  case bool=>obtain ⟨_,_,_,_,hl,hz⟩:=h4;exact ⟨_,hz,by rw [hl];exact ⟨[.bool false],[],rfl,⟨rfl,.b _⟩,rfl⟩⟩
  case int k=>obtain ⟨_,_,_,_,hl,hz⟩:=h4;exact ⟨_,hz,by rw [hl];exact ⟨[.int k 0],[],rfl,⟨rfl,.i _ _⟩,rfl⟩⟩
  case string=>obtain ⟨_,_,_,_,hl,b,hz,hb⟩:=h4;refine ⟨_,hz,by rw [hl];refine ⟨[.string b],[],rfl,⟨rfl,?_⟩,rfl⟩;rw [<-hb];exact .s b⟩
  all_goals
   obtain ⟨_,_,_,_,v,hz,hv,hl⟩:=h4;refine ⟨v,hz,?_⟩;have:v.cells.toList=[v]:=by cases v<;>simp_all [aaD,aaa]
   rw [this];exact mL hl
 obtain ⟨z,hz,hl⟩:=hz;have cy:(execOp a.eval o).run P w= .ok (.value (.pointer (some ⟨w.heap.size,0,none⟩))) (w.alloc (.cells z.cells t)):=by simp [execOp,ho,Instr.alloc,zeroValue,typeInfo,h2,hz,newVar,newRow,newObj,Sem.run]
 exact Ua (.alloc w _ _) cy (h.grow (.alloc w _ _)) ((eF.alloc w _ _).trans h.cP _) (S3 h hl) hK
theorem adC {t:TypeId}{x:Operand}{I:TI}(ho:o.op= .box t x)(h:cc c Z e st a w)(hK:adn I (aM c st x) (λs=>bu c st o.dst s K)=some r):o.wp P a w (λa' w'=>eF w w'/\Out c Z K r e.φ w a' w') Q:=by
 obtain ⟨hx,rR⟩:=h.eval x;have cy:(execOp a.eval o).run P w= .ok (.value (.pointer (some ⟨w.heap.size,0,none⟩))) (w.alloc (.cells (a.eval x).cells t)):=by simp [execOp,ho,Instr.box,newVar,newRow,newObj,Sem.run]
 have go: ∀cs,aC e (a.eval x).cells.toList cs->bu c st o.dst (.box cs) K=some r->o.wp P a w (λa' w'=>eF w w'/\Out c Z K r e.φ w a' w') Q:=λcs h1 h2=>Ua (.alloc w _ _) cy (h.grow (.alloc w _ _)) ((eF.alloc w _ _).trans h.cP _) (S3 h h1) h2;generalize aM c st x=s at hx hK rR;unfold adn at hK;split at hK
 ·rename_i l;cases hb:I.st||Oz l||!eJ l.w I.size with
  |true=>simp [hb] at hK
  |false=>
   simp only [hb,cond_false] at hK;refine go [l] ?_ hK;cases l with
   |un=>simp [Oz] at hb
   |hs y=>simp only [ah] at hx;rw [hx];exact ⟨bM y,[],by simp [aaD],rfl,rfl⟩
   |p m=>
    simp only [ah] at hx;have:(a.eval x).cells.toList=[a.eval x]:=by have:=hx.cells (a.eval x) (by simp);generalize a.eval x=v at this;cases v<;>simp_all [aaD,aaa]
    rw [this];exact ⟨_,[],rfl,hx,rfl⟩
   |nil=>simp only [ah] at hx;have Uf:[a.eval x]=[abj none 0 0]:=hx;simp at Uf;rw [Uf];exact ⟨[.slice none 0 0],[],rfl,rfl,rfl⟩
   |mp s es=>simp [Oz] at hb
   |own f=>
    simp only [ah] at hx;have:(a.eval x).cells.toList=[a.eval x]:=by have:=hx.cells (a.eval x) (by simp);generalize a.eval x=v at this;cases v<;>simp_all [aaD,aaa]
    rw [this];exact ⟨_,[],rfl,hx,rfl⟩
 ·rename_i cs;cases hb:I.st&&!wN cs&&eJ (zD cs) I.size with
  |false=>simp [hb] at hK
  |true=>simp only [hb,cond_true] at hK;simp only [ah] at hx;obtain ⟨arr,hx,hl⟩:=hx;exact go cs (by rw [hx];exact hl) hK
 ·simp at hK
end
end Dn
/-
  Stores into variables. Conditions: none.
-/
namespace Dn
open Go
section
variable {P:Program}{c:Ctx}{Z:bR}{e:Env}{st:St}{a:Act} {w w':World}{R:Type}{K:St->Option R}{r:R}{Q:Exit->Act->World->Prop}{o:Oper}
theorem setRow_size (w:World)(g:Nat)(cs:Array Value):(w.setRow g cs).heap.size=w.heap.size:=by simp [afK]
structure VL (g:Nat) (w w':World):Prop where
 size:w'.heap.size=w.heap.size
 other: ∀b,b≠g->w'.heap[b]? =w.heap[b]?
 rest:Rest w w'
theorem VL.setRow (w:World)(g:Nat)(cs:Array Value):VL g w (w.setRow g cs):=⟨setRow_size _ _ _,λb hb=>setRow_other _ _ _ _ hb,.setRow _ _ _⟩
theorem OQ {g:Nat}(hc:VL g w w'){base:Nat}{t:TypeId}{size:Nat}{v:Value}{n:Nat}{xs:List Value}(dS:v.ownBlock≠some g)(h:w.ownsRow base t size v n xs):w'.ownsRow base t size v n xs:=by
 refine ⟨h.1,?_⟩;rcases h.2 with h|⟨b,cap,gJ,h1,h2,h3,h4⟩
 ·exact .inl h
 ·refine .inr ⟨b,cap,gJ,h1,h2,?_,h4⟩;rw [hc.other _ (by intro e;subst e;subst h1;exact dS rfl)];exact h3
theorem Rh {g:Nat}{cs:Array Value}{base:Nat}{t:TypeId}{size:Nat}{v:Value}{n:Nat}{xs:List Value}(dS:v.ownBlock≠some g)(h:w.ownsRow base t size v n xs):(w.setRow g cs).ownsRow base t size v n xs:=OQ (.setRow w g cs) dS h
theorem cc.setObj {root:Nat}{cs kh:List aJ} {o':Obj}{qR:Fr}(h:cc c Z e st a w)(hf:aw st.fr root= .box cs)(HJ:VL (e.B root) w w')(wP:w'.heap[e.B root]? =some o')(hl:kT e o' kh)(hmm:mH kh=mH cs)(GO: ∀t,aw qR t=if t=root then .box kh else aw st.fr t)(hnd:(aV qR).Nodup):cc c Z e {st with fr:=qR} a w':=by
 have tp:=HJ.size;have pN:=h.slot root;rw [hf] at pN;refine ⟨h.defers,h.size,h.m,h.key,hnd,?_,?_,?_,?_,?_,h.ff,?_,λb hb=>h.cP b (by omega)⟩
 ·intro t;show cz Z e _ t _ (aw qR t);rw [GO];by_cases ht:t=root
  ·subst ht;simp only [if_true,cz];exact ⟨pN.1.mH hmm,⟨pN.2.cP,⟨o',wP,hl⟩,pN.2.free⟩⟩
  ·simp only [ht,if_false];have hs:=h.slot t;have tP:=h.bb t root;generalize hg:aw st.fr t=s at hs tP;cases s<;>simp only [cz] at hs⊢ <;>try exact hs
   rename_i qC;refine ⟨hs.1,hs.2.cP,?_,hs.2.free⟩;obtain ⟨o2,h1,h2⟩:=hs.2.obj;exact ⟨o2,by rw [HJ.other _ (tP qC cs rfl hf ht)];exact h1,h2⟩
 ·intro t;show cS qR (aw qR t);rw [GO];by_cases ht:t=root
  ·simp [ht,cS]
  ·simp only [ht,if_false];have hr:=h.root t;generalize aw st.fr t=s at hr;cases s<;>simp only [cS] at hr⊢ <;>(rw [GO];split<;>simp_all [di])
 ·intro f o ho;obtain ⟨I,cells,h1,h2,h3,h4,h5⟩:=(h.jA f o ho).row;exact ⟨I,cells,h1,h2,OQ HJ (h.bf root cs f o hf ho) h3,h4,h5⟩
 ·intro t t' c1 c2 h1 h2 dS;have h1:aw qR t= .box c1:=h1;have h2:aw qR t'= .box c2:=h2;rw [GO] at h1 h2;by_cases ht:t=root
  ·by_cases Dl:t'=root
   ·exact absurd (ht.trans Dl.symm) dS
   ·simp only [Dl,if_false] at h2;rw [ht];exact h.bb root t' cs c2 hf h2 (by rw [<-ht];exact dS)
  ·simp only [ht,if_false] at h1;by_cases Dl:t'=root
   ·rw [Dl];exact h.bb t root c1 cs h1 hf ht
   ·simp only [Dl,if_false] at h2;exact h.bb t t' c1 c2 h1 h2 dS
 ·intro t c1 f o h1 h2;have h1:aw qR t= .box c1:=h1;rw [GO] at h1;by_cases ht:t=root
  ·rw [ht];exact h.bf root cs f o hf h2
  ·simp only [ht,if_false] at h1;exact h.bf t c1 f o h1 h2
 ·intro b o v hv;have dS:b≠e.B root:=by intro eb;subst eb;rw [pN.2.free] at hv;cases hv
  have:=h.pM b o v hv;rw [aba (HJ.other _ dS)];exact this
theorem cc.WJ {root:Nat}{cs kh:List aJ}{arr zN:Array Value}{T:TypeId}{qR:Fr}(h:cc c Z e st a w)(hf:aw st.fr root= .box cs)(eZ:w.heap[e.B root]? =some (.cells arr T (0,0)))(hl:aC e zN.toList kh)(GO: ∀t,aw qR t=if t=root then .box kh else aw st.fr t)(hnd:(aV qR).Nodup):cc c Z e {st with fr:=qR} a (w.setRow (e.B root) zN):=by
 have pN:=h.slot root;rw [hf] at pN;have hm:gM cs=false:=by obtain ⟨o,h1,h2⟩:=pN.2.obj;rw [eZ] at h1;cases h1;exact h2.2.zM
 exact h.setObj hf (.setRow _ _ _) (setRow_heap _ _ _ _ _ _ eZ) ⟨rfl,hl⟩ (by rw [Dj hm,Dj hl.zM]) GO hnd
theorem Trans.chg {g:Nat} (φ:Ph)(HJ:VL g w w')(hz:Z g):Trans Z φ w φ w':=⟨.refl φ,λb hb _=>HJ.other _ (by intro e;subst e;exact hb hz),λ_ _ _=>rfl,by rw [HJ.size];exact aas _,HJ.rest⟩
theorem Trans.setRow {g:Nat}{zN:Array Value} (φ:Ph)(hz:Z g):Trans Z φ w φ (w.setRow g zN):=⟨.refl φ,λb hb _=>setRow_other _ _ _ _ (by intro e;subst e;exact hb hz),λ_ _ _=>rfl,by rw [setRow_size];exact aas _,.setRow _ _ _⟩
theorem BN {v:Value}{s:Slot}(h:ah e v s)(hu:wN (aP s)=false)(dS:aP s≠[]):aC e v.cells.toList (aP s):=by
 cases s with
 |sc l=>
  simp only [aP] at hu⊢;have oX: ∀l,aY e [v] l->aC e v.cells.toList [l]:=by
   intro l hl;have hc:=hl.cells v (by simp);have:v.cells.toList=[v]:=by cases v<;>simp_all [aaD,aaa]
   rw [this];exact ⟨[v],[],rfl,hl,rfl⟩
  cases l with
  |un=>simp [wN,Oz] at hu
  |hs x=>simp only [ah] at h;rw [h];exact ⟨bM x,[],by simp [aaD],rfl,rfl⟩
  |p m=>simp only [ah] at h;exact oX _ h
  |nil=>simp only [ah] at h;exact oX _ h
  |mp s es=>simp [wN,Oz] at hu
  |own f=>simp only [ah] at h;exact oX _ h
 |ag cs=>simp only [ah] at h;obtain ⟨arr,rfl,hl⟩:=h;exact hl
 |_=>exact absurd rfl dS
theorem sv {t:TypeId}{I:TI}{bx off:Nat}{v:Value}{arr:Array Value}{T:TypeId}(hr:qH c.ti P t I)(hc:I.dp=[])(hs:v.cells.toList.length=I.size)(oX: ∀u∈v.cells.toList,u.oneCell'=true)(eZ:w.heap[bx]? =some (.cells arr T (0,0)))(MX:off+I.size<=arr.size): (acP t (.pointer (some ⟨bx,off,none⟩)) v).run P w= .ok () (w.setRow bx (arr.toList.take off++v.cells.toList++arr.toList.drop (off+I.size)).toArray):=by
 obtain ⟨i,hi,tp,_⟩:=hr.info hc;have h1:=run_storeCells_at P bx off T v.cells.toList 0 arr w eZ (by omega) oX;rw [acx,hs] at h1;have h2:v.cells.size=i.size:=by rw [tp,<-hs];simp
 simp [acP,acy,storeVar,aa7,typeInfo,hi,h2,h1]
theorem Ug {t:TypeId}{I:TI}{root off:Nat}{v:Value}{cs ls kh:List aJ} {K':St->Option R}(wI:gM cs=false)(hr:qH c.ti P t I)(hc:I.dp=[])(h:cc c Z e st a w)(hf:aw st.fr root= .box cs)(hv:aC e v.cells.toList ls)(HK:zD ls=I.size)(hp:putAt cs off ls=some kh)(hK:wr st root (.box kh) K'=some r): ∃w' b7,(acP t (.pointer (some ⟨e.B root,off,none⟩)) v).run P w= .ok () w'/\cc c Z e b7 a w'/\Trans Z e.φ w e.φ w'/\K' b7=some r:=by
 have nv:=h.slot root;rw [hf] at nv;obtain ⟨arr,T,eZ,sV⟩:=nv.2.cells wI;obtain ⟨v1,v2,v3,he,h1,h2,h3⟩:=xN hp sV hv;have hlen:=hv.width;have tp:arr.size=v1.length+v2.length+v3.length:=by
  have:arr.toList.length=(v1++v2++v3).length:=by rw [he]
  simp at this;omega
 have cy:=sv (P:=P) (w:=w) (bx:=e.B root) (off:=off) hr hc (by rw [hlen,HK]) hv.cells eZ (by omega);have agw:arr.toList.take off=v1:=by rw [he,AI,acu h1]
 have agx:arr.toList.drop (off+I.size)=v3:=by rw [he];exact ab2 (by rw [IS];omega)
 rw [agw,agx] at cy;unfold wr at hK;cases hn:bL st.cJ root with
 |true=>simp [hn] at hK
 |false=>simp only [hn,cond_false,force_eq,oK] at hK;refine ⟨_,_,cy,?_,.setRow _ (Oj nv.2.cP (by rw [<-h.defers.2.1,<-bU,hn];simp)),hK⟩;exact h.WJ hf eZ (by simpa using h3) (λt=>by rw [cb]) (fP h.nodup)
end
end Dn
/-
  Owned slices that are shared from now on; what is handed to a callee. Conditions: none.
-/
namespace Dn
open Go
section
variable {P:Program}{c:Ctx}{Z:bR}{e:Env}{st:St}{a:Act} {w w':World}{R:Type}{K:St->Option R}{r:R}{Q:Exit->Act->World->Prop}{o:Oper}
theorem bB.mono {key:Nat->Nat} {φ φ':Ph}(h:sR φ φ'){size:Nat}{xs:List MV}: ∀{cs:List Value},bB key φ size cs xs->bB key φ' size cs xs:=by
 induction xs with
 |nil=>intro cs hh;exact hh
 |cons x xs ih=>intro cs hh;obtain ⟨v,q,rfl,h1,h2,h3⟩:=hh;exact ⟨v,q,rfl,h1,h2.mono h,ih h3⟩
theorem bB.length {key:Nat->Nat} {φ:Ph}{size:Nat}{xs:List MV}: ∀{cs:List Value},bB key φ size cs xs->cs.length=xs.length *size:=by
 induction xs with
 |nil=>intro cs hh;cases hh;simp
 |cons x xs ih=>intro cs hh;obtain ⟨v,q,rfl,h1,h2,h3⟩:=hh;simp [h1,ih h3,abt,aeA]
theorem Ri {m:List (Nat×pH)}{f:Nat}{o:pH}(h:aT m f=some o):ck m f o=m:=by
 induction m with
 |nil=>simp [aT] at h
 |cons p r ih=>
  obtain ⟨k,x⟩:=p;simp only [aT,ck,eH] at h⊢;by_cases hk:k=f
  ·subst hk;simp at h;subst h;simp
  ·simp only [hk,decide_false,cond_false] at h⊢;rw [ih h]
def pQ (φ:Ph)(v:Value)(cells:List Value):Ph:=λb off=>if v.ownBlock=some b/\off<cells.length then cells[off]? else φ b off
theorem vg {base:Nat}{t:TypeId}{size n:Nat}{v:Value}{xs ys:List Value}(h:w.ownsRow base t size v n xs) (h':w.ownsRow base t size v n ys){b:Nat}(hb:v.ownBlock=some b):xs=ys:=by
 rcases h.2 with ⟨h1,_⟩|⟨g,cap,gJ,h1,_,h2,_,_,_,h3⟩
 ·rw [h1] at hb;simp [No] at hb
 ·rcases h'.2 with ⟨FU,_⟩|⟨g',WK,aqA,FU,_,OR,_,_,_,h3'⟩
  ·rw [FU] at hb;simp [No] at hb
  ·rw [h1] at FU;simp at FU;obtain ⟨rfl,rfl⟩:=FU;rw [h2] at OR;simp at OR;subst OR;rw [<-h3,<-h3']
theorem freeze {f:Nat}{o:pH}(h:cc c Z e st a w)(hf:aT st.bn f=some o)(hp:f∉Z.cV\/o.eX=true): ∃φ',sR e.φ φ'/\(∀b off,¬Z b->φ' b off=e.φ b off)/\cc c Z {e with φ:=φ',m:=ck e.m f ⟨o.ty,true,o.xs⟩} {st with bn:=ck st.bn f ⟨o.ty,true,o.xs⟩} a w/\ nu e.key φ' [e.E f] (.list o.xs)/\ (∀I cells,c.ti o.ty=some I->w.ownsRow 0 o.ty I.size (e.E f) o.xs.length cells-> ∀bx,(e.E f).ownBlock=some bx-> ∀j,j<cells.length->φ' bx j=cells[j]?):=by
 obtain ⟨I,cells,hI,hIc,fT,pP,hz⟩:=(h.jA f o hf).row;have hlen:=pP.length;have hle:sR e.φ (pQ e.φ (e.E f) cells):=by
  intro b off v hv;unfold pQ;by_cases hc:(e.E f).ownBlock=some b/\off<cells.length
  ·simp only [hc,and_self,if_true];obtain ⟨hb,ho⟩:=hc;rcases fT.2 with ⟨hE,_⟩|⟨g,cap,gJ,hE,_,hg,hn,Ok,zL,Kh⟩
   ·rw [hE] at hb;simp [No] at hb
   ·rw [hE] at hb;simp only [No,IN] at hb;subst hb;have:=h.pM _ _ _ hv;rw [cell_of hg] at this;rw [<-Kh,aa8];have cU:off<o.xs.length *I.size:=by omega
    simp only [cU,if_true];simpa using this
  ·simp only [hc,if_false];exact hv
 have pG: ∀b off v,pQ e.φ (e.E f) cells b off=some v->w.cell? ⟨b,off,none⟩=some v:=by
  intro b off v hv;unfold pQ at hv;by_cases hc:(e.E f).ownBlock=some b/\off<cells.length
  ·simp only [hc,and_self,if_true] at hv;rcases fT.2 with ⟨hE,_⟩|⟨g,cap,gJ,hE,_,hg,hn,Ok,zL,Kh⟩
   ·rw [hE] at hc;simp [No] at hc
   ·rw [hE] at hc;simp only [No,IN] at hc;obtain ⟨hb,ho⟩:=hc;subst hb;rw [cell_of hg];rw [<-Kh,aa8] at hv;have cU:off<o.xs.length *I.size:=by omega
    simp only [cU,if_true] at hv;simpa using hv
  ·simp only [hc,if_false] at hv;exact h.pM _ _ _ hv
 have agy: ∀b off,¬Z b->pQ e.φ (e.E f) cells b off=e.φ b off:=by
  intro b off hb;unfold pQ;by_cases hc:(e.E f).ownBlock=some b/\off<cells.length
  ·by_cases Cq:f∈Z.cV
   ·simp only [hc,and_self,if_true];exact (((hz b hc.1).2.2 Cq (hp.resolve_left (λhn=>hn Cq))) off hc.2).symm
   ·exact absurd (Oj (hz b hc.1).1 Cq) hb
  ·simp [hc]
 have Rj: ∀b off,(e.E f).ownBlock≠some b->pQ e.φ (e.E f) cells b off=e.φ b off:=by intro b off hb;unfold pQ;simp [hb]
 have xF:n9 (λ_=>True) (λ_=>True) e {e with φ:=pQ e.φ (e.E f) cells,m:=ck e.m f ⟨o.ty,true,o.xs⟩}:=by
  refine ⟨rfl,hle,λ_ _=>rfl,?_⟩;intro f2 o2 cU _;have cU:aT (ck e.m f ⟨o.ty,true,o.xs⟩) f2=some o2:=cU;rw [bw] at cU;by_cases gl:f2=f
  ·subst gl;simp at cU;subst cU;exact ⟨o,by rw [h.m];exact hf,rfl,rfl⟩
  ·simp only [gl,if_false] at cU;exact ⟨o2,cU,rfl,rfl⟩
 have my: ∀s:Slot,gQ (λ_=>True) (λ_=>True) s:=by intro s;cases s<;>simp [gQ,kw]
 refine ⟨_,hle,agy,?_,?_,?_⟩;rotate_right
 ·intro I' MY hI' agz bx hb j hj;rw [hI] at hI';cases hI';have hcc:=vg fT agz hb;subst hcc;unfold pQ;simp [hb,hj]
 ·refine ⟨h.defers,h.size,by show ck e.m f _=ck st.bn f _;rw [h.m],h.key,h.nodup,?_,h.root,?_,h.bb,?_,?_,pG,h.cP⟩
  ·intro t;have hs:=h.slot t;have hbf:=h.bf t;show cz Z _ w t _ (aw st.fr t);generalize aw st.fr t=s at hs hbf;cases s<;>simp only [cz] at hs⊢ <;>try exact hs.on xF (my _)
   rename_i cs;refine ⟨hs.1,hs.2.cP,?_,?_⟩
   ·obtain ⟨o2,h1,h2⟩:=hs.2.obj;exact ⟨o2,h1,h2.on xF (λl _ f _=>trivial)⟩
   ·intro off;show pQ e.φ (e.E f) cells (e.B t) off=none;rw [Rj _ _ (hbf cs f o rfl hf)];exact hs.2.free off
  ·intro f2 o2 cU;have cU:aT (ck st.bn f ⟨o.ty,true,o.xs⟩) f2=some o2:=cU;rw [bw] at cU;by_cases gl:f2=f
   ·subst gl;simp at cU;subst cU;refine ⟨I,cells,hI,hIc,fT,pP.mono hle,?_⟩;intro bx hb;refine ⟨(hz bx hb).1,?_,?_⟩;rotate_left
    ·intro _ _ j hj;show pQ e.φ (e.E f2) cells bx j=_;have hb:(e.E f2).ownBlock=some bx:=hb;unfold pQ;simp [hb,hj]
    intro off u hu;refine ⟨rfl,?_⟩;have hu:pQ e.φ (e.E f2) cells bx off=some u:=hu;unfold pQ at hu;by_cases hc:(e.E f2).ownBlock=some bx/\off<cells.length
    ·show off<o.xs.length *I.size;rw [<-hlen];exact hc.2
    ·simp only [hc,if_false] at hu;exact ((hz bx hb).2.1 off u hu).2
   ·simp only [gl,if_false] at cU;obtain ⟨I2,xP,h1,h2,h3,h4,h5⟩:=(h.jA f2 o2 cU).row;refine ⟨I2,xP,h1,h2,h3,h4.mono hle,?_⟩;intro bx hb;refine ⟨(h5 bx hb).1,?_,?_⟩;rotate_left
    ·intro g1 g2 j hj;show pQ e.φ (e.E f) cells bx j=_;rw [Rj _ _ (λhbf=>gl (h.ff f2 f o2 o bx cU hf hb hbf))];exact (h5 bx hb).2.2 g1 g2 j hj
    intro off u hu;have hu:pQ e.φ (e.E f) cells bx off=some u:=hu;rw [Rj _ _ (λhbf=>gl (h.ff f2 f o2 o bx cU hf hb hbf))] at hu;exact (h5 bx hb).2.1 off u hu
  ·intro t cs f2 o2 h1 h2;have h2:aT (ck st.bn f ⟨o.ty,true,o.xs⟩) f2=some o2:=h2;rw [bw] at h2;by_cases gl:f2=f
   ·subst gl;exact h.bf t cs f2 o h1 hf
   ·simp only [gl,if_false] at h2;exact h.bf t cs f2 o2 h1 h2
  ·intro f1 f2 o1 o2 k h1 h2 h3 h4;have h1:aT (ck st.bn f ⟨o.ty,true,o.xs⟩) f1=some o1:=h1;have h2:aT (ck st.bn f ⟨o.ty,true,o.xs⟩) f2=some o2:=h2;rw [bw] at h1 h2;have g1: ∃o',aT st.bn f1=some o':=by
    by_cases gl:f1=f
    ·subst gl;exact ⟨o,hf⟩
    ·simp only [gl,if_false] at h1;exact ⟨o1,h1⟩
   have g2: ∃o',aT st.bn f2=some o':=by
    by_cases gl:f2=f
    ·subst gl;exact ⟨o,hf⟩
    ·simp only [gl,if_false] at h2;exact ⟨o2,h2⟩
   obtain ⟨q1,g1⟩:=g1;obtain ⟨q2,g2⟩:=g2;exact h.ff f1 f2 q1 q2 k g1 g2 h3 h4
 ·have Dp:=pP.mono hle;rcases fT.2 with ⟨hE,hn⟩|⟨g,cap,gJ,hE,_,hg,hn,Ok,zL,Kh⟩
  ·have hx:o.xs=[]:=AT hn;have hv:[e.E f]=[abj none 0 0]:=by rw [hE]
   rw [hv,hx];exact .list none 0 [] 0 0 0 (λ_=>[]) (by simp) (by simp) (by simp) (by simp) (by simp)
  ·have hv:[e.E f]=[abj (some ⟨g,0,none⟩) o.xs.length cap]:=by rw [hE]
   rw [hv];have WL: ∀i (hi:i<o.xs.length),∃v1,v1.length=I.size/\nu e.key (pQ e.φ (e.E f) cells) v1 o.xs[i]/\(cells.drop (i *I.size)).take I.size=v1:=by intro i hi;obtain ⟨p1,v1,p2,he,QN,Cn,iv⟩:=Dp.at (IT hi);refine ⟨v1,Cn,iv,?_⟩;rw [he,AI,<-QN,adO,<-Cn,aca]
   refine .list (some ⟨g,0,none⟩) cap o.xs g 0 I.size (λi=>(cells.drop (i *I.size)).take I.size) hn (λ_=>rfl) ?_ ?_ ?_
   ·intro i hi;obtain ⟨v1,h1,_,h3⟩:=WL i hi;rw [h3,h1]
   ·intro i j hi hj;have hb:(e.E f).ownBlock=some g:=by rw [hE];rfl
    have HL:i *I.size+j<cells.length:=by
     rw [hlen];calc i *I.size+j<i *I.size+I.size:=by omega
      _=(i+1) *I.size:=by rw [abt]
      _<=o.xs.length *I.size:=aaL _ hi
    rw [aaT];unfold pQ;simp only [hb,HL,and_self,if_true];rw [aa8];simp only [hj,if_true,acE]
   ·intro i hi;obtain ⟨v1,_,h2,h3⟩:=WL i hi;rw [h3];exact h2
end
end Dn
/-
  Arguments and results. Conditions: none.
-/
namespace Dn
open Go
structure Ext (Z:Nat->Prop) (e e':Env):Prop where
 on:n9 (λ_=>True) (λ_=>True) e e'
 cP: ∀b off,¬Z b->e'.φ b off=e.φ b off
theorem Ext.refl (Z:Nat->Prop)(e:Env):Ext Z e e:=⟨⟨rfl,.refl _,λ_ _=>rfl,λf o h _=>⟨o,h,rfl,rfl⟩⟩,λ_ _ _=>rfl⟩
theorem Ext.trans {Z:Nat->Prop} {e e' e'':Env}(h:Ext Z e e') (h':Ext Z e' e''):Ext Z e e'':=by refine ⟨⟨h'.on.key.trans h.on.key,h.on.φ.trans h'.on.φ,λr hr=>(h'.on.B r hr).trans (h.on.B r hr),?_⟩,λb off hb=>(h'.cP b off hb).trans (h.cP b off hb)⟩;intro f o ho _;obtain ⟨o1,h1,h2,h3⟩:=h'.on.jA f o ho trivial;obtain ⟨o2,h4,h5,h6⟩:=h.on.jA f o1 h1 trivial;exact ⟨o2,h4,h2.trans h5,h3.trans h6⟩
theorem Ext.tr {Z:Nat->Prop} {e e':Env}{w:World}(h:Ext Z e e'):Trans Z e.φ w e'.φ w:=⟨h.on.φ,λ_ _ _=>rfl,h.cP,aas _,.refl _⟩
theorem eP (s:Slot):gQ (λ_=>True) (λ_=>True) s:=by cases s<;>simp [gQ,kw]
def cX (key:Nat->Nat) (φ:Ph):List Value->List MV->Prop
 |vs,[]=>vs=[]
 |vs,m::ms=> ∃v r,vs=v::r/\jU key φ v m/\cX key φ r ms
theorem cX.mono {key:Nat->Nat} {φ φ':Ph}(h:sR φ φ'){ms:List MV}: ∀{vs:List Value},cX key φ vs ms->cX key φ' vs ms:=by
 induction ms with
 |nil=>intro vs hh;exact hh
 |cons m ms ih=>intro vs hh;obtain ⟨v,r,rfl,h1,h2⟩:=hh;exact ⟨v,r,rfl,h1.mono h,ih h2⟩
theorem cX.append {key:Nat->Nat} {φ:Ph}{ms ns:List MV}: ∀{vs us:List Value},cX key φ vs ms->cX key φ us ns->cX key φ (vs++us) (ms++ns):=by
 induction ms with
 |nil=>intro vs us h h';cases h;simpa using h'
 |cons m ms ih=>intro vs us h h';obtain ⟨v,r,rfl,h1,h2⟩:=h;exact ⟨v,r++us,rfl,h1,ih h2 h'⟩
section
variable {P:Program}{c:Ctx}{Z:bR}{e:Env}{st:St}{a:Act} {w w':World}{R:Type}{r:R}{Q:Exit->Act->World->Prop}{o:Oper}
theorem pg {l:aJ}{vs:List Value}{K:MV->St->Option R}(h:cc c Z e st a w)(hl:aY e vs l)(hK:pI st l K=some r): ∃e' b7 m,cc c Z e' b7 a w/\Ext Z e e'/\b7.fr=st.fr/\nu e'.key e'.φ vs m/\K m b7=some r/\(vd l=true->e'=e/\b7=st)/\(∀f,l= .own f-> ∃o,aT st.bn f=some o/\m= .list o.xs)/\((∀x,l≠ .hs x)->m.one=true):=by
 cases l with
 |un=>simp [pI] at hK
 |p m=>exact ⟨e,st,m,h,.refl _ _,rfl,hl.2,hK,λ_=>⟨rfl,rfl⟩,by simp,λ_=>hl.1⟩
 |hs x=>have hl:vs=bM x:=hl;subst hl;exact ⟨e,st,.h x,h,.refl _ _,rfl,.h x,hK,λ_=>⟨rfl,rfl⟩,by simp,λhx=>absurd rfl (hx x)⟩
 |nil=>have hl:vs=[.slice none 0 0]:=hl;subst hl;exact ⟨e,st,.list [],h,.refl _ _,rfl,.list none 0 [] 0 0 0 (λ_=>[]) (by simp) (by simp) (by simp) (by simp) (by simp),hK,λhp=>by simp [vd] at hp,λ_ he=>(by cases he),λ_=>rfl⟩
 |mp s es=>simp [pI] at hK
 |own f=>
  simp only [pI] at hK;cases hf:aT st.bn f with
  |none=>simp [hf] at hK
  |some o=>
   simp only [hf] at hK;have Cq:f∉Z.cV\/o.eX=true:=by
    cases hz:o.eX with
    |true=>exact .inr rfl
    |false=>refine .inl (λhm=> ?_);rw [<-h.defers.2.2.1,<-bU] at hm;simp [hz,hm] at hK
   obtain ⟨φ',h1,h2,h3,h4,_⟩:=freeze h hf Cq;obtain ⟨v,rfl,hv,hE⟩:=hl;have hE:=hE o (by rw [h.m];exact hf);subst hE;have aaj:Ext Z e {e with φ:=φ',m:=ck e.m f ⟨o.ty,true,o.xs⟩}:=by
    refine ⟨⟨rfl,h1,λ_ _=>rfl,?_⟩,h2⟩;intro f2 o2 cU _;have cU:aT (ck e.m f ⟨o.ty,true,o.xs⟩) f2=some o2:=cU;rw [bw] at cU;by_cases gl:f2=f
    ·subst gl;simp at cU;subst cU;exact ⟨o,by rw [h.m];exact hf,rfl,rfl⟩
    ·simp only [gl,if_false] at cU;exact ⟨o2,cU,rfl,rfl⟩
   cases hz:o.eX with
   |true=>
    simp only [hz,cond_true] at hK;have S4:ck st.bn f ⟨o.ty,true,o.xs⟩=st.bn:=by rw [<-hz];exact Ri hf
    rw [S4] at h3;exact ⟨_,st,.list o.xs,h3,aaj,rfl,h4,hK,λhp=>by simp [vd] at hp,λ_ he=>by cases he;exact ⟨o,hf,rfl⟩,λ_=>rfl⟩
   |false=>
    simp only [hz,cond_false] at hK;cases hn:bL st.cV f with
    |true=>simp [hn] at hK
    |false=>simp only [hn,cond_false,pL] at hK;exact ⟨_,_,.list o.xs,h3,aaj,rfl,h4,hK,λhp=>by simp [vd] at hp,λ_ he=>by cases he;exact ⟨o,hf,rfl⟩,λ_=>rfl⟩
theorem oa {ls:List aJ}: ∀{e:Env} {st:St} {vs:List Value} {K:List MV->St->Option R},cc c Z e st a w->aC e vs ls->rP st ls K=some r-> ∃e' b7 ms,cc c Z e' b7 a w/\Ext Z e e'/\b7.fr=st.fr/\jB e'.key e'.φ vs ms/\K ms b7=some r/\(kj ls=true->e'=e/\b7=st)/\(∀ps,su ls ms=some ps->aC e' vs ps/\kj ps=true):=by
 induction ls with
 |nil=>intro e st vs K h hl hK;cases hl;exact ⟨e,st,[],h,.refl _ _,rfl,.nil,hK,λ_=>⟨rfl,rfl⟩,λps hp=>by simp [su] at hp;subst hp;exact ⟨rfl,rfl⟩⟩
 |cons l ls ih=>
  intro e st vs K h hl hK;obtain ⟨v,u,rfl,h1,h2⟩:=hl;simp only [rP] at hK;obtain ⟨e1,cR,m,zv,HM,E1,zO,oc,hp1,_,oX⟩:=pg h h1 hK;obtain ⟨e2,dV,ms,S5,Li,aak,Hf,xG,QO,BO⟩:=ih zv (h2.on HM.on (λl _ f _=>trivial)) oc;have hrm:nu e2.key e2.φ v m:=by have:=zO.mono Li.on.φ;rw [<-Li.on.key] at this;exact this
  refine ⟨e2,dV,m::ms,S5,HM.trans Li,aak.trans E1,.cons v m u ms ?_ Hf,xG,?_,?_⟩
  ·have:=zO.mono Li.on.φ;rw [<-Li.on.key] at this;exact this
  ·intro hp;simp only [kj,aaR] at hp;obtain ⟨q1,q2⟩:=hp1 hp.1;obtain ⟨q3,q4⟩:=QO hp.2;exact ⟨q3.trans q1,q4.trans q2⟩
  ·intro ps hp;cases hq:su ls ms with
   |none=>cases l<;>simp [su,hq] at hp
   |some q=>
    obtain ⟨g1,g2⟩:=BO q hq;by_cases hh: ∃x,l= .hs x
    ·obtain ⟨x,rfl⟩:=hh;simp [su,hq] at hp;subst hp;exact ⟨⟨v,u,rfl,h1,g1⟩,by simp [kj,vd,g2]⟩
    ·have oX:=oX (λx hx=>hh ⟨x,hx⟩);have FV:ps= .p m::q:=by cases l<;>simp [su,hq] at hp<;>first|exact hp.symm|exact absurd ⟨_,rfl⟩ hh
     subst FV;exact ⟨⟨v,u,rfl,⟨oX,hrm⟩,g1⟩,by simp [kj,vd,g2]⟩
theorem pi {s:Slot}{v:Value}{K:MV->St->Option R}(h:cc c Z e st a w)(hl:ah e v s)(hK:nW st s K=some r): ∃e' b7 m,cc c Z e' b7 a w/\Ext Z e e'/\b7.fr=st.fr/\jU e'.key e'.φ v m/\K m b7=some r:=by
 cases s with
 |sc l=>
  simp only [nW] at hK;cases l with
  |un=>simp [pI] at hK
  |hs x=>simp only [ah] at hl;exact ⟨e,st,.h x,h,.refl _ _,rfl,by simpa [jU,bM] using hl,hK⟩
  |p m=>simp only [ah] at hl;refine ⟨e,st,m,h,.refl _ _,rfl,?_,hK⟩;obtain ⟨h1,h2⟩:=hl;cases m<;>simp [MV.one] at h1<;>exact ⟨rfl,h2⟩
  |nil=>simp only [ah] at hl;obtain ⟨e',b7,m,q1,q2,q3,q4,q5,q6,_⟩:=pg h hl hK;have hl:[v]=[abj none 0 0]:=hl;refine ⟨e,st,.list [],h,.refl _ _,rfl,⟨rfl,?_⟩,hK⟩;rw [hl];exact .list none 0 [] 0 0 0 (λ_=>[]) (by simp) (by simp) (by simp) (by simp) (by simp)
  |mp s es=>simp [pI] at hK
  |own f=>
   simp only [ah] at hl;simp only [pI] at hK;cases hf:aT st.bn f with
   |none=>simp [hf] at hK
   |some o=>obtain ⟨e',b7,m,q1,q2,q3,q4,q5,q6,q7⟩:=pg (l:= .own f) h hl (by simpa only [pI,hf] using hK);obtain ⟨o2,_,rfl⟩:=q7.1 f rfl;exact ⟨e',b7,.list o2.xs,q1,q2,q3,⟨rfl,q4⟩,q5⟩
 |ag cs=>simp only [ah] at hl;obtain ⟨arr,hv,hl⟩:=hl;simp only [nW] at hK;obtain ⟨e',b7,ms,q1,q2,q3,q4,q5,_⟩:=oa h hl hK;exact ⟨e',b7,.agg ms,q1,q2,q3,⟨arr,hv,q4⟩,q5⟩
 |rp cs off=>
  simp only [ah] at hl;obtain ⟨bx,q,vs,hv,sV,hp,E0⟩:=hl;simp only [nW] at hK;cases hb:eJ off 0 with
  |false=>simp [hb] at hK
  |true=>simp only [hb,cond_true] at hK;have h0:=sh hb;subst h0;obtain ⟨e',b7,ms,q1,q2,q3,q4,q5,q6⟩:=oa h sV hK;obtain ⟨rfl,rfl⟩:=q6.1 hp;refine ⟨e',b7,.rp ms,q1,q2,q3,⟨rfl,?_⟩,q5⟩;rw [hv];exact .rp bx (q+0) vs ms q4 (by simpa using E0)
 |_=>simp [nW] at hK
theorem sW {ss:List Slot}: ∀{e:Env} {st:St} {vs:List Value} {K:List MV->St->Option R},cc c Z e st a w->(∃f:Unit->List Value,f ()=vs/\vs.length=ss.length/\ ∀(i:Nat) (v:Value) (s:Slot),vs[i]? =some v->ss[i]? =some s->ah e v s)-> xK st ss K=some r-> ∃e' b7 ms,cc c Z e' b7 a w/\Ext Z e e'/\b7.fr=st.fr/\cX e'.key e'.φ vs ms/\K ms b7=some r:=by
 induction ss with
 |nil=>intro e st vs K h hl hK;obtain ⟨f,_,hlen,_⟩:=hl;have:=AT hlen;subst this;exact ⟨e,st,[],h,.refl _ _,rfl,rfl,hK⟩
 |cons s ss ih=>
  intro e st vs K h hl hK;obtain ⟨f,_,hlen,iv⟩:=hl;cases vs with
  |nil=>simp at hlen
  |cons v vs=>simp only [xK] at hK;obtain ⟨e1,cR,m,q1,q2,q3,q4,q5⟩:=pi h (iv 0 v s rfl rfl) hK;obtain ⟨e2,dV,ms,p1,p2,p3,p4,p5⟩:=ih (vs:=vs) q1 ⟨λ_=>vs,rfl,by simpa using hlen,λi v s h1 h2=>(iv (i+1) v s (by simpa using h1) (by simpa using h2)).on q2.on (eP s)⟩ q5;refine ⟨e2,dV,m::ms,p1,q2.trans p2,p3.trans q3,⟨v,vs,rfl,?_,p4⟩,p5⟩;have:=q4.mono p2.on.φ;rw [<-p2.on.key] at this;exact this
end
end Dn
/-
  Parts of structs, lengths, the least and the greatest, places of elements. Conditions: none.
-/
namespace Dn
open Go
section
variable {P:Program}{c:Ctx}{Z:bR}{e:Env}{st:St}{a:Act} {w w':World}{R:Type}{K:St->Option R}{r:R}{Q:Exit->Act->World->Prop}{o:Oper}
theorem Lj {t:TypeId}{I:TI}(hr:qH c.ti P t I)(hc:I.dp=[]): ((I.st=true\/I.size=32)/\ ∀w:World,(isAgg t).run P w= .ok true w)\/(I.st=false/\I.size=1/\ ∀w:World,(isAgg t).run P w= .ok false w):=by
 rcases hr.agg hc with ⟨d,hu,hd,hh⟩|⟨d,hu,hd,h1,h2⟩
 ·refine .inl ⟨hh.imp id (·.2),λw=> ?_⟩;unfold isAgg;rw [aei,run_underlying hu w];cases d<;>simp_all [TypeDesc.isRow]
 ·refine .inr ⟨h1,h2,λw=> ?_⟩;unfold isAgg;rw [aei,run_underlying hu w];cases d<;>simp_all [TypeDesc.isRow]
theorem WM {t:TypeId}{I:TI}{cs:List aJ}{off:Nat}{arr:Array Value} {K':Slot->Option R}(hr:qH c.ti P t I)(hc:I.dp=[])(hv:aC e arr.toList cs)(hK:lr I cs off K'=some r): ∃v s,(∀w:World,(aeX t arr off).run P w= .ok v w)/\ah e v s/\cS st.fr s/\K' s=some r:=by
 obtain ⟨i,hi,hs,_⟩:=hr.info hc;have ext: ∀v1 v2 v3:List Value,arr.toList=v1++v2++v3->v1.length=off->(arr.extract off (off+v2.length))=v2.toArray:=by intro v1 v2 v3 h1 h2;apply abr.1;rw [adP,h1,acN,AI,<-h2,adO];simp
 unfold lr at hK;cases jn:I.st with
 |true=>
  simp only [jn,cond_true] at hK;cases hp:Dn.part cs off I.size with
  |none=>simp [hp] at hK
  |some ds=>
   simp only [hp] at hK;obtain ⟨v1,v2,v3,h0,h1,h2,h3⟩:=Lg hp hv;rcases Lj (P:=P) hr hc with ⟨_,hag⟩|⟨hf,_⟩
   ·refine ⟨.agg v2.toArray,.ag ds,?_,?_,trivial,hK⟩
    ·have hx:=ext v1 v2 v3 h0 h1;rw [h2] at hx;simp [aeX,hag,aa7,typeInfo,hi,hs,hx]
    ·simp only [ah];exact ⟨_,rfl,by simpa using h3⟩
   ·rw [jn] at hf;cases hf
 |false=>
  simp only [jn,cond_false] at hK;cases hp:cut cs off with
  |none=>simp [hp] at hK
  |some ds=>
   cases ds with
   |nil=>simp [hp] at hK
   |cons l ls=>
    simp only [hp] at hK;cases hb:eJ l.w I.size with
    |false=>simp [hb] at hK
    |true=>
     simp only [hb,cond_true] at hK;have hw:=sh hb;obtain ⟨v1,v2,h0,h1,h2⟩:=zI hp hv;obtain ⟨u,u2,rfl,h3,h4⟩:=h2;have hlu:u.length=I.size:=by rw [h3.width,hw]
     rcases Lj (P:=P) hr hc with ⟨hh,hag⟩|⟨_,h1s,hag⟩
     ·refine ⟨.agg u.toArray,.sc l,?_,h3.slot (.inr ⟨rfl,?_⟩),trivial,hK⟩
      ·have hx:=ext v1 u u2 (by rw [h0,AI]) h1;rw [hlu] at hx;simp [aeX,hag,aa7,typeInfo,hi,hs,hx]
      ·rcases hh with hh|hh
       ·rw [jn] at hh;cases hh
       ·rw [hw,hh]
     ·obtain ⟨v,rfl⟩:=adw.1 (by rw [hlu,h1s]);refine ⟨v,.sc l,?_,h3.slot (.inl ⟨rfl,?_⟩),trivial,hK⟩
      ·have:arr[off]? =some v:=by
        have:arr[off]? =arr.toList[off]? :=by simp
        rw [this,h0,aah (by omega),h1];simp
       simp [aeX,hag,this]
      ·rw [hw,h1s]
theorem adE {t:TypeId}{x:Operand}{f:Nat}{I:TI}(ho:o.op= .field t x f)(hI:c.tv t=some I)(hT:lV P c.ti)(h:cc c Z e st a w)(hK:ado c I f (aM c st x) (λs=>bu c st o.dst s K)=some r):Rd P c Z K r e a w o (λ_=>True):=by
 obtain ⟨hx,rR⟩:=h.eval x;obtain ⟨pO,hc⟩:=b6 hI;obtain ⟨d,i,h1,h2,h3,h4⟩:=hT t I pO;generalize aM c st x=s at hx hK rR;unfold ado at hK;split at hK
 ·rename_i q y cs jn hq hy;simp only [ah] at hx;obtain ⟨arr,hx,sV⟩:=hx;cases hJ:c.tv y with
  |none=>simp [hJ] at hK
  |some J=>
   simp only [hJ] at hK;obtain ⟨hJt,hJc⟩:=b6 hJ;obtain ⟨v,s,cy,h5,h6,h7⟩:=WM (P:=P) (st:=st) (hT y J hJt) hJc sV hK;refine jV (v:=v) h ?_ h5 h6 h7;cases d<;>simp only [tQ] at h4;case struct fs=>
    obtain ⟨_,_,_,Ud,cU,_⟩:=h4;rw [<-Ud,aa1] at hq;rw [<-cU,aa1] at hy;cases hf:fs.toList[f]? with
    |none=>simp [hf] at hq
    |some fl=>
     simp [hf] at hq hy;subst hq;subst hy;have ZH:fs[f]? =some fl:=by simpa using hf
     simp [execOp,ho,hx,Instr.field,run_underlying h1,ZH,asAgg,cy]
   all_goals (exfalso;simp_all)
 ·simp at hK
theorem TI.n4 {I:TI}{t:TypeId}(hr:qH c.ti P t I)(h:I.AN=true):P.underlying t=some (.slice I.elem)/\ ∃E,c.ti I.elem=some E/\E.dp=[]/\0<E.size:=by
 unfold TI.AN at h;split at h
 ·rename_i jn hl;obtain ⟨d,i,h1,h2,h3,h4⟩:=hr;cases d<;>simp only [tQ,hl,jn] at h4<;>first|(exfalso;simp_all;done)|skip
  obtain ⟨_,_,_,rfl,hE,_⟩:=h4;exact ⟨h1,hE⟩
 ·cases h
theorem TI.HN {I:TI}{t:TypeId}(hr:qH c.ti P t I)(h:I.VJ=true):P.underlying t=some .string:=by
 unfold TI.VJ at h;split at h
 ·rename_i jn hl;obtain ⟨d,i,h1,h2,h3,h4⟩:=hr;cases d<;>simp only [tQ,hl,jn] at h4<;>first|(exfalso;simp_all;done)|skip
  exact h1
 ·cases h
theorem HO {v:Value}{xs:List MV}(h:ah e v (.sc (.p (.list xs)))): ∃ad cap,v= .slice ad xs.length cap/\xs.length<=cap:=by simp only [ah,aY] at h;obtain ⟨_,h⟩:=h;generalize hv:[v]=vs at h;cases h;exact ⟨_,_,by simpa using hv,by assumption⟩
theorem sX {f:Nat} {w':pH}{v:Value}(h:cc c Z e st a w)(hv:ah e v (.sc (.own f)))(hf:aT st.bn f=some w'):v=e.E f/\ ∃ad cap,v= .slice ad w'.xs.length cap/\w'.xs.length<=cap:=by
 simp only [ah] at hv;obtain ⟨u,hu,_,hE⟩:=hv;simp at hu;subst hu;have hE:=hE w' (by rw [h.m];exact hf);refine ⟨hE,?_⟩;obtain ⟨I,cells,_,_,fT,_⟩:=(h.jA f w' hf).row;rcases fT.2 with ⟨h1,h2⟩|⟨g,cap,gJ,h1,_,_,h2,_⟩
 ·exact ⟨none,0,by rw [hE,h1,h2],by omega⟩
 ·exact ⟨_,cap,by rw [hE,h1],h2⟩
theorem jW {l:List Operand}:kq c st l=l.map (aM c st):=by
 induction l with
 |nil=>rfl
 |cons x r ih=>simp [kq,ih]
theorem adF {cl:Call}{t:TypeId}{I:TI}(ho:o.op= .call cl)(hb:cl.callee= .builtin .len)(ha:cl.argTypes.toList=[t])(hI:c.tv t=some I)(hT:lV P c.ti)(h:cc c Z e st a w)(hK:Wg I st (kq c st cl.args.toList) (λs=>bu c st o.dst s K)=some r):Rd P c Z K r e a w o (λ_=>True):=by
 obtain ⟨pO,hc⟩:=b6 hI;have hr:=hT t I pO;have Om:cl.argTypes= #[t]:=by rw [<-abr,ha]
 rw [jW] at hK;have go: ∀x,cl.args.toList=[x]-> ∀n:Nat,(∃b:ByteArray,a.eval x= .string b/\b.size=n/\P.underlying t=some .string)\/(∃ad cap,a.eval x= .slice ad n cap/\ ∃el,P.underlying t=some (.slice el))-> bu c st o.dst (.sc (.p (.i .i64 n))) K=some r->Rd P c Z K r e a w o (λ_=>True):=by
  intro x hx n HP hK;have Uf:cl.args= #[x]:=by rw [<-abr,hx]
  refine jV h ?_ (sU .i64 (n:Int)) trivial hK;rcases HP with ⟨b,h1,h2,h3⟩|⟨ad,cap,h1,el,h3⟩
  ·simp [execOp,ho,resolve,hb,invoke,builtin,Builtin.len_,Om,Uf,run_underlying h3,h1,goInt,h2]
  ·simp [execOp,ho,resolve,hb,invoke,builtin,Builtin.len_,Om,Uf,run_underlying h3,h1,goInt]
 cases hl:cl.args.toList with
 |nil=>rw [hl] at hK;simp [Wg] at hK
 |cons x ys=>
  rw [hl] at hK;cases ys with
  |cons y zs=>simp only [OF] at hK;unfold Wg at hK;split at hK<;>simp_all
  |nil=>
   simp only [OF,afA] at hK;obtain ⟨hx,_⟩:=h.eval x;generalize aM c st x=s at hx hK;unfold Wg at hK;split at hK
   ·rename_i l hs;simp at hs;subst hs;cases hS:I.VJ with
    |false=>simp [hS] at hK
    |true=>simp only [hS,cond_true] at hK;obtain ⟨b,GN,rfl⟩:=FR hx;exact go x hl _ (.inl ⟨b,GN,by show b.data.size=_;exact (abk).symm,TI.HN hr hS⟩) hK
   ·rename_i l hs;simp at hs;subst hs;cases hS:I.AN with
    |false=>simp [hS] at hK
    |true=>simp only [hS,cond_true] at hK;obtain ⟨ad,cap,hv,_⟩:=HO hx;exact go x hl _ (.inr ⟨ad,cap,hv,_,(TI.n4 hr hS).1⟩) hK
   ·rename_i hs;simp at hs;subst hs;cases hS:I.AN with
    |false=>simp [hS] at hK
    |true=>simp only [hS,cond_true] at hK;simp only [ah] at hx;have hx:[a.eval x]=[abj none 0 0]:=hx;simp at hx;exact go x hl 0 (.inr ⟨none,0,hx,_,(TI.n4 hr hS).1⟩) hK
   ·rename_i f hs;simp at hs;subst hs;cases hS:I.AN with
    |false=>simp [hS] at hK
    |true=>
     simp only [hS,cond_true] at hK;cases hf:aT st.bn f with
     |none=>simp [hf] at hK
     |some w'=>simp only [hf] at hK;obtain ⟨_,ad,cap,hv,_⟩:=sX h hx hf;exact go x hl _ (.inr ⟨ad,cap,hv,_,(TI.n4 hr hS).1⟩) hK
   ·simp at hK
end
end Dn
/-
  Values as leaves; places of elements; the least and the greatest; parts of slices. Conditions: none.
-/
namespace Dn
open Go
section
variable {P:Program}{c:Ctx}{Z:bR}{e:Env}{st:St}{a:Act} {w w':World}{R:Type}{K:St->Option R}{r:R}{Q:Exit->Act->World->Prop}{o:Oper}
structure acd (e:Env) (k:Kd) (vs:List Value) (m:MV) (l:aJ):Prop where
 rep:nu e.key e.φ vs m->aY e vs l
 VM:vd l=true
 mv:bT [l]=some [m]
 one: ∀m',l= .p m'->m'.one=true
 wid:l.w=GM [k]
theorem oY {k:Kd}{m:MV}{vs:List Value} {K':aJ->Option R}(hK:lq k m K'=some r): ∃l,acd e k vs m l/\K' l=some r:=by
 have mk: ∀m:MV,m.one=true->(GM [k]=1)->K' (.p m)=some r-> ∃l,acd e k vs m l/\K' l=some r:=λm h1 h2 h3=>⟨.p m,⟨λh=>⟨h1,h⟩,rfl,rfl,λm' e=>by cases e;exact h1,h2.symm⟩,h3⟩
 cases k with
 |b=>unfold lq gB at hK;cases m<;>simp at hK;exact mk _ rfl rfl hK
 |s=>unfold lq gS at hK;cases m<;>simp at hK;exact mk _ rfl rfl hK
 |l=>unfold lq gL at hK;cases m<;>simp at hK;exact mk _ rfl rfl hK
 |i k=>
  unfold lq gI at hK;cases m<;>simp at hK;rename_i k' n;by_cases hk:k'=k
  ·subst hk;simp at hK;exact mk _ rfl rfl hK
  ·simp [hk] at hK
 |h=>unfold lq gH at hK;cases m<;>simp at hK;rename_i x;refine ⟨.hs x,⟨?_,rfl,rfl,by simp,rfl⟩,hK⟩;intro h;cases h;rfl
 |raw=>unfold lq gR at hK;cases m<;>simp at hK<;>exact mk _ rfl rfl hK
theorem BP {l:aJ}{ls:List aJ}{m:MV}{ms:List MV}(h1:bT [l]=some [m])(h2:bT ls=some ms):bT (l::ls)=some (m::ms):=by cases l<;>simp [bT] at h1⊢ <;>simp [h2,h1]
structure aal (e:Env) (ks:List Kd) (vs:List Value) (ms:List MV) (ls:List aJ):Prop where
 rep:jB e.key e.φ vs ms->aC e vs ls
 VM:kj ls=true
 mv:bT ls=some ms
 one: ∀m',aJ.p m'∈ls->m'.one=true
 wid:zD ls=GM ks
theorem Uh (k:Kd)(ks:List Kd):GM (k::ks)=GM [k]+GM ks:=by cases k<;>simp [GM]
theorem xQ {ks:List Kd}: ∀{ms:List MV} {vs:List Value} {K':List aJ->Option R},vc ks ms K'=some r-> ∃ls,aal e ks vs ms ls/\K' ls=some r:=by
 induction ks with
 |nil=>
  intro ms vs K' hK;cases ms with
  |nil=>exact ⟨[],⟨λh=>by cases h;rfl,rfl,rfl,by simp,rfl⟩,hK⟩
  |cons m ms=>simp [vc,gN] at hK
 |cons k ks ih=>
  intro ms vs K' hK;cases ms with
  |nil=>simp [vc,gC] at hK
  |cons m ms=>
   simp only [vc,gC] at hK;have h1:=λvs=>oY (e:=e) (vs:=vs) hK;obtain ⟨l,hl,oc⟩:=h1 [];obtain ⟨ls,OS,xG⟩:=ih (vs:=[]) oc;refine ⟨l::ls,⟨?_,?_,BP hl.mv OS.mv,?_,?_⟩,xG⟩
   ·intro h;have g:aC e vs (l::ls):=by
     apply h.leaves (BP hl.mv OS.mv);intro m' hm;rcases aa6.1 hm with hm|hm
     ·exact hl.one m' hm.symm
     ·exact OS.one m' hm
    exact g
   ·simp [kj,hl.VM,OS.VM]
   ·intro m' hm;rcases aa6.1 hm with hm|hm
    ·exact hl.one m' hm.symm
    ·exact OS.one m' hm
   ·rw [Uh,<-hl.wid,<-OS.wid];rfl
theorem aam {t:TypeId}{I:TI}(hr:qH c.ti P t I)(hc:I.dp=[]):GM I.lay=I.size:=by
 obtain ⟨d,i,h1,h2,h3,h4⟩:=hr;cases d<;>simp only [tQ] at h4;case struct fs=>exact h4.2.2.1.2
 case tuple ts=>exact absurd hc h4.2.1
 case slice el=>obtain ⟨_,_,hs,_,_,_,_,k,hl,rfl⟩:=h4;rw [hl,hs];rfl
 case array n el=>obtain ⟨_,_,hs,_,_,_,hl,_⟩:=h4;rw [hl,hs];rfl
 all_goals (obtain ⟨_,_,hs,hl,_⟩:=h4;rw [hl,hs];rfl)
theorem FW {E:TI}{t:TypeId}{x:MV} {K':List aJ->Option R}(hr:qH c.ti P t E)(hc:E.dp=[])(hK:MF E x K'=some r): ∃cs,Hw E.st x cs/\kj cs=true/\zD cs=E.size/\K' cs=some r:=by
 have hlw:=aam hr hc;unfold MF at hK;cases jn:E.st with
 |true=>
  simp only [jn,cond_true] at hK;unfold gA at hK;split at hK
  ·rename_i ms;obtain ⟨ls,OS,oc⟩:=xQ (e:=⟨λn=>n,λ_ _=>none,λ_=>undef,λ_=>0,[]⟩) (vs:=[]) hK;exact ⟨ls,⟨⟨ms,OS.mv,by simp [vW]⟩,OS.one⟩,OS.VM,by rw [OS.wid,hlw],oc⟩
  ·simp at hK
 |false=>
  simp only [jn,cond_false] at hK;split at hK
  ·rename_i k hl;obtain ⟨l,Cn,oc⟩:=oY (e:=⟨λn=>n,λ_ _=>none,λ_=>undef,λ_=>0,[]⟩) (vs:=[]) hK;refine ⟨[l],⟨⟨[x],Cn.mv,by simp [vW]⟩,?_⟩,by simp [kj,Cn.VM],?_,oc⟩
   ·intro m hm;simp at hm;exact Cn.one m hm.symm
   ·rw [<-hlw,hl,<-Cn.wid];rfl
  ·simp at hK
theorem adG {t:TypeId}{x y:Operand}{I E:TI}(ho:o.op= .indexAddr t x y)(hI:c.tv t=some I)(hE:c.tv I.elem=some E)(hT:lV P c.ti)(h:cc c Z e st a w)(hK:adp c st I E (aM c st x) (aM c st y) (λs=>bu c st o.dst s K)=some r):Rd P c Z K r e a w o (λ_=>True):=by
 obtain ⟨hx,rR⟩:=h.eval x;obtain ⟨hy,_⟩:=h.eval y;obtain ⟨pO,hc⟩:=b6 hI;obtain ⟨tq,wa⟩:=b6 hE;have hr:=hT t I pO;have hrE:=hT _ E tq;obtain ⟨iE,hiE,hsE,_⟩:=hrE.info wa;have run: ∀k n bx off len cap,P.underlying t=some (.slice I.elem)->a.eval y= .int k n->a.eval x= .slice (some ⟨bx,off,none⟩) len cap->0<=n->n.toNat<len-> ∀w:World,(execOp a.eval o).run P w= .ok (.value (.pointer (some ⟨bx,off+n.toNat *E.size,none⟩))) w:=by
  intro k n bx off len cap hu hy hx h0 h1 w;have h2:n<(len:Int):=by omega
  simp [execOp,ho,hx,hy,Instr.indexAt,asIntOf,run_underlying hu,h0,h2,aa7,typeInfo,hiE,hsE,ab1]
 generalize aM c st x=sx at hx hK rR;generalize aM c st y=sy at hy hK;unfold adp at hK;split at hK
 ·rename_i xs k n;cases hL:I.AN with
  |false=>simp [hL] at hK
  |true=>
   simp only [hL,cond_true] at hK;obtain ⟨h0,m,hm,hK⟩:=OO hK;obtain ⟨cs,h1,h2,h3,hK⟩:=FW hrE wa hK;have dO:n.toNat<xs.length:=(BY.1 hm).1;simp only [ah,aY] at hx;obtain ⟨_,hx⟩:=hx;generalize hv:[a.eval x]=vs at hx;cases hx with
   |list ad cap _ bx off Le f g1 g2 g3 g4 g5=>
   simp at hv;have iv:=g5 n.toNat dO;rw [(BY.1 hm).2] at iv;have sV:=iv.HH h1;have VN:Le=E.size:=by rw [<-h3,<-sV.width,g3 _ dO]
   rw [g2 (by omega)] at hv;refine jV (s:= .rp cs 0) h (run k n bx off _ cap (TI.n4 hr hL).1 (mg hy) hv h0 dO) ?_ trivial hK;simp only [ah];refine ⟨bx,off+n.toNat *E.size,f n.toNat,rfl,sV,h2,?_⟩;intro j hj;rw [g3 _ dO] at hj;rw [<-VN];exact g4 n.toNat j dO hj
 ·rename_i f k n;cases hf:aT st.bn f with
  |none=>simp [hf] at hK
  |some fo=>
   simp only [hf] at hK;cases hL:I.AN with
   |false=>simp [hL] at hK
   |true=>
    simp only [hL,cond_true] at hK;obtain ⟨h0,m,hm,hK⟩:=OO hK;obtain ⟨cs,h1,h2,h3,hK⟩:=FW hrE wa hK;have dO:n.toNat<fo.xs.length:=(BY.1 hm).1;obtain ⟨hv,_⟩:=sX h hx hf;obtain ⟨J,cells,_,_,fT,_⟩:=(h.jA f fo hf).row;rcases fT.2 with ⟨h5,h6⟩|⟨g,cap,gJ,h5,_⟩
    ·omega
    ·rw [h5] at hv;refine jV (s:= .ep f n.toNat 0 E.st cs) h (run k n g 0 _ cap (TI.n4 hr hL).1 (mg hy) hv h0 dO) ?_ trivial hK;simp only [ah];intro o2 cU;rw [h.m,hf] at cU;cases cU;exact ⟨g,cap,h5,⟨m,hm,h1⟩,by rw [h3,aaT,acx]⟩
 ·rename_i r' o' k n;cases jn:I.st with
  |true=>simp [jn] at hK
  |false=>
   simp only [jn,cond_false] at hK;split at hK
   ·rename_i hl;obtain ⟨QP,hK⟩:=eY hK;obtain ⟨h0,h1⟩:=of_decide_eq_true QP;obtain ⟨d,i,hu,h2,h3,h4⟩:=hr;cases d<;>simp only [tQ,hl,jn] at h4<;>first|(exfalso;simp_all;done)|skip
    obtain ⟨_,_,_,rfl,_,⟨ie,hue,Db,zv⟩,_⟩:=h4;simp only [ah] at hx;refine jV (s:= .hp r' o' n.toNat) (v:= .pointer (some ⟨e.B r',o'+n.toNat,none⟩)) h ?_ ?_ rR hK
    ·simp [execOp,ho,hx,mg hy,Instr.indexAt,asIntOf,run_underlying hu,h0,h1,aa7,typeInfo,Db,zv,acy,ab1]
    ·simp only [ah];exact ⟨trivial,by omega⟩
   ·simp at hK
 ·simp at hK
theorem Ui {mx:Bool}{k:IntKind}{ss:List Slot}: ∀{vs:List Value} {n:Int} {m:MV},Wa mx k n ss=some m->vs.length=ss.length-> (∀(i:Nat) (v:Value) (s:Slot),vs[i]? =some v->ss[i]? =some s->ah e v s)-> ∃v,(∀w:World,(vs.foldlM (if mx then Builtin.max2 else Builtin.min2) (.int k n)).run P w= .ok v w)/\ah e v (.sc (.p m)):=by
 induction ss with
 |nil=>intro vs n m hm hl hs;have:=AT hl;subst this;simp [Wa] at hm;subst hm;exact ⟨.int k n,by simp,sU k n⟩
 |cons s ss ih=>
  intro vs n m hm hl hs;cases vs with
  |nil=>simp at hl
  |cons v vs=>
   have h0:=hs 0 v s rfl rfl;unfold Wa at hm;split at hm
   ·rename_i jC;simp at jC
   ·rename_i k' y r' jC;simp at jC;obtain ⟨rfl,rfl⟩:=jC;by_cases hk:k'=k
    ·subst hk;simp only [decide_true,cond_true] at hm;obtain ⟨u,h1,h2⟩:=ih hm (by simpa using hl) (λi v s h1 h2=>hs (i+1) v s (by simpa using h1) (by simpa using h2));refine ⟨u,λw=> ?_,h2⟩;have h1:=h1 w;rw [mg h0];cases mx
     ·simp only [cond_false,agi] at h1;simp [Builtin.min2] at h1⊢;exact h1
     ·simp only [cond_true,imax] at h1;simp [Builtin.max2] at h1⊢;exact h1
    ·simp [hk] at hm
   ·simp at hm
theorem Lk {cl:Call}{mx:Bool}{m:MV}(ho:o.op= .call cl)(hb:cl.callee= .builtin (if mx then .max else .min))(h:cc c Z e st a w)(hm:QW mx (kq c st cl.args.toList)=some m)(hK:bu c st o.dst (.sc (.p m)) K=some r):Rd P c Z K r e a w o (λ_=>True):=by
 rw [jW] at hm;cases hl:cl.args.toList with
 |nil=>rw [hl] at hm;simp [QW] at hm
 |cons x xs=>
  rw [hl] at hm;simp only [OF] at hm;obtain ⟨hx,_⟩:=h.eval x;generalize aM c st x=s at hx hm;unfold QW at hm;split at hm
  ·rename_i k n ss jC;simp at jC;obtain ⟨rfl,rfl⟩:=jC;obtain ⟨v,h1,h2⟩:=Ui (e:=e) (P:=P) (vs:=xs.map a.eval) hm (by simp) (by intro i v s h1 h2;simp only [aa1,Option.map_eq_some_iff] at h1 h2;obtain ⟨y,h3,rfl⟩:=h1;obtain ⟨y',h4,rfl⟩:=h2;rw [h3] at h4;cases h4;exact (h.eval y).1);have kL:(cl.args.map a.eval).toList= .int k n::xs.map a.eval:=by simp [hl,mg hx]
   refine jV (v:=v) h ?_ h2 trivial hK;intro w;have h1:=h1 w;cases mx
   ·simp at hb h1;have WN: ∀ts t,(Builtin.min_ ts t (cl.args.map a.eval)).run P w= .ok v w:=by intro ts t;unfold Builtin.min_;rw [kL];exact h1
    simp [execOp,ho,resolve,hb,invoke,builtin,WN]
   ·simp at hb h1;have WN: ∀ts t,(Builtin.max_ ts t (cl.args.map a.eval)).run P w= .ok v w:=by intro ts t;unfold Builtin.max_;rw [kL];exact h1
    simp [execOp,ho,resolve,hb,invoke,builtin,WN]
  ·simp at hm
end
end Dn
/-
  Parts of slices and texts. Conditions: none.
-/
namespace Dn
open Go
section
variable {P:Program}{c:Ctx}{Z:bR}{e:Env}{st:St}{a:Act} {w w':World}{R:Type}{K:St->Option R}{r:R}{Q:Exit->Act->World->Prop}{o:Oper}
theorem xR {b:Bool}{lo hi:Option Operand}{len cap:Nat} {K':Nat->Nat->Option R}(h:cc c Z e st a w)(Cr:len<=cap)(hK:sliceB (nr c st lo) (nr c st hi) len K'=some r): ∃l h',l<=h'/\h'<=len/\(lo=none->l=0)/\(∀w:World,(aaX b len cap (lo.map a.eval) (hi.map a.eval) none).run P w= .ok (l,h',cap) w)/\K' l h'=some r:=by
 have bnd: ∀(k:IntKind) (n:Int) (y:Nat) (cd:BoundsCode),0<=n->n<=(y:Int)-> ∀w:World,(acf (.int k n) y cd).run P w= .ok n.toNat w:=by intro k n y cd h1 h2 w;simp [acf,asIntOf,h1,h2]
 unfold sliceB at hK;cases lo with
 |none=>
  cases hi with
  |none=>simp only [nr] at hK;exact ⟨0,len,by omega,by omega,λ_=>rfl,by simp [aaX],hK⟩
  |some y=>
   obtain ⟨hy,_⟩:=h.eval y;simp only [nr] at hK;generalize aM c st y=sy at hy hK;split at hK<;>first|(simp_all;done)|skip
   ·rename_i k n h1 h2;simp at h2;subst h2;obtain ⟨QP,hK⟩:=eY hK;obtain ⟨h3,h4,h5⟩:=of_decide_eq_true QP;refine ⟨0,n.toNat,by omega,by omega,λ_=>rfl,?_,hK⟩;have:=bnd k n cap (if b then .sliceAcap else .sliceAlen) h4 (by omega);cases b<;>simp at this<;>simp [aaX,mg hy,this]
 |some x=>
  obtain ⟨hx,_⟩:=h.eval x;cases hi with
  |none=>
   simp only [nr] at hK;generalize aM c st x=sx at hx hK;split at hK<;>first|(simp_all;done)|skip
   ·rename_i k n h1 h2;simp at h1;subst h1;obtain ⟨QP,hK⟩:=eY hK;obtain ⟨h3,h4,h5⟩:=of_decide_eq_true QP;refine ⟨n.toNat,len,by omega,by omega,by simp,?_,by simpa using hK⟩;have:=bnd k n len .sliceB h3 h4;simp [aaX,mg hx,this]
  |some y=>
   obtain ⟨hy,_⟩:=h.eval y;simp only [nr] at hK;generalize aM c st x=sx at hx hK;generalize aM c st y=sy at hy hK;split at hK<;>first|(simp_all;done)|skip
   ·rename_i k n k' n' h1 h2;simp at h1 h2;subst h1;subst h2;obtain ⟨QP,hK⟩:=eY hK;obtain ⟨h3,h4,h5⟩:=of_decide_eq_true QP;refine ⟨n.toNat,n'.toNat,by omega,by omega,by simp,?_,hK⟩;have t1:=bnd k' n' cap (if b then .sliceAcap else .sliceAlen) (by omega) (by omega);have t2:=bnd k n n'.toNat .sliceB h3 (by omega);cases b<;>simp at t1<;>simp [aaX,mg hx,mg hy,t1,t2]
theorem nu.sub {key:Nat->Nat} {φ:Ph}{ad:Option Addr}{len cap:Nat}{xs:List MV} {l h' size:Nat}(hv:nu key φ [.slice ad len cap] (.list xs))(hl:l<=h')(hh:h'<=xs.length)(hw:l≠0-> ∀x∈xs,x.w=size):len=xs.length/\len<=cap/\nu key φ [.slice (if cap=l then ad else ad.map (·.add (l *size))) (h'-l) (cap-l)] (.list ((xs.take h').drop l)):=by
 generalize BM:[abj ad len cap]=vs at hv;cases hv with
 |list ad' WK _ bx off Le f g1 g2 g3 g4 g5=>
 simp at BM;obtain ⟨rfl,rfl,rfl⟩:=BM;refine ⟨rfl,g1,?_⟩;have hlen:((xs.take h').drop l).length=h'-l:=by simp;omega
 have agF:nu key φ [.slice (if cap=l then ad else ad.map (·.add (l *size))) ((xs.take h').drop l).length (cap-l)] (.list ((xs.take h').drop l)):=by
  have tS: ∀i,i<((xs.take h').drop l).length->i+l<xs.length:=by intro i hi;omega
  have hel: ∀(i:Nat) (hi:i<((xs.take h').drop l).length),((xs.take h').drop l)[i]=xs[i+l]'(tS i hi):=by intro i hi;simp [aeA]
  refine .list _ _ _ bx (off+l *Le) Le (λi=>f (i+l)) (by rw [hlen];omega) ?_ ?_ ?_ ?_
  ·intro h0;have dS:cap≠l:=by omega
   have hx0:0<xs.length:=by omega
   rw [g2 hx0];simp only [dS,if_false,Option.map_some,IN];by_cases hl0:l=0
   ·subst hl0;simp [ab1]
   ·have VN:Le=size:=by have h3:=g5 0 hx0;rw [<-g3 0 hx0,h3.width];exact hw hl0 _ (aeK hx0)
    rw [VN,ab1]
  ·intro i hi;exact g3 _ (tS i hi)
  ·intro i j hi hj;have:=g4 (i+l) j (tS i hi) hj;rw [<-this];congr 1;rw [aco];omega
  ·intro i hi;rw [hel i hi];exact g5 (i+l) (tS i hi)
 rw [hlen] at agF;exact agF
theorem Dq {n:Nat}{l:List MV}(h:iG n l=true): ∀x∈l,x.w=n:=by intro x hx;unfold iG at h;rw [aeJ] at h;exact sh (h x hx)
theorem bB.iG {key:Nat->Nat} {φ:Ph}{size:Nat}{xs:List MV}: ∀{cs:List Value},bB key φ size cs xs-> ∀x∈xs,x.w=size:=by
 induction xs with
 |nil=>intro cs _ x hx;simp at hx
 |cons y ys ih=>
  intro cs h x hx;obtain ⟨v,q,rfl,h1,h2,h3⟩:=h;rcases aa6.1 hx with rfl|hx
  ·rw [<-h2.width,h1]
  ·exact ih h3 x hx
theorem WO {t:TypeId}{x:Operand}{lo hi:Option Operand}{I:TI}(ho:o.op= .slice t x lo hi none)(hI:c.tv t=some I)(hT:lV P c.ti)(h:cc c Z e st a w)(hK:QX c I st (aM c st x) (nr c st lo) (nr c st hi) (λs st=>bu c st o.dst s K)=some r):Rd P c Z K r e a w o (λ_=>True):=by
 obtain ⟨hx,rR⟩:=h.eval x;obtain ⟨pO,hc⟩:=b6 hI;have hr:=hT t I pO;have run: ∀{el E},P.underlying t=some (.slice el)->c.ti el=some E->E.dp=[]-> ∀ad len cap l h',a.eval x= .slice ad len cap->(∀w:World,(aaX true len cap (lo.map a.eval) (hi.map a.eval) none).run P w= .ok (l,h',cap) w)-> ∀w:World,(execOp a.eval o).run P w= .ok (.value (.slice (if cap=l then ad else ad.map (·.add (l *E.size))) (h'-l) (cap-l))) w:=by intro el E hu hE wa ad len cap l h' hv hb w;obtain ⟨iE,hiE,hsE,_⟩:=(hT _ E hE).info wa;simp [execOp,ho,ad6,aeL,run_underlying hu,hv,hb,aa7,typeInfo,hiE,hsE]
 generalize hs:aM c st x=s at hx hK rR;unfold QX at hK;split at hK
 ·rename_i bs;cases hS:I.VJ with
  |false=>simp [hS] at hK
  |true=>
   simp only [hS,cond_true] at hK;have hu:=TI.HN hr hS;obtain ⟨b,hb,rfl⟩:=FR hx;have tp:b.data.toList.length=b.size:=by rw [abk];rfl
   rw [tp] at hK;obtain ⟨l,h',h1,h2,_,h3,hK⟩:=xR (P:=P) (b:=false) (cap:=b.size) h (aas _) hK;refine jV (s:= .sc (.p (.s ((b.data.toList.take h').drop l)))) (v:= .string (b.extract l h')) h ?_ ?_ trivial hK
   ·simp [execOp,ho,ad6,aeL,run_underlying hu,hb,h3]
   ·have:=WD (e:=e) (b.extract l h');have h5:(b.extract l h').data.toList=(b.data.toList.take h').drop l:=by rw [adx,adP,acN,List.drop_take]
    rwa [h5] at this
 ·rename_i xs;cases hS:I.AN with
  |false=>simp [hS] at hK
  |true=>
   simp only [hS,cond_true] at hK;obtain ⟨hu,_⟩:=TI.n4 hr hS;cases hE:c.tv I.elem with
   |none=>simp [hE] at hK
   |some E=>
    simp only [hE] at hK;obtain ⟨tq,wa⟩:=b6 hE;have xG:(lo≠none->iG E.size xs=true)/\sliceB (nr c st lo) (nr c st hi) xs.length (λl h'=>bu c st o.dst (.sc (.p (.list ((xs.take h').drop l)))) K)=some r:=by
     cases lo with
     |none=>exact ⟨by simp,hK⟩
     |some y=>simp only [nr] at hK⊢;obtain ⟨h1,h2⟩:=eY hK;exact ⟨λ_=>h1,h2⟩
    obtain ⟨hw,hK⟩:=xG;obtain ⟨ad,cap,hv,Cr⟩:=HO hx;obtain ⟨l,h',h1,h2,h0,h3,hK⟩:=xR (P:=P) (b:=true) (cap:=cap) h Cr hK;simp only [ah,aY] at hx;rw [hv] at hx;obtain ⟨_,_,iv⟩:=nu.sub (size:=E.size) hx.2 h1 h2 (λhl=>Dq (hw (λhn=>hl (h0 hn))));refine jV (s:= .sc (.p (.list ((xs.take h').drop l)))) h (run hu tq wa ad _ cap l h' hv h3) ?_ trivial hK;simp only [ah,aY];exact ⟨rfl,iv⟩
 ·rename_i f;cases hf:aT st.bn f with
  |none=>simp [hf] at hK
  |some fo=>
   simp only [hf] at hK;cases hS:I.AN&&eJ fo.ty I.elem with
   |false=>simp [hS] at hK
   |true=>simp only [hS,cond_true] at hK;simp only [aaR] at hS;obtain ⟨hu,E,tq,wa,_⟩:=TI.n4 hr hS.1;have kz:=sh hS.2;obtain ⟨hvE,ad,cap,hv,Cr⟩:=sX h hx hf;simp only [ah] at hx;obtain ⟨J,cells,hJ,_,_,pP,_⟩:=(h.jA f fo hf).row;rw [kz,tq] at hJ;cases hJ;have hwx:=pP.iG;obtain ⟨e',b7,m,BQ,aaj,GO,iv,hK,_,hm⟩:=pg h hx hK;obtain ⟨o2,cU,rfl⟩:=hm.1 f rfl;rw [hf] at cU;cases cU;obtain ⟨l,h',h1,h2,h0,h3,hK⟩:=xR (P:=P) (b:=true) (cap:=cap) h Cr hK;rw [hv] at iv;obtain ⟨_,_,iv⟩:=nu.sub (size:=E.size) iv h1 h2 (λ_=>hwx);refine Rb (s:= .sc (.p (.list ((fo.xs.take h').drop l)))) (λw _=>run hu tq wa ad _ cap l h' hv h3 w) BQ aaj.tr (.of ?_ trivial) hK;simp only [ah,aY];exact ⟨rfl,iv⟩
 ·cases hS:I.AN with
  |false=>simp [hS] at hK
  |true=>
   simp only [hS,cond_true] at hK;obtain ⟨hu,E,tq,wa,_⟩:=TI.n4 hr hS;simp only [ah] at hx;have hx:[a.eval x]=[abj none 0 0]:=hx;simp at hx;obtain ⟨l,h',h1,h2,_,h3,hK⟩:=xR (P:=P) (b:=true) (cap:=0) h (aas _) hK;have h4:h'=0:=by omega
   have h5:l=0:=by omega
   subst h4;subst h5;refine jV (s:= .sc .nil) h (run hu tq wa none 0 0 0 0 hx h3) ?_ trivial hK;simp only [ah,if_true];rfl
 ·simp at hK
theorem aan {t:TypeId}{x y z:Operand}{I:TI}(ho:o.op= .slice t x none (some y) (some z))(hI:c.tv t=some I)(hT:lV P c.ti)(h:cc c Z e st a w)(hK:We I (aM c st x) (aM c st y) (aM c st z) (λs=>bu c st o.dst s K)=some r):Rd P c Z K r e a w o (λ_=>True):=by
 obtain ⟨hx,rR⟩:=h.eval x;obtain ⟨hy,_⟩:=h.eval y;obtain ⟨hz,_⟩:=h.eval z;obtain ⟨pO,hc⟩:=b6 hI;have hr:=hT t I pO;generalize aM c st x=s at hx hK rR;generalize aM c st y=s2 at hy hK;generalize aM c st z=s3 at hz hK;unfold We at hK;split at hK
 ·rename_i l n n';cases hS:I.AN with
  |false=>simp [hS] at hK
  |true=>
   simp only [hS,cond_true] at hK;obtain ⟨QP,xG⟩:=eY hK;obtain ⟨rfl,rfl⟩:=of_decide_eq_true QP;obtain ⟨hu,E,tq,wa,_⟩:=TI.n4 hr hS;obtain ⟨iE,hiE,hsE,_⟩:=(hT _ E tq).info wa;obtain ⟨ad,cap,hv,Cr⟩:=HO hx;simp only [ah,aY] at hx;rw [hv] at hx;have bnd: ∀(m:Nat) (cd:BoundsCode),l.length<=m-> ∀w:World,(acf (.int .i64 (l.length:Int)) m cd).run P w= .ok l.length w:=by
    intro m cd hm w;have:(l.length:Int)<=(m:Int):=by omega
    simp [acf,asIntOf,this]
   have hb: ∀w:World,(aaX true l.length cap none (some (.int .i64 (l.length:Int))) (some (.int .i64 (l.length:Int)))).run P w= .ok (0,l.length,l.length) w:=by intro w;have b1:=bnd cap .slice3Acap Cr;have b2:=bnd l.length .slice3B (aas _);simp [aaX,b1,b2]
   have iv:nu e.key e.φ [.slice ad l.length l.length] (.list l):=by
    have h2:=hx.2;generalize BM:[abj ad l.length cap]=vs at h2;cases h2 with
    |list ad' WK _ bx off Le f g1 g2 g3 g4 g5=>
    simp at BM;obtain ⟨rfl,_⟩:=BM;exact .list _ _ _ bx off Le f (aas _) g2 g3 g4 g5
   refine jV (s:= .sc (.p (.clip l))) (v:= .slice ad l.length l.length) h (λw=> ?_) ?_ trivial xG
   ·simp [execOp,ho,ad6,aeL,run_underlying hu,hv,mg hy,mg hz,hb,aa7,typeInfo,hiE,hsE];intro dS;cases ad with
    |none=>rfl
    |some b=>simp [Addr.add]
   ·simp only [ah,aY];exact ⟨rfl,.clip _ _ iv⟩
 ·simp at hK
end
end Dn
/-
  Stores. Conditions: none.
-/
namespace Dn
open Go
section
variable {P:Program}{c:Ctx}{Z:bR} {e e':Env}{st:St}{a:Act} {w w':World}{R:Type}{K:St->Option R}{r:R}{Q:Exit->Act->World->Prop}{o:Oper}
theorem HQ (x:lp)(i:Nat)(b:UInt8)(hi:i<32):bM (x.put i b)=(bM x).take i++[.int .u8 (b.toNat:Int)]++(bM x).drop (i+1):=by
 have:bM (x.put i b)=(bM x).set i (.int .u8 (b.toNat:Int)):=by simp [bM,lp.put,List.map_set]
 have hl:=dr x;rw [this,List.set_eq_take_append_cons_drop,if_pos (by omega)];simp
structure WQ (e e':Env):Prop where
 key:e'.key=e.key
 φ:sR e.φ e'.φ
 jA: ∀f o',aT e'.m f=some o'->(∃o,aT e.m f=some o)/\e'.E f=e.E f
theorem aY.WR (h:WQ e e'){vs:List Value}{l:aJ}(hr:aY e vs l):aY e' vs l:=by
 cases l with
 |p m=>exact ⟨hr.1,by have:=hr.2.mono h.φ;rw [<-h.key] at this;exact this⟩
 |own f=>obtain ⟨v,rfl,hv,hf⟩:=hr;refine ⟨v,rfl,hv,λo' Km=> ?_⟩;obtain ⟨⟨o,ho⟩,hE⟩:=h.jA f o' Km;rw [hE];exact hf o ho
 |_=>exact hr
theorem aC.WR (h:WQ e e'){cs:List aJ}: ∀{vs:List Value},aC e vs cs->aC e' vs cs:=by
 induction cs with
 |nil=>intro vs hr;exact hr
 |cons l r ih=>intro vs hr;obtain ⟨v,w,rfl,h1,h2⟩:=hr;exact ⟨v,w,rfl,h1.WR h,ih h2⟩
def S7 (f:Nat)(s:Slot):Slot:=match s with
 | .ep g i o b cs=>bif eJ g f then .sc .un else .ep g i o b cs
 |s=>s
theorem wQ (f:Nat)(r:Fr)(t:Nat):aw (zF f r) t=S7 f (aw r t):=Hz (S7 f) rfl r t
theorem Uj (f:Nat)(s:Slot):di (S7 f s)=di s:=by cases s<;>simp only [S7];rename_i g _ _ _ _;cases eJ g f<;>rfl
theorem ah.WR {f:Nat}{T:Nat->Prop}(h:WQ e e')(xF:n9 (· ≠f) T e e'){v:Value}{s:Slot}(hT:gQ (λ_=>True) T s)(hr:ah e v s):ah e' v (S7 f s):=by
 cases s with
 |sc l=>
  simp only [S7];cases l with
  |un=>simp [ah]
  |hs x=>simpa [ah] using hr
  |p m=>simp only [ah] at hr⊢;exact hr.WR h
  |nil=>simp only [ah] at hr⊢;exact hr.WR h
  |mp s es=>simp only [ah] at hr⊢;exact hr
  |own f=>simp only [ah] at hr⊢;exact hr.WR h
 |ag cs=>simp only [S7,ah] at hr⊢;obtain ⟨arr,h1,h2⟩:=hr;exact ⟨arr,h1,h2.WR h⟩
 |ep g i o b cs=>
  simp only [S7];cases hb:eJ g f
  ·simp only [cond_false];refine hr.on xF ?_;simp only [gQ];intro e;subst e;simp [eH] at hb
  ·simp [ah]
 |_=>exact hr.on xF hT
theorem kT.WR (h:WQ e e')(hk:e'.key=e.key)(hp:sR e.φ e'.φ){o:Obj}{cs:List aJ}(hr:kT e o cs):kT e' o cs:=by
 cases o with
 |cells arr T z=>exact ⟨hr.1,hr.2.WR h⟩
 |map es clock=>exact hr
 |stringIter x pos=>exact hr
 |_=>exact hr.elim
theorem bB.set {key:Nat->Nat} {φ:Ph}{size:Nat}{xs:List MV}: ∀{cs:List Value} {i:Nat} {x:MV} {v':List Value},bB key φ size cs xs->i<xs.length->v'.length=size->nu key φ v' x-> bB key φ size (cs.take (i *size)++v'++cs.drop (i *size+size)) (xs.set i x):=by
 induction xs with
 |nil=>intro cs i x v' _ hi;simp at hi
 |cons y ys ih=>
  intro cs i x v' h hi hl hr;obtain ⟨v,q,rfl,h1,h2,h3⟩:=h;cases i with
  |zero=>simp only [aeB,List.take_zero,adH,aaT,List.set_cons_zero];exact ⟨v',q,by rw [ab2 h1],hl,hr,h3⟩
  |succ i=>have:=ih h3 (by simpa using hi) hl hr;rw [List.set_cons_succ];refine ⟨v,_,?_,h1,h2,this⟩;rw [abt,acg,adb,abu (by omega),ady (by omega)];rw [show i *size+size-v.length=i *size by omega,show i *size+size+size-v.length=i *size+size by omega];simp
theorem cc.adJ {f:Nat}{fo:pH}{I:TI}{g i:Nat}{cap:Nat}{gJ:Array Value} {v' cells:List Value}{x:MV}(h:cc c Z e st a w)(hf:aT st.bn f=some fo)(hz:fo.eX=false)(hI:c.ti fo.ty=some I)(hIc:I.dp=[])(hE:e.E f= .slice (some ⟨g,0,none⟩) fo.xs.length cap)(fT:w.ownsRow 0 fo.ty I.size (e.E f) fo.xs.length cells)(hg:w.heap[g]? =some (.cells gJ fo.ty (0,0)))(pP:bB e.key e.φ I.size cells fo.xs)(hi:i<fo.xs.length)(hl:v'.length=I.size)(hr:nu e.key e.φ v' x)(Cq:f∉Z.cV): cc c Z {e with m:=ck e.m f ⟨fo.ty,false,fo.xs.set i x⟩} {st with fr:=zF f st.fr,bn:=ck st.bn f ⟨fo.ty,false,fo.xs.set i x⟩} a (w.setRow g (gJ.toList.take (i *I.size)++v'++gJ.toList.drop (i *I.size+I.size)).toArray)/\Z g:=by
 have hb:(e.E f).ownBlock=some g:=by rw [hE];rfl
 have hZ:Z g/\ ∀off,e.φ g off=none:=by
  obtain ⟨J,xP,_,_,_,_,h5⟩:=(h.jA f fo hf).row;obtain ⟨h6,h7⟩:=h5 g hb;refine ⟨Oj h6 Cq,λoff=> ?_⟩;cases hp:e.φ g off with
  |none=>rfl
  |some u=>have:=(h7.1 off u hp).1;rw [hz] at this;cases this
 have tp:=setRow_size w g (gJ.toList.take (i *I.size)++v'++gJ.toList.drop (i *I.size+I.size)).toArray;have hE1:WQ e {e with m:=ck e.m f ⟨fo.ty,false,fo.xs.set i x⟩}:=by
  refine ⟨rfl,.refl _,λf2 o2 cU=>⟨?_,rfl⟩⟩;have cU:aT (ck e.m f ⟨fo.ty,false,fo.xs.set i x⟩) f2=some o2:=cU;rw [bw] at cU;by_cases gl:f2=f
  ·exact ⟨fo,by rw [gl,h.m];exact hf⟩
  ·simp only [gl,if_false] at cU;exact ⟨o2,cU⟩
 have xF:n9 (· ≠f) (λ_=>True) e {e with m:=ck e.m f ⟨fo.ty,false,fo.xs.set i x⟩}:=by refine ⟨rfl,.refl _,λ_ _=>rfl,λf2 o2 cU dS=> ?_⟩;have cU:aT (ck e.m f ⟨fo.ty,false,fo.xs.set i x⟩) f2=some o2:=cU;rw [bw] at cU;simp only [dS,if_false] at cU;exact ⟨o2,cU,rfl,rfl⟩
 have tS: ∀f2 o2,aT (ck st.bn f ⟨fo.ty,false,fo.xs.set i x⟩) f2=some o2-> ∃o3,aT st.bn f2=some o3:=by
  intro f2 o2 cU;rw [bw] at cU;by_cases gl:f2=f
  ·exact ⟨fo,by rw [gl];exact hf⟩
  ·simp only [gl,if_false] at cU;exact ⟨o2,cU⟩
 refine ⟨⟨h.defers,h.size,by show ck e.m f _=ck st.bn f _;rw [h.m],h.key,?_,?_,?_,?_,?_,?_,?_,?_,λb hb=>h.cP b (by omega)⟩,hZ.1⟩
 ·show (aV (zF f st.fr)).Nodup;have:aV (zF f st.fr)=aV st.fr:=by simp [aV,zF]
  rw [this];exact h.nodup
 ·intro t;show cz Z _ _ t _ (aw (zF f st.fr) t);rw [wQ];have hs:=h.slot t;have hbf:=h.bf t;generalize aw st.fr t=s at hs hbf;by_cases HR: ∃cs,s= .box cs
  ·obtain ⟨cs,rfl⟩:=HR;simp only [cz,S7] at hs⊢;refine ⟨hs.1,hs.2.cP,?_,hs.2.free⟩;obtain ⟨o2,h1,h2⟩:=hs.2.obj;refine ⟨o2,?_,h2.WR hE1 rfl (.refl _)⟩;rw [setRow_other _ _ _ _ (by intro eb;exact hbf cs f fo rfl hf (by rw [hb,<-eb]))];exact h1
  ·have BQ:ah e (a.tmps.getD t undef) s:=by cases s<;>simp only [cz] at hs<;>first|exact hs|exact absurd ⟨_,rfl⟩ HR
   have h2:=BQ.WR (f:=f) hE1 xF (eP s);generalize QQ:S7 f s=s2 at h2;cases s2<;>first|exact h2|(exfalso;simp [ah] at h2)
 ·intro t;show cS (zF f st.fr) (aw (zF f st.fr) t);rw [wQ];have rR:=h.root t;generalize aw st.fr t=s at rR;have hk: ∀q,di (aw (zF f st.fr) q)=di (aw st.fr q):=λq=>by rw [wQ,Uj]
  cases s with
  |ptr q o=>show di (aw (zF f st.fr) q)=true;rw [hk];exact rR
  |hp q o i=>show di (aw (zF f st.fr) q)=true;rw [hk];exact rR
  |zC q=>show di (aw (zF f st.fr) q)=true;rw [hk];exact rR
  |ep g' _ _ _ _=>simp only [S7];cases eJ g' f<;>trivial
  |_=>trivial
 ·intro f2 o2 cU;have cU:aT (ck st.bn f ⟨fo.ty,false,fo.xs.set i x⟩) f2=some o2:=cU;rw [bw] at cU;by_cases gl:f2=f
  ·subst gl;simp at cU;subst cU;obtain ⟨hlen,HP⟩:=fT;refine ⟨I,cells.take (i *I.size)++v'++cells.drop (i *I.size+I.size),hI,hIc,⟨?_,?_⟩,?_,?_⟩
   ·have hle:i *I.size+I.size<=fo.xs.length *I.size:=by rw [<-abt];exact aaL _ hi
    simp only [IS,ach,adg,aeW];omega
   ·have hle:i *I.size+I.size<=fo.xs.length *I.size:=by rw [<-abt];exact aaL _ hi
    rcases HP with ⟨h1,_⟩|⟨g2,uS,OT,h1,_,h3,h4,h5,h6,h7⟩
    ·rw [hE] at h1;simp at h1
    ·rw [hE] at h1;simp at h1;obtain ⟨rfl,rfl⟩:=h1;rw [hg] at h3;simp at h3;subst h3;refine .inr ⟨g,cap,(gJ.toList.take (i *I.size)++v'++gJ.toList.drop (i *I.size+I.size)).toArray,by rw [hE];simp,by omega,setRow_heap _ _ _ _ _ _ hg,by simpa using h4,h5,?_,?_⟩
     ·have sY:gJ.toList.length=gJ.size:=by simp
      have hcz:fo.xs.length *I.size<=cap *I.size:=aaL _ h4;simp only [abv,IS,ach,adg,sY];omega
     ·have sY:gJ.toList.length=gJ.size:=by simp
      have hcz:fo.xs.length *I.size<=cap *I.size:=aaL _ h4;simp only [aeW];rw [<-h7];have e1:(gJ.toList.take (fo.xs.length *I.size)).take (i *I.size)=gJ.toList.take (i *I.size):=by rw [List.take_take,Nat.min_eq_left (by omega)]
      have e2:(gJ.toList.take (fo.xs.length *I.size)).drop (i *I.size+I.size)=(gJ.toList.drop (i *I.size+I.size)).take (fo.xs.length *I.size-(i *I.size+I.size)):=by rw [List.drop_take]
      rw [e1,e2];have e3:(gJ.toList.take (i *I.size)++v').length=i *I.size+I.size:=by simp only [IS,ach,sY];omega
      show List.take _ (gJ.toList.take (i *I.size)++v'++gJ.toList.drop (i *I.size+I.size))=_;rw [acg,e3,abu (by omega)]
   ·exact pP.set hi hl hr
   ·intro bx lW;rw [hb] at lW;cases lW;exact ⟨.inr hZ.1,λoff u hu=>(by have hu:e.φ g off=some u:=hu;rw [hZ.2] at hu;cases hu),λ_ hf=>Bool.noConfusion hf⟩
  ·simp only [gl,if_false] at cU;obtain ⟨I2,xP,h1,h2,h3,h4,h5⟩:=(h.jA f2 o2 cU).row;exact ⟨I2,xP,h1,h2,Rh (λhk=>gl (h.ff f2 f o2 fo g cU hf hk hb)) h3,h4,h5⟩
 ·intro t t' c1 c2 h1 h2 dS;have h1:aw (zF f st.fr) t= .box c1:=h1;have h2:aw (zF f st.fr) t'= .box c2:=h2;rw [wQ] at h1 h2;have g1:aw st.fr t= .box c1:=by generalize aw st.fr t=s at h1;cases s<;>simp only [S7] at h1<;>first|exact h1|(simp at h1;done)|(rename_i g' _ _ _ _;cases tP:eJ g' f<;>simp [tP] at h1)
  have g2:aw st.fr t'= .box c2:=by generalize aw st.fr t'=s at h2;cases s<;>simp only [S7] at h2<;>first|exact h2|(simp at h2;done)|(rename_i g' _ _ _ _;cases tP:eJ g' f<;>simp [tP] at h2)
  exact h.bb t t' c1 c2 g1 g2 dS
 ·intro t c1 f2 o2 h1 h2;have h1:aw (zF f st.fr) t= .box c1:=h1;rw [wQ] at h1;have g1:aw st.fr t= .box c1:=by generalize aw st.fr t=s at h1;cases s<;>simp only [S7] at h1<;>first|exact h1|(simp at h1;done)|(rename_i g' _ _ _ _;cases tP:eJ g' f<;>simp [tP] at h1)
  obtain ⟨o3,Rg⟩:=tS f2 o2 h2;exact h.bf t c1 f2 o3 g1 Rg
 ·intro f1 f2 o1 o2 k h1 h2 h3 h4;obtain ⟨q1,g1⟩:=tS f1 o1 h1;obtain ⟨q2,g2⟩:=tS f2 o2 h2;exact h.ff f1 f2 q1 q2 k g1 g2 h3 h4
 ·intro b off v hv;have hv:e.φ b off=some v:=hv;have dS:b≠g:=by intro eb;subst eb;rw [hZ.2] at hv;cases hv
  rw [aba (setRow_other _ _ _ _ dS)];exact h.pM b off v hv
theorem aC.akL {cs:List aJ}: ∀{vs:List Value} {ms:List MV},aC e vs cs->bT cs=some ms->jB e.key e.φ vs ms:=by
 induction cs with
 |nil=>intro vs ms h hm;cases h;simp [bT] at hm;subst hm;exact .nil
 |cons l r ih=>
  intro vs ms h hm;obtain ⟨v,u,rfl,h1,h2⟩:=h;cases hr:bT r with
  |none=>cases l<;>simp [bT,hr] at hm
  |some q=>
   cases l<;>simp [bT,hr] at hm
   ·subst hm;exact .cons v _ u q h1.2 (ih h2 hr)
   ·subst hm;have h1:v=bM _:=h1;subst h1;exact .cons _ _ u q (.h _) (ih h2 hr)
theorem WS {b:Bool}{ms:List MV}{x:MV}{vs:List Value}(h:jB e.key e.φ vs ms)(hx:vW b ms=some x):nu e.key e.φ vs x:=by
 cases b with
 |true=>cases ms<;>simp [vW] at hx<;>subst hx<;>exact .agg _ _ h
 |false=>
  cases ms with
  |nil=>simp [vW] at hx
  |cons m ms=>
   cases ms with
   |cons y ys=>simp [vW] at hx
   |nil=>
    simp [vW] at hx;subst hx;generalize BM:vs=QM at h;cases h with
    |cons v _ u _ h1 h2=>cases h2;simpa using h1
theorem WT {t:TypeId}{x y:Operand}{I:TI}(ho:o.op= .store t x y)(hI:c.tv t=some I)(hT:lV P c.ti)(h:cc c Z e st a w)(hK:stK st I (aM c st x) (aM c st y) (λst=>bu c st o.dst (.sc .un) K)=some r):o.wp P a w (Out c Z K r e.φ w) Q:=by
 obtain ⟨hx,rR⟩:=h.eval x;obtain ⟨hy,_⟩:=h.eval y;obtain ⟨pO,hc⟩:=b6 hI;have hr:=hT t I pO;have go: ∀w' b7,(acP t (a.eval x) (a.eval y)).run P w= .ok () w'->cc c Z e b7 a w'->Trans Z e.φ w e.φ w'->bu c b7 o.dst (.sc .un) K=some r->o.wp P a w (Out c Z K r e.φ w) Q:=by intro w' b7 h1 h2 h3 h4;refine Dm ?_ h2 h3 h4;simp [execOp,ho,h1]
 generalize aM c st x=sx at hx hK rR;generalize aM c st y=sy at hy hK;unfold stK at hK;cases hb:wN (aP sy)||!eJ (zD (aP sy)) I.size with
 |true=>simp [hb] at hK
 |false=>
  simp only [hb,cond_false] at hK;simp only [abb,acz] at hb;have HK:=sh hb.2;have jD:0<I.size:=by
   rcases hr.agg hc with ⟨d,hu,hd,hh⟩|⟨_,_,_,_,hh⟩
   ·obtain ⟨d',i',h1,h2,h3,h4⟩:=hr;cases d'<;>simp only [tQ] at h4<;>first|omega|exact h4.2.2.1|exact absurd hc h4.2.1
   ·omega
  have dS:aP sy≠[]:=by intro e0;rw [e0] at HK;simp [zD] at HK;omega
  have hcv:=BN hy hb.1 dS;split at hK
  ·rename_i root off;simp only [ah] at hx;split at hK
   ·rename_i cs zL;have wI:gM cs=false:=by cases hq:gM cs<;>simp_all
    simp only [wI,cond_false] at hK;cases hp:putAt cs off (aP sy) with
    |none=>simp [hp] at hK
    |some kh=>simp only [hp] at hK;obtain ⟨w',b7,h1,h2,h3,h4⟩:=Ug (P:=P) wI hr hc h zL hcv HK hp hK;exact go w' b7 (by rw [hx];exact h1) h2 h3 h4
   ·simp at hK
  ·rename_i root off i;simp only [ah] at hx;obtain ⟨hx,Rf⟩:=hx;split at hK
   ·rename_i cs n zL;have wI:gM cs=false:=by cases hq:gM cs<;>simp_all
    simp only [wI,cond_false] at hK;split at hK
    ·rename_i x ls adz;unfold gI at hK;split at hK
     ·rename_i k n;by_cases hk:k= .u8
      ·subst hk;simp only [decide_true,cond_true] at hK;obtain ⟨Dr,hK⟩:=eY hK;unfold isByte at Dr;have Dr:=of_decide_eq_true Dr;have hyv:=mg hy;cases hp:putAt cs off [.hs (x.put i (abM n.toNat))] with
       |none=>simp [hp] at hK
       |some kh=>
        simp only [hp] at hK;have nv:=h.slot root;rw [zL] at nv;obtain ⟨arr,T,eZ,sV⟩:=nv.2.cells wI;obtain ⟨p1,p2,p3,he,h1,h2,h3⟩:=xN (ws:=bM (x.put i (abM n.toNat))) hp sV ⟨_,[],by simp,rfl,rfl⟩;obtain ⟨u1,u2,hu,h4,h5⟩:=zI adz sV;obtain ⟨u3,u4,rfl,h6,_⟩:=h5;have h6:u3=bM x:=h6;subst h6;have hlx:=dr x;have hly:=dr (x.put i (abM n.toNat));have hpu:p1=u1/\p2++p3=bM x++u4:=List.append_inj (by rw [<-AI,<-he,hu]) (by omega);obtain ⟨rfl,hpu⟩:=hpu;obtain ⟨rfl,rfl⟩:=List.append_inj hpu (by omega);have tp:arr.size=p1.length+32+p3.length:=by
         have:arr.toList.length=(p1++bM x++p3).length:=by rw [he]
         simp at this;omega
        have MZ:(a.eval y).cells.toList=[.int .u8 n]:=by rw [hyv];simp [aaD]
        have Re:I.size=1:=by rw [<-HK];rfl
        have cy:=sv (P:=P) (w:=w) (bx:=e.B root) (off:=off+i) (v:=a.eval y) hr hc (by rw [MZ,Re];rfl) (by rw [MZ];simp [aaa]) eZ (by omega);have wP:arr.toList.take (off+i)++(a.eval y).cells.toList++arr.toList.drop (off+i+I.size)=p1++bM (x.put i (abM n.toNat))++p3:=by rw [MZ,Re,he,HQ x i _ Rf,<-Dr,AI p1,acg,adb,acg,adb];rw [abu (by omega),ady (by omega)];rw [show off+i-p1.length=i by omega,show off+i+1-p1.length=i+1 by omega,show i-(bM x).length=0 by omega,show i+1-(bM x).length=0 by omega];simp
        rw [wP] at cy;unfold wr at hK;cases hn:bL st.cJ root with
        |true=>simp [hn] at hK
        |false=>simp only [hn,cond_false,force_eq,oK] at hK;exact go _ _ (by rw [hx];exact cy) (h.WJ zL eZ (by simpa using h3) (λt=>by rw [cb]) (fP h.nodup)) (.setRow _ (Oj nv.2.cP (by rw [<-h.defers.2.1,<-bU,hn];simp))) hK
      ·simp [hk] at hK
     ·simp at hK
    ·simp at hK
   ·simp at hK
  ·rename_i f i off b cs;obtain ⟨e1,cR,ms,zv,HM,E1,zO,hK,hp1,BO⟩:=oa h hcv hK;have hx:=hx.on HM.on (eP _);cases hf:aT cR.bn f with
   |none=>simp [hf] at hK
   |some fo=>
    simp only [hf] at hK;cases hz:fo.eX with
    |true=>simp [hz] at hK
    |false=>
     simp only [hz,cond_false] at hK;cases MP:su (aP sy) ms with
     |none=>simp [MP] at hK
     |some vs=>
      simp only [MP] at hK;obtain ⟨BM,_⟩:=BO vs MP;cases hp:putAt cs off vs with
      |none=>simp [hp] at hK
      |some kh=>
       simp only [hp] at hK;cases hm:bT kh with
       |none=>simp [hm] at hK
       |some ms'=>
        simp only [hm] at hK;cases hre:vW b ms' with
        |none=>simp [hre] at hK
        |some x'=>
         simp only [hre] at hK;cases hn:bL cR.cV f with
         |true=>simp [hn] at hK
         |false=>
          simp only [hn,cond_false,adr,pL] at hK;simp only [ah] at hx;obtain ⟨bx,cap,hE,⟨x0,hx0,hel⟩,WU⟩:=hx fo (by rw [zv.m];exact hf);obtain ⟨J,cells,hJ,hJc,fT,pP,_⟩:=(zv.jA f fo hf).row;have hi:i<fo.xs.length:=(BY.1 hx0).1;obtain ⟨p1,v1,p2,hce,QN,Cn,iv⟩:=pP.at hx0;have sV:=iv.HH hel;have hw1:=sV.width;obtain ⟨q1,q2,q3,OP,hq1,hq2,wP⟩:=xN hp sV BM;have agG:(a.eval y).cells.toList.length=I.size:=by rw [hcv.width,HK]
          have agH:=WS (wP.akL hm) hre;obtain ⟨hlen,HP⟩:=fT;rcases HP with ⟨g1,_⟩|⟨g2,uS,gJ,g1,g0,g3,g4,g5,g6,g7⟩
          ·rw [hE] at g1;simp at g1
          ·have Ll:w.ownsRow 0 fo.ty J.size (e1.E f) fo.xs.length cells:=⟨hlen,.inr ⟨g2,uS,gJ,g1,g0,g3,g4,g5,g6,g7⟩⟩
           rw [hE] at g1;simp at g1;obtain ⟨rfl,rfl⟩:=g1;have hvl:(q1++(a.eval y).cells.toList++q3).length=J.size:=by
            have:v1.length=(q1++q2++q3).length:=by rw [OP]
            simp only [IS] at this⊢;omega
           obtain ⟨sZ,hZ⟩:=zv.adJ hf hz hJ hJc hE Ll g3 pP hi hvl agH (by rw [<-zv.defers.2.2.1,<-bU,hn];simp);have WV:gJ.toList=p1++q1++q2++(q3++p2++gJ.toList.drop (fo.xs.length *J.size)):=by have:=List.take_append_drop (fo.xs.length *J.size) gJ.toList;rw [g7,hce,OP] at this;refine this.symm.trans ?_;simp
           have aqJ:q2.length=I.size:=by rw [hq2,agG]
           have HL:(p1++q1).length=i *J.size+off:=by simp [QN,hq1]
           have aqK:gJ.size=(p1++q1).length+I.size+(q3++p2++gJ.toList.drop (fo.xs.length *J.size)).length:=by
            have:gJ.toList.length=(p1++q1++q2++(q3++p2++gJ.toList.drop (fo.xs.length *J.size))).length:=by rw [<-WV]
            rw [IS,IS] at this;rw [abk] at this;omega
           have cy:=sv (P:=P) (w:=w) (bx:=bx) (off:=i *J.size+off) (v:=a.eval y) hr hc agG hcv.cells g3 (by omega);have qI:gJ.toList.take (i *J.size+off)++(a.eval y).cells.toList++gJ.toList.drop (i *J.size+off+I.size)= gJ.toList.take (i *J.size)++(q1++(a.eval y).cells.toList++q3)++gJ.toList.drop (i *J.size+J.size):=by
            have t1:gJ.toList.take (i *J.size+off)=p1++q1:=by
             conv=>lhs;rw [WV,AI (p1++q1)]
             exact acu HL
            have t2:gJ.toList.drop (i *J.size+off+I.size)=q3++p2++gJ.toList.drop (fo.xs.length *J.size):=by
             conv=>lhs;rw [WV]
             exact ab2 (by rw [IS];omega)
            have t3:gJ.toList.take (i *J.size)=p1:=by
             conv=>lhs;rw [WV]
             simp only [AI];exact acu QN
            have t4:gJ.toList.drop (i *J.size+J.size)=p2++gJ.toList.drop (fo.xs.length *J.size):=by
             have agI:gJ.toList=(p1++(q1++q2++q3))++(p2++gJ.toList.drop (fo.xs.length *J.size)):=by
              conv=>lhs;rw [WV]
              simp
             conv=>lhs;rw [agI]
             exact ab2 (by rw [IS,<-OP];omega)
            rw [t1,t2,t3,t4];simp
           rw [qI] at cy;have akO:i *zD cs+off=i *J.size+off:=by rw [<-hw1,Cn]
           refine Dm (w':=w.setRow bx (gJ.toList.take (i *J.size)++(q1++(a.eval y).cells.toList++q3)++gJ.toList.drop (i *J.size+J.size)).toArray) ?_ sZ ?_ hK
           ·rw [akO] at WU;simp [execOp,ho,WU,cy]
           ·exact HM.tr.trans (.setRow _ hZ)
  ·simp at hK
end
end Dn
/-
  Structs and sums that are put together. Conditions: none.
-/
namespace Dn
open Go
section
variable {P:Program}{c:Ctx}{Z:bR} {e e':Env}{st:St}{a:Act} {w w':World}{R:Type}{K:St->Option R}{r:R}{Q:Exit->Act->World->Prop}{o:Oper}
theorem Lm {place:Nat->Option (Nat×Nat)}{cells:Array Value}{i off:Nat}{v:Value}{rest:List (Nat×Value)}(hp:place i=some (off,v.cells.size))(hle:off+v.cells.size<=cells.size): acJ place cells ((i,v)::rest)=acJ place (cells.toList.take off++v.cells.toList++cells.toList.drop (off+v.cells.size)).toArray rest:=by
 conv=>lhs;unfold acJ
 simp only [hp];rw [if_neg (by simp;omega)];congr 1;rw [<-Array.foldl_toList,Array.toList_zipIdx];obtain ⟨h1,h2⟩:=Go.Great.foldl_set off v.cells.toList 0 cells;apply aea;intro k;have hl:(cells.toList.take off).length=off:=by simp;omega
 have e0:=h2 k;simp only [acx,abk] at e0;refine Eq.trans e0 ?_;have e1:(cells.toList.take off++v.cells.toList++cells.toList.drop (off+v.cells.size)).toArray[k]? =(cells.toList.take off++v.cells.toList++cells.toList.drop (off+v.cells.size))[k]? :=by simp
 rw [e1,AI];have e2:cells[k]? =cells.toList[k]? :=by simp
 by_cases h3:k<off
 ·rw [if_neg (by omega),aai (by omega),aa8,if_pos h3,e2]
 ·rw [aah (by omega),hl];by_cases h4:k<off+v.cells.size
  ·rw [if_pos ⟨by omega,h4,by omega⟩,aai (by simp;omega)]
  ·rw [if_neg (by omega),aah (by simp;omega),acE,e2];congr 1;simp;omega
theorem Rk {I:TI}{places:List (Nat×Nat)}(h:cc c Z e st a w)(MP: ∀(i q y:Nat)(J:TI),I.Ow[i]? =some q->I.TZ[i]? =some y->c.tv y=some J->places[i]? =some (q,J.size)/\0<J.size){parts:List (Nat×Operand)}: ∀{cs ds:List aJ} {cells:Array Value},aC e cells.toList cs->Cg c st I parts cs=some ds-> ∃out,acJ (places.toArray[·]?) cells (parts.map λp=>(p.1,a.eval p.2))=some out/\aC e out.toList ds:=by
 induction parts with
 |nil=>intro cs ds cells hl hb;simp [Cg] at hb;subst hb;exact ⟨cells,rfl,hl⟩
 |cons p ps ih=>
  intro cs ds cells hl hb;obtain ⟨i,x⟩:=p;simp only [Cg] at hb;split at hb
  ·rename_i q y hq hy;cases hJ:c.tv y with
   |none=>simp [hJ] at hb
   |some J=>
    simp only [hJ] at hb;obtain ⟨hpi,jD⟩:=MP i q y J hq hy hJ;cases hu:wN (aP (aM c st x))||!eJ (zD (aP (aM c st x))) J.size with
    |true=>simp [hu] at hb
    |false=>
     simp only [hu,cond_false] at hb;simp only [abb,acz] at hu;have HK:=sh hu.2;cases hp:putAt cs q (aP (aM c st x)) with
     |none=>simp [hp] at hb
     |some kh=>
      simp only [hp] at hb;have dS:aP (aM c st x)≠[]:=by intro e0;rw [e0] at HK;simp [zD] at HK;omega
      have hv:=BN (h.eval x).1 hu.1 dS;obtain ⟨p1,p2,p3,he,h1,h2,h3⟩:=xN hp hl hv;have hlen:(a.eval x).cells.size=J.size:=by rw [<-HK,<-hv.width];simp
      have tp:cells.size=p1.length+p2.length+p3.length:=by
       have:cells.toList.length=(p1++p2++p3).length:=by rw [he]
       simp at this;omega
      have OR:p2.length=(a.eval x).cells.size:=by rw [h2];simp
      have nR:=Lm (place:=(places.toArray[·]?)) (cells:=cells) (i:=i) (off:=q) (v:=a.eval x) (rest:=ps.map λp=>(p.1,a.eval p.2)) (by rw [hlen];simpa using hpi) (by omega);have ht:cells.toList.take q++(a.eval x).cells.toList++cells.toList.drop (q+(a.eval x).cells.size)=p1++(a.eval x).cells.toList++p3:=by rw [he];rw [AI p1 p2 p3,acu h1,<-AI p1 p2 p3,ab2 (by rw [IS];omega)]
      rw [ht] at nR;obtain ⟨out,h4,h5⟩:=ih (cells:=(p1++(a.eval x).cells.toList++p3).toArray) (by simpa using h3) hb;exact ⟨out,by rw [OF,nR];exact h4,h5⟩
  ·simp at hb
theorem Rl {parts:List (Nat×Operand)}(h:cc c Z e st a w): ∀{x:lp} {K':lp->Option R},Hq c st parts x K'=some r-> ∃y,acJ (λi=>some (i *1,1)) (bM x).toArray (parts.map λp=>(p.1,a.eval p.2))=some (bM y).toArray/\K' y=some r:=by
 induction parts with
 |nil=>intro x K' hb;exact ⟨x,rfl,hb⟩
 |cons p ps ih=>
  intro x K' hb;obtain ⟨i,y⟩:=p;simp only [Hq] at hb;split at hb
  ·rename_i m hm;cases hi:aaZ 32 i with
   |true=>simp [hi] at hb
   |false=>
    simp only [hi,cond_false] at hb;have Rf:i<32:=by
     by_cases dO:i<32
     ·exact dO
     ·have:aaZ 32 i=true:=adI (by omega);simp_all
    unfold gI at hb;split at hb
    ·rename_i k n;by_cases hk:k= .u8
     ·subst hk;simp only [decide_true,cond_true] at hb;obtain ⟨Dr,hb⟩:=eY hb;unfold isByte at Dr;have Dr:=of_decide_eq_true Dr;obtain ⟨out,h1,h2⟩:=ih hb;have hv:=mg (by have:=(h.eval y).1;rw [hm] at this;exact this);refine ⟨out,?_,h2⟩;rw [<-h1,OF];have QP:(a.eval y).cells= #[.int .u8 n]:=by rw [hv];simp [aaD]
      have nR:=Lm (place:=λi=>some (i *1,1)) (cells:=(bM x).toArray) (i:=i) (off:=i *1) (v:=a.eval y) (rest:=ps.map λp=>(p.1,a.eval p.2)) (by rw [QP];rfl) (by rw [QP];have:=dr x;simp;omega);rw [nR,HQ x i _ Rf,<-Dr,QP];simp
     ·simp [hk] at hb
    ·simp at hb
  ·simp at hb
theorem Uk (P:Program)(l:List Field):(∀f∈l,∃i,P.info? f.type=some i)-> ∃places,l.mapM (λf=>(P.info? f.type).map λi=>(f.offset,i.size))=some places/\ ∀(k:Nat) (f:Field),l[k]? =some f-> ∃i,P.info? f.type=some i/\places[k]? =some (f.offset,i.size):=by
 induction l with
 |nil=>intro _;exact ⟨[],by simp,by simp⟩
 |cons f fs ih=>
  intro h;obtain ⟨i,hi⟩:=h f (by simp);obtain ⟨ps,h1,h2⟩:=ih (λg hg=>h g (by simp [hg]));refine ⟨(f.offset,i.size)::ps,by simp [List.mapM_cons,hi,h1],?_⟩;intro k g hg;cases k with
  |zero=>simp at hg;subst hg;exact ⟨i,hi,rfl⟩
  |succ k=>simp at hg;simpa using h2 k g hg
theorem WW {t:TypeId}{parts:Array (Nat×Operand)}{I:TI}(ho:o.op= .build t parts)(hI:c.tv t=some I)(hT:lV P c.ti)(h:cc c Z e st a w)(hK:(bif I.st then (match Cg c st I parts.toList I.zero with|some cs=>bu c st o.dst (.ag cs) K|none=>none)
  else (match I.lay with|[.h]=>Hq c st parts.toList lp.zero λx=>bu c st o.dst (.sc (.hs x)) K|_=>none))=some r):Rd P c Z K r e a w o (λ_=>True):=by
 obtain ⟨pO,hc⟩:=b6 hI;obtain ⟨d,i,h1,h2,h3,h4⟩:=hT t I pO;have VO:(parts.map λ(i,x)=>(i,a.eval x)).toList=parts.toList.map λp=>(p.1,a.eval p.2):=by simp
 have run: ∀out,P.built t (parts.toList.map λp=>(p.1,a.eval p.2))=some out-> ∀w:World,(execOp a.eval o).run P w= .ok (.value (.agg out)) w:=by intro out hb w;have:=run_build (P:=P) w t (parts.map λ(i,x)=>(i,a.eval x)) out (by rw [VO];exact hb);simp [execOp,ho] at this⊢;simp [this]
 cases jn:I.st with
 |true=>
  simp only [jn,cond_true] at hK;cases d<;>simp only [tQ] at h4;case struct fs=>
   obtain ⟨_,_,_,Ud,cU,Rg,zc,hz,hzl,_⟩:=h4;cases hb:Cg c st I parts.toList I.zero with
   |none=>simp [hb] at hK
   |some cs=>
    simp only [hb] at hK;have akP: ∃places,fs.toList.mapM (λf=>(P.info? f.type).map λi=>(f.offset,i.size))=some places/\ (∀(i q y:Nat) (J:TI),I.Ow[i]? =some q->I.TZ[i]? =some y->c.tv y=some J->places[i]? =some (q,J.size)/\0<J.size):=by
     obtain ⟨places,hp1,QO⟩:=Uk P fs.toList (by intro f hf;obtain ⟨k,hk,rfl⟩:=adN.1 hf;obtain ⟨J,hJ,hJc,_⟩:=Rg k fs.toList[k] (by simp at hk⊢);obtain ⟨i,hi,_⟩:=(hT _ J hJ).info hJc;exact ⟨i,hi⟩);refine ⟨places,hp1,?_⟩;intro i q y J hq hy hJ;rw [<-Ud,aa1] at hq;rw [<-cU,aa1] at hy;cases hf:fs.toList[i]? with
     |none=>simp [hf] at hq
     |some f=>simp [hf] at hq hy;subst hq;subst hy;obtain ⟨J2,hJ2,akQ,jD⟩:=Rg i f (by simpa using hf);obtain ⟨hJt,_⟩:=b6 hJ;rw [hJ2] at hJt;cases hJt;obtain ⟨i2,hi2,akR⟩:=QO i f hf;obtain ⟨i3,hi3,hs3,_⟩:=(hT _ J hJ2).info akQ;rw [hi2] at hi3;cases hi3;exact ⟨by rw [akR,hs3],jD⟩
    obtain ⟨places,MP,Rm⟩:=akP;obtain ⟨out,h5,h6⟩:=Rk h Rm (cells:=zc) (mL hzl) hb;refine jV (v:= .agg out) (s:= .ag cs) h (run out ?_) ?_ trivial hK
    ·unfold Program.built;simp only [h2,h1,hz,MP];exact h5
    ·simp only [ah];exact ⟨out,rfl,h6⟩
  all_goals (exfalso;simp_all)
 |false=>
  simp only [jn,cond_false] at hK;split at hK
  ·rename_i hl;cases d<;>simp only [tQ,hl,jn] at h4<;>first|(exfalso;simp_all;done)|skip
   obtain ⟨_,_,_,rfl,rfl,⟨ie,hu,Db,zv⟩,_,_,hz⟩:=h4;obtain ⟨y,h5,h6⟩:=Rl h hK;refine jV (v:= .agg (bM y).toArray) (s:= .sc (.hs y)) h (run _ ?_) ?_ trivial h6
   ·unfold Program.built;simp only [h2,h1,hz,Db,zv];exact h5
   ·simp only [ah]
  ·simp at hK
end
end Dn
/-
  A family comes to have other content. Conditions: none.
-/
namespace Dn
open Go
section
variable {P:Program}{c:Ctx}{Z:bR} {e e':Env}{st:St}{a:Act} {w w':World}{R:Type}{K:St->Option R}{r:R}{Q:Exit->Act->World->Prop}{o:Oper}
def Env.zP (e:Env)(f:Nat)(v:Value)(fo:pH):Env:={e with E:=λg=>if g=f then v else e.E g,m:=ck e.m f fo}
def St.zP (st:St)(f:Nat)(fo:pH):St:={st with fr:=mw f st.fr,bn:=ck st.bn f fo}
theorem E3 (f:Nat)(s:Slot):di (BK f s)=di s:=by cases s<;>simp only [BK,di];rename_i g _ _ _ _;cases eJ g f<;>rfl
theorem vh {f:Nat}{s:Slot}{cs:List aJ}(h:BK f s= .box cs): ∃GP,s= .box GP/\cs=GP.map (Oi f):=by
 cases s<;>simp only [BK] at h<;>first|(simp at h;done)|(rename_i g _ _ _ _;cases hb:eJ g f<;>simp [hb] at h;done)|skip
 rename_i GP;simp at h;exact ⟨GP,rfl,h.symm⟩
theorem cc.kR {f:Nat}{fo:pH} {v':Value}(h:cc c Z e st a w)(Cq:f∉Z.cV)(mM:dW c Z.nc e w' v' fo)(aoK:w.heap.size<=w'.heap.size)(eZ: ∀b,b<w.heap.size->(∀o,aT st.bn f=some o->(e.E f).ownBlock≠some b)->w'.heap[b]? =w.heap[b]?)(pG: ∀b o v,e.φ b o=some v->w'.cell? ⟨b,o,none⟩=some v)(wP: ∀b,v'.ownBlock=some b->w.heap.size<=b\/ ∃o,aT st.bn f=some o/\(e.E f).ownBlock=some b): cc c Z (e.zP f v' fo) (st.zP f fo) a w':=by
 have xF:n9 (· ≠f) (λ_=>True) e (e.zP f v' fo):=by refine ⟨rfl,.refl _,λ_ _=>rfl,λf2 o2 cU dS=> ?_⟩;have cU:aT (ck e.m f fo) f2=some o2:=cU;rw [bw] at cU;simp only [dS,if_false] at cU;exact ⟨o2,cU,by simp [Env.zP,dS],rfl⟩
 have WX: ∀t cs,aw st.fr t= .box cs->e.B t<w.heap.size:=by intro t cs ht;have hs:=h.slot t;rw [ht] at hs;obtain ⟨o2,h1,_⟩:=hs.2.obj;exact bD h1
 have sS: ∀t cs,aw st.fr t= .box cs->w'.heap[e.B t]? =w.heap[e.B t]? :=by intro t cs ht;exact eZ _ (WX t cs ht) (λo ho=>h.bf t cs f o ht ho)
 refine ⟨h.defers,h.size,by show ck e.m f _=ck st.bn f _;rw [h.m],h.key,?_,?_,?_,?_,?_,?_,?_,pG,λb hb=>h.cP b (by omega)⟩
 ·show (aV (mw f st.fr)).Nodup;have:aV (mw f st.fr)=aV st.fr:=by simp [aV,mw]
  rw [this];exact h.nodup
 ·intro t;show cz Z _ _ t _ (aw (mw f st.fr) t);rw [iQ];have hs:=h.slot t;have Ds:=sS t;generalize aw st.fr t=s at hs Ds;by_cases HR: ∃cs,s= .box cs
  ·obtain ⟨cs,rfl⟩:=HR;simp only [cz,BK] at hs⊢;refine ⟨hs.1.mH (Ra f _),hs.2.cP,?_,hs.2.free⟩;obtain ⟨o2,h1,h2⟩:=hs.2.obj;refine ⟨o2,by show w'.heap[e.B t]? =_;rw [Ds cs rfl];exact h1,?_⟩;refine (h2.map (λ_ _=>aY.kill f) (λ_ _=>rfl)).on xF ?_;intro l hl;obtain ⟨x,_,rfl⟩:=adv.1 hl;exact HC f x
  ·have BQ:ah e (a.tmps.getD t undef) s:=by cases s<;>simp only [cz] at hs<;>first|exact hs|exact absurd ⟨_,rfl⟩ HR
   have h2:=(BQ.kill f).on xF (Wz f _ s (eP s));generalize QQ:BK f s=s2 at h2;cases s2<;>first|exact h2|(exfalso;simp [ah] at h2)
 ·intro t;show cS (mw f st.fr) (aw (mw f st.fr) t);rw [iQ];have rR:=h.root t;generalize aw st.fr t=s at rR;have hk: ∀q,di (aw (mw f st.fr) q)=di (aw st.fr q):=λq=>by rw [iQ,E3]
  cases s with
  |ptr q o=>show di (aw (mw f st.fr) q)=true;rw [hk];exact rR
  |hp q o i=>show di (aw (mw f st.fr) q)=true;rw [hk];exact rR
  |zC q=>show di (aw (mw f st.fr) q)=true;rw [hk];exact rR
  |ep g' _ _ _ _=>simp only [BK];cases eJ g' f<;>trivial
  |_=>trivial
 ·intro f2 o2 cU;have cU:aT (ck st.bn f fo) f2=some o2:=cU;rw [bw] at cU;by_cases gl:f2=f
  ·subst gl;simp at cU;subst cU;have:=(mM.to Cq).env (e':=e.zP f2 v' fo) rfl rfl;simpa [Env.zP] using this
  ·simp only [gl,if_false] at cU;obtain ⟨I2,xP,h1,h2,h3,h4,h5⟩:=(h.jA f2 o2 cU).row;refine ⟨I2,xP,h1,h2,?_,h4,?_⟩
   ·show w'.ownsRow 0 o2.ty I2.size (if f2=f then v' else e.E f2) o2.xs.length xP;rw [if_neg gl];refine ⟨h3.1,?_⟩;rcases h3.2 with h6|⟨g,cap,gJ,g1,g2,g3,g4⟩
    ·exact .inl h6
    ·refine .inr ⟨g,cap,gJ,g1,g2,?_,g4⟩;rw [eZ g (bD g3) (λo ho hk=>gl (h.ff f2 f o2 o g cU ho (by rw [g1];rfl) hk))];exact g3
   ·intro bx hb;have hb:(if f2=f then v' else e.E f2).ownBlock=some bx:=hb;rw [if_neg gl] at hb;exact h5 bx hb
 ·intro t t' c1 c2 h1 h2 dS;have h1:aw (mw f st.fr) t= .box c1:=h1;have h2:aw (mw f st.fr) t'= .box c2:=h2;rw [iQ] at h1 h2;obtain ⟨d1,g1,_⟩:=vh h1;obtain ⟨d2,g2,_⟩:=vh h2;exact h.bb t t' d1 d2 g1 g2 dS
 ·intro t c1 f2 o2 h1 h2;have h1:aw (mw f st.fr) t= .box c1:=h1;have h2:aT (ck st.bn f fo) f2=some o2:=h2;rw [iQ] at h1;rw [bw] at h2;obtain ⟨d1,g1,_⟩:=vh h1;show (if f2=f then v' else e.E f2).ownBlock≠some (e.B t);by_cases gl:f2=f
  ·rw [if_pos gl];intro hb;rcases wP _ hb with h3|⟨o,h3,h4⟩
   ·have:=WX t d1 g1;omega
   ·exact h.bf t d1 f o g1 h3 h4
  ·rw [if_neg gl];simp only [gl,if_false] at h2;exact h.bf t d1 f2 o2 g1 h2
 ·intro f1 f2 o1 o2 k h1 h2 h3 h4;have h1:aT (ck st.bn f fo) f1=some o1:=h1;have h2:aT (ck st.bn f fo) f2=some o2:=h2;have h3:(if f1=f then v' else e.E f1).ownBlock=some k:=h3;have h4:(if f2=f then v' else e.E f2).ownBlock=some k:=h4;rw [bw] at h1 h2;have v8: ∀g og,aT st.bn g=some og->(e.E g).ownBlock=some k->k<w.heap.size:=by
   intro g og hg hk;obtain ⟨I2,xP,_,_,g3,_⟩:=(h.jA g og hg).row;rcases g3.2 with ⟨g5,_⟩|⟨b,cap,gJ,g5,_,g6,_⟩
   ·rw [g5] at hk;simp [No] at hk
   ·rw [g5] at hk;simp only [No,IN] at hk;subst hk;exact bD g6
  by_cases M0:f1=f
  ·by_cases Dc:f2=f
   ·rw [M0,Dc]
   ·rw [if_pos M0] at h3;rw [if_neg Dc] at h4;simp only [Dc,if_false] at h2;rcases wP k h3 with h5|⟨o,h5,h6⟩
    ·have:=v8 f2 o2 h2 h4;omega
    ·exact M0.trans (h.ff f f2 o o2 k h5 h2 h6 h4)
  ·rw [if_neg M0] at h3;simp only [M0,if_false] at h1;by_cases Dc:f2=f
   ·rw [if_pos Dc] at h4;rcases wP k h4 with h5|⟨o,h5,h6⟩
    ·have:=v8 f1 o1 h1 h3;omega
    ·exact (h.ff f1 f o1 o k h1 h5 h3 h6).trans Dc.symm
   ·rw [if_neg Dc] at h4;simp only [Dc,if_false] at h2;exact h.ff f1 f2 o1 o2 k h1 h2 h3 h4
theorem tu {f:Nat}{fo:pH}(hK:kR st f fo K=some r):K (st.zP f fo)=some r:=by
 unfold Dn.kR at hK;cases hn:bL st.cV f with
 |true=>simp [hn] at hK
 |false=>simpa [hn,Ww,pL,St.zP] using hK
theorem cc.npf {f:Nat}{fo:pH}(h:cc c Z e st a w)(hK:Dn.kR st f fo K=some r):f∉Z.cV:=by intro hm;rw [<-h.defers.2.2.1,<-bU] at hm;simp [Dn.kR,hm] at hK
theorem wR {f:Nat}{fo:pH}{v:Value}(h1:v.oneCell'=true):ah (e.zP f v fo) v (.sc (.own f)):=by simp only [ah];exact ⟨v,rfl,h1,λo ho=>by simp [Env.zP]⟩
end
end Dn
/-
  What is appended. Conditions: none.
-/
namespace Dn
open Go
section
variable {P:Program}{c:Ctx}{Z:bR} {e e':Env}{st:St}{a:Act} {w w':World}{R:Type}{K:St->Option R}{r:R}{Q:Exit->Act->World->Prop}{o:Oper}
theorem wS {t:TypeId}{I:TI}(hr:qH c.ti P t I)(hc:I.dp=[]): ∃i z,P.info? t=some i/\i.size=I.size/\i.bytes=I.bytes/\i.zero=some z/\z.cells.size=I.size:=by
 obtain ⟨d,i,h1,h2,h3,h4⟩:=hr;obtain ⟨h5,h6⟩:=h3 hc;cases d<;>simp only [tQ] at h4;case struct fs=>obtain ⟨_,_,_,_,_,_,cs,hz,_,hs⟩:=h4;exact ⟨i,_,h2,h5,h6,hz,by simpa [aaD] using hs⟩
 case tuple ts=>exact absurd hc h4.2.1
 case slice el=>obtain ⟨_,_,hs,_,_,hz,_⟩:=h4;exact ⟨i,_,h2,h5,h6,hz,by rw [hs];rfl⟩
 case array n el=>obtain ⟨_,_,hs,_,_,_,_,_,hz⟩:=h4;exact ⟨i,_,h2,h5,h6,hz,by rw [hs];simp [aaD,dr]⟩
 case bool=>obtain ⟨_,_,hs,_,_,hz⟩:=h4;exact ⟨i,_,h2,h5,h6,hz,by rw [hs];rfl⟩
 case int k=>obtain ⟨_,_,hs,_,_,hz⟩:=h4;exact ⟨i,_,h2,h5,h6,hz,by rw [hs];rfl⟩
 case string=>obtain ⟨_,_,hs,_,_,b,hz,_⟩:=h4;exact ⟨i,_,h2,h5,h6,hz,by rw [hs];rfl⟩
 all_goals
  obtain ⟨_,_,hs,_,v,hz,hv,_⟩:=h4;refine ⟨i,v,h2,h5,h6,hz,?_⟩;rw [hs];cases v<;>simp_all [aaD,aaa]
structure Src (e:Env) (w:World) (size:Nat) (v:Value) (ys:List MV) (news:List Value):Prop where
 els:bB e.key e.φ size news ys
 val: ∃ad cap,v= .slice ad ys.length cap/\(ad=none->ys=[])/\ ∀x,ad=some x-> ∀(j:Nat) (u:Value),news[j]? =some u->w.cell? (x.add j)=some u
theorem bB.HS {key:Nat->Nat} {φ:Ph}{size:Nat}{xs:List MV}: ∀{cs:List Value},bB key φ size cs xs-> ∀u∈cs,u.oneCell'=true:=by
 induction xs with
 |nil=>intro cs h;cases h;simp
 |cons x xs ih=>
  intro cs h u hu;obtain ⟨v,q,rfl,_,h2,h3⟩:=h;rcases adB.1 hu with hu|hu
  ·exact h2.cells u hu
  ·exact ih h3 u hu
theorem bB.append {key:Nat->Nat} {φ:Ph}{size:Nat}{xs ys:List MV}: ∀{cs ds:List Value},bB key φ size cs xs->bB key φ size ds ys->bB key φ size (cs++ds) (xs++ys):=by
 induction xs with
 |nil=>intro cs ds h h';cases h;simpa using h'
 |cons x xs ih=>intro cs ds h h';obtain ⟨v,q,rfl,h1,h2,h3⟩:=h;exact ⟨v,q++ds,by simp,h1,h2,ih h3 h'⟩
theorem HT {key:Nat->Nat} {φ:Ph}{size:Nat}{xs:List MV}: ∀{f:Nat->List Value},(∀i,i<xs.length->(f i).length=size)->(∀(i:Nat) (h:i<xs.length),nu key φ (f i) xs[i])-> ∃cs,bB key φ size cs xs/\ ∀(i j:Nat),i<xs.length->j<size->cs[i *size+j]? =(f i)[j]? :=by
 induction xs with
 |nil=>intro f _ _;exact ⟨[],rfl,λi j hi=>by simp at hi⟩
 |cons x xs ih=>
  intro f h1 h2;obtain ⟨cs,h3,h4⟩:=ih (f:=λi=>f (i+1)) (λi hi=>h1 (i+1) (by simpa using hi)) (λi hi=>h2 (i+1) (by simpa using hi));have hl:=h1 0 (by simp);refine ⟨f 0++cs,⟨f 0,cs,rfl,hl,h2 0 (by simp),h3⟩,?_⟩;intro i j hi hj;cases i with
  |zero=>rw [aeB,aaT,aai (by omega)]
  |succ i=>rw [abt,aah (by omega),show i *size+size+j-(f 0).length=i *size+j by omega];exact h4 i j (by simpa using hi) hj
theorem FX {I E:TI}{x:Slot}{v:Value} {K':List MV->Option R}(h:cc c Z e st a w)(hE:c.ti I.elem=some E)(jD:0<E.size)(hx:ah e v x)(hK:MH I E st x K'=some r): ∃ys news,Src e w E.size v ys news/\K' ys=some r:=by
 unfold MH at hK;split at hK
 ·rename_i xs;obtain ⟨hw,hK⟩:=eY hK;simp only [ah,aY] at hx;obtain ⟨_,hx⟩:=hx;generalize hv:[v]=vs at hx;cases hx with
  |list ad cap _ bx off Le f g1 g2 g3 g4 g5=>
  simp at hv;have VN: ∀i,i<xs.length->(f i).length=E.size:=by intro i hi;rw [(g5 i hi).width];exact Dq hw _ (aeK hi)
  obtain ⟨cs,h1,h2⟩:=HT VN g5;refine ⟨xs,cs,⟨h1,ad,cap,hv,?_,?_⟩,hK⟩
  ·intro hn;cases xs with
   |nil=>rfl
   |cons y ys=>have:=g2 (by simp);rw [hn] at this;cases this
  ·intro x hx j u hj;have EP:j<cs.length:=(BY.1 hj).1;rw [h1.length] at EP;have HU:0<xs.length:=by
    cases xs with
    |nil=>simp at EP
    |cons y ys=>simp
   have WY:=g2 HU;rw [hx] at WY;cases WY;have hq:j/E.size<xs.length:=(Nat.div_lt_iff_lt_mul jD).2 EP;have hm:=Nat.mod_lt j jD;have QL:j=j/E.size *E.size+j%E.size:=by rw [Nat.mul_comm];exact (Nat.div_add_mod j E.size).symm
   have e1:=h2 (j/E.size) (j%E.size) hq hm;rw [<-QL,hj] at e1;have WZ:Le=E.size:=by rw [<-g3 0 HU,VN 0 HU]
   have e2:=g4 (j/E.size) (j%E.size) hq (by rw [WZ];exact hm);rw [<-e1,WZ,acm,<-QL] at e2;have:=h.pM _ _ _ e2;rw [ab1];exact this
 ·simp only [ah] at hx;have hx:[v]=[abj none 0 0]:=hx;simp at hx;exact ⟨[],[],⟨rfl,none,0,hx,λ_=>rfl,by simp⟩,hK⟩
 ·rename_i f;cases hf:aT st.bn f with
  |none=>simp [hf] at hK
  |some fo=>
   simp only [hf] at hK;cases hb:eJ fo.ty I.elem with
   |false=>simp [hb] at hK
   |true=>
    simp only [hb,cond_true] at hK;have kz:=sh hb;obtain ⟨hv,_⟩:=sX h hx hf;obtain ⟨J,cells,hJ,_,fT,pP,_⟩:=(h.jA f fo hf).row;rw [kz,hE] at hJ;cases hJ;refine ⟨fo.xs,cells,⟨pP,?_⟩,hK⟩;rcases fT.2 with ⟨h1,h2⟩|⟨g,cap,gJ,h1,_⟩
    ·exact ⟨none,0,by rw [hv,h1,h2],λ_=>AT h2,by simp⟩
    ·refine ⟨some ⟨g,0,none⟩,cap,by rw [hv,h1],by simp,?_⟩;intro x hx j u hj;cases hx;exact fT.cells (g:=g) (by rw [h1];rfl) j u hj
 ·simp at hK
end
end Dn
/-
  Appends. Conditions: none.
-/
namespace Dn
open Go
section
variable {P:Program}{c:Ctx}{Z:bR} {e e':Env}{st:St}{a:Act} {w w':World}{R:Type}{K:St->Option R}{r:R}{Q:Exit->Act->World->Prop}{o:Oper}
structure agK (w w':World) (el:TypeId) (size:Nat) (v v':Value) (n m:Nat) (cells news:List Value):Prop where
 own:w'.ownsRow 0 el size v' (n+m) (cells++news)
 size:w.heap.size<=w'.heap.size
 v8: ∀k,k<w.heap.size->some k≠v.ownBlock->w'.heap[k]? =w.heap[k]?
 cell: ∀(k off:Nat) (u:Value),v.ownBlock=some k->off<cells.length->w.cell? ⟨k,off,none⟩=some u->w'.cell? ⟨k,off,none⟩=some u
 place:v'.ownBlock=v.ownBlock\/v'.ownBlock=some w.heap.size
 rest:Rest w w'
structure Apx (P:Program) (w:World) (u el:TypeId) (size:Nat) (x:Value) (m:Nat) (news:List Value):Prop where
 ty:P.underlying u=some (.slice el)\/P.underlying u=some .string
 len:Builtin.lenOf x=pure m
 now:(ab6 size m x).run P w= .ok news.toArray w
 drew:(ab6 size m x).run P w.drew= .ok news.toArray w.drew
 one: ∀y∈news,y.oneCell'=true
 nl:news.length=m *size
theorem Src.apx {ys:List MV}{news:List Value}{x:Value}{u el:TypeId}{size:Nat}(hu:P.underlying u=some (.slice el))(h:Src e w size x ys news):Apx P w u el size x ys.length news:=by
 obtain ⟨ad,cap,hx,FY,S9⟩:=h.val;have Hg:=h.els.length;subst hx;cases ad with
 |none=>have hys:=FY rfl;subst hys;have:news=[]:=AT (by simpa using Hg);subst this;exact ⟨.inl hu,rfl,run_firstCells_none w _ _ _ _,run_firstCells_none w.drew _ _ _ _,h.els.HS,Hg⟩
 |some ad=>exact ⟨.inl hu,rfl,run_firstCells_some w _ _ _ _ _ _ Hg (S9 ad rfl),run_firstCells_some w.drew _ _ _ _ _ _ Hg (by simpa using S9 ad rfl),h.els.HS,Hg⟩
theorem Apx.str {u el:TypeId}(hu:P.underlying u=some .string)(b:ByteArray):Apx P w u el 1 (.string b) b.size (b.data.toList.map λx=> .int .u8 (x.toNat:Int)):=by
 have hf: ∀w',(ab6 1 b.size (.string b)).run P w'= .ok (b.data.toList.map λx=>aeI .u8 (x.toNat:Int)).toArray w':=by
  intro w';have he:b.extract 0 b.size=b:=by apply ByteArray.ext;rw [adx];exact Array.extract_eq_self_of_le (aas _)
  simp only [ab6,he,Sem.run_pure];congr 1;apply Array.ext';simp
 exact ⟨.inr hu,rfl,hf w,hf w.drew,by simp [aaa],by simp⟩
section
variable {t u ty el:TypeId}{i:TypeInfo}{z x:Value}{m:Nat}{news:List Value}(ht:P.underlying t=some (.slice el))(hi:P.info? el=some i)(hz:i.zero=some z)(hx:Apx P w u el i.size x m news)
include ht hi hx
theorem aao (h0:m=0):(aaN #[t,u] ty #[.slice none 0 0,x]).run P w= .ok (.slice none 0 0) w:=by subst h0;have hn:=hx.now;have hl:=hx.len;rcases hx.ty with hu|hu<;>simp [aaN,run_underlying ht,run_underlying hu,aa7,typeInfo,hi,hl,hn]
theorem aap {g qT ze:Nat}{gJ:Array Value}(hg:w.heap[g]? =some (.cells gJ el (0,0)))(vi:qT+m<=ze)(MX:qT *i.size+news.length<=gJ.size): (aaN #[t,u] ty #[.slice (some ⟨g,0,none⟩) qT ze,x]).run P w= .ok (.slice (some ⟨g,0,none⟩) (qT+m) ze) (w.setRow g (gJ.toList.take (qT *i.size)++news++gJ.toList.drop (qT *i.size+news.length)).toArray):=by have jn:=run_storeCells_at P g (qT *i.size) el news 0 gJ w hg (by simpa using MX) hx.one;simp only [acx] at jn;have hn:=hx.now;have hl:=hx.len;rcases hx.ty with hu|hu<;>simp [aaN,run_underlying ht,run_underlying hu,aa7,typeInfo,hi,hl,vi,hn,Addr.add_lit,jn]
include hz
theorem W0 (h0:0<m)(h63:(m:Int)<=9223372036854775807)(h48:m *i.bytes<=281474976710656): (aaN #[t,u] ty #[.slice none 0 0,x]).run P w= .ok (.slice (some ⟨w.heap.size,0,none⟩) m (grownCap w m 0 el)) (w.drew.alloc (.cells (news.toArray++acb z.cells (grownCap w m 0 el-m)) el)):=by
 have dS:m≠0:=by omega
 have adL: ¬(9223372036854775807<(m:Int)):=by omega
 have adM: ¬(281474976710656<acp m 0 *i.bytes):=by rw [nextslicecap_zero h0];omega
 have hn:=hx.drew;have hl:=hx.len;rcases hx.ty with hu|hu<;>simp [aaN,run_underlying ht,run_underlying hu,aa7,typeInfo,zeroValue,hi,hz,hl,dS,adL,adM,Question.forced,run_firstCells_none,hn,newRow,grownCap]
theorem Ta {b:Addr}{qT ze:Nat}{aaq:List Value}(hlo:aaq.length=qT *i.size)(holds: ∀j v,aaq[j]? =some v->w.cell? (b.add j)=some v)(hg:ze<qT+m)(h63:((qT+m:Nat):Int)<=9223372036854775807)(MX:acp (qT+m) ze *i.bytes<=281474976710656): (aaN #[t,u] ty #[.slice (some b) qT ze,x]).run P w= .ok (.slice (some ⟨w.heap.size,0,none⟩) (qT+m) (grownCap w (qT+m) ze el)) (w.drew.alloc (.cells (aaq.toArray++news.toArray++acb z.cells (grownCap w (qT+m) ze el-(qT+m))) el)):=by
 have dS: ¬(qT+m<=ze):=by omega
 have adL: ¬(9223372036854775807<((qT:Int)+(m:Int))):=by omega
 have adM: ¬(281474976710656<acp (qT+m) ze *i.bytes):=by omega
 have hfo:=run_firstCells_some (P:=P) w.drew i.size qT b qT ze aaq hlo (by simpa using holds);have hn:=hx.drew;have hl:=hx.len;rcases hx.ty with hu|hu<;>(simp [aaN,run_underlying ht,run_underlying hu,aa7,typeInfo,zeroValue,hi,hz,hl,dS,adL,adM,Question.forced,hn,hfo,newRow,grownCap];congr 2;apply Array.ext';simp [AI])
end
theorem Cs {t u ty:TypeId}{I E:TI}{v x:Value}{n m:Nat}{cells news:List Value}(hu:P.underlying t=some (.slice I.elem))(hE:c.ti I.elem=some E)(wa:E.dp=[])(jD:0<E.size)(hT:lV P c.ti)(wT:1<=E.bytes)(fT:w.ownsRow 0 I.elem E.size v n cells)(hx:Apx P w u I.elem E.size x m news)(kV:(n+m) *E.bytes<=2^46): ∃v' w',(aaN #[t,u] ty #[v,x]).run P w= .ok v' w'/\agK w w' I.elem E.size v v' n m cells news:=by
 obtain ⟨i,z,hi,hs,Hh,hz,VP⟩:=wS (hT _ E hE) wa;rw [<-hs] at hx fT VP jD⊢;rw [<-Hh] at kV wT;have hle:n+m<=2^46:=acv (ab8 _ wT) kV;have hml:n+m<=adW:=by unfold adW;omega
 have Hg:=hx.nl;have hlen:(cells++news).length=(n+m) *i.size:=by rw [IS,fT.1,Hg,aco]
 have grown: ∀(v8:Nat),v8<n+m-> (w.drew.alloc (.cells (cells.toArray++news.toArray++acb z.cells (grownCap w (n+m) v8 I.elem-(n+m))) I.elem)).ownsRow 0 I.elem i.size (.slice (some ⟨w.heap.size,0,none⟩) (n+m) (grownCap w (n+m) v8 I.elem)) (n+m) (cells++news):=by
  intro v8 ho;refine ⟨hlen,.inr ⟨w.heap.size,_,_,rfl,adU _,ki w.drew _,grownCap_ge w (n+m) v8 I.elem,grownCap_le_maxLen w (n+m) v8 I.elem hml,?_,?_⟩⟩
  ·have OU:=grownCap_ge w (n+m) v8 I.elem;simp only [aeG,abv,size_zeroCells,VP,fT.1,Hg,<-aco];congr 1;omega
  ·simp only [ad2,AI];rw [<-AI,<-hlen];exact aca
 have rest: ∀cs:Array Value,Rest w (w.drew.alloc (.cells cs I.elem)):=λcs=>⟨rfl,rfl,rfl,λp=>(Rest.alloc w.drew cs I.elem).2.2.2 p⟩
 rcases fT.2 with ⟨rfl,rfl⟩|⟨g,cap,gJ,rfl,_,hg,hnc,Ok,zL,Kh⟩
 ·have hcn:cells=[]:=AT (by simpa using fT.1);subst hcn;by_cases hm:m=0
  ·have hnn:news=[]:=AT (by rw [Hg,hm,aeB]);subst hnn;refine ⟨_,_,aao hu hi hx hm,⟨?_,aas _,λ_ _ _=>rfl,(λ_ _ _ hk=>by cases hk),.inl rfl,.refl _⟩⟩;rw [hm];exact aeH w 0 I.elem i.size
  ·simp only [aaT] at kV hle hml;have hr:=W0 (ty:=ty) hu hi hz hx (by omega) (by omega) (by omega);have QR:=grown 0 (by omega);simp only [aaT,adH,Array.empty_append] at QR⊢;exact ⟨_,_,hr,⟨by simpa using QR,by simp,λk hk _=>rn w.drew _ k hk,(λ_ _ _ hk=>by cases hk),.inr rfl,rest _⟩⟩
 ·by_cases vi:n+m<=cap
  ·have MX:n *i.size+news.length<=gJ.size:=by rw [Hg,zL,<-aco];exact aaL _ vi
   have hr:=aap (ty:=ty) hu hi hx hg vi MX;have Rn:=setRow_heap w g gJ (gJ.toList.take (n *i.size)++news++gJ.toList.drop (n *i.size+news.length)).toArray I.elem _ hg;refine ⟨_,_,hr,⟨⟨hlen,.inr ⟨g,cap,_,rfl,adU _,Rn,vi,Ok,?_,?_⟩⟩,by simp,λk _ hk=>setRow_other w g k _ (λhe=>hk (by simp [No,he])),?_,.inl rfl,Rest.setRow w g _⟩⟩
   ·simp only [abv,IS,ach,adg,abk];omega
   ·rw [Kh,<-hlen];exact aca
   ·intro k off y hk HL hc;have hkg:k=g:=by simp [No] at hk;exact hk.symm
    subst hkg;rw [cell_of hg] at hc;rw [cell_of Rn];have agM:off<(gJ.toList.take (n *i.size)).length:=by rw [Kh];exact HL
    rw [List.getElem?_toArray,AI,aai agM,aa8];have:off<n *i.size:=by rw [<-fT.1];exact HL
    rw [if_pos this];simpa using hc
  ·have holds: ∀j y,cells[j]? =some y->w.cell? ((⟨g,0,none⟩:Addr).add j)=some y:=fT.cells (g:=g) rfl;have hr:=Ta (ty:=ty) (ze:=cap) hu hi hz hx fT.1 holds (by omega) (by omega) (growslice_fits (by omega) (by omega));refine ⟨_,_,hr,⟨grown cap (by omega),by simp,λk hk _=>rn w.drew _ k hk,?_,.inr rfl,rest _⟩⟩;intro k off y hk HL hc;have hkg:k=g:=by simp [No] at hk;exact hk.symm
   subst hkg;rw [aba (rn w.drew _ k (bD hg))];exact hc
theorem OV {t u ty:TypeId}{I E:TI}{ad:Option Addr}{x:Value}{n m:Nat}{cells news:List Value}(hu:P.underlying t=some (.slice I.elem))(hE:c.ti I.elem=some E)(wa:E.dp=[])(hT:lV P c.ti)(wT:1<=E.bytes)(sY:cells.length=n *E.size)(W1:ad=none->n=0)(bM: ∀y,ad=some y-> ∀(j:Nat)(v:Value),cells[j]? =some v->w.cell? (y.add j)=some v)(hx:Apx P w u I.elem E.size x m news)(hm:0<m)(kV:(n+m) *E.bytes<=2^46): ∃v' w',(aaN #[t,u] ty #[.slice ad n n,x]).run P w= .ok v' w'/\w'.ownsRow 0 I.elem E.size v' (n+m) (cells++news)/\v'.ownBlock=some w.heap.size/\eF w w':=by
 obtain ⟨i,z,hi,hs,Hh,hz,VP⟩:=wS (hT _ E hE) wa;rw [<-hs] at hx sY VP⊢;rw [<-Hh] at kV wT;have hle:n+m<=2^46:=acv (ab8 _ wT) kV;have hml:n+m<=adW:=by unfold adW;omega
 have Hg:=hx.nl;have hlen:(cells++news).length=(n+m) *i.size:=by rw [IS,sY,Hg,aco]
 have grown: ∀(v8:Nat),v8<n+m-> (w.drew.alloc (.cells (cells.toArray++news.toArray++acb z.cells (grownCap w (n+m) v8 I.elem-(n+m))) I.elem)).ownsRow 0 I.elem i.size (.slice (some ⟨w.heap.size,0,none⟩) (n+m) (grownCap w (n+m) v8 I.elem)) (n+m) (cells++news):=by
  intro v8 ho;refine ⟨hlen,.inr ⟨w.heap.size,_,_,rfl,adU _,ki w.drew _,grownCap_ge w (n+m) v8 I.elem,grownCap_le_maxLen w (n+m) v8 I.elem hml,?_,?_⟩⟩
  ·have OU:=grownCap_ge w (n+m) v8 I.elem;simp only [aeG,abv,size_zeroCells,VP,sY,Hg,<-aco];congr 1;omega
  ·simp only [ad2,AI];rw [<-AI,<-hlen];exact aca
 have rest: ∀cs:Array Value,Rest w (w.drew.alloc (.cells cs I.elem)):=λcs=>⟨rfl,rfl,rfl,λp=>(Rest.alloc w.drew cs I.elem).2.2.2 p⟩
 have QR: ∀cs:Array Value,eF w (w.drew.alloc (.cells cs I.elem)):=λcs=>⟨by simp,λk hk=>rn w.drew _ k hk,rest cs⟩
 cases ad with
 |none=>have hn:=W1 rfl;subst hn;have hcn:cells=[]:=AT (by simpa using sY);subst hcn;simp only [aaT] at kV hle hml;have hr:=W0 (ty:=ty) hu hi hz hx (by omega) (by omega) (by omega);have ZI:=grown 0 (by omega);simp only [aaT,adH,Array.empty_append] at ZI⊢;exact ⟨_,_,hr,by simpa using ZI,rfl,QR _⟩
 |some b=>have hr:=Ta (ty:=ty) (ze:=n) hu hi hz hx sY (λj v hj=>bM b rfl j v hj) (by omega) (by omega) (growslice_fits (by omega) (by omega));exact ⟨_,_,hr,grown n (by omega),rfl,QR _⟩
end
end Dn
/-
  Appends, the operation. Conditions: none.
-/
namespace Dn
open Go
section
variable {P:Program}{c:Ctx}{Z:bR} {e e':Env}{st:St}{a:Act} {w w':World}{R:Type}{K:St->Option R}{r:R}{Q:Exit->Act->World->Prop}{o:Oper}
theorem Dt {base:Nat}{t:TypeId}{size n:Nat}{v:Value}{xs:List Value}(h:w.ownsRow base t size v n xs):v.oneCell'=true:=by rcases h.2 with ⟨rfl,_⟩|⟨g,cap,gJ,rfl,_⟩<;>rfl
theorem Tb {E:TI}{t:TypeId}(hr:qH c.ti P t E)(h:T4 E=true):P.underlying t=some (.int .u8)/\E.size=1:=by
 unfold T4 at h;split at h
 ·rename_i k jn hl;have:=of_decide_eq_true h;subst this;obtain ⟨d,i,h1,h2,h3,h4⟩:=hr;cases d<;>simp only [tQ,hl,jn] at h4<;>first|(exfalso;simp_all;done)|skip
  obtain ⟨_,_,h5,h6,_⟩:=h4;simp only [List.cons.injEq,Kd.i.injEq,and_true] at h6;subst h6;exact ⟨h1,h5⟩
 ·cases h
theorem Tc {key:Nat->Nat} {φ:Ph}: ∀l:List UInt8,bB key φ 1 (l.map λx=>aeI .u8 (x.toNat:Int)) (OA l)
 |[]=>rfl
 |b::l=>⟨[.int .u8 (b.toNat:Int)],_,rfl,rfl,.i .u8 _,Tc l⟩
theorem OW {cl:Call}{s x:Operand}{t u:TypeId}{I E:TI}{ys:List MV}{news:List Value}(ho:o.op= .call cl)(hb:cl.callee= .builtin .append)(ha:cl.args.toList=[s,x])(Om:cl.argTypes.toList=[t,u])(hI:c.tv t=some I)(hL:I.AN=true)(hE:c.tv I.elem=some E)(hT:lV P c.ti)(h:cc c Z e st a w)(zQ:Apx P w u I.elem E.size (a.eval x) ys.length news)(wP:bB e.key e.φ E.size news ys)(hK:T5 (bL c.bs (o.dst.getD 0)) (o.dst.getD 0) st I E (aM c st s) ys (λsl st=>bu c st o.dst sl K)=some r):o.wp P a w (Out c Z K r e.φ w) Q:=by
 obtain ⟨pO,hc⟩:=b6 hI;obtain ⟨tq,wa⟩:=b6 hE;obtain ⟨hu,E2,FZ,_,jD⟩:=TI.n4 (hT t I pO) hL;rw [tq] at FZ;cases FZ;have ha':cl.args= #[s,x]:=by rw [<-abr,ha]
 have agN:cl.argTypes= #[t,u]:=by rw [<-abr,Om]
 obtain ⟨hs,_⟩:=h.eval s;have go: ∀(f:Nat) (eX:Bool) (xs:List MV) (cells:List Value),1<=E.bytes->(xs.length+ys.length) *E.bytes<=2^46->w.ownsRow 0 I.elem E.size (a.eval s) xs.length cells->bB e.key e.φ E.size cells xs-> (∀bx,(a.eval s).ownBlock=some bx->((f∈Z.cV/\Z.Pr bx)\/Z.In bx)/\(∃o,aT st.bn f=some o/\(e.E f).ownBlock=some bx)/\ ∀off u,e.φ bx off=some u->eX=true/\off<xs.length *E.size)-> kR st f ⟨I.elem,eX,xs++ys⟩ (λst=>bu c st o.dst (.sc (.own f)) K)=some r->o.wp P a w (Out c Z K r e.φ w) Q:=by
  intro f eX xs cells wT kV fT pP E0 hK;obtain ⟨v',w',cy,xS⟩:=Cs (P:=P) (ty:=o.type) hu tq wa jD hT wT fT zQ kV;have hlen:cells.length=xs.length *E.size:=pP.length;have Cq:=h.npf hK;have hK:=tu hK;have mM:dW c Z.nc e w' v' ⟨I.elem,eX,xs++ys⟩:=by
   refine ⟨E,cells++news,tq,wa,by simpa using xS.own,pP.append wP,?_⟩;intro bx lW;rcases xS.place with h1|h1
   ·rw [h1] at lW;obtain ⟨h2,_,h3⟩:=E0 bx lW;refine ⟨Oj h2 Cq,λoff u hu=> ?_,λhc=>aee hc⟩;obtain ⟨h4,h5⟩:=h3 off u hu;refine ⟨h4,ad9 h5 ?_⟩;simp only [IS];exact aaL _ (Nat.le_add_right _ _)
   ·rw [h1] at lW;cases lW;refine ⟨h.cP _ (aas _),λoff u hu=> ?_,λhc=>aee hc⟩;have:=aaS w _ (h.pM _ _ _ hu);simp at this
  have sZ:=h.kR (f:=f) Cq mM xS.size (λb Ko dS=>xS.v8 b Ko (λhk=>by obtain ⟨_,⟨o2,h1,h2⟩,_⟩:=E0 b hk.symm;exact dS o2 h1 h2)) (λb off u hu=>by
    have hc0:=h.pM b off u hu;by_cases hk:(a.eval s).ownBlock=some b
    ·obtain ⟨_,_,h3⟩:=E0 b hk;exact xS.cell b off u hk (by rw [hlen];exact (h3 off u hu).2) hc0
    ·rw [aba (xS.v8 b (aaS w _ hc0) (λOn=>hk On.symm))];exact hc0)
   (λb lW=>by
    rcases xS.place with h1|h1
    ·rw [h1] at lW;exact .inr (E0 b lW).2.1
    ·rw [h1] at lW;cases lW;exact .inl (aas _))
  refine fin (v:=v') (s:= .sc (.own f)) ?_ sZ ?_ (.of (wR (Dt xS.own)) trivial) hK
  ·simp [execOp,ho,resolve,hb,invoke,builtin,ha',agN,cy]
  ·exact ⟨.refl _,λb hz Ko=>xS.v8 b Ko (λhk=>hz (Oj (E0 b hk.symm).1 Cq)),λ_ _ _=>rfl,xS.size,xS.rest⟩
 generalize aM c st s=ss at hs hK;unfold T5 at hK;cases wT:aaZ 1 E.bytes with
 |false=>simp [wT] at hK
 |true=>
  simp only [wT,cond_true] at hK;have wT:=aa9 wT;split at hK
  ·obtain ⟨kV,hK⟩:=eY hK;have kV:=of_decide_eq_true kV;simp only [ah] at hs;have hs:[a.eval s]=[abj none 0 0]:=hs;simp at hs;refine go (o.dst.getD 0) false [] [] wT (by simpa using kV) (by rw [hs];exact aeH w 0 I.elem E.size) rfl ?_ (by simpa using hK);intro bx lW;rw [hs] at lW;simp [No] at lW
  ·rename_i f;cases hf:aT st.bn f with
   |none=>simp [hf] at hK
   |some fo=>
    simp only [hf] at hK;obtain ⟨kV,hK⟩:=eY hK;have kV:=of_decide_eq_true kV;cases kz:eJ fo.ty I.elem with
    |false=>simp [kz] at hK
    |true=>simp only [kz,cond_true] at hK;have kz:=sh kz;obtain ⟨hv,_⟩:=sX h hs hf;obtain ⟨J,cells,hJ,_,fT,pP,h5⟩:=(h.jA f fo hf).row;rw [kz,tq] at hJ;cases hJ;refine go f fo.eX fo.xs cells wT kV (by rw [hv,<-kz];exact fT) pP ?_ (by rw [<-kz];exact hK);intro bx lW;rw [hv] at lW;exact ⟨(h5 bx lW).1,⟨fo,hf,lW⟩,(h5 bx lW).2.1⟩
  ·rename_i xs;obtain ⟨hw,hK⟩:=eY hK;obtain ⟨kV,hK⟩:=eY hK;obtain ⟨hm,kV⟩:=of_decide_eq_true kV;simp only [ah,aY] at hs;obtain ⟨_,hs⟩:=hs;generalize hv:[a.eval s]=vs at hs;cases hs with
   |clip ad _ hl=>
   simp at hv;have nv:ah e (a.eval s) (.sc (.p (.list xs))):=by simp only [ah,aY];rw [hv];exact ⟨rfl,hl⟩
   obtain ⟨ys',cells,hsr,hy⟩:=FX (I:=I) (K':=some) (r:=xs) h tq jD nv (by show ca (iG E.size xs) (some xs)=some xs;rw [hw];rfl);cases hy;obtain ⟨ad',WK,S2,Ol,QP⟩:=hsr.val;rw [hv] at S2;simp only [Value.slice.injEq] at S2;obtain ⟨rfl,_,_⟩:=S2;obtain ⟨v',w',cy,fT,lW,hg⟩:=OV (P:=P) (ty:=o.type) hu tq wa hT wT hsr.els.length (λhn=>by rw [Ol hn];rfl) QP zQ hm kV;have Cq:=h.npf hK;have hK:=tu hK;have mM:dW c Z.nc e w' v' ⟨I.elem,false,xs++ys⟩:=by refine ⟨E,cells++news,tq,wa,by simpa using fT,hsr.els.append wP,?_⟩;intro bx wJ;rw [lW] at wJ;cases wJ;refine ⟨h.cP _ (aas _),λoff u hu=> ?_,λhc=>aee hc⟩;have:=aaS w _ (h.pM _ _ _ hu);simp at this
   have sZ:=h.kR (f:=o.dst.getD 0) Cq mM hg.size (λb Ko _=>hg.v8 b Ko) (λb off u hu=>hg.cell (h.pM b off u hu)) (λb wJ=>by rw [lW] at wJ;cases wJ;exact .inl (aas _));have hx:(execOp a.eval o).run P w= .ok (.value v') w':=by simp [execOp,ho,resolve,hb,invoke,builtin,ha',agN,hv,cy]
   cases VQ:bL c.bs (o.dst.getD 0) with
   |false=>simp only [VQ,cond_false] at hK;exact fin (v:=v') (s:= .sc (.own (o.dst.getD 0))) hx sZ (hg.trans h.cP _) (.of (wR (Dt fT)) trivial) hK
   |true=>simp only [VQ,cond_true] at hK;have hl:aY (e.zP (o.dst.getD 0) v' ⟨I.elem,false,xs++ys⟩) [v'] (.own (o.dst.getD 0)):=wR (Dt fT);obtain ⟨e3,qD,m,k1,k2,_,k4,hK,_,k7,k8⟩:=pg (l:= .own (o.dst.getD 0)) sZ (vs:=[v']) hl hK;have hm:m.one=true:=k8 (λx he=>by cases he);exact fin (v:=v') (s:= .sc (.p m)) hx k1 ((hg.trans h.cP _).trans k2.tr) (.of (s:= .sc (.p m)) (by exact ⟨hm,k4⟩) trivial) hK
  ·simp at hK
theorem Ul {cl:Call}{s x:Operand}{t u:TypeId}{I E:TI}(ho:o.op= .call cl)(hb:cl.callee= .builtin .append)(ha:cl.args.toList=[s,x])(Om:cl.argTypes.toList=[t,u])(hI:c.tv t=some I)(hL:I.AN=true)(hE:c.tv I.elem=some E)(hT:lV P c.ti)(h:cc c Z e st a w)(hK:(bif eJ t u then MH I E st (aM c st x) λys=>T5 (bL c.bs (o.dst.getD 0)) (o.dst.getD 0) st I E (aM c st s) ys (λsl st=>bu c st o.dst sl K)
  else QV c u E (aM c st x) λys=>T5 (bL c.bs (o.dst.getD 0)) (o.dst.getD 0) st I E (aM c st s) ys (λsl st=>bu c st o.dst sl K))=some r):o.wp P a w (Out c Z K r e.φ w) Q:=by
 obtain ⟨pO,_⟩:=b6 hI;obtain ⟨tq,_⟩:=b6 hE;obtain ⟨hu,E2,FZ,_,jD⟩:=TI.n4 (hT t I pO) hL;rw [tq] at FZ;cases FZ;obtain ⟨hx,_⟩:=h.eval x;cases wJ:eJ t u with
 |true=>simp only [wJ,cond_true] at hK;obtain rfl:=sh wJ;obtain ⟨ys,news,zQ,hK⟩:=FX h tq jD hx hK;exact OW ho hb ha Om hI hL hE hT h (zQ.apx hu) zQ.els hK
 |false=>
  simp only [wJ,cond_false] at hK;unfold QV at hK;split at hK
  ·rename_i T l hTu hxl;cases W3:T.VJ&&T4 E with
   |false=>simp [W3] at hK
   |true=>
    simp only [W3,cond_true] at hK;simp only [aaR] at W3;obtain ⟨hTi,_⟩:=b6 hTu;have hd:=TI.HN (hT u T hTi) W3.1;obtain ⟨he,tp⟩:=Tb (hT _ E tq) W3.2;rw [hxl] at hx;obtain ⟨b,hb3,rfl⟩:=FR hx;refine OW ho hb ha Om hI hL hE hT h (news:=b.data.toList.map λx=> .int .u8 (x.toNat:Int)) ?_ ?_ hK
    ·rw [tp,hb3];have:=Apx.str (w:=w) (el:=I.elem) hd b;rwa [show (OA b.data.toList).length=b.size by unfold OA;rw [List.length_map];rfl]
    ·rw [tp];exact Tc _
  ·cases hK
end
end Dn
/-
  Slices that are written out. Conditions: none.
-/
namespace Dn
open Go
section
variable {P:Program}{c:Ctx}{Z:bR} {e e':Env}{st:St}{a:Act} {w w':World}{R:Type}{K:St->Option R}{r:R}{Q:Exit->Act->World->Prop}{o:Oper}
theorem cc.agO {φ':Ph}(h:cc c Z e st a w)(hle:sR e.φ φ')(pG: ∀b o v,φ' b o=some v->w.cell? ⟨b,o,none⟩=some v)(sS: ∀t cs,aw st.fr t= .box cs-> ∀off,φ' (e.B t) off=e.φ (e.B t) off)(mM: ∀f o b,aT st.bn f=some o->(e.E f).ownBlock=some b-> ∀off,φ' b off=e.φ b off): cc c Z {e with φ:=φ'} st a w:=by
 have xF:n9 (λ_=>True) (λ_=>True) e {e with φ:=φ'}:=⟨rfl,hle,λ_ _=>rfl,λf o ho _=>⟨o,ho,rfl,rfl⟩⟩
 refine ⟨h.defers,h.size,h.m,h.key,h.nodup,?_,h.root,?_,h.bb,h.bf,h.ff,pG,h.cP⟩
 ·intro t;have hs:=h.slot t;have hb:=sS t;show cz Z _ w t _ (aw st.fr t);generalize aw st.fr t=s at hs hb;cases s<;>simp only [cz] at hs⊢ <;>try exact hs.on xF (eP _)
  rename_i cs;refine ⟨hs.1,hs.2.cP,?_,λoff=>by show φ' (e.B t) off=none;rw [hb cs rfl];exact hs.2.free off⟩;obtain ⟨o2,h1,h2⟩:=hs.2.obj;exact ⟨o2,h1,h2.on xF (λl _ f _=>trivial)⟩
 ·intro f o ho;obtain ⟨I,cells,h1,h2,h3,h4,h5⟩:=(h.jA f o ho).row;refine ⟨I,cells,h1,h2,h3,h4.mono hle,λbx hb=>⟨(h5 bx hb).1,λoff u hu=>(h5 bx hb).2.1 off u ?_,λg1 g2 j hj=>hle.Dh ((h5 bx hb).2.2 g1 g2 j hj) hj⟩⟩;have hu:φ' bx off=some u:=hu;rw [mM f o bx ho hb] at hu;exact hu
theorem jU.cells {key:Nat->Nat} {φ:Ph}{v:Value}{m:MV}(h:jU key φ v m):nu key φ v.cells.toList m:=by
 have one:m.one=true->nu key φ [v] m->nu key φ v.cells.toList m:=by
  intro h1 h2;have:=h2.cells v (by simp);have hv:v.cells.toList=[v]:=by cases v<;>simp_all [aaD,aaa]
  rw [hv];exact h2
 cases m<;>simp only [jU] at h<;>first|exact one h.1 h.2|skip
 ·rw [h];simpa [aaD] using nu.h _
 ·obtain ⟨arr,rfl,h⟩:=h;exact .agg _ _ (by simpa [aaD] using h)
theorem Um {parts:List (Nat×Operand)}: ∀{e:Env} {st:St} {n:Nat} {K':List MV->St->Option R},cc c Z e st a w->V9 c st parts n K'=some r-> ∃e' b7 ms,cc c Z e' b7 a w/\Ext Z e e'/\cX e'.key e'.φ (parts.map λp=>a.eval p.2) ms/\K' ms b7=some r/\parts.map (λp=>(p.1,a.eval p.2))=((parts.map λp=>a.eval p.2).zipIdx n).map (λx=>(x.2,x.1)):=by
 induction parts with
 |nil=>intro e st n K' h hK;exact ⟨e,st,[],h,.refl _ _,rfl,hK,rfl⟩
 |cons p ps ih=>
  intro e st n K' h hK;obtain ⟨i,x⟩:=p;simp only [V9] at hK;cases hi:eJ i n with
  |false=>simp [hi] at hK
  |true=>
   simp only [hi,cond_true] at hK;have zf:=sh hi;subst zf;obtain ⟨e1,cR,m,q1,q2,q3,q4,q5⟩:=pi h (h.eval x).1 hK;obtain ⟨e2,dV,ms,p1,p2,p4,p5,p6⟩:=ih q1 q5;refine ⟨e2,dV,m::ms,p1,q2.trans p2,⟨_,_,rfl,?_,p4⟩,p5,?_⟩
   ·have:=q4.mono p2.on.φ;rw [<-p2.on.key] at this;exact this
   ·simp only [OF,List.zipIdx_cons,p6]
theorem Kp {key:Nat->Nat} {φ:Ph}{size:Nat}{ms:List MV}: ∀{vs:List Value},cX key φ vs ms->iG size ms=true->bB key φ size (vs.flatMap λv=>v.cells.toList) ms/\vs.length=ms.length/\ ∀v∈vs,v.cells.size=size:=by
 induction ms with
 |nil=>intro vs h _;cases h;exact ⟨rfl,rfl,by simp⟩
 |cons m ms ih=>
  intro vs h hw;obtain ⟨v,u,rfl,h1,h2⟩:=h;have hm:=Dq hw m (by simp);have hw2:iG size ms=true:=by unfold iG at hw⊢;simp only [List.all_cons,aaR] at hw;exact hw.2
  obtain ⟨h3,h4,h5⟩:=ih h2 hw2;have hl:v.cells.toList.length=size:=by rw [h1.cells.width,hm]
  refine ⟨⟨v.cells.toList,_,rfl,hl,h1.cells,h3⟩,by simp [h4],?_⟩;intro x hx;rcases aa6.1 hx with rfl|hx
  ·simpa using hl
  ·exact h5 x hx
end
end Dn
/-
  Slices that are written out, the operation. Conditions: none.
-/
namespace Dn
open Go
section
variable {P:Program}{c:Ctx}{Z:bR} {e e':Env}{st:St}{a:Act} {w w':World}{R:Type}{K:St->Option R}{r:R}{Q:Exit->Act->World->Prop}{o:Oper}
theorem Td {t:TypeId}{I E:TI}{vs:List Value}{parts:Array (Nat×Value)}(hu:P.underlying t=some (.slice I.elem))(hE:c.ti I.elem=some E)(wa:E.dp=[])(jD:0<E.size)(hT:lV P c.ti)(kV:vs.length *E.size<=16777216)(hv: ∀v∈vs,v.cells.size=E.size)(hp:parts.toList=(vs.zipIdx 0).map λx=>(x.2,x.1)): (Instr.buildSlice t vs.length parts).run P w= .ok (.slice (some ⟨w.heap.size,0,none⟩) vs.length vs.length) (w.alloc (.cells (vs.flatMap λv=>v.cells.toList).toArray I.elem)):=by
 obtain ⟨i,z,hi,hs,Hh,hz,VP⟩:=wS (hT _ E hE) wa;by_cases h0:vs.length=0
 ·have BM:=AT h0;subst BM;have FV:parts= #[]:=by rw [<-abr,hp];rfl
  simp [Instr.buildSlice,run_underlying hu,aa7,typeInfo,hi,FV,acJ,newRow,Sem.run];congr 2;apply aea;intro k;simp
 ·have dS: ¬vs.length *i.size=0:=by rw [hs];exact Nat.mul_ne_zero h0 (by omega)
  refine run_buildSlice w t I.elem vs.length parts _ i z hu hi hz (by rw [hs];omega) dS ?_;rw [hp,hs];exact Go.Great.fill_whole jD vs _ hv (by simp)
theorem aar {key:Nat->Nat} {φ:Ph}{size cap bx:Nat}{xs:List MV}{cells:List Value}(h:bB key φ size cells xs)(Cr:xs.length<=cap)(hp: ∀off,off<cells.length->φ bx off=cells[off]?): nu key φ [.slice (some ⟨bx,0,none⟩) xs.length cap] (.list xs):=by
 have hlen:=h.length;have WL: ∀i (hi:i<xs.length),∃v1,v1.length=size/\nu key φ v1 xs[i]/\(cells.drop (i *size)).take size=v1:=by intro i hi;obtain ⟨p1,v1,p2,he,QN,Cn,iv⟩:=h.at (IT hi);refine ⟨v1,Cn,iv,?_⟩;rw [he,AI,<-QN,adO,<-Cn,aca]
 refine .list (some ⟨bx,0,none⟩) cap xs bx 0 size (λi=>(cells.drop (i *size)).take size) Cr (λ_=>rfl) ?_ ?_ ?_
 ·intro i hi;obtain ⟨v1,h1,_,h3⟩:=WL i hi;rw [h3,h1]
 ·intro i j hi hj;have HL:i *size+j<cells.length:=by
   rw [hlen];calc i *size+j<i *size+size:=by omega
    _=(i+1) *size:=by rw [abt]
    _<=xs.length *size:=aaL _ hi
  rw [aaT,hp _ HL,aa8];simp only [hj,if_true,acE]
 ·intro i hi;obtain ⟨v1,_,h2,h3⟩:=WL i hi;rw [h3];exact h2
theorem Kq {t:TypeId}{n:Nat}{parts:Array (Nat×Operand)}{I E:TI}(ho:o.op= .buildSlice t n parts)(hI:c.tv t=some I)(hL:I.AN=true)(hE:c.tv I.elem=some E)(hT:lV P c.ti)(h:cc c Z e st a w)(kV:aaZ (n *E.size) 16777216=true)(hK:V9 c st parts.toList 0 (λms st=>bif eJ ms.length n then ca (iG E.size ms) (bif bL c.bs (o.dst.getD 0) then bu c st o.dst (.sc (.p (.list ms))) K else kR st (o.dst.getD 0) ⟨I.elem,false,ms⟩ λst=>bu c st o.dst (.sc (.own (o.dst.getD 0))) K) else none)=some r): o.wp P a w (λa' w'=>eF w w'/\Out c Z K r e.φ w a' w') Q:=by
 obtain ⟨pO,hc⟩:=b6 hI;obtain ⟨tq,wa⟩:=b6 hE;obtain ⟨hu,E2,FZ,_,jD⟩:=TI.n4 (hT t I pO) hL;rw [tq] at FZ;cases FZ;obtain ⟨e1,cR,ms,zv,HM,kL,hK,W4⟩:=Um h hK;cases hn:eJ ms.length n with
 |false=>simp [hn] at hK
 |true=>
  simp only [hn,cond_true] at hK;have hn:=sh hn;obtain ⟨hw,hK⟩:=eY hK;obtain ⟨pP,hlen,zL⟩:=Kp kL hw;generalize BM:parts.toList.map (λp=>a.eval p.2)=vs at kL W4 pP hlen zL;have kV:=aa9 kV;have cy:=Td (P:=P) (c:=c) (w:=w) (t:=t) (I:=I) (vs:=vs) (parts:=parts.map λ(i,x)=>(i,a.eval x)) hu tq wa jD hT (by rw [hlen,hn];exact kV) zL (by rw [<-W4];simp);have aci:(execOp a.eval o).run P w= .ok (.value (.slice (some ⟨w.heap.size,0,none⟩) vs.length vs.length)) (w.alloc (.cells (vs.flatMap λv=>v.cells.toList).toArray I.elem)):=by rw [hlen,hn] at cy⊢;simp [execOp,ho] at cy⊢;simp [cy]
  have hg:eF w (w.alloc (.cells (vs.flatMap λv=>v.cells.toList).toArray I.elem)):= .alloc w _ _;have FY: ∀off,e1.φ w.heap.size off=none:=by
   intro off;cases hp:e1.φ w.heap.size off with
   |none=>rfl
   |some u=>have:=aaS w _ (zv.pM _ _ _ hp);simp at this
  have Te:(vs.flatMap λv=>v.cells.toList).length=ms.length *E.size:=pP.length;have Cr:ms.length<=16777216:=acv (ab8 _ jD) (by rw [hn];exact kV);cases hb:bL c.bs (o.dst.getD 0) with
  |false=>
   simp only [hb,cond_false] at hK;have Cq:=zv.npf hK;have hK:=tu hK;have mM:dW c Z.nc e1 (w.alloc (.cells (vs.flatMap λv=>v.cells.toList).toArray I.elem)) (.slice (some ⟨w.heap.size,0,none⟩) vs.length vs.length) ⟨I.elem,false,ms⟩:=by
    refine ⟨E,_,tq,wa,⟨Te,.inr ⟨w.heap.size,vs.length,_,by rw [hlen],adU _,ki w _,by rw [hlen];exact aas _,by rw [hlen];unfold adW;omega,?_,?_⟩⟩,pP,?_⟩
    ·rw [abv,Te,hlen]
    ·show List.take (ms.length *E.size) _=_;rw [abu (by simp only [List.toList_toArray];omega)]
    ·intro bx lW;simp [No] at lW;subst lW;refine ⟨zv.cP _ (aas _),λoff u hu=>(by rw [FY] at hu;cases hu),λhc=>aee hc⟩
   have sZ:=zv.kR (f:=o.dst.getD 0) Cq mM hg.size (λb Ko _=>hg.v8 b Ko) (λb off u hu=>hg.cell (zv.pM b off u hu)) (λb lW=>by simp [No] at lW;exact .inl (by omega));exact Ua (s:= .sc (.own (o.dst.getD 0))) hg aci sZ (HM.tr.trans (hg.trans zv.cP _)) (.of (wR rfl) trivial) hK
  |true=>
   simp only [hb,cond_true] at hK;generalize hfl:(vs.flatMap λv=>v.cells.toList)=flat at *;have hle:sR e1.φ (λb off=>if b=w.heap.size/\off<flat.length then flat[off]? else e1.φ b off):=by
    intro b off u hu;by_cases VQ:b=w.heap.size
    ·subst VQ;rw [FY] at hu;cases hu
    ·simp only [VQ,false_and,if_false];exact hu
   have pG: ∀b off u,(λb off=>if b=w.heap.size/\off<flat.length then flat[off]? else e1.φ b off) b off=some u->(w.alloc (.cells flat.toArray I.elem)).cell? ⟨b,off,none⟩=some u:=by
    intro b off u hu;by_cases VQ:b=w.heap.size/\off<flat.length
    ·simp only [VQ,and_self,if_true] at hu;obtain ⟨rfl,_⟩:=VQ;rw [cell_of (ki w _)];simpa using hu
    ·simp only [VQ,if_false] at hu;exact hg.cell (zv.pM b off u hu)
   have sZ:=(zv.grow hg).agO hle pG (by
     intro t2 qC ht off;have S5:=zv.slot t2;rw [ht] at S5;obtain ⟨o2,h1,_⟩:=S5.2.obj;have:=bD h1;have dS: ¬e1.B t2=w.heap.size:=by omega
     simp [dS])
    (by
     intro f o2 b cU wJ off;obtain ⟨J,xP,_,_,h3,_⟩:=(zv.jA f o2 cU).row;rcases h3.2 with ⟨h1,_⟩|⟨g,cap,gJ,h1,_,h4,_⟩
     ·rw [h1] at wJ;simp [No] at wJ
     ·rw [h1] at wJ;simp [No] at wJ;subst wJ;have:=bD h4;have dS: ¬g=w.heap.size:=by omega
      simp [dS])
   refine Ua (s:= .sc (.p (.list ms))) hg aci sZ ?_ (.of ?_ trivial) hK
   ·refine HM.tr.trans ⟨hle,λb hz Ko=>hg.v8 b Ko,λb off hz=> ?_,hg.size,hg.rest⟩;have dS: ¬b=w.heap.size:=by intro Ro;subst Ro;exact hz (zv.cP _ (aas _))
    simp [dS]
   ·simp only [ah,aY];rw [hlen];exact ⟨rfl,aar (pP.mono hle) (aas _) (λoff HL=>by simp [HL])⟩
end
end Dn
