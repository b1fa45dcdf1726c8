import GoSem.Dispatch
import Derived.Orders
import Derived.Calls
import Derived.Laws.AppendOwn
import Derived.Laws.AppendOwnNone
import Derived.Deep.MidRow
import Derived.Laws.Strings
import Derived.Laws.Tables
import Derived.Great.FillDense
import Derived.Maps.AppendAt
import Derived.Great.BuildSlice
/- How code runs. Conditions: none. -/
set_option linter.unusedVariables false
set_option linter.unusedSectionVars false
set_option linter.unusedSimpArgs false
open Nat renaming beq→bB,eq_of_beq_eq_true→sh,le_refl→aaC,mul_le_mul_right→aaU,ble→aaW,zero_add→aaX,le_of_ble_eq_true→aba,succ_mul→abj,add_assoc→acn,add_mul→acv,add_zero→adm,le_mul_of_pos_right→adK,le_trans→adM,ble_eq_true_of_le→ad1,lt_of_lt_of_le→aey,add_comm→aeB,zero_mul→aeI,zero_le→ae0
open List renaming append_assoc→AI,getElem?_eq_some_iff→AS,length_append→By,eq_nil_of_length_eq_zero→BY,getElem?_eq_getElem→IN,map_cons→IT,getElem?_append_right→OF,getElem?_append_left→aar,getElem?_map→aaZ,mem_cons→aa0,getElem?_take→aa9,drop_left'→abv,length_eq_one_iff→abD,take_of_length_le→abQ,size_toArray→abS,getElem?_eq_none→abZ,take_append→acb,length_take→aci,take_left'→acP,mem_map→acQ,take_left→adv,extract_eq_take_drop→adx,drop_append→adA,length_drop→adE,drop_of_length_le→adS,mem_append→adY,nil_append→ad0,mem_iff_getElem→ad8,getElem?_drop→aez,all_eq_true→aeN,getElem_mem→aeQ,nodup_cons→ae8,length_set→afd,map→afi,drop_left→afz,map_nil→afI
open Option.some renaming injEq→AT
open Go.Value renaming oneCell'→No,ownBlock→aas,cells→aaR,slice→aa4,int→aeM
open Go.Builtin renaming append_→aaS,firstCells→abB,zeroCells→abW,nextslicecap→acw
open Bool renaming and_eq_true→aaT,or_eq_false_iff→aa3,not_eq_false'→adu,not_false→aft
open Go.Instr renaming sliceBounds→aaV,sliceBound→ab4,loadAt→adl,sureAddr→adr,storeAt→ady,fill→adX,sliceAt→aeh,slice→aeZ,indexAt→afH
open Go.World renaming block_lt_of_cell?→aaY,cell?_of_block→aa2,ownsRow_nil→aeK
open Go renaming sizeOf→aa1,maxLen→aeV,part→afe
open Array renaming length_toList→aa8,toList_inj→abu,toList_extract→aed,toList_append→aeg,size_append→aeJ
open UInt8 renaming ofNat→abi
open Go.Addr renaming add_mid→abk
open BitVec renaming ofInt→abC
open Go.Op renaming intCmp→adz,bytesLess→adL,intArith→ad7,equal→af3
open ByteArray renaming data_extract→adR
open Go.Oper renaming upon_value→adZ,wp→afL
open Go.Sem renaming run_bind→aeA
open False renaming elim→afE
open Go.Utf8 renaming decode→afN
namespace Dn
noncomputable section
open Go
structure kv where
 l:List UInt8
 h:l.length=32
theorem kv.ext' {a b:kv}(e:a.l=b.l):a=b:=by cases a;cases b;cases e;rfl
instance:DecidableEq kv:=λa b=>if e:a.l=b.l then .isTrue (kv.ext' e) else .isFalse (λh=>e (by rw [h]))
def kv.zero:kv:=⟨[0,0,0,0,0,0,0,0,0,0,0,0,0,0,0,0,0,0,0,0,0,0,0,0,0,0,0,0,0,0,0,0],rfl⟩
def kv.put (x:kv)(i:Nat)(b:UInt8):kv:=⟨x.l.set i b,by simp [x.h]⟩
inductive MV where
 |b (x:Bool)
 |i (k:IntKind) (n:Int)
 |s (l:List UInt8)
 |h (x:kv)
 |raw (v:Value)
 |list (xs:List MV)
 |agg (cs:List MV)
 |bW (vs:List MV)
 |func (f:Nat) (cap:List MV)
 |rp (cs:List MV)
 |fresh (xs:List MV)
 |cell (m:MV)
 |dx (r:MV) (outs:List MV)
 |clip (xs:List MV)
instance:Inhabited MV:=⟨.b false⟩
mutual
def MV.w:MV->Nat
 | .h _=>32
 | .agg cs=>MV.wl cs
 |_=>1
def MV.wl:List MV->Nat
 |[]=>0
 |m::r=>m.w+MV.wl r
end
def pR (n:Nat)(l:List MV):Bool:=l.all λm=>bB m.w n
inductive Kd where
 |b|i (k:IntKind)|s|l|h|raw
structure MS where
 st:Bool
 lay:List Kd
 b:Bool
def MS.it:MS:=⟨true,[],true⟩
def GY (s:MS):Bool:=match s.lay with
 |[]=>s.st
 |_=>false
inductive aD where
 |un
 |p (m:MV)
 |hs (x:kv)
 |nil
 |own (gG:Nat)
 |mp (s:MS) (es:List MV)
def aD.w:aD->Nat
 | .hs _=>32
 |_=>1
inductive Slot where
 |skip
 |sc (l:aD)
 |ag (cs:List aD)
 |tg (cs:List aD)
 |bW (vs:List Slot)
 |box (cs:List aD)
 |zM (cs:List aD)
 |ptr (root off:Nat)
 |zN (root:Nat)
 |rp (cs:List aD) (off:Nat)
 |hp (root off:Nat) (i:Nat)
 |ep (gG:Nat) (i:Nat) (off:Nat) (st:Bool) (cs:List aD)
abbrev Fr:=List (Nat×Slot)
structure TI where
 st:Bool
 size:Nat
 bytes:Nat
 lay:List Kd
 zero:List aD
 ES:List Nat
 UT:List Nat
 elem:Nat
 ch:List Nat
section
variable {R:Type}
def gB (m:MV)(K:Bool->Option R):Option R:=match m with| .b x=>K x|_=>none
def gI (k:IntKind)(m:MV)(K:Int->Option R):Option R:=match m with| .i k' n=>bif decide (k'=k) then K n else none|_=>none
def gS (m:MV)(K:List UInt8->Option R):Option R:=match m with| .s l=>K l|_=>none
def gL (m:MV)(K:List MV->Option R):Option R:=match m with| .list l=>K l|_=>none
def gH (m:MV)(K:kv->Option R):Option R:=match m with| .h l=>K l|_=>none
def gA (m:MV)(K:List MV->Option R):Option R:=match m with| .agg l=>K l|_=>none
def gT (m:MV)(K:List MV->Option R):Option R:=match m with| .bW l=>K l|_=>none
def gF (m:MV)(K:List MV->Option R):Option R:=match m with| .fresh l=>K l|_=>none
def gCl (m:MV)(K:List MV->Option R):Option R:=match m with| .clip l=>K l|_=>none
def Ru (m:MV)(K:Nat->List MV->Option R):Option R:=match m with| .func f c=>K f c|_=>none
def gW (m:MV)(K:MV->List MV->Option R):Option R:=match m with| .dx r outs=>K r outs|_=>none
def gP (m:MV)(K:List MV->Option R):Option R:=match m with| .rp c=>K c|_=>none
def gCx (m:MV)(K:Nat->Nat->Option R):Option R:=match m with| .raw (.complex .f64 a b)=>K a b|_=>none
def gR (m:MV)(K:MV->Option R):Option R:=match m with| .raw v=>K (.raw v)| .func f c=>K (.func f c)| .rp c=>K (.rp c)|_=>none
def gC (l:List MV)(K:MV->List MV->Option R):Option R:=match l with|m::r=>K m r|[]=>none
def gN (l:List MV)(K:Option R):Option R:=match l with|[]=>K|_=>none
def bd {α:Type}(x:Option α)(K:α->Option R):Option R:=match x with|some a=>K a|none=>none
def UU (l:List MV)(i:Int):Option MV:=if 0<=i then l[i.toNat]? else none
def idx (l:List MV)(i:Int)(K:MV->Option R):Option R:=match UU l i with|some x=>K x|none=>none
def cQ (c:Bool)(K:Option R):Option R:=match c with|true=>K|false=>none
def bM (c:Bool)(x y:Option R):Option R:=match c with|true=>x|false=>y
def K0:List Nat->Nat->(Nat->Option R)->Option R
 |[],_,_=>none
 |[p],e,K=>bif bB e p then K p else none
 |p::q::r,e,K=>bif bB e p then K p else K0 (q::r) e K
def jn (k:Kd)(m:MV)(K:aD->Option R):Option R:=match k with
 | .b=>gB m λx=>K (.p (.b x))
 | .i k=>gI k m λx=>K (.p (.i k x))
 | .s=>gS m λx=>K (.p (.s x))
 | .l=>gL m λx=>K (.p (.list x))
 | .h=>gH m λx=>K (.hs x)
 | .raw=>gR m λm=>K (.p m)
def uG:List Kd->List MV->(List aD->Option R)->Option R
 |[],l,K=>gN l (K [])
 |k::ks,l,K=>gC l λm r=>jn k m λx=>uG ks r λxs=>K (x::xs)
end
def iter {σ R:Type}(body:σ->Option (Sum σ R)):Nat->σ->Option R
 |0,_=>none
 |n+1,s=>match body s with
  |some (.inl s')=>iter body n s'
  |some (.inr r)=>some r
  |none=>none
open Classical in
def Loop {σ R:Type}(body:σ->Option (Sum σ R))(s:σ):Option R:=if h: ∃r n,iter body n s=some r then some (Classical.choose h) else none
def al:Fr->Nat->Slot
 |[],_=> .sc .un
 |(k,s)::r,t=>bif bB k t then s else al r t
def K1 {R:Type}:Fr->Nat->Slot->(Fr->Option R)->Option R
 |[],t,v,K=>K [(t,v)]
 |(k,s)::r,t,v,K=>bif bB k t then K ((k,v)::r) else K1 r t v λr=>K ((k,s)::r)
def force {R:Type}(s:Slot)(K:Slot->Option R):Option R:=match s with
 | .skip=>K .skip
 | .sc l=>K (.sc l)
 | .ag cs=>K (.ag cs)
 | .tg cs=>K (.tg cs)
 | .bW vs=>K (.bW vs)
 | .box cs=>K (.box cs)
 | .zM cs=>K (.zM cs)
 | .ptr r o=>K (.ptr r o)
 | .zN r=>K (.zN r)
 | .rp cs o=>K (.rp cs o)
 | .hp r o i=>K (.hp r o i)
 | .ep f i o b cs=>K (.ep f i o b cs)
def bn:List Nat->Nat->Bool
 |[],_=>false
 |k::r,t=>bif bB k t then true else bn r t
def zP (t:Nat):Bool:=aaW 1000000 t
def posOf (t:Nat):Nat:=(t-1000000)%1000
def Pj (t:Nat):Nat:=(t-1000000)/1000
def plk:List (Nat×Nat)->Nat->Option Nat
 |[],_=>none
 |(k,x)::r,t=>bif bB k t then some x else plk r t
def dm:Slot->Bool
 | .ptr _ _| .hp _ _ _| .ep _ _ _ _ _| .rp _ _| .zN _=>true
 |_=>false
def wh {R:Type}(ds:List Nat):Fr->(Fr->Option R)->Option R
 |[],K=>K []
 |(k,s)::r,K=>bif dm s||bn ds k then wh ds r K else wh ds r λr=>K ((k,s)::r)
def cO:Slot->Bool
 | .box _| .zM _=>true
 |_=>false
def pick {R:Type}(ks:List Nat):Fr->(Fr->Option R)->Option R
 |[],K=>K []
 |(k,s)::r,K=>bif bn ks k&&!dm s then pick ks r λr=>K ((k,s)::r) else pick ks r K
structure ox where
 ty:Nat
 dW:Bool
 xs:List MV
structure St where
 cu:List Nat
 cq:List Nat
 fr:Fr
 aM:List (Nat×ox)
def aE:List (Nat×ox)->Nat->Option ox
 |[],_=>none
 |(k,s)::r,t=>bif bB k t then some s else aE r t
def Pk {R:Type}:List (Nat×ox)->Nat->ox->(List (Nat×ox)->Option R)->Option R
 |[],t,v,K=>K [(t,v)]
 |(k,s)::r,t,v,K=>bif bB k t then K ((k,v)::r) else Pk r t v λr=>K ((k,s)::r)
def kB (a b:IntKind):Bool:=decide (a=b)
def kdB:Kd->Kd->Bool
 | .b,.b=>true
 | .i k,.i k'=>kB k k'
 | .s,.s=>true
 | .l,.l=>true
 | .h,.h=>true
 | .raw,.raw=>true
 |_,_=>false
def GZ:List Kd->List Kd->Bool
 |[],[]=>true
 |x::xs,y::ys=>kdB x y&&GZ xs ys
 |_,_=>false
def msB (s t:MS):Bool:=(s.st==t.st)&&(GZ s.lay t.lay&&(s.b==t.b))
def uH {R:Type}(f:Nat):List aD->(List aD->Option R)->Option R
 |[],K=>K []
 |l::r,K=>(match l with
  | .own g=>bif bB g f then uH f r λr=>K (.un::r) else uH f r λr=>K (.own g::r)
  |l=>uH f r λr=>K (l::r))
def HY {R:Type}(f:Nat)(s:Slot)(K:Slot->Option R):Option R:=match s with
 | .sc (.own g)=>bif bB g f then K (.sc .un) else K (.sc (.own g))
 | .ag cs=>uH f cs λcs=>K (.ag cs)
 | .tg cs=>uH f cs λcs=>K (.tg cs)
 | .box cs=>uH f cs λcs=>K (.box cs)
 | .ep g i o b cs=>bif bB g f then K (.sc .un) else K (.ep g i o b cs)
 |s=>K s
def kFr {R:Type}(f:Nat):Fr->(Fr->Option R)->Option R
 |[],K=>K []
 |(k,s)::r,K=>HY f s λs=>kFr f r λr=>K ((k,s)::r)
section
variable {R:Type}
def nK (st:St)(l:aD)(K:MV->St->Option R):Option R:=match l with
 | .un=>none
 | .p m=>K m st
 | .hs x=>K (.h x) st
 | .nil=>K (.list []) st
 | .mp _ _=>none
 | .own f=>match aE st.aM f with
  |some o=>bif o.dW then K (.list o.xs) st else bif bn st.cq f then none else (match st with|⟨p,q,r,m⟩=>Pk m f ⟨o.ty,true,o.xs⟩ λm=>K (.list o.xs) ⟨p,q,r,m⟩)
  |none=>none
def qP (st:St):List aD->(List MV->St->Option R)->Option R
 |[],K=>K [] st
 |l::r,K=>nK st l λm st=>qP st r λms st=>K (m::ms) st
def mH (st:St)(s:Slot)(K:MV->St->Option R):Option R:=match s with
 | .sc l=>nK st l K
 | .ag cs=>qP st cs λms st=>K (.agg ms) st
 | .rp cs off=>bif bB off 0 then qP st cs λms st=>K (.rp ms) st else none
 |_=>none
def xk (st:St):List Slot->(List MV->St->Option R)->Option R
 |[],K=>K [] st
 |l::r,K=>mH st l λm st=>xk st r λms st=>K (m::ms) st
end
def zQ:List aD->Nat
 |[]=>0
 |k::r=>k.w+zQ r
def cut:List aD->Nat->Option (List aD)
 |cs,0=>some cs
 |c::cs,n+1=>bif aaW c.w (n+1) then cut cs (n+1-c.w) else none
 |_,_=>none
def Pl:List aD->Nat->Option (List aD)
 |_,0=>some []
 |c::cs,n+1=>bif aaW c.w (n+1) then (match Pl cs (n+1-c.w) with|some b=>some (c::b)|none=>none) else none
 |_,_=>none
def part (cs:List aD)(off n:Nat):Option (List aD):=match cut cs off with
 |some a=>Pl a n
 |none=>none
def over:List aD->List aD->Option (List aD)
 |[],cs=>some cs
 |v::vs,c::cs=>bif bB v.w c.w then (match over vs cs with|some r=>some (v::r)|none=>none) else none
 |_,[]=>none
def putAt:List aD->Nat->List aD->Option (List aD)
 |cs,0,vs=>over vs cs
 |c::cs,n+1,vs=>bif aaW c.w (n+1) then (match putAt cs (n+1-c.w) vs with|some r=>some (c::r)|none=>none) else none
 |_,_,_=>none
def app {α:Type}:List α->List α->Option (List α)
 |[],l=>some l
 |x::r,l=>(match app r l with|some q=>some (x::q)|none=>none)
def Pm:aD->Bool
 | .un=>true
 | .mp _ _=>true
 |_=>false
def eI:List aD->Bool
 |[.mp _ _]=>true
 |_=>false
def ET:Slot->Bool
 | .box cs=>!eI cs
 |_=>false
def HZ {R:Type}(ok:Nat->Bool)(r0:Fr):Fr->Fr->(Fr->Option R)->Option R
 |[],fr,K=>K fr
 |(t,s)::r,fr,K=>match s with
  | .ptr root off=>bif ok t&&(!zP root&&(ET (al r0 root)&&(ET (al fr root)&&!cO (al fr t)))) then K1 fr t (.ptr root off) λfr=>HZ ok r0 r fr K else HZ ok r0 r fr K
  |_=>HZ ok r0 r fr K
def lB:List aD->Bool
 |[.mp s _]=>!GY s
 |_=>false
def wi:List aD->Bool
 |[]=>false
 |l::r=>bif Pm l then true else wi r
def kEp {R:Type}(f:Nat):Fr->(Fr->Option R)->Option R
 |[],K=>K []
 |(k,s)::r,K=>(match s with
  | .ep g i o b cs=>bif bB g f then kEp f r λr=>K ((k,.sc .un)::r) else kEp f r λr=>K ((k,.ep g i o b cs)::r)
  |s=>kEp f r λr=>K ((k,s)::r))
inductive LK where
 |k (x:Kd)
 |own (f:Nat) (ty:Nat) (dW:Bool)
inductive OK where
 |sc (l:LK)
 |ag (ls:List LK)
 |box (ls:List LK)
 |mp (s:MS)
 |pt (root off:Nat)
structure qQ where
 cu:List Nat
 cq:List Nat
 outs:List (Nat×OK)
 exo:List (Nat×List (Nat×OK))
 dW:List Nat
instance:Inhabited qQ:=⟨⟨[],[],[],[],[]⟩⟩
def Xg:List (Nat×List (Nat×OK))->Nat->List (Nat×OK)
 |[],_=>[]
 |(k,l)::r,e=>bif bB k e then l else Xg r e
def qQ.ex (h:qQ)(e:Nat):List (Nat×OK):=Xg h.exo e
def Tt:List (Nat×List (Nat×OK))->List (Nat×OK)
 |[]=>[]
 |(_,l)::r=>l++Tt r
def qQ.all (h:qQ):List (Nat×OK):=h.outs++Tt h.exo
structure Ctx where
 ti:Nat->Option TI
 key:Nat->Nat
 g:Nat->List MV->Option MV
 cR:Nat->Bool
 fresh:Nat->Bool
 mY:Nat->Nat
 sig:Nat->Option (Nat×List LK)
 par:List (Nat×Nat)
 n:Nat
 bs:List Nat
 fl:List Nat
 fz:Nat->List Nat
 fk:Nat->Option FloatKind
 mt:Nat->Option (Nat×Bool)
 ord:Nat->List Nat
 EU:Nat->qQ
 HD:Nat->qQ
 Gg:Nat->qQ
 NC:Nat->Bool
 dyn:List Nat
def Ctx.tv (c:Ctx)(t:Nat):Option TI:=match c.ti t with|some I=>(match I.ch with|[]=>some I|_=>none)|none=>none
def A7:Value->Slot
 | .bool b=> .sc (.p (.b b))
 | .int k n=> .sc (.p (.i k n))
 | .string s=> .sc (.p (.s s.data.toList))
 | .slice none 0 0=> .sc .nil
 | .float k b=> .sc (.p (.raw (.float k b)))
 | .complex k a b=> .sc (.p (.raw (.complex k a b)))
 | .pointer none=> .sc (.p (.raw (.pointer none)))
 | .nilFunc=> .sc (.p (.raw .nilFunc))
 | .nilIface=> .sc (.p (.raw .nilIface))
 |_=> .sc .un
def aF (c:Ctx)(st:St):Operand->Slot
 | .tmp t=>match plk c.par t with
  |some q=>bif zP q&&bB (posOf q) t then (match al st.fr q with| .box cs=>bif eI cs then .sc .un else .ptr q (Pj q)|_=> .sc .un) else .sc .un
  |none=>match al st.fr t with
   | .box cs=>bif zP t then .sc .un else bif lB cs then .zN t else .ptr t 0
   | .zM cs=> .rp cs 0
   |s=>s
 | .const v=>A7 v
 | .func f=> .sc (.p (.func (c.key f) []))
 | .global _=> .sc .un
def jy (c:Ctx)(st:St):List Operand->List Slot
 |[]=>[]
 |o::r=>aF c st o::jy c st r
section
variable {R:Type}
def wr (st:St)(d:Nat)(s:Slot)(K:St->Option R):Option R:=bif bn st.cu d then none else (match st with|⟨p,q,r,m⟩=>force s λs=>K1 r d s λr=>K ⟨p,q,r,m⟩)
def bh (c:Ctx)(st:St)(d:Option Nat)(s:Slot)(K:St->Option R):Option R:=match d with
 |some d=>bif zP d||(aaW c.n d||cO (al st.fr d)) then none else wr st d s K
 |none=>K st
def ir (st:St)(f:Nat)(o:ox)(K:St->Option R):Option R:=bif bn st.cq f then none else (match st with|⟨p,q,r,m⟩=>kFr f r λr=>Pk m f o λm=>K ⟨p,q,r,m⟩)
def jz (I:TI)(cs:List aD)(off:Nat)(K:Slot->Option R):Option R:=bif I.st then (match part cs off I.size with|some a=>K (.ag a)|none=>none)
 else (match cut cs off with|some (l::_)=>bif bB l.w I.size then K (.sc l) else none|_=>none)
def ldK (st:St)(I:TI)(a:Slot)(K:Slot->Option R):Option R:=match a with
 | .ptr root off=>match al st.fr root with
  | .box cs=>bif eI cs then none else jz I cs off K
  |_=>none
 | .rp cs off=>jz I cs off K
 | .ep f _ off _ cs=>(match aE st.aM f with|some _=>jz I cs off K|none=>none)
 | .hp root off i=>bif I.st||!bB I.size 1 then none else (match al st.fr root with
  | .box cs=>bif eI cs then none else (match cut cs off with|some (.hs x::_)=>K (.sc (.p (.i .u8 (x.l.getD i 0).toNat)))|_=>none)
  |_=>none)
 |_=>none
def aH:Slot->List aD
 | .sc l=>[l]
 | .ag cs=>cs
 |_=>[]
def bC:List aD->Option (List MV)
 |[]=>some []
 |l::r=>match l,bC r with
  | .p m,some q=>some (m::q)
  | .hs x,some q=>some (.h x::q)
  |_,_=>none
def rn:List aD->List MV->Option (List aD)
 |[],[]=>some []
 | .hs x::r,_::ms=>(match rn r ms with|some q=>some (.hs x::q)|none=>none)
 |_::r,m::ms=>(match rn r ms with|some q=>some (.p m::q)|none=>none)
 |_,_=>none
def vA (b:Bool)(cs:List MV):Option MV:=match b,cs with
 |false,[m]=>some m
 |true,cs=>some (.agg cs)
 |_,_=>none
def isByte (n:Int):Bool:=decide (n=((abi n.toNat).toNat:Int))
def stK (st:St)(I:TI)(a v:Slot)(K:St->Option R):Option R:=bif wi (aH v)||!bB (zQ (aH v)) I.size then none else
 match a with
 | .ptr root off=>match al st.fr root with
  | .box cs=>bif eI cs then none else (match putAt cs off (aH v) with|some fL=>wr st root (.box fL) K|none=>none)
  |_=>none
 | .hp root off i=>match al st.fr root,v with
  | .box cs,.sc (.p n)=>bif eI cs then none else (match cut cs off with
   |some (.hs x::_)=>gI .u8 n λn=>cQ (isByte n) (match putAt cs off [.hs (x.put i (abi n.toNat))] with|some fL=>wr st root (.box fL) K|none=>none)
   |_=>none)
  |_,_=>none
 | .ep f i off b cs=>qP st (aH v) λms st=>match aE st.aM f with
  |some o=>bif o.dW then none else
   (match rn (aH v) ms with
   |some vs=>(match putAt cs off vs with
    |some fL=>(match bC fL with
     |some ms'=>(match vA b ms' with
      |some x=>bif bn st.cq f then none else
       (match st with|⟨p,q,r,m⟩=>kEp f r λr=>Pk m f ⟨o.ty,false,o.xs.set i x⟩ λm=>K ⟨p,q,r,m⟩)
      |none=>none)
     |none=>none)
    |none=>none)
   |none=>none)
  |none=>none
 |_=>none
def ND (I:TI)(x:MV)(K:List aD->Option R):Option R:=bif I.st then gA x λcs=>uG I.lay cs K
 else match I.lay with
  |[k]=>jn k x λx=>K [x]
  |_=>none
def zR (I:TI)(x:MV)(K:Slot->Option R):Option R:=bif I.st then gA x λcs=>uG I.lay cs λcs=>K (.ag cs)
 else match I.lay with
  |[k]=>jn k x λx=>K (.sc x)
  |_=>none
def zS (c:Ctx):List Nat->List MV->(List Slot->Option R)->Option R
 |[],l,K=>gN l (K [])
 |t::ts,l,K=>match c.tv t with
  |some I=>gC l λm r=>zR I m λs=>zS c ts r λss=>K (s::ss)
  |none=>none
def rR (c:Ctx)(I:TI)(x:MV)(K:Slot->Option R):Option R:=match I.ch with
 |[]=>zR I x K
 |ts=>gT x λvs=>zS c ts vs λss=>K (.bW ss)
def EV:aD->aD->Option Bool
 | .p (.b x),.p (.b y)=>some (decide (x=y))
 | .p (.i k x),.p (.i k' y)=>bif decide (k=k') then some (decide (x=y)) else none
 | .p (.s x),.p (.s y)=>some (decide (x=y))
 | .hs x,.hs y=>some (decide (x=y))
 |_,_=>none
def jA:List aD->List aD->Option Bool
 |[],[]=>some true
 |[x],[y]=>EV x y
 |x::xs,y::ys=>match EV x y,jA xs ys with
  |some a,some b=>some (a&&b)
  |_,_=>none
 |_,_=>none
def NE (op:BinOp)(x y:List UInt8):Option MV:=match op with
 | .eql=>some (.b (decide (x=y)))
 | .neq=>some (.b (!decide (x=y)))
 | .lss=>some (.b (adL x y))
 | .gtr=>some (.b (!(adL x y||decide (x=y))))
 | .leq=>some (.b (adL x y||decide (x=y)))
 | .geq=>some (.b (!adL x y))
 |_=>none
def H0 (k:IntKind)(x y:Int):Int:=k.wrap ((abC k.bits x&&&abC k.bits y).toNat:Int)
def bOr (k:IntKind)(x y:Int):Int:=k.wrap ((abC k.bits x|||abC k.bits y).toNat:Int)
def Cf (k:IntKind)(x y:Int):Int:=k.wrap ((abC k.bits x^^^abC k.bits y).toNat:Int)
def Tu (op:BinOp)(k:IntKind)(x y:Int):Option MV:=match op with
 | .add=>some (.i k (k.wrap (x+y)))
 | .sub=>some (.i k (k.wrap (x-y)))
 | .mul=>some (.i k (k.wrap (x *y)))
 | .and=>some (.i k (H0 k x y))
 | .or=>some (.i k (bOr k x y))
 | .xor=>some (.i k (Cf k x y))
 | .eql=>some (.b (decide (x=y)))
 | .neq=>some (.b (!decide (x=y)))
 | .lss=>some (.b (decide (x<y)))
 | .leq=>some (.b (decide (x<=y)))
 | .gtr=>some (.b (decide (y<x)))
 | .geq=>some (.b (decide (y<=x)))
 |_=>none
def nL:Kd->aD->Bool
 | .b,.p (.b _)=>true
 | .i k,.p (.i k' _)=>decide (k'=k)
 | .s,.p (.s _)=>true
 | .h,.hs _=>true
 |_,_=>false
def eQ:List Kd->List aD->Bool
 |[],[]=>true
 |k::ks,l::ls=>bif nL k l then eQ ks ls else false
 |_,_=>false
def mI (st:Bool):Slot->Bool
 | .ag _=>st
 | .sc _=>!st
 |_=>false
def agW (op:BinOp)(a b:Nat):Option Nat:=match op with
 | .add=>FloatKind.f64.format.add a b
 | .sub=>FloatKind.f64.format.sub a b
 | .mul=>FloatKind.f64.format.mul a b
 |_=>none
def ael (oI:Option TI)(op:BinOp)(x y:Slot)(K:Slot->Option R):Option R:=match x,y with
 | .sc (.p (.i k a)),.sc (.p (.i k' b))=>
  (match op with
   | .quo=>bif decide (k=k') then cQ (!decide (b=0)) (K (.sc (.p (.i k (k.wrap (a.tdiv b)))))) else none
   | .rem=>bif decide (k=k') then cQ (!decide (b=0)) (K (.sc (.p (.i k (a.tmod b))))) else none
   | .shr=>cQ (decide (0<=b)) (K (.sc (.p (.i k (a.fdiv (2^min b.toNat k.bits))))))
   | .shl=>cQ (decide (0<=b)) (K (.sc (.p (.i k (k.wrap (a *2^min b.toNat k.bits))))))
   |_=>bif decide (k=k') then (match Tu op k a b with|some m=>K (.sc (.p m))|none=>none) else none)
 | .sc (.p (.s a)),.sc (.p (.s b))=>(match op with
  | .add=>cQ (decide (a.length+b.length<=2^46)) (K (.sc (.p (.s (a++b)))))
  |_=>(match NE op a b with|some m=>K (.sc (.p m))|none=>none))
 | .sc (.p (.raw (.float .f64 a))),.sc (.p (.raw (.float .f64 b)))=>bd (agW op a b) λr=>K (.sc (.p (.raw (.float .f64 r))))
 |x,y=>match oI with
  |some I=>bif eQ I.lay (aH x)&&eQ I.lay (aH y)&&(mI I.st x&&mI I.st y) then (match op with
   | .eql=>(match jA (aH x) (aH y) with|some b=>K (.sc (.p (.b b)))|none=>none)
   | .neq=>(match jA (aH x) (aH y) with|some b=>K (.sc (.p (.b (!b))))|none=>none)
   |_=>none) else none
  |none=>none
def sliceB (lo hi:Option Slot)(len:Nat)(K:Nat->Nat->Option R):Option R:=match lo,hi with
 |none,none=>K 0 len
 |some (.sc (.p (.i _ l))),none=>cQ (decide (0<=l/\l<=(len:Int)/\(len:Int)<=(len:Int))) (K l.toNat (Int.toNat (len:Int)))
 |none,some (.sc (.p (.i _ h)))=>cQ (decide (0<=(0:Int)/\(0:Int)<=h/\h<=(len:Int))) (K (Int.toNat 0) h.toNat)
 |some (.sc (.p (.i _ l))),some (.sc (.p (.i _ h)))=>cQ (decide (0<=l/\l<=h/\h<=(len:Int))) (K l.toNat h.toNat)
 |_,_=>none
def lZ (c:Ctx)(st:St):Option Operand->Option Slot
 |some o=>some (aF c st o)
 |none=>none
def zT:List aD->Option (List MV)
 |[]=>some []
 |l::r=>match l,zT r with
  | .p m,some q=>some (m::q)
  | .hs x,some q=>some (.h x::q)
  | .nil,some q=>some (.list []::q)
  |_,_=>none
def Xh (d:Nat)(st:St)(I E:TI)(x y:Slot)(K:Slot->St->Option R):Option R:=match x,y with
 | .sc (.p (.i _ n)),.sc (.p (.i _ m))=>bif aaW 1 E.bytes then cQ (decide ((0:Int)<=n/\n=m/\n *E.bytes<=2^46)) (match zT E.zero with
  |some zs=>(match vA E.st zs with
   |some z=>ir st d ⟨I.elem,false,List.replicate n.toNat z⟩ λst=>K (.sc (.own d)) st
   |none=>none)
  |none=>none) else none
 |_,_=>none
def TI.yS (I:TI):Bool:=match I.st,I.lay with|false,[.l]=>true|_,_=>false
def TI.Rv (I:TI):Bool:=match I.st,I.lay with|false,[.s]=>true|_,_=>false
def Rw (E:TI):Bool:=match E.st,E.lay with
 |false,[.i k]=>decide (k= .u8)
 |_,_=>false
def Ds (l:List UInt8):List MV:=l.map λb=> .i .u8 (b.toNat:Int)
def Rx (c:Ctx)(u:Nat)(E:TI)(x:Slot)(K:List MV->Option R):Option R:=match c.tv u,x with
 |some T,.sc (.p (.s l))=>bif T.Rv&&Rw E then K (Ds l) else none
 |_,_=>none
def NF (I E:TI)(st:St)(x:Slot)(K:List MV->Option R):Option R:=match x with
 | .sc (.p (.list xs))=>cQ (pR E.size xs) (K xs)
 | .sc .nil=>K []
 | .sc (.own f)=>(match aE st.aM f with|some o=>bif bB o.ty I.elem then K o.xs else none|none=>none)
 |_=>none
def Cg (c:Ctx)(st:St)(I:TI):List (Nat×Operand)->List aD->Option (List aD)
 |[],cs=>some cs
 |(i,o)::r,cs=>match I.ES[i]?,I.UT[i]? with
  |some q,some y=>(match c.tv y with
   |some J=>bif wi (aH (aF c st o))||!bB (zQ (aH (aF c st o))) J.size then none else
    (match putAt cs q (aH (aF c st o)) with|some fL=>Cg c st I r fL|none=>none)
   |none=>none)
  |_,_=>none
def H2 (c:Ctx)(st:St):List (Nat×Operand)->kv->(kv->Option R)->Option R
 |[],x,K=>K x
 |(i,o)::r,x,K=>match aF c st o with
  | .sc (.p m)=>bif aaW 32 i then none else gI .u8 m λn=>cQ (isByte n) (H2 c st r (x.put i (abi n.toNat)) K)
  |_=>none
def Xi (c:Ctx)(st:St):List (Nat×Operand)->Nat->(List MV->St->Option R)->Option R
 |[],_,K=>K [] st
 |(i,o)::r,n,K=>bif bB i n then mH st (aF c st o) λm st=>Xi c st r (n+1) λms st=>K (m::ms) st else none
def Dt (c:Ctx)(st:St):List Operand->(List MV->St->Option R)->Option R
 |[],K=>K [] st
 |o::r,K=>match aF c st o with
  | .ptr root 0=>(match al st.fr root with
   | .box cs=>bif wi cs||zP root then none else qP st cs λms st=>(match rn cs ms with|some fL=>wr st root (.zM fL) λst=>Dt c st r λxs st=>K (.rp ms::xs) st|none=>none)
   |_=>none)
  | .rp cs 0=>qP st cs λms st=>Dt c st r λxs st=>K (.rp ms::xs) st
  |_=>none
def Du (c:Ctx)(k:Nat)(st:St)(s:Slot)(K:MV->St->Option R):Option R:=match s with
 | .sc (.own f)=>(match aE st.aM f with
  |some o=>bif o.dW||!bB o.ty (c.mY k) then none else ir st f ⟨o.ty,true,[]⟩ λst=>K (.fresh o.xs) st
  |none=>none)
 | .sc .nil=>(match c.tv (c.mY k) with|some _=>K (.fresh []) st|none=>none)
 |_=>none
def Tv (c:Ctx)(k:Nat)(st:St)(ss:List Slot)(K:List MV->St->Option R):Option R:=bif c.cR k then (match ss with
  |[s0,s1,s2]=>(match s2 with
   | .sc (.p m2)=>mH st s1 λm1 st=>Du c k st s0 λm0 st=>K [m0,m1,m2] st
   |s2=>mH st s1 λm1 st=>Du c k st s0 λm0 st=>Du c k st s2 λm2 st=>K [m0,m1,m2] st)
  |_=>none)
 else xk st ss K
def agX (x y:Int):Int:=if y<x then y else x
def imax (x y:Int):Int:=if y>x then y else x
def Xj (mx:Bool)(k:IntKind):Int->List Slot->Option MV
 |x,[]=>some (.i k x)
 |x,.sc (.p (.i k' y))::r=>bif decide (k'=k) then Xj mx k (bif mx then imax x y else agX x y) r else none
 |_,_=>none
def Ry (mx:Bool):List Slot->Option MV
 | .sc (.p (.i k n))::r=>Xj mx k n r
 |_=>none
def aa5:List Nat->Bool
 |[]=>false
 |_=>true
def H3 (c:Ctx):List Nat->List MV->(List aD->Option R)->Option R
 |[],l,K=>gN l (K [])
 |t::ts,l,K=>match c.tv t with
  |some I=>gC l λm r=>zR I m λs=>(match s with| .sc (.p m)=>H3 c ts r λls=>K (.p m::ls)|_=>none)
  |none=>none
def H4 (c:Ctx)(d:Nat)(st:St)(f:Nat)(r:MV)(ts:List Nat)(K:Slot->St->Option R):Option R:=match ts with
 |[]=>none
 |t0::ts=>(match c.tv t0 with
  |some I0=>bif !bB I0.elem (c.mY f) then none else gT r λvs=>gC vs λx vs=>gF x λxs=>H3 c ts vs λls=>ir st d ⟨I0.elem,false,xs⟩ λst=>(bif bn c.bs d then nK st (.own d) λm st=>K (.tg (.p m::ls)) st else K (.tg (.own d::ls)) st)
  |none=>none)
def Xk (c:Ctx)(d:Nat)(st:St)(f:Nat)(ms:List MV)(I:TI)(K:Slot->St->Option R):Option R:=bd (c.g f ms) λr=>bif c.fresh f then bif bB (c.mY f) 0 then gCl r λxs=>K (.sc (.p (.clip xs))) st else bif aa5 I.ch then H4 c d st f r I.ch K else gF r λxs=>bif !bB I.elem (c.mY f) then none else ir st d ⟨I.elem,false,xs⟩ λst=>(bif bn c.bs d then nK st (.own d) λm st=>K (.sc (.p m)) st else K (.sc (.own d)) st) else rR c I r λs=>K s st
def aem (s:Slot)(K:Slot->Option R):Option R:=match s with
 | .ptr r o=>K (.ptr r o)
 | .rp cs o=>K (.rp cs o)
 |_=>none
def Xl (x y z:Slot)(K:Slot->Option R):Option R:=match x with
 | .sc (.p (.b v))=>(match y,z with
  | .sc (.p (.b p)),.sc (.p (.b q))=>K (.sc (.p (.b (bif v then p else q))))
  |p,q=>match v with|true=>K p|false=>K q)
 |_=>none
def aen (I:TI)(s:Slot)(K:Slot->Option R):Option R:=match s with
 | .sc l=>bif I.st||Pm l||!bB l.w I.size then none else K (.box [l])
 | .ag cs=>bif I.st&&!wi cs&&bB (zQ cs) I.size then K (.box cs) else none
 |_=>none
def unK (op:UnOp)(s:Slot)(K:Slot->Option R):Option R:=match op,s with
 | .not,.sc (.p (.b v))=>K (.sc (.p (.b (!v))))
 | .neg,.sc (.p (.i k n))=>K (.sc (.p (.i k (k.wrap (0-n)))))
 |_,_=>none
def Xm (I:TI)(fk:Option FloatKind)(s:Slot)(K:Slot->Option R):Option R:=match I.st,I.ch,I.lay,s with
 |false,[],[.i k],.sc (.p (.i _ n))=>K (.sc (.p (.i k (k.wrap n))))
 |false,[],[.s],.sc (.p (.s l))=>K (.sc (.p (.s l)))
 |false,[],[.i k],.sc (.p (.raw (.float .f64 a)))=>bd ((FloatKind.decode .f64 a).toInt .zero) λn=>cQ (decide (k.min<=n/\n<=k.max)) (K (.sc (.p (.i k n))))
 |false,[],[.raw],.sc (.p (.i _ n))=>(match fk with
  |some .f64=>K (.sc (.p (.raw (.float .f64 (FloatKind.nearest .f64 n)))))
  |_=>none)
 |_,_,_,_=>none
def Rz (c:Ctx)(I:TI)(st:St)(s:Slot)(lo hi:Option Slot)(K:Slot->St->Option R):Option R:=match s with
 | .sc (.p (.s l))=>bif I.Rv then sliceB lo hi l.length λa b=>K (.sc (.p (.s ((l.take b).drop a)))) st else none
 | .sc (.p (.list l))=>bif I.yS then (match c.tv I.elem with
  |some E=>(match lo with
   |none=>sliceB none hi l.length λa b=>K (.sc (.p (.list ((l.take b).drop a)))) st
   |some lo=>cQ (pR E.size l) (sliceB (some lo) hi l.length λa b=>K (.sc (.p (.list ((l.take b).drop a)))) st))
  |none=>none) else none
 | .sc (.own f)=>(match aE st.aM f with
  |some o=>bif I.yS&&bB o.ty I.elem then nK st (.own f) λ_ st=>sliceB lo hi o.xs.length λa b=>K (.sc (.p (.list ((o.xs.take b).drop a)))) st else none
  |none=>none)
 | .sc .nil=>bif I.yS then sliceB lo hi 0 λ_ _=>K (.sc .nil) st else none
 |_=>none
def Xn (I:TI)(s h m:Slot)(K:Slot->Option R):Option R:=match s,h,m with
 | .sc (.p (.list l)),.sc (.p (.i .i64 n)),.sc (.p (.i .i64 n'))=>bif I.yS then cQ (decide (n=(l.length:Int)/\n'=(l.length:Int))) (K (.sc (.p (.clip l)))) else none
 |_,_,_=>none
def Xo (st:St)(I:TI)(f:Nat)(s:Slot)(K:Slot->Option R):Option R:=match I.st,I.ES[f]?,s with
 |true,some q,.ptr r o=>K (.ptr r (o+q))
 |true,some q,.rp cs o=>K (.rp cs (o+q))
 |true,some q,.ep g i o b cs=>(match aE st.aM g with|some _=>K (.ep g i (o+q) b cs)|none=>none)
 |_,_,_=>none
def aeo (c:Ctx)(I:TI)(f:Nat)(s:Slot)(K:Slot->Option R):Option R:=match I.st,I.ES[f]?,I.UT[f]?,s with
 |true,some q,some y,.ag cs=>(match c.tv y with|some J=>jz J cs q K|none=>none)
 |_,_,_,_=>none
def aep (c:Ctx)(st:St)(I E:TI)(x i:Slot)(K:Slot->Option R):Option R:=match x,i with
 | .sc (.p (.list xs)),.sc (.p (.i _ n))=>bif I.yS then idx xs n λx=>ND E x λcs=>K (.rp cs 0) else none
 | .sc (.own f),.sc (.p (.i _ n))=>(match aE st.aM f with
  |some o=>bif I.yS then idx o.xs n λx=>ND E x λcs=>K (.ep f n.toNat 0 E.st cs) else none
  |none=>none)
 | .ptr r o,.sc (.p (.i _ n))=>bif I.st then none else (match I.lay with|[.h]=>cQ (decide ((0:Int)<=n/\n<32)) (K (.hp r o n.toNat))|_=>none)
 |_,_=>none
def ixK (I:TI)(x i:Slot)(K:Slot->Option R):Option R:=match I.st,I.lay,x,i with
 |false,[.s],.sc (.p (.s l)),.sc (.p (.i _ n))=>cQ (decide ((0:Int)<=n/\n<(l.length:Int))) (K (.sc (.p (.i .u8 (l.getD n.toNat 0).toNat))))
 |false,[.h],.sc (.hs x),.sc (.p (.i _ n))=>cQ (decide ((0:Int)<=n/\n<32)) (K (.sc (.p (.i .u8 (x.l.getD n.toNat 0).toNat))))
 |_,_,_,_=>none
def Dv:List aD->Nat->Option aD
 | .p m::_,0=>some (.p m)
 | .own f::_,0=>some (.own f)
 | .un::_,0=>some .un
 | .p _::r,k+1=>Dv r k
 | .own _::r,k+1=>Dv r k
 | .un::r,k+1=>Dv r k
 |_,_=>none
def aeq (s:Slot)(k:Nat)(K:Slot->Option R):Option R:=match s with
 | .tg cs=>(match Dv cs k with|some l=>K (.sc l)|none=>none)
 | .bW vs=>(match vs[k]? with|some s=>K s|none=>none)
 |_=>none
def Xp (I:TI)(st:St)(ss:List Slot)(K:Slot->Option R):Option R:=match ss with
 |[.sc (.p (.s l))]=>bif I.Rv then K (.sc (.p (.i .i64 l.length))) else none
 |[.sc (.p (.list l))]=>bif I.yS then K (.sc (.p (.i .i64 l.length))) else none
 |[.sc .nil]=>bif I.yS then K (.sc (.p (.i .i64 0))) else none
 |[.sc (.own f)]=>bif I.yS then (match aE st.aM f with|some o=>K (.sc (.p (.i .i64 o.xs.length)))|none=>none) else none
 |_=>none
def UW (pb:Bool)(d:Nat)(st:St)(I E:TI)(s:Slot)(ys:List MV)(K:Slot->St->Option R):Option R:=bif aaW 1 E.bytes then (match s with
 | .sc .nil=>cQ (decide (ys.length *E.bytes<=2^46)) (ir st d ⟨I.elem,false,ys⟩ λst=>K (.sc (.own d)) st)
 | .sc (.own f)=>(match aE st.aM f with
  |some w=>cQ (decide ((w.xs.length+ys.length) *E.bytes<=2^46)) (bif bB w.ty I.elem then ir st f ⟨w.ty,w.dW,w.xs++ys⟩ λst=>K (.sc (.own f)) st else none)
  |none=>none)
 | .sc (.p (.clip xs))=>cQ (pR E.size xs) (cQ (decide (0<ys.length/\(xs.length+ys.length) *E.bytes<=2^46)) (ir st d ⟨I.elem,false,xs++ys⟩ λst=>bif pb then nK st (.own d) λm st=>K (.sc (.p m)) st else K (.sc (.own d)) st))
 |_=>none) else none
def NG (c:Ctx)(st:St)(I:TI)(f:Slot)(ss:List Slot)(K:Slot->St->Option R):Option R:=match f with
 | .sc (.p m)=>Ru m λf bR=>cQ (!c.cR f)<|xk st ss λms st=>bd (c.g f (ms++bR)) λr=>rR c I r λs=>K s st
 |_=>none
def K3:MV->MV->Bool
 | .b x,.b y=>decide (x=y)
 | .i k x,.i k' y=>decide (k=k')&&decide (x=y)
 | .s x,.s y=>decide (x=y)
 | .h x,.h y=>decide (x=y)
 |_,_=>false
def jo:List MV->List MV->Bool
 |[],[]=>true
 |x::xs,y::ys=>K3 x y&&jo xs ys
 |_,_=>false
def sO:MV->List MV
 | .bW (.agg k::_)=>k
 |_=>[]
def aer:MV->MV
 | .bW [_,v]=>v
 |_=> .b false
def iJ:List MV->List MV->Nat
 |[],_=>0
 |e::r,ks=>bif jo (sO e) ks then 0 else iJ r ks+1
def asI:MV->Int
 | .i _ n=>n
 |_=>0
def asB:MV->Bool
 | .b x=>x
 |_=>false
def adn (es:List MV)(ks:List MV):Int:=match es[iJ es ks]? with|some e=>asI (aer e)|none=>0
def ado (es:List MV)(ks:List MV):Bool:=match es[iJ es ks]? with|some e=>asB (aer e)|none=>false
def EW (es ks:List MV)(z:MV):List MV:=bif bB (iJ es ks) es.length then es++[.bW [.agg ks,z]] else es
def K4 (es:List MV)(i:Nat)(v:MV):List MV:=match es[i]? with|some e=>es.set i (.bW [.agg (sO e),v])|none=>es
def jq (b:Bool):MV:=bif b then .b false else .i .i64 0
def xl (c:Ctx)(t:Nat):Option MS:=match c.mt t with
 |some (kt,b)=>(match c.tv kt with|some I=>bif GY ⟨I.st,I.lay,b⟩ then none else some ⟨I.st,I.lay,b⟩|none=>none)
 |none=>none
def Pn (s:MS)(k:Slot)(K:List MV->Option R):Option R:=bif eQ s.lay (aH k)&&mI s.st k then (match bC (aH k) with|some ks=>K ks|none=>none) else none
def K5 (st:St)(s:MS)(m:Slot)(K:Nat->List MV->Option R):Option R:=match m with
 | .zN r=>(match al st.fr r with| .box [.mp s' es]=>bif msB s s'&&!GY s' then K r es else none|_=>none)
 |_=>none
def UX (b:Bool)(s:Slot)(K:MV->Option R):Option R:=match b,s with
 |true,.sc (.p (.b x))=>K (.b x)
 |false,.sc (.p (.i .i64 n))=>K (.i .i64 n)
 |_,_=>none
def Gh (st:St)(r:Nat)(s:MS)(es:List MV)(K:St->Option R):Option R:=wr st r (.box [.mp s es]) K
def isLT (c:Ctx)(y:Nat):Bool:=match c.tv y with|some Y=>Y.yS|none=>false
def RB (c:Ctx)(y t:Nat):Bool:=match c.tv y,c.tv t with
 |some Y,some I=>Y.Rv&&I.yS&&(match c.tv I.elem with|some E=>Rw E|none=>false)
 |_,_=>false
def dX (c:Ctx)(o:Oper):Bool:=match o.op with
 | .assign (.tmp _)=>(match c.mt o.type with|some _=>true|none=>false)
 | .convert y t _=>RB c y t
 |_=>false
def HE (c:Ctx)(o:Oper)(st:St)(x:Operand)(K:Slot->St->Option R):Option R:=match x,c.mt o.type with
 | .tmp t,some _=>(match al st.fr t with
  | .box cs=>bif eI cs then bif bn st.cu t||zP t then none else (match st with|⟨p,q,r,m⟩=>wh [t] r λr=>K (.box cs) ⟨p,q,r,m⟩) else K (aF c st x) st
  |_=>K (aF c st x) st)
 |_,_=>K (aF c st x) st
def EX (s:MS)(es ks:List MV):Slot:=bif s.b then .sc (.p (.b (ado es ks))) else .sc (.p (.i .i64 (adn es ks)))
def adp (c:Ctx)(st:St)(t:Nat)(m k:Slot)(K:Slot->Option R):Option R:=match xl c t with
 |some s=>K5 st s m λ_ es=>Pn s k λks=>K (EX s es ks)
 |none=>none
def adq (c:Ctx)(st:St)(t:Nat)(m k v:Slot)(K:St->Option R):Option R:=match xl c t with
 |some s=>K5 st s m λr es=>Pn s k λks=>UX s.b v λv=>Gh st r s (K4 (EW es ks (jq s.b)) (iJ es ks) v) K
 |none=>none
def Xq (c:Ctx)(st:St)(t:Nat)(m k:Slot)(K:Slot->St->Option R):Option R:=match xl c t with
 |some s=>K5 st s m λr es=>Pn s k λks=>Gh st r s (EW es ks (jq s.b)) λst=>K (.bW [EX s es ks,.sc (.p (.i .i64 (iJ es ks)))]) st
 |none=>none
def agY (c:Ctx)(st:St)(t:Nat)(m i v:Slot)(K:St->Option R):Option R:=match xl c t with
 |some s=>K5 st s m λr es=>(match i with
  | .sc (.p (.i .i64 n))=>cQ (decide (0<=n/\n.toNat<es.length)) (UX s.b v λv=>Gh st r s (K4 es n.toNat v) K)
  |_=>none)
 |none=>none
def itS (es:List MV):List UInt8:=match es with|[.s l,.i .i64 _]=>l|_=>[]
def wj (es:List MV):Int:=match es with|[.s _,.i .i64 n]=>n|_=>0
def RC (es:List MV):Bool:=decide (wj es<((itS es).length:Int))
def Ch (es:List MV):Int:=(afN ⟨(itS es).toArray⟩ (wj es).toNat).1
def EY (es:List MV):List MV:=[.s (itS es),.i .i64 (wj es+(afN ⟨(itS es).toArray⟩ (wj es).toNat).2)]
def itK (st:St)(x:Slot)(K:Slot->St->Option R):Option R:=match x with
 | .ptr t 0=>(match al st.fr t with
  | .box [.mp s es]=>bif GY s then
   bM (RC es) (wr st t (.box [.mp s (EY es)]) λst=>K (.bW [.sc (.p (.b true)),.sc (.p (.i .i64 (wj es))),.sc (.p (.i .i32 (Ch es)))]) st) (K (.bW [.sc (.p (.b false))]) st)
   else none
  |_=>none)
 |_=>none
def byK (m:MV)(K:UInt8->Option R):Option R:=gI .u8 m λn=>cQ (isByte n) (K (abi n.toNat))
def K6:List MV->(List UInt8->Option R)->Option R
 |[],K=>K []
 |m::r,K=>byK m λb=>K6 r λl=>K (b::l)
def RD (I:TI)(x:Slot)(K:Slot->Option R):Option R:=match x with
 | .sc (.p (.s l))=>bif I.Rv then K (.box [.mp MS.it [.s l,.i .i64 0]]) else none
 |_=>none
def Xr (c:Ctx)(st:St)(Y I:TI)(x:Slot)(K:Slot->Option R):Option R:=match c.tv Y.elem with
 |some E=>bif I.Rv&&Rw E then (match x with
  | .sc (.p (.list xs))=>K6 xs λl=>K (.sc (.p (.s l)))
  | .sc .nil=>K (.sc (.p (.s [])))
  | .sc (.own f)=>(match aE st.aM f with
   |some o=>bif bB o.ty Y.elem then K6 o.xs λl=>K (.sc (.p (.s l))) else none
   |none=>none)
  |_=>none) else none
 |none=>none
def still (c:Ctx)(o:Oper):Bool:=match o.op,o.dst with
 | .load _ _,some d=>bn c.fl d
 |_,_=>false
def bj:List LK->List Nat
 |[]=>[]
 | .own f _ _::r=>f::bj r
 |_::r=>bj r
def meets:List Nat->List Nat->Bool
 |[],_=>false
 |k::r,l=>bif bn l k then true else meets r l
def ik (c:Ctx):List LK->Bool
 |[]=>true
 | .own _ ty _::r=>(match c.tv ty with|some _=>ik c r|none=>false)
 |_::r=>ik c r
def mJ (ps:List (Nat×Nat))(f g:Nat):Bool:=match ps with
 |[]=>true
 |(a,b)::r=>(bif bB a f then bB b g&&!bB g 0 else (bif bB b g then bB g 0 else true))&&mJ r f g
def NH (st:St)(ps:List (Nat×Nat))(k:LK)(l:aD)(K:MV->List (Nat×Nat)->Option R):Option R:=match k,l with
 | .k .l,.nil=>K (.list []) ps
 | .k .h,.hs x=>K (.h x) ps
 | .k x,.p m=>jn x m λ_=>K m ps
 | .own f ty dW,.own g=>match aE st.aM g with
  |some o=>bif !bB o.ty ty||(o.dW&&!dW)||bn st.cq g||!mJ ps f (g+1) then none else K (.list o.xs) ((f,g+1)::ps)
  |none=>none
 | .own f _ _,.nil=>bif mJ ps f 0 then K (.list []) ((f,0)::ps) else none
 |_,_=>none
def jX (st:St):List (Nat×Nat)->List LK->List aD->(List MV->List (Nat×Nat)->Option R)->Option R
 |ps,[],[],K=>K [] ps
 |ps,k::ks,l::ls,K=>NH st ps k l λm ps=>jX st ps ks ls λms ps=>K (m::ms) ps
 |_,_,_,_=>none
def jY (st:St)(k:LK)(m:MV)(K:aD->St->Option R):Option R:=match k with
 | .k x=>jn x m λl=>K l st
 | .own f ty dW=>gL m λxs=>(match st with|⟨p,q,r,n⟩=>Pk n f ⟨ty,dW,xs⟩ λn=>K (.own f) ⟨p,q,r,n⟩)
def cH (st:St):List LK->List MV->(List aD->List MV->St->Option R)->Option R
 |[],ms,K=>K [] ms st
 |k::ks,ms,K=>gC ms λm r=>jY st k m λl st=>cH st ks r λls ms st=>K (l::ls) ms st
def Po (gs:List Nat):List (Nat×ox)->(List (Nat×ox)->Option R)->Option R
 |[],K=>K []
 |(k,o)::r,K=>bif bn gs k then Po gs r K else Po gs r λr=>K ((k,o)::r)
def aa6:List Nat->Fr->(Fr->Option R)->Option R
 |[],r,K=>K r
 |f::fs,r,K=>kFr f r λr=>aa6 fs r K
def eg:List (Nat×Nat)->List Nat
 |[]=>[]
 |(_,0)::r=>eg r
 |(_,g+1)::r=>g::eg r
def Md:List Nat->List (Nat×ox)->Bool
 |[],_=>false
 |f::r,m=>(match aE m f with|some _=>true|none=>Md r m)
def Me (st:St)(root:Nat)(ks:List LK)(ps:List (Nat×Nat))(outs:List MV)(K:St->Option R):Option R:=cH ⟨[],[],[],[]⟩ ks outs λcs rest A8=>gN rest<|Po (eg ps) st.aM λm=>
  bif Md (bj ks) m||meets (bj ks) st.cq then none else
   aa6 (bj ks) st.fr λr=>K1 r root (.box cs) λr=>(match app A8.aM m with|some m=>K ⟨st.cu,st.cq,r,m⟩|none=>none)
def Tw (c:Ctx)(gv:Bool)(g:List MV->Option MV)(pos:Nat)(ks:List LK)(st:St)(ss:List Slot)(I:Option TI)(K:Slot->St->Option R):Option R:=match ss[pos]? with
 |some (.ptr root off)=>xk st (ss.take pos) λm1 st=>xk st (ss.drop (pos+1)) λm2 st=>
  (match al st.fr root with
  | .box cs=>bif eI cs||bn st.cu root||!ik c ks||!gv then none else jX st [] ks cs λls ps=>
   (match app m1 (.cell (.func off ls)::m2) with
   |some ms=>bd (g ms) λx=>gW x λr outs=>Me st root ks ps outs λst=>(match I with
    |some I=>rR c I r λs=>K s st
    |none=>K (.sc .un) st)
   |none=>none)
  |_=>none)
 |_=>none
def ads (c:Ctx)(key pos:Nat)(ks:List LK)(st:St)(ss:List Slot)(I:Option TI)(K:Slot->St->Option R):Option R:=Tw c (c.cR key) (c.g key) pos ks st ss I K
def Xs:List LK->List LK->Bool
 |[],[]=>true
 | .k k1::r,.k k2::q=>kdB k1 k2&&Xs r q
 | .own f t z::r,.own f' t' z'::q=>bB f f'&&(bB t t'&&(z==z'&&Xs r q))
 |_,_=>false
def Pp (c:Ctx)(pos:Nat)(ks:List LK):List Nat->Bool
 |[]=>true
 |k::r=>(match c.sig k with|some sg=>bB sg.1 pos&&Xs sg.2 ks|none=>false)&&(c.cR k&&Pp c pos ks r)
def Xt (c:Ctx)(UY:List Nat)(st:St)(f:Slot)(ss:List Slot)(I:Option TI)(K:Slot->St->Option R):Option R:=match f,UY with
 | .sc (.p m),k0::_=>(match c.sig k0 with
  |some sg=>bif Pp c sg.1 sg.2 UY then Ru m λk bR=>gN bR<|Tw c true (λms=>K0 UY k λk=>c.g k ms) sg.1 sg.2 st ss I K else none
  |none=>none)
 |_,_=>none
def opK (c:Ctx)(o:Oper)(st:St)(K:Slot->St->Option R):Option R:=match o.op with
 | .move x=>K (aF c st x) st
 | .assign x=>HE c o st x K
 | .makeMap t none=>(match xl c t with|some s=>K (.box [.mp s []]) st|none=>none)
 | .lookup t m k false=>adp c st t (aF c st m) (aF c st k) λs=>K s st
 | .mapUpdate t m k v=>adq c st t (aF c st m) (aF c st k) (aF c st v) λst=>K (.sc .un) st
 | .mapEntry t m k=>Xq c st t (aF c st m) (aF c st k) K
 | .entryStore t m i v=>agY c st t (aF c st m) (aF c st i) (aF c st v) λst=>K (.sc .un) st
 | .nilCheck x=>aem (aF c st x) λs=>K s st
 | .pick x a b=>Xl (aF c st x) (aF c st a) (aF c st b) λs=>K s st
 | .alloc t=>(match c.tv t with|some I=>K (.box I.zero) st|none=>none)
 | .box t x=>(match c.tv t with|some I=>aen I (aF c st x) λs=>K s st|none=>none)
 | .build t parts=>(match c.tv t with
  |some I=>bif I.st then (match Cg c st I parts.toList I.zero with|some cs=>K (.ag cs) st|none=>none)
   else (match I.lay with|[.h]=>H2 c st parts.toList kv.zero λx=>K (.sc (.hs x)) st|_=>none)
  |none=>none)
 | .buildSlice t n parts=>(match c.tv t with
  |some I=>bif I.yS then (match c.tv I.elem with
   |some E=>bif aaW (n *E.size) 16777216 then Xi c st parts.toList 0 λms st=>bif bB ms.length n then cQ (pR E.size ms) (bif bn c.bs (o.dst.getD 0) then K (.sc (.p (.list ms))) st else ir st (o.dst.getD 0) ⟨I.elem,false,ms⟩ λst=>K (.sc (.own (o.dst.getD 0))) st) else none else none
   |none=>none) else none
  |none=>none)
 | .makeSlice t x y=>(match c.tv t with
  |some I=>bif I.yS then (match c.tv I.elem with|some E=>Xh (o.dst.getD 0) st I E (aF c st x) (aF c st y) K|none=>none) else none
  |none=>none)
 | .load t a=>(match c.tv t with
  |some I=>bif still c o then (match aF c st a with| .rp cs off=>jz I cs off λs=>K s st|_=>none) else ldK st I (aF c st a) λs=>K s st
  |none=>none)
 | .store t a v=>(match c.tv t with|some I=>stK st I (aF c st a) (aF c st v) λst=>K (.sc .un) st|none=>none)
 | .binOp op t x y _=>ael (c.tv t) op (aF c st x) (aF c st y) λs=>K s st
 | .unOp op _ x=>unK op (aF c st x) λs=>K s st
 | .convert y t x=>bif isLT c y then (match c.tv y,c.tv t with|some Y,some I=>Xr c st Y I (aF c st x) λs=>K s st|_,_=>none)
  else bif RB c y t then (match aF c st x with| .sc (.p (.s l))=>K (.sc (.p (.list (Ds l)))) st|_=>none)
  else (match c.ti y,c.tv t with|some _,some I=>Xm I (c.fk t) (aF c st x) λs=>K s st|_,_=>none)
 | .range t x=>(match c.tv t with|some I=>RD I (aF c st x) λs=>K s st|none=>none)
 | .next x true=>itK st (aF c st x) K
 | .makeFunc (.func f) first bR=>(match first.toList with
  |[]=>Dt c st bR.toList λms st=>K (.sc (.p (.func (c.key f) ms))) st
  |_=>none)
 | .slice t x lo hi none=>(match c.tv t with|some I=>Rz c I st (aF c st x) (lZ c st lo) (lZ c st hi) K|none=>none)
 | .slice t x none (some h) (some m)=>(match c.tv t with|some I=>Xn I (aF c st x) (aF c st h) (aF c st m) λs=>K s st|none=>none)
 | .fieldAddr t x f=>(match c.tv t with|some I=>Xo st I f (aF c st x) λs=>K s st|none=>none)
 | .field t x f=>(match c.tv t with|some I=>aeo c I f (aF c st x) λs=>K s st|none=>none)
 | .indexAddr t x i=>(match c.tv t with
  |some I=>(match c.tv I.elem with|some E=>aep c st I E (aF c st x) (aF c st i) λs=>K s st|none=>none)
  |none=>none)
 | .index t x i=>(match c.tv t with|some I=>ixK I (aF c st x) (aF c st i) λs=>K s st|none=>none)
 | .extract x k=>aeq (aF c st x) k λs=>K s st
 | .call cl=>(match cl.callee with
  | .value (.func f)=>(match c.sig (c.key f) with
   |some sg=>ads c (c.key f) sg.1 sg.2 st (jy c st cl.args.toList) (c.ti o.type) K
   |none=>match c.ti o.type with
   |some I=>Tv c (c.key f) st (jy c st cl.args.toList) λms st=>Xk c (o.dst.getD 0) st (c.key f) ms I K
   |none=>none)
  | .value x=>(match c.dyn with
   |_::_=>Xt c c.dyn st (aF c st x) (jy c st cl.args.toList) (c.ti o.type) K
   |[]=>match c.ti o.type with
   |some I=>NG c st I (aF c st x) (jy c st cl.args.toList) K
   |none=>none)
  | .builtin .len=>(match cl.argTypes.toList with
   |[t]=>(match c.tv t with|some I=>Xp I st (jy c st cl.args.toList) λs=>K s st|none=>none)
   |_=>none)
  | .builtin .append=>(match jy c st cl.args.toList,cl.argTypes.toList with
   |[s,x],[t,t']=>(match c.tv t with
    |some I=>bif I.yS then (match c.tv I.elem with
     |some E=>bif bB t t' then NF I E st x λys=>UW (bn c.bs (o.dst.getD 0)) (o.dst.getD 0) st I E s ys K else Rx c t' E x λys=>UW (bn c.bs (o.dst.getD 0)) (o.dst.getD 0) st I E s ys K
     |none=>none) else none
    |none=>none)
   |_,_=>none)
  | .builtin .real=>(match jy c st cl.args.toList with|[.sc (.p m)]=>gCx m λx _=>K (.sc (.p (.raw (.float .f64 x)))) st|_=>none)
  | .builtin .imag=>(match jy c st cl.args.toList with|[.sc (.p m)]=>gCx m λ_ y=>K (.sc (.p (.raw (.float .f64 y)))) st|_=>none)
  | .builtin .complex=>(match jy c st cl.args.toList with|[.sc (.p (.raw (.float .f64 x))),.sc (.p (.raw (.float .f64 y)))]=>K (.sc (.p (.raw (.complex .f64 x y)))) st|_=>none)
  | .builtin .min=>(match Ry false (jy c st cl.args.toList) with|some m=>K (.sc (.p m)) st|none=>none)
  | .builtin .max=>(match Ry true (jy c st cl.args.toList) with|some m=>K (.sc (.p m)) st|none=>none)
  |_=>none)
 |_=>none
def RE (all:List Oper)(o:Oper)(st:St)(K:Bool->St->Option R):Option R:=match o.guard with
 |none=>K true st
 |some (j,want)=>match all[j]? with
  |some p=>(match p.dst with
   |some t=>(match al st.fr t with
    | .sc (.p (.b v))=>(match v with
     |true=>(match st with|⟨p,q,r,m⟩=>K1 r t (.sc (.p (.b true))) λr=>K want ⟨p,q,r,m⟩)
     |false=>(match st with|⟨p,q,r,m⟩=>K1 r t (.sc (.p (.b false))) λr=>K (!want) ⟨p,q,r,m⟩))
    | .skip=>K false st
    |_=>none)
   |none=>none)
  |none=>none
def Tx (c:Ctx)(all:List Oper)(o:Oper)(st:St)(K:St->Option R):Option R:=RE all o st λgo st=>
  bif go then opK c o st λs st=>bh c st o.dst s K
  else bh c st o.dst .skip K
def BB (c:Ctx)(all:List Oper):List Oper->St->(St->Option R)->Option R
 |[],st,K=>K st
 |o::r,st,K=>Tx c all o st λst=>BB c all r st K
end
section
variable {R:Type}
def ei (st:St):List (Nat×Nat)->List (Nat×OK)->(List MV->Option R)->Option R
 |_,[],K=>K []
 |ps,(t,k)::r,K=>match k,al st.fr t with
  | .sc k,.sc l=>jX st ps [k] [l] λms ps=>ei st ps r λns=>(match app ms ns with|some l=>K l|none=>none)
  | .ag ks,.ag ls=>jX st ps ks ls λms ps=>ei st ps r λns=>(match app ms ns with|some l=>K l|none=>none)
  | .box ks,.box ls=>jX st ps ks ls λms ps=>ei st ps r λns=>(match app ms ns with|some l=>K l|none=>none)
  | .mp s,.box [.mp s' es]=>bif msB s s' then ei st ps r λns=>K (.list es::ns) else none
  | .pt root off,.ptr Xu Pq=>bif bB root Xu&&(bB off Pq&&(!zP root&&ET (al st.fr root))) then ei st ps r K else none
  |_,_=>none
def Ps (st:St)(t:Nat)(s:Slot)(K:St->Option R):Option R:=match st with|⟨p,q,r,m⟩=>K1 r t s λr=>K ⟨p,q,r,m⟩
def Xv:List (Nat×OK)->List MV->St->(St->Option R)->Option R
 |[],ms,st,K=>gN ms (K st)
 |(t,k)::r,ms,st,K=>match k,st with
  | .pt root off,⟨p,q,fr,m⟩=>bif !zP root&&(ET (al fr root)&&!cO (al fr t)) then K1 fr t (.ptr root off) λfr=>Xv r ms ⟨p,q,fr,m⟩ K else none
  |_,_=>none
def mZ (st:St):List (Nat×OK)->List MV->(St->Option R)->Option R
 |[],ms,K=>gN ms (K st)
 |(t,k)::r,ms,K=>match k with
  | .sc k=>cH st [k] ms λls ms st=>(match ls with|[l]=>Ps st t (.sc l) λst=>mZ st r ms K|_=>none)
  | .ag ks=>cH st ks ms λls ms st=>Ps st t (.ag ls) λst=>mZ st r ms K
  | .box ks=>bif zP t&&!bn st.cu (posOf t) then none else cH st ks ms λls ms st=>Ps st t (.box ls) λst=>mZ st r ms K
  | .mp s=>bif zP t then none else gC ms λm ms=>gL m λes=>Ps st t (.box [.mp s es]) λst=>mZ st r ms K
  | .pt root off=>Xv ((t,.pt root off)::r) ms st K
end
def dq:List (Nat×OK)->List Nat
 |[]=>[]
 |(t,_)::r=>t::dq r
def bX:List (Nat×OK)->List Nat
 |[]=>[]
 |(_,.sc k)::r=>bj [k]++bX r
 |(_,.ag ks)::r=>bj ks++bX r
 |(_,.box ks)::r=>bj ks++bX r
 |(_,.mp _)::r=>bX r
 |(_,.pt _ _)::r=>bX r
def minus:List Nat->List Nat->List Nat
 |[],_=>[]
 |k::r,l=>bif bn l k then minus r l else k::minus r l
def uI {R:Type}(ps:List Nat):List aD->(List aD->Option R)->Option R
 |[],K=>K []
 |l::r,K=>(match l with
  | .own g=>bif bn ps g then uI ps r λr=>K (.own g::r) else uI ps r λr=>K (.un::r)
  |l=>uI ps r λr=>K (l::r))
def Mf {R:Type}(ps:List Nat)(s:Slot)(K:Slot->Option R):Option R:=match s with
 | .sc (.own g)=>bif bn ps g then K (.sc (.own g)) else K (.sc .un)
 | .ag cs=>uI ps cs λcs=>K (.ag cs)
 | .tg cs=>uI ps cs λcs=>K (.tg cs)
 | .box cs=>uI ps cs λcs=>K (.box cs)
 |s=>K s
def nFr {R:Type}(ps:List Nat):Fr->(Fr->Option R)->Option R
 |[],K=>K []
 |(k,s)::r,K=>Mf ps s λs=>nFr ps r λr=>K ((k,s)::r)
def Mg {R:Type}(ks fs qs:List Nat):List (Nat×ox)->(List (Nat×ox)->Option R)->Option R
 |[],K=>K []
 |(k,o)::r,K=>bif bn ks k then Mg ks fs qs r λr=>(bif bn fs k&&!bn qs k then K ((k,⟨o.ty,true,o.xs⟩)::r) else K ((k,o)::r)) else Mg ks fs qs r K
def eh (c:Ctx):List (Nat×OK)->Bool
 |[]=>true
 |(_,.sc k)::r=>bif ik c [k] then eh c r else false
 |(_,.ag ks)::r=>bif ik c ks then eh c r else false
 |(_,.box ks)::r=>bif ik c ks then eh c r else false
 |(_,.mp _)::r=>eh c r
 |(_,.pt _ _)::r=>eh c r
def RF {R:Type}(c:Ctx)(h:qQ)(st:St)(K:St->St->Option R):Option R:=match st with
 |⟨p,q,r,m⟩=>
  bif !eh c h.all||meets (dq h.all) p||meets (bX h.all) q||meets (dq h.all) h.cu||meets (bX h.all) h.cq then none else
  match app h.cu p,app h.cq q with
  |some p',some q'=>
   pick h.cu r λrp=>nFr h.cq rp λrp=>pick (dq h.all) r λro=>
   Mg h.cq h.dW q m λmp=>Mg (bX h.all) h.dW q m λmo=>
   (match app rp ro,app mp mo with
    |some r1,some m1=>K ⟨p',q',r1,m1⟩ ⟨p',q',rp,mp⟩
    |_,_=>none)
  |_,_=>none
def EZ {R:Type}(c:Ctx)(h:qQ)(st:St)(K:St->St->Option R):Option R:=RF c h st λdc ek=>HZ (λt=>bn h.cu t||bn (dq h.all) t) st.fr st.fr dc.fr λfr=>K ⟨dc.cu,dc.cq,fr,dc.aM⟩ ek
def Ci (st ek:St):St:=match st,ek with|⟨p,q,_,_⟩,⟨_,_,r,m⟩=>⟨p,q,r,m⟩
def guarded:List Oper->Bool
 |[]=>false
 |o::r=>match o.guard with|some _=>true|none=>guarded r
def qu:List Oper->List Nat
 |[]=>[]
 |o::r=>match o.op,o.dst with
  | .alloc _,some d=>d::qu r
  | .box _ _,some d=>d::qu r
  | .makeMap _ _,some d=>d::qu r
  | .range _ _,some d=>d::qu r
  |_,_=>qu r
def Cj {R:Type}(ds:List Nat)(st:St)(K:St->Option R):Option R:=match st with|⟨p,q,r,m⟩=>wh ds r λr1=>HZ (λt=>!bn ds t) r r r1 λr=>K ⟨p,q,r,m⟩
def fc:Code->Option Nat
 | .region id _ _=>some id
 | .seq a b=>match fc a with|some n=>some n|none=>fc b
 | .cond _ a b=>match fc a with|some n=>some n|none=>fc b
 | .block _ b| .loop b| .scope b=>fc b
 |_=>none
def uni:List Nat->List Nat->List Nat
 |[],l=>l
 |k::r,l=>bif bn l k then uni r l else k::uni r l
def lC:Code->List Nat
 | .skip| .region _ _ _=>[0]
 | .seq a b=>bif bn (lC a) 0 then uni (minus (lC a) [0]) (lC b) else lC a
 | .cond _ a b=>uni (lC a) (lC b)
 | .block id b=>bif bn (lC b) (id+2) then uni (minus (lC b) [0,id+2]) [0] else lC b
 | .loop b=>minus (lC b) [0]
 | .exit id=>[id+2]
 | .ret=>[1]
 |_=>[]
def kw (o:Oper):Bool:=match o.op with
 | .load _ _=>true
 | .lookup _ _ _ false=>true
 |_=>false
def jB (c:Ctx)(o:Oper):Bool:=kw o||(match o.op with
 | .convert y _ _=>isLT c y
 |_=>false)
def qR (o:Oper):Option Nat:=match o.op with
 | .lookup t _ _ false=>some t
 |_=>none
def UZ (o:Oper):Option Nat:=match o.op with
 | .mapEntry t _ _=>some t
 |_=>none
def pI (o p:Oper):Bool:=match qR o,UZ p with
 |some t,some t'=>bB t t'
 |_,_=>false
def dY (o:Oper):Bool:=match o.op with
 | .move _| .assign _| .nilCheck _| .pick _ _ _| .build _ _| .load _ _| .binOp _ _ _ _ _| .unOp _ _ _| .convert _ _ _| .makeFunc _ _ _| .slice _ _ _ _ _| .fieldAddr _ _ _| .field _ _ _| .indexAddr _ _ _| .index _ _ _| .extract _ _| .lookup _ _ _ false=>true
 | .call cl=>(match cl.callee with| .builtin .len| .builtin .min| .builtin .max| .builtin .real| .builtin .imag| .builtin .complex=>true|_=>false)
 |_=>false
def zl (c:Ctx)(o:Oper):Bool:=match o.op with
 | .alloc _| .box _ _| .buildSlice _ _ _| .makeSlice _ _ _=>true
 | .call cl=>(match cl.callee with| .value (.func f)=>!c.cR (c.key f)| .value _=>(match c.dyn with|[]=>true|_::_=>false)|_=>false)
 |_=>false
def RG:Op->List Operand
 | .build _ ps=>ps.toList.map (·.2)
 | .buildSlice _ _ ps=>ps.toList.map (·.2)
 | .makeFunc _ first captured=>first.toList++captured.toList
 | .slice _ x l h m=>x::(l.toList++(h.toList++m.toList))
 | .call c=>(match c.callee with| .value f=>[f]| .invoke r _=>[r]| .builtin _=>[])++c.args.toList
 |op=>op.operands.toList
def Pt:List Operand->List Nat
 |[]=>[]
 | .tmp t::r=>t::Pt r
 |_::r=>Pt r
def NI (ops:List Oper)(o:Oper):List Nat:=Pt (RG o.op)++(match o.guard with|some (g,_)=>(match ops[g]? with|some p=>p.dst.toList|none=>[])|none=>[])
def H5 (ops:List Oper)(x y:Oper):Bool:=(match x.dst with|some d=>!bn (NI ops y) d&&(match y.dst with|some d'=>!bB d' d|none=>true)|none=>true)&& (match y.dst with|some d=>!bn (NI ops x) d|none=>true)
def H6 (e:Edge):Bool:=match e.ground with
 | .textOnly _=>false
 | .gcOnly _=>false
 |_=>true
def xm (o:Oper)(p:Nat->Bool):Bool:=o.after.toList.any λe=>H6 e&&p e.on
def agZ (ops:List Oper):Bool:=ops.all λo=>match o.op with| .select _ _=>false|_=>true
def E0 (c:Ctx)(o:Oper):Bool:=dY o||zl c o
def qS (c:Ctx)(ops:List Oper)(o:Oper):List Nat->List Nat->Bool
 |_,[]=>true
 |D,y::r=>match ops[y]? with
  |some p=>bif xm p (bn D) then qS c ops o (y::D) r else H5 ops o p&&(!jB c o||E0 c p||still c o||pI o p)&&qS c ops o D r
  |none=>false
def Dw (o:Oper):Bool:=match o.op,o.dst,o.guard with
 | .alloc _,some _,none=>o.after.toList.all λe=>!H6 e
 |_,_,_=>false
def aes (c:Ctx)(o:Oper):Bool:=match o.op with
 | .alloc t=>(match c.tv t with|some _=>true|none=>false)
 |_=>false
def aet (ops:List Oper)(i:Nat):Bool:=match ops[i]? with
 |some o=>Dw o
 |none=>false
def qT (c:Ctx)(ops:List Oper):List Nat->List Nat->Bool
 |_,[]=>true
 |pre,x::rest=>(match ops[x]? with
  |some o=>(o.after.toList.all λe=>!H6 e||bn pre e.on)&&!bn pre x&&!bn rest x&& (bif dY o&&!dX c o then qS c ops o [x] rest
    else (rest.all λy=>match ops[y]? with
     |some p=>bif Dw p then H5 ops p o&&aes c p else xm p (λi=>bB i x||(bn rest i&&!aet ops i))
     |none=>false))&&qT c ops (x::pre) rest
  |none=>false)
def pS (c:Ctx)(ops:Array Oper)(ord:List Nat):Bool:=agZ ops.toList&&bB ord.length ops.toList.length&&(List.range ops.toList.length).all (bn ord)&&qT c ops.toList [] ord
def HF {R:Type}(c:Ctx)(id:Nat)(ops l:List Oper)(st:St)(K:St->Option R):Option R:=bif guarded ops then
  EZ c (c.EU id) st λdc ek=>bd (Cj (qu ops) dc λdc=>BB c ops l dc λst=>ei st [] ((c.EU id).ex 0) some) λvs=>mZ (Ci st ek) ((c.EU id).ex 0) vs K
 else Cj (qu ops) st λst=>BB c ops l st K
def qv (ops:List Oper):List Nat->Option (List Oper)
 |[]=>some []
 |i::r=>match ops[i]?,qv ops r with
  |some o,some l=>some (o::l)
  |_,_=>none
def na {S:Type}(step:S->MV->Option (Bool×S)):S->List MV->Option (List MV×S)
 |s,[]=>some ([],s)
 |s,x::xs=>match step s x with
  |some (b,s1)=>(match na step s1 xs with|some (ys,s2)=>some (bif b then ys else x::ys,s2)|none=>none)
  |none=>none
def Xw (g:Nat->List MV->Option MV)(k:Nat)(bR:List MV):Unit->MV->Option (Bool×Unit):=λ_ x=>match g k (x::bR) with
 |some (.b b)=>some (b,())
 |_=>none
def Mh (g:Nat->List MV->Option MV)(k:Nat)(bR:List MV):List MV->MV->Option (Bool×List MV):=λls x=>match g k (x::(bR++[.cell (.func 0 ls)])) with
 |some (.dx (.b b) outs)=>some (b,outs)
 |_=>none
def G0:MV->Bool
 | .agg _=>true
 |_=>false
def Xx {R:Type}(c:Ctx)(h f:Nat)(bR:List Operand)(x:Operand)(o1 o2:Oper)(st:St)(K:St->Option R):Option R:=
 let fin (ys:List MV) (st:St):Option R:=ir st (o2.dst.getD 0) ⟨c.mY (c.key h),false,ys⟩ λst=>bh c st o2.dst (.sc (.own (o2.dst.getD 0))) λst=>bh c st o1.dst (.sc .un) K;match c.sig (c.key f) with
 |none=>bif c.cR (c.key f) then none else Dt c st bR λms st=>Du c (c.key h) st (aF c st x) λm st=>gF m λxs=>cQ (xs.all G0)<|bd (na (Xw c.g (c.key f) ms) () xs) λp=>fin p.1 st
 |some sg=>Dt c st bR.dropLast λms st=>Du c (c.key h) st (aF c st x) λm st=>gF m λxs=>cQ (xs.all G0)<| (match bR.getLast? with
  |some y=>(match aF c st y with
   | .ptr root 0=>(match al st.fr root with
    | .box cs=>bif eI cs||bn st.cu root||!ik c sg.2||!bB sg.1 (ms.length+1)||!c.cR (c.key f) then none else
     jX st [] sg.2 cs λls ps=>bd (na (Mh c.g (c.key f) ms) ls xs) λp=>Me st root sg.2 ps p.2 λst=>fin p.1 st
    |_=>none)
   |_=>none)
  |none=>none)
def Dx (c:Ctx):List Oper->List Oper->Option (List Oper×Nat×List Operand×Nat×Operand×Oper×Oper×List Oper)
 |pre,o1::o2::r=>match o1.op,o2.op with
  | .makeFunc (.func f) first bR,.call cl=>(match cl.callee,cl.args.toList,first.toList,o1.dst with
   | .value (.func h),[.tmp x,.tmp y],[],some d=>bif c.NC h&&bB y d&&!bB x d&&!aaW c.n d&&!bB (o2.dst.getD d) d then some (pre.reverse,f,bR.toList,h,.tmp x,o1,o2,r) else Dx c (o1::pre) (o2::r)
   |_,_,_,_=>Dx c (o1::pre) (o2::r))
  |_,_=>Dx c (o1::pre) (o2::r)
 |_,_=>none
def H7:List Oper->Bool
 |[]=>true
 |o::r=>(match o.guard with|none=>H7 r|some _=>false)
def Xy {R:Type}(c:Ctx)(id:Nat)(ops:List Oper)(st:St)(K:St->Option R):Option R:=match Dx c [] ops with
 |some (pre,f,bR,h,x,o1,o2,post)=>bif H7 ops then Cj (qu ops) st λst=>BB c ops pre st λst=>Xx c h f bR x o1 o2 st λst=>BB c ops post st K else none
 |none=>HF c id ops ops st K
def fzK {R:Type}(c:Ctx)(ts:List Nat)(st:St)(K:St->Option R):Option R:=match ts with
 |[]=>K st
 |ts=>Dt c st (ts.map .tmp) λ_ st=>K st
def K7 (ops:Array Oper)(A B:Nat):Array Oper:=ops.modify B λo=>{o with after:=o.after.push ⟨A,.data⟩}
open Classical in
def both {R:Type}(x y:Option R):Option R:=if x=y then x else none
def Xz (n:Nat)(l:List Nat):Option (List Nat×List Nat×Nat×Nat):=match l.drop (l.length-3) with
 |[m,A,B]=>bif bB A B||(aaW n A||aaW n B) then none else some (l.take m,(l.drop m).take (l.length-3-m),A,B)
 |_=>none
def XA {R:Type}(c:Ctx)(ops:Array Oper)(l:List Nat)(st:St)(K:St->Option R):Option R:=bif pS c ops l then (match qv ops.toList l with
 |some l=>BB c ops.toList l st K
 |none=>none) else none
def H8 {R:Type}(c:Ctx)(st:St)(K:St->Option R):Nat->Array Oper->List Nat->Option R
 |0,_,_=>none
 |k+1,ops,l=>bif bB l.length ops.toList.length then XA c ops l st K else (match Xz ops.toList.length l with
  |some (o1,o2,A,B)=>both (H8 c st K k (K7 ops A B) o1) (H8 c st K k (K7 ops B A) o2)
  |none=>none)
def ag0 {R:Type}(c:Ctx)(id:Nat)(ops:Array Oper)(ord:List Nat)(st:St)(K:St->Option R):Option R:=bif guarded ops.toList then
  EZ c (c.EU id) st λdc ek=>bd (Cj (qu ops.toList) dc λdc=>H8 c dc (λst=>ei st [] ((c.EU id).ex 0) some) ord.length ops ord) λvs=>mZ (Ci st ek) ((c.EU id).ex 0) vs K
 else Cj (qu ops.toList) st λst=>H8 c st K ord.length ops ord
def Ty {R:Type}(c:Ctx)(id:Nat)(ops:Array Oper)(draw:Bool)(st:St)(K:St->Option R):Option R:=fzK c (c.fz id) st λst=>bif draw then (bif !bB (c.ord id).length ops.toList.length then ag0 c id ops (c.ord id) st K else bif pS c ops (c.ord id) then (match qv ops.toList (c.ord id) with|some l=>HF c id ops.toList l st K|none=>none) else none)
 else Xy c id ops.toList st K
def pJ (c:Ctx):Code->(R:Type)->St->(Nat->St->Option R)->Option R
 | .skip,_,st,K=>K 0 st
 | .region id ops d,_,st,K=>Ty c id ops d st λst=>K 0 st
 | .seq a b,R,st,K=>pJ c a R st λe st=>bif bB e 0 then pJ c b R st K else K e st
 | .cond x a b,R,st,K=>(match aF c st x with
  | .sc (.p (.b v))=>
   bif bn (lC a) 0&&bn (lC b) 0 then
    EZ c (c.HD ((fc (.seq a b)).getD 0)) st λdc ek=>
    bd (bM v (pJ c a (Nat×List MV) dc λe st=>ei st [] ((c.HD ((fc (.seq a b)).getD 0)).ex e) λvs=>some (e,vs)) (pJ c b (Nat×List MV) dc λe st=>ei st [] ((c.HD ((fc (.seq a b)).getD 0)).ex e) λvs=>some (e,vs))) λr=>K0 (uni (lC a) (lC b)) r.1 λe=>mZ (Ci st ek) ((c.HD ((fc (.seq a b)).getD 0)).ex e) r.2 λst=>K e st
   else bM v (pJ c a R st K) (pJ c b R st K)
  |_=>none)
 | .block id b,R,st,K=>pJ c b R st λe st=>bif bB e (id+2) then K 0 st else K e st
 | .loop b,_,st,K=>
  EZ c (c.Gg ((fc b).getD 0)) st λdc ek=>ei dc [] (c.Gg ((fc b).getD 0)).outs λvs=>
   bd (Loop (λms=>mZ ek (c.Gg ((fc b).getD 0)).outs ms λst=>pJ c b (Sum (List MV) (Nat×List MV)) st λe st=>
    bif bB e 0 then ei st [] (c.Gg ((fc b).getD 0)).outs λvs=>some (.inl vs) else ei st [] ((c.Gg ((fc b).getD 0)).ex e) λvs=>some (.inr (e,vs))) vs)
    λr=>K0 (minus (lC b) [0]) r.1 λe=>mZ (Ci st ek) ((c.Gg ((fc b).getD 0)).ex e) r.2 λst=>K e st
 | .exit id,_,st,K=>K (id+2) st
 | .ret,_,st,K=>K 1 st
 |_,_,_,_=>none
def H9 {R:Type}(c:Ctx):List Nat->Nat->List MV->(Fr->List MV->Option R)->Option R
 |[],_,ms,K=>K [] ms
 |t::ts,n,ms,K=>match c.tv t with
  |some I=>gC ms λm r=>zR I m λs=>H9 c ts (n+1) r λfr ms=>K ((n,s)::fr) ms
  |none=>none
def RH {R:Type}:List (List Kd)->Nat->List MV->(Fr->Option R)->Option R
 |[],_,ms,K=>gN ms (K [])
 |ks::r,n,ms,K=>gC ms λm ms=>gP m λcs=>uG ks cs λcs=>RH r (n+1) ms λfr=>K ((n,.zM cs)::fr)
def Pu {R:Type}(c:Ctx)(st:St):List ResultVar->(List MV->Option R)->Option R
 |[],K=>K []
 |r::rs,K=>
  let go (s:Slot):Option R:=match s with
   | .sc (.p m)=>Pu c st rs λms=>K (m::ms)
   |_=>none
  match r with
  | .tmp t=>go (al st.fr t)
  | .cell a t=>match c.tv t,al st.fr a with
   |some I,.box cs=>bif eI cs||zP a then none else jz I cs 0 λs=>go s
   |_,_=>none
def RI {R:Type}(c:Ctx)(st:St)(fresh:Option Nat):List ResultVar->(List MV->Option R)->Option R
 |[],K=>K []
 |r::rs,K=>
  let go (s:Slot):Option R:=match fresh with
   |some ty=>(match s with
    | .sc (.own f)=>(match aE st.aM f with|some o=>bif o.dW||!bB o.ty ty then none else Pu c st rs λms=>K (.fresh o.xs::ms)|none=>none)
    | .sc .nil=>Pu c st rs λms=>K (.fresh []::ms)
    |_=>none)
   |none=>mH st s λm st=>RI c st fresh rs λms=>K (m::ms)
  match r with
  | .tmp t=>go (al st.fr t)
  | .cell a t=>match c.tv t,al st.fr a with
   |some I,.box cs=>bif eI cs||zP a then none else jz I cs 0 λs=>go s
   |_,_=>none
def U0 {R:Type}(c:Ctx)(st:St):List ResultVar->(List MV->St->Option R)->Option R
 |[],K=>K [] st
 |r::rs,K=>(match r with
  | .tmp t=>mH st (al st.fr t) λm st=>U0 c st rs λms st=>K (m::ms) st
  | .cell a t=>(match c.tv t,al st.fr a with
   |some I,.box cs=>bif eI cs||zP a then none else jz I cs 0 λs=>mH st s λm st=>U0 c st rs λms st=>K (m::ms) st
   |_,_=>none))
def ag1:List MV->MV
 |[m]=>m
 |ms=> .bW ms
def Mi (c:Ctx)(bR:List (List Kd))(pos:Nat)(ks:List LK)(f:Func)(args:List MV):Option MV:=match f.body,args[pos]? with
 |some b,some (.cell (.func off ls))=>bif !ik c ks||!aaW pos 999 then none else
  H9 c f.params.toList 0 (args.set pos (.rp [])) λfr ms=>RH bR f.params.size ms λpT=>
   (match app fr pT with
   |some fr=>cH ⟨[],[],[],[]⟩ ks ls λcs rest A8=>gN rest<| pJ c b MV ⟨[pos],[],(1000000+off *1000+pos,.box cs)::fr,A8.aM⟩ λe st=>
     bif aaW e 1 then U0 c st f.results.toList λms st=>(match al st.fr (1000000+off *1000+pos) with
      | .box cs=>bif eI cs then none else jX st [] ks cs λouts _=>some (.dx (ag1 ms) outs)
      |_=>none) else none
   |none=>none)
 |_,_=>none
def XB (X:Code->St->(Nat->St->Option MV)->Option MV)(c:Ctx)(bR:List (List Kd))(fresh:Option Nat)(f:Func)(args:List MV):Option MV:=match f.body with
 |some b=>H9 c f.params.toList 0 args λfr ms=>RH bR f.params.size ms λpT=>
  match app fr pT with
  |some fr=>X b ⟨[],[],fr,[]⟩ λe st=>bif aaW e 1 then RI c st fresh f.results.toList λms=>(match ms with|[m]=>some m|ms=>some (.bW ms)) else none
  |none=>none
 |none=>none
def Mj (c:Ctx)(bR:List (List Kd))(fresh:Option Nat)(f:Func)(args:List MV):Option MV:=XB (λb st K=>pJ c b MV st K) c bR fresh f args
end
end Dn
/-
  What abstract values and slots say of Go's memory. Conditions: none.
-/
namespace Dn
open Go
theorem gj (w:World)(o:Obj):(w.alloc o).heap[w.heap.size]? =some o:=by show (w.heap.push o)[w.heap.size]? =some o;simp
theorem rS (w:World)(o:Obj)(i:Nat)(h:i<w.heap.size):(w.alloc o).heap[i]? =w.heap[i]? :=by show (w.heap.push o)[i]? =w.heap[i]?;rw [Array.getElem?_push,if_neg (Nat.ne_of_lt h)]
def MV.one:MV->Bool
 | .h _| .agg _| .bW _| .fresh _| .cell _| .dx _ _=>false
 |_=>true
abbrev Ph:=Nat->Nat->Option Value
section
variable (key:Nat->Nat) (φ:Ph)
mutual
inductive gk:List Value->MV->Prop
 |b (x:Bool):gk [.bool x] (.b x)
 |i (k:IntKind) (n:Int):gk [.int k n] (.i k n)
 |s (bs:ByteArray):gk [.string bs] (.s bs.data.toList)
 |h (x:kv):gk (x.l.map λb=> .int .u8 (b.toNat:Int)) (.h x)
 |raw (v:Value):v.oneCell'=true->gk [v] (.raw v)
 |list (a:Option Addr) (cap:Nat) (xs:List MV) (aR off Dk:Nat) (f:Nat->List Value): xs.length<=cap->(0<xs.length->a=some ⟨aR,off,none⟩)->(∀i,i<xs.length->(f i).length=Dk)-> (∀i j,i<xs.length->j<Dk->φ aR (off+i *Dk+j)=(f i)[j]?)-> (∀(i:Nat) (h:i<xs.length),gk (f i) xs[i])->gk [.slice a xs.length cap] (.list xs)
 |agg (vs:List Value) (ms:List MV):fe vs ms->gk vs (.agg ms)
 |func (f k:Nat) (cap:Array Value) (ms:List MV):key f=k->fe cap.toList ms->(∀m∈ms,m.one=true)->gk [.func (.func f) #[] cap] (.func k ms)
 |rp (aR off:Nat) (vs:List Value) (ms:List MV):fe vs ms->(∀j,j<vs.length->φ aR (off+j)=vs[j]?)->gk [.pointer (some ⟨aR,off,none⟩)] (.rp ms)
 |clip (a:Option Addr) (xs:List MV):gk [.slice a xs.length xs.length] (.list xs)->gk [.slice a xs.length xs.length] (.clip xs)
inductive fe:List Value->List MV->Prop
 |nil:fe [] []
 |cons (v:List Value) (m:MV) (vs:List Value) (ms:List MV):gk v m->fe vs ms->fe (v++vs) (m::ms)
end
end
def fY (φ φ':Ph):Prop:= ∀b o v,φ b o=some v->φ' b o=some v
theorem fY.refl (φ:Ph):fY φ φ:=λ_ _ _ h=>h
theorem fY.xn {φ φ':Ph}(h:fY φ φ'){b j:Nat}{cs:List Value}(e:φ b j=cs[j]?)(hj:j<cs.length):φ' b j=cs[j]? :=by rw [IN hj] at e⊢;exact h _ _ _ e
theorem fY.trans {φ φ' φ'':Ph}(h:fY φ φ') (h':fY φ' φ''):fY φ φ'':=λb o v e=>h' b o v (h b o v e)
section
variable {key:Nat->Nat} {φ φ':Ph}(hle:fY φ φ')
include hle
theorem NJ {b o:Nat}{vs:List Value}{j:Nat}(hj:j<vs.length)(h:φ b o=vs[j]?):φ' b o=vs[j]? :=by rw [IN hj] at h⊢;exact hle _ _ _ h
mutual
theorem gk.mono {vs:List Value}{m:MV}:gk key φ vs m->gk key φ' vs m
 | .b x=> .b x
 | .i k n=> .i k n
 | .s bs=> .s bs
 | .h x=> .h x
 | .raw v h=> .raw v h
 | .list a cap xs aR off Dk f h1 h2 h3 h4 h5=> .list a cap xs aR off Dk f h1 h2 h3 (λi j hi hj=>NJ hle (by rw [h3 i hi];exact hj) (h4 i j hi hj)) (λi hi=>(h5 i hi).mono)
 | .agg vs ms h=> .agg vs ms h.mono
 | .func f k cap ms h1 h2 h3=> .func f k cap ms h1 h2.mono h3
 | .rp aR off vs ms h1 h2=> .rp aR off vs ms h1.mono (λj hj=>NJ hle hj (h2 j hj))
 | .clip a xs h=> .clip a xs h.mono
theorem fe.mono {vs:List Value}{ms:List MV}:fe key φ vs ms->fe key φ' vs ms
 | .nil=> .nil
 | .cons v m vs ms h1 h2=> .cons v m vs ms h1.mono h2.mono
end
end
section
variable {key:Nat->Nat} {φ:Ph}
mutual
theorem gk.cells {vs:List Value}{m:MV}:gk key φ vs m-> ∀v∈vs,v.oneCell'=true
 | .b x=>by simp [No]
 | .i k n=>by simp [No]
 | .s bs=>by simp [No]
 | .h x=>by intro v hv;obtain ⟨b,_,rfl⟩:=acQ.1 hv;rfl
 | .raw v h=>by simpa using h
 | .list .. =>by simp [No]
 | .agg vs ms h=>h.cells
 | .func .. =>by simp [No]
 | .rp .. =>by simp [No]
 | .clip .. =>by simp [No]
theorem fe.cells {vs:List Value}{ms:List MV}:fe key φ vs ms-> ∀v∈vs,v.oneCell'=true
 | .nil=>by simp
 | .cons v m vs ms h1 h2=>by
  intro x hx;rcases adY.1 hx with hx|hx
  ·exact h1.cells x hx
  ·exact h2.cells x hx
end
end
section
variable {key:Nat->Nat} {φ:Ph}
mutual
theorem gk.width {vs:List Value}{m:MV}:gk key φ vs m->vs.length=m.w
 | .b x=>by simp [MV.w]
 | .i k n=>by simp [MV.w]
 | .s bs=>by simp [MV.w]
 | .h x=>by simp [MV.w,x.h]
 | .raw v h=>by simp [MV.w]
 | .list .. =>by simp [MV.w]
 | .agg vs ms h=>by rw [h.width];simp [MV.w]
 | .func .. =>by simp [MV.w]
 | .rp .. =>by simp [MV.w]
 | .clip .. =>by simp [MV.w]
theorem fe.width {vs:List Value}{ms:List MV}:fe key φ vs ms->vs.length=MV.wl ms
 | .nil=>by simp [MV.wl]
 | .cons v m vs ms h1 h2=>by simp [MV.wl,h1.width,h2.width]
end
end
theorem gk.one {key:Nat->Nat} {φ:Ph}{vs:List Value}{m:MV}(h:gk key φ vs m)(hm:m.one=true): ∃v,vs=[v]/\v.oneCell'=true:=by have hc:=h.cells;cases h<;>simp [MV.one] at hm<;>exact ⟨_,rfl,hc _ (by simp)⟩
def cV (key:Nat->Nat) (φ:Ph)(v:Value):MV->Prop
 | .h x=>v= .agg (x.l.map λb=>aeM .u8 (b.toNat:Int)).toArray
 | .agg ms=> ∃arr,v= .agg arr/\fe key φ arr.toList ms
 |m=>m.one=true/\gk key φ [v] m
theorem cV.mono {key:Nat->Nat} {φ φ':Ph}(hle:fY φ φ'){v:Value}{m:MV}(h:cV key φ v m):cV key φ' v m:=by cases m<;>simp only [cV] at h⊢ <;>first|exact h|exact ⟨h.1,h.2.mono hle⟩|(obtain ⟨arr,h1,h2⟩:=h;exact ⟨arr,h1,h2.mono hle⟩)
structure Env where
 key:Nat->Nat
 φ:Ph
 E:Nat->Value
 B:Nat->Nat
 m:List (Nat×ox)
def a8 (x:kv):List Value:=x.l.map λb=>aeM .u8 (b.toNat:Int)
theorem cS (x:kv):(a8 x).length=32:=by simp [a8,x.h]
def aJ (e:Env)(vs:List Value):aD->Prop
 | .un=> ∃v,vs=[v]/\v.oneCell'=true
 | .p x=>x.one=true/\gk e.key e.φ vs x
 | .hs x=>vs=a8 x
 | .nil=>vs=[.slice none 0 0]
 | .mp _ _=>False
 | .own f=> ∃v,vs=[v]/\v.oneCell'=true/\(∀o,aE e.m f=some o->v=e.E f)
def aw (e:Env):List Value->List aD->Prop
 |vs,[]=>vs=[]
 |vs,l::ls=> ∃v r,vs=v++r/\aJ e v l/\aw e r ls
def sP:aD->Bool
 | .p _| .hs _=>true
 |_=>false
def gZ:List aD->Bool
 |[]=>true
 |l::r=>sP l&&gZ r
def Ia (st:Bool)(x:MV)(cs:List aD):Prop:=(∃ms,bC cs=some ms/\vA st ms=some x)/\ ∀m,aD.p m∈cs->m.one=true
def B0:Slot->Bool
 | .sc l=>sP l
 | .ag cs=>gZ cs
 |_=>false
mutual
def aa (e:Env)(v:Value):Slot->Prop
 | .skip=>v=undef
 | .sc l=>match l with
  | .un=>True
  | .hs x=>v= .agg (a8 x).toArray
  |l=>aJ e [v] l
 | .ag cs=> ∃arr,v= .agg arr/\aw e arr.toList cs
 | .tg cs=> ∃arr,v= .tuple arr/\aw e arr.toList cs
 | .bW vs=> ∃arr,v= .tuple arr/\kz e arr.toList vs
 | .box _=>False
 | .zM cs=> ∃aR o vs,v= .pointer (some ⟨aR,o,none⟩)/\aw e vs cs/\gZ cs=true/\(∀j,j<vs.length->e.φ aR (o+j)=vs[j]?)
 | .ptr r o=>v= .pointer (some ⟨e.B r,o,none⟩)
 | .zN r=>v= .map (some (e.B r))
 | .rp cs off=> ∃aR o vs,v= .pointer (some ⟨aR,o+off,none⟩)/\aw e vs cs/\gZ cs=true/\(∀j,j<vs.length->e.φ aR (o+j)=vs[j]?)
 | .hp r o i=>v= .pointer (some ⟨e.B r,o+i,none⟩)/\i<32
 | .ep f i off st cs=> ∀o,aE e.m f=some o-> ∃aR cap,e.E f= .slice (some ⟨aR,0,none⟩) o.xs.length cap/\(∃x,o.xs[i]? =some x/\Ia st x cs)/\ v= .pointer (some ⟨aR,i *zQ cs+off,none⟩)
def kz (e:Env):List Value->List Slot->Prop
 |vs,[]=>vs=[]
 |vs,s::ss=> ∃v r,vs=v::r/\aa e v s/\B0 s=true/\kz e r ss
end
def XC:aD->List Value->Bool
 | .p (.b x),[.bool y]=>x==y
 | .p (.i k n),[.int k' n']=>decide (k=k')&&decide (n=n')
 | .p (.s l),[.string s]=>decide (l=s.data.toList)
 | .p (.raw v),[w]=>match v,w with
  | .nilFunc,.nilFunc=>true
  | .nilIface,.nilIface=>true
  | .pointer none,.pointer none=>true
  |_,_=>false
 | .nil,[.slice none 0 0]=>true
 | .un,[v]=>v.oneCell'
 | .hs x,vs=>(vs.length==32)&&(vs.zip x.l).all λp=>match p.1 with| .int .u8 n=>decide (n=(p.2.toNat:Int))|_=>false
 |_,_=>false
def uJ:List aD->List Value->Bool
 |[],vs=>vs.isEmpty
 |l::ls,vs=>XC l (vs.take l.w)&&uJ ls (vs.drop l.w)&&decide (l.w<=vs.length)
end Dn
/-
  How an abstract state stands to a frame and a memory; laws of frames and leaves. Conditions: none.
-/
namespace Dn
open Go
def b8:Fr->Nat->Slot->Fr
 |[],t,v=>[(t,v)]
 |(k,s)::r,t,v=>bif bB k t then (k,v)::r else (k,s)::b8 r t v
def n9 (ds:List Nat):Fr->Fr
 |[]=>[]
 |(k,s)::r=>bif dm s||bn ds k then n9 ds r else (k,s)::n9 ds r
def oO (ks:List Nat):Fr->Fr
 |[]=>[]
 |(k,s)::r=>bif bn ks k&&!dm s then (k,s)::oO ks r else oO ks r
def bN:List (Nat×ox)->Nat->ox->List (Nat×ox)
 |[],t,v=>[(t,v)]
 |(k,s)::r,t,v=>bif bB k t then (k,v)::r else (k,s)::bN r t v
def NK (f:Nat):aD->aD
 | .own g=>bif bB g f then .un else .own g
 |l=>l
def A9 (f:Nat):Slot->Slot
 | .sc l=> .sc (NK f l)
 | .ag cs=> .ag (cs.map (NK f))
 | .tg cs=> .tg (cs.map (NK f))
 | .box cs=> .box (cs.map (NK f))
 | .ep g i o b cs=>bif bB g f then .sc .un else .ep g i o b cs
 |s=>s
def lp (f:Nat)(r:Fr):Fr:=r.map λp=>(p.1,A9 f p.2)
def zU (f:Nat)(r:Fr):Fr:=r.map λp=>(p.1,match p.2 with
 | .ep g i o b cs=>bif bB g f then .sc .un else .ep g i o b cs
 |s=>s)
def Re (ps:List Nat):aD->aD
 | .own g=>bif bn ps g then .own g else .un
 |l=>l
def HG (ps:List Nat):Slot->Slot
 | .sc l=> .sc (Re ps l)
 | .ag cs=> .ag (cs.map (Re ps))
 | .tg cs=> .tg (cs.map (Re ps))
 | .box cs=> .box (cs.map (Re ps))
 |s=>s
def RJ (ps:List Nat)(r:Fr):Fr:=r.map λp=>(p.1,HG ps p.2)
def sQ (ks fs qs:List Nat):List (Nat×ox)->List (Nat×ox)
 |[]=>[]
 |(k,o)::r=>bif bn ks k then (bif bn fs k&&!bn qs k then (k,⟨o.ty,true,o.xs⟩) else (k,o))::sQ ks fs qs r else sQ ks fs qs r
section
variable {R:Type}
theorem force_eq (s:Slot)(K:Slot->Option R):force s K=K s:=by cases s<;>rfl
theorem ma (r:Fr)(t:Nat)(s:Slot)(K:Fr->Option R):K1 r t s K=K (b8 r t s):=by
 induction r generalizing K with
 |nil=>rfl
 |cons p r ih=>obtain ⟨k,x⟩:=p;simp only [K1,b8];cases bB k t<;>simp [ih]
theorem Gi (ds:List Nat)(r:Fr)(K:Fr->Option R):wh ds r K=K (n9 ds r):=by
 induction r generalizing K with
 |nil=>rfl
 |cons p r ih=>obtain ⟨k,x⟩:=p;simp only [wh,n9];cases dm x||bn ds k<;>simp [ih]
theorem aa7 (ks:List Nat)(r:Fr)(K:Fr->Option R):pick ks r K=K (oO ks r):=by
 induction r generalizing K with
 |nil=>rfl
 |cons p r ih=>obtain ⟨k,x⟩:=p;simp only [pick,oO];cases bn ks k&&!dm x<;>simp [ih]
theorem oP (r:List (Nat×ox))(t:Nat)(s:ox)(K:List (Nat×ox)->Option R):Pk r t s K=K (bN r t s):=by
 induction r generalizing K with
 |nil=>rfl
 |cons p r ih=>obtain ⟨k,x⟩:=p;simp only [Pk,bN];cases bB k t<;>simp [ih]
theorem Ck (f:Nat)(cs:List aD)(K:List aD->Option R):uH f cs K=K (cs.map (NK f)):=by
 induction cs generalizing K with
 |nil=>rfl
 |cons l r ih=>cases l<;>simp only [uH,IT,NK,ih];rename_i g;cases bB g f<;>rfl
theorem XD (f:Nat)(s:Slot)(K:Slot->Option R):HY f s K=K (A9 f s):=by
 cases s with
 |sc l=>cases l<;>simp only [HY,A9,NK];rename_i g;cases bB g f<;>rfl
 |ag cs=>simp only [HY,A9,Ck]
 |tg cs=>simp only [HY,A9,Ck]
 |box cs=>simp only [HY,A9,Ck]
 |ep g i o b cs=>simp only [HY,A9];cases bB g f<;>rfl
 |_=>rfl
theorem XE (f:Nat)(r:Fr)(K:Fr->Option R):kFr f r K=K (lp f r):=by
 induction r generalizing K with
 |nil=>rfl
 |cons p r ih=>obtain ⟨k,x⟩:=p;simp only [kFr,XD,ih,lp,IT]
theorem aeu (f:Nat)(r:Fr)(K:Fr->Option R):kEp f r K=K (zU f r):=by
 induction r generalizing K with
 |nil=>rfl
 |cons p r ih=>obtain ⟨k,x⟩:=p;cases x<;>simp only [kEp,ih,zU,IT];rename_i g i o b cs;cases bB g f<;>rfl
theorem Cl (f:List Nat)(cs:List aD)(K:List aD->Option R):uI f cs K=K (cs.map (Re f)):=by
 induction cs generalizing K with
 |nil=>rfl
 |cons l r ih=>cases l<;>simp only [uI,IT,Re,ih];rename_i g;cases bn f g<;>rfl
theorem XF (f:List Nat)(s:Slot)(K:Slot->Option R):Mf f s K=K (HG f s):=by
 cases s with
 |sc l=>cases l<;>simp only [Mf,HG,Re];rename_i g;cases bn f g<;>rfl
 |ag cs=>simp only [Mf,HG,Cl]
 |tg cs=>simp only [Mf,HG,Cl]
 |box cs=>simp only [Mf,HG,Cl]
 |_=>rfl
theorem aev (f:List Nat)(r:Fr)(K:Fr->Option R):nFr f r K=K (RJ f r):=by
 induction r generalizing K with
 |nil=>rfl
 |cons p r ih=>obtain ⟨k,x⟩:=p;simp only [nFr,XF,ih,RJ,IT]
theorem XG (ks fs qs:List Nat)(r:List (Nat×ox))(K:List (Nat×ox)->Option R):Mg ks fs qs r K=K (sQ ks fs qs r):=by
 induction r generalizing K with
 |nil=>rfl
 |cons p r ih=>
  obtain ⟨k,x⟩:=p;simp only [Mg,sQ];cases bn ks k
  ·simp [ih]
  ·simp only [cond_true,ih];cases bn fs k&&!bn qs k<;>rfl
theorem xp {α:Type}(x y:List α):app x y=some (x++y):=by
 induction x with
 |nil=>rfl
 |cons a r ih=>simp [app,ih]
end
theorem eY (a b:Nat):bB a b=decide (a=b):=by
 by_cases h:a=b
 ·subst h;simp
 ·simp only [h,decide_false];exact Bool.eq_false_iff.2 (λe=>h (sh e))
theorem bk (l:List Nat)(t:Nat):bn l t=true↔t∈l:=by
 induction l with
 |nil=>simp [bn]
 |cons k r ih=>
  simp only [bn,eY,aa0];by_cases h:k=t
  ·simp [h]
  ·simp only [h,decide_false,cond_false,ih];exact ⟨.inr,λh'=>h'.resolve_left (λe=>h e.symm)⟩
theorem bL (r:Fr)(d t:Nat)(s:Slot):al (b8 r d s) t=if t=d then s else al r t:=by
 induction r with
 |nil=>simp only [b8,al,eY];by_cases h:t=d<;>simp [h,Ne.symm]<;>(intro e;exact absurd e.symm h)
 |cons p r ih=>
  obtain ⟨k,x⟩:=p;simp only [b8,eY];by_cases hk:k=d
  ·subst hk;simp only [decide_true,cond_true,al,eY];by_cases h:k=t
   ·simp [h]
   ·have h': ¬t=k:=λe=>h e.symm;simp [h,h']
  ·simp only [hk,decide_false,cond_false,al,eY,ih];by_cases h:k=t
   ·subst h;simp [hk]
   ·simp [h]
theorem bg (r:List (Nat×ox))(d t:Nat)(s:ox):aE (bN r d s) t=if t=d then some s else aE r t:=by
 induction r with
 |nil=>simp only [bN,aE,eY];by_cases h:t=d<;>simp [h,Ne.symm]<;>(intro e;exact absurd e.symm h)
 |cons p r ih=>
  obtain ⟨k,x⟩:=p;simp only [bN,eY];by_cases hk:k=d
  ·subst hk;simp only [decide_true,cond_true,aE,eY];by_cases h:k=t
   ·simp [h]
   ·have h': ¬t=k:=λe=>h e.symm;simp [h,h']
  ·simp only [hk,decide_false,cond_false,aE,eY,ih];by_cases h:k=t
   ·subst h;simp [hk]
   ·simp [h]
theorem Ic (g:Slot->Slot)(hg:g (.sc .un)= .sc .un)(r:Fr)(t:Nat):al (r.map λp=>(p.1,g p.2)) t=g (al r t):=by
 induction r with
 |nil=>simp [al,hg]
 |cons p r ih=>obtain ⟨k,x⟩:=p;simp only [IT,al,eY];by_cases h:k=t<;>simp [h,ih]
theorem gz (f:Nat)(r:Fr)(t:Nat):al (lp f r) t=A9 f (al r t):=Ic (A9 f) rfl r t
theorem Mk (f:List Nat)(r:Fr)(t:Nat):al (RJ f r) t=HG f (al r t):=Ic (HG f) rfl r t
def aK (r:Fr):List Nat:=r.map Prod.fst
theorem sH (r:Fr)(t:Nat)(h:t∉aK r):al r t= .sc .un:=by
 induction r with
 |nil=>rfl
 |cons p r ih=>obtain ⟨k,x⟩:=p;simp only [aK,IT,aa0,not_or] at h;have h': ¬k=t:=λe=>h.1 e.symm;simp only [al,eY,h',decide_false,cond_false];exact ih h.2
theorem Dy (ds:List Nat)(r:Fr):List.Sublist (aK (n9 ds r)) (aK r):=by
 induction r with
 |nil=>simp [aK,n9]
 |cons p r ih=>
  obtain ⟨k,x⟩:=p;simp only [n9];cases dm x||bn ds k
  ·simpa [aK] using ih
  ·exact (List.Sublist.cons _ ih)
theorem xq (ds:List Nat)(r:Fr):List.Sublist (aK (oO ds r)) (aK r):=by
 induction r with
 |nil=>simp [aK,oO]
 |cons p r ih=>
  obtain ⟨k,x⟩:=p;simp only [oO];cases bn ds k&&!dm x
  ·exact (List.Sublist.cons _ ih)
  ·simpa [aK] using ih
theorem Ig (ds:List Nat)(r:Fr)(hn:(aK r).Nodup)(t:Nat):al (n9 ds r) t=if dm (al r t)||bn ds t then .sc .un else al r t:=by
 induction r with
 |nil=>simp [al,n9]
 |cons p r ih=>
  obtain ⟨k,x⟩:=p;simp only [aK,IT,ae8] at hn;have ih:=ih hn.2;simp only [n9];by_cases hk:k=t
  ·subst hk;cases hb:dm x||bn ds k
   ·simp [al,eY,hb]
   ·simp only [cond_true,al,eY,decide_true,hb,if_true];refine sH _ _ (λhm=>hn.1 ((Dy ds r).subset hm))
  ·cases hb:dm x||bn ds k
   ·simp [al,eY,hk,ih]
   ·simp [al,eY,hk,ih]
theorem Cm (ds:List Nat)(r:Fr)(hn:(aK r).Nodup)(t:Nat):al (oO ds r) t=if bn ds t&&!dm (al r t) then al r t else .sc .un:=by
 induction r with
 |nil=>simp [al,oO]
 |cons p r ih=>
  obtain ⟨k,x⟩:=p;simp only [aK,IT,ae8] at hn;have ih:=ih hn.2;simp only [oO];by_cases hk:k=t
  ·subst hk;cases hb:bn ds k&&!dm x
   ·simp only [cond_false,al,eY,decide_true,cond_true,hb];exact sH _ _ (λhm=>hn.1 ((xq ds r).subset hm))
   ·simp [al,eY,hb]
  ·cases hb:bn ds k&&!dm x<;>simp [al,eY,hk,ih]
theorem zV (r s:Fr)(t:Nat):al (r++s) t=if t∈aK r then al r t else al s t:=by
 induction r with
 |nil=>simp [aK]
 |cons p r ih=>
  obtain ⟨k,x⟩:=p;simp only [List.cons_append,al,eY,aK,IT,aa0];by_cases h:k=t
  ·simp [h]
  ·have h': ¬t=k:=λe=>h e.symm;simp only [h,h',decide_false,cond_false,ih,false_or];rfl
end Dn
/-
  Laws of leaves and slots: offsets, and what changes elsewhere. Conditions: none.
-/
namespace Dn
open Go
section
variable {e e':Env}
theorem aJ.width {vs:List Value}{l:aD}(h:aJ e vs l):vs.length=l.w:=by
 cases l with
 |un=>obtain ⟨v,rfl,_⟩:=h;rfl
 |p m=>obtain ⟨v,rfl,_⟩:=h.2.one h.1;rfl
 |hs x=>cases h;simp [a8,x.h,aD.w]
 |nil=>cases h;rfl
 |mp s es=>exact h.elim
 |own f=>obtain ⟨v,rfl,_⟩:=h;rfl
theorem aJ.cells {vs:List Value}{l:aD}(h:aJ e vs l): ∀v∈vs,v.oneCell'=true:=by
 cases l with
 |un=>obtain ⟨v,rfl,hv⟩:=h;simpa using hv
 |p m=>exact h.2.cells
 |hs x=>cases h;intro v hv;obtain ⟨b,_,rfl⟩:=acQ.1 hv;rfl
 |nil=>cases h;simp [No]
 |mp s es=>exact h.elim
 |own f=>obtain ⟨v,rfl,hv,_⟩:=h;simpa using hv
theorem aw.width {cs:List aD}: ∀{vs:List Value},aw e vs cs->vs.length=zQ cs:=by
 induction cs with
 |nil=>intro vs h;cases h;rfl
 |cons l r ih=>intro vs h;obtain ⟨v,w,rfl,h1,h2⟩:=h;simp [zQ,h1.width,ih h2]
theorem aw.cells {cs:List aD}: ∀{vs:List Value},aw e vs cs-> ∀v∈vs,v.oneCell'=true:=by
 induction cs with
 |nil=>intro vs h;cases h;simp
 |cons l r ih=>
  intro vs h v hv;obtain ⟨a,w,rfl,h1,h2⟩:=h;rcases adY.1 hv with hv|hv
  ·exact h1.cells v hv
  ·exact ih h2 v hv
theorem aw.append {cs ds:List aD}: ∀{vs ws:List Value},aw e vs cs->aw e ws ds->aw e (vs++ws) (cs++ds):=by
 induction cs with
 |nil=>intro vs ws h h';cases h;simpa using h'
 |cons l r ih=>intro vs ws h h';obtain ⟨v,w,rfl,h1,h2⟩:=h;exact ⟨v,w++ws,by simp,h1,ih h2 h'⟩
theorem zW {cs:List aD}: ∀{off:Nat} {ds:List aD} {vs:List Value},cut cs off=some ds->aw e vs cs-> ∃v1 v2,vs=v1++v2/\v1.length=off/\aw e v2 ds:=by
 induction cs with
 |nil=>
  intro off ds vs h hr;cases off with
  |zero=>simp only [cut,AT] at h;subst h;exact ⟨[],vs,rfl,rfl,hr⟩
  |succ n=>simp [cut] at h
 |cons l r ih=>
  intro off ds vs h hr;cases off with
  |zero=>simp only [cut,AT] at h;subst h;exact ⟨[],vs,rfl,rfl,hr⟩
  |succ n=>
   simp only [cut] at h;cases hb:aaW l.w (n+1) with
   |false=>simp [hb] at h
   |true=>simp only [hb,cond_true] at h;have hle:=aba hb;obtain ⟨v,w,rfl,h1,h2⟩:=hr;obtain ⟨v1,v2,rfl,hl,h3⟩:=ih h h2;exact ⟨v++v1,v2,by simp,by simp [h1.width,hl];omega,h3⟩
theorem U1 {cs:List aD}: ∀{n:Nat} {ds:List aD} {vs:List Value},Pl cs n=some ds->aw e vs cs-> ∃v1 v2,vs=v1++v2/\v1.length=n/\aw e v1 ds:=by
 induction cs with
 |nil=>
  intro n ds vs h hr;cases n with
  |zero=>simp only [Pl,AT] at h;subst h;exact ⟨[],vs,rfl,rfl,rfl⟩
  |succ n=>simp [Pl] at h
 |cons l r ih=>
  intro n ds vs h hr;cases n with
  |zero=>simp only [Pl,AT] at h;subst h;exact ⟨[],vs,rfl,rfl,rfl⟩
  |succ n=>
   simp only [Pl] at h;cases hb:aaW l.w (n+1) with
   |false=>simp [hb] at h
   |true=>
    simp only [hb,cond_true] at h;have hle:=aba hb;obtain ⟨v,w,rfl,h1,h2⟩:=hr;cases hu:Pl r (n+1-l.w) with
    |none=>simp [hu] at h
    |some b=>simp only [hu,AT] at h;subst h;obtain ⟨v1,v2,rfl,hl,h3⟩:=ih hu h2;exact ⟨v++v1,v2,by simp,by simp [h1.width,hl];omega,v,v1,rfl,h1,h3⟩
theorem Ml {cs:List aD}{off n:Nat}{ds:List aD}{vs:List Value}(h:part cs off n=some ds)(hr:aw e vs cs): ∃v1 v2 v3,vs=v1++v2++v3/\v1.length=off/\v2.length=n/\aw e v2 ds:=by
 unfold part at h;cases hc:cut cs off with
 |none=>simp [hc] at h
 |some a=>simp only [hc] at h;obtain ⟨v1,v2,rfl,h1,h2⟩:=zW hc hr;obtain ⟨v3,v4,rfl,h3,h4⟩:=U1 h h2;exact ⟨v1,v3,v4,by simp,h1,h3,h4⟩
theorem Mm {ls:List aD}: ∀{cs ds:List aD} {vs ws:List Value},over ls cs=some ds->aw e vs cs->aw e ws ls-> ∃v1 v2,vs=v1++v2/\v1.length=ws.length/\aw e (ws++v2) ds:=by
 induction ls with
 |nil=>intro cs ds vs ws h hr hw;simp only [over,AT] at h;subst h;cases hw;exact ⟨[],vs,rfl,rfl,hr⟩
 |cons l r ih=>
  intro cs ds vs ws h hr hw;cases cs with
  |nil=>simp [over] at h
  |cons c cs=>
   simp only [over] at h;cases hb:bB l.w c.w with
   |false=>simp [hb] at h
   |true=>
    simp only [hb,cond_true] at h;have hww:=sh hb;cases ho:over r cs with
    |none=>simp [ho] at h
    |some q=>simp only [ho,AT] at h;subst h;obtain ⟨v,w,rfl,h1,h2⟩:=hr;obtain ⟨a,b,rfl,h3,h4⟩:=hw;obtain ⟨v1,v2,rfl,hl,h5⟩:=ih ho h2 h4;exact ⟨v++v1,v2,by simp,by simp [h1.width,h3.width,hl,hww],a,b++v2,by simp,h3,h5⟩
theorem xr {cs:List aD}: ∀{off:Nat} {ls ds:List aD} {vs ws:List Value},putAt cs off ls=some ds->aw e vs cs->aw e ws ls-> ∃v1 v2 v3,vs=v1++v2++v3/\v1.length=off/\v2.length=ws.length/\aw e (v1++ws++v3) ds:=by
 induction cs with
 |nil=>
  intro off ls ds vs ws h hr hw;cases off with
  |zero=>simp only [putAt] at h;obtain ⟨v1,v2,rfl,h1,h2⟩:=Mm h hr hw;exact ⟨[],v1,v2,by simp,rfl,h1,by simpa using h2⟩
  |succ n=>simp [putAt] at h
 |cons l r ih=>
  intro off ls ds vs ws h hr hw;cases off with
  |zero=>simp only [putAt] at h;obtain ⟨v1,v2,rfl,h1,h2⟩:=Mm h hr hw;exact ⟨[],v1,v2,by simp,rfl,h1,by simpa using h2⟩
  |succ n=>
   simp only [putAt] at h;cases hb:aaW l.w (n+1) with
   |false=>simp [hb] at h
   |true=>
    simp only [hb,cond_true] at h;have hle:=aba hb;obtain ⟨v,w,rfl,h1,h2⟩:=hr;cases hu:putAt r (n+1-l.w) ls with
    |none=>simp [hu] at h
    |some b=>simp only [hu,AT] at h;subst h;obtain ⟨v1,v2,v3,rfl,hl,zm,h3⟩:=ih hu h2 hw;exact ⟨v++v1,v2,v3,by simp,by simp [h1.width,hl];omega,zm,v,v1++ws++v3,by simp,h1,h3⟩
structure jQ (S T:Nat->Prop) (e e':Env):Prop where
 key:e'.key=e.key
 φ:fY e.φ e'.φ
 B: ∀r,T r->e'.B r=e.B r
 gG: ∀f o',aE e'.m f=some o'->S f-> ∃o,aE e.m f=some o/\e'.E f=e.E f/\o'.xs=o.xs
def je (S:Nat->Prop)(l:aD):Prop:= ∀f,l= .own f->S f
def fg (S T:Nat->Prop):Slot->Prop
 | .ptr r _=>T r
 | .zN r=>T r
 | .hp r _ _=>T r
 | .sc l=>je S l
 | .ag cs=> ∀l∈cs,je S l
 | .tg cs=> ∀l∈cs,je S l
 | .ep g _ _ _ _=>S g
 |_=>True
theorem aJ.on {S T:Nat->Prop}(h:jQ S T e e'){vs:List Value}{l:aD}(hl:je S l)(hr:aJ e vs l):aJ e' vs l:=by
 cases l with
 |un=>exact hr
 |p m=>exact ⟨hr.1,by have:=hr.2.mono h.φ;rw [<-h.key] at this;exact this⟩
 |hs x=>exact hr
 |nil=>exact hr
 |mp s es=>exact hr
 |own f=>obtain ⟨v,rfl,hv,hf⟩:=hr;refine ⟨v,rfl,hv,λo' Cn=> ?_⟩;obtain ⟨o,ho,hE,_⟩:=h.gG f o' Cn (hl f rfl);rw [hE];exact hf o ho
theorem aw.on {S T:Nat->Prop}(h:jQ S T e e'){cs:List aD}: ∀{vs:List Value},(∀l∈cs,je S l)->aw e vs cs->aw e' vs cs:=by
 induction cs with
 |nil=>intro vs _ hr;exact hr
 |cons l r ih=>intro vs hl hr;obtain ⟨v,w,rfl,h1,h2⟩:=hr;exact ⟨v,w,rfl,h1.on h (hl l (by simp)),ih (λx hx=>hl x (by simp [hx])) h2⟩
theorem Ih {S:Nat->Prop}{l:aD}(h:sP l=true):je S l:=by intro f hf;subst hf;simp [sP] at h
theorem xt {S:Nat->Prop}{cs:List aD}(h:gZ cs=true): ∀l∈cs,je S l:=by
 induction cs with
 |nil=>simp
 |cons l r ih=>
  simp only [gZ,aaT] at h;intro x hx;rcases aa0.1 hx with rfl|hx
  ·exact Ih h.1
  ·exact ih h.2 x hx
mutual
theorem aa.on {S T:Nat->Prop}(h:jQ S T e e'){v:Value}: ∀{s:Slot},fg S T s->aa e v s->aa e' v s
 | .skip,_,hr=>by simpa [aa] using hr
 | .sc l,hs,hr=>by
  cases l with
  |un=>simp [aa]
  |hs x=>simpa [aa] using hr
  |p m=>simp only [aa] at hr⊢;exact hr.on h hs
  |nil=>simp only [aa] at hr⊢;exact hr.on h hs
  |mp s es=>simp only [aa] at hr⊢;exact hr
  |own f=>simp only [aa] at hr⊢;exact hr.on h hs
 | .ag cs,hs,hr=>by simp only [aa] at hr⊢;obtain ⟨arr,h1,h2⟩:=hr;exact ⟨arr,h1,h2.on h hs⟩
 | .tg cs,hs,hr=>by simp only [aa] at hr⊢;obtain ⟨arr,h1,h2⟩:=hr;exact ⟨arr,h1,h2.on h hs⟩
 | .bW vs,_,hr=>by simp only [aa] at hr⊢;obtain ⟨arr,h1,h2⟩:=hr;exact ⟨arr,h1,kz.on h h2⟩
 | .box _,_,hr=>by simp [aa] at hr
 | .zM cs,_,hr=>by simp only [aa] at hr⊢;obtain ⟨aR,o,vs,h1,h2,h3,h4⟩:=hr;exact ⟨aR,o,vs,h1,h2.on h (xt h3),h3,λj hj=>NJ h.φ hj (h4 j hj)⟩
 | .ptr r o,hs,hr=>by simp only [aa] at hr⊢;rw [h.B r hs];exact hr
 | .zN r,hs,hr=>by simp only [aa] at hr⊢;rw [h.B r hs];exact hr
 | .rp cs off,_,hr=>by simp only [aa] at hr⊢;obtain ⟨aR,o,vs,h1,h2,h3,h4⟩:=hr;exact ⟨aR,o,vs,h1,h2.on h (xt h3),h3,λj hj=>NJ h.φ hj (h4 j hj)⟩
 | .hp r o i,hs,hr=>by simp only [aa] at hr⊢;rw [h.B r hs];exact hr
 | .ep f i off st cs,hs,hr=>by simp only [aa] at hr⊢;intro o' Cn;obtain ⟨o,ho,hE,hx⟩:=h.gG f o' Cn hs;obtain ⟨aR,cap,h1,h2,h3⟩:=hr o ho;exact ⟨aR,cap,by rw [hE,hx];exact h1,by rw [hx];exact h2,h3⟩
theorem kz.on {S T:Nat->Prop}(h:jQ S T e e'): ∀{vs:List Value} {ss:List Slot},kz e vs ss->kz e' vs ss
 |vs,[],hr=>hr
 |vs,s::ss,hr=>by
  simp only [kz] at hr⊢;obtain ⟨v,r,h1,h2,h3,h4⟩:=hr;refine ⟨v,r,h1,aa.on h ?_ h2,h3,kz.on h h4⟩;cases s<;>simp [B0] at h3<;>simp only [fg]
  ·exact Ih h3
  ·exact xt h3
end
end
end Dn
/-
  The relation between an abstract state and a running frame; operations that change no memory. Conditions: none.
-/
namespace Dn
open Go
section
variable {e e':Env}
theorem aJ.kill {vs:List Value}{l:aD}(f:Nat)(h:aJ e vs l):aJ e vs (NK f l):=by
 cases l with
 |own g=>
  simp only [NK];cases bB g f
  ·exact h
  ·obtain ⟨v,rfl,hv,_⟩:=h;exact ⟨v,rfl,hv⟩
 |_=>exact h
theorem E3 (f:Nat)(l:aD):je (· ≠f) (NK f l):=by intro g hg;cases l<;>simp [NK] at hg;rename_i g';cases hb:bB g' f<;>simp [hb] at hg;subst hg;intro e;subst e;simp [eY] at hb
theorem aJ.Pv {vs:List Value}{l:aD}(f:List Nat)(h:aJ e vs l):aJ e vs (Re f l):=by
 cases l with
 |own g=>
  simp only [Re];cases bn f g
  ·obtain ⟨v,rfl,hv,_⟩:=h;exact ⟨v,rfl,hv⟩
  ·exact h
 |_=>exact h
theorem NL (f:List Nat)(l:aD):je (· ∈f) (Re f l):=by intro g hg;cases l<;>simp [Re] at hg;rename_i g';cases hb:bn f g'<;>simp [hb] at hg;subst hg;exact (bk _ _).1 hb
theorem aw.map {g:aD->aD}(hg: ∀vs l,aJ e vs l->aJ e vs (g l)){cs:List aD}: ∀{vs:List Value},aw e vs cs->aw e vs (cs.map g):=by
 induction cs with
 |nil=>intro vs h;exact h
 |cons l r ih=>intro vs h;obtain ⟨v,w,rfl,h1,h2⟩:=h;exact ⟨v,w,rfl,hg _ _ h1,ih h2⟩
theorem aa.aew {v:Value}{l:aD}(hl: ∀x,l≠ .hs x)(hu:l≠ .un):aa e v (.sc l)↔aJ e [v] l:=by cases l<;>simp_all [aa]
theorem aa.kill {v:Value}{s:Slot}(f:Nat)(h:aa e v s):aa e v (A9 f s):=by
 cases s with
 |sc l=>
  cases l with
  |own g=>
   simp only [A9,NK];cases bB g f
   ·exact h
   ·simp [aa]
  |_=>exact h
 |ag cs=>simp only [A9,aa] at h⊢;obtain ⟨arr,h1,h2⟩:=h;exact ⟨arr,h1,h2.map (λ_ _=>aJ.kill f)⟩
 |tg cs=>simp only [A9,aa] at h⊢;obtain ⟨arr,h1,h2⟩:=h;exact ⟨arr,h1,h2.map (λ_ _=>aJ.kill f)⟩
 |box cs=>simp [aa] at h
 |ep g i o b cs=>
  simp only [A9];cases bB g f
  ·exact h
  ·simp [aa]
 |_=>exact h
theorem XH (f:Nat)(T:Nat->Prop)(s:Slot)(hT:fg (λ_=>True) T s):fg (· ≠f) T (A9 f s):=by
 cases s with
 |sc l=>exact E3 f l
 |ag cs=>intro l hl;obtain ⟨x,_,rfl⟩:=acQ.1 hl;exact E3 f x
 |tg cs=>intro l hl;obtain ⟨x,_,rfl⟩:=acQ.1 hl;exact E3 f x
 |ep g i o b cs=>
  simp only [A9];cases hb:bB g f
  ·simp only [cond_false,fg];intro e;subst e;simp [eY] at hb
  ·simp [fg,je]
 |ptr r o=>exact hT
 |hp r o i=>exact hT
 |_=>trivial
theorem aa.Pv {v:Value}{s:Slot}(f:List Nat)(h:aa e v s):aa e v (HG f s):=by
 cases s with
 |sc l=>
  cases l with
  |own g=>
   simp only [HG,Re];cases bn f g
   ·simp [aa]
   ·exact h
  |_=>exact h
 |ag cs=>simp only [HG,aa] at h⊢;obtain ⟨arr,h1,h2⟩:=h;exact ⟨arr,h1,h2.map (λ_ _=>aJ.Pv f)⟩
 |tg cs=>simp only [HG,aa] at h⊢;obtain ⟨arr,h1,h2⟩:=h;exact ⟨arr,h1,h2.map (λ_ _=>aJ.Pv f)⟩
 |box cs=>simp [aa] at h
 |_=>exact h
end
def aP (key:Nat->Nat) (φ:Ph)(size:Nat):List Value->List MV->Prop
 |vs,[]=>vs=[]
 |vs,x::xs=> ∃v r,vs=v++r/\v.length=size/\gk key φ v x/\aP key φ size r xs
structure bu where
 In:Nat->Prop
 cu:List Nat
 cq:List Nat
 T:Nat->Value
 cov:Prop
 Pr:Nat->Prop
instance:CoeFun bu (λ_=>Nat->Prop):=⟨bu.In⟩
instance:Coe bu (Nat->Prop):=⟨bu.In⟩
theorem O7 {a b c:Prop}(h:(a/\b)\/c)(hn: ¬a):c:=h.resolve_left λh=>hn h.1
def bu.nc (Z:bu):bu:={Z with cov:=False}
def bu.plain (I:Nat->Prop):bu:=⟨I,[],[],λ_=>undef,False,λ_=>True⟩
def bu.bz (Z:bu)(t:Nat):bu:={Z with In:=λb=>(t∈Z.cu/\Z.Pr b)\/Z.In b}
def bu.fz (Z:bu)(f:Nat):bu:={Z with In:=λb=>(f∈Z.cq/\Z.Pr b)\/Z.In b,cov:=f∈Z.cq}
def E4:Kd->MV->Bool
 | .b,.b _=>true
 | .i k,.i k' _=>decide (k'=k)
 | .s,.s _=>true
 | .h,.h _=>true
 |_,_=>false
def dn:List Kd->List MV->Bool
 |[],[]=>true
 |k::ks,m::ms=>E4 k m&&dn ks ms
 |_,_=>false
def EP:MV->List Value
 | .b x=>[.bool x]
 | .i k n=>[.int k n]
 | .s l=>[.string ⟨l.toArray⟩]
 | .h x=>a8 x
 |_=>[]
def fJ (st:Bool)(ks:List MV):Value:=match st,ks with
 |false,[.h x]=> .agg (a8 x).toArray
 |false,[.b x]=> .bool x
 |false,[.i k n]=> .int k n
 |false,[.s l]=> .string ⟨l.toArray⟩
 |_,ks=> .agg (ks.flatMap EP).toArray
def BC (b:Bool)(m:MV):Value:=match b,m with
 |true,.b x=> .bool x
 |false,.i .i64 n=> .int .i64 n
 |_,_=>undef
def RL (b:Bool)(m:MV):Bool:=match b,m with
 |true,.b x=>true
 |false,.i .i64 n=>true
 |_,_=>false
def adt (s:MS)(x:MapEntry)(m:MV)(i:Nat):Prop:=x.born=i/\ ∃ks v,m= .bW [.agg ks,v]/\dn s.lay ks=true/\x.key=fJ s.st ks/\RL s.b v=true/\x.val=BC s.b v
structure sR (s:MS) (es:Array MapEntry) (clock:Nat) (ms:List MV):Prop where
 size:es.size=ms.length
 clock:clock=ms.length
 ent: ∀(i:Nat) x m,es[i]? =some x->ms[i]? =some m->adt s x m i
def jZ (e:Env)(o:Obj)(cs:List aD):Prop:=match o with
 | .cells arr _ z=>z=(0,0)/\aw e arr.toList cs
 | .map es clock=> ∃s ms,cs=[.mp s ms]/\GY s=false/\sR s es clock ms
 | .stringIter x pos=>cs=[.mp MS.it [.s x.data.toList,.i .i64 pos]]
 |_=>False
def NM (cs:List aD)(b:Nat):Value:=bif lB cs then .map (some b) else .pointer (some ⟨b,0,none⟩)
structure uK (Z:bu) (e:Env) (w:World) (aR:Nat) (cs:List aD):Prop where
 b7:Z.In aR
 obj: ∃o,w.heap[aR]? =some o/\jZ e o cs
 free: ∀off,e.φ aR off=none
theorem jZ.on {S T:Nat->Prop} {e e':Env}(h:jQ S T e e'){o:Obj}{cs:List aD}(hl: ∀l∈cs,je S l)(hr:jZ e o cs):jZ e' o cs:=by
 cases o with
 |cells arr T z=>exact ⟨hr.1,hr.2.on h hl⟩
 |map es clock=>exact hr
 |stringIter x pos=>exact hr
 |_=>exact hr.elim
theorem NN {cs:List aD}(h:eI cs=true): ∃s ms,cs=[.mp s ms]:=by
 unfold eI at h;split at h
 ·exact ⟨_,_,rfl⟩
 ·cases h
theorem jZ.cells {e:Env}{o:Obj}{cs:List aD}(hr:jZ e o cs)(hm:eI cs=false): ∃arr T,o= .cells arr T (0,0)/\aw e arr.toList cs:=by
 cases o with
 |cells arr T z=>obtain ⟨rfl,h⟩:=hr;exact ⟨arr,T,rfl,h⟩
 |map es clock=>obtain ⟨s,ms,rfl,_⟩:=hr;simp [eI] at hm
 |stringIter x pos=>rw [show cs=_ from hr] at hm;simp [eI] at hm
 |_=>exact hr.elim
theorem xu {cs:List aD}(h:eI cs=false):lB cs=false:=by
 unfold lB;split
 ·simp [eI] at h
 ·rfl
theorem Pw (g:aD->aD)(h1: ∀s es,g (.mp s es)= .mp s es)(h2: ∀l,(∀s es,l≠ .mp s es)-> ∀s es,g l≠ .mp s es)(cs:List aD):lB (cs.map g)=lB cs:=by
 cases cs with
 |nil=>rfl
 |cons l r=>
  cases r with
  |nil=>
   by_cases hl: ∃s es,l= .mp s es
   ·obtain ⟨s,es,rfl⟩:=hl;simp [h1,lB]
   ·have G3: ∀s es,l≠ .mp s es:=λs es e=>hl ⟨s,es,e⟩;have hg:=h2 l G3;simp only [IT,afI];have a:lB [l]=false:=by cases l<;>simp_all [lB]
    have b:lB [g l]=false:=by cases hq:g l<;>simp_all [lB]
    rw [a,b]
  |cons x y=>cases hl:l<;>simp [lB]
theorem uK.cells {Z:bu}{e:Env}{w:World}{aR:Nat}{cs:List aD}(h:uK Z e w aR cs)(hm:eI cs=false): ∃arr T,w.heap[aR]? =some (.cells arr T (0,0))/\aw e arr.toList cs:=by obtain ⟨o,h1,h2⟩:=h.obj;obtain ⟨arr,T,rfl,h3⟩:=h2.cells hm;exact ⟨arr,T,h1,h3⟩
theorem RM {cs:List aD}(hm:lB cs=false)(b:Nat):NM cs b= .pointer (some ⟨b,0,none⟩):=by simp [NM,hm]
theorem sS {cs:List aD}(hm:eI cs=false)(b:Nat):NM cs b= .pointer (some ⟨b,0,none⟩):=RM (xu hm) b
theorem XI {cs:List aD}(hm:lB cs=true)(b:Nat):NM cs b= .map (some b):=by simp [NM,hm]
theorem jZ.map {e:Env}{g:aD->aD}(hg: ∀vs l,aJ e vs l->aJ e vs (g l))(hm: ∀s es,g (.mp s es)= .mp s es){o:Obj}{cs:List aD}(hr:jZ e o cs):jZ e o (cs.map g):=by
 cases o with
 |cells arr T z=>exact ⟨hr.1,hr.2.map hg⟩
 |map es clock=>obtain ⟨s,ms,rfl,h2⟩:=hr;exact ⟨s,ms,by simp [hm],h2⟩
 |stringIter x pos=>rw [show cs=_ from hr];show afi g _=_;simp [hm]
 |_=>exact hr.elim
theorem RN (f:Nat)(cs:List aD):lB (cs.map (NK f))=lB cs:=Pw _ (λ_ _=>rfl) (λl hl s es=>by cases l<;>simp_all [NK];rename_i g;cases bB g f<;>simp) cs
theorem aex (f:List Nat)(cs:List aD):lB (cs.map (Re f))=lB cs:=Pw _ (λ_ _=>rfl) (λl hl s es=>by cases l<;>simp_all [Re];rename_i g;cases bn f g<;>simp) cs
structure cj (c:Ctx) (Z:bu) (e:Env) (w:World) (v:Value) (o:ox):Prop where
 row: ∃I cells,c.ti o.ty=some I/\I.ch=[]/\w.ownsRow 0 o.ty I.size v o.xs.length cells/\aP e.key e.φ I.size cells o.xs/\ ∀aR,v.ownBlock=some aR->Z.In aR/\(∀off u,e.φ aR off=some u->o.dW=true/\off<o.xs.length *I.size)/\(Z.cov->o.dW=true-> ∀j,j<cells.length->e.φ aR j=cells[j]?)
def tied (Z:bu)(t:Nat)(v:Value)(cs:List aD)(b:Nat):Prop:=(zP t=false->v=NM cs b)/\(zP t=true->posOf t∈Z.cu/\Z.T (posOf t)= .pointer (some ⟨b,Pj t,none⟩))
theorem tied.lB {Z:bu}{t:Nat}{v:Value}{cs fL:List aD}{b:Nat}(h:tied Z t v cs b)(hm:lB fL=lB cs):tied Z t v fL b:=⟨λhp=>by rw [h.1 hp];simp [NM,hm],h.2⟩
theorem tied.own {Z:bu}{t:Nat}{v:Value}{cs:List aD}{b:Nat}(hp:zP t=false)(h:v=NM cs b):tied Z t v cs b:=⟨λ_=>h,λhq=>by rw [hp] at hq;cases hq⟩
def bS (Z:bu)(e:Env)(w:World)(t:Nat)(v:Value):Slot->Prop
 | .box cs=>tied Z t v cs (e.B t)/\uK (Z.bz t) e w (e.B t) cs
 |s=>aa e v s
def cy (fr:Fr):Slot->Prop
 | .ptr r _=>cO (al fr r)=true
 | .hp r _ _=>cO (al fr r)=true
 | .zN r=>cO (al fr r)=true
 |_=>True
structure bO (c:Ctx) (Z:bu) (e:Env) (st:St) (a:Act) (w:World):Prop where
 defers:a.defers=[]/\st.cu=Z.cu/\st.cq=Z.cq/\ ∀t∈Z.cu,a.tmps.getD t undef=Z.T t
 size:a.tmps.size=c.n
 m:e.m=st.aM
 key:e.key=c.key
 nodup:(aK st.fr).Nodup
 slot: ∀t,bS Z e w t (a.tmps.getD t undef) (al st.fr t)
 root: ∀t,cy st.fr (al st.fr t)
 gG: ∀f o,aE st.aM f=some o->cj c (Z.fz f) e w (e.E f) o
 bb: ∀t t' cs fL,al st.fr t= .box cs->al st.fr t'= .box fL->t≠t'->e.B t≠e.B t'
 bf: ∀t cs f o,al st.fr t= .box cs->aE st.aM f=some o->(e.E f).ownBlock≠some (e.B t)
 ff: ∀f f' o o' k,aE st.aM f=some o->aE st.aM f'=some o'->(e.E f).ownBlock=some k->(e.E f').ownBlock=some k->f=f'
 iK: ∀b o v,e.φ b o=some v->w.cell? ⟨b,o,none⟩=some v
 b7: ∀b,w.heap.size<=b->Z.In b
def Rest (w w':World):Prop:=w'.os=w.os/\w'.tape=w.tape/\w'.output=w.output
theorem Rest.refl (w:World):Rest w w:=⟨rfl,rfl,rfl⟩
theorem Rest.trans {w w' Ba:World}(h:Rest w w') (h':Rest w' Ba):Rest w Ba:=⟨h'.1.trans h.1,h'.2.1.trans h.2.1,h'.2.2.trans h.2.2⟩
theorem Rest.alloc (w:World)(cs:Array Value)(t:TypeId):Rest w (w.alloc (.cells cs t)):=⟨rfl,rfl,rfl⟩
theorem Rest.setRow (w:World)(g:Nat)(cs:Array Value):Rest w (w.setRow g cs):=⟨rfl,rfl,rfl⟩
structure cL (w w':World):Prop where
 size:w.heap.size<=w'.heap.size
 pF: ∀b,b<w.heap.size->w'.heap[b]? =w.heap[b]?
 rest:Rest w w'
theorem aN {w:World}{b:Nat}{x:Obj}(h:w.heap[b]? =some x):b<w.heap.size:=(Array.getElem?_eq_some_iff.1 h).1
theorem cL.cell {w w':World}(g:cL w w'){ad:Addr}{v:Value}(h:w.cell? ad=some v):w'.cell? ad=some v:=by have hl:=aaY w ad h;rw [aa2 (g.pF ad.block hl)];exact h
structure Trans (Z:Nat->Prop) (φ:Ph) (w:World) (φ':Ph) (w':World):Prop where
 ph:fY φ φ'
 heap: ∀b,¬Z b->b<w.heap.size->w'.heap[b]? =w.heap[b]?
 free: ∀b o,¬Z b->φ' b o=φ b o
 size:w.heap.size<=w'.heap.size
 rest:Rest w w'
theorem Trans.refl (Z:Nat->Prop) (φ:Ph)(w:World):Trans Z φ w φ w:=⟨.refl φ,λ_ _ _=>rfl,λ_ _ _=>rfl,aaC _,.refl _⟩
theorem Trans.trans {Z:Nat->Prop} {φ φ' φ'':Ph} {w w' Ba:World}(h:Trans Z φ w φ' w') (h':Trans Z φ' w' φ'' Ba):Trans Z φ w φ'' Ba:=⟨h.ph.trans h'.ph,λb hb hl=>(h'.heap b hb (aey hl h.size)).trans (h.heap b hb hl),λb o hb=>(h'.free b o hb).trans (h.free b o hb),adM h.size h'.size,h.rest.trans h'.rest⟩
def rq (Z:bu)(e:Env)(w:World)(st:St)(v:Value):Slot->Prop
 | .box cs=> ∃aR,v=NM cs aR/\uK Z e w aR cs/\(∀t fL,al st.fr t= .box fL->e.B t≠aR)/\(∀f o,aE st.aM f=some o->(e.E f).ownBlock≠some aR)
 |s=>aa e v s/\cy st.fr s
section
variable {c:Ctx}{Z:bu}{e:Env}{st:St}{a:Act}{w:World}
theorem aa.const {v:Value}:aa e v (A7 v):=by
 unfold A7;split<;>simp only [aa,aJ,MV.one]<;> first
   |exact ⟨trivial,.b _⟩
   |exact ⟨trivial,.i _ _⟩
   |exact ⟨trivial,.s _⟩
   |exact ⟨trivial,.raw _ rfl⟩
theorem bO.eval (h:bO c Z e st a w)(x:Operand):aa e (a.eval x) (aF c st x)/\cy st.fr (aF c st x):=by
 cases x with
 |tmp t=>
  have hs:=h.slot t;have hr:=h.root t;simp only [Act.eval,aF];cases Mn:plk c.par t with
  |some q=>
   simp only;cases hq:zP q&&bB (posOf q) t with
   |false=>exact ⟨by simp [aa],trivial⟩
   |true=>
    simp only [cond_true];simp only [aaT] at hq;have hqt:=sh hq.2;have hsq:=h.slot q;split
    ·rename_i cs hfq;rw [hfq] at hsq;cases hm:eI cs with
     |true=>exact ⟨by simp [aa],trivial⟩
     |false=>obtain ⟨k1,k2⟩:=hsq.1.2 hq.1;refine ⟨?_,by simp [cy,hfq,cO]⟩;show a.tmps.getD t undef=_;rw [<-hqt,h.defers.2.2.2 _ k1,k2]
    ·exact ⟨by simp [aa],trivial⟩
  |none=>
  simp only;generalize hf:al st.fr t=s at hs hr;cases s<;>simp only [bS] at hs<;>try exact ⟨hs,hr⟩
  ·rename_i cs;cases hpt:zP t with
   |true=>simp only [cond_true];exact ⟨by simp [aa],trivial⟩
   |false=>
   simp only [cond_false];cases hm:lB cs with
   |true=>simp only [hm,cond_true,aa,cy,hf,cO];exact ⟨by rw [hs.1.1 hpt,XI hm],trivial⟩
   |false=>simp only [hm,cond_false,aa,cy,hf,cO];exact ⟨by rw [hs.1.1 hpt,RM hm],trivial⟩
 |const v=>refine ⟨aa.const,?_⟩;simp only [aF];unfold A7;split<;>trivial
 |func f=>simp only [Act.eval,aF,aa,aJ,MV.one,cy,and_true,true_and];exact .func f _ #[] [] (by rw [h.key]) (by simpa using fe.nil) (by simp)
 |global g=>simp [aF,aa,cy]
end
theorem Act.zX {a:Act}{d t:Nat}{v:Value}(hd:d<a.tmps.size):(a.put (some d) v).tmps.getD t undef=if t=d then v else a.tmps.getD t undef:=by
 simp only [Act.put,Array.getD_eq_getD_getElem?,Array.getElem?_setIfInBounds];by_cases h:d=t
 ·subst h;simp [hd]
 ·have h': ¬t=d:=λe=>h e.symm;simp [h,h']
theorem XJ {fr:Fr}{s:Slot}(h:cy fr s):fg (λ_=>True) (λr=>cO (al fr r)=true) s:=by cases s<;>simp_all [cy,fg,je]
theorem NO (r:Fr)(d:Nat)(s:Slot):aK (b8 r d s)=if d∈aK r then aK r else aK r++[d]:=by
 induction r with
 |nil=>simp [b8,aK]
 |cons p r ih=>
  obtain ⟨k,x⟩:=p;simp only [b8,eY];by_cases h:k=d
  ·simp [h,aK]
  ·have h': ¬d=k:=λe=>h e.symm;have ih':afi Prod.fst (b8 r d s)=if d∈aK r then aK r else aK r++[d]:=ih
   simp only [h,h',decide_false,cond_false,aK,IT,aa0,false_or,ih'];by_cases hm:d∈aK r
   ·have hm':d∈afi Prod.fst r:=hm;simp [hm,hm',aK]
   ·have hm':d∉afi Prod.fst r:=hm;simp [hm,hm',aK]
theorem dZ {r:Fr}{d:Nat}{s:Slot}(h:(aK r).Nodup):(aK (b8 r d s)).Nodup:=by
 rw [NO];by_cases hm:d∈aK r
 ·simpa [hm] using h
 ·simp only [hm,if_false];exact List.nodup_append.2 ⟨h,by simp,by intro x hx y hy;simp at hy;subst hy;intro e;subst e;exact hm hx⟩
section
variable {c:Ctx}{Z:bu}{e:Env}{st:St}{a:Act}{w:World}{R:Type}{K:St->Option R}{r:R}
def Env.BD (e:Env)(d aR:Nat):Env:={e with B:=λt=>if t=d then aR else e.B t}
theorem uK.env {e e':Env}{aR:Nat}{cs:List aD}(h:uK Z e w aR cs)(hk:e'.key=e.key)(hp:e'.φ=e.φ)(hE:e'.E=e.E)(hm:e'.m=e.m):uK Z e' w aR cs:=by refine ⟨h.b7,?_,λoff=>by rw [hp];exact h.free off⟩;obtain ⟨o,h1,h2⟩:=h.obj;refine ⟨o,h1,h2.on (S:=λ_=>True) (T:=λ_=>False) ⟨hk,by rw [hp];exact .refl _,by simp,?_⟩ (by intro l _ f _;trivial)⟩;intro f o ho _;exact ⟨o,by rw [<-hm];exact ho,by rw [hE],rfl⟩
theorem cj.env {e e':Env}{v:Value}{o:ox}(h:cj c Z e w v o)(hk:e'.key=e.key)(hp:e'.φ=e.φ):cj c Z e' w v o:=by obtain ⟨I,cells,h1,h2,h3,h4,h5⟩:=h.row;exact ⟨I,cells,h1,h2,h3,by rw [hk,hp];exact h4,by rw [hp];exact h5⟩
theorem uK.to {aR:Nat}{cs:List aD}(h:uK Z e w aR cs)(t:Nat):uK (Z.bz t) e w aR cs:=⟨.inr h.b7,h.obj,h.free⟩
theorem cj.to {v:Value}{o:ox}{f:Nat}(h:cj c Z.nc e w v o)(hf:f∉Z.cq):cj c (Z.fz f) e w v o:=by obtain ⟨I,cells,h1,h2,h3,h4,h5⟩:=h.row;exact ⟨I,cells,h1,h2,h3,h4,λaR hb=>⟨.inr (h5 aR hb).1,(h5 aR hb).2.1,λhc=>absurd hc hf⟩⟩
theorem cP {d:Option Nat}{s:Slot}{v:Value}(h:bO c Z e st a w)(hv:rq Z e w st v s)(hK:bh c st d s K=some r): ∃e' bT,bO c Z e' bT (a.put d v) w/\K bT=some r/\e'.φ=e.φ:=by
 cases d with
 |none=>exact ⟨e,st,h,hK,rfl⟩
 |some d=>
  simp only [bh] at hK;cases EQ:zP d||(aaW c.n d||cO (al st.fr d)) with
  |true=>simp [EQ] at hK
  |false=>
   obtain ⟨ala,hb⟩:=aa3.1 EQ;simp only [EQ,cond_false,wr] at hK;cases hp:bn st.cu d with
   |true=>simp [hp] at hK
   |false=>
    simp only [hp,cond_false,force_eq,ma] at hK;simp only [aa3] at hb;have hdn:d<a.tmps.size:=by
     rw [h.size];have:=hb.1;by_cases dO:d<c.n
     ·exact dO
     ·have:aaW c.n d=true:=ad1 (by omega);simp_all
    have hdp:d∉Z.cu:=by intro hm;rw [<-h.defers.2.1,<-bk,hp] at hm;cases hm
    have ag4: ∀fr:Fr,(a.put (some d) v).defers=[]/\({st with fr:=fr}:St).cu=Z.cu/\({st with fr:=fr}:St).cq=Z.cq/\ ∀t∈Z.cu,(a.put (some d) v).tmps.getD t undef=Z.T t:=by intro fr;refine ⟨h.defers.1,h.defers.2.1,h.defers.2.2.1,λt ht=> ?_⟩;rw [Act.zX hdn,if_neg (by intro e;subst e;exact hdp ht)];exact h.defers.2.2.2 t ht
    have oQ: ∀t,fg (λ_=>True) (λr=>r≠d) (al st.fr t):=by intro t;have:=XJ (h.root t);generalize al st.fr t=x at this;cases x<;>simp_all [fg,je]<;>(intro e;subst e;simp_all)
    by_cases hs: ∃cs,s= .box cs
    ·obtain ⟨cs,rfl⟩:=hs;obtain ⟨aR,rfl,vB,hnb,hnf⟩:=hv;have rT:jQ (λ_=>True) (λr=>r≠d) e (e.BD d aR):=⟨rfl,.refl _,λr hr=>by simp [Env.BD,hr],λf o ho _=>⟨o,ho,rfl,rfl⟩⟩
     refine ⟨e.BD d aR,_,?_,hK,rfl⟩;refine ⟨ag4 _,by simpa [Act.put] using h.size,h.m,h.key,dZ h.nodup,?_,?_,?_,?_,?_,?_,h.iK,h.b7⟩
     ·intro t;rw [Act.zX hdn,bL];by_cases ht:t=d
      ·subst ht;simp only [if_true,bS,Env.BD];exact ⟨.own ala rfl,(vB.to t).env rfl rfl rfl rfl⟩
      ·simp only [ht,if_false];have nb:=h.slot t;have pK:=oQ t;generalize al st.fr t=x at nb pK;cases x<;>simp only [bS] at nb⊢ <;>try exact nb.on rT pK
       simp only [Env.BD,ht,if_false];exact ⟨nb.1,nb.2.env rfl rfl rfl rfl⟩
     ·intro t;simp only [bL];by_cases ht:t=d
      ·simp [ht,cy]
      ·simp only [ht,if_false];have pK:=h.root t;have Mo:=oQ t;generalize al st.fr t=x at pK Mo;cases x<;>simp_all [cy,bL,fg]
     ·intro f o ho;exact (h.gG f o ho).env rfl rfl
     ·intro t t' mK BE h1 h2 df;simp only [bL] at h1 h2;simp only [Env.BD];by_cases ht:t=d
      ·by_cases Co:t'=d
       ·exact absurd (ht.trans Co.symm) df
       ·simp only [Co,if_false] at h2;simp only [ht,Co,if_true,if_false];exact λe=>hnb t' BE h2 e.symm
      ·simp only [ht,if_false] at h1;by_cases Co:t'=d
       ·simp only [ht,Co,if_true,if_false];exact hnb t mK h1
       ·simp only [Co,if_false] at h2;simp only [ht,Co,if_false];exact h.bb t t' mK BE h1 h2 df
     ·intro t mK f o h1 h2;simp only [bL] at h1;simp only [Env.BD];by_cases ht:t=d
      ·simp only [ht,if_true];exact hnf f o h2
      ·simp only [ht,if_false] at h1⊢;exact h.bf t mK f o h1 h2
     ·exact h.ff
    ·have O8:aa e v s/\cy st.fr s:=by cases s<;>simp_all [rq]
     refine ⟨e,_,?_,hK,rfl⟩;refine ⟨ag4 _,by simpa [Act.put] using h.size,h.m,h.key,dZ h.nodup,?_,?_,h.gG,?_,?_,h.ff,h.iK,h.b7⟩
     ·intro t;rw [Act.zX hdn,bL];by_cases ht:t=d
      ·simp only [ht,if_true];cases s<;>simp only [bS]<;>first|exact O8.1|exact absurd ⟨_,rfl⟩ hs
      ·simp only [ht,if_false];exact h.slot t
     ·intro t;simp only [bL];by_cases ht:t=d
      ·simp only [ht,if_true];have hr:=O8.2;cases s<;>simp only [cy,bL] at hr⊢
       ·rename_i r o;by_cases K8:r=d
        ·subst K8;simp_all
        ·simp only [K8,if_false];exact hr
       ·rename_i r;by_cases K8:r=d
        ·subst K8;simp_all
        ·simp only [K8,if_false];exact hr
       ·rename_i r o i;by_cases K8:r=d
        ·subst K8;simp_all
        ·simp only [K8,if_false];exact hr
      ·simp only [ht,if_false];have pK:=h.root t;have Mo:=oQ t;generalize al st.fr t=x at pK Mo;cases x<;>simp_all [cy,bL,fg]
     ·intro t t' mK BE h1 h2 df;simp only [bL] at h1 h2;by_cases ht:t=d
      ·simp only [ht,if_true] at h1;exact absurd ⟨_,h1⟩ hs
      ·by_cases Co:t'=d
       ·simp only [Co,if_true] at h2;exact absurd ⟨_,h2⟩ hs
       ·simp only [ht,Co,if_false] at h1 h2;exact h.bb t t' mK BE h1 h2 df
     ·intro t mK f o h1 h2;simp only [bL] at h1;by_cases ht:t=d
      ·simp only [ht,if_true] at h1;exact absurd ⟨_,h1⟩ hs
      ·simp only [ht,if_false] at h1;exact h.bf t mK f o h1 h2
end
end Dn
/-
  Operations that change no memory: moves, numbers, texts, places. Conditions: none.
-/
namespace Dn
open Go
def Out (c:Ctx)(Z:bu){R:Type}(K:St->Option R)(r:R) (φ:Ph)(w:World) (a':Act) (w':World):Prop:=∃e' bT,bO c Z e' bT a' w'/\Trans Z φ w e'.φ w'/\K bT=some r
section
variable {P:Program}{c:Ctx}{Z:bu}{e:Env}{st:St}{a:Act}{w:World}{R:Type}{K:St->Option R}{r:R}{Q:Exit->Act->World->Prop}{o:Oper}
theorem rq.of {s:Slot}{v:Value}(h:aa e v s)(hr:cy st.fr s):rq Z e w st v s:=by cases s<;>first|exact ⟨h,hr⟩|(simp [aa] at h)
theorem fin {e':Env}{bT:St} {w':World}{s:Slot}{v:Value}(bA:(execOp a.eval o).run P w= .ok (.value v) w')(hs:bO c Z e' bT a w')(ht:Trans Z e.φ w e'.φ w')(hv:rq Z e' w' bT v s)(hK:bh c bT o.dst s K=some r):o.wp P a w (Out c Z K r e.φ w) Q:=by unfold afL;rw [bA,adZ];obtain ⟨e2,ek,h1,h2,h3⟩:=cP hs hv hK;exact ⟨e2,ek,h1,by rw [h3];exact ht,h2⟩
theorem Dz {e':Env}{bT:St} {w':World}(bA:(execOp a.eval o).run P w= .ok .skip w')(hs:bO c Z e' bT a w')(ht:Trans Z e.φ w e'.φ w')(hK:bh c bT o.dst (.sc .un) K=some r):o.wp P a w (Out c Z K r e.φ w) Q:=by unfold afL;rw [bA,Oper.upon_skip];obtain ⟨e2,ek,h1,h2,h3⟩:=cP (v:=undef) hs (by simp [rq,aa,cy]) hK;exact ⟨e2,ek,h1,by rw [h3];exact ht,h2⟩
theorem RO {e':Env}{bT:St} {w':World}{s:Slot}{v:Value}(hg:cL w w')(bA:(execOp a.eval o).run P w= .ok (.value v) w')(hs:bO c Z e' bT a w')(ht:Trans Z e.φ w e'.φ w')(hv:rq Z e' w' bT v s)(hK:bh c bT o.dst s K=some r):o.wp P a w (λa' w'=>cL w w'/\Out c Z K r e.φ w a' w') Q:=by unfold afL;rw [bA,adZ];obtain ⟨e2,ek,h1,h2,h3⟩:=cP hs hv hK;exact ⟨hg,e2,ek,h1,by rw [h3];exact ht,h2⟩
def Rd (P:Program)(c:Ctx)(Z:bu){R:Type}(K:St->Option R)(r:R)(e:Env)(a:Act)(w:World)(o:Oper)(G:World->Prop):Prop:=∃v,(∀w',G w'->(execOp a.eval o).run P w'= .ok (.value v) w')/\Out c Z K r e.φ w (a.put o.dst v) w
theorem Rd.wp {G:World->Prop}(h:Rd P c Z K r e a w o G)(hg:G w):o.wp P a w (Out c Z K r e.φ w) Q:=by obtain ⟨v,h1,h2⟩:=h;unfold afL;rw [h1 w hg,adZ];exact h2
theorem RP {G:World->Prop} {e':Env}{bT:St}{s:Slot}{v:Value}(bA: ∀w':World,G w'->(execOp a.eval o).run P w'= .ok (.value v) w')(hs:bO c Z e' bT a w)(ht:Trans Z e.φ w e'.φ w)(hv:rq Z e' w bT v s)(hK:bh c bT o.dst s K=some r):Rd P c Z K r e a w o G:=by obtain ⟨e2,ek,h1,h2,h3⟩:=cP hs hv hK;exact ⟨v,bA,e2,ek,h1,by rw [h3];exact ht,h2⟩
theorem iL {s:Slot}{v:Value}(h:bO c Z e st a w)(bA: ∀w':World,(execOp a.eval o).run P w'= .ok (.value v) w')(hv:aa e v s)(hr:cy st.fr s)(hK:bh c st o.dst s K=some r):Rd P c Z K r e a w o (λ_=>True):=RP (λw' _=>bA w') h (.refl _ _ _) (.of hv hr) hK
theorem Gj {v:Value}{x:Bool}(h:aa e v (.sc (.p (.b x)))):v= .bool x:=by simp only [aa,aJ] at h;obtain ⟨_,h⟩:=h;generalize hv:[v]=vs at h;cases h;simpa using hv
theorem kX {v:Value}{k:IntKind}{n:Int}(h:aa e v (.sc (.p (.i k n)))):v= .int k n:=by simp only [aa,aJ] at h;obtain ⟨_,h⟩:=h;generalize hv:[v]=vs at h;cases h;simpa using hv
theorem DA {v:Value}{l:List UInt8}(h:aa e v (.sc (.p (.s l)))): ∃b:ByteArray,v= .string b/\l=b.data.toList:=by simp only [aa,aJ] at h;obtain ⟨_,h⟩:=h;generalize hv:[v]=vs at h;cases h;exact ⟨_,by simpa using hv,rfl⟩
theorem BF (x:Bool):aa e (.bool x) (.sc (.p (.b x))):=by simp only [aa,aJ];exact ⟨rfl,.b x⟩
theorem sU (k:IntKind)(n:Int):aa e (.int k n) (.sc (.p (.i k n))):=by simp only [aa,aJ];exact ⟨rfl,.i k n⟩
theorem abb (b:ByteArray):aa e (.string b) (.sc (.p (.s b.data.toList))):=by simp only [aa,aJ];exact ⟨rfl,.s b⟩
theorem xv {v u:Value}(h:aa e v (.sc (.p (.raw u)))):v=u:=by simp only [aa,aJ] at h;obtain ⟨_,h⟩:=h;generalize hv:[v]=vs at h;cases h;simpa using hv
theorem Ij (u:Value)(h:u.oneCell'=true):aa e u (.sc (.p (.raw u))):=by simp only [aa,aJ];exact ⟨rfl,.raw u h⟩
theorem NP {x:Operand}(ho:o.op= .move x\/o.op= .assign x)(h:bO c Z e st a w)(hK:bh c st o.dst (aF c st x) K=some r): Rd P c Z K r e a w o (λ_=>True):=by obtain ⟨h1,h2⟩:=h.eval x;refine iL h ?_ h1 h2 hK;rcases ho with ho|ho<;>simp [execOp,ho]
theorem Px {x:Operand}(ho:o.op= .nilCheck x)(h:bO c Z e st a w)(hK:aem (aF c st x) (λs=>bh c st o.dst s K)=some r):Rd P c Z K r e a w o (λ_=>True):=by
 obtain ⟨h1,h2⟩:=h.eval x;unfold aem at hK;split at hK
 ·rename_i jP;rw [jP] at h1 h2;refine iL h ?_ (v:=a.eval x) h1 h2 hK;simp only [aa] at h1;simp [execOp,ho,h1]
 ·rename_i jP;rw [jP] at h1 h2;refine iL h ?_ (v:=a.eval x) h1 h2 hK;simp only [aa] at h1;obtain ⟨aR,q,vs,HH,h3⟩:=h1;simp [execOp,ho,HH]
 ·simp at hK
theorem abc {x y z:Operand}(ho:o.op= .pick x y z)(h:bO c Z e st a w)(hK:Xl (aF c st x) (aF c st y) (aF c st z) (λs=>bh c st o.dst s K)=some r):Rd P c Z K r e a w o (λ_=>True):=by
 obtain ⟨hx,_⟩:=h.eval x;obtain ⟨hy,hy2⟩:=h.eval y;obtain ⟨hz,XK⟩:=h.eval z;have bA: ∀v,a.eval x= .bool v-> ∀w:World,(execOp a.eval o).run P w= .ok (.value (if v then a.eval y else a.eval z)) w:=by intro v hv w;simp [execOp,ho,hv,asBool]
 unfold Xl at hK;split at hK
 ·rename_i v hv;have hxv:=Gj (by rw [hv] at hx;exact hx);have hr:=bA v hxv;split at hK
  ·rename_i p q hp hq;rw [hp] at hy;rw [hq] at hz;simp only [Gj hy,Gj hz] at hr;refine iL h hr ?_ (s:= .sc (.p (.b (bif v then p else q)))) trivial hK;cases v
   ·exact BF q
   ·exact BF p
  ·cases v
   ·exact iL h hr hz XK hK
   ·exact iL h hr hy hy2 hK
 ·simp at hK
theorem abd {op:UnOp}{ty:TypeId}{x:Operand}(ho:o.op= .unOp op ty x)(h:bO c Z e st a w)(hK:unK op (aF c st x) (λs=>bh c st o.dst s K)=some r):Rd P c Z K r e a w o (λ_=>True):=by
 obtain ⟨hx,_⟩:=h.eval x;generalize aF c st x=s at hx hK;unfold unK at hK;split at hK
 ·refine iL h ?_ (BF _) trivial hK;simp [execOp,ho,Gj hx,Op.unary]
 ·refine iL h ?_ (sU _ _) trivial hK;simp [execOp,ho,kX hx,Op.unary,ad7]
 ·simp at hK
end
end Dn
/-
  The type table; numbers, texts, places, loads. Conditions: none.
-/
namespace Dn
open Go
def G4:List Kd->Nat
 |[]=>0
 | .h::r=>32+G4 r
 |_::r=>1+G4 r
def rU (ti:Nat->Option TI)(P:Program)(I:TI)(z:Option Value):TypeDesc->Prop
 | .struct fs=>I.st=true/\I.ch=[]/\(0<I.size/\G4 I.lay=I.size)/\fs.toList.map (·.offset)=I.ES/\fs.toList.map (·.type)=I.UT/\ (∀(k:Nat) (f:Field),fs[k]? =some f-> ∃J,ti f.type=some J/\J.ch=[]/\0<J.size)/\ ∃cs,z=some (.agg cs)/\uJ I.zero cs.toList=true/\cs.size=I.size
 | .tuple ts=>I.ch=ts.toList/\I.ch≠[]/\I.lay=[]/\I.st=false
 | .slice el=>I.st=false/\I.ch=[]/\I.size=1/\I.elem=el/\(∃E,ti el=some E/\E.ch=[]/\0<E.size)/\z=some (.slice none 0 0)/\I.zero=[.nil]/\(∃k,I.lay=[k]/\k= .l)
 | .array n el=>I.st=false/\I.ch=[]/\I.size=32/\n=32/\I.elem=el/\(∃i,P.underlying el=some (.int .u8)/\P.info? el=some i/\i.size=1)/\I.lay=[.h]/\I.zero=[.hs kv.zero]/\z=some (.agg (a8 kv.zero).toArray)
 | .bool=>I.st=false/\I.ch=[]/\I.size=1/\I.lay=[.b]/\I.zero=[.p (.b false)]/\z=some (.bool false)
 | .int k=>I.st=false/\I.ch=[]/\I.size=1/\I.lay=[.i k]/\I.zero=[.p (.i k 0)]/\z=some (.int k 0)
 | .string=>I.st=false/\I.ch=[]/\I.size=1/\I.lay=[.s]/\I.zero=[.p (.s [])]/\ ∃b:ByteArray,z=some (.string b)/\b.data.toList=[]
 |_=>I.st=false/\I.ch=[]/\I.size=1/\I.lay=[.raw]/\ ∃v,z=some v/\v.oneCell'=true/\uJ I.zero [v]=true
def oa (ti:Nat->Option TI)(P:Program)(t:Nat)(I:TI):Prop:=∃d i,P.underlying t=some d/\P.info? t=some i/\(I.ch=[]->i.size=I.size/\i.bytes=I.bytes)/\rU ti P I i.zero d
def fZ (P:Program)(ti:Nat->Option TI):Prop:= ∀t I,ti t=some I->oa ti P t I
section
variable {P:Program}{c:Ctx}{Z:bu}{e:Env}{st:St}{a:Act}{w:World}{R:Type}{K:St->Option R}{r:R}{Q:Exit->Act->World->Prop}{o:Oper}
theorem dC {x:Bool}{k:Option R}(h:cQ x k=some r):x=true/\k=some r:=by
 cases x
 ·simp [cQ] at h
 ·exact ⟨rfl,h⟩
theorem kY {α:Type}{x:Option α}{k:α->Option R}(h:bd x k=some r): ∃y,x=some y/\k y=some r:=by
 cases x with
 |none=>simp [bd] at h
 |some y=>exact ⟨y,rfl,h⟩
theorem Py {l:List MV}{i:Int}{k:MV->Option R}(h:idx l i k=some r):0<=i/\ ∃y,l[i.toNat]? =some y/\k y=some r:=by
 unfold idx UU at h;by_cases hi:0<=i
 ·simp only [hi,if_true] at h;cases hl:l[i.toNat]? with
  |none=>simp [hl] at h
  |some y=>exact ⟨hi,y,rfl,by simpa [hl] using h⟩
 ·simp [hi] at h
theorem oa.agg {ti:Nat->Option TI}{t:Nat}{I:TI}(h:oa ti P t I)(hc:I.ch=[]): (∃d,P.underlying t=some d/\d.isRow=true/\(I.st=true\/I.st=false/\I.size=32))\/(∃d,P.underlying t=some d/\d.isRow=false/\I.st=false/\I.size=1):=by
 obtain ⟨d,i,h1,h2,h3,h4⟩:=h;cases d<;>simp only [rU] at h4<;>first
  |exact .inl ⟨_,h1,rfl,.inl h4.1⟩
  |exact .inl ⟨_,h1,rfl,.inr ⟨h4.1,h4.2.2.1⟩⟩
  |exact .inr ⟨_,h1,rfl,h4.1,h4.2.2.1⟩
  |exact absurd hc h4.2.1
theorem oa.info {ti:Nat->Option TI}{t:Nat}{I:TI}(h:oa ti P t I)(hc:I.ch=[]): ∃i,P.info? t=some i/\i.size=I.size/\i.bytes=I.bytes:=by obtain ⟨d,i,h1,h2,h3,h4⟩:=h;exact ⟨i,h2,h3 hc⟩
theorem aV {t:Nat}{I:TI}(h:c.tv t=some I):c.ti t=some I/\I.ch=[]:=by
 unfold Ctx.tv at h;cases hc:c.ti t with
 |none=>simp [hc] at h
 |some J=>
  cases hj:J.ch with
  |nil=>simp [hc,hj] at h;subst h;exact ⟨rfl,hj⟩
  |cons x y=>simp [hc,hj] at h
theorem RQ {s t:TypeId}{x:Operand}{I:TI}(ho:o.op= .convert s t x)(hI:c.ti t=some I)(hT:fZ P c.ti)(hs: ∃d,P.underlying s=some d){fk:Option FloatKind}(NQ: ∀k,fk=some k->P.underlying t=some (.float k))(h:bO c Z e st a w)(hK:Xm I fk (aF c st x) (λs=>bh c st o.dst s K)=some r):Rd P c Z K r e a w o (λ_=>True):=by
 obtain ⟨hx,_⟩:=h.eval x;obtain ⟨ds,lY⟩:=hs;obtain ⟨d,i,h1,h2,h3,h4⟩:=hT t I hI;generalize aF c st x=s' at hx hK;unfold Xm at hK;split at hK
 ·rename_i k k' n dB B1 hl;have hd:d= .int k:=by cases d<;>simp only [rU,hl,dB,B1] at h4<;>simp_all
  subst hd;refine iL h ?_ (sU _ _) trivial hK;simp [execOp,ho,kX hx,convert,run_underlying lY,run_underlying h1,Conv.intToInt]
 ·rename_i l dB B1 hl;have hd:d= .string:=by cases d<;>simp only [rU,hl,dB,B1] at h4<;>simp_all
  subst hd;obtain ⟨b,hb,rfl⟩:=DA hx;refine iL h ?_ (abb b) trivial hK;simp [execOp,ho,hb,convert,run_underlying lY,run_underlying h1]
 ·rename_i k x dB B1 hl;have hd:d= .int k:=by cases d<;>simp only [rU,hl,dB,B1] at h4<;>simp_all
  subst hd;obtain ⟨n,hn,hK⟩:=kY hK;obtain ⟨hr,hK⟩:=dC hK;have hr:=of_decide_eq_true hr;refine iL h ?_ (sU _ _) trivial hK;simp [execOp,ho,xv hx,convert,run_underlying lY,run_underlying h1,Conv.floatToInt,hn,hr]
 ·rename_i k n dB B1 hl;split at hK
  ·have HH:=NQ _ rfl;refine iL h ?_ (Ij _ rfl) trivial hK;simp [execOp,ho,kX hx,convert,run_underlying lY,run_underlying HH,Conv.intToFloat]
  ·simp at hK
 ·simp at hK
theorem abe {op:BinOp}{k:IntKind}{x y:Int}{m:MV}{t:TypeId}(hm:Tu op k x y=some m): ∃v,(∀w:World,(binOp op t (.int k x) (.int k y)).run P w= .ok v w)/\aa e v (.sc (.p m)):=by
 cases op<;>simp only [Tu,AT,reduceCtorEq] at hm<;>subst hm
 ·exact ⟨_,by simp [binOp,ad7],sU _ _⟩
 ·exact ⟨_,by simp [binOp,ad7],sU _ _⟩
 ·exact ⟨_,by simp [binOp,ad7],sU _ _⟩
 ·exact ⟨.int k (H0 k x y),λw=>by simp [binOp];rfl,sU _ _⟩
 ·exact ⟨.int k (bOr k x y),λw=>by simp [binOp];rfl,sU _ _⟩
 ·exact ⟨.int k (Cf k x y),λw=>by simp [binOp];rfl,sU _ _⟩
 ·refine ⟨.bool (decide (x=y)),λw=> ?_,BF _⟩;simp [binOp,adz];rfl
 ·refine ⟨.bool (!decide (x=y)),λw=> ?_,BF _⟩;simp [binOp,adz];rfl
 ·exact ⟨.bool (decide (x<y)),by simp [binOp,adz],BF _⟩
 ·exact ⟨.bool (decide (x<=y)),by simp [binOp,adz],BF _⟩
 ·exact ⟨.bool (decide (y<x)),by simp [binOp,adz],BF _⟩
 ·exact ⟨.bool (decide (y<=x)),by simp [binOp,adz],BF _⟩
theorem toList_data (b:ByteArray):b.toList=b.data.toList:=by exact ByteArray.toList_eq b
theorem abf {op:BinOp}{x y:ByteArray}{m:MV}{t:TypeId}(hm:NE op x.data.toList y.data.toList=some m): ∃v,(∀w:World,(binOp op t (.string x) (.string y)).run P w= .ok v w)/\aa e v (.sc (.p m)):=by
 have alc:(x.data.toList==y.data.toList)=decide (x.data.toList=y.data.toList):=by rw [Bool.eq_iff_iff];simp
 cases op<;>simp only [NE,AT,reduceCtorEq] at hm<;>subst hm<;> exact ⟨_,λw=>by simp only [binOp,Op.stringOp,toList_data,alc];rfl,BF _⟩
theorem U2 (b:ByteArray)(n:Nat):b[n]? =b.data.toList[n]? :=by
 by_cases h:n<b.size
 ·have h2:n<b.data.toList.length:=by simpa using h
  rw [getElem?_pos b n h,IN h2];rfl
 ·have h2: ¬n<b.data.toList.length:=by simpa using h
  rw [getElem?_neg b n h,abZ (by omega)]
theorem Cp (x:kv)(n:Nat)(h:n<32):(a8 x)[n]? =some (.int .u8 ((x.l.getD n 0).toNat:Int)):=by
 have hl:n<x.l.length:=by rw [x.h];exact h
 simp [a8,aaZ,List.getD,IN hl]
theorem ag5 {t:TypeId}{x y:Operand}{I:TI}(ho:o.op= .index t x y)(hI:c.ti t=some I)(hT:fZ P c.ti)(h:bO c Z e st a w)(hK:ixK I (aF c st x) (aF c st y) (λs=>bh c st o.dst s K)=some r):Rd P c Z K r e a w o (λ_=>True):=by
 obtain ⟨hx,_⟩:=h.eval x;obtain ⟨hy,_⟩:=h.eval y;obtain ⟨d,i,h1,h2,h3,h4⟩:=hT t I hI;generalize aF c st x=sx at hx hK;generalize aF c st y=sy at hy hK;unfold ixK at hK;split at hK
 ·rename_i l k n dB hl;have hd:d= .string:=by cases d<;>simp only [rU,hl,dB] at h4<;>simp_all
  subst hd;cases hc:decide ((0:Int)<=n/\n<(l.length:Int)) with
  |false=>simp [cQ,hc] at hK
  |true=>
   simp only [cQ,hc] at hK;obtain ⟨hn0,K9⟩:=of_decide_eq_true hc;obtain ⟨b,hb,rfl⟩:=DA hx;have dO:n.toNat<b.data.toList.length:=by omega
   refine iL h ?_ (sU .u8 ((b.data.toList.getD n.toNat 0).toNat:Int)) trivial hK;have hg:b[n.toNat]? =some (b.data.toList.getD n.toNat 0):=by rw [U2,IN dO];simp [List.getD,IN dO]
   simp [execOp,ho,hb,kX hy,Instr.index,run_underlying h1,asIntOf,hn0,hg]
 ·rename_i b k n dB hl;cases d<;>simp only [rU,hl,dB] at h4<;>first|(exfalso;simp_all;done)|skip
  rename_i len el;cases hc:decide ((0:Int)<=n/\n<32) with
  |false=>simp [cQ,hc] at hK
  |true=>
   simp only [cQ,hc] at hK;obtain ⟨hn0,K9⟩:=of_decide_eq_true hc;simp only [aa] at hx;obtain ⟨_,_,_,rfl,_,⟨ie,hu,qw,yT⟩,_⟩:=h4;refine iL h ?_ (sU .u8 ((b.l.getD n.toNat 0).toNat:Int)) trivial hK;have hg:=Cp b n.toNat (by omega);have hg':(a8 b).toArray[n.toNat]? =some (.int .u8 ((b.l.getD n.toNat 0).toNat:Int)):=by simpa using hg
   simp [execOp,ho,hx,kX hy,Instr.index,run_underlying h1,asIntOf,hn0,K9,afe,isAgg,run_underlying hu,aa1,typeInfo,qw,yT,hg,hg']
 ·simp at hK
def RR (P:Program)(ti:Nat->Option TI):Prop:= ∀t I,ti t=some I->I.ch=[]-> ∀(e:Env) (w:World) (vx vy:Value) (sx sy:Slot) (b:Bool),aa e vx sx->aa e vy sy-> eQ I.lay (aH sx)=true->eQ I.lay (aH sy)=true->mI I.st sx=true->mI I.st sy=true->jA (aH sx) (aH sy)=some b-> (∀k n k' n',sx= .sc (.p (.i k n))->sy= .sc (.p (.i k' n'))->False)->(∀l l',sx= .sc (.p (.s l))->sy= .sc (.p (.s l'))->False)-> (af3 t vx vy).run P w= .ok b w/\ ∀(x y:Operand) (op:BinOp),(eqGuard op t x y vx vy).run P w= .ok () w/\(op= .eql->binOp op t vx vy=(do pure (.bool (<-af3 t vx vy))))/\(op= .neq->binOp op t vx vy=(do pure (.bool (!(<-af3 t vx vy)))))
theorem XL {op:BinOp} {t t':TypeId}{x y:Operand}(ho:o.op= .binOp op t x y t')(h:bO c Z e st a w)(hE:RR P c.ti)(hK:ael (c.tv t) op (aF c st x) (aF c st y) (λs=>bh c st o.dst s K)=some r):Rd P c Z K r e a w o (λ_=>True):=by
 obtain ⟨hx,_⟩:=h.eval x;obtain ⟨hy,_⟩:=h.eval y;generalize hsx:aF c st x=sx at hx hK;generalize hsy:aF c st y=sy at hy hK;have bA: ∀v,(∀w:World,(binOp op t (a.eval x) (a.eval y)).run P w= .ok v w)->(∀cs,a.eval x≠ .agg cs)->a.eval x≠ .nilIface-> ∀w:World,(execOp a.eval o).run P w= .ok (.value v) w:=by
  intro v hv hna hni w;have hg:(eqGuard op t x y (a.eval x) (a.eval y)).run P w= .ok () w:=by
   generalize a.eval x=va at hna hni;generalize a.eval y=vb;have hm: ∀(u v:Value),u=va->(∀cs,u≠ .agg cs)->u≠ .nilIface->(eqGuard op t x y u v).run P w= .ok () w:=by
    intro u v _ h1 h2;cases u<;>first
     |exact absurd rfl h2
     |exact absurd rfl (h1 _)
     |(cases op<;>rfl)
   exact hm va vb rfl hna hni
  simp [execOp,ho,hg,hv]
 unfold ael at hK;split at hK
 ·rename_i k n k' n';have e1:=kX hx;have e2:=kX hy;split at hK
  ·cases hk:decide (k=k') with
   |false=>simp [hk] at hK
   |true=>
    have hk:=of_decide_eq_true hk;subst hk;simp only [decide_true,cond_true] at hK;cases hz:decide (n'=0) with
    |true=>simp [cQ,hz] at hK
    |false=>simp only [cQ,hz,aft] at hK;have hz:=of_decide_eq_false hz;refine iL h (bA _ ?_ (by simp [e1]) (by simp [e1])) (sU _ _) trivial hK;simp [binOp,e1,e2,Op.intDiv,hz]
  ·cases hk:decide (k=k') with
   |false=>simp [hk] at hK
   |true=>
    have hk:=of_decide_eq_true hk;subst hk;simp only [decide_true,cond_true] at hK;cases hz:decide (n'=0) with
    |true=>simp [cQ,hz] at hK
    |false=>simp only [cQ,hz,aft] at hK;have hz:=of_decide_eq_false hz;refine iL h (bA _ ?_ (by simp [e1]) (by simp [e1])) (sU _ _) trivial hK;simp [binOp,e1,e2,Op.intDiv,hz]
  ·cases hz:decide ((0:Int)<=n') with
   |false=>simp [cQ,hz] at hK
   |true=>
    simp only [cQ,hz] at hK;have hz:=of_decide_eq_true hz;refine iL h (bA _ ?_ (by simp [e1]) (by simp [e1])) (sU _ _) trivial hK;have: ¬n'<0:=by omega
    simp [binOp,e1,e2,Op.shift,this]
  ·cases hz:decide ((0:Int)<=n') with
   |false=>simp [cQ,hz] at hK
   |true=>
    simp only [cQ,hz] at hK;have hz:=of_decide_eq_true hz;refine iL h (bA _ ?_ (by simp [e1]) (by simp [e1])) (sU _ _) trivial hK;have: ¬n'<0:=by omega
    simp [binOp,e1,e2,Op.shift,this]
  ·cases hk:decide (k=k') with
   |false=>simp [hk] at hK
   |true=>
    have hk:=of_decide_eq_true hk;subst hk;simp only [decide_true,cond_true] at hK;cases hm:Tu op k n n' with
    |none=>simp [hm] at hK
    |some m=>simp only [hm] at hK;obtain ⟨v,hv,hr⟩:=abe (P:=P) (e:=e) (t:=t) hm;exact iL h (bA v (by rw [e1,e2];exact hv) (by simp [e1]) (by simp [e1])) hr trivial hK
 ·rename_i l l';obtain ⟨b,hb,rfl⟩:=DA hx;obtain ⟨b',G5,rfl⟩:=DA hy;split at hK
  ·obtain ⟨hz,hK⟩:=dC hK
   ·have hz:=of_decide_eq_true hz;have hr:aa e (.string (b++b')) (.sc (.p (.s (b.data.toList++b'.data.toList)))):=by have:=abb (e:=e) (b++b');simpa [ByteArray.data_append] using this
    refine iL h (bA _ ?_ (by simp [hb]) (by simp [hb])) hr trivial hK;have hs: ¬(((b.size+b'.size:Nat):Int)>IntKind.i64.max):=by
     have h1:b.size=b.data.toList.length:=by simp
     have h2:b'.size=b'.data.toList.length:=by simp
     have:IntKind.i64.max=9223372036854775807:=by decide
     rw [this];omega
    intro w;simp only [binOp,hb,G5,Op.stringOp,hs,if_false];rfl
  ·cases hm:NE op b.data.toList b'.data.toList with
   |none=>simp [hm] at hK
   |some m=>simp only [hm] at hK;obtain ⟨v,hv,hr⟩:=abf (P:=P) (e:=e) (t:=t) hm;exact iL h (bA v (by rw [hb,G5];exact hv) (by simp [hb]) (by simp [hb])) hr trivial hK
 ·have e1:=xv hx;have e2:=xv hy;obtain ⟨r',hr',hK⟩:=kY hK;refine iL h (bA _ ?_ (by simp [e1]) (by simp [e1])) (Ij (.float .f64 r') rfl) trivial hK;intro w;cases op<;>simp only [agW,reduceCtorEq] at hr'<;>simp [binOp,e1,e2,Op.floatArith,hr']
 ·rename_i K9 Ik hn3;split at hK
  ·rename_i I hI;obtain ⟨HI,zY⟩:=aV hI;cases hf:eQ I.lay (aH sx)&&eQ I.lay (aH sy)&&(mI I.st sx&&mI I.st sy) with
   |false=>simp [hf] at hK
   |true=>
    simp only [hf,cond_true] at hK;simp only [aaT] at hf;obtain ⟨hf,XM⟩:=hf;split at hK
    ·cases hm:jA (aH sx) (aH sy) with
     |none=>simp [hm] at hK
     |some b=>simp only [hm] at hK;refine iL h ?_ (BF b) trivial hK;intro w;obtain ⟨h1,h2⟩:=hE t I HI zY e w _ _ sx sy b hx hy hf.1 hf.2 XM.1 XM.2 hm K9 Ik;have:=(h2 x y .eql).1;simp [execOp,ho,this,(h2 x y .eql).2.1 rfl,h1]
    ·cases hm:jA (aH sx) (aH sy) with
     |none=>simp [hm] at hK
     |some b=>simp only [hm] at hK;refine iL h ?_ (BF (!b)) trivial hK;intro w;obtain ⟨h1,h2⟩:=hE t I HI zY e w _ _ sx sy b hx hy hf.1 hf.2 XM.1 XM.2 hm K9 Ik;have:=(h2 x y .neq).1;simp [execOp,ho,this,(h2 x y .neq).2.2 rfl,h1]
    ·simp at hK
  ·simp at hK
end
end Dn
/-
  Lengths, parts, places, loads. Conditions: none.
-/
namespace Dn
open Go
section
variable {P:Program}{c:Ctx}{Z:bu}{e:Env}{st:St}{a:Act}{w:World}{R:Type}{K:St->Option R}{r:R}{Q:Exit->Act->World->Prop}{o:Oper}
theorem cell_of {aR:Nat}{arr:Array Value}{T:TypeId}{fr:Nat×Nat}(h:w.heap[aR]? =some (.cells arr T fr))(j:Nat):w.cell? ⟨aR,j,none⟩=arr[j]? :=by simp [World.cell?,h]
theorem jC {t:TypeId}{I:TI}{aR off:Nat}{vs:List Value}(hr:oa c.ti P t I)(hc:I.ch=[])(hl:vs.length=I.size)(hm:w.rangeAt aR off vs): ((I.st=true\/I.size=32)/\ ∀w:World,w.rangeAt aR off vs->(adl t (.pointer (some ⟨aR,off,none⟩))).run P w= .ok (.agg vs.toArray) w)\/ (I.st=false/\ ∃v,vs=[v]/\ ∀w:World,w.rangeAt aR off vs->(adl t (.pointer (some ⟨aR,off,none⟩))).run P w= .ok v w):=by
 obtain ⟨i,hi,hs,_⟩:=hr.info hc;rcases hr.agg hc with ⟨d,hu,hd,hh⟩|⟨d,hu,hd,h1,h2⟩
 ·refine .inl ⟨hh.imp id (·.2),λw hm=> ?_⟩;exact run_loadAt_mid w aR off t vs d hm hu hd (by simp [hi,hs,hl])
 ·refine .inr ⟨h1,?_⟩;rw [h2] at hl;obtain ⟨v,rfl⟩:=abD.1 hl;refine ⟨v,rfl,λw hm=> ?_⟩;have pL:w.cell? ⟨aR,off,none⟩=some v:=hm 0 v rfl;have Tz:(isAgg t).run P w= .ok false w:=by unfold isAgg;rw [aeA,run_underlying hu w];cases d<;>simp_all
  simp [adl,adr,loadVar,Tz,pL]
theorem aJ.slot {vs:List Value}{l:aD}{v:Value}(h:aJ e vs l)(hv:(vs=[v]/\l.w=1)\/(v= .agg vs.toArray/\l.w=32)):aa e v (.sc l):=by
 rcases hv with ⟨rfl,hw⟩|⟨rfl,hw⟩
 ·cases l<;>simp [aa,aD.w] at hw⊢ <;>exact h
 ·cases l<;>simp [aD.w] at hw;simp only [aa];have:vs=a8 _:=h;rw [this]
theorem iM {t:TypeId}{I:TI}{cs:List aD}{aR base off:Nat}{vs:List Value}{s:Slot} {K':Slot->Option R}(hr:oa c.ti P t I)(hc:I.ch=[])(hv:aw e vs cs)(hm:w.rangeAt aR base vs)(hK:jz I cs off K'=some r): ∃v s,(∀w:World,w.rangeAt aR base vs->(adl t (.pointer (some ⟨aR,base+off,none⟩))).run P w= .ok v w)/\aa e v s/\cy st.fr s/\K' s=some r:=by
 unfold jz at hK;cases dB:I.st with
 |true=>
  simp only [dB,cond_true] at hK;cases hp:Dn.part cs off I.size with
  |none=>simp [hp] at hK
  |some ds=>
   simp only [hp] at hK;obtain ⟨v1,v2,v3,rfl,h1,h2,h3⟩:=Ml hp hv;have Rf: ∀w:World,w.rangeAt aR base (v1++v2++v3)->w.rangeAt aR (base+off) v2:=by intro w hm j v hj;have WS:j<v2.length:=(AS.1 hj).1;have:=hm (off+j) v (by rw [AI,OF (by omega),aar (by omega)];rw [show off+j-v1.length=j by omega];exact hj);rwa [<-acn] at this
   rcases jC hr hc h2 (Rf w hm) with ⟨_,bA⟩|⟨hf,_⟩
   ·refine ⟨_,.ag ds,λw hm=>bA w (Rf w hm),?_,trivial,hK⟩;simp only [aa];exact ⟨_,rfl,by simpa using h3⟩
   ·rw [dB] at hf;cases hf
 |false=>
  simp only [dB,cond_false] at hK;cases hp:cut cs off with
  |none=>simp [hp] at hK
  |some ds=>
   cases ds with
   |nil=>simp [hp] at hK
   |cons l ls=>
    simp only [hp] at hK;cases hb:bB l.w I.size with
    |false=>simp [hb] at hK
    |true=>
     simp only [hb,cond_true] at hK;have hw:=sh hb;obtain ⟨v1,v2,rfl,h1,h2⟩:=zW hp hv;obtain ⟨u,u2,rfl,h3,h4⟩:=h2;have Rf: ∀w:World,w.rangeAt aR base (v1++(u++u2))->w.rangeAt aR (base+off) u:=by intro w hm j v hj;have WS:j<u.length:=(AS.1 hj).1;have:=hm (off+j) v (by rw [OF (by omega),aar (by omega)];rw [show off+j-v1.length=j by omega];exact hj);rwa [<-acn] at this
     rcases jC hr hc (by rw [h3.width,hw]) (Rf w hm) with ⟨hh,bA⟩|⟨_,v,RS,bA⟩
     ·refine ⟨_,.sc l,λw hm=>bA w (Rf w hm),h3.slot (.inr ⟨rfl,?_⟩),trivial,hK⟩;rcases hh with hh|hh
      ·rw [dB] at hh;cases hh
      ·rw [hw,hh]
     ·refine ⟨_,.sc l,λw hm=>bA w (Rf w hm),h3.slot (.inl ⟨RS,?_⟩),trivial,hK⟩;rw [<-h3.width,RS];rfl
theorem aP.at {key:Nat->Nat} {φ:Ph}{size:Nat}{xs:List MV}: ∀{cs:List Value} {i:Nat} {x:MV},aP key φ size cs xs->xs[i]? =some x-> ∃a v b,cs=a++v++b/\a.length=i *size/\v.length=size/\gk key φ v x:=by
 induction xs with
 |nil=>intro cs i x _ hx;simp at hx
 |cons y ys ih=>
  intro cs i x h hx;obtain ⟨v,q,rfl,hl,hr,he⟩:=h;cases i with
  |zero=>simp at hx;subst hx;exact ⟨[],v,q,by simp,by simp,hl,hr⟩
  |succ i=>obtain ⟨a,u,b,rfl,h1,h2,h3⟩:=ih he (by simpa using hx);exact ⟨v++a,u,b,by simp,by simp [hl,h1,abj,aeB],h2,h3⟩
theorem fe.leaves {ms:List MV}: ∀{vs:List Value} {cs:List aD},fe e.key e.φ vs ms->bC cs=some ms->(∀m,aD.p m∈cs->m.one=true)->aw e vs cs:=by
 induction ms with
 |nil=>
  intro vs cs h hc _;cases h;cases cs with
  |nil=>rfl
  |cons l r=>cases hr:bC r<;>cases l<;>simp [bC,hr] at hc
 |cons m ms ih=>
  intro vs cs h hc ho;cases cs with
  |nil=>simp [bC] at hc
  |cons l r=>
   generalize yU:vs=La at h;cases h with
   |cons v _ vs _ h1 h2=>
   subst yU;cases hr:bC r with
   |none=>cases l<;>simp [bC,hr] at hc
   |some q=>
    have cw: ∀m,aD.p m∈r->m.one=true:=λm hm=>ho m (by simp [hm]);cases l<;>simp [bC,hr] at hc
    ·obtain ⟨rfl,rfl⟩:=hc;exact ⟨v,vs,rfl,⟨ho _ (by simp),h1⟩,ih h2 hr cw⟩
    ·obtain ⟨rfl,rfl⟩:=hc;refine ⟨v,vs,rfl,?_,ih h2 hr cw⟩;generalize hv:v=v' at h1;cases h1;exact rfl
theorem gk.Il {vs:List Value}{x:MV}{b:Bool}{cs:List aD}(h:gk e.key e.φ vs x)(hc:Ia b x cs):aw e vs cs:=by
 obtain ⟨⟨ms,h1,h2⟩,h3⟩:=hc;cases b with
 |true=>cases ms<;>simp [vA] at h2<;>subst h2<;>(generalize hv:vs=v' at h;cases h;subst hv;rename_i hh;exact hh.leaves h1 h3)
 |false=>
  cases ms with
  |nil=>simp [vA] at h2
  |cons m ms=>
   cases ms with
   |cons y ys=>simp [vA] at h2
   |nil=>simp [vA] at h2;subst h2;have:fe e.key e.φ (vs++[]) [m]:= .cons vs m [] [] h .nil;rw [List.append_nil] at this;exact this.leaves h1 h3
theorem XN {t:TypeId}{x:Operand}{I:TI}{cs:List aD}{off:Nat}(ho:o.op= .load t x)(hI:c.tv t=some I)(hT:fZ P c.ti)(h:bO c Z e st a w)(KQ:aF c st x= .rp cs off)(hK:jz I cs off (λs=>bh c st o.dst s K)=some r):Rd P c Z K r e a w o (λw'=> ∀b q v,e.φ b q=some v->w'.cell? ⟨b,q,none⟩=some v):=by
 obtain ⟨hx,pK⟩:=h.eval x;obtain ⟨kR,hc⟩:=aV hI;have hr:=hT t I kR;rw [KQ] at hx;simp only [aa] at hx;obtain ⟨aR,q,vs,hx,pG,_,E5⟩:=hx;have hm: ∀w':World,(∀b q v,e.φ b q=some v->w'.cell? ⟨b,q,none⟩=some v)->w'.rangeAt aR q vs:=by intro w' hi j v hj;have WS:j<vs.length:=(AS.1 hj).1;exact hi _ _ _ (by rw [E5 j WS];exact hj)
 obtain ⟨v,s,h1,h2,h3,h4⟩:=iM (st:=st) (s:= .skip) hr hc pG (hm w h.iK) hK;refine RP (λw' hi=> ?_) h (.refl _ _ _) (.of h2 h3) h4;simp [execOp,ho,hx,h1 w' (hm w' hi)]
theorem abg {t:TypeId}{x:Operand}{I:TI}(ho:o.op= .load t x)(hI:c.tv t=some I)(hT:fZ P c.ti)(h:bO c Z e st a w)(hK:ldK st I (aF c st x) (λs=>bh c st o.dst s K)=some r):Rd P c Z K r e a w o (cL w):=by
 obtain ⟨hx,pK⟩:=h.eval x;obtain ⟨kR,hc⟩:=aV hI;have hr:=hT t I kR;have abh: ∀v s,(∀w':World,cL w w'->(adl t (a.eval x)).run P w'= .ok v w')->aa e v s->cy st.fr s->bh c st o.dst s K=some r->Rd P c Z K r e a w o (cL w):=by intro v s h1 h2 h3 h4;refine RP (λw' hg=> ?_) h (.refl _ _ _) (.of h2 h3) h4;simp [execOp,ho,h1 w' hg]
 have keep: ∀{w':World} {aR off:Nat} {vs:List Value},cL w w'->w.rangeAt aR off vs->w'.rangeAt aR off vs:=by intro w' aR off vs hg hm j v hj;exact hg.cell (hm j v hj)
 generalize aF c st x=s at hx hK pK;unfold ldK at hK;split at hK
 ·rename_i root off;simp only [aa] at hx;have nb:=h.slot root;split at hK
  ·rename_i cs um;rw [um] at nb;have uL:eI cs=false:=by cases hq:eI cs<;>simp_all
   simp only [uL,cond_false] at hK;obtain ⟨_,vB⟩:=nb;obtain ⟨arr,T,ct,pG⟩:=vB.cells uL;have hm:w.rangeAt (e.B root) 0 arr.toList:=by intro j v hj;rw [aaX,cell_of ct];simpa using hj
   obtain ⟨v,s,h1,h2,h3,h4⟩:=iM (st:=st) (s:= .skip) hr hc pG hm hK;rw [aaX] at h1;exact abh v s (λw' hg=>by rw [hx];exact h1 w' (keep hg hm)) h2 h3 h4
  ·simp at hK
 ·rename_i cs off;simp only [aa] at hx;obtain ⟨aR,q,vs,hx,pG,_,E5⟩:=hx;have hm:w.rangeAt aR q vs:=by intro j v hj;have WS:j<vs.length:=(AS.1 hj).1;exact h.iK _ _ _ (by rw [E5 j WS];exact hj)
  obtain ⟨v,s,h1,h2,h3,h4⟩:=iM (st:=st) (s:= .skip) hr hc pG hm hK;exact abh v s (λw' hg=>by rw [hx];exact h1 w' (keep hg hm)) h2 h3 h4
 ·rename_i f i off b cs;cases hf:aE st.aM f with
  |none=>simp [hf] at hK
  |some o'=>
   simp only [hf] at hK;simp only [aa] at hx;obtain ⟨aR,cap,hE,⟨x,hxi,hel⟩,hx⟩:=hx o' (by rw [h.m];exact hf);obtain ⟨J,cells,hJ,hJc,dk,gJ,_⟩:=(h.gG f o' hf).row;obtain ⟨p1,v1,p2,rfl,NR,zm,et⟩:=gJ.at hxi;have pG:=et.Il hel;rw [hE] at dk;have pL:=dk.cells (g:=aR) rfl;have hm:w.rangeAt aR (i *zQ cs) v1:=by intro j v hj;have WS:j<v1.length:=(AS.1 hj).1;have:=pL (i *J.size+j) v (by rw [AI,OF (by omega),aar (by omega)];rw [show i *J.size+j-p1.length=j by omega];exact hj);rw [abk,aaX] at this;rw [<-pG.width,zm];exact this
   obtain ⟨v,s,h1,h2,h3,h4⟩:=iM (st:=st) (s:= .skip) hr hc pG hm hK;exact abh v s (λw' hg=>by rw [hx];exact h1 w' (keep hg hm)) h2 h3 h4
 ·rename_i root off i;simp only [aa] at hx;obtain ⟨hx,RT⟩:=hx;have nb:=h.slot root;cases hb:I.st||!bB I.size 1 with
  |true=>simp [hb] at hK
  |false=>
   simp only [hb,cond_false] at hK;simp only [aa3,adu] at hb;have nM:=sh hb.2;split at hK
   ·rename_i cs um;rw [um] at nb;have uL:eI cs=false:=by cases hq:eI cs<;>simp_all
    simp only [uL,cond_false] at hK;obtain ⟨_,vB⟩:=nb;obtain ⟨arr,T,ct,pG⟩:=vB.cells uL;split at hK
    ·rename_i b ls aeC;obtain ⟨v1,v2,ald,h1,h2⟩:=zW aeC pG;obtain ⟨u,u2,rfl,h3,h4⟩:=h2;have h3:u=a8 b:=h3;subst h3;have hg:=Cp b i RT;have hlen:=cS b;have hm:w.rangeAt (e.B root) (off+i) [.int .u8 ((b.l.getD i 0).toNat:Int)]:=by
      intro j v hj;cases j with
      |succ j=>simp at hj
      |zero=>
       simp at hj;rw [adm,cell_of ct];have:arr[off+i]? =arr.toList[off+i]? :=by simp
       rw [this,ald,OF (by omega),aar (by omega),show off+i-v1.length=i by omega,hg,<-hj];simp [List.getD]
     rcases jC hr hc (by simp [nM]) hm with ⟨hh,_⟩|⟨_,v,RS,bA⟩
     ·rcases hh with hh|hh
      ·rw [hb.1] at hh;cases hh
      ·omega
     ·simp at RS;subst RS;exact abh _ _ (λw' hg=>by rw [hx];exact bA w' (keep hg hm)) (sU _ _) trivial hK
    ·simp at hK
   ·simp at hK
 ·simp at hK
theorem U3 {t:TypeId}{x:Operand}{f:Nat}{I:TI}(ho:o.op= .fieldAddr t x f)(hI:c.tv t=some I)(hT:fZ P c.ti)(h:bO c Z e st a w)(hK:Xo st I f (aF c st x) (λs=>bh c st o.dst s K)=some r):Rd P c Z K r e a w o (λ_=>True):=by
 obtain ⟨hx,pK⟩:=h.eval x;obtain ⟨kR,hc⟩:=aV hI;obtain ⟨d,i,h1,h2,h3,h4⟩:=hT t I kR;have key: ∀q aR off,I.st=true->I.ES[f]? =some q->a.eval x= .pointer (some ⟨aR,off,none⟩)-> ∀w:World,(execOp a.eval o).run P w= .ok (.value (.pointer (some ⟨aR,off+q,none⟩))) w:=by
  intro q aR off dB hq hv w;cases d<;>simp only [rU] at h4;case struct fs=>
   obtain ⟨_,_,_,ho1,cw,TA,_⟩:=h4;rw [<-ho1,aaZ] at hq;cases hf:fs.toList[f]? with
   |none=>simp [hf] at hq
   |some fl=>
    simp [hf] at hq;subst hq;have XO:fs[f]? =some fl:=by simpa using hf
    obtain ⟨J,hJ,hJc,hJs⟩:=TA f fl XO;obtain ⟨ij,hij,hs,_⟩:=(hT _ _ hJ).info hJc;have hz:ij.size≠0:=by omega
    simp [execOp,ho,hv,Instr.fieldAt,run_underlying h1,XO,adr,fieldPlace,aa1,typeInfo,hij,hz,abk]
  all_goals (exfalso;simp_all)
 generalize aF c st x=s at hx hK pK;unfold Xo at hK;split at hK
 ·rename_i q r' o' dB hq;simp only [aa] at hx;refine iL (s:= .ptr r' (o'+q)) h (key q _ _ dB hq hx) ?_ pK hK;simp only [aa]
 ·rename_i q cs o' dB hq;simp only [aa] at hx;obtain ⟨aR,b,vs,hx,hh⟩:=hx;refine iL (s:= .rp cs (o'+q)) h (key q _ _ dB hq hx) ?_ trivial hK;simp only [aa];exact ⟨aR,b,vs,by rw [acn],hh⟩
 ·rename_i q g i' o' b cs dB hq;cases hf:aE st.aM g with
  |none=>simp [hf] at hK
  |some w'=>simp only [hf] at hK;simp only [aa] at hx;obtain ⟨aR,cap,h5,h6,h7⟩:=hx w' (by rw [h.m];exact hf);refine iL (s:= .ep g i' (o'+q) b cs) h (key q _ _ dB hq h7) ?_ trivial hK;simp only [aa];intro o2 cw;rw [h.m,hf] at cw;cases cw;exact ⟨aR,cap,h5,h6,by rw [acn]⟩
 ·simp at hK
theorem U4 {cs:List aD}: ∀{vs:List Value} {k:Nat} {l:aD},aw e vs cs->Dv cs k=some l-> ∃v,vs[k]? =some v/\aa e v (.sc l):=by
 induction cs with
 |nil=>intro vs k l _ hk;simp [Dv] at hk
 |cons x xs ih=>
  intro vs k l hr hk;obtain ⟨v0,q,rfl,h1,h2⟩:=hr;have hw:=h1.width;have hx:x.w=1/\(k=0->x=l)/\(∀j,k=j+1->Dv xs j=some l)/\ ∀y,x≠ .hs y:=by cases x<;>cases k<;>simp [Dv,aD.w] at hk⊢ <;>exact hk
  obtain ⟨w1,w2,w3,w4⟩:=hx;rw [w1] at hw;obtain ⟨u,rfl⟩:=abD.1 hw;cases k with
  |zero=>have:=w2 rfl;subst this;refine ⟨u,rfl,?_⟩;cases x<;>first|(simp [aa];done)|exact absurd rfl (w4 _)|(simp only [aa];exact h1)
  |succ j=>obtain ⟨v,g1,g2⟩:=ih h2 (w3 j rfl);exact ⟨v,by simpa using g1,g2⟩
theorem aeD {x:Operand}{k:Nat}(ho:o.op= .extract x k)(h:bO c Z e st a w)(hK:aeq (aF c st x) k (λs=>bh c st o.dst s K)=some r):Rd P c Z K r e a w o (λ_=>True):=by
 obtain ⟨hx,pK⟩:=h.eval x;generalize aF c st x=s at hx hK;unfold aeq at hK;split at hK
 ·rename_i cs;simp only [aa] at hx;obtain ⟨arr,hv,hs⟩:=hx;cases hk:Dv cs k with
  |none=>simp [hk] at hK
  |some l=>
   simp only [hk] at hK;obtain ⟨v,KR,h1⟩:=U4 hs hk;have hv3:arr[k]? =some v:=by simpa using KR
   refine iL h ?_ h1 trivial hK;simp [execOp,ho,hv,Instr.extract,hv3]
 ·rename_i vs;simp only [aa] at hx;obtain ⟨arr,hv,hs⟩:=hx;cases hk:vs[k]? with
  |none=>simp [hk] at hK
  |some s=>
   simp only [hk] at hK;have: ∀(k:Nat) (vs:List Slot) (l:List Value),kz e l vs->vs[k]? =some s-> ∃v,l[k]? =some v/\aa e v s/\B0 s=true:=by
    intro k;induction k with
    |zero=>
     intro vs l hl hk;cases vs with
     |nil=>simp at hk
     |cons y ys=>simp at hk;subst hk;simp only [kz] at hl;obtain ⟨v,q,rfl,h1,h2,_⟩:=hl;exact ⟨v,rfl,h1,h2⟩
    |succ k ih=>
     intro vs l hl hk;cases vs with
     |nil=>simp at hk
     |cons y ys=>simp only [kz] at hl;obtain ⟨v,q,rfl,_,_,h3⟩:=hl;obtain ⟨u,h4,h5⟩:=ih ys q h3 (by simpa using hk);exact ⟨u,by simpa using h4,h5⟩
   obtain ⟨v,KR,h1,h2⟩:=this k vs arr.toList hs hk;have hv3:arr[k]? =some v:=by simpa using KR
   refine iL h ?_ h1 ?_ hK
   ·simp [execOp,ho,hv,Instr.extract,hv3]
   ·cases s<;>simp [B0] at h2<;>trivial
 ·simp at hK
end
end Dn
/-
  Operations that make memory: variables. Conditions: none.
-/
namespace Dn
open Go
section
variable {P:Program}{c:Ctx}{Z:bu}{e:Env}{st:St}{a:Act} {w w':World}{R:Type}{K:St->Option R}{r:R}{Q:Exit->Act->World->Prop}{o:Oper}
theorem cL.refl (w:World):cL w w:=⟨aaC _,λ_ _=>rfl,.refl _⟩
theorem cL.alloc (w:World)(cs:Array Value)(t:TypeId):cL w (w.alloc (.cells cs t)):=⟨by simp,λb hb=>rS w _ b hb,.alloc w cs t⟩
theorem cL.ale (g:cL w w'){base:Nat}{t:TypeId}{size:Nat}{v:Value}{n:Nat}{xs:List Value}(h:w.ownsRow base t size v n xs):w'.ownsRow base t size v n xs:=by
 refine ⟨h.1,?_⟩;rcases h.2 with h|⟨b,cap,cT,h1,h2,h3,h4⟩
 ·exact .inl h
 ·exact .inr ⟨b,cap,cT,h1,h2,by rw [g.pF b (aN h3)];exact h3,h4⟩
theorem uK.grow (g:cL w w'){aR:Nat}{cs:List aD}(h:uK Z e w aR cs):uK Z e w' aR cs:=by obtain ⟨o,h1,h2⟩:=h.obj;exact ⟨h.b7,⟨o,by rw [g.pF _ (aN h1)];exact h1,h2⟩,h.free⟩
theorem cj.grow (g:cL w w'){v:Value}{f:ox}(h:cj c Z e w v f):cj c Z e w' v f:=by obtain ⟨I,cells,h1,h2,h3,h4,h5⟩:=h.row;exact ⟨I,cells,h1,h2,g.ale h3,h4,h5⟩
theorem bO.grow (g:cL w w')(h:bO c Z e st a w):bO c Z e st a w':=by refine ⟨h.defers,h.size,h.m,h.key,h.nodup,?_,h.root,λf o ho=>(h.gG f o ho).grow g,h.bb,h.bf,h.ff,λb o v hv=>g.cell (h.iK b o v hv),λb hb=>h.b7 b (adM g.size hb)⟩;intro t;have hs:=h.slot t;generalize al st.fr t=s at hs;cases s<;>simp only [bS] at hs⊢ <;>first|exact hs|exact ⟨hs.1,hs.2.grow g⟩
theorem cL.trans (g:cL w w')(hz: ∀b,w.heap.size<=b->Z b) (φ:Ph):Trans Z φ w φ w':=⟨.refl φ,λb _ hl=>g.pF b hl,λ_ _ _=>rfl,g.size,g.rest⟩
theorem U5 {l:aD}{vs:List Value}(h:XC l vs=true):aJ e vs l:=by
 unfold XC at h;split at h
 ·simp at h;subst h;exact ⟨rfl,.b _⟩
 ·simp at h;obtain ⟨rfl,rfl⟩:=h;exact ⟨rfl,.i _ _⟩
 ·simp at h;subst h;exact ⟨rfl,.s _⟩
 ·split at h
  ·exact ⟨rfl,.raw _ rfl⟩
  ·exact ⟨rfl,.raw _ rfl⟩
  ·exact ⟨rfl,.raw _ rfl⟩
  ·simp at h
 ·rfl
 ·exact ⟨_,rfl,h⟩
 ·rename_i x;simp only [aaT,beq_iff_eq] at h;obtain ⟨h1,h2⟩:=h;show vs=a8 x;apply List.ext_getElem?;intro j;by_cases hj:j<32
  ·rw [Cp x j hj];have hjv:j<vs.length:=by omega
   have Lb:j<x.l.length:=by rw [x.h];exact hj
   rw [aeN] at h2;have hm:(vs[j],x.l[j])∈vs.zip x.l:=ad8.2 ⟨j,by simp;omega,by simp⟩;have:=h2 _ hm;rw [IN hjv];dsimp only at this;split at this
   ·rename_i n hn;rw [hn,of_decide_eq_true this];simp [List.getD,IN Lb]
   ·simp at this
  ·rw [abZ (by omega),abZ (by rw [cS];omega)]
 ·simp at h
theorem lD {ls:List aD}: ∀{vs:List Value},uJ ls vs=true->aw e vs ls:=by
 induction ls with
 |nil=>intro vs h;simpa [uJ,aw] using h
 |cons l r ih=>intro vs h;simp only [uJ,aaT] at h;exact ⟨vs.take l.w,vs.drop l.w,by simp,U5 h.1.1,ih h.1.2⟩
theorem aw.zZ {cs:List aD}{vs:List Value}(h:aw e vs cs):eI cs=false:=by
 cases hm:eI cs with
 |false=>rfl
 |true=>obtain ⟨s,ms,rfl⟩:=NN hm;obtain ⟨_,_,_,h1,_⟩:=h;exact h1.elim
theorem Io (h:bO c Z e st a w)(off:Nat):e.φ w.heap.size off=none:=by
 cases hp:e.φ w.heap.size off with
 |none=>rfl
 |some v=>have:=aaY w _ (h.iK _ _ _ hp);simp at this
theorem Bb (h:bO c Z e st a w):(∀t fL,al st.fr t= .box fL->e.B t≠w.heap.size)/\(∀f o,aE st.aM f=some o->(e.E f).ownBlock≠some w.heap.size):=by
 refine ⟨?_,?_⟩
 ·intro t fL ht;have hs:=h.slot t;rw [ht] at hs;obtain ⟨o,h1,_⟩:=hs.2.obj;have:=aN h1;omega
 ·intro f o ho hk;obtain ⟨I,cells,h1,h2,h3,h4,h5⟩:=(h.gG f o ho).row;rcases h3.2 with ⟨hv,_⟩|⟨g,cap,cT,hv,_,hg,_⟩
  ·rw [hv] at hk;simp [aas] at hk
  ·rw [hv] at hk;simp only [aas,AT] at hk;have:=aN hg;omega
theorem TB {cells:Array Value}{T:TypeId}{cs:List aD}(h:bO c Z e st a w)(hl:aw e cells.toList cs): rq Z e (w.alloc (.cells cells T)) st (.pointer (some ⟨w.heap.size,0,none⟩)) (.box cs):=by exact ⟨w.heap.size,by rw [sS hl.zZ],⟨h.b7 _ (aaC _),⟨_,gj w _,rfl,hl⟩,Io h⟩,(Bb h).1,(Bb h).2⟩
theorem XP {t:TypeId}{I:TI}(ho:o.op= .alloc t)(hI:c.tv t=some I)(hT:fZ P c.ti)(h:bO c Z e st a w)(hK:bh c st o.dst (.box I.zero) K=some r):o.wp P a w (λa' w'=>cL w w'/\Out c Z K r e.φ w a' w') Q:=by
 obtain ⟨kR,hc⟩:=aV hI;obtain ⟨d,i,h1,h2,h3,h4⟩:=hT t I kR;have hz: ∃z,i.zero=some z/\aw e z.cells.toList I.zero:=by
  cases d<;>simp only [rU] at h4;case struct fs=>obtain ⟨_,_,_,_,_,_,cs,hz,hl,_⟩:=h4;exact ⟨_,hz,by simpa [aaR] using lD hl⟩
  case tuple ts=>exact absurd hc h4.2.1
  case slice el=>obtain ⟨_,_,_,_,_,hz,hl,_⟩:=h4;exact ⟨_,hz,by rw [hl];exact ⟨[.slice none 0 0],[],rfl,rfl,rfl⟩⟩
  case array n el=>obtain ⟨_,_,_,_,_,_,_,hl,hz⟩:=h4;exact ⟨_,hz,by rw [hl];exact ⟨a8 kv.zero,[],by simp [aaR],rfl,rfl⟩⟩
  case bool=>obtain ⟨_,_,_,_,hl,hz⟩:=h4;exact ⟨_,hz,by rw [hl];exact ⟨[.bool false],[],rfl,⟨rfl,.b _⟩,rfl⟩⟩
  case int k=>obtain ⟨_,_,_,_,hl,hz⟩:=h4;exact ⟨_,hz,by rw [hl];exact ⟨[.int k 0],[],rfl,⟨rfl,.i _ _⟩,rfl⟩⟩
  case string=>obtain ⟨_,_,_,_,hl,b,hz,hb⟩:=h4;refine ⟨_,hz,by rw [hl];refine ⟨[.string b],[],rfl,⟨rfl,?_⟩,rfl⟩;rw [<-hb];exact .s b⟩
  all_goals
   obtain ⟨_,_,_,_,v,hz,hv,hl⟩:=h4;refine ⟨v,hz,?_⟩;have:v.cells.toList=[v]:=by cases v<;>simp_all [aaR,No]
   rw [this];exact lD hl
 obtain ⟨z,hz,hl⟩:=hz;have bA:(execOp a.eval o).run P w= .ok (.value (.pointer (some ⟨w.heap.size,0,none⟩))) (w.alloc (.cells z.cells t)):=by simp [execOp,ho,Instr.alloc,zeroValue,typeInfo,h2,hz,newVar,newRow,newObj,Sem.run]
 exact RO (.alloc w _ _) bA (h.grow (.alloc w _ _)) ((cL.alloc w _ _).trans h.b7 _) (TB h hl) hK
theorem aeE {t:TypeId}{x:Operand}{I:TI}(ho:o.op= .box t x)(h:bO c Z e st a w)(hK:aen I (aF c st x) (λs=>bh c st o.dst s K)=some r):o.wp P a w (λa' w'=>cL w w'/\Out c Z K r e.φ w a' w') Q:=by
 obtain ⟨hx,pK⟩:=h.eval x;have bA:(execOp a.eval o).run P w= .ok (.value (.pointer (some ⟨w.heap.size,0,none⟩))) (w.alloc (.cells (a.eval x).cells t)):=by simp [execOp,ho,Instr.box,newVar,newRow,newObj,Sem.run]
 have go: ∀cs,aw e (a.eval x).cells.toList cs->bh c st o.dst (.box cs) K=some r->o.wp P a w (λa' w'=>cL w w'/\Out c Z K r e.φ w a' w') Q:=λcs h1 h2=>RO (.alloc w _ _) bA (h.grow (.alloc w _ _)) ((cL.alloc w _ _).trans h.b7 _) (TB h h1) h2;generalize aF c st x=s at hx hK pK;unfold aen at hK;split at hK
 ·rename_i l;cases hb:I.st||Pm l||!bB l.w I.size with
  |true=>simp [hb] at hK
  |false=>
   simp only [hb,cond_false] at hK;refine go [l] ?_ hK;cases l with
   |un=>simp [Pm] at hb
   |hs y=>simp only [aa] at hx;rw [hx];exact ⟨a8 y,[],by simp [aaR],rfl,rfl⟩
   |p m=>
    simp only [aa] at hx;have:(a.eval x).cells.toList=[a.eval x]:=by have:=hx.cells (a.eval x) (by simp);generalize a.eval x=v at this;cases v<;>simp_all [aaR,No]
    rw [this];exact ⟨_,[],rfl,hx,rfl⟩
   |nil=>simp only [aa] at hx;have U6:[a.eval x]=[aa4 none 0 0]:=hx;simp at U6;rw [U6];exact ⟨[.slice none 0 0],[],rfl,rfl,rfl⟩
   |mp s es=>simp [Pm] at hb
   |own f=>
    simp only [aa] at hx;have:(a.eval x).cells.toList=[a.eval x]:=by have:=hx.cells (a.eval x) (by simp);generalize a.eval x=v at this;cases v<;>simp_all [aaR,No]
    rw [this];exact ⟨_,[],rfl,hx,rfl⟩
 ·rename_i cs;cases hb:I.st&&!wi cs&&bB (zQ cs) I.size with
  |false=>simp [hb] at hK
  |true=>simp only [hb,cond_true] at hK;simp only [aa] at hx;obtain ⟨arr,hx,hl⟩:=hx;exact go cs (by rw [hx];exact hl) hK
 ·simp at hK
end
end Dn
/-
  Stores into variables. Conditions: none.
-/
namespace Dn
open Go
section
variable {P:Program}{c:Ctx}{Z:bu}{e:Env}{st:St}{a:Act} {w w':World}{R:Type}{K:St->Option R}{r:R}{Q:Exit->Act->World->Prop}{o:Oper}
theorem setRow_size (w:World)(g:Nat)(cs:Array Value):(w.setRow g cs).heap.size=w.heap.size:=by simp [World.setRow]
structure WT (g:Nat) (w w':World):Prop where
 size:w'.heap.size=w.heap.size
 other: ∀b,b≠g->w'.heap[b]? =w.heap[b]?
 rest:Rest w w'
theorem WT.setRow (w:World)(g:Nat)(cs:Array Value):WT g w (w.setRow g cs):=⟨setRow_size _ _ _,λb hb=>setRow_other _ _ _ _ hb,.setRow _ _ _⟩
theorem Pz {g:Nat}(hc:WT g w w'){base:Nat}{t:TypeId}{size:Nat}{v:Value}{n:Nat}{xs:List Value}(df:v.ownBlock≠some g)(h:w.ownsRow base t size v n xs):w'.ownsRow base t size v n xs:=by
 refine ⟨h.1,?_⟩;rcases h.2 with h|⟨b,cap,cT,h1,h2,h3,h4⟩
 ·exact .inl h
 ·refine .inr ⟨b,cap,cT,h1,h2,?_,h4⟩;rw [hc.other _ (by intro e;subst e;subst h1;exact df rfl)];exact h3
theorem RU {g:Nat}{cs:Array Value}{base:Nat}{t:TypeId}{size:Nat}{v:Value}{n:Nat}{xs:List Value}(df:v.ownBlock≠some g)(h:w.ownsRow base t size v n xs):(w.setRow g cs).ownsRow base t size v n xs:=Pz (.setRow w g cs) df h
theorem bO.setObj {root:Nat}{cs fL:List aD} {o':Obj}{pT:Fr}(h:bO c Z e st a w)(hf:al st.fr root= .box cs)(O9:WT (e.B root) w w')(mL:w'.heap[e.B root]? =some o')(hl:jZ e o' fL)(hmm:lB fL=lB cs)(Ip: ∀t,al pT t=if t=root then .box fL else al st.fr t)(hnd:(aK pT).Nodup):bO c Z e {st with fr:=pT} a w':=by
 have nM:=O9.size;have oQ:=h.slot root;rw [hf] at oQ;refine ⟨h.defers,h.size,h.m,h.key,hnd,?_,?_,?_,?_,?_,h.ff,?_,λb hb=>h.b7 b (by omega)⟩
 ·intro t;show bS Z e _ t _ (al pT t);rw [Ip];by_cases ht:t=root
  ·subst ht;simp only [if_true,bS];exact ⟨oQ.1.lB hmm,⟨oQ.2.b7,⟨o',mL,hl⟩,oQ.2.free⟩⟩
  ·simp only [ht,if_false];have hs:=h.slot t;have EQ:=h.bb t root;generalize hg:al st.fr t=s at hs EQ;cases s<;>simp only [bS] at hs⊢ <;>try exact hs
   rename_i BE;refine ⟨hs.1,hs.2.b7,?_,hs.2.free⟩;obtain ⟨o2,h1,h2⟩:=hs.2.obj;exact ⟨o2,by rw [O9.other _ (EQ BE cs rfl hf ht)];exact h1,h2⟩
 ·intro t;show cy pT (al pT t);rw [Ip];by_cases ht:t=root
  ·simp [ht,cy]
  ·simp only [ht,if_false];have hr:=h.root t;generalize al st.fr t=s at hr;cases s<;>simp only [cy] at hr⊢ <;>(rw [Ip];split<;>simp_all [cO])
 ·intro f o ho;obtain ⟨I,cells,h1,h2,h3,h4,h5⟩:=(h.gG f o ho).row;exact ⟨I,cells,h1,h2,Pz O9 (h.bf root cs f o hf ho) h3,h4,h5⟩
 ·intro t t' c1 c2 h1 h2 df;have h1:al pT t= .box c1:=h1;have h2:al pT t'= .box c2:=h2;rw [Ip] at h1 h2;by_cases ht:t=root
  ·by_cases Co:t'=root
   ·exact absurd (ht.trans Co.symm) df
   ·simp only [Co,if_false] at h2;rw [ht];exact h.bb root t' cs c2 hf h2 (by rw [<-ht];exact df)
  ·simp only [ht,if_false] at h1;by_cases Co:t'=root
   ·rw [Co];exact h.bb t root c1 cs h1 hf ht
   ·simp only [Co,if_false] at h2;exact h.bb t t' c1 c2 h1 h2 df
 ·intro t c1 f o h1 h2;have h1:al pT t= .box c1:=h1;rw [Ip] at h1;by_cases ht:t=root
  ·rw [ht];exact h.bf root cs f o hf h2
  ·simp only [ht,if_false] at h1;exact h.bf t c1 f o h1 h2
 ·intro b o v hv;have df:b≠e.B root:=by intro eb;subst eb;rw [oQ.2.free] at hv;cases hv
  have:=h.iK b o v hv;rw [aa2 (O9.other _ df)];exact this
theorem bO.XQ {root:Nat}{cs fL:List aD}{arr Lc:Array Value}{T:TypeId}{pT:Fr}(h:bO c Z e st a w)(hf:al st.fr root= .box cs)(ct:w.heap[e.B root]? =some (.cells arr T (0,0)))(hl:aw e Lc.toList fL)(Ip: ∀t,al pT t=if t=root then .box fL else al st.fr t)(hnd:(aK pT).Nodup):bO c Z e {st with fr:=pT} a (w.setRow (e.B root) Lc):=by
 have oQ:=h.slot root;rw [hf] at oQ;have hm:eI cs=false:=by obtain ⟨o,h1,h2⟩:=oQ.2.obj;rw [ct] at h1;cases h1;exact h2.2.zZ
 exact h.setObj hf (.setRow _ _ _) (setRow_heap _ _ _ _ _ _ ct) ⟨rfl,hl⟩ (by rw [xu hm,xu hl.zZ]) Ip hnd
theorem Trans.chg {g:Nat} (φ:Ph)(O9:WT g w w')(hz:Z g):Trans Z φ w φ w':=⟨.refl φ,λb hb _=>O9.other _ (by intro e;subst e;exact hb hz),λ_ _ _=>rfl,by rw [O9.size];exact aaC _,O9.rest⟩
theorem Trans.setRow {g:Nat}{Lc:Array Value} (φ:Ph)(hz:Z g):Trans Z φ w φ (w.setRow g Lc):=⟨.refl φ,λb hb _=>setRow_other _ _ _ _ (by intro e;subst e;exact hb hz),λ_ _ _=>rfl,by rw [setRow_size];exact aaC _,.setRow _ _ _⟩
theorem B2 {v:Value}{s:Slot}(h:aa e v s)(hu:wi (aH s)=false)(df:aH s≠[]):aw e v.cells.toList (aH s):=by
 cases s with
 |sc l=>
  simp only [aH] at hu⊢;have ic: ∀l,aJ e [v] l->aw e v.cells.toList [l]:=by
   intro l hl;have hc:=hl.cells v (by simp);have:v.cells.toList=[v]:=by cases v<;>simp_all [aaR,No]
   rw [this];exact ⟨[v],[],rfl,hl,rfl⟩
  cases l with
  |un=>simp [wi,Pm] at hu
  |hs x=>simp only [aa] at h;rw [h];exact ⟨a8 x,[],by simp [aaR],rfl,rfl⟩
  |p m=>simp only [aa] at h;exact ic _ h
  |nil=>simp only [aa] at h;exact ic _ h
  |mp s es=>simp [wi,Pm] at hu
  |own f=>simp only [aa] at h;exact ic _ h
 |ag cs=>simp only [aa] at h;obtain ⟨arr,rfl,hl⟩:=h;exact hl
 |_=>exact absurd rfl df
theorem ny {t:TypeId}{I:TI}{aR off:Nat}{v:Value}{arr:Array Value}{T:TypeId}(hr:oa c.ti P t I)(hc:I.ch=[])(hs:v.cells.toList.length=I.size)(ic: ∀u∈v.cells.toList,u.oneCell'=true)(ct:w.heap[aR]? =some (.cells arr T (0,0)))(zn:off+I.size<=arr.size): (ady t (.pointer (some ⟨aR,off,none⟩)) v).run P w= .ok () (w.setRow aR (arr.toList.take off++v.cells.toList++arr.toList.drop (off+I.size)).toArray):=by
 obtain ⟨i,hi,nM,_⟩:=hr.info hc;have h1:=run_storeCells_at P aR off T v.cells.toList 0 arr w ct (by omega) ic;rw [adm,hs] at h1;have h2:v.cells.size=i.size:=by rw [nM,<-hs];simp
 simp [ady,adr,storeVar,aa1,typeInfo,hi,h2,h1]
theorem U7 {t:TypeId}{I:TI}{root off:Nat}{v:Value}{cs ls fL:List aD} {K':St->Option R}(uL:eI cs=false)(hr:oa c.ti P t I)(hc:I.ch=[])(h:bO c Z e st a w)(hf:al st.fr root= .box cs)(hv:aw e v.cells.toList ls)(G6:zQ ls=I.size)(hp:putAt cs off ls=some fL)(hK:wr st root (.box fL) K'=some r): ∃w' bT,(ady t (.pointer (some ⟨e.B root,off,none⟩)) v).run P w= .ok () w'/\bO c Z e bT a w'/\Trans Z e.φ w e.φ w'/\K' bT=some r:=by
 have nb:=h.slot root;rw [hf] at nb;obtain ⟨arr,T,ct,pG⟩:=nb.2.cells uL;obtain ⟨v1,v2,v3,he,h1,h2,h3⟩:=xr hp pG hv;have hlen:=hv.width;have nM:arr.size=v1.length+v2.length+v3.length:=by
  have:arr.toList.length=(v1++v2++v3).length:=by rw [he]
  simp at this;omega
 have bA:=ny (P:=P) (w:=w) (aR:=e.B root) (off:=off) hr hc (by rw [hlen,G6]) hv.cells ct (by omega);have ag6:arr.toList.take off=v1:=by rw [he,AI,acP h1]
 have ag7:arr.toList.drop (off+I.size)=v3:=by rw [he];exact abv (by rw [By];omega)
 rw [ag6,ag7] at bA;unfold wr at hK;cases hn:bn st.cu root with
 |true=>simp [hn] at hK
 |false=>simp only [hn,cond_false,force_eq,ma] at hK;refine ⟨_,_,bA,?_,.setRow _ (O7 nb.2.b7 (by rw [<-h.defers.2.1,<-bk,hn];simp)),hK⟩;exact h.XQ hf ct (by simpa using h3) (λt=>by rw [bL]) (dZ h.nodup)
end
end Dn
/-
  Owned slices that are shared from now on; what is handed to a callee. Conditions: none.
-/
namespace Dn
open Go
section
variable {P:Program}{c:Ctx}{Z:bu}{e:Env}{st:St}{a:Act} {w w':World}{R:Type}{K:St->Option R}{r:R}{Q:Exit->Act->World->Prop}{o:Oper}
theorem aP.mono {key:Nat->Nat} {φ φ':Ph}(h:fY φ φ'){size:Nat}{xs:List MV}: ∀{cs:List Value},aP key φ size cs xs->aP key φ' size cs xs:=by
 induction xs with
 |nil=>intro cs hh;exact hh
 |cons x xs ih=>intro cs hh;obtain ⟨v,q,rfl,h1,h2,h3⟩:=hh;exact ⟨v,q,rfl,h1,h2.mono h,ih h3⟩
theorem aP.length {key:Nat->Nat} {φ:Ph}{size:Nat}{xs:List MV}: ∀{cs:List Value},aP key φ size cs xs->cs.length=xs.length *size:=by
 induction xs with
 |nil=>intro cs hh;cases hh;simp
 |cons x xs ih=>intro cs hh;obtain ⟨v,q,rfl,h1,h2,h3⟩:=hh;simp [h1,ih h3,abj,aeB]
theorem RV {m:List (Nat×ox)}{f:Nat}{o:ox}(h:aE m f=some o):bN m f o=m:=by
 induction m with
 |nil=>simp [aE] at h
 |cons p r ih=>
  obtain ⟨k,x⟩:=p;simp only [aE,bN,eY] at h⊢;by_cases hk:k=f
  ·subst hk;simp at h;subst h;simp
  ·simp only [hk,decide_false,cond_false] at h⊢;rw [ih h]
def jR (φ:Ph)(v:Value)(cells:List Value):Ph:=λb off=>if v.ownBlock=some b/\off<cells.length then cells[off]? else φ b off
theorem Gk {base:Nat}{t:TypeId}{size n:Nat}{v:Value}{xs ys:List Value}(h:w.ownsRow base t size v n xs) (h':w.ownsRow base t size v n ys){b:Nat}(hb:v.ownBlock=some b):xs=ys:=by
 rcases h.2 with ⟨h1,_⟩|⟨g,cap,cT,h1,_,h2,_,_,_,h3⟩
 ·rw [h1] at hb;simp [aas] at hb
 ·rcases h'.2 with ⟨HH,_⟩|⟨g',XR,mM,HH,_,Ld,_,_,_,h3'⟩
  ·rw [HH] at hb;simp [aas] at hb
  ·rw [h1] at HH;simp at HH;obtain ⟨rfl,rfl⟩:=HH;rw [h2] at Ld;simp at Ld;subst Ld;rw [<-h3,<-h3']
theorem freeze {f:Nat}{o:ox}(h:bO c Z e st a w)(hf:aE st.aM f=some o)(hp:f∉Z.cq\/o.dW=true): ∃φ',fY e.φ φ'/\(∀b off,¬Z b->φ' b off=e.φ b off)/\bO c Z {e with φ:=φ',m:=bN e.m f ⟨o.ty,true,o.xs⟩} {st with aM:=bN st.aM f ⟨o.ty,true,o.xs⟩} a w/\ gk e.key φ' [e.E f] (.list o.xs)/\ (∀I cells,c.ti o.ty=some I->w.ownsRow 0 o.ty I.size (e.E f) o.xs.length cells-> ∀aR,(e.E f).ownBlock=some aR-> ∀j,j<cells.length->φ' aR j=cells[j]?):=by
 obtain ⟨I,cells,hI,Rg,dk,gJ,hz⟩:=(h.gG f o hf).row;have hlen:=gJ.length;have hle:fY e.φ (jR e.φ (e.E f) cells):=by
  intro b off v hv;unfold jR;by_cases hc:(e.E f).ownBlock=some b/\off<cells.length
  ·simp only [hc,and_self,if_true];obtain ⟨hb,ho⟩:=hc;rcases dk.2 with ⟨hE,_⟩|⟨g,cap,cT,hE,_,hg,hn,B1,um,Mp⟩
   ·rw [hE] at hb;simp [aas] at hb
   ·rw [hE] at hb;simp only [aas,AT] at hb;subst hb;have:=h.iK _ _ _ hv;rw [cell_of hg] at this;rw [<-Mp,aa9];have cw:off<o.xs.length *I.size:=by omega
    simp only [cw,if_true];simpa using this
  ·simp only [hc,if_false];exact hv
 have iu: ∀b off v,jR e.φ (e.E f) cells b off=some v->w.cell? ⟨b,off,none⟩=some v:=by
  intro b off v hv;unfold jR at hv;by_cases hc:(e.E f).ownBlock=some b/\off<cells.length
  ·simp only [hc,and_self,if_true] at hv;rcases dk.2 with ⟨hE,_⟩|⟨g,cap,cT,hE,_,hg,hn,B1,um,Mp⟩
   ·rw [hE] at hc;simp [aas] at hc
   ·rw [hE] at hc;simp only [aas,AT] at hc;obtain ⟨hb,ho⟩:=hc;subst hb;rw [cell_of hg];rw [<-Mp,aa9] at hv;have cw:off<o.xs.length *I.size:=by omega
    simp only [cw,if_true] at hv;simpa using hv
  ·simp only [hc,if_false] at hv;exact h.iK _ _ _ hv
 have ag8: ∀b off,¬Z b->jR e.φ (e.E f) cells b off=e.φ b off:=by
  intro b off hb;unfold jR;by_cases hc:(e.E f).ownBlock=some b/\off<cells.length
  ·by_cases z6:f∈Z.cq
   ·simp only [hc,and_self,if_true];exact (((hz b hc.1).2.2 z6 (hp.resolve_left (λhn=>hn z6))) off hc.2).symm
   ·exact absurd (O7 (hz b hc.1).1 z6) hb
  ·simp [hc]
 have RW: ∀b off,(e.E f).ownBlock≠some b->jR e.φ (e.E f) cells b off=e.φ b off:=by intro b off hb;unfold jR;simp [hb]
 have rT:jQ (λ_=>True) (λ_=>True) e {e with φ:=jR e.φ (e.E f) cells,m:=bN e.m f ⟨o.ty,true,o.xs⟩}:=by
  refine ⟨rfl,hle,λ_ _=>rfl,?_⟩;intro f2 o2 cw _;have cw:aE (bN e.m f ⟨o.ty,true,o.xs⟩) f2=some o2:=cw;rw [bg] at cw;by_cases eJ:f2=f
  ·subst eJ;simp at cw;subst cw;exact ⟨o,by rw [h.m];exact hf,rfl,rfl⟩
  ·simp only [eJ,if_false] at cw;exact ⟨o2,cw,rfl,rfl⟩
 have z7: ∀s:Slot,fg (λ_=>True) (λ_=>True) s:=by intro s;cases s<;>simp [fg,je]
 refine ⟨_,hle,ag8,?_,?_,?_⟩;rotate_right
 ·intro I' XS hI' ag9 aR hb j hj;rw [hI] at hI';cases hI';have hcc:=Gk dk ag9 hb;subst hcc;unfold jR;simp [hb,hj]
 ·refine ⟨h.defers,h.size,by show bN e.m f _=bN st.aM f _;rw [h.m],h.key,h.nodup,?_,h.root,?_,h.bb,?_,?_,iu,h.b7⟩
  ·intro t;have hs:=h.slot t;have hbf:=h.bf t;show bS Z _ w t _ (al st.fr t);generalize al st.fr t=s at hs hbf;cases s<;>simp only [bS] at hs⊢ <;>try exact hs.on rT (z7 _)
   rename_i cs;refine ⟨hs.1,hs.2.b7,?_,?_⟩
   ·obtain ⟨o2,h1,h2⟩:=hs.2.obj;exact ⟨o2,h1,h2.on rT (λl _ f _=>trivial)⟩
   ·intro off;show jR e.φ (e.E f) cells (e.B t) off=none;rw [RW _ _ (hbf cs f o rfl hf)];exact hs.2.free off
  ·intro f2 o2 cw;have cw:aE (bN st.aM f ⟨o.ty,true,o.xs⟩) f2=some o2:=cw;rw [bg] at cw;by_cases eJ:f2=f
   ·subst eJ;simp at cw;subst cw;refine ⟨I,cells,hI,Rg,dk,gJ.mono hle,?_⟩;intro aR hb;refine ⟨(hz aR hb).1,?_,?_⟩;rotate_left
    ·intro _ _ j hj;show jR e.φ (e.E f2) cells aR j=_;have hb:(e.E f2).ownBlock=some aR:=hb;unfold jR;simp [hb,hj]
    intro off u hu;refine ⟨rfl,?_⟩;have hu:jR e.φ (e.E f2) cells aR off=some u:=hu;unfold jR at hu;by_cases hc:(e.E f2).ownBlock=some aR/\off<cells.length
    ·show off<o.xs.length *I.size;rw [<-hlen];exact hc.2
    ·simp only [hc,if_false] at hu;exact ((hz aR hb).2.1 off u hu).2
   ·simp only [eJ,if_false] at cw;obtain ⟨I2,vC,h1,h2,h3,h4,h5⟩:=(h.gG f2 o2 cw).row;refine ⟨I2,vC,h1,h2,h3,h4.mono hle,?_⟩;intro aR hb;refine ⟨(h5 aR hb).1,?_,?_⟩;rotate_left
    ·intro g1 g2 j hj;show jR e.φ (e.E f) cells aR j=_;rw [RW _ _ (λhbf=>eJ (h.ff f2 f o2 o aR cw hf hb hbf))];exact (h5 aR hb).2.2 g1 g2 j hj
    intro off u hu;have hu:jR e.φ (e.E f) cells aR off=some u:=hu;rw [RW _ _ (λhbf=>eJ (h.ff f2 f o2 o aR cw hf hb hbf))] at hu;exact (h5 aR hb).2.1 off u hu
  ·intro t cs f2 o2 h1 h2;have h2:aE (bN st.aM f ⟨o.ty,true,o.xs⟩) f2=some o2:=h2;rw [bg] at h2;by_cases eJ:f2=f
   ·subst eJ;exact h.bf t cs f2 o h1 hf
   ·simp only [eJ,if_false] at h2;exact h.bf t cs f2 o2 h1 h2
  ·intro f1 f2 o1 o2 k h1 h2 h3 h4;have h1:aE (bN st.aM f ⟨o.ty,true,o.xs⟩) f1=some o1:=h1;have h2:aE (bN st.aM f ⟨o.ty,true,o.xs⟩) f2=some o2:=h2;rw [bg] at h1 h2;have g1: ∃o',aE st.aM f1=some o':=by
    by_cases eJ:f1=f
    ·subst eJ;exact ⟨o,hf⟩
    ·simp only [eJ,if_false] at h1;exact ⟨o1,h1⟩
   have g2: ∃o',aE st.aM f2=some o':=by
    by_cases eJ:f2=f
    ·subst eJ;exact ⟨o,hf⟩
    ·simp only [eJ,if_false] at h2;exact ⟨o2,h2⟩
   obtain ⟨q1,g1⟩:=g1;obtain ⟨q2,g2⟩:=g2;exact h.ff f1 f2 q1 q2 k g1 g2 h3 h4
 ·have z8:=gJ.mono hle;rcases dk.2 with ⟨hE,hn⟩|⟨g,cap,cT,hE,_,hg,hn,B1,um,Mp⟩
  ·have hx:o.xs=[]:=BY hn;have hv:[e.E f]=[aa4 none 0 0]:=by rw [hE]
   rw [hv,hx];exact .list none 0 [] 0 0 0 (λ_=>[]) (by simp) (by simp) (by simp) (by simp) (by simp)
  ·have hv:[e.E f]=[aa4 (some ⟨g,0,none⟩) o.xs.length cap]:=by rw [hE]
   rw [hv];have G7: ∀i (hi:i<o.xs.length),∃v1,v1.length=I.size/\gk e.key (jR e.φ (e.E f) cells) v1 o.xs[i]/\(cells.drop (i *I.size)).take I.size=v1:=by intro i hi;obtain ⟨p1,v1,p2,he,NR,zm,et⟩:=z8.at (IN hi);refine ⟨v1,zm,et,?_⟩;rw [he,AI,<-NR,afz,<-zm,adv]
   refine .list (some ⟨g,0,none⟩) cap o.xs g 0 I.size (λi=>(cells.drop (i *I.size)).take I.size) hn (λ_=>rfl) ?_ ?_ ?_
   ·intro i hi;obtain ⟨v1,h1,_,h3⟩:=G7 i hi;rw [h3,h1]
   ·intro i j hi hj;have hb:(e.E f).ownBlock=some g:=by rw [hE];rfl
    have Aa:i *I.size+j<cells.length:=by
     rw [hlen];calc i *I.size+j<i *I.size+I.size:=by omega
      _=(i+1) *I.size:=by rw [abj]
      _<=o.xs.length *I.size:=aaU _ hi
    rw [aaX];unfold jR;simp only [hb,Aa,and_self,if_true];rw [aa9];simp only [hj,if_true,aez]
   ·intro i hi;obtain ⟨v1,_,h2,h3⟩:=G7 i hi;rw [h3];exact h2
end
end Dn
/-
  Arguments and results. Conditions: none.
-/
namespace Dn
open Go
structure Ext (Z:Nat->Prop) (e e':Env):Prop where
 on:jQ (λ_=>True) (λ_=>True) e e'
 b7: ∀b off,¬Z b->e'.φ b off=e.φ b off
theorem Ext.refl (Z:Nat->Prop)(e:Env):Ext Z e e:=⟨⟨rfl,.refl _,λ_ _=>rfl,λf o h _=>⟨o,h,rfl,rfl⟩⟩,λ_ _ _=>rfl⟩
theorem Ext.trans {Z:Nat->Prop} {e e' e'':Env}(h:Ext Z e e') (h':Ext Z e' e''):Ext Z e e'':=by refine ⟨⟨h'.on.key.trans h.on.key,h.on.φ.trans h'.on.φ,λr hr=>(h'.on.B r hr).trans (h.on.B r hr),?_⟩,λb off hb=>(h'.b7 b off hb).trans (h.b7 b off hb)⟩;intro f o ho _;obtain ⟨o1,h1,h2,h3⟩:=h'.on.gG f o ho trivial;obtain ⟨o2,h4,h5,h6⟩:=h.on.gG f o1 h1 trivial;exact ⟨o2,h4,h2.trans h5,h3.trans h6⟩
theorem Ext.tr {Z:Nat->Prop} {e e':Env}{w:World}(h:Ext Z e e'):Trans Z e.φ w e'.φ w:=⟨h.on.φ,λ_ _ _=>rfl,h.b7,aaC _,.refl _⟩
theorem dF (s:Slot):fg (λ_=>True) (λ_=>True) s:=by cases s<;>simp [fg,je]
def aY (key:Nat->Nat) (φ:Ph):List Value->List MV->Prop
 |vs,[]=>vs=[]
 |vs,m::ms=> ∃v r,vs=v::r/\cV key φ v m/\aY key φ r ms
theorem aY.mono {key:Nat->Nat} {φ φ':Ph}(h:fY φ φ'){ms:List MV}: ∀{vs:List Value},aY key φ vs ms->aY key φ' vs ms:=by
 induction ms with
 |nil=>intro vs hh;exact hh
 |cons m ms ih=>intro vs hh;obtain ⟨v,r,rfl,h1,h2⟩:=hh;exact ⟨v,r,rfl,h1.mono h,ih h2⟩
theorem aY.append {key:Nat->Nat} {φ:Ph}{ms ns:List MV}: ∀{vs us:List Value},aY key φ vs ms->aY key φ us ns->aY key φ (vs++us) (ms++ns):=by
 induction ms with
 |nil=>intro vs us h h';cases h;simpa using h'
 |cons m ms ih=>intro vs us h h';obtain ⟨v,r,rfl,h1,h2⟩:=h;exact ⟨v,r++us,rfl,h1,ih h2 h'⟩
section
variable {P:Program}{c:Ctx}{Z:bu}{e:Env}{st:St}{a:Act} {w w':World}{R:Type}{r:R}{Q:Exit->Act->World->Prop}{o:Oper}
theorem lE {l:aD}{vs:List Value}{K:MV->St->Option R}(h:bO c Z e st a w)(hl:aJ e vs l)(hK:nK st l K=some r): ∃e' bT m,bO c Z e' bT a w/\Ext Z e e'/\bT.fr=st.fr/\gk e'.key e'.φ vs m/\K m bT=some r/\(sP l=true->e'=e/\bT=st)/\(∀f,l= .own f-> ∃o,aE st.aM f=some o/\m= .list o.xs)/\((∀x,l≠ .hs x)->m.one=true):=by
 cases l with
 |un=>simp [nK] at hK
 |p m=>exact ⟨e,st,m,h,.refl _ _,rfl,hl.2,hK,λ_=>⟨rfl,rfl⟩,by simp,λ_=>hl.1⟩
 |hs x=>have hl:vs=a8 x:=hl;subst hl;exact ⟨e,st,.h x,h,.refl _ _,rfl,.h x,hK,λ_=>⟨rfl,rfl⟩,by simp,λhx=>absurd rfl (hx x)⟩
 |nil=>have hl:vs=[.slice none 0 0]:=hl;subst hl;exact ⟨e,st,.list [],h,.refl _ _,rfl,.list none 0 [] 0 0 0 (λ_=>[]) (by simp) (by simp) (by simp) (by simp) (by simp),hK,λhp=>by simp [sP] at hp,λ_ he=>(by cases he),λ_=>rfl⟩
 |mp s es=>simp [nK] at hK
 |own f=>
  simp only [nK] at hK;cases hf:aE st.aM f with
  |none=>simp [hf] at hK
  |some o=>
   simp only [hf] at hK;have z6:f∉Z.cq\/o.dW=true:=by
    cases hz:o.dW with
    |true=>exact .inr rfl
    |false=>refine .inl (λhm=> ?_);rw [<-h.defers.2.2.1,<-bk] at hm;simp [hz,hm] at hK
   obtain ⟨φ',h1,h2,h3,h4,_⟩:=freeze h hf z6;obtain ⟨v,rfl,hv,hE⟩:=hl;have hE:=hE o (by rw [h.m];exact hf);subst hE;have abl:Ext Z e {e with φ:=φ',m:=bN e.m f ⟨o.ty,true,o.xs⟩}:=by
    refine ⟨⟨rfl,h1,λ_ _=>rfl,?_⟩,h2⟩;intro f2 o2 cw _;have cw:aE (bN e.m f ⟨o.ty,true,o.xs⟩) f2=some o2:=cw;rw [bg] at cw;by_cases eJ:f2=f
    ·subst eJ;simp at cw;subst cw;exact ⟨o,by rw [h.m];exact hf,rfl,rfl⟩
    ·simp only [eJ,if_false] at cw;exact ⟨o2,cw,rfl,rfl⟩
   cases hz:o.dW with
   |true=>
    simp only [hz,cond_true] at hK;have ahb:bN st.aM f ⟨o.ty,true,o.xs⟩=st.aM:=by rw [<-hz];exact RV hf
    rw [ahb] at h3;exact ⟨_,st,.list o.xs,h3,abl,rfl,h4,hK,λhp=>by simp [sP] at hp,λ_ he=>by cases he;exact ⟨o,hf,rfl⟩,λ_=>rfl⟩
   |false=>
    simp only [hz,cond_false] at hK;cases hn:bn st.cq f with
    |true=>simp [hn] at hK
    |false=>simp only [hn,cond_false,oP] at hK;exact ⟨_,_,.list o.xs,h3,abl,rfl,h4,hK,λhp=>by simp [sP] at hp,λ_ he=>by cases he;exact ⟨o,hf,rfl⟩,λ_=>rfl⟩
theorem nd {ls:List aD}: ∀{e:Env} {st:St} {vs:List Value} {K:List MV->St->Option R},bO c Z e st a w->aw e vs ls->qP st ls K=some r-> ∃e' bT ms,bO c Z e' bT a w/\Ext Z e e'/\bT.fr=st.fr/\fe e'.key e'.φ vs ms/\K ms bT=some r/\(gZ ls=true->e'=e/\bT=st)/\(∀ps,rn ls ms=some ps->aw e' vs ps/\gZ ps=true):=by
 induction ls with
 |nil=>intro e st vs K h hl hK;cases hl;exact ⟨e,st,[],h,.refl _ _,rfl,.nil,hK,λ_=>⟨rfl,rfl⟩,λps hp=>by simp [rn] at hp;subst hp;exact ⟨rfl,rfl⟩⟩
 |cons l ls ih=>
  intro e st vs K h hl hK;obtain ⟨v,u,rfl,h1,h2⟩:=hl;simp only [qP] at hK;obtain ⟨e1,dc,m,yT,Dl,E6,Cq,rV,U8,_,ic⟩:=lE h h1 hK;obtain ⟨e2,ek,ms,Lf,PA,abm,Mo,zo,KT,Ab⟩:=ih yT (h2.on Dl.on (λl _ f _=>trivial)) rV;have hrm:gk e2.key e2.φ v m:=by have:=Cq.mono PA.on.φ;rw [<-PA.on.key] at this;exact this
  refine ⟨e2,ek,m::ms,Lf,Dl.trans PA,abm.trans E6,.cons v m u ms ?_ Mo,zo,?_,?_⟩
  ·have:=Cq.mono PA.on.φ;rw [<-PA.on.key] at this;exact this
  ·intro hp;simp only [gZ,aaT] at hp;obtain ⟨q1,q2⟩:=U8 hp.1;obtain ⟨q3,q4⟩:=KT hp.2;exact ⟨q3.trans q1,q4.trans q2⟩
  ·intro ps hp;cases hq:rn ls ms with
   |none=>cases l<;>simp [rn,hq] at hp
   |some q=>
    obtain ⟨g1,g2⟩:=Ab q hq;by_cases hh: ∃x,l= .hs x
    ·obtain ⟨x,rfl⟩:=hh;simp [rn,hq] at hp;subst hp;exact ⟨⟨v,u,rfl,h1,g1⟩,by simp [gZ,sP,g2]⟩
    ·have ic:=ic (λx hx=>hh ⟨x,hx⟩);have NS:ps= .p m::q:=by cases l<;>simp [rn,hq] at hp<;>first|exact hp.symm|exact absurd ⟨_,rfl⟩ hh
     subst NS;exact ⟨⟨v,u,rfl,⟨ic,hrm⟩,g1⟩,by simp [gZ,sP,g2]⟩
theorem oc {s:Slot}{v:Value}{K:MV->St->Option R}(h:bO c Z e st a w)(hl:aa e v s)(hK:mH st s K=some r): ∃e' bT m,bO c Z e' bT a w/\Ext Z e e'/\bT.fr=st.fr/\cV e'.key e'.φ v m/\K m bT=some r:=by
 cases s with
 |sc l=>
  simp only [mH] at hK;cases l with
  |un=>simp [nK] at hK
  |hs x=>simp only [aa] at hl;exact ⟨e,st,.h x,h,.refl _ _,rfl,by simpa [cV,a8] using hl,hK⟩
  |p m=>simp only [aa] at hl;refine ⟨e,st,m,h,.refl _ _,rfl,?_,hK⟩;obtain ⟨h1,h2⟩:=hl;cases m<;>simp [MV.one] at h1<;>exact ⟨rfl,h2⟩
  |nil=>simp only [aa] at hl;obtain ⟨e',bT,m,q1,q2,q3,q4,q5,q6,_⟩:=lE h hl hK;have hl:[v]=[aa4 none 0 0]:=hl;refine ⟨e,st,.list [],h,.refl _ _,rfl,⟨rfl,?_⟩,hK⟩;rw [hl];exact .list none 0 [] 0 0 0 (λ_=>[]) (by simp) (by simp) (by simp) (by simp) (by simp)
  |mp s es=>simp [nK] at hK
  |own f=>
   simp only [aa] at hl;simp only [nK] at hK;cases hf:aE st.aM f with
   |none=>simp [hf] at hK
   |some o=>obtain ⟨e',bT,m,q1,q2,q3,q4,q5,q6,q7⟩:=lE (l:= .own f) h hl (by simpa only [nK,hf] using hK);obtain ⟨o2,_,rfl⟩:=q7.1 f rfl;exact ⟨e',bT,.list o2.xs,q1,q2,q3,⟨rfl,q4⟩,q5⟩
 |ag cs=>simp only [aa] at hl;obtain ⟨arr,hv,hl⟩:=hl;simp only [mH] at hK;obtain ⟨e',bT,ms,q1,q2,q3,q4,q5,_⟩:=nd h hl hK;exact ⟨e',bT,.agg ms,q1,q2,q3,⟨arr,hv,q4⟩,q5⟩
 |rp cs off=>
  simp only [aa] at hl;obtain ⟨aR,q,vs,hv,pG,hp,E5⟩:=hl;simp only [mH] at hK;cases hb:bB off 0 with
  |false=>simp [hb] at hK
  |true=>simp only [hb,cond_true] at hK;have h0:=sh hb;subst h0;obtain ⟨e',bT,ms,q1,q2,q3,q4,q5,q6⟩:=nd h pG hK;obtain ⟨rfl,rfl⟩:=q6.1 hp;refine ⟨e',bT,.rp ms,q1,q2,q3,⟨rfl,?_⟩,q5⟩;rw [hv];exact .rp aR (q+0) vs ms q4 (by simpa using E5)
 |_=>simp [mH] at hK
theorem rW {ss:List Slot}: ∀{e:Env} {st:St} {vs:List Value} {K:List MV->St->Option R},bO c Z e st a w->(∃f:Unit->List Value,f ()=vs/\vs.length=ss.length/\ ∀(i:Nat) (v:Value) (s:Slot),vs[i]? =some v->ss[i]? =some s->aa e v s)-> xk st ss K=some r-> ∃e' bT ms,bO c Z e' bT a w/\Ext Z e e'/\bT.fr=st.fr/\aY e'.key e'.φ vs ms/\K ms bT=some r:=by
 induction ss with
 |nil=>intro e st vs K h hl hK;obtain ⟨f,_,hlen,_⟩:=hl;have:=BY hlen;subst this;exact ⟨e,st,[],h,.refl _ _,rfl,rfl,hK⟩
 |cons s ss ih=>
  intro e st vs K h hl hK;obtain ⟨f,_,hlen,et⟩:=hl;cases vs with
  |nil=>simp at hlen
  |cons v vs=>simp only [xk] at hK;obtain ⟨e1,dc,m,q1,q2,q3,q4,q5⟩:=oc h (et 0 v s rfl rfl) hK;obtain ⟨e2,ek,ms,p1,p2,p3,p4,p5⟩:=ih (vs:=vs) q1 ⟨λ_=>vs,rfl,by simpa using hlen,λi v s h1 h2=>(et (i+1) v s (by simpa using h1) (by simpa using h2)).on q2.on (dF s)⟩ q5;refine ⟨e2,ek,m::ms,p1,q2.trans p2,p3.trans q3,⟨v,vs,rfl,?_,p4⟩,p5⟩;have:=q4.mono p2.on.φ;rw [<-p2.on.key] at this;exact this
end
end Dn
/-
  Parts of structs, lengths, the least and the greatest, places of elements. Conditions: none.
-/
namespace Dn
open Go
section
variable {P:Program}{c:Ctx}{Z:bu}{e:Env}{st:St}{a:Act} {w w':World}{R:Type}{K:St->Option R}{r:R}{Q:Exit->Act->World->Prop}{o:Oper}
theorem Mq {t:TypeId}{I:TI}(hr:oa c.ti P t I)(hc:I.ch=[]): ((I.st=true\/I.size=32)/\ ∀w:World,(isAgg t).run P w= .ok true w)\/(I.st=false/\I.size=1/\ ∀w:World,(isAgg t).run P w= .ok false w):=by
 rcases hr.agg hc with ⟨d,hu,hd,hh⟩|⟨d,hu,hd,h1,h2⟩
 ·refine .inl ⟨hh.imp id (·.2),λw=> ?_⟩;unfold isAgg;rw [aeA,run_underlying hu w];cases d<;>simp_all [TypeDesc.isRow]
 ·refine .inr ⟨h1,h2,λw=> ?_⟩;unfold isAgg;rw [aeA,run_underlying hu w];cases d<;>simp_all [TypeDesc.isRow]
theorem XT {t:TypeId}{I:TI}{cs:List aD}{off:Nat}{arr:Array Value} {K':Slot->Option R}(hr:oa c.ti P t I)(hc:I.ch=[])(hv:aw e arr.toList cs)(hK:jz I cs off K'=some r): ∃v s,(∀w:World,(afe t arr off).run P w= .ok v w)/\aa e v s/\cy st.fr s/\K' s=some r:=by
 obtain ⟨i,hi,hs,_⟩:=hr.info hc;have ext: ∀v1 v2 v3:List Value,arr.toList=v1++v2++v3->v1.length=off->(arr.extract off (off+v2.length))=v2.toArray:=by intro v1 v2 v3 h1 h2;apply abu.1;rw [aed,h1,adx,AI,<-h2,afz];simp
 unfold jz at hK;cases dB:I.st with
 |true=>
  simp only [dB,cond_true] at hK;cases hp:Dn.part cs off I.size with
  |none=>simp [hp] at hK
  |some ds=>
   simp only [hp] at hK;obtain ⟨v1,v2,v3,h0,h1,h2,h3⟩:=Ml hp hv;rcases Mq (P:=P) hr hc with ⟨_,Tz⟩|⟨hf,_⟩
   ·refine ⟨.agg v2.toArray,.ag ds,?_,?_,trivial,hK⟩
    ·have hx:=ext v1 v2 v3 h0 h1;rw [h2] at hx;simp [afe,Tz,aa1,typeInfo,hi,hs,hx]
    ·simp only [aa];exact ⟨_,rfl,by simpa using h3⟩
   ·rw [dB] at hf;cases hf
 |false=>
  simp only [dB,cond_false] at hK;cases hp:cut cs off with
  |none=>simp [hp] at hK
  |some ds=>
   cases ds with
   |nil=>simp [hp] at hK
   |cons l ls=>
    simp only [hp] at hK;cases hb:bB l.w I.size with
    |false=>simp [hb] at hK
    |true=>
     simp only [hb,cond_true] at hK;have hw:=sh hb;obtain ⟨v1,v2,h0,h1,h2⟩:=zW hp hv;obtain ⟨u,u2,rfl,h3,h4⟩:=h2;have hlu:u.length=I.size:=by rw [h3.width,hw]
     rcases Mq (P:=P) hr hc with ⟨hh,Tz⟩|⟨_,h1s,Tz⟩
     ·refine ⟨.agg u.toArray,.sc l,?_,h3.slot (.inr ⟨rfl,?_⟩),trivial,hK⟩
      ·have hx:=ext v1 u u2 (by rw [h0,AI]) h1;rw [hlu] at hx;simp [afe,Tz,aa1,typeInfo,hi,hs,hx]
      ·rcases hh with hh|hh
       ·rw [dB] at hh;cases hh
       ·rw [hw,hh]
     ·obtain ⟨v,rfl⟩:=abD.1 (by rw [hlu,h1s]);refine ⟨v,.sc l,?_,h3.slot (.inl ⟨rfl,?_⟩),trivial,hK⟩
      ·have:arr[off]? =some v:=by
        have:arr[off]? =arr.toList[off]? :=by simp
        rw [this,h0,OF (by omega),h1];simp
       simp [afe,Tz,this]
      ·rw [hw,h1s]
theorem aeF {t:TypeId}{x:Operand}{f:Nat}{I:TI}(ho:o.op= .field t x f)(hI:c.tv t=some I)(hT:fZ P c.ti)(h:bO c Z e st a w)(hK:aeo c I f (aF c st x) (λs=>bh c st o.dst s K)=some r):Rd P c Z K r e a w o (λ_=>True):=by
 obtain ⟨hx,pK⟩:=h.eval x;obtain ⟨kR,hc⟩:=aV hI;obtain ⟨d,i,h1,h2,h3,h4⟩:=hT t I kR;generalize aF c st x=s at hx hK pK;unfold aeo at hK;split at hK
 ·rename_i q y cs dB hq hy;simp only [aa] at hx;obtain ⟨arr,hx,pG⟩:=hx;cases hJ:c.tv y with
  |none=>simp [hJ] at hK
  |some J=>
   simp only [hJ] at hK;obtain ⟨hJt,hJc⟩:=aV hJ;obtain ⟨v,s,bA,h5,h6,h7⟩:=XT (P:=P) (st:=st) (hT y J hJt) hJc pG hK;refine iL (v:=v) h ?_ h5 h6 h7;cases d<;>simp only [rU] at h4;case struct fs=>
    obtain ⟨_,_,_,ho1,cw,_⟩:=h4;rw [<-ho1,aaZ] at hq;rw [<-cw,aaZ] at hy;cases hf:fs.toList[f]? with
    |none=>simp [hf] at hq
    |some fl=>
     simp [hf] at hq hy;subst hq;subst hy;have XO:fs[f]? =some fl:=by simpa using hf
     simp [execOp,ho,hx,Instr.field,run_underlying h1,XO,asAgg,bA]
   all_goals (exfalso;simp_all)
 ·simp at hK
theorem TI.kS {I:TI}{t:TypeId}(hr:oa c.ti P t I)(h:I.yS=true):P.underlying t=some (.slice I.elem)/\ ∃E,c.ti I.elem=some E/\E.ch=[]/\0<E.size:=by
 unfold TI.yS at h;split at h
 ·rename_i dB hl;obtain ⟨d,i,h1,h2,h3,h4⟩:=hr;cases d<;>simp only [rU,hl,dB] at h4<;>first|(exfalso;simp_all;done)|skip
  obtain ⟨_,_,_,rfl,hE,_⟩:=h4;exact ⟨h1,hE⟩
 ·cases h
theorem TI.E7 {I:TI}{t:TypeId}(hr:oa c.ti P t I)(h:I.Rv=true):P.underlying t=some .string:=by
 unfold TI.Rv at h;split at h
 ·rename_i dB hl;obtain ⟨d,i,h1,h2,h3,h4⟩:=hr;cases d<;>simp only [rU,hl,dB] at h4<;>first|(exfalso;simp_all;done)|skip
  exact h1
 ·cases h
theorem Iq {v:Value}{xs:List MV}(h:aa e v (.sc (.p (.list xs)))): ∃ad cap,v= .slice ad xs.length cap/\xs.length<=cap:=by simp only [aa,aJ] at h;obtain ⟨_,h⟩:=h;generalize hv:[v]=vs at h;cases h;exact ⟨_,_,by simpa using hv,by assumption⟩
theorem rX {f:Nat} {w':ox}{v:Value}(h:bO c Z e st a w)(hv:aa e v (.sc (.own f)))(hf:aE st.aM f=some w'):v=e.E f/\ ∃ad cap,v= .slice ad w'.xs.length cap/\w'.xs.length<=cap:=by
 simp only [aa] at hv;obtain ⟨u,hu,_,hE⟩:=hv;simp at hu;subst hu;have hE:=hE w' (by rw [h.m];exact hf);refine ⟨hE,?_⟩;obtain ⟨I,cells,_,_,dk,_⟩:=(h.gG f w' hf).row;rcases dk.2 with ⟨h1,h2⟩|⟨g,cap,cT,h1,_,_,h2,_⟩
 ·exact ⟨none,0,by rw [hE,h1,h2],by omega⟩
 ·exact ⟨_,cap,by rw [hE,h1],h2⟩
theorem jf {l:List Operand}:jy c st l=l.map (aF c st):=by
 induction l with
 |nil=>rfl
 |cons x r ih=>simp [jy,ih]
theorem aeG {cl:Call}{t:TypeId}{I:TI}(ho:o.op= .call cl)(hb:cl.callee= .builtin .len)(ha:cl.argTypes.toList=[t])(hI:c.tv t=some I)(hT:fZ P c.ti)(h:bO c Z e st a w)(hK:Xp I st (jy c st cl.args.toList) (λs=>bh c st o.dst s K)=some r):Rd P c Z K r e a w o (λ_=>True):=by
 obtain ⟨kR,hc⟩:=aV hI;have hr:=hT t I kR;have Lg:cl.argTypes= #[t]:=by rw [<-abu,ha]
 rw [jf] at hK;have go: ∀x,cl.args.toList=[x]-> ∀n:Nat,(∃b:ByteArray,a.eval x= .string b/\b.size=n/\P.underlying t=some .string)\/(∃ad cap,a.eval x= .slice ad n cap/\ ∃el,P.underlying t=some (.slice el))-> bh c st o.dst (.sc (.p (.i .i64 n))) K=some r->Rd P c Z K r e a w o (λ_=>True):=by
  intro x hx n PB hK;have U6:cl.args= #[x]:=by rw [<-abu,hx]
  refine iL h ?_ (sU .i64 (n:Int)) trivial hK;rcases PB with ⟨b,h1,h2,h3⟩|⟨ad,cap,h1,el,h3⟩
  ·simp [execOp,ho,resolve,hb,invoke,builtin,Builtin.len_,Lg,U6,run_underlying h3,h1,goInt,h2]
  ·simp [execOp,ho,resolve,hb,invoke,builtin,Builtin.len_,Lg,U6,run_underlying h3,h1,goInt]
 cases hl:cl.args.toList with
 |nil=>rw [hl] at hK;simp [Xp] at hK
 |cons x ys=>
  rw [hl] at hK;cases ys with
  |cons y zs=>simp only [IT] at hK;unfold Xp at hK;split at hK<;>simp_all
  |nil=>
   simp only [IT,afI] at hK;obtain ⟨hx,_⟩:=h.eval x;generalize aF c st x=s at hx hK;unfold Xp at hK;split at hK
   ·rename_i l hs;simp at hs;subst hs;cases hS:I.Rv with
    |false=>simp [hS] at hK
    |true=>simp only [hS,cond_true] at hK;obtain ⟨b,G5,rfl⟩:=DA hx;exact go x hl _ (.inl ⟨b,G5,by show b.data.size=_;exact (aa8).symm,TI.E7 hr hS⟩) hK
   ·rename_i l hs;simp at hs;subst hs;cases hS:I.yS with
    |false=>simp [hS] at hK
    |true=>simp only [hS,cond_true] at hK;obtain ⟨ad,cap,hv,_⟩:=Iq hx;exact go x hl _ (.inr ⟨ad,cap,hv,_,(TI.kS hr hS).1⟩) hK
   ·rename_i hs;simp at hs;subst hs;cases hS:I.yS with
    |false=>simp [hS] at hK
    |true=>simp only [hS,cond_true] at hK;simp only [aa] at hx;have hx:[a.eval x]=[aa4 none 0 0]:=hx;simp at hx;exact go x hl 0 (.inr ⟨none,0,hx,_,(TI.kS hr hS).1⟩) hK
   ·rename_i f hs;simp at hs;subst hs;cases hS:I.yS with
    |false=>simp [hS] at hK
    |true=>
     simp only [hS,cond_true] at hK;cases hf:aE st.aM f with
     |none=>simp [hf] at hK
     |some w'=>simp only [hf] at hK;obtain ⟨_,ad,cap,hv,_⟩:=rX h hx hf;exact go x hl _ (.inr ⟨ad,cap,hv,_,(TI.kS hr hS).1⟩) hK
   ·simp at hK
end
end Dn
/-
  Values as leaves; places of elements; the least and the greatest; parts of slices. Conditions: none.
-/
namespace Dn
open Go
section
variable {P:Program}{c:Ctx}{Z:bu}{e:Env}{st:St}{a:Act} {w w':World}{R:Type}{K:St->Option R}{r:R}{Q:Exit->Act->World->Prop}{o:Oper}
structure adw (e:Env) (k:Kd) (vs:List Value) (m:MV) (l:aD):Prop where
 rep:gk e.key e.φ vs m->aJ e vs l
 WU:sP l=true
 mv:bC [l]=some [m]
 one: ∀m',l= .p m'->m'.one=true
 wid:l.w=G4 [k]
theorem nN {k:Kd}{m:MV}{vs:List Value} {K':aD->Option R}(hK:jn k m K'=some r): ∃l,adw e k vs m l/\K' l=some r:=by
 have mk: ∀m:MV,m.one=true->(G4 [k]=1)->K' (.p m)=some r-> ∃l,adw e k vs m l/\K' l=some r:=λm h1 h2 h3=>⟨.p m,⟨λh=>⟨h1,h⟩,rfl,rfl,λm' e=>by cases e;exact h1,h2.symm⟩,h3⟩
 cases k with
 |b=>unfold jn gB at hK;cases m<;>simp at hK;exact mk _ rfl rfl hK
 |s=>unfold jn gS at hK;cases m<;>simp at hK;exact mk _ rfl rfl hK
 |l=>unfold jn gL at hK;cases m<;>simp at hK;exact mk _ rfl rfl hK
 |i k=>
  unfold jn gI at hK;cases m<;>simp at hK;rename_i k' n;by_cases hk:k'=k
  ·subst hk;simp at hK;exact mk _ rfl rfl hK
  ·simp [hk] at hK
 |h=>unfold jn gH at hK;cases m<;>simp at hK;rename_i x;refine ⟨.hs x,⟨?_,rfl,rfl,by simp,rfl⟩,hK⟩;intro h;cases h;rfl
 |raw=>unfold jn gR at hK;cases m<;>simp at hK<;>exact mk _ rfl rfl hK
theorem B3 {l:aD}{ls:List aD}{m:MV}{ms:List MV}(h1:bC [l]=some [m])(h2:bC ls=some ms):bC (l::ls)=some (m::ms):=by cases l<;>simp [bC] at h1⊢ <;>simp [h2,h1]
structure abn (e:Env) (ks:List Kd) (vs:List Value) (ms:List MV) (ls:List aD):Prop where
 rep:fe e.key e.φ vs ms->aw e vs ls
 WU:gZ ls=true
 mv:bC ls=some ms
 one: ∀m',aD.p m'∈ls->m'.one=true
 wid:zQ ls=G4 ks
theorem U9 (k:Kd)(ks:List Kd):G4 (k::ks)=G4 [k]+G4 ks:=by cases k<;>simp [G4]
theorem xw {ks:List Kd}: ∀{ms:List MV} {vs:List Value} {K':List aD->Option R},uG ks ms K'=some r-> ∃ls,abn e ks vs ms ls/\K' ls=some r:=by
 induction ks with
 |nil=>
  intro ms vs K' hK;cases ms with
  |nil=>exact ⟨[],⟨λh=>by cases h;rfl,rfl,rfl,by simp,rfl⟩,hK⟩
  |cons m ms=>simp [uG,gN] at hK
 |cons k ks ih=>
  intro ms vs K' hK;cases ms with
  |nil=>simp [uG,gC] at hK
  |cons m ms=>
   simp only [uG,gC] at hK;have h1:=λvs=>nN (e:=e) (vs:=vs) hK;obtain ⟨l,hl,rV⟩:=h1 [];obtain ⟨ls,KU,zo⟩:=ih (vs:=[]) rV;refine ⟨l::ls,⟨?_,?_,B3 hl.mv KU.mv,?_,?_⟩,zo⟩
   ·intro h;have g:aw e vs (l::ls):=by
     apply h.leaves (B3 hl.mv KU.mv);intro m' hm;rcases aa0.1 hm with hm|hm
     ·exact hl.one m' hm.symm
     ·exact KU.one m' hm
    exact g
   ·simp [gZ,hl.WU,KU.WU]
   ·intro m' hm;rcases aa0.1 hm with hm|hm
    ·exact hl.one m' hm.symm
    ·exact KU.one m' hm
   ·rw [U9,<-hl.wid,<-KU.wid];rfl
theorem abo {t:TypeId}{I:TI}(hr:oa c.ti P t I)(hc:I.ch=[]):G4 I.lay=I.size:=by
 obtain ⟨d,i,h1,h2,h3,h4⟩:=hr;cases d<;>simp only [rU] at h4;case struct fs=>exact h4.2.2.1.2
 case tuple ts=>exact absurd hc h4.2.1
 case slice el=>obtain ⟨_,_,hs,_,_,_,_,k,hl,rfl⟩:=h4;rw [hl,hs];rfl
 case array n el=>obtain ⟨_,_,hs,_,_,_,hl,_⟩:=h4;rw [hl,hs];rfl
 all_goals (obtain ⟨_,_,hs,hl,_⟩:=h4;rw [hl,hs];rfl)
theorem Gl {E:TI}{t:TypeId}{x:MV} {K':List aD->Option R}(hr:oa c.ti P t E)(hc:E.ch=[])(hK:ND E x K'=some r): ∃cs,Ia E.st x cs/\gZ cs=true/\zQ cs=E.size/\K' cs=some r:=by
 have hlw:=abo hr hc;unfold ND at hK;cases dB:E.st with
 |true=>
  simp only [dB,cond_true] at hK;unfold gA at hK;split at hK
  ·rename_i ms;obtain ⟨ls,KU,rV⟩:=xw (e:=⟨λn=>n,λ_ _=>none,λ_=>undef,λ_=>0,[]⟩) (vs:=[]) hK;exact ⟨ls,⟨⟨ms,KU.mv,by simp [vA]⟩,KU.one⟩,KU.WU,by rw [KU.wid,hlw],rV⟩
  ·simp at hK
 |false=>
  simp only [dB,cond_false] at hK;split at hK
  ·rename_i k hl;obtain ⟨l,zm,rV⟩:=nN (e:=⟨λn=>n,λ_ _=>none,λ_=>undef,λ_=>0,[]⟩) (vs:=[]) hK;refine ⟨[l],⟨⟨[x],zm.mv,by simp [vA]⟩,?_⟩,by simp [gZ,zm.WU],?_,rV⟩
   ·intro m hm;simp at hm;exact zm.one m hm.symm
   ·rw [<-hlw,hl,<-zm.wid];rfl
  ·simp at hK
theorem aeH {t:TypeId}{x y:Operand}{I E:TI}(ho:o.op= .indexAddr t x y)(hI:c.tv t=some I)(hE:c.tv I.elem=some E)(hT:fZ P c.ti)(h:bO c Z e st a w)(hK:aep c st I E (aF c st x) (aF c st y) (λs=>bh c st o.dst s K)=some r):Rd P c Z K r e a w o (λ_=>True):=by
 obtain ⟨hx,pK⟩:=h.eval x;obtain ⟨hy,_⟩:=h.eval y;obtain ⟨kR,hc⟩:=aV hI;obtain ⟨lz,od⟩:=aV hE;have hr:=hT t I kR;have hrE:=hT _ E lz;obtain ⟨iE,hiE,hsE,_⟩:=hrE.info od;have run: ∀k n aR off len cap,P.underlying t=some (.slice I.elem)->a.eval y= .int k n->a.eval x= .slice (some ⟨aR,off,none⟩) len cap->0<=n->n.toNat<len-> ∀w:World,(execOp a.eval o).run P w= .ok (.value (.pointer (some ⟨aR,off+n.toNat *E.size,none⟩))) w:=by
  intro k n aR off len cap hu hy hx h0 h1 w;have h2:n<(len:Int):=by omega
  simp [execOp,ho,hx,hy,afH,asIntOf,run_underlying hu,h0,h2,aa1,typeInfo,hiE,hsE,abk]
 generalize aF c st x=sx at hx hK pK;generalize aF c st y=sy at hy hK;unfold aep at hK;split at hK
 ·rename_i xs k n;cases hL:I.yS with
  |false=>simp [hL] at hK
  |true=>
   simp only [hL,cond_true] at hK;obtain ⟨h0,m,hm,hK⟩:=Py hK;obtain ⟨cs,h1,h2,h3,hK⟩:=Gl hrE od hK;have dO:n.toNat<xs.length:=(AS.1 hm).1;simp only [aa,aJ] at hx;obtain ⟨_,hx⟩:=hx;generalize hv:[a.eval x]=vs at hx;cases hx with
   |list ad cap _ aR off Dk f g1 g2 g3 g4 g5=>
   simp at hv;have et:=g5 n.toNat dO;rw [(AS.1 hm).2] at et;have pG:=et.Il h1;have XU:Dk=E.size:=by rw [<-h3,<-pG.width,g3 _ dO]
   rw [g2 (by omega)] at hv;refine iL (s:= .rp cs 0) h (run k n aR off _ cap (TI.kS hr hL).1 (kX hy) hv h0 dO) ?_ trivial hK;simp only [aa];refine ⟨aR,off+n.toNat *E.size,f n.toNat,rfl,pG,h2,?_⟩;intro j hj;rw [g3 _ dO] at hj;rw [<-XU];exact g4 n.toNat j dO hj
 ·rename_i f k n;cases hf:aE st.aM f with
  |none=>simp [hf] at hK
  |some fo=>
   simp only [hf] at hK;cases hL:I.yS with
   |false=>simp [hL] at hK
   |true=>
    simp only [hL,cond_true] at hK;obtain ⟨h0,m,hm,hK⟩:=Py hK;obtain ⟨cs,h1,h2,h3,hK⟩:=Gl hrE od hK;have dO:n.toNat<fo.xs.length:=(AS.1 hm).1;obtain ⟨hv,_⟩:=rX h hx hf;obtain ⟨J,cells,_,_,dk,_⟩:=(h.gG f fo hf).row;rcases dk.2 with ⟨h5,h6⟩|⟨g,cap,cT,h5,_⟩
    ·omega
    ·rw [h5] at hv;refine iL (s:= .ep f n.toNat 0 E.st cs) h (run k n g 0 _ cap (TI.kS hr hL).1 (kX hy) hv h0 dO) ?_ trivial hK;simp only [aa];intro o2 cw;rw [h.m,hf] at cw;cases cw;exact ⟨g,cap,h5,⟨m,hm,h1⟩,by rw [h3,aaX,adm]⟩
 ·rename_i r' o' k n;cases dB:I.st with
  |true=>simp [dB] at hK
  |false=>
   simp only [dB,cond_false] at hK;split at hK
   ·rename_i hl;obtain ⟨Dm,hK⟩:=dC hK;obtain ⟨h0,h1⟩:=of_decide_eq_true Dm;obtain ⟨d,i,hu,h2,h3,h4⟩:=hr;cases d<;>simp only [rU,hl,dB] at h4<;>first|(exfalso;simp_all;done)|skip
    obtain ⟨_,_,_,rfl,_,⟨ie,hue,qw,yT⟩,_⟩:=h4;simp only [aa] at hx;refine iL (s:= .hp r' o' n.toNat) (v:= .pointer (some ⟨e.B r',o'+n.toNat,none⟩)) h ?_ ?_ pK hK
    ·simp [execOp,ho,hx,kX hy,afH,asIntOf,run_underlying hu,h0,h1,aa1,typeInfo,qw,yT,adr,abk]
    ·simp only [aa];exact ⟨trivial,by omega⟩
   ·simp at hK
 ·simp at hK
theorem Va {mx:Bool}{k:IntKind}{ss:List Slot}: ∀{vs:List Value} {n:Int} {m:MV},Xj mx k n ss=some m->vs.length=ss.length-> (∀(i:Nat) (v:Value) (s:Slot),vs[i]? =some v->ss[i]? =some s->aa e v s)-> ∃v,(∀w:World,(vs.foldlM (if mx then Builtin.max2 else Builtin.min2) (.int k n)).run P w= .ok v w)/\aa e v (.sc (.p m)):=by
 induction ss with
 |nil=>intro vs n m hm hl hs;have:=BY hl;subst this;simp [Xj] at hm;subst hm;exact ⟨.int k n,by simp,sU k n⟩
 |cons s ss ih=>
  intro vs n m hm hl hs;cases vs with
  |nil=>simp at hl
  |cons v vs=>
   have h0:=hs 0 v s rfl rfl;unfold Xj at hm;split at hm
   ·rename_i jP;simp at jP
   ·rename_i k' y r' jP;simp at jP;obtain ⟨rfl,rfl⟩:=jP;by_cases hk:k'=k
    ·subst hk;simp only [decide_true,cond_true] at hm;obtain ⟨u,h1,h2⟩:=ih hm (by simpa using hl) (λi v s h1 h2=>hs (i+1) v s (by simpa using h1) (by simpa using h2));refine ⟨u,λw=> ?_,h2⟩;have h1:=h1 w;rw [kX h0];cases mx
     ·simp only [cond_false,agX] at h1;simp [Builtin.min2] at h1⊢;exact h1
     ·simp only [cond_true,imax] at h1;simp [Builtin.max2] at h1⊢;exact h1
    ·simp [hk] at hm
   ·simp at hm
theorem Mr {cl:Call}{mx:Bool}{m:MV}(ho:o.op= .call cl)(hb:cl.callee= .builtin (if mx then .max else .min))(h:bO c Z e st a w)(hm:Ry mx (jy c st cl.args.toList)=some m)(hK:bh c st o.dst (.sc (.p m)) K=some r):Rd P c Z K r e a w o (λ_=>True):=by
 rw [jf] at hm;cases hl:cl.args.toList with
 |nil=>rw [hl] at hm;simp [Ry] at hm
 |cons x xs=>
  rw [hl] at hm;simp only [IT] at hm;obtain ⟨hx,_⟩:=h.eval x;generalize aF c st x=s at hx hm;unfold Ry at hm;split at hm
  ·rename_i k n ss jP;simp at jP;obtain ⟨rfl,rfl⟩:=jP;obtain ⟨v,h1,h2⟩:=Va (e:=e) (P:=P) (vs:=xs.map a.eval) hm (by simp) (by intro i v s h1 h2;simp only [aaZ,Option.map_eq_some_iff] at h1 h2;obtain ⟨y,h3,rfl⟩:=h1;obtain ⟨y',h4,rfl⟩:=h2;rw [h3] at h4;cases h4;exact (h.eval y).1);have dy:(cl.args.map a.eval).toList= .int k n::xs.map a.eval:=by simp [hl,kX hx]
   refine iL (v:=v) h ?_ h2 trivial hK;intro w;have h1:=h1 w;cases mx
   ·simp at hb h1;have XV: ∀ts t,(Builtin.min_ ts t (cl.args.map a.eval)).run P w= .ok v w:=by intro ts t;unfold Builtin.min_;rw [dy];exact h1
    simp [execOp,ho,resolve,hb,invoke,builtin,XV]
   ·simp at hb h1;have XV: ∀ts t,(Builtin.max_ ts t (cl.args.map a.eval)).run P w= .ok v w:=by intro ts t;unfold Builtin.max_;rw [dy];exact h1
    simp [execOp,ho,resolve,hb,invoke,builtin,XV]
  ·simp at hm
end
end Dn
/-
  Parts of slices and texts. Conditions: none.
-/
namespace Dn
open Go
section
variable {P:Program}{c:Ctx}{Z:bu}{e:Env}{st:St}{a:Act} {w w':World}{R:Type}{K:St->Option R}{r:R}{Q:Exit->Act->World->Prop}{o:Oper}
theorem xx {b:Bool}{lo hi:Option Operand}{len cap:Nat} {K':Nat->Nat->Option R}(h:bO c Z e st a w)(Cr:len<=cap)(hK:sliceB (lZ c st lo) (lZ c st hi) len K'=some r): ∃l h',l<=h'/\h'<=len/\(lo=none->l=0)/\(∀w:World,(aaV b len cap (lo.map a.eval) (hi.map a.eval) none).run P w= .ok (l,h',cap) w)/\K' l h'=some r:=by
 have bnd: ∀(k:IntKind) (n:Int) (y:Nat) (cd:BoundsCode),0<=n->n<=(y:Int)-> ∀w:World,(ab4 (.int k n) y cd).run P w= .ok n.toNat w:=by intro k n y cd h1 h2 w;simp [ab4,asIntOf,h1,h2]
 unfold sliceB at hK;cases lo with
 |none=>
  cases hi with
  |none=>simp only [lZ] at hK;exact ⟨0,len,by omega,by omega,λ_=>rfl,by simp [aaV],hK⟩
  |some y=>
   obtain ⟨hy,_⟩:=h.eval y;simp only [lZ] at hK;generalize aF c st y=sy at hy hK;split at hK<;>first|(simp_all;done)|skip
   ·rename_i k n h1 h2;simp at h2;subst h2;obtain ⟨Dm,hK⟩:=dC hK;obtain ⟨h3,h4,h5⟩:=of_decide_eq_true Dm;refine ⟨0,n.toNat,by omega,by omega,λ_=>rfl,?_,hK⟩;have:=bnd k n cap (if b then .sliceAcap else .sliceAlen) h4 (by omega);cases b<;>simp at this<;>simp [aaV,kX hy,this]
 |some x=>
  obtain ⟨hx,_⟩:=h.eval x;cases hi with
  |none=>
   simp only [lZ] at hK;generalize aF c st x=sx at hx hK;split at hK<;>first|(simp_all;done)|skip
   ·rename_i k n h1 h2;simp at h1;subst h1;obtain ⟨Dm,hK⟩:=dC hK;obtain ⟨h3,h4,h5⟩:=of_decide_eq_true Dm;refine ⟨n.toNat,len,by omega,by omega,by simp,?_,by simpa using hK⟩;have:=bnd k n len .sliceB h3 h4;simp [aaV,kX hx,this]
  |some y=>
   obtain ⟨hy,_⟩:=h.eval y;simp only [lZ] at hK;generalize aF c st x=sx at hx hK;generalize aF c st y=sy at hy hK;split at hK<;>first|(simp_all;done)|skip
   ·rename_i k n k' n' h1 h2;simp at h1 h2;subst h1;subst h2;obtain ⟨Dm,hK⟩:=dC hK;obtain ⟨h3,h4,h5⟩:=of_decide_eq_true Dm;refine ⟨n.toNat,n'.toNat,by omega,by omega,by simp,?_,hK⟩;have t1:=bnd k' n' cap (if b then .sliceAcap else .sliceAlen) (by omega) (by omega);have t2:=bnd k n n'.toNat .sliceB h3 (by omega);cases b<;>simp at t1<;>simp [aaV,kX hx,kX hy,t1,t2]
theorem gk.sub {key:Nat->Nat} {φ:Ph}{ad:Option Addr}{len cap:Nat}{xs:List MV} {l h' size:Nat}(hv:gk key φ [.slice ad len cap] (.list xs))(hl:l<=h')(hh:h'<=xs.length)(hw:l≠0-> ∀x∈xs,x.w=size):len=xs.length/\len<=cap/\gk key φ [.slice (if cap=l then ad else ad.map (·.add (l *size))) (h'-l) (cap-l)] (.list ((xs.take h').drop l)):=by
 generalize yU:[aa4 ad len cap]=vs at hv;cases hv with
 |list ad' XR _ aR off Dk f g1 g2 g3 g4 g5=>
 simp at yU;obtain ⟨rfl,rfl,rfl⟩:=yU;refine ⟨rfl,g1,?_⟩;have hlen:((xs.take h').drop l).length=h'-l:=by simp;omega
 have ahf:gk key φ [.slice (if cap=l then ad else ad.map (·.add (l *size))) ((xs.take h').drop l).length (cap-l)] (.list ((xs.take h').drop l)):=by
  have oz: ∀i,i<((xs.take h').drop l).length->i+l<xs.length:=by intro i hi;omega
  have hel: ∀(i:Nat) (hi:i<((xs.take h').drop l).length),((xs.take h').drop l)[i]=xs[i+l]'(oz i hi):=by intro i hi;simp [aeB]
  refine .list _ _ _ aR (off+l *Dk) Dk (λi=>f (i+l)) (by rw [hlen];omega) ?_ ?_ ?_ ?_
  ·intro h0;have df:cap≠l:=by omega
   have hx0:0<xs.length:=by omega
   rw [g2 hx0];simp only [df,if_false,Option.map_some,AT];by_cases hl0:l=0
   ·subst hl0;simp [abk]
   ·have XU:Dk=size:=by have h3:=g5 0 hx0;rw [<-g3 0 hx0,h3.width];exact hw hl0 _ (aeQ hx0)
    rw [XU,abk]
  ·intro i hi;exact g3 _ (oz i hi)
  ·intro i j hi hj;have:=g4 (i+l) j (oz i hi) hj;rw [<-this];congr 1;rw [acv];omega
  ·intro i hi;rw [hel i hi];exact g5 (i+l) (oz i hi)
 rw [hlen] at ahf;exact ahf
theorem DB {n:Nat}{l:List MV}(h:pR n l=true): ∀x∈l,x.w=n:=by intro x hx;unfold pR at h;rw [aeN] at h;exact sh (h x hx)
theorem aP.pR {key:Nat->Nat} {φ:Ph}{size:Nat}{xs:List MV}: ∀{cs:List Value},aP key φ size cs xs-> ∀x∈xs,x.w=size:=by
 induction xs with
 |nil=>intro cs _ x hx;simp at hx
 |cons y ys ih=>
  intro cs h x hx;obtain ⟨v,q,rfl,h1,h2,h3⟩:=h;rcases aa0.1 hx with rfl|hx
  ·rw [<-h2.width,h1]
  ·exact ih h3 x hx
theorem XW {t:TypeId}{x:Operand}{lo hi:Option Operand}{I:TI}(ho:o.op= .slice t x lo hi none)(hI:c.tv t=some I)(hT:fZ P c.ti)(h:bO c Z e st a w)(hK:Rz c I st (aF c st x) (lZ c st lo) (lZ c st hi) (λs st=>bh c st o.dst s K)=some r):Rd P c Z K r e a w o (λ_=>True):=by
 obtain ⟨hx,pK⟩:=h.eval x;obtain ⟨kR,hc⟩:=aV hI;have hr:=hT t I kR;have run: ∀{el E},P.underlying t=some (.slice el)->c.ti el=some E->E.ch=[]-> ∀ad len cap l h',a.eval x= .slice ad len cap->(∀w:World,(aaV true len cap (lo.map a.eval) (hi.map a.eval) none).run P w= .ok (l,h',cap) w)-> ∀w:World,(execOp a.eval o).run P w= .ok (.value (.slice (if cap=l then ad else ad.map (·.add (l *E.size))) (h'-l) (cap-l))) w:=by intro el E hu hE od ad len cap l h' hv hb w;obtain ⟨iE,hiE,hsE,_⟩:=(hT _ E hE).info od;simp [execOp,ho,aeh,aeZ,run_underlying hu,hv,hb,aa1,typeInfo,hiE,hsE]
 generalize hs:aF c st x=s at hx hK pK;unfold Rz at hK;split at hK
 ·rename_i bs;cases hS:I.Rv with
  |false=>simp [hS] at hK
  |true=>
   simp only [hS,cond_true] at hK;have hu:=TI.E7 hr hS;obtain ⟨b,hb,rfl⟩:=DA hx;have nM:b.data.toList.length=b.size:=by rw [aa8];rfl
   rw [nM] at hK;obtain ⟨l,h',h1,h2,_,h3,hK⟩:=xx (P:=P) (b:=false) (cap:=b.size) h (aaC _) hK;refine iL (s:= .sc (.p (.s ((b.data.toList.take h').drop l)))) (v:= .string (b.extract l h')) h ?_ ?_ trivial hK
   ·simp [execOp,ho,aeh,aeZ,run_underlying hu,hb,h3]
   ·have:=abb (e:=e) (b.extract l h');have h5:(b.extract l h').data.toList=(b.data.toList.take h').drop l:=by rw [adR,aed,adx,List.drop_take]
    rwa [h5] at this
 ·rename_i xs;cases hS:I.yS with
  |false=>simp [hS] at hK
  |true=>
   simp only [hS,cond_true] at hK;obtain ⟨hu,_⟩:=TI.kS hr hS;cases hE:c.tv I.elem with
   |none=>simp [hE] at hK
   |some E=>
    simp only [hE] at hK;obtain ⟨lz,od⟩:=aV hE;have zo:(lo≠none->pR E.size xs=true)/\sliceB (lZ c st lo) (lZ c st hi) xs.length (λl h'=>bh c st o.dst (.sc (.p (.list ((xs.take h').drop l)))) K)=some r:=by
     cases lo with
     |none=>exact ⟨by simp,hK⟩
     |some y=>simp only [lZ] at hK⊢;obtain ⟨h1,h2⟩:=dC hK;exact ⟨λ_=>h1,h2⟩
    obtain ⟨hw,hK⟩:=zo;obtain ⟨ad,cap,hv,Cr⟩:=Iq hx;obtain ⟨l,h',h1,h2,h0,h3,hK⟩:=xx (P:=P) (b:=true) (cap:=cap) h Cr hK;simp only [aa,aJ] at hx;rw [hv] at hx;obtain ⟨_,_,et⟩:=gk.sub (size:=E.size) hx.2 h1 h2 (λhl=>DB (hw (λhn=>hl (h0 hn))));refine iL (s:= .sc (.p (.list ((xs.take h').drop l)))) h (run hu lz od ad _ cap l h' hv h3) ?_ trivial hK;simp only [aa,aJ];exact ⟨rfl,et⟩
 ·rename_i f;cases hf:aE st.aM f with
  |none=>simp [hf] at hK
  |some fo=>
   simp only [hf] at hK;cases hS:I.yS&&bB fo.ty I.elem with
   |false=>simp [hS] at hK
   |true=>simp only [hS,cond_true] at hK;simp only [aaT] at hS;obtain ⟨hu,E,lz,od,_⟩:=TI.kS hr hS.1;have ig:=sh hS.2;obtain ⟨hvE,ad,cap,hv,Cr⟩:=rX h hx hf;simp only [aa] at hx;obtain ⟨J,cells,hJ,_,_,gJ,_⟩:=(h.gG f fo hf).row;rw [ig,lz] at hJ;cases hJ;have hwx:=gJ.pR;obtain ⟨e',bT,m,xy,abl,Ip,et,hK,_,hm⟩:=lE h hx hK;obtain ⟨o2,cw,rfl⟩:=hm.1 f rfl;rw [hf] at cw;cases cw;obtain ⟨l,h',h1,h2,h0,h3,hK⟩:=xx (P:=P) (b:=true) (cap:=cap) h Cr hK;rw [hv] at et;obtain ⟨_,_,et⟩:=gk.sub (size:=E.size) et h1 h2 (λ_=>hwx);refine RP (s:= .sc (.p (.list ((fo.xs.take h').drop l)))) (λw _=>run hu lz od ad _ cap l h' hv h3 w) xy abl.tr (.of ?_ trivial) hK;simp only [aa,aJ];exact ⟨rfl,et⟩
 ·cases hS:I.yS with
  |false=>simp [hS] at hK
  |true=>
   simp only [hS,cond_true] at hK;obtain ⟨hu,E,lz,od,_⟩:=TI.kS hr hS;simp only [aa] at hx;have hx:[a.eval x]=[aa4 none 0 0]:=hx;simp at hx;obtain ⟨l,h',h1,h2,_,h3,hK⟩:=xx (P:=P) (b:=true) (cap:=0) h (aaC _) hK;have h4:h'=0:=by omega
   have h5:l=0:=by omega
   subst h4;subst h5;refine iL (s:= .sc .nil) h (run hu lz od none 0 0 0 0 hx h3) ?_ trivial hK;simp only [aa,if_true];rfl
 ·simp at hK
theorem abp {t:TypeId}{x y z:Operand}{I:TI}(ho:o.op= .slice t x none (some y) (some z))(hI:c.tv t=some I)(hT:fZ P c.ti)(h:bO c Z e st a w)(hK:Xn I (aF c st x) (aF c st y) (aF c st z) (λs=>bh c st o.dst s K)=some r):Rd P c Z K r e a w o (λ_=>True):=by
 obtain ⟨hx,pK⟩:=h.eval x;obtain ⟨hy,_⟩:=h.eval y;obtain ⟨hz,_⟩:=h.eval z;obtain ⟨kR,hc⟩:=aV hI;have hr:=hT t I kR;generalize aF c st x=s at hx hK pK;generalize aF c st y=s2 at hy hK;generalize aF c st z=s3 at hz hK;unfold Xn at hK;split at hK
 ·rename_i l n n';cases hS:I.yS with
  |false=>simp [hS] at hK
  |true=>
   simp only [hS,cond_true] at hK;obtain ⟨Dm,zo⟩:=dC hK;obtain ⟨rfl,rfl⟩:=of_decide_eq_true Dm;obtain ⟨hu,E,lz,od,_⟩:=TI.kS hr hS;obtain ⟨iE,hiE,hsE,_⟩:=(hT _ E lz).info od;obtain ⟨ad,cap,hv,Cr⟩:=Iq hx;simp only [aa,aJ] at hx;rw [hv] at hx;have bnd: ∀(m:Nat) (cd:BoundsCode),l.length<=m-> ∀w:World,(ab4 (.int .i64 (l.length:Int)) m cd).run P w= .ok l.length w:=by
    intro m cd hm w;have:(l.length:Int)<=(m:Int):=by omega
    simp [ab4,asIntOf,this]
   have hb: ∀w:World,(aaV true l.length cap none (some (.int .i64 (l.length:Int))) (some (.int .i64 (l.length:Int)))).run P w= .ok (0,l.length,l.length) w:=by intro w;have b1:=bnd cap .slice3Acap Cr;have b2:=bnd l.length .slice3B (aaC _);simp [aaV,b1,b2]
   have et:gk e.key e.φ [.slice ad l.length l.length] (.list l):=by
    have h2:=hx.2;generalize yU:[aa4 ad l.length cap]=vs at h2;cases h2 with
    |list ad' XR _ aR off Dk f g1 g2 g3 g4 g5=>
    simp at yU;obtain ⟨rfl,_⟩:=yU;exact .list _ _ _ aR off Dk f (aaC _) g2 g3 g4 g5
   refine iL (s:= .sc (.p (.clip l))) (v:= .slice ad l.length l.length) h (λw=> ?_) ?_ trivial zo
   ·simp [execOp,ho,aeh,aeZ,run_underlying hu,hv,kX hy,kX hz,hb,aa1,typeInfo,hiE,hsE];intro df;cases ad with
    |none=>rfl
    |some b=>simp [Addr.add]
   ·simp only [aa,aJ];exact ⟨rfl,.clip _ _ et⟩
 ·simp at hK
end
end Dn
/-
  Stores. Conditions: none.
-/
namespace Dn
open Go
section
variable {P:Program}{c:Ctx}{Z:bu} {e e':Env}{st:St}{a:Act} {w w':World}{R:Type}{K:St->Option R}{r:R}{Q:Exit->Act->World->Prop}{o:Oper}
theorem Ir (x:kv)(i:Nat)(b:UInt8)(hi:i<32):a8 (x.put i b)=(a8 x).take i++[.int .u8 (b.toNat:Int)]++(a8 x).drop (i+1):=by
 have:a8 (x.put i b)=(a8 x).set i (.int .u8 (b.toNat:Int)):=by simp [a8,kv.put,List.map_set]
 have hl:=cS x;rw [this,List.set_eq_take_append_cons_drop,if_pos (by omega)];simp
structure XX (e e':Env):Prop where
 key:e'.key=e.key
 φ:fY e.φ e'.φ
 gG: ∀f o',aE e'.m f=some o'->(∃o,aE e.m f=some o)/\e'.E f=e.E f
theorem aJ.WV (h:XX e e'){vs:List Value}{l:aD}(hr:aJ e vs l):aJ e' vs l:=by
 cases l with
 |p m=>exact ⟨hr.1,by have:=hr.2.mono h.φ;rw [<-h.key] at this;exact this⟩
 |own f=>obtain ⟨v,rfl,hv,hf⟩:=hr;refine ⟨v,rfl,hv,λo' Cn=> ?_⟩;obtain ⟨⟨o,ho⟩,hE⟩:=h.gG f o' Cn;rw [hE];exact hf o ho
 |_=>exact hr
theorem aw.WV (h:XX e e'){cs:List aD}: ∀{vs:List Value},aw e vs cs->aw e' vs cs:=by
 induction cs with
 |nil=>intro vs hr;exact hr
 |cons l r ih=>intro vs hr;obtain ⟨v,w,rfl,h1,h2⟩:=hr;exact ⟨v,w,rfl,h1.WV h,ih h2⟩
def RX (f:Nat)(s:Slot):Slot:=match s with
 | .ep g i o b cs=>bif bB g f then .sc .un else .ep g i o b cs
 |s=>s
theorem wk (f:Nat)(r:Fr)(t:Nat):al (zU f r) t=RX f (al r t):=Ic (RX f) rfl r t
theorem Vb (f:Nat)(s:Slot):cO (RX f s)=cO s:=by cases s<;>simp only [RX];rename_i g _ _ _ _;cases bB g f<;>rfl
theorem aa.WV {f:Nat}{T:Nat->Prop}(h:XX e e')(rT:jQ (· ≠f) T e e'){v:Value}{s:Slot}(hT:fg (λ_=>True) T s)(hr:aa e v s):aa e' v (RX f s):=by
 cases s with
 |sc l=>
  simp only [RX];cases l with
  |un=>simp [aa]
  |hs x=>simpa [aa] using hr
  |p m=>simp only [aa] at hr⊢;exact hr.WV h
  |nil=>simp only [aa] at hr⊢;exact hr.WV h
  |mp s es=>simp only [aa] at hr⊢;exact hr
  |own f=>simp only [aa] at hr⊢;exact hr.WV h
 |ag cs=>simp only [RX,aa] at hr⊢;obtain ⟨arr,h1,h2⟩:=hr;exact ⟨arr,h1,h2.WV h⟩
 |tg cs=>simp only [RX,aa] at hr⊢;obtain ⟨arr,h1,h2⟩:=hr;exact ⟨arr,h1,h2.WV h⟩
 |ep g i o b cs=>
  simp only [RX];cases hb:bB g f
  ·simp only [cond_false];refine hr.on rT ?_;simp only [fg];intro e;subst e;simp [eY] at hb
  ·simp [aa]
 |_=>exact hr.on rT hT
theorem jZ.WV (h:XX e e')(hk:e'.key=e.key)(hp:fY e.φ e'.φ){o:Obj}{cs:List aD}(hr:jZ e o cs):jZ e' o cs:=by
 cases o with
 |cells arr T z=>exact ⟨hr.1,hr.2.WV h⟩
 |map es clock=>exact hr
 |stringIter x pos=>exact hr
 |_=>exact hr.elim
theorem aP.set {key:Nat->Nat} {φ:Ph}{size:Nat}{xs:List MV}: ∀{cs:List Value} {i:Nat} {x:MV} {v':List Value},aP key φ size cs xs->i<xs.length->v'.length=size->gk key φ v' x-> aP key φ size (cs.take (i *size)++v'++cs.drop (i *size+size)) (xs.set i x):=by
 induction xs with
 |nil=>intro cs i x v' _ hi;simp at hi
 |cons y ys ih=>
  intro cs i x v' h hi hl hr;obtain ⟨v,q,rfl,h1,h2,h3⟩:=h;cases i with
  |zero=>simp only [aeI,List.take_zero,ad0,aaX,List.set_cons_zero];exact ⟨v',q,by rw [abv h1],hl,hr,h3⟩
  |succ i=>have:=ih h3 (by simpa using hi) hl hr;rw [List.set_cons_succ];refine ⟨v,_,?_,h1,h2,this⟩;rw [abj,acb,adA,abQ (by omega),adS (by omega)];rw [show i *size+size-v.length=i *size by omega,show i *size+size+size-v.length=i *size+size by omega];simp
theorem bO.aeL {f:Nat}{fo:ox}{I:TI}{g i:Nat}{cap:Nat}{cT:Array Value} {v' cells:List Value}{x:MV}(h:bO c Z e st a w)(hf:aE st.aM f=some fo)(hz:fo.dW=false)(hI:c.ti fo.ty=some I)(Rg:I.ch=[])(hE:e.E f= .slice (some ⟨g,0,none⟩) fo.xs.length cap)(dk:w.ownsRow 0 fo.ty I.size (e.E f) fo.xs.length cells)(hg:w.heap[g]? =some (.cells cT fo.ty (0,0)))(gJ:aP e.key e.φ I.size cells fo.xs)(hi:i<fo.xs.length)(hl:v'.length=I.size)(hr:gk e.key e.φ v' x)(z6:f∉Z.cq): bO c Z {e with m:=bN e.m f ⟨fo.ty,false,fo.xs.set i x⟩} {st with fr:=zU f st.fr,aM:=bN st.aM f ⟨fo.ty,false,fo.xs.set i x⟩} a (w.setRow g (cT.toList.take (i *I.size)++v'++cT.toList.drop (i *I.size+I.size)).toArray)/\Z g:=by
 have hb:(e.E f).ownBlock=some g:=by rw [hE];rfl
 have hZ:Z g/\ ∀off,e.φ g off=none:=by
  obtain ⟨J,vC,_,_,_,_,h5⟩:=(h.gG f fo hf).row;obtain ⟨h6,h7⟩:=h5 g hb;refine ⟨O7 h6 z6,λoff=> ?_⟩;cases hp:e.φ g off with
  |none=>rfl
  |some u=>have:=(h7.1 off u hp).1;rw [hz] at this;cases this
 have nM:=setRow_size w g (cT.toList.take (i *I.size)++v'++cT.toList.drop (i *I.size+I.size)).toArray;have hE1:XX e {e with m:=bN e.m f ⟨fo.ty,false,fo.xs.set i x⟩}:=by
  refine ⟨rfl,.refl _,λf2 o2 cw=>⟨?_,rfl⟩⟩;have cw:aE (bN e.m f ⟨fo.ty,false,fo.xs.set i x⟩) f2=some o2:=cw;rw [bg] at cw;by_cases eJ:f2=f
  ·exact ⟨fo,by rw [eJ,h.m];exact hf⟩
  ·simp only [eJ,if_false] at cw;exact ⟨o2,cw⟩
 have rT:jQ (· ≠f) (λ_=>True) e {e with m:=bN e.m f ⟨fo.ty,false,fo.xs.set i x⟩}:=by refine ⟨rfl,.refl _,λ_ _=>rfl,λf2 o2 cw df=> ?_⟩;have cw:aE (bN e.m f ⟨fo.ty,false,fo.xs.set i x⟩) f2=some o2:=cw;rw [bg] at cw;simp only [df,if_false] at cw;exact ⟨o2,cw,rfl,rfl⟩
 have oz: ∀f2 o2,aE (bN st.aM f ⟨fo.ty,false,fo.xs.set i x⟩) f2=some o2-> ∃o3,aE st.aM f2=some o3:=by
  intro f2 o2 cw;rw [bg] at cw;by_cases eJ:f2=f
  ·exact ⟨fo,by rw [eJ];exact hf⟩
  ·simp only [eJ,if_false] at cw;exact ⟨o2,cw⟩
 refine ⟨⟨h.defers,h.size,by show bN e.m f _=bN st.aM f _;rw [h.m],h.key,?_,?_,?_,?_,?_,?_,?_,?_,λb hb=>h.b7 b (by omega)⟩,hZ.1⟩
 ·show (aK (zU f st.fr)).Nodup;have:aK (zU f st.fr)=aK st.fr:=by simp [aK,zU]
  rw [this];exact h.nodup
 ·intro t;show bS Z _ _ t _ (al (zU f st.fr) t);rw [wk];have hs:=h.slot t;have hbf:=h.bf t;generalize al st.fr t=s at hs hbf;by_cases E8: ∃cs,s= .box cs
  ·obtain ⟨cs,rfl⟩:=E8;simp only [bS,RX] at hs⊢;refine ⟨hs.1,hs.2.b7,?_,hs.2.free⟩;obtain ⟨o2,h1,h2⟩:=hs.2.obj;refine ⟨o2,?_,h2.WV hE1 rfl (.refl _)⟩;rw [setRow_other _ _ _ _ (by intro eb;exact hbf cs f fo rfl hf (by rw [hb,<-eb]))];exact h1
  ·have xy:aa e (a.tmps.getD t undef) s:=by cases s<;>simp only [bS] at hs<;>first|exact hs|exact absurd ⟨_,rfl⟩ E8
   have h2:=xy.WV (f:=f) hE1 rT (dF s);generalize Vc:RX f s=s2 at h2;cases s2<;>first|exact h2|(exfalso;simp [aa] at h2)
 ·intro t;show cy (zU f st.fr) (al (zU f st.fr) t);rw [wk];have pK:=h.root t;generalize al st.fr t=s at pK;have hk: ∀q,cO (al (zU f st.fr) q)=cO (al st.fr q):=λq=>by rw [wk,Vb]
  cases s with
  |ptr q o=>show cO (al (zU f st.fr) q)=true;rw [hk];exact pK
  |hp q o i=>show cO (al (zU f st.fr) q)=true;rw [hk];exact pK
  |zN q=>show cO (al (zU f st.fr) q)=true;rw [hk];exact pK
  |ep g' _ _ _ _=>simp only [RX];cases bB g' f<;>trivial
  |_=>trivial
 ·intro f2 o2 cw;have cw:aE (bN st.aM f ⟨fo.ty,false,fo.xs.set i x⟩) f2=some o2:=cw;rw [bg] at cw;by_cases eJ:f2=f
  ·subst eJ;simp at cw;subst cw;obtain ⟨hlen,PB⟩:=dk;refine ⟨I,cells.take (i *I.size)++v'++cells.drop (i *I.size+I.size),hI,Rg,⟨?_,?_⟩,?_,?_⟩
   ·have hle:i *I.size+I.size<=fo.xs.length *I.size:=by rw [<-abj];exact aaU _ hi
    simp only [By,aci,adE,afd];omega
   ·have hle:i *I.size+I.size<=fo.xs.length *I.size:=by rw [<-abj];exact aaU _ hi
    rcases PB with ⟨h1,_⟩|⟨g2,DC,wm,h1,_,h3,h4,h5,h6,h7⟩
    ·rw [hE] at h1;simp at h1
    ·rw [hE] at h1;simp at h1;obtain ⟨rfl,rfl⟩:=h1;rw [hg] at h3;simp at h3;subst h3;refine .inr ⟨g,cap,(cT.toList.take (i *I.size)++v'++cT.toList.drop (i *I.size+I.size)).toArray,by rw [hE];simp,by omega,setRow_heap _ _ _ _ _ _ hg,by simpa using h4,h5,?_,?_⟩
     ·have oe:cT.toList.length=cT.size:=by simp
      have hcz:fo.xs.length *I.size<=cap *I.size:=aaU _ h4;simp only [abS,By,aci,adE,oe];omega
     ·have oe:cT.toList.length=cT.size:=by simp
      have hcz:fo.xs.length *I.size<=cap *I.size:=aaU _ h4;simp only [afd];rw [<-h7];have e1:(cT.toList.take (fo.xs.length *I.size)).take (i *I.size)=cT.toList.take (i *I.size):=by rw [List.take_take,Nat.min_eq_left (by omega)]
      have e2:(cT.toList.take (fo.xs.length *I.size)).drop (i *I.size+I.size)=(cT.toList.drop (i *I.size+I.size)).take (fo.xs.length *I.size-(i *I.size+I.size)):=by rw [List.drop_take]
      rw [e1,e2];have e3:(cT.toList.take (i *I.size)++v').length=i *I.size+I.size:=by simp only [By,aci,oe];omega
      show List.take _ (cT.toList.take (i *I.size)++v'++cT.toList.drop (i *I.size+I.size))=_;rw [acb,e3,abQ (by omega)]
   ·exact gJ.set hi hl hr
   ·intro aR jt;rw [hb] at jt;cases jt;exact ⟨.inr hZ.1,λoff u hu=>(by have hu:e.φ g off=some u:=hu;rw [hZ.2] at hu;cases hu),λ_ hf=>Bool.noConfusion hf⟩
  ·simp only [eJ,if_false] at cw;obtain ⟨I2,vC,h1,h2,h3,h4,h5⟩:=(h.gG f2 o2 cw).row;exact ⟨I2,vC,h1,h2,RU (λhk=>eJ (h.ff f2 f o2 fo g cw hf hk hb)) h3,h4,h5⟩
 ·intro t t' c1 c2 h1 h2 df;have h1:al (zU f st.fr) t= .box c1:=h1;have h2:al (zU f st.fr) t'= .box c2:=h2;rw [wk] at h1 h2;have g1:al st.fr t= .box c1:=by generalize al st.fr t=s at h1;cases s<;>simp only [RX] at h1<;>first|exact h1|(simp at h1;done)|(rename_i g' _ _ _ _;cases EQ:bB g' f<;>simp [EQ] at h1)
  have g2:al st.fr t'= .box c2:=by generalize al st.fr t'=s at h2;cases s<;>simp only [RX] at h2<;>first|exact h2|(simp at h2;done)|(rename_i g' _ _ _ _;cases EQ:bB g' f<;>simp [EQ] at h2)
  exact h.bb t t' c1 c2 g1 g2 df
 ·intro t c1 f2 o2 h1 h2;have h1:al (zU f st.fr) t= .box c1:=h1;rw [wk] at h1;have g1:al st.fr t= .box c1:=by generalize al st.fr t=s at h1;cases s<;>simp only [RX] at h1<;>first|exact h1|(simp at h1;done)|(rename_i g' _ _ _ _;cases EQ:bB g' f<;>simp [EQ] at h1)
  obtain ⟨o3,TA⟩:=oz f2 o2 h2;exact h.bf t c1 f2 o3 g1 TA
 ·intro f1 f2 o1 o2 k h1 h2 h3 h4;obtain ⟨q1,g1⟩:=oz f1 o1 h1;obtain ⟨q2,g2⟩:=oz f2 o2 h2;exact h.ff f1 f2 q1 q2 k g1 g2 h3 h4
 ·intro b off v hv;have hv:e.φ b off=some v:=hv;have df:b≠g:=by intro eb;subst eb;rw [hZ.2] at hv;cases hv
  rw [aa2 (setRow_other _ _ _ _ df)];exact h.iK b off v hv
theorem aw.Vd {cs:List aD}: ∀{vs:List Value} {ms:List MV},aw e vs cs->bC cs=some ms->fe e.key e.φ vs ms:=by
 induction cs with
 |nil=>intro vs ms h hm;cases h;simp [bC] at hm;subst hm;exact .nil
 |cons l r ih=>
  intro vs ms h hm;obtain ⟨v,u,rfl,h1,h2⟩:=h;cases hr:bC r with
  |none=>cases l<;>simp [bC,hr] at hm
  |some q=>
   cases l<;>simp [bC,hr] at hm
   ·subst hm;exact .cons v _ u q h1.2 (ih h2 hr)
   ·subst hm;have h1:v=a8 _:=h1;subst h1;exact .cons _ _ u q (.h _) (ih h2 hr)
theorem XY {b:Bool}{ms:List MV}{x:MV}{vs:List Value}(h:fe e.key e.φ vs ms)(hx:vA b ms=some x):gk e.key e.φ vs x:=by
 cases b with
 |true=>cases ms<;>simp [vA] at hx<;>subst hx<;>exact .agg _ _ h
 |false=>
  cases ms with
  |nil=>simp [vA] at hx
  |cons m ms=>
   cases ms with
   |cons y ys=>simp [vA] at hx
   |nil=>
    simp [vA] at hx;subst hx;generalize yU:vs=La at h;cases h with
    |cons v _ u _ h1 h2=>cases h2;simpa using h1
theorem XZ {t:TypeId}{x y:Operand}{I:TI}(ho:o.op= .store t x y)(hI:c.tv t=some I)(hT:fZ P c.ti)(h:bO c Z e st a w)(hK:stK st I (aF c st x) (aF c st y) (λst=>bh c st o.dst (.sc .un) K)=some r):o.wp P a w (Out c Z K r e.φ w) Q:=by
 obtain ⟨hx,pK⟩:=h.eval x;obtain ⟨hy,_⟩:=h.eval y;obtain ⟨kR,hc⟩:=aV hI;have hr:=hT t I kR;have go: ∀w' bT,(ady t (a.eval x) (a.eval y)).run P w= .ok () w'->bO c Z e bT a w'->Trans Z e.φ w e.φ w'->bh c bT o.dst (.sc .un) K=some r->o.wp P a w (Out c Z K r e.φ w) Q:=by intro w' bT h1 h2 h3 h4;refine Dz ?_ h2 h3 h4;simp [execOp,ho,h1]
 generalize aF c st x=sx at hx hK pK;generalize aF c st y=sy at hy hK;unfold stK at hK;cases hb:wi (aH sy)||!bB (zQ (aH sy)) I.size with
 |true=>simp [hb] at hK
 |false=>
  simp only [hb,cond_false] at hK;simp only [aa3,adu] at hb;have G6:=sh hb.2;have eL:0<I.size:=by
   rcases hr.agg hc with ⟨d,hu,hd,hh⟩|⟨_,_,_,_,hh⟩
   ·obtain ⟨d',i',h1,h2,h3,h4⟩:=hr;cases d'<;>simp only [rU] at h4<;>first|omega|exact h4.2.2.1|exact absurd hc h4.2.1
   ·omega
  have df:aH sy≠[]:=by intro e0;rw [e0] at G6;simp [zQ] at G6;omega
  have hcv:=B2 hy hb.1 df;split at hK
  ·rename_i root off;simp only [aa] at hx;split at hK
   ·rename_i cs um;have uL:eI cs=false:=by cases hq:eI cs<;>simp_all
    simp only [uL,cond_false] at hK;cases hp:putAt cs off (aH sy) with
    |none=>simp [hp] at hK
    |some fL=>simp only [hp] at hK;obtain ⟨w',bT,h1,h2,h3,h4⟩:=U7 (P:=P) uL hr hc h um hcv G6 hp hK;exact go w' bT (by rw [hx];exact h1) h2 h3 h4
   ·simp at hK
  ·rename_i root off i;simp only [aa] at hx;obtain ⟨hx,RT⟩:=hx;split at hK
   ·rename_i cs n um;have uL:eI cs=false:=by cases hq:eI cs<;>simp_all
    simp only [uL,cond_false] at hK;split at hK
    ·rename_i x ls aeC;unfold gI at hK;split at hK
     ·rename_i k n;by_cases hk:k= .u8
      ·subst hk;simp only [decide_true,cond_true] at hK;obtain ⟨DD,hK⟩:=dC hK;unfold isByte at DD;have DD:=of_decide_eq_true DD;have hyv:=kX hy;cases hp:putAt cs off [.hs (x.put i (abi n.toNat))] with
       |none=>simp [hp] at hK
       |some fL=>
        simp only [hp] at hK;have nb:=h.slot root;rw [um] at nb;obtain ⟨arr,T,ct,pG⟩:=nb.2.cells uL;obtain ⟨p1,p2,p3,he,h1,h2,h3⟩:=xr (ws:=a8 (x.put i (abi n.toNat))) hp pG ⟨_,[],by simp,rfl,rfl⟩;obtain ⟨u1,u2,hu,h4,h5⟩:=zW aeC pG;obtain ⟨u3,u4,rfl,h6,_⟩:=h5;have h6:u3=a8 x:=h6;subst h6;have hlx:=cS x;have hly:=cS (x.put i (abi n.toNat));have hpu:p1=u1/\p2++p3=a8 x++u4:=List.append_inj (by rw [<-AI,<-he,hu]) (by omega);obtain ⟨rfl,hpu⟩:=hpu;obtain ⟨rfl,rfl⟩:=List.append_inj hpu (by omega);have nM:arr.size=p1.length+32+p3.length:=by
         have:arr.toList.length=(p1++a8 x++p3).length:=by rw [he]
         simp at this;omega
        have NT:(a.eval y).cells.toList=[.int .u8 n]:=by rw [hyv];simp [aaR]
        have HI:I.size=1:=by rw [<-G6];rfl
        have bA:=ny (P:=P) (w:=w) (aR:=e.B root) (off:=off+i) (v:=a.eval y) hr hc (by rw [NT,HI];rfl) (by rw [NT];simp [No]) ct (by omega);have mL:arr.toList.take (off+i)++(a.eval y).cells.toList++arr.toList.drop (off+i+I.size)=p1++a8 (x.put i (abi n.toNat))++p3:=by rw [NT,HI,he,Ir x i _ RT,<-DD,AI p1,acb,adA,acb,adA];rw [abQ (by omega),adS (by omega)];rw [show off+i-p1.length=i by omega,show off+i+1-p1.length=i+1 by omega,show i-(a8 x).length=0 by omega,show i+1-(a8 x).length=0 by omega];simp
        rw [mL] at bA;unfold wr at hK;cases hn:bn st.cu root with
        |true=>simp [hn] at hK
        |false=>simp only [hn,cond_false,force_eq,ma] at hK;exact go _ _ (by rw [hx];exact bA) (h.XQ um ct (by simpa using h3) (λt=>by rw [bL]) (dZ h.nodup)) (.setRow _ (O7 nb.2.b7 (by rw [<-h.defers.2.1,<-bk,hn];simp))) hK
      ·simp [hk] at hK
     ·simp at hK
    ·simp at hK
   ·simp at hK
  ·rename_i f i off b cs;obtain ⟨e1,dc,ms,yT,Dl,E6,Cq,hK,U8,Ab⟩:=nd h hcv hK;have hx:=hx.on Dl.on (dF _);cases hf:aE dc.aM f with
   |none=>simp [hf] at hK
   |some fo=>
    simp only [hf] at hK;cases hz:fo.dW with
    |true=>simp [hz] at hK
    |false=>
     simp only [hz,cond_false] at hK;cases Mn:rn (aH sy) ms with
     |none=>simp [Mn] at hK
     |some vs=>
      simp only [Mn] at hK;obtain ⟨yU,_⟩:=Ab vs Mn;cases hp:putAt cs off vs with
      |none=>simp [hp] at hK
      |some fL=>
       simp only [hp] at hK;cases hm:bC fL with
       |none=>simp [hm] at hK
       |some ms'=>
        simp only [hm] at hK;cases hre:vA b ms' with
        |none=>simp [hre] at hK
        |some x'=>
         simp only [hre] at hK;cases hn:bn dc.cq f with
         |true=>simp [hn] at hK
         |false=>
          simp only [hn,cond_false,aeu,oP] at hK;simp only [aa] at hx;obtain ⟨aR,cap,hE,⟨x0,hx0,hel⟩,X0⟩:=hx fo (by rw [yT.m];exact hf);obtain ⟨J,cells,hJ,hJc,dk,gJ,_⟩:=(yT.gG f fo hf).row;have hi:i<fo.xs.length:=(AS.1 hx0).1;obtain ⟨p1,v1,p2,hce,NR,zm,et⟩:=gJ.at hx0;have pG:=et.Il hel;have hw1:=pG.width;obtain ⟨q1,q2,q3,RS,hq1,hq2,mL⟩:=xr hp pG yU;have ahg:(a.eval y).cells.toList.length=I.size:=by rw [hcv.width,G6]
          have ahh:=XY (mL.Vd hm) hre;obtain ⟨hlen,PB⟩:=dk;rcases PB with ⟨g1,_⟩|⟨g2,DC,cT,g1,g0,g3,g4,g5,g6,g7⟩
          ·rw [hE] at g1;simp at g1
          ·have Ms:w.ownsRow 0 fo.ty J.size (e1.E f) fo.xs.length cells:=⟨hlen,.inr ⟨g2,DC,cT,g1,g0,g3,g4,g5,g6,g7⟩⟩
           rw [hE] at g1;simp at g1;obtain ⟨rfl,rfl⟩:=g1;have hvl:(q1++(a.eval y).cells.toList++q3).length=J.size:=by
            have:v1.length=(q1++q2++q3).length:=by rw [RS]
            simp only [By] at this⊢;omega
           obtain ⟨oJ,hZ⟩:=yT.aeL hf hz hJ hJc hE Ms g3 gJ hi hvl ahh (by rw [<-yT.defers.2.2.1,<-bk,hn];simp);have X1:cT.toList=p1++q1++q2++(q3++p2++cT.toList.drop (fo.xs.length *J.size)):=by have:=List.take_append_drop (fo.xs.length *J.size) cT.toList;rw [g7,hce,RS] at this;refine this.symm.trans ?_;simp
           have apu:q2.length=I.size:=by rw [hq2,ahg]
           have Aa:(p1++q1).length=i *J.size+off:=by simp [NR,hq1]
           have apv:cT.size=(p1++q1).length+I.size+(q3++p2++cT.toList.drop (fo.xs.length *J.size)).length:=by
            have:cT.toList.length=(p1++q1++q2++(q3++p2++cT.toList.drop (fo.xs.length *J.size))).length:=by rw [<-X1]
            rw [By,By] at this;rw [aa8] at this;omega
           have bA:=ny (P:=P) (w:=w) (aR:=aR) (off:=i *J.size+off) (v:=a.eval y) hr hc ahg hcv.cells g3 (by omega);have jr:cT.toList.take (i *J.size+off)++(a.eval y).cells.toList++cT.toList.drop (i *J.size+off+I.size)= cT.toList.take (i *J.size)++(q1++(a.eval y).cells.toList++q3)++cT.toList.drop (i *J.size+J.size):=by
            have t1:cT.toList.take (i *J.size+off)=p1++q1:=by
             conv=>lhs;rw [X1,AI (p1++q1)]
             exact acP Aa
            have t2:cT.toList.drop (i *J.size+off+I.size)=q3++p2++cT.toList.drop (fo.xs.length *J.size):=by
             conv=>lhs;rw [X1]
             exact abv (by rw [By];omega)
            have t3:cT.toList.take (i *J.size)=p1:=by
             conv=>lhs;rw [X1]
             simp only [AI];exact acP NR
            have t4:cT.toList.drop (i *J.size+J.size)=p2++cT.toList.drop (fo.xs.length *J.size):=by
             have PC:cT.toList=(p1++(q1++q2++q3))++(p2++cT.toList.drop (fo.xs.length *J.size)):=by
              conv=>lhs;rw [X1]
              simp
             conv=>lhs;rw [PC]
             exact abv (by rw [By,<-RS];omega)
            rw [t1,t2,t3,t4];simp
           rw [jr] at bA;have ali:i *zQ cs+off=i *J.size+off:=by rw [<-hw1,zm]
           refine Dz (w':=w.setRow aR (cT.toList.take (i *J.size)++(q1++(a.eval y).cells.toList++q3)++cT.toList.drop (i *J.size+J.size)).toArray) ?_ oJ ?_ hK
           ·rw [ali] at X0;simp [execOp,ho,X0,bA]
           ·exact Dl.tr.trans (.setRow _ hZ)
  ·simp at hK
end
end Dn
/-
  Structs and sums that are put together. Conditions: none.
-/
namespace Dn
open Go
section
variable {P:Program}{c:Ctx}{Z:bu} {e e':Env}{st:St}{a:Act} {w w':World}{R:Type}{K:St->Option R}{r:R}{Q:Exit->Act->World->Prop}{o:Oper}
theorem Mt {place:Nat->Option (Nat×Nat)}{cells:Array Value}{i off:Nat}{v:Value}{rest:List (Nat×Value)}(hp:place i=some (off,v.cells.size))(hle:off+v.cells.size<=cells.size): adX place cells ((i,v)::rest)=adX place (cells.toList.take off++v.cells.toList++cells.toList.drop (off+v.cells.size)).toArray rest:=by
 conv=>lhs;unfold adX
 simp only [hp];rw [if_neg (by simp;omega)];congr 1;rw [<-Array.foldl_toList,Array.toList_zipIdx];obtain ⟨h1,h2⟩:=Go.Great.foldl_set off v.cells.toList 0 cells;apply Array.ext_getElem?;intro k;have hl:(cells.toList.take off).length=off:=by simp;omega
 have e0:=h2 k;simp only [adm,aa8] at e0;refine Eq.trans e0 ?_;have e1:(cells.toList.take off++v.cells.toList++cells.toList.drop (off+v.cells.size)).toArray[k]? =(cells.toList.take off++v.cells.toList++cells.toList.drop (off+v.cells.size))[k]? :=by simp
 rw [e1,AI];have e2:cells[k]? =cells.toList[k]? :=by simp
 by_cases h3:k<off
 ·rw [if_neg (by omega),aar (by omega),aa9,if_pos h3,e2]
 ·rw [OF (by omega),hl];by_cases h4:k<off+v.cells.size
  ·rw [if_pos ⟨by omega,h4,by omega⟩,aar (by simp;omega)]
  ·rw [if_neg (by omega),OF (by simp;omega),aez,e2];congr 1;simp;omega
theorem RY {I:TI}{places:List (Nat×Nat)}(h:bO c Z e st a w)(Mn: ∀(i q y:Nat)(J:TI),I.ES[i]? =some q->I.UT[i]? =some y->c.tv y=some J->places[i]? =some (q,J.size)/\0<J.size){parts:List (Nat×Operand)}: ∀{cs ds:List aD} {cells:Array Value},aw e cells.toList cs->Cg c st I parts cs=some ds-> ∃out,adX (places.toArray[·]?) cells (parts.map λp=>(p.1,a.eval p.2))=some out/\aw e out.toList ds:=by
 induction parts with
 |nil=>intro cs ds cells hl hb;simp [Cg] at hb;subst hb;exact ⟨cells,rfl,hl⟩
 |cons p ps ih=>
  intro cs ds cells hl hb;obtain ⟨i,x⟩:=p;simp only [Cg] at hb;split at hb
  ·rename_i q y hq hy;cases hJ:c.tv y with
   |none=>simp [hJ] at hb
   |some J=>
    simp only [hJ] at hb;obtain ⟨hpi,eL⟩:=Mn i q y J hq hy hJ;cases hu:wi (aH (aF c st x))||!bB (zQ (aH (aF c st x))) J.size with
    |true=>simp [hu] at hb
    |false=>
     simp only [hu,cond_false] at hb;simp only [aa3,adu] at hu;have G6:=sh hu.2;cases hp:putAt cs q (aH (aF c st x)) with
     |none=>simp [hp] at hb
     |some fL=>
      simp only [hp] at hb;have df:aH (aF c st x)≠[]:=by intro e0;rw [e0] at G6;simp [zQ] at G6;omega
      have hv:=B2 (h.eval x).1 hu.1 df;obtain ⟨p1,p2,p3,he,h1,h2,h3⟩:=xr hp hl hv;have hlen:(a.eval x).cells.size=J.size:=by rw [<-G6,<-hv.width];simp
      have nM:cells.size=p1.length+p2.length+p3.length:=by
       have:cells.toList.length=(p1++p2++p3).length:=by rw [he]
       simp at this;omega
      have Ld:p2.length=(a.eval x).cells.size:=by rw [h2];simp
      have TD:=Mt (place:=(places.toArray[·]?)) (cells:=cells) (i:=i) (off:=q) (v:=a.eval x) (rest:=ps.map λp=>(p.1,a.eval p.2)) (by rw [hlen];simpa using hpi) (by omega);have ht:cells.toList.take q++(a.eval x).cells.toList++cells.toList.drop (q+(a.eval x).cells.size)=p1++(a.eval x).cells.toList++p3:=by rw [he];rw [AI p1 p2 p3,acP h1,<-AI p1 p2 p3,abv (by rw [By];omega)]
      rw [ht] at TD;obtain ⟨out,h4,h5⟩:=ih (cells:=(p1++(a.eval x).cells.toList++p3).toArray) (by simpa using h3) hb;exact ⟨out,by rw [IT,TD];exact h4,h5⟩
  ·simp at hb
theorem RZ {parts:List (Nat×Operand)}(h:bO c Z e st a w): ∀{x:kv} {K':kv->Option R},H2 c st parts x K'=some r-> ∃y,adX (λi=>some (i *1,1)) (a8 x).toArray (parts.map λp=>(p.1,a.eval p.2))=some (a8 y).toArray/\K' y=some r:=by
 induction parts with
 |nil=>intro x K' hb;exact ⟨x,rfl,hb⟩
 |cons p ps ih=>
  intro x K' hb;obtain ⟨i,y⟩:=p;simp only [H2] at hb;split at hb
  ·rename_i m hm;cases hi:aaW 32 i with
   |true=>simp [hi] at hb
   |false=>
    simp only [hi,cond_false] at hb;have RT:i<32:=by
     by_cases dO:i<32
     ·exact dO
     ·have:aaW 32 i=true:=ad1 (by omega);simp_all
    unfold gI at hb;split at hb
    ·rename_i k n;by_cases hk:k= .u8
     ·subst hk;simp only [decide_true,cond_true] at hb;obtain ⟨DD,hb⟩:=dC hb;unfold isByte at DD;have DD:=of_decide_eq_true DD;obtain ⟨out,h1,h2⟩:=ih hb;have hv:=kX (by have:=(h.eval y).1;rw [hm] at this;exact this);refine ⟨out,?_,h2⟩;rw [<-h1,IT];have Dm:(a.eval y).cells= #[.int .u8 n]:=by rw [hv];simp [aaR]
      have TD:=Mt (place:=λi=>some (i *1,1)) (cells:=(a8 x).toArray) (i:=i) (off:=i *1) (v:=a.eval y) (rest:=ps.map λp=>(p.1,a.eval p.2)) (by rw [Dm];rfl) (by rw [Dm];have:=cS x;simp;omega);rw [TD,Ir x i _ RT,<-DD,Dm];simp
     ·simp [hk] at hb
    ·simp at hb
  ·simp at hb
theorem Ve (P:Program)(l:List Field):(∀f∈l,∃i,P.info? f.type=some i)-> ∃places,l.mapM (λf=>(P.info? f.type).map λi=>(f.offset,i.size))=some places/\ ∀(k:Nat) (f:Field),l[k]? =some f-> ∃i,P.info? f.type=some i/\places[k]? =some (f.offset,i.size):=by
 induction l with
 |nil=>intro _;exact ⟨[],by simp,by simp⟩
 |cons f fs ih=>
  intro h;obtain ⟨i,hi⟩:=h f (by simp);obtain ⟨ps,h1,h2⟩:=ih (λg hg=>h g (by simp [hg]));refine ⟨(f.offset,i.size)::ps,by simp [List.mapM_cons,hi,h1],?_⟩;intro k g hg;cases k with
  |zero=>simp at hg;subst hg;exact ⟨i,hi,rfl⟩
  |succ k=>simp at hg;simpa using h2 k g hg
theorem X2 {t:TypeId}{parts:Array (Nat×Operand)}{I:TI}(ho:o.op= .build t parts)(hI:c.tv t=some I)(hT:fZ P c.ti)(h:bO c Z e st a w)(hK:(bif I.st then (match Cg c st I parts.toList I.zero with|some cs=>bh c st o.dst (.ag cs) K|none=>none)
  else (match I.lay with|[.h]=>H2 c st parts.toList kv.zero λx=>bh c st o.dst (.sc (.hs x)) K|_=>none))=some r):Rd P c Z K r e a w o (λ_=>True):=by
 obtain ⟨kR,hc⟩:=aV hI;obtain ⟨d,i,h1,h2,h3,h4⟩:=hT t I kR;have WW:(parts.map λ(i,x)=>(i,a.eval x)).toList=parts.toList.map λp=>(p.1,a.eval p.2):=by simp
 have run: ∀out,P.built t (parts.toList.map λp=>(p.1,a.eval p.2))=some out-> ∀w:World,(execOp a.eval o).run P w= .ok (.value (.agg out)) w:=by intro out hb w;have:=run_build (P:=P) w t (parts.map λ(i,x)=>(i,a.eval x)) out (by rw [WW];exact hb);simp [execOp,ho] at this⊢;simp [this]
 cases dB:I.st with
 |true=>
  simp only [dB,cond_true] at hK;cases d<;>simp only [rU] at h4;case struct fs=>
   obtain ⟨_,_,_,ho1,cw,TA,zc,hz,hzl,_⟩:=h4;cases hb:Cg c st I parts.toList I.zero with
   |none=>simp [hb] at hK
   |some cs=>
    simp only [hb] at hK;have alj: ∃places,fs.toList.mapM (λf=>(P.info? f.type).map λi=>(f.offset,i.size))=some places/\ (∀(i q y:Nat) (J:TI),I.ES[i]? =some q->I.UT[i]? =some y->c.tv y=some J->places[i]? =some (q,J.size)/\0<J.size):=by
     obtain ⟨places,U8,KT⟩:=Ve P fs.toList (by intro f hf;obtain ⟨k,hk,rfl⟩:=ad8.1 hf;obtain ⟨J,hJ,hJc,_⟩:=TA k fs.toList[k] (by simp at hk⊢);obtain ⟨i,hi,_⟩:=(hT _ J hJ).info hJc;exact ⟨i,hi⟩);refine ⟨places,U8,?_⟩;intro i q y J hq hy hJ;rw [<-ho1,aaZ] at hq;rw [<-cw,aaZ] at hy;cases hf:fs.toList[i]? with
     |none=>simp [hf] at hq
     |some f=>simp [hf] at hq hy;subst hq;subst hy;obtain ⟨J2,hJ2,alk,eL⟩:=TA i f (by simpa using hf);obtain ⟨hJt,_⟩:=aV hJ;rw [hJ2] at hJt;cases hJt;obtain ⟨i2,WX,alm⟩:=KT i f hf;obtain ⟨i3,hi3,hs3,_⟩:=(hT _ J hJ2).info alk;rw [WX] at hi3;cases hi3;exact ⟨by rw [alm,hs3],eL⟩
    obtain ⟨places,Mn,R0⟩:=alj;obtain ⟨out,h5,h6⟩:=RY h R0 (cells:=zc) (lD hzl) hb;refine iL (v:= .agg out) (s:= .ag cs) h (run out ?_) ?_ trivial hK
    ·unfold Program.built;simp only [h2,h1,hz,Mn];exact h5
    ·simp only [aa];exact ⟨out,rfl,h6⟩
  all_goals (exfalso;simp_all)
 |false=>
  simp only [dB,cond_false] at hK;split at hK
  ·rename_i hl;cases d<;>simp only [rU,hl,dB] at h4<;>first|(exfalso;simp_all;done)|skip
   obtain ⟨_,_,_,rfl,rfl,⟨ie,hu,qw,yT⟩,_,_,hz⟩:=h4;obtain ⟨y,h5,h6⟩:=RZ h hK;refine iL (v:= .agg (a8 y).toArray) (s:= .sc (.hs y)) h (run _ ?_) ?_ trivial h6
   ·unfold Program.built;simp only [h2,h1,hz,qw,yT];exact h5
   ·simp only [aa]
  ·simp at hK
end
end Dn
/-
  A family comes to have other content. Conditions: none.
-/
namespace Dn
open Go
section
variable {P:Program}{c:Ctx}{Z:bu} {e e':Env}{st:St}{a:Act} {w w':World}{R:Type}{K:St->Option R}{r:R}{Q:Exit->Act->World->Prop}{o:Oper}
def Env.wo (e:Env)(f:Nat)(v:Value)(fo:ox):Env:={e with E:=λg=>if g=f then v else e.E g,m:=bN e.m f fo}
def St.wo (st:St)(f:Nat)(fo:ox):St:={st with fr:=lp f st.fr,aM:=bN st.aM f fo}
theorem E9 (f:Nat)(s:Slot):cO (A9 f s)=cO s:=by cases s<;>simp only [A9,cO];rename_i g _ _ _ _;cases bB g f<;>rfl
theorem uM {f:Nat}{s:Slot}{cs:List aD}(h:A9 f s= .box cs): ∃G8,s= .box G8/\cs=G8.map (NK f):=by
 cases s<;>simp only [A9] at h<;>first|(simp at h;done)|(rename_i g _ _ _ _;cases hb:bB g f<;>simp [hb] at h;done)|skip
 rename_i G8;simp at h;exact ⟨G8,rfl,h.symm⟩
theorem bO.ir {f:Nat}{fo:ox} {v':Value}(h:bO c Z e st a w)(z6:f∉Z.cq)(fS:cj c Z.nc e w' v' fo)(anK:w.heap.size<=w'.heap.size)(ct: ∀b,b<w.heap.size->(∀o,aE st.aM f=some o->(e.E f).ownBlock≠some b)->w'.heap[b]? =w.heap[b]?)(iu: ∀b o v,e.φ b o=some v->w'.cell? ⟨b,o,none⟩=some v)(mL: ∀b,v'.ownBlock=some b->w.heap.size<=b\/ ∃o,aE st.aM f=some o/\(e.E f).ownBlock=some b): bO c Z (e.wo f v' fo) (st.wo f fo) a w':=by
 have rT:jQ (· ≠f) (λ_=>True) e (e.wo f v' fo):=by refine ⟨rfl,.refl _,λ_ _=>rfl,λf2 o2 cw df=> ?_⟩;have cw:aE (bN e.m f fo) f2=some o2:=cw;rw [bg] at cw;simp only [df,if_false] at cw;exact ⟨o2,cw,by simp [Env.wo,df],rfl⟩
 have X3: ∀t cs,al st.fr t= .box cs->e.B t<w.heap.size:=by intro t cs ht;have hs:=h.slot t;rw [ht] at hs;obtain ⟨o2,h1,_⟩:=hs.2.obj;exact aN h1
 have vB: ∀t cs,al st.fr t= .box cs->w'.heap[e.B t]? =w.heap[e.B t]? :=by intro t cs ht;exact ct _ (X3 t cs ht) (λo ho=>h.bf t cs f o ht ho)
 refine ⟨h.defers,h.size,by show bN e.m f _=bN st.aM f _;rw [h.m],h.key,?_,?_,?_,?_,?_,?_,?_,iu,λb hb=>h.b7 b (by omega)⟩
 ·show (aK (lp f st.fr)).Nodup;have:aK (lp f st.fr)=aK st.fr:=by simp [aK,lp]
  rw [this];exact h.nodup
 ·intro t;show bS Z _ _ t _ (al (lp f st.fr) t);rw [gz];have hs:=h.slot t;have DE:=vB t;generalize al st.fr t=s at hs DE;by_cases E8: ∃cs,s= .box cs
  ·obtain ⟨cs,rfl⟩:=E8;simp only [bS,A9] at hs⊢;refine ⟨hs.1.lB (RN f _),hs.2.b7,?_,hs.2.free⟩;obtain ⟨o2,h1,h2⟩:=hs.2.obj;refine ⟨o2,by show w'.heap[e.B t]? =_;rw [DE cs rfl];exact h1,?_⟩;refine (h2.map (λ_ _=>aJ.kill f) (λ_ _=>rfl)).on rT ?_;intro l hl;obtain ⟨x,_,rfl⟩:=acQ.1 hl;exact E3 f x
  ·have xy:aa e (a.tmps.getD t undef) s:=by cases s<;>simp only [bS] at hs<;>first|exact hs|exact absurd ⟨_,rfl⟩ E8
   have h2:=(xy.kill f).on rT (XH f _ s (dF s));generalize Vc:A9 f s=s2 at h2;cases s2<;>first|exact h2|(exfalso;simp [aa] at h2)
 ·intro t;show cy (lp f st.fr) (al (lp f st.fr) t);rw [gz];have pK:=h.root t;generalize al st.fr t=s at pK;have hk: ∀q,cO (al (lp f st.fr) q)=cO (al st.fr q):=λq=>by rw [gz,E9]
  cases s with
  |ptr q o=>show cO (al (lp f st.fr) q)=true;rw [hk];exact pK
  |hp q o i=>show cO (al (lp f st.fr) q)=true;rw [hk];exact pK
  |zN q=>show cO (al (lp f st.fr) q)=true;rw [hk];exact pK
  |ep g' _ _ _ _=>simp only [A9];cases bB g' f<;>trivial
  |_=>trivial
 ·intro f2 o2 cw;have cw:aE (bN st.aM f fo) f2=some o2:=cw;rw [bg] at cw;by_cases eJ:f2=f
  ·subst eJ;simp at cw;subst cw;have:=(fS.to z6).env (e':=e.wo f2 v' fo) rfl rfl;simpa [Env.wo] using this
  ·simp only [eJ,if_false] at cw;obtain ⟨I2,vC,h1,h2,h3,h4,h5⟩:=(h.gG f2 o2 cw).row;refine ⟨I2,vC,h1,h2,?_,h4,?_⟩
   ·show w'.ownsRow 0 o2.ty I2.size (if f2=f then v' else e.E f2) o2.xs.length vC;rw [if_neg eJ];refine ⟨h3.1,?_⟩;rcases h3.2 with h6|⟨g,cap,cT,g1,g2,g3,g4⟩
    ·exact .inl h6
    ·refine .inr ⟨g,cap,cT,g1,g2,?_,g4⟩;rw [ct g (aN g3) (λo ho hk=>eJ (h.ff f2 f o2 o g cw ho (by rw [g1];rfl) hk))];exact g3
   ·intro aR hb;have hb:(if f2=f then v' else e.E f2).ownBlock=some aR:=hb;rw [if_neg eJ] at hb;exact h5 aR hb
 ·intro t t' c1 c2 h1 h2 df;have h1:al (lp f st.fr) t= .box c1:=h1;have h2:al (lp f st.fr) t'= .box c2:=h2;rw [gz] at h1 h2;obtain ⟨d1,g1,_⟩:=uM h1;obtain ⟨d2,g2,_⟩:=uM h2;exact h.bb t t' d1 d2 g1 g2 df
 ·intro t c1 f2 o2 h1 h2;have h1:al (lp f st.fr) t= .box c1:=h1;have h2:aE (bN st.aM f fo) f2=some o2:=h2;rw [gz] at h1;rw [bg] at h2;obtain ⟨d1,g1,_⟩:=uM h1;show (if f2=f then v' else e.E f2).ownBlock≠some (e.B t);by_cases eJ:f2=f
  ·rw [if_pos eJ];intro hb;rcases mL _ hb with h3|⟨o,h3,h4⟩
   ·have:=X3 t d1 g1;omega
   ·exact h.bf t d1 f o g1 h3 h4
  ·rw [if_neg eJ];simp only [eJ,if_false] at h2;exact h.bf t d1 f2 o2 g1 h2
 ·intro f1 f2 o1 o2 k h1 h2 h3 h4;have h1:aE (bN st.aM f fo) f1=some o1:=h1;have h2:aE (bN st.aM f fo) f2=some o2:=h2;have h3:(if f1=f then v' else e.E f1).ownBlock=some k:=h3;have h4:(if f2=f then v' else e.E f2).ownBlock=some k:=h4;rw [bg] at h1 h2;have pF: ∀g og,aE st.aM g=some og->(e.E g).ownBlock=some k->k<w.heap.size:=by
   intro g og hg hk;obtain ⟨I2,vC,_,_,g3,_⟩:=(h.gG g og hg).row;rcases g3.2 with ⟨g5,_⟩|⟨b,cap,cT,g5,_,g6,_⟩
   ·rw [g5] at hk;simp [aas] at hk
   ·rw [g5] at hk;simp only [aas,AT] at hk;subst hk;exact aN g6
  by_cases NU:f1=f
  ·by_cases B4:f2=f
   ·rw [NU,B4]
   ·rw [if_pos NU] at h3;rw [if_neg B4] at h4;simp only [B4,if_false] at h2;rcases mL k h3 with h5|⟨o,h5,h6⟩
    ·have:=pF f2 o2 h2 h4;omega
    ·exact NU.trans (h.ff f f2 o o2 k h5 h2 h6 h4)
  ·rw [if_neg NU] at h3;simp only [NU,if_false] at h1;by_cases B4:f2=f
   ·rw [if_pos B4] at h4;rcases mL k h4 with h5|⟨o,h5,h6⟩
    ·have:=pF f1 o1 h1 h3;omega
    ·exact (h.ff f1 f o1 o k h1 h5 h3 h6).trans B4.symm
   ·rw [if_neg B4] at h4;simp only [B4,if_false] at h2;exact h.ff f1 f2 o1 o2 k h1 h2 h3 h4
theorem oh {f:Nat}{fo:ox}(hK:ir st f fo K=some r):K (st.wo f fo)=some r:=by
 unfold Dn.ir at hK;cases hn:bn st.cq f with
 |true=>simp [hn] at hK
 |false=>simpa [hn,XE,oP,St.wo] using hK
theorem bO.npf {f:Nat}{fo:ox}(h:bO c Z e st a w)(hK:Dn.ir st f fo K=some r):f∉Z.cq:=by intro hm;rw [<-h.defers.2.2.1,<-bk] at hm;simp [Dn.ir,hm] at hK
theorem sV {f:Nat}{fo:ox}{v:Value}(h1:v.oneCell'=true):aa (e.wo f v fo) v (.sc (.own f)):=by simp only [aa];exact ⟨v,rfl,h1,λo ho=>by simp [Env.wo]⟩
end
end Dn
/-
  What is appended. Conditions: none.
-/
namespace Dn
open Go
section
variable {P:Program}{c:Ctx}{Z:bu} {e e':Env}{st:St}{a:Act} {w w':World}{R:Type}{K:St->Option R}{r:R}{Q:Exit->Act->World->Prop}{o:Oper}
theorem iA {t:TypeId}{I:TI}(hr:oa c.ti P t I)(hc:I.ch=[]): ∃i z,P.info? t=some i/\i.size=I.size/\i.bytes=I.bytes/\i.zero=some z/\z.cells.size=I.size:=by
 obtain ⟨d,i,h1,h2,h3,h4⟩:=hr;obtain ⟨h5,h6⟩:=h3 hc;cases d<;>simp only [rU] at h4;case struct fs=>obtain ⟨_,_,_,_,_,_,cs,hz,_,hs⟩:=h4;exact ⟨i,_,h2,h5,h6,hz,by simpa [aaR] using hs⟩
 case tuple ts=>exact absurd hc h4.2.1
 case slice el=>obtain ⟨_,_,hs,_,_,hz,_⟩:=h4;exact ⟨i,_,h2,h5,h6,hz,by rw [hs];rfl⟩
 case array n el=>obtain ⟨_,_,hs,_,_,_,_,_,hz⟩:=h4;exact ⟨i,_,h2,h5,h6,hz,by rw [hs];simp [aaR,cS]⟩
 case bool=>obtain ⟨_,_,hs,_,_,hz⟩:=h4;exact ⟨i,_,h2,h5,h6,hz,by rw [hs];rfl⟩
 case int k=>obtain ⟨_,_,hs,_,_,hz⟩:=h4;exact ⟨i,_,h2,h5,h6,hz,by rw [hs];rfl⟩
 case string=>obtain ⟨_,_,hs,_,_,b,hz,_⟩:=h4;exact ⟨i,_,h2,h5,h6,hz,by rw [hs];rfl⟩
 all_goals
  obtain ⟨_,_,hs,_,v,hz,hv,_⟩:=h4;refine ⟨i,v,h2,h5,h6,hz,?_⟩;rw [hs];cases v<;>simp_all [aaR,No]
structure Src (e:Env) (w:World) (size:Nat) (v:Value) (ys:List MV) (news:List Value):Prop where
 els:aP e.key e.φ size news ys
 val: ∃ad cap,v= .slice ad ys.length cap/\(ad=none->ys=[])/\ ∀x,ad=some x-> ∀(j:Nat) (u:Value),news[j]? =some u->w.cell? (x.add j)=some u
theorem aP.Ac {key:Nat->Nat} {φ:Ph}{size:Nat}{xs:List MV}: ∀{cs:List Value},aP key φ size cs xs-> ∀u∈cs,u.oneCell'=true:=by
 induction xs with
 |nil=>intro cs h;cases h;simp
 |cons x xs ih=>
  intro cs h u hu;obtain ⟨v,q,rfl,_,h2,h3⟩:=h;rcases adY.1 hu with hu|hu
  ·exact h2.cells u hu
  ·exact ih h3 u hu
theorem aP.append {key:Nat->Nat} {φ:Ph}{size:Nat}{xs ys:List MV}: ∀{cs ds:List Value},aP key φ size cs xs->aP key φ size ds ys->aP key φ size (cs++ds) (xs++ys):=by
 induction xs with
 |nil=>intro cs ds h h';cases h;simpa using h'
 |cons x xs ih=>intro cs ds h h';obtain ⟨v,q,rfl,h1,h2,h3⟩:=h;exact ⟨v,q++ds,by simp,h1,h2,ih h3 h'⟩
theorem Is {key:Nat->Nat} {φ:Ph}{size:Nat}{xs:List MV}: ∀{f:Nat->List Value},(∀i,i<xs.length->(f i).length=size)->(∀(i:Nat) (h:i<xs.length),gk key φ (f i) xs[i])-> ∃cs,aP key φ size cs xs/\ ∀(i j:Nat),i<xs.length->j<size->cs[i *size+j]? =(f i)[j]? :=by
 induction xs with
 |nil=>intro f _ _;exact ⟨[],rfl,λi j hi=>by simp at hi⟩
 |cons x xs ih=>
  intro f h1 h2;obtain ⟨cs,h3,h4⟩:=ih (f:=λi=>f (i+1)) (λi hi=>h1 (i+1) (by simpa using hi)) (λi hi=>h2 (i+1) (by simpa using hi));have hl:=h1 0 (by simp);refine ⟨f 0++cs,⟨f 0,cs,rfl,hl,h2 0 (by simp),h3⟩,?_⟩;intro i j hi hj;cases i with
  |zero=>rw [aeI,aaX,aar (by omega)]
  |succ i=>rw [abj,OF (by omega),show i *size+size+j-(f 0).length=i *size+j by omega];exact h4 i j (by simpa using hi) hj
theorem Gm {I E:TI}{x:Slot}{v:Value} {K':List MV->Option R}(h:bO c Z e st a w)(hE:c.ti I.elem=some E)(eL:0<E.size)(hx:aa e v x)(hK:NF I E st x K'=some r): ∃ys news,Src e w E.size v ys news/\K' ys=some r:=by
 unfold NF at hK;split at hK
 ·rename_i xs;obtain ⟨hw,hK⟩:=dC hK;simp only [aa,aJ] at hx;obtain ⟨_,hx⟩:=hx;generalize hv:[v]=vs at hx;cases hx with
  |list ad cap _ aR off Dk f g1 g2 g3 g4 g5=>
  simp at hv;have XU: ∀i,i<xs.length->(f i).length=E.size:=by intro i hi;rw [(g5 i hi).width];exact DB hw _ (aeQ hi)
  obtain ⟨cs,h1,h2⟩:=Is XU g5;refine ⟨xs,cs,⟨h1,ad,cap,hv,?_,?_⟩,hK⟩
  ·intro hn;cases xs with
   |nil=>rfl
   |cons y ys=>have:=g2 (by simp);rw [hn] at this;cases this
  ·intro x hx j u hj;have Lb:j<cs.length:=(AS.1 hj).1;rw [h1.length] at Lb;have It:0<xs.length:=by
    cases xs with
    |nil=>simp at Lb
    |cons y ys=>simp
   have Lh:=g2 It;rw [hx] at Lh;cases Lh;have hq:j/E.size<xs.length:=(Nat.div_lt_iff_lt_mul eL).2 Lb;have hm:=Nat.mod_lt j eL;have WS:j=j/E.size *E.size+j%E.size:=by rw [Nat.mul_comm];exact (Nat.div_add_mod j E.size).symm
   have e1:=h2 (j/E.size) (j%E.size) hq hm;rw [<-WS,hj] at e1;have X4:Dk=E.size:=by rw [<-g3 0 It,XU 0 It]
   have e2:=g4 (j/E.size) (j%E.size) hq (by rw [X4];exact hm);rw [<-e1,X4,acn,<-WS] at e2;have:=h.iK _ _ _ e2;rw [abk];exact this
 ·simp only [aa] at hx;have hx:[v]=[aa4 none 0 0]:=hx;simp at hx;exact ⟨[],[],⟨rfl,none,0,hx,λ_=>rfl,by simp⟩,hK⟩
 ·rename_i f;cases hf:aE st.aM f with
  |none=>simp [hf] at hK
  |some fo=>
   simp only [hf] at hK;cases hb:bB fo.ty I.elem with
   |false=>simp [hb] at hK
   |true=>
    simp only [hb,cond_true] at hK;have ig:=sh hb;obtain ⟨hv,_⟩:=rX h hx hf;obtain ⟨J,cells,hJ,_,dk,gJ,_⟩:=(h.gG f fo hf).row;rw [ig,hE] at hJ;cases hJ;refine ⟨fo.xs,cells,⟨gJ,?_⟩,hK⟩;rcases dk.2 with ⟨h1,h2⟩|⟨g,cap,cT,h1,_⟩
    ·exact ⟨none,0,by rw [hv,h1,h2],λ_=>BY h2,by simp⟩
    ·refine ⟨some ⟨g,0,none⟩,cap,by rw [hv,h1],by simp,?_⟩;intro x hx j u hj;cases hx;exact dk.cells (g:=g) (by rw [h1];rfl) j u hj
 ·simp at hK
end
end Dn
/-
  Appends. Conditions: none.
-/
namespace Dn
open Go
section
variable {P:Program}{c:Ctx}{Z:bu} {e e':Env}{st:St}{a:Act} {w w':World}{R:Type}{K:St->Option R}{r:R}{Q:Exit->Act->World->Prop}{o:Oper}
structure ahj (w w':World) (el:TypeId) (size:Nat) (v v':Value) (n m:Nat) (cells news:List Value):Prop where
 own:w'.ownsRow 0 el size v' (n+m) (cells++news)
 size:w.heap.size<=w'.heap.size
 pF: ∀k,k<w.heap.size->some k≠v.ownBlock->w'.heap[k]? =w.heap[k]?
 cell: ∀(k off:Nat) (u:Value),v.ownBlock=some k->off<cells.length->w.cell? ⟨k,off,none⟩=some u->w'.cell? ⟨k,off,none⟩=some u
 place:v'.ownBlock=v.ownBlock\/v'.ownBlock=some w.heap.size
 rest:Rest w w'
structure Apx (P:Program) (w:World) (u el:TypeId) (size:Nat) (x:Value) (m:Nat) (news:List Value):Prop where
 ty:P.underlying u=some (.slice el)\/P.underlying u=some .string
 len:Builtin.lenOf x=pure m
 now:(abB size m x).run P w= .ok news.toArray w
 drew:(abB size m x).run P w.drew= .ok news.toArray w.drew
 one: ∀y∈news,y.oneCell'=true
 nl:news.length=m *size
theorem Src.apx {ys:List MV}{news:List Value}{x:Value}{u el:TypeId}{size:Nat}(hu:P.underlying u=some (.slice el))(h:Src e w size x ys news):Apx P w u el size x ys.length news:=by
 obtain ⟨ad,cap,hx,Gn,adB⟩:=h.val;have Fa:=h.els.length;subst hx;cases ad with
 |none=>have hys:=Gn rfl;subst hys;have:news=[]:=BY (by simpa using Fa);subst this;exact ⟨.inl hu,rfl,run_firstCells_none w _ _ _ _,run_firstCells_none w.drew _ _ _ _,h.els.Ac,Fa⟩
 |some ad=>exact ⟨.inl hu,rfl,run_firstCells_some w _ _ _ _ _ _ Fa (adB ad rfl),run_firstCells_some w.drew _ _ _ _ _ _ Fa (by simpa using adB ad rfl),h.els.Ac,Fa⟩
theorem Apx.str {u el:TypeId}(hu:P.underlying u=some .string)(b:ByteArray):Apx P w u el 1 (.string b) b.size (b.data.toList.map λx=> .int .u8 (x.toNat:Int)):=by
 have hf: ∀w',(abB 1 b.size (.string b)).run P w'= .ok (b.data.toList.map λx=>aeM .u8 (x.toNat:Int)).toArray w':=by
  intro w';have he:b.extract 0 b.size=b:=by apply ByteArray.ext;rw [adR];exact Array.extract_eq_self_of_le (aaC _)
  simp only [abB,he,Sem.run_pure];congr 1;apply Array.ext';simp
 exact ⟨.inr hu,rfl,hf w,hf w.drew,by simp [No],by simp⟩
section
variable {t u ty el:TypeId}{i:TypeInfo}{z x:Value}{m:Nat}{news:List Value}(ht:P.underlying t=some (.slice el))(hi:P.info? el=some i)(hz:i.zero=some z)(hx:Apx P w u el i.size x m news)
include ht hi hx
theorem abq (h0:m=0):(aaS #[t,u] ty #[.slice none 0 0,x]).run P w= .ok (.slice none 0 0) w:=by subst h0;have hn:=hx.now;have hl:=hx.len;rcases hx.ty with hu|hu<;>simp [aaS,run_underlying ht,run_underlying hu,aa1,typeInfo,hi,hl,hn]
theorem abr {g pU zp:Nat}{cT:Array Value}(hg:w.heap[g]? =some (.cells cT el (0,0)))(uN:pU+m<=zp)(zn:pU *i.size+news.length<=cT.size): (aaS #[t,u] ty #[.slice (some ⟨g,0,none⟩) pU zp,x]).run P w= .ok (.slice (some ⟨g,0,none⟩) (pU+m) zp) (w.setRow g (cT.toList.take (pU *i.size)++news++cT.toList.drop (pU *i.size+news.length)).toArray):=by have dB:=run_storeCells_at P g (pU *i.size) el news 0 cT w hg (by simpa using zn) hx.one;simp only [adm] at dB;have hn:=hx.now;have hl:=hx.len;rcases hx.ty with hu|hu<;>simp [aaS,run_underlying ht,run_underlying hu,aa1,typeInfo,hi,hl,uN,hn,Addr.add_lit,dB]
include hz
theorem X5 (h0:0<m)(h63:(m:Int)<=9223372036854775807)(Vf:m *i.bytes<=281474976710656): (aaS #[t,u] ty #[.slice none 0 0,x]).run P w= .ok (.slice (some ⟨w.heap.size,0,none⟩) m (grownCap w m 0 el)) (w.drew.alloc (.cells (news.toArray++abW z.cells (grownCap w m 0 el-m)) el)):=by
 have df:m≠0:=by omega
 have aeO: ¬(9223372036854775807<(m:Int)):=by omega
 have aeP: ¬(281474976710656<acw m 0 *i.bytes):=by rw [nextslicecap_zero h0];omega
 have hn:=hx.drew;have hl:=hx.len;rcases hx.ty with hu|hu<;>simp [aaS,run_underlying ht,run_underlying hu,aa1,typeInfo,zeroValue,hi,hz,hl,df,aeO,aeP,Question.forced,run_firstCells_none,hn,newRow,grownCap]
theorem TE {b:Addr}{pU zp:Nat}{abt:List Value}(hlo:abt.length=pU *i.size)(holds: ∀j v,abt[j]? =some v->w.cell? (b.add j)=some v)(hg:zp<pU+m)(h63:((pU+m:Nat):Int)<=9223372036854775807)(zn:acw (pU+m) zp *i.bytes<=281474976710656): (aaS #[t,u] ty #[.slice (some b) pU zp,x]).run P w= .ok (.slice (some ⟨w.heap.size,0,none⟩) (pU+m) (grownCap w (pU+m) zp el)) (w.drew.alloc (.cells (abt.toArray++news.toArray++abW z.cells (grownCap w (pU+m) zp el-(pU+m))) el)):=by
 have df: ¬(pU+m<=zp):=by omega
 have aeO: ¬(9223372036854775807<((pU:Int)+(m:Int))):=by omega
 have aeP: ¬(281474976710656<acw (pU+m) zp *i.bytes):=by omega
 have hfo:=run_firstCells_some (P:=P) w.drew i.size pU b pU zp abt hlo (by simpa using holds);have hn:=hx.drew;have hl:=hx.len;rcases hx.ty with hu|hu<;>(simp [aaS,run_underlying ht,run_underlying hu,aa1,typeInfo,zeroValue,hi,hz,hl,df,aeO,aeP,Question.forced,hn,hfo,newRow,grownCap];congr 2;apply Array.ext';simp [AI])
end
theorem Cs {t u ty:TypeId}{I E:TI}{v x:Value}{n m:Nat}{cells news:List Value}(hu:P.underlying t=some (.slice I.elem))(hE:c.ti I.elem=some E)(od:E.ch=[])(eL:0<E.size)(hT:fZ P c.ti)(ul:1<=E.bytes)(dk:w.ownsRow 0 I.elem E.size v n cells)(hx:Apx P w u I.elem E.size x m news)(j0:(n+m) *E.bytes<=2^46): ∃v' w',(aaS #[t,u] ty #[v,x]).run P w= .ok v' w'/\ahj w w' I.elem E.size v v' n m cells news:=by
 obtain ⟨i,z,hi,hs,WY,hz,G9⟩:=iA (hT _ E hE) od;rw [<-hs] at hx dk G9 eL⊢;rw [<-WY] at j0 ul;have hle:n+m<=2^46:=adM (adK _ ul) j0;have hml:n+m<=aeV:=by unfold aeV;omega
 have Fa:=hx.nl;have hlen:(cells++news).length=(n+m) *i.size:=by rw [By,dk.1,Fa,acv]
 have grown: ∀(pF:Nat),pF<n+m-> (w.drew.alloc (.cells (cells.toArray++news.toArray++abW z.cells (grownCap w (n+m) pF I.elem-(n+m))) I.elem)).ownsRow 0 I.elem i.size (.slice (some ⟨w.heap.size,0,none⟩) (n+m) (grownCap w (n+m) pF I.elem)) (n+m) (cells++news):=by
  intro pF ho;refine ⟨hlen,.inr ⟨w.heap.size,_,_,rfl,ae0 _,gj w.drew _,grownCap_ge w (n+m) pF I.elem,grownCap_le_maxLen w (n+m) pF I.elem hml,?_,?_⟩⟩
  ·have X6:=grownCap_ge w (n+m) pF I.elem;simp only [aeJ,abS,size_zeroCells,G9,dk.1,Fa,<-acv];congr 1;omega
  ·simp only [aeg,AI];rw [<-AI,<-hlen];exact adv
 have rest: ∀cs:Array Value,Rest w (w.drew.alloc (.cells cs I.elem)):=λcs=>⟨rfl,rfl,rfl⟩
 rcases dk.2 with ⟨rfl,rfl⟩|⟨g,cap,cT,rfl,_,hg,PD,B1,um,Mp⟩
 ·have hcn:cells=[]:=BY (by simpa using dk.1);subst hcn;by_cases hm:m=0
  ·have hnn:news=[]:=BY (by rw [Fa,hm,aeI]);subst hnn;refine ⟨_,_,abq hu hi hx hm,⟨?_,aaC _,λ_ _ _=>rfl,(λ_ _ _ hk=>by cases hk),.inl rfl,.refl _⟩⟩;rw [hm];exact aeK w 0 I.elem i.size
  ·simp only [aaX] at j0 hle hml;have hr:=X5 (ty:=ty) hu hi hz hx (by omega) (by omega) (by omega);have Pa:=grown 0 (by omega);simp only [aaX,ad0,Array.empty_append] at Pa⊢;exact ⟨_,_,hr,⟨by simpa using Pa,by simp,λk hk _=>rS w.drew _ k hk,(λ_ _ _ hk=>by cases hk),.inr rfl,rest _⟩⟩
 ·by_cases uN:n+m<=cap
  ·have zn:n *i.size+news.length<=cT.size:=by rw [Fa,um,<-acv];exact aaU _ uN
   have hr:=abr (ty:=ty) hu hi hx hg uN zn;have ahl:=setRow_heap w g cT (cT.toList.take (n *i.size)++news++cT.toList.drop (n *i.size+news.length)).toArray I.elem _ hg;refine ⟨_,_,hr,⟨⟨hlen,.inr ⟨g,cap,_,rfl,ae0 _,ahl,uN,B1,?_,?_⟩⟩,by simp,λk _ hk=>setRow_other w g k _ (λhe=>hk (by simp [aas,he])),?_,.inl rfl,Rest.setRow w g _⟩⟩
   ·simp only [abS,By,aci,adE,aa8];omega
   ·rw [Mp,<-hlen];exact adv
   ·intro k off y hk Aa hc;have hkg:k=g:=by simp [aas] at hk;exact hk.symm
    subst hkg;rw [cell_of hg] at hc;rw [cell_of ahl];have ahm:off<(cT.toList.take (n *i.size)).length:=by rw [Mp];exact Aa
    rw [List.getElem?_toArray,AI,aar ahm,aa9];have:off<n *i.size:=by rw [<-dk.1];exact Aa
    rw [if_pos this];simpa using hc
  ·have holds: ∀j y,cells[j]? =some y->w.cell? ((⟨g,0,none⟩:Addr).add j)=some y:=dk.cells (g:=g) rfl;have hr:=TE (ty:=ty) (zp:=cap) hu hi hz hx dk.1 holds (by omega) (by omega) (growslice_fits (by omega) (by omega));refine ⟨_,_,hr,⟨grown cap (by omega),by simp,λk hk _=>rS w.drew _ k hk,?_,.inr rfl,rest _⟩⟩;intro k off y hk Aa hc;have hkg:k=g:=by simp [aas] at hk;exact hk.symm
   subst hkg;rw [aa2 (rS w.drew _ k (aN hg))];exact hc
theorem PE {t u ty:TypeId}{I E:TI}{ad:Option Addr}{x:Value}{n m:Nat}{cells news:List Value}(hu:P.underlying t=some (.slice I.elem))(hE:c.ti I.elem=some E)(od:E.ch=[])(hT:fZ P c.ti)(ul:1<=E.bytes)(oe:cells.length=n *E.size)(X7:ad=none->n=0)(a8: ∀y,ad=some y-> ∀(j:Nat)(v:Value),cells[j]? =some v->w.cell? (y.add j)=some v)(hx:Apx P w u I.elem E.size x m news)(hm:0<m)(j0:(n+m) *E.bytes<=2^46): ∃v' w',(aaS #[t,u] ty #[.slice ad n n,x]).run P w= .ok v' w'/\w'.ownsRow 0 I.elem E.size v' (n+m) (cells++news)/\v'.ownBlock=some w.heap.size/\cL w w':=by
 obtain ⟨i,z,hi,hs,WY,hz,G9⟩:=iA (hT _ E hE) od;rw [<-hs] at hx oe G9⊢;rw [<-WY] at j0 ul;have hle:n+m<=2^46:=adM (adK _ ul) j0;have hml:n+m<=aeV:=by unfold aeV;omega
 have Fa:=hx.nl;have hlen:(cells++news).length=(n+m) *i.size:=by rw [By,oe,Fa,acv]
 have grown: ∀(pF:Nat),pF<n+m-> (w.drew.alloc (.cells (cells.toArray++news.toArray++abW z.cells (grownCap w (n+m) pF I.elem-(n+m))) I.elem)).ownsRow 0 I.elem i.size (.slice (some ⟨w.heap.size,0,none⟩) (n+m) (grownCap w (n+m) pF I.elem)) (n+m) (cells++news):=by
  intro pF ho;refine ⟨hlen,.inr ⟨w.heap.size,_,_,rfl,ae0 _,gj w.drew _,grownCap_ge w (n+m) pF I.elem,grownCap_le_maxLen w (n+m) pF I.elem hml,?_,?_⟩⟩
  ·have X6:=grownCap_ge w (n+m) pF I.elem;simp only [aeJ,abS,size_zeroCells,G9,oe,Fa,<-acv];congr 1;omega
  ·simp only [aeg,AI];rw [<-AI,<-hlen];exact adv
 have rest: ∀cs:Array Value,Rest w (w.drew.alloc (.cells cs I.elem)):=λcs=>⟨rfl,rfl,rfl⟩
 have Pa: ∀cs:Array Value,cL w (w.drew.alloc (.cells cs I.elem)):=λcs=>⟨by simp,λk hk=>rS w.drew _ k hk,rest cs⟩
 cases ad with
 |none=>have hn:=X7 rfl;subst hn;have hcn:cells=[]:=BY (by simpa using oe);subst hcn;simp only [aaX] at j0 hle hml;have hr:=X5 (ty:=ty) hu hi hz hx (by omega) (by omega) (by omega);have TF:=grown 0 (by omega);simp only [aaX,ad0,Array.empty_append] at TF⊢;exact ⟨_,_,hr,by simpa using TF,rfl,Pa _⟩
 |some b=>have hr:=TE (ty:=ty) (zp:=n) hu hi hz hx oe (λj v hj=>a8 b rfl j v hj) (by omega) (by omega) (growslice_fits (by omega) (by omega));exact ⟨_,_,hr,grown n (by omega),rfl,Pa _⟩
end
end Dn
/-
  Appends, the operation. Conditions: none.
-/
namespace Dn
open Go
section
variable {P:Program}{c:Ctx}{Z:bu} {e e':Env}{st:St}{a:Act} {w w':World}{R:Type}{K:St->Option R}{r:R}{Q:Exit->Act->World->Prop}{o:Oper}
theorem Ad {base:Nat}{t:TypeId}{size n:Nat}{v:Value}{xs:List Value}(h:w.ownsRow base t size v n xs):v.oneCell'=true:=by rcases h.2 with ⟨rfl,_⟩|⟨g,cap,cT,rfl,_⟩<;>rfl
theorem NV {E:TI}{t:TypeId}(hr:oa c.ti P t E)(h:Rw E=true):P.underlying t=some (.int .u8)/\E.size=1:=by
 unfold Rw at h;split at h
 ·rename_i k dB hl;have:=of_decide_eq_true h;subst this;obtain ⟨d,i,h1,h2,h3,h4⟩:=hr;cases d<;>simp only [rU,hl,dB] at h4<;>first|(exfalso;simp_all;done)|skip
  obtain ⟨_,_,h5,h6,_⟩:=h4;simp only [List.cons.injEq,Kd.i.injEq,and_true] at h6;subst h6;exact ⟨h1,h5⟩
 ·cases h
theorem NW {key:Nat->Nat} {φ:Ph}: ∀l:List UInt8,aP key φ 1 (l.map λx=>aeM .u8 (x.toNat:Int)) (Ds l)
 |[]=>rfl
 |b::l=>⟨[.int .u8 (b.toNat:Int)],_,rfl,rfl,.i .u8 _,NW l⟩
theorem PF {cl:Call}{s x:Operand}{t u:TypeId}{I E:TI}{ys:List MV}{news:List Value}(ho:o.op= .call cl)(hb:cl.callee= .builtin .append)(ha:cl.args.toList=[s,x])(Lg:cl.argTypes.toList=[t,u])(hI:c.tv t=some I)(hL:I.yS=true)(hE:c.tv I.elem=some E)(hT:fZ P c.ti)(h:bO c Z e st a w)(Ae:Apx P w u I.elem E.size (a.eval x) ys.length news)(mL:aP e.key e.φ E.size news ys)(hK:UW (bn c.bs (o.dst.getD 0)) (o.dst.getD 0) st I E (aF c st s) ys (λsl st=>bh c st o.dst sl K)=some r):o.wp P a w (Out c Z K r e.φ w) Q:=by
 obtain ⟨kR,hc⟩:=aV hI;obtain ⟨lz,od⟩:=aV hE;obtain ⟨hu,E2,we,_,eL⟩:=TI.kS (hT t I kR) hL;rw [lz] at we;cases we;have ha':cl.args= #[s,x]:=by rw [<-abu,ha]
 have ahn:cl.argTypes= #[t,u]:=by rw [<-abu,Lg]
 obtain ⟨hs,_⟩:=h.eval s;have go: ∀(f:Nat) (dW:Bool) (xs:List MV) (cells:List Value),1<=E.bytes->(xs.length+ys.length) *E.bytes<=2^46->w.ownsRow 0 I.elem E.size (a.eval s) xs.length cells->aP e.key e.φ E.size cells xs-> (∀aR,(a.eval s).ownBlock=some aR->((f∈Z.cq/\Z.Pr aR)\/Z.In aR)/\(∃o,aE st.aM f=some o/\(e.E f).ownBlock=some aR)/\ ∀off u,e.φ aR off=some u->dW=true/\off<xs.length *E.size)-> ir st f ⟨I.elem,dW,xs++ys⟩ (λst=>bh c st o.dst (.sc (.own f)) K)=some r->o.wp P a w (Out c Z K r e.φ w) Q:=by
  intro f dW xs cells ul j0 dk gJ E5 hK;obtain ⟨v',w',bA,wu⟩:=Cs (P:=P) (ty:=o.type) hu lz od eL hT ul dk Ae j0;have hlen:cells.length=xs.length *E.size:=gJ.length;have z6:=h.npf hK;have hK:=oh hK;have fS:cj c Z.nc e w' v' ⟨I.elem,dW,xs++ys⟩:=by
   refine ⟨E,cells++news,lz,od,by simpa using wu.own,gJ.append mL,?_⟩;intro aR jt;rcases wu.place with h1|h1
   ·rw [h1] at jt;obtain ⟨h2,_,h3⟩:=E5 aR jt;refine ⟨O7 h2 z6,λoff u hu=> ?_,λhc=>afE hc⟩;obtain ⟨h4,h5⟩:=h3 off u hu;refine ⟨h4,aey h5 ?_⟩;simp only [By];exact aaU _ (Nat.le_add_right _ _)
   ·rw [h1] at jt;cases jt;refine ⟨h.b7 _ (aaC _),λoff u hu=> ?_,λhc=>afE hc⟩;have:=aaY w _ (h.iK _ _ _ hu);simp at this
  have oJ:=h.ir (f:=f) z6 fS wu.size (λb Gp df=>wu.pF b Gp (λhk=>by obtain ⟨_,⟨o2,h1,h2⟩,_⟩:=E5 b hk.symm;exact df o2 h1 h2)) (λb off u hu=>by
    have hc0:=h.iK b off u hu;by_cases hk:(a.eval s).ownBlock=some b
    ·obtain ⟨_,_,h3⟩:=E5 b hk;exact wu.cell b off u hk (by rw [hlen];exact (h3 off u hu).2) hc0
    ·rw [aa2 (wu.pF b (aaY w _ hc0) (λTG=>hk TG.symm))];exact hc0)
   (λb jt=>by
    rcases wu.place with h1|h1
    ·rw [h1] at jt;exact .inr (E5 b jt).2.1
    ·rw [h1] at jt;cases jt;exact .inl (aaC _))
  refine fin (v:=v') (s:= .sc (.own f)) ?_ oJ ?_ (.of (sV (Ad wu.own)) trivial) hK
  ·simp [execOp,ho,resolve,hb,invoke,builtin,ha',ahn,bA]
  ·exact ⟨.refl _,λb hz Gp=>wu.pF b Gp (λhk=>hz (O7 (E5 b hk.symm).1 z6)),λ_ _ _=>rfl,wu.size,wu.rest⟩
 generalize aF c st s=ss at hs hK;unfold UW at hK;cases ul:aaW 1 E.bytes with
 |false=>simp [ul] at hK
 |true=>
  simp only [ul,cond_true] at hK;have ul:=aba ul;split at hK
  ·obtain ⟨j0,hK⟩:=dC hK;have j0:=of_decide_eq_true j0;simp only [aa] at hs;have hs:[a.eval s]=[aa4 none 0 0]:=hs;simp at hs;refine go (o.dst.getD 0) false [] [] ul (by simpa using j0) (by rw [hs];exact aeK w 0 I.elem E.size) rfl ?_ (by simpa using hK);intro aR jt;rw [hs] at jt;simp [aas] at jt
  ·rename_i f;cases hf:aE st.aM f with
   |none=>simp [hf] at hK
   |some fo=>
    simp only [hf] at hK;obtain ⟨j0,hK⟩:=dC hK;have j0:=of_decide_eq_true j0;cases ig:bB fo.ty I.elem with
    |false=>simp [ig] at hK
    |true=>simp only [ig,cond_true] at hK;have ig:=sh ig;obtain ⟨hv,_⟩:=rX h hs hf;obtain ⟨J,cells,hJ,_,dk,gJ,h5⟩:=(h.gG f fo hf).row;rw [ig,lz] at hJ;cases hJ;refine go f fo.dW fo.xs cells ul j0 (by rw [hv,<-ig];exact dk) gJ ?_ (by rw [<-ig];exact hK);intro aR jt;rw [hv] at jt;exact ⟨(h5 aR jt).1,⟨fo,hf,jt⟩,(h5 aR jt).2.1⟩
  ·rename_i xs;obtain ⟨hw,hK⟩:=dC hK;obtain ⟨j0,hK⟩:=dC hK;obtain ⟨hm,j0⟩:=of_decide_eq_true j0;simp only [aa,aJ] at hs;obtain ⟨_,hs⟩:=hs;generalize hv:[a.eval s]=vs at hs;cases hs with
   |clip ad _ hl=>
   simp at hv;have nb:aa e (a.eval s) (.sc (.p (.list xs))):=by simp only [aa,aJ];rw [hv];exact ⟨rfl,hl⟩
   obtain ⟨ys',cells,hsr,hy⟩:=Gm (I:=I) (K':=some) (r:=xs) h lz eL nb (by show cQ (pR E.size xs) (some xs)=some xs;rw [hw];rfl);cases hy;obtain ⟨ad',XR,KR,K9,Dm⟩:=hsr.val;rw [hv] at KR;simp only [Value.slice.injEq] at KR;obtain ⟨rfl,_,_⟩:=KR;obtain ⟨v',w',bA,dk,jt,hg⟩:=PE (P:=P) (ty:=o.type) hu lz od hT ul hsr.els.length (λhn=>by rw [K9 hn];rfl) Dm Ae hm j0;have z6:=h.npf hK;have hK:=oh hK;have fS:cj c Z.nc e w' v' ⟨I.elem,false,xs++ys⟩:=by refine ⟨E,cells++news,lz,od,by simpa using dk,hsr.els.append mL,?_⟩;intro aR sW;rw [jt] at sW;cases sW;refine ⟨h.b7 _ (aaC _),λoff u hu=> ?_,λhc=>afE hc⟩;have:=aaY w _ (h.iK _ _ _ hu);simp at this
   have oJ:=h.ir (f:=o.dst.getD 0) z6 fS hg.size (λb Gp _=>hg.pF b Gp) (λb off u hu=>hg.cell (h.iK b off u hu)) (λb sW=>by rw [jt] at sW;cases sW;exact .inl (aaC _));have hx:(execOp a.eval o).run P w= .ok (.value v') w':=by simp [execOp,ho,resolve,hb,invoke,builtin,ha',ahn,hv,bA]
   cases KV:bn c.bs (o.dst.getD 0) with
   |false=>simp only [KV,cond_false] at hK;exact fin (v:=v') (s:= .sc (.own (o.dst.getD 0))) hx oJ (hg.trans h.b7 _) (.of (sV (Ad dk)) trivial) hK
   |true=>simp only [KV,cond_true] at hK;have hl:aJ (e.wo (o.dst.getD 0) v' ⟨I.elem,false,xs++ys⟩) [v'] (.own (o.dst.getD 0)):=sV (Ad dk);obtain ⟨e3,oK,m,k1,k2,_,k4,hK,_,k7,k8⟩:=lE (l:= .own (o.dst.getD 0)) oJ (vs:=[v']) hl hK;have hm:m.one=true:=k8 (λx he=>by cases he);exact fin (v:=v') (s:= .sc (.p m)) hx k1 ((hg.trans h.b7 _).trans k2.tr) (.of (s:= .sc (.p m)) (by exact ⟨hm,k4⟩) trivial) hK
  ·simp at hK
theorem Vg {cl:Call}{s x:Operand}{t u:TypeId}{I E:TI}(ho:o.op= .call cl)(hb:cl.callee= .builtin .append)(ha:cl.args.toList=[s,x])(Lg:cl.argTypes.toList=[t,u])(hI:c.tv t=some I)(hL:I.yS=true)(hE:c.tv I.elem=some E)(hT:fZ P c.ti)(h:bO c Z e st a w)(hK:(bif bB t u then NF I E st (aF c st x) λys=>UW (bn c.bs (o.dst.getD 0)) (o.dst.getD 0) st I E (aF c st s) ys (λsl st=>bh c st o.dst sl K)
  else Rx c u E (aF c st x) λys=>UW (bn c.bs (o.dst.getD 0)) (o.dst.getD 0) st I E (aF c st s) ys (λsl st=>bh c st o.dst sl K))=some r):o.wp P a w (Out c Z K r e.φ w) Q:=by
 obtain ⟨kR,_⟩:=aV hI;obtain ⟨lz,_⟩:=aV hE;obtain ⟨hu,E2,we,_,eL⟩:=TI.kS (hT t I kR) hL;rw [lz] at we;cases we;obtain ⟨hx,_⟩:=h.eval x;cases sW:bB t u with
 |true=>simp only [sW,cond_true] at hK;obtain rfl:=sh sW;obtain ⟨ys,news,Ae,hK⟩:=Gm h lz eL hx hK;exact PF ho hb ha Lg hI hL hE hT h (Ae.apx hu) Ae.els hK
 |false=>
  simp only [sW,cond_false] at hK;unfold Rx at hK;split at hK
  ·rename_i T l hTu hxl;cases X8:T.Rv&&Rw E with
   |false=>simp [X8] at hK
   |true=>
    simp only [X8,cond_true] at hK;simp only [aaT] at X8;obtain ⟨hTi,_⟩:=aV hTu;have hd:=TI.E7 (hT u T hTi) X8.1;obtain ⟨he,nM⟩:=NV (hT _ E lz) X8.2;rw [hxl] at hx;obtain ⟨b,hb3,rfl⟩:=DA hx;refine PF ho hb ha Lg hI hL hE hT h (news:=b.data.toList.map λx=> .int .u8 (x.toNat:Int)) ?_ ?_ hK
    ·rw [nM,hb3];have:=Apx.str (w:=w) (el:=I.elem) hd b;rwa [show (Ds b.data.toList).length=b.size by unfold Ds;rw [List.length_map];rfl]
    ·rw [nM];exact NW _
  ·cases hK
end
end Dn
/-
  Slices that are written out. Conditions: none.
-/
namespace Dn
open Go
section
variable {P:Program}{c:Ctx}{Z:bu} {e e':Env}{st:St}{a:Act} {w w':World}{R:Type}{K:St->Option R}{r:R}{Q:Exit->Act->World->Prop}{o:Oper}
theorem bO.adC {φ':Ph}(h:bO c Z e st a w)(hle:fY e.φ φ')(iu: ∀b o v,φ' b o=some v->w.cell? ⟨b,o,none⟩=some v)(vB: ∀t cs,al st.fr t= .box cs-> ∀off,φ' (e.B t) off=e.φ (e.B t) off)(fS: ∀f o b,aE st.aM f=some o->(e.E f).ownBlock=some b-> ∀off,φ' b off=e.φ b off): bO c Z {e with φ:=φ'} st a w:=by
 have rT:jQ (λ_=>True) (λ_=>True) e {e with φ:=φ'}:=⟨rfl,hle,λ_ _=>rfl,λf o ho _=>⟨o,ho,rfl,rfl⟩⟩
 refine ⟨h.defers,h.size,h.m,h.key,h.nodup,?_,h.root,?_,h.bb,h.bf,h.ff,iu,h.b7⟩
 ·intro t;have hs:=h.slot t;have hb:=vB t;show bS Z _ w t _ (al st.fr t);generalize al st.fr t=s at hs hb;cases s<;>simp only [bS] at hs⊢ <;>try exact hs.on rT (dF _)
  rename_i cs;refine ⟨hs.1,hs.2.b7,?_,λoff=>by show φ' (e.B t) off=none;rw [hb cs rfl];exact hs.2.free off⟩;obtain ⟨o2,h1,h2⟩:=hs.2.obj;exact ⟨o2,h1,h2.on rT (λl _ f _=>trivial)⟩
 ·intro f o ho;obtain ⟨I,cells,h1,h2,h3,h4,h5⟩:=(h.gG f o ho).row;refine ⟨I,cells,h1,h2,h3,h4.mono hle,λaR hb=>⟨(h5 aR hb).1,λoff u hu=>(h5 aR hb).2.1 off u ?_,λg1 g2 j hj=>hle.xn ((h5 aR hb).2.2 g1 g2 j hj) hj⟩⟩;have hu:φ' aR off=some u:=hu;rw [fS f o aR ho hb] at hu;exact hu
theorem cV.cells {key:Nat->Nat} {φ:Ph}{v:Value}{m:MV}(h:cV key φ v m):gk key φ v.cells.toList m:=by
 have one:m.one=true->gk key φ [v] m->gk key φ v.cells.toList m:=by
  intro h1 h2;have:=h2.cells v (by simp);have hv:v.cells.toList=[v]:=by cases v<;>simp_all [aaR,No]
  rw [hv];exact h2
 cases m<;>simp only [cV] at h<;>first|exact one h.1 h.2|skip
 ·rw [h];simpa [aaR] using gk.h _
 ·obtain ⟨arr,rfl,h⟩:=h;exact .agg _ _ (by simpa [aaR] using h)
theorem Vh {parts:List (Nat×Operand)}: ∀{e:Env} {st:St} {n:Nat} {K':List MV->St->Option R},bO c Z e st a w->Xi c st parts n K'=some r-> ∃e' bT ms,bO c Z e' bT a w/\Ext Z e e'/\aY e'.key e'.φ (parts.map λp=>a.eval p.2) ms/\K' ms bT=some r/\parts.map (λp=>(p.1,a.eval p.2))=((parts.map λp=>a.eval p.2).zipIdx n).map (λx=>(x.2,x.1)):=by
 induction parts with
 |nil=>intro e st n K' h hK;exact ⟨e,st,[],h,.refl _ _,rfl,hK,rfl⟩
 |cons p ps ih=>
  intro e st n K' h hK;obtain ⟨i,x⟩:=p;simp only [Xi] at hK;cases hi:bB i n with
  |false=>simp [hi] at hK
  |true=>
   simp only [hi,cond_true] at hK;have uo:=sh hi;subst uo;obtain ⟨e1,dc,m,q1,q2,q3,q4,q5⟩:=oc h (h.eval x).1 hK;obtain ⟨e2,ek,ms,p1,p2,p4,p5,p6⟩:=ih q1 q5;refine ⟨e2,ek,m::ms,p1,q2.trans p2,⟨_,_,rfl,?_,p4⟩,p5,?_⟩
   ·have:=q4.mono p2.on.φ;rw [<-p2.on.key] at this;exact this
   ·simp only [IT,List.zipIdx_cons,p6]
theorem Li {key:Nat->Nat} {φ:Ph}{size:Nat}{ms:List MV}: ∀{vs:List Value},aY key φ vs ms->pR size ms=true->aP key φ size (vs.flatMap λv=>v.cells.toList) ms/\vs.length=ms.length/\ ∀v∈vs,v.cells.size=size:=by
 induction ms with
 |nil=>intro vs h _;cases h;exact ⟨rfl,rfl,by simp⟩
 |cons m ms ih=>
  intro vs h hw;obtain ⟨v,u,rfl,h1,h2⟩:=h;have hm:=DB hw m (by simp);have hw2:pR size ms=true:=by unfold pR at hw⊢;simp only [List.all_cons,aaT] at hw;exact hw.2
  obtain ⟨h3,h4,h5⟩:=ih h2 hw2;have hl:v.cells.toList.length=size:=by rw [h1.cells.width,hm]
  refine ⟨⟨v.cells.toList,_,rfl,hl,h1.cells,h3⟩,by simp [h4],?_⟩;intro x hx;rcases aa0.1 hx with rfl|hx
  ·simpa using hl
  ·exact h5 x hx
end
end Dn
