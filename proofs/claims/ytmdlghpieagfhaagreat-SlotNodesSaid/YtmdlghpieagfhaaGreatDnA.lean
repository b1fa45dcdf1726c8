import GoSem.Dispatch
import Derived.Orders
import Derived.Calls
import Derived.Laws.AppendOwn
import Derived.Laws.AppendOwnNone
import Derived.Deep.MidRow
import Derived.Laws.Strings
import Derived.Laws.Tables
import Derived.Great.FillDense
import Derived.Maps.AppendAt
import Derived.Great.BuildSlice
/-
  An abstract run of Go functions over values that no one changes: definitions. Conditions: none.
-/
set_option linter.unusedVariables false
set_option linter.unusedSectionVars false
set_option linter.unusedSimpArgs false
open Nat renaming beq→fj,eq_of_beq_eq_true→sh,le_refl→aaI,mul_le_mul_right→aaK,zero_add→aaO,ble→aaQ,le_of_ble_eq_true→aaV,succ_mul→aa1,le_mul_of_pos_right→abY,add_assoc→acZ,add_mul→adp,le_trans→adL,add_zero→afs,ble_eq_true_of_le→afR,zero_le→agr,lt_of_lt_of_le→agH,add_comm→agQ,zero_mul→agV
open List renaming append_assoc→AI,eq_nil_of_length_eq_zero→AT,getElem?_eq_some_iff→BY,length_append→IS,getElem?_eq_getElem→IT,map_cons→OF,getElem?_append_right→aay,getElem?_append_left→aaH,getElem?_map→aaR,mem_cons→aaS,getElem?_take→aaU,take_of_length_le→abf,size_toArray→abA,drop_left'→abU,take_left→ab9,getElem?_eq_none→acq,take_append→acO,length_take→acW,take_left'→adr,getElem?_drop→afC,extract_eq_take_drop→afE,drop_append→afH,length_drop→afI,mem_map→afK,length_eq_one_iff→afL,drop_of_length_le→afN,mem_append→afO,nil_append→afQ,mem_iff_getElem→af4,drop_left→af5,all_eq_true→agZ,getElem_mem→ag0,nodup_cons→ahd,length_set→ahe,map→ahg,map_nil→ahj
open Option.some renaming injEq→IN
open Go.Value renaming ownBlock→No,oneCell'→aav,cells→aaJ,slice→aaY,int→agY
open Go.Builtin renaming append_→aaL,firstCells→abW,zeroCells→acn,nextslicecap→adq
open Bool renaming and_eq_true→aaM,or_eq_false_iff→aaX,not_eq_false'→afB,not_false→ahh
open Go.World renaming block_lt_of_cell?→aaN,cell?_of_block→aaW,ownsRow_nil→agX,frozen?→ahi,setRow→ahk
open Go.Instr renaming sliceBounds→aaP,sliceBound→acs,loadAt→adO,sureAddr→afA,fill→afD,storeAt→afF,sliceAt→agG,slice→ag5
open Go renaming sizeOf→aaT,maxLen→agA,part→ahf
open Array renaming length_toList→aaZ,toList_inj→aa0,toList_extract→agf,toList_append→agC,ext_getElem?→agI,size_append→agW
open UInt8 renaming ofNat→abK
open Go.Addr renaming add_mid→abR
open BitVec renaming ofInt→abZ
open Go.Op renaming intCmp→afG,bytesLess→afJ,intArith→afX,equal→ahn
open ByteArray renaming data_extract→afM
open Go.Oper renaming upon_value→afP,wp→ahl
open False renaming elim→agM
open Go.Sem renaming run_bind→agO
open Go.Utf8 renaming decode→ahm
namespace Dn
noncomputable section
open Go
structure lp where
 l:List UInt8
 h:l.length=32
theorem lp.ext' {a b:lp}(e:a.l=b.l):a=b:=by cases a;cases b;cases e;rfl
instance:DecidableEq lp:=λa b=>if e:a.l=b.l then .isTrue (lp.ext' e) else .isFalse (λh=>e (by rw [h]))
def lp.zero:lp:=⟨[0,0,0,0,0,0,0,0,0,0,0,0,0,0,0,0,0,0,0,0,0,0,0,0,0,0,0,0,0,0,0,0],rfl⟩
def lp.put (x:lp)(i:Nat)(b:UInt8):lp:=⟨x.l.set i b,by simp [x.h]⟩
inductive MV where
 |b (x:Bool)
 |i (k:IntKind) (n:Int)
 |s (l:List UInt8)
 |h (x:lp)
 |raw (v:Value)
 |list (xs:List MV)
 |agg (cs:List MV)
 |cM (vs:List MV)
 |func (f:Nat) (cap:List MV)
 |rp (cs:List MV)
 |fresh (xs:List MV)
 |cell (m:MV)
 |gm (r:MV) (outs:List MV)
 |clip (xs:List MV)
instance:Inhabited MV:=⟨.b false⟩
mutual
def MV.w:MV->Nat
 | .h _=>32
 | .agg cs=>MV.wl cs
 |_=>1
def MV.wl:List MV->Nat
 |[]=>0
 |m::r=>m.w+MV.wl r
end
def oa (n:Nat)(l:List MV):Bool:=l.all λm=>fj m.w n
inductive Kd where
 |b|i (k:IntKind)|s|l|h|raw
structure MS where
 st:Bool
 lay:List Kd
 b:Bool
def MS.it:MS:=⟨true,[],true⟩
def EF (s:MS):Bool:=match s.lay with
 |[]=>s.st
 |_=>false
inductive aT where
 |un
 |p (m:MV)
 |hs (x:lp)
 |nil
 |own (jr:Nat)
 |mp (s:MS) (es:List MV)
def aT.w:aT->Nat
 | .hs _=>32
 |_=>1
inductive Slot where
 |skip
 |sc (l:aT)
 |ag (cs:List aT)
 |cM (vs:List Slot)
 |box (cs:List aT)
 |AH (cs:List aT)
 |ptr (root off:Nat)
 |AJ (root:Nat)
 |rp (cs:List aT) (off:Nat)
 |hp (root off:Nat) (i:Nat)
 |ep (jr:Nat) (i:Nat) (off:Nat) (st:Bool) (cs:List aT)
abbrev Fr:=List (Nat×Slot)
structure TI where
 st:Bool
 size:Nat
 bytes:Nat
 lay:List Kd
 zero:List aT
 Si:List Nat
 YV:List Nat
 elem:Nat
 dJ:List Nat
section
variable {R:Type}
def gB (m:MV)(K:Bool->Option R):Option R:=match m with| .b x=>K x|_=>none
def gI (k:IntKind)(m:MV)(K:Int->Option R):Option R:=match m with| .i k' n=>bif decide (k'=k) then K n else none|_=>none
def gS (m:MV)(K:List UInt8->Option R):Option R:=match m with| .s l=>K l|_=>none
def gL (m:MV)(K:List MV->Option R):Option R:=match m with| .list l=>K l|_=>none
def gH (m:MV)(K:lp->Option R):Option R:=match m with| .h l=>K l|_=>none
def gA (m:MV)(K:List MV->Option R):Option R:=match m with| .agg l=>K l|_=>none
def gT (m:MV)(K:List MV->Option R):Option R:=match m with| .cM l=>K l|_=>none
def gF (m:MV)(K:List MV->Option R):Option R:=match m with| .fresh l=>K l|_=>none
def gCl (m:MV)(K:List MV->Option R):Option R:=match m with| .clip l=>K l|_=>none
def Xs (m:MV)(K:Nat->List MV->Option R):Option R:=match m with| .func f c=>K f c|_=>none
def gW (m:MV)(K:MV->List MV->Option R):Option R:=match m with| .gm r outs=>K r outs|_=>none
def gP (m:MV)(K:List MV->Option R):Option R:=match m with| .rp c=>K c|_=>none
def gCx (m:MV)(K:Nat->Nat->Option R):Option R:=match m with| .raw (.complex .f64 a b)=>K a b|_=>none
def gR (m:MV)(K:MV->Option R):Option R:=match m with| .raw v=>K (.raw v)| .func f c=>K (.func f c)| .rp c=>K (.rp c)|_=>none
def gC (l:List MV)(K:MV->List MV->Option R):Option R:=match l with|m::r=>K m r|[]=>none
def gN (l:List MV)(K:Option R):Option R:=match l with|[]=>K|_=>none
def bd {α:Type}(x:Option α)(K:α->Option R):Option R:=match x with|some a=>K a|none=>none
def ajh (l:List MV)(i:Int):Option MV:=if 0<=i then l[i.toNat]? else none
def idx (l:List MV)(i:Int)(K:MV->Option R):Option R:=match ajh l i with|some x=>K x|none=>none
def b5 (c:Bool)(K:Option R):Option R:=match c with|true=>K|false=>none
def aR (c:Bool)(x y:Option R):Option R:=match c with|true=>x|false=>y
def YW:List Nat->Nat->(Nat->Option R)->Option R
 |[],_,_=>none
 |[p],e,K=>bif fj e p then K p else none
 |p::q::r,e,K=>bif fj e p then K p else YW (q::r) e K
def lq (k:Kd)(m:MV)(K:aT->Option R):Option R:=match k with
 | .b=>gB m λx=>K (.p (.b x))
 | .i k=>gI k m λx=>K (.p (.i k x))
 | .s=>gS m λx=>K (.p (.s x))
 | .l=>gL m λx=>K (.p (.list x))
 | .h=>gH m λx=>K (.hs x)
 | .raw=>gR m λm=>K (.p m)
def wa:List Kd->List MV->(List aT->Option R)->Option R
 |[],l,K=>gN l (K [])
 |k::ks,l,K=>gC l λm r=>lq k m λx=>wa ks r λxs=>K (x::xs)
end
def iter {σ R:Type}(body:σ->Option (Sum σ R)):Nat->σ->Option R
 |0,_=>none
 |n+1,s=>match body s with
  |some (.inl s')=>iter body n s'
  |some (.inr r)=>some r
  |none=>none
open Classical in
def Loop {σ R:Type}(body:σ->Option (Sum σ R))(s:σ):Option R:=if h: ∃r n,iter body n s=some r then some (Classical.choose h) else none
def aH:Fr->Nat->Slot
 |[],_=> .sc .un
 |(k,s)::r,t=>bif fj k t then s else aH r t
def M7 {R:Type}:Fr->Nat->Slot->(Fr->Option R)->Option R
 |[],t,v,K=>K [(t,v)]
 |(k,s)::r,t,v,K=>bif fj k t then K ((k,v)::r) else M7 r t v λr=>K ((k,s)::r)
def force {R:Type}(s:Slot)(K:Slot->Option R):Option R:=match s with
 | .skip=>K .skip
 | .sc l=>K (.sc l)
 | .ag cs=>K (.ag cs)
 | .cM vs=>K (.cM vs)
 | .box cs=>K (.box cs)
 | .AH cs=>K (.AH cs)
 | .ptr r o=>K (.ptr r o)
 | .AJ r=>K (.AJ r)
 | .rp cs o=>K (.rp cs o)
 | .hp r o i=>K (.hp r o i)
 | .ep f i o b cs=>K (.ep f i o b cs)
def bU:List Nat->Nat->Bool
 |[],_=>false
 |k::r,t=>bif fj k t then true else bU r t
def AE (t:Nat):Bool:=aaQ 1000000 t
def posOf (t:Nat):Nat:=(t-1000000)%1000
def Sj (t:Nat):Nat:=(t-1000000)/1000
def plk:List (Nat×Nat)->Nat->Option Nat
 |[],_=>none
 |(k,x)::r,t=>bif fj k t then some x else plk r t
def eo:Slot->Bool
 | .ptr _ _| .hp _ _ _| .ep _ _ _ _ _| .rp _ _| .AJ _=>true
 |_=>false
def xL {R:Type}(ds:List Nat):Fr->(Fr->Option R)->Option R
 |[],K=>K []
 |(k,s)::r,K=>bif eo s||bU ds k then xL ds r K else xL ds r λr=>K ((k,s)::r)
def dD:Slot->Bool
 | .box _| .AH _=>true
 |_=>false
def pick {R:Type}(ks:List Nat):Fr->(Fr->Option R)->Option R
 |[],K=>K []
 |(k,s)::r,K=>bif bU ks k&&!eo s then pick ks r λr=>K ((k,s)::r) else pick ks r K
structure pY where
 ty:Nat
 fB:Bool
 xs:List MV
structure St where
 dg:List Nat
 dt:List Nat
 fr:Fr
 bA:List (Nat×pY)
def bj:List (Nat×pY)->Nat->Option pY
 |[],_=>none
 |(k,s)::r,t=>bif fj k t then some s else bj r t
def Vp {R:Type}:List (Nat×pY)->Nat->pY->(List (Nat×pY)->Option R)->Option R
 |[],t,v,K=>K [(t,v)]
 |(k,s)::r,t,v,K=>bif fj k t then K ((k,v)::r) else Vp r t v λr=>K ((k,s)::r)
def kB (a b:IntKind):Bool:=decide (a=b)
def kdB:Kd->Kd->Bool
 | .b,.b=>true
 | .i k,.i k'=>kB k k'
 | .s,.s=>true
 | .l,.l=>true
 | .h,.h=>true
 | .raw,.raw=>true
 |_,_=>false
def EG:List Kd->List Kd->Bool
 |[],[]=>true
 |x::xs,y::ys=>kdB x y&&EG xs ys
 |_,_=>false
def msB (s t:MS):Bool:=(s.st==t.st)&&(EG s.lay t.lay&&(s.b==t.b))
def yU {R:Type}(f:Nat):List aT->(List aT->Option R)->Option R
 |[],K=>K []
 |l::r,K=>(match l with
  | .own g=>bif fj g f then yU f r λr=>K (.un::r) else yU f r λr=>K (.own g::r)
  |l=>yU f r λr=>K (l::r))
def Om {R:Type}(f:Nat)(s:Slot)(K:Slot->Option R):Option R:=match s with
 | .sc (.own g)=>bif fj g f then K (.sc .un) else K (.sc (.own g))
 | .ag cs=>yU f cs λcs=>K (.ag cs)
 | .box cs=>yU f cs λcs=>K (.box cs)
 | .ep g i o b cs=>bif fj g f then K (.sc .un) else K (.ep g i o b cs)
 |s=>K s
def kFr {R:Type}(f:Nat):Fr->(Fr->Option R)->Option R
 |[],K=>K []
 |(k,s)::r,K=>Om f s λs=>kFr f r λr=>K ((k,s)::r)
section
variable {R:Type}
def pZ (st:St)(l:aT)(K:MV->St->Option R):Option R:=match l with
 | .un=>none
 | .p m=>K m st
 | .hs x=>K (.h x) st
 | .nil=>K (.list []) st
 | .mp _ _=>none
 | .own f=>match bj st.bA f with
  |some o=>bif o.fB then K (.list o.xs) st else bif bU st.dt f then none else (match st with|⟨p,q,r,m⟩=>Vp m f ⟨o.ty,true,o.xs⟩ λm=>K (.list o.xs) ⟨p,q,r,m⟩)
  |none=>none
def sv (st:St):List aT->(List MV->St->Option R)->Option R
 |[],K=>K [] st
 |l::r,K=>pZ st l λm st=>sv st r λms st=>K (m::ms) st
def nS (st:St)(s:Slot)(K:MV->St->Option R):Option R:=match s with
 | .sc l=>pZ st l K
 | .ag cs=>sv st cs λms st=>K (.agg ms) st
 | .rp cs off=>bif fj off 0 then sv st cs λms st=>K (.rp ms) st else none
 |_=>none
def yV (st:St):List Slot->(List MV->St->Option R)->Option R
 |[],K=>K [] st
 |l::r,K=>nS st l λm st=>yV st r λms st=>K (m::ms) st
end
def AK:List aT->Nat
 |[]=>0
 |k::r=>k.w+AK r
def cut:List aT->Nat->Option (List aT)
 |cs,0=>some cs
 |c::cs,n+1=>bif aaQ c.w (n+1) then cut cs (n+1-c.w) else none
 |_,_=>none
def Sk:List aT->Nat->Option (List aT)
 |_,0=>some []
 |c::cs,n+1=>bif aaQ c.w (n+1) then (match Sk cs (n+1-c.w) with|some b=>some (c::b)|none=>none) else none
 |_,_=>none
def part (cs:List aT)(off n:Nat):Option (List aT):=match cut cs off with
 |some a=>Sk a n
 |none=>none
def over:List aT->List aT->Option (List aT)
 |[],cs=>some cs
 |v::vs,c::cs=>bif fj v.w c.w then (match over vs cs with|some r=>some (v::r)|none=>none) else none
 |_,[]=>none
def putAt:List aT->Nat->List aT->Option (List aT)
 |cs,0,vs=>over vs cs
 |c::cs,n+1,vs=>bif aaQ c.w (n+1) then (match putAt cs (n+1-c.w) vs with|some r=>some (c::r)|none=>none) else none
 |_,_,_=>none
def app {α:Type}:List α->List α->Option (List α)
 |[],l=>some l
 |x::r,l=>(match app r l with|some q=>some (x::q)|none=>none)
def Sl:aT->Bool
 | .un=>true
 | .mp _ _=>true
 |_=>false
def gY:List aT->Bool
 |[.mp _ _]=>true
 |_=>false
def GU:Slot->Bool
 | .box cs=>!gY cs
 |_=>false
def JL {R:Type}(ok:Nat->Bool)(r0:Fr):Fr->Fr->(Fr->Option R)->Option R
 |[],fr,K=>K fr
 |(t,s)::r,fr,K=>match s with
  | .ptr root off=>bif ok t&&(!AE root&&(GU (aH r0 root)&&(GU (aH fr root)&&!dD (aH fr t)))) then M7 fr t (.ptr root off) λfr=>JL ok r0 r fr K else JL ok r0 r fr K
  |_=>JL ok r0 r fr K
def mG:List aT->Bool
 |[.mp s _]=>!EF s
 |_=>false
def xM:List aT->Bool
 |[]=>false
 |l::r=>bif Sl l then true else xM r
def kEp {R:Type}(f:Nat):Fr->(Fr->Option R)->Option R
 |[],K=>K []
 |(k,s)::r,K=>(match s with
  | .ep g i o b cs=>bif fj g f then kEp f r λr=>K ((k,.sc .un)::r) else kEp f r λr=>K ((k,.ep g i o b cs)::r)
  |s=>kEp f r λr=>K ((k,s)::r))
inductive LK where
 |k (x:Kd)
 |own (f:Nat) (ty:Nat) (fB:Bool)
inductive OK where
 |sc (l:LK)
 |ag (ls:List LK)
 |box (ls:List LK)
 |mp (s:MS)
 |pt (root off:Nat)
structure p0 where
 dg:List Nat
 dt:List Nat
 outs:List (Nat×OK)
 exo:List (Nat×List (Nat×OK))
 fB:List Nat
instance:Inhabited p0:=⟨⟨[],[],[],[],[]⟩⟩
def aa2:List (Nat×List (Nat×OK))->Nat->List (Nat×OK)
 |[],_=>[]
 |(k,l)::r,e=>bif fj k e then l else aa2 r e
def p0.ex (h:p0)(e:Nat):List (Nat×OK):=aa2 h.exo e
def Xt:List (Nat×List (Nat×OK))->List (Nat×OK)
 |[]=>[]
 |(_,l)::r=>l++Xt r
def p0.all (h:p0):List (Nat×OK):=h.outs++Xt h.exo
structure Ctx where
 ti:Nat->Option TI
 key:Nat->Nat
 g:Nat->List MV->Option MV
 iL:Nat->Bool
 fresh:Nat->Bool
 tq:Nat->Nat
 sig:Nat->Option (Nat×List LK)
 par:List (Nat×Nat)
 n:Nat
 bs:List Nat
 fl:List Nat
 fz:Nat->List Nat
 fk:Nat->Option FloatKind
 mt:Nat->Option (Nat×Bool)
 ord:Nat->List Nat
 CH:Nat->p0
 BQ:Nat->p0
 xI:Nat->p0
 YX:Nat->Bool
 dyn:List Nat
def Ctx.tv (c:Ctx)(t:Nat):Option TI:=match c.ti t with|some I=>(match I.dJ with|[]=>some I|_=>none)|none=>none
def BR:Value->Slot
 | .bool b=> .sc (.p (.b b))
 | .int k n=> .sc (.p (.i k n))
 | .string s=> .sc (.p (.s s.data.toList))
 | .slice none 0 0=> .sc .nil
 | .float k b=> .sc (.p (.raw (.float k b)))
 | .complex k a b=> .sc (.p (.raw (.complex k a b)))
 | .pointer none=> .sc (.p (.raw (.pointer none)))
 | .nilFunc=> .sc (.p (.raw .nilFunc))
 | .nilIface=> .sc (.p (.raw .nilIface))
 |_=> .sc .un
def aX (c:Ctx)(st:St):Operand->Slot
 | .tmp t=>match plk c.par t with
  |some q=>bif AE q&&fj (posOf q) t then (match aH st.fr q with| .box cs=>bif gY cs then .sc .un else .ptr q (Sj q)|_=> .sc .un) else .sc .un
  |none=>match aH st.fr t with
   | .box cs=>bif AE t then .sc .un else bif mG cs then .AJ t else .ptr t 0
   | .AH cs=> .rp cs 0
   |s=>s
 | .const v=>BR v
 | .func f=> .sc (.p (.func (c.key f) []))
 | .global _=> .sc .un
def kl (c:Ctx)(st:St):List Operand->List Slot
 |[]=>[]
 |o::r=>aX c st o::kl c st r
section
variable {R:Type}
def wr (st:St)(d:Nat)(s:Slot)(K:St->Option R):Option R:=bif bU st.dg d then none else (match st with|⟨p,q,r,m⟩=>force s λs=>M7 r d s λr=>K ⟨p,q,r,m⟩)
def bM (c:Ctx)(st:St)(d:Option Nat)(s:Slot)(K:St->Option R):Option R:=match d with
 |some d=>bif AE d||(aaQ c.n d||dD (aH st.fr d)) then none else wr st d s K
 |none=>K st
def kW (st:St)(f:Nat)(o:pY)(K:St->Option R):Option R:=bif bU st.dt f then none else (match st with|⟨p,q,r,m⟩=>kFr f r λr=>Vp m f o λm=>K ⟨p,q,r,m⟩)
def lr (I:TI)(cs:List aT)(off:Nat)(K:Slot->Option R):Option R:=bif I.st then (match part cs off I.size with|some a=>K (.ag a)|none=>none)
 else (match cut cs off with|some (l::_)=>bif fj l.w I.size then K (.sc l) else none|_=>none)
def ldK (st:St)(I:TI)(a:Slot)(K:Slot->Option R):Option R:=match a with
 | .ptr root off=>match aH st.fr root with
  | .box cs=>bif gY cs then none else lr I cs off K
  |_=>none
 | .rp cs off=>lr I cs off K
 | .ep f _ off _ cs=>(match bj st.bA f with|some _=>lr I cs off K|none=>none)
 | .hp root off i=>bif I.st||!fj I.size 1 then none else (match aH st.fr root with
  | .box cs=>bif gY cs then none else (match cut cs off with|some (.hs x::_)=>K (.sc (.p (.i .u8 (x.l.getD i 0).toNat)))|_=>none)
  |_=>none)
 |_=>none
def ba:Slot->List aT
 | .sc l=>[l]
 | .ag cs=>cs
 |_=>[]
def cj:List aT->Option (List MV)
 |[]=>some []
 |l::r=>match l,cj r with
  | .p m,some q=>some (m::q)
  | .hs x,some q=>some (.h x::q)
  |_,_=>none
def ta:List aT->List MV->Option (List aT)
 |[],[]=>some []
 | .hs x::r,_::ms=>(match ta r ms with|some q=>some (.hs x::q)|none=>none)
 |_::r,m::ms=>(match ta r ms with|some q=>some (.p m::q)|none=>none)
 |_,_=>none
def xg (b:Bool)(cs:List MV):Option MV:=match b,cs with
 |false,[m]=>some m
 |true,cs=>some (.agg cs)
 |_,_=>none
def isByte (n:Int):Bool:=decide (n=((abK n.toNat).toNat:Int))
def stK (st:St)(I:TI)(a v:Slot)(K:St->Option R):Option R:=bif xM (ba v)||!fj (AK (ba v)) I.size then none else
 match a with
 | .ptr root off=>match aH st.fr root with
  | .box cs=>bif gY cs then none else (match putAt cs off (ba v) with|some j9=>wr st root (.box j9) K|none=>none)
  |_=>none
 | .hp root off i=>match aH st.fr root,v with
  | .box cs,.sc (.p n)=>bif gY cs then none else (match cut cs off with
   |some (.hs x::_)=>gI .u8 n λn=>b5 (isByte n) (match putAt cs off [.hs (x.put i (abK n.toNat))] with|some j9=>wr st root (.box j9) K|none=>none)
   |_=>none)
  |_,_=>none
 | .ep f i off b cs=>sv st (ba v) λms st=>match bj st.bA f with
  |some o=>bif o.fB then none else
   (match ta (ba v) ms with
   |some vs=>(match putAt cs off vs with
    |some j9=>(match cj j9 with
     |some ms'=>(match xg b ms' with
      |some x=>bif bU st.dt f then none else
       (match st with|⟨p,q,r,m⟩=>kEp f r λr=>Vp m f ⟨o.ty,false,o.xs.set i x⟩ λm=>K ⟨p,q,r,m⟩)
      |none=>none)
     |none=>none)
    |none=>none)
   |none=>none)
  |none=>none
 |_=>none
def Qh (I:TI)(x:MV)(K:List aT->Option R):Option R:=bif I.st then gA x λcs=>wa I.lay cs K
 else match I.lay with
  |[k]=>lq k x λx=>K [x]
  |_=>none
def HS (I:TI)(x:MV)(K:Slot->Option R):Option R:=bif I.st then gA x λcs=>wa I.lay cs λcs=>K (.ag cs)
 else match I.lay with
  |[k]=>lq k x λx=>K (.sc x)
  |_=>none
def JM (c:Ctx):List Nat->List MV->(List Slot->Option R)->Option R
 |[],l,K=>gN l (K [])
 |t::ts,l,K=>match c.tv t with
  |some I=>gC l λm r=>HS I m λs=>JM c ts r λss=>K (s::ss)
  |none=>none
def tH (c:Ctx)(I:TI)(x:MV)(K:Slot->Option R):Option R:=match I.dJ with
 |[]=>HS I x K
 |ts=>gT x λvs=>JM c ts vs λss=>K (.cM ss)
def GV:aT->aT->Option Bool
 | .p (.b x),.p (.b y)=>some (decide (x=y))
 | .p (.i k x),.p (.i k' y)=>bif decide (k=k') then some (decide (x=y)) else none
 | .p (.s x),.p (.s y)=>some (decide (x=y))
 | .hs x,.hs y=>some (decide (x=y))
 |_,_=>none
def km:List aT->List aT->Option Bool
 |[],[]=>some true
 |[x],[y]=>GV x y
 |x::xs,y::ys=>match GV x y,km xs ys with
  |some a,some b=>some (a&&b)
  |_,_=>none
 |_,_=>none
def Qi (op:BinOp)(x y:List UInt8):Option MV:=match op with
 | .eql=>some (.b (decide (x=y)))
 | .neq=>some (.b (!decide (x=y)))
 | .lss=>some (.b (afJ x y))
 | .gtr=>some (.b (!(afJ x y||decide (x=y))))
 | .leq=>some (.b (afJ x y||decide (x=y)))
 | .geq=>some (.b (!afJ x y))
 |_=>none
def Vq (k:IntKind)(x y:Int):Int:=k.wrap ((abZ k.bits x&&&abZ k.bits y).toNat:Int)
def bOr (k:IntKind)(x y:Int):Int:=k.wrap ((abZ k.bits x|||abZ k.bits y).toNat:Int)
def GW (k:IntKind)(x y:Int):Int:=k.wrap ((abZ k.bits x^^^abZ k.bits y).toNat:Int)
def Xu (op:BinOp)(k:IntKind)(x y:Int):Option MV:=match op with
 | .add=>some (.i k (k.wrap (x+y)))
 | .sub=>some (.i k (k.wrap (x-y)))
 | .mul=>some (.i k (k.wrap (x *y)))
 | .and=>some (.i k (Vq k x y))
 | .or=>some (.i k (bOr k x y))
 | .xor=>some (.i k (GW k x y))
 | .eql=>some (.b (decide (x=y)))
 | .neq=>some (.b (!decide (x=y)))
 | .lss=>some (.b (decide (x<y)))
 | .leq=>some (.b (decide (x<=y)))
 | .gtr=>some (.b (decide (y<x)))
 | .geq=>some (.b (decide (y<=x)))
 |_=>none
def oZ:Kd->aT->Bool
 | .b,.p (.b _)=>true
 | .i k,.p (.i k' _)=>decide (k'=k)
 | .s,.p (.s _)=>true
 | .h,.hs _=>true
 |_,_=>false
def gn:List Kd->List aT->Bool
 |[],[]=>true
 |k::ks,l::ls=>bif oZ k l then gn ks ls else false
 |_,_=>false
def nT (st:Bool):Slot->Bool
 | .ag _=>st
 | .sc _=>!st
 |_=>false
def ani (op:BinOp)(a b:Nat):Option Nat:=match op with
 | .add=>FloatKind.f64.format.add a b
 | .sub=>FloatKind.f64.format.sub a b
 | .mul=>FloatKind.f64.format.mul a b
 |_=>none
def ajj (oI:Option TI)(op:BinOp)(x y:Slot)(K:Slot->Option R):Option R:=match x,y with
 | .sc (.p (.i k a)),.sc (.p (.i k' b))=>
  (match op with
   | .quo=>bif decide (k=k') then b5 (!decide (b=0)) (K (.sc (.p (.i k (k.wrap (a.tdiv b)))))) else none
   | .rem=>bif decide (k=k') then b5 (!decide (b=0)) (K (.sc (.p (.i k (a.tmod b))))) else none
   | .shr=>b5 (decide (0<=b)) (K (.sc (.p (.i k (a.fdiv (2^min b.toNat k.bits))))))
   | .shl=>b5 (decide (0<=b)) (K (.sc (.p (.i k (k.wrap (a *2^min b.toNat k.bits))))))
   |_=>bif decide (k=k') then (match Xu op k a b with|some m=>K (.sc (.p m))|none=>none) else none)
 | .sc (.p (.s a)),.sc (.p (.s b))=>(match op with
  | .add=>b5 (decide (a.length+b.length<=2^46)) (K (.sc (.p (.s (a++b)))))
  |_=>(match Qi op a b with|some m=>K (.sc (.p m))|none=>none))
 | .sc (.p (.raw (.float .f64 a))),.sc (.p (.raw (.float .f64 b)))=>bd (ani op a b) λr=>K (.sc (.p (.raw (.float .f64 r))))
 |x,y=>match oI with
  |some I=>bif gn I.lay (ba x)&&gn I.lay (ba y)&&(nT I.st x&&nT I.st y) then (match op with
   | .eql=>(match km (ba x) (ba y) with|some b=>K (.sc (.p (.b b)))|none=>none)
   | .neq=>(match km (ba x) (ba y) with|some b=>K (.sc (.p (.b (!b))))|none=>none)
   |_=>none) else none
  |none=>none
def sliceB (lo hi:Option Slot)(len:Nat)(K:Nat->Nat->Option R):Option R:=match lo,hi with
 |none,none=>K 0 len
 |some (.sc (.p (.i _ l))),none=>b5 (decide (0<=l/\l<=(len:Int)/\(len:Int)<=(len:Int))) (K l.toNat (Int.toNat (len:Int)))
 |none,some (.sc (.p (.i _ h)))=>b5 (decide (0<=(0:Int)/\(0:Int)<=h/\h<=(len:Int))) (K (Int.toNat 0) h.toNat)
 |some (.sc (.p (.i _ l))),some (.sc (.p (.i _ h)))=>b5 (decide (0<=l/\l<=h/\h<=(len:Int))) (K l.toNat h.toNat)
 |_,_=>none
def np (c:Ctx)(st:St):Option Operand->Option Slot
 |some o=>some (aX c st o)
 |none=>none
def AL:List aT->Option (List MV)
 |[]=>some []
 |l::r=>match l,AL r with
  | .p m,some q=>some (m::q)
  | .hs x,some q=>some (.h x::q)
  | .nil,some q=>some (.list []::q)
  |_,_=>none
def aa3 (d:Nat)(st:St)(I E:TI)(x y:Slot)(K:Slot->St->Option R):Option R:=match x,y with
 | .sc (.p (.i _ n)),.sc (.p (.i _ m))=>bif aaQ 1 E.bytes then b5 (decide ((0:Int)<=n/\n=m/\n *E.bytes<=2^46)) (match AL E.zero with
  |some zs=>(match xg E.st zs with
   |some z=>kW st d ⟨I.elem,false,List.replicate n.toNat z⟩ λst=>K (.sc (.own d)) st
   |none=>none)
  |none=>none) else none
 |_,_=>none
def TI.BS (I:TI):Bool:=match I.st,I.lay with|false,[.l]=>true|_,_=>false
def TI.isS (I:TI):Bool:=match I.st,I.lay with|false,[.s]=>true|_,_=>false
def YY (E:TI):Bool:=match E.st,E.lay with
 |false,[.i k]=>decide (k= .u8)
 |_,_=>false
def M8 (l:List UInt8):List MV:=l.map λb=> .i .u8 (b.toNat:Int)
def Vr (c:Ctx)(u:Nat)(E:TI)(x:Slot)(K:List MV->Option R):Option R:=match c.tv u,x with
 |some T,.sc (.p (.s l))=>bif T.isS&&YY E then K (M8 l) else none
 |_,_=>none
def Qj (I E:TI)(st:St)(x:Slot)(K:List MV->Option R):Option R:=match x with
 | .sc (.p (.list xs))=>b5 (oa E.size xs) (K xs)
 | .sc .nil=>K []
 | .sc (.own f)=>(match bj st.bA f with|some o=>bif fj o.ty I.elem then K o.xs else none|none=>none)
 |_=>none
def DG (c:Ctx)(st:St)(I:TI):List (Nat×Operand)->List aT->Option (List aT)
 |[],cs=>some cs
 |(i,o)::r,cs=>match I.Si[i]?,I.YV[i]? with
  |some q,some y=>(match c.tv y with
   |some J=>bif xM (ba (aX c st o))||!fj (AK (ba (aX c st o))) J.size then none else
    (match putAt cs q (ba (aX c st o)) with|some j9=>DG c st I r j9|none=>none)
   |none=>none)
  |_,_=>none
def JN (c:Ctx)(st:St):List (Nat×Operand)->lp->(lp->Option R)->Option R
 |[],x,K=>K x
 |(i,o)::r,x,K=>match aX c st o with
  | .sc (.p m)=>bif aaQ 32 i then none else gI .u8 m λn=>b5 (isByte n) (JN c st r (x.put i (abK n.toNat)) K)
  |_=>none
def aa4 (c:Ctx)(st:St):List (Nat×Operand)->Nat->(List MV->St->Option R)->Option R
 |[],_,K=>K [] st
 |(i,o)::r,n,K=>bif fj i n then nS st (aX c st o) λm st=>aa4 c st r (n+1) λms st=>K (m::ms) st else none
def JO (c:Ctx)(st:St):List Operand->(List MV->St->Option R)->Option R
 |[],K=>K [] st
 |o::r,K=>match aX c st o with
  | .ptr root 0=>(match aH st.fr root with
   | .box cs=>bif xM cs||AE root then none else sv st cs λms st=>(match ta cs ms with|some j9=>wr st root (.AH j9) λst=>JO c st r λxs st=>K (.rp ms::xs) st|none=>none)
   |_=>none)
  | .rp cs 0=>sv st cs λms st=>JO c st r λxs st=>K (.rp ms::xs) st
  |_=>none
def JP (c:Ctx)(k:Nat)(st:St)(s:Slot)(K:MV->St->Option R):Option R:=match s with
 | .sc (.own f)=>(match bj st.bA f with
  |some o=>bif o.fB||!fj o.ty (c.tq k) then none else kW st f ⟨o.ty,true,[]⟩ λst=>K (.fresh o.xs) st
  |none=>none)
 | .sc .nil=>(match c.tv (c.tq k) with|some _=>K (.fresh []) st|none=>none)
 |_=>none
def Xv (c:Ctx)(k:Nat)(st:St)(ss:List Slot)(K:List MV->St->Option R):Option R:=bif c.iL k then (match ss with
  |[s0,s1,s2]=>(match s2 with
   | .sc (.p m2)=>nS st s1 λm1 st=>JP c k st s0 λm0 st=>K [m0,m1,m2] st
   |s2=>nS st s1 λm1 st=>JP c k st s0 λm0 st=>JP c k st s2 λm2 st=>K [m0,m1,m2] st)
  |_=>none)
 else yV st ss K
def anj (x y:Int):Int:=if y<x then y else x
def imax (x y:Int):Int:=if y>x then y else x
def aa5 (mx:Bool)(k:IntKind):Int->List Slot->Option MV
 |x,[]=>some (.i k x)
 |x,.sc (.p (.i k' y))::r=>bif decide (k'=k) then aa5 mx k (bif mx then imax x y else anj x y) r else none
 |_,_=>none
def Vs (mx:Bool):List Slot->Option MV
 | .sc (.p (.i k n))::r=>aa5 mx k n r
 |_=>none
def aa6 (c:Ctx)(d:Nat)(st:St)(f:Nat)(ms:List MV)(I:TI)(K:Slot->St->Option R):Option R:=bd (c.g f ms) λr=>bif c.fresh f then bif fj (c.tq f) 0 then gCl r λxs=>K (.sc (.p (.clip xs))) st else gF r λxs=>bif !fj I.elem (c.tq f) then none else kW st d ⟨I.elem,false,xs⟩ λst=>(bif bU c.bs d then pZ st (.own d) λm st=>K (.sc (.p m)) st else K (.sc (.own d)) st) else tH c I r λs=>K s st
def ajk (s:Slot)(K:Slot->Option R):Option R:=match s with
 | .ptr r o=>K (.ptr r o)
 | .rp cs o=>K (.rp cs o)
 |_=>none
def aa7 (x y z:Slot)(K:Slot->Option R):Option R:=match x with
 | .sc (.p (.b v))=>(match y,z with
  | .sc (.p (.b p)),.sc (.p (.b q))=>K (.sc (.p (.b (bif v then p else q))))
  |p,q=>match v with|true=>K p|false=>K q)
 |_=>none
def ajl (I:TI)(s:Slot)(K:Slot->Option R):Option R:=match s with
 | .sc l=>bif I.st||Sl l||!fj l.w I.size then none else K (.box [l])
 | .ag cs=>bif I.st&&!xM cs&&fj (AK cs) I.size then K (.box cs) else none
 |_=>none
def unK (op:UnOp)(s:Slot)(K:Slot->Option R):Option R:=match op,s with
 | .not,.sc (.p (.b v))=>K (.sc (.p (.b (!v))))
 | .neg,.sc (.p (.i k n))=>K (.sc (.p (.i k (k.wrap (0-n)))))
 |_,_=>none
def aa8 (I:TI)(fk:Option FloatKind)(s:Slot)(K:Slot->Option R):Option R:=match I.st,I.dJ,I.lay,s with
 |false,[],[.i k],.sc (.p (.i _ n))=>K (.sc (.p (.i k (k.wrap n))))
 |false,[],[.s],.sc (.p (.s l))=>K (.sc (.p (.s l)))
 |false,[],[.i k],.sc (.p (.raw (.float .f64 a)))=>bd ((FloatKind.decode .f64 a).toInt .zero) λn=>b5 (decide (k.min<=n/\n<=k.max)) (K (.sc (.p (.i k n))))
 |false,[],[.raw],.sc (.p (.i _ n))=>(match fk with
  |some .f64=>K (.sc (.p (.raw (.float .f64 (FloatKind.nearest .f64 n)))))
  |_=>none)
 |_,_,_,_=>none
def Vt (c:Ctx)(I:TI)(st:St)(s:Slot)(lo hi:Option Slot)(K:Slot->St->Option R):Option R:=match s with
 | .sc (.p (.s l))=>bif I.isS then sliceB lo hi l.length λa b=>K (.sc (.p (.s ((l.take b).drop a)))) st else none
 | .sc (.p (.list l))=>bif I.BS then (match c.tv I.elem with
  |some E=>(match lo with
   |none=>sliceB none hi l.length λa b=>K (.sc (.p (.list ((l.take b).drop a)))) st
   |some lo=>b5 (oa E.size l) (sliceB (some lo) hi l.length λa b=>K (.sc (.p (.list ((l.take b).drop a)))) st))
  |none=>none) else none
 | .sc (.own f)=>(match bj st.bA f with
  |some o=>bif I.BS&&fj o.ty I.elem then pZ st (.own f) λ_ st=>sliceB lo hi o.xs.length λa b=>K (.sc (.p (.list ((o.xs.take b).drop a)))) st else none
  |none=>none)
 | .sc .nil=>bif I.BS then sliceB lo hi 0 λ_ _=>K (.sc .nil) st else none
 |_=>none
def aa9 (I:TI)(s h m:Slot)(K:Slot->Option R):Option R:=match s,h,m with
 | .sc (.p (.list l)),.sc (.p (.i .i64 n)),.sc (.p (.i .i64 n'))=>bif I.BS then b5 (decide (n=(l.length:Int)/\n'=(l.length:Int))) (K (.sc (.p (.clip l)))) else none
 |_,_,_=>none
def aba (st:St)(I:TI)(f:Nat)(s:Slot)(K:Slot->Option R):Option R:=match I.st,I.Si[f]?,s with
 |true,some q,.ptr r o=>K (.ptr r (o+q))
 |true,some q,.rp cs o=>K (.rp cs (o+q))
 |true,some q,.ep g i o b cs=>(match bj st.bA g with|some _=>K (.ep g i (o+q) b cs)|none=>none)
 |_,_,_=>none
def ajm (c:Ctx)(I:TI)(f:Nat)(s:Slot)(K:Slot->Option R):Option R:=match I.st,I.Si[f]?,I.YV[f]?,s with
 |true,some q,some y,.ag cs=>(match c.tv y with|some J=>lr J cs q K|none=>none)
 |_,_,_,_=>none
def ajn (c:Ctx)(st:St)(I E:TI)(x i:Slot)(K:Slot->Option R):Option R:=match x,i with
 | .sc (.p (.list xs)),.sc (.p (.i _ n))=>bif I.BS then idx xs n λx=>Qh E x λcs=>K (.rp cs 0) else none
 | .sc (.own f),.sc (.p (.i _ n))=>(match bj st.bA f with
  |some o=>bif I.BS then idx o.xs n λx=>Qh E x λcs=>K (.ep f n.toNat 0 E.st cs) else none
  |none=>none)
 | .ptr r o,.sc (.p (.i _ n))=>bif I.st then none else (match I.lay with|[.h]=>b5 (decide ((0:Int)<=n/\n<32)) (K (.hp r o n.toNat))|_=>none)
 |_,_=>none
def ixK (I:TI)(x i:Slot)(K:Slot->Option R):Option R:=match I.st,I.lay,x,i with
 |false,[.s],.sc (.p (.s l)),.sc (.p (.i _ n))=>b5 (decide ((0:Int)<=n/\n<(l.length:Int))) (K (.sc (.p (.i .u8 (l.getD n.toNat 0).toNat))))
 |false,[.h],.sc (.hs x),.sc (.p (.i _ n))=>b5 (decide ((0:Int)<=n/\n<32)) (K (.sc (.p (.i .u8 (x.l.getD n.toNat 0).toNat))))
 |_,_,_,_=>none
def ajo (s:Slot)(k:Nat)(K:Slot->Option R):Option R:=match s with
 | .cM vs=>(match vs[k]? with|some s=>K s|none=>none)
 |_=>none
def abb (I:TI)(st:St)(ss:List Slot)(K:Slot->Option R):Option R:=match ss with
 |[.sc (.p (.s l))]=>bif I.isS then K (.sc (.p (.i .i64 l.length))) else none
 |[.sc (.p (.list l))]=>bif I.BS then K (.sc (.p (.i .i64 l.length))) else none
 |[.sc .nil]=>bif I.BS then K (.sc (.p (.i .i64 0))) else none
 |[.sc (.own f)]=>bif I.BS then (match bj st.bA f with|some o=>K (.sc (.p (.i .i64 o.xs.length)))|none=>none) else none
 |_=>none
def YZ (pb:Bool)(d:Nat)(st:St)(I E:TI)(s:Slot)(ys:List MV)(K:Slot->St->Option R):Option R:=bif aaQ 1 E.bytes then (match s with
 | .sc .nil=>b5 (decide (ys.length *E.bytes<=2^46)) (kW st d ⟨I.elem,false,ys⟩ λst=>K (.sc (.own d)) st)
 | .sc (.own f)=>(match bj st.bA f with
  |some w=>b5 (decide ((w.xs.length+ys.length) *E.bytes<=2^46)) (bif fj w.ty I.elem then kW st f ⟨w.ty,w.fB,w.xs++ys⟩ λst=>K (.sc (.own f)) st else none)
  |none=>none)
 | .sc (.p (.clip xs))=>b5 (oa E.size xs) (b5 (decide (0<ys.length/\(xs.length+ys.length) *E.bytes<=2^46)) (kW st d ⟨I.elem,false,xs++ys⟩ λst=>bif pb then pZ st (.own d) λm st=>K (.sc (.p m)) st else K (.sc (.own d)) st))
 |_=>none) else none
def Qk (c:Ctx)(st:St)(I:TI)(f:Slot)(ss:List Slot)(K:Slot->St->Option R):Option R:=match f with
 | .sc (.p m)=>Xs m λf dI=>b5 (!c.iL f)<|yV st ss λms st=>bd (c.g f (ms++dI)) λr=>tH c I r λs=>K s st
 |_=>none
def GX:MV->MV->Bool
 | .b x,.b y=>decide (x=y)
 | .i k x,.i k' y=>decide (k=k')&&decide (x=y)
 | .s x,.s y=>decide (x=y)
 | .h x,.h y=>decide (x=y)
 |_,_=>false
def ft:List MV->List MV->Bool
 |[],[]=>true
 |x::xs,y::ys=>GX x y&&ft xs ys
 |_,_=>false
def kn:MV->List MV
 | .cM (.agg k::_)=>k
 |_=>[]
def afS:MV->MV
 | .cM [_,v]=>v
 |_=> .b false
def df:List MV->List MV->Nat
 |[],_=>0
 |e::r,ks=>bif ft (kn e) ks then 0 else df r ks+1
def asI:MV->Int
 | .i _ n=>n
 |_=>0
def asB:MV->Bool
 | .b x=>x
 |_=>false
def oc (es:List MV)(ks:List MV):Int:=match es[df es ks]? with|some e=>asI (afS e)|none=>0
def ah9 (es:List MV)(ks:List MV):Bool:=match es[df es ks]? with|some e=>asB (afS e)|none=>false
def nU (es ks:List MV)(z:MV):List MV:=bif fj (df es ks) es.length then es++[.cM [.agg ks,z]] else es
def uI (es:List MV)(i:Nat)(v:MV):List MV:=match es[i]? with|some e=>es.set i (.cM [.agg (kn e),v])|none=>es
def j0 (b:Bool):MV:=bif b then .b false else .i .i64 0
def xh (c:Ctx)(t:Nat):Option MS:=match c.mt t with
 |some (kt,b)=>(match c.tv kt with|some I=>bif EF ⟨I.st,I.lay,b⟩ then none else some ⟨I.st,I.lay,b⟩|none=>none)
 |none=>none
def Sn (s:MS)(k:Slot)(K:List MV->Option R):Option R:=bif gn s.lay (ba k)&&nT s.st k then (match cj (ba k) with|some ks=>K ks|none=>none) else none
def M9 (st:St)(s:MS)(m:Slot)(K:Nat->List MV->Option R):Option R:=match m with
 | .AJ r=>(match aH st.fr r with| .box [.mp s' es]=>bif msB s s'&&!EF s' then K r es else none|_=>none)
 |_=>none
def Y0 (b:Bool)(s:Slot)(K:MV->Option R):Option R:=match b,s with
 |true,.sc (.p (.b x))=>K (.b x)
 |false,.sc (.p (.i .i64 n))=>K (.i .i64 n)
 |_,_=>none
def HT (st:St)(r:Nat)(s:MS)(es:List MV)(K:St->Option R):Option R:=wr st r (.box [.mp s es]) K
def isLT (c:Ctx)(y:Nat):Bool:=match c.tv y with|some Y=>Y.BS|none=>false
def nq (c:Ctx)(o:Oper):Bool:=match o.op with
 | .assign (.tmp _)=>(match c.mt o.type with|some _=>true|none=>false)
 |_=>false
def Js (c:Ctx)(o:Oper)(st:St)(x:Operand)(K:Slot->St->Option R):Option R:=match x,c.mt o.type with
 | .tmp t,some _=>(match aH st.fr t with
  | .box cs=>bif gY cs then bif bU st.dg t||AE t then none else (match st with|⟨p,q,r,m⟩=>xL [t] r λr=>K (.box cs) ⟨p,q,r,m⟩) else K (aX c st x) st
  |_=>K (aX c st x) st)
 |_,_=>K (aX c st x) st
def GY (s:MS)(es ks:List MV):Slot:=bif s.b then .sc (.p (.b (ah9 es ks))) else .sc (.p (.i .i64 (oc es ks)))
def aia (c:Ctx)(st:St)(t:Nat)(m k:Slot)(K:Slot->Option R):Option R:=match xh c t with
 |some s=>M9 st s m λ_ es=>Sn s k λks=>K (GY s es ks)
 |none=>none
def aib (c:Ctx)(st:St)(t:Nat)(m k v:Slot)(K:St->Option R):Option R:=match xh c t with
 |some s=>M9 st s m λr es=>Sn s k λks=>Y0 s.b v λv=>HT st r s (uI (nU es ks (j0 s.b)) (df es ks) v) K
 |none=>none
def abc (c:Ctx)(st:St)(t:Nat)(m k:Slot)(K:Slot->St->Option R):Option R:=match xh c t with
 |some s=>M9 st s m λr es=>Sn s k λks=>HT st r s (nU es ks (j0 s.b)) λst=>K (.cM [GY s es ks,.sc (.p (.i .i64 (df es ks)))]) st
 |none=>none
def ank (c:Ctx)(st:St)(t:Nat)(m i v:Slot)(K:St->Option R):Option R:=match xh c t with
 |some s=>M9 st s m λr es=>(match i with
  | .sc (.p (.i .i64 n))=>b5 (decide (0<=n/\n.toNat<es.length)) (Y0 s.b v λv=>HT st r s (uI es n.toNat v) K)
  |_=>none)
 |none=>none
def itS (es:List MV):List UInt8:=match es with|[.s l,.i .i64 _]=>l|_=>[]
def C3 (es:List MV):Int:=match es with|[.s _,.i .i64 n]=>n|_=>0
def afT (es:List MV):Bool:=decide (C3 es<((itS es).length:Int))
def Vu (es:List MV):Int:=(ahm ⟨(itS es).toArray⟩ (C3 es).toNat).1
def Vv (es:List MV):List MV:=[.s (itS es),.i .i64 (C3 es+(ahm ⟨(itS es).toArray⟩ (C3 es).toNat).2)]
def itK (st:St)(x:Slot)(K:Slot->St->Option R):Option R:=match x with
 | .ptr t 0=>(match aH st.fr t with
  | .box [.mp s es]=>bif EF s then
   aR (afT es) (wr st t (.box [.mp s (Vv es)]) λst=>K (.cM [.sc (.p (.b true)),.sc (.p (.i .i64 (C3 es))),.sc (.p (.i .i32 (Vu es)))]) st) (K (.cM [.sc (.p (.b false))]) st)
   else none
  |_=>none)
 |_=>none
def byK (m:MV)(K:UInt8->Option R):Option R:=gI .u8 m λn=>b5 (isByte n) (K (abK n.toNat))
def Na:List MV->(List UInt8->Option R)->Option R
 |[],K=>K []
 |m::r,K=>byK m λb=>Na r λl=>K (b::l)
def Vw (I:TI)(x:Slot)(K:Slot->Option R):Option R:=match x with
 | .sc (.p (.s l))=>bif I.isS then K (.box [.mp MS.it [.s l,.i .i64 0]]) else none
 |_=>none
def abd (c:Ctx)(st:St)(Y I:TI)(x:Slot)(K:Slot->Option R):Option R:=match c.tv Y.elem with
 |some E=>bif I.isS&&YY E then (match x with
  | .sc (.p (.list xs))=>Na xs λl=>K (.sc (.p (.s l)))
  | .sc .nil=>K (.sc (.p (.s [])))
  | .sc (.own f)=>(match bj st.bA f with
   |some o=>bif fj o.ty Y.elem then Na o.xs λl=>K (.sc (.p (.s l))) else none
   |none=>none)
  |_=>none) else none
 |none=>none
def still (c:Ctx)(o:Oper):Bool:=match o.op,o.dst with
 | .load _ _,some d=>bU c.fl d
 |_,_=>false
def dc:List LK->List Nat
 |[]=>[]
 | .own f _ _::r=>f::dc r
 |_::r=>dc r
def meets:List Nat->List Nat->Bool
 |[],_=>false
 |k::r,l=>bif bU l k then true else meets r l
def j6 (c:Ctx):List LK->Bool
 |[]=>true
 | .own _ ty _::r=>(match c.tv ty with|some _=>j6 c r|none=>false)
 |_::r=>j6 c r
def nV (ps:List (Nat×Nat))(f g:Nat):Bool:=match ps with
 |[]=>true
 |(a,b)::r=>(bif fj a f then fj b g&&!fj g 0 else (bif fj b g then fj g 0 else true))&&nV r f g
def Ql (st:St)(ps:List (Nat×Nat))(k:LK)(l:aT)(K:MV->List (Nat×Nat)->Option R):Option R:=match k,l with
 | .k .l,.nil=>K (.list []) ps
 | .k .h,.hs x=>K (.h x) ps
 | .k x,.p m=>lq x m λ_=>K m ps
 | .own f ty fB,.own g=>match bj st.bA g with
  |some o=>bif !fj o.ty ty||(o.fB&&!fB)||bU st.dt g||!nV ps f (g+1) then none else K (.list o.xs) ((f,g+1)::ps)
  |none=>none
 | .own f _ _,.nil=>bif nV ps f 0 then K (.list []) ((f,0)::ps) else none
 |_,_=>none
def mb (st:St):List (Nat×Nat)->List LK->List aT->(List MV->List (Nat×Nat)->Option R)->Option R
 |ps,[],[],K=>K [] ps
 |ps,k::ks,l::ls,K=>Ql st ps k l λm ps=>mb st ps ks ls λms ps=>K (m::ms) ps
 |_,_,_,_=>none
def mH (st:St)(k:LK)(m:MV)(K:aT->St->Option R):Option R:=match k with
 | .k x=>lq x m λl=>K l st
 | .own f ty fB=>gL m λxs=>(match st with|⟨p,q,r,n⟩=>Vp n f ⟨ty,fB,xs⟩ λn=>K (.own f) ⟨p,q,r,n⟩)
def dK (st:St):List LK->List MV->(List aT->List MV->St->Option R)->Option R
 |[],ms,K=>K [] ms st
 |k::ks,ms,K=>gC ms λm r=>mH st k m λl st=>dK st ks r λls ms st=>K (l::ls) ms st
def So (gs:List Nat):List (Nat×pY)->(List (Nat×pY)->Option R)->Option R
 |[],K=>K []
 |(k,o)::r,K=>bif bU gs k then So gs r K else So gs r λr=>K ((k,o)::r)
def afU:List Nat->Fr->(Fr->Option R)->Option R
 |[],r,K=>K r
 |f::fs,r,K=>kFr f r λr=>afU fs r K
def lQ:List (Nat×Nat)->List Nat
 |[]=>[]
 |(_,0)::r=>lQ r
 |(_,g+1)::r=>g::lQ r
def Sp:List Nat->List (Nat×pY)->Bool
 |[],_=>false
 |f::r,m=>(match bj m f with|some _=>true|none=>Sp r m)
def abe (st:St)(root:Nat)(ks:List LK)(ps:List (Nat×Nat))(outs:List MV)(K:St->Option R):Option R:=dK ⟨[],[],[],[]⟩ ks outs λcs rest JQ=>gN rest<|So (lQ ps) st.bA λm=>
  bif Sp (dc ks) m||meets (dc ks) st.dt then none else
   afU (dc ks) st.fr λr=>M7 r root (.box cs) λr=>(match app JQ.bA m with|some m=>K ⟨st.dg,st.dt,r,m⟩|none=>none)
def Xw (c:Ctx)(gv:Bool)(g:List MV->Option MV)(pos:Nat)(ks:List LK)(st:St)(ss:List Slot)(I:Option TI)(K:Slot->St->Option R):Option R:=match ss[pos]? with
 |some (.ptr root off)=>yV st (ss.take pos) λm1 st=>yV st (ss.drop (pos+1)) λm2 st=>
  (match aH st.fr root with
  | .box cs=>bif gY cs||bU st.dg root||!j6 c ks||!gv then none else mb st [] ks cs λls ps=>
   (match app m1 (.cell (.func off ls)::m2) with
   |some ms=>bd (g ms) λx=>gW x λr outs=>abe st root ks ps outs λst=>(match I with
    |some I=>tH c I r λs=>K s st
    |none=>K (.sc .un) st)
   |none=>none)
  |_=>none)
 |_=>none
def aid (c:Ctx)(key pos:Nat)(ks:List LK)(st:St)(ss:List Slot)(I:Option TI)(K:Slot->St->Option R):Option R:=Xw c (c.iL key) (c.g key) pos ks st ss I K
def lkB:List LK->List LK->Bool
 |[],[]=>true
 | .k k1::r,.k k2::q=>kdB k1 k2&&lkB r q
 | .own f t z::r,.own f' t' z'::q=>fj f f'&&(fj t t'&&(z==z'&&lkB r q))
 |_,_=>false
def Sq (c:Ctx)(pos:Nat)(ks:List LK):List Nat->Bool
 |[]=>true
 |k::r=>(match c.sig k with|some sg=>fj sg.1 pos&&lkB sg.2 ks|none=>false)&&(c.iL k&&Sq c pos ks r)
def abg (c:Ctx)(Y1:List Nat)(st:St)(f:Slot)(ss:List Slot)(I:Option TI)(K:Slot->St->Option R):Option R:=match f,Y1 with
 | .sc (.p m),k0::_=>(match c.sig k0 with
  |some sg=>bif Sq c sg.1 sg.2 Y1 then Xs m λk dI=>gN dI<|Xw c true (λms=>YW Y1 k λk=>c.g k ms) sg.1 sg.2 st ss I K else none
  |none=>none)
 |_,_=>none
def opK (c:Ctx)(o:Oper)(st:St)(K:Slot->St->Option R):Option R:=match o.op with
 | .move x=>K (aX c st x) st
 | .assign x=>Js c o st x K
 | .makeMap t none=>(match xh c t with|some s=>K (.box [.mp s []]) st|none=>none)
 | .lookup t m k false=>aia c st t (aX c st m) (aX c st k) λs=>K s st
 | .mapUpdate t m k v=>aib c st t (aX c st m) (aX c st k) (aX c st v) λst=>K (.sc .un) st
 | .mapEntry t m k=>abc c st t (aX c st m) (aX c st k) K
 | .entryStore t m i v=>ank c st t (aX c st m) (aX c st i) (aX c st v) λst=>K (.sc .un) st
 | .nilCheck x=>ajk (aX c st x) λs=>K s st
 | .pick x a b=>aa7 (aX c st x) (aX c st a) (aX c st b) λs=>K s st
 | .alloc t=>(match c.tv t with|some I=>K (.box I.zero) st|none=>none)
 | .box t x=>(match c.tv t with|some I=>ajl I (aX c st x) λs=>K s st|none=>none)
 | .build t parts=>(match c.tv t with
  |some I=>bif I.st then (match DG c st I parts.toList I.zero with|some cs=>K (.ag cs) st|none=>none)
   else (match I.lay with|[.h]=>JN c st parts.toList lp.zero λx=>K (.sc (.hs x)) st|_=>none)
  |none=>none)
 | .buildSlice t n parts=>(match c.tv t with
  |some I=>bif I.BS then (match c.tv I.elem with
   |some E=>bif aaQ (n *E.size) 16777216 then aa4 c st parts.toList 0 λms st=>bif fj ms.length n then b5 (oa E.size ms) (bif bU c.bs (o.dst.getD 0) then K (.sc (.p (.list ms))) st else kW st (o.dst.getD 0) ⟨I.elem,false,ms⟩ λst=>K (.sc (.own (o.dst.getD 0))) st) else none else none
   |none=>none) else none
  |none=>none)
 | .makeSlice t x y=>(match c.tv t with
  |some I=>bif I.BS then (match c.tv I.elem with|some E=>aa3 (o.dst.getD 0) st I E (aX c st x) (aX c st y) K|none=>none) else none
  |none=>none)
 | .load t a=>(match c.tv t with
  |some I=>bif still c o then (match aX c st a with| .rp cs off=>lr I cs off λs=>K s st|_=>none) else ldK st I (aX c st a) λs=>K s st
  |none=>none)
 | .store t a v=>(match c.tv t with|some I=>stK st I (aX c st a) (aX c st v) λst=>K (.sc .un) st|none=>none)
 | .binOp op t x y _=>ajj (c.tv t) op (aX c st x) (aX c st y) λs=>K s st
 | .unOp op _ x=>unK op (aX c st x) λs=>K s st
 | .convert y t x=>bif isLT c y then (match c.tv y,c.tv t with|some Y,some I=>abd c st Y I (aX c st x) λs=>K s st|_,_=>none)
  else (match c.ti y,c.tv t with|some _,some I=>aa8 I (c.fk t) (aX c st x) λs=>K s st|_,_=>none)
 | .range t x=>(match c.tv t with|some I=>Vw I (aX c st x) λs=>K s st|none=>none)
 | .next x true=>itK st (aX c st x) K
 | .makeFunc (.func f) first dI=>(match first.toList with
  |[]=>JO c st dI.toList λms st=>K (.sc (.p (.func (c.key f) ms))) st
  |_=>none)
 | .slice t x lo hi none=>(match c.tv t with|some I=>Vt c I st (aX c st x) (np c st lo) (np c st hi) K|none=>none)
 | .slice t x none (some h) (some m)=>(match c.tv t with|some I=>aa9 I (aX c st x) (aX c st h) (aX c st m) λs=>K s st|none=>none)
 | .fieldAddr t x f=>(match c.tv t with|some I=>aba st I f (aX c st x) λs=>K s st|none=>none)
 | .field t x f=>(match c.tv t with|some I=>ajm c I f (aX c st x) λs=>K s st|none=>none)
 | .indexAddr t x i=>(match c.tv t with
  |some I=>(match c.tv I.elem with|some E=>ajn c st I E (aX c st x) (aX c st i) λs=>K s st|none=>none)
  |none=>none)
 | .index t x i=>(match c.tv t with|some I=>ixK I (aX c st x) (aX c st i) λs=>K s st|none=>none)
 | .extract x k=>ajo (aX c st x) k λs=>K s st
 | .call cl=>(match cl.callee with
  | .value (.func f)=>(match c.sig (c.key f) with
   |some sg=>aid c (c.key f) sg.1 sg.2 st (kl c st cl.args.toList) (c.ti o.type) K
   |none=>match c.ti o.type with
   |some I=>Xv c (c.key f) st (kl c st cl.args.toList) λms st=>aa6 c (o.dst.getD 0) st (c.key f) ms I K
   |none=>none)
  | .value x=>(match c.dyn with
   |_::_=>abg c c.dyn st (aX c st x) (kl c st cl.args.toList) (c.ti o.type) K
   |[]=>match c.ti o.type with
   |some I=>Qk c st I (aX c st x) (kl c st cl.args.toList) K
   |none=>none)
  | .builtin .len=>(match cl.argTypes.toList with
   |[t]=>(match c.tv t with|some I=>abb I st (kl c st cl.args.toList) λs=>K s st|none=>none)
   |_=>none)
  | .builtin .append=>(match kl c st cl.args.toList,cl.argTypes.toList with
   |[s,x],[t,t']=>(match c.tv t with
    |some I=>bif I.BS then (match c.tv I.elem with
     |some E=>bif fj t t' then Qj I E st x λys=>YZ (bU c.bs (o.dst.getD 0)) (o.dst.getD 0) st I E s ys K else Vr c t' E x λys=>YZ (bU c.bs (o.dst.getD 0)) (o.dst.getD 0) st I E s ys K
     |none=>none) else none
    |none=>none)
   |_,_=>none)
  | .builtin .real=>(match kl c st cl.args.toList with|[.sc (.p m)]=>gCx m λx _=>K (.sc (.p (.raw (.float .f64 x)))) st|_=>none)
  | .builtin .imag=>(match kl c st cl.args.toList with|[.sc (.p m)]=>gCx m λ_ y=>K (.sc (.p (.raw (.float .f64 y)))) st|_=>none)
  | .builtin .complex=>(match kl c st cl.args.toList with|[.sc (.p (.raw (.float .f64 x))),.sc (.p (.raw (.float .f64 y)))]=>K (.sc (.p (.raw (.complex .f64 x y)))) st|_=>none)
  | .builtin .min=>(match Vs false (kl c st cl.args.toList) with|some m=>K (.sc (.p m)) st|none=>none)
  | .builtin .max=>(match Vs true (kl c st cl.args.toList) with|some m=>K (.sc (.p m)) st|none=>none)
  |_=>none)
 |_=>none
def Vx (all:List Oper)(o:Oper)(st:St)(K:Bool->St->Option R):Option R:=match o.guard with
 |none=>K true st
 |some (j,want)=>match all[j]? with
  |some p=>(match p.dst with
   |some t=>(match aH st.fr t with
    | .sc (.p (.b v))=>(match v with
     |true=>(match st with|⟨p,q,r,m⟩=>M7 r t (.sc (.p (.b true))) λr=>K want ⟨p,q,r,m⟩)
     |false=>(match st with|⟨p,q,r,m⟩=>M7 r t (.sc (.p (.b false))) λr=>K (!want) ⟨p,q,r,m⟩))
    | .skip=>K false st
    |_=>none)
   |none=>none)
  |none=>none
def Xx (c:Ctx)(all:List Oper)(o:Oper)(st:St)(K:St->Option R):Option R:=Vx all o st λgo st=>
  bif go then opK c o st λs st=>bM c st o.dst s K
  else bM c st o.dst .skip K
def DH (c:Ctx)(all:List Oper):List Oper->St->(St->Option R)->Option R
 |[],st,K=>K st
 |o::r,st,K=>Xx c all o st λst=>DH c all r st K
end
section
variable {R:Type}
def nM (st:St):List (Nat×Nat)->List (Nat×OK)->(List MV->Option R)->Option R
 |_,[],K=>K []
 |ps,(t,k)::r,K=>match k,aH st.fr t with
  | .sc k,.sc l=>mb st ps [k] [l] λms ps=>nM st ps r λns=>(match app ms ns with|some l=>K l|none=>none)
  | .ag ks,.ag ls=>mb st ps ks ls λms ps=>nM st ps r λns=>(match app ms ns with|some l=>K l|none=>none)
  | .box ks,.box ls=>mb st ps ks ls λms ps=>nM st ps r λns=>(match app ms ns with|some l=>K l|none=>none)
  | .mp s,.box [.mp s' es]=>bif msB s s' then nM st ps r λns=>K (.list es::ns) else none
  | .pt root off,.ptr abh abi=>bif fj root abh&&(fj off abi&&(!AE root&&GU (aH st.fr root))) then nM st ps r K else none
  |_,_=>none
def Sr (st:St)(t:Nat)(s:Slot)(K:St->Option R):Option R:=match st with|⟨p,q,r,m⟩=>M7 r t s λr=>K ⟨p,q,r,m⟩
def abj:List (Nat×OK)->List MV->St->(St->Option R)->Option R
 |[],ms,st,K=>gN ms (K st)
 |(t,k)::r,ms,st,K=>match k,st with
  | .pt root off,⟨p,q,fr,m⟩=>bif !AE root&&(GU (aH fr root)&&!dD (aH fr t)) then M7 fr t (.ptr root off) λfr=>abj r ms ⟨p,q,fr,m⟩ K else none
  |_,_=>none
def od (st:St):List (Nat×OK)->List MV->(St->Option R)->Option R
 |[],ms,K=>gN ms (K st)
 |(t,k)::r,ms,K=>match k with
  | .sc k=>dK st [k] ms λls ms st=>(match ls with|[l]=>Sr st t (.sc l) λst=>od st r ms K|_=>none)
  | .ag ks=>dK st ks ms λls ms st=>Sr st t (.ag ls) λst=>od st r ms K
  | .box ks=>bif AE t&&!bU st.dg (posOf t) then none else dK st ks ms λls ms st=>Sr st t (.box ls) λst=>od st r ms K
  | .mp s=>bif AE t then none else gC ms λm ms=>gL m λes=>Sr st t (.box [.mp s es]) λst=>od st r ms K
  | .pt root off=>abj ((t,.pt root off)::r) ms st K
end
def eB:List (Nat×OK)->List Nat
 |[]=>[]
 |(t,_)::r=>t::eB r
def cY:List (Nat×OK)->List Nat
 |[]=>[]
 |(_,.sc k)::r=>dc [k]++cY r
 |(_,.ag ks)::r=>dc ks++cY r
 |(_,.box ks)::r=>dc ks++cY r
 |(_,.mp _)::r=>cY r
 |(_,.pt _ _)::r=>cY r
def minus:List Nat->List Nat->List Nat
 |[],_=>[]
 |k::r,l=>bif bU l k then minus r l else k::minus r l
def yW {R:Type}(ps:List Nat):List aT->(List aT->Option R)->Option R
 |[],K=>K []
 |l::r,K=>(match l with
  | .own g=>bif bU ps g then yW ps r λr=>K (.own g::r) else yW ps r λr=>K (.un::r)
  |l=>yW ps r λr=>K (l::r))
def Ss {R:Type}(ps:List Nat)(s:Slot)(K:Slot->Option R):Option R:=match s with
 | .sc (.own g)=>bif bU ps g then K (.sc (.own g)) else K (.sc .un)
 | .ag cs=>yW ps cs λcs=>K (.ag cs)
 | .box cs=>yW ps cs λcs=>K (.box cs)
 |s=>K s
def nFr {R:Type}(ps:List Nat):Fr->(Fr->Option R)->Option R
 |[],K=>K []
 |(k,s)::r,K=>Ss ps s λs=>nFr ps r λr=>K ((k,s)::r)
def On {R:Type}(ks fs qs:List Nat):List (Nat×pY)->(List (Nat×pY)->Option R)->Option R
 |[],K=>K []
 |(k,o)::r,K=>bif bU ks k then On ks fs qs r λr=>(bif bU fs k&&!bU qs k then K ((k,⟨o.ty,true,o.xs⟩)::r) else K ((k,o)::r)) else On ks fs qs r K
def fL (c:Ctx):List (Nat×OK)->Bool
 |[]=>true
 |(_,.sc k)::r=>bif j6 c [k] then fL c r else false
 |(_,.ag ks)::r=>bif j6 c ks then fL c r else false
 |(_,.box ks)::r=>bif j6 c ks then fL c r else false
 |(_,.mp _)::r=>fL c r
 |(_,.pt _ _)::r=>fL c r
def Vy {R:Type}(c:Ctx)(h:p0)(st:St)(K:St->St->Option R):Option R:=match st with
 |⟨p,q,r,m⟩=>
  bif !fL c h.all||meets (eB h.all) p||meets (cY h.all) q||meets (eB h.all) h.dg||meets (cY h.all) h.dt then none else
  match app h.dg p,app h.dt q with
  |some p',some q'=>
   pick h.dg r λrp=>nFr h.dt rp λrp=>pick (eB h.all) r λro=>
   On h.dt h.fB q m λmp=>On (cY h.all) h.fB q m λmo=>
   (match app rp ro,app mp mo with
    |some r1,some m1=>K ⟨p',q',r1,m1⟩ ⟨p',q',rp,mp⟩
    |_,_=>none)
  |_,_=>none
def GZ {R:Type}(c:Ctx)(h:p0)(st:St)(K:St->St->Option R):Option R:=Vy c h st λdC eM=>JL (λt=>bU h.dg t||bU (eB h.all) t) st.fr st.fr dC.fr λfr=>K ⟨dC.dg,dC.dt,fr,dC.bA⟩ eM
def yX (st eM:St):St:=match st,eM with|⟨p,q,_,_⟩,⟨_,_,r,m⟩=>⟨p,q,r,m⟩
def guarded:List Oper->Bool
 |[]=>false
 |o::r=>match o.guard with|some _=>true|none=>guarded r
def wb:List Oper->List Nat
 |[]=>[]
 |o::r=>match o.op,o.dst with
  | .alloc _,some d=>d::wb r
  | .box _ _,some d=>d::wb r
  | .makeMap _ _,some d=>d::wb r
  | .range _ _,some d=>d::wb r
  |_,_=>wb r
def JR {R:Type}(ds:List Nat)(st:St)(K:St->Option R):Option R:=match st with|⟨p,q,r,m⟩=>xL ds r λr1=>JL (λt=>!bU ds t) r r r1 λr=>K ⟨p,q,r,m⟩
def gZ:Code->Option Nat
 | .region id _ _=>some id
 | .seq a b=>match gZ a with|some n=>some n|none=>gZ b
 | .cond _ a b=>match gZ a with|some n=>some n|none=>gZ b
 | .block _ b| .loop b| .scope b=>gZ b
 |_=>none
def uni:List Nat->List Nat->List Nat
 |[],l=>l
 |k::r,l=>bif bU l k then uni r l else k::uni r l
def lR:Code->List Nat
 | .skip| .region _ _ _=>[0]
 | .seq a b=>bif bU (lR a) 0 then uni (minus (lR a) [0]) (lR b) else lR a
 | .cond _ a b=>uni (lR a) (lR b)
 | .block id b=>bif bU (lR b) (id+2) then uni (minus (lR b) [0,id+2]) [0] else lR b
 | .loop b=>minus (lR b) [0]
 | .exit id=>[id+2]
 | .ret=>[1]
 |_=>[]
def rm (o:Oper):Bool:=match o.op with
 | .load _ _=>true
 | .lookup _ _ _ false=>true
 |_=>false
def mI (c:Ctx)(o:Oper):Bool:=rm o||(match o.op with
 | .convert y _ _=>isLT c y
 |_=>false)
def abk (o:Oper):Option Nat:=match o.op with
 | .lookup t _ _ false=>some t
 |_=>none
def afV (o:Oper):Option Nat:=match o.op with
 | .mapEntry t _ _=>some t
 |_=>none
def C4 (o p:Oper):Bool:=match abk o,afV p with
 |some t,some t'=>fj t t'
 |_,_=>false
def rn (o:Oper):Bool:=match o.op with
 | .move _| .assign _| .nilCheck _| .pick _ _ _| .build _ _| .load _ _| .binOp _ _ _ _ _| .unOp _ _ _| .convert _ _ _| .makeFunc _ _ _| .slice _ _ _ _ _| .fieldAddr _ _ _| .field _ _ _| .indexAddr _ _ _| .index _ _ _| .extract _ _| .lookup _ _ _ false=>true
 | .call cl=>(match cl.callee with| .builtin .len| .builtin .min| .builtin .max| .builtin .real| .builtin .imag| .builtin .complex=>true|_=>false)
 |_=>false
def CI (c:Ctx)(o:Oper):Bool:=match o.op with
 | .alloc _| .box _ _| .buildSlice _ _ _| .makeSlice _ _ _=>true
 | .call cl=>(match cl.callee with| .value (.func f)=>!c.iL (c.key f)| .value _=>(match c.dyn with|[]=>true|_::_=>false)|_=>false)
 |_=>false
def Vz:Op->List Operand
 | .build _ ps=>ps.toList.map (·.2)
 | .buildSlice _ _ ps=>ps.toList.map (·.2)
 | .makeFunc _ first captured=>first.toList++captured.toList
 | .slice _ x l h m=>x::(l.toList++(h.toList++m.toList))
 | .call c=>(match c.callee with| .value f=>[f]| .invoke r _=>[r]| .builtin _=>[])++c.args.toList
 |op=>op.operands.toList
def Su:List Operand->List Nat
 |[]=>[]
 | .tmp t::r=>t::Su r
 |_::r=>Su r
def Qm (ops:List Oper)(o:Oper):List Nat:=Su (Vz o.op)++(match o.guard with|some (g,_)=>(match ops[g]? with|some p=>p.dst.toList|none=>[])|none=>[])
def Qn (ops:List Oper)(x y:Oper):Bool:=(match x.dst with|some d=>!bU (Qm ops y) d&&(match y.dst with|some d'=>!fj d' d|none=>true)|none=>true)&& (match y.dst with|some d=>!bU (Qm ops x) d|none=>true)
def DI (e:Edge):Bool:=match e.ground with
 | .textOnly _=>false
 | .gcOnly _=>false
 |_=>true
def DJ (o:Oper)(p:Nat->Bool):Bool:=o.after.toList.any λe=>DI e&&p e.on
def anl (ops:List Oper):Bool:=ops.all λo=>match o.op with| .select _ _=>false|_=>true
def abl (c:Ctx)(o:Oper):Bool:=rn o||CI c o
def uJ (c:Ctx)(ops:List Oper)(o:Oper):List Nat->List Nat->Bool
 |_,[]=>true
 |D,y::r=>match ops[y]? with
  |some p=>bif DJ p (bU D) then uJ c ops o (y::D) r else Qn ops o p&&(!mI c o||abl c p||still c o||C4 o p)&&uJ c ops o D r
  |none=>false
def Sv (o:Oper):Bool:=match o.op,o.dst,o.guard with
 | .alloc _,some _,none=>o.after.toList.all λe=>!DI e
 |_,_,_=>false
def anm (c:Ctx)(o:Oper):Bool:=match o.op with
 | .alloc t=>(match c.tv t with|some _=>true|none=>false)
 |_=>false
def ann (ops:List Oper)(i:Nat):Bool:=match ops[i]? with
 |some o=>Sv o
 |none=>false
def xN (c:Ctx)(ops:List Oper):List Nat->List Nat->Bool
 |_,[]=>true
 |pre,x::rest=>(match ops[x]? with
  |some o=>(o.after.toList.all λe=>!DI e||bU pre e.on)&&!bU pre x&&!bU rest x&& (bif rn o&&!nq c o then uJ c ops o [x] rest
    else (rest.all λy=>match ops[y]? with
     |some p=>bif Sv p then Qn ops p o&&anm c p else DJ p (λi=>fj i x||(bU rest i&&!ann ops i))
     |none=>false))&&xN c ops (x::pre) rest
  |none=>false)
def DK (c:Ctx)(ops:Array Oper)(ord:List Nat):Bool:=anl ops.toList&&fj ord.length ops.toList.length&&(List.range ops.toList.length).all (bU ord)&&xN c ops.toList [] ord
def Jt {R:Type}(c:Ctx)(id:Nat)(ops l:List Oper)(st:St)(K:St->Option R):Option R:=bif guarded ops then
  GZ c (c.CH id) st λdC eM=>bd (JR (wb ops) dC λdC=>DH c ops l dC λst=>nM st [] ((c.CH id).ex 0) some) λvs=>od (yX st eM) ((c.CH id).ex 0) vs K
 else JR (wb ops) st λst=>DH c ops l st K
def rU (ops:List Oper):List Nat->Option (List Oper)
 |[]=>some []
 |i::r=>match ops[i]?,rU ops r with
  |some o,some l=>some (o::l)
  |_,_=>none
def ano {S:Type}(step:S->MV->Option (Bool×S)):S->List MV->Option (List MV×S)
 |s,[]=>some ([],s)
 |s,x::xs=>match step s x with
  |some (b,s1)=>(match ano step s1 xs with|some (ys,s2)=>some (bif b then ys else x::ys,s2)|none=>none)
  |none=>none
def abm {R:Type}(c:Ctx)(id:Nat)(ops:List Oper)(st:St)(K:St->Option R):Option R:=Jt c id ops ops st K
def fzK {R:Type}(c:Ctx)(ts:List Nat)(st:St)(K:St->Option R):Option R:=match ts with
 |[]=>K st
 |ts=>JO c st (ts.map .tmp) λ_ st=>K st
def Nb (ops:Array Oper)(A B:Nat):Array Oper:=ops.modify B λo=>{o with after:=o.after.push ⟨A,.data⟩}
open Classical in
def both {R:Type}(x y:Option R):Option R:=if x=y then x else none
def abn (n:Nat)(l:List Nat):Option (List Nat×List Nat×Nat×Nat):=match l.drop (l.length-2) with
 |[A,B]=>bif fj A B||(aaQ n A||aaQ n B) then none else some (l.take n,(l.drop n).take (l.length-2-n),A,B)
 |_=>none
def Xy {R:Type}(c:Ctx)(ops:Array Oper)(l:List Nat)(st:St)(K:St->Option R):Option R:=bif DK c ops l then (match rU ops.toList l with
 |some l=>DH c ops.toList l st K
 |none=>none) else none
def Sw {R:Type}(c:Ctx)(st:St)(K:St->Option R):Nat->Array Oper->List Nat->Option R
 |0,_,_=>none
 |k+1,ops,l=>bif fj l.length ops.toList.length then Xy c ops l st K else (match abn ops.toList.length l with
  |some (o1,o2,A,B)=>both (Xy c (Nb ops A B) o1 st K) (Sw c st K k (Nb ops B A) o2)
  |none=>none)
def anp {R:Type}(c:Ctx)(ops:Array Oper)(ord:List Nat)(st:St)(K:St->Option R):Option R:=bif guarded ops.toList then none else JR (wb ops.toList) st λst=>Sw c st K ord.length ops ord
def Xz {R:Type}(c:Ctx)(id:Nat)(ops:Array Oper)(draw:Bool)(st:St)(K:St->Option R):Option R:=fzK c (c.fz id) st λst=>bif draw then (bif !fj (c.ord id).length ops.toList.length then anp c ops (c.ord id) st K else bif DK c ops (c.ord id) then (match rU ops.toList (c.ord id) with|some l=>Jt c id ops.toList l st K|none=>none) else none)
 else abm c id ops.toList st K
def lu (c:Ctx):Code->(R:Type)->St->(Nat->St->Option R)->Option R
 | .skip,_,st,K=>K 0 st
 | .region id ops d,_,st,K=>Xz c id ops d st λst=>K 0 st
 | .seq a b,R,st,K=>lu c a R st λe st=>bif fj e 0 then lu c b R st K else K e st
 | .cond x a b,R,st,K=>(match aX c st x with
  | .sc (.p (.b v))=>
   bif bU (lR a) 0&&bU (lR b) 0 then
    GZ c (c.BQ ((gZ (.seq a b)).getD 0)) st λdC eM=>
    bd (aR v (lu c a (Nat×List MV) dC λe st=>nM st [] ((c.BQ ((gZ (.seq a b)).getD 0)).ex e) λvs=>some (e,vs)) (lu c b (Nat×List MV) dC λe st=>nM st [] ((c.BQ ((gZ (.seq a b)).getD 0)).ex e) λvs=>some (e,vs))) λr=>YW (uni (lR a) (lR b)) r.1 λe=>od (yX st eM) ((c.BQ ((gZ (.seq a b)).getD 0)).ex e) r.2 λst=>K e st
   else aR v (lu c a R st K) (lu c b R st K)
  |_=>none)
 | .block id b,R,st,K=>lu c b R st λe st=>bif fj e (id+2) then K 0 st else K e st
 | .loop b,_,st,K=>
  GZ c (c.xI ((gZ b).getD 0)) st λdC eM=>nM dC [] (c.xI ((gZ b).getD 0)).outs λvs=>
   bd (Loop (λms=>od eM (c.xI ((gZ b).getD 0)).outs ms λst=>lu c b (Sum (List MV) (Nat×List MV)) st λe st=>
    bif fj e 0 then nM st [] (c.xI ((gZ b).getD 0)).outs λvs=>some (.inl vs) else nM st [] ((c.xI ((gZ b).getD 0)).ex e) λvs=>some (.inr (e,vs))) vs)
    λr=>YW (minus (lR b) [0]) r.1 λe=>od (yX st eM) ((c.xI ((gZ b).getD 0)).ex e) r.2 λst=>K e st
 | .exit id,_,st,K=>K (id+2) st
 | .ret,_,st,K=>K 1 st
 |_,_,_,_=>none
def JS {R:Type}(c:Ctx):List Nat->Nat->List MV->(Fr->List MV->Option R)->Option R
 |[],_,ms,K=>K [] ms
 |t::ts,n,ms,K=>match c.tv t with
  |some I=>gC ms λm r=>HS I m λs=>JS c ts (n+1) r λfr ms=>K ((n,s)::fr) ms
  |none=>none
def VA {R:Type}:List (List Kd)->Nat->List MV->(Fr->Option R)->Option R
 |[],_,ms,K=>gN ms (K [])
 |ks::r,n,ms,K=>gC ms λm ms=>gP m λcs=>wa ks cs λcs=>VA r (n+1) ms λfr=>K ((n,.AH cs)::fr)
def G0 {R:Type}(c:Ctx)(st:St)(fresh:Option Nat):List ResultVar->(List MV->Option R)->Option R
 |[],K=>K []
 |r::rs,K=>
  let go (s:Slot):Option R:=match fresh with
   |some ty=>(match s with
    | .sc (.own f)=>(match bj st.bA f with|some o=>bif o.fB||!fj o.ty ty then none else G0 c st fresh rs λms=>K (.fresh o.xs::ms)|none=>none)
    | .sc .nil=>G0 c st fresh rs λms=>K (.fresh []::ms)
    |_=>none)
   |none=>nS st s λm st=>G0 c st fresh rs λms=>K (m::ms)
  match r with
  | .tmp t=>go (aH st.fr t)
  | .cell a t=>match c.tv t,aH st.fr a with
   |some I,.box cs=>bif gY cs||AE a then none else lr I cs 0 λs=>go s
   |_,_=>none
def Y2 {R:Type}(c:Ctx)(st:St):List ResultVar->(List MV->St->Option R)->Option R
 |[],K=>K [] st
 |r::rs,K=>(match r with
  | .tmp t=>nS st (aH st.fr t) λm st=>Y2 c st rs λms st=>K (m::ms) st
  | .cell a t=>(match c.tv t,aH st.fr a with
   |some I,.box cs=>bif gY cs||AE a then none else lr I cs 0 λs=>nS st s λm st=>Y2 c st rs λms st=>K (m::ms) st
   |_,_=>none))
def anq:List MV->MV
 |[m]=>m
 |ms=> .cM ms
def EH (c:Ctx)(dI:List (List Kd))(pos:Nat)(ks:List LK)(f:Func)(args:List MV):Option MV:=match f.body,args[pos]? with
 |some b,some (.cell (.func off ls))=>bif !j6 c ks||!aaQ pos 999 then none else
  JS c f.params.toList 0 (args.set pos (.rp [])) λfr ms=>VA dI f.params.size ms λrq=>
   (match app fr rq with
   |some fr=>dK ⟨[],[],[],[]⟩ ks ls λcs rest JQ=>gN rest<| lu c b MV ⟨[pos],[],(1000000+off *1000+pos,.box cs)::fr,JQ.bA⟩ λe st=>
     bif aaQ e 1 then Y2 c st f.results.toList λms st=>(match aH st.fr (1000000+off *1000+pos) with
      | .box cs=>bif gY cs then none else mb st [] ks cs λouts _=>some (.gm (anq ms) outs)
      |_=>none) else none
   |none=>none)
 |_,_=>none
def XA (X:Code->St->(Nat->St->Option MV)->Option MV)(c:Ctx)(dI:List (List Kd))(fresh:Option Nat)(f:Func)(args:List MV):Option MV:=match f.body with
 |some b=>JS c f.params.toList 0 args λfr ms=>VA dI f.params.size ms λrq=>
  match app fr rq with
  |some fr=>X b ⟨[],[],fr,[]⟩ λe st=>bif aaQ e 1 then G0 c st fresh f.results.toList λms=>(match ms with|[m]=>some m|ms=>some (.cM ms)) else none
  |none=>none
 |none=>none
def Oo (c:Ctx)(dI:List (List Kd))(fresh:Option Nat)(f:Func)(args:List MV):Option MV:=XA (λb st K=>lu c b MV st K) c dI fresh f args
end
end Dn
/-
  What abstract values and slots say of Go's memory. Conditions: none.
-/
namespace Dn
open Go
theorem kb (w:World)(o:Obj):(w.alloc o).heap[w.heap.size]? =some o:=by show (w.heap.push o)[w.heap.size]? =some o;simp
theorem rV (w:World)(o:Obj)(i:Nat)(h:i<w.heap.size):(w.alloc o).heap[i]? =w.heap[i]? :=by show (w.heap.push o)[i]? =w.heap[i]?;rw [Array.getElem?_push,if_neg (Nat.ne_of_lt h)]
def MV.one:MV->Bool
 | .h _| .agg _| .cM _| .fresh _| .cell _| .gm _ _=>false
 |_=>true
abbrev Ph:=Nat->Nat->Option Value
section
variable (key:Nat->Nat) (φ:Ph)
mutual
inductive nr:List Value->MV->Prop
 |b (x:Bool):nr [.bool x] (.b x)
 |i (k:IntKind) (n:Int):nr [.int k n] (.i k n)
 |s (bs:ByteArray):nr [.string bs] (.s bs.data.toList)
 |h (x:lp):nr (x.l.map λb=> .int .u8 (b.toNat:Int)) (.h x)
 |raw (v:Value):v.oneCell'=true->nr [v] (.raw v)
 |list (a:Option Addr) (cap:Nat) (xs:List MV) (bO off Oq:Nat) (f:Nat->List Value): xs.length<=cap->(0<xs.length->a=some ⟨bO,off,none⟩)->(∀i,i<xs.length->(f i).length=Oq)-> (∀i j,i<xs.length->j<Oq->φ bO (off+i *Oq+j)=(f i)[j]?)-> (∀(i:Nat) (h:i<xs.length),nr (f i) xs[i])->nr [.slice a xs.length cap] (.list xs)
 |agg (vs:List Value) (ms:List MV):jt vs ms->nr vs (.agg ms)
 |func (f k:Nat) (cap:Array Value) (ms:List MV):key f=k->jt cap.toList ms->(∀m∈ms,m.one=true)->nr [.func (.func f) #[] cap] (.func k ms)
 |rp (bO off:Nat) (vs:List Value) (ms:List MV):jt vs ms->(∀j,j<vs.length->φ bO (off+j)=vs[j]?)->nr [.pointer (some ⟨bO,off,none⟩)] (.rp ms)
 |clip (a:Option Addr) (xs:List MV):nr [.slice a xs.length xs.length] (.list xs)->nr [.slice a xs.length xs.length] (.clip xs)
inductive jt:List Value->List MV->Prop
 |nil:jt [] []
 |cons (v:List Value) (m:MV) (vs:List Value) (ms:List MV):nr v m->jt vs ms->jt (v++vs) (m::ms)
end
end
def tI (φ φ':Ph):Prop:= ∀b o v,φ b o=some v->φ' b o=some v
theorem tI.refl (φ:Ph):tI φ φ:=λ_ _ _ h=>h
theorem tI.EI {φ φ':Ph}(h:tI φ φ'){b j:Nat}{cs:List Value}(e:φ b j=cs[j]?)(hj:j<cs.length):φ' b j=cs[j]? :=by rw [IT hj] at e⊢;exact h _ _ _ e
theorem tI.trans {φ φ' φ'':Ph}(h:tI φ φ') (h':tI φ' φ''):tI φ φ'':=λb o v e=>h' b o v (h b o v e)
section
variable {key:Nat->Nat} {φ φ':Ph}(hle:tI φ φ')
include hle
theorem Qo {b o:Nat}{vs:List Value}{j:Nat}(hj:j<vs.length)(h:φ b o=vs[j]?):φ' b o=vs[j]? :=by rw [IT hj] at h⊢;exact hle _ _ _ h
mutual
theorem nr.mono {vs:List Value}{m:MV}:nr key φ vs m->nr key φ' vs m
 | .b x=> .b x
 | .i k n=> .i k n
 | .s bs=> .s bs
 | .h x=> .h x
 | .raw v h=> .raw v h
 | .list a cap xs bO off Oq f h1 h2 h3 h4 h5=> .list a cap xs bO off Oq f h1 h2 h3 (λi j hi hj=>Qo hle (by rw [h3 i hi];exact hj) (h4 i j hi hj)) (λi hi=>(h5 i hi).mono)
 | .agg vs ms h=> .agg vs ms h.mono
 | .func f k cap ms h1 h2 h3=> .func f k cap ms h1 h2.mono h3
 | .rp bO off vs ms h1 h2=> .rp bO off vs ms h1.mono (λj hj=>Qo hle hj (h2 j hj))
 | .clip a xs h=> .clip a xs h.mono
theorem jt.mono {vs:List Value}{ms:List MV}:jt key φ vs ms->jt key φ' vs ms
 | .nil=> .nil
 | .cons v m vs ms h1 h2=> .cons v m vs ms h1.mono h2.mono
end
end
section
variable {key:Nat->Nat} {φ:Ph}
mutual
theorem nr.cells {vs:List Value}{m:MV}:nr key φ vs m-> ∀v∈vs,v.oneCell'=true
 | .b x=>by simp [aav]
 | .i k n=>by simp [aav]
 | .s bs=>by simp [aav]
 | .h x=>by intro v hv;obtain ⟨b,_,rfl⟩:=afK.1 hv;rfl
 | .raw v h=>by simpa using h
 | .list .. =>by simp [aav]
 | .agg vs ms h=>h.cells
 | .func .. =>by simp [aav]
 | .rp .. =>by simp [aav]
 | .clip .. =>by simp [aav]
theorem jt.cells {vs:List Value}{ms:List MV}:jt key φ vs ms-> ∀v∈vs,v.oneCell'=true
 | .nil=>by simp
 | .cons v m vs ms h1 h2=>by
  intro x hx;rcases afO.1 hx with hx|hx
  ·exact h1.cells x hx
  ·exact h2.cells x hx
end
end
section
variable {key:Nat->Nat} {φ:Ph}
mutual
theorem nr.width {vs:List Value}{m:MV}:nr key φ vs m->vs.length=m.w
 | .b x=>by simp [MV.w]
 | .i k n=>by simp [MV.w]
 | .s bs=>by simp [MV.w]
 | .h x=>by simp [MV.w,x.h]
 | .raw v h=>by simp [MV.w]
 | .list .. =>by simp [MV.w]
 | .agg vs ms h=>by rw [h.width];simp [MV.w]
 | .func .. =>by simp [MV.w]
 | .rp .. =>by simp [MV.w]
 | .clip .. =>by simp [MV.w]
theorem jt.width {vs:List Value}{ms:List MV}:jt key φ vs ms->vs.length=MV.wl ms
 | .nil=>by simp [MV.wl]
 | .cons v m vs ms h1 h2=>by simp [MV.wl,h1.width,h2.width]
end
end
theorem nr.one {key:Nat->Nat} {φ:Ph}{vs:List Value}{m:MV}(h:nr key φ vs m)(hm:m.one=true): ∃v,vs=[v]/\v.oneCell'=true:=by have hc:=h.cells;cases h<;>simp [MV.one] at hm<;>exact ⟨_,rfl,hc _ (by simp)⟩
def jQ (key:Nat->Nat) (φ:Ph)(v:Value):MV->Prop
 | .h x=>v= .agg (x.l.map λb=>agY .u8 (b.toNat:Int)).toArray
 | .agg ms=> ∃arr,v= .agg arr/\jt key φ arr.toList ms
 |m=>m.one=true/\nr key φ [v] m
theorem jQ.mono {key:Nat->Nat} {φ φ':Ph}(hle:tI φ φ'){v:Value}{m:MV}(h:jQ key φ v m):jQ key φ' v m:=by cases m<;>simp only [jQ] at h⊢ <;>first|exact h|exact ⟨h.1,h.2.mono hle⟩|(obtain ⟨arr,h1,h2⟩:=h;exact ⟨arr,h1,h2.mono hle⟩)
structure Env where
 key:Nat->Nat
 φ:Ph
 E:Nat->Value
 B:Nat->Nat
 m:List (Nat×pY)
def bV (x:lp):List Value:=x.l.map λb=>agY .u8 (b.toNat:Int)
theorem dL (x:lp):(bV x).length=32:=by simp [bV,x.h]
def bo (e:Env)(vs:List Value):aT->Prop
 | .un=> ∃v,vs=[v]/\v.oneCell'=true
 | .p x=>x.one=true/\nr e.key e.φ vs x
 | .hs x=>vs=bV x
 | .nil=>vs=[.slice none 0 0]
 | .mp _ _=>False
 | .own f=> ∃v,vs=[v]/\v.oneCell'=true/\(∀o,bj e.m f=some o->v=e.E f)
def aM (e:Env):List Value->List aT->Prop
 |vs,[]=>vs=[]
 |vs,l::ls=> ∃v r,vs=v++r/\bo e v l/\aM e r ls
def wc:aT->Bool
 | .p _| .hs _=>true
 |_=>false
def kc:List aT->Bool
 |[]=>true
 |l::r=>wc l&&kc r
def JT (st:Bool)(x:MV)(cs:List aT):Prop:=(∃ms,cj cs=some ms/\xg st ms=some x)/\ ∀m,aT.p m∈cs->m.one=true
def C5:Slot->Bool
 | .sc l=>wc l
 | .ag cs=>kc cs
 |_=>false
mutual
def ao (e:Env)(v:Value):Slot->Prop
 | .skip=>v=undef
 | .sc l=>match l with
  | .un=>True
  | .hs x=>v= .agg (bV x).toArray
  |l=>bo e [v] l
 | .ag cs=> ∃arr,v= .agg arr/\aM e arr.toList cs
 | .cM vs=> ∃arr,v= .tuple arr/\lv e arr.toList vs
 | .box _=>False
 | .AH cs=> ∃bO o vs,v= .pointer (some ⟨bO,o,none⟩)/\aM e vs cs/\kc cs=true/\(∀j,j<vs.length->e.φ bO (o+j)=vs[j]?)
 | .ptr r o=>v= .pointer (some ⟨e.B r,o,none⟩)
 | .AJ r=>v= .map (some (e.B r))
 | .rp cs off=> ∃bO o vs,v= .pointer (some ⟨bO,o+off,none⟩)/\aM e vs cs/\kc cs=true/\(∀j,j<vs.length->e.φ bO (o+j)=vs[j]?)
 | .hp r o i=>v= .pointer (some ⟨e.B r,o+i,none⟩)/\i<32
 | .ep f i off st cs=> ∀o,bj e.m f=some o-> ∃bO cap,e.E f= .slice (some ⟨bO,0,none⟩) o.xs.length cap/\(∃x,o.xs[i]? =some x/\JT st x cs)/\ v= .pointer (some ⟨bO,i *AK cs+off,none⟩)
def lv (e:Env):List Value->List Slot->Prop
 |vs,[]=>vs=[]
 |vs,s::ss=> ∃v r,vs=v::r/\ao e v s/\C5 s=true/\lv e r ss
end
def abo:aT->List Value->Bool
 | .p (.b x),[.bool y]=>x==y
 | .p (.i k n),[.int k' n']=>decide (k=k')&&decide (n=n')
 | .p (.s l),[.string s]=>decide (l=s.data.toList)
 | .p (.raw v),[w]=>match v,w with
  | .nilFunc,.nilFunc=>true
  | .nilIface,.nilIface=>true
  | .pointer none,.pointer none=>true
  |_,_=>false
 | .nil,[.slice none 0 0]=>true
 | .un,[v]=>v.oneCell'
 | .hs x,vs=>(vs.length==32)&&(vs.zip x.l).all λp=>match p.1 with| .int .u8 n=>decide (n=(p.2.toNat:Int))|_=>false
 |_,_=>false
def we:List aT->List Value->Bool
 |[],vs=>vs.isEmpty
 |l::ls,vs=>abo l (vs.take l.w)&&we ls (vs.drop l.w)&&decide (l.w<=vs.length)
end Dn
/-
  How an abstract state stands to a frame and a memory; laws of frames and leaves. Conditions: none.
-/
namespace Dn
open Go
def dz:Fr->Nat->Slot->Fr
 |[],t,v=>[(t,v)]
 |(k,s)::r,t,v=>bif fj k t then (k,v)::r else (k,s)::dz r t v
def pj (ds:List Nat):Fr->Fr
 |[]=>[]
 |(k,s)::r=>bif eo s||bU ds k then pj ds r else (k,s)::pj ds r
def qa (ks:List Nat):Fr->Fr
 |[]=>[]
 |(k,s)::r=>bif bU ks k&&!eo s then (k,s)::qa ks r else qa ks r
def cN:List (Nat×pY)->Nat->pY->List (Nat×pY)
 |[],t,v=>[(t,v)]
 |(k,s)::r,t,v=>bif fj k t then (k,v)::r else (k,s)::cN r t v
def R8 (f:Nat):aT->aT
 | .own g=>bif fj g f then .un else .own g
 |l=>l
def C6 (f:Nat):Slot->Slot
 | .sc l=> .sc (R8 f l)
 | .ag cs=> .ag (cs.map (R8 f))
 | .box cs=> .box (cs.map (R8 f))
 | .ep g i o b cs=>bif fj g f then .sc .un else .ep g i o b cs
 |s=>s
def my (f:Nat)(r:Fr):Fr:=r.map λp=>(p.1,C6 f p.2)
def AM (f:Nat)(r:Fr):Fr:=r.map λp=>(p.1,match p.2 with
 | .ep g i o b cs=>bif fj g f then .sc .un else .ep g i o b cs
 |s=>s)
def VB (ps:List Nat):aT->aT
 | .own g=>bif bU ps g then .own g else .un
 |l=>l
def M4 (ps:List Nat):Slot->Slot
 | .sc l=> .sc (VB ps l)
 | .ag cs=> .ag (cs.map (VB ps))
 | .box cs=> .box (cs.map (VB ps))
 |s=>s
def VC (ps:List Nat)(r:Fr):Fr:=r.map λp=>(p.1,M4 ps p.2)
def uK (ks fs qs:List Nat):List (Nat×pY)->List (Nat×pY)
 |[]=>[]
 |(k,o)::r=>bif bU ks k then (bif bU fs k&&!bU qs k then (k,⟨o.ty,true,o.xs⟩) else (k,o))::uK ks fs qs r else uK ks fs qs r
section
variable {R:Type}
theorem force_eq (s:Slot)(K:Slot->Option R):force s K=K s:=by cases s<;>rfl
theorem oO (r:Fr)(t:Nat)(s:Slot)(K:Fr->Option R):M7 r t s K=K (dz r t s):=by
 induction r generalizing K with
 |nil=>rfl
 |cons p r ih=>obtain ⟨k,x⟩:=p;simp only [M7,dz];cases fj k t<;>simp [ih]
theorem HU (ds:List Nat)(r:Fr)(K:Fr->Option R):xL ds r K=K (pj ds r):=by
 induction r generalizing K with
 |nil=>rfl
 |cons p r ih=>obtain ⟨k,x⟩:=p;simp only [xL,pj];cases eo x||bU ds k<;>simp [ih]
theorem afW (ks:List Nat)(r:Fr)(K:Fr->Option R):pick ks r K=K (qa ks r):=by
 induction r generalizing K with
 |nil=>rfl
 |cons p r ih=>obtain ⟨k,x⟩:=p;simp only [pick,qa];cases bU ks k&&!eo x<;>simp [ih]
theorem qc (r:List (Nat×pY))(t:Nat)(s:pY)(K:List (Nat×pY)->Option R):Vp r t s K=K (cN r t s):=by
 induction r generalizing K with
 |nil=>rfl
 |cons p r ih=>obtain ⟨k,x⟩:=p;simp only [Vp,cN];cases fj k t<;>simp [ih]
theorem JU (f:Nat)(cs:List aT)(K:List aT->Option R):yU f cs K=K (cs.map (R8 f)):=by
 induction cs generalizing K with
 |nil=>rfl
 |cons l r ih=>cases l<;>simp only [yU,OF,R8,ih];rename_i g;cases fj g f<;>rfl
theorem abp (f:Nat)(s:Slot)(K:Slot->Option R):Om f s K=K (C6 f s):=by
 cases s with
 |sc l=>cases l<;>simp only [Om,C6,R8];rename_i g;cases fj g f<;>rfl
 |ag cs=>simp only [Om,C6,JU]
 |box cs=>simp only [Om,C6,JU]
 |ep g i o b cs=>simp only [Om,C6];cases fj g f<;>rfl
 |_=>rfl
theorem abq (f:Nat)(r:Fr)(K:Fr->Option R):kFr f r K=K (my f r):=by
 induction r generalizing K with
 |nil=>rfl
 |cons p r ih=>obtain ⟨k,x⟩:=p;simp only [kFr,abp,ih,my,OF]
theorem ajp (f:Nat)(r:Fr)(K:Fr->Option R):kEp f r K=K (AM f r):=by
 induction r generalizing K with
 |nil=>rfl
 |cons p r ih=>obtain ⟨k,x⟩:=p;cases x<;>simp only [kEp,ih,AM,OF];rename_i g i o b cs;cases fj g f<;>rfl
theorem JV (f:List Nat)(cs:List aT)(K:List aT->Option R):yW f cs K=K (cs.map (VB f)):=by
 induction cs generalizing K with
 |nil=>rfl
 |cons l r ih=>cases l<;>simp only [yW,OF,VB,ih];rename_i g;cases bU f g<;>rfl
theorem abr (f:List Nat)(s:Slot)(K:Slot->Option R):Ss f s K=K (M4 f s):=by
 cases s with
 |sc l=>cases l<;>simp only [Ss,M4,VB];rename_i g;cases bU f g<;>rfl
 |ag cs=>simp only [Ss,M4,JV]
 |box cs=>simp only [Ss,M4,JV]
 |_=>rfl
theorem ajq (f:List Nat)(r:Fr)(K:Fr->Option R):nFr f r K=K (VC f r):=by
 induction r generalizing K with
 |nil=>rfl
 |cons p r ih=>obtain ⟨k,x⟩:=p;simp only [nFr,abr,ih,VC,OF]
theorem abt (ks fs qs:List Nat)(r:List (Nat×pY))(K:List (Nat×pY)->Option R):On ks fs qs r K=K (uK ks fs qs r):=by
 induction r generalizing K with
 |nil=>rfl
 |cons p r ih=>
  obtain ⟨k,x⟩:=p;simp only [On,uK];cases bU ks k
  ·simp [ih]
  ·simp only [cond_true,ih];cases bU fs k&&!bU qs k<;>rfl
theorem AN {α:Type}(x y:List α):app x y=some (x++y):=by
 induction x with
 |nil=>rfl
 |cons a r ih=>simp [app,ih]
end
theorem fc (a b:Nat):fj a b=decide (a=b):=by
 by_cases h:a=b
 ·subst h;simp
 ·simp only [h,decide_false];exact Bool.eq_false_iff.2 (λe=>h (sh e))
theorem ck (l:List Nat)(t:Nat):bU l t=true↔t∈l:=by
 induction l with
 |nil=>simp [bU]
 |cons k r ih=>
  simp only [bU,fc,aaS];by_cases h:k=t
  ·simp [h]
  ·simp only [h,decide_false,cond_false,ih];exact ⟨.inr,λh'=>h'.resolve_left (λe=>h e.symm)⟩
theorem cE (r:Fr)(d t:Nat)(s:Slot):aH (dz r d s) t=if t=d then s else aH r t:=by
 induction r with
 |nil=>simp only [dz,aH,fc];by_cases h:t=d<;>simp [h,Ne.symm]<;>(intro e;exact absurd e.symm h)
 |cons p r ih=>
  obtain ⟨k,x⟩:=p;simp only [dz,fc];by_cases hk:k=d
  ·subst hk;simp only [decide_true,cond_true,aH,fc];by_cases h:k=t
   ·simp [h]
   ·have h': ¬t=k:=λe=>h e.symm;simp [h,h']
  ·simp only [hk,decide_false,cond_false,aH,fc,ih];by_cases h:k=t
   ·subst h;simp [hk]
   ·simp [h]
theorem bN (r:List (Nat×pY))(d t:Nat)(s:pY):bj (cN r d s) t=if t=d then some s else bj r t:=by
 induction r with
 |nil=>simp only [cN,bj,fc];by_cases h:t=d<;>simp [h,Ne.symm]<;>(intro e;exact absurd e.symm h)
 |cons p r ih=>
  obtain ⟨k,x⟩:=p;simp only [cN,fc];by_cases hk:k=d
  ·subst hk;simp only [decide_true,cond_true,bj,fc];by_cases h:k=t
   ·simp [h]
   ·have h': ¬t=k:=λe=>h e.symm;simp [h,h']
  ·simp only [hk,decide_false,cond_false,bj,fc,ih];by_cases h:k=t
   ·subst h;simp [hk]
   ·simp [h]
theorem JW (g:Slot->Slot)(hg:g (.sc .un)= .sc .un)(r:Fr)(t:Nat):aH (r.map λp=>(p.1,g p.2)) t=g (aH r t):=by
 induction r with
 |nil=>simp [aH,hg]
 |cons p r ih=>obtain ⟨k,x⟩:=p;simp only [OF,aH,fc];by_cases h:k=t<;>simp [h,ih]
theorem iS (f:Nat)(r:Fr)(t:Nat):aH (my f r) t=C6 f (aH r t):=JW (C6 f) rfl r t
theorem Ot (f:List Nat)(r:Fr)(t:Nat):aH (VC f r) t=M4 f (aH r t):=JW (M4 f) rfl r t
def bk (r:Fr):List Nat:=r.map Prod.fst
theorem uf (r:Fr)(t:Nat)(h:t∉bk r):aH r t= .sc .un:=by
 induction r with
 |nil=>rfl
 |cons p r ih=>obtain ⟨k,x⟩:=p;simp only [bk,OF,aaS,not_or] at h;have h': ¬k=t:=λe=>h.1 e.symm;simp only [aH,fc,h',decide_false,cond_false];exact ih h.2
theorem EJ (ds:List Nat)(r:Fr):List.Sublist (bk (pj ds r)) (bk r):=by
 induction r with
 |nil=>simp [bk,pj]
 |cons p r ih=>
  obtain ⟨k,x⟩:=p;simp only [pj];cases eo x||bU ds k
  ·simpa [bk] using ih
  ·exact (List.Sublist.cons _ ih)
theorem yY (ds:List Nat)(r:Fr):List.Sublist (bk (qa ds r)) (bk r):=by
 induction r with
 |nil=>simp [bk,qa]
 |cons p r ih=>
  obtain ⟨k,x⟩:=p;simp only [qa];cases bU ds k&&!eo x
  ·exact (List.Sublist.cons _ ih)
  ·simpa [bk] using ih
theorem JX (ds:List Nat)(r:Fr)(hn:(bk r).Nodup)(t:Nat):aH (pj ds r) t=if eo (aH r t)||bU ds t then .sc .un else aH r t:=by
 induction r with
 |nil=>simp [aH,pj]
 |cons p r ih=>
  obtain ⟨k,x⟩:=p;simp only [bk,OF,ahd] at hn;have ih:=ih hn.2;simp only [pj];by_cases hk:k=t
  ·subst hk;cases hb:eo x||bU ds k
   ·simp [aH,fc,hb]
   ·simp only [cond_true,aH,fc,decide_true,hb,if_true];refine uf _ _ (λhm=>hn.1 ((EJ ds r).subset hm))
  ·cases hb:eo x||bU ds k
   ·simp [aH,fc,hk,ih]
   ·simp [aH,fc,hk,ih]
theorem DL (ds:List Nat)(r:Fr)(hn:(bk r).Nodup)(t:Nat):aH (qa ds r) t=if bU ds t&&!eo (aH r t) then aH r t else .sc .un:=by
 induction r with
 |nil=>simp [aH,qa]
 |cons p r ih=>
  obtain ⟨k,x⟩:=p;simp only [bk,OF,ahd] at hn;have ih:=ih hn.2;simp only [qa];by_cases hk:k=t
  ·subst hk;cases hb:bU ds k&&!eo x
   ·simp only [cond_false,aH,fc,decide_true,cond_true,hb];exact uf _ _ (λhm=>hn.1 ((yY ds r).subset hm))
   ·simp [aH,fc,hb]
  ·cases hb:bU ds k&&!eo x<;>simp [aH,fc,hk,ih]
theorem AO (r s:Fr)(t:Nat):aH (r++s) t=if t∈bk r then aH r t else aH s t:=by
 induction r with
 |nil=>simp [bk]
 |cons p r ih=>
  obtain ⟨k,x⟩:=p;simp only [List.cons_append,aH,fc,bk,OF,aaS];by_cases h:k=t
  ·simp [h]
  ·have h': ¬t=k:=λe=>h e.symm;simp only [h,h',decide_false,cond_false,ih,false_or];rfl
end Dn
/-
  Laws of leaves and slots: offsets, and what changes elsewhere. Conditions: none.
-/
namespace Dn
open Go
section
variable {e e':Env}
theorem bo.width {vs:List Value}{l:aT}(h:bo e vs l):vs.length=l.w:=by
 cases l with
 |un=>obtain ⟨v,rfl,_⟩:=h;rfl
 |p m=>obtain ⟨v,rfl,_⟩:=h.2.one h.1;rfl
 |hs x=>cases h;simp [bV,x.h,aT.w]
 |nil=>cases h;rfl
 |mp s es=>exact h.elim
 |own f=>obtain ⟨v,rfl,_⟩:=h;rfl
theorem bo.cells {vs:List Value}{l:aT}(h:bo e vs l): ∀v∈vs,v.oneCell'=true:=by
 cases l with
 |un=>obtain ⟨v,rfl,hv⟩:=h;simpa using hv
 |p m=>exact h.2.cells
 |hs x=>cases h;intro v hv;obtain ⟨b,_,rfl⟩:=afK.1 hv;rfl
 |nil=>cases h;simp [aav]
 |mp s es=>exact h.elim
 |own f=>obtain ⟨v,rfl,hv,_⟩:=h;simpa using hv
theorem aM.width {cs:List aT}: ∀{vs:List Value},aM e vs cs->vs.length=AK cs:=by
 induction cs with
 |nil=>intro vs h;cases h;rfl
 |cons l r ih=>intro vs h;obtain ⟨v,w,rfl,h1,h2⟩:=h;simp [AK,h1.width,ih h2]
theorem aM.cells {cs:List aT}: ∀{vs:List Value},aM e vs cs-> ∀v∈vs,v.oneCell'=true:=by
 induction cs with
 |nil=>intro vs h;cases h;simp
 |cons l r ih=>
  intro vs h v hv;obtain ⟨a,w,rfl,h1,h2⟩:=h;rcases afO.1 hv with hv|hv
  ·exact h1.cells v hv
  ·exact ih h2 v hv
theorem aM.append {cs ds:List aT}: ∀{vs ws:List Value},aM e vs cs->aM e ws ds->aM e (vs++ws) (cs++ds):=by
 induction cs with
 |nil=>intro vs ws h h';cases h;simpa using h'
 |cons l r ih=>intro vs ws h h';obtain ⟨v,w,rfl,h1,h2⟩:=h;exact ⟨v,w++ws,by simp,h1,ih h2 h'⟩
theorem AP {cs:List aT}: ∀{off:Nat} {ds:List aT} {vs:List Value},cut cs off=some ds->aM e vs cs-> ∃v1 v2,vs=v1++v2/\v1.length=off/\aM e v2 ds:=by
 induction cs with
 |nil=>
  intro off ds vs h hr;cases off with
  |zero=>simp only [cut,IN] at h;subst h;exact ⟨[],vs,rfl,rfl,hr⟩
  |succ n=>simp [cut] at h
 |cons l r ih=>
  intro off ds vs h hr;cases off with
  |zero=>simp only [cut,IN] at h;subst h;exact ⟨[],vs,rfl,rfl,hr⟩
  |succ n=>
   simp only [cut] at h;cases hb:aaQ l.w (n+1) with
   |false=>simp [hb] at h
   |true=>simp only [hb,cond_true] at h;have hle:=aaV hb;obtain ⟨v,w,rfl,h1,h2⟩:=hr;obtain ⟨v1,v2,rfl,hl,h3⟩:=ih h h2;exact ⟨v++v1,v2,by simp,by simp [h1.width,hl];omega,h3⟩
theorem Y3 {cs:List aT}: ∀{n:Nat} {ds:List aT} {vs:List Value},Sk cs n=some ds->aM e vs cs-> ∃v1 v2,vs=v1++v2/\v1.length=n/\aM e v1 ds:=by
 induction cs with
 |nil=>
  intro n ds vs h hr;cases n with
  |zero=>simp only [Sk,IN] at h;subst h;exact ⟨[],vs,rfl,rfl,rfl⟩
  |succ n=>simp [Sk] at h
 |cons l r ih=>
  intro n ds vs h hr;cases n with
  |zero=>simp only [Sk,IN] at h;subst h;exact ⟨[],vs,rfl,rfl,rfl⟩
  |succ n=>
   simp only [Sk] at h;cases hb:aaQ l.w (n+1) with
   |false=>simp [hb] at h
   |true=>
    simp only [hb,cond_true] at h;have hle:=aaV hb;obtain ⟨v,w,rfl,h1,h2⟩:=hr;cases hu:Sk r (n+1-l.w) with
    |none=>simp [hu] at h
    |some b=>simp only [hu,IN] at h;subst h;obtain ⟨v1,v2,rfl,hl,h3⟩:=ih hu h2;exact ⟨v++v1,v2,by simp,by simp [h1.width,hl];omega,v,v1,rfl,h1,h3⟩
theorem Ou {cs:List aT}{off n:Nat}{ds:List aT}{vs:List Value}(h:part cs off n=some ds)(hr:aM e vs cs): ∃v1 v2 v3,vs=v1++v2++v3/\v1.length=off/\v2.length=n/\aM e v2 ds:=by
 unfold part at h;cases hc:cut cs off with
 |none=>simp [hc] at h
 |some a=>simp only [hc] at h;obtain ⟨v1,v2,rfl,h1,h2⟩:=AP hc hr;obtain ⟨v3,v4,rfl,h3,h4⟩:=Y3 h h2;exact ⟨v1,v3,v4,by simp,h1,h3,h4⟩
theorem Ov {ls:List aT}: ∀{cs ds:List aT} {vs ws:List Value},over ls cs=some ds->aM e vs cs->aM e ws ls-> ∃v1 v2,vs=v1++v2/\v1.length=ws.length/\aM e (ws++v2) ds:=by
 induction ls with
 |nil=>intro cs ds vs ws h hr hw;simp only [over,IN] at h;subst h;cases hw;exact ⟨[],vs,rfl,rfl,hr⟩
 |cons l r ih=>
  intro cs ds vs ws h hr hw;cases cs with
  |nil=>simp [over] at h
  |cons c cs=>
   simp only [over] at h;cases hb:fj l.w c.w with
   |false=>simp [hb] at h
   |true=>
    simp only [hb,cond_true] at h;have hww:=sh hb;cases ho:over r cs with
    |none=>simp [ho] at h
    |some q=>simp only [ho,IN] at h;subst h;obtain ⟨v,w,rfl,h1,h2⟩:=hr;obtain ⟨a,b,rfl,h3,h4⟩:=hw;obtain ⟨v1,v2,rfl,hl,h5⟩:=ih ho h2 h4;exact ⟨v++v1,v2,by simp,by simp [h1.width,h3.width,hl,hww],a,b++v2,by simp,h3,h5⟩
theorem yZ {cs:List aT}: ∀{off:Nat} {ls ds:List aT} {vs ws:List Value},putAt cs off ls=some ds->aM e vs cs->aM e ws ls-> ∃v1 v2 v3,vs=v1++v2++v3/\v1.length=off/\v2.length=ws.length/\aM e (v1++ws++v3) ds:=by
 induction cs with
 |nil=>
  intro off ls ds vs ws h hr hw;cases off with
  |zero=>simp only [putAt] at h;obtain ⟨v1,v2,rfl,h1,h2⟩:=Ov h hr hw;exact ⟨[],v1,v2,by simp,rfl,h1,by simpa using h2⟩
  |succ n=>simp [putAt] at h
 |cons l r ih=>
  intro off ls ds vs ws h hr hw;cases off with
  |zero=>simp only [putAt] at h;obtain ⟨v1,v2,rfl,h1,h2⟩:=Ov h hr hw;exact ⟨[],v1,v2,by simp,rfl,h1,by simpa using h2⟩
  |succ n=>
   simp only [putAt] at h;cases hb:aaQ l.w (n+1) with
   |false=>simp [hb] at h
   |true=>
    simp only [hb,cond_true] at h;have hle:=aaV hb;obtain ⟨v,w,rfl,h1,h2⟩:=hr;cases hu:putAt r (n+1-l.w) ls with
    |none=>simp [hu] at h
    |some b=>simp only [hu,IN] at h;subst h;obtain ⟨v1,v2,v3,rfl,hl,DM,h3⟩:=ih hu h2 hw;exact ⟨v++v1,v2,v3,by simp,by simp [h1.width,hl];omega,DM,v,v1++ws++v3,by simp,h1,h3⟩
structure oe (S T:Nat->Prop) (e e':Env):Prop where
 key:e'.key=e.key
 φ:tI e.φ e'.φ
 B: ∀r,T r->e'.B r=e.B r
 jr: ∀f o',bj e'.m f=some o'->S f-> ∃o,bj e.m f=some o/\e'.E f=e.E f/\o'.xs=o.xs
def ko (S:Nat->Prop)(l:aT):Prop:= ∀f,l= .own f->S f
def hM (S T:Nat->Prop):Slot->Prop
 | .ptr r _=>T r
 | .AJ r=>T r
 | .hp r _ _=>T r
 | .sc l=>ko S l
 | .ag cs=> ∀l∈cs,ko S l
 | .ep g _ _ _ _=>S g
 |_=>True
theorem bo.on {S T:Nat->Prop}(h:oe S T e e'){vs:List Value}{l:aT}(hl:ko S l)(hr:bo e vs l):bo e' vs l:=by
 cases l with
 |un=>exact hr
 |p m=>exact ⟨hr.1,by have:=hr.2.mono h.φ;rw [<-h.key] at this;exact this⟩
 |hs x=>exact hr
 |nil=>exact hr
 |mp s es=>exact hr
 |own f=>obtain ⟨v,rfl,hv,hf⟩:=hr;refine ⟨v,rfl,hv,λo' Nc=> ?_⟩;obtain ⟨o,ho,hE,_⟩:=h.jr f o' Nc (hl f rfl);rw [hE];exact hf o ho
theorem aM.on {S T:Nat->Prop}(h:oe S T e e'){cs:List aT}: ∀{vs:List Value},(∀l∈cs,ko S l)->aM e vs cs->aM e' vs cs:=by
 induction cs with
 |nil=>intro vs _ hr;exact hr
 |cons l r ih=>intro vs hl hr;obtain ⟨v,w,rfl,h1,h2⟩:=hr;exact ⟨v,w,rfl,h1.on h (hl l (by simp)),ih (λx hx=>hl x (by simp [hx])) h2⟩
theorem JY {S:Nat->Prop}{l:aT}(h:wc l=true):ko S l:=by intro f hf;subst hf;simp [wc] at h
theorem DN {S:Nat->Prop}{cs:List aT}(h:kc cs=true): ∀l∈cs,ko S l:=by
 induction cs with
 |nil=>simp
 |cons l r ih=>
  simp only [kc,aaM] at h;intro x hx;rcases aaS.1 hx with rfl|hx
  ·exact JY h.1
  ·exact ih h.2 x hx
mutual
theorem ao.on {S T:Nat->Prop}(h:oe S T e e'){v:Value}: ∀{s:Slot},hM S T s->ao e v s->ao e' v s
 | .skip,_,hr=>by simpa [ao] using hr
 | .sc l,hs,hr=>by
  cases l with
  |un=>simp [ao]
  |hs x=>simpa [ao] using hr
  |p m=>simp only [ao] at hr⊢;exact hr.on h hs
  |nil=>simp only [ao] at hr⊢;exact hr.on h hs
  |mp s es=>simp only [ao] at hr⊢;exact hr
  |own f=>simp only [ao] at hr⊢;exact hr.on h hs
 | .ag cs,hs,hr=>by simp only [ao] at hr⊢;obtain ⟨arr,h1,h2⟩:=hr;exact ⟨arr,h1,h2.on h hs⟩
 | .cM vs,_,hr=>by simp only [ao] at hr⊢;obtain ⟨arr,h1,h2⟩:=hr;exact ⟨arr,h1,lv.on h h2⟩
 | .box _,_,hr=>by simp [ao] at hr
 | .AH cs,_,hr=>by simp only [ao] at hr⊢;obtain ⟨bO,o,vs,h1,h2,h3,h4⟩:=hr;exact ⟨bO,o,vs,h1,h2.on h (DN h3),h3,λj hj=>Qo h.φ hj (h4 j hj)⟩
 | .ptr r o,hs,hr=>by simp only [ao] at hr⊢;rw [h.B r hs];exact hr
 | .AJ r,hs,hr=>by simp only [ao] at hr⊢;rw [h.B r hs];exact hr
 | .rp cs off,_,hr=>by simp only [ao] at hr⊢;obtain ⟨bO,o,vs,h1,h2,h3,h4⟩:=hr;exact ⟨bO,o,vs,h1,h2.on h (DN h3),h3,λj hj=>Qo h.φ hj (h4 j hj)⟩
 | .hp r o i,hs,hr=>by simp only [ao] at hr⊢;rw [h.B r hs];exact hr
 | .ep f i off st cs,hs,hr=>by simp only [ao] at hr⊢;intro o' Nc;obtain ⟨o,ho,hE,hx⟩:=h.jr f o' Nc hs;obtain ⟨bO,cap,h1,h2,h3⟩:=hr o ho;exact ⟨bO,cap,by rw [hE,hx];exact h1,by rw [hx];exact h2,h3⟩
theorem lv.on {S T:Nat->Prop}(h:oe S T e e'): ∀{vs:List Value} {ss:List Slot},lv e vs ss->lv e' vs ss
 |vs,[],hr=>hr
 |vs,s::ss,hr=>by
  simp only [lv] at hr⊢;obtain ⟨v,r,h1,h2,h3,h4⟩:=hr;refine ⟨v,r,h1,ao.on h ?_ h2,h3,lv.on h h4⟩;cases s<;>simp [C5] at h3<;>simp only [hM]
  ·exact JY h3
  ·exact DN h3
end
end
end Dn
/-
  The relation between an abstract state and a running frame; operations that change no memory. Conditions: none.
-/
namespace Dn
open Go
section
variable {e e':Env}
theorem bo.kill {vs:List Value}{l:aT}(f:Nat)(h:bo e vs l):bo e vs (R8 f l):=by
 cases l with
 |own g=>
  simp only [R8];cases fj g f
  ·exact h
  ·obtain ⟨v,rfl,hv,_⟩:=h;exact ⟨v,rfl,hv⟩
 |_=>exact h
theorem JZ (f:Nat)(l:aT):ko (· ≠f) (R8 f l):=by intro g hg;cases l<;>simp [R8] at hg;rename_i g';cases hb:fj g' f<;>simp [hb] at hg;subst hg;intro e;subst e;simp [fc] at hb
theorem bo.XB {vs:List Value}{l:aT}(f:List Nat)(h:bo e vs l):bo e vs (VB f l):=by
 cases l with
 |own g=>
  simp only [VB];cases bU f g
  ·obtain ⟨v,rfl,hv,_⟩:=h;exact ⟨v,rfl,hv⟩
  ·exact h
 |_=>exact h
theorem VD (f:List Nat)(l:aT):ko (· ∈f) (VB f l):=by intro g hg;cases l<;>simp [VB] at hg;rename_i g';cases hb:bU f g'<;>simp [hb] at hg;subst hg;exact (ck _ _).1 hb
theorem aM.map {g:aT->aT}(hg: ∀vs l,bo e vs l->bo e vs (g l)){cs:List aT}: ∀{vs:List Value},aM e vs cs->aM e vs (cs.map g):=by
 induction cs with
 |nil=>intro vs h;exact h
 |cons l r ih=>intro vs h;obtain ⟨v,w,rfl,h1,h2⟩:=h;exact ⟨v,w,rfl,hg _ _ h1,ih h2⟩
theorem ao.ajr {v:Value}{l:aT}(hl: ∀x,l≠ .hs x)(hu:l≠ .un):ao e v (.sc l)↔bo e [v] l:=by cases l<;>simp_all [ao]
theorem ao.kill {v:Value}{s:Slot}(f:Nat)(h:ao e v s):ao e v (C6 f s):=by
 cases s with
 |sc l=>
  cases l with
  |own g=>
   simp only [C6,R8];cases fj g f
   ·exact h
   ·simp [ao]
  |_=>exact h
 |ag cs=>simp only [C6,ao] at h⊢;obtain ⟨arr,h1,h2⟩:=h;exact ⟨arr,h1,h2.map (λ_ _=>bo.kill f)⟩
 |box cs=>simp [ao] at h
 |ep g i o b cs=>
  simp only [C6];cases fj g f
  ·exact h
  ·simp [ao]
 |_=>exact h
theorem abu (f:Nat)(T:Nat->Prop)(s:Slot)(hT:hM (λ_=>True) T s):hM (· ≠f) T (C6 f s):=by
 cases s with
 |sc l=>exact JZ f l
 |ag cs=>intro l hl;obtain ⟨x,_,rfl⟩:=afK.1 hl;exact JZ f x
 |ep g i o b cs=>
  simp only [C6];cases hb:fj g f
  ·simp only [cond_false,hM];intro e;subst e;simp [fc] at hb
  ·simp [hM,ko]
 |ptr r o=>exact hT
 |hp r o i=>exact hT
 |_=>trivial
theorem ao.XB {v:Value}{s:Slot}(f:List Nat)(h:ao e v s):ao e v (M4 f s):=by
 cases s with
 |sc l=>
  cases l with
  |own g=>
   simp only [M4,VB];cases bU f g
   ·simp [ao]
   ·exact h
  |_=>exact h
 |ag cs=>simp only [M4,ao] at h⊢;obtain ⟨arr,h1,h2⟩:=h;exact ⟨arr,h1,h2.map (λ_ _=>bo.XB f)⟩
 |box cs=>simp [ao] at h
 |_=>exact h
end
def bQ (key:Nat->Nat) (φ:Ph)(size:Nat):List Value->List MV->Prop
 |vs,[]=>vs=[]
 |vs,x::xs=> ∃v r,vs=v++r/\v.length=size/\nr key φ v x/\bQ key φ size r xs
structure b8 where
 In:Nat->Prop
 dg:List Nat
 dt:List Nat
 T:Nat->Value
 cov:Prop
 Pr:Nat->Prop
instance:CoeFun b8 (λ_=>Nat->Prop):=⟨b8.In⟩
instance:Coe b8 (Nat->Prop):=⟨b8.In⟩
theorem R9 {a b c:Prop}(h:(a/\b)\/c)(hn: ¬a):c:=h.resolve_left λh=>hn h.1
def b8.nc (Z:b8):b8:={Z with cov:=False}
def b8.plain (I:Nat->Prop):b8:=⟨I,[],[],λ_=>undef,False,λ_=>True⟩
def b8.bz (Z:b8)(t:Nat):b8:={Z with In:=λb=>(t∈Z.dg/\Z.Pr b)\/Z.In b}
def b8.fz (Z:b8)(f:Nat):b8:={Z with In:=λb=>(f∈Z.dt/\Z.Pr b)\/Z.In b,cov:=f∈Z.dt}
def G3:Kd->MV->Bool
 | .b,.b _=>true
 | .i k,.i k' _=>decide (k'=k)
 | .s,.s _=>true
 | .h,.h _=>true
 |_,_=>false
def et:List Kd->List MV->Bool
 |[],[]=>true
 |k::ks,m::ms=>G3 k m&&et ks ms
 |_,_=>false
def GQ:MV->List Value
 | .b x=>[.bool x]
 | .i k n=>[.int k n]
 | .s l=>[.string ⟨l.toArray⟩]
 | .h x=>bV x
 |_=>[]
def gz (st:Bool)(ks:List MV):Value:=match st,ks with
 |false,[.h x]=> .agg (bV x).toArray
 |false,[.b x]=> .bool x
 |false,[.i k n]=> .int k n
 |false,[.s l]=> .string ⟨l.toArray⟩
 |_,ks=> .agg (ks.flatMap GQ).toArray
def CJ (b:Bool)(m:MV):Value:=match b,m with
 |true,.b x=> .bool x
 |false,.i .i64 n=> .int .i64 n
 |_,_=>undef
def VE (b:Bool)(m:MV):Bool:=match b,m with
 |true,.b x=>true
 |false,.i .i64 n=>true
 |_,_=>false
def abv (s:MS)(x:MapEntry)(m:MV)(i:Nat):Prop:=x.born=i/\ ∃ks v,m= .cM [.agg ks,v]/\et s.lay ks=true/\x.key=gz s.st ks/\VE s.b v=true/\x.val=CJ s.b v
structure sw (s:MS) (es:Array MapEntry) (clock:Nat) (ms:List MV):Prop where
 size:es.size=ms.length
 clock:clock=ms.length
 ent: ∀(i:Nat) x m,es[i]? =some x->ms[i]? =some m->abv s x m i
def kX (e:Env)(o:Obj)(cs:List aT):Prop:=match o with
 | .cells arr _ z=>z=(0,0)/\aM e arr.toList cs
 | .map es clock=> ∃s ms,cs=[.mp s ms]/\EF s=false/\sw s es clock ms
 | .stringIter x pos=>cs=[.mp MS.it [.s x.data.toList,.i .i64 pos]]
 |_=>False
def J0 (cs:List aT)(b:Nat):Value:=bif mG cs then .map (some b) else .pointer (some ⟨b,0,none⟩)
structure wg (Z:b8) (e:Env) (w:World) (bO:Nat) (cs:List aT):Prop where
 dp:Z.In bO
 obj: ∃o,w.heap[bO]? =some o/\kX e o cs
 free: ∀off,e.φ bO off=none
theorem kX.on {S T:Nat->Prop} {e e':Env}(h:oe S T e e'){o:Obj}{cs:List aT}(hl: ∀l∈cs,ko S l)(hr:kX e o cs):kX e' o cs:=by
 cases o with
 |cells arr T z=>exact ⟨hr.1,hr.2.on h hl⟩
 |map es clock=>exact hr
 |stringIter x pos=>exact hr
 |_=>exact hr.elim
theorem Qp {cs:List aT}(h:gY cs=true): ∃s ms,cs=[.mp s ms]:=by
 unfold gY at h;split at h
 ·exact ⟨_,_,rfl⟩
 ·cases h
theorem kX.cells {e:Env}{o:Obj}{cs:List aT}(hr:kX e o cs)(hm:gY cs=false): ∃arr T,o= .cells arr T (0,0)/\aM e arr.toList cs:=by
 cases o with
 |cells arr T z=>obtain ⟨rfl,h⟩:=hr;exact ⟨arr,T,rfl,h⟩
 |map es clock=>obtain ⟨s,ms,rfl,_⟩:=hr;simp [gY] at hm
 |stringIter x pos=>rw [show cs=_ from hr] at hm;simp [gY] at hm
 |_=>exact hr.elim
theorem EK {cs:List aT}(h:gY cs=false):mG cs=false:=by
 unfold mG;split
 ·simp [gY] at h
 ·rfl
theorem Sx (g:aT->aT)(h1: ∀s es,g (.mp s es)= .mp s es)(h2: ∀l,(∀s es,l≠ .mp s es)-> ∀s es,g l≠ .mp s es)(cs:List aT):mG (cs.map g)=mG cs:=by
 cases cs with
 |nil=>rfl
 |cons l r=>
  cases r with
  |nil=>
   by_cases hl: ∃s es,l= .mp s es
   ·obtain ⟨s,es,rfl⟩:=hl;simp [h1,mG]
   ·have G4: ∀s es,l≠ .mp s es:=λs es e=>hl ⟨s,es,e⟩;have hg:=h2 l G4;simp only [OF,ahj];have a:mG [l]=false:=by cases l<;>simp_all [mG]
    have b:mG [g l]=false:=by cases hq:g l<;>simp_all [mG]
    rw [a,b]
  |cons x y=>cases hl:l<;>simp [mG]
theorem wg.cells {Z:b8}{e:Env}{w:World}{bO:Nat}{cs:List aT}(h:wg Z e w bO cs)(hm:gY cs=false): ∃arr T,w.heap[bO]? =some (.cells arr T (0,0))/\aM e arr.toList cs:=by obtain ⟨o,h1,h2⟩:=h.obj;obtain ⟨arr,T,rfl,h3⟩:=h2.cells hm;exact ⟨arr,T,h1,h3⟩
theorem VF {cs:List aT}(hm:mG cs=false)(b:Nat):J0 cs b= .pointer (some ⟨b,0,none⟩):=by simp [J0,hm]
theorem xi {cs:List aT}(hm:gY cs=false)(b:Nat):J0 cs b= .pointer (some ⟨b,0,none⟩):=VF (EK hm) b
theorem abw {cs:List aT}(hm:mG cs=true)(b:Nat):J0 cs b= .map (some b):=by simp [J0,hm]
theorem kX.map {e:Env}{g:aT->aT}(hg: ∀vs l,bo e vs l->bo e vs (g l))(hm: ∀s es,g (.mp s es)= .mp s es){o:Obj}{cs:List aT}(hr:kX e o cs):kX e o (cs.map g):=by
 cases o with
 |cells arr T z=>exact ⟨hr.1,hr.2.map hg⟩
 |map es clock=>obtain ⟨s,ms,rfl,h2⟩:=hr;exact ⟨s,ms,by simp [hm],h2⟩
 |stringIter x pos=>rw [show cs=_ from hr];show ahg g _=_;simp [hm]
 |_=>exact hr.elim
theorem VG (f:Nat)(cs:List aT):mG (cs.map (R8 f))=mG cs:=Sx _ (λ_ _=>rfl) (λl hl s es=>by cases l<;>simp_all [R8];rename_i g;cases fj g f<;>simp) cs
theorem ajs (f:List Nat)(cs:List aT):mG (cs.map (VB f))=mG cs:=Sx _ (λ_ _=>rfl) (λl hl s es=>by cases l<;>simp_all [VB];rename_i g;cases bU f g<;>simp) cs
structure eD (c:Ctx) (Z:b8) (e:Env) (w:World) (v:Value) (o:pY):Prop where
 row: ∃I cells,c.ti o.ty=some I/\I.dJ=[]/\w.ownsRow 0 o.ty I.size v o.xs.length cells/\bQ e.key e.φ I.size cells o.xs/\ ∀bO,v.ownBlock=some bO->Z.In bO/\(∀off u,e.φ bO off=some u->o.fB=true/\off<o.xs.length *I.size)/\(Z.cov->o.fB=true-> ∀j,j<cells.length->e.φ bO j=cells[j]?)
def tied (Z:b8)(t:Nat)(v:Value)(cs:List aT)(b:Nat):Prop:=(AE t=false->v=J0 cs b)/\(AE t=true->posOf t∈Z.dg/\Z.T (posOf t)= .pointer (some ⟨b,Sj t,none⟩))
theorem tied.mG {Z:b8}{t:Nat}{v:Value}{cs j9:List aT}{b:Nat}(h:tied Z t v cs b)(hm:mG j9=mG cs):tied Z t v j9 b:=⟨λhp=>by rw [h.1 hp];simp [J0,hm],h.2⟩
theorem tied.own {Z:b8}{t:Nat}{v:Value}{cs:List aT}{b:Nat}(hp:AE t=false)(h:v=J0 cs b):tied Z t v cs b:=⟨λ_=>h,λhq=>by rw [hp] at hq;cases hq⟩
def cW (Z:b8)(e:Env)(w:World)(t:Nat)(v:Value):Slot->Prop
 | .box cs=>tied Z t v cs (e.B t)/\wg (Z.bz t) e w (e.B t) cs
 |s=>ao e v s
def dq (fr:Fr):Slot->Prop
 | .ptr r _=>dD (aH fr r)=true
 | .hp r _ _=>dD (aH fr r)=true
 | .AJ r=>dD (aH fr r)=true
 |_=>True
structure cF (c:Ctx) (Z:b8) (e:Env) (st:St) (a:Act) (w:World):Prop where
 defers:a.defers=[]/\st.dg=Z.dg/\st.dt=Z.dt/\ ∀t∈Z.dg,a.tmps.getD t undef=Z.T t
 size:a.tmps.size=c.n
 m:e.m=st.bA
 key:e.key=c.key
 nodup:(bk st.fr).Nodup
 slot: ∀t,cW Z e w t (a.tmps.getD t undef) (aH st.fr t)
 root: ∀t,dq st.fr (aH st.fr t)
 jr: ∀f o,bj st.bA f=some o->eD c (Z.fz f) e w (e.E f) o
 bb: ∀t t' cs j9,aH st.fr t= .box cs->aH st.fr t'= .box j9->t≠t'->e.B t≠e.B t'
 bf: ∀t cs f o,aH st.fr t= .box cs->bj st.bA f=some o->(e.E f).ownBlock≠some (e.B t)
 ff: ∀f f' o o' k,bj st.bA f=some o->bj st.bA f'=some o'->(e.E f).ownBlock=some k->(e.E f').ownBlock=some k->f=f'
 q9: ∀b o v,e.φ b o=some v->w.cell? ⟨b,o,none⟩=some v
 dp: ∀b,w.heap.size<=b->Z.In b
def Rest (w w':World):Prop:=w'.os=w.os/\w'.tape=w.tape/\w'.output=w.output/\ ∀a,w'.frozen? a=w.frozen? a
theorem Rest.refl (w:World):Rest w w:=⟨rfl,rfl,rfl,λ_=>rfl⟩
theorem Rest.trans {w w' BT:World}(h:Rest w w') (h':Rest w' BT):Rest w BT:=⟨h'.1.trans h.1,h'.2.1.trans h.2.1,h'.2.2.1.trans h.2.2.1,λa=>(h'.2.2.2 a).trans (h.2.2.2 a)⟩
theorem Rest.alloc (w:World)(cs:Array Value)(t:TypeId):Rest w (w.alloc (.cells cs t)):=by
 refine ⟨rfl,rfl,rfl,λa=> ?_⟩;by_cases h:a.block=w.heap.size
 ·have e1:(w.alloc (.cells cs t)).heap[a.block]? =some (.cells cs t (0,0)):=by rw [h];exact kb w _
  have e2:w.heap[a.block]? =none:=by rw [h];simp
  simp [ahi,e1,e2]
 ·exact World.frozen?_alloc_old _ _ _ h
theorem Rest.setRow (w:World)(g:Nat)(cs:Array Value):Rest w (w.setRow g cs):=by
 refine ⟨rfl,rfl,rfl,λa=> ?_⟩;by_cases h:a.block=g
 ·unfold ahi ahk;simp only [Array.getElem?_modify,h,if_true];cases hg:w.heap[g]? with
  |none=>rfl
  |some o=>cases o<;>rfl
 ·exact World.frozen?_of_block (setRow_other _ _ _ _ h)
structure fa (w w':World):Prop where
 size:w.heap.size<=w'.heap.size
 xj: ∀b,b<w.heap.size->w'.heap[b]? =w.heap[b]?
 rest:Rest w w'
theorem bR {w:World}{b:Nat}{x:Obj}(h:w.heap[b]? =some x):b<w.heap.size:=(Array.getElem?_eq_some_iff.1 h).1
theorem fa.cell {w w':World}(g:fa w w'){ad:Addr}{v:Value}(h:w.cell? ad=some v):w'.cell? ad=some v:=by have hl:=aaN w ad h;rw [aaW (g.xj ad.block hl)];exact h
structure Trans (Z:Nat->Prop) (φ:Ph) (w:World) (φ':Ph) (w':World):Prop where
 ph:tI φ φ'
 heap: ∀b,¬Z b->b<w.heap.size->w'.heap[b]? =w.heap[b]?
 free: ∀b o,¬Z b->φ' b o=φ b o
 size:w.heap.size<=w'.heap.size
 rest:Rest w w'
theorem Trans.refl (Z:Nat->Prop) (φ:Ph)(w:World):Trans Z φ w φ w:=⟨.refl φ,λ_ _ _=>rfl,λ_ _ _=>rfl,aaI _,.refl _⟩
theorem Trans.trans {Z:Nat->Prop} {φ φ' φ'':Ph} {w w' BT:World}(h:Trans Z φ w φ' w') (h':Trans Z φ' w' φ'' BT):Trans Z φ w φ'' BT:=⟨h.ph.trans h'.ph,λb hb hl=>(h'.heap b hb (agH hl h.size)).trans (h.heap b hb hl),λb o hb=>(h'.free b o hb).trans (h.free b o hb),adL h.size h'.size,h.rest.trans h'.rest⟩
def rr (Z:b8)(e:Env)(w:World)(st:St)(v:Value):Slot->Prop
 | .box cs=> ∃bO,v=J0 cs bO/\wg Z e w bO cs/\(∀t j9,aH st.fr t= .box j9->e.B t≠bO)/\(∀f o,bj st.bA f=some o->(e.E f).ownBlock≠some bO)
 |s=>ao e v s/\dq st.fr s
section
variable {c:Ctx}{Z:b8}{e:Env}{st:St}{a:Act}{w:World}
theorem ao.const {v:Value}:ao e v (BR v):=by
 unfold BR;split<;>simp only [ao,bo,MV.one]<;> first
   |exact ⟨trivial,.b _⟩
   |exact ⟨trivial,.i _ _⟩
   |exact ⟨trivial,.s _⟩
   |exact ⟨trivial,.raw _ rfl⟩
theorem cF.eval (h:cF c Z e st a w)(x:Operand):ao e (a.eval x) (aX c st x)/\dq st.fr (aX c st x):=by
 cases x with
 |tmp t=>
  have hs:=h.slot t;have hr:=h.root t;simp only [Act.eval,aX];cases Ow:plk c.par t with
  |some q=>
   simp only;cases hq:AE q&&fj (posOf q) t with
   |false=>exact ⟨by simp [ao],trivial⟩
   |true=>
    simp only [cond_true];simp only [aaM] at hq;have hqt:=sh hq.2;have hsq:=h.slot q;split
    ·rename_i cs hfq;rw [hfq] at hsq;cases hm:gY cs with
     |true=>exact ⟨by simp [ao],trivial⟩
     |false=>obtain ⟨k1,k2⟩:=hsq.1.2 hq.1;refine ⟨?_,by simp [dq,hfq,dD]⟩;show a.tmps.getD t undef=_;rw [<-hqt,h.defers.2.2.2 _ k1,k2]
    ·exact ⟨by simp [ao],trivial⟩
  |none=>
  simp only;generalize hf:aH st.fr t=s at hs hr;cases s<;>simp only [cW] at hs<;>try exact ⟨hs,hr⟩
  ·rename_i cs;cases hpt:AE t with
   |true=>simp only [cond_true];exact ⟨by simp [ao],trivial⟩
   |false=>
   simp only [cond_false];cases hm:mG cs with
   |true=>simp only [hm,cond_true,ao,dq,hf,dD];exact ⟨by rw [hs.1.1 hpt,abw hm],trivial⟩
   |false=>simp only [hm,cond_false,ao,dq,hf,dD];exact ⟨by rw [hs.1.1 hpt,VF hm],trivial⟩
 |const v=>refine ⟨ao.const,?_⟩;simp only [aX];unfold BR;split<;>trivial
 |func f=>simp only [Act.eval,aX,ao,bo,MV.one,dq,and_true,true_and];exact .func f _ #[] [] (by rw [h.key]) (by simpa using jt.nil) (by simp)
 |global g=>simp [aX,ao,dq]
end
theorem Act.AQ {a:Act}{d t:Nat}{v:Value}(hd:d<a.tmps.size):(a.put (some d) v).tmps.getD t undef=if t=d then v else a.tmps.getD t undef:=by
 simp only [Act.put,Array.getD_eq_getD_getElem?,Array.getElem?_setIfInBounds];by_cases h:d=t
 ·subst h;simp [hd]
 ·have h': ¬t=d:=λe=>h e.symm;simp [h,h']
theorem abx {fr:Fr}{s:Slot}(h:dq fr s):hM (λ_=>True) (λr=>dD (aH fr r)=true) s:=by cases s<;>simp_all [dq,hM,ko]
theorem Qq (r:Fr)(d:Nat)(s:Slot):bk (dz r d s)=if d∈bk r then bk r else bk r++[d]:=by
 induction r with
 |nil=>simp [dz,bk]
 |cons p r ih=>
  obtain ⟨k,x⟩:=p;simp only [dz,fc];by_cases h:k=d
  ·simp [h,bk]
  ·have h': ¬d=k:=λe=>h e.symm;have ih':ahg Prod.fst (dz r d s)=if d∈bk r then bk r else bk r++[d]:=ih
   simp only [h,h',decide_false,cond_false,bk,OF,aaS,false_or,ih'];by_cases hm:d∈bk r
   ·have hm':d∈ahg Prod.fst r:=hm;simp [hm,hm',bk]
   ·have hm':d∉ahg Prod.fst r:=hm;simp [hm,hm',bk]
theorem fZ {r:Fr}{d:Nat}{s:Slot}(h:(bk r).Nodup):(bk (dz r d s)).Nodup:=by
 rw [Qq];by_cases hm:d∈bk r
 ·simpa [hm] using h
 ·simp only [hm,if_false];exact List.nodup_append.2 ⟨h,by simp,by intro x hx y hy;simp at hy;subst hy;intro e;subst e;exact hm hx⟩
section
variable {c:Ctx}{Z:b8}{e:Env}{st:St}{a:Act}{w:World}{R:Type}{K:St->Option R}{r:R}
def Env.EL (e:Env)(d bO:Nat):Env:={e with B:=λt=>if t=d then bO else e.B t}
theorem wg.env {e e':Env}{bO:Nat}{cs:List aT}(h:wg Z e w bO cs)(hk:e'.key=e.key)(hp:e'.φ=e.φ)(hE:e'.E=e.E)(hm:e'.m=e.m):wg Z e' w bO cs:=by refine ⟨h.dp,?_,λoff=>by rw [hp];exact h.free off⟩;obtain ⟨o,h1,h2⟩:=h.obj;refine ⟨o,h1,h2.on (S:=λ_=>True) (T:=λ_=>False) ⟨hk,by rw [hp];exact .refl _,by simp,?_⟩ (by intro l _ f _;trivial)⟩;intro f o ho _;exact ⟨o,by rw [<-hm];exact ho,by rw [hE],rfl⟩
theorem eD.env {e e':Env}{v:Value}{o:pY}(h:eD c Z e w v o)(hk:e'.key=e.key)(hp:e'.φ=e.φ):eD c Z e' w v o:=by obtain ⟨I,cells,h1,h2,h3,h4,h5⟩:=h.row;exact ⟨I,cells,h1,h2,h3,by rw [hk,hp];exact h4,by rw [hp];exact h5⟩
theorem wg.to {bO:Nat}{cs:List aT}(h:wg Z e w bO cs)(t:Nat):wg (Z.bz t) e w bO cs:=⟨.inr h.dp,h.obj,h.free⟩
theorem eD.to {v:Value}{o:pY}{f:Nat}(h:eD c Z.nc e w v o)(hf:f∉Z.dt):eD c (Z.fz f) e w v o:=by obtain ⟨I,cells,h1,h2,h3,h4,h5⟩:=h.row;exact ⟨I,cells,h1,h2,h3,h4,λbO hb=>⟨.inr (h5 bO hb).1,(h5 bO hb).2.1,λhc=>absurd hc hf⟩⟩
theorem ec {d:Option Nat}{s:Slot}{v:Value}(h:cF c Z e st a w)(hv:rr Z e w st v s)(hK:bM c st d s K=some r): ∃e' cB,cF c Z e' cB (a.put d v) w/\K cB=some r/\e'.φ=e.φ:=by
 cases d with
 |none=>exact ⟨e,st,h,hK,rfl⟩
 |some d=>
  simp only [bM] at hK;cases C7:AE d||(aaQ c.n d||dD (aH st.fr d)) with
  |true=>simp [C7] at hK
  |false=>
   obtain ⟨aug,hb⟩:=aaX.1 C7;simp only [C7,cond_false,wr] at hK;cases hp:bU st.dg d with
   |true=>simp [hp] at hK
   |false=>
    simp only [hp,cond_false,force_eq,oO] at hK;simp only [aaX] at hb;have hdn:d<a.tmps.size:=by
     rw [h.size];have:=hb.1;by_cases eE:d<c.n
     ·exact eE
     ·have:aaQ c.n d=true:=afR (by omega);simp_all
    have hdp:d∉Z.dg:=by intro hm;rw [<-h.defers.2.1,<-ck,hp] at hm;cases hm
    have anu: ∀fr:Fr,(a.put (some d) v).defers=[]/\({st with fr:=fr}:St).dg=Z.dg/\({st with fr:=fr}:St).dt=Z.dt/\ ∀t∈Z.dg,(a.put (some d) v).tmps.getD t undef=Z.T t:=by intro fr;refine ⟨h.defers.1,h.defers.2.1,h.defers.2.2.1,λt ht=> ?_⟩;rw [Act.AQ hdn,if_neg (by intro e;subst e;exact hdp ht)];exact h.defers.2.2.2 t ht
    have qd: ∀t,hM (λ_=>True) (λr=>r≠d) (aH st.fr t):=by intro t;have:=abx (h.root t);generalize aH st.fr t=x at this;cases x<;>simp_all [hM,ko]<;>(intro e;subst e;simp_all)
    by_cases hs: ∃cs,s= .box cs
    ·obtain ⟨cs,rfl⟩:=hs;obtain ⟨bO,rfl,tJ,hnb,hnf⟩:=hv;have yR:oe (λ_=>True) (λr=>r≠d) e (e.EL d bO):=⟨rfl,.refl _,λr hr=>by simp [Env.EL,hr],λf o ho _=>⟨o,ho,rfl,rfl⟩⟩
     refine ⟨e.EL d bO,_,?_,hK,rfl⟩;refine ⟨anu _,by simpa [Act.put] using h.size,h.m,h.key,fZ h.nodup,?_,?_,?_,?_,?_,?_,h.q9,h.dp⟩
     ·intro t;rw [Act.AQ hdn,cE];by_cases ht:t=d
      ·subst ht;simp only [if_true,cW,Env.EL];exact ⟨.own aug rfl,(tJ.to t).env rfl rfl rfl rfl⟩
      ·simp only [ht,if_false];have nt:=h.slot t;have sB:=qd t;generalize aH st.fr t=x at nt sB;cases x<;>simp only [cW] at nt⊢ <;>try exact nt.on yR sB
       simp only [Env.EL,ht,if_false];exact ⟨nt.1,nt.2.env rfl rfl rfl rfl⟩
     ·intro t;simp only [cE];by_cases ht:t=d
      ·simp [ht,dq]
      ·simp only [ht,if_false];have sB:=h.root t;have Ju:=qd t;generalize aH st.fr t=x at sB Ju;cases x<;>simp_all [dq,cE,hM]
     ·intro f o ho;exact (h.jr f o ho).env rfl rfl
     ·intro t t' du iM h1 h2 eu;simp only [cE] at h1 h2;simp only [Env.EL];by_cases ht:t=d
      ·by_cases EM:t'=d
       ·exact absurd (ht.trans EM.symm) eu
       ·simp only [EM,if_false] at h2;simp only [ht,EM,if_true,if_false];exact λe=>hnb t' iM h2 e.symm
      ·simp only [ht,if_false] at h1;by_cases EM:t'=d
       ·simp only [ht,EM,if_true,if_false];exact hnb t du h1
       ·simp only [EM,if_false] at h2;simp only [ht,EM,if_false];exact h.bb t t' du iM h1 h2 eu
     ·intro t du f o h1 h2;simp only [cE] at h1;simp only [Env.EL];by_cases ht:t=d
      ·simp only [ht,if_true];exact hnf f o h2
      ·simp only [ht,if_false] at h1⊢;exact h.bf t du f o h1 h2
     ·exact h.ff
    ·have hv':ao e v s/\dq st.fr s:=by cases s<;>simp_all [rr]
     refine ⟨e,_,?_,hK,rfl⟩;refine ⟨anu _,by simpa [Act.put] using h.size,h.m,h.key,fZ h.nodup,?_,?_,h.jr,?_,?_,h.ff,h.q9,h.dp⟩
     ·intro t;rw [Act.AQ hdn,cE];by_cases ht:t=d
      ·simp only [ht,if_true];cases s<;>simp only [cW]<;>first|exact hv'.1|exact absurd ⟨_,rfl⟩ hs
      ·simp only [ht,if_false];exact h.slot t
     ·intro t;simp only [cE];by_cases ht:t=d
      ·simp only [ht,if_true];have hr:=hv'.2;cases s<;>simp only [dq,cE] at hr⊢
       ·rename_i r o;by_cases Sy:r=d
        ·subst Sy;simp_all
        ·simp only [Sy,if_false];exact hr
       ·rename_i r;by_cases Sy:r=d
        ·subst Sy;simp_all
        ·simp only [Sy,if_false];exact hr
       ·rename_i r o i;by_cases Sy:r=d
        ·subst Sy;simp_all
        ·simp only [Sy,if_false];exact hr
      ·simp only [ht,if_false];have sB:=h.root t;have Ju:=qd t;generalize aH st.fr t=x at sB Ju;cases x<;>simp_all [dq,cE,hM]
     ·intro t t' du iM h1 h2 eu;simp only [cE] at h1 h2;by_cases ht:t=d
      ·simp only [ht,if_true] at h1;exact absurd ⟨_,h1⟩ hs
      ·by_cases EM:t'=d
       ·simp only [EM,if_true] at h2;exact absurd ⟨_,h2⟩ hs
       ·simp only [ht,EM,if_false] at h1 h2;exact h.bb t t' du iM h1 h2 eu
     ·intro t du f o h1 h2;simp only [cE] at h1;by_cases ht:t=d
      ·simp only [ht,if_true] at h1;exact absurd ⟨_,h1⟩ hs
      ·simp only [ht,if_false] at h1;exact h.bf t du f o h1 h2
end
end Dn
/-
  Operations that change no memory: moves, numbers, texts, places. Conditions: none.
-/
namespace Dn
open Go
def Out (c:Ctx)(Z:b8){R:Type}(K:St->Option R)(r:R) (φ:Ph)(w:World) (a':Act) (w':World):Prop:=∃e' cB,cF c Z e' cB a' w'/\Trans Z φ w e'.φ w'/\K cB=some r
section
variable {P:Program}{c:Ctx}{Z:b8}{e:Env}{st:St}{a:Act}{w:World}{R:Type}{K:St->Option R}{r:R}{Q:Exit->Act->World->Prop}{o:Oper}
theorem rr.of {s:Slot}{v:Value}(h:ao e v s)(hr:dq st.fr s):rr Z e w st v s:=by cases s<;>first|exact ⟨h,hr⟩|(simp [ao] at h)
theorem fin {e':Env}{cB:St} {w':World}{s:Slot}{v:Value}(cV:(execOp a.eval o).run P w= .ok (.value v) w')(hs:cF c Z e' cB a w')(ht:Trans Z e.φ w e'.φ w')(hv:rr Z e' w' cB v s)(hK:bM c cB o.dst s K=some r):o.wp P a w (Out c Z K r e.φ w) Q:=by unfold ahl;rw [cV,afP];obtain ⟨e2,eM,h1,h2,h3⟩:=ec hs hv hK;exact ⟨e2,eM,h1,by rw [h3];exact ht,h2⟩
theorem EN {e':Env}{cB:St} {w':World}(cV:(execOp a.eval o).run P w= .ok .skip w')(hs:cF c Z e' cB a w')(ht:Trans Z e.φ w e'.φ w')(hK:bM c cB o.dst (.sc .un) K=some r):o.wp P a w (Out c Z K r e.φ w) Q:=by unfold ahl;rw [cV,Oper.upon_skip];obtain ⟨e2,eM,h1,h2,h3⟩:=ec (v:=undef) hs (by simp [rr,ao,dq]) hK;exact ⟨e2,eM,h1,by rw [h3];exact ht,h2⟩
theorem Y4 {e':Env}{cB:St} {w':World}{s:Slot}{v:Value}(hg:fa w w')(cV:(execOp a.eval o).run P w= .ok (.value v) w')(hs:cF c Z e' cB a w')(ht:Trans Z e.φ w e'.φ w')(hv:rr Z e' w' cB v s)(hK:bM c cB o.dst s K=some r):o.wp P a w (λa' w'=>fa w w'/\Out c Z K r e.φ w a' w') Q:=by unfold ahl;rw [cV,afP];obtain ⟨e2,eM,h1,h2,h3⟩:=ec hs hv hK;exact ⟨hg,e2,eM,h1,by rw [h3];exact ht,h2⟩
def Rd (P:Program)(c:Ctx)(Z:b8){R:Type}(K:St->Option R)(r:R)(e:Env)(a:Act)(w:World)(o:Oper)(G:World->Prop):Prop:=∃v,(∀w',G w'->(execOp a.eval o).run P w'= .ok (.value v) w')/\Out c Z K r e.φ w (a.put o.dst v) w
theorem Rd.wp {G:World->Prop}(h:Rd P c Z K r e a w o G)(hg:G w):o.wp P a w (Out c Z K r e.φ w) Q:=by obtain ⟨v,h1,h2⟩:=h;unfold ahl;rw [h1 w hg,afP];exact h2
theorem VH {G:World->Prop} {e':Env}{cB:St}{s:Slot}{v:Value}(cV: ∀w':World,G w'->(execOp a.eval o).run P w'= .ok (.value v) w')(hs:cF c Z e' cB a w)(ht:Trans Z e.φ w e'.φ w)(hv:rr Z e' w cB v s)(hK:bM c cB o.dst s K=some r):Rd P c Z K r e a w o G:=by obtain ⟨e2,eM,h1,h2,h3⟩:=ec hs hv hK;exact ⟨v,cV,e2,eM,h1,by rw [h3];exact ht,h2⟩
theorem jR {s:Slot}{v:Value}(h:cF c Z e st a w)(cV: ∀w':World,(execOp a.eval o).run P w'= .ok (.value v) w')(hv:ao e v s)(hr:dq st.fr s)(hK:bM c st o.dst s K=some r):Rd P c Z K r e a w o (λ_=>True):=VH (λw' _=>cV w') h (.refl _ _ _) (.of hv hr) hK
theorem AR {v:Value}{x:Bool}(h:ao e v (.sc (.p (.b x)))):v= .bool x:=by simp only [ao,bo] at h;obtain ⟨_,h⟩:=h;generalize hv:[v]=vs at h;cases h;simpa using hv
theorem mc {v:Value}{k:IntKind}{n:Int}(h:ao e v (.sc (.p (.i k n)))):v= .int k n:=by simp only [ao,bo] at h;obtain ⟨_,h⟩:=h;generalize hv:[v]=vs at h;cases h;simpa using hv
theorem HV {v:Value}{l:List UInt8}(h:ao e v (.sc (.p (.s l)))): ∃b:ByteArray,v= .string b/\l=b.data.toList:=by simp only [ao,bo] at h;obtain ⟨_,h⟩:=h;generalize hv:[v]=vs at h;cases h;exact ⟨_,by simpa using hv,rfl⟩
theorem An (x:Bool):ao e (.bool x) (.sc (.p (.b x))):=by simp only [ao,bo];exact ⟨rfl,.b x⟩
theorem tK (k:IntKind)(n:Int):ao e (.int k n) (.sc (.p (.i k n))):=by simp only [ao,bo];exact ⟨rfl,.i k n⟩
theorem aby (b:ByteArray):ao e (.string b) (.sc (.p (.s b.data.toList))):=by simp only [ao,bo];exact ⟨rfl,.s b⟩
theorem y8 {v u:Value}(h:ao e v (.sc (.p (.raw u)))):v=u:=by simp only [ao,bo] at h;obtain ⟨_,h⟩:=h;generalize hv:[v]=vs at h;cases h;simpa using hv
theorem J3 (u:Value)(h:u.oneCell'=true):ao e u (.sc (.p (.raw u))):=by simp only [ao,bo];exact ⟨rfl,.raw u h⟩
theorem Qr {x:Operand}(ho:o.op= .move x\/o.op= .assign x)(h:cF c Z e st a w)(hK:bM c st o.dst (aX c st x) K=some r): Rd P c Z K r e a w o (λ_=>True):=by obtain ⟨h1,h2⟩:=h.eval x;refine jR h ?_ h1 h2 hK;rcases ho with ho|ho<;>simp [execOp,ho]
theorem Sz {x:Operand}(ho:o.op= .nilCheck x)(h:cF c Z e st a w)(hK:ajk (aX c st x) (λs=>bM c st o.dst s K)=some r):Rd P c Z K r e a w o (λ_=>True):=by
 obtain ⟨h1,h2⟩:=h.eval x;unfold ajk at hK;split at hK
 ·rename_i ju;rw [ju] at h1 h2;refine jR h ?_ (v:=a.eval x) h1 h2 hK;simp only [ao] at h1;simp [execOp,ho,h1]
 ·rename_i ju;rw [ju] at h1 h2;refine jR h ?_ (v:=a.eval x) h1 h2 hK;simp only [ao] at h1;obtain ⟨bO,q,vs,Jv,h3⟩:=h1;simp [execOp,ho,Jv]
 ·simp at hK
theorem afY {x y z:Operand}(ho:o.op= .pick x y z)(h:cF c Z e st a w)(hK:aa7 (aX c st x) (aX c st y) (aX c st z) (λs=>bM c st o.dst s K)=some r):Rd P c Z K r e a w o (λ_=>True):=by
 obtain ⟨hx,_⟩:=h.eval x;obtain ⟨hy,hy2⟩:=h.eval y;obtain ⟨hz,hz2⟩:=h.eval z;have cV: ∀v,a.eval x= .bool v-> ∀w:World,(execOp a.eval o).run P w= .ok (.value (if v then a.eval y else a.eval z)) w:=by intro v hv w;simp [execOp,ho,hv,asBool]
 unfold aa7 at hK;split at hK
 ·rename_i v hv;have hxv:=AR (by rw [hv] at hx;exact hx);have hr:=cV v hxv;split at hK
  ·rename_i p q hp hq;rw [hp] at hy;rw [hq] at hz;simp only [AR hy,AR hz] at hr;refine jR h hr ?_ (s:= .sc (.p (.b (bif v then p else q)))) trivial hK;cases v
   ·exact An q
   ·exact An p
  ·cases v
   ·exact jR h hr hz hz2 hK
   ·exact jR h hr hy hy2 hK
 ·simp at hK
theorem afZ {op:UnOp}{ty:TypeId}{x:Operand}(ho:o.op= .unOp op ty x)(h:cF c Z e st a w)(hK:unK op (aX c st x) (λs=>bM c st o.dst s K)=some r):Rd P c Z K r e a w o (λ_=>True):=by
 obtain ⟨hx,_⟩:=h.eval x;generalize aX c st x=s at hx hK;unfold unK at hK;split at hK
 ·refine jR h ?_ (An _) trivial hK;simp [execOp,ho,AR hx,Op.unary]
 ·refine jR h ?_ (tK _ _) trivial hK;simp [execOp,ho,mc hx,Op.unary,afX]
 ·simp at hK
end
end Dn
/-
  The type table; numbers, texts, places, loads. Conditions: none.
-/
namespace Dn
open Go
def IQ:List Kd->Nat
 |[]=>0
 | .h::r=>32+IQ r
 |_::r=>1+IQ r
def uL (ti:Nat->Option TI)(P:Program)(I:TI)(z:Option Value):TypeDesc->Prop
 | .struct fs=>I.st=true/\I.dJ=[]/\(0<I.size/\IQ I.lay=I.size)/\fs.toList.map (·.offset)=I.Si/\fs.toList.map (·.type)=I.YV/\ (∀(k:Nat) (f:Field),fs[k]? =some f-> ∃J,ti f.type=some J/\J.dJ=[]/\0<J.size)/\ ∃cs,z=some (.agg cs)/\we I.zero cs.toList=true/\cs.size=I.size
 | .tuple ts=>I.dJ=ts.toList/\I.dJ≠[]/\I.lay=[]/\I.st=false
 | .slice el=>I.st=false/\I.dJ=[]/\I.size=1/\I.elem=el/\(∃E,ti el=some E/\E.dJ=[]/\0<E.size)/\z=some (.slice none 0 0)/\I.zero=[.nil]/\(∃k,I.lay=[k]/\k= .l)
 | .array n el=>I.st=false/\I.dJ=[]/\I.size=32/\n=32/\I.elem=el/\(∃i,P.underlying el=some (.int .u8)/\P.info? el=some i/\i.size=1)/\I.lay=[.h]/\I.zero=[.hs lp.zero]/\z=some (.agg (bV lp.zero).toArray)
 | .bool=>I.st=false/\I.dJ=[]/\I.size=1/\I.lay=[.b]/\I.zero=[.p (.b false)]/\z=some (.bool false)
 | .int k=>I.st=false/\I.dJ=[]/\I.size=1/\I.lay=[.i k]/\I.zero=[.p (.i k 0)]/\z=some (.int k 0)
 | .string=>I.st=false/\I.dJ=[]/\I.size=1/\I.lay=[.s]/\I.zero=[.p (.s [])]/\ ∃b:ByteArray,z=some (.string b)/\b.data.toList=[]
 |_=>I.st=false/\I.dJ=[]/\I.size=1/\I.lay=[.raw]/\ ∃v,z=some v/\v.oneCell'=true/\we I.zero [v]=true
def rf (ti:Nat->Option TI)(P:Program)(t:Nat)(I:TI):Prop:=∃d i,P.underlying t=some d/\P.info? t=some i/\(I.dJ=[]->i.size=I.size/\i.bytes=I.bytes)/\uL ti P I i.zero d
def lS (P:Program)(ti:Nat->Option TI):Prop:= ∀t I,ti t=some I->rf ti P t I
section
variable {P:Program}{c:Ctx}{Z:b8}{e:Env}{st:St}{a:Act}{w:World}{R:Type}{K:St->Option R}{r:R}{Q:Exit->Act->World->Prop}{o:Oper}
theorem fC {x:Bool}{k:Option R}(h:b5 x k=some r):x=true/\k=some r:=by
 cases x
 ·simp [b5] at h
 ·exact ⟨rfl,h⟩
theorem tL {α:Type}{x:Option α}{k:α->Option R}(h:bd x k=some r): ∃y,x=some y/\k y=some r:=by
 cases x with
 |none=>simp [bd] at h
 |some y=>exact ⟨y,rfl,h⟩
theorem SA {l:List MV}{i:Int}{k:MV->Option R}(h:idx l i k=some r):0<=i/\ ∃y,l[i.toNat]? =some y/\k y=some r:=by
 unfold idx ajh at h;by_cases hi:0<=i
 ·simp only [hi,if_true] at h;cases hl:l[i.toNat]? with
  |none=>simp [hl] at h
  |some y=>exact ⟨hi,y,rfl,by simpa [hl] using h⟩
 ·simp [hi] at h
theorem rf.agg {ti:Nat->Option TI}{t:Nat}{I:TI}(h:rf ti P t I)(hc:I.dJ=[]): (∃d,P.underlying t=some d/\d.isRow=true/\(I.st=true\/I.st=false/\I.size=32))\/(∃d,P.underlying t=some d/\d.isRow=false/\I.st=false/\I.size=1):=by
 obtain ⟨d,i,h1,h2,h3,h4⟩:=h;cases d<;>simp only [uL] at h4<;>first
  |exact .inl ⟨_,h1,rfl,.inl h4.1⟩
  |exact .inl ⟨_,h1,rfl,.inr ⟨h4.1,h4.2.2.1⟩⟩
  |exact .inr ⟨_,h1,rfl,h4.1,h4.2.2.1⟩
  |exact absurd hc h4.2.1
theorem rf.info {ti:Nat->Option TI}{t:Nat}{I:TI}(h:rf ti P t I)(hc:I.dJ=[]): ∃i,P.info? t=some i/\i.size=I.size/\i.bytes=I.bytes:=by obtain ⟨d,i,h1,h2,h3,h4⟩:=h;exact ⟨i,h2,h3 hc⟩
theorem cz {t:Nat}{I:TI}(h:c.tv t=some I):c.ti t=some I/\I.dJ=[]:=by
 unfold Ctx.tv at h;cases hc:c.ti t with
 |none=>simp [hc] at h
 |some J=>
  cases hj:J.dJ with
  |nil=>simp [hc,hj] at h;subst h;exact ⟨rfl,hj⟩
  |cons x y=>simp [hc,hj] at h
theorem VI {s t:TypeId}{x:Operand}{I:TI}(ho:o.op= .convert s t x)(hI:c.ti t=some I)(hT:lS P c.ti)(hs: ∃d,P.underlying s=some d){fk:Option FloatKind}(J4: ∀k,fk=some k->P.underlying t=some (.float k))(h:cF c Z e st a w)(hK:aa8 I fk (aX c st x) (λs=>bM c st o.dst s K)=some r):Rd P c Z K r e a w o (λ_=>True):=by
 obtain ⟨hx,_⟩:=h.eval x;obtain ⟨ds,hds⟩:=hs;obtain ⟨d,i,h1,h2,h3,h4⟩:=hT t I hI;generalize aX c st x=s' at hx hK;unfold aa8 at hK;split at hK
 ·rename_i k k' n jf Sa hl;have hd:d= .int k:=by cases d<;>simp only [uL,hl,jf,Sa] at h4<;>simp_all
  subst hd;refine jR h ?_ (tK _ _) trivial hK;simp [execOp,ho,mc hx,convert,run_underlying hds,run_underlying h1,Conv.intToInt]
 ·rename_i l jf Sa hl;have hd:d= .string:=by cases d<;>simp only [uL,hl,jf,Sa] at h4<;>simp_all
  subst hd;obtain ⟨b,hb,rfl⟩:=HV hx;refine jR h ?_ (aby b) trivial hK;simp [execOp,ho,hb,convert,run_underlying hds,run_underlying h1]
 ·rename_i k x jf Sa hl;have hd:d= .int k:=by cases d<;>simp only [uL,hl,jf,Sa] at h4<;>simp_all
  subst hd;obtain ⟨n,hn,hK⟩:=tL hK;obtain ⟨hr,hK⟩:=fC hK;have hr:=of_decide_eq_true hr;refine jR h ?_ (tK _ _) trivial hK;simp [execOp,ho,y8 hx,convert,run_underlying hds,run_underlying h1,Conv.floatToInt,hn,hr]
 ·rename_i k n jf Sa hl;split at hK
  ·have Jv:=J4 _ rfl;refine jR h ?_ (J3 _ rfl) trivial hK;simp [execOp,ho,mc hx,convert,run_underlying hds,run_underlying Jv,Conv.intToFloat]
  ·simp at hK
 ·simp at hK
theorem af0 {op:BinOp}{k:IntKind}{x y:Int}{m:MV}{t:TypeId}(hm:Xu op k x y=some m): ∃v,(∀w:World,(binOp op t (.int k x) (.int k y)).run P w= .ok v w)/\ao e v (.sc (.p m)):=by
 cases op<;>simp only [Xu,IN,reduceCtorEq] at hm<;>subst hm
 ·exact ⟨_,by simp [binOp,afX],tK _ _⟩
 ·exact ⟨_,by simp [binOp,afX],tK _ _⟩
 ·exact ⟨_,by simp [binOp,afX],tK _ _⟩
 ·exact ⟨.int k (Vq k x y),λw=>by simp [binOp];rfl,tK _ _⟩
 ·exact ⟨.int k (bOr k x y),λw=>by simp [binOp];rfl,tK _ _⟩
 ·exact ⟨.int k (GW k x y),λw=>by simp [binOp];rfl,tK _ _⟩
 ·refine ⟨.bool (decide (x=y)),λw=> ?_,An _⟩;simp [binOp,afG];rfl
 ·refine ⟨.bool (!decide (x=y)),λw=> ?_,An _⟩;simp [binOp,afG];rfl
 ·exact ⟨.bool (decide (x<y)),by simp [binOp,afG],An _⟩
 ·exact ⟨.bool (decide (x<=y)),by simp [binOp,afG],An _⟩
 ·exact ⟨.bool (decide (y<x)),by simp [binOp,afG],An _⟩
 ·exact ⟨.bool (decide (y<=x)),by simp [binOp,afG],An _⟩
theorem toList_data (b:ByteArray):b.toList=b.data.toList:=by exact ByteArray.toList_eq b
theorem af1 {op:BinOp}{x y:ByteArray}{m:MV}{t:TypeId}(hm:Qi op x.data.toList y.data.toList=some m): ∃v,(∀w:World,(binOp op t (.string x) (.string y)).run P w= .ok v w)/\ao e v (.sc (.p m)):=by
 have auh:(x.data.toList==y.data.toList)=decide (x.data.toList=y.data.toList):=by rw [Bool.eq_iff_iff];simp
 cases op<;>simp only [Qi,IN,reduceCtorEq] at hm<;>subst hm<;> exact ⟨_,λw=>by simp only [binOp,Op.stringOp,toList_data,auh];rfl,An _⟩
theorem Y5 (b:ByteArray)(n:Nat):b[n]? =b.data.toList[n]? :=by
 by_cases h:n<b.size
 ·have h2:n<b.data.toList.length:=by simpa using h
  rw [getElem?_pos b n h,IT h2];rfl
 ·have h2: ¬n<b.data.toList.length:=by simpa using h
  rw [getElem?_neg b n h,acq (by omega)]
theorem DO (x:lp)(n:Nat)(h:n<32):(bV x)[n]? =some (.int .u8 ((x.l.getD n 0).toNat:Int)):=by
 have hl:n<x.l.length:=by rw [x.h];exact h
 simp [bV,aaR,List.getD,IT hl]
theorem anw {t:TypeId}{x y:Operand}{I:TI}(ho:o.op= .index t x y)(hI:c.ti t=some I)(hT:lS P c.ti)(h:cF c Z e st a w)(hK:ixK I (aX c st x) (aX c st y) (λs=>bM c st o.dst s K)=some r):Rd P c Z K r e a w o (λ_=>True):=by
 obtain ⟨hx,_⟩:=h.eval x;obtain ⟨hy,_⟩:=h.eval y;obtain ⟨d,i,h1,h2,h3,h4⟩:=hT t I hI;generalize aX c st x=sx at hx hK;generalize aX c st y=sy at hy hK;unfold ixK at hK;split at hK
 ·rename_i l k n jf hl;have hd:d= .string:=by cases d<;>simp only [uL,hl,jf] at h4<;>simp_all
  subst hd;cases hc:decide ((0:Int)<=n/\n<(l.length:Int)) with
  |false=>simp [b5,hc] at hK
  |true=>
   simp only [b5,hc] at hK;obtain ⟨hn0,Sb⟩:=of_decide_eq_true hc;obtain ⟨b,hb,rfl⟩:=HV hx;have eE:n.toNat<b.data.toList.length:=by omega
   refine jR h ?_ (tK .u8 ((b.data.toList.getD n.toNat 0).toNat:Int)) trivial hK;have hg:b[n.toNat]? =some (b.data.toList.getD n.toNat 0):=by rw [Y5,IT eE];simp [List.getD,IT eE]
   simp [execOp,ho,hb,mc hy,Instr.index,run_underlying h1,asIntOf,hn0,hg]
 ·rename_i b k n jf hl;cases d<;>simp only [uL,hl,jf] at h4<;>first|(exfalso;simp_all;done)|skip
  rename_i len el;cases hc:decide ((0:Int)<=n/\n<32) with
  |false=>simp [b5,hc] at hK
  |true=>
   simp only [b5,hc] at hK;obtain ⟨hn0,Sb⟩:=of_decide_eq_true hc;simp only [ao] at hx;obtain ⟨_,_,_,rfl,_,⟨ie,hu,ED,AF⟩,_⟩:=h4;refine jR h ?_ (tK .u8 ((b.l.getD n.toNat 0).toNat:Int)) trivial hK;have hg:=DO b n.toNat (by omega);have hg':(bV b).toArray[n.toNat]? =some (.int .u8 ((b.l.getD n.toNat 0).toNat:Int)):=by simpa using hg
   simp [execOp,ho,hx,mc hy,Instr.index,run_underlying h1,asIntOf,hn0,Sb,ahf,isAgg,run_underlying hu,aaT,typeInfo,ED,AF,hg,hg']
 ·simp at hK
def Qs (P:Program)(ti:Nat->Option TI):Prop:= ∀t I,ti t=some I->I.dJ=[]-> ∀(e:Env) (w:World) (vx vy:Value) (sx sy:Slot) (b:Bool),ao e vx sx->ao e vy sy-> gn I.lay (ba sx)=true->gn I.lay (ba sy)=true->nT I.st sx=true->nT I.st sy=true->km (ba sx) (ba sy)=some b-> (∀k n k' n',sx= .sc (.p (.i k n))->sy= .sc (.p (.i k' n'))->False)->(∀l l',sx= .sc (.p (.s l))->sy= .sc (.p (.s l'))->False)-> (ahn t vx vy).run P w= .ok b w/\ ∀(x y:Operand) (op:BinOp),(eqGuard op t x y vx vy).run P w= .ok () w/\(op= .eql->binOp op t vx vy=(do pure (.bool (<-ahn t vx vy))))/\(op= .neq->binOp op t vx vy=(do pure (.bool (!(<-ahn t vx vy)))))
theorem abz {op:BinOp} {t t':TypeId}{x y:Operand}(ho:o.op= .binOp op t x y t')(h:cF c Z e st a w)(hE:Qs P c.ti)(hK:ajj (c.tv t) op (aX c st x) (aX c st y) (λs=>bM c st o.dst s K)=some r):Rd P c Z K r e a w o (λ_=>True):=by
 obtain ⟨hx,_⟩:=h.eval x;obtain ⟨hy,_⟩:=h.eval y;generalize hsx:aX c st x=sx at hx hK;generalize hsy:aX c st y=sy at hy hK;have cV: ∀v,(∀w:World,(binOp op t (a.eval x) (a.eval y)).run P w= .ok v w)->(∀cs,a.eval x≠ .agg cs)->a.eval x≠ .nilIface-> ∀w:World,(execOp a.eval o).run P w= .ok (.value v) w:=by
  intro v hv hna hni w;have hg:(eqGuard op t x y (a.eval x) (a.eval y)).run P w= .ok () w:=by
   generalize a.eval x=va at hna hni;generalize a.eval y=vb;have hm: ∀(u v:Value),u=va->(∀cs,u≠ .agg cs)->u≠ .nilIface->(eqGuard op t x y u v).run P w= .ok () w:=by
    intro u v _ h1 h2;cases u<;>first
     |exact absurd rfl h2
     |exact absurd rfl (h1 _)
     |(cases op<;>rfl)
   exact hm va vb rfl hna hni
  simp [execOp,ho,hg,hv]
 unfold ajj at hK;split at hK
 ·rename_i k n k' n';have e1:=mc hx;have e2:=mc hy;split at hK
  ·cases hk:decide (k=k') with
   |false=>simp [hk] at hK
   |true=>
    have hk:=of_decide_eq_true hk;subst hk;simp only [decide_true,cond_true] at hK;cases hz:decide (n'=0) with
    |true=>simp [b5,hz] at hK
    |false=>simp only [b5,hz,ahh] at hK;have hz:=of_decide_eq_false hz;refine jR h (cV _ ?_ (by simp [e1]) (by simp [e1])) (tK _ _) trivial hK;simp [binOp,e1,e2,Op.intDiv,hz]
  ·cases hk:decide (k=k') with
   |false=>simp [hk] at hK
   |true=>
    have hk:=of_decide_eq_true hk;subst hk;simp only [decide_true,cond_true] at hK;cases hz:decide (n'=0) with
    |true=>simp [b5,hz] at hK
    |false=>simp only [b5,hz,ahh] at hK;have hz:=of_decide_eq_false hz;refine jR h (cV _ ?_ (by simp [e1]) (by simp [e1])) (tK _ _) trivial hK;simp [binOp,e1,e2,Op.intDiv,hz]
  ·cases hz:decide ((0:Int)<=n') with
   |false=>simp [b5,hz] at hK
   |true=>
    simp only [b5,hz] at hK;have hz:=of_decide_eq_true hz;refine jR h (cV _ ?_ (by simp [e1]) (by simp [e1])) (tK _ _) trivial hK;have: ¬n'<0:=by omega
    simp [binOp,e1,e2,Op.shift,this]
  ·cases hz:decide ((0:Int)<=n') with
   |false=>simp [b5,hz] at hK
   |true=>
    simp only [b5,hz] at hK;have hz:=of_decide_eq_true hz;refine jR h (cV _ ?_ (by simp [e1]) (by simp [e1])) (tK _ _) trivial hK;have: ¬n'<0:=by omega
    simp [binOp,e1,e2,Op.shift,this]
  ·cases hk:decide (k=k') with
   |false=>simp [hk] at hK
   |true=>
    have hk:=of_decide_eq_true hk;subst hk;simp only [decide_true,cond_true] at hK;cases hm:Xu op k n n' with
    |none=>simp [hm] at hK
    |some m=>simp only [hm] at hK;obtain ⟨v,hv,hr⟩:=af0 (P:=P) (e:=e) (t:=t) hm;exact jR h (cV v (by rw [e1,e2];exact hv) (by simp [e1]) (by simp [e1])) hr trivial hK
 ·rename_i l l';obtain ⟨b,hb,rfl⟩:=HV hx;obtain ⟨b',EO,rfl⟩:=HV hy;split at hK
  ·obtain ⟨hz,hK⟩:=fC hK
   ·have hz:=of_decide_eq_true hz;have hr:ao e (.string (b++b')) (.sc (.p (.s (b.data.toList++b'.data.toList)))):=by have:=aby (e:=e) (b++b');simpa [ByteArray.data_append] using this
    refine jR h (cV _ ?_ (by simp [hb]) (by simp [hb])) hr trivial hK;have hs: ¬(((b.size+b'.size:Nat):Int)>IntKind.i64.max):=by
     have h1:b.size=b.data.toList.length:=by simp
     have h2:b'.size=b'.data.toList.length:=by simp
     have:IntKind.i64.max=9223372036854775807:=by decide
     rw [this];omega
    intro w;simp only [binOp,hb,EO,Op.stringOp,hs,if_false];rfl
  ·cases hm:Qi op b.data.toList b'.data.toList with
   |none=>simp [hm] at hK
   |some m=>simp only [hm] at hK;obtain ⟨v,hv,hr⟩:=af1 (P:=P) (e:=e) (t:=t) hm;exact jR h (cV v (by rw [hb,EO];exact hv) (by simp [hb]) (by simp [hb])) hr trivial hK
 ·have e1:=y8 hx;have e2:=y8 hy;obtain ⟨r',hr',hK⟩:=tL hK;refine jR h (cV _ ?_ (by simp [e1]) (by simp [e1])) (J3 (.float .f64 r') rfl) trivial hK;intro w;cases op<;>simp only [ani,reduceCtorEq] at hr'<;>simp [binOp,e1,e2,Op.floatArith,hr']
 ·rename_i Sb Qt hn3;split at hK
  ·rename_i I hI;obtain ⟨VJ,Vg⟩:=cz hI;cases hf:gn I.lay (ba sx)&&gn I.lay (ba sy)&&(nT I.st sx&&nT I.st sy) with
   |false=>simp [hf] at hK
   |true=>
    simp only [hf,cond_true] at hK;simp only [aaM] at hf;obtain ⟨hf,hsh⟩:=hf;split at hK
    ·cases hm:km (ba sx) (ba sy) with
     |none=>simp [hm] at hK
     |some b=>simp only [hm] at hK;refine jR h ?_ (An b) trivial hK;intro w;obtain ⟨h1,h2⟩:=hE t I VJ Vg e w _ _ sx sy b hx hy hf.1 hf.2 hsh.1 hsh.2 hm Sb Qt;have:=(h2 x y .eql).1;simp [execOp,ho,this,(h2 x y .eql).2.1 rfl,h1]
    ·cases hm:km (ba sx) (ba sy) with
     |none=>simp [hm] at hK
     |some b=>simp only [hm] at hK;refine jR h ?_ (An (!b)) trivial hK;intro w;obtain ⟨h1,h2⟩:=hE t I VJ Vg e w _ _ sx sy b hx hy hf.1 hf.2 hsh.1 hsh.2 hm Sb Qt;have:=(h2 x y .neq).1;simp [execOp,ho,this,(h2 x y .neq).2.2 rfl,h1]
    ·simp at hK
  ·simp at hK
end
end Dn
/-
  Lengths, parts, places, loads. Conditions: none.
-/
namespace Dn
open Go
section
variable {P:Program}{c:Ctx}{Z:b8}{e:Env}{st:St}{a:Act}{w:World}{R:Type}{K:St->Option R}{r:R}{Q:Exit->Act->World->Prop}{o:Oper}
theorem cell_of {bO:Nat}{arr:Array Value}{T:TypeId}{fr:Nat×Nat}(h:w.heap[bO]? =some (.cells arr T fr))(j:Nat):w.cell? ⟨bO,j,none⟩=arr[j]? :=by simp [World.cell?,h]
theorem uM {t:TypeId}{I:TI}{bO off:Nat}{vs:List Value}(hr:rf c.ti P t I)(hc:I.dJ=[])(hl:vs.length=I.size)(hm:w.rangeAt bO off vs): ((I.st=true\/I.size=32)/\ ∀w:World,w.rangeAt bO off vs->(adO t (.pointer (some ⟨bO,off,none⟩))).run P w= .ok (.agg vs.toArray) w)\/ (I.st=false/\ ∃v,vs=[v]/\ ∀w:World,w.rangeAt bO off vs->(adO t (.pointer (some ⟨bO,off,none⟩))).run P w= .ok v w):=by
 obtain ⟨i,hi,hs,_⟩:=hr.info hc;rcases hr.agg hc with ⟨d,hu,hd,hh⟩|⟨d,hu,hd,h1,h2⟩
 ·refine .inl ⟨hh.imp id (·.2),λw hm=> ?_⟩;exact run_loadAt_mid w bO off t vs d hm hu hd (by simp [hi,hs,hl])
 ·refine .inr ⟨h1,?_⟩;rw [h2] at hl;obtain ⟨v,rfl⟩:=afL.1 hl;refine ⟨v,rfl,λw hm=> ?_⟩;have C8:w.cell? ⟨bO,off,none⟩=some v:=hm 0 v rfl;have hag:(isAgg t).run P w= .ok false w:=by unfold isAgg;rw [agO,run_underlying hu w];cases d<;>simp_all
  simp [adO,afA,loadVar,hag,C8]
theorem bo.slot {vs:List Value}{l:aT}{v:Value}(h:bo e vs l)(hv:(vs=[v]/\l.w=1)\/(v= .agg vs.toArray/\l.w=32)):ao e v (.sc l):=by
 rcases hv with ⟨rfl,hw⟩|⟨rfl,hw⟩
 ·cases l<;>simp [ao,aT.w] at hw⊢ <;>exact h
 ·cases l<;>simp [aT.w] at hw;simp only [ao];have:vs=bV _:=h;rw [this]
theorem kY {t:TypeId}{I:TI}{cs:List aT}{bO base off:Nat}{vs:List Value}{s:Slot} {K':Slot->Option R}(hr:rf c.ti P t I)(hc:I.dJ=[])(hv:aM e vs cs)(hm:w.rangeAt bO base vs)(hK:lr I cs off K'=some r): ∃v s,(∀w:World,w.rangeAt bO base vs->(adO t (.pointer (some ⟨bO,base+off,none⟩))).run P w= .ok v w)/\ao e v s/\dq st.fr s/\K' s=some r:=by
 unfold lr at hK;cases jf:I.st with
 |true=>
  simp only [jf,cond_true] at hK;cases hp:Dn.part cs off I.size with
  |none=>simp [hp] at hK
  |some ds=>
   simp only [hp] at hK;obtain ⟨v1,v2,v3,rfl,h1,h2,h3⟩:=Ou hp hv;have XC: ∀w:World,w.rangeAt bO base (v1++v2++v3)->w.rangeAt bO (base+off) v2:=by intro w hm j v hj;have Vh:j<v2.length:=(BY.1 hj).1;have:=hm (off+j) v (by rw [AI,aay (by omega),aaH (by omega)];rw [show off+j-v1.length=j by omega];exact hj);rwa [<-acZ] at this
   rcases uM hr hc h2 (XC w hm) with ⟨_,cV⟩|⟨hf,_⟩
   ·refine ⟨_,.ag ds,λw hm=>cV w (XC w hm),?_,trivial,hK⟩;simp only [ao];exact ⟨_,rfl,by simpa using h3⟩
   ·rw [jf] at hf;cases hf
 |false=>
  simp only [jf,cond_false] at hK;cases hp:cut cs off with
  |none=>simp [hp] at hK
  |some ds=>
   cases ds with
   |nil=>simp [hp] at hK
   |cons l ls=>
    simp only [hp] at hK;cases hb:fj l.w I.size with
    |false=>simp [hb] at hK
    |true=>
     simp only [hb,cond_true] at hK;have hw:=sh hb;obtain ⟨v1,v2,rfl,h1,h2⟩:=AP hp hv;obtain ⟨u,u2,rfl,h3,h4⟩:=h2;have XC: ∀w:World,w.rangeAt bO base (v1++(u++u2))->w.rangeAt bO (base+off) u:=by intro w hm j v hj;have Vh:j<u.length:=(BY.1 hj).1;have:=hm (off+j) v (by rw [aay (by omega),aaH (by omega)];rw [show off+j-v1.length=j by omega];exact hj);rwa [<-acZ] at this
     rcases uM hr hc (by rw [h3.width,hw]) (XC w hm) with ⟨hh,cV⟩|⟨_,v,SB,cV⟩
     ·refine ⟨_,.sc l,λw hm=>cV w (XC w hm),h3.slot (.inr ⟨rfl,?_⟩),trivial,hK⟩;rcases hh with hh|hh
      ·rw [jf] at hh;cases hh
      ·rw [hw,hh]
     ·refine ⟨_,.sc l,λw hm=>cV w (XC w hm),h3.slot (.inl ⟨SB,?_⟩),trivial,hK⟩;rw [<-h3.width,SB];rfl
theorem bQ.at {key:Nat->Nat} {φ:Ph}{size:Nat}{xs:List MV}: ∀{cs:List Value} {i:Nat} {x:MV},bQ key φ size cs xs->xs[i]? =some x-> ∃a v b,cs=a++v++b/\a.length=i *size/\v.length=size/\nr key φ v x:=by
 induction xs with
 |nil=>intro cs i x _ hx;simp at hx
 |cons y ys ih=>
  intro cs i x h hx;obtain ⟨v,q,rfl,hl,hr,he⟩:=h;cases i with
  |zero=>simp at hx;subst hx;exact ⟨[],v,q,by simp,by simp,hl,hr⟩
  |succ i=>obtain ⟨a,u,b,rfl,h1,h2,h3⟩:=ih he (by simpa using hx);exact ⟨v++a,u,b,by simp,by simp [hl,h1,aa1,agQ],h2,h3⟩
theorem jt.leaves {ms:List MV}: ∀{vs:List Value} {cs:List aT},jt e.key e.φ vs ms->cj cs=some ms->(∀m,aT.p m∈cs->m.one=true)->aM e vs cs:=by
 induction ms with
 |nil=>
  intro vs cs h hc _;cases h;cases cs with
  |nil=>rfl
  |cons l r=>cases hr:cj r<;>cases l<;>simp [cj,hr] at hc
 |cons m ms ih=>
  intro vs cs h hc ho;cases cs with
  |nil=>simp [cj] at hc
  |cons l r=>
   generalize C9:vs=Vi at h;cases h with
   |cons v _ vs _ h1 h2=>
   subst C9;cases hr:cj r with
   |none=>cases l<;>simp [cj,hr] at hc
   |some q=>
    have dr: ∀m,aT.p m∈r->m.one=true:=λm hm=>ho m (by simp [hm]);cases l<;>simp [cj,hr] at hc
    ·obtain ⟨rfl,rfl⟩:=hc;exact ⟨v,vs,rfl,⟨ho _ (by simp),h1⟩,ih h2 hr dr⟩
    ·obtain ⟨rfl,rfl⟩:=hc;refine ⟨v,vs,rfl,?_,ih h2 hr dr⟩;generalize hv:v=v' at h1;cases h1;exact rfl
theorem nr.J5 {vs:List Value}{x:MV}{b:Bool}{cs:List aT}(h:nr e.key e.φ vs x)(hc:JT b x cs):aM e vs cs:=by
 obtain ⟨⟨ms,h1,h2⟩,h3⟩:=hc;cases b with
 |true=>cases ms<;>simp [xg] at h2<;>subst h2<;>(generalize hv:vs=v' at h;cases h;subst hv;rename_i hh;exact hh.leaves h1 h3)
 |false=>
  cases ms with
  |nil=>simp [xg] at h2
  |cons m ms=>
   cases ms with
   |cons y ys=>simp [xg] at h2
   |nil=>simp [xg] at h2;subst h2;have:jt e.key e.φ (vs++[]) [m]:= .cons vs m [] [] h .nil;rw [List.append_nil] at this;exact this.leaves h1 h3
theorem abB {t:TypeId}{x:Operand}{I:TI}{cs:List aT}{off:Nat}(ho:o.op= .load t x)(hI:c.tv t=some I)(hT:lS P c.ti)(h:cF c Z e st a w)(Nd:aX c st x= .rp cs off)(hK:lr I cs off (λs=>bM c st o.dst s K)=some r):Rd P c Z K r e a w o (λw'=> ∀b q v,e.φ b q=some v->w'.cell? ⟨b,q,none⟩=some v):=by
 obtain ⟨hx,sB⟩:=h.eval x;obtain ⟨qe,hc⟩:=cz hI;have hr:=hT t I qe;rw [Nd] at hx;simp only [ao] at hx;obtain ⟨bO,q,vs,hx,tM,_,G5⟩:=hx;have hm: ∀w':World,(∀b q v,e.φ b q=some v->w'.cell? ⟨b,q,none⟩=some v)->w'.rangeAt bO q vs:=by intro w' hi j v hj;have Vh:j<vs.length:=(BY.1 hj).1;exact hi _ _ _ (by rw [G5 j Vh];exact hj)
 obtain ⟨v,s,h1,h2,h3,h4⟩:=kY (st:=st) (s:= .skip) hr hc tM (hm w h.q9) hK;refine VH (λw' hi=> ?_) h (.refl _ _ _) (.of h2 h3) h4;simp [execOp,ho,hx,h1 w' (hm w' hi)]
theorem af2 {t:TypeId}{x:Operand}{I:TI}(ho:o.op= .load t x)(hI:c.tv t=some I)(hT:lS P c.ti)(h:cF c Z e st a w)(hK:ldK st I (aX c st x) (λs=>bM c st o.dst s K)=some r):Rd P c Z K r e a w o (fa w):=by
 obtain ⟨hx,sB⟩:=h.eval x;obtain ⟨qe,hc⟩:=cz hI;have hr:=hT t I qe;have af3: ∀v s,(∀w':World,fa w w'->(adO t (a.eval x)).run P w'= .ok v w')->ao e v s->dq st.fr s->bM c st o.dst s K=some r->Rd P c Z K r e a w o (fa w):=by intro v s h1 h2 h3 h4;refine VH (λw' hg=> ?_) h (.refl _ _ _) (.of h2 h3) h4;simp [execOp,ho,h1 w' hg]
 have keep: ∀{w':World} {bO off:Nat} {vs:List Value},fa w w'->w.rangeAt bO off vs->w'.rangeAt bO off vs:=by intro w' bO off vs hg hm j v hj;exact hg.cell (hm j v hj)
 generalize aX c st x=s at hx hK sB;unfold ldK at hK;split at hK
 ·rename_i root off;simp only [ao] at hx;have nt:=h.slot root;split at hK
  ·rename_i cs AS;rw [AS] at nt;have xJ:gY cs=false:=by cases hq:gY cs<;>simp_all
   simp only [xJ,cond_false] at hK;obtain ⟨_,tJ⟩:=nt;obtain ⟨arr,T,fD,tM⟩:=tJ.cells xJ;have hm:w.rangeAt (e.B root) 0 arr.toList:=by intro j v hj;rw [aaO,cell_of fD];simpa using hj
   obtain ⟨v,s,h1,h2,h3,h4⟩:=kY (st:=st) (s:= .skip) hr hc tM hm hK;rw [aaO] at h1;exact af3 v s (λw' hg=>by rw [hx];exact h1 w' (keep hg hm)) h2 h3 h4
  ·simp at hK
 ·rename_i cs off;simp only [ao] at hx;obtain ⟨bO,q,vs,hx,tM,_,G5⟩:=hx;have hm:w.rangeAt bO q vs:=by intro j v hj;have Vh:j<vs.length:=(BY.1 hj).1;exact h.q9 _ _ _ (by rw [G5 j Vh];exact hj)
  obtain ⟨v,s,h1,h2,h3,h4⟩:=kY (st:=st) (s:= .skip) hr hc tM hm hK;exact af3 v s (λw' hg=>by rw [hx];exact h1 w' (keep hg hm)) h2 h3 h4
 ·rename_i f i off b cs;cases hf:bj st.bA f with
  |none=>simp [hf] at hK
  |some o'=>
   simp only [hf] at hK;simp only [ao] at hx;obtain ⟨bO,cap,hE,⟨x,hxi,hel⟩,hx⟩:=hx o' (by rw [h.m];exact hf);obtain ⟨J,cells,hJ,hJc,gh,qf,_⟩:=(h.jr f o' hf).row;obtain ⟨p1,v1,p2,rfl,Vj,DM,iw⟩:=qf.at hxi;have tM:=iw.J5 hel;rw [hE] at gh;have C8:=gh.cells (g:=bO) rfl;have hm:w.rangeAt bO (i *AK cs) v1:=by intro j v hj;have Vh:j<v1.length:=(BY.1 hj).1;have:=C8 (i *J.size+j) v (by rw [AI,aay (by omega),aaH (by omega)];rw [show i *J.size+j-p1.length=j by omega];exact hj);rw [abR,aaO] at this;rw [<-tM.width,DM];exact this
   obtain ⟨v,s,h1,h2,h3,h4⟩:=kY (st:=st) (s:= .skip) hr hc tM hm hK;exact af3 v s (λw' hg=>by rw [hx];exact h1 w' (keep hg hm)) h2 h3 h4
 ·rename_i root off i;simp only [ao] at hx;obtain ⟨hx,VK⟩:=hx;have nt:=h.slot root;cases hb:I.st||!fj I.size 1 with
  |true=>simp [hb] at hK
  |false=>
   simp only [hb,cond_false] at hK;simp only [aaX,afB] at hb;have ug:=sh hb.2;split at hK
   ·rename_i cs AS;rw [AS] at nt;have xJ:gY cs=false:=by cases hq:gY cs<;>simp_all
    simp only [xJ,cond_false] at hK;obtain ⟨_,tJ⟩:=nt;obtain ⟨arr,T,fD,tM⟩:=tJ.cells xJ;split at hK
    ·rename_i b ls ajx;obtain ⟨v1,v2,aui,h1,h2⟩:=AP ajx tM;obtain ⟨u,u2,rfl,h3,h4⟩:=h2;have h3:u=bV b:=h3;subst h3;have hg:=DO b i VK;have hlen:=dL b;have hm:w.rangeAt (e.B root) (off+i) [.int .u8 ((b.l.getD i 0).toNat:Int)]:=by
      intro j v hj;cases j with
      |succ j=>simp at hj
      |zero=>
       simp at hj;rw [afs,cell_of fD];have:arr[off+i]? =arr.toList[off+i]? :=by simp
       rw [this,aui,aay (by omega),aaH (by omega),show off+i-v1.length=i by omega,hg,<-hj];simp [List.getD]
     rcases uM hr hc (by simp [ug]) hm with ⟨hh,_⟩|⟨_,v,SB,cV⟩
     ·rcases hh with hh|hh
      ·rw [hb.1] at hh;cases hh
      ·omega
     ·simp at SB;subst SB;exact af3 _ _ (λw' hg=>by rw [hx];exact cV w' (keep hg hm)) (tK _ _) trivial hK
    ·simp at hK
   ·simp at hK
 ·simp at hK
theorem Y6 {t:TypeId}{x:Operand}{f:Nat}{I:TI}(ho:o.op= .fieldAddr t x f)(hI:c.tv t=some I)(hT:lS P c.ti)(h:cF c Z e st a w)(hK:aba st I f (aX c st x) (λs=>bM c st o.dst s K)=some r):Rd P c Z K r e a w o (λ_=>True):=by
 obtain ⟨hx,sB⟩:=h.eval x;obtain ⟨qe,hc⟩:=cz hI;obtain ⟨d,i,h1,h2,h3,h4⟩:=hT t I qe;have key: ∀q bO off,I.st=true->I.Si[f]? =some q->a.eval x= .pointer (some ⟨bO,off,none⟩)-> ∀w:World,(execOp a.eval o).run P w= .ok (.value (.pointer (some ⟨bO,off+q,none⟩))) w:=by
  intro q bO off jf hq hv w;cases d<;>simp only [uL] at h4;case struct fs=>
   obtain ⟨_,_,_,Y7,dr,VL,_⟩:=h4;rw [<-Y7,aaR] at hq;cases hf:fs.toList[f]? with
   |none=>simp [hf] at hq
   |some fl=>
    simp [hf] at hq;subst hq;have hf':fs[f]? =some fl:=by simpa using hf
    obtain ⟨J,hJ,hJc,hJs⟩:=VL f fl hf';obtain ⟨ij,hij,hs,_⟩:=(hT _ _ hJ).info hJc;have hz:ij.size≠0:=by omega
    simp [execOp,ho,hv,Instr.fieldAt,run_underlying h1,hf',afA,fieldPlace,aaT,typeInfo,hij,hz,abR]
  all_goals (exfalso;simp_all)
 generalize aX c st x=s at hx hK sB;unfold aba at hK;split at hK
 ·rename_i q r' o' jf hq;simp only [ao] at hx;refine jR (s:= .ptr r' (o'+q)) h (key q _ _ jf hq hx) ?_ sB hK;simp only [ao]
 ·rename_i q cs o' jf hq;simp only [ao] at hx;obtain ⟨bO,b,vs,hx,hh⟩:=hx;refine jR (s:= .rp cs (o'+q)) h (key q _ _ jf hq hx) ?_ trivial hK;simp only [ao];exact ⟨bO,b,vs,by rw [acZ],hh⟩
 ·rename_i q g i' o' b cs jf hq;cases hf:bj st.bA g with
  |none=>simp [hf] at hK
  |some w'=>simp only [hf] at hK;simp only [ao] at hx;obtain ⟨bO,cap,h5,h6,h7⟩:=hx w' (by rw [h.m];exact hf);refine jR (s:= .ep g i' (o'+q) b cs) h (key q _ _ jf hq h7) ?_ trivial hK;simp only [ao];intro o2 dr;rw [h.m,hf] at dr;cases dr;exact ⟨bO,cap,h5,h6,by rw [acZ]⟩
 ·simp at hK
theorem ajy {x:Operand}{k:Nat}(ho:o.op= .extract x k)(h:cF c Z e st a w)(hK:ajo (aX c st x) k (λs=>bM c st o.dst s K)=some r):Rd P c Z K r e a w o (λ_=>True):=by
 obtain ⟨hx,sB⟩:=h.eval x;generalize aX c st x=s at hx hK;unfold ajo at hK;split at hK
 ·rename_i vs;simp only [ao] at hx;obtain ⟨arr,hv,hs⟩:=hx;cases hk:vs[k]? with
  |none=>simp [hk] at hK
  |some s=>
   simp only [hk] at hK;have: ∀(k:Nat) (vs:List Slot) (l:List Value),lv e l vs->vs[k]? =some s-> ∃v,l[k]? =some v/\ao e v s/\C5 s=true:=by
    intro k;induction k with
    |zero=>
     intro vs l hl hk;cases vs with
     |nil=>simp at hk
     |cons y ys=>simp at hk;subst hk;simp only [lv] at hl;obtain ⟨v,q,rfl,h1,h2,_⟩:=hl;exact ⟨v,rfl,h1,h2⟩
    |succ k ih=>
     intro vs l hl hk;cases vs with
     |nil=>simp at hk
     |cons y ys=>simp only [lv] at hl;obtain ⟨v,q,rfl,_,_,h3⟩:=hl;obtain ⟨u,h4,h5⟩:=ih ys q h3 (by simpa using hk);exact ⟨u,by simpa using h4,h5⟩
   obtain ⟨v,XD,h1,h2⟩:=this k vs arr.toList hs hk;have hv3:arr[k]? =some v:=by simpa using XD
   refine jR h ?_ h1 ?_ hK
   ·simp [execOp,ho,hv,Instr.extract,hv3]
   ·cases s<;>simp [C5] at h2<;>trivial
 ·simp at hK
end
end Dn
/-
  Operations that make memory: variables. Conditions: none.
-/
namespace Dn
open Go
section
variable {P:Program}{c:Ctx}{Z:b8}{e:Env}{st:St}{a:Act} {w w':World}{R:Type}{K:St->Option R}{r:R}{Q:Exit->Act->World->Prop}{o:Oper}
theorem fa.refl (w:World):fa w w:=⟨aaI _,λ_ _=>rfl,.refl _⟩
theorem fa.alloc (w:World)(cs:Array Value)(t:TypeId):fa w (w.alloc (.cells cs t)):=⟨by simp,λb hb=>rV w _ b hb,.alloc w cs t⟩
theorem fa.auj (g:fa w w'){base:Nat}{t:TypeId}{size:Nat}{v:Value}{n:Nat}{xs:List Value}(h:w.ownsRow base t size v n xs):w'.ownsRow base t size v n xs:=by
 refine ⟨h.1,?_⟩;rcases h.2 with h|⟨b,cap,gV,h1,h2,h3,h4⟩
 ·exact .inl h
 ·exact .inr ⟨b,cap,gV,h1,h2,by rw [g.xj b (bR h3)];exact h3,h4⟩
theorem wg.grow (g:fa w w'){bO:Nat}{cs:List aT}(h:wg Z e w bO cs):wg Z e w' bO cs:=by obtain ⟨o,h1,h2⟩:=h.obj;exact ⟨h.dp,⟨o,by rw [g.xj _ (bR h1)];exact h1,h2⟩,h.free⟩
theorem eD.grow (g:fa w w'){v:Value}{f:pY}(h:eD c Z e w v f):eD c Z e w' v f:=by obtain ⟨I,cells,h1,h2,h3,h4,h5⟩:=h.row;exact ⟨I,cells,h1,h2,g.auj h3,h4,h5⟩
theorem cF.grow (g:fa w w')(h:cF c Z e st a w):cF c Z e st a w':=by refine ⟨h.defers,h.size,h.m,h.key,h.nodup,?_,h.root,λf o ho=>(h.jr f o ho).grow g,h.bb,h.bf,h.ff,λb o v hv=>g.cell (h.q9 b o v hv),λb hb=>h.dp b (adL g.size hb)⟩;intro t;have hs:=h.slot t;generalize aH st.fr t=s at hs;cases s<;>simp only [cW] at hs⊢ <;>first|exact hs|exact ⟨hs.1,hs.2.grow g⟩
theorem fa.trans (g:fa w w')(hz: ∀b,w.heap.size<=b->Z b) (φ:Ph):Trans Z φ w φ w':=⟨.refl φ,λb _ hl=>g.xj b hl,λ_ _ _=>rfl,g.size,g.rest⟩
theorem Y8 {l:aT}{vs:List Value}(h:abo l vs=true):bo e vs l:=by
 unfold abo at h;split at h
 ·simp at h;subst h;exact ⟨rfl,.b _⟩
 ·simp at h;obtain ⟨rfl,rfl⟩:=h;exact ⟨rfl,.i _ _⟩
 ·simp at h;subst h;exact ⟨rfl,.s _⟩
 ·split at h
  ·exact ⟨rfl,.raw _ rfl⟩
  ·exact ⟨rfl,.raw _ rfl⟩
  ·exact ⟨rfl,.raw _ rfl⟩
  ·simp at h
 ·rfl
 ·exact ⟨_,rfl,h⟩
 ·rename_i x;simp only [aaM,beq_iff_eq] at h;obtain ⟨h1,h2⟩:=h;show vs=bV x;apply List.ext_getElem?;intro j;by_cases hj:j<32
  ·rw [DO x j hj];have hjv:j<vs.length:=by omega
   have M5:j<x.l.length:=by rw [x.h];exact hj
   rw [agZ] at h2;have hm:(vs[j],x.l[j])∈vs.zip x.l:=af4.2 ⟨j,by simp;omega,by simp⟩;have:=h2 _ hm;rw [IT hjv];dsimp only at this;split at this
   ·rename_i n hn;rw [hn,of_decide_eq_true this];simp [List.getD,IT M5]
   ·simp at this
  ·rw [acq (by omega),acq (by rw [dL];omega)]
 ·simp at h
theorem mJ {ls:List aT}: ∀{vs:List Value},we ls vs=true->aM e vs ls:=by
 induction ls with
 |nil=>intro vs h;simpa [we,aM] using h
 |cons l r ih=>intro vs h;simp only [we,aaM] at h;exact ⟨vs.take l.w,vs.drop l.w,by simp,Y8 h.1.1,ih h.1.2⟩
theorem aM.AU {cs:List aT}{vs:List Value}(h:aM e vs cs):gY cs=false:=by
 cases hm:gY cs with
 |false=>rfl
 |true=>obtain ⟨s,ms,rfl⟩:=Qp hm;obtain ⟨_,_,_,h1,_⟩:=h;exact h1.elim
theorem J6 (h:cF c Z e st a w)(off:Nat):e.φ w.heap.size off=none:=by
 cases hp:e.φ w.heap.size off with
 |none=>rfl
 |some v=>have:=aaN w _ (h.q9 _ _ _ hp);simp at this
theorem BU (h:cF c Z e st a w):(∀t j9,aH st.fr t= .box j9->e.B t≠w.heap.size)/\(∀f o,bj st.bA f=some o->(e.E f).ownBlock≠some w.heap.size):=by
 refine ⟨?_,?_⟩
 ·intro t j9 ht;have hs:=h.slot t;rw [ht] at hs;obtain ⟨o,h1,_⟩:=hs.2.obj;have:=bR h1;omega
 ·intro f o ho hk;obtain ⟨I,cells,h1,h2,h3,h4,h5⟩:=(h.jr f o ho).row;rcases h3.2 with ⟨hv,_⟩|⟨g,cap,gV,hv,_,hg,_⟩
  ·rw [hv] at hk;simp [No] at hk
  ·rw [hv] at hk;simp only [No,IN] at hk;have:=bR hg;omega
theorem XE {cells:Array Value}{T:TypeId}{cs:List aT}(h:cF c Z e st a w)(hl:aM e cells.toList cs): rr Z e (w.alloc (.cells cells T)) st (.pointer (some ⟨w.heap.size,0,none⟩)) (.box cs):=by exact ⟨w.heap.size,by rw [xi hl.AU],⟨h.dp _ (aaI _),⟨_,kb w _,rfl,hl⟩,J6 h⟩,(BU h).1,(BU h).2⟩
theorem abC {t:TypeId}{I:TI}(ho:o.op= .alloc t)(hI:c.tv t=some I)(hT:lS P c.ti)(h:cF c Z e st a w)(hK:bM c st o.dst (.box I.zero) K=some r):o.wp P a w (λa' w'=>fa w w'/\Out c Z K r e.φ w a' w') Q:=by
 obtain ⟨qe,hc⟩:=cz hI;obtain ⟨d,i,h1,h2,h3,h4⟩:=hT t I qe;have hz: ∃z,i.zero=some z/\aM e z.cells.toList I.zero:=by
  cases d<;>simp only [uL] at h4;case struct fs=>obtain ⟨_,_,_,_,_,_,cs,hz,hl,_⟩:=h4;exact ⟨_,hz,by simpa [aaJ] using mJ hl⟩
  case tuple ts=>exact absurd hc h4.2.1
  case slice el=>obtain ⟨_,_,_,_,_,hz,hl,_⟩:=h4;exact ⟨_,hz,by rw [hl];exact ⟨[.slice none 0 0],[],rfl,rfl,rfl⟩⟩
  case array n el=>obtain ⟨_,_,_,_,_,_,_,hl,hz⟩:=h4;exact ⟨_,hz,by rw [hl];exact ⟨bV lp.zero,[],by simp [aaJ],rfl,rfl⟩⟩
  case bool=>obtain ⟨_,_,_,_,hl,hz⟩:=h4;exact ⟨_,hz,by rw [hl];exact ⟨[.bool false],[],rfl,⟨rfl,.b _⟩,rfl⟩⟩
  case int k=>obtain ⟨_,_,_,_,hl,hz⟩:=h4;exact ⟨_,hz,by rw [hl];exact ⟨[.int k 0],[],rfl,⟨rfl,.i _ _⟩,rfl⟩⟩
  case string=>obtain ⟨_,_,_,_,hl,b,hz,hb⟩:=h4;refine ⟨_,hz,by rw [hl];refine ⟨[.string b],[],rfl,⟨rfl,?_⟩,rfl⟩;rw [<-hb];exact .s b⟩
  all_goals
   obtain ⟨_,_,_,_,v,hz,hv,hl⟩:=h4;refine ⟨v,hz,?_⟩;have:v.cells.toList=[v]:=by cases v<;>simp_all [aaJ,aav]
   rw [this];exact mJ hl
 obtain ⟨z,hz,hl⟩:=hz;have cV:(execOp a.eval o).run P w= .ok (.value (.pointer (some ⟨w.heap.size,0,none⟩))) (w.alloc (.cells z.cells t)):=by simp [execOp,ho,Instr.alloc,zeroValue,typeInfo,h2,hz,newVar,newRow,newObj,Sem.run]
 exact Y4 (.alloc w _ _) cV (h.grow (.alloc w _ _)) ((fa.alloc w _ _).trans h.dp _) (XE h hl) hK
theorem ajz {t:TypeId}{x:Operand}{I:TI}(ho:o.op= .box t x)(h:cF c Z e st a w)(hK:ajl I (aX c st x) (λs=>bM c st o.dst s K)=some r):o.wp P a w (λa' w'=>fa w w'/\Out c Z K r e.φ w a' w') Q:=by
 obtain ⟨hx,sB⟩:=h.eval x;have cV:(execOp a.eval o).run P w= .ok (.value (.pointer (some ⟨w.heap.size,0,none⟩))) (w.alloc (.cells (a.eval x).cells t)):=by simp [execOp,ho,Instr.box,newVar,newRow,newObj,Sem.run]
 have go: ∀cs,aM e (a.eval x).cells.toList cs->bM c st o.dst (.box cs) K=some r->o.wp P a w (λa' w'=>fa w w'/\Out c Z K r e.φ w a' w') Q:=λcs h1 h2=>Y4 (.alloc w _ _) cV (h.grow (.alloc w _ _)) ((fa.alloc w _ _).trans h.dp _) (XE h h1) h2;generalize aX c st x=s at hx hK sB;unfold ajl at hK;split at hK
 ·rename_i l;cases hb:I.st||Sl l||!fj l.w I.size with
  |true=>simp [hb] at hK
  |false=>
   simp only [hb,cond_false] at hK;refine go [l] ?_ hK;cases l with
   |un=>simp [Sl] at hb
   |hs y=>simp only [ao] at hx;rw [hx];exact ⟨bV y,[],by simp [aaJ],rfl,rfl⟩
   |p m=>
    simp only [ao] at hx;have:(a.eval x).cells.toList=[a.eval x]:=by have:=hx.cells (a.eval x) (by simp);generalize a.eval x=v at this;cases v<;>simp_all [aaJ,aav]
    rw [this];exact ⟨_,[],rfl,hx,rfl⟩
   |nil=>simp only [ao] at hx;have Y9:[a.eval x]=[aaY none 0 0]:=hx;simp at Y9;rw [Y9];exact ⟨[.slice none 0 0],[],rfl,rfl,rfl⟩
   |mp s es=>simp [Sl] at hb
   |own f=>
    simp only [ao] at hx;have:(a.eval x).cells.toList=[a.eval x]:=by have:=hx.cells (a.eval x) (by simp);generalize a.eval x=v at this;cases v<;>simp_all [aaJ,aav]
    rw [this];exact ⟨_,[],rfl,hx,rfl⟩
 ·rename_i cs;cases hb:I.st&&!xM cs&&fj (AK cs) I.size with
  |false=>simp [hb] at hK
  |true=>simp only [hb,cond_true] at hK;simp only [ao] at hx;obtain ⟨arr,hx,hl⟩:=hx;exact go cs (by rw [hx];exact hl) hK
 ·simp at hK
end
end Dn
/-
  Stores into variables. Conditions: none.
-/
namespace Dn
open Go
section
variable {P:Program}{c:Ctx}{Z:b8}{e:Env}{st:St}{a:Act} {w w':World}{R:Type}{K:St->Option R}{r:R}{Q:Exit->Act->World->Prop}{o:Oper}
theorem setRow_size (w:World)(g:Nat)(cs:Array Value):(w.setRow g cs).heap.size=w.heap.size:=by simp [ahk]
structure Chg (g:Nat) (w w':World):Prop where
 size:w'.heap.size=w.heap.size
 other: ∀b,b≠g->w'.heap[b]? =w.heap[b]?
 rest:Rest w w'
theorem Chg.setRow (w:World)(g:Nat)(cs:Array Value):Chg g w (w.setRow g cs):=⟨setRow_size _ _ _,λb hb=>setRow_other _ _ _ _ hb,.setRow _ _ _⟩
theorem SC {g:Nat}(hc:Chg g w w'){base:Nat}{t:TypeId}{size:Nat}{v:Value}{n:Nat}{xs:List Value}(eu:v.ownBlock≠some g)(h:w.ownsRow base t size v n xs):w'.ownsRow base t size v n xs:=by
 refine ⟨h.1,?_⟩;rcases h.2 with h|⟨b,cap,gV,h1,h2,h3,h4⟩
 ·exact .inl h
 ·refine .inr ⟨b,cap,gV,h1,h2,?_,h4⟩;rw [hc.other _ (by intro e;subst e;subst h1;exact eu rfl)];exact h3
theorem VM {g:Nat}{cs:Array Value}{base:Nat}{t:TypeId}{size:Nat}{v:Value}{n:Nat}{xs:List Value}(eu:v.ownBlock≠some g)(h:w.ownsRow base t size v n xs):(w.setRow g cs).ownsRow base t size v n xs:=SC (.setRow w g cs) eu h
theorem cF.setObj {root:Nat}{cs j9:List aT} {o':Obj}{rq:Fr}(h:cF c Z e st a w)(hf:aH st.fr root= .box cs)(J7:Chg (e.B root) w w')(xO:w'.heap[e.B root]? =some o')(hl:kX e o' j9)(hmm:mG j9=mG cs)(IR: ∀t,aH rq t=if t=root then .box j9 else aH st.fr t)(hnd:(bk rq).Nodup):cF c Z e {st with fr:=rq} a w':=by
 have ug:=J7.size;have qd:=h.slot root;rw [hf] at qd;refine ⟨h.defers,h.size,h.m,h.key,hnd,?_,?_,?_,?_,?_,h.ff,?_,λb hb=>h.dp b (by omega)⟩
 ·intro t;show cW Z e _ t _ (aH rq t);rw [IR];by_cases ht:t=root
  ·subst ht;simp only [if_true,cW];exact ⟨qd.1.mG hmm,⟨qd.2.dp,⟨o',xO,hl⟩,qd.2.free⟩⟩
  ·simp only [ht,if_false];have hs:=h.slot t;have C7:=h.bb t root;generalize hg:aH st.fr t=s at hs C7;cases s<;>simp only [cW] at hs⊢ <;>try exact hs
   rename_i iM;refine ⟨hs.1,hs.2.dp,?_,hs.2.free⟩;obtain ⟨o2,h1,h2⟩:=hs.2.obj;exact ⟨o2,by rw [J7.other _ (C7 iM cs rfl hf ht)];exact h1,h2⟩
 ·intro t;show dq rq (aH rq t);rw [IR];by_cases ht:t=root
  ·simp [ht,dq]
  ·simp only [ht,if_false];have hr:=h.root t;generalize aH st.fr t=s at hr;cases s<;>simp only [dq] at hr⊢ <;>(rw [IR];split<;>simp_all [dD])
 ·intro f o ho;obtain ⟨I,cells,h1,h2,h3,h4,h5⟩:=(h.jr f o ho).row;exact ⟨I,cells,h1,h2,SC J7 (h.bf root cs f o hf ho) h3,h4,h5⟩
 ·intro t t' c1 c2 h1 h2 eu;have h1:aH rq t= .box c1:=h1;have h2:aH rq t'= .box c2:=h2;rw [IR] at h1 h2;by_cases ht:t=root
  ·by_cases EM:t'=root
   ·exact absurd (ht.trans EM.symm) eu
   ·simp only [EM,if_false] at h2;rw [ht];exact h.bb root t' cs c2 hf h2 (by rw [<-ht];exact eu)
  ·simp only [ht,if_false] at h1;by_cases EM:t'=root
   ·rw [EM];exact h.bb t root c1 cs h1 hf ht
   ·simp only [EM,if_false] at h2;exact h.bb t t' c1 c2 h1 h2 eu
 ·intro t c1 f o h1 h2;have h1:aH rq t= .box c1:=h1;rw [IR] at h1;by_cases ht:t=root
  ·rw [ht];exact h.bf root cs f o hf h2
  ·simp only [ht,if_false] at h1;exact h.bf t c1 f o h1 h2
 ·intro b o v hv;have eu:b≠e.B root:=by intro eb;subst eb;rw [qd.2.free] at hv;cases hv
  have:=h.q9 b o v hv;rw [aaW (J7.other _ eu)];exact this
theorem cF.abD {root:Nat}{cs j9:List aT}{arr AV:Array Value}{T:TypeId}{rq:Fr}(h:cF c Z e st a w)(hf:aH st.fr root= .box cs)(fD:w.heap[e.B root]? =some (.cells arr T (0,0)))(hl:aM e AV.toList j9)(IR: ∀t,aH rq t=if t=root then .box j9 else aH st.fr t)(hnd:(bk rq).Nodup):cF c Z e {st with fr:=rq} a (w.setRow (e.B root) AV):=by
 have qd:=h.slot root;rw [hf] at qd;have hm:gY cs=false:=by obtain ⟨o,h1,h2⟩:=qd.2.obj;rw [fD] at h1;cases h1;exact h2.2.AU
 exact h.setObj hf (.setRow _ _ _) (setRow_heap _ _ _ _ _ _ fD) ⟨rfl,hl⟩ (by rw [EK hm,EK hl.AU]) IR hnd
theorem Trans.chg {g:Nat} (φ:Ph)(J7:Chg g w w')(hz:Z g):Trans Z φ w φ w':=⟨.refl φ,λb hb _=>J7.other _ (by intro e;subst e;exact hb hz),λ_ _ _=>rfl,by rw [J7.size];exact aaI _,J7.rest⟩
theorem Trans.setRow {g:Nat}{AV:Array Value} (φ:Ph)(hz:Z g):Trans Z φ w φ (w.setRow g AV):=⟨.refl φ,λb hb _=>setRow_other _ _ _ _ (by intro e;subst e;exact hb hz),λ_ _ _=>rfl,by rw [setRow_size];exact aaI _,.setRow _ _ _⟩
theorem Da {v:Value}{s:Slot}(h:ao e v s)(hu:xM (ba s)=false)(eu:ba s≠[]):aM e v.cells.toList (ba s):=by
 cases s with
 |sc l=>
  simp only [ba] at hu⊢;have o4: ∀l,bo e [v] l->aM e v.cells.toList [l]:=by
   intro l hl;have hc:=hl.cells v (by simp);have:v.cells.toList=[v]:=by cases v<;>simp_all [aaJ,aav]
   rw [this];exact ⟨[v],[],rfl,hl,rfl⟩
  cases l with
  |un=>simp [xM,Sl] at hu
  |hs x=>simp only [ao] at h;rw [h];exact ⟨bV x,[],by simp [aaJ],rfl,rfl⟩
  |p m=>simp only [ao] at h;exact o4 _ h
  |nil=>simp only [ao] at h;exact o4 _ h
  |mp s es=>simp [xM,Sl] at hu
  |own f=>simp only [ao] at h;exact o4 _ h
 |ag cs=>simp only [ao] at h;obtain ⟨arr,rfl,hl⟩:=h;exact hl
 |_=>exact absurd rfl eu
theorem tc {t:TypeId}{I:TI}{bO off:Nat}{v:Value}{arr:Array Value}{T:TypeId}(hr:rf c.ti P t I)(hc:I.dJ=[])(hs:v.cells.toList.length=I.size)(o4: ∀u∈v.cells.toList,u.oneCell'=true)(fD:w.heap[bO]? =some (.cells arr T (0,0)))(Qu:off+I.size<=arr.size): (afF t (.pointer (some ⟨bO,off,none⟩)) v).run P w= .ok () (w.setRow bO (arr.toList.take off++v.cells.toList++arr.toList.drop (off+I.size)).toArray):=by
 obtain ⟨i,hi,ug,_⟩:=hr.info hc;have h1:=run_storeCells_at P bO off T v.cells.toList 0 arr w fD (by omega) o4;rw [afs,hs] at h1;have h2:v.cells.size=i.size:=by rw [ug,<-hs];simp
 simp [afF,afA,storeVar,aaT,typeInfo,hi,h2,h1]
theorem Za {t:TypeId}{I:TI}{root off:Nat}{v:Value}{cs ls j9:List aT} {K':St->Option R}(xJ:gY cs=false)(hr:rf c.ti P t I)(hc:I.dJ=[])(h:cF c Z e st a w)(hf:aH st.fr root= .box cs)(hv:aM e v.cells.toList ls)(J8:AK ls=I.size)(hp:putAt cs off ls=some j9)(hK:wr st root (.box j9) K'=some r): ∃w' cB,(afF t (.pointer (some ⟨e.B root,off,none⟩)) v).run P w= .ok () w'/\cF c Z e cB a w'/\Trans Z e.φ w e.φ w'/\K' cB=some r:=by
 have nt:=h.slot root;rw [hf] at nt;obtain ⟨arr,T,fD,tM⟩:=nt.2.cells xJ;obtain ⟨v1,v2,v3,he,h1,h2,h3⟩:=yZ hp tM hv;have hlen:=hv.width;have ug:arr.size=v1.length+v2.length+v3.length:=by
  have:arr.toList.length=(v1++v2++v3).length:=by rw [he]
  simp at this;omega
 have cV:=tc (P:=P) (w:=w) (bO:=e.B root) (off:=off) hr hc (by rw [hlen,J8]) hv.cells fD (by omega);have anz:arr.toList.take off=v1:=by rw [he,AI,adr h1]
 have anA:arr.toList.drop (off+I.size)=v3:=by rw [he];exact abU (by rw [IS];omega)
 rw [anz,anA] at cV;unfold wr at hK;cases hn:bU st.dg root with
 |true=>simp [hn] at hK
 |false=>simp only [hn,cond_false,force_eq,oO] at hK;refine ⟨_,_,cV,?_,.setRow _ (R9 nt.2.dp (by rw [<-h.defers.2.1,<-ck,hn];simp)),hK⟩;exact h.abD hf fD (by simpa using h3) (λt=>by rw [cE]) (fZ h.nodup)
end
end Dn
/-
  Owned slices that are shared from now on; what is handed to a callee. Conditions: none.
-/
namespace Dn
open Go
section
variable {P:Program}{c:Ctx}{Z:b8}{e:Env}{st:St}{a:Act} {w w':World}{R:Type}{K:St->Option R}{r:R}{Q:Exit->Act->World->Prop}{o:Oper}
theorem bQ.mono {key:Nat->Nat} {φ φ':Ph}(h:tI φ φ'){size:Nat}{xs:List MV}: ∀{cs:List Value},bQ key φ size cs xs->bQ key φ' size cs xs:=by
 induction xs with
 |nil=>intro cs hh;exact hh
 |cons x xs ih=>intro cs hh;obtain ⟨v,q,rfl,h1,h2,h3⟩:=hh;exact ⟨v,q,rfl,h1,h2.mono h,ih h3⟩
theorem bQ.length {key:Nat->Nat} {φ:Ph}{size:Nat}{xs:List MV}: ∀{cs:List Value},bQ key φ size cs xs->cs.length=xs.length *size:=by
 induction xs with
 |nil=>intro cs hh;cases hh;simp
 |cons x xs ih=>intro cs hh;obtain ⟨v,q,rfl,h1,h2,h3⟩:=hh;simp [h1,ih h3,aa1,agQ]
theorem VN {m:List (Nat×pY)}{f:Nat}{o:pY}(h:bj m f=some o):cN m f o=m:=by
 induction m with
 |nil=>simp [bj] at h
 |cons p r ih=>
  obtain ⟨k,x⟩:=p;simp only [bj,cN,fc] at h⊢;by_cases hk:k=f
  ·subst hk;simp at h;subst h;simp
  ·simp only [hk,decide_false,cond_false] at h⊢;rw [ih h]
def qg (φ:Ph)(v:Value)(cells:List Value):Ph:=λb off=>if v.ownBlock=some b/\off<cells.length then cells[off]? else φ b off
theorem wh {base:Nat}{t:TypeId}{size n:Nat}{v:Value}{xs ys:List Value}(h:w.ownsRow base t size v n xs) (h':w.ownsRow base t size v n ys){b:Nat}(hb:v.ownBlock=some b):xs=ys:=by
 rcases h.2 with ⟨h1,_⟩|⟨g,cap,gV,h1,_,h2,_,_,_,h3⟩
 ·rw [h1] at hb;simp [No] at hb
 ·rcases h'.2 with ⟨Jv,_⟩|⟨g',abE,aA7,Jv,_,SD,_,_,_,h3'⟩
  ·rw [Jv] at hb;simp [No] at hb
  ·rw [h1] at Jv;simp at Jv;obtain ⟨rfl,rfl⟩:=Jv;rw [h2] at SD;simp at SD;subst SD;rw [<-h3,<-h3']
theorem freeze {f:Nat}{o:pY}(h:cF c Z e st a w)(hf:bj st.bA f=some o)(hp:f∉Z.dt\/o.fB=true): ∃φ',tI e.φ φ'/\(∀b off,¬Z b->φ' b off=e.φ b off)/\cF c Z {e with φ:=φ',m:=cN e.m f ⟨o.ty,true,o.xs⟩} {st with bA:=cN st.bA f ⟨o.ty,true,o.xs⟩} a w/\ nr e.key φ' [e.E f] (.list o.xs)/\ (∀I cells,c.ti o.ty=some I->w.ownsRow 0 o.ty I.size (e.E f) o.xs.length cells-> ∀bO,(e.E f).ownBlock=some bO-> ∀j,j<cells.length->φ' bO j=cells[j]?):=by
 obtain ⟨I,cells,hI,hIc,gh,qf,hz⟩:=(h.jr f o hf).row;have hlen:=qf.length;have hle:tI e.φ (qg e.φ (e.E f) cells):=by
  intro b off v hv;unfold qg;by_cases hc:(e.E f).ownBlock=some b/\off<cells.length
  ·simp only [hc,and_self,if_true];obtain ⟨hb,ho⟩:=hc;rcases gh.2 with ⟨hE,_⟩|⟨g,cap,gV,hE,_,hg,hn,Sa,AS,M6⟩
   ·rw [hE] at hb;simp [No] at hb
   ·rw [hE] at hb;simp only [No,IN] at hb;subst hb;have:=h.q9 _ _ _ hv;rw [cell_of hg] at this;rw [<-M6,aaU];have dr:off<o.xs.length *I.size:=by omega
    simp only [dr,if_true];simpa using this
  ·simp only [hc,if_false];exact hv
 have pO: ∀b off v,qg e.φ (e.E f) cells b off=some v->w.cell? ⟨b,off,none⟩=some v:=by
  intro b off v hv;unfold qg at hv;by_cases hc:(e.E f).ownBlock=some b/\off<cells.length
  ·simp only [hc,and_self,if_true] at hv;rcases gh.2 with ⟨hE,_⟩|⟨g,cap,gV,hE,_,hg,hn,Sa,AS,M6⟩
   ·rw [hE] at hc;simp [No] at hc
   ·rw [hE] at hc;simp only [No,IN] at hc;obtain ⟨hb,ho⟩:=hc;subst hb;rw [cell_of hg];rw [<-M6,aaU] at hv;have dr:off<o.xs.length *I.size:=by omega
    simp only [dr,if_true] at hv;simpa using hv
  ·simp only [hc,if_false] at hv;exact h.q9 _ _ _ hv
 have anB: ∀b off,¬Z b->qg e.φ (e.E f) cells b off=e.φ b off:=by
  intro b off hb;unfold qg;by_cases hc:(e.E f).ownBlock=some b/\off<cells.length
  ·by_cases DP:f∈Z.dt
   ·simp only [hc,and_self,if_true];exact (((hz b hc.1).2.2 DP (hp.resolve_left (λhn=>hn DP))) off hc.2).symm
   ·exact absurd (R9 (hz b hc.1).1 DP) hb
  ·simp [hc]
 have VO: ∀b off,(e.E f).ownBlock≠some b->qg e.φ (e.E f) cells b off=e.φ b off:=by intro b off hb;unfold qg;simp [hb]
 have yR:oe (λ_=>True) (λ_=>True) e {e with φ:=qg e.φ (e.E f) cells,m:=cN e.m f ⟨o.ty,true,o.xs⟩}:=by
  refine ⟨rfl,hle,λ_ _=>rfl,?_⟩;intro f2 o2 dr _;have dr:bj (cN e.m f ⟨o.ty,true,o.xs⟩) f2=some o2:=dr;rw [bN] at dr;by_cases gy:f2=f
  ·subst gy;simp at dr;subst dr;exact ⟨o,by rw [h.m];exact hf,rfl,rfl⟩
  ·simp only [gy,if_false] at dr;exact ⟨o2,dr,rfl,rfl⟩
 have mz: ∀s:Slot,hM (λ_=>True) (λ_=>True) s:=by intro s;cases s<;>simp [hM,ko]
 refine ⟨_,hle,anB,?_,?_,?_⟩;rotate_right
 ·intro I' Qv hI' anC bO hb j hj;rw [hI] at hI';cases hI';have hcc:=wh gh anC hb;subst hcc;unfold qg;simp [hb,hj]
 ·refine ⟨h.defers,h.size,by show cN e.m f _=cN st.bA f _;rw [h.m],h.key,h.nodup,?_,h.root,?_,h.bb,?_,?_,pO,h.dp⟩
  ·intro t;have hs:=h.slot t;have hbf:=h.bf t;show cW Z _ w t _ (aH st.fr t);generalize aH st.fr t=s at hs hbf;cases s<;>simp only [cW] at hs⊢ <;>try exact hs.on yR (mz _)
   rename_i cs;refine ⟨hs.1,hs.2.dp,?_,?_⟩
   ·obtain ⟨o2,h1,h2⟩:=hs.2.obj;exact ⟨o2,h1,h2.on yR (λl _ f _=>trivial)⟩
   ·intro off;show qg e.φ (e.E f) cells (e.B t) off=none;rw [VO _ _ (hbf cs f o rfl hf)];exact hs.2.free off
  ·intro f2 o2 dr;have dr:bj (cN st.bA f ⟨o.ty,true,o.xs⟩) f2=some o2:=dr;rw [bN] at dr;by_cases gy:f2=f
   ·subst gy;simp at dr;subst dr;refine ⟨I,cells,hI,hIc,gh,qf.mono hle,?_⟩;intro bO hb;refine ⟨(hz bO hb).1,?_,?_⟩;rotate_left
    ·intro _ _ j hj;show qg e.φ (e.E f2) cells bO j=_;have hb:(e.E f2).ownBlock=some bO:=hb;unfold qg;simp [hb,hj]
    intro off u hu;refine ⟨rfl,?_⟩;have hu:qg e.φ (e.E f2) cells bO off=some u:=hu;unfold qg at hu;by_cases hc:(e.E f2).ownBlock=some bO/\off<cells.length
    ·show off<o.xs.length *I.size;rw [<-hlen];exact hc.2
    ·simp only [hc,if_false] at hu;exact ((hz bO hb).2.1 off u hu).2
   ·simp only [gy,if_false] at dr;obtain ⟨I2,y9,h1,h2,h3,h4,h5⟩:=(h.jr f2 o2 dr).row;refine ⟨I2,y9,h1,h2,h3,h4.mono hle,?_⟩;intro bO hb;refine ⟨(h5 bO hb).1,?_,?_⟩;rotate_left
    ·intro g1 g2 j hj;show qg e.φ (e.E f) cells bO j=_;rw [VO _ _ (λhbf=>gy (h.ff f2 f o2 o bO dr hf hb hbf))];exact (h5 bO hb).2.2 g1 g2 j hj
    intro off u hu;have hu:qg e.φ (e.E f) cells bO off=some u:=hu;rw [VO _ _ (λhbf=>gy (h.ff f2 f o2 o bO dr hf hb hbf))] at hu;exact (h5 bO hb).2.1 off u hu
  ·intro t cs f2 o2 h1 h2;have h2:bj (cN st.bA f ⟨o.ty,true,o.xs⟩) f2=some o2:=h2;rw [bN] at h2;by_cases gy:f2=f
   ·subst gy;exact h.bf t cs f2 o h1 hf
   ·simp only [gy,if_false] at h2;exact h.bf t cs f2 o2 h1 h2
  ·intro f1 f2 o1 o2 k h1 h2 h3 h4;have h1:bj (cN st.bA f ⟨o.ty,true,o.xs⟩) f1=some o1:=h1;have h2:bj (cN st.bA f ⟨o.ty,true,o.xs⟩) f2=some o2:=h2;rw [bN] at h1 h2;have g1: ∃o',bj st.bA f1=some o':=by
    by_cases gy:f1=f
    ·subst gy;exact ⟨o,hf⟩
    ·simp only [gy,if_false] at h1;exact ⟨o1,h1⟩
   have g2: ∃o',bj st.bA f2=some o':=by
    by_cases gy:f2=f
    ·subst gy;exact ⟨o,hf⟩
    ·simp only [gy,if_false] at h2;exact ⟨o2,h2⟩
   obtain ⟨q1,g1⟩:=g1;obtain ⟨q2,g2⟩:=g2;exact h.ff f1 f2 q1 q2 k g1 g2 h3 h4
 ·have EP:=qf.mono hle;rcases gh.2 with ⟨hE,hn⟩|⟨g,cap,gV,hE,_,hg,hn,Sa,AS,M6⟩
  ·have hx:o.xs=[]:=AT hn;have hv:[e.E f]=[aaY none 0 0]:=by rw [hE]
   rw [hv,hx];exact .list none 0 [] 0 0 0 (λ_=>[]) (by simp) (by simp) (by simp) (by simp) (by simp)
  ·have hv:[e.E f]=[aaY (some ⟨g,0,none⟩) o.xs.length cap]:=by rw [hE]
   rw [hv];have abF: ∀i (hi:i<o.xs.length),∃v1,v1.length=I.size/\nr e.key (qg e.φ (e.E f) cells) v1 o.xs[i]/\(cells.drop (i *I.size)).take I.size=v1:=by intro i hi;obtain ⟨p1,v1,p2,he,Vj,DM,iw⟩:=EP.at (IT hi);refine ⟨v1,DM,iw,?_⟩;rw [he,AI,<-Vj,af5,<-DM,ab9]
   refine .list (some ⟨g,0,none⟩) cap o.xs g 0 I.size (λi=>(cells.drop (i *I.size)).take I.size) hn (λ_=>rfl) ?_ ?_ ?_
   ·intro i hi;obtain ⟨v1,h1,_,h3⟩:=abF i hi;rw [h3,h1]
   ·intro i j hi hj;have hb:(e.E f).ownBlock=some g:=by rw [hE];rfl
    have J9:i *I.size+j<cells.length:=by
     rw [hlen];calc i *I.size+j<i *I.size+I.size:=by omega
      _=(i+1) *I.size:=by rw [aa1]
      _<=o.xs.length *I.size:=aaK _ hi
    rw [aaO];unfold qg;simp only [hb,J9,and_self,if_true];rw [aaU];simp only [hj,if_true,afC]
   ·intro i hi;obtain ⟨v1,_,h2,h3⟩:=abF i hi;rw [h3];exact h2
end
end Dn
/-
  Arguments and results. Conditions: none.
-/
namespace Dn
open Go
structure Ext (Z:Nat->Prop) (e e':Env):Prop where
 on:oe (λ_=>True) (λ_=>True) e e'
 dp: ∀b off,¬Z b->e'.φ b off=e.φ b off
theorem Ext.refl (Z:Nat->Prop)(e:Env):Ext Z e e:=⟨⟨rfl,.refl _,λ_ _=>rfl,λf o h _=>⟨o,h,rfl,rfl⟩⟩,λ_ _ _=>rfl⟩
theorem Ext.trans {Z:Nat->Prop} {e e' e'':Env}(h:Ext Z e e') (h':Ext Z e' e''):Ext Z e e'':=by refine ⟨⟨h'.on.key.trans h.on.key,h.on.φ.trans h'.on.φ,λr hr=>(h'.on.B r hr).trans (h.on.B r hr),?_⟩,λb off hb=>(h'.dp b off hb).trans (h.dp b off hb)⟩;intro f o ho _;obtain ⟨o1,h1,h2,h3⟩:=h'.on.jr f o ho trivial;obtain ⟨o2,h4,h5,h6⟩:=h.on.jr f o1 h1 trivial;exact ⟨o2,h4,h2.trans h5,h3.trans h6⟩
theorem Ext.tr {Z:Nat->Prop} {e e':Env}{w:World}(h:Ext Z e e'):Trans Z e.φ w e'.φ w:=⟨h.on.φ,λ_ _ _=>rfl,h.dp,aaI _,.refl _⟩
theorem fv (s:Slot):hM (λ_=>True) (λ_=>True) s:=by cases s<;>simp [hM,ko]
def dw (key:Nat->Nat) (φ:Ph):List Value->List MV->Prop
 |vs,[]=>vs=[]
 |vs,m::ms=> ∃v r,vs=v::r/\jQ key φ v m/\dw key φ r ms
theorem dw.mono {key:Nat->Nat} {φ φ':Ph}(h:tI φ φ'){ms:List MV}: ∀{vs:List Value},dw key φ vs ms->dw key φ' vs ms:=by
 induction ms with
 |nil=>intro vs hh;exact hh
 |cons m ms ih=>intro vs hh;obtain ⟨v,r,rfl,h1,h2⟩:=hh;exact ⟨v,r,rfl,h1.mono h,ih h2⟩
theorem dw.append {key:Nat->Nat} {φ:Ph}{ms ns:List MV}: ∀{vs us:List Value},dw key φ vs ms->dw key φ us ns->dw key φ (vs++us) (ms++ns):=by
 induction ms with
 |nil=>intro vs us h h';cases h;simpa using h'
 |cons m ms ih=>intro vs us h h';obtain ⟨v,r,rfl,h1,h2⟩:=h;exact ⟨v,r++us,rfl,h1,ih h2 h'⟩
section
variable {P:Program}{c:Ctx}{Z:b8}{e:Env}{st:St}{a:Act} {w w':World}{R:Type}{r:R}{Q:Exit->Act->World->Prop}{o:Oper}
theorem pk {l:aT}{vs:List Value}{K:MV->St->Option R}(h:cF c Z e st a w)(hl:bo e vs l)(hK:pZ st l K=some r): ∃e' cB m,cF c Z e' cB a w/\Ext Z e e'/\cB.fr=st.fr/\nr e'.key e'.φ vs m/\K m cB=some r/\(wc l=true->e'=e/\cB=st)/\(∀f,l= .own f-> ∃o,bj st.bA f=some o/\m= .list o.xs)/\((∀x,l≠ .hs x)->m.one=true):=by
 cases l with
 |un=>simp [pZ] at hK
 |p m=>exact ⟨e,st,m,h,.refl _ _,rfl,hl.2,hK,λ_=>⟨rfl,rfl⟩,by simp,λ_=>hl.1⟩
 |hs x=>have hl:vs=bV x:=hl;subst hl;exact ⟨e,st,.h x,h,.refl _ _,rfl,.h x,hK,λ_=>⟨rfl,rfl⟩,by simp,λhx=>absurd rfl (hx x)⟩
 |nil=>have hl:vs=[.slice none 0 0]:=hl;subst hl;exact ⟨e,st,.list [],h,.refl _ _,rfl,.list none 0 [] 0 0 0 (λ_=>[]) (by simp) (by simp) (by simp) (by simp) (by simp),hK,λhp=>by simp [wc] at hp,λ_ he=>(by cases he),λ_=>rfl⟩
 |mp s es=>simp [pZ] at hK
 |own f=>
  simp only [pZ] at hK;cases hf:bj st.bA f with
  |none=>simp [hf] at hK
  |some o=>
   simp only [hf] at hK;have DP:f∉Z.dt\/o.fB=true:=by
    cases hz:o.fB with
    |true=>exact .inr rfl
    |false=>refine .inl (λhm=> ?_);rw [<-h.defers.2.2.1,<-ck] at hm;simp [hz,hm] at hK
   obtain ⟨φ',h1,h2,h3,h4,_⟩:=freeze h hf DP;obtain ⟨v,rfl,hv,hE⟩:=hl;have hE:=hE o (by rw [h.m];exact hf);subst hE;have af6:Ext Z e {e with φ:=φ',m:=cN e.m f ⟨o.ty,true,o.xs⟩}:=by
    refine ⟨⟨rfl,h1,λ_ _=>rfl,?_⟩,h2⟩;intro f2 o2 dr _;have dr:bj (cN e.m f ⟨o.ty,true,o.xs⟩) f2=some o2:=dr;rw [bN] at dr;by_cases gy:f2=f
    ·subst gy;simp at dr;subst dr;exact ⟨o,by rw [h.m];exact hf,rfl,rfl⟩
    ·simp only [gy,if_false] at dr;exact ⟨o2,dr,rfl,rfl⟩
   cases hz:o.fB with
   |true=>
    simp only [hz,cond_true] at hK;have anE:cN st.bA f ⟨o.ty,true,o.xs⟩=st.bA:=by rw [<-hz];exact VN hf
    rw [anE] at h3;exact ⟨_,st,.list o.xs,h3,af6,rfl,h4,hK,λhp=>by simp [wc] at hp,λ_ he=>by cases he;exact ⟨o,hf,rfl⟩,λ_=>rfl⟩
   |false=>
    simp only [hz,cond_false] at hK;cases hn:bU st.dt f with
    |true=>simp [hn] at hK
    |false=>simp only [hn,cond_false,qc] at hK;exact ⟨_,_,.list o.xs,h3,af6,rfl,h4,hK,λhp=>by simp [wc] at hp,λ_ he=>by cases he;exact ⟨o,hf,rfl⟩,λ_=>rfl⟩
theorem oh {ls:List aT}: ∀{e:Env} {st:St} {vs:List Value} {K:List MV->St->Option R},cF c Z e st a w->aM e vs ls->sv st ls K=some r-> ∃e' cB ms,cF c Z e' cB a w/\Ext Z e e'/\cB.fr=st.fr/\jt e'.key e'.φ vs ms/\K ms cB=some r/\(kc ls=true->e'=e/\cB=st)/\(∀ps,ta ls ms=some ps->aM e' vs ps/\kc ps=true):=by
 induction ls with
 |nil=>intro e st vs K h hl hK;cases hl;exact ⟨e,st,[],h,.refl _ _,rfl,.nil,hK,λ_=>⟨rfl,rfl⟩,λps hp=>by simp [ta] at hp;subst hp;exact ⟨rfl,rfl⟩⟩
 |cons l ls ih=>
  intro e st vs K h hl hK;obtain ⟨v,u,rfl,h1,h2⟩:=hl;simp only [sv] at hK;obtain ⟨e1,dC,m,AF,Ka,G6,AW,ol,hp1,_,o4⟩:=pk h h1 hK;obtain ⟨e2,eM,ms,XF,Ox,af7,Ju,yS,Vk,Db⟩:=ih AF (h2.on Ka.on (λl _ f _=>trivial)) ol;have hrm:nr e2.key e2.φ v m:=by have:=AW.mono Ox.on.φ;rw [<-Ox.on.key] at this;exact this
  refine ⟨e2,eM,m::ms,XF,Ka.trans Ox,af7.trans G6,.cons v m u ms ?_ Ju,yS,?_,?_⟩
  ·have:=AW.mono Ox.on.φ;rw [<-Ox.on.key] at this;exact this
  ·intro hp;simp only [kc,aaM] at hp;obtain ⟨q1,q2⟩:=hp1 hp.1;obtain ⟨q3,q4⟩:=Vk hp.2;exact ⟨q3.trans q1,q4.trans q2⟩
  ·intro ps hp;cases hq:ta ls ms with
   |none=>cases l<;>simp [ta,hq] at hp
   |some q=>
    obtain ⟨g1,g2⟩:=Db q hq;by_cases hh: ∃x,l= .hs x
    ·obtain ⟨x,rfl⟩:=hh;simp [ta,hq] at hp;subst hp;exact ⟨⟨v,u,rfl,h1,g1⟩,by simp [kc,wc,g2]⟩
    ·have o4:=o4 (λx hx=>hh ⟨x,hx⟩);have IU:ps= .p m::q:=by cases l<;>simp [ta,hq] at hp<;>first|exact hp.symm|exact absurd ⟨_,rfl⟩ hh
     subst IU;exact ⟨⟨v,u,rfl,⟨o4,hrm⟩,g1⟩,by simp [kc,wc,g2]⟩
theorem pn {s:Slot}{v:Value}{K:MV->St->Option R}(h:cF c Z e st a w)(hl:ao e v s)(hK:nS st s K=some r): ∃e' cB m,cF c Z e' cB a w/\Ext Z e e'/\cB.fr=st.fr/\jQ e'.key e'.φ v m/\K m cB=some r:=by
 cases s with
 |sc l=>
  simp only [nS] at hK;cases l with
  |un=>simp [pZ] at hK
  |hs x=>simp only [ao] at hl;exact ⟨e,st,.h x,h,.refl _ _,rfl,by simpa [jQ,bV] using hl,hK⟩
  |p m=>simp only [ao] at hl;refine ⟨e,st,m,h,.refl _ _,rfl,?_,hK⟩;obtain ⟨h1,h2⟩:=hl;cases m<;>simp [MV.one] at h1<;>exact ⟨rfl,h2⟩
  |nil=>simp only [ao] at hl;obtain ⟨e',cB,m,q1,q2,q3,q4,q5,q6,_⟩:=pk h hl hK;have hl:[v]=[aaY none 0 0]:=hl;refine ⟨e,st,.list [],h,.refl _ _,rfl,⟨rfl,?_⟩,hK⟩;rw [hl];exact .list none 0 [] 0 0 0 (λ_=>[]) (by simp) (by simp) (by simp) (by simp) (by simp)
  |mp s es=>simp [pZ] at hK
  |own f=>
   simp only [ao] at hl;simp only [pZ] at hK;cases hf:bj st.bA f with
   |none=>simp [hf] at hK
   |some o=>obtain ⟨e',cB,m,q1,q2,q3,q4,q5,q6,q7⟩:=pk (l:= .own f) h hl (by simpa only [pZ,hf] using hK);obtain ⟨o2,_,rfl⟩:=q7.1 f rfl;exact ⟨e',cB,.list o2.xs,q1,q2,q3,⟨rfl,q4⟩,q5⟩
 |ag cs=>simp only [ao] at hl;obtain ⟨arr,hv,hl⟩:=hl;simp only [nS] at hK;obtain ⟨e',cB,ms,q1,q2,q3,q4,q5,_⟩:=oh h hl hK;exact ⟨e',cB,.agg ms,q1,q2,q3,⟨arr,hv,q4⟩,q5⟩
 |rp cs off=>
  simp only [ao] at hl;obtain ⟨bO,q,vs,hv,tM,hp,G5⟩:=hl;simp only [nS] at hK;cases hb:fj off 0 with
  |false=>simp [hb] at hK
  |true=>simp only [hb,cond_true] at hK;have h0:=sh hb;subst h0;obtain ⟨e',cB,ms,q1,q2,q3,q4,q5,q6⟩:=oh h tM hK;obtain ⟨rfl,rfl⟩:=q6.1 hp;refine ⟨e',cB,.rp ms,q1,q2,q3,⟨rfl,?_⟩,q5⟩;rw [hv];exact .rp bO (q+0) vs ms q4 (by simpa using G5)
 |_=>simp [nS] at hK
theorem tN {ss:List Slot}: ∀{e:Env} {st:St} {vs:List Value} {K:List MV->St->Option R},cF c Z e st a w->(∃f:Unit->List Value,f ()=vs/\vs.length=ss.length/\ ∀(i:Nat) (v:Value) (s:Slot),vs[i]? =some v->ss[i]? =some s->ao e v s)-> yV st ss K=some r-> ∃e' cB ms,cF c Z e' cB a w/\Ext Z e e'/\cB.fr=st.fr/\dw e'.key e'.φ vs ms/\K ms cB=some r:=by
 induction ss with
 |nil=>intro e st vs K h hl hK;obtain ⟨f,_,hlen,_⟩:=hl;have:=AT hlen;subst this;exact ⟨e,st,[],h,.refl _ _,rfl,rfl,hK⟩
 |cons s ss ih=>
  intro e st vs K h hl hK;obtain ⟨f,_,hlen,iw⟩:=hl;cases vs with
  |nil=>simp at hlen
  |cons v vs=>simp only [yV] at hK;obtain ⟨e1,dC,m,q1,q2,q3,q4,q5⟩:=pn h (iw 0 v s rfl rfl) hK;obtain ⟨e2,eM,ms,p1,p2,p3,p4,p5⟩:=ih (vs:=vs) q1 ⟨λ_=>vs,rfl,by simpa using hlen,λi v s h1 h2=>(iw (i+1) v s (by simpa using h1) (by simpa using h2)).on q2.on (fv s)⟩ q5;refine ⟨e2,eM,m::ms,p1,q2.trans p2,p3.trans q3,⟨v,vs,rfl,?_,p4⟩,p5⟩;have:=q4.mono p2.on.φ;rw [<-p2.on.key] at this;exact this
end
end Dn
/-
  Parts of structs, lengths, the least and the greatest, places of elements. Conditions: none.
-/
namespace Dn
open Go
section
variable {P:Program}{c:Ctx}{Z:b8}{e:Env}{st:St}{a:Act} {w w':World}{R:Type}{K:St->Option R}{r:R}{Q:Exit->Act->World->Prop}{o:Oper}
theorem Oy {t:TypeId}{I:TI}(hr:rf c.ti P t I)(hc:I.dJ=[]): ((I.st=true\/I.size=32)/\ ∀w:World,(isAgg t).run P w= .ok true w)\/(I.st=false/\I.size=1/\ ∀w:World,(isAgg t).run P w= .ok false w):=by
 rcases hr.agg hc with ⟨d,hu,hd,hh⟩|⟨d,hu,hd,h1,h2⟩
 ·refine .inl ⟨hh.imp id (·.2),λw=> ?_⟩;unfold isAgg;rw [agO,run_underlying hu w];cases d<;>simp_all [TypeDesc.isRow]
 ·refine .inr ⟨h1,h2,λw=> ?_⟩;unfold isAgg;rw [agO,run_underlying hu w];cases d<;>simp_all [TypeDesc.isRow]
theorem abG {t:TypeId}{I:TI}{cs:List aT}{off:Nat}{arr:Array Value} {K':Slot->Option R}(hr:rf c.ti P t I)(hc:I.dJ=[])(hv:aM e arr.toList cs)(hK:lr I cs off K'=some r): ∃v s,(∀w:World,(ahf t arr off).run P w= .ok v w)/\ao e v s/\dq st.fr s/\K' s=some r:=by
 obtain ⟨i,hi,hs,_⟩:=hr.info hc;have ext: ∀v1 v2 v3:List Value,arr.toList=v1++v2++v3->v1.length=off->(arr.extract off (off+v2.length))=v2.toArray:=by intro v1 v2 v3 h1 h2;apply aa0.1;rw [agf,h1,afE,AI,<-h2,af5];simp
 unfold lr at hK;cases jf:I.st with
 |true=>
  simp only [jf,cond_true] at hK;cases hp:Dn.part cs off I.size with
  |none=>simp [hp] at hK
  |some ds=>
   simp only [hp] at hK;obtain ⟨v1,v2,v3,h0,h1,h2,h3⟩:=Ou hp hv;rcases Oy (P:=P) hr hc with ⟨_,hag⟩|⟨hf,_⟩
   ·refine ⟨.agg v2.toArray,.ag ds,?_,?_,trivial,hK⟩
    ·have hx:=ext v1 v2 v3 h0 h1;rw [h2] at hx;simp [ahf,hag,aaT,typeInfo,hi,hs,hx]
    ·simp only [ao];exact ⟨_,rfl,by simpa using h3⟩
   ·rw [jf] at hf;cases hf
 |false=>
  simp only [jf,cond_false] at hK;cases hp:cut cs off with
  |none=>simp [hp] at hK
  |some ds=>
   cases ds with
   |nil=>simp [hp] at hK
   |cons l ls=>
    simp only [hp] at hK;cases hb:fj l.w I.size with
    |false=>simp [hb] at hK
    |true=>
     simp only [hb,cond_true] at hK;have hw:=sh hb;obtain ⟨v1,v2,h0,h1,h2⟩:=AP hp hv;obtain ⟨u,u2,rfl,h3,h4⟩:=h2;have hlu:u.length=I.size:=by rw [h3.width,hw]
     rcases Oy (P:=P) hr hc with ⟨hh,hag⟩|⟨_,h1s,hag⟩
     ·refine ⟨.agg u.toArray,.sc l,?_,h3.slot (.inr ⟨rfl,?_⟩),trivial,hK⟩
      ·have hx:=ext v1 u u2 (by rw [h0,AI]) h1;rw [hlu] at hx;simp [ahf,hag,aaT,typeInfo,hi,hs,hx]
      ·rcases hh with hh|hh
       ·rw [jf] at hh;cases hh
       ·rw [hw,hh]
     ·obtain ⟨v,rfl⟩:=afL.1 (by rw [hlu,h1s]);refine ⟨v,.sc l,?_,h3.slot (.inl ⟨rfl,?_⟩),trivial,hK⟩
      ·have:arr[off]? =some v:=by
        have:arr[off]? =arr.toList[off]? :=by simp
        rw [this,h0,aay (by omega),h1];simp
       simp [ahf,hag,this]
      ·rw [hw,h1s]
theorem ajB {t:TypeId}{x:Operand}{f:Nat}{I:TI}(ho:o.op= .field t x f)(hI:c.tv t=some I)(hT:lS P c.ti)(h:cF c Z e st a w)(hK:ajm c I f (aX c st x) (λs=>bM c st o.dst s K)=some r):Rd P c Z K r e a w o (λ_=>True):=by
 obtain ⟨hx,sB⟩:=h.eval x;obtain ⟨qe,hc⟩:=cz hI;obtain ⟨d,i,h1,h2,h3,h4⟩:=hT t I qe;generalize aX c st x=s at hx hK sB;unfold ajm at hK;split at hK
 ·rename_i q y cs jf hq hy;simp only [ao] at hx;obtain ⟨arr,hx,tM⟩:=hx;cases hJ:c.tv y with
  |none=>simp [hJ] at hK
  |some J=>
   simp only [hJ] at hK;obtain ⟨hJt,hJc⟩:=cz hJ;obtain ⟨v,s,cV,h5,h6,h7⟩:=abG (P:=P) (st:=st) (hT y J hJt) hJc tM hK;refine jR (v:=v) h ?_ h5 h6 h7;cases d<;>simp only [uL] at h4;case struct fs=>
    obtain ⟨_,_,_,Y7,dr,_⟩:=h4;rw [<-Y7,aaR] at hq;rw [<-dr,aaR] at hy;cases hf:fs.toList[f]? with
    |none=>simp [hf] at hq
    |some fl=>
     simp [hf] at hq hy;subst hq;subst hy;have hf':fs[f]? =some fl:=by simpa using hf
     simp [execOp,ho,hx,Instr.field,run_underlying h1,hf',asAgg,cV]
   all_goals (exfalso;simp_all)
 ·simp at hK
theorem TI.nW {I:TI}{t:TypeId}(hr:rf c.ti P t I)(h:I.BS=true):P.underlying t=some (.slice I.elem)/\ ∃E,c.ti I.elem=some E/\E.dJ=[]/\0<E.size:=by
 unfold TI.BS at h;split at h
 ·rename_i jf hl;obtain ⟨d,i,h1,h2,h3,h4⟩:=hr;cases d<;>simp only [uL,hl,jf] at h4<;>first|(exfalso;simp_all;done)|skip
  obtain ⟨_,_,_,rfl,hE,_⟩:=h4;exact ⟨h1,hE⟩
 ·cases h
theorem TI.Kb {I:TI}{t:TypeId}(hr:rf c.ti P t I)(h:I.isS=true):P.underlying t=some .string:=by
 unfold TI.isS at h;split at h
 ·rename_i jf hl;obtain ⟨d,i,h1,h2,h3,h4⟩:=hr;cases d<;>simp only [uL,hl,jf] at h4<;>first|(exfalso;simp_all;done)|skip
  exact h1
 ·cases h
theorem Kc {v:Value}{xs:List MV}(h:ao e v (.sc (.p (.list xs)))): ∃ad cap,v= .slice ad xs.length cap/\xs.length<=cap:=by simp only [ao,bo] at h;obtain ⟨_,h⟩:=h;generalize hv:[v]=vs at h;cases h;exact ⟨_,_,by simpa using hv,by assumption⟩
theorem tO {f:Nat} {w':pY}{v:Value}(h:cF c Z e st a w)(hv:ao e v (.sc (.own f)))(hf:bj st.bA f=some w'):v=e.E f/\ ∃ad cap,v= .slice ad w'.xs.length cap/\w'.xs.length<=cap:=by
 simp only [ao] at hv;obtain ⟨u,hu,_,hE⟩:=hv;simp at hu;subst hu;have hE:=hE w' (by rw [h.m];exact hf);refine ⟨hE,?_⟩;obtain ⟨I,cells,_,_,gh,_⟩:=(h.jr f w' hf).row;rcases gh.2 with ⟨h1,h2⟩|⟨g,cap,gV,h1,_,_,h2,_⟩
 ·exact ⟨none,0,by rw [hE,h1,h2],by omega⟩
 ·exact ⟨_,cap,by rw [hE,h1],h2⟩
theorem jS {l:List Operand}:kl c st l=l.map (aX c st):=by
 induction l with
 |nil=>rfl
 |cons x r ih=>simp [kl,ih]
theorem ajC {cl:Call}{t:TypeId}{I:TI}(ho:o.op= .call cl)(hb:cl.callee= .builtin .len)(ha:cl.argTypes.toList=[t])(hI:c.tv t=some I)(hT:lS P c.ti)(h:cF c Z e st a w)(hK:abb I st (kl c st cl.args.toList) (λs=>bM c st o.dst s K)=some r):Rd P c Z K r e a w o (λ_=>True):=by
 obtain ⟨qe,hc⟩:=cz hI;have hr:=hT t I qe;have Sc:cl.argTypes= #[t]:=by rw [<-aa0,ha]
 rw [jS] at hK;have go: ∀x,cl.args.toList=[x]-> ∀n:Nat,(∃b:ByteArray,a.eval x= .string b/\b.size=n/\P.underlying t=some .string)\/(∃ad cap,a.eval x= .slice ad n cap/\ ∃el,P.underlying t=some (.slice el))-> bM c st o.dst (.sc (.p (.i .i64 n))) K=some r->Rd P c Z K r e a w o (λ_=>True):=by
  intro x hx n Ke hK;have Y9:cl.args= #[x]:=by rw [<-aa0,hx]
  refine jR h ?_ (tK .i64 (n:Int)) trivial hK;rcases Ke with ⟨b,h1,h2,h3⟩|⟨ad,cap,h1,el,h3⟩
  ·simp [execOp,ho,resolve,hb,invoke,builtin,Builtin.len_,Sc,Y9,run_underlying h3,h1,goInt,h2]
  ·simp [execOp,ho,resolve,hb,invoke,builtin,Builtin.len_,Sc,Y9,run_underlying h3,h1,goInt]
 cases hl:cl.args.toList with
 |nil=>rw [hl] at hK;simp [abb] at hK
 |cons x ys=>
  rw [hl] at hK;cases ys with
  |cons y zs=>simp only [OF] at hK;unfold abb at hK;split at hK<;>simp_all
  |nil=>
   simp only [OF,ahj] at hK;obtain ⟨hx,_⟩:=h.eval x;generalize aX c st x=s at hx hK;unfold abb at hK;split at hK
   ·rename_i l hs;simp at hs;subst hs;cases hS:I.isS with
    |false=>simp [hS] at hK
    |true=>simp only [hS,cond_true] at hK;obtain ⟨b,EO,rfl⟩:=HV hx;exact go x hl _ (.inl ⟨b,EO,by show b.data.size=_;exact (aaZ).symm,TI.Kb hr hS⟩) hK
   ·rename_i l hs;simp at hs;subst hs;cases hS:I.BS with
    |false=>simp [hS] at hK
    |true=>simp only [hS,cond_true] at hK;obtain ⟨ad,cap,hv,_⟩:=Kc hx;exact go x hl _ (.inr ⟨ad,cap,hv,_,(TI.nW hr hS).1⟩) hK
   ·rename_i hs;simp at hs;subst hs;cases hS:I.BS with
    |false=>simp [hS] at hK
    |true=>simp only [hS,cond_true] at hK;simp only [ao] at hx;have hx:[a.eval x]=[aaY none 0 0]:=hx;simp at hx;exact go x hl 0 (.inr ⟨none,0,hx,_,(TI.nW hr hS).1⟩) hK
   ·rename_i f hs;simp at hs;subst hs;cases hS:I.BS with
    |false=>simp [hS] at hK
    |true=>
     simp only [hS,cond_true] at hK;cases hf:bj st.bA f with
     |none=>simp [hf] at hK
     |some w'=>simp only [hf] at hK;obtain ⟨_,ad,cap,hv,_⟩:=tO h hx hf;exact go x hl _ (.inr ⟨ad,cap,hv,_,(TI.nW hr hS).1⟩) hK
   ·simp at hK
end
end Dn
/-
  Values as leaves; places of elements; the least and the greatest; parts of slices. Conditions: none.
-/
namespace Dn
open Go
section
variable {P:Program}{c:Ctx}{Z:b8}{e:Env}{st:St}{a:Act} {w w':World}{R:Type}{K:St->Option R}{r:R}{Q:Exit->Act->World->Prop}{o:Oper}
structure ail (e:Env) (k:Kd) (vs:List Value) (m:MV) (l:aT):Prop where
 rep:nr e.key e.φ vs m->bo e vs l
 pur:wc l=true
 mv:cj [l]=some [m]
 one: ∀m',l= .p m'->m'.one=true
 wid:l.w=IQ [k]
theorem o6 {k:Kd}{m:MV}{vs:List Value} {K':aT->Option R}(hK:lq k m K'=some r): ∃l,ail e k vs m l/\K' l=some r:=by
 have mk: ∀m:MV,m.one=true->(IQ [k]=1)->K' (.p m)=some r-> ∃l,ail e k vs m l/\K' l=some r:=λm h1 h2 h3=>⟨.p m,⟨λh=>⟨h1,h⟩,rfl,rfl,λm' e=>by cases e;exact h1,h2.symm⟩,h3⟩
 cases k with
 |b=>unfold lq gB at hK;cases m<;>simp at hK;exact mk _ rfl rfl hK
 |s=>unfold lq gS at hK;cases m<;>simp at hK;exact mk _ rfl rfl hK
 |l=>unfold lq gL at hK;cases m<;>simp at hK;exact mk _ rfl rfl hK
 |i k=>
  unfold lq gI at hK;cases m<;>simp at hK;rename_i k' n;by_cases hk:k'=k
  ·subst hk;simp at hK;exact mk _ rfl rfl hK
  ·simp [hk] at hK
 |h=>unfold lq gH at hK;cases m<;>simp at hK;rename_i x;refine ⟨.hs x,⟨?_,rfl,rfl,by simp,rfl⟩,hK⟩;intro h;cases h;rfl
 |raw=>unfold lq gR at hK;cases m<;>simp at hK<;>exact mk _ rfl rfl hK
theorem Dc {l:aT}{ls:List aT}{m:MV}{ms:List MV}(h1:cj [l]=some [m])(h2:cj ls=some ms):cj (l::ls)=some (m::ms):=by cases l<;>simp [cj] at h1⊢ <;>simp [h2,h1]
structure af8 (e:Env) (ks:List Kd) (vs:List Value) (ms:List MV) (ls:List aT):Prop where
 rep:jt e.key e.φ vs ms->aM e vs ls
 pur:kc ls=true
 mv:cj ls=some ms
 one: ∀m',aT.p m'∈ls->m'.one=true
 wid:AK ls=IQ ks
theorem Zd (k:Kd)(ks:List Kd):IQ (k::ks)=IQ [k]+IQ ks:=by cases k<;>simp [IQ]
theorem za {ks:List Kd}: ∀{ms:List MV} {vs:List Value} {K':List aT->Option R},wa ks ms K'=some r-> ∃ls,af8 e ks vs ms ls/\K' ls=some r:=by
 induction ks with
 |nil=>
  intro ms vs K' hK;cases ms with
  |nil=>exact ⟨[],⟨λh=>by cases h;rfl,rfl,rfl,by simp,rfl⟩,hK⟩
  |cons m ms=>simp [wa,gN] at hK
 |cons k ks ih=>
  intro ms vs K' hK;cases ms with
  |nil=>simp [wa,gC] at hK
  |cons m ms=>
   simp only [wa,gC] at hK;have h1:=λvs=>o6 (e:=e) (vs:=vs) hK;obtain ⟨l,hl,ol⟩:=h1 [];obtain ⟨ls,SE,yS⟩:=ih (vs:=[]) ol;refine ⟨l::ls,⟨?_,?_,Dc hl.mv SE.mv,?_,?_⟩,yS⟩
   ·intro h;have g:aM e vs (l::ls):=by
     apply h.leaves (Dc hl.mv SE.mv);intro m' hm;rcases aaS.1 hm with hm|hm
     ·exact hl.one m' hm.symm
     ·exact SE.one m' hm
    exact g
   ·simp [kc,hl.pur,SE.pur]
   ·intro m' hm;rcases aaS.1 hm with hm|hm
    ·exact hl.one m' hm.symm
    ·exact SE.one m' hm
   ·rw [Zd,<-hl.wid,<-SE.wid];rfl
theorem af9 {t:TypeId}{I:TI}(hr:rf c.ti P t I)(hc:I.dJ=[]):IQ I.lay=I.size:=by
 obtain ⟨d,i,h1,h2,h3,h4⟩:=hr;cases d<;>simp only [uL] at h4;case struct fs=>exact h4.2.2.1.2
 case tuple ts=>exact absurd hc h4.2.1
 case slice el=>obtain ⟨_,_,hs,_,_,_,_,k,hl,rfl⟩:=h4;rw [hl,hs];rfl
 case array n el=>obtain ⟨_,_,hs,_,_,_,hl,_⟩:=h4;rw [hl,hs];rfl
 all_goals (obtain ⟨_,_,hs,hl,_⟩:=h4;rw [hl,hs];rfl)
theorem HW {E:TI}{t:TypeId}{x:MV} {K':List aT->Option R}(hr:rf c.ti P t E)(hc:E.dJ=[])(hK:Qh E x K'=some r): ∃cs,JT E.st x cs/\kc cs=true/\AK cs=E.size/\K' cs=some r:=by
 have hlw:=af9 hr hc;unfold Qh at hK;cases jf:E.st with
 |true=>
  simp only [jf,cond_true] at hK;unfold gA at hK;split at hK
  ·rename_i ms;obtain ⟨ls,SE,ol⟩:=za (e:=⟨λn=>n,λ_ _=>none,λ_=>undef,λ_=>0,[]⟩) (vs:=[]) hK;exact ⟨ls,⟨⟨ms,SE.mv,by simp [xg]⟩,SE.one⟩,SE.pur,by rw [SE.wid,hlw],ol⟩
  ·simp at hK
 |false=>
  simp only [jf,cond_false] at hK;split at hK
  ·rename_i k hl;obtain ⟨l,DM,ol⟩:=o6 (e:=⟨λn=>n,λ_ _=>none,λ_=>undef,λ_=>0,[]⟩) (vs:=[]) hK;refine ⟨[l],⟨⟨[x],DM.mv,by simp [xg]⟩,?_⟩,by simp [kc,DM.pur],?_,ol⟩
   ·intro m hm;simp at hm;exact DM.one m hm.symm
   ·rw [<-hlw,hl,<-DM.wid];rfl
  ·simp at hK
theorem ajD {t:TypeId}{x y:Operand}{I E:TI}(ho:o.op= .indexAddr t x y)(hI:c.tv t=some I)(hE:c.tv I.elem=some E)(hT:lS P c.ti)(h:cF c Z e st a w)(hK:ajn c st I E (aX c st x) (aX c st y) (λs=>bM c st o.dst s K)=some r):Rd P c Z K r e a w o (λ_=>True):=by
 obtain ⟨hx,sB⟩:=h.eval x;obtain ⟨hy,_⟩:=h.eval y;obtain ⟨qe,hc⟩:=cz hI;obtain ⟨uh,xk⟩:=cz hE;have hr:=hT t I qe;have hrE:=hT _ E uh;obtain ⟨iE,hiE,hsE,_⟩:=hrE.info xk;have run: ∀k n bO off len cap,P.underlying t=some (.slice I.elem)->a.eval y= .int k n->a.eval x= .slice (some ⟨bO,off,none⟩) len cap->0<=n->n.toNat<len-> ∀w:World,(execOp a.eval o).run P w= .ok (.value (.pointer (some ⟨bO,off+n.toNat *E.size,none⟩))) w:=by
  intro k n bO off len cap hu hy hx h0 h1 w;have h2:n<(len:Int):=by omega
  simp [execOp,ho,hx,hy,Instr.indexAt,asIntOf,run_underlying hu,h0,h2,aaT,typeInfo,hiE,hsE,abR]
 generalize aX c st x=sx at hx hK sB;generalize aX c st y=sy at hy hK;unfold ajn at hK;split at hK
 ·rename_i xs k n;cases hL:I.BS with
  |false=>simp [hL] at hK
  |true=>
   simp only [hL,cond_true] at hK;obtain ⟨h0,m,hm,hK⟩:=SA hK;obtain ⟨cs,h1,h2,h3,hK⟩:=HW hrE xk hK;have eE:n.toNat<xs.length:=(BY.1 hm).1;simp only [ao,bo] at hx;obtain ⟨_,hx⟩:=hx;generalize hv:[a.eval x]=vs at hx;cases hx with
   |list ad cap _ bO off Oq f g1 g2 g3 g4 g5=>
   simp at hv;have iw:=g5 n.toNat eE;rw [(BY.1 hm).2] at iw;have tM:=iw.J5 h1;have hes:Oq=E.size:=by rw [<-h3,<-tM.width,g3 _ eE]
   rw [g2 (by omega)] at hv;refine jR (s:= .rp cs 0) h (run k n bO off _ cap (TI.nW hr hL).1 (mc hy) hv h0 eE) ?_ trivial hK;simp only [ao];refine ⟨bO,off+n.toNat *E.size,f n.toNat,rfl,tM,h2,?_⟩;intro j hj;rw [g3 _ eE] at hj;rw [<-hes];exact g4 n.toNat j eE hj
 ·rename_i f k n;cases hf:bj st.bA f with
  |none=>simp [hf] at hK
  |some fo=>
   simp only [hf] at hK;cases hL:I.BS with
   |false=>simp [hL] at hK
   |true=>
    simp only [hL,cond_true] at hK;obtain ⟨h0,m,hm,hK⟩:=SA hK;obtain ⟨cs,h1,h2,h3,hK⟩:=HW hrE xk hK;have eE:n.toNat<fo.xs.length:=(BY.1 hm).1;obtain ⟨hv,_⟩:=tO h hx hf;obtain ⟨J,cells,_,_,gh,_⟩:=(h.jr f fo hf).row;rcases gh.2 with ⟨h5,h6⟩|⟨g,cap,gV,h5,_⟩
    ·omega
    ·rw [h5] at hv;refine jR (s:= .ep f n.toNat 0 E.st cs) h (run k n g 0 _ cap (TI.nW hr hL).1 (mc hy) hv h0 eE) ?_ trivial hK;simp only [ao];intro o2 dr;rw [h.m,hf] at dr;cases dr;exact ⟨g,cap,h5,⟨m,hm,h1⟩,by rw [h3,aaO,afs]⟩
 ·rename_i r' o' k n;cases jf:I.st with
  |true=>simp [jf] at hK
  |false=>
   simp only [jf,cond_false] at hK;split at hK
   ·rename_i hl;obtain ⟨Vl,hK⟩:=fC hK;obtain ⟨h0,h1⟩:=of_decide_eq_true Vl;obtain ⟨d,i,hu,h2,h3,h4⟩:=hr;cases d<;>simp only [uL,hl,jf] at h4<;>first|(exfalso;simp_all;done)|skip
    obtain ⟨_,_,_,rfl,_,⟨ie,hue,ED,AF⟩,_⟩:=h4;simp only [ao] at hx;refine jR (s:= .hp r' o' n.toNat) (v:= .pointer (some ⟨e.B r',o'+n.toNat,none⟩)) h ?_ ?_ sB hK
    ·simp [execOp,ho,hx,mc hy,Instr.indexAt,asIntOf,run_underlying hu,h0,h1,aaT,typeInfo,ED,AF,afA,abR]
    ·simp only [ao];exact ⟨trivial,by omega⟩
   ·simp at hK
 ·simp at hK
theorem Ze {mx:Bool}{k:IntKind}{ss:List Slot}: ∀{vs:List Value} {n:Int} {m:MV},aa5 mx k n ss=some m->vs.length=ss.length-> (∀(i:Nat) (v:Value) (s:Slot),vs[i]? =some v->ss[i]? =some s->ao e v s)-> ∃v,(∀w:World,(vs.foldlM (if mx then Builtin.max2 else Builtin.min2) (.int k n)).run P w= .ok v w)/\ao e v (.sc (.p m)):=by
 induction ss with
 |nil=>intro vs n m hm hl hs;have:=AT hl;subst this;simp [aa5] at hm;subst hm;exact ⟨.int k n,by simp,tK k n⟩
 |cons s ss ih=>
  intro vs n m hm hl hs;cases vs with
  |nil=>simp at hl
  |cons v vs=>
   have h0:=hs 0 v s rfl rfl;unfold aa5 at hm;split at hm
   ·rename_i ju;simp at ju
   ·rename_i k' y r' ju;simp at ju;obtain ⟨rfl,rfl⟩:=ju;by_cases hk:k'=k
    ·subst hk;simp only [decide_true,cond_true] at hm;obtain ⟨u,h1,h2⟩:=ih hm (by simpa using hl) (λi v s h1 h2=>hs (i+1) v s (by simpa using h1) (by simpa using h2));refine ⟨u,λw=> ?_,h2⟩;have h1:=h1 w;rw [mc h0];cases mx
     ·simp only [cond_false,anj] at h1;simp [Builtin.min2] at h1⊢;exact h1
     ·simp only [cond_true,imax] at h1;simp [Builtin.max2] at h1⊢;exact h1
    ·simp [hk] at hm
   ·simp at hm
theorem Oz {cl:Call}{mx:Bool}{m:MV}(ho:o.op= .call cl)(hb:cl.callee= .builtin (if mx then .max else .min))(h:cF c Z e st a w)(hm:Vs mx (kl c st cl.args.toList)=some m)(hK:bM c st o.dst (.sc (.p m)) K=some r):Rd P c Z K r e a w o (λ_=>True):=by
 rw [jS] at hm;cases hl:cl.args.toList with
 |nil=>rw [hl] at hm;simp [Vs] at hm
 |cons x xs=>
  rw [hl] at hm;simp only [OF] at hm;obtain ⟨hx,_⟩:=h.eval x;generalize aX c st x=s at hx hm;unfold Vs at hm;split at hm
  ·rename_i k n ss ju;simp at ju;obtain ⟨rfl,rfl⟩:=ju;obtain ⟨v,h1,h2⟩:=Ze (e:=e) (P:=P) (vs:=xs.map a.eval) hm (by simp) (by intro i v s h1 h2;simp only [aaR,Option.map_eq_some_iff] at h1 h2;obtain ⟨y,h3,rfl⟩:=h1;obtain ⟨y',h4,rfl⟩:=h2;rw [h3] at h4;cases h4;exact (h.eval y).1);have kL:(cl.args.map a.eval).toList= .int k n::xs.map a.eval:=by simp [hl,mc hx]
   refine jR (v:=v) h ?_ h2 trivial hK;intro w;have h1:=h1 w;cases mx
   ·simp at hb h1;have abH: ∀ts t,(Builtin.min_ ts t (cl.args.map a.eval)).run P w= .ok v w:=by intro ts t;unfold Builtin.min_;rw [kL];exact h1
    simp [execOp,ho,resolve,hb,invoke,builtin,abH]
   ·simp at hb h1;have abH: ∀ts t,(Builtin.max_ ts t (cl.args.map a.eval)).run P w= .ok v w:=by intro ts t;unfold Builtin.max_;rw [kL];exact h1
    simp [execOp,ho,resolve,hb,invoke,builtin,abH]
  ·simp at hm
end
end Dn
/-
  Parts of slices and texts. Conditions: none.
-/
namespace Dn
open Go
section
variable {P:Program}{c:Ctx}{Z:b8}{e:Env}{st:St}{a:Act} {w w':World}{R:Type}{K:St->Option R}{r:R}{Q:Exit->Act->World->Prop}{o:Oper}
theorem zb {b:Bool}{lo hi:Option Operand}{len cap:Nat} {K':Nat->Nat->Option R}(h:cF c Z e st a w)(DQ:len<=cap)(hK:sliceB (np c st lo) (np c st hi) len K'=some r): ∃l h',l<=h'/\h'<=len/\(lo=none->l=0)/\(∀w:World,(aaP b len cap (lo.map a.eval) (hi.map a.eval) none).run P w= .ok (l,h',cap) w)/\K' l h'=some r:=by
 have bnd: ∀(k:IntKind) (n:Int) (y:Nat) (cd:BoundsCode),0<=n->n<=(y:Int)-> ∀w:World,(acs (.int k n) y cd).run P w= .ok n.toNat w:=by intro k n y cd h1 h2 w;simp [acs,asIntOf,h1,h2]
 unfold sliceB at hK;cases lo with
 |none=>
  cases hi with
  |none=>simp only [np] at hK;exact ⟨0,len,by omega,by omega,λ_=>rfl,by simp [aaP],hK⟩
  |some y=>
   obtain ⟨hy,_⟩:=h.eval y;simp only [np] at hK;generalize aX c st y=sy at hy hK;split at hK<;>first|(simp_all;done)|skip
   ·rename_i k n h1 h2;simp at h2;subst h2;obtain ⟨Vl,hK⟩:=fC hK;obtain ⟨h3,h4,h5⟩:=of_decide_eq_true Vl;refine ⟨0,n.toNat,by omega,by omega,λ_=>rfl,?_,hK⟩;have:=bnd k n cap (if b then .sliceAcap else .sliceAlen) h4 (by omega);cases b<;>simp at this<;>simp [aaP,mc hy,this]
 |some x=>
  obtain ⟨hx,_⟩:=h.eval x;cases hi with
  |none=>
   simp only [np] at hK;generalize aX c st x=sx at hx hK;split at hK<;>first|(simp_all;done)|skip
   ·rename_i k n h1 h2;simp at h1;subst h1;obtain ⟨Vl,hK⟩:=fC hK;obtain ⟨h3,h4,h5⟩:=of_decide_eq_true Vl;refine ⟨n.toNat,len,by omega,by omega,by simp,?_,by simpa using hK⟩;have:=bnd k n len .sliceB h3 h4;simp [aaP,mc hx,this]
  |some y=>
   obtain ⟨hy,_⟩:=h.eval y;simp only [np] at hK;generalize aX c st x=sx at hx hK;generalize aX c st y=sy at hy hK;split at hK<;>first|(simp_all;done)|skip
   ·rename_i k n k' n' h1 h2;simp at h1 h2;subst h1;subst h2;obtain ⟨Vl,hK⟩:=fC hK;obtain ⟨h3,h4,h5⟩:=of_decide_eq_true Vl;refine ⟨n.toNat,n'.toNat,by omega,by omega,by simp,?_,hK⟩;have t1:=bnd k' n' cap (if b then .sliceAcap else .sliceAlen) (by omega) (by omega);have t2:=bnd k n n'.toNat .sliceB h3 (by omega);cases b<;>simp at t1<;>simp [aaP,mc hx,mc hy,t1,t2]
theorem nr.sub {key:Nat->Nat} {φ:Ph}{ad:Option Addr}{len cap:Nat}{xs:List MV} {l h' size:Nat}(hv:nr key φ [.slice ad len cap] (.list xs))(hl:l<=h')(hh:h'<=xs.length)(hw:l≠0-> ∀x∈xs,x.w=size):len=xs.length/\len<=cap/\nr key φ [.slice (if cap=l then ad else ad.map (·.add (l *size))) (h'-l) (cap-l)] (.list ((xs.take h').drop l)):=by
 generalize C9:[aaY ad len cap]=vs at hv;cases hv with
 |list ad' abE _ bO off Oq f g1 g2 g3 g4 g5=>
 simp at C9;obtain ⟨rfl,rfl,rfl⟩:=C9;refine ⟨rfl,g1,?_⟩;have hlen:((xs.take h').drop l).length=h'-l:=by simp;omega
 have anJ:nr key φ [.slice (if cap=l then ad else ad.map (·.add (l *size))) ((xs.take h').drop l).length (cap-l)] (.list ((xs.take h').drop l)):=by
  have uN: ∀i,i<((xs.take h').drop l).length->i+l<xs.length:=by intro i hi;omega
  have hel: ∀(i:Nat) (hi:i<((xs.take h').drop l).length),((xs.take h').drop l)[i]=xs[i+l]'(uN i hi):=by intro i hi;simp [agQ]
  refine .list _ _ _ bO (off+l *Oq) Oq (λi=>f (i+l)) (by rw [hlen];omega) ?_ ?_ ?_ ?_
  ·intro h0;have eu:cap≠l:=by omega
   have hx0:0<xs.length:=by omega
   rw [g2 hx0];simp only [eu,if_false,Option.map_some,IN];by_cases hl0:l=0
   ·subst hl0;simp [abR]
   ·have hes:Oq=size:=by have h3:=g5 0 hx0;rw [<-g3 0 hx0,h3.width];exact hw hl0 _ (ag0 hx0)
    rw [hes,abR]
  ·intro i hi;exact g3 _ (uN i hi)
  ·intro i j hi hj;have:=g4 (i+l) j (uN i hi) hj;rw [<-this];congr 1;rw [adp];omega
  ·intro i hi;rw [hel i hi];exact g5 (i+l) (uN i hi)
 rw [hlen] at anJ;exact anJ
theorem EQ {n:Nat}{l:List MV}(h:oa n l=true): ∀x∈l,x.w=n:=by intro x hx;unfold oa at h;rw [agZ] at h;exact sh (h x hx)
theorem bQ.oa {key:Nat->Nat} {φ:Ph}{size:Nat}{xs:List MV}: ∀{cs:List Value},bQ key φ size cs xs-> ∀x∈xs,x.w=size:=by
 induction xs with
 |nil=>intro cs _ x hx;simp at hx
 |cons y ys ih=>
  intro cs h x hx;obtain ⟨v,q,rfl,h1,h2,h3⟩:=h;rcases aaS.1 hx with rfl|hx
  ·rw [<-h2.width,h1]
  ·exact ih h3 x hx
theorem abI {t:TypeId}{x:Operand}{lo hi:Option Operand}{I:TI}(ho:o.op= .slice t x lo hi none)(hI:c.tv t=some I)(hT:lS P c.ti)(h:cF c Z e st a w)(hK:Vt c I st (aX c st x) (np c st lo) (np c st hi) (λs st=>bM c st o.dst s K)=some r):Rd P c Z K r e a w o (λ_=>True):=by
 obtain ⟨hx,sB⟩:=h.eval x;obtain ⟨qe,hc⟩:=cz hI;have hr:=hT t I qe;have run: ∀{el E},P.underlying t=some (.slice el)->c.ti el=some E->E.dJ=[]-> ∀ad len cap l h',a.eval x= .slice ad len cap->(∀w:World,(aaP true len cap (lo.map a.eval) (hi.map a.eval) none).run P w= .ok (l,h',cap) w)-> ∀w:World,(execOp a.eval o).run P w= .ok (.value (.slice (if cap=l then ad else ad.map (·.add (l *E.size))) (h'-l) (cap-l))) w:=by intro el E hu hE xk ad len cap l h' hv hb w;obtain ⟨iE,hiE,hsE,_⟩:=(hT _ E hE).info xk;simp [execOp,ho,agG,ag5,run_underlying hu,hv,hb,aaT,typeInfo,hiE,hsE]
 generalize hs:aX c st x=s at hx hK sB;unfold Vt at hK;split at hK
 ·rename_i bs;cases hS:I.isS with
  |false=>simp [hS] at hK
  |true=>
   simp only [hS,cond_true] at hK;have hu:=TI.Kb hr hS;obtain ⟨b,hb,rfl⟩:=HV hx;have ug:b.data.toList.length=b.size:=by rw [aaZ];rfl
   rw [ug] at hK;obtain ⟨l,h',h1,h2,_,h3,hK⟩:=zb (P:=P) (b:=false) (cap:=b.size) h (aaI _) hK;refine jR (s:= .sc (.p (.s ((b.data.toList.take h').drop l)))) (v:= .string (b.extract l h')) h ?_ ?_ trivial hK
   ·simp [execOp,ho,agG,ag5,run_underlying hu,hb,h3]
   ·have:=aby (e:=e) (b.extract l h');have h5:(b.extract l h').data.toList=(b.data.toList.take h').drop l:=by rw [afM,agf,afE,List.drop_take]
    rwa [h5] at this
 ·rename_i xs;cases hS:I.BS with
  |false=>simp [hS] at hK
  |true=>
   simp only [hS,cond_true] at hK;obtain ⟨hu,_⟩:=TI.nW hr hS;cases hE:c.tv I.elem with
   |none=>simp [hE] at hK
   |some E=>
    simp only [hE] at hK;obtain ⟨uh,xk⟩:=cz hE;have yS:(lo≠none->oa E.size xs=true)/\sliceB (np c st lo) (np c st hi) xs.length (λl h'=>bM c st o.dst (.sc (.p (.list ((xs.take h').drop l)))) K)=some r:=by
     cases lo with
     |none=>exact ⟨by simp,hK⟩
     |some y=>simp only [np] at hK⊢;obtain ⟨h1,h2⟩:=fC hK;exact ⟨λ_=>h1,h2⟩
    obtain ⟨hw,hK⟩:=yS;obtain ⟨ad,cap,hv,DQ⟩:=Kc hx;obtain ⟨l,h',h1,h2,h0,h3,hK⟩:=zb (P:=P) (b:=true) (cap:=cap) h DQ hK;simp only [ao,bo] at hx;rw [hv] at hx;obtain ⟨_,_,iw⟩:=nr.sub (size:=E.size) hx.2 h1 h2 (λhl=>EQ (hw (λhn=>hl (h0 hn))));refine jR (s:= .sc (.p (.list ((xs.take h').drop l)))) h (run hu uh xk ad _ cap l h' hv h3) ?_ trivial hK;simp only [ao,bo];exact ⟨rfl,iw⟩
 ·rename_i f;cases hf:bj st.bA f with
  |none=>simp [hf] at hK
  |some fo=>
   simp only [hf] at hK;cases hS:I.BS&&fj fo.ty I.elem with
   |false=>simp [hS] at hK
   |true=>simp only [hS,cond_true] at hK;simp only [aaM] at hS;obtain ⟨hu,E,uh,xk,_⟩:=TI.nW hr hS.1;have kK:=sh hS.2;obtain ⟨hvE,ad,cap,hv,DQ⟩:=tO h hx hf;simp only [ao] at hx;obtain ⟨J,cells,hJ,_,_,qf,_⟩:=(h.jr f fo hf).row;rw [kK,uh] at hJ;cases hJ;have hwx:=qf.oa;obtain ⟨e',cB,m,Dd,af6,IR,iw,hK,_,hm⟩:=pk h hx hK;obtain ⟨o2,dr,rfl⟩:=hm.1 f rfl;rw [hf] at dr;cases dr;obtain ⟨l,h',h1,h2,h0,h3,hK⟩:=zb (P:=P) (b:=true) (cap:=cap) h DQ hK;rw [hv] at iw;obtain ⟨_,_,iw⟩:=nr.sub (size:=E.size) iw h1 h2 (λ_=>hwx);refine VH (s:= .sc (.p (.list ((fo.xs.take h').drop l)))) (λw _=>run hu uh xk ad _ cap l h' hv h3 w) Dd af6.tr (.of ?_ trivial) hK;simp only [ao,bo];exact ⟨rfl,iw⟩
 ·cases hS:I.BS with
  |false=>simp [hS] at hK
  |true=>
   simp only [hS,cond_true] at hK;obtain ⟨hu,E,uh,xk,_⟩:=TI.nW hr hS;simp only [ao] at hx;have hx:[a.eval x]=[aaY none 0 0]:=hx;simp at hx;obtain ⟨l,h',h1,h2,_,h3,hK⟩:=zb (P:=P) (b:=true) (cap:=0) h (aaI _) hK;have h4:h'=0:=by omega
   have h5:l=0:=by omega
   subst h4;subst h5;refine jR (s:= .sc .nil) h (run hu uh xk none 0 0 0 0 hx h3) ?_ trivial hK;simp only [ao,if_true];rfl
 ·simp at hK
theorem aga {t:TypeId}{x y z:Operand}{I:TI}(ho:o.op= .slice t x none (some y) (some z))(hI:c.tv t=some I)(hT:lS P c.ti)(h:cF c Z e st a w)(hK:aa9 I (aX c st x) (aX c st y) (aX c st z) (λs=>bM c st o.dst s K)=some r):Rd P c Z K r e a w o (λ_=>True):=by
 obtain ⟨hx,sB⟩:=h.eval x;obtain ⟨hy,_⟩:=h.eval y;obtain ⟨hz,_⟩:=h.eval z;obtain ⟨qe,hc⟩:=cz hI;have hr:=hT t I qe;generalize aX c st x=s at hx hK sB;generalize aX c st y=s2 at hy hK;generalize aX c st z=s3 at hz hK;unfold aa9 at hK;split at hK
 ·rename_i l n n';cases hS:I.BS with
  |false=>simp [hS] at hK
  |true=>
   simp only [hS,cond_true] at hK;obtain ⟨Vl,yS⟩:=fC hK;obtain ⟨rfl,rfl⟩:=of_decide_eq_true Vl;obtain ⟨hu,E,uh,xk,_⟩:=TI.nW hr hS;obtain ⟨iE,hiE,hsE,_⟩:=(hT _ E uh).info xk;obtain ⟨ad,cap,hv,DQ⟩:=Kc hx;simp only [ao,bo] at hx;rw [hv] at hx;have bnd: ∀(m:Nat) (cd:BoundsCode),l.length<=m-> ∀w:World,(acs (.int .i64 (l.length:Int)) m cd).run P w= .ok l.length w:=by
    intro m cd hm w;have:(l.length:Int)<=(m:Int):=by omega
    simp [acs,asIntOf,this]
   have hb: ∀w:World,(aaP true l.length cap none (some (.int .i64 (l.length:Int))) (some (.int .i64 (l.length:Int)))).run P w= .ok (0,l.length,l.length) w:=by intro w;have b1:=bnd cap .slice3Acap DQ;have b2:=bnd l.length .slice3B (aaI _);simp [aaP,b1,b2]
   have iw:nr e.key e.φ [.slice ad l.length l.length] (.list l):=by
    have h2:=hx.2;generalize C9:[aaY ad l.length cap]=vs at h2;cases h2 with
    |list ad' abE _ bO off Oq f g1 g2 g3 g4 g5=>
    simp at C9;obtain ⟨rfl,_⟩:=C9;exact .list _ _ _ bO off Oq f (aaI _) g2 g3 g4 g5
   refine jR (s:= .sc (.p (.clip l))) (v:= .slice ad l.length l.length) h (λw=> ?_) ?_ trivial yS
   ·simp [execOp,ho,agG,ag5,run_underlying hu,hv,mc hy,mc hz,hb,aaT,typeInfo,hiE,hsE];intro eu;cases ad with
    |none=>rfl
    |some b=>simp [Addr.add]
   ·simp only [ao,bo];exact ⟨rfl,.clip _ _ iw⟩
 ·simp at hK
end
end Dn
/-
  Stores. Conditions: none.
-/
namespace Dn
open Go
section
variable {P:Program}{c:Ctx}{Z:b8} {e e':Env}{st:St}{a:Act} {w w':World}{R:Type}{K:St->Option R}{r:R}{Q:Exit->Act->World->Prop}{o:Oper}
theorem Kf (x:lp)(i:Nat)(b:UInt8)(hi:i<32):bV (x.put i b)=(bV x).take i++[.int .u8 (b.toNat:Int)]++(bV x).drop (i+1):=by
 have:bV (x.put i b)=(bV x).set i (.int .u8 (b.toNat:Int)):=by simp [bV,lp.put,List.map_set]
 have hl:=dL x;rw [this,List.set_eq_take_append_cons_drop,if_pos (by omega)];simp
structure abJ (e e':Env):Prop where
 key:e'.key=e.key
 φ:tI e.φ e'.φ
 jr: ∀f o',bj e'.m f=some o'->(∃o,bj e.m f=some o)/\e'.E f=e.E f
theorem bo.onE (h:abJ e e'){vs:List Value}{l:aT}(hr:bo e vs l):bo e' vs l:=by
 cases l with
 |p m=>exact ⟨hr.1,by have:=hr.2.mono h.φ;rw [<-h.key] at this;exact this⟩
 |own f=>obtain ⟨v,rfl,hv,hf⟩:=hr;refine ⟨v,rfl,hv,λo' Nc=> ?_⟩;obtain ⟨⟨o,ho⟩,hE⟩:=h.jr f o' Nc;rw [hE];exact hf o ho
 |_=>exact hr
theorem aM.onE (h:abJ e e'){cs:List aT}: ∀{vs:List Value},aM e vs cs->aM e' vs cs:=by
 induction cs with
 |nil=>intro vs hr;exact hr
 |cons l r ih=>intro vs hr;obtain ⟨v,w,rfl,h1,h2⟩:=hr;exact ⟨v,w,rfl,h1.onE h,ih h2⟩
def XG (f:Nat)(s:Slot):Slot:=match s with
 | .ep g i o b cs=>bif fj g f then .sc .un else .ep g i o b cs
 |s=>s
theorem xP (f:Nat)(r:Fr)(t:Nat):aH (AM f r) t=XG f (aH r t):=JW (XG f) rfl r t
theorem Zf (f:Nat)(s:Slot):dD (XG f s)=dD s:=by cases s<;>simp only [XG];rename_i g _ _ _ _;cases fj g f<;>rfl
theorem ao.onE {f:Nat}{T:Nat->Prop}(h:abJ e e')(yR:oe (· ≠f) T e e'){v:Value}{s:Slot}(hT:hM (λ_=>True) T s)(hr:ao e v s):ao e' v (XG f s):=by
 cases s with
 |sc l=>
  simp only [XG];cases l with
  |un=>simp [ao]
  |hs x=>simpa [ao] using hr
  |p m=>simp only [ao] at hr⊢;exact hr.onE h
  |nil=>simp only [ao] at hr⊢;exact hr.onE h
  |mp s es=>simp only [ao] at hr⊢;exact hr
  |own f=>simp only [ao] at hr⊢;exact hr.onE h
 |ag cs=>simp only [XG,ao] at hr⊢;obtain ⟨arr,h1,h2⟩:=hr;exact ⟨arr,h1,h2.onE h⟩
 |ep g i o b cs=>
  simp only [XG];cases hb:fj g f
  ·simp only [cond_false];refine hr.on yR ?_;simp only [hM];intro e;subst e;simp [fc] at hb
  ·simp [ao]
 |_=>exact hr.on yR hT
theorem kX.onE (h:abJ e e')(hk:e'.key=e.key)(hp:tI e.φ e'.φ){o:Obj}{cs:List aT}(hr:kX e o cs):kX e' o cs:=by
 cases o with
 |cells arr T z=>exact ⟨hr.1,hr.2.onE h⟩
 |map es clock=>exact hr
 |stringIter x pos=>exact hr
 |_=>exact hr.elim
theorem bQ.set {key:Nat->Nat} {φ:Ph}{size:Nat}{xs:List MV}: ∀{cs:List Value} {i:Nat} {x:MV} {v':List Value},bQ key φ size cs xs->i<xs.length->v'.length=size->nr key φ v' x-> bQ key φ size (cs.take (i *size)++v'++cs.drop (i *size+size)) (xs.set i x):=by
 induction xs with
 |nil=>intro cs i x v' _ hi;simp at hi
 |cons y ys ih=>
  intro cs i x v' h hi hl hr;obtain ⟨v,q,rfl,h1,h2,h3⟩:=h;cases i with
  |zero=>simp only [agV,List.take_zero,afQ,aaO,List.set_cons_zero];exact ⟨v',q,by rw [abU h1],hl,hr,h3⟩
  |succ i=>have:=ih h3 (by simpa using hi) hl hr;rw [List.set_cons_succ];refine ⟨v,_,?_,h1,h2,this⟩;rw [aa1,acO,afH,abf (by omega),afN (by omega)];rw [show i *size+size-v.length=i *size by omega,show i *size+size+size-v.length=i *size+size by omega];simp
theorem cF.ajG {f:Nat}{fo:pY}{I:TI}{g i:Nat}{cap:Nat}{gV:Array Value} {v' cells:List Value}{x:MV}(h:cF c Z e st a w)(hf:bj st.bA f=some fo)(hz:fo.fB=false)(hI:c.ti fo.ty=some I)(hIc:I.dJ=[])(hE:e.E f= .slice (some ⟨g,0,none⟩) fo.xs.length cap)(gh:w.ownsRow 0 fo.ty I.size (e.E f) fo.xs.length cells)(hg:w.heap[g]? =some (.cells gV fo.ty (0,0)))(qf:bQ e.key e.φ I.size cells fo.xs)(hi:i<fo.xs.length)(hl:v'.length=I.size)(hr:nr e.key e.φ v' x)(DP:f∉Z.dt): cF c Z {e with m:=cN e.m f ⟨fo.ty,false,fo.xs.set i x⟩} {st with fr:=AM f st.fr,bA:=cN st.bA f ⟨fo.ty,false,fo.xs.set i x⟩} a (w.setRow g (gV.toList.take (i *I.size)++v'++gV.toList.drop (i *I.size+I.size)).toArray)/\Z g:=by
 have hb:(e.E f).ownBlock=some g:=by rw [hE];rfl
 have hZ:Z g/\ ∀off,e.φ g off=none:=by
  obtain ⟨J,y9,_,_,_,_,h5⟩:=(h.jr f fo hf).row;obtain ⟨h6,h7⟩:=h5 g hb;refine ⟨R9 h6 DP,λoff=> ?_⟩;cases hp:e.φ g off with
  |none=>rfl
  |some u=>have:=(h7.1 off u hp).1;rw [hz] at this;cases this
 have ug:=setRow_size w g (gV.toList.take (i *I.size)++v'++gV.toList.drop (i *I.size+I.size)).toArray;have hE1:abJ e {e with m:=cN e.m f ⟨fo.ty,false,fo.xs.set i x⟩}:=by
  refine ⟨rfl,.refl _,λf2 o2 dr=>⟨?_,rfl⟩⟩;have dr:bj (cN e.m f ⟨fo.ty,false,fo.xs.set i x⟩) f2=some o2:=dr;rw [bN] at dr;by_cases gy:f2=f
  ·exact ⟨fo,by rw [gy,h.m];exact hf⟩
  ·simp only [gy,if_false] at dr;exact ⟨o2,dr⟩
 have yR:oe (· ≠f) (λ_=>True) e {e with m:=cN e.m f ⟨fo.ty,false,fo.xs.set i x⟩}:=by refine ⟨rfl,.refl _,λ_ _=>rfl,λf2 o2 dr eu=> ?_⟩;have dr:bj (cN e.m f ⟨fo.ty,false,fo.xs.set i x⟩) f2=some o2:=dr;rw [bN] at dr;simp only [eu,if_false] at dr;exact ⟨o2,dr,rfl,rfl⟩
 have uN: ∀f2 o2,bj (cN st.bA f ⟨fo.ty,false,fo.xs.set i x⟩) f2=some o2-> ∃o3,bj st.bA f2=some o3:=by
  intro f2 o2 dr;rw [bN] at dr;by_cases gy:f2=f
  ·exact ⟨fo,by rw [gy];exact hf⟩
  ·simp only [gy,if_false] at dr;exact ⟨o2,dr⟩
 refine ⟨⟨h.defers,h.size,by show cN e.m f _=cN st.bA f _;rw [h.m],h.key,?_,?_,?_,?_,?_,?_,?_,?_,λb hb=>h.dp b (by omega)⟩,hZ.1⟩
 ·show (bk (AM f st.fr)).Nodup;have:bk (AM f st.fr)=bk st.fr:=by simp [bk,AM]
  rw [this];exact h.nodup
 ·intro t;show cW Z _ _ t _ (aH (AM f st.fr) t);rw [xP];have hs:=h.slot t;have hbf:=h.bf t;generalize aH st.fr t=s at hs hbf;by_cases Kg: ∃cs,s= .box cs
  ·obtain ⟨cs,rfl⟩:=Kg;simp only [cW,XG] at hs⊢;refine ⟨hs.1,hs.2.dp,?_,hs.2.free⟩;obtain ⟨o2,h1,h2⟩:=hs.2.obj;refine ⟨o2,?_,h2.onE hE1 rfl (.refl _)⟩;rw [setRow_other _ _ _ _ (by intro eb;exact hbf cs f fo rfl hf (by rw [hb,<-eb]))];exact h1
  ·have Dd:ao e (a.tmps.getD t undef) s:=by cases s<;>simp only [cW] at hs<;>first|exact hs|exact absurd ⟨_,rfl⟩ Kg
   have h2:=Dd.onE (f:=f) hE1 yR (fv s);generalize Vm:XG f s=s2 at h2;cases s2<;>first|exact h2|(exfalso;simp [ao] at h2)
 ·intro t;show dq (AM f st.fr) (aH (AM f st.fr) t);rw [xP];have sB:=h.root t;generalize aH st.fr t=s at sB;have hk: ∀q,dD (aH (AM f st.fr) q)=dD (aH st.fr q):=λq=>by rw [xP,Zf]
  cases s with
  |ptr q o=>show dD (aH (AM f st.fr) q)=true;rw [hk];exact sB
  |hp q o i=>show dD (aH (AM f st.fr) q)=true;rw [hk];exact sB
  |AJ q=>show dD (aH (AM f st.fr) q)=true;rw [hk];exact sB
  |ep g' _ _ _ _=>simp only [XG];cases fj g' f<;>trivial
  |_=>trivial
 ·intro f2 o2 dr;have dr:bj (cN st.bA f ⟨fo.ty,false,fo.xs.set i x⟩) f2=some o2:=dr;rw [bN] at dr;by_cases gy:f2=f
  ·subst gy;simp at dr;subst dr;obtain ⟨hlen,Ke⟩:=gh;refine ⟨I,cells.take (i *I.size)++v'++cells.drop (i *I.size+I.size),hI,hIc,⟨?_,?_⟩,?_,?_⟩
   ·have hle:i *I.size+I.size<=fo.xs.length *I.size:=by rw [<-aa1];exact aaK _ hi
    simp only [IS,acW,afI,ahe];omega
   ·have hle:i *I.size+I.size<=fo.xs.length *I.size:=by rw [<-aa1];exact aaK _ hi
    rcases Ke with ⟨h1,_⟩|⟨g2,ER,SH,h1,_,h3,h4,h5,h6,h7⟩
    ·rw [hE] at h1;simp at h1
    ·rw [hE] at h1;simp at h1;obtain ⟨rfl,rfl⟩:=h1;rw [hg] at h3;simp at h3;subst h3;refine .inr ⟨g,cap,(gV.toList.take (i *I.size)++v'++gV.toList.drop (i *I.size+I.size)).toArray,by rw [hE];simp,by omega,setRow_heap _ _ _ _ _ _ hg,by simpa using h4,h5,?_,?_⟩
     ·have tu:gV.toList.length=gV.size:=by simp
      have hcz:fo.xs.length *I.size<=cap *I.size:=aaK _ h4;simp only [abA,IS,acW,afI,tu];omega
     ·have tu:gV.toList.length=gV.size:=by simp
      have hcz:fo.xs.length *I.size<=cap *I.size:=aaK _ h4;simp only [ahe];rw [<-h7];have e1:(gV.toList.take (fo.xs.length *I.size)).take (i *I.size)=gV.toList.take (i *I.size):=by rw [List.take_take,Nat.min_eq_left (by omega)]
      have e2:(gV.toList.take (fo.xs.length *I.size)).drop (i *I.size+I.size)=(gV.toList.drop (i *I.size+I.size)).take (fo.xs.length *I.size-(i *I.size+I.size)):=by rw [List.drop_take]
      rw [e1,e2];have e3:(gV.toList.take (i *I.size)++v').length=i *I.size+I.size:=by simp only [IS,acW,tu];omega
      show List.take _ (gV.toList.take (i *I.size)++v'++gV.toList.drop (i *I.size+I.size))=_;rw [acO,e3,abf (by omega)]
   ·exact qf.set hi hl hr
   ·intro bO lT;rw [hb] at lT;cases lT;exact ⟨.inr hZ.1,λoff u hu=>(by have hu:e.φ g off=some u:=hu;rw [hZ.2] at hu;cases hu),λ_ hf=>Bool.noConfusion hf⟩
  ·simp only [gy,if_false] at dr;obtain ⟨I2,y9,h1,h2,h3,h4,h5⟩:=(h.jr f2 o2 dr).row;exact ⟨I2,y9,h1,h2,VM (λhk=>gy (h.ff f2 f o2 fo g dr hf hk hb)) h3,h4,h5⟩
 ·intro t t' c1 c2 h1 h2 eu;have h1:aH (AM f st.fr) t= .box c1:=h1;have h2:aH (AM f st.fr) t'= .box c2:=h2;rw [xP] at h1 h2;have g1:aH st.fr t= .box c1:=by generalize aH st.fr t=s at h1;cases s<;>simp only [XG] at h1<;>first|exact h1|(simp at h1;done)|(rename_i g' _ _ _ _;cases C7:fj g' f<;>simp [C7] at h1)
  have g2:aH st.fr t'= .box c2:=by generalize aH st.fr t'=s at h2;cases s<;>simp only [XG] at h2<;>first|exact h2|(simp at h2;done)|(rename_i g' _ _ _ _;cases C7:fj g' f<;>simp [C7] at h2)
  exact h.bb t t' c1 c2 g1 g2 eu
 ·intro t c1 f2 o2 h1 h2;have h1:aH (AM f st.fr) t= .box c1:=h1;rw [xP] at h1;have g1:aH st.fr t= .box c1:=by generalize aH st.fr t=s at h1;cases s<;>simp only [XG] at h1<;>first|exact h1|(simp at h1;done)|(rename_i g' _ _ _ _;cases C7:fj g' f<;>simp [C7] at h1)
  obtain ⟨o3,VL⟩:=uN f2 o2 h2;exact h.bf t c1 f2 o3 g1 VL
 ·intro f1 f2 o1 o2 k h1 h2 h3 h4;obtain ⟨q1,g1⟩:=uN f1 o1 h1;obtain ⟨q2,g2⟩:=uN f2 o2 h2;exact h.ff f1 f2 q1 q2 k g1 g2 h3 h4
 ·intro b off v hv;have hv:e.φ b off=some v:=hv;have eu:b≠g:=by intro eb;subst eb;rw [hZ.2] at hv;cases hv
  rw [aaW (setRow_other _ _ _ _ eu)];exact h.q9 b off v hv
theorem aM.aul {cs:List aT}: ∀{vs:List Value} {ms:List MV},aM e vs cs->cj cs=some ms->jt e.key e.φ vs ms:=by
 induction cs with
 |nil=>intro vs ms h hm;cases h;simp [cj] at hm;subst hm;exact .nil
 |cons l r ih=>
  intro vs ms h hm;obtain ⟨v,u,rfl,h1,h2⟩:=h;cases hr:cj r with
  |none=>cases l<;>simp [cj,hr] at hm
  |some q=>
   cases l<;>simp [cj,hr] at hm
   ·subst hm;exact .cons v _ u q h1.2 (ih h2 hr)
   ·subst hm;have h1:v=bV _:=h1;subst h1;exact .cons _ _ u q (.h _) (ih h2 hr)
theorem abL {b:Bool}{ms:List MV}{x:MV}{vs:List Value}(h:jt e.key e.φ vs ms)(hx:xg b ms=some x):nr e.key e.φ vs x:=by
 cases b with
 |true=>cases ms<;>simp [xg] at hx<;>subst hx<;>exact .agg _ _ h
 |false=>
  cases ms with
  |nil=>simp [xg] at hx
  |cons m ms=>
   cases ms with
   |cons y ys=>simp [xg] at hx
   |nil=>
    simp [xg] at hx;subst hx;generalize C9:vs=Vi at h;cases h with
    |cons v _ u _ h1 h2=>cases h2;simpa using h1
theorem abM {t:TypeId}{x y:Operand}{I:TI}(ho:o.op= .store t x y)(hI:c.tv t=some I)(hT:lS P c.ti)(h:cF c Z e st a w)(hK:stK st I (aX c st x) (aX c st y) (λst=>bM c st o.dst (.sc .un) K)=some r):o.wp P a w (Out c Z K r e.φ w) Q:=by
 obtain ⟨hx,sB⟩:=h.eval x;obtain ⟨hy,_⟩:=h.eval y;obtain ⟨qe,hc⟩:=cz hI;have hr:=hT t I qe;have go: ∀w' cB,(afF t (a.eval x) (a.eval y)).run P w= .ok () w'->cF c Z e cB a w'->Trans Z e.φ w e.φ w'->bM c cB o.dst (.sc .un) K=some r->o.wp P a w (Out c Z K r e.φ w) Q:=by intro w' cB h1 h2 h3 h4;refine EN ?_ h2 h3 h4;simp [execOp,ho,h1]
 generalize aX c st x=sx at hx hK sB;generalize aX c st y=sy at hy hK;unfold stK at hK;cases hb:xM (ba sy)||!fj (AK (ba sy)) I.size with
 |true=>simp [hb] at hK
 |false=>
  simp only [hb,cond_false] at hK;simp only [aaX,afB] at hb;have J8:=sh hb.2;have jv:0<I.size:=by
   rcases hr.agg hc with ⟨d,hu,hd,hh⟩|⟨_,_,_,_,hh⟩
   ·obtain ⟨d',i',h1,h2,h3,h4⟩:=hr;cases d'<;>simp only [uL] at h4<;>first|omega|exact h4.2.2.1|exact absurd hc h4.2.1
   ·omega
  have eu:ba sy≠[]:=by intro e0;rw [e0] at J8;simp [AK] at J8;omega
  have hcv:=Da hy hb.1 eu;split at hK
  ·rename_i root off;simp only [ao] at hx;split at hK
   ·rename_i cs AS;have xJ:gY cs=false:=by cases hq:gY cs<;>simp_all
    simp only [xJ,cond_false] at hK;cases hp:putAt cs off (ba sy) with
    |none=>simp [hp] at hK
    |some j9=>simp only [hp] at hK;obtain ⟨w',cB,h1,h2,h3,h4⟩:=Za (P:=P) xJ hr hc h AS hcv J8 hp hK;exact go w' cB (by rw [hx];exact h1) h2 h3 h4
   ·simp at hK
  ·rename_i root off i;simp only [ao] at hx;obtain ⟨hx,VK⟩:=hx;split at hK
   ·rename_i cs n AS;have xJ:gY cs=false:=by cases hq:gY cs<;>simp_all
    simp only [xJ,cond_false] at hK;split at hK
    ·rename_i x ls ajx;unfold gI at hK;split at hK
     ·rename_i k n;by_cases hk:k= .u8
      ·subst hk;simp only [decide_true,cond_true] at hK;obtain ⟨ES,hK⟩:=fC hK;unfold isByte at ES;have ES:=of_decide_eq_true ES;have hyv:=mc hy;cases hp:putAt cs off [.hs (x.put i (abK n.toNat))] with
       |none=>simp [hp] at hK
       |some j9=>
        simp only [hp] at hK;have nt:=h.slot root;rw [AS] at nt;obtain ⟨arr,T,fD,tM⟩:=nt.2.cells xJ;obtain ⟨p1,p2,p3,he,h1,h2,h3⟩:=yZ (ws:=bV (x.put i (abK n.toNat))) hp tM ⟨_,[],by simp,rfl,rfl⟩;obtain ⟨u1,u2,hu,h4,h5⟩:=AP ajx tM;obtain ⟨u3,u4,rfl,h6,_⟩:=h5;have h6:u3=bV x:=h6;subst h6;have hlx:=dL x;have hly:=dL (x.put i (abK n.toNat));have hpu:p1=u1/\p2++p3=bV x++u4:=List.append_inj (by rw [<-AI,<-he,hu]) (by omega);obtain ⟨rfl,hpu⟩:=hpu;obtain ⟨rfl,rfl⟩:=List.append_inj hpu (by omega);have ug:arr.size=p1.length+32+p3.length:=by
         have:arr.toList.length=(p1++bV x++p3).length:=by rw [he]
         simp at this;omega
        have Qw:(a.eval y).cells.toList=[.int .u8 n]:=by rw [hyv];simp [aaJ]
        have VJ:I.size=1:=by rw [<-J8];rfl
        have cV:=tc (P:=P) (w:=w) (bO:=e.B root) (off:=off+i) (v:=a.eval y) hr hc (by rw [Qw,VJ];rfl) (by rw [Qw];simp [aav]) fD (by omega);have xO:arr.toList.take (off+i)++(a.eval y).cells.toList++arr.toList.drop (off+i+I.size)=p1++bV (x.put i (abK n.toNat))++p3:=by rw [Qw,VJ,he,Kf x i _ VK,<-ES,AI p1,acO,afH,acO,afH];rw [abf (by omega),afN (by omega)];rw [show off+i-p1.length=i by omega,show off+i+1-p1.length=i+1 by omega,show i-(bV x).length=0 by omega,show i+1-(bV x).length=0 by omega];simp
        rw [xO] at cV;unfold wr at hK;cases hn:bU st.dg root with
        |true=>simp [hn] at hK
        |false=>simp only [hn,cond_false,force_eq,oO] at hK;exact go _ _ (by rw [hx];exact cV) (h.abD AS fD (by simpa using h3) (λt=>by rw [cE]) (fZ h.nodup)) (.setRow _ (R9 nt.2.dp (by rw [<-h.defers.2.1,<-ck,hn];simp))) hK
      ·simp [hk] at hK
     ·simp at hK
    ·simp at hK
   ·simp at hK
  ·rename_i f i off b cs;obtain ⟨e1,dC,ms,AF,Ka,G6,AW,hK,hp1,Db⟩:=oh h hcv hK;have hx:=hx.on Ka.on (fv _);cases hf:bj dC.bA f with
   |none=>simp [hf] at hK
   |some fo=>
    simp only [hf] at hK;cases hz:fo.fB with
    |true=>simp [hz] at hK
    |false=>
     simp only [hz,cond_false] at hK;cases Ow:ta (ba sy) ms with
     |none=>simp [Ow] at hK
     |some vs=>
      simp only [Ow] at hK;obtain ⟨C9,_⟩:=Db vs Ow;cases hp:putAt cs off vs with
      |none=>simp [hp] at hK
      |some j9=>
       simp only [hp] at hK;cases hm:cj j9 with
       |none=>simp [hm] at hK
       |some ms'=>
        simp only [hm] at hK;cases hre:xg b ms' with
        |none=>simp [hre] at hK
        |some x'=>
         simp only [hre] at hK;cases hn:bU dC.dt f with
         |true=>simp [hn] at hK
         |false=>
          simp only [hn,cond_false,ajp,qc] at hK;simp only [ao] at hx;obtain ⟨bO,cap,hE,⟨x0,hx0,hel⟩,abN⟩:=hx fo (by rw [AF.m];exact hf);obtain ⟨J,cells,hJ,hJc,gh,qf,_⟩:=(AF.jr f fo hf).row;have hi:i<fo.xs.length:=(BY.1 hx0).1;obtain ⟨p1,v1,p2,hce,Vj,DM,iw⟩:=qf.at hx0;have tM:=iw.J5 hel;have hw1:=tM.width;obtain ⟨q1,q2,q3,SB,hq1,hq2,xO⟩:=yZ hp tM C9;have anK:(a.eval y).cells.toList.length=I.size:=by rw [hcv.width,J8]
          have anL:=abL (xO.aul hm) hre;obtain ⟨hlen,Ke⟩:=gh;rcases Ke with ⟨g1,_⟩|⟨g2,ER,gV,g1,g0,g3,g4,g5,g6,g7⟩
          ·rw [hE] at g1;simp at g1
          ·have OA:w.ownsRow 0 fo.ty J.size (e1.E f) fo.xs.length cells:=⟨hlen,.inr ⟨g2,ER,gV,g1,g0,g3,g4,g5,g6,g7⟩⟩
           rw [hE] at g1;simp at g1;obtain ⟨rfl,rfl⟩:=g1;have hvl:(q1++(a.eval y).cells.toList++q3).length=J.size:=by
            have:v1.length=(q1++q2++q3).length:=by rw [SB]
            simp only [IS] at this⊢;omega
           obtain ⟨tP,hZ⟩:=AF.ajG hf hz hJ hJc hE OA g3 qf hi hvl anL (by rw [<-AF.defers.2.2.1,<-ck,hn];simp);have abO:gV.toList=p1++q1++q2++(q3++p2++gV.toList.drop (fo.xs.length *J.size)):=by have:=List.take_append_drop (fo.xs.length *J.size) gV.toList;rw [g7,hce,SB] at this;refine this.symm.trans ?_;simp
           have aBg:q2.length=I.size:=by rw [hq2,anK]
           have J9:(p1++q1).length=i *J.size+off:=by simp [Vj,hq1]
           have aBh:gV.size=(p1++q1).length+I.size+(q3++p2++gV.toList.drop (fo.xs.length *J.size)).length:=by
            have:gV.toList.length=(p1++q1++q2++(q3++p2++gV.toList.drop (fo.xs.length *J.size))).length:=by rw [<-abO]
            rw [IS,IS] at this;rw [aaZ] at this;omega
           have cV:=tc (P:=P) (w:=w) (bO:=bO) (off:=i *J.size+off) (v:=a.eval y) hr hc anK hcv.cells g3 (by omega);have Aa:gV.toList.take (i *J.size+off)++(a.eval y).cells.toList++gV.toList.drop (i *J.size+off+I.size)= gV.toList.take (i *J.size)++(q1++(a.eval y).cells.toList++q3)++gV.toList.drop (i *J.size+J.size):=by
            have t1:gV.toList.take (i *J.size+off)=p1++q1:=by
             conv=>lhs;rw [abO,AI (p1++q1)]
             exact adr J9
            have t2:gV.toList.drop (i *J.size+off+I.size)=q3++p2++gV.toList.drop (fo.xs.length *J.size):=by
             conv=>lhs;rw [abO]
             exact abU (by rw [IS];omega)
            have t3:gV.toList.take (i *J.size)=p1:=by
             conv=>lhs;rw [abO]
             simp only [AI];exact adr Vj
            have t4:gV.toList.drop (i *J.size+J.size)=p2++gV.toList.drop (fo.xs.length *J.size):=by
             have anM:gV.toList=(p1++(q1++q2++q3))++(p2++gV.toList.drop (fo.xs.length *J.size)):=by
              conv=>lhs;rw [abO]
              simp
             conv=>lhs;rw [anM]
             exact abU (by rw [IS,<-SB];omega)
            rw [t1,t2,t3,t4];simp
           rw [Aa] at cV;have auo:i *AK cs+off=i *J.size+off:=by rw [<-hw1,DM]
           refine EN (w':=w.setRow bO (gV.toList.take (i *J.size)++(q1++(a.eval y).cells.toList++q3)++gV.toList.drop (i *J.size+J.size)).toArray) ?_ tP ?_ hK
           ·rw [auo] at abN;simp [execOp,ho,abN,cV]
           ·exact Ka.tr.trans (.setRow _ hZ)
  ·simp at hK
end
end Dn
/-
  Structs and sums that are put together. Conditions: none.
-/
namespace Dn
open Go
section
variable {P:Program}{c:Ctx}{Z:b8} {e e':Env}{st:St}{a:Act} {w w':World}{R:Type}{K:St->Option R}{r:R}{Q:Exit->Act->World->Prop}{o:Oper}
theorem OB {place:Nat->Option (Nat×Nat)}{cells:Array Value}{i off:Nat}{v:Value}{rest:List (Nat×Value)}(hp:place i=some (off,v.cells.size))(hle:off+v.cells.size<=cells.size): afD place cells ((i,v)::rest)=afD place (cells.toList.take off++v.cells.toList++cells.toList.drop (off+v.cells.size)).toArray rest:=by
 conv=>lhs;unfold afD
 simp only [hp];rw [if_neg (by simp;omega)];congr 1;rw [<-Array.foldl_toList,Array.toList_zipIdx];obtain ⟨h1,h2⟩:=Go.Great.foldl_set off v.cells.toList 0 cells;apply agI;intro k;have hl:(cells.toList.take off).length=off:=by simp;omega
 have e0:=h2 k;simp only [afs,aaZ] at e0;refine Eq.trans e0 ?_;have e1:(cells.toList.take off++v.cells.toList++cells.toList.drop (off+v.cells.size)).toArray[k]? =(cells.toList.take off++v.cells.toList++cells.toList.drop (off+v.cells.size))[k]? :=by simp
 rw [e1,AI];have e2:cells[k]? =cells.toList[k]? :=by simp
 by_cases h3:k<off
 ·rw [if_neg (by omega),aaH (by omega),aaU,if_pos h3,e2]
 ·rw [aay (by omega),hl];by_cases h4:k<off+v.cells.size
  ·rw [if_pos ⟨by omega,h4,by omega⟩,aaH (by simp;omega)]
  ·rw [if_neg (by omega),aay (by simp;omega),afC,e2];congr 1;simp;omega
theorem VP {I:TI}{places:List (Nat×Nat)}(h:cF c Z e st a w)(Ow: ∀(i q y:Nat)(J:TI),I.Si[i]? =some q->I.YV[i]? =some y->c.tv y=some J->places[i]? =some (q,J.size)/\0<J.size){parts:List (Nat×Operand)}: ∀{cs ds:List aT} {cells:Array Value},aM e cells.toList cs->DG c st I parts cs=some ds-> ∃out,afD (places.toArray[·]?) cells (parts.map λp=>(p.1,a.eval p.2))=some out/\aM e out.toList ds:=by
 induction parts with
 |nil=>intro cs ds cells hl hb;simp [DG] at hb;subst hb;exact ⟨cells,rfl,hl⟩
 |cons p ps ih=>
  intro cs ds cells hl hb;obtain ⟨i,x⟩:=p;simp only [DG] at hb;split at hb
  ·rename_i q y hq hy;cases hJ:c.tv y with
   |none=>simp [hJ] at hb
   |some J=>
    simp only [hJ] at hb;obtain ⟨hpi,jv⟩:=Ow i q y J hq hy hJ;cases hu:xM (ba (aX c st x))||!fj (AK (ba (aX c st x))) J.size with
    |true=>simp [hu] at hb
    |false=>
     simp only [hu,cond_false] at hb;simp only [aaX,afB] at hu;have J8:=sh hu.2;cases hp:putAt cs q (ba (aX c st x)) with
     |none=>simp [hp] at hb
     |some j9=>
      simp only [hp] at hb;have eu:ba (aX c st x)≠[]:=by intro e0;rw [e0] at J8;simp [AK] at J8;omega
      have hv:=Da (h.eval x).1 hu.1 eu;obtain ⟨p1,p2,p3,he,h1,h2,h3⟩:=yZ hp hl hv;have hlen:(a.eval x).cells.size=J.size:=by rw [<-J8,<-hv.width];simp
      have ug:cells.size=p1.length+p2.length+p3.length:=by
       have:cells.toList.length=(p1++p2++p3).length:=by rw [he]
       simp at this;omega
      have SD:p2.length=(a.eval x).cells.size:=by rw [h2];simp
      have tw:=OB (place:=(places.toArray[·]?)) (cells:=cells) (i:=i) (off:=q) (v:=a.eval x) (rest:=ps.map λp=>(p.1,a.eval p.2)) (by rw [hlen];simpa using hpi) (by omega);have ht:cells.toList.take q++(a.eval x).cells.toList++cells.toList.drop (q+(a.eval x).cells.size)=p1++(a.eval x).cells.toList++p3:=by rw [he];rw [AI p1 p2 p3,adr h1,<-AI p1 p2 p3,abU (by rw [IS];omega)]
      rw [ht] at tw;obtain ⟨out,h4,h5⟩:=ih (cells:=(p1++(a.eval x).cells.toList++p3).toArray) (by simpa using h3) hb;exact ⟨out,by rw [OF,tw];exact h4,h5⟩
  ·simp at hb
theorem VQ {parts:List (Nat×Operand)}(h:cF c Z e st a w): ∀{x:lp} {K':lp->Option R},JN c st parts x K'=some r-> ∃y,afD (λi=>some (i *1,1)) (bV x).toArray (parts.map λp=>(p.1,a.eval p.2))=some (bV y).toArray/\K' y=some r:=by
 induction parts with
 |nil=>intro x K' hb;exact ⟨x,rfl,hb⟩
 |cons p ps ih=>
  intro x K' hb;obtain ⟨i,y⟩:=p;simp only [JN] at hb;split at hb
  ·rename_i m hm;cases hi:aaQ 32 i with
   |true=>simp [hi] at hb
   |false=>
    simp only [hi,cond_false] at hb;have VK:i<32:=by
     by_cases eE:i<32
     ·exact eE
     ·have:aaQ 32 i=true:=afR (by omega);simp_all
    unfold gI at hb;split at hb
    ·rename_i k n;by_cases hk:k= .u8
     ·subst hk;simp only [decide_true,cond_true] at hb;obtain ⟨ES,hb⟩:=fC hb;unfold isByte at ES;have ES:=of_decide_eq_true ES;obtain ⟨out,h1,h2⟩:=ih hb;have hv:=mc (by have:=(h.eval y).1;rw [hm] at this;exact this);refine ⟨out,?_,h2⟩;rw [<-h1,OF];have Vl:(a.eval y).cells= #[.int .u8 n]:=by rw [hv];simp [aaJ]
      have tw:=OB (place:=λi=>some (i *1,1)) (cells:=(bV x).toArray) (i:=i) (off:=i *1) (v:=a.eval y) (rest:=ps.map λp=>(p.1,a.eval p.2)) (by rw [Vl];rfl) (by rw [Vl];have:=dL x;simp;omega);rw [tw,Kf x i _ VK,<-ES,Vl];simp
     ·simp [hk] at hb
    ·simp at hb
  ·simp at hb
theorem Zg (P:Program)(l:List Field):(∀f∈l,∃i,P.info? f.type=some i)-> ∃places,l.mapM (λf=>(P.info? f.type).map λi=>(f.offset,i.size))=some places/\ ∀(k:Nat) (f:Field),l[k]? =some f-> ∃i,P.info? f.type=some i/\places[k]? =some (f.offset,i.size):=by
 induction l with
 |nil=>intro _;exact ⟨[],by simp,by simp⟩
 |cons f fs ih=>
  intro h;obtain ⟨i,hi⟩:=h f (by simp);obtain ⟨ps,h1,h2⟩:=ih (λg hg=>h g (by simp [hg]));refine ⟨(f.offset,i.size)::ps,by simp [List.mapM_cons,hi,h1],?_⟩;intro k g hg;cases k with
  |zero=>simp at hg;subst hg;exact ⟨i,hi,rfl⟩
  |succ k=>simp at hg;simpa using h2 k g hg
theorem abP {t:TypeId}{parts:Array (Nat×Operand)}{I:TI}(ho:o.op= .build t parts)(hI:c.tv t=some I)(hT:lS P c.ti)(h:cF c Z e st a w)(hK:(bif I.st then (match DG c st I parts.toList I.zero with|some cs=>bM c st o.dst (.ag cs) K|none=>none)
  else (match I.lay with|[.h]=>JN c st parts.toList lp.zero λx=>bM c st o.dst (.sc (.hs x)) K|_=>none))=some r):Rd P c Z K r e a w o (λ_=>True):=by
 obtain ⟨qe,hc⟩:=cz hI;obtain ⟨d,i,h1,h2,h3,h4⟩:=hT t I qe;have hpe:(parts.map λ(i,x)=>(i,a.eval x)).toList=parts.toList.map λp=>(p.1,a.eval p.2):=by simp
 have run: ∀out,P.built t (parts.toList.map λp=>(p.1,a.eval p.2))=some out-> ∀w:World,(execOp a.eval o).run P w= .ok (.value (.agg out)) w:=by intro out hb w;have:=run_build (P:=P) w t (parts.map λ(i,x)=>(i,a.eval x)) out (by rw [hpe];exact hb);simp [execOp,ho] at this⊢;simp [this]
 cases jf:I.st with
 |true=>
  simp only [jf,cond_true] at hK;cases d<;>simp only [uL] at h4;case struct fs=>
   obtain ⟨_,_,_,Y7,dr,VL,zc,hz,hzl,_⟩:=h4;cases hb:DG c st I parts.toList I.zero with
   |none=>simp [hb] at hK
   |some cs=>
    simp only [hb] at hK;have aup: ∃places,fs.toList.mapM (λf=>(P.info? f.type).map λi=>(f.offset,i.size))=some places/\ (∀(i q y:Nat) (J:TI),I.Si[i]? =some q->I.YV[i]? =some y->c.tv y=some J->places[i]? =some (q,J.size)/\0<J.size):=by
     obtain ⟨places,hp1,Vk⟩:=Zg P fs.toList (by intro f hf;obtain ⟨k,hk,rfl⟩:=af4.1 hf;obtain ⟨J,hJ,hJc,_⟩:=VL k fs.toList[k] (by simp at hk⊢);obtain ⟨i,hi,_⟩:=(hT _ J hJ).info hJc;exact ⟨i,hi⟩);refine ⟨places,hp1,?_⟩;intro i q y J hq hy hJ;rw [<-Y7,aaR] at hq;rw [<-dr,aaR] at hy;cases hf:fs.toList[i]? with
     |none=>simp [hf] at hq
     |some f=>simp [hf] at hq hy;subst hq;subst hy;obtain ⟨J2,hJ2,auq,jv⟩:=VL i f (by simpa using hf);obtain ⟨hJt,_⟩:=cz hJ;rw [hJ2] at hJt;cases hJt;obtain ⟨i2,hi2,aur⟩:=Vk i f hf;obtain ⟨i3,hi3,hs3,_⟩:=(hT _ J hJ2).info auq;rw [hi2] at hi3;cases hi3;exact ⟨by rw [aur,hs3],jv⟩
    obtain ⟨places,Ow,VR⟩:=aup;obtain ⟨out,h5,h6⟩:=VP h VR (cells:=zc) (mJ hzl) hb;refine jR (v:= .agg out) (s:= .ag cs) h (run out ?_) ?_ trivial hK
    ·unfold Program.built;simp only [h2,h1,hz,Ow];exact h5
    ·simp only [ao];exact ⟨out,rfl,h6⟩
  all_goals (exfalso;simp_all)
 |false=>
  simp only [jf,cond_false] at hK;split at hK
  ·rename_i hl;cases d<;>simp only [uL,hl,jf] at h4<;>first|(exfalso;simp_all;done)|skip
   obtain ⟨_,_,_,rfl,rfl,⟨ie,hu,ED,AF⟩,_,_,hz⟩:=h4;obtain ⟨y,h5,h6⟩:=VQ h hK;refine jR (v:= .agg (bV y).toArray) (s:= .sc (.hs y)) h (run _ ?_) ?_ trivial h6
   ·unfold Program.built;simp only [h2,h1,hz,ED,AF];exact h5
   ·simp only [ao]
  ·simp at hK
end
end Dn
/-
  A family comes to have other content. Conditions: none.
-/
namespace Dn
open Go
section
variable {P:Program}{c:Ctx}{Z:b8} {e e':Env}{st:St}{a:Act} {w w':World}{R:Type}{K:St->Option R}{r:R}{Q:Exit->Act->World->Prop}{o:Oper}
def Env.AX (e:Env)(f:Nat)(v:Value)(fo:pY):Env:={e with E:=λg=>if g=f then v else e.E g,m:=cN e.m f fo}
def St.AX (st:St)(f:Nat)(fo:pY):St:={st with fr:=my f st.fr,bA:=cN st.bA f fo}
theorem G7 (f:Nat)(s:Slot):dD (C6 f s)=dD s:=by cases s<;>simp only [C6,dD];rename_i g _ _ _ _;cases fj g f<;>rfl
theorem wi {f:Nat}{s:Slot}{cs:List aT}(h:C6 f s= .box cs): ∃IV,s= .box IV/\cs=IV.map (R8 f):=by
 cases s<;>simp only [C6] at h<;>first|(simp at h;done)|(rename_i g _ _ _ _;cases hb:fj g f<;>simp [hb] at h;done)|skip
 rename_i IV;simp at h;exact ⟨IV,rfl,h.symm⟩
theorem cF.kW {f:Nat}{fo:pY} {v':Value}(h:cF c Z e st a w)(DP:f∉Z.dt)(mK:eD c Z.nc e w' v' fo)(azg:w.heap.size<=w'.heap.size)(fD: ∀b,b<w.heap.size->(∀o,bj st.bA f=some o->(e.E f).ownBlock≠some b)->w'.heap[b]? =w.heap[b]?)(pO: ∀b o v,e.φ b o=some v->w'.cell? ⟨b,o,none⟩=some v)(xO: ∀b,v'.ownBlock=some b->w.heap.size<=b\/ ∃o,bj st.bA f=some o/\(e.E f).ownBlock=some b): cF c Z (e.AX f v' fo) (st.AX f fo) a w':=by
 have yR:oe (· ≠f) (λ_=>True) e (e.AX f v' fo):=by refine ⟨rfl,.refl _,λ_ _=>rfl,λf2 o2 dr eu=> ?_⟩;have dr:bj (cN e.m f fo) f2=some o2:=dr;rw [bN] at dr;simp only [eu,if_false] at dr;exact ⟨o2,dr,by simp [Env.AX,eu],rfl⟩
 have abQ: ∀t cs,aH st.fr t= .box cs->e.B t<w.heap.size:=by intro t cs ht;have hs:=h.slot t;rw [ht] at hs;obtain ⟨o2,h1,_⟩:=hs.2.obj;exact bR h1
 have tJ: ∀t cs,aH st.fr t= .box cs->w'.heap[e.B t]? =w.heap[e.B t]? :=by intro t cs ht;exact fD _ (abQ t cs ht) (λo ho=>h.bf t cs f o ht ho)
 refine ⟨h.defers,h.size,by show cN e.m f _=cN st.bA f _;rw [h.m],h.key,?_,?_,?_,?_,?_,?_,?_,pO,λb hb=>h.dp b (by omega)⟩
 ·show (bk (my f st.fr)).Nodup;have:bk (my f st.fr)=bk st.fr:=by simp [bk,my]
  rw [this];exact h.nodup
 ·intro t;show cW Z _ _ t _ (aH (my f st.fr) t);rw [iS];have hs:=h.slot t;have ET:=tJ t;generalize aH st.fr t=s at hs ET;by_cases Kg: ∃cs,s= .box cs
  ·obtain ⟨cs,rfl⟩:=Kg;simp only [cW,C6] at hs⊢;refine ⟨hs.1.mG (VG f _),hs.2.dp,?_,hs.2.free⟩;obtain ⟨o2,h1,h2⟩:=hs.2.obj;refine ⟨o2,by show w'.heap[e.B t]? =_;rw [ET cs rfl];exact h1,?_⟩;refine (h2.map (λ_ _=>bo.kill f) (λ_ _=>rfl)).on yR ?_;intro l hl;obtain ⟨x,_,rfl⟩:=afK.1 hl;exact JZ f x
  ·have Dd:ao e (a.tmps.getD t undef) s:=by cases s<;>simp only [cW] at hs<;>first|exact hs|exact absurd ⟨_,rfl⟩ Kg
   have h2:=(Dd.kill f).on yR (abu f _ s (fv s));generalize Vm:C6 f s=s2 at h2;cases s2<;>first|exact h2|(exfalso;simp [ao] at h2)
 ·intro t;show dq (my f st.fr) (aH (my f st.fr) t);rw [iS];have sB:=h.root t;generalize aH st.fr t=s at sB;have hk: ∀q,dD (aH (my f st.fr) q)=dD (aH st.fr q):=λq=>by rw [iS,G7]
  cases s with
  |ptr q o=>show dD (aH (my f st.fr) q)=true;rw [hk];exact sB
  |hp q o i=>show dD (aH (my f st.fr) q)=true;rw [hk];exact sB
  |AJ q=>show dD (aH (my f st.fr) q)=true;rw [hk];exact sB
  |ep g' _ _ _ _=>simp only [C6];cases fj g' f<;>trivial
  |_=>trivial
 ·intro f2 o2 dr;have dr:bj (cN st.bA f fo) f2=some o2:=dr;rw [bN] at dr;by_cases gy:f2=f
  ·subst gy;simp at dr;subst dr;have:=(mK.to DP).env (e':=e.AX f2 v' fo) rfl rfl;simpa [Env.AX] using this
  ·simp only [gy,if_false] at dr;obtain ⟨I2,y9,h1,h2,h3,h4,h5⟩:=(h.jr f2 o2 dr).row;refine ⟨I2,y9,h1,h2,?_,h4,?_⟩
   ·show w'.ownsRow 0 o2.ty I2.size (if f2=f then v' else e.E f2) o2.xs.length y9;rw [if_neg gy];refine ⟨h3.1,?_⟩;rcases h3.2 with h6|⟨g,cap,gV,g1,g2,g3,g4⟩
    ·exact .inl h6
    ·refine .inr ⟨g,cap,gV,g1,g2,?_,g4⟩;rw [fD g (bR g3) (λo ho hk=>gy (h.ff f2 f o2 o g dr ho (by rw [g1];rfl) hk))];exact g3
   ·intro bO hb;have hb:(if f2=f then v' else e.E f2).ownBlock=some bO:=hb;rw [if_neg gy] at hb;exact h5 bO hb
 ·intro t t' c1 c2 h1 h2 eu;have h1:aH (my f st.fr) t= .box c1:=h1;have h2:aH (my f st.fr) t'= .box c2:=h2;rw [iS] at h1 h2;obtain ⟨d1,g1,_⟩:=wi h1;obtain ⟨d2,g2,_⟩:=wi h2;exact h.bb t t' d1 d2 g1 g2 eu
 ·intro t c1 f2 o2 h1 h2;have h1:aH (my f st.fr) t= .box c1:=h1;have h2:bj (cN st.bA f fo) f2=some o2:=h2;rw [iS] at h1;rw [bN] at h2;obtain ⟨d1,g1,_⟩:=wi h1;show (if f2=f then v' else e.E f2).ownBlock≠some (e.B t);by_cases gy:f2=f
  ·rw [if_pos gy];intro hb;rcases xO _ hb with h3|⟨o,h3,h4⟩
   ·have:=abQ t d1 g1;omega
   ·exact h.bf t d1 f o g1 h3 h4
  ·rw [if_neg gy];simp only [gy,if_false] at h2;exact h.bf t d1 f2 o2 g1 h2
 ·intro f1 f2 o1 o2 k h1 h2 h3 h4;have h1:bj (cN st.bA f fo) f1=some o1:=h1;have h2:bj (cN st.bA f fo) f2=some o2:=h2;have h3:(if f1=f then v' else e.E f1).ownBlock=some k:=h3;have h4:(if f2=f then v' else e.E f2).ownBlock=some k:=h4;rw [bN] at h1 h2;have xj: ∀g og,bj st.bA g=some og->(e.E g).ownBlock=some k->k<w.heap.size:=by
   intro g og hg hk;obtain ⟨I2,y9,_,_,g3,_⟩:=(h.jr g og hg).row;rcases g3.2 with ⟨g5,_⟩|⟨b,cap,gV,g5,_,g6,_⟩
   ·rw [g5] at hk;simp [No] at hk
   ·rw [g5] at hk;simp only [No,IN] at hk;subst hk;exact bR g6
  by_cases Qx:f1=f
  ·by_cases EE:f2=f
   ·rw [Qx,EE]
   ·rw [if_pos Qx] at h3;rw [if_neg EE] at h4;simp only [EE,if_false] at h2;rcases xO k h3 with h5|⟨o,h5,h6⟩
    ·have:=xj f2 o2 h2 h4;omega
    ·exact Qx.trans (h.ff f f2 o o2 k h5 h2 h6 h4)
  ·rw [if_neg Qx] at h3;simp only [Qx,if_false] at h1;by_cases EE:f2=f
   ·rw [if_pos EE] at h4;rcases xO k h4 with h5|⟨o,h5,h6⟩
    ·have:=xj f1 o1 h1 h3;omega
    ·exact (h.ff f1 f o1 o k h1 h5 h3 h6).trans EE.symm
   ·rw [if_neg EE] at h4;simp only [EE,if_false] at h2;exact h.ff f1 f2 o1 o2 k h1 h2 h3 h4
theorem ui {f:Nat}{fo:pY}(hK:kW st f fo K=some r):K (st.AX f fo)=some r:=by
 unfold Dn.kW at hK;cases hn:bU st.dt f with
 |true=>simp [hn] at hK
 |false=>simpa [hn,abq,qc,St.AX] using hK
theorem cF.npf {f:Nat}{fo:pY}(h:cF c Z e st a w)(hK:Dn.kW st f fo K=some r):f∉Z.dt:=by intro hm;rw [<-h.defers.2.2.1,<-ck] at hm;simp [Dn.kW,hm] at hK
theorem xQ {f:Nat}{fo:pY}{v:Value}(h1:v.oneCell'=true):ao (e.AX f v fo) v (.sc (.own f)):=by simp only [ao];exact ⟨v,rfl,h1,λo ho=>by simp [Env.AX]⟩
end
end Dn
/-
  What is appended. Conditions: none.
-/
namespace Dn
open Go
section
variable {P:Program}{c:Ctx}{Z:b8} {e e':Env}{st:St}{a:Act} {w w':World}{R:Type}{K:St->Option R}{r:R}{Q:Exit->Act->World->Prop}{o:Oper}
theorem xR {t:TypeId}{I:TI}(hr:rf c.ti P t I)(hc:I.dJ=[]): ∃i z,P.info? t=some i/\i.size=I.size/\i.bytes=I.bytes/\i.zero=some z/\z.cells.size=I.size:=by
 obtain ⟨d,i,h1,h2,h3,h4⟩:=hr;obtain ⟨h5,h6⟩:=h3 hc;cases d<;>simp only [uL] at h4;case struct fs=>obtain ⟨_,_,_,_,_,_,cs,hz,_,hs⟩:=h4;exact ⟨i,_,h2,h5,h6,hz,by simpa [aaJ] using hs⟩
 case tuple ts=>exact absurd hc h4.2.1
 case slice el=>obtain ⟨_,_,hs,_,_,hz,_⟩:=h4;exact ⟨i,_,h2,h5,h6,hz,by rw [hs];rfl⟩
 case array n el=>obtain ⟨_,_,hs,_,_,_,_,_,hz⟩:=h4;exact ⟨i,_,h2,h5,h6,hz,by rw [hs];simp [aaJ,dL]⟩
 case bool=>obtain ⟨_,_,hs,_,_,hz⟩:=h4;exact ⟨i,_,h2,h5,h6,hz,by rw [hs];rfl⟩
 case int k=>obtain ⟨_,_,hs,_,_,hz⟩:=h4;exact ⟨i,_,h2,h5,h6,hz,by rw [hs];rfl⟩
 case string=>obtain ⟨_,_,hs,_,_,b,hz,_⟩:=h4;exact ⟨i,_,h2,h5,h6,hz,by rw [hs];rfl⟩
 all_goals
  obtain ⟨_,_,hs,_,v,hz,hv,_⟩:=h4;refine ⟨i,v,h2,h5,h6,hz,?_⟩;rw [hs];cases v<;>simp_all [aaJ,aav]
structure Src (e:Env) (w:World) (size:Nat) (v:Value) (ys:List MV) (news:List Value):Prop where
 els:bQ e.key e.φ size news ys
 val: ∃ad cap,v= .slice ad ys.length cap/\(ad=none->ys=[])/\ ∀x,ad=some x-> ∀(j:Nat) (u:Value),news[j]? =some u->w.cell? (x.add j)=some u
theorem bQ.Kh {key:Nat->Nat} {φ:Ph}{size:Nat}{xs:List MV}: ∀{cs:List Value},bQ key φ size cs xs-> ∀u∈cs,u.oneCell'=true:=by
 induction xs with
 |nil=>intro cs h;cases h;simp
 |cons x xs ih=>
  intro cs h u hu;obtain ⟨v,q,rfl,_,h2,h3⟩:=h;rcases afO.1 hu with hu|hu
  ·exact h2.cells u hu
  ·exact ih h3 u hu
theorem bQ.append {key:Nat->Nat} {φ:Ph}{size:Nat}{xs ys:List MV}: ∀{cs ds:List Value},bQ key φ size cs xs->bQ key φ size ds ys->bQ key φ size (cs++ds) (xs++ys):=by
 induction xs with
 |nil=>intro cs ds h h';cases h;simpa using h'
 |cons x xs ih=>intro cs ds h h';obtain ⟨v,q,rfl,h1,h2,h3⟩:=h;exact ⟨v,q++ds,by simp,h1,h2,ih h3 h'⟩
theorem Ki {key:Nat->Nat} {φ:Ph}{size:Nat}{xs:List MV}: ∀{f:Nat->List Value},(∀i,i<xs.length->(f i).length=size)->(∀(i:Nat) (h:i<xs.length),nr key φ (f i) xs[i])-> ∃cs,bQ key φ size cs xs/\ ∀(i j:Nat),i<xs.length->j<size->cs[i *size+j]? =(f i)[j]? :=by
 induction xs with
 |nil=>intro f _ _;exact ⟨[],rfl,λi j hi=>by simp at hi⟩
 |cons x xs ih=>
  intro f h1 h2;obtain ⟨cs,h3,h4⟩:=ih (f:=λi=>f (i+1)) (λi hi=>h1 (i+1) (by simpa using hi)) (λi hi=>h2 (i+1) (by simpa using hi));have hl:=h1 0 (by simp);refine ⟨f 0++cs,⟨f 0,cs,rfl,hl,h2 0 (by simp),h3⟩,?_⟩;intro i j hi hj;cases i with
  |zero=>rw [agV,aaO,aaH (by omega)]
  |succ i=>rw [aa1,aay (by omega),show i *size+size+j-(f 0).length=i *size+j by omega];exact h4 i j (by simpa using hi) hj
theorem HX {I E:TI}{x:Slot}{v:Value} {K':List MV->Option R}(h:cF c Z e st a w)(hE:c.ti I.elem=some E)(jv:0<E.size)(hx:ao e v x)(hK:Qj I E st x K'=some r): ∃ys news,Src e w E.size v ys news/\K' ys=some r:=by
 unfold Qj at hK;split at hK
 ·rename_i xs;obtain ⟨hw,hK⟩:=fC hK;simp only [ao,bo] at hx;obtain ⟨_,hx⟩:=hx;generalize hv:[v]=vs at hx;cases hx with
  |list ad cap _ bO off Oq f g1 g2 g3 g4 g5=>
  simp at hv;have hes: ∀i,i<xs.length->(f i).length=E.size:=by intro i hi;rw [(g5 i hi).width];exact EQ hw _ (ag0 hi)
  obtain ⟨cs,h1,h2⟩:=Ki hes g5;refine ⟨xs,cs,⟨h1,ad,cap,hv,?_,?_⟩,hK⟩
  ·intro hn;cases xs with
   |nil=>rfl
   |cons y ys=>have:=g2 (by simp);rw [hn] at this;cases this
  ·intro x hx j u hj;have M5:j<cs.length:=(BY.1 hj).1;rw [h1.length] at M5;have Kj:0<xs.length:=by
    cases xs with
    |nil=>simp at M5
    |cons y ys=>simp
   have had:=g2 Kj;rw [hx] at had;cases had;have hq:j/E.size<xs.length:=(Nat.div_lt_iff_lt_mul jv).2 M5;have hm:=Nat.mod_lt j jv;have Vh:j=j/E.size *E.size+j%E.size:=by rw [Nat.mul_comm];exact (Nat.div_add_mod j E.size).symm
   have e1:=h2 (j/E.size) (j%E.size) hq hm;rw [<-Vh,hj] at e1;have abS:Oq=E.size:=by rw [<-g3 0 Kj,hes 0 Kj]
   have e2:=g4 (j/E.size) (j%E.size) hq (by rw [abS];exact hm);rw [<-e1,abS,acZ,<-Vh] at e2;have:=h.q9 _ _ _ e2;rw [abR];exact this
 ·simp only [ao] at hx;have hx:[v]=[aaY none 0 0]:=hx;simp at hx;exact ⟨[],[],⟨rfl,none,0,hx,λ_=>rfl,by simp⟩,hK⟩
 ·rename_i f;cases hf:bj st.bA f with
  |none=>simp [hf] at hK
  |some fo=>
   simp only [hf] at hK;cases hb:fj fo.ty I.elem with
   |false=>simp [hb] at hK
   |true=>
    simp only [hb,cond_true] at hK;have kK:=sh hb;obtain ⟨hv,_⟩:=tO h hx hf;obtain ⟨J,cells,hJ,_,gh,qf,_⟩:=(h.jr f fo hf).row;rw [kK,hE] at hJ;cases hJ;refine ⟨fo.xs,cells,⟨qf,?_⟩,hK⟩;rcases gh.2 with ⟨h1,h2⟩|⟨g,cap,gV,h1,_⟩
    ·exact ⟨none,0,by rw [hv,h1,h2],λ_=>AT h2,by simp⟩
    ·refine ⟨some ⟨g,0,none⟩,cap,by rw [hv,h1],by simp,?_⟩;intro x hx j u hj;cases hx;exact gh.cells (g:=g) (by rw [h1];rfl) j u hj
 ·simp at hK
end
end Dn
/-
  Appends. Conditions: none.
-/
namespace Dn
open Go
section
variable {P:Program}{c:Ctx}{Z:b8} {e e':Env}{st:St}{a:Act} {w w':World}{R:Type}{K:St->Option R}{r:R}{Q:Exit->Act->World->Prop}{o:Oper}
structure anO (w w':World) (el:TypeId) (size:Nat) (v v':Value) (n m:Nat) (cells news:List Value):Prop where
 own:w'.ownsRow 0 el size v' (n+m) (cells++news)
 size:w.heap.size<=w'.heap.size
 xj: ∀k,k<w.heap.size->some k≠v.ownBlock->w'.heap[k]? =w.heap[k]?
 cell: ∀(k off:Nat) (u:Value),v.ownBlock=some k->off<cells.length->w.cell? ⟨k,off,none⟩=some u->w'.cell? ⟨k,off,none⟩=some u
 place:v'.ownBlock=v.ownBlock\/v'.ownBlock=some w.heap.size
 rest:Rest w w'
structure Apx (P:Program) (w:World) (u el:TypeId) (size:Nat) (x:Value) (m:Nat) (news:List Value):Prop where
 ty:P.underlying u=some (.slice el)\/P.underlying u=some .string
 len:Builtin.lenOf x=pure m
 now:(abW size m x).run P w= .ok news.toArray w
 drew:(abW size m x).run P w.drew= .ok news.toArray w.drew
 one: ∀y∈news,y.oneCell'=true
 nl:news.length=m *size
theorem Src.apx {ys:List MV}{news:List Value}{x:Value}{u el:TypeId}{size:Nat}(hu:P.underlying u=some (.slice el))(h:Src e w size x ys news):Apx P w u el size x ys.length news:=by
 obtain ⟨ad,cap,hx,HY,XH⟩:=h.val;have Jw:=h.els.length;subst hx;cases ad with
 |none=>have hys:=HY rfl;subst hys;have:news=[]:=AT (by simpa using Jw);subst this;exact ⟨.inl hu,rfl,run_firstCells_none w _ _ _ _,run_firstCells_none w.drew _ _ _ _,h.els.Kh,Jw⟩
 |some ad=>exact ⟨.inl hu,rfl,run_firstCells_some w _ _ _ _ _ _ Jw (XH ad rfl),run_firstCells_some w.drew _ _ _ _ _ _ Jw (by simpa using XH ad rfl),h.els.Kh,Jw⟩
theorem Apx.str {u el:TypeId}(hu:P.underlying u=some .string)(b:ByteArray):Apx P w u el 1 (.string b) b.size (b.data.toList.map λx=> .int .u8 (x.toNat:Int)):=by
 have hf: ∀w',(abW 1 b.size (.string b)).run P w'= .ok (b.data.toList.map λx=>agY .u8 (x.toNat:Int)).toArray w':=by
  intro w';have he:b.extract 0 b.size=b:=by apply ByteArray.ext;rw [afM];exact Array.extract_eq_self_of_le (aaI _)
  simp only [abW,he,Sem.run_pure];congr 1;apply Array.ext';simp
 exact ⟨.inr hu,rfl,hf w,hf w.drew,by simp [aav],by simp⟩
section
variable {t u ty el:TypeId}{i:TypeInfo}{z x:Value}{m:Nat}{news:List Value}(ht:P.underlying t=some (.slice el))(hi:P.info? el=some i)(hz:i.zero=some z)(hx:Apx P w u el i.size x m news)
include ht hi hx
theorem agb (h0:m=0):(aaL #[t,u] ty #[.slice none 0 0,x]).run P w= .ok (.slice none 0 0) w:=by subst h0;have hn:=hx.now;have hl:=hx.len;rcases hx.ty with hu|hu<;>simp [aaL,run_underlying ht,run_underlying hu,aaT,typeInfo,hi,hl,hn]
theorem agc {g ru Ao:Nat}{gV:Array Value}(hg:w.heap[g]? =some (.cells gV el (0,0)))(wj:ru+m<=Ao)(Qu:ru *i.size+news.length<=gV.size): (aaL #[t,u] ty #[.slice (some ⟨g,0,none⟩) ru Ao,x]).run P w= .ok (.slice (some ⟨g,0,none⟩) (ru+m) Ao) (w.setRow g (gV.toList.take (ru *i.size)++news++gV.toList.drop (ru *i.size+news.length)).toArray):=by have jf:=run_storeCells_at P g (ru *i.size) el news 0 gV w hg (by simpa using Qu) hx.one;simp only [afs] at jf;have hn:=hx.now;have hl:=hx.len;rcases hx.ty with hu|hu<;>simp [aaL,run_underlying ht,run_underlying hu,aaT,typeInfo,hi,hl,wj,hn,Addr.add_lit,jf]
include hz
theorem abT (h0:0<m)(h63:(m:Int)<=9223372036854775807)(h48:m *i.bytes<=281474976710656): (aaL #[t,u] ty #[.slice none 0 0,x]).run P w= .ok (.slice (some ⟨w.heap.size,0,none⟩) m (grownCap w m 0 el)) (w.drew.alloc (.cells (news.toArray++acn z.cells (grownCap w m 0 el-m)) el)):=by
 have eu:m≠0:=by omega
 have ajI: ¬(9223372036854775807<(m:Int)):=by omega
 have ajJ: ¬(281474976710656<adq m 0 *i.bytes):=by rw [nextslicecap_zero h0];omega
 have hn:=hx.drew;have hl:=hx.len;rcases hx.ty with hu|hu<;>simp [aaL,run_underlying ht,run_underlying hu,aaT,typeInfo,zeroValue,hi,hz,hl,eu,ajI,ajJ,Question.forced,run_firstCells_none,hn,newRow,grownCap]
theorem XI {b:Addr}{ru Ao:Nat}{agd:List Value}(hlo:agd.length=ru *i.size)(holds: ∀j v,agd[j]? =some v->w.cell? (b.add j)=some v)(hg:Ao<ru+m)(h63:((ru+m:Nat):Int)<=9223372036854775807)(Qu:adq (ru+m) Ao *i.bytes<=281474976710656): (aaL #[t,u] ty #[.slice (some b) ru Ao,x]).run P w= .ok (.slice (some ⟨w.heap.size,0,none⟩) (ru+m) (grownCap w (ru+m) Ao el)) (w.drew.alloc (.cells (agd.toArray++news.toArray++acn z.cells (grownCap w (ru+m) Ao el-(ru+m))) el)):=by
 have eu: ¬(ru+m<=Ao):=by omega
 have ajI: ¬(9223372036854775807<((ru:Int)+(m:Int))):=by omega
 have ajJ: ¬(281474976710656<adq (ru+m) Ao *i.bytes):=by omega
 have hfo:=run_firstCells_some (P:=P) w.drew i.size ru b ru Ao agd hlo (by simpa using holds);have hn:=hx.drew;have hl:=hx.len;rcases hx.ty with hu|hu<;>(simp [aaL,run_underlying ht,run_underlying hu,aaT,typeInfo,zeroValue,hi,hz,hl,eu,ajI,ajJ,Question.forced,hn,hfo,newRow,grownCap];congr 2;apply Array.ext';simp [AI])
end
theorem DR {t u ty:TypeId}{I E:TI}{v x:Value}{n m:Nat}{cells news:List Value}(hu:P.underlying t=some (.slice I.elem))(hE:c.ti I.elem=some E)(xk:E.dJ=[])(jv:0<E.size)(hT:lS P c.ti)(xS:1<=E.bytes)(gh:w.ownsRow 0 I.elem E.size v n cells)(hx:Apx P w u I.elem E.size x m news)(kZ:(n+m) *E.bytes<=2^46): ∃v' w',(aaL #[t,u] ty #[v,x]).run P w= .ok v' w'/\anO w w' I.elem E.size v v' n m cells news:=by
 obtain ⟨i,z,hi,hs,hby,hz,hzs⟩:=xR (hT _ E hE) xk;rw [<-hs] at hx gh hzs jv⊢;rw [<-hby] at kZ xS;have hle:n+m<=2^46:=adL (abY _ xS) kZ;have hml:n+m<=agA:=by unfold agA;omega
 have Jw:=hx.nl;have hlen:(cells++news).length=(n+m) *i.size:=by rw [IS,gh.1,Jw,adp]
 have grown: ∀(xj:Nat),xj<n+m-> (w.drew.alloc (.cells (cells.toArray++news.toArray++acn z.cells (grownCap w (n+m) xj I.elem-(n+m))) I.elem)).ownsRow 0 I.elem i.size (.slice (some ⟨w.heap.size,0,none⟩) (n+m) (grownCap w (n+m) xj I.elem)) (n+m) (cells++news):=by
  intro xj ho;refine ⟨hlen,.inr ⟨w.heap.size,_,_,rfl,agr _,kb w.drew _,grownCap_ge w (n+m) xj I.elem,grownCap_le_maxLen w (n+m) xj I.elem hml,?_,?_⟩⟩
  ·have SI:=grownCap_ge w (n+m) xj I.elem;simp only [agW,abA,size_zeroCells,hzs,gh.1,Jw,<-adp];congr 1;omega
  ·simp only [agC,AI];rw [<-AI,<-hlen];exact ab9
 have rest: ∀cs:Array Value,Rest w (w.drew.alloc (.cells cs I.elem)):=λcs=>⟨rfl,rfl,rfl,λp=>(Rest.alloc w.drew cs I.elem).2.2.2 p⟩
 rcases gh.2 with ⟨rfl,rfl⟩|⟨g,cap,gV,rfl,_,hg,hnc,Sa,AS,M6⟩
 ·have hcn:cells=[]:=AT (by simpa using gh.1);subst hcn;by_cases hm:m=0
  ·have hnn:news=[]:=AT (by rw [Jw,hm,agV]);subst hnn;refine ⟨_,_,agb hu hi hx hm,⟨?_,aaI _,λ_ _ _=>rfl,(λ_ _ _ hk=>by cases hk),.inl rfl,.refl _⟩⟩;rw [hm];exact agX w 0 I.elem i.size
  ·simp only [aaO] at kZ hle hml;have hr:=abT (ty:=ty) hu hi hz hx (by omega) (by omega) (by omega);have Vn:=grown 0 (by omega);simp only [aaO,afQ,Array.empty_append] at Vn⊢;exact ⟨_,_,hr,⟨by simpa using Vn,by simp,λk hk _=>rV w.drew _ k hk,(λ_ _ _ hk=>by cases hk),.inr rfl,rest _⟩⟩
 ·by_cases wj:n+m<=cap
  ·have Qu:n *i.size+news.length<=gV.size:=by rw [Jw,AS,<-adp];exact aaK _ wj
   have hr:=agc (ty:=ty) hu hi hx hg wj Qu;have VS:=setRow_heap w g gV (gV.toList.take (n *i.size)++news++gV.toList.drop (n *i.size+news.length)).toArray I.elem _ hg;refine ⟨_,_,hr,⟨⟨hlen,.inr ⟨g,cap,_,rfl,agr _,VS,wj,Sa,?_,?_⟩⟩,by simp,λk _ hk=>setRow_other w g k _ (λhe=>hk (by simp [No,he])),?_,.inl rfl,Rest.setRow w g _⟩⟩
   ·simp only [abA,IS,acW,afI,aaZ];omega
   ·rw [M6,<-hlen];exact ab9
   ·intro k off y hk J9 hc;have hkg:k=g:=by simp [No] at hk;exact hk.symm
    subst hkg;rw [cell_of hg] at hc;rw [cell_of VS];have anQ:off<(gV.toList.take (n *i.size)).length:=by rw [M6];exact J9
    rw [List.getElem?_toArray,AI,aaH anQ,aaU];have:off<n *i.size:=by rw [<-gh.1];exact J9
    rw [if_pos this];simpa using hc
  ·have holds: ∀j y,cells[j]? =some y->w.cell? ((⟨g,0,none⟩:Addr).add j)=some y:=gh.cells (g:=g) rfl;have hr:=XI (ty:=ty) (Ao:=cap) hu hi hz hx gh.1 holds (by omega) (by omega) (growslice_fits (by omega) (by omega));refine ⟨_,_,hr,⟨grown cap (by omega),by simp,λk hk _=>rV w.drew _ k hk,?_,.inr rfl,rest _⟩⟩;intro k off y hk J9 hc;have hkg:k=g:=by simp [No] at hk;exact hk.symm
   subst hkg;rw [aaW (rV w.drew _ k (bR hg))];exact hc
theorem SJ {t u ty:TypeId}{I E:TI}{ad:Option Addr}{x:Value}{n m:Nat}{cells news:List Value}(hu:P.underlying t=some (.slice I.elem))(hE:c.ti I.elem=some E)(xk:E.dJ=[])(hT:lS P c.ti)(xS:1<=E.bytes)(tu:cells.length=n *E.size)(abV:ad=none->n=0)(bV: ∀y,ad=some y-> ∀(j:Nat)(v:Value),cells[j]? =some v->w.cell? (y.add j)=some v)(hx:Apx P w u I.elem E.size x m news)(hm:0<m)(kZ:(n+m) *E.bytes<=2^46): ∃v' w',(aaL #[t,u] ty #[.slice ad n n,x]).run P w= .ok v' w'/\w'.ownsRow 0 I.elem E.size v' (n+m) (cells++news)/\v'.ownBlock=some w.heap.size/\fa w w':=by
 obtain ⟨i,z,hi,hs,hby,hz,hzs⟩:=xR (hT _ E hE) xk;rw [<-hs] at hx tu hzs⊢;rw [<-hby] at kZ xS;have hle:n+m<=2^46:=adL (abY _ xS) kZ;have hml:n+m<=agA:=by unfold agA;omega
 have Jw:=hx.nl;have hlen:(cells++news).length=(n+m) *i.size:=by rw [IS,tu,Jw,adp]
 have grown: ∀(xj:Nat),xj<n+m-> (w.drew.alloc (.cells (cells.toArray++news.toArray++acn z.cells (grownCap w (n+m) xj I.elem-(n+m))) I.elem)).ownsRow 0 I.elem i.size (.slice (some ⟨w.heap.size,0,none⟩) (n+m) (grownCap w (n+m) xj I.elem)) (n+m) (cells++news):=by
  intro xj ho;refine ⟨hlen,.inr ⟨w.heap.size,_,_,rfl,agr _,kb w.drew _,grownCap_ge w (n+m) xj I.elem,grownCap_le_maxLen w (n+m) xj I.elem hml,?_,?_⟩⟩
  ·have SI:=grownCap_ge w (n+m) xj I.elem;simp only [agW,abA,size_zeroCells,hzs,tu,Jw,<-adp];congr 1;omega
  ·simp only [agC,AI];rw [<-AI,<-hlen];exact ab9
 have rest: ∀cs:Array Value,Rest w (w.drew.alloc (.cells cs I.elem)):=λcs=>⟨rfl,rfl,rfl,λp=>(Rest.alloc w.drew cs I.elem).2.2.2 p⟩
 have Vn: ∀cs:Array Value,fa w (w.drew.alloc (.cells cs I.elem)):=λcs=>⟨by simp,λk hk=>rV w.drew _ k hk,rest cs⟩
 cases ad with
 |none=>have hn:=abV rfl;subst hn;have hcn:cells=[]:=AT (by simpa using tu);subst hcn;simp only [aaO] at kZ hle hml;have hr:=abT (ty:=ty) hu hi hz hx (by omega) (by omega) (by omega);have hg2:=grown 0 (by omega);simp only [aaO,afQ,Array.empty_append] at hg2⊢;exact ⟨_,_,hr,by simpa using hg2,rfl,Vn _⟩
 |some b=>have hr:=XI (ty:=ty) (Ao:=n) hu hi hz hx tu (λj v hj=>bV b rfl j v hj) (by omega) (by omega) (growslice_fits (by omega) (by omega));exact ⟨_,_,hr,grown n (by omega),rfl,Vn _⟩
end
end Dn
/-
  Appends, the operation. Conditions: none.
-/
namespace Dn
open Go
section
variable {P:Program}{c:Ctx}{Z:b8} {e e':Env}{st:St}{a:Act} {w w':World}{R:Type}{K:St->Option R}{r:R}{Q:Exit->Act->World->Prop}{o:Oper}
theorem EU {base:Nat}{t:TypeId}{size n:Nat}{v:Value}{xs:List Value}(h:w.ownsRow base t size v n xs):v.oneCell'=true:=by rcases h.2 with ⟨rfl,_⟩|⟨g,cap,gV,rfl,_⟩<;>rfl
theorem XJ {E:TI}{t:TypeId}(hr:rf c.ti P t E)(h:YY E=true):P.underlying t=some (.int .u8)/\E.size=1:=by
 unfold YY at h;split at h
 ·rename_i k jf hl;have:=of_decide_eq_true h;subst this;obtain ⟨d,i,h1,h2,h3,h4⟩:=hr;cases d<;>simp only [uL,hl,jf] at h4<;>first|(exfalso;simp_all;done)|skip
  obtain ⟨_,_,h5,h6,_⟩:=h4;simp only [List.cons.injEq,Kd.i.injEq,and_true] at h6;subst h6;exact ⟨h1,h5⟩
 ·cases h
theorem XK {key:Nat->Nat} {φ:Ph}: ∀l:List UInt8,bQ key φ 1 (l.map λx=>agY .u8 (x.toNat:Int)) (M8 l)
 |[]=>rfl
 |b::l=>⟨[.int .u8 (b.toNat:Int)],_,rfl,rfl,.i .u8 _,XK l⟩
theorem SK {cl:Call}{s x:Operand}{t u:TypeId}{I E:TI}{ys:List MV}{news:List Value}(ho:o.op= .call cl)(hb:cl.callee= .builtin .append)(ha:cl.args.toList=[s,x])(Sc:cl.argTypes.toList=[t,u])(hI:c.tv t=some I)(hL:I.BS=true)(hE:c.tv I.elem=some E)(hT:lS P c.ti)(h:cF c Z e st a w)(AY:Apx P w u I.elem E.size (a.eval x) ys.length news)(xO:bQ e.key e.φ E.size news ys)(hK:YZ (bU c.bs (o.dst.getD 0)) (o.dst.getD 0) st I E (aX c st s) ys (λsl st=>bM c st o.dst sl K)=some r):o.wp P a w (Out c Z K r e.φ w) Q:=by
 obtain ⟨qe,hc⟩:=cz hI;obtain ⟨uh,xk⟩:=cz hE;obtain ⟨hu,E2,HZ,_,jv⟩:=TI.nW (hT t I qe) hL;rw [uh] at HZ;cases HZ;have ha':cl.args= #[s,x]:=by rw [<-aa0,ha]
 have anR:cl.argTypes= #[t,u]:=by rw [<-aa0,Sc]
 obtain ⟨hs,_⟩:=h.eval s;have go: ∀(f:Nat) (fB:Bool) (xs:List MV) (cells:List Value),1<=E.bytes->(xs.length+ys.length) *E.bytes<=2^46->w.ownsRow 0 I.elem E.size (a.eval s) xs.length cells->bQ e.key e.φ E.size cells xs-> (∀bO,(a.eval s).ownBlock=some bO->((f∈Z.dt/\Z.Pr bO)\/Z.In bO)/\(∃o,bj st.bA f=some o/\(e.E f).ownBlock=some bO)/\ ∀off u,e.φ bO off=some u->fB=true/\off<xs.length *E.size)-> kW st f ⟨I.elem,fB,xs++ys⟩ (λst=>bM c st o.dst (.sc (.own f)) K)=some r->o.wp P a w (Out c Z K r e.φ w) Q:=by
  intro f fB xs cells xS kZ gh qf G5 hK;obtain ⟨v',w',cV,zd⟩:=DR (P:=P) (ty:=o.type) hu uh xk jv hT xS gh AY kZ;have hlen:cells.length=xs.length *E.size:=qf.length;have DP:=h.npf hK;have hK:=ui hK;have mK:eD c Z.nc e w' v' ⟨I.elem,fB,xs++ys⟩:=by
   refine ⟨E,cells++news,uh,xk,by simpa using zd.own,qf.append xO,?_⟩;intro bO lT;rcases zd.place with h1|h1
   ·rw [h1] at lT;obtain ⟨h2,_,h3⟩:=G5 bO lT;refine ⟨R9 h2 DP,λoff u hu=> ?_,λhc=>agM hc⟩;obtain ⟨h4,h5⟩:=h3 off u hu;refine ⟨h4,agH h5 ?_⟩;simp only [IS];exact aaK _ (Nat.le_add_right _ _)
   ·rw [h1] at lT;cases lT;refine ⟨h.dp _ (aaI _),λoff u hu=> ?_,λhc=>agM hc⟩;have:=aaN w _ (h.q9 _ _ _ hu);simp at this
  have tP:=h.kW (f:=f) DP mK zd.size (λb Nf eu=>zd.xj b Nf (λhk=>by obtain ⟨_,⟨o2,h1,h2⟩,_⟩:=G5 b hk.symm;exact eu o2 h1 h2)) (λb off u hu=>by
    have hc0:=h.q9 b off u hu;by_cases hk:(a.eval s).ownBlock=some b
    ·obtain ⟨_,_,h3⟩:=G5 b hk;exact zd.cell b off u hk (by rw [hlen];exact (h3 off u hu).2) hc0
    ·rw [aaW (zd.xj b (aaN w _ hc0) (λOC=>hk OC.symm))];exact hc0)
   (λb lT=>by
    rcases zd.place with h1|h1
    ·rw [h1] at lT;exact .inr (G5 b lT).2.1
    ·rw [h1] at lT;cases lT;exact .inl (aaI _))
  refine fin (v:=v') (s:= .sc (.own f)) ?_ tP ?_ (.of (xQ (EU zd.own)) trivial) hK
  ·simp [execOp,ho,resolve,hb,invoke,builtin,ha',anR,cV]
  ·exact ⟨.refl _,λb hz Nf=>zd.xj b Nf (λhk=>hz (R9 (G5 b hk.symm).1 DP)),λ_ _ _=>rfl,zd.size,zd.rest⟩
 generalize aX c st s=ss at hs hK;unfold YZ at hK;cases xS:aaQ 1 E.bytes with
 |false=>simp [xS] at hK
 |true=>
  simp only [xS,cond_true] at hK;have xS:=aaV xS;split at hK
  ·obtain ⟨kZ,hK⟩:=fC hK;have kZ:=of_decide_eq_true kZ;simp only [ao] at hs;have hs:[a.eval s]=[aaY none 0 0]:=hs;simp at hs;refine go (o.dst.getD 0) false [] [] xS (by simpa using kZ) (by rw [hs];exact agX w 0 I.elem E.size) rfl ?_ (by simpa using hK);intro bO lT;rw [hs] at lT;simp [No] at lT
  ·rename_i f;cases hf:bj st.bA f with
   |none=>simp [hf] at hK
   |some fo=>
    simp only [hf] at hK;obtain ⟨kZ,hK⟩:=fC hK;have kZ:=of_decide_eq_true kZ;cases kK:fj fo.ty I.elem with
    |false=>simp [kK] at hK
    |true=>simp only [kK,cond_true] at hK;have kK:=sh kK;obtain ⟨hv,_⟩:=tO h hs hf;obtain ⟨J,cells,hJ,_,gh,qf,h5⟩:=(h.jr f fo hf).row;rw [kK,uh] at hJ;cases hJ;refine go f fo.fB fo.xs cells xS kZ (by rw [hv,<-kK];exact gh) qf ?_ (by rw [<-kK];exact hK);intro bO lT;rw [hv] at lT;exact ⟨(h5 bO lT).1,⟨fo,hf,lT⟩,(h5 bO lT).2.1⟩
  ·rename_i xs;obtain ⟨hw,hK⟩:=fC hK;obtain ⟨kZ,hK⟩:=fC hK;obtain ⟨hm,kZ⟩:=of_decide_eq_true kZ;simp only [ao,bo] at hs;obtain ⟨_,hs⟩:=hs;generalize hv:[a.eval s]=vs at hs;cases hs with
   |clip ad _ hl=>
   simp at hv;have nt:ao e (a.eval s) (.sc (.p (.list xs))):=by simp only [ao,bo];rw [hv];exact ⟨rfl,hl⟩
   obtain ⟨ys',cells,hsr,hy⟩:=HX (I:=I) (K':=some) (r:=xs) h uh jv nt (by show b5 (oa E.size xs) (some xs)=some xs;rw [hw];rfl);cases hy;obtain ⟨ad',abE,XD,Sb,Vl⟩:=hsr.val;rw [hv] at XD;simp only [Value.slice.injEq] at XD;obtain ⟨rfl,_,_⟩:=XD;obtain ⟨v',w',cV,gh,lT,hg⟩:=SJ (P:=P) (ty:=o.type) hu uh xk hT xS hsr.els.length (λhn=>by rw [Sb hn];rfl) Vl AY hm kZ;have DP:=h.npf hK;have hK:=ui hK;have mK:eD c Z.nc e w' v' ⟨I.elem,false,xs++ys⟩:=by refine ⟨E,cells++news,uh,xk,by simpa using gh,hsr.els.append xO,?_⟩;intro bO xK;rw [lT] at xK;cases xK;refine ⟨h.dp _ (aaI _),λoff u hu=> ?_,λhc=>agM hc⟩;have:=aaN w _ (h.q9 _ _ _ hu);simp at this
   have tP:=h.kW (f:=o.dst.getD 0) DP mK hg.size (λb Nf _=>hg.xj b Nf) (λb off u hu=>hg.cell (h.q9 b off u hu)) (λb xK=>by rw [lT] at xK;cases xK;exact .inl (aaI _));have hx:(execOp a.eval o).run P w= .ok (.value v') w':=by simp [execOp,ho,resolve,hb,invoke,builtin,ha',anR,hv,cV]
   cases hbs:bU c.bs (o.dst.getD 0) with
   |false=>simp only [hbs,cond_false] at hK;exact fin (v:=v') (s:= .sc (.own (o.dst.getD 0))) hx tP (hg.trans h.dp _) (.of (xQ (EU gh)) trivial) hK
   |true=>simp only [hbs,cond_true] at hK;have hl:bo (e.AX (o.dst.getD 0) v' ⟨I.elem,false,xs++ys⟩) [v'] (.own (o.dst.getD 0)):=xQ (EU gh);obtain ⟨e3,ra,m,k1,k2,_,k4,hK,_,k7,k8⟩:=pk (l:= .own (o.dst.getD 0)) tP (vs:=[v']) hl hK;have hm:m.one=true:=k8 (λx he=>by cases he);exact fin (v:=v') (s:= .sc (.p m)) hx k1 ((hg.trans h.dp _).trans k2.tr) (.of (s:= .sc (.p m)) (by exact ⟨hm,k4⟩) trivial) hK
  ·simp at hK
theorem Zh {cl:Call}{s x:Operand}{t u:TypeId}{I E:TI}(ho:o.op= .call cl)(hb:cl.callee= .builtin .append)(ha:cl.args.toList=[s,x])(Sc:cl.argTypes.toList=[t,u])(hI:c.tv t=some I)(hL:I.BS=true)(hE:c.tv I.elem=some E)(hT:lS P c.ti)(h:cF c Z e st a w)(hK:(bif fj t u then Qj I E st (aX c st x) λys=>YZ (bU c.bs (o.dst.getD 0)) (o.dst.getD 0) st I E (aX c st s) ys (λsl st=>bM c st o.dst sl K)
  else Vr c u E (aX c st x) λys=>YZ (bU c.bs (o.dst.getD 0)) (o.dst.getD 0) st I E (aX c st s) ys (λsl st=>bM c st o.dst sl K))=some r):o.wp P a w (Out c Z K r e.φ w) Q:=by
 obtain ⟨qe,_⟩:=cz hI;obtain ⟨uh,_⟩:=cz hE;obtain ⟨hu,E2,HZ,_,jv⟩:=TI.nW (hT t I qe) hL;rw [uh] at HZ;cases HZ;obtain ⟨hx,_⟩:=h.eval x;cases xK:fj t u with
 |true=>simp only [xK,cond_true] at hK;obtain rfl:=sh xK;obtain ⟨ys,news,AY,hK⟩:=HX h uh jv hx hK;exact SK ho hb ha Sc hI hL hE hT h (AY.apx hu) AY.els hK
 |false=>
  simp only [xK,cond_false] at hK;unfold Vr at hK;split at hK
  ·rename_i T l hTu hxl;cases hSU:T.isS&&YY E with
   |false=>simp [hSU] at hK
   |true=>
    simp only [hSU,cond_true] at hK;simp only [aaM] at hSU;obtain ⟨hTi,_⟩:=cz hTu;have hd:=TI.Kb (hT u T hTi) hSU.1;obtain ⟨he,ug⟩:=XJ (hT _ E uh) hSU.2;rw [hxl] at hx;obtain ⟨b,hb3,rfl⟩:=HV hx;refine SK ho hb ha Sc hI hL hE hT h (news:=b.data.toList.map λx=> .int .u8 (x.toNat:Int)) ?_ ?_ hK
    ·rw [ug,hb3];have:=Apx.str (w:=w) (el:=I.elem) hd b;rwa [show (M8 b.data.toList).length=b.size by unfold M8;rw [List.length_map];rfl]
    ·rw [ug];exact XK _
  ·cases hK
end
end Dn
/-
  Slices that are written out. Conditions: none.
-/
namespace Dn
open Go
section
variable {P:Program}{c:Ctx}{Z:b8} {e e':Env}{st:St}{a:Act} {w w':World}{R:Type}{K:St->Option R}{r:R}{Q:Exit->Act->World->Prop}{o:Oper}
theorem cF.anS {φ':Ph}(h:cF c Z e st a w)(hle:tI e.φ φ')(pO: ∀b o v,φ' b o=some v->w.cell? ⟨b,o,none⟩=some v)(tJ: ∀t cs,aH st.fr t= .box cs-> ∀off,φ' (e.B t) off=e.φ (e.B t) off)(mK: ∀f o b,bj st.bA f=some o->(e.E f).ownBlock=some b-> ∀off,φ' b off=e.φ b off): cF c Z {e with φ:=φ'} st a w:=by
 have yR:oe (λ_=>True) (λ_=>True) e {e with φ:=φ'}:=⟨rfl,hle,λ_ _=>rfl,λf o ho _=>⟨o,ho,rfl,rfl⟩⟩
 refine ⟨h.defers,h.size,h.m,h.key,h.nodup,?_,h.root,?_,h.bb,h.bf,h.ff,pO,h.dp⟩
 ·intro t;have hs:=h.slot t;have hb:=tJ t;show cW Z _ w t _ (aH st.fr t);generalize aH st.fr t=s at hs hb;cases s<;>simp only [cW] at hs⊢ <;>try exact hs.on yR (fv _)
  rename_i cs;refine ⟨hs.1,hs.2.dp,?_,λoff=>by show φ' (e.B t) off=none;rw [hb cs rfl];exact hs.2.free off⟩;obtain ⟨o2,h1,h2⟩:=hs.2.obj;exact ⟨o2,h1,h2.on yR (λl _ f _=>trivial)⟩
 ·intro f o ho;obtain ⟨I,cells,h1,h2,h3,h4,h5⟩:=(h.jr f o ho).row;refine ⟨I,cells,h1,h2,h3,h4.mono hle,λbO hb=>⟨(h5 bO hb).1,λoff u hu=>(h5 bO hb).2.1 off u ?_,λg1 g2 j hj=>hle.EI ((h5 bO hb).2.2 g1 g2 j hj) hj⟩⟩;have hu:φ' bO off=some u:=hu;rw [mK f o bO ho hb] at hu;exact hu
theorem jQ.cells {key:Nat->Nat} {φ:Ph}{v:Value}{m:MV}(h:jQ key φ v m):nr key φ v.cells.toList m:=by
 have one:m.one=true->nr key φ [v] m->nr key φ v.cells.toList m:=by
  intro h1 h2;have:=h2.cells v (by simp);have hv:v.cells.toList=[v]:=by cases v<;>simp_all [aaJ,aav]
  rw [hv];exact h2
 cases m<;>simp only [jQ] at h<;>first|exact one h.1 h.2|skip
 ·rw [h];simpa [aaJ] using nr.h _
 ·obtain ⟨arr,rfl,h⟩:=h;exact .agg _ _ (by simpa [aaJ] using h)
theorem Zj {parts:List (Nat×Operand)}: ∀{e:Env} {st:St} {n:Nat} {K':List MV->St->Option R},cF c Z e st a w->aa4 c st parts n K'=some r-> ∃e' cB ms,cF c Z e' cB a w/\Ext Z e e'/\dw e'.key e'.φ (parts.map λp=>a.eval p.2) ms/\K' ms cB=some r/\parts.map (λp=>(p.1,a.eval p.2))=((parts.map λp=>a.eval p.2).zipIdx n).map (λx=>(x.2,x.1)):=by
 induction parts with
 |nil=>intro e st n K' h hK;exact ⟨e,st,[],h,.refl _ _,rfl,hK,rfl⟩
 |cons p ps ih=>
  intro e st n K' h hK;obtain ⟨i,x⟩:=p;simp only [aa4] at hK;cases hi:fj i n with
  |false=>simp [hi] at hK
  |true=>
   simp only [hi,cond_true] at hK;have Ap:=sh hi;subst Ap;obtain ⟨e1,dC,m,q1,q2,q3,q4,q5⟩:=pn h (h.eval x).1 hK;obtain ⟨e2,eM,ms,p1,p2,p4,p5,p6⟩:=ih q1 q5;refine ⟨e2,eM,m::ms,p1,q2.trans p2,⟨_,_,rfl,?_,p4⟩,p5,?_⟩
   ·have:=q4.mono p2.on.φ;rw [<-p2.on.key] at this;exact this
   ·simp only [OF,List.zipIdx_cons,p6]
theorem Ng {key:Nat->Nat} {φ:Ph}{size:Nat}{ms:List MV}: ∀{vs:List Value},dw key φ vs ms->oa size ms=true->bQ key φ size (vs.flatMap λv=>v.cells.toList) ms/\vs.length=ms.length/\ ∀v∈vs,v.cells.size=size:=by
 induction ms with
 |nil=>intro vs h _;cases h;exact ⟨rfl,rfl,by simp⟩
 |cons m ms ih=>
  intro vs h hw;obtain ⟨v,u,rfl,h1,h2⟩:=h;have hm:=EQ hw m (by simp);have hw2:oa size ms=true:=by unfold oa at hw⊢;simp only [List.all_cons,aaM] at hw;exact hw.2
  obtain ⟨h3,h4,h5⟩:=ih h2 hw2;have hl:v.cells.toList.length=size:=by rw [h1.cells.width,hm]
  refine ⟨⟨v.cells.toList,_,rfl,hl,h1.cells,h3⟩,by simp [h4],?_⟩;intro x hx;rcases aaS.1 hx with rfl|hx
  ·simpa using hl
  ·exact h5 x hx
end
end Dn
/-
  Slices that are written out, the operation. Conditions: none.
-/
namespace Dn
open Go
section
variable {P:Program}{c:Ctx}{Z:b8} {e e':Env}{st:St}{a:Act} {w w':World}{R:Type}{K:St->Option R}{r:R}{Q:Exit->Act->World->Prop}{o:Oper}
theorem XL {t:TypeId}{I E:TI}{vs:List Value}{parts:Array (Nat×Value)}(hu:P.underlying t=some (.slice I.elem))(hE:c.ti I.elem=some E)(xk:E.dJ=[])(jv:0<E.size)(hT:lS P c.ti)(kZ:vs.length *E.size<=16777216)(hv: ∀v∈vs,v.cells.size=E.size)(hp:parts.toList=(vs.zipIdx 0).map λx=>(x.2,x.1)): (Instr.buildSlice t vs.length parts).run P w= .ok (.slice (some ⟨w.heap.size,0,none⟩) vs.length vs.length) (w.alloc (.cells (vs.flatMap λv=>v.cells.toList).toArray I.elem)):=by
 obtain ⟨i,z,hi,hs,hby,hz,hzs⟩:=xR (hT _ E hE) xk;by_cases h0:vs.length=0
 ·have C9:=AT h0;subst C9;have IU:parts= #[]:=by rw [<-aa0,hp];rfl
  simp [Instr.buildSlice,run_underlying hu,aaT,typeInfo,hi,IU,afD,newRow,Sem.run];congr 2;apply agI;intro k;simp
 ·have eu: ¬vs.length *i.size=0:=by rw [hs];exact Nat.mul_ne_zero h0 (by omega)
  refine run_buildSlice w t I.elem vs.length parts _ i z hu hi hz (by rw [hs];omega) eu ?_;rw [hp,hs];exact Go.Great.fill_whole jv vs _ hv (by simp)
theorem age {key:Nat->Nat} {φ:Ph}{size cap bO:Nat}{xs:List MV}{cells:List Value}(h:bQ key φ size cells xs)(DQ:xs.length<=cap)(hp: ∀off,off<cells.length->φ bO off=cells[off]?): nr key φ [.slice (some ⟨bO,0,none⟩) xs.length cap] (.list xs):=by
 have hlen:=h.length;have abF: ∀i (hi:i<xs.length),∃v1,v1.length=size/\nr key φ v1 xs[i]/\(cells.drop (i *size)).take size=v1:=by intro i hi;obtain ⟨p1,v1,p2,he,Vj,DM,iw⟩:=h.at (IT hi);refine ⟨v1,DM,iw,?_⟩;rw [he,AI,<-Vj,af5,<-DM,ab9]
 refine .list (some ⟨bO,0,none⟩) cap xs bO 0 size (λi=>(cells.drop (i *size)).take size) DQ (λ_=>rfl) ?_ ?_ ?_
 ·intro i hi;obtain ⟨v1,h1,_,h3⟩:=abF i hi;rw [h3,h1]
 ·intro i j hi hj;have J9:i *size+j<cells.length:=by
   rw [hlen];calc i *size+j<i *size+size:=by omega
    _=(i+1) *size:=by rw [aa1]
    _<=xs.length *size:=aaK _ hi
  rw [aaO,hp _ J9,aaU];simp only [hj,if_true,afC]
 ·intro i hi;obtain ⟨v1,_,h2,h3⟩:=abF i hi;rw [h3];exact h2
theorem Nh {t:TypeId}{n:Nat}{parts:Array (Nat×Operand)}{I E:TI}(ho:o.op= .buildSlice t n parts)(hI:c.tv t=some I)(hL:I.BS=true)(hE:c.tv I.elem=some E)(hT:lS P c.ti)(h:cF c Z e st a w)(kZ:aaQ (n *E.size) 16777216=true)(hK:aa4 c st parts.toList 0 (λms st=>bif fj ms.length n then b5 (oa E.size ms) (bif bU c.bs (o.dst.getD 0) then bM c st o.dst (.sc (.p (.list ms))) K else kW st (o.dst.getD 0) ⟨I.elem,false,ms⟩ λst=>bM c st o.dst (.sc (.own (o.dst.getD 0))) K) else none)=some r): o.wp P a w (λa' w'=>fa w w'/\Out c Z K r e.φ w a' w') Q:=by
 obtain ⟨qe,hc⟩:=cz hI;obtain ⟨uh,xk⟩:=cz hE;obtain ⟨hu,E2,HZ,_,jv⟩:=TI.nW (hT t I qe) hL;rw [uh] at HZ;cases HZ;obtain ⟨e1,dC,ms,AF,Ka,kL,hK,abX⟩:=Zj h hK;cases hn:fj ms.length n with
 |false=>simp [hn] at hK
 |true=>
  simp only [hn,cond_true] at hK;have hn:=sh hn;obtain ⟨hw,hK⟩:=fC hK;obtain ⟨qf,hlen,AS⟩:=Ng kL hw;generalize C9:parts.toList.map (λp=>a.eval p.2)=vs at kL abX qf hlen AS;have kZ:=aaV kZ;have cV:=XL (P:=P) (c:=c) (w:=w) (t:=t) (I:=I) (vs:=vs) (parts:=parts.map λ(i,x)=>(i,a.eval x)) hu uh xk jv hT (by rw [hlen,hn];exact kZ) AS (by rw [<-abX];simp);have air:(execOp a.eval o).run P w= .ok (.value (.slice (some ⟨w.heap.size,0,none⟩) vs.length vs.length)) (w.alloc (.cells (vs.flatMap λv=>v.cells.toList).toArray I.elem)):=by rw [hlen,hn] at cV⊢;simp [execOp,ho] at cV⊢;simp [cV]
  have hg:fa w (w.alloc (.cells (vs.flatMap λv=>v.cells.toList).toArray I.elem)):= .alloc w _ _;have HY: ∀off,e1.φ w.heap.size off=none:=by
   intro off;cases hp:e1.φ w.heap.size off with
   |none=>rfl
   |some u=>have:=aaN w _ (AF.q9 _ _ _ hp);simp at this
  have XM:(vs.flatMap λv=>v.cells.toList).length=ms.length *E.size:=qf.length;have DQ:ms.length<=16777216:=adL (abY _ jv) (by rw [hn];exact kZ);cases hb:bU c.bs (o.dst.getD 0) with
  |false=>
   simp only [hb,cond_false] at hK;have DP:=AF.npf hK;have hK:=ui hK;have mK:eD c Z.nc e1 (w.alloc (.cells (vs.flatMap λv=>v.cells.toList).toArray I.elem)) (.slice (some ⟨w.heap.size,0,none⟩) vs.length vs.length) ⟨I.elem,false,ms⟩:=by
    refine ⟨E,_,uh,xk,⟨XM,.inr ⟨w.heap.size,vs.length,_,by rw [hlen],agr _,kb w _,by rw [hlen];exact aaI _,by rw [hlen];unfold agA;omega,?_,?_⟩⟩,qf,?_⟩
    ·rw [abA,XM,hlen]
    ·show List.take (ms.length *E.size) _=_;rw [abf (by simp only [List.toList_toArray];omega)]
    ·intro bO lT;simp [No] at lT;subst lT;refine ⟨AF.dp _ (aaI _),λoff u hu=>(by rw [HY] at hu;cases hu),λhc=>agM hc⟩
   have tP:=AF.kW (f:=o.dst.getD 0) DP mK hg.size (λb Nf _=>hg.xj b Nf) (λb off u hu=>hg.cell (AF.q9 b off u hu)) (λb lT=>by simp [No] at lT;exact .inl (by omega));exact Y4 (s:= .sc (.own (o.dst.getD 0))) hg air tP (Ka.tr.trans (hg.trans AF.dp _)) (.of (xQ rfl) trivial) hK
  |true=>
   simp only [hb,cond_true] at hK;generalize hfl:(vs.flatMap λv=>v.cells.toList)=flat at *;have hle:tI e1.φ (λb off=>if b=w.heap.size/\off<flat.length then flat[off]? else e1.φ b off):=by
    intro b off u hu;by_cases hbs:b=w.heap.size
    ·subst hbs;rw [HY] at hu;cases hu
    ·simp only [hbs,false_and,if_false];exact hu
   have pO: ∀b off u,(λb off=>if b=w.heap.size/\off<flat.length then flat[off]? else e1.φ b off) b off=some u->(w.alloc (.cells flat.toArray I.elem)).cell? ⟨b,off,none⟩=some u:=by
    intro b off u hu;by_cases hbs:b=w.heap.size/\off<flat.length
    ·simp only [hbs,and_self,if_true] at hu;obtain ⟨rfl,_⟩:=hbs;rw [cell_of (kb w _)];simpa using hu
    ·simp only [hbs,if_false] at hu;exact hg.cell (AF.q9 b off u hu)
   have tP:=(AF.grow hg).anS hle pO (by
     intro t2 iM ht off;have XF:=AF.slot t2;rw [ht] at XF;obtain ⟨o2,h1,_⟩:=XF.2.obj;have:=bR h1;have eu: ¬e1.B t2=w.heap.size:=by omega
     simp [eu])
    (by
     intro f o2 b dr xK off;obtain ⟨J,y9,_,_,h3,_⟩:=(AF.jr f o2 dr).row;rcases h3.2 with ⟨h1,_⟩|⟨g,cap,gV,h1,_,h4,_⟩
     ·rw [h1] at xK;simp [No] at xK
     ·rw [h1] at xK;simp [No] at xK;subst xK;have:=bR h4;have eu: ¬g=w.heap.size:=by omega
      simp [eu])
   refine Y4 (s:= .sc (.p (.list ms))) hg air tP ?_ (.of ?_ trivial) hK
   ·refine Ka.tr.trans ⟨hle,λb hz Nf=>hg.xj b Nf,λb off hz=> ?_,hg.size,hg.rest⟩;have eu: ¬b=w.heap.size:=by intro VT;subst VT;exact hz (AF.dp _ (aaI _))
    simp [eu]
   ·simp only [ao,bo];rw [hlen];exact ⟨rfl,age (qf.mono hle) (aaI _) (λoff J9=>by simp [J9])⟩
end
end Dn
