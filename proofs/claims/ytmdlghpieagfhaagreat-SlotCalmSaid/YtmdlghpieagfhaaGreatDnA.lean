import GoSem.Dispatch
import Derived.Orders
import Derived.Calls
import Derived.Laws.AppendOwn
import Derived.Laws.AppendOwnNone
import Derived.Deep.MidRow
import Derived.Laws.Strings
import Derived.Laws.Tables
import Derived.Great.FillDense
import Derived.Maps.AppendAt
import Derived.Great.BuildSlice
/- How code runs. Conditions: none. -/
set_option linter.unusedVariables false
set_option linter.unusedSectionVars false
set_option linter.unusedSimpArgs false
open Nat renaming beq→cV,eq_of_beq_eq_true→sh,le_refl→aaP,mul_le_mul_right→abB,zero_add→abC,ble→acN,le_of_ble_eq_true→acU,succ_mul→acZ,le_mul_of_pos_right→ac6,add_assoc→adl,add_mul→adr,le_trans→adN,add_zero→aec,zero_le→aev,lt_of_lt_of_le→aeU,add_comm→afM,zero_mul→afN
open List renaming eq_nil_of_length_eq_zero→AI,append_assoc→AT,getElem?_eq_some_iff→BY,length_append→No,getElem?_eq_getElem→OF,map_cons→aaJ,getElem?_append_left→aaU,getElem?_append_right→abz,mem_cons→acv,getElem?_take→acT,getElem?_map→ac0,size_toArray→ac1,drop_left'→ac4,take_left→ac9,take_of_length_le→ada,getElem?_eq_none→ade,length_take→adg,take_left'→adx,mem_map→adM,getElem?_drop→adW,length_drop→ad9,length_eq_one_iff→aeb,mem_append→aef,nil_append→aej,mem_iff_getElem→aet,all_eq_true→afS,getElem_mem→afT,take_append→afV,nodup_cons→afZ,length_set→af1,map→af5,drop_left→af7,map_nil→af9
open Option.some renaming injEq→IT
open Go.Value renaming ownBlock→aau,oneCell'→aaK,cells→abJ,slice→acX,int→afR
open Go.Builtin renaming append_→abE,firstCells→ac5,zeroCells→adb,nextslicecap→ads
open Bool renaming and_eq_true→abF,or_eq_false_iff→acW,not_eq_false'→afy,not_false→af6
open Go.World renaming block_lt_of_cell?→abG,cell?_of_block→acV,ownsRow_nil→afP,frozen?→af8,setRow→aga
open Go.Instr renaming sliceBounds→acE,sliceBound→adf,loadAt→adP,storeAt→adY,fill→aee,sureAddr→aer,sliceAt→aeT,slice→afW
open Array renaming length_toList→acY,toList_inj→ac3,toList_append→aeO,ext_getElem?→afG,size_append→afO
open Go renaming sizeOf→ac2,maxLen→aeN
open BitVec renaming ofInt→ac7
open Go.Addr renaming add_mid→ac8
open Go.Op renaming intCmp→ad1,bytesLess→aea,intArith→aek,equal→agk
open ByteArray renaming data_extract→aed
open Go.Oper renaming upon_value→aeg,wp→age
open False renaming elim→afH
open UInt8 renaming ofNat→agf
namespace Dn
noncomputable section
open Go
structure pk where
 l:List UInt8
 h:l.length=32
theorem pk.ext' {a b:pk}(e:a.l=b.l):a=b:=by cases a;cases b;cases e;rfl
instance:DecidableEq pk:=λa b=>if e:a.l=b.l then .isTrue (pk.ext' e) else .isFalse (λh=>e (by rw [h]))
def pk.zero:pk:=⟨[0,0,0,0,0,0,0,0,0,0,0,0,0,0,0,0,0,0,0,0,0,0,0,0,0,0,0,0,0,0,0,0],rfl⟩
def pk.put (x:pk)(i:Nat)(b:UInt8):pk:=⟨x.l.set i b,by simp [x.h]⟩
inductive MV where
 |b (x:Bool)
 |i (k:IntKind) (n:Int)
 |s (l:List UInt8)
 |h (x:pk)
 |raw (v:Value)
 |list (xs:List MV)
 |agg (cs:List MV)
 |eu (vs:List MV)
 |func (f:Nat) (cap:List MV)
 |rp (cs:List MV)
 |fresh (xs:List MV)
 |cell (m:MV)
 |ew (r:MV) (outs:List MV)
 |clip (xs:List MV)
instance:Inhabited MV:=⟨.b false⟩
mutual
def MV.w:MV->Nat
 | .h _=>32
 | .agg cs=>MV.wl cs
 |_=>1
def MV.wl:List MV->Nat
 |[]=>0
 |m::r=>m.w+MV.wl r
end
def pu (n:Nat)(l:List MV):Bool:=l.all λm=>cV m.w n
inductive Kd where
 |b|i (k:IntKind)|s|l|h|raw
structure MS where
 st:Bool
 lay:List Kd
 b:Bool
def MS.it:MS:=⟨true,[],true⟩
def Hj (s:MS):Bool:=match s.lay with
 |[]=>s.st
 |_=>false
inductive aE where
 |un
 |p (m:MV)
 |hs (x:pk)
 |nil
 |own (iC:Nat)
 |mp (s:MS) (es:List MV)
def aE.w:aE->Nat
 | .hs _=>32
 |_=>1
inductive Slot where
 |skip
 |sc (l:aE)
 |ag (cs:List aE)
 |tg (cs:List aE)
 |eu (vs:List Slot)
 |box (cs:List aE)
 |zQ (cs:List aE)
 |ptr (root off:Nat)
 |zT (root:Nat)
 |rp (cs:List aE) (off:Nat)
 |hp (root off:Nat) (i:Nat)
 |ep (iC:Nat) (i:Nat) (off:Nat) (st:Bool) (cs:List aE)
abbrev Fr:=List (Nat×Slot)
structure TI where
 st:Bool
 size:Nat
 bytes:Nat
 lay:List Kd
 zero:List aE
 HW:List Nat
 Wb:List Nat
 elem:Nat
 cQ:List Nat
section
variable {R:Type}
def gB (m:MV)(K:Bool->Option R):Option R:=match m with| .b x=>K x|_=>none
def gI (k:IntKind)(m:MV)(K:Int->Option R):Option R:=match m with| .i k' n=>bif decide (k'=k) then K n else none|_=>none
def gS (m:MV)(K:List UInt8->Option R):Option R:=match m with| .s l=>K l|_=>none
def gL (m:MV)(K:List MV->Option R):Option R:=match m with| .list l=>K l|_=>none
def gH (m:MV)(K:pk->Option R):Option R:=match m with| .h l=>K l|_=>none
def gA (m:MV)(K:List MV->Option R):Option R:=match m with| .agg l=>K l|_=>none
def gT (m:MV)(K:List MV->Option R):Option R:=match m with| .eu l=>K l|_=>none
def gF (m:MV)(K:List MV->Option R):Option R:=match m with| .fresh l=>K l|_=>none
def gCl (m:MV)(K:List MV->Option R):Option R:=match m with| .clip l=>K l|_=>none
def Yw (m:MV)(K:Nat->List MV->Option R):Option R:=match m with| .func f c=>K f c|_=>none
def gW (m:MV)(K:MV->List MV->Option R):Option R:=match m with| .ew r outs=>K r outs|_=>none
def gP (m:MV)(K:List MV->Option R):Option R:=match m with| .rp c=>K c|_=>none
def gCx (m:MV)(K:Nat->Nat->Option R):Option R:=match m with| .raw (.complex .f64 a b)=>K a b|_=>none
def gR (m:MV)(K:MV->Option R):Option R:=match m with| .raw v=>K (.raw v)| .func f c=>K (.func f c)| .rp c=>K (.rp c)|_=>none
def gC (l:List MV)(K:MV->List MV->Option R):Option R:=match l with|m::r=>K m r|[]=>none
def gN (l:List MV)(K:Option R):Option R:=match l with|[]=>K|_=>none
def bd {α:Type}(x:Option α)(K:α->Option R):Option R:=match x with|some a=>K a|none=>none
def Sz (l:List MV)(i:Int):Option MV:=if 0<=i then l[i.toNat]? else none
def idx (l:List MV)(i:Int)(K:MV->Option R):Option R:=match Sz l i with|some x=>K x|none=>none
def du (c:Bool)(K:Option R):Option R:=match c with|true=>K|false=>none
def bH (c:Bool)(x y:Option R):Option R:=match c with|true=>x|false=>y
def exs:List Nat->Nat->(Nat->Option R)->Option R
 |[],_,_=>none
 |[p],e,K=>bif cV e p then K p else none
 |p::q::r,e,K=>bif cV e p then K p else exs (q::r) e K
def kn (k:Kd)(m:MV)(K:aE->Option R):Option R:=match k with
 | .b=>gB m λx=>K (.p (.b x))
 | .i k=>gI k m λx=>K (.p (.i k x))
 | .s=>gS m λx=>K (.p (.s x))
 | .l=>gL m λx=>K (.p (.list x))
 | .h=>gH m λx=>K (.hs x)
 | .raw=>gR m λm=>K (.p m)
def vf:List Kd->List MV->(List aE->Option R)->Option R
 |[],l,K=>gN l (K [])
 |k::ks,l,K=>gC l λm r=>kn k m λx=>vf ks r λxs=>K (x::xs)
end
def iter {σ R:Type}(body:σ->Option (Sum σ R)):Nat->σ->Option R
 |0,_=>none
 |n+1,s=>match body s with
  |some (.inl s')=>iter body n s'
  |some (.inr r)=>some r
  |none=>none
open Classical in
def Loop {σ R:Type}(body:σ->Option (Sum σ R))(s:σ):Option R:=if h: ∃r n,iter body n s=some r then some (Classical.choose h) else none
def av:Fr->Nat->Slot
 |[],_=> .sc .un
 |(k,s)::r,t=>bif cV k t then s else av r t
def Lf {R:Type}:Fr->Nat->Slot->(Fr->Option R)->Option R
 |[],t,v,K=>K [(t,v)]
 |(k,s)::r,t,v,K=>bif cV k t then K ((k,v)::r) else Lf r t v λr=>K ((k,s)::r)
def force {R:Type}(s:Slot)(K:Slot->Option R):Option R:=match s with
 | .skip=>K .skip
 | .sc l=>K (.sc l)
 | .ag cs=>K (.ag cs)
 | .tg cs=>K (.tg cs)
 | .eu vs=>K (.eu vs)
 | .box cs=>K (.box cs)
 | .zQ cs=>K (.zQ cs)
 | .ptr r o=>K (.ptr r o)
 | .zT r=>K (.zT r)
 | .rp cs o=>K (.rp cs o)
 | .hp r o i=>K (.hp r o i)
 | .ep f i o b cs=>K (.ep f i o b cs)
def bJ:List Nat->Nat->Bool
 |[],_=>false
 |k::r,t=>bif cV k t then true else bJ r t
def y8 (t:Nat):Bool:=acN 1000000 t
def posOf (t:Nat):Nat:=(t-1000000)%1000
def PN (t:Nat):Nat:=(t-1000000)/1000
def plk:List (Nat×Nat)->Nat->Option Nat
 |[],_=>none
 |(k,x)::r,t=>bif cV k t then some x else plk r t
def dW:Slot->Bool
 | .ptr _ _| .hp _ _ _| .ep _ _ _ _ _| .rp _ _| .zT _=>true
 |_=>false
def wO {R:Type}(ds:List Nat):Fr->(Fr->Option R)->Option R
 |[],K=>K []
 |(k,s)::r,K=>bif dW s||bJ ds k then wO ds r K else wO ds r λr=>K ((k,s)::r)
def dy:Slot->Bool
 | .box _| .zQ _=>true
 |_=>false
def pick {R:Type}(ks:List Nat):Fr->(Fr->Option R)->Option R
 |[],K=>K []
 |(k,s)::r,K=>bif bJ ks k&&!dW s then pick ks r λr=>K ((k,s)::r) else pick ks r K
structure pn where
 ty:Nat
 fb:Bool
 xs:List MV
structure St where
 cI:List Nat
 db:List Nat
 fr:Fr
 bo:List (Nat×pn)
def aQ:List (Nat×pn)->Nat->Option pn
 |[],_=>none
 |(k,s)::r,t=>bif cV k t then some s else aQ r t
def PO {R:Type}:List (Nat×pn)->Nat->pn->(List (Nat×pn)->Option R)->Option R
 |[],t,v,K=>K [(t,v)]
 |(k,s)::r,t,v,K=>bif cV k t then K ((k,v)::r) else PO r t v λr=>K ((k,s)::r)
def kB (a b:IntKind):Bool:=decide (a=b)
def kdB:Kd->Kd->Bool
 | .b,.b=>true
 | .i k,.i k'=>kB k k'
 | .s,.s=>true
 | .l,.l=>true
 | .h,.h=>true
 | .raw,.raw=>true
 |_,_=>false
def Dz:List Kd->List Kd->Bool
 |[],[]=>true
 |x::xs,y::ys=>kdB x y&&Dz xs ys
 |_,_=>false
def msB (s t:MS):Bool:=(s.st==t.st)&&(Dz s.lay t.lay&&(s.b==t.b))
def vg {R:Type}(f:Nat):List aE->(List aE->Option R)->Option R
 |[],K=>K []
 |l::r,K=>(match l with
  | .own g=>bif cV g f then vg f r λr=>K (.un::r) else vg f r λr=>K (.own g::r)
  |l=>vg f r λr=>K (l::r))
def HX {R:Type}(f:Nat)(s:Slot)(K:Slot->Option R):Option R:=match s with
 | .sc (.own g)=>bif cV g f then K (.sc .un) else K (.sc (.own g))
 | .ag cs=>vg f cs λcs=>K (.ag cs)
 | .tg cs=>vg f cs λcs=>K (.tg cs)
 | .box cs=>vg f cs λcs=>K (.box cs)
 | .ep g i o b cs=>bif cV g f then K (.sc .un) else K (.ep g i o b cs)
 |s=>K s
def kFr {R:Type}(f:Nat):Fr->(Fr->Option R)->Option R
 |[],K=>K []
 |(k,s)::r,K=>HX f s λs=>kFr f r λr=>K ((k,s)::r)
section
variable {R:Type}
def oL (st:St)(l:aE)(K:MV->St->Option R):Option R:=match l with
 | .un=>none
 | .p m=>K m st
 | .hs x=>K (.h x) st
 | .nil=>K (.list []) st
 | .mp _ _=>none
 | .own f=>match aQ st.bo f with
  |some o=>bif o.fb then K (.list o.xs) st else bif bJ st.db f then none else (match st with|⟨p,q,r,m⟩=>PO m f ⟨o.ty,true,o.xs⟩ λm=>K (.list o.xs) ⟨p,q,r,m⟩)
  |none=>none
def rM (st:St):List aE->(List MV->St->Option R)->Option R
 |[],K=>K [] st
 |l::r,K=>oL st l λm st=>rM st r λms st=>K (m::ms) st
def nJ (st:St)(s:Slot)(K:MV->St->Option R):Option R:=match s with
 | .sc l=>oL st l K
 | .ag cs=>rM st cs λms st=>K (.agg ms) st
 | .rp cs off=>bif cV off 0 then rM st cs λms st=>K (.rp ms) st else none
 |_=>none
def xL (st:St):List Slot->(List MV->St->Option R)->Option R
 |[],K=>K [] st
 |l::r,K=>nJ st l λm st=>xL st r λms st=>K (m::ms) st
end
def zU:List aE->Nat
 |[]=>0
 |k::r=>k.w+zU r
def cut:List aE->Nat->Option (List aE)
 |cs,0=>some cs
 |c::cs,n+1=>bif acN c.w (n+1) then cut cs (n+1-c.w) else none
 |_,_=>none
def PP:List aE->Nat->Option (List aE)
 |_,0=>some []
 |c::cs,n+1=>bif acN c.w (n+1) then (match PP cs (n+1-c.w) with|some b=>some (c::b)|none=>none) else none
 |_,_=>none
def part (cs:List aE)(off n:Nat):Option (List aE):=match cut cs off with
 |some a=>PP a n
 |none=>none
def over:List aE->List aE->Option (List aE)
 |[],cs=>some cs
 |v::vs,c::cs=>bif cV v.w c.w then (match over vs cs with|some r=>some (v::r)|none=>none) else none
 |_,[]=>none
def putAt:List aE->Nat->List aE->Option (List aE)
 |cs,0,vs=>over vs cs
 |c::cs,n+1,vs=>bif acN c.w (n+1) then (match putAt cs (n+1-c.w) vs with|some r=>some (c::r)|none=>none) else none
 |_,_,_=>none
def app {α:Type}:List α->List α->Option (List α)
 |[],l=>some l
 |x::r,l=>(match app r l with|some q=>some (x::q)|none=>none)
def PQ:aE->Bool
 | .un=>true
 | .mp _ _=>true
 |_=>false
def iW:List aE->Bool
 |[.mp _ _]=>true
 |_=>false
def E6:Slot->Bool
 | .box cs=>!iW cs
 |_=>false
def HY {R:Type}(ok:Nat->Bool)(r0:Fr):Fr->Fr->(Fr->Option R)->Option R
 |[],fr,K=>K fr
 |(t,s)::r,fr,K=>match s with
  | .ptr root off=>bif ok t&&(!y8 root&&(E6 (av r0 root)&&(E6 (av fr root)&&!dy (av fr t)))) then Lf fr t (.ptr root off) λfr=>HY ok r0 r fr K else HY ok r0 r fr K
  |_=>HY ok r0 r fr K
def mC:List aE->Bool
 |[.mp s _]=>!Hj s
 |_=>false
def wP:List aE->Bool
 |[]=>false
 |l::r=>bif PQ l then true else wP r
def kEp {R:Type}(f:Nat):Fr->(Fr->Option R)->Option R
 |[],K=>K []
 |(k,s)::r,K=>(match s with
  | .ep g i o b cs=>bif cV g f then kEp f r λr=>K ((k,.sc .un)::r) else kEp f r λr=>K ((k,.ep g i o b cs)::r)
  |s=>kEp f r λr=>K ((k,s)::r))
inductive LK where
 |k (x:Kd)
 |own (f:Nat) (ty:Nat) (fb:Bool)
inductive OK where
 |sc (l:LK)
 |ag (ls:List LK)
 |box (ls:List LK)
 |mp (s:MS)
 |pt (root off:Nat)
structure pv where
 cI:List Nat
 db:List Nat
 outs:List (Nat×OK)
 exo:List (Nat×List (Nat×OK))
 fb:List Nat
instance:Inhabited pv:=⟨⟨[],[],[],[],[]⟩⟩
def YO:List (Nat×List (Nat×OK))->Nat->List (Nat×OK)
 |[],_=>[]
 |(k,l)::r,e=>bif cV k e then l else YO r e
def pv.ex (h:pv)(e:Nat):List (Nat×OK):=YO h.exo e
def UW:List (Nat×List (Nat×OK))->List (Nat×OK)
 |[]=>[]
 |(_,l)::r=>l++UW r
def pv.all (h:pv):List (Nat×OK):=h.outs++UW h.exo
structure Ctx where
 ti:Nat->Option TI
 key:Nat->Nat
 g:Nat->List MV->Option MV
 fF:Nat->Bool
 fresh:Nat->Bool
 nT:Nat->Nat
 sig:Nat->Option (Nat×List LK)
 par:List (Nat×Nat)
 n:Nat
 bs:List Nat
 fl:List Nat
 fz:Nat->List Nat
 fk:Nat->Option FloatKind
 mt:Nat->Option (Nat×Bool)
 ord:Nat->List Nat
 zp:Nat->pv
 Bk:Nat->pv
 wM:Nat->pv
 Wc:Nat->Bool
 dyn:List Nat
def Ctx.tv (c:Ctx)(t:Nat):Option TI:=match c.ti t with|some I=>(match I.cQ with|[]=>some I|_=>none)|none=>none
def Bl:Value->Slot
 | .bool b=> .sc (.p (.b b))
 | .int k n=> .sc (.p (.i k n))
 | .string s=> .sc (.p (.s s.data.toList))
 | .slice none 0 0=> .sc .nil
 | .float k b=> .sc (.p (.raw (.float k b)))
 | .complex k a b=> .sc (.p (.raw (.complex k a b)))
 | .pointer none=> .sc (.p (.raw (.pointer none)))
 | .nilFunc=> .sc (.p (.raw .nilFunc))
 | .nilIface=> .sc (.p (.raw .nilIface))
 |_=> .sc .un
def aT (c:Ctx)(st:St):Operand->Slot
 | .tmp t=>match plk c.par t with
  |some q=>bif y8 q&&cV (posOf q) t then (match av st.fr q with| .box cs=>bif iW cs then .sc .un else .ptr q (PN q)|_=> .sc .un) else .sc .un
  |none=>match av st.fr t with
   | .box cs=>bif y8 t then .sc .un else bif mC cs then .zT t else .ptr t 0
   | .zQ cs=> .rp cs 0
   |s=>s
 | .const v=>Bl v
 | .func f=> .sc (.p (.func (c.key f) []))
 | .global _=> .sc .un
def lq (c:Ctx)(st:St):List Operand->List Slot
 |[]=>[]
 |o::r=>aT c st o::lq c st r
section
variable {R:Type}
def wr (st:St)(d:Nat)(s:Slot)(K:St->Option R):Option R:=bif bJ st.cI d then none else (match st with|⟨p,q,r,m⟩=>force s λs=>Lf r d s λr=>K ⟨p,q,r,m⟩)
def bC (c:Ctx)(st:St)(d:Option Nat)(s:Slot)(K:St->Option R):Option R:=match d with
 |some d=>bif y8 d||(acN c.n d||dy (av st.fr d)) then none else wr st d s K
 |none=>K st
def kA (st:St)(f:Nat)(o:pn)(K:St->Option R):Option R:=bif bJ st.db f then none else (match st with|⟨p,q,r,m⟩=>kFr f r λr=>PO m f o λm=>K ⟨p,q,r,m⟩)
def mD (I:TI)(cs:List aE)(off:Nat)(K:Slot->Option R):Option R:=bif I.st then (match part cs off I.size with|some a=>K (.ag a)|none=>none)
 else (match cut cs off with|some (l::_)=>bif cV l.w I.size then K (.sc l) else none|_=>none)
def ldK (st:St)(I:TI)(a:Slot)(K:Slot->Option R):Option R:=match a with
 | .ptr root off=>match av st.fr root with
  | .box cs=>bif iW cs then none else mD I cs off K
  |_=>none
 | .rp cs off=>mD I cs off K
 | .ep f _ off _ cs=>(match aQ st.bo f with|some _=>mD I cs off K|none=>none)
 |_=>none
def aP:Slot->List aE
 | .sc l=>[l]
 | .ag cs=>cs
 |_=>[]
def bS:List aE->Option (List MV)
 |[]=>some []
 |l::r=>match l,bS r with
  | .p m,some q=>some (m::q)
  | .hs x,some q=>some (.h x::q)
  |_,_=>none
def sC:List aE->List MV->Option (List aE)
 |[],[]=>some []
 | .hs x::r,_::ms=>(match sC r ms with|some q=>some (.hs x::q)|none=>none)
 |_::r,m::ms=>(match sC r ms with|some q=>some (.p m::q)|none=>none)
 |_,_=>none
def wc (b:Bool)(cs:List MV):Option MV:=match b,cs with
 |false,[m]=>some m
 |true,cs=>some (.agg cs)
 |_,_=>none
def isByte (n:Int):Bool:=decide (n=((agf n.toNat).toNat:Int))
def stK (st:St)(I:TI)(a v:Slot)(K:St->Option R):Option R:=bif wP (aP v)||!cV (zU (aP v)) I.size then none else
 match a with
 | .ptr root off=>match av st.fr root with
  | .box cs=>bif iW cs then none else (match putAt cs off (aP v) with|some kR=>wr st root (.box kR) K|none=>none)
  |_=>none
 | .ep f i off b cs=>rM st (aP v) λms st=>match aQ st.bo f with
  |some o=>bif o.fb then none else
   (match sC (aP v) ms with
   |some vs=>(match putAt cs off vs with
    |some kR=>(match bS kR with
     |some ms'=>(match wc b ms' with
      |some x=>bif bJ st.db f then none else
       (match st with|⟨p,q,r,m⟩=>kEp f r λr=>PO m f ⟨o.ty,false,o.xs.set i x⟩ λm=>K ⟨p,q,r,m⟩)
      |none=>none)
     |none=>none)
    |none=>none)
   |none=>none)
  |none=>none
 |_=>none
def NG (I:TI)(x:MV)(K:List aE->Option R):Option R:=bif I.st then gA x λcs=>vf I.lay cs K
 else match I.lay with
  |[k]=>kn k x λx=>K [x]
  |_=>none
def zW (I:TI)(x:MV)(K:Slot->Option R):Option R:=bif I.st then gA x λcs=>vf I.lay cs λcs=>K (.ag cs)
 else match I.lay with
  |[k]=>kn k x λx=>K (.sc x)
  |_=>none
def zX (c:Ctx):List Nat->List MV->(List Slot->Option R)->Option R
 |[],l,K=>gN l (K [])
 |t::ts,l,K=>match c.tv t with
  |some I=>gC l λm r=>zW I m λs=>zX c ts r λss=>K (s::ss)
  |none=>none
def s5 (c:Ctx)(I:TI)(x:MV)(K:Slot->Option R):Option R:=match I.cQ with
 |[]=>zW I x K
 |ts=>gT x λvs=>zX c ts vs λss=>K (.eu ss)
def E7:aE->aE->Option Bool
 | .p (.b x),.p (.b y)=>some (decide (x=y))
 | .p (.i k x),.p (.i k' y)=>bif decide (k=k') then some (decide (x=y)) else none
 | .p (.s x),.p (.s y)=>some (decide (x=y))
 | .hs x,.hs y=>some (decide (x=y))
 |_,_=>none
def kC:List aE->List aE->Option Bool
 |[],[]=>some true
 |[x],[y]=>E7 x y
 |x::xs,y::ys=>match E7 x y,kC xs ys with
  |some a,some b=>some (a&&b)
  |_,_=>none
 |_,_=>none
def NH (op:BinOp)(x y:List UInt8):Option MV:=match op with
 | .eql=>some (.b (decide (x=y)))
 | .neq=>some (.b (!decide (x=y)))
 | .lss=>some (.b (aea x y))
 | .gtr=>some (.b (!(aea x y||decide (x=y))))
 | .leq=>some (.b (aea x y||decide (x=y)))
 | .geq=>some (.b (!aea x y))
 |_=>none
def SA (k:IntKind)(x y:Int):Int:=k.wrap ((ac7 k.bits x&&&ac7 k.bits y).toNat:Int)
def bOr (k:IntKind)(x y:Int):Int:=k.wrap ((ac7 k.bits x|||ac7 k.bits y).toNat:Int)
def E8 (k:IntKind)(x y:Int):Int:=k.wrap ((ac7 k.bits x^^^ac7 k.bits y).toNat:Int)
def UX (op:BinOp)(k:IntKind)(x y:Int):Option MV:=match op with
 | .add=>some (.i k (k.wrap (x+y)))
 | .sub=>some (.i k (k.wrap (x-y)))
 | .mul=>some (.i k (k.wrap (x *y)))
 | .and=>some (.i k (SA k x y))
 | .or=>some (.i k (bOr k x y))
 | .xor=>some (.i k (E8 k x y))
 | .eql=>some (.b (decide (x=y)))
 | .neq=>some (.b (!decide (x=y)))
 | .lss=>some (.b (decide (x<y)))
 | .leq=>some (.b (decide (x<=y)))
 | .gtr=>some (.b (decide (y<x)))
 | .geq=>some (.b (decide (y<=x)))
 |_=>none
def oM:Kd->aE->Bool
 | .b,.p (.b _)=>true
 | .i k,.p (.i k' _)=>decide (k'=k)
 | .s,.p (.s _)=>true
 | .h,.hs _=>true
 |_,_=>false
def gk:List Kd->List aE->Bool
 |[],[]=>true
 |k::ks,l::ls=>bif oM k l then gk ks ls else false
 |_,_=>false
def nK (st:Bool):Slot->Bool
 | .ag _=>st
 | .sc _=>!st
 |_=>false
def aky (op:BinOp)(a b:Nat):Option Nat:=match op with
 | .add=>FloatKind.f64.format.add a b
 | .sub=>FloatKind.f64.format.sub a b
 | .mul=>FloatKind.f64.format.mul a b
 |_=>none
def agY (oI:Option TI)(op:BinOp)(x y:Slot)(K:Slot->Option R):Option R:=match x,y with
 | .sc (.p (.i k a)),.sc (.p (.i k' b))=>
  (match op with
   | .quo=>bif decide (k=k') then du (!decide (b=0)) (K (.sc (.p (.i k (k.wrap (a.tdiv b)))))) else none
   | .rem=>bif decide (k=k') then du (!decide (b=0)) (K (.sc (.p (.i k (a.tmod b))))) else none
   | .shr=>du (decide (0<=b)) (K (.sc (.p (.i k (a.fdiv (2^min b.toNat k.bits))))))
   | .shl=>du (decide (0<=b)) (K (.sc (.p (.i k (k.wrap (a *2^min b.toNat k.bits))))))
   |_=>bif decide (k=k') then (match UX op k a b with|some m=>K (.sc (.p m))|none=>none) else none)
 | .sc (.p (.s a)),.sc (.p (.s b))=>(match op with
  | .add=>du (decide (a.length+b.length<=2^46)) (K (.sc (.p (.s (a++b)))))
  |_=>(match NH op a b with|some m=>K (.sc (.p m))|none=>none))
 | .sc (.p (.raw (.float .f64 a))),.sc (.p (.raw (.float .f64 b)))=>bd (aky op a b) λr=>K (.sc (.p (.raw (.float .f64 r))))
 |x,y=>match oI with
  |some I=>bif gk I.lay (aP x)&&gk I.lay (aP y)&&(nK I.st x&&nK I.st y) then (match op with
   | .eql=>(match kC (aP x) (aP y) with|some b=>K (.sc (.p (.b b)))|none=>none)
   | .neq=>(match kC (aP x) (aP y) with|some b=>K (.sc (.p (.b (!b))))|none=>none)
   |_=>none) else none
  |none=>none
def sliceB (lo hi:Option Slot)(len:Nat)(K:Nat->Nat->Option R):Option R:=match lo,hi with
 |none,none=>K 0 len
 |some (.sc (.p (.i _ l))),none=>du (decide (0<=l/\l<=(len:Int)/\(len:Int)<=(len:Int))) (K l.toNat (Int.toNat (len:Int)))
 |none,some (.sc (.p (.i _ h)))=>du (decide (0<=(0:Int)/\(0:Int)<=h/\h<=(len:Int))) (K (Int.toNat 0) h.toNat)
 |some (.sc (.p (.i _ l))),some (.sc (.p (.i _ h)))=>du (decide (0<=l/\l<=h/\h<=(len:Int))) (K l.toNat h.toNat)
 |_,_=>none
def nh (c:Ctx)(st:St):Option Operand->Option Slot
 |some o=>some (aT c st o)
 |none=>none
def zY:List aE->Option (List MV)
 |[]=>some []
 |l::r=>match l,zY r with
  | .p m,some q=>some (m::q)
  | .hs x,some q=>some (.h x::q)
  | .nil,some q=>some (.list []::q)
  |_,_=>none
def YP (d:Nat)(st:St)(I E:TI)(x y:Slot)(K:Slot->St->Option R):Option R:=match x,y with
 | .sc (.p (.i _ n)),.sc (.p (.i _ m))=>bif acN 1 E.bytes then du (decide ((0:Int)<=n/\n=m/\n *E.bytes<=2^46)) (match zY E.zero with
  |some zs=>(match wc E.st zs with
   |some z=>kA st d ⟨I.elem,false,List.replicate n.toNat z⟩ λst=>K (.sc (.own d)) st
   |none=>none)
  |none=>none) else none
 |_,_=>none
def TI.Bm (I:TI):Bool:=match I.st,I.lay with|false,[.l]=>true|_,_=>false
def TI.isS (I:TI):Bool:=match I.st,I.lay with|false,[.s]=>true|_,_=>false
def Wd (E:TI):Bool:=match E.st,E.lay with
 |false,[.i k]=>decide (k= .u8)
 |_,_=>false
def PR (l:List UInt8):List MV:=l.map λb=> .i .u8 (b.toNat:Int)
def SB (c:Ctx)(u:Nat)(E:TI)(x:Slot)(K:List MV->Option R):Option R:=match c.tv u,x with
 |some T,.sc (.p (.s l))=>bif T.isS&&Wd E then K (PR l) else none
 |_,_=>none
def NI (I E:TI)(st:St)(x:Slot)(K:List MV->Option R):Option R:=match x with
 | .sc (.p (.list xs))=>du (pu E.size xs) (K xs)
 | .sc .nil=>K []
 | .sc (.own f)=>(match aQ st.bo f with|some o=>bif cV o.ty I.elem then K o.xs else none|none=>none)
 |_=>none
def CH (c:Ctx)(st:St)(I:TI):List (Nat×Operand)->List aE->Option (List aE)
 |[],cs=>some cs
 |(i,o)::r,cs=>match I.HW[i]?,I.Wb[i]? with
  |some q,some y=>(match c.tv y with
   |some J=>bif wP (aP (aT c st o))||!cV (zU (aP (aT c st o))) J.size then none else
    (match putAt cs q (aP (aT c st o)) with|some kR=>CH c st I r kR|none=>none)
   |none=>none)
  |_,_=>none
def YQ (c:Ctx)(st:St):List (Nat×Operand)->Nat->(List MV->St->Option R)->Option R
 |[],_,K=>K [] st
 |(i,o)::r,n,K=>bif cV i n then nJ st (aT c st o) λm st=>YQ c st r (n+1) λms st=>K (m::ms) st else none
def HZ (c:Ctx)(st:St):List Operand->(List MV->St->Option R)->Option R
 |[],K=>K [] st
 |o::r,K=>match aT c st o with
  | .ptr root 0=>(match av st.fr root with
   | .box cs=>bif wP cs||y8 root then none else rM st cs λms st=>(match sC cs ms with|some kR=>wr st root (.zQ kR) λst=>HZ c st r λxs st=>K (.rp ms::xs) st|none=>none)
   |_=>none)
  | .rp cs 0=>rM st cs λms st=>HZ c st r λxs st=>K (.rp ms::xs) st
  |_=>none
def H0 (c:Ctx)(k:Nat)(st:St)(s:Slot)(K:MV->St->Option R):Option R:=match s with
 | .sc (.own f)=>(match aQ st.bo f with
  |some o=>bif o.fb||!cV o.ty (c.nT k) then none else kA st f ⟨o.ty,true,[]⟩ λst=>K (.fresh o.xs) st
  |none=>none)
 | .sc .nil=>(match c.tv (c.nT k) with|some _=>K (.fresh []) st|none=>none)
 |_=>none
def UY (c:Ctx)(k:Nat)(st:St)(ss:List Slot)(K:List MV->St->Option R):Option R:=bif c.fF k then (match ss with
  |[s0,s1,s2]=>(match s2 with
   | .sc (.p m2)=>nJ st s1 λm1 st=>H0 c k st s0 λm0 st=>K [m0,m1,m2] st
   |s2=>nJ st s1 λm1 st=>H0 c k st s0 λm0 st=>H0 c k st s2 λm2 st=>K [m0,m1,m2] st)
  |_=>none)
 else xL st ss K
def akz (x y:Int):Int:=if y<x then y else x
def imax (x y:Int):Int:=if y>x then y else x
def YR (mx:Bool)(k:IntKind):Int->List Slot->Option MV
 |x,[]=>some (.i k x)
 |x,.sc (.p (.i k' y))::r=>bif decide (k'=k) then YR mx k (bif mx then imax x y else akz x y) r else none
 |_,_=>none
def SC (mx:Bool):List Slot->Option MV
 | .sc (.p (.i k n))::r=>YR mx k n r
 |_=>none
def adh:List Nat->Bool
 |[]=>false
 |_=>true
def H2 (c:Ctx):List Nat->List MV->(List aE->Option R)->Option R
 |[],l,K=>gN l (K [])
 |t::ts,l,K=>match c.tv t with
  |some I=>gC l λm r=>zW I m λs=>(match s with| .sc (.p m)=>H2 c ts r λls=>K (.p m::ls)|_=>none)
  |none=>none
def H3 (c:Ctx)(d:Nat)(st:St)(f:Nat)(r:MV)(ts:List Nat)(K:Slot->St->Option R):Option R:=match ts with
 |[]=>none
 |t0::ts=>(match c.tv t0 with
  |some I0=>bif !cV I0.elem (c.nT f) then none else gT r λvs=>gC vs λx vs=>gF x λxs=>H2 c ts vs λls=>kA st d ⟨I0.elem,false,xs⟩ λst=>(bif bJ c.bs d then oL st (.own d) λm st=>K (.tg (.p m::ls)) st else K (.tg (.own d::ls)) st)
  |none=>none)
def YS (c:Ctx)(d:Nat)(st:St)(f:Nat)(ms:List MV)(I:TI)(K:Slot->St->Option R):Option R:=bd (c.g f ms) λr=>bif c.fresh f then bif cV (c.nT f) 0 then gCl r λxs=>K (.sc (.p (.clip xs))) st else bif adh I.cQ then H3 c d st f r I.cQ K else gF r λxs=>bif !cV I.elem (c.nT f) then none else kA st d ⟨I.elem,false,xs⟩ λst=>(bif bJ c.bs d then oL st (.own d) λm st=>K (.sc (.p m)) st else K (.sc (.own d)) st) else s5 c I r λs=>K s st
def agZ (s:Slot)(K:Slot->Option R):Option R:=match s with
 | .ptr r o=>K (.ptr r o)
 | .rp cs o=>K (.rp cs o)
 |_=>none
def YT (x y z:Slot)(K:Slot->Option R):Option R:=match x with
 | .sc (.p (.b v))=>(match y,z with
  | .sc (.p (.b p)),.sc (.p (.b q))=>K (.sc (.p (.b (bif v then p else q))))
  |p,q=>match v with|true=>K p|false=>K q)
 |_=>none
def ag0 (I:TI)(s:Slot)(K:Slot->Option R):Option R:=match s with
 | .sc l=>bif I.st||PQ l||!cV l.w I.size then none else K (.box [l])
 | .ag cs=>bif I.st&&!wP cs&&cV (zU cs) I.size then K (.box cs) else none
 |_=>none
def unK (op:UnOp)(s:Slot)(K:Slot->Option R):Option R:=match op,s with
 | .not,.sc (.p (.b v))=>K (.sc (.p (.b (!v))))
 | .neg,.sc (.p (.i k n))=>K (.sc (.p (.i k (k.wrap (0-n)))))
 |_,_=>none
def YU (I:TI)(fk:Option FloatKind)(s:Slot)(K:Slot->Option R):Option R:=match I.st,I.cQ,I.lay,s with
 |false,[],[.i k],.sc (.p (.i _ n))=>K (.sc (.p (.i k (k.wrap n))))
 |false,[],[.s],.sc (.p (.s l))=>K (.sc (.p (.s l)))
 |false,[],[.i k],.sc (.p (.raw (.float .f64 a)))=>bd ((FloatKind.decode .f64 a).toInt .zero) λn=>du (decide (k.min<=n/\n<=k.max)) (K (.sc (.p (.i k n))))
 |false,[],[.raw],.sc (.p (.i _ n))=>(match fk with
  |some .f64=>K (.sc (.p (.raw (.float .f64 (FloatKind.nearest .f64 n)))))
  |_=>none)
 |_,_,_,_=>none
def SD (c:Ctx)(I:TI)(st:St)(s:Slot)(lo hi:Option Slot)(K:Slot->St->Option R):Option R:=match s with
 | .sc (.p (.s l))=>bif I.isS then sliceB lo hi l.length λa b=>K (.sc (.p (.s ((l.take b).drop a)))) st else none
 | .sc (.p (.list l))=>bif I.Bm then (match c.tv I.elem with
  |some E=>(match lo with
   |none=>sliceB none hi l.length λa b=>K (.sc (.p (.list ((l.take b).drop a)))) st
   |some lo=>du (pu E.size l) (sliceB (some lo) hi l.length λa b=>K (.sc (.p (.list ((l.take b).drop a)))) st))
  |none=>none) else none
 | .sc (.own f)=>(match aQ st.bo f with
  |some o=>bif I.Bm&&cV o.ty I.elem then oL st (.own f) λ_ st=>sliceB lo hi o.xs.length λa b=>K (.sc (.p (.list ((o.xs.take b).drop a)))) st else none
  |none=>none)
 | .sc .nil=>bif I.Bm then sliceB lo hi 0 λ_ _=>K (.sc .nil) st else none
 |_=>none
def YV (I:TI)(s h m:Slot)(K:Slot->Option R):Option R:=match s,h,m with
 | .sc (.p (.list l)),.sc (.p (.i .i64 n)),.sc (.p (.i .i64 n'))=>bif I.Bm then du (decide (n=(l.length:Int)/\n'=(l.length:Int))) (K (.sc (.p (.clip l)))) else none
 |_,_,_=>none
def YW (st:St)(I:TI)(f:Nat)(s:Slot)(K:Slot->Option R):Option R:=match I.st,I.HW[f]?,s with
 |true,some q,.ptr r o=>K (.ptr r (o+q))
 |true,some q,.rp cs o=>K (.rp cs (o+q))
 |true,some q,.ep g i o b cs=>(match aQ st.bo g with|some _=>K (.ep g i (o+q) b cs)|none=>none)
 |_,_,_=>none
def auU (c:Ctx)(I:TI)(f:Nat)(s:Slot)(K:Slot->Option R):Option R:=match I.st,I.HW[f]?,I.Wb[f]?,s with
 |true,some q,some y,.ag cs=>(match c.tv y with|some J=>mD J cs q K|none=>none)
 |_,_,_,_=>none
def ag1 (c:Ctx)(st:St)(I E:TI)(x i:Slot)(K:Slot->Option R):Option R:=match x,i with
 | .sc (.p (.list xs)),.sc (.p (.i _ n))=>bif I.Bm then idx xs n λx=>NG E x λcs=>K (.rp cs 0) else none
 | .sc (.own f),.sc (.p (.i _ n))=>(match aQ st.bo f with
  |some o=>bif I.Bm then idx o.xs n λx=>NG E x λcs=>K (.ep f n.toNat 0 E.st cs) else none
  |none=>none)
 |_,_=>none
def ixK (I:TI)(x i:Slot)(K:Slot->Option R):Option R:=match I.st,I.lay,x,i with
 |false,[.s],.sc (.p (.s l)),.sc (.p (.i _ n))=>du (decide ((0:Int)<=n/\n<(l.length:Int))) (K (.sc (.p (.i .u8 (l.getD n.toNat 0).toNat))))
 |_,_,_,_=>none
def DA:List aE->Nat->Option aE
 | .p m::_,0=>some (.p m)
 | .own f::_,0=>some (.own f)
 | .un::_,0=>some .un
 | .p _::r,k+1=>DA r k
 | .own _::r,k+1=>DA r k
 | .un::r,k+1=>DA r k
 |_,_=>none
def ag2 (s:Slot)(k:Nat)(K:Slot->Option R):Option R:=match s with
 | .tg cs=>(match DA cs k with|some l=>K (.sc l)|none=>none)
 | .eu vs=>(match vs[k]? with|some s=>K s|none=>none)
 |_=>none
def YX (I:TI)(st:St)(ss:List Slot)(K:Slot->Option R):Option R:=match ss with
 |[.sc (.p (.s l))]=>bif I.isS then K (.sc (.p (.i .i64 l.length))) else none
 |[.sc (.p (.list l))]=>bif I.Bm then K (.sc (.p (.i .i64 l.length))) else none
 |[.sc .nil]=>bif I.Bm then K (.sc (.p (.i .i64 0))) else none
 |[.sc (.own f)]=>bif I.Bm then (match aQ st.bo f with|some o=>K (.sc (.p (.i .i64 o.xs.length)))|none=>none) else none
 |_=>none
def We (pb:Bool)(d:Nat)(st:St)(I E:TI)(s:Slot)(ys:List MV)(K:Slot->St->Option R):Option R:=bif acN 1 E.bytes then (match s with
 | .sc .nil=>du (decide (ys.length *E.bytes<=2^46)) (kA st d ⟨I.elem,false,ys⟩ λst=>K (.sc (.own d)) st)
 | .sc (.own f)=>(match aQ st.bo f with
  |some w=>du (decide ((w.xs.length+ys.length) *E.bytes<=2^46)) (bif cV w.ty I.elem then kA st f ⟨w.ty,w.fb,w.xs++ys⟩ λst=>K (.sc (.own f)) st else none)
  |none=>none)
 | .sc (.p (.clip xs))=>du (pu E.size xs) (du (decide (0<ys.length/\(xs.length+ys.length) *E.bytes<=2^46)) (kA st d ⟨I.elem,false,xs++ys⟩ λst=>bif pb then oL st (.own d) λm st=>K (.sc (.p m)) st else K (.sc (.own d)) st))
 |_=>none) else none
def NJ (c:Ctx)(st:St)(I:TI)(f:Slot)(ss:List Slot)(K:Slot->St->Option R):Option R:=match f with
 | .sc (.p m)=>Yw m λf dJ=>du (!c.fF f)<|xL st ss λms st=>bd (c.g f (ms++dJ)) λr=>s5 c I r λs=>K s st
 |_=>none
def E9:MV->MV->Bool
 | .b x,.b y=>decide (x=y)
 | .i k x,.i k' y=>decide (k=k')&&decide (x=y)
 | .s x,.s y=>decide (x=y)
 | .h x,.h y=>decide (x=y)
 |_,_=>false
def eV:List MV->List MV->Bool
 |[],[]=>true
 |x::xs,y::ys=>E9 x y&&eV xs ys
 |_,_=>false
def kD:MV->List MV
 | .eu (.agg k::_)=>k
 |_=>[]
def adi:MV->MV
 | .eu [_,v]=>v
 |_=> .b false
def cE:List MV->List MV->Nat
 |[],_=>0
 |e::r,ks=>bif eV (kD e) ks then 0 else cE r ks+1
def asI:MV->Int
 | .i _ n=>n
 |_=>0
def asB:MV->Bool
 | .b x=>x
 |_=>false
def nU (es:List MV)(ks:List MV):Int:=match es[cE es ks]? with|some e=>asI (adi e)|none=>0
def afI (es:List MV)(ks:List MV):Bool:=match es[cE es ks]? with|some e=>asB (adi e)|none=>false
def nL (es ks:List MV)(z:MV):List MV:=bif cV (cE es ks) es.length then es++[.eu [.agg ks,z]] else es
def ua (es:List MV)(i:Nat)(v:MV):List MV:=match es[i]? with|some e=>es.set i (.eu [.agg (kD e),v])|none=>es
def ko (b:Bool):MV:=bif b then .b false else .i .i64 0
def we (c:Ctx)(t:Nat):Option MS:=match c.mt t with
 |some (kt,b)=>(match c.tv kt with|some I=>bif Hj ⟨I.st,I.lay,b⟩ then none else some ⟨I.st,I.lay,b⟩|none=>none)
 |none=>none
def PS (s:MS)(k:Slot)(K:List MV->Option R):Option R:=bif gk s.lay (aP k)&&nK s.st k then (match bS (aP k) with|some ks=>K ks|none=>none) else none
def Lg (st:St)(s:MS)(m:Slot)(K:Nat->List MV->Option R):Option R:=match m with
 | .zT r=>(match av st.fr r with| .box [.mp s' es]=>bif msB s s'&&!Hj s' then K r es else none|_=>none)
 |_=>none
def Wf (b:Bool)(s:Slot)(K:MV->Option R):Option R:=match b,s with
 |true,.sc (.p (.b x))=>K (.b x)
 |false,.sc (.p (.i .i64 n))=>K (.i .i64 n)
 |_,_=>none
def Gd (st:St)(r:Nat)(s:MS)(es:List MV)(K:St->Option R):Option R:=wr st r (.box [.mp s es]) K
def isLT (c:Ctx)(y:Nat):Bool:=match c.tv y with|some Y=>Y.Bm|none=>false
def jC (c:Ctx)(o:Oper):Bool:=match o.op with
 | .assign (.tmp _)=>(match c.mt o.type with|some _=>true|none=>false)
 |_=>false
def HI (c:Ctx)(o:Oper)(st:St)(x:Operand)(K:Slot->St->Option R):Option R:=match x,c.mt o.type with
 | .tmp t,some _=>(match av st.fr t with
  | .box cs=>bif iW cs then bif bJ st.cI t||y8 t then none else (match st with|⟨p,q,r,m⟩=>wO [t] r λr=>K (.box cs) ⟨p,q,r,m⟩) else K (aT c st x) st
  |_=>K (aT c st x) st)
 |_,_=>K (aT c st x) st
def Fa (s:MS)(es ks:List MV):Slot:=bif s.b then .sc (.p (.b (afI es ks))) else .sc (.p (.i .i64 (nU es ks)))
def afJ (c:Ctx)(st:St)(t:Nat)(m k:Slot)(K:Slot->Option R):Option R:=match we c t with
 |some s=>Lg st s m λ_ es=>PS s k λks=>K (Fa s es ks)
 |none=>none
def afK (c:Ctx)(st:St)(t:Nat)(m k v:Slot)(K:St->Option R):Option R:=match we c t with
 |some s=>Lg st s m λr es=>PS s k λks=>Wf s.b v λv=>Gd st r s (ua (nL es ks (ko s.b)) (cE es ks) v) K
 |none=>none
def YY (c:Ctx)(st:St)(t:Nat)(m k:Slot)(K:Slot->St->Option R):Option R:=match we c t with
 |some s=>Lg st s m λr es=>PS s k λks=>Gd st r s (nL es ks (ko s.b)) λst=>K (.eu [Fa s es ks,.sc (.p (.i .i64 (cE es ks)))]) st
 |none=>none
def akA (c:Ctx)(st:St)(t:Nat)(m i v:Slot)(K:St->Option R):Option R:=match we c t with
 |some s=>Lg st s m λr es=>(match i with
  | .sc (.p (.i .i64 n))=>du (decide (0<=n/\n.toNat<es.length)) (Wf s.b v λv=>Gd st r s (ua es n.toNat v) K)
  |_=>none)
 |none=>none
def byK (m:MV)(K:UInt8->Option R):Option R:=gI .u8 m λn=>du (isByte n) (K (agf n.toNat))
def NK:List MV->(List UInt8->Option R)->Option R
 |[],K=>K []
 |m::r,K=>byK m λb=>NK r λl=>K (b::l)
def YZ (c:Ctx)(st:St)(Y I:TI)(x:Slot)(K:Slot->Option R):Option R:=match c.tv Y.elem with
 |some E=>bif I.isS&&Wd E then (match x with
  | .sc (.p (.list xs))=>NK xs λl=>K (.sc (.p (.s l)))
  | .sc .nil=>K (.sc (.p (.s [])))
  | .sc (.own f)=>(match aQ st.bo f with
   |some o=>bif cV o.ty Y.elem then NK o.xs λl=>K (.sc (.p (.s l))) else none
   |none=>none)
  |_=>none) else none
 |none=>none
def still (c:Ctx)(o:Oper):Bool:=match o.op,o.dst with
 | .load _ _,some d=>bJ c.fl d
 |_,_=>false
def cB:List LK->List Nat
 |[]=>[]
 | .own f _ _::r=>f::cB r
 |_::r=>cB r
def meets:List Nat->List Nat->Bool
 |[],_=>false
 |k::r,l=>bif bJ l k then true else meets r l
def kp (c:Ctx):List LK->Bool
 |[]=>true
 | .own _ ty _::r=>(match c.tv ty with|some _=>kp c r|none=>false)
 |_::r=>kp c r
def nM (ps:List (Nat×Nat))(f g:Nat):Bool:=match ps with
 |[]=>true
 |(a,b)::r=>(bif cV a f then cV b g&&!cV g 0 else (bif cV b g then cV g 0 else true))&&nM r f g
def NL (st:St)(ps:List (Nat×Nat))(k:LK)(l:aE)(K:MV->List (Nat×Nat)->Option R):Option R:=match k,l with
 | .k .l,.nil=>K (.list []) ps
 | .k .h,.hs x=>K (.h x) ps
 | .k x,.p m=>kn x m λ_=>K m ps
 | .own f ty fb,.own g=>match aQ st.bo g with
  |some o=>bif !cV o.ty ty||(o.fb&&!fb)||bJ st.db g||!nM ps f (g+1) then none else K (.list o.xs) ((f,g+1)::ps)
  |none=>none
 | .own f _ _,.nil=>bif nM ps f 0 then K (.list []) ((f,0)::ps) else none
 |_,_=>none
def ma (st:St):List (Nat×Nat)->List LK->List aE->(List MV->List (Nat×Nat)->Option R)->Option R
 |ps,[],[],K=>K [] ps
 |ps,k::ks,l::ls,K=>NL st ps k l λm ps=>ma st ps ks ls λms ps=>K (m::ms) ps
 |_,_,_,_=>none
def kZ (st:St)(k:LK)(m:MV)(K:aE->St->Option R):Option R:=match k with
 | .k x=>kn x m λl=>K l st
 | .own f ty fb=>gL m λxs=>(match st with|⟨p,q,r,n⟩=>PO n f ⟨ty,fb,xs⟩ λn=>K (.own f) ⟨p,q,r,n⟩)
def dh (st:St):List LK->List MV->(List aE->List MV->St->Option R)->Option R
 |[],ms,K=>K [] ms st
 |k::ks,ms,K=>gC ms λm r=>kZ st k m λl st=>dh st ks r λls ms st=>K (l::ls) ms st
def PT (gs:List Nat):List (Nat×pn)->(List (Nat×pn)->Option R)->Option R
 |[],K=>K []
 |(k,o)::r,K=>bif bJ gs k then PT gs r K else PT gs r λr=>K ((k,o)::r)
def adj:List Nat->Fr->(Fr->Option R)->Option R
 |[],r,K=>K r
 |f::fs,r,K=>kFr f r λr=>adj fs r K
def lQ:List (Nat×Nat)->List Nat
 |[]=>[]
 |(_,0)::r=>lQ r
 |(_,g+1)::r=>g::lQ r
def PU:List Nat->List (Nat×pn)->Bool
 |[],_=>false
 |f::r,m=>(match aQ m f with|some _=>true|none=>PU r m)
def Y0 (st:St)(root:Nat)(ks:List LK)(ps:List (Nat×Nat))(outs:List MV)(K:St->Option R):Option R:=dh ⟨[],[],[],[]⟩ ks outs λcs rest H4=>gN rest<|PT (lQ ps) st.bo λm=>
  bif PU (cB ks) m||meets (cB ks) st.db then none else
   adj (cB ks) st.fr λr=>Lf r root (.box cs) λr=>(match app H4.bo m with|some m=>K ⟨st.cI,st.db,r,m⟩|none=>none)
def Y1 (c:Ctx)(gv:Bool)(g:List MV->Option MV)(pos:Nat)(ks:List LK)(st:St)(ss:List Slot)(I:Option TI)(K:Slot->St->Option R):Option R:=match ss[pos]? with
 |some (.ptr root off)=>xL st (ss.take pos) λm1 st=>xL st (ss.drop (pos+1)) λm2 st=>
  (match av st.fr root with
  | .box cs=>bif iW cs||bJ st.cI root||!kp c ks||!gv then none else ma st [] ks cs λls ps=>
   (match app m1 (.cell (.func off ls)::m2) with
   |some ms=>bd (g ms) λx=>gW x λr outs=>Y0 st root ks ps outs λst=>(match I with
    |some I=>s5 c I r λs=>K s st
    |none=>K (.sc .un) st)
   |none=>none)
  |_=>none)
 |_=>none
def afL (c:Ctx)(key pos:Nat)(ks:List LK)(st:St)(ss:List Slot)(I:Option TI)(K:Slot->St->Option R):Option R:=Y1 c (c.fF key) (c.g key) pos ks st ss I K
def opK (c:Ctx)(o:Oper)(st:St)(K:Slot->St->Option R):Option R:=match o.op with
 | .move x=>K (aT c st x) st
 | .assign x=>HI c o st x K
 | .makeMap t none=>(match we c t with|some s=>K (.box [.mp s []]) st|none=>none)
 | .lookup t m k false=>afJ c st t (aT c st m) (aT c st k) λs=>K s st
 | .mapUpdate t m k v=>afK c st t (aT c st m) (aT c st k) (aT c st v) λst=>K (.sc .un) st
 | .mapEntry t m k=>YY c st t (aT c st m) (aT c st k) K
 | .entryStore t m i v=>akA c st t (aT c st m) (aT c st i) (aT c st v) λst=>K (.sc .un) st
 | .nilCheck x=>agZ (aT c st x) λs=>K s st
 | .pick x a b=>YT (aT c st x) (aT c st a) (aT c st b) λs=>K s st
 | .alloc t=>(match c.tv t with|some I=>K (.box I.zero) st|none=>none)
 | .box t x=>(match c.tv t with|some I=>ag0 I (aT c st x) λs=>K s st|none=>none)
 | .build t parts=>(match c.tv t with
  |some I=>bif I.st then (match CH c st I parts.toList I.zero with|some cs=>K (.ag cs) st|none=>none)
   else none
  |none=>none)
 | .buildSlice t n parts=>(match c.tv t with
  |some I=>bif I.Bm then (match c.tv I.elem with
   |some E=>bif acN (n *E.size) 16777216 then YQ c st parts.toList 0 λms st=>bif cV ms.length n then du (pu E.size ms) (bif bJ c.bs (o.dst.getD 0) then K (.sc (.p (.list ms))) st else kA st (o.dst.getD 0) ⟨I.elem,false,ms⟩ λst=>K (.sc (.own (o.dst.getD 0))) st) else none else none
   |none=>none) else none
  |none=>none)
 | .makeSlice t x y=>(match c.tv t with
  |some I=>bif I.Bm then (match c.tv I.elem with|some E=>YP (o.dst.getD 0) st I E (aT c st x) (aT c st y) K|none=>none) else none
  |none=>none)
 | .load t a=>(match c.tv t with
  |some I=>bif still c o then (match aT c st a with| .rp cs off=>mD I cs off λs=>K s st|_=>none) else ldK st I (aT c st a) λs=>K s st
  |none=>none)
 | .store t a v=>(match c.tv t with|some I=>stK st I (aT c st a) (aT c st v) λst=>K (.sc .un) st|none=>none)
 | .binOp op t x y _=>agY (c.tv t) op (aT c st x) (aT c st y) λs=>K s st
 | .unOp op _ x=>unK op (aT c st x) λs=>K s st
 | .convert y t x=>bif isLT c y then (match c.tv y,c.tv t with|some Y,some I=>YZ c st Y I (aT c st x) λs=>K s st|_,_=>none)
  else (match c.ti y,c.tv t with|some _,some I=>YU I (c.fk t) (aT c st x) λs=>K s st|_,_=>none)
 | .makeFunc (.func f) first dJ=>(match first.toList with
  |[]=>HZ c st dJ.toList λms st=>K (.sc (.p (.func (c.key f) ms))) st
  |_=>none)
 | .slice t x lo hi none=>(match c.tv t with|some I=>SD c I st (aT c st x) (nh c st lo) (nh c st hi) K|none=>none)
 | .slice t x none (some h) (some m)=>(match c.tv t with|some I=>YV I (aT c st x) (aT c st h) (aT c st m) λs=>K s st|none=>none)
 | .fieldAddr t x f=>(match c.tv t with|some I=>YW st I f (aT c st x) λs=>K s st|none=>none)
 | .indexAddr t x i=>(match c.tv t with
  |some I=>(match c.tv I.elem with|some E=>ag1 c st I E (aT c st x) (aT c st i) λs=>K s st|none=>none)
  |none=>none)
 | .index t x i=>(match c.tv t with|some I=>ixK I (aT c st x) (aT c st i) λs=>K s st|none=>none)
 | .extract x k=>ag2 (aT c st x) k λs=>K s st
 | .call cl=>(match cl.callee with
  | .value (.func f)=>(match c.sig (c.key f) with
   |some sg=>afL c (c.key f) sg.1 sg.2 st (lq c st cl.args.toList) (c.ti o.type) K
   |none=>match c.ti o.type with
   |some I=>UY c (c.key f) st (lq c st cl.args.toList) λms st=>YS c (o.dst.getD 0) st (c.key f) ms I K
   |none=>none)
  | .value x=>(match c.dyn with
   |_::_=>none
   |[]=>match c.ti o.type with
   |some I=>NJ c st I (aT c st x) (lq c st cl.args.toList) K
   |none=>none)
  | .builtin .len=>(match cl.argTypes.toList with
   |[t]=>(match c.tv t with|some I=>YX I st (lq c st cl.args.toList) λs=>K s st|none=>none)
   |_=>none)
  | .builtin .append=>(match lq c st cl.args.toList,cl.argTypes.toList with
   |[s,x],[t,t']=>(match c.tv t with
    |some I=>bif I.Bm then (match c.tv I.elem with
     |some E=>bif cV t t' then NI I E st x λys=>We (bJ c.bs (o.dst.getD 0)) (o.dst.getD 0) st I E s ys K else SB c t' E x λys=>We (bJ c.bs (o.dst.getD 0)) (o.dst.getD 0) st I E s ys K
     |none=>none) else none
    |none=>none)
   |_,_=>none)
  | .builtin .real=>(match lq c st cl.args.toList with|[.sc (.p m)]=>gCx m λx _=>K (.sc (.p (.raw (.float .f64 x)))) st|_=>none)
  | .builtin .imag=>(match lq c st cl.args.toList with|[.sc (.p m)]=>gCx m λ_ y=>K (.sc (.p (.raw (.float .f64 y)))) st|_=>none)
  | .builtin .complex=>(match lq c st cl.args.toList with|[.sc (.p (.raw (.float .f64 x))),.sc (.p (.raw (.float .f64 y)))]=>K (.sc (.p (.raw (.complex .f64 x y)))) st|_=>none)
  | .builtin .min=>(match SC false (lq c st cl.args.toList) with|some m=>K (.sc (.p m)) st|none=>none)
  | .builtin .max=>(match SC true (lq c st cl.args.toList) with|some m=>K (.sc (.p m)) st|none=>none)
  |_=>none)
 |_=>none
def SE (all:List Oper)(o:Oper)(st:St)(K:Bool->St->Option R):Option R:=match o.guard with
 |none=>K true st
 |some (j,want)=>match all[j]? with
  |some p=>(match p.dst with
   |some t=>(match av st.fr t with
    | .sc (.p (.b v))=>(match v with
     |true=>(match st with|⟨p,q,r,m⟩=>Lf r t (.sc (.p (.b true))) λr=>K want ⟨p,q,r,m⟩)
     |false=>(match st with|⟨p,q,r,m⟩=>Lf r t (.sc (.p (.b false))) λr=>K (!want) ⟨p,q,r,m⟩))
    | .skip=>K false st
    |_=>none)
   |none=>none)
  |none=>none
def UZ (c:Ctx)(all:List Oper)(o:Oper)(st:St)(K:St->Option R):Option R:=SE all o st λgo st=>
  bif go then opK c o st λs st=>bC c st o.dst s K
  else bC c st o.dst .skip K
def CJ (c:Ctx)(all:List Oper):List Oper->St->(St->Option R)->Option R
 |[],st,K=>K st
 |o::r,st,K=>UZ c all o st λst=>CJ c all r st K
end
section
variable {R:Type}
def mE (st:St):List (Nat×Nat)->List (Nat×OK)->(List MV->Option R)->Option R
 |_,[],K=>K []
 |ps,(t,k)::r,K=>match k,av st.fr t with
  | .sc k,.sc l=>ma st ps [k] [l] λms ps=>mE st ps r λns=>(match app ms ns with|some l=>K l|none=>none)
  | .ag ks,.ag ls=>ma st ps ks ls λms ps=>mE st ps r λns=>(match app ms ns with|some l=>K l|none=>none)
  | .box ks,.box ls=>ma st ps ks ls λms ps=>mE st ps r λns=>(match app ms ns with|some l=>K l|none=>none)
  | .mp s,.box [.mp s' es]=>bif msB s s' then mE st ps r λns=>K (.list es::ns) else none
  | .pt root off,.ptr Y2 SH=>bif cV root Y2&&(cV off SH&&(!y8 root&&E6 (av st.fr root))) then mE st ps r K else none
  |_,_=>none
def PV (st:St)(t:Nat)(s:Slot)(K:St->Option R):Option R:=match st with|⟨p,q,r,m⟩=>Lf r t s λr=>K ⟨p,q,r,m⟩
def Y3:List (Nat×OK)->List MV->St->(St->Option R)->Option R
 |[],ms,st,K=>gN ms (K st)
 |(t,k)::r,ms,st,K=>match k,st with
  | .pt root off,⟨p,q,fr,m⟩=>bif !y8 root&&(E6 (av fr root)&&!dy (av fr t)) then Lf fr t (.ptr root off) λfr=>Y3 r ms ⟨p,q,fr,m⟩ K else none
  |_,_=>none
def nF (st:St):List (Nat×OK)->List MV->(St->Option R)->Option R
 |[],ms,K=>gN ms (K st)
 |(t,k)::r,ms,K=>match k with
  | .sc k=>dh st [k] ms λls ms st=>(match ls with|[l]=>PV st t (.sc l) λst=>nF st r ms K|_=>none)
  | .ag ks=>dh st ks ms λls ms st=>PV st t (.ag ls) λst=>nF st r ms K
  | .box ks=>bif y8 t&&!bJ st.cI (posOf t) then none else dh st ks ms λls ms st=>PV st t (.box ls) λst=>nF st r ms K
  | .mp s=>bif y8 t then none else gC ms λm ms=>gL m λes=>PV st t (.box [.mp s es]) λst=>nF st r ms K
  | .pt root off=>Y3 ((t,.pt root off)::r) ms st K
end
def dZ:List (Nat×OK)->List Nat
 |[]=>[]
 |(t,_)::r=>t::dZ r
def ct:List (Nat×OK)->List Nat
 |[]=>[]
 |(_,.sc k)::r=>cB [k]++ct r
 |(_,.ag ks)::r=>cB ks++ct r
 |(_,.box ks)::r=>cB ks++ct r
 |(_,.mp _)::r=>ct r
 |(_,.pt _ _)::r=>ct r
def minus:List Nat->List Nat->List Nat
 |[],_=>[]
 |k::r,l=>bif bJ l k then minus r l else k::minus r l
def vh {R:Type}(ps:List Nat):List aE->(List aE->Option R)->Option R
 |[],K=>K []
 |l::r,K=>(match l with
  | .own g=>bif bJ ps g then vh ps r λr=>K (.own g::r) else vh ps r λr=>K (.un::r)
  |l=>vh ps r λr=>K (l::r))
def Mb {R:Type}(ps:List Nat)(s:Slot)(K:Slot->Option R):Option R:=match s with
 | .sc (.own g)=>bif bJ ps g then K (.sc (.own g)) else K (.sc .un)
 | .ag cs=>vh ps cs λcs=>K (.ag cs)
 | .tg cs=>vh ps cs λcs=>K (.tg cs)
 | .box cs=>vh ps cs λcs=>K (.box cs)
 |s=>K s
def nFr {R:Type}(ps:List Nat):Fr->(Fr->Option R)->Option R
 |[],K=>K []
 |(k,s)::r,K=>Mb ps s λs=>nFr ps r λr=>K ((k,s)::r)
def Mc {R:Type}(ks fs qs:List Nat):List (Nat×pn)->(List (Nat×pn)->Option R)->Option R
 |[],K=>K []
 |(k,o)::r,K=>bif bJ ks k then Mc ks fs qs r λr=>(bif bJ fs k&&!bJ qs k then K ((k,⟨o.ty,true,o.xs⟩)::r) else K ((k,o)::r)) else Mc ks fs qs r K
def fB (c:Ctx):List (Nat×OK)->Bool
 |[]=>true
 |(_,.sc k)::r=>bif kp c [k] then fB c r else false
 |(_,.ag ks)::r=>bif kp c ks then fB c r else false
 |(_,.box ks)::r=>bif kp c ks then fB c r else false
 |(_,.mp _)::r=>fB c r
 |(_,.pt _ _)::r=>fB c r
def SI {R:Type}(c:Ctx)(h:pv)(st:St)(K:St->St->Option R):Option R:=match st with
 |⟨p,q,r,m⟩=>
  bif !fB c h.all||meets (dZ h.all) p||meets (ct h.all) q||meets (dZ h.all) h.cI||meets (ct h.all) h.db then none else
  match app h.cI p,app h.db q with
  |some p',some q'=>
   pick h.cI r λrp=>nFr h.db rp λrp=>pick (dZ h.all) r λro=>
   Mc h.db h.fb q m λmp=>Mc (ct h.all) h.fb q m λmo=>
   (match app rp ro,app mp mo with
    |some r1,some m1=>K ⟨p',q',r1,m1⟩ ⟨p',q',rp,mp⟩
    |_,_=>none)
  |_,_=>none
def CL {R:Type}(c:Ctx)(h:pv)(st:St)(K:St->St->Option R):Option R:=SI c h st λcR ef=>HY (λt=>bJ h.cI t||bJ (dZ h.all) t) st.fr st.fr cR.fr λfr=>K ⟨cR.cI,cR.db,fr,cR.bo⟩ ef
def wg (st ef:St):St:=match st,ef with|⟨p,q,_,_⟩,⟨_,_,r,m⟩=>⟨p,q,r,m⟩
def guarded:List Oper->Bool
 |[]=>false
 |o::r=>match o.guard with|some _=>true|none=>guarded r
def s6:List Oper->List Nat
 |[]=>[]
 |o::r=>match o.op,o.dst with
  | .alloc _,some d=>d::s6 r
  | .box _ _,some d=>d::s6 r
  | .makeMap _ _,some d=>d::s6 r
  | .range _ _,some d=>d::s6 r
  |_,_=>s6 r
def Fb {R:Type}(ds:List Nat)(st:St)(K:St->Option R):Option R:=match st with|⟨p,q,r,m⟩=>wO ds r λr1=>HY (λt=>!bJ ds t) r r r1 λr=>K ⟨p,q,r,m⟩
def gZ:Code->Option Nat
 | .region id _ _=>some id
 | .seq a b=>match gZ a with|some n=>some n|none=>gZ b
 | .cond _ a b=>match gZ a with|some n=>some n|none=>gZ b
 | .block _ b| .loop b| .scope b=>gZ b
 |_=>none
def uni:List Nat->List Nat->List Nat
 |[],l=>l
 |k::r,l=>bif bJ l k then uni r l else k::uni r l
def lR:Code->List Nat
 | .skip| .region _ _ _=>[0]
 | .seq a b=>bif bJ (lR a) 0 then uni (minus (lR a) [0]) (lR b) else lR a
 | .cond _ a b=>uni (lR a) (lR b)
 | .block id b=>bif bJ (lR b) (id+2) then uni (minus (lR b) [0,id+2]) [0] else lR b
 | .loop b=>minus (lR b) [0]
 | .exit id=>[id+2]
 | .ret=>[1]
 |_=>[]
def ni (o:Oper):Bool:=match o.op with
 | .load _ _=>true
 | .lookup _ _ _ false=>true
 |_=>false
def mi (c:Ctx)(o:Oper):Bool:=ni o||(match o.op with
 | .convert y _ _=>isLT c y
 |_=>false)
def CM (o:Oper):Option Nat:=match o.op with
 | .lookup t _ _ false=>some t
 |_=>none
def Y4 (o:Oper):Option Nat:=match o.op with
 | .mapEntry t _ _=>some t
 |_=>none
def wQ (o p:Oper):Bool:=match CM o,Y4 p with
 |some t,some t'=>cV t t'
 |_,_=>false
def kE (o:Oper):Bool:=match o.op with
 | .move _| .assign _| .nilCheck _| .pick _ _ _| .build _ _| .load _ _| .binOp _ _ _ _ _| .unOp _ _ _| .convert _ _ _| .makeFunc _ _ _| .slice _ _ _ _ _| .fieldAddr _ _ _| .field _ _ _| .indexAddr _ _ _| .index _ _ _| .extract _ _| .lookup _ _ _ false=>true
 | .call cl=>(match cl.callee with| .builtin .len| .builtin .min| .builtin .max| .builtin .real| .builtin .imag| .builtin .complex=>true|_=>false)
 |_=>false
def DB (c:Ctx)(o:Oper):Bool:=match o.op with
 | .alloc _| .box _ _| .buildSlice _ _ _| .makeSlice _ _ _=>true
 | .call cl=>(match cl.callee with| .value (.func f)=>!c.fF (c.key f)| .value _=>(match c.dyn with|[]=>true|_::_=>false)|_=>false)
 |_=>false
def SJ:Op->List Operand
 | .build _ ps=>ps.toList.map (·.2)
 | .buildSlice _ _ ps=>ps.toList.map (·.2)
 | .makeFunc _ first captured=>first.toList++captured.toList
 | .slice _ x l h m=>x::(l.toList++(h.toList++m.toList))
 | .call c=>(match c.callee with| .value f=>[f]| .invoke r _=>[r]| .builtin _=>[])++c.args.toList
 |op=>op.operands.toList
def PW:List Operand->List Nat
 |[]=>[]
 | .tmp t::r=>t::PW r
 |_::r=>PW r
def NM (ops:List Oper)(o:Oper):List Nat:=PW (SJ o.op)++(match o.guard with|some (g,_)=>(match ops[g]? with|some p=>p.dst.toList|none=>[])|none=>[])
def H5 (ops:List Oper)(x y:Oper):Bool:=(match x.dst with|some d=>!bJ (NM ops y) d&&(match y.dst with|some d'=>!cV d' d|none=>true)|none=>true)&& (match y.dst with|some d=>!bJ (NM ops x) d|none=>true)
def CO (e:Edge):Bool:=match e.ground with
 | .textOnly _=>false
 | .gcOnly _=>false
 |_=>true
def xM (o:Oper)(p:Nat->Bool):Bool:=o.after.toList.any λe=>CO e&&p e.on
def akB (ops:List Oper):Bool:=ops.all λo=>match o.op with| .select _ _=>false|_=>true
def PX (c:Ctx)(o:Oper):Bool:=kE o||DB c o
def rN (c:Ctx)(ops:List Oper)(o:Oper):List Nat->List Nat->Bool
 |_,[]=>true
 |D,y::r=>match ops[y]? with
  |some p=>bif xM p (bJ D) then rN c ops o (y::D) r else H5 ops o p&&(!mi c o||PX c p||still c o||wQ o p)&&rN c ops o D r
  |none=>false
def DC (o:Oper):Bool:=match o.op,o.dst,o.guard with
 | .alloc _,some _,none=>o.after.toList.all λe=>!CO e
 |_,_,_=>false
def ag3 (c:Ctx)(o:Oper):Bool:=match o.op with
 | .alloc t=>(match c.tv t with|some _=>true|none=>false)
 |_=>false
def ag4 (ops:List Oper)(i:Nat):Bool:=match ops[i]? with
 |some o=>DC o
 |none=>false
def rO (c:Ctx)(ops:List Oper):List Nat->List Nat->Bool
 |_,[]=>true
 |pre,x::rest=>(match ops[x]? with
  |some o=>(o.after.toList.all λe=>!CO e||bJ pre e.on)&&!bJ pre x&&!bJ rest x&& (bif kE o&&!jC c o then rN c ops o [x] rest
    else (rest.all λy=>match ops[y]? with
     |some p=>bif DC p then H5 ops p o&&ag3 c p else xM p (λi=>cV i x||(bJ rest i&&!ag4 ops i))
     |none=>false))&&rO c ops (x::pre) rest
  |none=>false)
def ub (c:Ctx)(ops:Array Oper)(ord:List Nat):Bool:=akB ops.toList&&cV ord.length ops.toList.length&&(List.range ops.toList.length).all (bJ ord)&&rO c ops.toList [] ord
def HJ {R:Type}(c:Ctx)(id:Nat)(ops l:List Oper)(st:St)(K:St->Option R):Option R:=bif guarded ops then
  CL c (c.zp id) st λcR ef=>bd (Fb (s6 ops) cR λcR=>CJ c ops l cR λst=>mE st [] ((c.zp id).ex 0) some) λvs=>nF (wg st ef) ((c.zp id).ex 0) vs K
 else Fb (s6 ops) st λst=>CJ c ops l st K
def rh (ops:List Oper):List Nat->Option (List Oper)
 |[]=>some []
 |i::r=>match ops[i]?,rh ops r with
  |some o,some l=>some (o::l)
  |_,_=>none
def akC {S:Type}(step:S->MV->Option (Bool×S)):S->List MV->Option (List MV×S)
 |s,[]=>some ([],s)
 |s,x::xs=>match step s x with
  |some (b,s1)=>(match akC step s1 xs with|some (ys,s2)=>some (bif b then ys else x::ys,s2)|none=>none)
  |none=>none
def Wg:MV->Bool
 | .agg _=>true
 |_=>false
def Y5 {R:Type}(c:Ctx)(id:Nat)(ops:List Oper)(st:St)(K:St->Option R):Option R:=HJ c id ops ops st K
def fzK {R:Type}(c:Ctx)(ts:List Nat)(st:St)(K:St->Option R):Option R:=match ts with
 |[]=>K st
 |ts=>HZ c st (ts.map .tmp) λ_ st=>K st
def Lh (ops:Array Oper)(A B:Nat):Array Oper:=ops.modify B λo=>{o with after:=o.after.push ⟨A,.data⟩}
open Classical in
def both {R:Type}(x y:Option R):Option R:=if x=y then x else none
def Y6 (n:Nat)(l:List Nat):Option (List Nat×List Nat×Nat×Nat):=match l.drop (l.length-3) with
 |[m,A,B]=>bif cV A B||(acN n A||acN n B) then none else some (l.take m,(l.drop m).take (l.length-3-m),A,B)
 |_=>none
def Y7 {R:Type}(c:Ctx)(ops:Array Oper)(l:List Nat)(st:St)(K:St->Option R):Option R:=bif ub c ops l then (match rh ops.toList l with
 |some l=>CJ c ops.toList l st K
 |none=>none) else none
def H6 {R:Type}(c:Ctx)(st:St)(K:St->Option R):Nat->Array Oper->List Nat->Option R
 |0,_,_=>none
 |k+1,ops,l=>bif cV l.length ops.toList.length then Y7 c ops l st K else (match Y6 ops.toList.length l with
  |some (o1,o2,A,B)=>both (H6 c st K k (Lh ops A B) o1) (H6 c st K k (Lh ops B A) o2)
  |none=>none)
def akD {R:Type}(c:Ctx)(id:Nat)(ops:Array Oper)(ord:List Nat)(st:St)(K:St->Option R):Option R:=bif guarded ops.toList then
  CL c (c.zp id) st λcR ef=>bd (Fb (s6 ops.toList) cR λcR=>H6 c cR (λst=>mE st [] ((c.zp id).ex 0) some) ord.length ops ord) λvs=>nF (wg st ef) ((c.zp id).ex 0) vs K
 else Fb (s6 ops.toList) st λst=>H6 c st K ord.length ops ord
def U0 {R:Type}(c:Ctx)(id:Nat)(ops:Array Oper)(draw:Bool)(st:St)(K:St->Option R):Option R:=fzK c (c.fz id) st λst=>bif draw then (bif !cV (c.ord id).length ops.toList.length then akD c id ops (c.ord id) st K else bif ub c ops (c.ord id) then (match rh ops.toList (c.ord id) with|some l=>HJ c id ops.toList l st K|none=>none) else none)
 else Y5 c id ops.toList st K
def lr (c:Ctx):Code->(R:Type)->St->(Nat->St->Option R)->Option R
 | .skip,_,st,K=>K 0 st
 | .region id ops d,_,st,K=>U0 c id ops d st λst=>K 0 st
 | .seq a b,R,st,K=>lr c a R st λe st=>bif cV e 0 then lr c b R st K else K e st
 | .cond x a b,R,st,K=>(match aT c st x with
  | .sc (.p (.b v))=>
   bif bJ (lR a) 0&&bJ (lR b) 0 then
    CL c (c.Bk ((gZ (.seq a b)).getD 0)) st λcR ef=>
    bd (bH v (lr c a (Nat×List MV) cR λe st=>mE st [] ((c.Bk ((gZ (.seq a b)).getD 0)).ex e) λvs=>some (e,vs)) (lr c b (Nat×List MV) cR λe st=>mE st [] ((c.Bk ((gZ (.seq a b)).getD 0)).ex e) λvs=>some (e,vs))) λr=>exs (uni (lR a) (lR b)) r.1 λe=>nF (wg st ef) ((c.Bk ((gZ (.seq a b)).getD 0)).ex e) r.2 λst=>K e st
   else bH v (lr c a R st K) (lr c b R st K)
  |_=>none)
 | .block id b,R,st,K=>lr c b R st λe st=>bif cV e (id+2) then K 0 st else K e st
 | .loop b,_,st,K=>
  CL c (c.wM ((gZ b).getD 0)) st λcR ef=>mE cR [] (c.wM ((gZ b).getD 0)).outs λvs=>
   bd (Loop (λms=>nF ef (c.wM ((gZ b).getD 0)).outs ms λst=>lr c b (Sum (List MV) (Nat×List MV)) st λe st=>
    bif cV e 0 then mE st [] (c.wM ((gZ b).getD 0)).outs λvs=>some (.inl vs) else mE st [] ((c.wM ((gZ b).getD 0)).ex e) λvs=>some (.inr (e,vs))) vs)
    λr=>exs (minus (lR b) [0]) r.1 λe=>nF (wg st ef) ((c.wM ((gZ b).getD 0)).ex e) r.2 λst=>K e st
 | .exit id,_,st,K=>K (id+2) st
 | .ret,_,st,K=>K 1 st
 |_,_,_,_=>none
def H7 {R:Type}(c:Ctx):List Nat->Nat->List MV->(Fr->List MV->Option R)->Option R
 |[],_,ms,K=>K [] ms
 |t::ts,n,ms,K=>match c.tv t with
  |some I=>gC ms λm r=>zW I m λs=>H7 c ts (n+1) r λfr ms=>K ((n,s)::fr) ms
  |none=>none
def SK {R:Type}:List (List Kd)->Nat->List MV->(Fr->Option R)->Option R
 |[],_,ms,K=>gN ms (K [])
 |ks::r,n,ms,K=>gC ms λm ms=>gP m λcs=>vf ks cs λcs=>SK r (n+1) ms λfr=>K ((n,.zQ cs)::fr)
def PY {R:Type}(c:Ctx)(st:St):List ResultVar->(List MV->Option R)->Option R
 |[],K=>K []
 |r::rs,K=>
  let go (s:Slot):Option R:=match s with
   | .sc (.p m)=>PY c st rs λms=>K (m::ms)
   |_=>none
  match r with
  | .tmp t=>go (av st.fr t)
  | .cell a t=>match c.tv t,av st.fr a with
   |some I,.box cs=>bif iW cs||y8 a then none else mD I cs 0 λs=>go s
   |_,_=>none
def SL {R:Type}(c:Ctx)(st:St)(fresh:Option Nat):List ResultVar->(List MV->Option R)->Option R
 |[],K=>K []
 |r::rs,K=>
  let go (s:Slot):Option R:=match fresh with
   |some ty=>(match s with
    | .sc (.own f)=>(match aQ st.bo f with|some o=>bif o.fb||!cV o.ty ty then none else PY c st rs λms=>K (.fresh o.xs::ms)|none=>none)
    | .sc .nil=>PY c st rs λms=>K (.fresh []::ms)
    |_=>none)
   |none=>nJ st s λm st=>SL c st fresh rs λms=>K (m::ms)
  match r with
  | .tmp t=>go (av st.fr t)
  | .cell a t=>match c.tv t,av st.fr a with
   |some I,.box cs=>bif iW cs||y8 a then none else mD I cs 0 λs=>go s
   |_,_=>none
def Wh {R:Type}(c:Ctx)(st:St):List ResultVar->(List MV->St->Option R)->Option R
 |[],K=>K [] st
 |r::rs,K=>(match r with
  | .tmp t=>nJ st (av st.fr t) λm st=>Wh c st rs λms st=>K (m::ms) st
  | .cell a t=>(match c.tv t,av st.fr a with
   |some I,.box cs=>bif iW cs||y8 a then none else mD I cs 0 λs=>nJ st s λm st=>Wh c st rs λms st=>K (m::ms) st
   |_,_=>none))
def akE:List MV->MV
 |[m]=>m
 |ms=> .eu ms
def zZ (c:Ctx)(dJ:List (List Kd))(pos:Nat)(ks:List LK)(f:Func)(args:List MV):Option MV:=match f.body,args[pos]? with
 |some b,some (.cell (.func off ls))=>bif !kp c ks||!acN pos 999 then none else
  H7 c f.params.toList 0 (args.set pos (.rp [])) λfr ms=>SK dJ f.params.size ms λqJ=>
   (match app fr qJ with
   |some fr=>dh ⟨[],[],[],[]⟩ ks ls λcs rest H4=>gN rest<| lr c b MV ⟨[pos],[],(1000000+off *1000+pos,.box cs)::fr,H4.bo⟩ λe st=>
     bif acN e 1 then Wh c st f.results.toList λms st=>(match av st.fr (1000000+off *1000+pos) with
      | .box cs=>bif iW cs then none else ma st [] ks cs λouts _=>some (.ew (akE ms) outs)
      |_=>none) else none
   |none=>none)
 |_,_=>none
def U1 (X:Code->St->(Nat->St->Option MV)->Option MV)(c:Ctx)(dJ:List (List Kd))(fresh:Option Nat)(f:Func)(args:List MV):Option MV:=match f.body with
 |some b=>H7 c f.params.toList 0 args λfr ms=>SK dJ f.params.size ms λqJ=>
  match app fr qJ with
  |some fr=>X b ⟨[],[],fr,[]⟩ λe st=>bif acN e 1 then SL c st fresh f.results.toList λms=>(match ms with|[m]=>some m|ms=>some (.eu ms)) else none
  |none=>none
 |none=>none
def Md (c:Ctx)(dJ:List (List Kd))(fresh:Option Nat)(f:Func)(args:List MV):Option MV:=U1 (λb st K=>lr c b MV st K) c dJ fresh f args
end
end Dn
/-
  What abstract values and slots say of Go's memory. Conditions: none.
-/
namespace Dn
open Go
theorem iD (w:World)(o:Obj):(w.alloc o).heap[w.heap.size]? =some o:=by show (w.heap.push o)[w.heap.size]? =some o;simp
theorem s7 (w:World)(o:Obj)(i:Nat)(h:i<w.heap.size):(w.alloc o).heap[i]? =w.heap[i]? :=by show (w.heap.push o)[i]? =w.heap[i]?;rw [Array.getElem?_push,if_neg (Nat.ne_of_lt h)]
def MV.one:MV->Bool
 | .h _| .agg _| .eu _| .fresh _| .cell _| .ew _ _=>false
 |_=>true
abbrev Ph:=Nat->Nat->Option Value
section
variable (key:Nat->Nat) (φ:Ph)
mutual
inductive jz:List Value->MV->Prop
 |b (x:Bool):jz [.bool x] (.b x)
 |i (k:IntKind) (n:Int):jz [.int k n] (.i k n)
 |s (bs:ByteArray):jz [.string bs] (.s bs.data.toList)
 |h (x:pk):jz (x.l.map λb=> .int .u8 (b.toNat:Int)) (.h x)
 |raw (v:Value):v.oneCell'=true->jz [v] (.raw v)
 |list (a:Option Addr) (cap:Nat) (xs:List MV) (bt off Ds:Nat) (f:Nat->List Value): xs.length<=cap->(0<xs.length->a=some ⟨bt,off,none⟩)->(∀i,i<xs.length->(f i).length=Ds)-> (∀i j,i<xs.length->j<Ds->φ bt (off+i *Ds+j)=(f i)[j]?)-> (∀(i:Nat) (h:i<xs.length),jz (f i) xs[i])->jz [.slice a xs.length cap] (.list xs)
 |agg (vs:List Value) (ms:List MV):jd vs ms->jz vs (.agg ms)
 |func (f k:Nat) (cap:Array Value) (ms:List MV):key f=k->jd cap.toList ms->(∀m∈ms,m.one=true)->jz [.func (.func f) #[] cap] (.func k ms)
 |rp (bt off:Nat) (vs:List Value) (ms:List MV):jd vs ms->(∀j,j<vs.length->φ bt (off+j)=vs[j]?)->jz [.pointer (some ⟨bt,off,none⟩)] (.rp ms)
 |clip (a:Option Addr) (xs:List MV):jz [.slice a xs.length xs.length] (.list xs)->jz [.slice a xs.length xs.length] (.clip xs)
inductive jd:List Value->List MV->Prop
 |nil:jd [] []
 |cons (v:List Value) (m:MV) (vs:List Value) (ms:List MV):jz v m->jd vs ms->jd (v++vs) (m::ms)
end
end
def lS (φ φ':Ph):Prop:= ∀b o v,φ b o=some v->φ' b o=some v
theorem lS.refl (φ:Ph):lS φ φ:=λ_ _ _ h=>h
theorem lS.Bn {φ φ':Ph}(h:lS φ φ'){b j:Nat}{cs:List Value}(e:φ b j=cs[j]?)(hj:j<cs.length):φ' b j=cs[j]? :=by rw [OF hj] at e⊢;exact h _ _ _ e
theorem lS.trans {φ φ' φ'':Ph}(h:lS φ φ') (h':lS φ' φ''):lS φ φ'':=λb o v e=>h' b o v (h b o v e)
section
variable {key:Nat->Nat} {φ φ':Ph}(hle:lS φ φ')
include hle
theorem NN {b o:Nat}{vs:List Value}{j:Nat}(hj:j<vs.length)(h:φ b o=vs[j]?):φ' b o=vs[j]? :=by rw [OF hj] at h⊢;exact hle _ _ _ h
mutual
theorem jz.mono {vs:List Value}{m:MV}:jz key φ vs m->jz key φ' vs m
 | .b x=> .b x
 | .i k n=> .i k n
 | .s bs=> .s bs
 | .h x=> .h x
 | .raw v h=> .raw v h
 | .list a cap xs bt off Ds f h1 h2 h3 h4 h5=> .list a cap xs bt off Ds f h1 h2 h3 (λi j hi hj=>NN hle (by rw [h3 i hi];exact hj) (h4 i j hi hj)) (λi hi=>(h5 i hi).mono)
 | .agg vs ms h=> .agg vs ms h.mono
 | .func f k cap ms h1 h2 h3=> .func f k cap ms h1 h2.mono h3
 | .rp bt off vs ms h1 h2=> .rp bt off vs ms h1.mono (λj hj=>NN hle hj (h2 j hj))
 | .clip a xs h=> .clip a xs h.mono
theorem jd.mono {vs:List Value}{ms:List MV}:jd key φ vs ms->jd key φ' vs ms
 | .nil=> .nil
 | .cons v m vs ms h1 h2=> .cons v m vs ms h1.mono h2.mono
end
end
section
variable {key:Nat->Nat} {φ:Ph}
mutual
theorem jz.cells {vs:List Value}{m:MV}:jz key φ vs m-> ∀v∈vs,v.oneCell'=true
 | .b x=>by simp [aaK]
 | .i k n=>by simp [aaK]
 | .s bs=>by simp [aaK]
 | .h x=>by intro v hv;obtain ⟨b,_,rfl⟩:=adM.1 hv;rfl
 | .raw v h=>by simpa using h
 | .list .. =>by simp [aaK]
 | .agg vs ms h=>h.cells
 | .func .. =>by simp [aaK]
 | .rp .. =>by simp [aaK]
 | .clip .. =>by simp [aaK]
theorem jd.cells {vs:List Value}{ms:List MV}:jd key φ vs ms-> ∀v∈vs,v.oneCell'=true
 | .nil=>by simp
 | .cons v m vs ms h1 h2=>by
  intro x hx;rcases aef.1 hx with hx|hx
  ·exact h1.cells x hx
  ·exact h2.cells x hx
end
end
section
variable {key:Nat->Nat} {φ:Ph}
mutual
theorem jz.width {vs:List Value}{m:MV}:jz key φ vs m->vs.length=m.w
 | .b x=>by simp [MV.w]
 | .i k n=>by simp [MV.w]
 | .s bs=>by simp [MV.w]
 | .h x=>by simp [MV.w,x.h]
 | .raw v h=>by simp [MV.w]
 | .list .. =>by simp [MV.w]
 | .agg vs ms h=>by rw [h.width];simp [MV.w]
 | .func .. =>by simp [MV.w]
 | .rp .. =>by simp [MV.w]
 | .clip .. =>by simp [MV.w]
theorem jd.width {vs:List Value}{ms:List MV}:jd key φ vs ms->vs.length=MV.wl ms
 | .nil=>by simp [MV.wl]
 | .cons v m vs ms h1 h2=>by simp [MV.wl,h1.width,h2.width]
end
end
theorem jz.one {key:Nat->Nat} {φ:Ph}{vs:List Value}{m:MV}(h:jz key φ vs m)(hm:m.one=true): ∃v,vs=[v]/\v.oneCell'=true:=by have hc:=h.cells;cases h<;>simp [MV.one] at hm<;>exact ⟨_,rfl,hc _ (by simp)⟩
def fZ (key:Nat->Nat) (φ:Ph)(v:Value):MV->Prop
 | .h x=>v= .agg (x.l.map λb=>afR .u8 (b.toNat:Int)).toArray
 | .agg ms=> ∃arr,v= .agg arr/\jd key φ arr.toList ms
 |m=>m.one=true/\jz key φ [v] m
theorem fZ.mono {key:Nat->Nat} {φ φ':Ph}(hle:lS φ φ'){v:Value}{m:MV}(h:fZ key φ v m):fZ key φ' v m:=by cases m<;>simp only [fZ] at h⊢ <;>first|exact h|exact ⟨h.1,h.2.mono hle⟩|(obtain ⟨arr,h1,h2⟩:=h;exact ⟨arr,h1,h2.mono hle⟩)
structure Env where
 key:Nat->Nat
 φ:Ph
 E:Nat->Value
 B:Nat->Nat
 m:List (Nat×pn)
def cc (x:pk):List Value:=x.l.map λb=>afR .u8 (b.toNat:Int)
theorem gX (x:pk):(cc x).length=32:=by simp [cc,x.h]
def aX (e:Env)(vs:List Value):aE->Prop
 | .un=> ∃v,vs=[v]/\v.oneCell'=true
 | .p x=>x.one=true/\jz e.key e.φ vs x
 | .hs x=>vs=cc x
 | .nil=>vs=[.slice none 0 0]
 | .mp _ _=>False
 | .own f=> ∃v,vs=[v]/\v.oneCell'=true/\(∀o,aQ e.m f=some o->v=e.E f)
def ay (e:Env):List Value->List aE->Prop
 |vs,[]=>vs=[]
 |vs,l::ls=> ∃v r,vs=v++r/\aX e v l/\ay e r ls
def uc:aE->Bool
 | .p _| .hs _=>true
 |_=>false
def jr:List aE->Bool
 |[]=>true
 |l::r=>uc l&&jr r
def H8 (st:Bool)(x:MV)(cs:List aE):Prop:=(∃ms,bS cs=some ms/\wc st ms=some x)/\ ∀m,aE.p m∈cs->m.one=true
def Cd:Slot->Bool
 | .sc l=>uc l
 | .ag cs=>jr cs
 |_=>false
mutual
def ah (e:Env)(v:Value):Slot->Prop
 | .skip=>v=undef
 | .sc l=>match l with
  | .un=>True
  | .hs x=>v= .agg (cc x).toArray
  |l=>aX e [v] l
 | .ag cs=> ∃arr,v= .agg arr/\ay e arr.toList cs
 | .tg cs=> ∃arr,v= .tuple arr/\ay e arr.toList cs
 | .eu vs=> ∃arr,v= .tuple arr/\lu e arr.toList vs
 | .box _=>False
 | .zQ cs=> ∃bt o vs,v= .pointer (some ⟨bt,o,none⟩)/\ay e vs cs/\jr cs=true/\(∀j,j<vs.length->e.φ bt (o+j)=vs[j]?)
 | .ptr r o=>v= .pointer (some ⟨e.B r,o,none⟩)
 | .zT r=>v= .map (some (e.B r))
 | .rp cs off=> ∃bt o vs,v= .pointer (some ⟨bt,o+off,none⟩)/\ay e vs cs/\jr cs=true/\(∀j,j<vs.length->e.φ bt (o+j)=vs[j]?)
 | .hp r o i=>v= .pointer (some ⟨e.B r,o+i,none⟩)/\i<32
 | .ep f i off st cs=> ∀o,aQ e.m f=some o-> ∃bt cap,e.E f= .slice (some ⟨bt,0,none⟩) o.xs.length cap/\(∃x,o.xs[i]? =some x/\H8 st x cs)/\ v= .pointer (some ⟨bt,i *zU cs+off,none⟩)
def lu (e:Env):List Value->List Slot->Prop
 |vs,[]=>vs=[]
 |vs,s::ss=> ∃v r,vs=v::r/\ah e v s/\Cd s=true/\lu e r ss
end
def Y8:aE->List Value->Bool
 | .p (.b x),[.bool y]=>x==y
 | .p (.i k n),[.int k' n']=>decide (k=k')&&decide (n=n')
 | .p (.s l),[.string s]=>decide (l=s.data.toList)
 | .p (.raw v),[w]=>match v,w with
  | .nilFunc,.nilFunc=>true
  | .nilIface,.nilIface=>true
  | .pointer none,.pointer none=>true
  |_,_=>false
 | .nil,[.slice none 0 0]=>true
 | .un,[v]=>v.oneCell'
 | .hs x,vs=>(vs.length==32)&&(vs.zip x.l).all λp=>match p.1 with| .int .u8 n=>decide (n=(p.2.toNat:Int))|_=>false
 |_,_=>false
def vi:List aE->List Value->Bool
 |[],vs=>vs.isEmpty
 |l::ls,vs=>Y8 l (vs.take l.w)&&vi ls (vs.drop l.w)&&decide (l.w<=vs.length)
end Dn
/-
  How an abstract state stands to a frame and a memory; laws of frames and leaves. Conditions: none.
-/
namespace Dn
open Go
def dt:Fr->Nat->Slot->Fr
 |[],t,v=>[(t,v)]
 |(k,s)::r,t,v=>bif cV k t then (k,v)::r else (k,s)::dt r t v
def oZ (ds:List Nat):Fr->Fr
 |[]=>[]
 |(k,s)::r=>bif dW s||bJ ds k then oZ ds r else (k,s)::oZ ds r
def pw (ks:List Nat):Fr->Fr
 |[]=>[]
 |(k,s)::r=>bif bJ ks k&&!dW s then (k,s)::pw ks r else pw ks r
def cb:List (Nat×pn)->Nat->pn->List (Nat×pn)
 |[],t,v=>[(t,v)]
 |(k,s)::r,t,v=>bif cV k t then (k,v)::r else (k,s)::cb r t v
def NO (f:Nat):aE->aE
 | .own g=>bif cV g f then .un else .own g
 |l=>l
def Bo (f:Nat):Slot->Slot
 | .sc l=> .sc (NO f l)
 | .ag cs=> .ag (cs.map (NO f))
 | .tg cs=> .tg (cs.map (NO f))
 | .box cs=> .box (cs.map (NO f))
 | .ep g i o b cs=>bif cV g f then .sc .un else .ep g i o b cs
 |s=>s
def mj (f:Nat)(r:Fr):Fr:=r.map λp=>(p.1,Bo f p.2)
def z6 (f:Nat)(r:Fr):Fr:=r.map λp=>(p.1,match p.2 with
 | .ep g i o b cs=>bif cV g f then .sc .un else .ep g i o b cs
 |s=>s)
def So (ps:List Nat):aE->aE
 | .own g=>bif bJ ps g then .own g else .un
 |l=>l
def HK (ps:List Nat):Slot->Slot
 | .sc l=> .sc (So ps l)
 | .ag cs=> .ag (cs.map (So ps))
 | .tg cs=> .tg (cs.map (So ps))
 | .box cs=> .box (cs.map (So ps))
 |s=>s
def SM (ps:List Nat)(r:Fr):Fr:=r.map λp=>(p.1,HK ps p.2)
def ud (ks fs qs:List Nat):List (Nat×pn)->List (Nat×pn)
 |[]=>[]
 |(k,o)::r=>bif bJ ks k then (bif bJ fs k&&!bJ qs k then (k,⟨o.ty,true,o.xs⟩) else (k,o))::ud ks fs qs r else ud ks fs qs r
section
variable {R:Type}
theorem force_eq (s:Slot)(K:Slot->Option R):force s K=K s:=by cases s<;>rfl
theorem rj (r:Fr)(t:Nat)(s:Slot)(K:Fr->Option R):Lf r t s K=K (dt r t s):=by
 induction r generalizing K with
 |nil=>rfl
 |cons p r ih=>obtain ⟨k,x⟩:=p;simp only [Lf,dt];cases cV k t<;>simp [ih]
theorem Ge (ds:List Nat)(r:Fr)(K:Fr->Option R):wO ds r K=K (oZ ds r):=by
 induction r generalizing K with
 |nil=>rfl
 |cons p r ih=>obtain ⟨k,x⟩:=p;simp only [wO,oZ];cases dW x||bJ ds k<;>simp [ih]
theorem adk (ks:List Nat)(r:Fr)(K:Fr->Option R):pick ks r K=K (pw ks r):=by
 induction r generalizing K with
 |nil=>rfl
 |cons p r ih=>obtain ⟨k,x⟩:=p;simp only [pick,pw];cases bJ ks k&&!dW x<;>simp [ih]
theorem pz (r:List (Nat×pn))(t:Nat)(s:pn)(K:List (Nat×pn)->Option R):PO r t s K=K (cb r t s):=by
 induction r generalizing K with
 |nil=>rfl
 |cons p r ih=>obtain ⟨k,x⟩:=p;simp only [PO,cb];cases cV k t<;>simp [ih]
theorem CP (f:Nat)(cs:List aE)(K:List aE->Option R):vg f cs K=K (cs.map (NO f)):=by
 induction cs generalizing K with
 |nil=>rfl
 |cons l r ih=>cases l<;>simp only [vg,aaJ,NO,ih];rename_i g;cases cV g f<;>rfl
theorem Y9 (f:Nat)(s:Slot)(K:Slot->Option R):HX f s K=K (Bo f s):=by
 cases s with
 |sc l=>cases l<;>simp only [HX,Bo,NO];rename_i g;cases cV g f<;>rfl
 |ag cs=>simp only [HX,Bo,CP]
 |tg cs=>simp only [HX,Bo,CP]
 |box cs=>simp only [HX,Bo,CP]
 |ep g i o b cs=>simp only [HX,Bo];cases cV g f<;>rfl
 |_=>rfl
theorem Za (f:Nat)(r:Fr)(K:Fr->Option R):kFr f r K=K (mj f r):=by
 induction r generalizing K with
 |nil=>rfl
 |cons p r ih=>obtain ⟨k,x⟩:=p;simp only [kFr,Y9,ih,mj,aaJ]
theorem ag5 (f:Nat)(r:Fr)(K:Fr->Option R):kEp f r K=K (z6 f r):=by
 induction r generalizing K with
 |nil=>rfl
 |cons p r ih=>obtain ⟨k,x⟩:=p;cases x<;>simp only [kEp,ih,z6,aaJ];rename_i g i o b cs;cases cV g f<;>rfl
theorem CQ (f:List Nat)(cs:List aE)(K:List aE->Option R):vh f cs K=K (cs.map (So f)):=by
 induction cs generalizing K with
 |nil=>rfl
 |cons l r ih=>cases l<;>simp only [vh,aaJ,So,ih];rename_i g;cases bJ f g<;>rfl
theorem Zd (f:List Nat)(s:Slot)(K:Slot->Option R):Mb f s K=K (HK f s):=by
 cases s with
 |sc l=>cases l<;>simp only [Mb,HK,So];rename_i g;cases bJ f g<;>rfl
 |ag cs=>simp only [Mb,HK,CQ]
 |tg cs=>simp only [Mb,HK,CQ]
 |box cs=>simp only [Mb,HK,CQ]
 |_=>rfl
theorem ag6 (f:List Nat)(r:Fr)(K:Fr->Option R):nFr f r K=K (SM f r):=by
 induction r generalizing K with
 |nil=>rfl
 |cons p r ih=>obtain ⟨k,x⟩:=p;simp only [nFr,Zd,ih,SM,aaJ]
theorem Ze (ks fs qs:List Nat)(r:List (Nat×pn))(K:List (Nat×pn)->Option R):Mc ks fs qs r K=K (ud ks fs qs r):=by
 induction r generalizing K with
 |nil=>rfl
 |cons p r ih=>
  obtain ⟨k,x⟩:=p;simp only [Mc,ud];cases bJ ks k
  ·simp [ih]
  ·simp only [cond_true,ih];cases bJ fs k&&!bJ qs k<;>rfl
theorem z7 {α:Type}(x y:List α):app x y=some (x++y):=by
 induction x with
 |nil=>rfl
 |cons a r ih=>simp [app,ih]
end
theorem eO (a b:Nat):cV a b=decide (a=b):=by
 by_cases h:a=b
 ·subst h;simp
 ·simp only [h,decide_false];exact Bool.eq_false_iff.2 (λe=>h (sh e))
theorem bL (l:List Nat)(t:Nat):bJ l t=true↔t∈l:=by
 induction l with
 |nil=>simp [bJ]
 |cons k r ih=>
  simp only [bJ,eO,acv];by_cases h:k=t
  ·simp [h]
  ·simp only [h,decide_false,cond_false,ih];exact ⟨.inr,λh'=>h'.resolve_left (λe=>h e.symm)⟩
theorem cj (r:Fr)(d t:Nat)(s:Slot):av (dt r d s) t=if t=d then s else av r t:=by
 induction r with
 |nil=>simp only [dt,av,eO];by_cases h:t=d<;>simp [h,Ne.symm]<;>(intro e;exact absurd e.symm h)
 |cons p r ih=>
  obtain ⟨k,x⟩:=p;simp only [dt,eO];by_cases hk:k=d
  ·subst hk;simp only [decide_true,cond_true,av,eO];by_cases h:k=t
   ·simp [h]
   ·have h': ¬t=k:=λe=>h e.symm;simp [h,h']
  ·simp only [hk,decide_false,cond_false,av,eO,ih];by_cases h:k=t
   ·subst h;simp [hk]
   ·simp [h]
theorem bx (r:List (Nat×pn))(d t:Nat)(s:pn):aQ (cb r d s) t=if t=d then some s else aQ r t:=by
 induction r with
 |nil=>simp only [cb,aQ,eO];by_cases h:t=d<;>simp [h,Ne.symm]<;>(intro e;exact absurd e.symm h)
 |cons p r ih=>
  obtain ⟨k,x⟩:=p;simp only [cb,eO];by_cases hk:k=d
  ·subst hk;simp only [decide_true,cond_true,aQ,eO];by_cases h:k=t
   ·simp [h]
   ·have h': ¬t=k:=λe=>h e.symm;simp [h,h']
  ·simp only [hk,decide_false,cond_false,aQ,eO,ih];by_cases h:k=t
   ·subst h;simp [hk]
   ·simp [h]
theorem H9 (g:Slot->Slot)(hg:g (.sc .un)= .sc .un)(r:Fr)(t:Nat):av (r.map λp=>(p.1,g p.2)) t=g (av r t):=by
 induction r with
 |nil=>simp [av,hg]
 |cons p r ih=>obtain ⟨k,x⟩:=p;simp only [aaJ,av,eO];by_cases h:k=t<;>simp [h,ih]
theorem iX (f:Nat)(r:Fr)(t:Nat):av (mj f r) t=Bo f (av r t):=H9 (Bo f) rfl r t
theorem Mf (f:List Nat)(r:Fr)(t:Nat):av (SM f r) t=HK f (av r t):=H9 (HK f) rfl r t
def aU (r:Fr):List Nat:=r.map Prod.fst
theorem tE (r:Fr)(t:Nat)(h:t∉aU r):av r t= .sc .un:=by
 induction r with
 |nil=>rfl
 |cons p r ih=>obtain ⟨k,x⟩:=p;simp only [aU,aaJ,acv,not_or] at h;have h': ¬k=t:=λe=>h.1 e.symm;simp only [av,eO,h',decide_false,cond_false];exact ih h.2
theorem DD (ds:List Nat)(r:Fr):List.Sublist (aU (oZ ds r)) (aU r):=by
 induction r with
 |nil=>simp [aU,oZ]
 |cons p r ih=>
  obtain ⟨k,x⟩:=p;simp only [oZ];cases dW x||bJ ds k
  ·simpa [aU] using ih
  ·exact (List.Sublist.cons _ ih)
theorem xN (ds:List Nat)(r:Fr):List.Sublist (aU (pw ds r)) (aU r):=by
 induction r with
 |nil=>simp [aU,pw]
 |cons p r ih=>
  obtain ⟨k,x⟩:=p;simp only [pw];cases bJ ds k&&!dW x
  ·exact (List.Sublist.cons _ ih)
  ·simpa [aU] using ih
theorem Ia (ds:List Nat)(r:Fr)(hn:(aU r).Nodup)(t:Nat):av (oZ ds r) t=if dW (av r t)||bJ ds t then .sc .un else av r t:=by
 induction r with
 |nil=>simp [av,oZ]
 |cons p r ih=>
  obtain ⟨k,x⟩:=p;simp only [aU,aaJ,afZ] at hn;have ih:=ih hn.2;simp only [oZ];by_cases hk:k=t
  ·subst hk;cases hb:dW x||bJ ds k
   ·simp [av,eO,hb]
   ·simp only [cond_true,av,eO,decide_true,hb,if_true];refine tE _ _ (λhm=>hn.1 ((DD ds r).subset hm))
  ·cases hb:dW x||bJ ds k
   ·simp [av,eO,hk,ih]
   ·simp [av,eO,hk,ih]
theorem CR (ds:List Nat)(r:Fr)(hn:(aU r).Nodup)(t:Nat):av (pw ds r) t=if bJ ds t&&!dW (av r t) then av r t else .sc .un:=by
 induction r with
 |nil=>simp [av,pw]
 |cons p r ih=>
  obtain ⟨k,x⟩:=p;simp only [aU,aaJ,afZ] at hn;have ih:=ih hn.2;simp only [pw];by_cases hk:k=t
  ·subst hk;cases hb:bJ ds k&&!dW x
   ·simp only [cond_false,av,eO,decide_true,cond_true,hb];exact tE _ _ (λhm=>hn.1 ((xN ds r).subset hm))
   ·simp [av,eO,hb]
  ·cases hb:bJ ds k&&!dW x<;>simp [av,eO,hk,ih]
theorem z8 (r s:Fr)(t:Nat):av (r++s) t=if t∈aU r then av r t else av s t:=by
 induction r with
 |nil=>simp [aU]
 |cons p r ih=>
  obtain ⟨k,x⟩:=p;simp only [List.cons_append,av,eO,aU,aaJ,acv];by_cases h:k=t
  ·simp [h]
  ·have h': ¬t=k:=λe=>h e.symm;simp only [h,h',decide_false,cond_false,ih,false_or];rfl
end Dn
/-
  Laws of leaves and slots: offsets, and what changes elsewhere. Conditions: none.
-/
namespace Dn
open Go
section
variable {e e':Env}
theorem aX.width {vs:List Value}{l:aE}(h:aX e vs l):vs.length=l.w:=by
 cases l with
 |un=>obtain ⟨v,rfl,_⟩:=h;rfl
 |p m=>obtain ⟨v,rfl,_⟩:=h.2.one h.1;rfl
 |hs x=>cases h;simp [cc,x.h,aE.w]
 |nil=>cases h;rfl
 |mp s es=>exact h.elim
 |own f=>obtain ⟨v,rfl,_⟩:=h;rfl
theorem aX.cells {vs:List Value}{l:aE}(h:aX e vs l): ∀v∈vs,v.oneCell'=true:=by
 cases l with
 |un=>obtain ⟨v,rfl,hv⟩:=h;simpa using hv
 |p m=>exact h.2.cells
 |hs x=>cases h;intro v hv;obtain ⟨b,_,rfl⟩:=adM.1 hv;rfl
 |nil=>cases h;simp [aaK]
 |mp s es=>exact h.elim
 |own f=>obtain ⟨v,rfl,hv,_⟩:=h;simpa using hv
theorem ay.width {cs:List aE}: ∀{vs:List Value},ay e vs cs->vs.length=zU cs:=by
 induction cs with
 |nil=>intro vs h;cases h;rfl
 |cons l r ih=>intro vs h;obtain ⟨v,w,rfl,h1,h2⟩:=h;simp [zU,h1.width,ih h2]
theorem ay.cells {cs:List aE}: ∀{vs:List Value},ay e vs cs-> ∀v∈vs,v.oneCell'=true:=by
 induction cs with
 |nil=>intro vs h;cases h;simp
 |cons l r ih=>
  intro vs h v hv;obtain ⟨a,w,rfl,h1,h2⟩:=h;rcases aef.1 hv with hv|hv
  ·exact h1.cells v hv
  ·exact ih h2 v hv
theorem ay.append {cs ds:List aE}: ∀{vs ws:List Value},ay e vs cs->ay e ws ds->ay e (vs++ws) (cs++ds):=by
 induction cs with
 |nil=>intro vs ws h h';cases h;simpa using h'
 |cons l r ih=>intro vs ws h h';obtain ⟨v,w,rfl,h1,h2⟩:=h;exact ⟨v,w++ws,by simp,h1,ih h2 h'⟩
theorem PZ {cs:List aE}: ∀{off:Nat} {ds:List aE} {vs:List Value},cut cs off=some ds->ay e vs cs-> ∃v1 v2,vs=v1++v2/\v1.length=off/\ay e v2 ds:=by
 induction cs with
 |nil=>
  intro off ds vs h hr;cases off with
  |zero=>simp only [cut,IT] at h;subst h;exact ⟨[],vs,rfl,rfl,hr⟩
  |succ n=>simp [cut] at h
 |cons l r ih=>
  intro off ds vs h hr;cases off with
  |zero=>simp only [cut,IT] at h;subst h;exact ⟨[],vs,rfl,rfl,hr⟩
  |succ n=>
   simp only [cut] at h;cases hb:acN l.w (n+1) with
   |false=>simp [hb] at h
   |true=>simp only [hb,cond_true] at h;have hle:=acU hb;obtain ⟨v,w,rfl,h1,h2⟩:=hr;obtain ⟨v1,v2,rfl,hl,h3⟩:=ih h h2;exact ⟨v++v1,v2,by simp,by simp [h1.width,hl];omega,h3⟩
theorem Wi {cs:List aE}: ∀{n:Nat} {ds:List aE} {vs:List Value},PP cs n=some ds->ay e vs cs-> ∃v1 v2,vs=v1++v2/\v1.length=n/\ay e v1 ds:=by
 induction cs with
 |nil=>
  intro n ds vs h hr;cases n with
  |zero=>simp only [PP,IT] at h;subst h;exact ⟨[],vs,rfl,rfl,rfl⟩
  |succ n=>simp [PP] at h
 |cons l r ih=>
  intro n ds vs h hr;cases n with
  |zero=>simp only [PP,IT] at h;subst h;exact ⟨[],vs,rfl,rfl,rfl⟩
  |succ n=>
   simp only [PP] at h;cases hb:acN l.w (n+1) with
   |false=>simp [hb] at h
   |true=>
    simp only [hb,cond_true] at h;have hle:=acU hb;obtain ⟨v,w,rfl,h1,h2⟩:=hr;cases hu:PP r (n+1-l.w) with
    |none=>simp [hu] at h
    |some b=>simp only [hu,IT] at h;subst h;obtain ⟨v1,v2,rfl,hl,h3⟩:=ih hu h2;exact ⟨v++v1,v2,by simp,by simp [h1.width,hl];omega,v,v1,rfl,h1,h3⟩
theorem Wj {cs:List aE}{off n:Nat}{ds:List aE}{vs:List Value}(h:part cs off n=some ds)(hr:ay e vs cs): ∃v1 v2 v3,vs=v1++v2++v3/\v1.length=off/\v2.length=n/\ay e v2 ds:=by
 unfold part at h;cases hc:cut cs off with
 |none=>simp [hc] at h
 |some a=>simp only [hc] at h;obtain ⟨v1,v2,rfl,h1,h2⟩:=PZ hc hr;obtain ⟨v3,v4,rfl,h3,h4⟩:=Wi h h2;exact ⟨v1,v3,v4,by simp,h1,h3,h4⟩
theorem Mg {ls:List aE}: ∀{cs ds:List aE} {vs ws:List Value},over ls cs=some ds->ay e vs cs->ay e ws ls-> ∃v1 v2,vs=v1++v2/\v1.length=ws.length/\ay e (ws++v2) ds:=by
 induction ls with
 |nil=>intro cs ds vs ws h hr hw;simp only [over,IT] at h;subst h;cases hw;exact ⟨[],vs,rfl,rfl,hr⟩
 |cons l r ih=>
  intro cs ds vs ws h hr hw;cases cs with
  |nil=>simp [over] at h
  |cons c cs=>
   simp only [over] at h;cases hb:cV l.w c.w with
   |false=>simp [hb] at h
   |true=>
    simp only [hb,cond_true] at h;have hww:=sh hb;cases ho:over r cs with
    |none=>simp [ho] at h
    |some q=>simp only [ho,IT] at h;subst h;obtain ⟨v,w,rfl,h1,h2⟩:=hr;obtain ⟨a,b,rfl,h3,h4⟩:=hw;obtain ⟨v1,v2,rfl,hl,h5⟩:=ih ho h2 h4;exact ⟨v++v1,v2,by simp,by simp [h1.width,h3.width,hl,hww],a,b++v2,by simp,h3,h5⟩
theorem CT {cs:List aE}: ∀{off:Nat} {ls ds:List aE} {vs ws:List Value},putAt cs off ls=some ds->ay e vs cs->ay e ws ls-> ∃v1 v2 v3,vs=v1++v2++v3/\v1.length=off/\v2.length=ws.length/\ay e (v1++ws++v3) ds:=by
 induction cs with
 |nil=>
  intro off ls ds vs ws h hr hw;cases off with
  |zero=>simp only [putAt] at h;obtain ⟨v1,v2,rfl,h1,h2⟩:=Mg h hr hw;exact ⟨[],v1,v2,by simp,rfl,h1,by simpa using h2⟩
  |succ n=>simp [putAt] at h
 |cons l r ih=>
  intro off ls ds vs ws h hr hw;cases off with
  |zero=>simp only [putAt] at h;obtain ⟨v1,v2,rfl,h1,h2⟩:=Mg h hr hw;exact ⟨[],v1,v2,by simp,rfl,h1,by simpa using h2⟩
  |succ n=>
   simp only [putAt] at h;cases hb:acN l.w (n+1) with
   |false=>simp [hb] at h
   |true=>
    simp only [hb,cond_true] at h;have hle:=acU hb;obtain ⟨v,w,rfl,h1,h2⟩:=hr;cases hu:putAt r (n+1-l.w) ls with
    |none=>simp [hu] at h
    |some b=>simp only [hu,IT] at h;subst h;obtain ⟨v1,v2,v3,rfl,hl,y9,h3⟩:=ih hu h2 hw;exact ⟨v++v1,v2,v3,by simp,by simp [h1.width,hl];omega,y9,v,v1++ws++v3,by simp,h1,h3⟩
structure mF (S T:Nat->Prop) (e e':Env):Prop where
 key:e'.key=e.key
 φ:lS e.φ e'.φ
 B: ∀r,T r->e'.B r=e.B r
 iC: ∀f o',aQ e'.m f=some o'->S f-> ∃o,aQ e.m f=some o/\e'.E f=e.E f/\o'.xs=o.xs
def j0 (S:Nat->Prop)(l:aE):Prop:= ∀f,l= .own f->S f
def hM (S T:Nat->Prop):Slot->Prop
 | .ptr r _=>T r
 | .zT r=>T r
 | .hp r _ _=>T r
 | .sc l=>j0 S l
 | .ag cs=> ∀l∈cs,j0 S l
 | .tg cs=> ∀l∈cs,j0 S l
 | .ep g _ _ _ _=>S g
 |_=>True
theorem aX.on {S T:Nat->Prop}(h:mF S T e e'){vs:List Value}{l:aE}(hl:j0 S l)(hr:aX e vs l):aX e' vs l:=by
 cases l with
 |un=>exact hr
 |p m=>exact ⟨hr.1,by have:=hr.2.mono h.φ;rw [<-h.key] at this;exact this⟩
 |hs x=>exact hr
 |nil=>exact hr
 |mp s es=>exact hr
 |own f=>obtain ⟨v,rfl,hv,hf⟩:=hr;refine ⟨v,rfl,hv,λo' Li=> ?_⟩;obtain ⟨o,ho,hE,_⟩:=h.iC f o' Li (hl f rfl);rw [hE];exact hf o ho
theorem ay.on {S T:Nat->Prop}(h:mF S T e e'){cs:List aE}: ∀{vs:List Value},(∀l∈cs,j0 S l)->ay e vs cs->ay e' vs cs:=by
 induction cs with
 |nil=>intro vs _ hr;exact hr
 |cons l r ih=>intro vs hl hr;obtain ⟨v,w,rfl,h1,h2⟩:=hr;exact ⟨v,w,rfl,h1.on h (hl l (by simp)),ih (λx hx=>hl x (by simp [hx])) h2⟩
theorem Ic {S:Nat->Prop}{l:aE}(h:uc l=true):j0 S l:=by intro f hf;subst hf;simp [uc] at h
theorem xO {S:Nat->Prop}{cs:List aE}(h:jr cs=true): ∀l∈cs,j0 S l:=by
 induction cs with
 |nil=>simp
 |cons l r ih=>
  simp only [jr,abF] at h;intro x hx;rcases acv.1 hx with rfl|hx
  ·exact Ic h.1
  ·exact ih h.2 x hx
mutual
theorem ah.on {S T:Nat->Prop}(h:mF S T e e'){v:Value}: ∀{s:Slot},hM S T s->ah e v s->ah e' v s
 | .skip,_,hr=>by simpa [ah] using hr
 | .sc l,hs,hr=>by
  cases l with
  |un=>simp [ah]
  |hs x=>simpa [ah] using hr
  |p m=>simp only [ah] at hr⊢;exact hr.on h hs
  |nil=>simp only [ah] at hr⊢;exact hr.on h hs
  |mp s es=>simp only [ah] at hr⊢;exact hr
  |own f=>simp only [ah] at hr⊢;exact hr.on h hs
 | .ag cs,hs,hr=>by simp only [ah] at hr⊢;obtain ⟨arr,h1,h2⟩:=hr;exact ⟨arr,h1,h2.on h hs⟩
 | .tg cs,hs,hr=>by simp only [ah] at hr⊢;obtain ⟨arr,h1,h2⟩:=hr;exact ⟨arr,h1,h2.on h hs⟩
 | .eu vs,_,hr=>by simp only [ah] at hr⊢;obtain ⟨arr,h1,h2⟩:=hr;exact ⟨arr,h1,lu.on h h2⟩
 | .box _,_,hr=>by simp [ah] at hr
 | .zQ cs,_,hr=>by simp only [ah] at hr⊢;obtain ⟨bt,o,vs,h1,h2,h3,h4⟩:=hr;exact ⟨bt,o,vs,h1,h2.on h (xO h3),h3,λj hj=>NN h.φ hj (h4 j hj)⟩
 | .ptr r o,hs,hr=>by simp only [ah] at hr⊢;rw [h.B r hs];exact hr
 | .zT r,hs,hr=>by simp only [ah] at hr⊢;rw [h.B r hs];exact hr
 | .rp cs off,_,hr=>by simp only [ah] at hr⊢;obtain ⟨bt,o,vs,h1,h2,h3,h4⟩:=hr;exact ⟨bt,o,vs,h1,h2.on h (xO h3),h3,λj hj=>NN h.φ hj (h4 j hj)⟩
 | .hp r o i,hs,hr=>by simp only [ah] at hr⊢;rw [h.B r hs];exact hr
 | .ep f i off st cs,hs,hr=>by simp only [ah] at hr⊢;intro o' Li;obtain ⟨o,ho,hE,hx⟩:=h.iC f o' Li hs;obtain ⟨bt,cap,h1,h2,h3⟩:=hr o ho;exact ⟨bt,cap,by rw [hE,hx];exact h1,by rw [hx];exact h2,h3⟩
theorem lu.on {S T:Nat->Prop}(h:mF S T e e'): ∀{vs:List Value} {ss:List Slot},lu e vs ss->lu e' vs ss
 |vs,[],hr=>hr
 |vs,s::ss,hr=>by
  simp only [lu] at hr⊢;obtain ⟨v,r,h1,h2,h3,h4⟩:=hr;refine ⟨v,r,h1,ah.on h ?_ h2,h3,lu.on h h4⟩;cases s<;>simp [Cd] at h3<;>simp only [hM]
  ·exact Ic h3
  ·exact xO h3
end
end
end Dn
/-
  The relation between an abstract state and a running frame; operations that change no memory. Conditions: none.
-/
namespace Dn
open Go
section
variable {e e':Env}
theorem aX.kill {vs:List Value}{l:aE}(f:Nat)(h:aX e vs l):aX e vs (NO f l):=by
 cases l with
 |own g=>
  simp only [NO];cases cV g f
  ·exact h
  ·obtain ⟨v,rfl,hv,_⟩:=h;exact ⟨v,rfl,hv⟩
 |_=>exact h
theorem Fc (f:Nat)(l:aE):j0 (· ≠f) (NO f l):=by intro g hg;cases l<;>simp [NO] at hg;rename_i g';cases hb:cV g' f<;>simp [hb] at hg;subst hg;intro e;subst e;simp [eO] at hb
theorem aX.P0 {vs:List Value}{l:aE}(f:List Nat)(h:aX e vs l):aX e vs (So f l):=by
 cases l with
 |own g=>
  simp only [So];cases bJ f g
  ·obtain ⟨v,rfl,hv,_⟩:=h;exact ⟨v,rfl,hv⟩
  ·exact h
 |_=>exact h
theorem NP (f:List Nat)(l:aE):j0 (· ∈f) (So f l):=by intro g hg;cases l<;>simp [So] at hg;rename_i g';cases hb:bJ f g'<;>simp [hb] at hg;subst hg;exact (bL _ _).1 hb
theorem ay.map {g:aE->aE}(hg: ∀vs l,aX e vs l->aX e vs (g l)){cs:List aE}: ∀{vs:List Value},ay e vs cs->ay e vs (cs.map g):=by
 induction cs with
 |nil=>intro vs h;exact h
 |cons l r ih=>intro vs h;obtain ⟨v,w,rfl,h1,h2⟩:=h;exact ⟨v,w,rfl,hg _ _ h1,ih h2⟩
theorem ah.ag7 {v:Value}{l:aE}(hl: ∀x,l≠ .hs x)(hu:l≠ .un):ah e v (.sc l)↔aX e [v] l:=by cases l<;>simp_all [ah]
theorem ah.kill {v:Value}{s:Slot}(f:Nat)(h:ah e v s):ah e v (Bo f s):=by
 cases s with
 |sc l=>
  cases l with
  |own g=>
   simp only [Bo,NO];cases cV g f
   ·exact h
   ·simp [ah]
  |_=>exact h
 |ag cs=>simp only [Bo,ah] at h⊢;obtain ⟨arr,h1,h2⟩:=h;exact ⟨arr,h1,h2.map (λ_ _=>aX.kill f)⟩
 |tg cs=>simp only [Bo,ah] at h⊢;obtain ⟨arr,h1,h2⟩:=h;exact ⟨arr,h1,h2.map (λ_ _=>aX.kill f)⟩
 |box cs=>simp [ah] at h
 |ep g i o b cs=>
  simp only [Bo];cases cV g f
  ·exact h
  ·simp [ah]
 |_=>exact h
theorem Zf (f:Nat)(T:Nat->Prop)(s:Slot)(hT:hM (λ_=>True) T s):hM (· ≠f) T (Bo f s):=by
 cases s with
 |sc l=>exact Fc f l
 |ag cs=>intro l hl;obtain ⟨x,_,rfl⟩:=adM.1 hl;exact Fc f x
 |tg cs=>intro l hl;obtain ⟨x,_,rfl⟩:=adM.1 hl;exact Fc f x
 |ep g i o b cs=>
  simp only [Bo];cases hb:cV g f
  ·simp only [cond_false,hM];intro e;subst e;simp [eO] at hb
  ·simp [hM,j0]
 |ptr r o=>exact hT
 |hp r o i=>exact hT
 |_=>trivial
theorem ah.P0 {v:Value}{s:Slot}(f:List Nat)(h:ah e v s):ah e v (HK f s):=by
 cases s with
 |sc l=>
  cases l with
  |own g=>
   simp only [HK,So];cases bJ f g
   ·simp [ah]
   ·exact h
  |_=>exact h
 |ag cs=>simp only [HK,ah] at h⊢;obtain ⟨arr,h1,h2⟩:=h;exact ⟨arr,h1,h2.map (λ_ _=>aX.P0 f)⟩
 |tg cs=>simp only [HK,ah] at h⊢;obtain ⟨arr,h1,h2⟩:=h;exact ⟨arr,h1,h2.map (λ_ _=>aX.P0 f)⟩
 |box cs=>simp [ah] at h
 |_=>exact h
end
def bA (key:Nat->Nat) (φ:Ph)(size:Nat):List Value->List MV->Prop
 |vs,[]=>vs=[]
 |vs,x::xs=> ∃v r,vs=v++r/\v.length=size/\jz key φ v x/\bA key φ size r xs
structure bI where
 In:Nat->Prop
 cI:List Nat
 db:List Nat
 T:Nat->Value
 cov:Prop
 Pr:Nat->Prop
instance:CoeFun bI (λ_=>Nat->Prop):=⟨bI.In⟩
instance:Coe bI (Nat->Prop):=⟨bI.In⟩
theorem Sp {a b c:Prop}(h:(a/\b)\/c)(hn: ¬a):c:=h.resolve_left λh=>hn h.1
def bI.nc (Z:bI):bI:={Z with cov:=False}
def bI.plain (I:Nat->Prop):bI:=⟨I,[],[],λ_=>undef,False,λ_=>True⟩
def bI.bz (Z:bI)(t:Nat):bI:={Z with In:=λb=>(t∈Z.cI/\Z.Pr b)\/Z.In b}
def bI.fz (Z:bI)(f:Nat):bI:={Z with In:=λb=>(f∈Z.db/\Z.Pr b)\/Z.In b,cov:=f∈Z.db}
def Fe:Kd->MV->Bool
 | .b,.b _=>true
 | .i k,.i k' _=>decide (k'=k)
 | .s,.s _=>true
 | .h,.h _=>true
 |_,_=>false
def dX:List Kd->List MV->Bool
 |[],[]=>true
 |k::ks,m::ms=>Fe k m&&dX ks ms
 |_,_=>false
def E0:MV->List Value
 | .b x=>[.bool x]
 | .i k n=>[.int k n]
 | .s l=>[.string ⟨l.toArray⟩]
 | .h x=>cc x
 |_=>[]
def gy (st:Bool)(ks:List MV):Value:=match st,ks with
 |false,[.h x]=> .agg (cc x).toArray
 |false,[.b x]=> .bool x
 |false,[.i k n]=> .int k n
 |false,[.s l]=> .string ⟨l.toArray⟩
 |_,ks=> .agg (ks.flatMap E0).toArray
def BZ (b:Bool)(m:MV):Value:=match b,m with
 |true,.b x=> .bool x
 |false,.i .i64 n=> .int .i64 n
 |_,_=>undef
def SN (b:Bool)(m:MV):Bool:=match b,m with
 |true,.b x=>true
 |false,.i .i64 n=>true
 |_,_=>false
def Zg (s:MS)(x:MapEntry)(m:MV)(i:Nat):Prop:=x.born=i/\ ∃ks v,m= .eu [.agg ks,v]/\dX s.lay ks=true/\x.key=gy s.st ks/\SN s.b v=true/\x.val=BZ s.b v
structure rP (s:MS) (es:Array MapEntry) (clock:Nat) (ms:List MV):Prop where
 size:es.size=ms.length
 clock:clock=ms.length
 ent: ∀(i:Nat) x m,es[i]? =some x->ms[i]? =some m->Zg s x m i
def lc (e:Env)(o:Obj)(cs:List aE):Prop:=match o with
 | .cells arr _ z=>z=(0,0)/\ay e arr.toList cs
 | .map es clock=> ∃s ms,cs=[.mp s ms]/\Hj s=false/\rP s es clock ms
 | .stringIter x pos=>cs=[.mp MS.it [.s x.data.toList,.i .i64 pos]]
 |_=>False
def Ie (cs:List aE)(b:Nat):Value:=bif mC cs then .map (some b) else .pointer (some ⟨b,0,none⟩)
structure vj (Z:bI) (e:Env) (w:World) (bt:Nat) (cs:List aE):Prop where
 cS:Z.In bt
 obj: ∃o,w.heap[bt]? =some o/\lc e o cs
 free: ∀off,e.φ bt off=none
theorem lc.on {S T:Nat->Prop} {e e':Env}(h:mF S T e e'){o:Obj}{cs:List aE}(hl: ∀l∈cs,j0 S l)(hr:lc e o cs):lc e' o cs:=by
 cases o with
 |cells arr T z=>exact ⟨hr.1,hr.2.on h hl⟩
 |map es clock=>exact hr
 |stringIter x pos=>exact hr
 |_=>exact hr.elim
theorem NQ {cs:List aE}(h:iW cs=true): ∃s ms,cs=[.mp s ms]:=by
 unfold iW at h;split at h
 ·exact ⟨_,_,rfl⟩
 ·cases h
theorem lc.cells {e:Env}{o:Obj}{cs:List aE}(hr:lc e o cs)(hm:iW cs=false): ∃arr T,o= .cells arr T (0,0)/\ay e arr.toList cs:=by
 cases o with
 |cells arr T z=>obtain ⟨rfl,h⟩:=hr;exact ⟨arr,T,rfl,h⟩
 |map es clock=>obtain ⟨s,ms,rfl,_⟩:=hr;simp [iW] at hm
 |stringIter x pos=>rw [show cs=_ from hr] at hm;simp [iW] at hm
 |_=>exact hr.elim
theorem DE {cs:List aE}(h:iW cs=false):mC cs=false:=by
 unfold mC;split
 ·simp [iW] at h
 ·rfl
theorem P1 (g:aE->aE)(h1: ∀s es,g (.mp s es)= .mp s es)(h2: ∀l,(∀s es,l≠ .mp s es)-> ∀s es,g l≠ .mp s es)(cs:List aE):mC (cs.map g)=mC cs:=by
 cases cs with
 |nil=>rfl
 |cons l r=>
  cases r with
  |nil=>
   by_cases hl: ∃s es,l= .mp s es
   ·obtain ⟨s,es,rfl⟩:=hl;simp [h1,mC]
   ·have Ff: ∀s es,l≠ .mp s es:=λs es e=>hl ⟨s,es,e⟩;have hg:=h2 l Ff;simp only [aaJ,af9];have a:mC [l]=false:=by cases l<;>simp_all [mC]
    have b:mC [g l]=false:=by cases hq:g l<;>simp_all [mC]
    rw [a,b]
  |cons x y=>cases hl:l<;>simp [mC]
theorem vj.cells {Z:bI}{e:Env}{w:World}{bt:Nat}{cs:List aE}(h:vj Z e w bt cs)(hm:iW cs=false): ∃arr T,w.heap[bt]? =some (.cells arr T (0,0))/\ay e arr.toList cs:=by obtain ⟨o,h1,h2⟩:=h.obj;obtain ⟨arr,T,rfl,h3⟩:=h2.cells hm;exact ⟨arr,T,h1,h3⟩
theorem Zh {cs:List aE}(hm:mC cs=false)(b:Nat):Ie cs b= .pointer (some ⟨b,0,none⟩):=by simp [Ie,hm]
theorem ue {cs:List aE}(hm:iW cs=false)(b:Nat):Ie cs b= .pointer (some ⟨b,0,none⟩):=Zh (DE hm) b
theorem Zj {cs:List aE}(hm:mC cs=true)(b:Nat):Ie cs b= .map (some b):=by simp [Ie,hm]
theorem lc.map {e:Env}{g:aE->aE}(hg: ∀vs l,aX e vs l->aX e vs (g l))(hm: ∀s es,g (.mp s es)= .mp s es){o:Obj}{cs:List aE}(hr:lc e o cs):lc e o (cs.map g):=by
 cases o with
 |cells arr T z=>exact ⟨hr.1,hr.2.map hg⟩
 |map es clock=>obtain ⟨s,ms,rfl,h2⟩:=hr;exact ⟨s,ms,by simp [hm],h2⟩
 |stringIter x pos=>rw [show cs=_ from hr];show af5 g _=_;simp [hm]
 |_=>exact hr.elim
theorem SO (f:Nat)(cs:List aE):mC (cs.map (NO f))=mC cs:=P1 _ (λ_ _=>rfl) (λl hl s es=>by cases l<;>simp_all [NO];rename_i g;cases cV g f<;>simp) cs
theorem ag8 (f:List Nat)(cs:List aE):mC (cs.map (So f))=mC cs:=P1 _ (λ_ _=>rfl) (λl hl s es=>by cases l<;>simp_all [So];rename_i g;cases bJ f g<;>simp) cs
structure cT (c:Ctx) (Z:bI) (e:Env) (w:World) (v:Value) (o:pn):Prop where
 row: ∃I cells,c.ti o.ty=some I/\I.cQ=[]/\w.ownsRow 0 o.ty I.size v o.xs.length cells/\bA e.key e.φ I.size cells o.xs/\ ∀bt,v.ownBlock=some bt->Z.In bt/\(∀off u,e.φ bt off=some u->o.fb=true/\off<o.xs.length *I.size)/\(Z.cov->o.fb=true-> ∀j,j<cells.length->e.φ bt j=cells[j]?)
def tied (Z:bI)(t:Nat)(v:Value)(cs:List aE)(b:Nat):Prop:=(y8 t=false->v=Ie cs b)/\(y8 t=true->posOf t∈Z.cI/\Z.T (posOf t)= .pointer (some ⟨b,PN t,none⟩))
theorem tied.mC {Z:bI}{t:Nat}{v:Value}{cs kR:List aE}{b:Nat}(h:tied Z t v cs b)(hm:mC kR=mC cs):tied Z t v kR b:=⟨λhp=>by rw [h.1 hp];simp [Ie,hm],h.2⟩
theorem tied.own {Z:bI}{t:Nat}{v:Value}{cs:List aE}{b:Nat}(hp:y8 t=false)(h:v=Ie cs b):tied Z t v cs b:=⟨λ_=>h,λhq=>by rw [hp] at hq;cases hq⟩
def cn (Z:bI)(e:Env)(w:World)(t:Nat)(v:Value):Slot->Prop
 | .box cs=>tied Z t v cs (e.B t)/\vj (Z.bz t) e w (e.B t) cs
 |s=>ah e v s
def dc (fr:Fr):Slot->Prop
 | .ptr r _=>dy (av fr r)=true
 | .hp r _ _=>dy (av fr r)=true
 | .zT r=>dy (av fr r)=true
 |_=>True
structure b9 (c:Ctx) (Z:bI) (e:Env) (st:St) (a:Act) (w:World):Prop where
 defers:a.defers=[]/\st.cI=Z.cI/\st.db=Z.db/\ ∀t∈Z.cI,a.tmps.getD t undef=Z.T t
 size:a.tmps.size=c.n
 m:e.m=st.bo
 key:e.key=c.key
 nodup:(aU st.fr).Nodup
 slot: ∀t,cn Z e w t (a.tmps.getD t undef) (av st.fr t)
 root: ∀t,dc st.fr (av st.fr t)
 iC: ∀f o,aQ st.bo f=some o->cT c (Z.fz f) e w (e.E f) o
 bb: ∀t t' cs kR,av st.fr t= .box cs->av st.fr t'= .box kR->t≠t'->e.B t≠e.B t'
 bf: ∀t cs f o,av st.fr t= .box cs->aQ st.bo f=some o->(e.E f).ownBlock≠some (e.B t)
 ff: ∀f f' o o' k,aQ st.bo f=some o->aQ st.bo f'=some o'->(e.E f).ownBlock=some k->(e.E f').ownBlock=some k->f=f'
 kP: ∀b o v,e.φ b o=some v->w.cell? ⟨b,o,none⟩=some v
 cS: ∀b,w.heap.size<=b->Z.In b
def Rest (w w':World):Prop:=w'.os=w.os/\w'.tape=w.tape/\w'.output=w.output/\ ∀a,w'.frozen? a=w.frozen? a
theorem Rest.refl (w:World):Rest w w:=⟨rfl,rfl,rfl,λ_=>rfl⟩
theorem Rest.trans {w w' Bp:World}(h:Rest w w') (h':Rest w' Bp):Rest w Bp:=⟨h'.1.trans h.1,h'.2.1.trans h.2.1,h'.2.2.1.trans h.2.2.1,λa=>(h'.2.2.2 a).trans (h.2.2.2 a)⟩
theorem Rest.alloc (w:World)(cs:Array Value)(t:TypeId):Rest w (w.alloc (.cells cs t)):=by
 refine ⟨rfl,rfl,rfl,λa=> ?_⟩;by_cases h:a.block=w.heap.size
 ·have e1:(w.alloc (.cells cs t)).heap[a.block]? =some (.cells cs t (0,0)):=by rw [h];exact iD w _
  have e2:w.heap[a.block]? =none:=by rw [h];simp
  simp [af8,e1,e2]
 ·exact World.frozen?_alloc_old _ _ _ h
theorem Rest.setRow (w:World)(g:Nat)(cs:Array Value):Rest w (w.setRow g cs):=by
 refine ⟨rfl,rfl,rfl,λa=> ?_⟩;by_cases h:a.block=g
 ·unfold af8 aga;simp only [Array.getElem?_modify,h,if_true];cases hg:w.heap[g]? with
  |none=>rfl
  |some o=>cases o<;>rfl
 ·exact World.frozen?_of_block (setRow_other _ _ _ _ h)
structure dN (w w':World):Prop where
 size:w.heap.size<=w'.heap.size
 qA: ∀b,b<w.heap.size->w'.heap[b]? =w.heap[b]?
 rest:Rest w w'
theorem aZ {w:World}{b:Nat}{x:Obj}(h:w.heap[b]? =some x):b<w.heap.size:=(Array.getElem?_eq_some_iff.1 h).1
theorem dN.cell {w w':World}(g:dN w w'){ad:Addr}{v:Value}(h:w.cell? ad=some v):w'.cell? ad=some v:=by have hl:=abG w ad h;rw [acV (g.qA ad.block hl)];exact h
structure Trans (Z:Nat->Prop) (φ:Ph) (w:World) (φ':Ph) (w':World):Prop where
 ph:lS φ φ'
 heap: ∀b,¬Z b->b<w.heap.size->w'.heap[b]? =w.heap[b]?
 free: ∀b o,¬Z b->φ' b o=φ b o
 size:w.heap.size<=w'.heap.size
 rest:Rest w w'
theorem Trans.refl (Z:Nat->Prop) (φ:Ph)(w:World):Trans Z φ w φ w:=⟨.refl φ,λ_ _ _=>rfl,λ_ _ _=>rfl,aaP _,.refl _⟩
theorem Trans.trans {Z:Nat->Prop} {φ φ' φ'':Ph} {w w' Bp:World}(h:Trans Z φ w φ' w') (h':Trans Z φ' w' φ'' Bp):Trans Z φ w φ'' Bp:=⟨h.ph.trans h'.ph,λb hb hl=>(h'.heap b hb (aeU hl h.size)).trans (h.heap b hb hl),λb o hb=>(h'.free b o hb).trans (h.free b o hb),adN h.size h'.size,h.rest.trans h'.rest⟩
def qK (Z:bI)(e:Env)(w:World)(st:St)(v:Value):Slot->Prop
 | .box cs=> ∃bt,v=Ie cs bt/\vj Z e w bt cs/\(∀t kR,av st.fr t= .box kR->e.B t≠bt)/\(∀f o,aQ st.bo f=some o->(e.E f).ownBlock≠some bt)
 |s=>ah e v s/\dc st.fr s
section
variable {c:Ctx}{Z:bI}{e:Env}{st:St}{a:Act}{w:World}
theorem ah.const {v:Value}:ah e v (Bl v):=by
 unfold Bl;split<;>simp only [ah,aX,MV.one]<;> first
   |exact ⟨trivial,.b _⟩
   |exact ⟨trivial,.i _ _⟩
   |exact ⟨trivial,.s _⟩
   |exact ⟨trivial,.raw _ rfl⟩
theorem b9.eval (h:b9 c Z e st a w)(x:Operand):ah e (a.eval x) (aT c st x)/\dc st.fr (aT c st x):=by
 cases x with
 |tmp t=>
  have hs:=h.slot t;have hr:=h.root t;simp only [Act.eval,aT];cases Lj:plk c.par t with
  |some q=>
   simp only;cases hq:y8 q&&cV (posOf q) t with
   |false=>exact ⟨by simp [ah],trivial⟩
   |true=>
    simp only [cond_true];simp only [abF] at hq;have hqt:=sh hq.2;have hsq:=h.slot q;split
    ·rename_i cs hfq;rw [hfq] at hsq;cases hm:iW cs with
     |true=>exact ⟨by simp [ah],trivial⟩
     |false=>obtain ⟨k1,k2⟩:=hsq.1.2 hq.1;refine ⟨?_,by simp [dc,hfq,dy]⟩;show a.tmps.getD t undef=_;rw [<-hqt,h.defers.2.2.2 _ k1,k2]
    ·exact ⟨by simp [ah],trivial⟩
  |none=>
  simp only;generalize hf:av st.fr t=s at hs hr;cases s<;>simp only [cn] at hs<;>try exact ⟨hs,hr⟩
  ·rename_i cs;cases hpt:y8 t with
   |true=>simp only [cond_true];exact ⟨by simp [ah],trivial⟩
   |false=>
   simp only [cond_false];cases hm:mC cs with
   |true=>simp only [hm,cond_true,ah,dc,hf,dy];exact ⟨by rw [hs.1.1 hpt,Zj hm],trivial⟩
   |false=>simp only [hm,cond_false,ah,dc,hf,dy];exact ⟨by rw [hs.1.1 hpt,Zh hm],trivial⟩
 |const v=>refine ⟨ah.const,?_⟩;simp only [aT];unfold Bl;split<;>trivial
 |func f=>simp only [Act.eval,aT,ah,aX,MV.one,dc,and_true,true_and];exact .func f _ #[] [] (by rw [h.key]) (by simpa using jd.nil) (by simp)
 |global g=>simp [aT,ah,dc]
end
theorem Act.Aa {a:Act}{d t:Nat}{v:Value}(hd:d<a.tmps.size):(a.put (some d) v).tmps.getD t undef=if t=d then v else a.tmps.getD t undef:=by
 simp only [Act.put,Array.getD_eq_getD_getElem?,Array.getElem?_setIfInBounds];by_cases h:d=t
 ·subst h;simp [hd]
 ·have h': ¬t=d:=λe=>h e.symm;simp [h,h']
theorem Zk {fr:Fr}{s:Slot}(h:dc fr s):hM (λ_=>True) (λr=>dy (av fr r)=true) s:=by cases s<;>simp_all [dc,hM,j0]
theorem NR (r:Fr)(d:Nat)(s:Slot):aU (dt r d s)=if d∈aU r then aU r else aU r++[d]:=by
 induction r with
 |nil=>simp [dt,aU]
 |cons p r ih=>
  obtain ⟨k,x⟩:=p;simp only [dt,eO];by_cases h:k=d
  ·simp [h,aU]
  ·have h': ¬d=k:=λe=>h e.symm;have ih':af5 Prod.fst (dt r d s)=if d∈aU r then aU r else aU r++[d]:=ih
   simp only [h,h',decide_false,cond_false,aU,aaJ,acv,false_or,ih'];by_cases hm:d∈aU r
   ·have Mh:d∈af5 Prod.fst r:=hm;simp [hm,Mh,aU]
   ·have Mh:d∉af5 Prod.fst r:=hm;simp [hm,Mh,aU]
theorem iN {r:Fr}{d:Nat}{s:Slot}(h:(aU r).Nodup):(aU (dt r d s)).Nodup:=by
 rw [NR];by_cases hm:d∈aU r
 ·simpa [hm] using h
 ·simp only [hm,if_false];exact List.nodup_append.2 ⟨h,by simp,by intro x hx y hy;simp at hy;subst hy;intro e;subst e;exact hm hx⟩
section
variable {c:Ctx}{Z:bI}{e:Env}{st:St}{a:Act}{w:World}{R:Type}{K:St->Option R}{r:R}
def Env.DF (e:Env)(d bt:Nat):Env:={e with B:=λt=>if t=d then bt else e.B t}
theorem vj.env {e e':Env}{bt:Nat}{cs:List aE}(h:vj Z e w bt cs)(hk:e'.key=e.key)(hp:e'.φ=e.φ)(hE:e'.E=e.E)(hm:e'.m=e.m):vj Z e' w bt cs:=by refine ⟨h.cS,?_,λoff=>by rw [hp];exact h.free off⟩;obtain ⟨o,h1,h2⟩:=h.obj;refine ⟨o,h1,h2.on (S:=λ_=>True) (T:=λ_=>False) ⟨hk,by rw [hp];exact .refl _,by simp,?_⟩ (by intro l _ f _;trivial)⟩;intro f o ho _;exact ⟨o,by rw [<-hm];exact ho,by rw [hE],rfl⟩
theorem cT.env {e e':Env}{v:Value}{o:pn}(h:cT c Z e w v o)(hk:e'.key=e.key)(hp:e'.φ=e.φ):cT c Z e' w v o:=by obtain ⟨I,cells,h1,h2,h3,h4,h5⟩:=h.row;exact ⟨I,cells,h1,h2,h3,by rw [hk,hp];exact h4,by rw [hp];exact h5⟩
theorem vj.to {bt:Nat}{cs:List aE}(h:vj Z e w bt cs)(t:Nat):vj (Z.bz t) e w bt cs:=⟨.inr h.cS,h.obj,h.free⟩
theorem cT.to {v:Value}{o:pn}{f:Nat}(h:cT c Z.nc e w v o)(hf:f∉Z.db):cT c (Z.fz f) e w v o:=by obtain ⟨I,cells,h1,h2,h3,h4,h5⟩:=h.row;exact ⟨I,cells,h1,h2,h3,h4,λbt hb=>⟨.inr (h5 bt hb).1,(h5 bt hb).2.1,λhc=>absurd hc hf⟩⟩
theorem dz {d:Option Nat}{s:Slot}{v:Value}(h:b9 c Z e st a w)(hv:qK Z e w st v s)(hK:bC c st d s K=some r): ∃e' bZ,b9 c Z e' bZ (a.put d v) w/\K bZ=some r/\e'.φ=e.φ:=by
 cases d with
 |none=>exact ⟨e,st,h,hK,rfl⟩
 |some d=>
  simp only [bC] at hK;cases uf:y8 d||(acN c.n d||dy (av st.fr d)) with
  |true=>simp [uf] at hK
  |false=>
   obtain ⟨apd,hb⟩:=acW.1 uf;simp only [uf,cond_false,wr] at hK;cases hp:bJ st.cI d with
   |true=>simp [hp] at hK
   |false=>
    simp only [hp,cond_false,force_eq,rj] at hK;simp only [acW] at hb;have PD:d<a.tmps.size:=by
     rw [h.size];have:=hb.1;by_cases cJ:d<c.n
     ·exact cJ
     ·have:acN c.n d=true:=Nat.ble_eq_true_of_le (by omega);simp_all
    have hdp:d∉Z.cI:=by intro hm;rw [<-h.defers.2.1,<-bL,hp] at hm;cases hm
    have akH: ∀fr:Fr,(a.put (some d) v).defers=[]/\({st with fr:=fr}:St).cI=Z.cI/\({st with fr:=fr}:St).db=Z.db/\ ∀t∈Z.cI,(a.put (some d) v).tmps.getD t undef=Z.T t:=by intro fr;refine ⟨h.defers.1,h.defers.2.1,h.defers.2.2.1,λt ht=> ?_⟩;rw [Act.Aa PD,if_neg (by intro e;subst e;exact hdp ht)];exact h.defers.2.2.2 t ht
    have pA: ∀t,hM (λ_=>True) (λr=>r≠d) (av st.fr t):=by intro t;have:=Zk (h.root t);generalize av st.fr t=x at this;cases x<;>simp_all [hM,j0]<;>(intro e;subst e;simp_all)
    by_cases hs: ∃cs,s= .box cs
    ·obtain ⟨cs,rfl⟩:=hs;obtain ⟨bt,rfl,uZ,hnb,hnf⟩:=hv;have uX:mF (λ_=>True) (λr=>r≠d) e (e.DF d bt):=⟨rfl,.refl _,λr hr=>by simp [Env.DF,hr],λf o ho _=>⟨o,ho,rfl,rfl⟩⟩
     refine ⟨e.DF d bt,_,?_,hK,rfl⟩;refine ⟨akH _,by simpa [Act.put] using h.size,h.m,h.key,iN h.nodup,?_,?_,?_,?_,?_,?_,h.kP,h.cS⟩
     ·intro t;rw [Act.Aa PD,cj];by_cases ht:t=d
      ·subst ht;simp only [if_true,cn,Env.DF];exact ⟨.own apd rfl,(uZ.to t).env rfl rfl rfl rfl⟩
      ·simp only [ht,if_false];have qv:=h.slot t;have sM:=pA t;generalize av st.fr t=x at qv sM;cases x<;>simp only [cn] at qv⊢ <;>try exact qv.on uX sM
       simp only [Env.DF,ht,if_false];exact ⟨qv.1,qv.2.env rfl rfl rfl rfl⟩
     ·intro t;simp only [cj];by_cases ht:t=d
      ·simp [ht,dc]
      ·simp only [ht,if_false];have sM:=h.root t;have CU:=pA t;generalize av st.fr t=x at sM CU;cases x<;>simp_all [dc,cj,hM]
     ·intro f o ho;exact (h.iC f o ho).env rfl rfl
     ·intro t t' hU qw h1 h2 di;simp only [cj] at h1 h2;simp only [Env.DF];by_cases ht:t=d
      ·by_cases DG:t'=d
       ·exact absurd (ht.trans DG.symm) di
       ·simp only [DG,if_false] at h2;simp only [ht,DG,if_true,if_false];exact λe=>hnb t' qw h2 e.symm
      ·simp only [ht,if_false] at h1;by_cases DG:t'=d
       ·simp only [ht,DG,if_true,if_false];exact hnb t hU h1
       ·simp only [DG,if_false] at h2;simp only [ht,DG,if_false];exact h.bb t t' hU qw h1 h2 di
     ·intro t hU f o h1 h2;simp only [cj] at h1;simp only [Env.DF];by_cases ht:t=d
      ·simp only [ht,if_true];exact hnf f o h2
      ·simp only [ht,if_false] at h1⊢;exact h.bf t hU f o h1 h2
     ·exact h.ff
    ·have Sq:ah e v s/\dc st.fr s:=by cases s<;>simp_all [qK]
     refine ⟨e,_,?_,hK,rfl⟩;refine ⟨akH _,by simpa [Act.put] using h.size,h.m,h.key,iN h.nodup,?_,?_,h.iC,?_,?_,h.ff,h.kP,h.cS⟩
     ·intro t;rw [Act.Aa PD,cj];by_cases ht:t=d
      ·simp only [ht,if_true];cases s<;>simp only [cn]<;>first|exact Sq.1|exact absurd ⟨_,rfl⟩ hs
      ·simp only [ht,if_false];exact h.slot t
     ·intro t;simp only [cj];by_cases ht:t=d
      ·simp only [ht,if_true];have hr:=Sq.2;cases s<;>simp only [dc,cj] at hr⊢
       ·rename_i r o;by_cases NS:r=d
        ·subst NS;simp_all
        ·simp only [NS,if_false];exact hr
       ·rename_i r;by_cases NS:r=d
        ·subst NS;simp_all
        ·simp only [NS,if_false];exact hr
       ·rename_i r o i;by_cases NS:r=d
        ·subst NS;simp_all
        ·simp only [NS,if_false];exact hr
      ·simp only [ht,if_false];have sM:=h.root t;have CU:=pA t;generalize av st.fr t=x at sM CU;cases x<;>simp_all [dc,cj,hM]
     ·intro t t' hU qw h1 h2 di;simp only [cj] at h1 h2;by_cases ht:t=d
      ·simp only [ht,if_true] at h1;exact absurd ⟨_,h1⟩ hs
      ·by_cases DG:t'=d
       ·simp only [DG,if_true] at h2;exact absurd ⟨_,h2⟩ hs
       ·simp only [ht,DG,if_false] at h1 h2;exact h.bb t t' hU qw h1 h2 di
     ·intro t hU f o h1 h2;simp only [cj] at h1;by_cases ht:t=d
      ·simp only [ht,if_true] at h1;exact absurd ⟨_,h1⟩ hs
      ·simp only [ht,if_false] at h1;exact h.bf t hU f o h1 h2
end
end Dn
/-
  Operations that change no memory: moves, numbers, texts, places. Conditions: none.
-/
namespace Dn
open Go
def Out (c:Ctx)(Z:bI){R:Type}(K:St->Option R)(r:R) (φ:Ph)(w:World) (a':Act) (w':World):Prop:=∃e' bZ,b9 c Z e' bZ a' w'/\Trans Z φ w e'.φ w'/\K bZ=some r
section
variable {P:Program}{c:Ctx}{Z:bI}{e:Env}{st:St}{a:Act}{w:World}{R:Type}{K:St->Option R}{r:R}{Q:Exit->Act->World->Prop}{o:Oper}
theorem qK.of {s:Slot}{v:Value}(h:ah e v s)(hr:dc st.fr s):qK Z e w st v s:=by cases s<;>first|exact ⟨h,hr⟩|(simp [ah] at h)
theorem fin {e':Env}{bZ:St} {w':World}{s:Slot}{v:Value}(cr:(execOp a.eval o).run P w= .ok (.value v) w')(hs:b9 c Z e' bZ a w')(ht:Trans Z e.φ w e'.φ w')(hv:qK Z e' w' bZ v s)(hK:bC c bZ o.dst s K=some r):o.wp P a w (Out c Z K r e.φ w) Q:=by unfold age;rw [cr,aeg];obtain ⟨e2,ef,h1,h2,h3⟩:=dz hs hv hK;exact ⟨e2,ef,h1,by rw [h3];exact ht,h2⟩
theorem DH {e':Env}{bZ:St} {w':World}(cr:(execOp a.eval o).run P w= .ok .skip w')(hs:b9 c Z e' bZ a w')(ht:Trans Z e.φ w e'.φ w')(hK:bC c bZ o.dst (.sc .un) K=some r):o.wp P a w (Out c Z K r e.φ w) Q:=by unfold age;rw [cr,Oper.upon_skip];obtain ⟨e2,ef,h1,h2,h3⟩:=dz (v:=undef) hs (by simp [qK,ah,dc]) hK;exact ⟨e2,ef,h1,by rw [h3];exact ht,h2⟩
theorem Wk {e':Env}{bZ:St} {w':World}{s:Slot}{v:Value}(hg:dN w w')(cr:(execOp a.eval o).run P w= .ok (.value v) w')(hs:b9 c Z e' bZ a w')(ht:Trans Z e.φ w e'.φ w')(hv:qK Z e' w' bZ v s)(hK:bC c bZ o.dst s K=some r):o.wp P a w (λa' w'=>dN w w'/\Out c Z K r e.φ w a' w') Q:=by unfold age;rw [cr,aeg];obtain ⟨e2,ef,h1,h2,h3⟩:=dz hs hv hK;exact ⟨hg,e2,ef,h1,by rw [h3];exact ht,h2⟩
def Rd (P:Program)(c:Ctx)(Z:bI){R:Type}(K:St->Option R)(r:R)(e:Env)(a:Act)(w:World)(o:Oper)(G:World->Prop):Prop:=∃v,(∀w',G w'->(execOp a.eval o).run P w'= .ok (.value v) w')/\Out c Z K r e.φ w (a.put o.dst v) w
theorem Rd.wp {G:World->Prop}(h:Rd P c Z K r e a w o G)(hg:G w):o.wp P a w (Out c Z K r e.φ w) Q:=by obtain ⟨v,h1,h2⟩:=h;unfold age;rw [h1 w hg,aeg];exact h2
theorem SP {G:World->Prop} {e':Env}{bZ:St}{s:Slot}{v:Value}(cr: ∀w':World,G w'->(execOp a.eval o).run P w'= .ok (.value v) w')(hs:b9 c Z e' bZ a w)(ht:Trans Z e.φ w e'.φ w)(hv:qK Z e' w bZ v s)(hK:bC c bZ o.dst s K=some r):Rd P c Z K r e a w o G:=by obtain ⟨e2,ef,h1,h2,h3⟩:=dz hs hv hK;exact ⟨v,cr,e2,ef,h1,by rw [h3];exact ht,h2⟩
theorem kQ {s:Slot}{v:Value}(h:b9 c Z e st a w)(cr: ∀w':World,(execOp a.eval o).run P w'= .ok (.value v) w')(hv:ah e v s)(hr:dc st.fr s)(hK:bC c st o.dst s K=some r):Rd P c Z K r e a w o (λ_=>True):=SP (λw' _=>cr w') h (.refl _ _ _) (.of hv hr) hK
theorem Ab {v:Value}{x:Bool}(h:ah e v (.sc (.p (.b x)))):v= .bool x:=by simp only [ah,aX] at h;obtain ⟨_,h⟩:=h;generalize hv:[v]=vs at h;cases h;simpa using hv
theorem o6 {v:Value}{k:IntKind}{n:Int}(h:ah e v (.sc (.p (.i k n)))):v= .int k n:=by simp only [ah,aX] at h;obtain ⟨_,h⟩:=h;generalize hv:[v]=vs at h;cases h;simpa using hv
theorem Ig {v:Value}{l:List UInt8}(h:ah e v (.sc (.p (.s l)))): ∃b:ByteArray,v= .string b/\l=b.data.toList:=by simp only [ah,aX] at h;obtain ⟨_,h⟩:=h;generalize hv:[v]=vs at h;cases h;exact ⟨_,by simpa using hv,rfl⟩
theorem B0 (x:Bool):ah e (.bool x) (.sc (.p (.b x))):=by simp only [ah,aX];exact ⟨rfl,.b x⟩
theorem wR (k:IntKind)(n:Int):ah e (.int k n) (.sc (.p (.i k n))):=by simp only [ah,aX];exact ⟨rfl,.i k n⟩
theorem Zl (b:ByteArray):ah e (.string b) (.sc (.p (.s b.data.toList))):=by simp only [ah,aX];exact ⟨rfl,.s b⟩
theorem xP {v u:Value}(h:ah e v (.sc (.p (.raw u)))):v=u:=by simp only [ah,aX] at h;obtain ⟨_,h⟩:=h;generalize hv:[v]=vs at h;cases h;simpa using hv
theorem Ih (u:Value)(h:u.oneCell'=true):ah e u (.sc (.p (.raw u))):=by simp only [ah,aX];exact ⟨rfl,.raw u h⟩
theorem NT {x:Operand}(ho:o.op= .move x\/o.op= .assign x)(h:b9 c Z e st a w)(hK:bC c st o.dst (aT c st x) K=some r): Rd P c Z K r e a w o (λ_=>True):=by obtain ⟨h1,h2⟩:=h.eval x;refine kQ h ?_ h1 h2 hK;rcases ho with ho|ho<;>simp [execOp,ho]
theorem P4 {x:Operand}(ho:o.op= .nilCheck x)(h:b9 c Z e st a w)(hK:agZ (aT c st x) (λs=>bC c st o.dst s K)=some r):Rd P c Z K r e a w o (λ_=>True):=by
 obtain ⟨h1,h2⟩:=h.eval x;unfold agZ at hK;split at hK
 ·rename_i j6;rw [j6] at h1 h2;refine kQ h ?_ (v:=a.eval x) h1 h2 hK;simp only [ah] at h1;simp [execOp,ho,h1]
 ·rename_i j6;rw [j6] at h1 h2;refine kQ h ?_ (v:=a.eval x) h1 h2 hK;simp only [ah] at h1;obtain ⟨bt,q,vs,Gf,h3⟩:=h1;simp [execOp,ho,Gf]
 ·simp at hK
theorem adm {x y z:Operand}(ho:o.op= .pick x y z)(h:b9 c Z e st a w)(hK:YT (aT c st x) (aT c st y) (aT c st z) (λs=>bC c st o.dst s K)=some r):Rd P c Z K r e a w o (λ_=>True):=by
 obtain ⟨hx,_⟩:=h.eval x;obtain ⟨hy,hy2⟩:=h.eval y;obtain ⟨hz,hz2⟩:=h.eval z;have cr: ∀v,a.eval x= .bool v-> ∀w:World,(execOp a.eval o).run P w= .ok (.value (if v then a.eval y else a.eval z)) w:=by intro v hv w;simp [execOp,ho,hv,asBool]
 unfold YT at hK;split at hK
 ·rename_i v hv;have hxv:=Ab (by rw [hv] at hx;exact hx);have hr:=cr v hxv;split at hK
  ·rename_i p q hp hq;rw [hp] at hy;rw [hq] at hz;simp only [Ab hy,Ab hz] at hr;refine kQ h hr ?_ (s:= .sc (.p (.b (bif v then p else q)))) trivial hK;cases v
   ·exact B0 q
   ·exact B0 p
  ·cases v
   ·exact kQ h hr hz hz2 hK
   ·exact kQ h hr hy hy2 hK
 ·simp at hK
theorem adn {op:UnOp}{ty:TypeId}{x:Operand}(ho:o.op= .unOp op ty x)(h:b9 c Z e st a w)(hK:unK op (aT c st x) (λs=>bC c st o.dst s K)=some r):Rd P c Z K r e a w o (λ_=>True):=by
 obtain ⟨hx,_⟩:=h.eval x;generalize aT c st x=s at hx hK;unfold unK at hK;split at hK
 ·refine kQ h ?_ (B0 _) trivial hK;simp [execOp,ho,Ab hx,Op.unary]
 ·refine kQ h ?_ (wR _ _) trivial hK;simp [execOp,ho,o6 hx,Op.unary,aek]
 ·simp at hK
end
end Dn
/-
  The type table; numbers, texts, places, loads. Conditions: none.
-/
namespace Dn
open Go
def Hk:List Kd->Nat
 |[]=>0
 | .h::r=>32+Hk r
 |_::r=>1+Hk r
def wS (ti:Nat->Option TI)(P:Program)(I:TI)(z:Option Value):TypeDesc->Prop
 | .struct fs=>I.st=true/\I.cQ=[]/\(0<I.size/\Hk I.lay=I.size)/\fs.toList.map (·.offset)=I.HW/\fs.toList.map (·.type)=I.Wb/\ (∀(k:Nat) (f:Field),fs[k]? =some f-> ∃J,ti f.type=some J/\J.cQ=[]/\0<J.size)/\ ∃cs,z=some (.agg cs)/\vi I.zero cs.toList=true/\cs.size=I.size
 | .tuple ts=>I.cQ=ts.toList/\I.cQ≠[]/\I.lay=[]/\I.st=false
 | .slice el=>I.st=false/\I.cQ=[]/\I.size=1/\I.elem=el/\(∃E,ti el=some E/\E.cQ=[]/\0<E.size)/\z=some (.slice none 0 0)/\I.zero=[.nil]/\(∃k,I.lay=[k]/\k= .l)
 | .array n el=>I.st=false/\I.cQ=[]/\I.size=32/\n=32/\I.elem=el/\(∃i,P.underlying el=some (.int .u8)/\P.info? el=some i/\i.size=1)/\I.lay=[.h]/\I.zero=[.hs pk.zero]/\z=some (.agg (cc pk.zero).toArray)
 | .bool=>I.st=false/\I.cQ=[]/\I.size=1/\I.lay=[.b]/\I.zero=[.p (.b false)]/\z=some (.bool false)
 | .int k=>I.st=false/\I.cQ=[]/\I.size=1/\I.lay=[.i k]/\I.zero=[.p (.i k 0)]/\z=some (.int k 0)
 | .string=>I.st=false/\I.cQ=[]/\I.size=1/\I.lay=[.s]/\I.zero=[.p (.s [])]/\ ∃b:ByteArray,z=some (.string b)/\b.data.toList=[]
 |_=>I.st=false/\I.cQ=[]/\I.size=1/\I.lay=[.raw]/\ ∃v,z=some v/\v.oneCell'=true/\vi I.zero [v]=true
def rQ (ti:Nat->Option TI)(P:Program)(t:Nat)(I:TI):Prop:=∃d i,P.underlying t=some d/\P.info? t=some i/\(I.cQ=[]->i.size=I.size/\i.bytes=I.bytes)/\wS ti P I i.zero d
def kq (P:Program)(ti:Nat->Option TI):Prop:= ∀t I,ti t=some I->rQ ti P t I
section
variable {P:Program}{c:Ctx}{Z:bI}{e:Env}{st:St}{a:Act}{w:World}{R:Type}{K:St->Option R}{r:R}{Q:Exit->Act->World->Prop}{o:Oper}
theorem ia {x:Bool}{k:Option R}(h:du x k=some r):x=true/\k=some r:=by
 cases x
 ·simp [du] at h
 ·exact ⟨rfl,h⟩
theorem nj {α:Type}{x:Option α}{k:α->Option R}(h:bd x k=some r): ∃y,x=some y/\k y=some r:=by
 cases x with
 |none=>simp [bd] at h
 |some y=>exact ⟨y,rfl,h⟩
theorem P5 {l:List MV}{i:Int}{k:MV->Option R}(h:idx l i k=some r):0<=i/\ ∃y,l[i.toNat]? =some y/\k y=some r:=by
 unfold idx Sz at h;by_cases hi:0<=i
 ·simp only [hi,if_true] at h;cases hl:l[i.toNat]? with
  |none=>simp [hl] at h
  |some y=>exact ⟨hi,y,rfl,by simpa [hl] using h⟩
 ·simp [hi] at h
theorem rQ.agg {ti:Nat->Option TI}{t:Nat}{I:TI}(h:rQ ti P t I)(hc:I.cQ=[]): (∃d,P.underlying t=some d/\d.isRow=true/\(I.st=true\/I.st=false/\I.size=32))\/(∃d,P.underlying t=some d/\d.isRow=false/\I.st=false/\I.size=1):=by
 obtain ⟨d,i,h1,h2,h3,h4⟩:=h;cases d<;>simp only [wS] at h4<;>first
  |exact .inl ⟨_,h1,rfl,.inl h4.1⟩
  |exact .inl ⟨_,h1,rfl,.inr ⟨h4.1,h4.2.2.1⟩⟩
  |exact .inr ⟨_,h1,rfl,h4.1,h4.2.2.1⟩
  |exact absurd hc h4.2.1
theorem rQ.info {ti:Nat->Option TI}{t:Nat}{I:TI}(h:rQ ti P t I)(hc:I.cQ=[]): ∃i,P.info? t=some i/\i.size=I.size/\i.bytes=I.bytes:=by obtain ⟨d,i,h1,h2,h3,h4⟩:=h;exact ⟨i,h2,h3 hc⟩
theorem bG {t:Nat}{I:TI}(h:c.tv t=some I):c.ti t=some I/\I.cQ=[]:=by
 unfold Ctx.tv at h;cases hc:c.ti t with
 |none=>simp [hc] at h
 |some J=>
  cases hj:J.cQ with
  |nil=>simp [hc,hj] at h;subst h;exact ⟨rfl,hj⟩
  |cons x y=>simp [hc,hj] at h
theorem SQ {s t:TypeId}{x:Operand}{I:TI}(ho:o.op= .convert s t x)(hI:c.ti t=some I)(hT:kq P c.ti)(hs: ∃d,P.underlying s=some d){fk:Option FloatKind}(Ij: ∀k,fk=some k->P.underlying t=some (.float k))(h:b9 c Z e st a w)(hK:YU I fk (aT c st x) (λs=>bC c st o.dst s K)=some r):Rd P c Z K r e a w o (λ_=>True):=by
 obtain ⟨hx,_⟩:=h.eval x;obtain ⟨ds,B1⟩:=hs;obtain ⟨d,i,h1,h2,h3,h4⟩:=hT t I hI;generalize aT c st x=s' at hx hK;unfold YU at hK;split at hK
 ·rename_i k k' n iF K6 hl;have hd:d= .int k:=by cases d<;>simp only [wS,hl,iF,K6] at h4<;>simp_all
  subst hd;refine kQ h ?_ (wR _ _) trivial hK;simp [execOp,ho,o6 hx,convert,run_underlying B1,run_underlying h1,Conv.intToInt]
 ·rename_i l iF K6 hl;have hd:d= .string:=by cases d<;>simp only [wS,hl,iF,K6] at h4<;>simp_all
  subst hd;obtain ⟨b,hb,rfl⟩:=Ig hx;refine kQ h ?_ (Zl b) trivial hK;simp [execOp,ho,hb,convert,run_underlying B1,run_underlying h1]
 ·rename_i k x iF K6 hl;have hd:d= .int k:=by cases d<;>simp only [wS,hl,iF,K6] at h4<;>simp_all
  subst hd;obtain ⟨n,hn,hK⟩:=nj hK;obtain ⟨hr,hK⟩:=ia hK;have hr:=of_decide_eq_true hr;refine kQ h ?_ (wR _ _) trivial hK;simp [execOp,ho,xP hx,convert,run_underlying B1,run_underlying h1,Conv.floatToInt,hn,hr]
 ·rename_i k n iF K6 hl;split at hK
  ·have Gf:=Ij _ rfl;refine kQ h ?_ (Ih _ rfl) trivial hK;simp [execOp,ho,o6 hx,convert,run_underlying B1,run_underlying Gf,Conv.intToFloat]
  ·simp at hK
 ·simp at hK
theorem ado {op:BinOp}{k:IntKind}{x y:Int}{m:MV}{t:TypeId}(hm:UX op k x y=some m): ∃v,(∀w:World,(binOp op t (.int k x) (.int k y)).run P w= .ok v w)/\ah e v (.sc (.p m)):=by
 cases op<;>simp only [UX,IT,reduceCtorEq] at hm<;>subst hm
 ·exact ⟨_,by simp [binOp,aek],wR _ _⟩
 ·exact ⟨_,by simp [binOp,aek],wR _ _⟩
 ·exact ⟨_,by simp [binOp,aek],wR _ _⟩
 ·exact ⟨.int k (SA k x y),λw=>by simp [binOp];rfl,wR _ _⟩
 ·exact ⟨.int k (bOr k x y),λw=>by simp [binOp];rfl,wR _ _⟩
 ·exact ⟨.int k (E8 k x y),λw=>by simp [binOp];rfl,wR _ _⟩
 ·refine ⟨.bool (decide (x=y)),λw=> ?_,B0 _⟩;simp [binOp,ad1];rfl
 ·refine ⟨.bool (!decide (x=y)),λw=> ?_,B0 _⟩;simp [binOp,ad1];rfl
 ·exact ⟨.bool (decide (x<y)),by simp [binOp,ad1],B0 _⟩
 ·exact ⟨.bool (decide (x<=y)),by simp [binOp,ad1],B0 _⟩
 ·exact ⟨.bool (decide (y<x)),by simp [binOp,ad1],B0 _⟩
 ·exact ⟨.bool (decide (y<=x)),by simp [binOp,ad1],B0 _⟩
theorem toList_data (b:ByteArray):b.toList=b.data.toList:=by exact ByteArray.toList_eq b
theorem adp {op:BinOp}{x y:ByteArray}{m:MV}{t:TypeId}(hm:NH op x.data.toList y.data.toList=some m): ∃v,(∀w:World,(binOp op t (.string x) (.string y)).run P w= .ok v w)/\ah e v (.sc (.p m)):=by
 have ape:(x.data.toList==y.data.toList)=decide (x.data.toList=y.data.toList):=by rw [Bool.eq_iff_iff];simp
 cases op<;>simp only [NH,IT,reduceCtorEq] at hm<;>subst hm<;> exact ⟨_,λw=>by simp only [binOp,Op.stringOp,toList_data,ape];rfl,B0 _⟩
theorem Wl (b:ByteArray)(n:Nat):b[n]? =b.data.toList[n]? :=by
 by_cases h:n<b.size
 ·have h2:n<b.data.toList.length:=by simpa using h
  rw [getElem?_pos b n h,OF h2];rfl
 ·have h2: ¬n<b.data.toList.length:=by simpa using h
  rw [getElem?_neg b n h,ade (by omega)]
theorem SR (x:pk)(n:Nat)(h:n<32):(cc x)[n]? =some (.int .u8 ((x.l.getD n 0).toNat:Int)):=by
 have hl:n<x.l.length:=by rw [x.h];exact h
 simp [cc,ac0,List.getD,OF hl]
theorem akJ {t:TypeId}{x y:Operand}{I:TI}(ho:o.op= .index t x y)(hI:c.ti t=some I)(hT:kq P c.ti)(h:b9 c Z e st a w)(hK:ixK I (aT c st x) (aT c st y) (λs=>bC c st o.dst s K)=some r):Rd P c Z K r e a w o (λ_=>True):=by
 obtain ⟨hx,_⟩:=h.eval x;obtain ⟨hy,_⟩:=h.eval y;obtain ⟨d,i,h1,h2,h3,h4⟩:=hT t I hI;generalize aT c st x=sx at hx hK;generalize aT c st y=sy at hy hK;unfold ixK at hK;split at hK
 ·rename_i l k n iF hl;have hd:d= .string:=by cases d<;>simp only [wS,hl,iF] at h4<;>simp_all
  subst hd;cases hc:decide ((0:Int)<=n/\n<(l.length:Int)) with
  |false=>simp [du,hc] at hK
  |true=>
   simp only [du,hc] at hK;obtain ⟨Yx,Sr⟩:=of_decide_eq_true hc;obtain ⟨b,hb,rfl⟩:=Ig hx;have cJ:n.toNat<b.data.toList.length:=by omega
   refine kQ h ?_ (wR .u8 ((b.data.toList.getD n.toNat 0).toNat:Int)) trivial hK;have hg:b[n.toNat]? =some (b.data.toList.getD n.toNat 0):=by rw [Wl,OF cJ];simp [List.getD,OF cJ]
   simp [execOp,ho,hb,o6 hy,Instr.index,run_underlying h1,asIntOf,Yx,hg]
 ·simp at hK
def NU (P:Program)(ti:Nat->Option TI):Prop:= ∀t I,ti t=some I->I.cQ=[]-> ∀(e:Env) (w:World) (vx vy:Value) (sx sy:Slot) (b:Bool),ah e vx sx->ah e vy sy-> gk I.lay (aP sx)=true->gk I.lay (aP sy)=true->nK I.st sx=true->nK I.st sy=true->kC (aP sx) (aP sy)=some b-> (∀k n k' n',sx= .sc (.p (.i k n))->sy= .sc (.p (.i k' n'))->False)->(∀l l',sx= .sc (.p (.s l))->sy= .sc (.p (.s l'))->False)-> (agk t vx vy).run P w= .ok b w/\ ∀(x y:Operand) (op:BinOp),(eqGuard op t x y vx vy).run P w= .ok () w/\(op= .eql->binOp op t vx vy=(do pure (.bool (<-agk t vx vy))))/\(op= .neq->binOp op t vx vy=(do pure (.bool (!(<-agk t vx vy)))))
theorem Zm {op:BinOp} {t t':TypeId}{x y:Operand}(ho:o.op= .binOp op t x y t')(h:b9 c Z e st a w)(hE:NU P c.ti)(hK:agY (c.tv t) op (aT c st x) (aT c st y) (λs=>bC c st o.dst s K)=some r):Rd P c Z K r e a w o (λ_=>True):=by
 obtain ⟨hx,_⟩:=h.eval x;obtain ⟨hy,_⟩:=h.eval y;generalize hsx:aT c st x=sx at hx hK;generalize hsy:aT c st y=sy at hy hK;have cr: ∀v,(∀w:World,(binOp op t (a.eval x) (a.eval y)).run P w= .ok v w)->(∀cs,a.eval x≠ .agg cs)->a.eval x≠ .nilIface-> ∀w:World,(execOp a.eval o).run P w= .ok (.value v) w:=by
  intro v hv hna Mi w;have hg:(eqGuard op t x y (a.eval x) (a.eval y)).run P w= .ok () w:=by
   generalize a.eval x=va at hna Mi;generalize a.eval y=vb;have hm: ∀(u v:Value),u=va->(∀cs,u≠ .agg cs)->u≠ .nilIface->(eqGuard op t x y u v).run P w= .ok () w:=by
    intro u v _ h1 h2;cases u<;>first
     |exact absurd rfl h2
     |exact absurd rfl (h1 _)
     |(cases op<;>rfl)
   exact hm va vb rfl hna Mi
  simp [execOp,ho,hg,hv]
 unfold agY at hK;split at hK
 ·rename_i k n k' n';have e1:=o6 hx;have e2:=o6 hy;split at hK
  ·cases hk:decide (k=k') with
   |false=>simp [hk] at hK
   |true=>
    have hk:=of_decide_eq_true hk;subst hk;simp only [decide_true,cond_true] at hK;cases hz:decide (n'=0) with
    |true=>simp [du,hz] at hK
    |false=>simp only [du,hz,af6] at hK;have hz:=of_decide_eq_false hz;refine kQ h (cr _ ?_ (by simp [e1]) (by simp [e1])) (wR _ _) trivial hK;simp [binOp,e1,e2,Op.intDiv,hz]
  ·cases hk:decide (k=k') with
   |false=>simp [hk] at hK
   |true=>
    have hk:=of_decide_eq_true hk;subst hk;simp only [decide_true,cond_true] at hK;cases hz:decide (n'=0) with
    |true=>simp [du,hz] at hK
    |false=>simp only [du,hz,af6] at hK;have hz:=of_decide_eq_false hz;refine kQ h (cr _ ?_ (by simp [e1]) (by simp [e1])) (wR _ _) trivial hK;simp [binOp,e1,e2,Op.intDiv,hz]
  ·cases hz:decide ((0:Int)<=n') with
   |false=>simp [du,hz] at hK
   |true=>
    simp only [du,hz] at hK;have hz:=of_decide_eq_true hz;refine kQ h (cr _ ?_ (by simp [e1]) (by simp [e1])) (wR _ _) trivial hK;have: ¬n'<0:=by omega
    simp [binOp,e1,e2,Op.shift,this]
  ·cases hz:decide ((0:Int)<=n') with
   |false=>simp [du,hz] at hK
   |true=>
    simp only [du,hz] at hK;have hz:=of_decide_eq_true hz;refine kQ h (cr _ ?_ (by simp [e1]) (by simp [e1])) (wR _ _) trivial hK;have: ¬n'<0:=by omega
    simp [binOp,e1,e2,Op.shift,this]
  ·cases hk:decide (k=k') with
   |false=>simp [hk] at hK
   |true=>
    have hk:=of_decide_eq_true hk;subst hk;simp only [decide_true,cond_true] at hK;cases hm:UX op k n n' with
    |none=>simp [hm] at hK
    |some m=>simp only [hm] at hK;obtain ⟨v,hv,hr⟩:=ado (P:=P) (e:=e) (t:=t) hm;exact kQ h (cr v (by rw [e1,e2];exact hv) (by simp [e1]) (by simp [e1])) hr trivial hK
 ·rename_i l l';obtain ⟨b,hb,rfl⟩:=Ig hx;obtain ⟨b',Fg,rfl⟩:=Ig hy;split at hK
  ·obtain ⟨hz,hK⟩:=ia hK
   ·have hz:=of_decide_eq_true hz;have hr:ah e (.string (b++b')) (.sc (.p (.s (b.data.toList++b'.data.toList)))):=by have:=Zl (e:=e) (b++b');simpa [ByteArray.data_append] using this
    refine kQ h (cr _ ?_ (by simp [hb]) (by simp [hb])) hr trivial hK;have hs: ¬(((b.size+b'.size:Nat):Int)>IntKind.i64.max):=by
     have h1:b.size=b.data.toList.length:=by simp
     have h2:b'.size=b'.data.toList.length:=by simp
     have:IntKind.i64.max=9223372036854775807:=by decide
     rw [this];omega
    intro w;simp only [binOp,hb,Fg,Op.stringOp,hs,if_false];rfl
  ·cases hm:NH op b.data.toList b'.data.toList with
   |none=>simp [hm] at hK
   |some m=>simp only [hm] at hK;obtain ⟨v,hv,hr⟩:=adp (P:=P) (e:=e) (t:=t) hm;exact kQ h (cr v (by rw [hb,Fg];exact hv) (by simp [hb]) (by simp [hb])) hr trivial hK
 ·have e1:=xP hx;have e2:=xP hy;obtain ⟨r',hr',hK⟩:=nj hK;refine kQ h (cr _ ?_ (by simp [e1]) (by simp [e1])) (Ih (.float .f64 r') rfl) trivial hK;intro w;cases op<;>simp only [aky,reduceCtorEq] at hr'<;>simp [binOp,e1,e2,Op.floatArith,hr']
 ·rename_i Sr Lk hn3;split at hK
  ·rename_i I hI;obtain ⟨PE,Ac⟩:=bG hI;cases hf:gk I.lay (aP sx)&&gk I.lay (aP sy)&&(nK I.st sx&&nK I.st sy) with
   |false=>simp [hf] at hK
   |true=>
    simp only [hf,cond_true] at hK;simp only [abF] at hf;obtain ⟨hf,Zn⟩:=hf;split at hK
    ·cases hm:kC (aP sx) (aP sy) with
     |none=>simp [hm] at hK
     |some b=>simp only [hm] at hK;refine kQ h ?_ (B0 b) trivial hK;intro w;obtain ⟨h1,h2⟩:=hE t I PE Ac e w _ _ sx sy b hx hy hf.1 hf.2 Zn.1 Zn.2 hm Sr Lk;have:=(h2 x y .eql).1;simp [execOp,ho,this,(h2 x y .eql).2.1 rfl,h1]
    ·cases hm:kC (aP sx) (aP sy) with
     |none=>simp [hm] at hK
     |some b=>simp only [hm] at hK;refine kQ h ?_ (B0 (!b)) trivial hK;intro w;obtain ⟨h1,h2⟩:=hE t I PE Ac e w _ _ sx sy b hx hy hf.1 hf.2 Zn.1 Zn.2 hm Sr Lk;have:=(h2 x y .neq).1;simp [execOp,ho,this,(h2 x y .neq).2.2 rfl,h1]
    ·simp at hK
  ·simp at hK
end
end Dn
/-
  Lengths, parts, places, loads. Conditions: none.
-/
namespace Dn
open Go
section
variable {P:Program}{c:Ctx}{Z:bI}{e:Env}{st:St}{a:Act}{w:World}{R:Type}{K:St->Option R}{r:R}{Q:Exit->Act->World->Prop}{o:Oper}
theorem cell_of {bt:Nat}{arr:Array Value}{T:TypeId}{fr:Nat×Nat}(h:w.heap[bt]? =some (.cells arr T fr))(j:Nat):w.cell? ⟨bt,j,none⟩=arr[j]? :=by simp [World.cell?,h]
theorem pB {t:TypeId}{I:TI}{bt off:Nat}{vs:List Value}(hr:rQ c.ti P t I)(hc:I.cQ=[])(hl:vs.length=I.size)(hm:w.rangeAt bt off vs): ((I.st=true\/I.size=32)/\ ∀w:World,w.rangeAt bt off vs->(adP t (.pointer (some ⟨bt,off,none⟩))).run P w= .ok (.agg vs.toArray) w)\/ (I.st=false/\ ∃v,vs=[v]/\ ∀w:World,w.rangeAt bt off vs->(adP t (.pointer (some ⟨bt,off,none⟩))).run P w= .ok v w):=by
 obtain ⟨i,hi,hs,_⟩:=hr.info hc;rcases hr.agg hc with ⟨d,hu,hd,hh⟩|⟨d,hu,hd,h1,h2⟩
 ·refine .inl ⟨hh.imp id (·.2),λw hm=> ?_⟩;exact run_loadAt_mid w bt off t vs d hm hu hd (by simp [hi,hs,hl])
 ·refine .inr ⟨h1,?_⟩;rw [h2] at hl;obtain ⟨v,rfl⟩:=aeb.1 hl;refine ⟨v,rfl,λw hm=> ?_⟩;have sN:w.cell? ⟨bt,off,none⟩=some v:=hm 0 v rfl;have hag:(isAgg t).run P w= .ok false w:=by unfold isAgg;rw [Sem.run_bind,run_underlying hu w];cases d<;>simp_all
  simp [adP,aer,loadVar,hag,sN]
theorem aX.slot {vs:List Value}{l:aE}{v:Value}(h:aX e vs l)(hv:(vs=[v]/\l.w=1)\/(v= .agg vs.toArray/\l.w=32)):ah e v (.sc l):=by
 rcases hv with ⟨rfl,hw⟩|⟨rfl,hw⟩
 ·cases l<;>simp [ah,aE.w] at hw⊢ <;>exact h
 ·cases l<;>simp [aE.w] at hw;simp only [ah];have:vs=cc _:=h;rw [this]
theorem jI {t:TypeId}{I:TI}{cs:List aE}{bt base off:Nat}{vs:List Value}{s:Slot} {K':Slot->Option R}(hr:rQ c.ti P t I)(hc:I.cQ=[])(hv:ay e vs cs)(hm:w.rangeAt bt base vs)(hK:mD I cs off K'=some r): ∃v s,(∀w:World,w.rangeAt bt base vs->(adP t (.pointer (some ⟨bt,base+off,none⟩))).run P w= .ok v w)/\ah e v s/\dc st.fr s/\K' s=some r:=by
 unfold mD at hK;cases iF:I.st with
 |true=>
  simp only [iF,cond_true] at hK;cases hp:Dn.part cs off I.size with
  |none=>simp [hp] at hK
  |some ds=>
   simp only [hp] at hK;obtain ⟨v1,v2,v3,rfl,h1,h2,h3⟩:=Wj hp hv;have PF: ∀w:World,w.rangeAt bt base (v1++v2++v3)->w.rangeAt bt (base+off) v2:=by intro w hm j v hj;have SS:j<v2.length:=(BY.1 hj).1;have:=hm (off+j) v (by rw [AT,abz (by omega),aaU (by omega)];rw [show off+j-v1.length=j by omega];exact hj);rwa [<-adl] at this
   rcases pB hr hc h2 (PF w hm) with ⟨_,cr⟩|⟨hf,_⟩
   ·refine ⟨_,.ag ds,λw hm=>cr w (PF w hm),?_,trivial,hK⟩;simp only [ah];exact ⟨_,rfl,by simpa using h3⟩
   ·rw [iF] at hf;cases hf
 |false=>
  simp only [iF,cond_false] at hK;cases hp:cut cs off with
  |none=>simp [hp] at hK
  |some ds=>
   cases ds with
   |nil=>simp [hp] at hK
   |cons l ls=>
    simp only [hp] at hK;cases hb:cV l.w I.size with
    |false=>simp [hb] at hK
    |true=>
     simp only [hb,cond_true] at hK;have hw:=sh hb;obtain ⟨v1,v2,rfl,h1,h2⟩:=PZ hp hv;obtain ⟨u,u2,rfl,h3,h4⟩:=h2;have PF: ∀w:World,w.rangeAt bt base (v1++(u++u2))->w.rangeAt bt (base+off) u:=by intro w hm j v hj;have SS:j<u.length:=(BY.1 hj).1;have:=hm (off+j) v (by rw [abz (by omega),aaU (by omega)];rw [show off+j-v1.length=j by omega];exact hj);rwa [<-adl] at this
     rcases pB hr hc (by rw [h3.width,hw]) (PF w hm) with ⟨hh,cr⟩|⟨_,v,Ss,cr⟩
     ·refine ⟨_,.sc l,λw hm=>cr w (PF w hm),h3.slot (.inr ⟨rfl,?_⟩),trivial,hK⟩;rcases hh with hh|hh
      ·rw [iF] at hh;cases hh
      ·rw [hw,hh]
     ·refine ⟨_,.sc l,λw hm=>cr w (PF w hm),h3.slot (.inl ⟨Ss,?_⟩),trivial,hK⟩;rw [<-h3.width,Ss];rfl
theorem bA.at {key:Nat->Nat} {φ:Ph}{size:Nat}{xs:List MV}: ∀{cs:List Value} {i:Nat} {x:MV},bA key φ size cs xs->xs[i]? =some x-> ∃a v b,cs=a++v++b/\a.length=i *size/\v.length=size/\jz key φ v x:=by
 induction xs with
 |nil=>intro cs i x _ hx;simp at hx
 |cons y ys ih=>
  intro cs i x h hx;obtain ⟨v,q,rfl,hl,hr,he⟩:=h;cases i with
  |zero=>simp at hx;subst hx;exact ⟨[],v,q,by simp,by simp,hl,hr⟩
  |succ i=>obtain ⟨a,u,b,rfl,h1,h2,h3⟩:=ih he (by simpa using hx);exact ⟨v++a,u,b,by simp,by simp [hl,h1,acZ,afM],h2,h3⟩
theorem jd.leaves {ms:List MV}: ∀{vs:List Value} {cs:List aE},jd e.key e.φ vs ms->bS cs=some ms->(∀m,aE.p m∈cs->m.one=true)->ay e vs cs:=by
 induction ms with
 |nil=>
  intro vs cs h hc _;cases h;cases cs with
  |nil=>rfl
  |cons l r=>cases hr:bS r<;>cases l<;>simp [bS,hr] at hc
 |cons m ms ih=>
  intro vs cs h hc ho;cases cs with
  |nil=>simp [bS] at hc
  |cons l r=>
   generalize Bq:vs=Su at h;cases h with
   |cons v _ vs _ h1 h2=>
   subst Bq;cases hr:bS r with
   |none=>cases l<;>simp [bS,hr] at hc
   |some q=>
    have cU: ∀m,aE.p m∈r->m.one=true:=λm hm=>ho m (by simp [hm]);cases l<;>simp [bS,hr] at hc
    ·obtain ⟨rfl,rfl⟩:=hc;exact ⟨v,vs,rfl,⟨ho _ (by simp),h1⟩,ih h2 hr cU⟩
    ·obtain ⟨rfl,rfl⟩:=hc;refine ⟨v,vs,rfl,?_,ih h2 hr cU⟩;generalize hv:v=v' at h1;cases h1;exact rfl
theorem jz.Ik {vs:List Value}{x:MV}{b:Bool}{cs:List aE}(h:jz e.key e.φ vs x)(hc:H8 b x cs):ay e vs cs:=by
 obtain ⟨⟨ms,h1,h2⟩,h3⟩:=hc;cases b with
 |true=>cases ms<;>simp [wc] at h2<;>subst h2<;>(generalize hv:vs=v' at h;cases h;subst hv;rename_i hh;exact hh.leaves h1 h3)
 |false=>
  cases ms with
  |nil=>simp [wc] at h2
  |cons m ms=>
   cases ms with
   |cons y ys=>simp [wc] at h2
   |nil=>simp [wc] at h2;subst h2;have:jd e.key e.φ (vs++[]) [m]:= .cons vs m [] [] h .nil;rw [List.append_nil] at this;exact this.leaves h1 h3
theorem Zo {t:TypeId}{x:Operand}{I:TI}{cs:List aE}{off:Nat}(ho:o.op= .load t x)(hI:c.tv t=some I)(hT:kq P c.ti)(h:b9 c Z e st a w)(K7:aT c st x= .rp cs off)(hK:mD I cs off (λs=>bC c st o.dst s K)=some r):Rd P c Z K r e a w o (λw'=> ∀b q v,e.φ b q=some v->w'.cell? ⟨b,q,none⟩=some v):=by
 obtain ⟨hx,sM⟩:=h.eval x;obtain ⟨nV,hc⟩:=bG hI;have hr:=hT t I nV;rw [K7] at hx;simp only [ah] at hx;obtain ⟨bt,q,vs,hx,tF,_,Fh⟩:=hx;have hm: ∀w':World,(∀b q v,e.φ b q=some v->w'.cell? ⟨b,q,none⟩=some v)->w'.rangeAt bt q vs:=by intro w' hi j v hj;have SS:j<vs.length:=(BY.1 hj).1;exact hi _ _ _ (by rw [Fh j SS];exact hj)
 obtain ⟨v,s,h1,h2,h3,h4⟩:=jI (st:=st) (s:= .skip) hr hc tF (hm w h.kP) hK;refine SP (λw' hi=> ?_) h (.refl _ _ _) (.of h2 h3) h4;simp [execOp,ho,hx,h1 w' (hm w' hi)]
theorem adq {t:TypeId}{x:Operand}{I:TI}(ho:o.op= .load t x)(hI:c.tv t=some I)(hT:kq P c.ti)(h:b9 c Z e st a w)(hK:ldK st I (aT c st x) (λs=>bC c st o.dst s K)=some r):Rd P c Z K r e a w o (dN w):=by
 obtain ⟨hx,sM⟩:=h.eval x;obtain ⟨nV,hc⟩:=bG hI;have hr:=hT t I nV;have ahb: ∀v s,(∀w':World,dN w w'->(adP t (a.eval x)).run P w'= .ok v w')->ah e v s->dc st.fr s->bC c st o.dst s K=some r->Rd P c Z K r e a w o (dN w):=by intro v s h1 h2 h3 h4;refine SP (λw' hg=> ?_) h (.refl _ _ _) (.of h2 h3) h4;simp [execOp,ho,h1 w' hg]
 have keep: ∀{w':World} {bt off:Nat} {vs:List Value},dN w w'->w.rangeAt bt off vs->w'.rangeAt bt off vs:=by intro w' bt off vs hg hm j v hj;exact hg.cell (hm j v hj)
 generalize aT c st x=s at hx hK sM;unfold ldK at hK;split at hK
 ·rename_i root off;simp only [ah] at hx;have qv:=h.slot root;split at hK
  ·rename_i cs CV;rw [CV] at qv;have xQ:iW cs=false:=by cases hq:iW cs<;>simp_all
   simp only [xQ,cond_false] at hK;obtain ⟨_,uZ⟩:=qv;obtain ⟨arr,T,fG,tF⟩:=uZ.cells xQ;have hm:w.rangeAt (e.B root) 0 arr.toList:=by intro j v hj;rw [abC,cell_of fG];simpa using hj
   obtain ⟨v,s,h1,h2,h3,h4⟩:=jI (st:=st) (s:= .skip) hr hc tF hm hK;rw [abC] at h1;exact ahb v s (λw' hg=>by rw [hx];exact h1 w' (keep hg hm)) h2 h3 h4
  ·simp at hK
 ·rename_i cs off;simp only [ah] at hx;obtain ⟨bt,q,vs,hx,tF,_,Fh⟩:=hx;have hm:w.rangeAt bt q vs:=by intro j v hj;have SS:j<vs.length:=(BY.1 hj).1;exact h.kP _ _ _ (by rw [Fh j SS];exact hj)
  obtain ⟨v,s,h1,h2,h3,h4⟩:=jI (st:=st) (s:= .skip) hr hc tF hm hK;exact ahb v s (λw' hg=>by rw [hx];exact h1 w' (keep hg hm)) h2 h3 h4
 ·rename_i f i off b cs;cases hf:aQ st.bo f with
  |none=>simp [hf] at hK
  |some o'=>
   simp only [hf] at hK;simp only [ah] at hx;obtain ⟨bt,cap,hE,⟨x,hxi,hel⟩,hx⟩:=hx o' (by rw [h.m];exact hf);obtain ⟨J,cells,hJ,hJc,eW,nk,_⟩:=(h.iC f o' hf).row;obtain ⟨p1,v1,p2,rfl,NV,y9,ic⟩:=nk.at hxi;have tF:=ic.Ik hel;rw [hE] at eW;have sN:=eW.cells (g:=bt) rfl;have hm:w.rangeAt bt (i *zU cs) v1:=by intro j v hj;have SS:j<v1.length:=(BY.1 hj).1;have:=sN (i *J.size+j) v (by rw [AT,abz (by omega),aaU (by omega)];rw [show i *J.size+j-p1.length=j by omega];exact hj);rw [ac8,abC] at this;rw [<-tF.width,y9];exact this
   obtain ⟨v,s,h1,h2,h3,h4⟩:=jI (st:=st) (s:= .skip) hr hc tF hm hK;exact ahb v s (λw' hg=>by rw [hx];exact h1 w' (keep hg hm)) h2 h3 h4
 ·simp at hK
theorem Wm {t:TypeId}{x:Operand}{f:Nat}{I:TI}(ho:o.op= .fieldAddr t x f)(hI:c.tv t=some I)(hT:kq P c.ti)(h:b9 c Z e st a w)(hK:YW st I f (aT c st x) (λs=>bC c st o.dst s K)=some r):Rd P c Z K r e a w o (λ_=>True):=by
 obtain ⟨hx,sM⟩:=h.eval x;obtain ⟨nV,hc⟩:=bG hI;obtain ⟨d,i,h1,h2,h3,h4⟩:=hT t I nV;have key: ∀q bt off,I.st=true->I.HW[f]? =some q->a.eval x= .pointer (some ⟨bt,off,none⟩)-> ∀w:World,(execOp a.eval o).run P w= .ok (.value (.pointer (some ⟨bt,off+q,none⟩))) w:=by
  intro q bt off iF hq hv w;cases d<;>simp only [wS] at h4;case struct fs=>
   obtain ⟨_,_,_,Wn,cU,P6,_⟩:=h4;rw [<-Wn,ac0] at hq;cases hf:fs.toList[f]? with
   |none=>simp [hf] at hq
   |some fl=>
    simp [hf] at hq;subst hq;have Zp:fs[f]? =some fl:=by simpa using hf
    obtain ⟨J,hJ,hJc,hJs⟩:=P6 f fl Zp;obtain ⟨ij,hij,hs,_⟩:=(hT _ _ hJ).info hJc;have hz:ij.size≠0:=by omega
    simp [execOp,ho,hv,Instr.fieldAt,run_underlying h1,Zp,aer,fieldPlace,ac2,typeInfo,hij,hz,ac8]
  all_goals (exfalso;simp_all)
 generalize aT c st x=s at hx hK sM;unfold YW at hK;split at hK
 ·rename_i q r' o' iF hq;simp only [ah] at hx;refine kQ (s:= .ptr r' (o'+q)) h (key q _ _ iF hq hx) ?_ sM hK;simp only [ah]
 ·rename_i q cs o' iF hq;simp only [ah] at hx;obtain ⟨bt,b,vs,hx,hh⟩:=hx;refine kQ (s:= .rp cs (o'+q)) h (key q _ _ iF hq hx) ?_ trivial hK;simp only [ah];exact ⟨bt,b,vs,by rw [adl],hh⟩
 ·rename_i q g i' o' b cs iF hq;cases hf:aQ st.bo g with
  |none=>simp [hf] at hK
  |some w'=>simp only [hf] at hK;simp only [ah] at hx;obtain ⟨bt,cap,h5,h6,h7⟩:=hx w' (by rw [h.m];exact hf);refine kQ (s:= .ep g i' (o'+q) b cs) h (key q _ _ iF hq h7) ?_ trivial hK;simp only [ah];intro o2 cU;rw [h.m,hf] at cU;cases cU;exact ⟨bt,cap,h5,h6,by rw [adl]⟩
 ·simp at hK
theorem Wo {cs:List aE}: ∀{vs:List Value} {k:Nat} {l:aE},ay e vs cs->DA cs k=some l-> ∃v,vs[k]? =some v/\ah e v (.sc l):=by
 induction cs with
 |nil=>intro vs k l _ hk;simp [DA] at hk
 |cons x xs ih=>
  intro vs k l hr hk;obtain ⟨v0,q,rfl,h1,h2⟩:=hr;have hw:=h1.width;have hx:x.w=1/\(k=0->x=l)/\(∀j,k=j+1->DA xs j=some l)/\ ∀y,x≠ .hs y:=by cases x<;>cases k<;>simp [DA,aE.w] at hk⊢ <;>exact hk
  obtain ⟨w1,w2,w3,w4⟩:=hx;rw [w1] at hw;obtain ⟨u,rfl⟩:=aeb.1 hw;cases k with
  |zero=>have:=w2 rfl;subst this;refine ⟨u,rfl,?_⟩;cases x<;>first|(simp [ah];done)|exact absurd rfl (w4 _)|(simp only [ah];exact h1)
  |succ j=>obtain ⟨v,g1,g2⟩:=ih h2 (w3 j rfl);exact ⟨v,by simpa using g1,g2⟩
theorem ahc {x:Operand}{k:Nat}(ho:o.op= .extract x k)(h:b9 c Z e st a w)(hK:ag2 (aT c st x) k (λs=>bC c st o.dst s K)=some r):Rd P c Z K r e a w o (λ_=>True):=by
 obtain ⟨hx,sM⟩:=h.eval x;generalize aT c st x=s at hx hK;unfold ag2 at hK;split at hK
 ·rename_i cs;simp only [ah] at hx;obtain ⟨arr,hv,hs⟩:=hx;cases hk:DA cs k with
  |none=>simp [hk] at hK
  |some l=>
   simp only [hk] at hK;obtain ⟨v,Gg,h1⟩:=Wo hs hk;have hv3:arr[k]? =some v:=by simpa using Gg
   refine kQ h ?_ h1 trivial hK;simp [execOp,ho,hv,Instr.extract,hv3]
 ·rename_i vs;simp only [ah] at hx;obtain ⟨arr,hv,hs⟩:=hx;cases hk:vs[k]? with
  |none=>simp [hk] at hK
  |some s=>
   simp only [hk] at hK;have: ∀(k:Nat) (vs:List Slot) (l:List Value),lu e l vs->vs[k]? =some s-> ∃v,l[k]? =some v/\ah e v s/\Cd s=true:=by
    intro k;induction k with
    |zero=>
     intro vs l hl hk;cases vs with
     |nil=>simp at hk
     |cons y ys=>simp at hk;subst hk;simp only [lu] at hl;obtain ⟨v,q,rfl,h1,h2,_⟩:=hl;exact ⟨v,rfl,h1,h2⟩
    |succ k ih=>
     intro vs l hl hk;cases vs with
     |nil=>simp at hk
     |cons y ys=>simp only [lu] at hl;obtain ⟨v,q,rfl,_,_,h3⟩:=hl;obtain ⟨u,h4,h5⟩:=ih ys q h3 (by simpa using hk);exact ⟨u,by simpa using h4,h5⟩
   obtain ⟨v,Gg,h1,h2⟩:=this k vs arr.toList hs hk;have hv3:arr[k]? =some v:=by simpa using Gg
   refine kQ h ?_ h1 ?_ hK
   ·simp [execOp,ho,hv,Instr.extract,hv3]
   ·cases s<;>simp [Cd] at h2<;>trivial
 ·simp at hK
end
end Dn
/-
  Operations that make memory: variables. Conditions: none.
-/
namespace Dn
open Go
section
variable {P:Program}{c:Ctx}{Z:bI}{e:Env}{st:St}{a:Act} {w w':World}{R:Type}{K:St->Option R}{r:R}{Q:Exit->Act->World->Prop}{o:Oper}
theorem dN.refl (w:World):dN w w:=⟨aaP _,λ_ _=>rfl,.refl _⟩
theorem dN.alloc (w:World)(cs:Array Value)(t:TypeId):dN w (w.alloc (.cells cs t)):=⟨by simp,λb hb=>s7 w _ b hb,.alloc w cs t⟩
theorem dN.apf (g:dN w w'){base:Nat}{t:TypeId}{size:Nat}{v:Value}{n:Nat}{xs:List Value}(h:w.ownsRow base t size v n xs):w'.ownsRow base t size v n xs:=by
 refine ⟨h.1,?_⟩;rcases h.2 with h|⟨b,cap,fI,h1,h2,h3,h4⟩
 ·exact .inl h
 ·exact .inr ⟨b,cap,fI,h1,h2,by rw [g.qA b (aZ h3)];exact h3,h4⟩
theorem vj.grow (g:dN w w'){bt:Nat}{cs:List aE}(h:vj Z e w bt cs):vj Z e w' bt cs:=by obtain ⟨o,h1,h2⟩:=h.obj;exact ⟨h.cS,⟨o,by rw [g.qA _ (aZ h1)];exact h1,h2⟩,h.free⟩
theorem cT.grow (g:dN w w'){v:Value}{f:pn}(h:cT c Z e w v f):cT c Z e w' v f:=by obtain ⟨I,cells,h1,h2,h3,h4,h5⟩:=h.row;exact ⟨I,cells,h1,h2,g.apf h3,h4,h5⟩
theorem b9.grow (g:dN w w')(h:b9 c Z e st a w):b9 c Z e st a w':=by refine ⟨h.defers,h.size,h.m,h.key,h.nodup,?_,h.root,λf o ho=>(h.iC f o ho).grow g,h.bb,h.bf,h.ff,λb o v hv=>g.cell (h.kP b o v hv),λb hb=>h.cS b (adN g.size hb)⟩;intro t;have hs:=h.slot t;generalize av st.fr t=s at hs;cases s<;>simp only [cn] at hs⊢ <;>first|exact hs|exact ⟨hs.1,hs.2.grow g⟩
theorem dN.trans (g:dN w w')(hz: ∀b,w.heap.size<=b->Z b) (φ:Ph):Trans Z φ w φ w':=⟨.refl φ,λb _ hl=>g.qA b hl,λ_ _ _=>rfl,g.size,g.rest⟩
theorem Wp {l:aE}{vs:List Value}(h:Y8 l vs=true):aX e vs l:=by
 unfold Y8 at h;split at h
 ·simp at h;subst h;exact ⟨rfl,.b _⟩
 ·simp at h;obtain ⟨rfl,rfl⟩:=h;exact ⟨rfl,.i _ _⟩
 ·simp at h;subst h;exact ⟨rfl,.s _⟩
 ·split at h
  ·exact ⟨rfl,.raw _ rfl⟩
  ·exact ⟨rfl,.raw _ rfl⟩
  ·exact ⟨rfl,.raw _ rfl⟩
  ·simp at h
 ·rfl
 ·exact ⟨_,rfl,h⟩
 ·rename_i x;simp only [abF,beq_iff_eq] at h;obtain ⟨h1,h2⟩:=h;show vs=cc x;apply List.ext_getElem?;intro j;by_cases hj:j<32
  ·rw [SR x j hj];have hjv:j<vs.length:=by omega
   have Gi:j<x.l.length:=by rw [x.h];exact hj
   rw [afS] at h2;have hm:(vs[j],x.l[j])∈vs.zip x.l:=aet.2 ⟨j,by simp;omega,by simp⟩;have:=h2 _ hm;rw [OF hjv];dsimp only at this;split at this
   ·rename_i n hn;rw [hn,of_decide_eq_true this];simp [List.getD,OF Gi]
   ·simp at this
  ·rw [ade (by omega),ade (by rw [gX];omega)]
 ·simp at h
theorem mG {ls:List aE}: ∀{vs:List Value},vi ls vs=true->ay e vs ls:=by
 induction ls with
 |nil=>intro vs h;simpa [vi,ay] using h
 |cons l r ih=>intro vs h;simp only [vi,abF] at h;exact ⟨vs.take l.w,vs.drop l.w,by simp,Wp h.1.1,ih h.1.2⟩
theorem ay.Ce {cs:List aE}{vs:List Value}(h:ay e vs cs):iW cs=false:=by
 cases hm:iW cs with
 |false=>rfl
 |true=>obtain ⟨s,ms,rfl⟩:=NQ hm;obtain ⟨_,_,_,h1,_⟩:=h;exact h1.elim
theorem P7 (h:b9 c Z e st a w)(off:Nat):e.φ w.heap.size off=none:=by
 cases hp:e.φ w.heap.size off with
 |none=>rfl
 |some v=>have:=abG w _ (h.kP _ _ _ hp);simp at this
theorem HL (h:b9 c Z e st a w):(∀t kR,av st.fr t= .box kR->e.B t≠w.heap.size)/\(∀f o,aQ st.bo f=some o->(e.E f).ownBlock≠some w.heap.size):=by
 refine ⟨?_,?_⟩
 ·intro t kR ht;have hs:=h.slot t;rw [ht] at hs;obtain ⟨o,h1,_⟩:=hs.2.obj;have:=aZ h1;omega
 ·intro f o ho hk;obtain ⟨I,cells,h1,h2,h3,h4,h5⟩:=(h.iC f o ho).row;rcases h3.2 with ⟨hv,_⟩|⟨g,cap,fI,hv,_,hg,_⟩
  ·rw [hv] at hk;simp [aau] at hk
  ·rw [hv] at hk;simp only [aau,IT] at hk;have:=aZ hg;omega
theorem U2 {cells:Array Value}{T:TypeId}{cs:List aE}(h:b9 c Z e st a w)(hl:ay e cells.toList cs): qK Z e (w.alloc (.cells cells T)) st (.pointer (some ⟨w.heap.size,0,none⟩)) (.box cs):=by exact ⟨w.heap.size,by rw [ue hl.Ce],⟨h.cS _ (aaP _),⟨_,iD w _,rfl,hl⟩,P7 h⟩,(HL h).1,(HL h).2⟩
theorem Zq {t:TypeId}{I:TI}(ho:o.op= .alloc t)(hI:c.tv t=some I)(hT:kq P c.ti)(h:b9 c Z e st a w)(hK:bC c st o.dst (.box I.zero) K=some r):o.wp P a w (λa' w'=>dN w w'/\Out c Z K r e.φ w a' w') Q:=by
 obtain ⟨nV,hc⟩:=bG hI;obtain ⟨d,i,h1,h2,h3,h4⟩:=hT t I nV;have hz: ∃z,i.zero=some z/\ay e z.cells.toList I.zero:=by
  cases d<;>simp only [wS] at h4;case struct fs=>obtain ⟨_,_,_,_,_,_,cs,hz,hl,_⟩:=h4;exact ⟨_,hz,by simpa [abJ] using mG hl⟩
  case tuple ts=>exact absurd hc h4.2.1
  case slice el=>obtain ⟨_,_,_,_,_,hz,hl,_⟩:=h4;exact ⟨_,hz,by rw [hl];exact ⟨[.slice none 0 0],[],rfl,rfl,rfl⟩⟩
  case array n el=>obtain ⟨_,_,_,_,_,_,_,hl,hz⟩:=h4;exact ⟨_,hz,by rw [hl];exact ⟨cc pk.zero,[],by simp [abJ],rfl,rfl⟩⟩
  case bool=>obtain ⟨_,_,_,_,hl,hz⟩:=h4;exact ⟨_,hz,by rw [hl];exact ⟨[.bool false],[],rfl,⟨rfl,.b _⟩,rfl⟩⟩
  case int k=>obtain ⟨_,_,_,_,hl,hz⟩:=h4;exact ⟨_,hz,by rw [hl];exact ⟨[.int k 0],[],rfl,⟨rfl,.i _ _⟩,rfl⟩⟩
  case string=>obtain ⟨_,_,_,_,hl,b,hz,hb⟩:=h4;refine ⟨_,hz,by rw [hl];refine ⟨[.string b],[],rfl,⟨rfl,?_⟩,rfl⟩;rw [<-hb];exact .s b⟩
  all_goals
   obtain ⟨_,_,_,_,v,hz,hv,hl⟩:=h4;refine ⟨v,hz,?_⟩;have:v.cells.toList=[v]:=by cases v<;>simp_all [abJ,aaK]
   rw [this];exact mG hl
 obtain ⟨z,hz,hl⟩:=hz;have cr:(execOp a.eval o).run P w= .ok (.value (.pointer (some ⟨w.heap.size,0,none⟩))) (w.alloc (.cells z.cells t)):=by simp [execOp,ho,Instr.alloc,zeroValue,typeInfo,h2,hz,newVar,newRow,newObj,Sem.run]
 exact Wk (.alloc w _ _) cr (h.grow (.alloc w _ _)) ((dN.alloc w _ _).trans h.cS _) (U2 h hl) hK
theorem ahd {t:TypeId}{x:Operand}{I:TI}(ho:o.op= .box t x)(h:b9 c Z e st a w)(hK:ag0 I (aT c st x) (λs=>bC c st o.dst s K)=some r):o.wp P a w (λa' w'=>dN w w'/\Out c Z K r e.φ w a' w') Q:=by
 obtain ⟨hx,sM⟩:=h.eval x;have cr:(execOp a.eval o).run P w= .ok (.value (.pointer (some ⟨w.heap.size,0,none⟩))) (w.alloc (.cells (a.eval x).cells t)):=by simp [execOp,ho,Instr.box,newVar,newRow,newObj,Sem.run]
 have go: ∀cs,ay e (a.eval x).cells.toList cs->bC c st o.dst (.box cs) K=some r->o.wp P a w (λa' w'=>dN w w'/\Out c Z K r e.φ w a' w') Q:=λcs h1 h2=>Wk (.alloc w _ _) cr (h.grow (.alloc w _ _)) ((dN.alloc w _ _).trans h.cS _) (U2 h h1) h2;generalize aT c st x=s at hx hK sM;unfold ag0 at hK;split at hK
 ·rename_i l;cases hb:I.st||PQ l||!cV l.w I.size with
  |true=>simp [hb] at hK
  |false=>
   simp only [hb,cond_false] at hK;refine go [l] ?_ hK;cases l with
   |un=>simp [PQ] at hb
   |hs y=>simp only [ah] at hx;rw [hx];exact ⟨cc y,[],by simp [abJ],rfl,rfl⟩
   |p m=>
    simp only [ah] at hx;have:(a.eval x).cells.toList=[a.eval x]:=by have:=hx.cells (a.eval x) (by simp);generalize a.eval x=v at this;cases v<;>simp_all [abJ,aaK]
    rw [this];exact ⟨_,[],rfl,hx,rfl⟩
   |nil=>simp only [ah] at hx;have Hl:[a.eval x]=[acX none 0 0]:=hx;simp at Hl;rw [Hl];exact ⟨[.slice none 0 0],[],rfl,rfl,rfl⟩
   |mp s es=>simp [PQ] at hb
   |own f=>
    simp only [ah] at hx;have:(a.eval x).cells.toList=[a.eval x]:=by have:=hx.cells (a.eval x) (by simp);generalize a.eval x=v at this;cases v<;>simp_all [abJ,aaK]
    rw [this];exact ⟨_,[],rfl,hx,rfl⟩
 ·rename_i cs;cases hb:I.st&&!wP cs&&cV (zU cs) I.size with
  |false=>simp [hb] at hK
  |true=>simp only [hb,cond_true] at hK;simp only [ah] at hx;obtain ⟨arr,hx,hl⟩:=hx;exact go cs (by rw [hx];exact hl) hK
 ·simp at hK
end
end Dn
/-
  Stores into variables. Conditions: none.
-/
namespace Dn
open Go
section
variable {P:Program}{c:Ctx}{Z:bI}{e:Env}{st:St}{a:Act} {w w':World}{R:Type}{K:St->Option R}{r:R}{Q:Exit->Act->World->Prop}{o:Oper}
theorem setRow_size (w:World)(g:Nat)(cs:Array Value):(w.setRow g cs).heap.size=w.heap.size:=by simp [aga]
structure Zr (g:Nat) (w w':World):Prop where
 size:w'.heap.size=w.heap.size
 other: ∀b,b≠g->w'.heap[b]? =w.heap[b]?
 rest:Rest w w'
theorem Zr.setRow (w:World)(g:Nat)(cs:Array Value):Zr g w (w.setRow g cs):=⟨setRow_size _ _ _,λb hb=>setRow_other _ _ _ _ hb,.setRow _ _ _⟩
theorem P8 {g:Nat}(hc:Zr g w w'){base:Nat}{t:TypeId}{size:Nat}{v:Value}{n:Nat}{xs:List Value}(di:v.ownBlock≠some g)(h:w.ownsRow base t size v n xs):w'.ownsRow base t size v n xs:=by
 refine ⟨h.1,?_⟩;rcases h.2 with h|⟨b,cap,fI,h1,h2,h3,h4⟩
 ·exact .inl h
 ·refine .inr ⟨b,cap,fI,h1,h2,?_,h4⟩;rw [hc.other _ (by intro e;subst e;subst h1;exact di rfl)];exact h3
theorem SU {g:Nat}{cs:Array Value}{base:Nat}{t:TypeId}{size:Nat}{v:Value}{n:Nat}{xs:List Value}(di:v.ownBlock≠some g)(h:w.ownsRow base t size v n xs):(w.setRow g cs).ownsRow base t size v n xs:=P8 (.setRow w g cs) di h
theorem b9.setObj {root:Nat}{cs kR:List aE} {o':Obj}{qJ:Fr}(h:b9 c Z e st a w)(hf:av st.fr root= .box cs)(Mj:Zr (e.B root) w w')(wh:w'.heap[e.B root]? =some o')(hl:lc e o' kR)(Wq:mC kR=mC cs)(Fi: ∀t,av qJ t=if t=root then .box kR else av st.fr t)(hnd:(aU qJ).Nodup):b9 c Z e {st with fr:=qJ} a w':=by
 have rR:=Mj.size;have pA:=h.slot root;rw [hf] at pA;refine ⟨h.defers,h.size,h.m,h.key,hnd,?_,?_,?_,?_,?_,h.ff,?_,λb hb=>h.cS b (by omega)⟩
 ·intro t;show cn Z e _ t _ (av qJ t);rw [Fi];by_cases ht:t=root
  ·subst ht;simp only [if_true,cn];exact ⟨pA.1.mC Wq,⟨pA.2.cS,⟨o',wh,hl⟩,pA.2.free⟩⟩
  ·simp only [ht,if_false];have hs:=h.slot t;have uf:=h.bb t root;generalize hg:av st.fr t=s at hs uf;cases s<;>simp only [cn] at hs⊢ <;>try exact hs
   rename_i qw;refine ⟨hs.1,hs.2.cS,?_,hs.2.free⟩;obtain ⟨o2,h1,h2⟩:=hs.2.obj;exact ⟨o2,by rw [Mj.other _ (uf qw cs rfl hf ht)];exact h1,h2⟩
 ·intro t;show dc qJ (av qJ t);rw [Fi];by_cases ht:t=root
  ·simp [ht,dc]
  ·simp only [ht,if_false];have hr:=h.root t;generalize av st.fr t=s at hr;cases s<;>simp only [dc] at hr⊢ <;>(rw [Fi];split<;>simp_all [dy])
 ·intro f o ho;obtain ⟨I,cells,h1,h2,h3,h4,h5⟩:=(h.iC f o ho).row;exact ⟨I,cells,h1,h2,P8 Mj (h.bf root cs f o hf ho) h3,h4,h5⟩
 ·intro t t' c1 c2 h1 h2 di;have h1:av qJ t= .box c1:=h1;have h2:av qJ t'= .box c2:=h2;rw [Fi] at h1 h2;by_cases ht:t=root
  ·by_cases DG:t'=root
   ·exact absurd (ht.trans DG.symm) di
   ·simp only [DG,if_false] at h2;rw [ht];exact h.bb root t' cs c2 hf h2 (by rw [<-ht];exact di)
  ·simp only [ht,if_false] at h1;by_cases DG:t'=root
   ·rw [DG];exact h.bb t root c1 cs h1 hf ht
   ·simp only [DG,if_false] at h2;exact h.bb t t' c1 c2 h1 h2 di
 ·intro t c1 f o h1 h2;have h1:av qJ t= .box c1:=h1;rw [Fi] at h1;by_cases ht:t=root
  ·rw [ht];exact h.bf root cs f o hf h2
  ·simp only [ht,if_false] at h1;exact h.bf t c1 f o h1 h2
 ·intro b o v hv;have di:b≠e.B root:=by intro eb;subst eb;rw [pA.2.free] at hv;cases hv
  have:=h.kP b o v hv;rw [acV (Mj.other _ di)];exact this
theorem b9.ahe {root:Nat}{cs kR:List aE}{arr Ad:Array Value}{T:TypeId}{qJ:Fr}(h:b9 c Z e st a w)(hf:av st.fr root= .box cs)(fG:w.heap[e.B root]? =some (.cells arr T (0,0)))(hl:ay e Ad.toList kR)(Fi: ∀t,av qJ t=if t=root then .box kR else av st.fr t)(hnd:(aU qJ).Nodup):b9 c Z e {st with fr:=qJ} a (w.setRow (e.B root) Ad):=by
 have pA:=h.slot root;rw [hf] at pA;have hm:iW cs=false:=by obtain ⟨o,h1,h2⟩:=pA.2.obj;rw [fG] at h1;cases h1;exact h2.2.Ce
 exact h.setObj hf (.setRow _ _ _) (setRow_heap _ _ _ _ _ _ fG) ⟨rfl,hl⟩ (by rw [DE hm,DE hl.Ce]) Fi hnd
theorem Trans.chg {g:Nat} (φ:Ph)(Mj:Zr g w w')(hz:Z g):Trans Z φ w φ w':=⟨.refl φ,λb hb _=>Mj.other _ (by intro e;subst e;exact hb hz),λ_ _ _=>rfl,by rw [Mj.size];exact aaP _,Mj.rest⟩
theorem Trans.setRow {g:Nat}{Ad:Array Value} (φ:Ph)(hz:Z g):Trans Z φ w φ (w.setRow g Ad):=⟨.refl φ,λb hb _=>setRow_other _ _ _ _ (by intro e;subst e;exact hb hz),λ_ _ _=>rfl,by rw [setRow_size];exact aaP _,.setRow _ _ _⟩
theorem Cf {v:Value}{s:Slot}(h:ah e v s)(hu:wP (aP s)=false)(di:aP s≠[]):ay e v.cells.toList (aP s):=by
 cases s with
 |sc l=>
  simp only [aP] at hu⊢;have ml: ∀l,aX e [v] l->ay e v.cells.toList [l]:=by
   intro l hl;have hc:=hl.cells v (by simp);have:v.cells.toList=[v]:=by cases v<;>simp_all [abJ,aaK]
   rw [this];exact ⟨[v],[],rfl,hl,rfl⟩
  cases l with
  |un=>simp [wP,PQ] at hu
  |hs x=>simp only [ah] at h;rw [h];exact ⟨cc x,[],by simp [abJ],rfl,rfl⟩
  |p m=>simp only [ah] at h;exact ml _ h
  |nil=>simp only [ah] at h;exact ml _ h
  |mp s es=>simp [wP,PQ] at hu
  |own f=>simp only [ah] at h;exact ml _ h
 |ag cs=>simp only [ah] at h;obtain ⟨arr,rfl,hl⟩:=h;exact hl
 |_=>exact absurd rfl di
theorem sD {t:TypeId}{I:TI}{bt off:Nat}{v:Value}{arr:Array Value}{T:TypeId}(hr:rQ c.ti P t I)(hc:I.cQ=[])(hs:v.cells.toList.length=I.size)(ml: ∀u∈v.cells.toList,u.oneCell'=true)(fG:w.heap[bt]? =some (.cells arr T (0,0)))(Il:off+I.size<=arr.size): (adY t (.pointer (some ⟨bt,off,none⟩)) v).run P w= .ok () (w.setRow bt (arr.toList.take off++v.cells.toList++arr.toList.drop (off+I.size)).toArray):=by
 obtain ⟨i,hi,rR,_⟩:=hr.info hc;have h1:=run_storeCells_at P bt off T v.cells.toList 0 arr w fG (by omega) ml;rw [aec,hs] at h1;have h2:v.cells.size=i.size:=by rw [rR,<-hs];simp
 simp [adY,aer,storeVar,ac2,typeInfo,hi,h2,h1]
theorem Wr {t:TypeId}{I:TI}{root off:Nat}{v:Value}{cs ls kR:List aE} {K':St->Option R}(xQ:iW cs=false)(hr:rQ c.ti P t I)(hc:I.cQ=[])(h:b9 c Z e st a w)(hf:av st.fr root= .box cs)(hv:ay e v.cells.toList ls)(Ll:zU ls=I.size)(hp:putAt cs off ls=some kR)(hK:wr st root (.box kR) K'=some r): ∃w' bZ,(adY t (.pointer (some ⟨e.B root,off,none⟩)) v).run P w= .ok () w'/\b9 c Z e bZ a w'/\Trans Z e.φ w e.φ w'/\K' bZ=some r:=by
 have qv:=h.slot root;rw [hf] at qv;obtain ⟨arr,T,fG,tF⟩:=qv.2.cells xQ;obtain ⟨v1,v2,v3,he,h1,h2,h3⟩:=CT hp tF hv;have hlen:=hv.width;have rR:arr.size=v1.length+v2.length+v3.length:=by
  have:arr.toList.length=(v1++v2++v3).length:=by rw [he]
  simp at this;omega
 have cr:=sD (P:=P) (w:=w) (bt:=e.B root) (off:=off) hr hc (by rw [hlen,Ll]) hv.cells fG (by omega);have P9:arr.toList.take off=v1:=by rw [he,AT,adx h1]
 have akL:arr.toList.drop (off+I.size)=v3:=by rw [he];exact ac4 (by rw [No];omega)
 rw [P9,akL] at cr;unfold wr at hK;cases hn:bJ st.cI root with
 |true=>simp [hn] at hK
 |false=>simp only [hn,cond_false,force_eq,rj] at hK;refine ⟨_,_,cr,?_,.setRow _ (Sp qv.2.cS (by rw [<-h.defers.2.1,<-bL,hn];simp)),hK⟩;exact h.ahe hf fG (by simpa using h3) (λt=>by rw [cj]) (iN h.nodup)
end
end Dn
/-
  Owned slices that are shared from now on; what is handed to a callee. Conditions: none.
-/
namespace Dn
open Go
section
variable {P:Program}{c:Ctx}{Z:bI}{e:Env}{st:St}{a:Act} {w w':World}{R:Type}{K:St->Option R}{r:R}{Q:Exit->Act->World->Prop}{o:Oper}
theorem bA.mono {key:Nat->Nat} {φ φ':Ph}(h:lS φ φ'){size:Nat}{xs:List MV}: ∀{cs:List Value},bA key φ size cs xs->bA key φ' size cs xs:=by
 induction xs with
 |nil=>intro cs hh;exact hh
 |cons x xs ih=>intro cs hh;obtain ⟨v,q,rfl,h1,h2,h3⟩:=hh;exact ⟨v,q,rfl,h1,h2.mono h,ih h3⟩
theorem bA.length {key:Nat->Nat} {φ:Ph}{size:Nat}{xs:List MV}: ∀{cs:List Value},bA key φ size cs xs->cs.length=xs.length *size:=by
 induction xs with
 |nil=>intro cs hh;cases hh;simp
 |cons x xs ih=>intro cs hh;obtain ⟨v,q,rfl,h1,h2,h3⟩:=hh;simp [h1,ih h3,acZ,afM]
theorem SV {m:List (Nat×pn)}{f:Nat}{o:pn}(h:aQ m f=some o):cb m f o=m:=by
 induction m with
 |nil=>simp [aQ] at h
 |cons p r ih=>
  obtain ⟨k,x⟩:=p;simp only [aQ,cb,eO] at h⊢;by_cases hk:k=f
  ·subst hk;simp at h;subst h;simp
  ·simp only [hk,decide_false,cond_false] at h⊢;rw [ih h]
def kT (φ:Ph)(v:Value)(cells:List Value):Ph:=λb off=>if v.ownBlock=some b/\off<cells.length then cells[off]? else φ b off
theorem vl {base:Nat}{t:TypeId}{size n:Nat}{v:Value}{xs ys:List Value}(h:w.ownsRow base t size v n xs) (h':w.ownsRow base t size v n ys){b:Nat}(hb:v.ownBlock=some b):xs=ys:=by
 rcases h.2 with ⟨h1,_⟩|⟨g,cap,fI,h1,_,h2,_,_,_,h3⟩
 ·rw [h1] at hb;simp [aau] at hb
 ·rcases h'.2 with ⟨Gf,_⟩|⟨g',Zs,au4,Gf,_,NW,_,_,_,h3'⟩
  ·rw [Gf] at hb;simp [aau] at hb
  ·rw [h1] at Gf;simp at Gf;obtain ⟨rfl,rfl⟩:=Gf;rw [h2] at NW;simp at NW;subst NW;rw [<-h3,<-h3']
theorem freeze {f:Nat}{o:pn}(h:b9 c Z e st a w)(hf:aQ st.bo f=some o)(hp:f∉Z.db\/o.fb=true): ∃φ',lS e.φ φ'/\(∀b off,¬Z b->φ' b off=e.φ b off)/\b9 c Z {e with φ:=φ',m:=cb e.m f ⟨o.ty,true,o.xs⟩} {st with bo:=cb st.bo f ⟨o.ty,true,o.xs⟩} a w/\ jz e.key φ' [e.E f] (.list o.xs)/\ (∀I cells,c.ti o.ty=some I->w.ownsRow 0 o.ty I.size (e.E f) o.xs.length cells-> ∀bt,(e.E f).ownBlock=some bt-> ∀j,j<cells.length->φ' bt j=cells[j]?):=by
 obtain ⟨I,cells,hI,hIc,eW,nk,hz⟩:=(h.iC f o hf).row;have hlen:=nk.length;have hle:lS e.φ (kT e.φ (e.E f) cells):=by
  intro b off v hv;unfold kT;by_cases hc:(e.E f).ownBlock=some b/\off<cells.length
  ·simp only [hc,and_self,if_true];obtain ⟨hb,ho⟩:=hc;rcases eW.2 with ⟨hE,_⟩|⟨g,cap,fI,hE,_,hg,hn,K6,CV,HM⟩
   ·rw [hE] at hb;simp [aau] at hb
   ·rw [hE] at hb;simp only [aau,IT] at hb;subst hb;have:=h.kP _ _ _ hv;rw [cell_of hg] at this;rw [<-HM,acT];have cU:off<o.xs.length *I.size:=by omega
    simp only [cU,if_true];simpa using this
  ·simp only [hc,if_false];exact hv
 have mn: ∀b off v,kT e.φ (e.E f) cells b off=some v->w.cell? ⟨b,off,none⟩=some v:=by
  intro b off v hv;unfold kT at hv;by_cases hc:(e.E f).ownBlock=some b/\off<cells.length
  ·simp only [hc,and_self,if_true] at hv;rcases eW.2 with ⟨hE,_⟩|⟨g,cap,fI,hE,_,hg,hn,K6,CV,HM⟩
   ·rw [hE] at hc;simp [aau] at hc
   ·rw [hE] at hc;simp only [aau,IT] at hc;obtain ⟨hb,ho⟩:=hc;subst hb;rw [cell_of hg];rw [<-HM,acT] at hv;have cU:off<o.xs.length *I.size:=by omega
    simp only [cU,if_true] at hv;simpa using hv
  ·simp only [hc,if_false] at hv;exact h.kP _ _ _ hv
 have akM: ∀b off,¬Z b->kT e.φ (e.E f) cells b off=e.φ b off:=by
  intro b off hb;unfold kT;by_cases hc:(e.E f).ownBlock=some b/\off<cells.length
  ·by_cases zN:f∈Z.db
   ·simp only [hc,and_self,if_true];exact (((hz b hc.1).2.2 zN (hp.resolve_left (λhn=>hn zN))) off hc.2).symm
   ·exact absurd (Sp (hz b hc.1).1 zN) hb
  ·simp [hc]
 have SW: ∀b off,(e.E f).ownBlock≠some b->kT e.φ (e.E f) cells b off=e.φ b off:=by intro b off hb;unfold kT;simp [hb]
 have uX:mF (λ_=>True) (λ_=>True) e {e with φ:=kT e.φ (e.E f) cells,m:=cb e.m f ⟨o.ty,true,o.xs⟩}:=by
  refine ⟨rfl,hle,λ_ _=>rfl,?_⟩;intro f2 o2 cU _;have cU:aQ (cb e.m f ⟨o.ty,true,o.xs⟩) f2=some o2:=cU;rw [bx] at cU;by_cases ga:f2=f
  ·subst ga;simp at cU;subst cU;exact ⟨o,by rw [h.m];exact hf,rfl,rfl⟩
  ·simp only [ga,if_false] at cU;exact ⟨o2,cU,rfl,rfl⟩
 have ku: ∀s:Slot,hM (λ_=>True) (λ_=>True) s:=by intro s;cases s<;>simp [hM,j0]
 refine ⟨_,hle,akM,?_,?_,?_⟩;rotate_right
 ·intro I' NX hI' akN bt hb j hj;rw [hI] at hI';cases hI';have hcc:=vl eW akN hb;subst hcc;unfold kT;simp [hb,hj]
 ·refine ⟨h.defers,h.size,by show cb e.m f _=cb st.bo f _;rw [h.m],h.key,h.nodup,?_,h.root,?_,h.bb,?_,?_,mn,h.cS⟩
  ·intro t;have hs:=h.slot t;have hbf:=h.bf t;show cn Z _ w t _ (av st.fr t);generalize av st.fr t=s at hs hbf;cases s<;>simp only [cn] at hs⊢ <;>try exact hs.on uX (ku _)
   rename_i cs;refine ⟨hs.1,hs.2.cS,?_,?_⟩
   ·obtain ⟨o2,h1,h2⟩:=hs.2.obj;exact ⟨o2,h1,h2.on uX (λl _ f _=>trivial)⟩
   ·intro off;show kT e.φ (e.E f) cells (e.B t) off=none;rw [SW _ _ (hbf cs f o rfl hf)];exact hs.2.free off
  ·intro f2 o2 cU;have cU:aQ (cb st.bo f ⟨o.ty,true,o.xs⟩) f2=some o2:=cU;rw [bx] at cU;by_cases ga:f2=f
   ·subst ga;simp at cU;subst cU;refine ⟨I,cells,hI,hIc,eW,nk.mono hle,?_⟩;intro bt hb;refine ⟨(hz bt hb).1,?_,?_⟩;rotate_left
    ·intro _ _ j hj;show kT e.φ (e.E f2) cells bt j=_;have hb:(e.E f2).ownBlock=some bt:=hb;unfold kT;simp [hb,hj]
    intro off u hu;refine ⟨rfl,?_⟩;have hu:kT e.φ (e.E f2) cells bt off=some u:=hu;unfold kT at hu;by_cases hc:(e.E f2).ownBlock=some bt/\off<cells.length
    ·show off<o.xs.length *I.size;rw [<-hlen];exact hc.2
    ·simp only [hc,if_false] at hu;exact ((hz bt hb).2.1 off u hu).2
   ·simp only [ga,if_false] at cU;obtain ⟨I2,xR,h1,h2,h3,h4,h5⟩:=(h.iC f2 o2 cU).row;refine ⟨I2,xR,h1,h2,h3,h4.mono hle,?_⟩;intro bt hb;refine ⟨(h5 bt hb).1,?_,?_⟩;rotate_left
    ·intro g1 g2 j hj;show kT e.φ (e.E f) cells bt j=_;rw [SW _ _ (λhbf=>ga (h.ff f2 f o2 o bt cU hf hb hbf))];exact (h5 bt hb).2.2 g1 g2 j hj
    intro off u hu;have hu:kT e.φ (e.E f) cells bt off=some u:=hu;rw [SW _ _ (λhbf=>ga (h.ff f2 f o2 o bt cU hf hb hbf))] at hu;exact (h5 bt hb).2.1 off u hu
  ·intro t cs f2 o2 h1 h2;have h2:aQ (cb st.bo f ⟨o.ty,true,o.xs⟩) f2=some o2:=h2;rw [bx] at h2;by_cases ga:f2=f
   ·subst ga;exact h.bf t cs f2 o h1 hf
   ·simp only [ga,if_false] at h2;exact h.bf t cs f2 o2 h1 h2
  ·intro f1 f2 o1 o2 k h1 h2 h3 h4;have h1:aQ (cb st.bo f ⟨o.ty,true,o.xs⟩) f1=some o1:=h1;have h2:aQ (cb st.bo f ⟨o.ty,true,o.xs⟩) f2=some o2:=h2;rw [bx] at h1 h2;have g1: ∃o',aQ st.bo f1=some o':=by
    by_cases ga:f1=f
    ·subst ga;exact ⟨o,hf⟩
    ·simp only [ga,if_false] at h1;exact ⟨o1,h1⟩
   have g2: ∃o',aQ st.bo f2=some o':=by
    by_cases ga:f2=f
    ·subst ga;exact ⟨o,hf⟩
    ·simp only [ga,if_false] at h2;exact ⟨o2,h2⟩
   obtain ⟨q1,g1⟩:=g1;obtain ⟨q2,g2⟩:=g2;exact h.ff f1 f2 q1 q2 k g1 g2 h3 h4
 ·have Ae:=nk.mono hle;rcases eW.2 with ⟨hE,hn⟩|⟨g,cap,fI,hE,_,hg,hn,K6,CV,HM⟩
  ·have hx:o.xs=[]:=AI hn;have hv:[e.E f]=[acX none 0 0]:=by rw [hE]
   rw [hv,hx];exact .list none 0 [] 0 0 0 (λ_=>[]) (by simp) (by simp) (by simp) (by simp) (by simp)
  ·have hv:[e.E f]=[acX (some ⟨g,0,none⟩) o.xs.length cap]:=by rw [hE]
   rw [hv];have Qa: ∀i (hi:i<o.xs.length),∃v1,v1.length=I.size/\jz e.key (kT e.φ (e.E f) cells) v1 o.xs[i]/\(cells.drop (i *I.size)).take I.size=v1:=by intro i hi;obtain ⟨p1,v1,p2,he,NV,y9,ic⟩:=Ae.at (OF hi);refine ⟨v1,y9,ic,?_⟩;rw [he,AT,<-NV,af7,<-y9,ac9]
   refine .list (some ⟨g,0,none⟩) cap o.xs g 0 I.size (λi=>(cells.drop (i *I.size)).take I.size) hn (λ_=>rfl) ?_ ?_ ?_
   ·intro i hi;obtain ⟨v1,h1,_,h3⟩:=Qa i hi;rw [h3,h1]
   ·intro i j hi hj;have hb:(e.E f).ownBlock=some g:=by rw [hE];rfl
    have Fj:i *I.size+j<cells.length:=by
     rw [hlen];calc i *I.size+j<i *I.size+I.size:=by omega
      _=(i+1) *I.size:=by rw [acZ]
      _<=o.xs.length *I.size:=abB _ hi
    rw [abC];unfold kT;simp only [hb,Fj,and_self,if_true];rw [acT];simp only [hj,if_true,adW]
   ·intro i hi;obtain ⟨v1,_,h2,h3⟩:=Qa i hi;rw [h3];exact h2
end
end Dn
/-
  Arguments and results. Conditions: none.
-/
namespace Dn
open Go
structure Ext (Z:Nat->Prop) (e e':Env):Prop where
 on:mF (λ_=>True) (λ_=>True) e e'
 cS: ∀b off,¬Z b->e'.φ b off=e.φ b off
theorem Ext.refl (Z:Nat->Prop)(e:Env):Ext Z e e:=⟨⟨rfl,.refl _,λ_ _=>rfl,λf o h _=>⟨o,h,rfl,rfl⟩⟩,λ_ _ _=>rfl⟩
theorem Ext.trans {Z:Nat->Prop} {e e' e'':Env}(h:Ext Z e e') (h':Ext Z e' e''):Ext Z e e'':=by refine ⟨⟨h'.on.key.trans h.on.key,h.on.φ.trans h'.on.φ,λr hr=>(h'.on.B r hr).trans (h.on.B r hr),?_⟩,λb off hb=>(h'.cS b off hb).trans (h.cS b off hb)⟩;intro f o ho _;obtain ⟨o1,h1,h2,h3⟩:=h'.on.iC f o ho trivial;obtain ⟨o2,h4,h5,h6⟩:=h.on.iC f o1 h1 trivial;exact ⟨o2,h4,h2.trans h5,h3.trans h6⟩
theorem Ext.tr {Z:Nat->Prop} {e e':Env}{w:World}(h:Ext Z e e'):Trans Z e.φ w e'.φ w:=⟨h.on.φ,λ_ _ _=>rfl,h.cS,aaP _,.refl _⟩
theorem eX (s:Slot):hM (λ_=>True) (λ_=>True) s:=by cases s<;>simp [hM,j0]
def bV (key:Nat->Nat) (φ:Ph):List Value->List MV->Prop
 |vs,[]=>vs=[]
 |vs,m::ms=> ∃v r,vs=v::r/\fZ key φ v m/\bV key φ r ms
theorem bV.mono {key:Nat->Nat} {φ φ':Ph}(h:lS φ φ'){ms:List MV}: ∀{vs:List Value},bV key φ vs ms->bV key φ' vs ms:=by
 induction ms with
 |nil=>intro vs hh;exact hh
 |cons m ms ih=>intro vs hh;obtain ⟨v,r,rfl,h1,h2⟩:=hh;exact ⟨v,r,rfl,h1.mono h,ih h2⟩
theorem bV.append {key:Nat->Nat} {φ:Ph}{ms ns:List MV}: ∀{vs us:List Value},bV key φ vs ms->bV key φ us ns->bV key φ (vs++us) (ms++ns):=by
 induction ms with
 |nil=>intro vs us h h';cases h;simpa using h'
 |cons m ms ih=>intro vs us h h';obtain ⟨v,r,rfl,h1,h2⟩:=h;exact ⟨v,r++us,rfl,h1,ih h2 h'⟩
section
variable {P:Program}{c:Ctx}{Z:bI}{e:Env}{st:St}{a:Act} {w w':World}{R:Type}{r:R}{Q:Exit->Act->World->Prop}{o:Oper}
theorem mH {l:aE}{vs:List Value}{K:MV->St->Option R}(h:b9 c Z e st a w)(hl:aX e vs l)(hK:oL st l K=some r): ∃e' bZ m,b9 c Z e' bZ a w/\Ext Z e e'/\bZ.fr=st.fr/\jz e'.key e'.φ vs m/\K m bZ=some r/\(uc l=true->e'=e/\bZ=st)/\(∀f,l= .own f-> ∃o,aQ st.bo f=some o/\m= .list o.xs)/\((∀x,l≠ .hs x)->m.one=true):=by
 cases l with
 |un=>simp [oL] at hK
 |p m=>exact ⟨e,st,m,h,.refl _ _,rfl,hl.2,hK,λ_=>⟨rfl,rfl⟩,by simp,λ_=>hl.1⟩
 |hs x=>have hl:vs=cc x:=hl;subst hl;exact ⟨e,st,.h x,h,.refl _ _,rfl,.h x,hK,λ_=>⟨rfl,rfl⟩,by simp,λhx=>absurd rfl (hx x)⟩
 |nil=>have hl:vs=[.slice none 0 0]:=hl;subst hl;exact ⟨e,st,.list [],h,.refl _ _,rfl,.list none 0 [] 0 0 0 (λ_=>[]) (by simp) (by simp) (by simp) (by simp) (by simp),hK,λhp=>by simp [uc] at hp,λ_ he=>(by cases he),λ_=>rfl⟩
 |mp s es=>simp [oL] at hK
 |own f=>
  simp only [oL] at hK;cases hf:aQ st.bo f with
  |none=>simp [hf] at hK
  |some o=>
   simp only [hf] at hK;have zN:f∉Z.db\/o.fb=true:=by
    cases hz:o.fb with
    |true=>exact .inr rfl
    |false=>refine .inl (λhm=> ?_);rw [<-h.defers.2.2.1,<-bL] at hm;simp [hz,hm] at hK
   obtain ⟨φ',h1,h2,h3,h4,_⟩:=freeze h hf zN;obtain ⟨v,rfl,hv,hE⟩:=hl;have hE:=hE o (by rw [h.m];exact hf);subst hE;have adt:Ext Z e {e with φ:=φ',m:=cb e.m f ⟨o.ty,true,o.xs⟩}:=by
    refine ⟨⟨rfl,h1,λ_ _=>rfl,?_⟩,h2⟩;intro f2 o2 cU _;have cU:aQ (cb e.m f ⟨o.ty,true,o.xs⟩) f2=some o2:=cU;rw [bx] at cU;by_cases ga:f2=f
    ·subst ga;simp at cU;subst cU;exact ⟨o,by rw [h.m];exact hf,rfl,rfl⟩
    ·simp only [ga,if_false] at cU;exact ⟨o2,cU,rfl,rfl⟩
   cases hz:o.fb with
   |true=>
    simp only [hz,cond_true] at hK;have za:cb st.bo f ⟨o.ty,true,o.xs⟩=st.bo:=by rw [<-hz];exact SV hf
    rw [za] at h3;exact ⟨_,st,.list o.xs,h3,adt,rfl,h4,hK,λhp=>by simp [uc] at hp,λ_ he=>by cases he;exact ⟨o,hf,rfl⟩,λ_=>rfl⟩
   |false=>
    simp only [hz,cond_false] at hK;cases hn:bJ st.db f with
    |true=>simp [hn] at hK
    |false=>simp only [hn,cond_false,pz] at hK;exact ⟨_,_,.list o.xs,h3,adt,rfl,h4,hK,λhp=>by simp [uc] at hp,λ_ he=>by cases he;exact ⟨o,hf,rfl⟩,λ_=>rfl⟩
theorem nW {ls:List aE}: ∀{e:Env} {st:St} {vs:List Value} {K:List MV->St->Option R},b9 c Z e st a w->ay e vs ls->rM st ls K=some r-> ∃e' bZ ms,b9 c Z e' bZ a w/\Ext Z e e'/\bZ.fr=st.fr/\jd e'.key e'.φ vs ms/\K ms bZ=some r/\(jr ls=true->e'=e/\bZ=st)/\(∀ps,sC ls ms=some ps->ay e' vs ps/\jr ps=true):=by
 induction ls with
 |nil=>intro e st vs K h hl hK;cases hl;exact ⟨e,st,[],h,.refl _ _,rfl,.nil,hK,λ_=>⟨rfl,rfl⟩,λps hp=>by simp [sC] at hp;subst hp;exact ⟨rfl,rfl⟩⟩
 |cons l ls ih=>
  intro e st vs K h hl hK;obtain ⟨v,u,rfl,h1,h2⟩:=hl;simp only [rM] at hK;obtain ⟨e1,cR,m,Cg,Fk,Fl,xS,nX,hp1,_,ml⟩:=mH h h1 hK;obtain ⟨e2,ef,ms,Qb,Hm,adu,CU,xI,Mk,Ch⟩:=ih Cg (h2.on Fk.on (λl _ f _=>trivial)) nX;have hrm:jz e2.key e2.φ v m:=by have:=xS.mono Hm.on.φ;rw [<-Hm.on.key] at this;exact this
  refine ⟨e2,ef,m::ms,Qb,Fk.trans Hm,adu.trans Fl,.cons v m u ms ?_ CU,xI,?_,?_⟩
  ·have:=xS.mono Hm.on.φ;rw [<-Hm.on.key] at this;exact this
  ·intro hp;simp only [jr,abF] at hp;obtain ⟨q1,q2⟩:=hp1 hp.1;obtain ⟨q3,q4⟩:=Mk hp.2;exact ⟨q3.trans q1,q4.trans q2⟩
  ·intro ps hp;cases hq:sC ls ms with
   |none=>cases l<;>simp [sC,hq] at hp
   |some q=>
    obtain ⟨g1,g2⟩:=Ch q hq;by_cases hh: ∃x,l= .hs x
    ·obtain ⟨x,rfl⟩:=hh;simp [sC,hq] at hp;subst hp;exact ⟨⟨v,u,rfl,h1,g1⟩,by simp [jr,uc,g2]⟩
    ·have ml:=ml (λx hx=>hh ⟨x,hx⟩);have Hn:ps= .p m::q:=by cases l<;>simp [sC,hq] at hp<;>first|exact hp.symm|exact absurd ⟨_,rfl⟩ hh
     subst Hn;exact ⟨⟨v,u,rfl,⟨ml,hrm⟩,g1⟩,by simp [jr,uc,g2]⟩
theorem o7 {s:Slot}{v:Value}{K:MV->St->Option R}(h:b9 c Z e st a w)(hl:ah e v s)(hK:nJ st s K=some r): ∃e' bZ m,b9 c Z e' bZ a w/\Ext Z e e'/\bZ.fr=st.fr/\fZ e'.key e'.φ v m/\K m bZ=some r:=by
 cases s with
 |sc l=>
  simp only [nJ] at hK;cases l with
  |un=>simp [oL] at hK
  |hs x=>simp only [ah] at hl;exact ⟨e,st,.h x,h,.refl _ _,rfl,by simpa [fZ,cc] using hl,hK⟩
  |p m=>simp only [ah] at hl;refine ⟨e,st,m,h,.refl _ _,rfl,?_,hK⟩;obtain ⟨h1,h2⟩:=hl;cases m<;>simp [MV.one] at h1<;>exact ⟨rfl,h2⟩
  |nil=>simp only [ah] at hl;obtain ⟨e',bZ,m,q1,q2,q3,q4,q5,q6,_⟩:=mH h hl hK;have hl:[v]=[acX none 0 0]:=hl;refine ⟨e,st,.list [],h,.refl _ _,rfl,⟨rfl,?_⟩,hK⟩;rw [hl];exact .list none 0 [] 0 0 0 (λ_=>[]) (by simp) (by simp) (by simp) (by simp) (by simp)
  |mp s es=>simp [oL] at hK
  |own f=>
   simp only [ah] at hl;simp only [oL] at hK;cases hf:aQ st.bo f with
   |none=>simp [hf] at hK
   |some o=>obtain ⟨e',bZ,m,q1,q2,q3,q4,q5,q6,q7⟩:=mH (l:= .own f) h hl (by simpa only [oL,hf] using hK);obtain ⟨o2,_,rfl⟩:=q7.1 f rfl;exact ⟨e',bZ,.list o2.xs,q1,q2,q3,⟨rfl,q4⟩,q5⟩
 |ag cs=>simp only [ah] at hl;obtain ⟨arr,hv,hl⟩:=hl;simp only [nJ] at hK;obtain ⟨e',bZ,ms,q1,q2,q3,q4,q5,_⟩:=nW h hl hK;exact ⟨e',bZ,.agg ms,q1,q2,q3,⟨arr,hv,q4⟩,q5⟩
 |rp cs off=>
  simp only [ah] at hl;obtain ⟨bt,q,vs,hv,tF,hp,Fh⟩:=hl;simp only [nJ] at hK;cases hb:cV off 0 with
  |false=>simp [hb] at hK
  |true=>simp only [hb,cond_true] at hK;have h0:=sh hb;subst h0;obtain ⟨e',bZ,ms,q1,q2,q3,q4,q5,q6⟩:=nW h tF hK;obtain ⟨rfl,rfl⟩:=q6.1 hp;refine ⟨e',bZ,.rp ms,q1,q2,q3,⟨rfl,?_⟩,q5⟩;rw [hv];exact .rp bt (q+0) vs ms q4 (by simpa using Fh)
 |_=>simp [nJ] at hK
theorem s8 {ss:List Slot}: ∀{e:Env} {st:St} {vs:List Value} {K:List MV->St->Option R},b9 c Z e st a w->(∃f:Unit->List Value,f ()=vs/\vs.length=ss.length/\ ∀(i:Nat) (v:Value) (s:Slot),vs[i]? =some v->ss[i]? =some s->ah e v s)-> xL st ss K=some r-> ∃e' bZ ms,b9 c Z e' bZ a w/\Ext Z e e'/\bZ.fr=st.fr/\bV e'.key e'.φ vs ms/\K ms bZ=some r:=by
 induction ss with
 |nil=>intro e st vs K h hl hK;obtain ⟨f,_,hlen,_⟩:=hl;have:=AI hlen;subst this;exact ⟨e,st,[],h,.refl _ _,rfl,rfl,hK⟩
 |cons s ss ih=>
  intro e st vs K h hl hK;obtain ⟨f,_,hlen,ic⟩:=hl;cases vs with
  |nil=>simp at hlen
  |cons v vs=>simp only [xL] at hK;obtain ⟨e1,cR,m,q1,q2,q3,q4,q5⟩:=o7 h (ic 0 v s rfl rfl) hK;obtain ⟨e2,ef,ms,p1,p2,p3,p4,p5⟩:=ih (vs:=vs) q1 ⟨λ_=>vs,rfl,by simpa using hlen,λi v s h1 h2=>(ic (i+1) v s (by simpa using h1) (by simpa using h2)).on q2.on (eX s)⟩ q5;refine ⟨e2,ef,m::ms,p1,q2.trans p2,p3.trans q3,⟨v,vs,rfl,?_,p4⟩,p5⟩;have:=q4.mono p2.on.φ;rw [<-p2.on.key] at this;exact this
end
end Dn
/-
  Parts of structs, lengths, the least and the greatest, places of elements. Conditions: none.
-/
namespace Dn
open Go
section
variable {P:Program}{c:Ctx}{Z:bI}{e:Env}{st:St}{a:Act} {w w':World}{R:Type}{K:St->Option R}{r:R}{Q:Exit->Act->World->Prop}{o:Oper}
theorem TI.nN {I:TI}{t:TypeId}(hr:rQ c.ti P t I)(h:I.Bm=true):P.underlying t=some (.slice I.elem)/\ ∃E,c.ti I.elem=some E/\E.cQ=[]/\0<E.size:=by
 unfold TI.Bm at h;split at h
 ·rename_i iF hl;obtain ⟨d,i,h1,h2,h3,h4⟩:=hr;cases d<;>simp only [wS,hl,iF] at h4<;>first|(exfalso;simp_all;done)|skip
  obtain ⟨_,_,_,rfl,hE,_⟩:=h4;exact ⟨h1,hE⟩
 ·cases h
theorem TI.NY {I:TI}{t:TypeId}(hr:rQ c.ti P t I)(h:I.isS=true):P.underlying t=some .string:=by
 unfold TI.isS at h;split at h
 ·rename_i iF hl;obtain ⟨d,i,h1,h2,h3,h4⟩:=hr;cases d<;>simp only [wS,hl,iF] at h4<;>first|(exfalso;simp_all;done)|skip
  exact h1
 ·cases h
theorem Io {v:Value}{xs:List MV}(h:ah e v (.sc (.p (.list xs)))): ∃ad cap,v= .slice ad xs.length cap/\xs.length<=cap:=by simp only [ah,aX] at h;obtain ⟨_,h⟩:=h;generalize hv:[v]=vs at h;cases h;exact ⟨_,_,by simpa using hv,by assumption⟩
theorem s9 {f:Nat} {w':pn}{v:Value}(h:b9 c Z e st a w)(hv:ah e v (.sc (.own f)))(hf:aQ st.bo f=some w'):v=e.E f/\ ∃ad cap,v= .slice ad w'.xs.length cap/\w'.xs.length<=cap:=by
 simp only [ah] at hv;obtain ⟨u,hu,_,hE⟩:=hv;simp at hu;subst hu;have hE:=hE w' (by rw [h.m];exact hf);refine ⟨hE,?_⟩;obtain ⟨I,cells,_,_,eW,_⟩:=(h.iC f w' hf).row;rcases eW.2 with ⟨h1,h2⟩|⟨g,cap,fI,h1,_,_,h2,_⟩
 ·exact ⟨none,0,by rw [hE,h1,h2],by omega⟩
 ·exact ⟨_,cap,by rw [hE,h1],h2⟩
theorem j7 {l:List Operand}:lq c st l=l.map (aT c st):=by
 induction l with
 |nil=>rfl
 |cons x r ih=>simp [lq,ih]
theorem ahf {cl:Call}{t:TypeId}{I:TI}(ho:o.op= .call cl)(hb:cl.callee= .builtin .len)(ha:cl.argTypes.toList=[t])(hI:c.tv t=some I)(hT:kq P c.ti)(h:b9 c Z e st a w)(hK:YX I st (lq c st cl.args.toList) (λs=>bC c st o.dst s K)=some r):Rd P c Z K r e a w o (λ_=>True):=by
 obtain ⟨nV,hc⟩:=bG hI;have hr:=hT t I nV;have HN:cl.argTypes= #[t]:=by rw [<-ac3,ha]
 rw [j7] at hK;have go: ∀x,cl.args.toList=[x]-> ∀n:Nat,(∃b:ByteArray,a.eval x= .string b/\b.size=n/\P.underlying t=some .string)\/(∃ad cap,a.eval x= .slice ad n cap/\ ∃el,P.underlying t=some (.slice el))-> bC c st o.dst (.sc (.p (.i .i64 n))) K=some r->Rd P c Z K r e a w o (λ_=>True):=by
  intro x hx n Ip hK;have Hl:cl.args= #[x]:=by rw [<-ac3,hx]
  refine kQ h ?_ (wR .i64 (n:Int)) trivial hK;rcases Ip with ⟨b,h1,h2,h3⟩|⟨ad,cap,h1,el,h3⟩
  ·simp [execOp,ho,resolve,hb,invoke,builtin,Builtin.len_,HN,Hl,run_underlying h3,h1,goInt,h2]
  ·simp [execOp,ho,resolve,hb,invoke,builtin,Builtin.len_,HN,Hl,run_underlying h3,h1,goInt]
 cases hl:cl.args.toList with
 |nil=>rw [hl] at hK;simp [YX] at hK
 |cons x ys=>
  rw [hl] at hK;cases ys with
  |cons y zs=>simp only [aaJ] at hK;unfold YX at hK;split at hK<;>simp_all
  |nil=>
   simp only [aaJ,af9] at hK;obtain ⟨hx,_⟩:=h.eval x;generalize aT c st x=s at hx hK;unfold YX at hK;split at hK
   ·rename_i l hs;simp at hs;subst hs;cases hS:I.isS with
    |false=>simp [hS] at hK
    |true=>simp only [hS,cond_true] at hK;obtain ⟨b,Fg,rfl⟩:=Ig hx;exact go x hl _ (.inl ⟨b,Fg,by show b.data.size=_;exact (acY).symm,TI.NY hr hS⟩) hK
   ·rename_i l hs;simp at hs;subst hs;cases hS:I.Bm with
    |false=>simp [hS] at hK
    |true=>simp only [hS,cond_true] at hK;obtain ⟨ad,cap,hv,_⟩:=Io hx;exact go x hl _ (.inr ⟨ad,cap,hv,_,(TI.nN hr hS).1⟩) hK
   ·rename_i hs;simp at hs;subst hs;cases hS:I.Bm with
    |false=>simp [hS] at hK
    |true=>simp only [hS,cond_true] at hK;simp only [ah] at hx;have hx:[a.eval x]=[acX none 0 0]:=hx;simp at hx;exact go x hl 0 (.inr ⟨none,0,hx,_,(TI.nN hr hS).1⟩) hK
   ·rename_i f hs;simp at hs;subst hs;cases hS:I.Bm with
    |false=>simp [hS] at hK
    |true=>
     simp only [hS,cond_true] at hK;cases hf:aQ st.bo f with
     |none=>simp [hf] at hK
     |some w'=>simp only [hf] at hK;obtain ⟨_,ad,cap,hv,_⟩:=s9 h hx hf;exact go x hl _ (.inr ⟨ad,cap,hv,_,(TI.nN hr hS).1⟩) hK
   ·simp at hK
end
end Dn
/-
  Values as leaves; places of elements; the least and the greatest; parts of slices. Conditions: none.
-/
namespace Dn
open Go
section
variable {P:Program}{c:Ctx}{Z:bI}{e:Env}{st:St}{a:Act} {w w':World}{R:Type}{K:St->Option R}{r:R}{Q:Exit->Act->World->Prop}{o:Oper}
structure afQ (e:Env) (k:Kd) (vs:List Value) (m:MV) (l:aE):Prop where
 Ws:jz e.key e.φ vs m->aX e vs l
 Yy:uc l=true
 mv:bS [l]=some [m]
 one: ∀m',l= .p m'->m'.one=true
 wid:l.w=Hk [k]
theorem oN {k:Kd}{m:MV}{vs:List Value} {K':aE->Option R}(hK:kn k m K'=some r): ∃l,afQ e k vs m l/\K' l=some r:=by
 have mk: ∀m:MV,m.one=true->(Hk [k]=1)->K' (.p m)=some r-> ∃l,afQ e k vs m l/\K' l=some r:=λm h1 h2 h3=>⟨.p m,⟨λh=>⟨h1,h⟩,rfl,rfl,λm' e=>by cases e;exact h1,h2.symm⟩,h3⟩
 cases k with
 |b=>unfold kn gB at hK;cases m<;>simp at hK;exact mk _ rfl rfl hK
 |s=>unfold kn gS at hK;cases m<;>simp at hK;exact mk _ rfl rfl hK
 |l=>unfold kn gL at hK;cases m<;>simp at hK;exact mk _ rfl rfl hK
 |i k=>
  unfold kn gI at hK;cases m<;>simp at hK;rename_i k' n;by_cases hk:k'=k
  ·subst hk;simp at hK;exact mk _ rfl rfl hK
  ·simp [hk] at hK
 |h=>unfold kn gH at hK;cases m<;>simp at hK;rename_i x;refine ⟨.hs x,⟨?_,rfl,rfl,by simp,rfl⟩,hK⟩;intro h;cases h;rfl
 |raw=>unfold kn gR at hK;cases m<;>simp at hK<;>exact mk _ rfl rfl hK
theorem Ci {l:aE}{ls:List aE}{m:MV}{ms:List MV}(h1:bS [l]=some [m])(h2:bS ls=some ms):bS (l::ls)=some (m::ms):=by cases l<;>simp [bS] at h1⊢ <;>simp [h2,h1]
structure adv (e:Env) (ks:List Kd) (vs:List Value) (ms:List MV) (ls:List aE):Prop where
 Ws:jd e.key e.φ vs ms->ay e vs ls
 Yy:jr ls=true
 mv:bS ls=some ms
 one: ∀m',aE.p m'∈ls->m'.one=true
 wid:zU ls=Hk ks
theorem Wt (k:Kd)(ks:List Kd):Hk (k::ks)=Hk [k]+Hk ks:=by cases k<;>simp [Hk]
theorem xT {ks:List Kd}: ∀{ms:List MV} {vs:List Value} {K':List aE->Option R},vf ks ms K'=some r-> ∃ls,adv e ks vs ms ls/\K' ls=some r:=by
 induction ks with
 |nil=>
  intro ms vs K' hK;cases ms with
  |nil=>exact ⟨[],⟨λh=>by cases h;rfl,rfl,rfl,by simp,rfl⟩,hK⟩
  |cons m ms=>simp [vf,gN] at hK
 |cons k ks ih=>
  intro ms vs K' hK;cases ms with
  |nil=>simp [vf,gC] at hK
  |cons m ms=>
   simp only [vf,gC] at hK;have h1:=λvs=>oN (e:=e) (vs:=vs) hK;obtain ⟨l,hl,nX⟩:=h1 [];obtain ⟨ls,K8,xI⟩:=ih (vs:=[]) nX;refine ⟨l::ls,⟨?_,?_,Ci hl.mv K8.mv,?_,?_⟩,xI⟩
   ·intro h;have g:ay e vs (l::ls):=by
     apply h.leaves (Ci hl.mv K8.mv);intro m' hm;rcases acv.1 hm with hm|hm
     ·exact hl.one m' hm.symm
     ·exact K8.one m' hm
    exact g
   ·simp [jr,hl.Yy,K8.Yy]
   ·intro m' hm;rcases acv.1 hm with hm|hm
    ·exact hl.one m' hm.symm
    ·exact K8.one m' hm
   ·rw [Wt,<-hl.wid,<-K8.wid];rfl
theorem adw {t:TypeId}{I:TI}(hr:rQ c.ti P t I)(hc:I.cQ=[]):Hk I.lay=I.size:=by
 obtain ⟨d,i,h1,h2,h3,h4⟩:=hr;cases d<;>simp only [wS] at h4;case struct fs=>exact h4.2.2.1.2
 case tuple ts=>exact absurd hc h4.2.1
 case slice el=>obtain ⟨_,_,hs,_,_,_,_,k,hl,rfl⟩:=h4;rw [hl,hs];rfl
 case array n el=>obtain ⟨_,_,hs,_,_,_,hl,_⟩:=h4;rw [hl,hs];rfl
 all_goals (obtain ⟨_,_,hs,hl,_⟩:=h4;rw [hl,hs];rfl)
theorem Gj {E:TI}{t:TypeId}{x:MV} {K':List aE->Option R}(hr:rQ c.ti P t E)(hc:E.cQ=[])(hK:NG E x K'=some r): ∃cs,H8 E.st x cs/\jr cs=true/\zU cs=E.size/\K' cs=some r:=by
 have hlw:=adw hr hc;unfold NG at hK;cases iF:E.st with
 |true=>
  simp only [iF,cond_true] at hK;unfold gA at hK;split at hK
  ·rename_i ms;obtain ⟨ls,K8,nX⟩:=xT (e:=⟨λn=>n,λ_ _=>none,λ_=>undef,λ_=>0,[]⟩) (vs:=[]) hK;exact ⟨ls,⟨⟨ms,K8.mv,by simp [wc]⟩,K8.one⟩,K8.Yy,by rw [K8.wid,hlw],nX⟩
  ·simp at hK
 |false=>
  simp only [iF,cond_false] at hK;split at hK
  ·rename_i k hl;obtain ⟨l,y9,nX⟩:=oN (e:=⟨λn=>n,λ_ _=>none,λ_=>undef,λ_=>0,[]⟩) (vs:=[]) hK;refine ⟨[l],⟨⟨[x],y9.mv,by simp [wc]⟩,?_⟩,by simp [jr,y9.Yy],?_,nX⟩
   ·intro m hm;simp at hm;exact y9.one m hm.symm
   ·rw [<-hlw,hl,<-y9.wid];rfl
  ·simp at hK
theorem ahh {t:TypeId}{x y:Operand}{I E:TI}(ho:o.op= .indexAddr t x y)(hI:c.tv t=some I)(hE:c.tv I.elem=some E)(hT:kq P c.ti)(h:b9 c Z e st a w)(hK:ag1 c st I E (aT c st x) (aT c st y) (λs=>bC c st o.dst s K)=some r):Rd P c Z K r e a w o (λ_=>True):=by
 obtain ⟨hx,sM⟩:=h.eval x;obtain ⟨hy,_⟩:=h.eval y;obtain ⟨nV,hc⟩:=bG hI;obtain ⟨tG,wi⟩:=bG hE;have hr:=hT t I nV;have hrE:=hT _ E tG;obtain ⟨iE,hiE,hsE,_⟩:=hrE.info wi;have run: ∀k n bt off len cap,P.underlying t=some (.slice I.elem)->a.eval y= .int k n->a.eval x= .slice (some ⟨bt,off,none⟩) len cap->0<=n->n.toNat<len-> ∀w:World,(execOp a.eval o).run P w= .ok (.value (.pointer (some ⟨bt,off+n.toNat *E.size,none⟩))) w:=by
  intro k n bt off len cap hu hy hx h0 h1 w;have h2:n<(len:Int):=by omega
  simp [execOp,ho,hx,hy,Instr.indexAt,asIntOf,run_underlying hu,h0,h2,ac2,typeInfo,hiE,hsE,ac8]
 generalize aT c st x=sx at hx hK sM;generalize aT c st y=sy at hy hK;unfold ag1 at hK;split at hK
 ·rename_i xs k n;cases hL:I.Bm with
  |false=>simp [hL] at hK
  |true=>
   simp only [hL,cond_true] at hK;obtain ⟨h0,m,hm,hK⟩:=P5 hK;obtain ⟨cs,h1,h2,h3,hK⟩:=Gj hrE wi hK;have cJ:n.toNat<xs.length:=(BY.1 hm).1;simp only [ah,aX] at hx;obtain ⟨_,hx⟩:=hx;generalize hv:[a.eval x]=vs at hx;cases hx with
   |list ad cap _ bt off Ds f g1 g2 g3 g4 g5=>
   simp at hv;have ic:=g5 n.toNat cJ;rw [(BY.1 hm).2] at ic;have tF:=ic.Ik h1;have U3:Ds=E.size:=by rw [<-h3,<-tF.width,g3 _ cJ]
   rw [g2 (by omega)] at hv;refine kQ (s:= .rp cs 0) h (run k n bt off _ cap (TI.nN hr hL).1 (o6 hy) hv h0 cJ) ?_ trivial hK;simp only [ah];refine ⟨bt,off+n.toNat *E.size,f n.toNat,rfl,tF,h2,?_⟩;intro j hj;rw [g3 _ cJ] at hj;rw [<-U3];exact g4 n.toNat j cJ hj
 ·rename_i f k n;cases hf:aQ st.bo f with
  |none=>simp [hf] at hK
  |some fo=>
   simp only [hf] at hK;cases hL:I.Bm with
   |false=>simp [hL] at hK
   |true=>
    simp only [hL,cond_true] at hK;obtain ⟨h0,m,hm,hK⟩:=P5 hK;obtain ⟨cs,h1,h2,h3,hK⟩:=Gj hrE wi hK;have cJ:n.toNat<fo.xs.length:=(BY.1 hm).1;obtain ⟨hv,_⟩:=s9 h hx hf;obtain ⟨J,cells,_,_,eW,_⟩:=(h.iC f fo hf).row;rcases eW.2 with ⟨h5,h6⟩|⟨g,cap,fI,h5,_⟩
    ·omega
    ·rw [h5] at hv;refine kQ (s:= .ep f n.toNat 0 E.st cs) h (run k n g 0 _ cap (TI.nN hr hL).1 (o6 hy) hv h0 cJ) ?_ trivial hK;simp only [ah];intro o2 cU;rw [h.m,hf] at cU;cases cU;exact ⟨g,cap,h5,⟨m,hm,h1⟩,by rw [h3,abC,aec]⟩
 ·simp at hK
theorem Wu {mx:Bool}{k:IntKind}{ss:List Slot}: ∀{vs:List Value} {n:Int} {m:MV},YR mx k n ss=some m->vs.length=ss.length-> (∀(i:Nat) (v:Value) (s:Slot),vs[i]? =some v->ss[i]? =some s->ah e v s)-> ∃v,(∀w:World,(vs.foldlM (if mx then Builtin.max2 else Builtin.min2) (.int k n)).run P w= .ok v w)/\ah e v (.sc (.p m)):=by
 induction ss with
 |nil=>intro vs n m hm hl hs;have:=AI hl;subst this;simp [YR] at hm;subst hm;exact ⟨.int k n,by simp,wR k n⟩
 |cons s ss ih=>
  intro vs n m hm hl hs;cases vs with
  |nil=>simp at hl
  |cons v vs=>
   have h0:=hs 0 v s rfl rfl;unfold YR at hm;split at hm
   ·rename_i j6;simp at j6
   ·rename_i k' y r' j6;simp at j6;obtain ⟨rfl,rfl⟩:=j6;by_cases hk:k'=k
    ·subst hk;simp only [decide_true,cond_true] at hm;obtain ⟨u,h1,h2⟩:=ih hm (by simpa using hl) (λi v s h1 h2=>hs (i+1) v s (by simpa using h1) (by simpa using h2));refine ⟨u,λw=> ?_,h2⟩;have h1:=h1 w;rw [o6 h0];cases mx
     ·simp only [cond_false,akz] at h1;simp [Builtin.min2] at h1⊢;exact h1
     ·simp only [cond_true,imax] at h1;simp [Builtin.max2] at h1⊢;exact h1
    ·simp [hk] at hm
   ·simp at hm
theorem Ml {cl:Call}{mx:Bool}{m:MV}(ho:o.op= .call cl)(hb:cl.callee= .builtin (if mx then .max else .min))(h:b9 c Z e st a w)(hm:SC mx (lq c st cl.args.toList)=some m)(hK:bC c st o.dst (.sc (.p m)) K=some r):Rd P c Z K r e a w o (λ_=>True):=by
 rw [j7] at hm;cases hl:cl.args.toList with
 |nil=>rw [hl] at hm;simp [SC] at hm
 |cons x xs=>
  rw [hl] at hm;simp only [aaJ] at hm;obtain ⟨hx,_⟩:=h.eval x;generalize aT c st x=s at hx hm;unfold SC at hm;split at hm
  ·rename_i k n ss j6;simp at j6;obtain ⟨rfl,rfl⟩:=j6;obtain ⟨v,h1,h2⟩:=Wu (e:=e) (P:=P) (vs:=xs.map a.eval) hm (by simp) (by intro i v s h1 h2;simp only [ac0,Option.map_eq_some_iff] at h1 h2;obtain ⟨y,h3,rfl⟩:=h1;obtain ⟨y',h4,rfl⟩:=h2;rw [h3] at h4;cases h4;exact (h.eval y).1);have gl:(cl.args.map a.eval).toList= .int k n::xs.map a.eval:=by simp [hl,o6 hx]
   refine kQ (v:=v) h ?_ h2 trivial hK;intro w;have h1:=h1 w;cases mx
   ·simp at hb h1;have Zt: ∀ts t,(Builtin.min_ ts t (cl.args.map a.eval)).run P w= .ok v w:=by intro ts t;unfold Builtin.min_;rw [gl];exact h1
    simp [execOp,ho,resolve,hb,invoke,builtin,Zt]
   ·simp at hb h1;have Zt: ∀ts t,(Builtin.max_ ts t (cl.args.map a.eval)).run P w= .ok v w:=by intro ts t;unfold Builtin.max_;rw [gl];exact h1
    simp [execOp,ho,resolve,hb,invoke,builtin,Zt]
  ·simp at hm
end
end Dn
/-
  Parts of slices and texts. Conditions: none.
-/
namespace Dn
open Go
section
variable {P:Program}{c:Ctx}{Z:bI}{e:Env}{st:St}{a:Act} {w w':World}{R:Type}{K:St->Option R}{r:R}{Q:Exit->Act->World->Prop}{o:Oper}
theorem xU {b:Bool}{lo hi:Option Operand}{len cap:Nat} {K':Nat->Nat->Option R}(h:b9 c Z e st a w)(Ho:len<=cap)(hK:sliceB (nh c st lo) (nh c st hi) len K'=some r): ∃l h',l<=h'/\h'<=len/\(lo=none->l=0)/\(∀w:World,(acE b len cap (lo.map a.eval) (hi.map a.eval) none).run P w= .ok (l,h',cap) w)/\K' l h'=some r:=by
 have bnd: ∀(k:IntKind) (n:Int) (y:Nat) (cd:BoundsCode),0<=n->n<=(y:Int)-> ∀w:World,(adf (.int k n) y cd).run P w= .ok n.toNat w:=by intro k n y cd h1 h2 w;simp [adf,asIntOf,h1,h2]
 unfold sliceB at hK;cases lo with
 |none=>
  cases hi with
  |none=>simp only [nh] at hK;exact ⟨0,len,by omega,by omega,λ_=>rfl,by simp [acE],hK⟩
  |some y=>
   obtain ⟨hy,_⟩:=h.eval y;simp only [nh] at hK;generalize aT c st y=sy at hy hK;split at hK<;>first|(simp_all;done)|skip
   ·rename_i k n h1 h2;simp at h2;subst h2;obtain ⟨U4,hK⟩:=ia hK;obtain ⟨h3,h4,h5⟩:=of_decide_eq_true U4;refine ⟨0,n.toNat,by omega,by omega,λ_=>rfl,?_,hK⟩;have:=bnd k n cap (if b then .sliceAcap else .sliceAlen) h4 (by omega);cases b<;>simp at this<;>simp [acE,o6 hy,this]
 |some x=>
  obtain ⟨hx,_⟩:=h.eval x;cases hi with
  |none=>
   simp only [nh] at hK;generalize aT c st x=sx at hx hK;split at hK<;>first|(simp_all;done)|skip
   ·rename_i k n h1 h2;simp at h1;subst h1;obtain ⟨U4,hK⟩:=ia hK;obtain ⟨h3,h4,h5⟩:=of_decide_eq_true U4;refine ⟨n.toNat,len,by omega,by omega,by simp,?_,by simpa using hK⟩;have:=bnd k n len .sliceB h3 h4;simp [acE,o6 hx,this]
  |some y=>
   obtain ⟨hy,_⟩:=h.eval y;simp only [nh] at hK;generalize aT c st x=sx at hx hK;generalize aT c st y=sy at hy hK;split at hK<;>first|(simp_all;done)|skip
   ·rename_i k n k' n' h1 h2;simp at h1 h2;subst h1;subst h2;obtain ⟨U4,hK⟩:=ia hK;obtain ⟨h3,h4,h5⟩:=of_decide_eq_true U4;refine ⟨n.toNat,n'.toNat,by omega,by omega,by simp,?_,hK⟩;have t1:=bnd k' n' cap (if b then .sliceAcap else .sliceAlen) (by omega) (by omega);have t2:=bnd k n n'.toNat .sliceB h3 (by omega);cases b<;>simp at t1<;>simp [acE,o6 hx,o6 hy,t1,t2]
theorem jz.sub {key:Nat->Nat} {φ:Ph}{ad:Option Addr}{len cap:Nat}{xs:List MV} {l h' size:Nat}(hv:jz key φ [.slice ad len cap] (.list xs))(hl:l<=h')(hh:h'<=xs.length)(hw:l≠0-> ∀x∈xs,x.w=size):len=xs.length/\len<=cap/\jz key φ [.slice (if cap=l then ad else ad.map (·.add (l *size))) (h'-l) (cap-l)] (.list ((xs.take h').drop l)):=by
 generalize Bq:[acX ad len cap]=vs at hv;cases hv with
 |list ad' Zs _ bt off Ds f g1 g2 g3 g4 g5=>
 simp at Bq;obtain ⟨rfl,rfl,rfl⟩:=Bq;refine ⟨rfl,g1,?_⟩;have hlen:((xs.take h').drop l).length=h'-l:=by simp;omega
 have akR:jz key φ [.slice (if cap=l then ad else ad.map (·.add (l *size))) ((xs.take h').drop l).length (cap-l)] (.list ((xs.take h').drop l)):=by
  have ug: ∀i,i<((xs.take h').drop l).length->i+l<xs.length:=by intro i hi;omega
  have hel: ∀(i:Nat) (hi:i<((xs.take h').drop l).length),((xs.take h').drop l)[i]=xs[i+l]'(ug i hi):=by intro i hi;simp [afM]
  refine .list _ _ _ bt (off+l *Ds) Ds (λi=>f (i+l)) (by rw [hlen];omega) ?_ ?_ ?_ ?_
  ·intro h0;have di:cap≠l:=by omega
   have hx0:0<xs.length:=by omega
   rw [g2 hx0];simp only [di,if_false,Option.map_some,IT];by_cases U5:l=0
   ·subst U5;simp [ac8]
   ·have U3:Ds=size:=by have h3:=g5 0 hx0;rw [<-g3 0 hx0,h3.width];exact hw U5 _ (afT hx0)
    rw [U3,ac8]
  ·intro i hi;exact g3 _ (ug i hi)
  ·intro i j hi hj;have:=g4 (i+l) j (ug i hi) hj;rw [<-this];congr 1;rw [adr];omega
  ·intro i hi;rw [hel i hi];exact g5 (i+l) (ug i hi)
 rw [hlen] at akR;exact akR
theorem DI {n:Nat}{l:List MV}(h:pu n l=true): ∀x∈l,x.w=n:=by intro x hx;unfold pu at h;rw [afS] at h;exact sh (h x hx)
theorem bA.pu {key:Nat->Nat} {φ:Ph}{size:Nat}{xs:List MV}: ∀{cs:List Value},bA key φ size cs xs-> ∀x∈xs,x.w=size:=by
 induction xs with
 |nil=>intro cs _ x hx;simp at hx
 |cons y ys ih=>
  intro cs h x hx;obtain ⟨v,q,rfl,h1,h2,h3⟩:=h;rcases acv.1 hx with rfl|hx
  ·rw [<-h2.width,h1]
  ·exact ih h3 x hx
theorem Zu {t:TypeId}{x:Operand}{lo hi:Option Operand}{I:TI}(ho:o.op= .slice t x lo hi none)(hI:c.tv t=some I)(hT:kq P c.ti)(h:b9 c Z e st a w)(hK:SD c I st (aT c st x) (nh c st lo) (nh c st hi) (λs st=>bC c st o.dst s K)=some r):Rd P c Z K r e a w o (λ_=>True):=by
 obtain ⟨hx,sM⟩:=h.eval x;obtain ⟨nV,hc⟩:=bG hI;have hr:=hT t I nV;have run: ∀{el E},P.underlying t=some (.slice el)->c.ti el=some E->E.cQ=[]-> ∀ad len cap l h',a.eval x= .slice ad len cap->(∀w:World,(acE true len cap (lo.map a.eval) (hi.map a.eval) none).run P w= .ok (l,h',cap) w)-> ∀w:World,(execOp a.eval o).run P w= .ok (.value (.slice (if cap=l then ad else ad.map (·.add (l *E.size))) (h'-l) (cap-l))) w:=by intro el E hu hE wi ad len cap l h' hv hb w;obtain ⟨iE,hiE,hsE,_⟩:=(hT _ E hE).info wi;simp [execOp,ho,aeT,afW,run_underlying hu,hv,hb,ac2,typeInfo,hiE,hsE]
 generalize hs:aT c st x=s at hx hK sM;unfold SD at hK;split at hK
 ·rename_i bs;cases hS:I.isS with
  |false=>simp [hS] at hK
  |true=>
   simp only [hS,cond_true] at hK;have hu:=TI.NY hr hS;obtain ⟨b,hb,rfl⟩:=Ig hx;have rR:b.data.toList.length=b.size:=by rw [acY];rfl
   rw [rR] at hK;obtain ⟨l,h',h1,h2,_,h3,hK⟩:=xU (P:=P) (b:=false) (cap:=b.size) h (aaP _) hK;refine kQ (s:= .sc (.p (.s ((b.data.toList.take h').drop l)))) (v:= .string (b.extract l h')) h ?_ ?_ trivial hK
   ·simp [execOp,ho,aeT,afW,run_underlying hu,hb,h3]
   ·have:=Zl (e:=e) (b.extract l h');have h5:(b.extract l h').data.toList=(b.data.toList.take h').drop l:=by rw [aed,Array.toList_extract,List.extract_eq_take_drop,List.drop_take]
    rwa [h5] at this
 ·rename_i xs;cases hS:I.Bm with
  |false=>simp [hS] at hK
  |true=>
   simp only [hS,cond_true] at hK;obtain ⟨hu,_⟩:=TI.nN hr hS;cases hE:c.tv I.elem with
   |none=>simp [hE] at hK
   |some E=>
    simp only [hE] at hK;obtain ⟨tG,wi⟩:=bG hE;have xI:(lo≠none->pu E.size xs=true)/\sliceB (nh c st lo) (nh c st hi) xs.length (λl h'=>bC c st o.dst (.sc (.p (.list ((xs.take h').drop l)))) K)=some r:=by
     cases lo with
     |none=>exact ⟨by simp,hK⟩
     |some y=>simp only [nh] at hK⊢;obtain ⟨h1,h2⟩:=ia hK;exact ⟨λ_=>h1,h2⟩
    obtain ⟨hw,hK⟩:=xI;obtain ⟨ad,cap,hv,Ho⟩:=Io hx;obtain ⟨l,h',h1,h2,h0,h3,hK⟩:=xU (P:=P) (b:=true) (cap:=cap) h Ho hK;simp only [ah,aX] at hx;rw [hv] at hx;obtain ⟨_,_,ic⟩:=jz.sub (size:=E.size) hx.2 h1 h2 (λhl=>DI (hw (λhn=>hl (h0 hn))));refine kQ (s:= .sc (.p (.list ((xs.take h').drop l)))) h (run hu tG wi ad _ cap l h' hv h3) ?_ trivial hK;simp only [ah,aX];exact ⟨rfl,ic⟩
 ·rename_i f;cases hf:aQ st.bo f with
  |none=>simp [hf] at hK
  |some fo=>
   simp only [hf] at hK;cases hS:I.Bm&&cV fo.ty I.elem with
   |false=>simp [hS] at hK
   |true=>simp only [hS,cond_true] at hK;simp only [abF] at hS;obtain ⟨hu,E,tG,wi,_⟩:=TI.nN hr hS.1;have jJ:=sh hS.2;obtain ⟨hvE,ad,cap,hv,Ho⟩:=s9 h hx hf;simp only [ah] at hx;obtain ⟨J,cells,hJ,_,_,nk,_⟩:=(h.iC f fo hf).row;rw [jJ,tG] at hJ;cases hJ;have hwx:=nk.pu;obtain ⟨e',bZ,m,zb,adt,Fi,ic,hK,_,hm⟩:=mH h hx hK;obtain ⟨o2,cU,rfl⟩:=hm.1 f rfl;rw [hf] at cU;cases cU;obtain ⟨l,h',h1,h2,h0,h3,hK⟩:=xU (P:=P) (b:=true) (cap:=cap) h Ho hK;rw [hv] at ic;obtain ⟨_,_,ic⟩:=jz.sub (size:=E.size) ic h1 h2 (λ_=>hwx);refine SP (s:= .sc (.p (.list ((fo.xs.take h').drop l)))) (λw _=>run hu tG wi ad _ cap l h' hv h3 w) zb adt.tr (.of ?_ trivial) hK;simp only [ah,aX];exact ⟨rfl,ic⟩
 ·cases hS:I.Bm with
  |false=>simp [hS] at hK
  |true=>
   simp only [hS,cond_true] at hK;obtain ⟨hu,E,tG,wi,_⟩:=TI.nN hr hS;simp only [ah] at hx;have hx:[a.eval x]=[acX none 0 0]:=hx;simp at hx;obtain ⟨l,h',h1,h2,_,h3,hK⟩:=xU (P:=P) (b:=true) (cap:=0) h (aaP _) hK;have h4:h'=0:=by omega
   have h5:l=0:=by omega
   subst h4;subst h5;refine kQ (s:= .sc .nil) h (run hu tG wi none 0 0 0 0 hx h3) ?_ trivial hK;simp only [ah,if_true];rfl
 ·simp at hK
theorem ady {t:TypeId}{x y z:Operand}{I:TI}(ho:o.op= .slice t x none (some y) (some z))(hI:c.tv t=some I)(hT:kq P c.ti)(h:b9 c Z e st a w)(hK:YV I (aT c st x) (aT c st y) (aT c st z) (λs=>bC c st o.dst s K)=some r):Rd P c Z K r e a w o (λ_=>True):=by
 obtain ⟨hx,sM⟩:=h.eval x;obtain ⟨hy,_⟩:=h.eval y;obtain ⟨hz,_⟩:=h.eval z;obtain ⟨nV,hc⟩:=bG hI;have hr:=hT t I nV;generalize aT c st x=s at hx hK sM;generalize aT c st y=s2 at hy hK;generalize aT c st z=s3 at hz hK;unfold YV at hK;split at hK
 ·rename_i l n n';cases hS:I.Bm with
  |false=>simp [hS] at hK
  |true=>
   simp only [hS,cond_true] at hK;obtain ⟨U4,xI⟩:=ia hK;obtain ⟨rfl,rfl⟩:=of_decide_eq_true U4;obtain ⟨hu,E,tG,wi,_⟩:=TI.nN hr hS;obtain ⟨iE,hiE,hsE,_⟩:=(hT _ E tG).info wi;obtain ⟨ad,cap,hv,Ho⟩:=Io hx;simp only [ah,aX] at hx;rw [hv] at hx;have bnd: ∀(m:Nat) (cd:BoundsCode),l.length<=m-> ∀w:World,(adf (.int .i64 (l.length:Int)) m cd).run P w= .ok l.length w:=by
    intro m cd hm w;have:(l.length:Int)<=(m:Int):=by omega
    simp [adf,asIntOf,this]
   have hb: ∀w:World,(acE true l.length cap none (some (.int .i64 (l.length:Int))) (some (.int .i64 (l.length:Int)))).run P w= .ok (0,l.length,l.length) w:=by intro w;have b1:=bnd cap .slice3Acap Ho;have b2:=bnd l.length .slice3B (aaP _);simp [acE,b1,b2]
   have ic:jz e.key e.φ [.slice ad l.length l.length] (.list l):=by
    have h2:=hx.2;generalize Bq:[acX ad l.length cap]=vs at h2;cases h2 with
    |list ad' Zs _ bt off Ds f g1 g2 g3 g4 g5=>
    simp at Bq;obtain ⟨rfl,_⟩:=Bq;exact .list _ _ _ bt off Ds f (aaP _) g2 g3 g4 g5
   refine kQ (s:= .sc (.p (.clip l))) (v:= .slice ad l.length l.length) h (λw=> ?_) ?_ trivial xI
   ·simp [execOp,ho,aeT,afW,run_underlying hu,hv,o6 hy,o6 hz,hb,ac2,typeInfo,hiE,hsE];intro di;cases ad with
    |none=>rfl
    |some b=>simp [Addr.add]
   ·simp only [ah,aX];exact ⟨rfl,.clip _ _ ic⟩
 ·simp at hK
end
end Dn
/-
  Stores. Conditions: none.
-/
namespace Dn
open Go
section
variable {P:Program}{c:Ctx}{Z:bI} {e e':Env}{st:St}{a:Act} {w w':World}{R:Type}{K:St->Option R}{r:R}{Q:Exit->Act->World->Prop}{o:Oper}
structure Zw (e e':Env):Prop where
 key:e'.key=e.key
 φ:lS e.φ e'.φ
 iC: ∀f o',aQ e'.m f=some o'->(∃o,aQ e.m f=some o)/\e'.E f=e.E f
theorem aX.Yz (h:Zw e e'){vs:List Value}{l:aE}(hr:aX e vs l):aX e' vs l:=by
 cases l with
 |p m=>exact ⟨hr.1,by have:=hr.2.mono h.φ;rw [<-h.key] at this;exact this⟩
 |own f=>obtain ⟨v,rfl,hv,hf⟩:=hr;refine ⟨v,rfl,hv,λo' Li=> ?_⟩;obtain ⟨⟨o,ho⟩,hE⟩:=h.iC f o' Li;rw [hE];exact hf o ho
 |_=>exact hr
theorem ay.Yz (h:Zw e e'){cs:List aE}: ∀{vs:List Value},ay e vs cs->ay e' vs cs:=by
 induction cs with
 |nil=>intro vs hr;exact hr
 |cons l r ih=>intro vs hr;obtain ⟨v,w,rfl,h1,h2⟩:=hr;exact ⟨v,w,rfl,h1.Yz h,ih h2⟩
def SX (f:Nat)(s:Slot):Slot:=match s with
 | .ep g i o b cs=>bif cV g f then .sc .un else .ep g i o b cs
 |s=>s
theorem wT (f:Nat)(r:Fr)(t:Nat):av (z6 f r) t=SX f (av r t):=H9 (SX f) rfl r t
theorem Wv (f:Nat)(s:Slot):dy (SX f s)=dy s:=by cases s<;>simp only [SX];rename_i g _ _ _ _;cases cV g f<;>rfl
theorem ah.Yz {f:Nat}{T:Nat->Prop}(h:Zw e e')(uX:mF (· ≠f) T e e'){v:Value}{s:Slot}(hT:hM (λ_=>True) T s)(hr:ah e v s):ah e' v (SX f s):=by
 cases s with
 |sc l=>
  simp only [SX];cases l with
  |un=>simp [ah]
  |hs x=>simpa [ah] using hr
  |p m=>simp only [ah] at hr⊢;exact hr.Yz h
  |nil=>simp only [ah] at hr⊢;exact hr.Yz h
  |mp s es=>simp only [ah] at hr⊢;exact hr
  |own f=>simp only [ah] at hr⊢;exact hr.Yz h
 |ag cs=>simp only [SX,ah] at hr⊢;obtain ⟨arr,h1,h2⟩:=hr;exact ⟨arr,h1,h2.Yz h⟩
 |tg cs=>simp only [SX,ah] at hr⊢;obtain ⟨arr,h1,h2⟩:=hr;exact ⟨arr,h1,h2.Yz h⟩
 |ep g i o b cs=>
  simp only [SX];cases hb:cV g f
  ·simp only [cond_false];refine hr.on uX ?_;simp only [hM];intro e;subst e;simp [eO] at hb
  ·simp [ah]
 |_=>exact hr.on uX hT
theorem lc.Yz (h:Zw e e')(hk:e'.key=e.key)(hp:lS e.φ e'.φ){o:Obj}{cs:List aE}(hr:lc e o cs):lc e' o cs:=by
 cases o with
 |cells arr T z=>exact ⟨hr.1,hr.2.Yz h⟩
 |map es clock=>exact hr
 |stringIter x pos=>exact hr
 |_=>exact hr.elim
theorem bA.set {key:Nat->Nat} {φ:Ph}{size:Nat}{xs:List MV}: ∀{cs:List Value} {i:Nat} {x:MV} {v':List Value},bA key φ size cs xs->i<xs.length->v'.length=size->jz key φ v' x-> bA key φ size (cs.take (i *size)++v'++cs.drop (i *size+size)) (xs.set i x):=by
 induction xs with
 |nil=>intro cs i x v' _ hi;simp at hi
 |cons y ys ih=>
  intro cs i x v' h hi hl hr;obtain ⟨v,q,rfl,h1,h2,h3⟩:=h;cases i with
  |zero=>simp only [afN,List.take_zero,aej,abC,List.set_cons_zero];exact ⟨v',q,by rw [ac4 h1],hl,hr,h3⟩
  |succ i=>have:=ih h3 (by simpa using hi) hl hr;rw [List.set_cons_succ];refine ⟨v,_,?_,h1,h2,this⟩;rw [acZ,afV,List.drop_append,ada (by omega),List.drop_of_length_le (by omega)];rw [show i *size+size-v.length=i *size by omega,show i *size+size+size-v.length=i *size+size by omega];simp
theorem b9.ahj {f:Nat}{fo:pn}{I:TI}{g i:Nat}{cap:Nat}{fI:Array Value} {v' cells:List Value}{x:MV}(h:b9 c Z e st a w)(hf:aQ st.bo f=some fo)(hz:fo.fb=false)(hI:c.ti fo.ty=some I)(hIc:I.cQ=[])(hE:e.E f= .slice (some ⟨g,0,none⟩) fo.xs.length cap)(eW:w.ownsRow 0 fo.ty I.size (e.E f) fo.xs.length cells)(hg:w.heap[g]? =some (.cells fI fo.ty (0,0)))(nk:bA e.key e.φ I.size cells fo.xs)(hi:i<fo.xs.length)(hl:v'.length=I.size)(hr:jz e.key e.φ v' x)(zN:f∉Z.db): b9 c Z {e with m:=cb e.m f ⟨fo.ty,false,fo.xs.set i x⟩} {st with fr:=z6 f st.fr,bo:=cb st.bo f ⟨fo.ty,false,fo.xs.set i x⟩} a (w.setRow g (fI.toList.take (i *I.size)++v'++fI.toList.drop (i *I.size+I.size)).toArray)/\Z g:=by
 have hb:(e.E f).ownBlock=some g:=by rw [hE];rfl
 have hZ:Z g/\ ∀off,e.φ g off=none:=by
  obtain ⟨J,xR,_,_,_,_,h5⟩:=(h.iC f fo hf).row;obtain ⟨h6,h7⟩:=h5 g hb;refine ⟨Sp h6 zN,λoff=> ?_⟩;cases hp:e.φ g off with
  |none=>rfl
  |some u=>have:=(h7.1 off u hp).1;rw [hz] at this;cases this
 have rR:=setRow_size w g (fI.toList.take (i *I.size)++v'++fI.toList.drop (i *I.size+I.size)).toArray;have hE1:Zw e {e with m:=cb e.m f ⟨fo.ty,false,fo.xs.set i x⟩}:=by
  refine ⟨rfl,.refl _,λf2 o2 cU=>⟨?_,rfl⟩⟩;have cU:aQ (cb e.m f ⟨fo.ty,false,fo.xs.set i x⟩) f2=some o2:=cU;rw [bx] at cU;by_cases ga:f2=f
  ·exact ⟨fo,by rw [ga,h.m];exact hf⟩
  ·simp only [ga,if_false] at cU;exact ⟨o2,cU⟩
 have uX:mF (· ≠f) (λ_=>True) e {e with m:=cb e.m f ⟨fo.ty,false,fo.xs.set i x⟩}:=by refine ⟨rfl,.refl _,λ_ _=>rfl,λf2 o2 cU di=> ?_⟩;have cU:aQ (cb e.m f ⟨fo.ty,false,fo.xs.set i x⟩) f2=some o2:=cU;rw [bx] at cU;simp only [di,if_false] at cU;exact ⟨o2,cU,rfl,rfl⟩
 have ug: ∀f2 o2,aQ (cb st.bo f ⟨fo.ty,false,fo.xs.set i x⟩) f2=some o2-> ∃o3,aQ st.bo f2=some o3:=by
  intro f2 o2 cU;rw [bx] at cU;by_cases ga:f2=f
  ·exact ⟨fo,by rw [ga];exact hf⟩
  ·simp only [ga,if_false] at cU;exact ⟨o2,cU⟩
 refine ⟨⟨h.defers,h.size,by show cb e.m f _=cb st.bo f _;rw [h.m],h.key,?_,?_,?_,?_,?_,?_,?_,?_,λb hb=>h.cS b (by omega)⟩,hZ.1⟩
 ·show (aU (z6 f st.fr)).Nodup;have:aU (z6 f st.fr)=aU st.fr:=by simp [aU,z6]
  rw [this];exact h.nodup
 ·intro t;show cn Z _ _ t _ (av (z6 f st.fr) t);rw [wT];have hs:=h.slot t;have hbf:=h.bf t;generalize av st.fr t=s at hs hbf;by_cases NZ: ∃cs,s= .box cs
  ·obtain ⟨cs,rfl⟩:=NZ;simp only [cn,SX] at hs⊢;refine ⟨hs.1,hs.2.cS,?_,hs.2.free⟩;obtain ⟨o2,h1,h2⟩:=hs.2.obj;refine ⟨o2,?_,h2.Yz hE1 rfl (.refl _)⟩;rw [setRow_other _ _ _ _ (by intro eb;exact hbf cs f fo rfl hf (by rw [hb,<-eb]))];exact h1
  ·have zb:ah e (a.tmps.getD t undef) s:=by cases s<;>simp only [cn] at hs<;>first|exact hs|exact absurd ⟨_,rfl⟩ NZ
   have h2:=zb.Yz (f:=f) hE1 uX (eX s);generalize Sv:SX f s=s2 at h2;cases s2<;>first|exact h2|(exfalso;simp [ah] at h2)
 ·intro t;show dc (z6 f st.fr) (av (z6 f st.fr) t);rw [wT];have sM:=h.root t;generalize av st.fr t=s at sM;have hk: ∀q,dy (av (z6 f st.fr) q)=dy (av st.fr q):=λq=>by rw [wT,Wv]
  cases s with
  |ptr q o=>show dy (av (z6 f st.fr) q)=true;rw [hk];exact sM
  |hp q o i=>show dy (av (z6 f st.fr) q)=true;rw [hk];exact sM
  |zT q=>show dy (av (z6 f st.fr) q)=true;rw [hk];exact sM
  |ep g' _ _ _ _=>simp only [SX];cases cV g' f<;>trivial
  |_=>trivial
 ·intro f2 o2 cU;have cU:aQ (cb st.bo f ⟨fo.ty,false,fo.xs.set i x⟩) f2=some o2:=cU;rw [bx] at cU;by_cases ga:f2=f
  ·subst ga;simp at cU;subst cU;obtain ⟨hlen,Ip⟩:=eW;refine ⟨I,cells.take (i *I.size)++v'++cells.drop (i *I.size+I.size),hI,hIc,⟨?_,?_⟩,?_,?_⟩
   ·have hle:i *I.size+I.size<=fo.xs.length *I.size:=by rw [<-acZ];exact abB _ hi
    simp only [No,adg,ad9,af1];omega
   ·have hle:i *I.size+I.size<=fo.xs.length *I.size:=by rw [<-acZ];exact abB _ hi
    rcases Ip with ⟨h1,_⟩|⟨g2,DJ,Qc,h1,_,h3,h4,h5,h6,h7⟩
    ·rw [hE] at h1;simp at h1
    ·rw [hE] at h1;simp at h1;obtain ⟨rfl,rfl⟩:=h1;rw [hg] at h3;simp at h3;subst h3;refine .inr ⟨g,cap,(fI.toList.take (i *I.size)++v'++fI.toList.drop (i *I.size+I.size)).toArray,by rw [hE];simp,by omega,setRow_heap _ _ _ _ _ _ hg,by simpa using h4,h5,?_,?_⟩
     ·have rl:fI.toList.length=fI.size:=by simp
      have hcz:fo.xs.length *I.size<=cap *I.size:=abB _ h4;simp only [ac1,No,adg,ad9,rl];omega
     ·have rl:fI.toList.length=fI.size:=by simp
      have hcz:fo.xs.length *I.size<=cap *I.size:=abB _ h4;simp only [af1];rw [<-h7];have e1:(fI.toList.take (fo.xs.length *I.size)).take (i *I.size)=fI.toList.take (i *I.size):=by rw [List.take_take,Nat.min_eq_left (by omega)]
      have e2:(fI.toList.take (fo.xs.length *I.size)).drop (i *I.size+I.size)=(fI.toList.drop (i *I.size+I.size)).take (fo.xs.length *I.size-(i *I.size+I.size)):=by rw [List.drop_take]
      rw [e1,e2];have e3:(fI.toList.take (i *I.size)++v').length=i *I.size+I.size:=by simp only [No,adg,rl];omega
      show List.take _ (fI.toList.take (i *I.size)++v'++fI.toList.drop (i *I.size+I.size))=_;rw [afV,e3,ada (by omega)]
   ·exact nk.set hi hl hr
   ·intro bt lT;rw [hb] at lT;cases lT;exact ⟨.inr hZ.1,λoff u hu=>(by have hu:e.φ g off=some u:=hu;rw [hZ.2] at hu;cases hu),λ_ hf=>Bool.noConfusion hf⟩
  ·simp only [ga,if_false] at cU;obtain ⟨I2,xR,h1,h2,h3,h4,h5⟩:=(h.iC f2 o2 cU).row;exact ⟨I2,xR,h1,h2,SU (λhk=>ga (h.ff f2 f o2 fo g cU hf hk hb)) h3,h4,h5⟩
 ·intro t t' c1 c2 h1 h2 di;have h1:av (z6 f st.fr) t= .box c1:=h1;have h2:av (z6 f st.fr) t'= .box c2:=h2;rw [wT] at h1 h2;have g1:av st.fr t= .box c1:=by generalize av st.fr t=s at h1;cases s<;>simp only [SX] at h1<;>first|exact h1|(simp at h1;done)|(rename_i g' _ _ _ _;cases uf:cV g' f<;>simp [uf] at h1)
  have g2:av st.fr t'= .box c2:=by generalize av st.fr t'=s at h2;cases s<;>simp only [SX] at h2<;>first|exact h2|(simp at h2;done)|(rename_i g' _ _ _ _;cases uf:cV g' f<;>simp [uf] at h2)
  exact h.bb t t' c1 c2 g1 g2 di
 ·intro t c1 f2 o2 h1 h2;have h1:av (z6 f st.fr) t= .box c1:=h1;rw [wT] at h1;have g1:av st.fr t= .box c1:=by generalize av st.fr t=s at h1;cases s<;>simp only [SX] at h1<;>first|exact h1|(simp at h1;done)|(rename_i g' _ _ _ _;cases uf:cV g' f<;>simp [uf] at h1)
  obtain ⟨o3,P6⟩:=ug f2 o2 h2;exact h.bf t c1 f2 o3 g1 P6
 ·intro f1 f2 o1 o2 k h1 h2 h3 h4;obtain ⟨q1,g1⟩:=ug f1 o1 h1;obtain ⟨q2,g2⟩:=ug f2 o2 h2;exact h.ff f1 f2 q1 q2 k g1 g2 h3 h4
 ·intro b off v hv;have hv:e.φ b off=some v:=hv;have di:b≠g:=by intro eb;subst eb;rw [hZ.2] at hv;cases hv
  rw [acV (setRow_other _ _ _ _ di)];exact h.kP b off v hv
theorem ay.apj {cs:List aE}: ∀{vs:List Value} {ms:List MV},ay e vs cs->bS cs=some ms->jd e.key e.φ vs ms:=by
 induction cs with
 |nil=>intro vs ms h hm;cases h;simp [bS] at hm;subst hm;exact .nil
 |cons l r ih=>
  intro vs ms h hm;obtain ⟨v,u,rfl,h1,h2⟩:=h;cases hr:bS r with
  |none=>cases l<;>simp [bS,hr] at hm
  |some q=>
   cases l<;>simp [bS,hr] at hm
   ·subst hm;exact .cons v _ u q h1.2 (ih h2 hr)
   ·subst hm;have h1:v=cc _:=h1;subst h1;exact .cons _ _ u q (.h _) (ih h2 hr)
theorem Zx {b:Bool}{ms:List MV}{x:MV}{vs:List Value}(h:jd e.key e.φ vs ms)(hx:wc b ms=some x):jz e.key e.φ vs x:=by
 cases b with
 |true=>cases ms<;>simp [wc] at hx<;>subst hx<;>exact .agg _ _ h
 |false=>
  cases ms with
  |nil=>simp [wc] at hx
  |cons m ms=>
   cases ms with
   |cons y ys=>simp [wc] at hx
   |nil=>
    simp [wc] at hx;subst hx;generalize Bq:vs=Su at h;cases h with
    |cons v _ u _ h1 h2=>cases h2;simpa using h1
theorem Zy {t:TypeId}{x y:Operand}{I:TI}(ho:o.op= .store t x y)(hI:c.tv t=some I)(hT:kq P c.ti)(h:b9 c Z e st a w)(hK:stK st I (aT c st x) (aT c st y) (λst=>bC c st o.dst (.sc .un) K)=some r):o.wp P a w (Out c Z K r e.φ w) Q:=by
 obtain ⟨hx,sM⟩:=h.eval x;obtain ⟨hy,_⟩:=h.eval y;obtain ⟨nV,hc⟩:=bG hI;have hr:=hT t I nV;have go: ∀w' bZ,(adY t (a.eval x) (a.eval y)).run P w= .ok () w'->b9 c Z e bZ a w'->Trans Z e.φ w e.φ w'->bC c bZ o.dst (.sc .un) K=some r->o.wp P a w (Out c Z K r e.φ w) Q:=by intro w' bZ h1 h2 h3 h4;refine DH ?_ h2 h3 h4;simp [execOp,ho,h1]
 generalize aT c st x=sx at hx hK sM;generalize aT c st y=sy at hy hK;unfold stK at hK;cases hb:wP (aP sy)||!cV (zU (aP sy)) I.size with
 |true=>simp [hb] at hK
 |false=>
  simp only [hb,cond_false] at hK;simp only [acW,afy] at hb;have Ll:=sh hb.2;have iY:0<I.size:=by
   rcases hr.agg hc with ⟨d,hu,hd,hh⟩|⟨_,_,_,_,hh⟩
   ·obtain ⟨d',i',h1,h2,h3,h4⟩:=hr;cases d'<;>simp only [wS] at h4<;>first|omega|exact h4.2.2.1|exact absurd hc h4.2.1
   ·omega
  have di:aP sy≠[]:=by intro e0;rw [e0] at Ll;simp [zU] at Ll;omega
  have hcv:=Cf hy hb.1 di;split at hK
  ·rename_i root off;simp only [ah] at hx;split at hK
   ·rename_i cs CV;have xQ:iW cs=false:=by cases hq:iW cs<;>simp_all
    simp only [xQ,cond_false] at hK;cases hp:putAt cs off (aP sy) with
    |none=>simp [hp] at hK
    |some kR=>simp only [hp] at hK;obtain ⟨w',bZ,h1,h2,h3,h4⟩:=Wr (P:=P) xQ hr hc h CV hcv Ll hp hK;exact go w' bZ (by rw [hx];exact h1) h2 h3 h4
   ·simp at hK
  ·rename_i f i off b cs;obtain ⟨e1,cR,ms,Cg,Fk,Fl,xS,hK,hp1,Ch⟩:=nW h hcv hK;have hx:=hx.on Fk.on (eX _);cases hf:aQ cR.bo f with
   |none=>simp [hf] at hK
   |some fo=>
    simp only [hf] at hK;cases hz:fo.fb with
    |true=>simp [hz] at hK
    |false=>
     simp only [hz,cond_false] at hK;cases Lj:sC (aP sy) ms with
     |none=>simp [Lj] at hK
     |some vs=>
      simp only [Lj] at hK;obtain ⟨Bq,_⟩:=Ch vs Lj;cases hp:putAt cs off vs with
      |none=>simp [hp] at hK
      |some kR=>
       simp only [hp] at hK;cases hm:bS kR with
       |none=>simp [hm] at hK
       |some ms'=>
        simp only [hm] at hK;cases Sw:wc b ms' with
        |none=>simp [Sw] at hK
        |some x'=>
         simp only [Sw] at hK;cases hn:bJ cR.db f with
         |true=>simp [hn] at hK
         |false=>
          simp only [hn,cond_false,ag5,pz] at hK;simp only [ah] at hx;obtain ⟨bt,cap,hE,⟨x0,hx0,hel⟩,Zz⟩:=hx fo (by rw [Cg.m];exact hf);obtain ⟨J,cells,hJ,hJc,eW,nk,_⟩:=(Cg.iC f fo hf).row;have hi:i<fo.xs.length:=(BY.1 hx0).1;obtain ⟨p1,v1,p2,hce,NV,y9,ic⟩:=nk.at hx0;have tF:=ic.Ik hel;have hw1:=tF.width;obtain ⟨q1,q2,q3,Ss,hq1,hq2,wh⟩:=CT hp tF Bq;have akS:(a.eval y).cells.toList.length=I.size:=by rw [hcv.width,Ll]
          have akT:=Zx (wh.apj hm) Sw;obtain ⟨hlen,Ip⟩:=eW;rcases Ip with ⟨g1,_⟩|⟨g2,DJ,fI,g1,g0,g3,g4,g5,g6,g7⟩
          ·rw [hE] at g1;simp at g1
          ·have Mm:w.ownsRow 0 fo.ty J.size (e1.E f) fo.xs.length cells:=⟨hlen,.inr ⟨g2,DJ,fI,g1,g0,g3,g4,g5,g6,g7⟩⟩
           rw [hE] at g1;simp at g1;obtain ⟨rfl,rfl⟩:=g1;have hvl:(q1++(a.eval y).cells.toList++q3).length=J.size:=by
            have:v1.length=(q1++q2++q3).length:=by rw [Ss]
            simp only [No] at this⊢;omega
           obtain ⟨ta,hZ⟩:=Cg.ahj hf hz hJ hJc hE Mm g3 nk hi hvl akT (by rw [<-Cg.defers.2.2.1,<-bL,hn];simp);have ZA:fI.toList=p1++q1++q2++(q3++p2++fI.toList.drop (fo.xs.length *J.size)):=by have:=List.take_append_drop (fo.xs.length *J.size) fI.toList;rw [g7,hce,Ss] at this;refine this.symm.trans ?_;simp
           have au9:q2.length=I.size:=by rw [hq2,akS]
           have Fj:(p1++q1).length=i *J.size+off:=by simp [NV,hq1]
           have ava:fI.size=(p1++q1).length+I.size+(q3++p2++fI.toList.drop (fo.xs.length *J.size)).length:=by
            have:fI.toList.length=(p1++q1++q2++(q3++p2++fI.toList.drop (fo.xs.length *J.size))).length:=by rw [<-ZA]
            rw [No,No] at this;rw [acY] at this;omega
           have cr:=sD (P:=P) (w:=w) (bt:=bt) (off:=i *J.size+off) (v:=a.eval y) hr hc akS hcv.cells g3 (by omega);have je:fI.toList.take (i *J.size+off)++(a.eval y).cells.toList++fI.toList.drop (i *J.size+off+I.size)= fI.toList.take (i *J.size)++(q1++(a.eval y).cells.toList++q3)++fI.toList.drop (i *J.size+J.size):=by
            have t1:fI.toList.take (i *J.size+off)=p1++q1:=by
             conv=>lhs;rw [ZA,AT (p1++q1)]
             exact adx Fj
            have t2:fI.toList.drop (i *J.size+off+I.size)=q3++p2++fI.toList.drop (fo.xs.length *J.size):=by
             conv=>lhs;rw [ZA]
             exact ac4 (by rw [No];omega)
            have t3:fI.toList.take (i *J.size)=p1:=by
             conv=>lhs;rw [ZA]
             simp only [AT];exact adx NV
            have t4:fI.toList.drop (i *J.size+J.size)=p2++fI.toList.drop (fo.xs.length *J.size):=by
             have akU:fI.toList=(p1++(q1++q2++q3))++(p2++fI.toList.drop (fo.xs.length *J.size)):=by
              conv=>lhs;rw [ZA]
              simp
             conv=>lhs;rw [akU]
             exact ac4 (by rw [No,<-Ss];omega)
            rw [t1,t2,t3,t4];simp
           rw [je] at cr;have apl:i *zU cs+off=i *J.size+off:=by rw [<-hw1,y9]
           refine DH (w':=w.setRow bt (fI.toList.take (i *J.size)++(q1++(a.eval y).cells.toList++q3)++fI.toList.drop (i *J.size+J.size)).toArray) ?_ ta ?_ hK
           ·rw [apl] at Zz;simp [execOp,ho,Zz,cr]
           ·exact Fk.tr.trans (.setRow _ hZ)
  ·simp at hK
end
end Dn
/-
  Structs and sums that are put together. Conditions: none.
-/
namespace Dn
open Go
section
variable {P:Program}{c:Ctx}{Z:bI} {e e':Env}{st:St}{a:Act} {w w':World}{R:Type}{K:St->Option R}{r:R}{Q:Exit->Act->World->Prop}{o:Oper}
theorem Ww {place:Nat->Option (Nat×Nat)}{cells:Array Value}{i off:Nat}{v:Value}{rest:List (Nat×Value)}(hp:place i=some (off,v.cells.size))(hle:off+v.cells.size<=cells.size): aee place cells ((i,v)::rest)=aee place (cells.toList.take off++v.cells.toList++cells.toList.drop (off+v.cells.size)).toArray rest:=by
 conv=>lhs;unfold aee
 simp only [hp];rw [if_neg (by simp;omega)];congr 1;rw [<-Array.foldl_toList,Array.toList_zipIdx];obtain ⟨h1,h2⟩:=Go.Great.foldl_set off v.cells.toList 0 cells;apply afG;intro k;have hl:(cells.toList.take off).length=off:=by simp;omega
 have e0:=h2 k;simp only [aec,acY] at e0;refine Eq.trans e0 ?_;have e1:(cells.toList.take off++v.cells.toList++cells.toList.drop (off+v.cells.size)).toArray[k]? =(cells.toList.take off++v.cells.toList++cells.toList.drop (off+v.cells.size))[k]? :=by simp
 rw [e1,AT];have e2:cells[k]? =cells.toList[k]? :=by simp
 by_cases h3:k<off
 ·rw [if_neg (by omega),aaU (by omega),acT,if_pos h3,e2]
 ·rw [abz (by omega),hl];by_cases h4:k<off+v.cells.size
  ·rw [if_pos ⟨by omega,h4,by omega⟩,aaU (by simp;omega)]
  ·rw [if_neg (by omega),abz (by simp;omega),adW,e2];congr 1;simp;omega
theorem SY {I:TI}{places:List (Nat×Nat)}(h:b9 c Z e st a w)(Lj: ∀(i q y:Nat)(J:TI),I.HW[i]? =some q->I.Wb[i]? =some y->c.tv y=some J->places[i]? =some (q,J.size)/\0<J.size){parts:List (Nat×Operand)}: ∀{cs ds:List aE} {cells:Array Value},ay e cells.toList cs->CH c st I parts cs=some ds-> ∃out,aee (places.toArray[·]?) cells (parts.map λp=>(p.1,a.eval p.2))=some out/\ay e out.toList ds:=by
 induction parts with
 |nil=>intro cs ds cells hl hb;simp [CH] at hb;subst hb;exact ⟨cells,rfl,hl⟩
 |cons p ps ih=>
  intro cs ds cells hl hb;obtain ⟨i,x⟩:=p;simp only [CH] at hb;split at hb
  ·rename_i q y hq hy;cases hJ:c.tv y with
   |none=>simp [hJ] at hb
   |some J=>
    simp only [hJ] at hb;obtain ⟨hpi,iY⟩:=Lj i q y J hq hy hJ;cases hu:wP (aP (aT c st x))||!cV (zU (aP (aT c st x))) J.size with
    |true=>simp [hu] at hb
    |false=>
     simp only [hu,cond_false] at hb;simp only [acW,afy] at hu;have Ll:=sh hu.2;cases hp:putAt cs q (aP (aT c st x)) with
     |none=>simp [hp] at hb
     |some kR=>
      simp only [hp] at hb;have di:aP (aT c st x)≠[]:=by intro e0;rw [e0] at Ll;simp [zU] at Ll;omega
      have hv:=Cf (h.eval x).1 hu.1 di;obtain ⟨p1,p2,p3,he,h1,h2,h3⟩:=CT hp hl hv;have hlen:(a.eval x).cells.size=J.size:=by rw [<-Ll,<-hv.width];simp
      have rR:cells.size=p1.length+p2.length+p3.length:=by
       have:cells.toList.length=(p1++p2++p3).length:=by rw [he]
       simp at this;omega
      have NW:p2.length=(a.eval x).cells.size:=by rw [h2];simp
      have Gk:=Ww (place:=(places.toArray[·]?)) (cells:=cells) (i:=i) (off:=q) (v:=a.eval x) (rest:=ps.map λp=>(p.1,a.eval p.2)) (by rw [hlen];simpa using hpi) (by omega);have ht:cells.toList.take q++(a.eval x).cells.toList++cells.toList.drop (q+(a.eval x).cells.size)=p1++(a.eval x).cells.toList++p3:=by rw [he];rw [AT p1 p2 p3,adx h1,<-AT p1 p2 p3,ac4 (by rw [No];omega)]
      rw [ht] at Gk;obtain ⟨out,h4,h5⟩:=ih (cells:=(p1++(a.eval x).cells.toList++p3).toArray) (by simpa using h3) hb;exact ⟨out,by rw [aaJ,Gk];exact h4,h5⟩
  ·simp at hb
theorem Wx (P:Program)(l:List Field):(∀f∈l,∃i,P.info? f.type=some i)-> ∃places,l.mapM (λf=>(P.info? f.type).map λi=>(f.offset,i.size))=some places/\ ∀(k:Nat) (f:Field),l[k]? =some f-> ∃i,P.info? f.type=some i/\places[k]? =some (f.offset,i.size):=by
 induction l with
 |nil=>intro _;exact ⟨[],by simp,by simp⟩
 |cons f fs ih=>
  intro h;obtain ⟨i,hi⟩:=h f (by simp);obtain ⟨ps,h1,h2⟩:=ih (λg hg=>h g (by simp [hg]));refine ⟨(f.offset,i.size)::ps,by simp [List.mapM_cons,hi,h1],?_⟩;intro k g hg;cases k with
  |zero=>simp at hg;subst hg;exact ⟨i,hi,rfl⟩
  |succ k=>simp at hg;simpa using h2 k g hg
theorem ZB {t:TypeId}{parts:Array (Nat×Operand)}{I:TI}(ho:o.op= .build t parts)(hI:c.tv t=some I)(hT:kq P c.ti)(h:b9 c Z e st a w)(hK:(bif I.st then (match CH c st I parts.toList I.zero with|some cs=>bC c st o.dst (.ag cs) K|none=>none)
  else none)=some r):Rd P c Z K r e a w o (λ_=>True):=by
 obtain ⟨nV,hc⟩:=bG hI;obtain ⟨d,i,h1,h2,h3,h4⟩:=hT t I nV;have YA:(parts.map λ(i,x)=>(i,a.eval x)).toList=parts.toList.map λp=>(p.1,a.eval p.2):=by simp
 have run: ∀out,P.built t (parts.toList.map λp=>(p.1,a.eval p.2))=some out-> ∀w:World,(execOp a.eval o).run P w= .ok (.value (.agg out)) w:=by intro out hb w;have:=run_build (P:=P) w t (parts.map λ(i,x)=>(i,a.eval x)) out (by rw [YA];exact hb);simp [execOp,ho] at this⊢;simp [this]
 cases iF:I.st with
 |true=>
  simp only [iF,cond_true] at hK;cases d<;>simp only [wS] at h4;case struct fs=>
   obtain ⟨_,_,_,Wn,cU,P6,zc,hz,hzl,_⟩:=h4;cases hb:CH c st I parts.toList I.zero with
   |none=>simp [hb] at hK
   |some cs=>
    simp only [hb] at hK;have apm: ∃places,fs.toList.mapM (λf=>(P.info? f.type).map λi=>(f.offset,i.size))=some places/\ (∀(i q y:Nat) (J:TI),I.HW[i]? =some q->I.Wb[i]? =some y->c.tv y=some J->places[i]? =some (q,J.size)/\0<J.size):=by
     obtain ⟨places,hp1,Mk⟩:=Wx P fs.toList (by intro f hf;obtain ⟨k,hk,rfl⟩:=aet.1 hf;obtain ⟨J,hJ,hJc,_⟩:=P6 k fs.toList[k] (by simp at hk⊢);obtain ⟨i,hi,_⟩:=(hT _ J hJ).info hJc;exact ⟨i,hi⟩);refine ⟨places,hp1,?_⟩;intro i q y J hq hy hJ;rw [<-Wn,ac0] at hq;rw [<-cU,ac0] at hy;cases hf:fs.toList[i]? with
     |none=>simp [hf] at hq
     |some f=>simp [hf] at hq hy;subst hq;subst hy;obtain ⟨J2,hJ2,apn,iY⟩:=P6 i f (by simpa using hf);obtain ⟨hJt,_⟩:=bG hJ;rw [hJ2] at hJt;cases hJt;obtain ⟨i2,hi2,apo⟩:=Mk i f hf;obtain ⟨i3,hi3,hs3,_⟩:=(hT _ J hJ2).info apn;rw [hi2] at hi3;cases hi3;exact ⟨by rw [apo,hs3],iY⟩
    obtain ⟨places,Lj,SZ⟩:=apm;obtain ⟨out,h5,h6⟩:=SY h SZ (cells:=zc) (mG hzl) hb;refine kQ (v:= .agg out) (s:= .ag cs) h (run out ?_) ?_ trivial hK
    ·unfold Program.built;simp only [h2,h1,hz,Lj];exact h5
    ·simp only [ah];exact ⟨out,rfl,h6⟩
  all_goals (exfalso;simp_all)
 |false=>simp [iF] at hK
end
end Dn
/-
  A family comes to have other content. Conditions: none.
-/
namespace Dn
open Go
section
variable {P:Program}{c:Ctx}{Z:bI} {e e':Env}{st:St}{a:Act} {w w':World}{R:Type}{K:St->Option R}{r:R}{Q:Exit->Act->World->Prop}{o:Oper}
def Env.wU (e:Env)(f:Nat)(v:Value)(fo:pn):Env:={e with E:=λg=>if g=f then v else e.E g,m:=cb e.m f fo}
def St.wU (st:St)(f:Nat)(fo:pn):St:={st with fr:=mj f st.fr,bo:=cb st.bo f fo}
theorem Fm (f:Nat)(s:Slot):dy (Bo f s)=dy s:=by cases s<;>simp only [Bo,dy];rename_i g _ _ _ _;cases cV g f<;>rfl
theorem vo {f:Nat}{s:Slot}{cs:List aE}(h:Bo f s= .box cs): ∃Hp,s= .box Hp/\cs=Hp.map (NO f):=by
 cases s<;>simp only [Bo] at h<;>first|(simp at h;done)|(rename_i g _ _ _ _;cases hb:cV g f<;>simp [hb] at h;done)|skip
 rename_i Hp;simp at h;exact ⟨Hp,rfl,h.symm⟩
theorem b9.kA {f:Nat}{fo:pn} {v':Value}(h:b9 c Z e st a w)(zN:f∉Z.db)(jK:cT c Z.nc e w' v' fo)(asX:w.heap.size<=w'.heap.size)(fG: ∀b,b<w.heap.size->(∀o,aQ st.bo f=some o->(e.E f).ownBlock≠some b)->w'.heap[b]? =w.heap[b]?)(mn: ∀b o v,e.φ b o=some v->w'.cell? ⟨b,o,none⟩=some v)(wh: ∀b,v'.ownBlock=some b->w.heap.size<=b\/ ∃o,aQ st.bo f=some o/\(e.E f).ownBlock=some b): b9 c Z (e.wU f v' fo) (st.wU f fo) a w':=by
 have uX:mF (· ≠f) (λ_=>True) e (e.wU f v' fo):=by refine ⟨rfl,.refl _,λ_ _=>rfl,λf2 o2 cU di=> ?_⟩;have cU:aQ (cb e.m f fo) f2=some o2:=cU;rw [bx] at cU;simp only [di,if_false] at cU;exact ⟨o2,cU,by simp [Env.wU,di],rfl⟩
 have ZC: ∀t cs,av st.fr t= .box cs->e.B t<w.heap.size:=by intro t cs ht;have hs:=h.slot t;rw [ht] at hs;obtain ⟨o2,h1,_⟩:=hs.2.obj;exact aZ h1
 have uZ: ∀t cs,av st.fr t= .box cs->w'.heap[e.B t]? =w.heap[e.B t]? :=by intro t cs ht;exact fG _ (ZC t cs ht) (λo ho=>h.bf t cs f o ht ho)
 refine ⟨h.defers,h.size,by show cb e.m f _=cb st.bo f _;rw [h.m],h.key,?_,?_,?_,?_,?_,?_,?_,mn,λb hb=>h.cS b (by omega)⟩
 ·show (aU (mj f st.fr)).Nodup;have:aU (mj f st.fr)=aU st.fr:=by simp [aU,mj]
  rw [this];exact h.nodup
 ·intro t;show cn Z _ _ t _ (av (mj f st.fr) t);rw [iX];have hs:=h.slot t;have B2:=uZ t;generalize av st.fr t=s at hs B2;by_cases NZ: ∃cs,s= .box cs
  ·obtain ⟨cs,rfl⟩:=NZ;simp only [cn,Bo] at hs⊢;refine ⟨hs.1.mC (SO f _),hs.2.cS,?_,hs.2.free⟩;obtain ⟨o2,h1,h2⟩:=hs.2.obj;refine ⟨o2,by show w'.heap[e.B t]? =_;rw [B2 cs rfl];exact h1,?_⟩;refine (h2.map (λ_ _=>aX.kill f) (λ_ _=>rfl)).on uX ?_;intro l hl;obtain ⟨x,_,rfl⟩:=adM.1 hl;exact Fc f x
  ·have zb:ah e (a.tmps.getD t undef) s:=by cases s<;>simp only [cn] at hs<;>first|exact hs|exact absurd ⟨_,rfl⟩ NZ
   have h2:=(zb.kill f).on uX (Zf f _ s (eX s));generalize Sv:Bo f s=s2 at h2;cases s2<;>first|exact h2|(exfalso;simp [ah] at h2)
 ·intro t;show dc (mj f st.fr) (av (mj f st.fr) t);rw [iX];have sM:=h.root t;generalize av st.fr t=s at sM;have hk: ∀q,dy (av (mj f st.fr) q)=dy (av st.fr q):=λq=>by rw [iX,Fm]
  cases s with
  |ptr q o=>show dy (av (mj f st.fr) q)=true;rw [hk];exact sM
  |hp q o i=>show dy (av (mj f st.fr) q)=true;rw [hk];exact sM
  |zT q=>show dy (av (mj f st.fr) q)=true;rw [hk];exact sM
  |ep g' _ _ _ _=>simp only [Bo];cases cV g' f<;>trivial
  |_=>trivial
 ·intro f2 o2 cU;have cU:aQ (cb st.bo f fo) f2=some o2:=cU;rw [bx] at cU;by_cases ga:f2=f
  ·subst ga;simp at cU;subst cU;have:=(jK.to zN).env (e':=e.wU f2 v' fo) rfl rfl;simpa [Env.wU] using this
  ·simp only [ga,if_false] at cU;obtain ⟨I2,xR,h1,h2,h3,h4,h5⟩:=(h.iC f2 o2 cU).row;refine ⟨I2,xR,h1,h2,?_,h4,?_⟩
   ·show w'.ownsRow 0 o2.ty I2.size (if f2=f then v' else e.E f2) o2.xs.length xR;rw [if_neg ga];refine ⟨h3.1,?_⟩;rcases h3.2 with h6|⟨g,cap,fI,g1,g2,g3,g4⟩
    ·exact .inl h6
    ·refine .inr ⟨g,cap,fI,g1,g2,?_,g4⟩;rw [fG g (aZ g3) (λo ho hk=>ga (h.ff f2 f o2 o g cU ho (by rw [g1];rfl) hk))];exact g3
   ·intro bt hb;have hb:(if f2=f then v' else e.E f2).ownBlock=some bt:=hb;rw [if_neg ga] at hb;exact h5 bt hb
 ·intro t t' c1 c2 h1 h2 di;have h1:av (mj f st.fr) t= .box c1:=h1;have h2:av (mj f st.fr) t'= .box c2:=h2;rw [iX] at h1 h2;obtain ⟨d1,g1,_⟩:=vo h1;obtain ⟨d2,g2,_⟩:=vo h2;exact h.bb t t' d1 d2 g1 g2 di
 ·intro t c1 f2 o2 h1 h2;have h1:av (mj f st.fr) t= .box c1:=h1;have h2:aQ (cb st.bo f fo) f2=some o2:=h2;rw [iX] at h1;rw [bx] at h2;obtain ⟨d1,g1,_⟩:=vo h1;show (if f2=f then v' else e.E f2).ownBlock≠some (e.B t);by_cases ga:f2=f
  ·rw [if_pos ga];intro hb;rcases wh _ hb with h3|⟨o,h3,h4⟩
   ·have:=ZC t d1 g1;omega
   ·exact h.bf t d1 f o g1 h3 h4
  ·rw [if_neg ga];simp only [ga,if_false] at h2;exact h.bf t d1 f2 o2 g1 h2
 ·intro f1 f2 o1 o2 k h1 h2 h3 h4;have h1:aQ (cb st.bo f fo) f1=some o1:=h1;have h2:aQ (cb st.bo f fo) f2=some o2:=h2;have h3:(if f1=f then v' else e.E f1).ownBlock=some k:=h3;have h4:(if f2=f then v' else e.E f2).ownBlock=some k:=h4;rw [bx] at h1 h2;have qA: ∀g og,aQ st.bo g=some og->(e.E g).ownBlock=some k->k<w.heap.size:=by
   intro g og hg hk;obtain ⟨I2,xR,_,_,g3,_⟩:=(h.iC g og hg).row;rcases g3.2 with ⟨g5,_⟩|⟨b,cap,fI,g5,_,g6,_⟩
   ·rw [g5] at hk;simp [aau] at hk
   ·rw [g5] at hk;simp only [aau,IT] at hk;subst hk;exact aZ g6
  by_cases N0:f1=f
  ·by_cases Dt:f2=f
   ·rw [N0,Dt]
   ·rw [if_pos N0] at h3;rw [if_neg Dt] at h4;simp only [Dt,if_false] at h2;rcases wh k h3 with h5|⟨o,h5,h6⟩
    ·have:=qA f2 o2 h2 h4;omega
    ·exact N0.trans (h.ff f f2 o o2 k h5 h2 h6 h4)
  ·rw [if_neg N0] at h3;simp only [N0,if_false] at h1;by_cases Dt:f2=f
   ·rw [if_pos Dt] at h4;rcases wh k h4 with h5|⟨o,h5,h6⟩
    ·have:=qA f1 o1 h1 h3;omega
    ·exact (h.ff f1 f o1 o k h1 h5 h3 h6).trans Dt.symm
   ·rw [if_neg Dt] at h4;simp only [Dt,if_false] at h2;exact h.ff f1 f2 o1 o2 k h1 h2 h3 h4
theorem qL {f:Nat}{fo:pn}(hK:kA st f fo K=some r):K (st.wU f fo)=some r:=by
 unfold Dn.kA at hK;cases hn:bJ st.db f with
 |true=>simp [hn] at hK
 |false=>simpa [hn,Za,pz,St.wU] using hK
theorem b9.npf {f:Nat}{fo:pn}(h:b9 c Z e st a w)(hK:Dn.kA st f fo K=some r):f∉Z.db:=by intro hm;rw [<-h.defers.2.2.1,<-bL] at hm;simp [Dn.kA,hm] at hK
theorem wV {f:Nat}{fo:pn}{v:Value}(h1:v.oneCell'=true):ah (e.wU f v fo) v (.sc (.own f)):=by simp only [ah];exact ⟨v,rfl,h1,λo ho=>by simp [Env.wU]⟩
end
end Dn
/-
  What is appended. Conditions: none.
-/
namespace Dn
open Go
section
variable {P:Program}{c:Ctx}{Z:bI} {e e':Env}{st:St}{a:Act} {w w':World}{R:Type}{K:St->Option R}{r:R}{Q:Exit->Act->World->Prop}{o:Oper}
theorem lJ {t:TypeId}{I:TI}(hr:rQ c.ti P t I)(hc:I.cQ=[]): ∃i z,P.info? t=some i/\i.size=I.size/\i.bytes=I.bytes/\i.zero=some z/\z.cells.size=I.size:=by
 obtain ⟨d,i,h1,h2,h3,h4⟩:=hr;obtain ⟨h5,h6⟩:=h3 hc;cases d<;>simp only [wS] at h4;case struct fs=>obtain ⟨_,_,_,_,_,_,cs,hz,_,hs⟩:=h4;exact ⟨i,_,h2,h5,h6,hz,by simpa [abJ] using hs⟩
 case tuple ts=>exact absurd hc h4.2.1
 case slice el=>obtain ⟨_,_,hs,_,_,hz,_⟩:=h4;exact ⟨i,_,h2,h5,h6,hz,by rw [hs];rfl⟩
 case array n el=>obtain ⟨_,_,hs,_,_,_,_,_,hz⟩:=h4;exact ⟨i,_,h2,h5,h6,hz,by rw [hs];simp [abJ,gX]⟩
 case bool=>obtain ⟨_,_,hs,_,_,hz⟩:=h4;exact ⟨i,_,h2,h5,h6,hz,by rw [hs];rfl⟩
 case int k=>obtain ⟨_,_,hs,_,_,hz⟩:=h4;exact ⟨i,_,h2,h5,h6,hz,by rw [hs];rfl⟩
 case string=>obtain ⟨_,_,hs,_,_,b,hz,_⟩:=h4;exact ⟨i,_,h2,h5,h6,hz,by rw [hs];rfl⟩
 all_goals
  obtain ⟨_,_,hs,_,v,hz,hv,_⟩:=h4;refine ⟨i,v,h2,h5,h6,hz,?_⟩;rw [hs];cases v<;>simp_all [abJ,aaK]
structure Src (e:Env) (w:World) (size:Nat) (v:Value) (ys:List MV) (news:List Value):Prop where
 els:bA e.key e.φ size news ys
 val: ∃ad cap,v= .slice ad ys.length cap/\(ad=none->ys=[])/\ ∀x,ad=some x-> ∀(j:Nat) (u:Value),news[j]? =some u->w.cell? (x.add j)=some u
theorem bA.Iq {key:Nat->Nat} {φ:Ph}{size:Nat}{xs:List MV}: ∀{cs:List Value},bA key φ size cs xs-> ∀u∈cs,u.oneCell'=true:=by
 induction xs with
 |nil=>intro cs h;cases h;simp
 |cons x xs ih=>
  intro cs h u hu;obtain ⟨v,q,rfl,_,h2,h3⟩:=h;rcases aef.1 hu with hu|hu
  ·exact h2.cells u hu
  ·exact ih h3 u hu
theorem bA.append {key:Nat->Nat} {φ:Ph}{size:Nat}{xs ys:List MV}: ∀{cs ds:List Value},bA key φ size cs xs->bA key φ size ds ys->bA key φ size (cs++ds) (xs++ys):=by
 induction xs with
 |nil=>intro cs ds h h';cases h;simpa using h'
 |cons x xs ih=>intro cs ds h h';obtain ⟨v,q,rfl,h1,h2,h3⟩:=h;exact ⟨v,q++ds,by simp,h1,h2,ih h3 h'⟩
theorem Ir {key:Nat->Nat} {φ:Ph}{size:Nat}{xs:List MV}: ∀{f:Nat->List Value},(∀i,i<xs.length->(f i).length=size)->(∀(i:Nat) (h:i<xs.length),jz key φ (f i) xs[i])-> ∃cs,bA key φ size cs xs/\ ∀(i j:Nat),i<xs.length->j<size->cs[i *size+j]? =(f i)[j]? :=by
 induction xs with
 |nil=>intro f _ _;exact ⟨[],rfl,λi j hi=>by simp at hi⟩
 |cons x xs ih=>
  intro f h1 h2;obtain ⟨cs,h3,h4⟩:=ih (f:=λi=>f (i+1)) (λi hi=>h1 (i+1) (by simpa using hi)) (λi hi=>h2 (i+1) (by simpa using hi));have hl:=h1 0 (by simp);refine ⟨f 0++cs,⟨f 0,cs,rfl,hl,h2 0 (by simp),h3⟩,?_⟩;intro i j hi hj;cases i with
  |zero=>rw [afN,abC,aaU (by omega)]
  |succ i=>rw [acZ,abz (by omega),show i *size+size+j-(f 0).length=i *size+j by omega];exact h4 i j (by simpa using hi) hj
theorem Gl {I E:TI}{x:Slot}{v:Value} {K':List MV->Option R}(h:b9 c Z e st a w)(hE:c.ti I.elem=some E)(iY:0<E.size)(hx:ah e v x)(hK:NI I E st x K'=some r): ∃ys news,Src e w E.size v ys news/\K' ys=some r:=by
 unfold NI at hK;split at hK
 ·rename_i xs;obtain ⟨hw,hK⟩:=ia hK;simp only [ah,aX] at hx;obtain ⟨_,hx⟩:=hx;generalize hv:[v]=vs at hx;cases hx with
  |list ad cap _ bt off Ds f g1 g2 g3 g4 g5=>
  simp at hv;have U3: ∀i,i<xs.length->(f i).length=E.size:=by intro i hi;rw [(g5 i hi).width];exact DI hw _ (afT hi)
  obtain ⟨cs,h1,h2⟩:=Ir U3 g5;refine ⟨xs,cs,⟨h1,ad,cap,hv,?_,?_⟩,hK⟩
  ·intro hn;cases xs with
   |nil=>rfl
   |cons y ys=>have:=g2 (by simp);rw [hn] at this;cases this
  ·intro x hx j u hj;have Gi:j<cs.length:=(BY.1 hj).1;rw [h1.length] at Gi;have Is:0<xs.length:=by
    cases xs with
    |nil=>simp at Gi
    |cons y ys=>simp
   have S0:=g2 Is;rw [hx] at S0;cases S0;have hq:j/E.size<xs.length:=(Nat.div_lt_iff_lt_mul iY).2 Gi;have hm:=Nat.mod_lt j iY;have SS:j=j/E.size *E.size+j%E.size:=by rw [Nat.mul_comm];exact (Nat.div_add_mod j E.size).symm
   have e1:=h2 (j/E.size) (j%E.size) hq hm;rw [<-SS,hj] at e1;have ZD:Ds=E.size:=by rw [<-g3 0 Is,U3 0 Is]
   have e2:=g4 (j/E.size) (j%E.size) hq (by rw [ZD];exact hm);rw [<-e1,ZD,adl,<-SS] at e2;have:=h.kP _ _ _ e2;rw [ac8];exact this
 ·simp only [ah] at hx;have hx:[v]=[acX none 0 0]:=hx;simp at hx;exact ⟨[],[],⟨rfl,none,0,hx,λ_=>rfl,by simp⟩,hK⟩
 ·rename_i f;cases hf:aQ st.bo f with
  |none=>simp [hf] at hK
  |some fo=>
   simp only [hf] at hK;cases hb:cV fo.ty I.elem with
   |false=>simp [hb] at hK
   |true=>
    simp only [hb,cond_true] at hK;have jJ:=sh hb;obtain ⟨hv,_⟩:=s9 h hx hf;obtain ⟨J,cells,hJ,_,eW,nk,_⟩:=(h.iC f fo hf).row;rw [jJ,hE] at hJ;cases hJ;refine ⟨fo.xs,cells,⟨nk,?_⟩,hK⟩;rcases eW.2 with ⟨h1,h2⟩|⟨g,cap,fI,h1,_⟩
    ·exact ⟨none,0,by rw [hv,h1,h2],λ_=>AI h2,by simp⟩
    ·refine ⟨some ⟨g,0,none⟩,cap,by rw [hv,h1],by simp,?_⟩;intro x hx j u hj;cases hx;exact eW.cells (g:=g) (by rw [h1];rfl) j u hj
 ·simp at hK
end
end Dn
/-
  Appends. Conditions: none.
-/
namespace Dn
open Go
section
variable {P:Program}{c:Ctx}{Z:bI} {e e':Env}{st:St}{a:Act} {w w':World}{R:Type}{K:St->Option R}{r:R}{Q:Exit->Act->World->Prop}{o:Oper}
structure akW (w w':World) (el:TypeId) (size:Nat) (v v':Value) (n m:Nat) (cells news:List Value):Prop where
 own:w'.ownsRow 0 el size v' (n+m) (cells++news)
 size:w.heap.size<=w'.heap.size
 qA: ∀k,k<w.heap.size->some k≠v.ownBlock->w'.heap[k]? =w.heap[k]?
 cell: ∀(k off:Nat) (u:Value),v.ownBlock=some k->off<cells.length->w.cell? ⟨k,off,none⟩=some u->w'.cell? ⟨k,off,none⟩=some u
 place:v'.ownBlock=v.ownBlock\/v'.ownBlock=some w.heap.size
 rest:Rest w w'
structure Apx (P:Program) (w:World) (u el:TypeId) (size:Nat) (x:Value) (m:Nat) (news:List Value):Prop where
 ty:P.underlying u=some (.slice el)\/P.underlying u=some .string
 len:Builtin.lenOf x=pure m
 now:(ac5 size m x).run P w= .ok news.toArray w
 drew:(ac5 size m x).run P w.drew= .ok news.toArray w.drew
 one: ∀y∈news,y.oneCell'=true
 nl:news.length=m *size
theorem Src.apx {ys:List MV}{news:List Value}{x:Value}{u el:TypeId}{size:Nat}(hu:P.underlying u=some (.slice el))(h:Src e w size x ys news):Apx P w u el size x ys.length news:=by
 obtain ⟨ad,cap,hx,Gm,U6⟩:=h.val;have Fo:=h.els.length;subst hx;cases ad with
 |none=>have hys:=Gm rfl;subst hys;have:news=[]:=AI (by simpa using Fo);subst this;exact ⟨.inl hu,rfl,run_firstCells_none w _ _ _ _,run_firstCells_none w.drew _ _ _ _,h.els.Iq,Fo⟩
 |some ad=>exact ⟨.inl hu,rfl,run_firstCells_some w _ _ _ _ _ _ Fo (U6 ad rfl),run_firstCells_some w.drew _ _ _ _ _ _ Fo (by simpa using U6 ad rfl),h.els.Iq,Fo⟩
theorem Apx.str {u el:TypeId}(hu:P.underlying u=some .string)(b:ByteArray):Apx P w u el 1 (.string b) b.size (b.data.toList.map λx=> .int .u8 (x.toNat:Int)):=by
 have hf: ∀w',(ac5 1 b.size (.string b)).run P w'= .ok (b.data.toList.map λx=>afR .u8 (x.toNat:Int)).toArray w':=by
  intro w';have he:b.extract 0 b.size=b:=by apply ByteArray.ext;rw [aed];exact Array.extract_eq_self_of_le (aaP _)
  simp only [ac5,he,Sem.run_pure];congr 1;apply Array.ext';simp
 exact ⟨.inr hu,rfl,hf w,hf w.drew,by simp [aaK],by simp⟩
section
variable {t u ty el:TypeId}{i:TypeInfo}{z x:Value}{m:Nat}{news:List Value}(ht:P.underlying t=some (.slice el))(hi:P.info? el=some i)(hz:i.zero=some z)(hx:Apx P w u el i.size x m news)
include ht hi hx
theorem adz (h0:m=0):(abE #[t,u] ty #[.slice none 0 0,x]).run P w= .ok (.slice none 0 0) w:=by subst h0;have hn:=hx.now;have hl:=hx.len;rcases hx.ty with hu|hu<;>simp [abE,run_underlying ht,run_underlying hu,ac2,typeInfo,hi,hl,hn]
theorem adA {g qM zq:Nat}{fI:Array Value}(hg:w.heap[g]? =some (.cells fI el (0,0)))(sO:qM+m<=zq)(Il:qM *i.size+news.length<=fI.size): (abE #[t,u] ty #[.slice (some ⟨g,0,none⟩) qM zq,x]).run P w= .ok (.slice (some ⟨g,0,none⟩) (qM+m) zq) (w.setRow g (fI.toList.take (qM *i.size)++news++fI.toList.drop (qM *i.size+news.length)).toArray):=by have iF:=run_storeCells_at P g (qM *i.size) el news 0 fI w hg (by simpa using Il) hx.one;simp only [aec] at iF;have hn:=hx.now;have hl:=hx.len;rcases hx.ty with hu|hu<;>simp [abE,run_underlying ht,run_underlying hu,ac2,typeInfo,hi,hl,sO,hn,Addr.add_lit,iF]
include hz
theorem ZE (h0:0<m)(h63:(m:Int)<=9223372036854775807)(h48:m *i.bytes<=281474976710656): (abE #[t,u] ty #[.slice none 0 0,x]).run P w= .ok (.slice (some ⟨w.heap.size,0,none⟩) m (grownCap w m 0 el)) (w.drew.alloc (.cells (news.toArray++adb z.cells (grownCap w m 0 el-m)) el)):=by
 have di:m≠0:=by omega
 have ahl: ¬(9223372036854775807<(m:Int)):=by omega
 have ahm: ¬(281474976710656<ads m 0 *i.bytes):=by rw [nextslicecap_zero h0];omega
 have hn:=hx.drew;have hl:=hx.len;rcases hx.ty with hu|hu<;>simp [abE,run_underlying ht,run_underlying hu,ac2,typeInfo,zeroValue,hi,hz,hl,di,ahl,ahm,Question.forced,run_firstCells_none,hn,newRow,grownCap]
theorem U7 {b:Addr}{qM zq:Nat}{adB:List Value}(hlo:adB.length=qM *i.size)(holds: ∀j v,adB[j]? =some v->w.cell? (b.add j)=some v)(hg:zq<qM+m)(h63:((qM+m:Nat):Int)<=9223372036854775807)(Il:ads (qM+m) zq *i.bytes<=281474976710656): (abE #[t,u] ty #[.slice (some b) qM zq,x]).run P w= .ok (.slice (some ⟨w.heap.size,0,none⟩) (qM+m) (grownCap w (qM+m) zq el)) (w.drew.alloc (.cells (adB.toArray++news.toArray++adb z.cells (grownCap w (qM+m) zq el-(qM+m))) el)):=by
 have di: ¬(qM+m<=zq):=by omega
 have ahl: ¬(9223372036854775807<((qM:Int)+(m:Int))):=by omega
 have ahm: ¬(281474976710656<ads (qM+m) zq *i.bytes):=by omega
 have hfo:=run_firstCells_some (P:=P) w.drew i.size qM b qM zq adB hlo (by simpa using holds);have hn:=hx.drew;have hl:=hx.len;rcases hx.ty with hu|hu<;>(simp [abE,run_underlying ht,run_underlying hu,ac2,typeInfo,zeroValue,hi,hz,hl,di,ahl,ahm,Question.forced,hn,hfo,newRow,grownCap];congr 2;apply Array.ext';simp [AT])
end
theorem CW {t u ty:TypeId}{I E:TI}{v x:Value}{n m:Nat}{cells news:List Value}(hu:P.underlying t=some (.slice I.elem))(hE:c.ti I.elem=some E)(wi:E.cQ=[])(iY:0<E.size)(hT:kq P c.ti)(u6:1<=E.bytes)(eW:w.ownsRow 0 I.elem E.size v n cells)(hx:Apx P w u I.elem E.size x m news)(lf:(n+m) *E.bytes<=2^46): ∃v' w',(abE #[t,u] ty #[v,x]).run P w= .ok v' w'/\akW w w' I.elem E.size v v' n m cells news:=by
 obtain ⟨i,z,hi,hs,Du,hz,S1⟩:=lJ (hT _ E hE) wi;rw [<-hs] at hx eW S1 iY⊢;rw [<-Du] at lf u6;have hle:n+m<=2^46:=adN (ac6 _ u6) lf;have hml:n+m<=aeN:=by unfold aeN;omega
 have Fo:=hx.nl;have hlen:(cells++news).length=(n+m) *i.size:=by rw [No,eW.1,Fo,adr]
 have grown: ∀(qA:Nat),qA<n+m-> (w.drew.alloc (.cells (cells.toArray++news.toArray++adb z.cells (grownCap w (n+m) qA I.elem-(n+m))) I.elem)).ownsRow 0 I.elem i.size (.slice (some ⟨w.heap.size,0,none⟩) (n+m) (grownCap w (n+m) qA I.elem)) (n+m) (cells++news):=by
  intro qA ho;refine ⟨hlen,.inr ⟨w.heap.size,_,_,rfl,aev _,iD w.drew _,grownCap_ge w (n+m) qA I.elem,grownCap_le_maxLen w (n+m) qA I.elem hml,?_,?_⟩⟩
  ·have Wy:=grownCap_ge w (n+m) qA I.elem;simp only [afO,ac1,size_zeroCells,S1,eW.1,Fo,<-adr];congr 1;omega
  ·simp only [aeO,AT];rw [<-AT,<-hlen];exact ac9
 have rest: ∀cs:Array Value,Rest w (w.drew.alloc (.cells cs I.elem)):=λcs=>⟨rfl,rfl,rfl,λp=>(Rest.alloc w.drew cs I.elem).2.2.2 p⟩
 rcases eW.2 with ⟨rfl,rfl⟩|⟨g,cap,fI,rfl,_,hg,hnc,K6,CV,HM⟩
 ·have hcn:cells=[]:=AI (by simpa using eW.1);subst hcn;by_cases hm:m=0
  ·have hnn:news=[]:=AI (by rw [Fo,hm,afN]);subst hnn;refine ⟨_,_,adz hu hi hx hm,⟨?_,aaP _,λ_ _ _=>rfl,(λ_ _ _ hk=>by cases hk),.inl rfl,.refl _⟩⟩;rw [hm];exact afP w 0 I.elem i.size
  ·simp only [abC] at lf hle hml;have hr:=ZE (ty:=ty) hu hi hz hx (by omega) (by omega) (by omega);have PG:=grown 0 (by omega);simp only [abC,aej,Array.empty_append] at PG⊢;exact ⟨_,_,hr,⟨by simpa using PG,by simp,λk hk _=>s7 w.drew _ k hk,(λ_ _ _ hk=>by cases hk),.inr rfl,rest _⟩⟩
 ·by_cases sO:n+m<=cap
  ·have Il:n *i.size+news.length<=fI.size:=by rw [Fo,CV,<-adr];exact abB _ sO
   have hr:=adA (ty:=ty) hu hi hx hg sO Il;have N5:=setRow_heap w g fI (fI.toList.take (n *i.size)++news++fI.toList.drop (n *i.size+news.length)).toArray I.elem _ hg;refine ⟨_,_,hr,⟨⟨hlen,.inr ⟨g,cap,_,rfl,aev _,N5,sO,K6,?_,?_⟩⟩,by simp,λk _ hk=>setRow_other w g k _ (λhe=>hk (by simp [aau,he])),?_,.inl rfl,Rest.setRow w g _⟩⟩
   ·simp only [ac1,No,adg,ad9,acY];omega
   ·rw [HM,<-hlen];exact ac9
   ·intro k off y hk Fj hc;have hkg:k=g:=by simp [aau] at hk;exact hk.symm
    subst hkg;rw [cell_of hg] at hc;rw [cell_of N5];have akY:off<(fI.toList.take (n *i.size)).length:=by rw [HM];exact Fj
    rw [List.getElem?_toArray,AT,aaU akY,acT];have:off<n *i.size:=by rw [<-eW.1];exact Fj
    rw [if_pos this];simpa using hc
  ·have holds: ∀j y,cells[j]? =some y->w.cell? ((⟨g,0,none⟩:Addr).add j)=some y:=eW.cells (g:=g) rfl;have hr:=U7 (ty:=ty) (zq:=cap) hu hi hz hx eW.1 holds (by omega) (by omega) (growslice_fits (by omega) (by omega));refine ⟨_,_,hr,⟨grown cap (by omega),by simp,λk hk _=>s7 w.drew _ k hk,?_,.inr rfl,rest _⟩⟩;intro k off y hk Fj hc;have hkg:k=g:=by simp [aau] at hk;exact hk.symm
   subst hkg;rw [acV (s7 w.drew _ k (aZ hg))];exact hc
theorem Qd {t u ty:TypeId}{I E:TI}{ad:Option Addr}{x:Value}{n m:Nat}{cells news:List Value}(hu:P.underlying t=some (.slice I.elem))(hE:c.ti I.elem=some E)(wi:E.cQ=[])(hT:kq P c.ti)(u6:1<=E.bytes)(rl:cells.length=n *E.size)(S2:ad=none->n=0)(cc: ∀y,ad=some y-> ∀(j:Nat)(v:Value),cells[j]? =some v->w.cell? (y.add j)=some v)(hx:Apx P w u I.elem E.size x m news)(hm:0<m)(lf:(n+m) *E.bytes<=2^46): ∃v' w',(abE #[t,u] ty #[.slice ad n n,x]).run P w= .ok v' w'/\w'.ownsRow 0 I.elem E.size v' (n+m) (cells++news)/\v'.ownBlock=some w.heap.size/\dN w w':=by
 obtain ⟨i,z,hi,hs,Du,hz,S1⟩:=lJ (hT _ E hE) wi;rw [<-hs] at hx rl S1⊢;rw [<-Du] at lf u6;have hle:n+m<=2^46:=adN (ac6 _ u6) lf;have hml:n+m<=aeN:=by unfold aeN;omega
 have Fo:=hx.nl;have hlen:(cells++news).length=(n+m) *i.size:=by rw [No,rl,Fo,adr]
 have grown: ∀(qA:Nat),qA<n+m-> (w.drew.alloc (.cells (cells.toArray++news.toArray++adb z.cells (grownCap w (n+m) qA I.elem-(n+m))) I.elem)).ownsRow 0 I.elem i.size (.slice (some ⟨w.heap.size,0,none⟩) (n+m) (grownCap w (n+m) qA I.elem)) (n+m) (cells++news):=by
  intro qA ho;refine ⟨hlen,.inr ⟨w.heap.size,_,_,rfl,aev _,iD w.drew _,grownCap_ge w (n+m) qA I.elem,grownCap_le_maxLen w (n+m) qA I.elem hml,?_,?_⟩⟩
  ·have Wy:=grownCap_ge w (n+m) qA I.elem;simp only [afO,ac1,size_zeroCells,S1,rl,Fo,<-adr];congr 1;omega
  ·simp only [aeO,AT];rw [<-AT,<-hlen];exact ac9
 have rest: ∀cs:Array Value,Rest w (w.drew.alloc (.cells cs I.elem)):=λcs=>⟨rfl,rfl,rfl,λp=>(Rest.alloc w.drew cs I.elem).2.2.2 p⟩
 have PG: ∀cs:Array Value,dN w (w.drew.alloc (.cells cs I.elem)):=λcs=>⟨by simp,λk hk=>s7 w.drew _ k hk,rest cs⟩
 cases ad with
 |none=>have hn:=S2 rfl;subst hn;have hcn:cells=[]:=AI (by simpa using rl);subst hcn;simp only [abC] at lf hle hml;have hr:=ZE (ty:=ty) hu hi hz hx (by omega) (by omega) (by omega);have hg2:=grown 0 (by omega);simp only [abC,aej,Array.empty_append] at hg2⊢;exact ⟨_,_,hr,by simpa using hg2,rfl,PG _⟩
 |some b=>have hr:=U7 (ty:=ty) (zq:=n) hu hi hz hx rl (λj v hj=>cc b rfl j v hj) (by omega) (by omega) (growslice_fits (by omega) (by omega));exact ⟨_,_,hr,grown n (by omega),rfl,PG _⟩
end
end Dn
/-
  Appends, the operation. Conditions: none.
-/
namespace Dn
open Go
section
variable {P:Program}{c:Ctx}{Z:bI} {e e':Env}{st:St}{a:Act} {w w':World}{R:Type}{K:St->Option R}{r:R}{Q:Exit->Act->World->Prop}{o:Oper}
theorem Af {base:Nat}{t:TypeId}{size n:Nat}{v:Value}{xs:List Value}(h:w.ownsRow base t size v n xs):v.oneCell'=true:=by rcases h.2 with ⟨rfl,_⟩|⟨g,cap,fI,rfl,_⟩<;>rfl
theorem U8 {E:TI}{t:TypeId}(hr:rQ c.ti P t E)(h:Wd E=true):P.underlying t=some (.int .u8)/\E.size=1:=by
 unfold Wd at h;split at h
 ·rename_i k iF hl;have:=of_decide_eq_true h;subst this;obtain ⟨d,i,h1,h2,h3,h4⟩:=hr;cases d<;>simp only [wS,hl,iF] at h4<;>first|(exfalso;simp_all;done)|skip
  obtain ⟨_,_,h5,h6,_⟩:=h4;simp only [List.cons.injEq,Kd.i.injEq,and_true] at h6;subst h6;exact ⟨h1,h5⟩
 ·cases h
theorem U9 {key:Nat->Nat} {φ:Ph}: ∀l:List UInt8,bA key φ 1 (l.map λx=>afR .u8 (x.toNat:Int)) (PR l)
 |[]=>rfl
 |b::l=>⟨[.int .u8 (b.toNat:Int)],_,rfl,rfl,.i .u8 _,U9 l⟩
theorem Qe {cl:Call}{s x:Operand}{t u:TypeId}{I E:TI}{ys:List MV}{news:List Value}(ho:o.op= .call cl)(hb:cl.callee= .builtin .append)(ha:cl.args.toList=[s,x])(HN:cl.argTypes.toList=[t,u])(hI:c.tv t=some I)(hL:I.Bm=true)(hE:c.tv I.elem=some E)(hT:kq P c.ti)(h:b9 c Z e st a w)(Ag:Apx P w u I.elem E.size (a.eval x) ys.length news)(wh:bA e.key e.φ E.size news ys)(hK:We (bJ c.bs (o.dst.getD 0)) (o.dst.getD 0) st I E (aT c st s) ys (λsl st=>bC c st o.dst sl K)=some r):o.wp P a w (Out c Z K r e.φ w) Q:=by
 obtain ⟨nV,hc⟩:=bG hI;obtain ⟨tG,wi⟩:=bG hE;obtain ⟨hu,E2,Gn,_,iY⟩:=TI.nN (hT t I nV) hL;rw [tG] at Gn;cases Gn;have ha':cl.args= #[s,x]:=by rw [<-ac3,ha]
 have akZ:cl.argTypes= #[t,u]:=by rw [<-ac3,HN]
 obtain ⟨hs,_⟩:=h.eval s;have go: ∀(f:Nat) (fb:Bool) (xs:List MV) (cells:List Value),1<=E.bytes->(xs.length+ys.length) *E.bytes<=2^46->w.ownsRow 0 I.elem E.size (a.eval s) xs.length cells->bA e.key e.φ E.size cells xs-> (∀bt,(a.eval s).ownBlock=some bt->((f∈Z.db/\Z.Pr bt)\/Z.In bt)/\(∃o,aQ st.bo f=some o/\(e.E f).ownBlock=some bt)/\ ∀off u,e.φ bt off=some u->fb=true/\off<xs.length *E.size)-> kA st f ⟨I.elem,fb,xs++ys⟩ (λst=>bC c st o.dst (.sc (.own f)) K)=some r->o.wp P a w (Out c Z K r e.φ w) Q:=by
  intro f fb xs cells u6 lf eW nk Fh hK;obtain ⟨v',w',cr,xV⟩:=CW (P:=P) (ty:=o.type) hu tG wi iY hT u6 eW Ag lf;have hlen:cells.length=xs.length *E.size:=nk.length;have zN:=h.npf hK;have hK:=qL hK;have jK:cT c Z.nc e w' v' ⟨I.elem,fb,xs++ys⟩:=by
   refine ⟨E,cells++news,tG,wi,by simpa using xV.own,nk.append wh,?_⟩;intro bt lT;rcases xV.place with h1|h1
   ·rw [h1] at lT;obtain ⟨h2,_,h3⟩:=Fh bt lT;refine ⟨Sp h2 zN,λoff u hu=> ?_,λhc=>afH hc⟩;obtain ⟨h4,h5⟩:=h3 off u hu;refine ⟨h4,aeU h5 ?_⟩;simp only [No];exact abB _ (Nat.le_add_right _ _)
   ·rw [h1] at lT;cases lT;refine ⟨h.cS _ (aaP _),λoff u hu=> ?_,λhc=>afH hc⟩;have:=abG w _ (h.kP _ _ _ hu);simp at this
  have ta:=h.kA (f:=f) zN jK xV.size (λb It di=>xV.qA b It (λhk=>by obtain ⟨_,⟨o2,h1,h2⟩,_⟩:=Fh b hk.symm;exact di o2 h1 h2)) (λb off u hu=>by
    have hc0:=h.kP b off u hu;by_cases hk:(a.eval s).ownBlock=some b
    ·obtain ⟨_,_,h3⟩:=Fh b hk;exact xV.cell b off u hk (by rw [hlen];exact (h3 off u hu).2) hc0
    ·rw [acV (xV.qA b (abG w _ hc0) (λPH=>hk PH.symm))];exact hc0)
   (λb lT=>by
    rcases xV.place with h1|h1
    ·rw [h1] at lT;exact .inr (Fh b lT).2.1
    ·rw [h1] at lT;cases lT;exact .inl (aaP _))
  refine fin (v:=v') (s:= .sc (.own f)) ?_ ta ?_ (.of (wV (Af xV.own)) trivial) hK
  ·simp [execOp,ho,resolve,hb,invoke,builtin,ha',akZ,cr]
  ·exact ⟨.refl _,λb hz It=>xV.qA b It (λhk=>hz (Sp (Fh b hk.symm).1 zN)),λ_ _ _=>rfl,xV.size,xV.rest⟩
 generalize aT c st s=ss at hs hK;unfold We at hK;cases u6:acN 1 E.bytes with
 |false=>simp [u6] at hK
 |true=>
  simp only [u6,cond_true] at hK;have u6:=acU u6;split at hK
  ·obtain ⟨lf,hK⟩:=ia hK;have lf:=of_decide_eq_true lf;simp only [ah] at hs;have hs:[a.eval s]=[acX none 0 0]:=hs;simp at hs;refine go (o.dst.getD 0) false [] [] u6 (by simpa using lf) (by rw [hs];exact afP w 0 I.elem E.size) rfl ?_ (by simpa using hK);intro bt lT;rw [hs] at lT;simp [aau] at lT
  ·rename_i f;cases hf:aQ st.bo f with
   |none=>simp [hf] at hK
   |some fo=>
    simp only [hf] at hK;obtain ⟨lf,hK⟩:=ia hK;have lf:=of_decide_eq_true lf;cases jJ:cV fo.ty I.elem with
    |false=>simp [jJ] at hK
    |true=>simp only [jJ,cond_true] at hK;have jJ:=sh jJ;obtain ⟨hv,_⟩:=s9 h hs hf;obtain ⟨J,cells,hJ,_,eW,nk,h5⟩:=(h.iC f fo hf).row;rw [jJ,tG] at hJ;cases hJ;refine go f fo.fb fo.xs cells u6 lf (by rw [hv,<-jJ];exact eW) nk ?_ (by rw [<-jJ];exact hK);intro bt lT;rw [hv] at lT;exact ⟨(h5 bt lT).1,⟨fo,hf,lT⟩,(h5 bt lT).2.1⟩
  ·rename_i xs;obtain ⟨hw,hK⟩:=ia hK;obtain ⟨lf,hK⟩:=ia hK;obtain ⟨hm,lf⟩:=of_decide_eq_true lf;simp only [ah,aX] at hs;obtain ⟨_,hs⟩:=hs;generalize hv:[a.eval s]=vs at hs;cases hs with
   |clip ad _ hl=>
   simp at hv;have qv:ah e (a.eval s) (.sc (.p (.list xs))):=by simp only [ah,aX];rw [hv];exact ⟨rfl,hl⟩
   obtain ⟨ys',cells,hsr,hy⟩:=Gl (I:=I) (K':=some) (r:=xs) h tG iY qv (by show du (pu E.size xs) (some xs)=some xs;rw [hw];rfl);cases hy;obtain ⟨ad',Zs,Gg,Sr,U4⟩:=hsr.val;rw [hv] at Gg;simp only [Value.slice.injEq] at Gg;obtain ⟨rfl,_,_⟩:=Gg;obtain ⟨v',w',cr,eW,lT,hg⟩:=Qd (P:=P) (ty:=o.type) hu tG wi hT u6 hsr.els.length (λhn=>by rw [Sr hn];rfl) U4 Ag hm lf;have zN:=h.npf hK;have hK:=qL hK;have jK:cT c Z.nc e w' v' ⟨I.elem,false,xs++ys⟩:=by refine ⟨E,cells++news,tG,wi,by simpa using eW,hsr.els.append wh,?_⟩;intro bt qx;rw [lT] at qx;cases qx;refine ⟨h.cS _ (aaP _),λoff u hu=> ?_,λhc=>afH hc⟩;have:=abG w _ (h.kP _ _ _ hu);simp at this
   have ta:=h.kA (f:=o.dst.getD 0) zN jK hg.size (λb It _=>hg.qA b It) (λb off u hu=>hg.cell (h.kP b off u hu)) (λb qx=>by rw [lT] at qx;cases qx;exact .inl (aaP _));have hx:(execOp a.eval o).run P w= .ok (.value v') w':=by simp [execOp,ho,resolve,hb,invoke,builtin,ha',akZ,hv,cr]
   cases S3:bJ c.bs (o.dst.getD 0) with
   |false=>simp only [S3,cond_false] at hK;exact fin (v:=v') (s:= .sc (.own (o.dst.getD 0))) hx ta (hg.trans h.cS _) (.of (wV (Af eW)) trivial) hK
   |true=>simp only [S3,cond_true] at hK;have hl:aX (e.wU (o.dst.getD 0) v' ⟨I.elem,false,xs++ys⟩) [v'] (.own (o.dst.getD 0)):=wV (Af eW);obtain ⟨e3,pC,m,k1,k2,_,k4,hK,_,k7,k8⟩:=mH (l:= .own (o.dst.getD 0)) ta (vs:=[v']) hl hK;have hm:m.one=true:=k8 (λx he=>by cases he);exact fin (v:=v') (s:= .sc (.p m)) hx k1 ((hg.trans h.cS _).trans k2.tr) (.of (s:= .sc (.p m)) (by exact ⟨hm,k4⟩) trivial) hK
  ·simp at hK
theorem Wz {cl:Call}{s x:Operand}{t u:TypeId}{I E:TI}(ho:o.op= .call cl)(hb:cl.callee= .builtin .append)(ha:cl.args.toList=[s,x])(HN:cl.argTypes.toList=[t,u])(hI:c.tv t=some I)(hL:I.Bm=true)(hE:c.tv I.elem=some E)(hT:kq P c.ti)(h:b9 c Z e st a w)(hK:(bif cV t u then NI I E st (aT c st x) λys=>We (bJ c.bs (o.dst.getD 0)) (o.dst.getD 0) st I E (aT c st s) ys (λsl st=>bC c st o.dst sl K)
  else SB c u E (aT c st x) λys=>We (bJ c.bs (o.dst.getD 0)) (o.dst.getD 0) st I E (aT c st s) ys (λsl st=>bC c st o.dst sl K))=some r):o.wp P a w (Out c Z K r e.φ w) Q:=by
 obtain ⟨nV,_⟩:=bG hI;obtain ⟨tG,_⟩:=bG hE;obtain ⟨hu,E2,Gn,_,iY⟩:=TI.nN (hT t I nV) hL;rw [tG] at Gn;cases Gn;obtain ⟨hx,_⟩:=h.eval x;cases qx:cV t u with
 |true=>simp only [qx,cond_true] at hK;obtain rfl:=sh qx;obtain ⟨ys,news,Ag,hK⟩:=Gl h tG iY hx hK;exact Qe ho hb ha HN hI hL hE hT h (Ag.apx hu) Ag.els hK
 |false=>
  simp only [qx,cond_false] at hK;unfold SB at hK;split at hK
  ·rename_i T l hTu hxl;cases ZF:T.isS&&Wd E with
   |false=>simp [ZF] at hK
   |true=>
    simp only [ZF,cond_true] at hK;simp only [abF] at ZF;obtain ⟨hTi,_⟩:=bG hTu;have hd:=TI.NY (hT u T hTi) ZF.1;obtain ⟨he,rR⟩:=U8 (hT _ E tG) ZF.2;rw [hxl] at hx;obtain ⟨b,hb3,rfl⟩:=Ig hx;refine Qe ho hb ha HN hI hL hE hT h (news:=b.data.toList.map λx=> .int .u8 (x.toNat:Int)) ?_ ?_ hK
    ·rw [rR,hb3];have:=Apx.str (w:=w) (el:=I.elem) hd b;rwa [show (PR b.data.toList).length=b.size by unfold PR;rw [List.length_map];rfl]
    ·rw [rR];exact U9 _
  ·cases hK
end
end Dn
/-
  Slices that are written out. Conditions: none.
-/
namespace Dn
open Go
section
variable {P:Program}{c:Ctx}{Z:bI} {e e':Env}{st:St}{a:Act} {w w':World}{R:Type}{K:St->Option R}{r:R}{Q:Exit->Act->World->Prop}{o:Oper}
theorem b9.ak0 {φ':Ph}(h:b9 c Z e st a w)(hle:lS e.φ φ')(mn: ∀b o v,φ' b o=some v->w.cell? ⟨b,o,none⟩=some v)(uZ: ∀t cs,av st.fr t= .box cs-> ∀off,φ' (e.B t) off=e.φ (e.B t) off)(jK: ∀f o b,aQ st.bo f=some o->(e.E f).ownBlock=some b-> ∀off,φ' b off=e.φ b off): b9 c Z {e with φ:=φ'} st a w:=by
 have uX:mF (λ_=>True) (λ_=>True) e {e with φ:=φ'}:=⟨rfl,hle,λ_ _=>rfl,λf o ho _=>⟨o,ho,rfl,rfl⟩⟩
 refine ⟨h.defers,h.size,h.m,h.key,h.nodup,?_,h.root,?_,h.bb,h.bf,h.ff,mn,h.cS⟩
 ·intro t;have hs:=h.slot t;have hb:=uZ t;show cn Z _ w t _ (av st.fr t);generalize av st.fr t=s at hs hb;cases s<;>simp only [cn] at hs⊢ <;>try exact hs.on uX (eX _)
  rename_i cs;refine ⟨hs.1,hs.2.cS,?_,λoff=>by show φ' (e.B t) off=none;rw [hb cs rfl];exact hs.2.free off⟩;obtain ⟨o2,h1,h2⟩:=hs.2.obj;exact ⟨o2,h1,h2.on uX (λl _ f _=>trivial)⟩
 ·intro f o ho;obtain ⟨I,cells,h1,h2,h3,h4,h5⟩:=(h.iC f o ho).row;refine ⟨I,cells,h1,h2,h3,h4.mono hle,λbt hb=>⟨(h5 bt hb).1,λoff u hu=>(h5 bt hb).2.1 off u ?_,λg1 g2 j hj=>hle.Bn ((h5 bt hb).2.2 g1 g2 j hj) hj⟩⟩;have hu:φ' bt off=some u:=hu;rw [jK f o bt ho hb] at hu;exact hu
theorem fZ.cells {key:Nat->Nat} {φ:Ph}{v:Value}{m:MV}(h:fZ key φ v m):jz key φ v.cells.toList m:=by
 have one:m.one=true->jz key φ [v] m->jz key φ v.cells.toList m:=by
  intro h1 h2;have:=h2.cells v (by simp);have hv:v.cells.toList=[v]:=by cases v<;>simp_all [abJ,aaK]
  rw [hv];exact h2
 cases m<;>simp only [fZ] at h<;>first|exact one h.1 h.2|skip
 ·rw [h];simpa [abJ] using jz.h _
 ·obtain ⟨arr,rfl,h⟩:=h;exact .agg _ _ (by simpa [abJ] using h)
theorem WA {parts:List (Nat×Operand)}: ∀{e:Env} {st:St} {n:Nat} {K':List MV->St->Option R},b9 c Z e st a w->YQ c st parts n K'=some r-> ∃e' bZ ms,b9 c Z e' bZ a w/\Ext Z e e'/\bV e'.key e'.φ (parts.map λp=>a.eval p.2) ms/\K' ms bZ=some r/\parts.map (λp=>(p.1,a.eval p.2))=((parts.map λp=>a.eval p.2).zipIdx n).map (λx=>(x.2,x.1)):=by
 induction parts with
 |nil=>intro e st n K' h hK;exact ⟨e,st,[],h,.refl _ _,rfl,hK,rfl⟩
 |cons p ps ih=>
  intro e st n K' h hK;obtain ⟨i,x⟩:=p;simp only [YQ] at hK;cases hi:cV i n with
  |false=>simp [hi] at hK
  |true=>
   simp only [hi,cond_true] at hK;have qB:=sh hi;subst qB;obtain ⟨e1,cR,m,q1,q2,q3,q4,q5⟩:=o7 h (h.eval x).1 hK;obtain ⟨e2,ef,ms,p1,p2,p4,p5,p6⟩:=ih q1 q5;refine ⟨e2,ef,m::ms,p1,q2.trans p2,⟨_,_,rfl,?_,p4⟩,p5,?_⟩
   ·have:=q4.mono p2.on.φ;rw [<-p2.on.key] at this;exact this
   ·simp only [aaJ,List.zipIdx_cons,p6]
theorem Lm {key:Nat->Nat} {φ:Ph}{size:Nat}{ms:List MV}: ∀{vs:List Value},bV key φ vs ms->pu size ms=true->bA key φ size (vs.flatMap λv=>v.cells.toList) ms/\vs.length=ms.length/\ ∀v∈vs,v.cells.size=size:=by
 induction ms with
 |nil=>intro vs h _;cases h;exact ⟨rfl,rfl,by simp⟩
 |cons m ms ih=>
  intro vs h hw;obtain ⟨v,u,rfl,h1,h2⟩:=h;have hm:=DI hw m (by simp);have hw2:pu size ms=true:=by unfold pu at hw⊢;simp only [List.all_cons,abF] at hw;exact hw.2
  obtain ⟨h3,h4,h5⟩:=ih h2 hw2;have hl:v.cells.toList.length=size:=by rw [h1.cells.width,hm]
  refine ⟨⟨v.cells.toList,_,rfl,hl,h1.cells,h3⟩,by simp [h4],?_⟩;intro x hx;rcases acv.1 hx with rfl|hx
  ·simpa using hl
  ·exact h5 x hx
end
end Dn
/-
  Slices that are written out, the operation. Conditions: none.
-/
namespace Dn
open Go
section
variable {P:Program}{c:Ctx}{Z:bI} {e e':Env}{st:St}{a:Act} {w w':World}{R:Type}{K:St->Option R}{r:R}{Q:Exit->Act->World->Prop}{o:Oper}
theorem Va {t:TypeId}{I E:TI}{vs:List Value}{parts:Array (Nat×Value)}(hu:P.underlying t=some (.slice I.elem))(hE:c.ti I.elem=some E)(wi:E.cQ=[])(iY:0<E.size)(hT:kq P c.ti)(lf:vs.length *E.size<=16777216)(hv: ∀v∈vs,v.cells.size=E.size)(hp:parts.toList=(vs.zipIdx 0).map λx=>(x.2,x.1)): (Instr.buildSlice t vs.length parts).run P w= .ok (.slice (some ⟨w.heap.size,0,none⟩) vs.length vs.length) (w.alloc (.cells (vs.flatMap λv=>v.cells.toList).toArray I.elem)):=by
 obtain ⟨i,z,hi,hs,Du,hz,S1⟩:=lJ (hT _ E hE) wi;by_cases h0:vs.length=0
 ·have Bq:=AI h0;subst Bq;have Hn:parts= #[]:=by rw [<-ac3,hp];rfl
  simp [Instr.buildSlice,run_underlying hu,ac2,typeInfo,hi,Hn,aee,newRow,Sem.run];congr 2;apply afG;intro k;simp
 ·have di: ¬vs.length *i.size=0:=by rw [hs];exact Nat.mul_ne_zero h0 (by omega)
  refine run_buildSlice w t I.elem vs.length parts _ i z hu hi hz (by rw [hs];omega) di ?_;rw [hp,hs];exact Go.Great.fill_whole iY vs _ hv (by simp)
theorem adC {key:Nat->Nat} {φ:Ph}{size cap bt:Nat}{xs:List MV}{cells:List Value}(h:bA key φ size cells xs)(Ho:xs.length<=cap)(hp: ∀off,off<cells.length->φ bt off=cells[off]?): jz key φ [.slice (some ⟨bt,0,none⟩) xs.length cap] (.list xs):=by
 have hlen:=h.length;have Qa: ∀i (hi:i<xs.length),∃v1,v1.length=size/\jz key φ v1 xs[i]/\(cells.drop (i *size)).take size=v1:=by intro i hi;obtain ⟨p1,v1,p2,he,NV,y9,ic⟩:=h.at (OF hi);refine ⟨v1,y9,ic,?_⟩;rw [he,AT,<-NV,af7,<-y9,ac9]
 refine .list (some ⟨bt,0,none⟩) cap xs bt 0 size (λi=>(cells.drop (i *size)).take size) Ho (λ_=>rfl) ?_ ?_ ?_
 ·intro i hi;obtain ⟨v1,h1,_,h3⟩:=Qa i hi;rw [h3,h1]
 ·intro i j hi hj;have Fj:i *size+j<cells.length:=by
   rw [hlen];calc i *size+j<i *size+size:=by omega
    _=(i+1) *size:=by rw [acZ]
    _<=xs.length *size:=abB _ hi
  rw [abC,hp _ Fj,acT];simp only [hj,if_true,adW]
 ·intro i hi;obtain ⟨v1,_,h2,h3⟩:=Qa i hi;rw [h3];exact h2
theorem Ln {t:TypeId}{n:Nat}{parts:Array (Nat×Operand)}{I E:TI}(ho:o.op= .buildSlice t n parts)(hI:c.tv t=some I)(hL:I.Bm=true)(hE:c.tv I.elem=some E)(hT:kq P c.ti)(h:b9 c Z e st a w)(lf:acN (n *E.size) 16777216=true)(hK:YQ c st parts.toList 0 (λms st=>bif cV ms.length n then du (pu E.size ms) (bif bJ c.bs (o.dst.getD 0) then bC c st o.dst (.sc (.p (.list ms))) K else kA st (o.dst.getD 0) ⟨I.elem,false,ms⟩ λst=>bC c st o.dst (.sc (.own (o.dst.getD 0))) K) else none)=some r): o.wp P a w (λa' w'=>dN w w'/\Out c Z K r e.φ w a' w') Q:=by
 obtain ⟨nV,hc⟩:=bG hI;obtain ⟨tG,wi⟩:=bG hE;obtain ⟨hu,E2,Gn,_,iY⟩:=TI.nN (hT t I nV) hL;rw [tG] at Gn;cases Gn;obtain ⟨e1,cR,ms,Cg,Fk,gl,hK,ZG⟩:=WA h hK;cases hn:cV ms.length n with
 |false=>simp [hn] at hK
 |true=>
  simp only [hn,cond_true] at hK;have hn:=sh hn;obtain ⟨hw,hK⟩:=ia hK;obtain ⟨nk,hlen,CV⟩:=Lm gl hw;generalize Bq:parts.toList.map (λp=>a.eval p.2)=vs at gl ZG nk hlen CV;have lf:=acU lf;have cr:=Va (P:=P) (c:=c) (w:=w) (t:=t) (I:=I) (vs:=vs) (parts:=parts.map λ(i,x)=>(i,a.eval x)) hu tG wi iY hT (by rw [hlen,hn];exact lf) CV (by rw [<-ZG];simp);have afU:(execOp a.eval o).run P w= .ok (.value (.slice (some ⟨w.heap.size,0,none⟩) vs.length vs.length)) (w.alloc (.cells (vs.flatMap λv=>v.cells.toList).toArray I.elem)):=by rw [hlen,hn] at cr⊢;simp [execOp,ho] at cr⊢;simp [cr]
  have hg:dN w (w.alloc (.cells (vs.flatMap λv=>v.cells.toList).toArray I.elem)):= .alloc w _ _;have Gm: ∀off,e1.φ w.heap.size off=none:=by
   intro off;cases hp:e1.φ w.heap.size off with
   |none=>rfl
   |some u=>have:=abG w _ (Cg.kP _ _ _ hp);simp at this
  have Vb:(vs.flatMap λv=>v.cells.toList).length=ms.length *E.size:=nk.length;have Ho:ms.length<=16777216:=adN (ac6 _ iY) (by rw [hn];exact lf);cases hb:bJ c.bs (o.dst.getD 0) with
  |false=>
   simp only [hb,cond_false] at hK;have zN:=Cg.npf hK;have hK:=qL hK;have jK:cT c Z.nc e1 (w.alloc (.cells (vs.flatMap λv=>v.cells.toList).toArray I.elem)) (.slice (some ⟨w.heap.size,0,none⟩) vs.length vs.length) ⟨I.elem,false,ms⟩:=by
    refine ⟨E,_,tG,wi,⟨Vb,.inr ⟨w.heap.size,vs.length,_,by rw [hlen],aev _,iD w _,by rw [hlen];exact aaP _,by rw [hlen];unfold aeN;omega,?_,?_⟩⟩,nk,?_⟩
    ·rw [ac1,Vb,hlen]
    ·show List.take (ms.length *E.size) _=_;rw [ada (by simp only [List.toList_toArray];omega)]
    ·intro bt lT;simp [aau] at lT;subst lT;refine ⟨Cg.cS _ (aaP _),λoff u hu=>(by rw [Gm] at hu;cases hu),λhc=>afH hc⟩
   have ta:=Cg.kA (f:=o.dst.getD 0) zN jK hg.size (λb It _=>hg.qA b It) (λb off u hu=>hg.cell (Cg.kP b off u hu)) (λb lT=>by simp [aau] at lT;exact .inl (by omega));exact Wk (s:= .sc (.own (o.dst.getD 0))) hg afU ta (Fk.tr.trans (hg.trans Cg.cS _)) (.of (wV rfl) trivial) hK
  |true=>
   simp only [hb,cond_true] at hK;generalize hfl:(vs.flatMap λv=>v.cells.toList)=flat at *;have hle:lS e1.φ (λb off=>if b=w.heap.size/\off<flat.length then flat[off]? else e1.φ b off):=by
    intro b off u hu;by_cases S3:b=w.heap.size
    ·subst S3;rw [Gm] at hu;cases hu
    ·simp only [S3,false_and,if_false];exact hu
   have mn: ∀b off u,(λb off=>if b=w.heap.size/\off<flat.length then flat[off]? else e1.φ b off) b off=some u->(w.alloc (.cells flat.toArray I.elem)).cell? ⟨b,off,none⟩=some u:=by
    intro b off u hu;by_cases S3:b=w.heap.size/\off<flat.length
    ·simp only [S3,and_self,if_true] at hu;obtain ⟨rfl,_⟩:=S3;rw [cell_of (iD w _)];simpa using hu
    ·simp only [S3,if_false] at hu;exact hg.cell (Cg.kP b off u hu)
   have ta:=(Cg.grow hg).ak0 hle mn (by
     intro t2 qw ht off;have Qb:=Cg.slot t2;rw [ht] at Qb;obtain ⟨o2,h1,_⟩:=Qb.2.obj;have:=aZ h1;have di: ¬e1.B t2=w.heap.size:=by omega
     simp [di])
    (by
     intro f o2 b cU qx off;obtain ⟨J,xR,_,_,h3,_⟩:=(Cg.iC f o2 cU).row;rcases h3.2 with ⟨h1,_⟩|⟨g,cap,fI,h1,_,h4,_⟩
     ·rw [h1] at qx;simp [aau] at qx
     ·rw [h1] at qx;simp [aau] at qx;subst qx;have:=aZ h4;have di: ¬g=w.heap.size:=by omega
      simp [di])
   refine Wk (s:= .sc (.p (.list ms))) hg afU ta ?_ (.of ?_ trivial) hK
   ·refine Fk.tr.trans ⟨hle,λb hz It=>hg.qA b It,λb off hz=> ?_,hg.size,hg.rest⟩;have di: ¬b=w.heap.size:=by intro S4;subst S4;exact hz (Cg.cS _ (aaP _))
    simp [di]
   ·simp only [ah,aX];rw [hlen];exact ⟨rfl,adC (nk.mono hle) (aaP _) (λoff Fj=>by simp [Fj])⟩
end
end Dn
/-
  Variables that no one changes any more. Conditions: none.
-/
namespace Dn
open Go
section
variable {P:Program}{c:Ctx}{Z:bI} {e e':Env}{st:St}{a:Act} {w w':World}{R:Type}{K:St->Option R}{r:R}{Q:Exit->Act->World->Prop}{o:Oper}
theorem b9.WB {root:Nat}{cs kR:List aE}{arr:Array Value}{T:TypeId}(h:b9 c Z e st a w)(hf:av st.fr root= .box cs)(fG:w.heap[e.B root]? =some (.cells arr T (0,0)))(hl:ay e arr.toList kR)(hp:jr kR=true)(S5:root∉Z.cI)(Ch:y8 root=false): ∃φ',lS e.φ φ'/\(∀b off,¬Z b->φ' b off=e.φ b off)/\(∀j,j<arr.toList.length->φ' (e.B root) j=arr.toList[j]?)/\ b9 c Z {e with φ:=φ'} {st with fr:=dt st.fr root (.zQ kR)} a w:=by
 have pA:=h.slot root;rw [hf] at pA;have qC:=pA.2.free;have xQ:iW cs=false:=by obtain ⟨o,h1,h2⟩:=pA.2.obj;rw [fG] at h1;cases h1;exact h2.2.Ce
 simp only [cn] at pA;refine ⟨λb off=>if b=e.B root/\off<arr.toList.length then arr.toList[off]? else e.φ b off,?_,?_,?_,?_⟩
 ·intro b off v hv;by_cases hb:b=e.B root
  ·subst hb;rw [qC] at hv;cases hv
  ·simp only [hb,false_and,if_false];exact hv
 ·intro b off hz;have hb: ¬b=e.B root:=by intro hb;subst hb;exact hz (Sp pA.2.cS S5)
  simp [hb]
 ·intro j hj;have hj':j<arr.size:=by simpa using hj
  simp [hj']
 ·have hle:lS e.φ (λb off=>if b=e.B root/\off<arr.toList.length then arr.toList[off]? else e.φ b off):=by
   intro b off v hv;by_cases hb:b=e.B root
   ·subst hb;rw [qC] at hv;cases hv
   ·simp only [hb,false_and,if_false];exact hv
  have uX:mF (λ_=>True) (λ_=>True) e {e with φ:=λb off=>if b=e.B root/\off<arr.toList.length then arr.toList[off]? else e.φ b off}:=⟨rfl,hle,λ_ _=>rfl,λf o ho _=>⟨o,ho,rfl,rfl⟩⟩
  have S7: ∀q,dy (av st.fr q)=true->dy (av (dt st.fr root (.zQ kR)) q)=true:=by
   intro q hq;rw [cj];by_cases hqr:q=root
   ·simp [hqr,dy]
   ·simp only [hqr,if_false];exact hq
  refine ⟨h.defers,h.size,h.m,h.key,iN h.nodup,?_,?_,?_,?_,?_,h.ff,?_,h.cS⟩
  ·intro t;show cn Z _ w t _ (av (dt st.fr root (.zQ kR)) t);rw [cj];by_cases ht:t=root
   ·subst ht;simp only [if_true,cn,ah];refine ⟨e.B t,0,arr.toList,by have:=pA.1.1 Ch;rwa [ue xQ] at this,hl.on uX (λl _ f _=>trivial),hp,?_⟩;intro j hj;have hj':j<arr.size:=by simpa using hj
    rw [abC];simp [hj']
   ·simp only [ht,if_false];have hs:=h.slot t;have uf:=h.bb t root;generalize av st.fr t=s at hs uf;cases s<;>simp only [cn] at hs⊢ <;>try exact hs.on uX (eX _)
    rename_i qw;refine ⟨hs.1,hs.2.cS,?_,?_⟩
    ·obtain ⟨o2,h1,h2⟩:=hs.2.obj;exact ⟨o2,h1,h2.on uX (λl _ f _=>trivial)⟩
    ·intro off;have di: ¬e.B t=e.B root:=uf qw cs rfl hf ht;show (if e.B t=e.B root/\off<arr.toList.length then arr.toList[off]? else e.φ (e.B t) off)=none;simp only [di,false_and,if_false];exact hs.2.free off
  ·intro t;show dc (dt st.fr root (.zQ kR)) (av (dt st.fr root (.zQ kR)) t);rw [cj];by_cases ht:t=root
   ·simp [ht,dc]
   ·simp only [ht,if_false];have sM:=h.root t;generalize av st.fr t=s at sM;cases s with
    |ptr q o=>exact S7 q sM
    |hp q o i=>exact S7 q sM
    |zT q=>exact S7 q sM
    |_=>trivial
  ·intro f o ho;obtain ⟨I,cells,h1,h2,h3,h4,h5⟩:=(h.iC f o ho).row;refine ⟨I,cells,h1,h2,h3,h4.mono hle,λbt hb=>⟨(h5 bt hb).1,λoff u hu=>(h5 bt hb).2.1 off u ?_,λg1 g2 j hj=>hle.Bn ((h5 bt hb).2.2 g1 g2 j hj) hj⟩⟩;have di: ¬bt=e.B root:=by intro S4;exact h.bf root cs f o hf ho (by rw [hb,S4])
   have hu:(if bt=e.B root/\off<arr.toList.length then arr.toList[off]? else e.φ bt off)=some u:=hu;simpa [di] using hu
  ·intro t t' c1 c2 h1 h2 di;have h1:av (dt st.fr root (.zQ kR)) t= .box c1:=h1;have h2:av (dt st.fr root (.zQ kR)) t'= .box c2:=h2;rw [cj] at h1 h2;by_cases ht:t=root
   ·simp [ht] at h1
   ·by_cases DG:t'=root
    ·simp [DG] at h2
    ·simp only [ht,DG,if_false] at h1 h2;exact h.bb t t' c1 c2 h1 h2 di
  ·intro t c1 f o h1 h2;have h1:av (dt st.fr root (.zQ kR)) t= .box c1:=h1;rw [cj] at h1;by_cases ht:t=root
   ·simp [ht] at h1
   ·simp only [ht,if_false] at h1;exact h.bf t c1 f o h1 h2
  ·intro b off v hv;have hv:(if b=e.B root/\off<arr.toList.length then arr.toList[off]? else e.φ b off)=some v:=hv;by_cases hb:b=e.B root/\off<arr.toList.length
   ·simp only [hb,and_self,if_true] at hv;rw [hb.1,cell_of fG];simpa using hv
   ·simp only [hb,if_false] at hv;exact h.kP b off v hv
end
end Dn
/-
  Functions with captured variables. Conditions: none.
-/
namespace Dn
open Go
section
variable {P:Program}{c:Ctx}{Z:bI} {e e':Env}{st:St}{a:Act} {w w':World}{R:Type}{K:St->Option R}{r:R}{Q:Exit->Act->World->Prop}{o:Oper}
theorem Iu {os:List Operand}: ∀{e:Env} {st:St} {K':List MV->St->Option R},b9 c Z e st a w->HZ c st os K'=some r-> ∃e' bZ ms,b9 c Z e' bZ a w/\Ext Z e e'/\jd e'.key e'.φ (os.map a.eval) ms/\K' ms bZ=some r/\(∀m∈ms,m.one=true):=by
 induction os with
 |nil=>intro e st K' h hK;exact ⟨e,st,[],h,.refl _ _,.nil,hK,by simp⟩
 |cons x xs ih=>
  intro e st K' h hK;simp only [HZ] at hK;obtain ⟨hx,_⟩:=h.eval x;generalize aT c st x=s at hx hK;split at hK
  ·rename_i root;simp only [ah] at hx;split at hK
   ·rename_i cs CV;cases hup:wP cs||y8 root with
    |true=>simp [hup] at hK
    |false=>
     simp only [hup,cond_false] at hK;obtain ⟨hu,apy⟩:=acW.1 hup;have qv:=h.slot root;rw [CV] at qv;have xQ:iW cs=false:=by
      cases hm:iW cs with
      |false=>rfl
      |true=>obtain ⟨s,ms,rfl⟩:=NQ hm;simp [wP,PQ] at hu
     obtain ⟨arr,T,fG,tF⟩:=qv.2.cells xQ;obtain ⟨e1,cR,ms,Cg,Fk,Fl,xS,hK,_,Ch⟩:=nW h tF hK;cases Lj:sC cs ms with
     |none=>simp [Lj] at hK
     |some kR=>
      simp only [Lj] at hK;obtain ⟨Ff,Hn⟩:=Ch kR Lj;have hB:e1.B root=e.B root:=Fk.on.B root trivial;unfold wr at hK;cases hn:bJ cR.cI root with
      |true=>simp [hn] at hK
      |false=>
       obtain ⟨φ',g1,g2,g3,g4⟩:=Cg.WB (root:=root) (cs:=cs) (by rw [Fl];exact CV) (by rw [hB];exact fG) Ff Hn (by rw [<-Cg.defers.2.1,<-bL,hn];simp) apy;simp only [hn,cond_false,force_eq,rj] at hK;have Hm:Ext Z e1 {e1 with φ:=φ'}:=⟨⟨rfl,g1,λ_ _=>rfl,λf o ho _=>⟨o,ho,rfl,rfl⟩⟩,g2⟩
       obtain ⟨e3,pC,ns,hs3,ZH,hr3,hK,ml⟩:=ih g4 hK;refine ⟨e3,pC,.rp ms::ns,hs3,(Fk.trans Hm).trans ZH,?_,hK,by intro m hm;rcases acv.1 hm with rfl|hm<;>first|rfl|exact ml m hm⟩;have ic:jz e1.key φ' [a.eval x] (.rp ms):=by rw [hx,<-hB];refine .rp (e1.B root) 0 arr.toList ms (xS.mono g1) ?_;intro j hj;rw [abC];exact g3 j hj
       have ic:=ic.mono ZH.on.φ;have hk3:e3.key=e1.key:=ZH.on.key;rw [<-hk3] at ic;exact .cons [a.eval x] _ _ _ ic hr3
   ·simp at hK
  ·rename_i cs;simp only [ah] at hx;obtain ⟨bt,q,vs,hv,tF,hp,Fh⟩:=hx;obtain ⟨e1,cR,ms,Cg,Fk,Fl,xS,xI,h6,_⟩:=nW h tF hK;clear hK;obtain ⟨rfl,rfl⟩:=h6 hp;obtain ⟨e3,pC,ns,hs3,ZH,hr3,Qf,ml⟩:=ih Cg xI;refine ⟨e3,pC,.rp ms::ns,hs3,Fk.trans ZH,?_,Qf,by intro m hm;rcases acv.1 hm with rfl|hm<;>first|rfl|exact ml m hm⟩;have ic:jz e1.key e1.φ [a.eval x] (.rp ms):=by rw [hv];exact .rp bt (q+0) vs ms xS (by simpa using Fh)
   have ic:=ic.mono ZH.on.φ;rw [<-ZH.on.key] at ic;exact .cons [a.eval x] _ _ _ ic hr3
  ·simp at hK
theorem Qg {f:Nat}{dJ:Array Operand}(ho:o.op= .makeFunc (.func f) #[] dJ)(h:b9 c Z e st a w)(hK:HZ c st dJ.toList (λms st=>bC c st o.dst (.sc (.p (.func (c.key f) ms))) K)=some r):Rd P c Z K r e a w o (λ_=>True):=by
 obtain ⟨e1,cR,ms,Cg,Fk,xS,hK,ml⟩:=Iu h hK;refine SP (v:= .func (.func f) #[] (dJ.map a.eval)) (s:= .sc (.p (.func (c.key f) ms))) (λw _=> ?_) Cg Fk.tr (.of ?_ trivial) hK
 ·simp [execOp,ho,Instr.makeFunc]
 ·simp only [ah,aX];exact ⟨rfl,.func f _ _ ms (by rw [Cg.key]) (by simpa using xS) ml⟩
end
end Dn
