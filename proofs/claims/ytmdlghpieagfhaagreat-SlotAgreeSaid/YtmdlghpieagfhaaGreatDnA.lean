import GoSem.Dispatch
import Derived.Orders
import Derived.Calls
import Derived.Laws.AppendOwn
import Derived.Laws.AppendOwnNone
import Derived.Deep.MidRow
import Derived.Laws.Strings
import Derived.Laws.Tables
import Derived.Great.FillDense
import Derived.Maps.AppendAt
import Derived.Great.BuildSlice
/-
  An abstract run of Go functions over values that no one changes: definitions. Conditions: none.
-/
set_option linter.unusedVariables false
set_option linter.unusedSectionVars false
set_option linter.unusedSimpArgs false
open Nat renaming beq→cM,eq_of_beq_eq_true→sh,le_refl→abK,mul_le_mul_right→ab6,ble→ab8,zero_add→ab9,le_of_ble_eq_true→ack,succ_mul→acn,add_assoc→ac6,add_mul→ac7,add_zero→adw,le_mul_of_pos_right→adH,le_trans→adQ,ble_eq_true_of_le→aeX,lt_of_lt_of_le→ae8,add_comm→afc,zero_mul→afd,zero_le→afq
open List renaming append_assoc→AI,getElem?_eq_some_iff→AT,length_append→IT,eq_nil_of_length_eq_zero→No,getElem?_eq_getElem→OF,map_cons→aaf,getElem?_append_right→aaU,getElem?_append_left→aaW,getElem?_map→acb,mem_cons→acd,getElem?_take→acj,drop_left'→acq,length_eq_one_iff→acu,take_of_length_le→acv,size_toArray→acw,getElem?_eq_none→acJ,take_append→acP,length_take→acZ,take_left'→adk,mem_map→adn,take_left→adz,extract_eq_take_drop→adA,drop_append→adD,length_drop→adG,drop_of_length_le→ad9,mem_append→aef,nil_append→aeQ,mem_iff_getElem→ae2,getElem?_drop→ae9,all_eq_true→afm,getElem_mem→afn,nodup_cons→afv,length_set→afz,map→afB,drop_left→afF,map_nil→afU
open Option.some renaming injEq→BY
open Go.Value renaming oneCell'→aaT,ownBlock→aa1,cells→abX,slice→ach,int→afl
open Go.Builtin renaming append_→ab1,firstCells→acr,zeroCells→acC,nextslicecap→adi
open Bool renaming and_eq_true→ab5,or_eq_false_iff→acg,not_eq_false'→ady,not_false→afD
open Go.Instr renaming sliceBounds→ab7,sliceBound→acK,loadAt→adr,sureAddr→adx,storeAt→adB,fill→aea,sliceAt→ae7,slice→afp
open Go.World renaming block_lt_of_cell?→aca,cell?_of_block→acf,ownsRow_nil→afh,frozen?→afQ,setRow→afV
open Go renaming sizeOf→ace,maxLen→afo,part→afA
open Array renaming length_toList→aci,toList_inj→acp,toList_extract→ae4,toList_append→ae5,size_append→aff
open UInt8 renaming ofNat→acm
open Go.Addr renaming add_mid→aco
open BitVec renaming ofInt→acs
open Go.Op renaming intCmp→adC,bytesLess→adO,intArith→aeY,equal→afZ
open ByteArray renaming data_extract→adS
open Go.Oper renaming upon_value→aeg,wp→afW
open Go.Sem renaming run_bind→afa
open False renaming elim→afG
open Go.Utf8 renaming decode→afX
namespace Dn
noncomputable section
open Go
structure kY where
 l:List UInt8
 h:l.length=32
theorem kY.ext' {a b:kY}(e:a.l=b.l):a=b:=by cases a;cases b;cases e;rfl
instance:DecidableEq kY:=λa b=>if e:a.l=b.l then .isTrue (kY.ext' e) else .isFalse (λh=>e (by rw [h]))
def kY.zero:kY:=⟨[0,0,0,0,0,0,0,0,0,0,0,0,0,0,0,0,0,0,0,0,0,0,0,0,0,0,0,0,0,0,0,0],rfl⟩
def kY.put (x:kY)(i:Nat)(b:UInt8):kY:=⟨x.l.set i b,by simp [x.h]⟩
inductive MV where
 |b (x:Bool)
 |i (k:IntKind) (n:Int)
 |s (l:List UInt8)
 |h (x:kY)
 |raw (v:Value)
 |list (xs:List MV)
 |agg (cs:List MV)
 |dH (vs:List MV)
 |func (f:Nat) (cap:List MV)
 |rp (cs:List MV)
 |fresh (xs:List MV)
 |cell (m:MV)
 |dX (r:MV) (outs:List MV)
 |clip (xs:List MV)
instance:Inhabited MV:=⟨.b false⟩
mutual
def MV.w:MV->Nat
 | .h _=>32
 | .agg cs=>MV.wl cs
 |_=>1
def MV.wl:List MV->Nat
 |[]=>0
 |m::r=>m.w+MV.wl r
end
def o9 (n:Nat)(l:List MV):Bool:=l.all λm=>cM m.w n
inductive Kd where
 |b|i (k:IntKind)|s|l|h|raw
structure MS where
 st:Bool
 lay:List Kd
 b:Bool
def MS.it:MS:=⟨true,[],true⟩
def C8 (s:MS):Bool:=match s.lay with
 |[]=>s.st
 |_=>false
inductive aD where
 |un
 |p (m:MV)
 |hs (x:kY)
 |nil
 |own (iy:Nat)
 |mp (s:MS) (es:List MV)
def aD.w:aD->Nat
 | .hs _=>32
 |_=>1
inductive Slot where
 |skip
 |sc (l:aD)
 |ag (cs:List aD)
 |tg (cs:List aD)
 |dH (vs:List Slot)
 |box (cs:List aD)
 |zl (cs:List aD)
 |ptr (root off:Nat)
 |zm (root:Nat)
 |rp (cs:List aD) (off:Nat)
 |hp (root off:Nat) (i:Nat)
 |ep (iy:Nat) (i:Nat) (off:Nat) (st:Bool) (cs:List aD)
abbrev Fr:=List (Nat×Slot)
structure TI where
 st:Bool
 size:Nat
 bytes:Nat
 lay:List Kd
 zero:List aD
 Hv:List Nat
 VC:List Nat
 elem:Nat
 cE:List Nat
section
variable {R:Type}
def gB (m:MV)(K:Bool->Option R):Option R:=match m with| .b x=>K x|_=>none
def gI (k:IntKind)(m:MV)(K:Int->Option R):Option R:=match m with| .i k' n=>bif decide (k'=k) then K n else none|_=>none
def gS (m:MV)(K:List UInt8->Option R):Option R:=match m with| .s l=>K l|_=>none
def gL (m:MV)(K:List MV->Option R):Option R:=match m with| .list l=>K l|_=>none
def gH (m:MV)(K:kY->Option R):Option R:=match m with| .h l=>K l|_=>none
def gA (m:MV)(K:List MV->Option R):Option R:=match m with| .agg l=>K l|_=>none
def gT (m:MV)(K:List MV->Option R):Option R:=match m with| .dH l=>K l|_=>none
def gF (m:MV)(K:List MV->Option R):Option R:=match m with| .fresh l=>K l|_=>none
def gCl (m:MV)(K:List MV->Option R):Option R:=match m with| .clip l=>K l|_=>none
def Ui (m:MV)(K:Nat->List MV->Option R):Option R:=match m with| .func f c=>K f c|_=>none
def gW (m:MV)(K:MV->List MV->Option R):Option R:=match m with| .dX r outs=>K r outs|_=>none
def gP (m:MV)(K:List MV->Option R):Option R:=match m with| .rp c=>K c|_=>none
def gCx (m:MV)(K:Nat->Nat->Option R):Option R:=match m with| .raw (.complex .f64 a b)=>K a b|_=>none
def gR (m:MV)(K:MV->Option R):Option R:=match m with| .raw v=>K (.raw v)| .func f c=>K (.func f c)| .rp c=>K (.rp c)|_=>none
def gC (l:List MV)(K:MV->List MV->Option R):Option R:=match l with|m::r=>K m r|[]=>none
def gN (l:List MV)(K:Option R):Option R:=match l with|[]=>K|_=>none
def bd {α:Type}(x:Option α)(K:α->Option R):Option R:=match x with|some a=>K a|none=>none
def RU (l:List MV)(i:Int):Option MV:=if 0<=i then l[i.toNat]? else none
def idx (l:List MV)(i:Int)(K:MV->Option R):Option R:=match RU l i with|some x=>K x|none=>none
def cU (c:Bool)(K:Option R):Option R:=match c with|true=>K|false=>none
def bG (c:Bool)(x y:Option R):Option R:=match c with|true=>x|false=>y
def VD:List Nat->Nat->(Nat->Option R)->Option R
 |[],_,_=>none
 |[p],e,K=>bif cM e p then K p else none
 |p::q::r,e,K=>bif cM e p then K p else VD (q::r) e K
def j9 (k:Kd)(m:MV)(K:aD->Option R):Option R:=match k with
 | .b=>gB m λx=>K (.p (.b x))
 | .i k=>gI k m λx=>K (.p (.i k x))
 | .s=>gS m λx=>K (.p (.s x))
 | .l=>gL m λx=>K (.p (.list x))
 | .h=>gH m λx=>K (.hs x)
 | .raw=>gR m λm=>K (.p m)
def uV:List Kd->List MV->(List aD->Option R)->Option R
 |[],l,K=>gN l (K [])
 |k::ks,l,K=>gC l λm r=>j9 k m λx=>uV ks r λxs=>K (x::xs)
end
def iter {σ R:Type}(body:σ->Option (Sum σ R)):Nat->σ->Option R
 |0,_=>none
 |n+1,s=>match body s with
  |some (.inl s')=>iter body n s'
  |some (.inr r)=>some r
  |none=>none
open Classical in
def Loop {σ R:Type}(body:σ->Option (Sum σ R))(s:σ):Option R:=if h: ∃r n,iter body n s=some r then some (Classical.choose h) else none
def av:Fr->Nat->Slot
 |[],_=> .sc .un
 |(k,s)::r,t=>bif cM k t then s else av r t
def KM {R:Type}:Fr->Nat->Slot->(Fr->Option R)->Option R
 |[],t,v,K=>K [(t,v)]
 |(k,s)::r,t,v,K=>bif cM k t then K ((k,v)::r) else KM r t v λr=>K ((k,s)::r)
def force {R:Type}(s:Slot)(K:Slot->Option R):Option R:=match s with
 | .skip=>K .skip
 | .sc l=>K (.sc l)
 | .ag cs=>K (.ag cs)
 | .tg cs=>K (.tg cs)
 | .dH vs=>K (.dH vs)
 | .box cs=>K (.box cs)
 | .zl cs=>K (.zl cs)
 | .ptr r o=>K (.ptr r o)
 | .zm r=>K (.zm r)
 | .rp cs o=>K (.rp cs o)
 | .hp r o i=>K (.hp r o i)
 | .ep f i o b cs=>K (.ep f i o b cs)
def bI:List Nat->Nat->Bool
 |[],_=>false
 |k::r,t=>bif cM k t then true else bI r t
def yD (t:Nat):Bool:=ab8 1000000 t
def posOf (t:Nat):Nat:=(t-1000000)%1000
def Pf (t:Nat):Nat:=(t-1000000)/1000
def plk:List (Nat×Nat)->Nat->Option Nat
 |[],_=>none
 |(k,x)::r,t=>bif cM k t then some x else plk r t
def dI:Slot->Bool
 | .ptr _ _| .hp _ _ _| .ep _ _ _ _ _| .rp _ _| .zm _=>true
 |_=>false
def wA {R:Type}(ds:List Nat):Fr->(Fr->Option R)->Option R
 |[],K=>K []
 |(k,s)::r,K=>bif dI s||bI ds k then wA ds r K else wA ds r λr=>K ((k,s)::r)
def dg:Slot->Bool
 | .box _| .zl _=>true
 |_=>false
def pick {R:Type}(ks:List Nat):Fr->(Fr->Option R)->Option R
 |[],K=>K []
 |(k,s)::r,K=>bif bI ks k&&!dI s then pick ks r λr=>K ((k,s)::r) else pick ks r K
structure oZ where
 ty:Nat
 eV:Bool
 xs:List MV
structure St where
 cz:List Nat
 cS:List Nat
 fr:Fr
 bo:List (Nat×oZ)
def aQ:List (Nat×oZ)->Nat->Option oZ
 |[],_=>none
 |(k,s)::r,t=>bif cM k t then some s else aQ r t
def Pg {R:Type}:List (Nat×oZ)->Nat->oZ->(List (Nat×oZ)->Option R)->Option R
 |[],t,v,K=>K [(t,v)]
 |(k,s)::r,t,v,K=>bif cM k t then K ((k,v)::r) else Pg r t v λr=>K ((k,s)::r)
def kB (a b:IntKind):Bool:=decide (a=b)
def kdB:Kd->Kd->Bool
 | .b,.b=>true
 | .i k,.i k'=>kB k k'
 | .s,.s=>true
 | .l,.l=>true
 | .h,.h=>true
 | .raw,.raw=>true
 |_,_=>false
def C9:List Kd->List Kd->Bool
 |[],[]=>true
 |x::xs,y::ys=>kdB x y&&C9 xs ys
 |_,_=>false
def msB (s t:MS):Bool:=(s.st==t.st)&&(C9 s.lay t.lay&&(s.b==t.b))
def uW {R:Type}(f:Nat):List aD->(List aD->Option R)->Option R
 |[],K=>K []
 |l::r,K=>(match l with
  | .own g=>bif cM g f then uW f r λr=>K (.un::r) else uW f r λr=>K (.own g::r)
  |l=>uW f r λr=>K (l::r))
def Hw {R:Type}(f:Nat)(s:Slot)(K:Slot->Option R):Option R:=match s with
 | .sc (.own g)=>bif cM g f then K (.sc .un) else K (.sc (.own g))
 | .ag cs=>uW f cs λcs=>K (.ag cs)
 | .tg cs=>uW f cs λcs=>K (.tg cs)
 | .box cs=>uW f cs λcs=>K (.box cs)
 | .ep g i o b cs=>bif cM g f then K (.sc .un) else K (.ep g i o b cs)
 |s=>K s
def kFr {R:Type}(f:Nat):Fr->(Fr->Option R)->Option R
 |[],K=>K []
 |(k,s)::r,K=>Hw f s λs=>kFr f r λr=>K ((k,s)::r)
section
variable {R:Type}
def oo (st:St)(l:aD)(K:MV->St->Option R):Option R:=match l with
 | .un=>none
 | .p m=>K m st
 | .hs x=>K (.h x) st
 | .nil=>K (.list []) st
 | .mp _ _=>none
 | .own f=>match aQ st.bo f with
  |some o=>bif o.eV then K (.list o.xs) st else bif bI st.cS f then none else (match st with|⟨p,q,r,m⟩=>Pg m f ⟨o.ty,true,o.xs⟩ λm=>K (.list o.xs) ⟨p,q,r,m⟩)
  |none=>none
def rq (st:St):List aD->(List MV->St->Option R)->Option R
 |[],K=>K [] st
 |l::r,K=>oo st l λm st=>rq st r λms st=>K (m::ms) st
def nC (st:St)(s:Slot)(K:MV->St->Option R):Option R:=match s with
 | .sc l=>oo st l K
 | .ag cs=>rq st cs λms st=>K (.agg ms) st
 | .rp cs off=>bif cM off 0 then rq st cs λms st=>K (.rp ms) st else none
 |_=>none
def xu (st:St):List Slot->(List MV->St->Option R)->Option R
 |[],K=>K [] st
 |l::r,K=>nC st l λm st=>xu st r λms st=>K (m::ms) st
end
def zn:List aD->Nat
 |[]=>0
 |k::r=>k.w+zn r
def cut:List aD->Nat->Option (List aD)
 |cs,0=>some cs
 |c::cs,n+1=>bif ab8 c.w (n+1) then cut cs (n+1-c.w) else none
 |_,_=>none
def Pj:List aD->Nat->Option (List aD)
 |_,0=>some []
 |c::cs,n+1=>bif ab8 c.w (n+1) then (match Pj cs (n+1-c.w) with|some b=>some (c::b)|none=>none) else none
 |_,_=>none
def part (cs:List aD)(off n:Nat):Option (List aD):=match cut cs off with
 |some a=>Pj a n
 |none=>none
def over:List aD->List aD->Option (List aD)
 |[],cs=>some cs
 |v::vs,c::cs=>bif cM v.w c.w then (match over vs cs with|some r=>some (v::r)|none=>none) else none
 |_,[]=>none
def putAt:List aD->Nat->List aD->Option (List aD)
 |cs,0,vs=>over vs cs
 |c::cs,n+1,vs=>bif ab8 c.w (n+1) then (match putAt cs (n+1-c.w) vs with|some r=>some (c::r)|none=>none) else none
 |_,_,_=>none
def app {α:Type}:List α->List α->Option (List α)
 |[],l=>some l
 |x::r,l=>(match app r l with|some q=>some (x::q)|none=>none)
def Pk:aD->Bool
 | .un=>true
 | .mp _ _=>true
 |_=>false
def gn:List aD->Bool
 |[.mp _ _]=>true
 |_=>false
def EF:Slot->Bool
 | .box cs=>!gn cs
 |_=>false
def Hx {R:Type}(ok:Nat->Bool)(r0:Fr):Fr->Fr->(Fr->Option R)->Option R
 |[],fr,K=>K fr
 |(t,s)::r,fr,K=>match s with
  | .ptr root off=>bif ok t&&(!yD root&&(EF (av r0 root)&&(EF (av fr root)&&!dg (av fr t)))) then KM fr t (.ptr root off) λfr=>Hx ok r0 r fr K else Hx ok r0 r fr K
  |_=>Hx ok r0 r fr K
def mf:List aD->Bool
 |[.mp s _]=>!C8 s
 |_=>false
def wB:List aD->Bool
 |[]=>false
 |l::r=>bif Pk l then true else wB r
def kEp {R:Type}(f:Nat):Fr->(Fr->Option R)->Option R
 |[],K=>K []
 |(k,s)::r,K=>(match s with
  | .ep g i o b cs=>bif cM g f then kEp f r λr=>K ((k,.sc .un)::r) else kEp f r λr=>K ((k,.ep g i o b cs)::r)
  |s=>kEp f r λr=>K ((k,s)::r))
inductive LK where
 |k (x:Kd)
 |own (f:Nat) (ty:Nat) (eV:Bool)
inductive OK where
 |sc (l:LK)
 |ag (ls:List LK)
 |box (ls:List LK)
 |mp (s:MS)
 |pt (root off:Nat)
structure pa where
 cz:List Nat
 cS:List Nat
 outs:List (Nat×OK)
 exo:List (Nat×List (Nat×OK))
 eV:List Nat
instance:Inhabited pa:=⟨⟨[],[],[],[],[]⟩⟩
def X7:List (Nat×List (Nat×OK))->Nat->List (Nat×OK)
 |[],_=>[]
 |(k,l)::r,e=>bif cM k e then l else X7 r e
def pa.ex (h:pa)(e:Nat):List (Nat×OK):=X7 h.exo e
def Uj:List (Nat×List (Nat×OK))->List (Nat×OK)
 |[]=>[]
 |(_,l)::r=>l++Uj r
def pa.all (h:pa):List (Nat×OK):=h.outs++Uj h.exo
structure Ctx where
 ti:Nat->Option TI
 key:Nat->Nat
 g:Nat->List MV->Option MV
 eN:Nat->Bool
 fresh:Nat->Bool
 nM:Nat->Nat
 sig:Nat->Option (Nat×List LK)
 par:List (Nat×Nat)
 n:Nat
 bs:List Nat
 fl:List Nat
 fz:Nat->List Nat
 fk:Nat->Option FloatKind
 mt:Nat->Option (Nat×Bool)
 ord:Nat->List Nat
 yS:Nat->pa
 AS:Nat->pa
 wv:Nat->pa
 VE:Nat->Bool
 dyn:List Nat
def Ctx.tv (c:Ctx)(t:Nat):Option TI:=match c.ti t with|some I=>(match I.cE with|[]=>some I|_=>none)|none=>none
def AU:Value->Slot
 | .bool b=> .sc (.p (.b b))
 | .int k n=> .sc (.p (.i k n))
 | .string s=> .sc (.p (.s s.data.toList))
 | .slice none 0 0=> .sc .nil
 | .float k b=> .sc (.p (.raw (.float k b)))
 | .complex k a b=> .sc (.p (.raw (.complex k a b)))
 | .pointer none=> .sc (.p (.raw (.pointer none)))
 | .nilFunc=> .sc (.p (.raw .nilFunc))
 | .nilIface=> .sc (.p (.raw .nilIface))
 |_=> .sc .un
def aN (c:Ctx)(st:St):Operand->Slot
 | .tmp t=>match plk c.par t with
  |some q=>bif yD q&&cM (posOf q) t then (match av st.fr q with| .box cs=>bif gn cs then .sc .un else .ptr q (Pf q)|_=> .sc .un) else .sc .un
  |none=>match av st.fr t with
   | .box cs=>bif yD t then .sc .un else bif mf cs then .zm t else .ptr t 0
   | .zl cs=> .rp cs 0
   |s=>s
 | .const v=>AU v
 | .func f=> .sc (.p (.func (c.key f) []))
 | .global _=> .sc .un
def kh (c:Ctx)(st:St):List Operand->List Slot
 |[]=>[]
 |o::r=>aN c st o::kh c st r
section
variable {R:Type}
def wr (st:St)(d:Nat)(s:Slot)(K:St->Option R):Option R:=bif bI st.cz d then none else (match st with|⟨p,q,r,m⟩=>force s λs=>KM r d s λr=>K ⟨p,q,r,m⟩)
def bu (c:Ctx)(st:St)(d:Option Nat)(s:Slot)(K:St->Option R):Option R:=match d with
 |some d=>bif yD d||(ab8 c.n d||dg (av st.fr d)) then none else wr st d s K
 |none=>K st
def ki (st:St)(f:Nat)(o:oZ)(K:St->Option R):Option R:=bif bI st.cS f then none else (match st with|⟨p,q,r,m⟩=>kFr f r λr=>Pg m f o λm=>K ⟨p,q,r,m⟩)
def kj (I:TI)(cs:List aD)(off:Nat)(K:Slot->Option R):Option R:=bif I.st then (match part cs off I.size with|some a=>K (.ag a)|none=>none)
 else (match cut cs off with|some (l::_)=>bif cM l.w I.size then K (.sc l) else none|_=>none)
def ldK (st:St)(I:TI)(a:Slot)(K:Slot->Option R):Option R:=match a with
 | .ptr root off=>match av st.fr root with
  | .box cs=>bif gn cs then none else kj I cs off K
  |_=>none
 | .rp cs off=>kj I cs off K
 | .ep f _ off _ cs=>(match aQ st.bo f with|some _=>kj I cs off K|none=>none)
 | .hp root off i=>bif I.st||!cM I.size 1 then none else (match av st.fr root with
  | .box cs=>bif gn cs then none else (match cut cs off with|some (.hs x::_)=>K (.sc (.p (.i .u8 (x.l.getD i 0).toNat)))|_=>none)
  |_=>none)
 |_=>none
def aP:Slot->List aD
 | .sc l=>[l]
 | .ag cs=>cs
 |_=>[]
def bR:List aD->Option (List MV)
 |[]=>some []
 |l::r=>match l,bR r with
  | .p m,some q=>some (m::q)
  | .hs x,some q=>some (.h x::q)
  |_,_=>none
def se:List aD->List MV->Option (List aD)
 |[],[]=>some []
 | .hs x::r,_::ms=>(match se r ms with|some q=>some (.hs x::q)|none=>none)
 |_::r,m::ms=>(match se r ms with|some q=>some (.p m::q)|none=>none)
 |_,_=>none
def vP (b:Bool)(cs:List MV):Option MV:=match b,cs with
 |false,[m]=>some m
 |true,cs=>some (.agg cs)
 |_,_=>none
def isByte (n:Int):Bool:=decide (n=((acm n.toNat).toNat:Int))
def stK (st:St)(I:TI)(a v:Slot)(K:St->Option R):Option R:=bif wB (aP v)||!cM (zn (aP v)) I.size then none else
 match a with
 | .ptr root off=>match av st.fr root with
  | .box cs=>bif gn cs then none else (match putAt cs off (aP v) with|some ke=>wr st root (.box ke) K|none=>none)
  |_=>none
 | .hp root off i=>match av st.fr root,v with
  | .box cs,.sc (.p n)=>bif gn cs then none else (match cut cs off with
   |some (.hs x::_)=>gI .u8 n λn=>cU (isByte n) (match putAt cs off [.hs (x.put i (acm n.toNat))] with|some ke=>wr st root (.box ke) K|none=>none)
   |_=>none)
  |_,_=>none
 | .ep f i off b cs=>rq st (aP v) λms st=>match aQ st.bo f with
  |some o=>bif o.eV then none else
   (match se (aP v) ms with
   |some vs=>(match putAt cs off vs with
    |some ke=>(match bR ke with
     |some ms'=>(match vP b ms' with
      |some x=>bif bI st.cS f then none else
       (match st with|⟨p,q,r,m⟩=>kEp f r λr=>Pg m f ⟨o.ty,false,o.xs.set i x⟩ λm=>K ⟨p,q,r,m⟩)
      |none=>none)
     |none=>none)
    |none=>none)
   |none=>none)
  |none=>none
 |_=>none
def Nb (I:TI)(x:MV)(K:List aD->Option R):Option R:=bif I.st then gA x λcs=>uV I.lay cs K
 else match I.lay with
  |[k]=>j9 k x λx=>K [x]
  |_=>none
def zo (I:TI)(x:MV)(K:Slot->Option R):Option R:=bif I.st then gA x λcs=>uV I.lay cs λcs=>K (.ag cs)
 else match I.lay with
  |[k]=>j9 k x λx=>K (.sc x)
  |_=>none
def zp (c:Ctx):List Nat->List MV->(List Slot->Option R)->Option R
 |[],l,K=>gN l (K [])
 |t::ts,l,K=>match c.tv t with
  |some I=>gC l λm r=>zo I m λs=>zp c ts r λss=>K (s::ss)
  |none=>none
def sP (c:Ctx)(I:TI)(x:MV)(K:Slot->Option R):Option R:=match I.cE with
 |[]=>zo I x K
 |ts=>gT x λvs=>zp c ts vs λss=>K (.dH ss)
def EG:aD->aD->Option Bool
 | .p (.b x),.p (.b y)=>some (decide (x=y))
 | .p (.i k x),.p (.i k' y)=>bif decide (k=k') then some (decide (x=y)) else none
 | .p (.s x),.p (.s y)=>some (decide (x=y))
 | .hs x,.hs y=>some (decide (x=y))
 |_,_=>none
def kl:List aD->List aD->Option Bool
 |[],[]=>some true
 |[x],[y]=>EG x y
 |x::xs,y::ys=>match EG x y,kl xs ys with
  |some a,some b=>some (a&&b)
  |_,_=>none
 |_,_=>none
def Nc (op:BinOp)(x y:List UInt8):Option MV:=match op with
 | .eql=>some (.b (decide (x=y)))
 | .neq=>some (.b (!decide (x=y)))
 | .lss=>some (.b (adO x y))
 | .gtr=>some (.b (!(adO x y||decide (x=y))))
 | .leq=>some (.b (adO x y||decide (x=y)))
 | .geq=>some (.b (!adO x y))
 |_=>none
def RV (k:IntKind)(x y:Int):Int:=k.wrap ((acs k.bits x&&&acs k.bits y).toNat:Int)
def bOr (k:IntKind)(x y:Int):Int:=k.wrap ((acs k.bits x|||acs k.bits y).toNat:Int)
def EH (k:IntKind)(x y:Int):Int:=k.wrap ((acs k.bits x^^^acs k.bits y).toNat:Int)
def Uk (op:BinOp)(k:IntKind)(x y:Int):Option MV:=match op with
 | .add=>some (.i k (k.wrap (x+y)))
 | .sub=>some (.i k (k.wrap (x-y)))
 | .mul=>some (.i k (k.wrap (x *y)))
 | .and=>some (.i k (RV k x y))
 | .or=>some (.i k (bOr k x y))
 | .xor=>some (.i k (EH k x y))
 | .eql=>some (.b (decide (x=y)))
 | .neq=>some (.b (!decide (x=y)))
 | .lss=>some (.b (decide (x<y)))
 | .leq=>some (.b (decide (x<=y)))
 | .gtr=>some (.b (decide (y<x)))
 | .geq=>some (.b (decide (y<=x)))
 |_=>none
def oq:Kd->aD->Bool
 | .b,.p (.b _)=>true
 | .i k,.p (.i k' _)=>decide (k'=k)
 | .s,.p (.s _)=>true
 | .h,.hs _=>true
 |_,_=>false
def fX:List Kd->List aD->Bool
 |[],[]=>true
 |k::ks,l::ls=>bif oq k l then fX ks ls else false
 |_,_=>false
def nD (st:Bool):Slot->Bool
 | .ag _=>st
 | .sc _=>!st
 |_=>false
def ajG (op:BinOp)(a b:Nat):Option Nat:=match op with
 | .add=>FloatKind.f64.format.add a b
 | .sub=>FloatKind.f64.format.sub a b
 | .mul=>FloatKind.f64.format.mul a b
 |_=>none
def af9 (oI:Option TI)(op:BinOp)(x y:Slot)(K:Slot->Option R):Option R:=match x,y with
 | .sc (.p (.i k a)),.sc (.p (.i k' b))=>
  (match op with
   | .quo=>bif decide (k=k') then cU (!decide (b=0)) (K (.sc (.p (.i k (k.wrap (a.tdiv b)))))) else none
   | .rem=>bif decide (k=k') then cU (!decide (b=0)) (K (.sc (.p (.i k (a.tmod b))))) else none
   | .shr=>cU (decide (0<=b)) (K (.sc (.p (.i k (a.fdiv (2^min b.toNat k.bits))))))
   | .shl=>cU (decide (0<=b)) (K (.sc (.p (.i k (k.wrap (a *2^min b.toNat k.bits))))))
   |_=>bif decide (k=k') then (match Uk op k a b with|some m=>K (.sc (.p m))|none=>none) else none)
 | .sc (.p (.s a)),.sc (.p (.s b))=>(match op with
  | .add=>cU (decide (a.length+b.length<=2^46)) (K (.sc (.p (.s (a++b)))))
  |_=>(match Nc op a b with|some m=>K (.sc (.p m))|none=>none))
 | .sc (.p (.raw (.float .f64 a))),.sc (.p (.raw (.float .f64 b)))=>bd (ajG op a b) λr=>K (.sc (.p (.raw (.float .f64 r))))
 |x,y=>match oI with
  |some I=>bif fX I.lay (aP x)&&fX I.lay (aP y)&&(nD I.st x&&nD I.st y) then (match op with
   | .eql=>(match kl (aP x) (aP y) with|some b=>K (.sc (.p (.b b)))|none=>none)
   | .neq=>(match kl (aP x) (aP y) with|some b=>K (.sc (.p (.b (!b))))|none=>none)
   |_=>none) else none
  |none=>none
def sliceB (lo hi:Option Slot)(len:Nat)(K:Nat->Nat->Option R):Option R:=match lo,hi with
 |none,none=>K 0 len
 |some (.sc (.p (.i _ l))),none=>cU (decide (0<=l/\l<=(len:Int)/\(len:Int)<=(len:Int))) (K l.toNat (Int.toNat (len:Int)))
 |none,some (.sc (.p (.i _ h)))=>cU (decide (0<=(0:Int)/\(0:Int)<=h/\h<=(len:Int))) (K (Int.toNat 0) h.toNat)
 |some (.sc (.p (.i _ l))),some (.sc (.p (.i _ h)))=>cU (decide (0<=l/\l<=h/\h<=(len:Int))) (K l.toNat h.toNat)
 |_,_=>none
def mT (c:Ctx)(st:St):Option Operand->Option Slot
 |some o=>some (aN c st o)
 |none=>none
def zq:List aD->Option (List MV)
 |[]=>some []
 |l::r=>match l,zq r with
  | .p m,some q=>some (m::q)
  | .hs x,some q=>some (.h x::q)
  | .nil,some q=>some (.list []::q)
  |_,_=>none
def X8 (d:Nat)(st:St)(I E:TI)(x y:Slot)(K:Slot->St->Option R):Option R:=match x,y with
 | .sc (.p (.i _ n)),.sc (.p (.i _ m))=>bif ab8 1 E.bytes then cU (decide ((0:Int)<=n/\n=m/\n *E.bytes<=2^46)) (match zq E.zero with
  |some zs=>(match vP E.st zs with
   |some z=>ki st d ⟨I.elem,false,List.replicate n.toNat z⟩ λst=>K (.sc (.own d)) st
   |none=>none)
  |none=>none) else none
 |_,_=>none
def TI.AV (I:TI):Bool:=match I.st,I.lay with|false,[.l]=>true|_,_=>false
def TI.XN (I:TI):Bool:=match I.st,I.lay with|false,[.s]=>true|_,_=>false
def VF (E:TI):Bool:=match E.st,E.lay with
 |false,[.i k]=>decide (k= .u8)
 |_,_=>false
def Pl (l:List UInt8):List MV:=l.map λb=> .i .u8 (b.toNat:Int)
def RW (c:Ctx)(u:Nat)(E:TI)(x:Slot)(K:List MV->Option R):Option R:=match c.tv u,x with
 |some T,.sc (.p (.s l))=>bif T.XN&&VF E then K (Pl l) else none
 |_,_=>none
def Nd (I E:TI)(st:St)(x:Slot)(K:List MV->Option R):Option R:=match x with
 | .sc (.p (.list xs))=>cU (o9 E.size xs) (K xs)
 | .sc .nil=>K []
 | .sc (.own f)=>(match aQ st.bo f with|some o=>bif cM o.ty I.elem then K o.xs else none|none=>none)
 |_=>none
def Cd (c:Ctx)(st:St)(I:TI):List (Nat×Operand)->List aD->Option (List aD)
 |[],cs=>some cs
 |(i,o)::r,cs=>match I.Hv[i]?,I.VC[i]? with
  |some q,some y=>(match c.tv y with
   |some J=>bif wB (aP (aN c st o))||!cM (zn (aP (aN c st o))) J.size then none else
    (match putAt cs q (aP (aN c st o)) with|some ke=>Cd c st I r ke|none=>none)
   |none=>none)
  |_,_=>none
def Hy (c:Ctx)(st:St):List (Nat×Operand)->kY->(kY->Option R)->Option R
 |[],x,K=>K x
 |(i,o)::r,x,K=>match aN c st o with
  | .sc (.p m)=>bif ab8 32 i then none else gI .u8 m λn=>cU (isByte n) (Hy c st r (x.put i (acm n.toNat)) K)
  |_=>none
def X9 (c:Ctx)(st:St):List (Nat×Operand)->Nat->(List MV->St->Option R)->Option R
 |[],_,K=>K [] st
 |(i,o)::r,n,K=>bif cM i n then nC st (aN c st o) λm st=>X9 c st r (n+1) λms st=>K (m::ms) st else none
def Hz (c:Ctx)(st:St):List Operand->(List MV->St->Option R)->Option R
 |[],K=>K [] st
 |o::r,K=>match aN c st o with
  | .ptr root 0=>(match av st.fr root with
   | .box cs=>bif wB cs||yD root then none else rq st cs λms st=>(match se cs ms with|some ke=>wr st root (.zl ke) λst=>Hz c st r λxs st=>K (.rp ms::xs) st|none=>none)
   |_=>none)
  | .rp cs 0=>rq st cs λms st=>Hz c st r λxs st=>K (.rp ms::xs) st
  |_=>none
def HA (c:Ctx)(k:Nat)(st:St)(s:Slot)(K:MV->St->Option R):Option R:=match s with
 | .sc (.own f)=>(match aQ st.bo f with
  |some o=>bif o.eV||!cM o.ty (c.nM k) then none else ki st f ⟨o.ty,true,[]⟩ λst=>K (.fresh o.xs) st
  |none=>none)
 | .sc .nil=>(match c.tv (c.nM k) with|some _=>K (.fresh []) st|none=>none)
 |_=>none
def Ul (c:Ctx)(k:Nat)(st:St)(ss:List Slot)(K:List MV->St->Option R):Option R:=bif c.eN k then (match ss with
  |[s0,s1,s2]=>(match s2 with
   | .sc (.p m2)=>nC st s1 λm1 st=>HA c k st s0 λm0 st=>K [m0,m1,m2] st
   |s2=>nC st s1 λm1 st=>HA c k st s0 λm0 st=>HA c k st s2 λm2 st=>K [m0,m1,m2] st)
  |_=>none)
 else xu st ss K
def ajH (x y:Int):Int:=if y<x then y else x
def imax (x y:Int):Int:=if y>x then y else x
def Ya (mx:Bool)(k:IntKind):Int->List Slot->Option MV
 |x,[]=>some (.i k x)
 |x,.sc (.p (.i k' y))::r=>bif decide (k'=k) then Ya mx k (bif mx then imax x y else ajH x y) r else none
 |_,_=>none
def RX (mx:Bool):List Slot->Option MV
 | .sc (.p (.i k n))::r=>Ya mx k n r
 |_=>none
def acx:List Nat->Bool
 |[]=>false
 |_=>true
def HB (c:Ctx):List Nat->List MV->(List aD->Option R)->Option R
 |[],l,K=>gN l (K [])
 |t::ts,l,K=>match c.tv t with
  |some I=>gC l λm r=>zo I m λs=>(match s with| .sc (.p m)=>HB c ts r λls=>K (.p m::ls)|_=>none)
  |none=>none
def HC (c:Ctx)(d:Nat)(st:St)(f:Nat)(r:MV)(ts:List Nat)(K:Slot->St->Option R):Option R:=match ts with
 |[]=>none
 |t0::ts=>(match c.tv t0 with
  |some I0=>bif !cM I0.elem (c.nM f) then none else gT r λvs=>gC vs λx vs=>gF x λxs=>HB c ts vs λls=>ki st d ⟨I0.elem,false,xs⟩ λst=>(bif bI c.bs d then oo st (.own d) λm st=>K (.tg (.p m::ls)) st else K (.tg (.own d::ls)) st)
  |none=>none)
def Yb (c:Ctx)(d:Nat)(st:St)(f:Nat)(ms:List MV)(I:TI)(K:Slot->St->Option R):Option R:=bd (c.g f ms) λr=>bif c.fresh f then bif cM (c.nM f) 0 then gCl r λxs=>K (.sc (.p (.clip xs))) st else bif acx I.cE then HC c d st f r I.cE K else gF r λxs=>bif !cM I.elem (c.nM f) then none else ki st d ⟨I.elem,false,xs⟩ λst=>(bif bI c.bs d then oo st (.own d) λm st=>K (.sc (.p m)) st else K (.sc (.own d)) st) else sP c I r λs=>K s st
def aga (s:Slot)(K:Slot->Option R):Option R:=match s with
 | .ptr r o=>K (.ptr r o)
 | .rp cs o=>K (.rp cs o)
 |_=>none
def Yc (x y z:Slot)(K:Slot->Option R):Option R:=match x with
 | .sc (.p (.b v))=>(match y,z with
  | .sc (.p (.b p)),.sc (.p (.b q))=>K (.sc (.p (.b (bif v then p else q))))
  |p,q=>match v with|true=>K p|false=>K q)
 |_=>none
def agb (I:TI)(s:Slot)(K:Slot->Option R):Option R:=match s with
 | .sc l=>bif I.st||Pk l||!cM l.w I.size then none else K (.box [l])
 | .ag cs=>bif I.st&&!wB cs&&cM (zn cs) I.size then K (.box cs) else none
 |_=>none
def unK (op:UnOp)(s:Slot)(K:Slot->Option R):Option R:=match op,s with
 | .not,.sc (.p (.b v))=>K (.sc (.p (.b (!v))))
 | .neg,.sc (.p (.i k n))=>K (.sc (.p (.i k (k.wrap (0-n)))))
 |_,_=>none
def Yd (I:TI)(fk:Option FloatKind)(s:Slot)(K:Slot->Option R):Option R:=match I.st,I.cE,I.lay,s with
 |false,[],[.i k],.sc (.p (.i _ n))=>K (.sc (.p (.i k (k.wrap n))))
 |false,[],[.s],.sc (.p (.s l))=>K (.sc (.p (.s l)))
 |false,[],[.i k],.sc (.p (.raw (.float .f64 a)))=>bd ((FloatKind.decode .f64 a).toInt .zero) λn=>cU (decide (k.min<=n/\n<=k.max)) (K (.sc (.p (.i k n))))
 |false,[],[.raw],.sc (.p (.i _ n))=>(match fk with
  |some .f64=>K (.sc (.p (.raw (.float .f64 (FloatKind.nearest .f64 n)))))
  |_=>none)
 |_,_,_,_=>none
def RY (c:Ctx)(I:TI)(st:St)(s:Slot)(lo hi:Option Slot)(K:Slot->St->Option R):Option R:=match s with
 | .sc (.p (.s l))=>bif I.XN then sliceB lo hi l.length λa b=>K (.sc (.p (.s ((l.take b).drop a)))) st else none
 | .sc (.p (.list l))=>bif I.AV then (match c.tv I.elem with
  |some E=>(match lo with
   |none=>sliceB none hi l.length λa b=>K (.sc (.p (.list ((l.take b).drop a)))) st
   |some lo=>cU (o9 E.size l) (sliceB (some lo) hi l.length λa b=>K (.sc (.p (.list ((l.take b).drop a)))) st))
  |none=>none) else none
 | .sc (.own f)=>(match aQ st.bo f with
  |some o=>bif I.AV&&cM o.ty I.elem then oo st (.own f) λ_ st=>sliceB lo hi o.xs.length λa b=>K (.sc (.p (.list ((o.xs.take b).drop a)))) st else none
  |none=>none)
 | .sc .nil=>bif I.AV then sliceB lo hi 0 λ_ _=>K (.sc .nil) st else none
 |_=>none
def Ye (I:TI)(s h m:Slot)(K:Slot->Option R):Option R:=match s,h,m with
 | .sc (.p (.list l)),.sc (.p (.i .i64 n)),.sc (.p (.i .i64 n'))=>bif I.AV then cU (decide (n=(l.length:Int)/\n'=(l.length:Int))) (K (.sc (.p (.clip l)))) else none
 |_,_,_=>none
def Yf (st:St)(I:TI)(f:Nat)(s:Slot)(K:Slot->Option R):Option R:=match I.st,I.Hv[f]?,s with
 |true,some q,.ptr r o=>K (.ptr r (o+q))
 |true,some q,.rp cs o=>K (.rp cs (o+q))
 |true,some q,.ep g i o b cs=>(match aQ st.bo g with|some _=>K (.ep g i (o+q) b cs)|none=>none)
 |_,_,_=>none
def agc (c:Ctx)(I:TI)(f:Nat)(s:Slot)(K:Slot->Option R):Option R:=match I.st,I.Hv[f]?,I.VC[f]?,s with
 |true,some q,some y,.ag cs=>(match c.tv y with|some J=>kj J cs q K|none=>none)
 |_,_,_,_=>none
def agd (c:Ctx)(st:St)(I E:TI)(x i:Slot)(K:Slot->Option R):Option R:=match x,i with
 | .sc (.p (.list xs)),.sc (.p (.i _ n))=>bif I.AV then idx xs n λx=>Nb E x λcs=>K (.rp cs 0) else none
 | .sc (.own f),.sc (.p (.i _ n))=>(match aQ st.bo f with
  |some o=>bif I.AV then idx o.xs n λx=>Nb E x λcs=>K (.ep f n.toNat 0 E.st cs) else none
  |none=>none)
 | .ptr r o,.sc (.p (.i _ n))=>bif I.st then none else (match I.lay with|[.h]=>cU (decide ((0:Int)<=n/\n<32)) (K (.hp r o n.toNat))|_=>none)
 |_,_=>none
def ixK (I:TI)(x i:Slot)(K:Slot->Option R):Option R:=match I.st,I.lay,x,i with
 |false,[.s],.sc (.p (.s l)),.sc (.p (.i _ n))=>cU (decide ((0:Int)<=n/\n<(l.length:Int))) (K (.sc (.p (.i .u8 (l.getD n.toNat 0).toNat))))
 |false,[.h],.sc (.hs x),.sc (.p (.i _ n))=>cU (decide ((0:Int)<=n/\n<32)) (K (.sc (.p (.i .u8 (x.l.getD n.toNat 0).toNat))))
 |_,_,_,_=>none
def Da:List aD->Nat->Option aD
 | .p m::_,0=>some (.p m)
 | .own f::_,0=>some (.own f)
 | .un::_,0=>some .un
 | .p _::r,k+1=>Da r k
 | .own _::r,k+1=>Da r k
 | .un::r,k+1=>Da r k
 |_,_=>none
def age (s:Slot)(k:Nat)(K:Slot->Option R):Option R:=match s with
 | .tg cs=>(match Da cs k with|some l=>K (.sc l)|none=>none)
 | .dH vs=>(match vs[k]? with|some s=>K s|none=>none)
 |_=>none
def Yg (I:TI)(st:St)(ss:List Slot)(K:Slot->Option R):Option R:=match ss with
 |[.sc (.p (.s l))]=>bif I.XN then K (.sc (.p (.i .i64 l.length))) else none
 |[.sc (.p (.list l))]=>bif I.AV then K (.sc (.p (.i .i64 l.length))) else none
 |[.sc .nil]=>bif I.AV then K (.sc (.p (.i .i64 0))) else none
 |[.sc (.own f)]=>bif I.AV then (match aQ st.bo f with|some o=>K (.sc (.p (.i .i64 o.xs.length)))|none=>none) else none
 |_=>none
def VG (pb:Bool)(d:Nat)(st:St)(I E:TI)(s:Slot)(ys:List MV)(K:Slot->St->Option R):Option R:=bif ab8 1 E.bytes then (match s with
 | .sc .nil=>cU (decide (ys.length *E.bytes<=2^46)) (ki st d ⟨I.elem,false,ys⟩ λst=>K (.sc (.own d)) st)
 | .sc (.own f)=>(match aQ st.bo f with
  |some w=>cU (decide ((w.xs.length+ys.length) *E.bytes<=2^46)) (bif cM w.ty I.elem then ki st f ⟨w.ty,w.eV,w.xs++ys⟩ λst=>K (.sc (.own f)) st else none)
  |none=>none)
 | .sc (.p (.clip xs))=>cU (o9 E.size xs) (cU (decide (0<ys.length/\(xs.length+ys.length) *E.bytes<=2^46)) (ki st d ⟨I.elem,false,xs++ys⟩ λst=>bif pb then oo st (.own d) λm st=>K (.sc (.p m)) st else K (.sc (.own d)) st))
 |_=>none) else none
def Nf (c:Ctx)(st:St)(I:TI)(f:Slot)(ss:List Slot)(K:Slot->St->Option R):Option R:=match f with
 | .sc (.p m)=>Ui m λf dh=>cU (!c.eN f)<|xu st ss λms st=>bd (c.g f (ms++dh)) λr=>sP c I r λs=>K s st
 |_=>none
def EI:MV->MV->Bool
 | .b x,.b y=>decide (x=y)
 | .i k x,.i k' y=>decide (k=k')&&decide (x=y)
 | .s x,.s y=>decide (x=y)
 | .h x,.h y=>decide (x=y)
 |_,_=>false
def eO:List MV->List MV->Bool
 |[],[]=>true
 |x::xs,y::ys=>EI x y&&eO xs ys
 |_,_=>false
def km:MV->List MV
 | .dH (.agg k::_)=>k
 |_=>[]
def acy:MV->MV
 | .dH [_,v]=>v
 |_=> .b false
def cy:List MV->List MV->Nat
 |[],_=>0
 |e::r,ks=>bif eO (km e) ks then 0 else cy r ks+1
def asI:MV->Int
 | .i _ n=>n
 |_=>0
def asB:MV->Bool
 | .b x=>x
 |_=>false
def nN (es:List MV)(ks:List MV):Int:=match es[cy es ks]? with|some e=>asI (acy e)|none=>0
def aeZ (es:List MV)(ks:List MV):Bool:=match es[cy es ks]? with|some e=>asB (acy e)|none=>false
def nE (es ks:List MV)(z:MV):List MV:=bif cM (cy es ks) es.length then es++[.dH [.agg ks,z]] else es
def tJ (es:List MV)(i:Nat)(v:MV):List MV:=match es[i]? with|some e=>es.set i (.dH [.agg (km e),v])|none=>es
def kb (b:Bool):MV:=bif b then .b false else .i .i64 0
def vQ (c:Ctx)(t:Nat):Option MS:=match c.mt t with
 |some (kt,b)=>(match c.tv kt with|some I=>bif C8 ⟨I.st,I.lay,b⟩ then none else some ⟨I.st,I.lay,b⟩|none=>none)
 |none=>none
def Pm (s:MS)(k:Slot)(K:List MV->Option R):Option R:=bif fX s.lay (aP k)&&nD s.st k then (match bR (aP k) with|some ks=>K ks|none=>none) else none
def KN (st:St)(s:MS)(m:Slot)(K:Nat->List MV->Option R):Option R:=match m with
 | .zm r=>(match av st.fr r with| .box [.mp s' es]=>bif msB s s'&&!C8 s' then K r es else none|_=>none)
 |_=>none
def VH (b:Bool)(s:Slot)(K:MV->Option R):Option R:=match b,s with
 |true,.sc (.p (.b x))=>K (.b x)
 |false,.sc (.p (.i .i64 n))=>K (.i .i64 n)
 |_,_=>none
def FH (st:St)(r:Nat)(s:MS)(es:List MV)(K:St->Option R):Option R:=wr st r (.box [.mp s es]) K
def isLT (c:Ctx)(y:Nat):Bool:=match c.tv y with|some Y=>Y.AV|none=>false
def jm (c:Ctx)(o:Oper):Bool:=match o.op with
 | .assign (.tmp _)=>(match c.mt o.type with|some _=>true|none=>false)
 |_=>false
def Hg (c:Ctx)(o:Oper)(st:St)(x:Operand)(K:Slot->St->Option R):Option R:=match x,c.mt o.type with
 | .tmp t,some _=>(match av st.fr t with
  | .box cs=>bif gn cs then bif bI st.cz t||yD t then none else (match st with|⟨p,q,r,m⟩=>wA [t] r λr=>K (.box cs) ⟨p,q,r,m⟩) else K (aN c st x) st
  |_=>K (aN c st x) st)
 |_,_=>K (aN c st x) st
def EJ (s:MS)(es ks:List MV):Slot:=bif s.b then .sc (.p (.b (aeZ es ks))) else .sc (.p (.i .i64 (nN es ks)))
def ae0 (c:Ctx)(st:St)(t:Nat)(m k:Slot)(K:Slot->Option R):Option R:=match vQ c t with
 |some s=>KN st s m λ_ es=>Pm s k λks=>K (EJ s es ks)
 |none=>none
def ae1 (c:Ctx)(st:St)(t:Nat)(m k v:Slot)(K:St->Option R):Option R:=match vQ c t with
 |some s=>KN st s m λr es=>Pm s k λks=>VH s.b v λv=>FH st r s (tJ (nE es ks (kb s.b)) (cy es ks) v) K
 |none=>none
def Yh (c:Ctx)(st:St)(t:Nat)(m k:Slot)(K:Slot->St->Option R):Option R:=match vQ c t with
 |some s=>KN st s m λr es=>Pm s k λks=>FH st r s (nE es ks (kb s.b)) λst=>K (.dH [EJ s es ks,.sc (.p (.i .i64 (cy es ks)))]) st
 |none=>none
def ajI (c:Ctx)(st:St)(t:Nat)(m i v:Slot)(K:St->Option R):Option R:=match vQ c t with
 |some s=>KN st s m λr es=>(match i with
  | .sc (.p (.i .i64 n))=>cU (decide (0<=n/\n.toNat<es.length)) (VH s.b v λv=>FH st r s (tJ es n.toNat v) K)
  |_=>none)
 |none=>none
def itS (es:List MV):List UInt8:=match es with|[.s l,.i .i64 _]=>l|_=>[]
def BK (es:List MV):Int:=match es with|[.s _,.i .i64 n]=>n|_=>0
def acz (es:List MV):Bool:=decide (BK es<((itS es).length:Int))
def RZ (es:List MV):Int:=(afX ⟨(itS es).toArray⟩ (BK es).toNat).1
def R0 (es:List MV):List MV:=[.s (itS es),.i .i64 (BK es+(afX ⟨(itS es).toArray⟩ (BK es).toNat).2)]
def itK (st:St)(x:Slot)(K:Slot->St->Option R):Option R:=match x with
 | .ptr t 0=>(match av st.fr t with
  | .box [.mp s es]=>bif C8 s then
   bG (acz es) (wr st t (.box [.mp s (R0 es)]) λst=>K (.dH [.sc (.p (.b true)),.sc (.p (.i .i64 (BK es))),.sc (.p (.i .i32 (RZ es)))]) st) (K (.dH [.sc (.p (.b false))]) st)
   else none
  |_=>none)
 |_=>none
def byK (m:MV)(K:UInt8->Option R):Option R:=gI .u8 m λn=>cU (isByte n) (K (acm n.toNat))
def Ng:List MV->(List UInt8->Option R)->Option R
 |[],K=>K []
 |m::r,K=>byK m λb=>Ng r λl=>K (b::l)
def R2 (I:TI)(x:Slot)(K:Slot->Option R):Option R:=match x with
 | .sc (.p (.s l))=>bif I.XN then K (.box [.mp MS.it [.s l,.i .i64 0]]) else none
 |_=>none
def Yi (c:Ctx)(st:St)(Y I:TI)(x:Slot)(K:Slot->Option R):Option R:=match c.tv Y.elem with
 |some E=>bif I.XN&&VF E then (match x with
  | .sc (.p (.list xs))=>Ng xs λl=>K (.sc (.p (.s l)))
  | .sc .nil=>K (.sc (.p (.s [])))
  | .sc (.own f)=>(match aQ st.bo f with
   |some o=>bif cM o.ty Y.elem then Ng o.xs λl=>K (.sc (.p (.s l))) else none
   |none=>none)
  |_=>none) else none
 |none=>none
def still (c:Ctx)(o:Oper):Bool:=match o.op,o.dst with
 | .load _ _,some d=>bI c.fl d
 |_,_=>false
def cw:List LK->List Nat
 |[]=>[]
 | .own f _ _::r=>f::cw r
 |_::r=>cw r
def meets:List Nat->List Nat->Bool
 |[],_=>false
 |k::r,l=>bif bI l k then true else meets r l
def kc (c:Ctx):List LK->Bool
 |[]=>true
 | .own _ ty _::r=>(match c.tv ty with|some _=>kc c r|none=>false)
 |_::r=>kc c r
def nF (ps:List (Nat×Nat))(f g:Nat):Bool:=match ps with
 |[]=>true
 |(a,b)::r=>(bif cM a f then cM b g&&!cM g 0 else (bif cM b g then cM g 0 else true))&&nF r f g
def Nh (st:St)(ps:List (Nat×Nat))(k:LK)(l:aD)(K:MV->List (Nat×Nat)->Option R):Option R:=match k,l with
 | .k .l,.nil=>K (.list []) ps
 | .k .h,.hs x=>K (.h x) ps
 | .k x,.p m=>j9 x m λ_=>K m ps
 | .own f ty eV,.own g=>match aQ st.bo g with
  |some o=>bif !cM o.ty ty||(o.eV&&!eV)||bI st.cS g||!nF ps f (g+1) then none else K (.list o.xs) ((f,g+1)::ps)
  |none=>none
 | .own f _ _,.nil=>bif nF ps f 0 then K (.list []) ((f,0)::ps) else none
 |_,_=>none
def lO (st:St):List (Nat×Nat)->List LK->List aD->(List MV->List (Nat×Nat)->Option R)->Option R
 |ps,[],[],K=>K [] ps
 |ps,k::ks,l::ls,K=>Nh st ps k l λm ps=>lO st ps ks ls λms ps=>K (m::ms) ps
 |_,_,_,_=>none
def kM (st:St)(k:LK)(m:MV)(K:aD->St->Option R):Option R:=match k with
 | .k x=>j9 x m λl=>K l st
 | .own f ty eV=>gL m λxs=>(match st with|⟨p,q,r,n⟩=>Pg n f ⟨ty,eV,xs⟩ λn=>K (.own f) ⟨p,q,r,n⟩)
def cX (st:St):List LK->List MV->(List aD->List MV->St->Option R)->Option R
 |[],ms,K=>K [] ms st
 |k::ks,ms,K=>gC ms λm r=>kM st k m λl st=>cX st ks r λls ms st=>K (l::ls) ms st
def Pn (gs:List Nat):List (Nat×oZ)->(List (Nat×oZ)->Option R)->Option R
 |[],K=>K []
 |(k,o)::r,K=>bif bI gs k then Pn gs r K else Pn gs r λr=>K ((k,o)::r)
def acA:List Nat->Fr->(Fr->Option R)->Option R
 |[],r,K=>K r
 |f::fs,r,K=>kFr f r λr=>acA fs r K
def lB:List (Nat×Nat)->List Nat
 |[]=>[]
 |(_,0)::r=>lB r
 |(_,g+1)::r=>g::lB r
def Po:List Nat->List (Nat×oZ)->Bool
 |[],_=>false
 |f::r,m=>(match aQ m f with|some _=>true|none=>Po r m)
def Yj (st:St)(root:Nat)(ks:List LK)(ps:List (Nat×Nat))(outs:List MV)(K:St->Option R):Option R:=cX ⟨[],[],[],[]⟩ ks outs λcs rest HD=>gN rest<|Pn (lB ps) st.bo λm=>
  bif Po (cw ks) m||meets (cw ks) st.cS then none else
   acA (cw ks) st.fr λr=>KM r root (.box cs) λr=>(match app HD.bo m with|some m=>K ⟨st.cz,st.cS,r,m⟩|none=>none)
def Um (c:Ctx)(gv:Bool)(g:List MV->Option MV)(pos:Nat)(ks:List LK)(st:St)(ss:List Slot)(I:Option TI)(K:Slot->St->Option R):Option R:=match ss[pos]? with
 |some (.ptr root off)=>xu st (ss.take pos) λm1 st=>xu st (ss.drop (pos+1)) λm2 st=>
  (match av st.fr root with
  | .box cs=>bif gn cs||bI st.cz root||!kc c ks||!gv then none else lO st [] ks cs λls ps=>
   (match app m1 (.cell (.func off ls)::m2) with
   |some ms=>bd (g ms) λx=>gW x λr outs=>Yj st root ks ps outs λst=>(match I with
    |some I=>sP c I r λs=>K s st
    |none=>K (.sc .un) st)
   |none=>none)
  |_=>none)
 |_=>none
def ae3 (c:Ctx)(key pos:Nat)(ks:List LK)(st:St)(ss:List Slot)(I:Option TI)(K:Slot->St->Option R):Option R:=Um c (c.eN key) (c.g key) pos ks st ss I K
def Yk:List LK->List LK->Bool
 |[],[]=>true
 | .k k1::r,.k k2::q=>kdB k1 k2&&Yk r q
 | .own f t z::r,.own f' t' z'::q=>cM f f'&&(cM t t'&&(z==z'&&Yk r q))
 |_,_=>false
def Pp (c:Ctx)(pos:Nat)(ks:List LK):List Nat->Bool
 |[]=>true
 |k::r=>(match c.sig k with|some sg=>cM sg.1 pos&&Yk sg.2 ks|none=>false)&&(c.eN k&&Pp c pos ks r)
def Yl (c:Ctx)(VI:List Nat)(st:St)(f:Slot)(ss:List Slot)(I:Option TI)(K:Slot->St->Option R):Option R:=match f,VI with
 | .sc (.p m),k0::_=>(match c.sig k0 with
  |some sg=>bif Pp c sg.1 sg.2 VI then Ui m λk dh=>gN dh<|Um c true (λms=>VD VI k λk=>c.g k ms) sg.1 sg.2 st ss I K else none
  |none=>none)
 |_,_=>none
def opK (c:Ctx)(o:Oper)(st:St)(K:Slot->St->Option R):Option R:=match o.op with
 | .move x=>K (aN c st x) st
 | .assign x=>Hg c o st x K
 | .makeMap t none=>(match vQ c t with|some s=>K (.box [.mp s []]) st|none=>none)
 | .lookup t m k false=>ae0 c st t (aN c st m) (aN c st k) λs=>K s st
 | .mapUpdate t m k v=>ae1 c st t (aN c st m) (aN c st k) (aN c st v) λst=>K (.sc .un) st
 | .mapEntry t m k=>Yh c st t (aN c st m) (aN c st k) K
 | .entryStore t m i v=>ajI c st t (aN c st m) (aN c st i) (aN c st v) λst=>K (.sc .un) st
 | .nilCheck x=>aga (aN c st x) λs=>K s st
 | .pick x a b=>Yc (aN c st x) (aN c st a) (aN c st b) λs=>K s st
 | .alloc t=>(match c.tv t with|some I=>K (.box I.zero) st|none=>none)
 | .box t x=>(match c.tv t with|some I=>agb I (aN c st x) λs=>K s st|none=>none)
 | .build t parts=>(match c.tv t with
  |some I=>bif I.st then (match Cd c st I parts.toList I.zero with|some cs=>K (.ag cs) st|none=>none)
   else (match I.lay with|[.h]=>Hy c st parts.toList kY.zero λx=>K (.sc (.hs x)) st|_=>none)
  |none=>none)
 | .buildSlice t n parts=>(match c.tv t with
  |some I=>bif I.AV then (match c.tv I.elem with
   |some E=>bif ab8 (n *E.size) 16777216 then X9 c st parts.toList 0 λms st=>bif cM ms.length n then cU (o9 E.size ms) (bif bI c.bs (o.dst.getD 0) then K (.sc (.p (.list ms))) st else ki st (o.dst.getD 0) ⟨I.elem,false,ms⟩ λst=>K (.sc (.own (o.dst.getD 0))) st) else none else none
   |none=>none) else none
  |none=>none)
 | .makeSlice t x y=>(match c.tv t with
  |some I=>bif I.AV then (match c.tv I.elem with|some E=>X8 (o.dst.getD 0) st I E (aN c st x) (aN c st y) K|none=>none) else none
  |none=>none)
 | .load t a=>(match c.tv t with
  |some I=>bif still c o then (match aN c st a with| .rp cs off=>kj I cs off λs=>K s st|_=>none) else ldK st I (aN c st a) λs=>K s st
  |none=>none)
 | .store t a v=>(match c.tv t with|some I=>stK st I (aN c st a) (aN c st v) λst=>K (.sc .un) st|none=>none)
 | .binOp op t x y _=>af9 (c.tv t) op (aN c st x) (aN c st y) λs=>K s st
 | .unOp op _ x=>unK op (aN c st x) λs=>K s st
 | .convert y t x=>bif isLT c y then (match c.tv y,c.tv t with|some Y,some I=>Yi c st Y I (aN c st x) λs=>K s st|_,_=>none)
  else (match c.ti y,c.tv t with|some _,some I=>Yd I (c.fk t) (aN c st x) λs=>K s st|_,_=>none)
 | .range t x=>(match c.tv t with|some I=>R2 I (aN c st x) λs=>K s st|none=>none)
 | .next x true=>itK st (aN c st x) K
 | .makeFunc (.func f) first dh=>(match first.toList with
  |[]=>Hz c st dh.toList λms st=>K (.sc (.p (.func (c.key f) ms))) st
  |_=>none)
 | .slice t x lo hi none=>(match c.tv t with|some I=>RY c I st (aN c st x) (mT c st lo) (mT c st hi) K|none=>none)
 | .slice t x none (some h) (some m)=>(match c.tv t with|some I=>Ye I (aN c st x) (aN c st h) (aN c st m) λs=>K s st|none=>none)
 | .fieldAddr t x f=>(match c.tv t with|some I=>Yf st I f (aN c st x) λs=>K s st|none=>none)
 | .field t x f=>(match c.tv t with|some I=>agc c I f (aN c st x) λs=>K s st|none=>none)
 | .indexAddr t x i=>(match c.tv t with
  |some I=>(match c.tv I.elem with|some E=>agd c st I E (aN c st x) (aN c st i) λs=>K s st|none=>none)
  |none=>none)
 | .index t x i=>(match c.tv t with|some I=>ixK I (aN c st x) (aN c st i) λs=>K s st|none=>none)
 | .extract x k=>age (aN c st x) k λs=>K s st
 | .call cl=>(match cl.callee with
  | .value (.func f)=>(match c.sig (c.key f) with
   |some sg=>ae3 c (c.key f) sg.1 sg.2 st (kh c st cl.args.toList) (c.ti o.type) K
   |none=>match c.ti o.type with
   |some I=>Ul c (c.key f) st (kh c st cl.args.toList) λms st=>Yb c (o.dst.getD 0) st (c.key f) ms I K
   |none=>none)
  | .value x=>(match c.dyn with
   |_::_=>Yl c c.dyn st (aN c st x) (kh c st cl.args.toList) (c.ti o.type) K
   |[]=>match c.ti o.type with
   |some I=>Nf c st I (aN c st x) (kh c st cl.args.toList) K
   |none=>none)
  | .builtin .len=>(match cl.argTypes.toList with
   |[t]=>(match c.tv t with|some I=>Yg I st (kh c st cl.args.toList) λs=>K s st|none=>none)
   |_=>none)
  | .builtin .append=>(match kh c st cl.args.toList,cl.argTypes.toList with
   |[s,x],[t,t']=>(match c.tv t with
    |some I=>bif I.AV then (match c.tv I.elem with
     |some E=>bif cM t t' then Nd I E st x λys=>VG (bI c.bs (o.dst.getD 0)) (o.dst.getD 0) st I E s ys K else RW c t' E x λys=>VG (bI c.bs (o.dst.getD 0)) (o.dst.getD 0) st I E s ys K
     |none=>none) else none
    |none=>none)
   |_,_=>none)
  | .builtin .real=>(match kh c st cl.args.toList with|[.sc (.p m)]=>gCx m λx _=>K (.sc (.p (.raw (.float .f64 x)))) st|_=>none)
  | .builtin .imag=>(match kh c st cl.args.toList with|[.sc (.p m)]=>gCx m λ_ y=>K (.sc (.p (.raw (.float .f64 y)))) st|_=>none)
  | .builtin .complex=>(match kh c st cl.args.toList with|[.sc (.p (.raw (.float .f64 x))),.sc (.p (.raw (.float .f64 y)))]=>K (.sc (.p (.raw (.complex .f64 x y)))) st|_=>none)
  | .builtin .min=>(match RX false (kh c st cl.args.toList) with|some m=>K (.sc (.p m)) st|none=>none)
  | .builtin .max=>(match RX true (kh c st cl.args.toList) with|some m=>K (.sc (.p m)) st|none=>none)
  |_=>none)
 |_=>none
def R3 (all:List Oper)(o:Oper)(st:St)(K:Bool->St->Option R):Option R:=match o.guard with
 |none=>K true st
 |some (j,want)=>match all[j]? with
  |some p=>(match p.dst with
   |some t=>(match av st.fr t with
    | .sc (.p (.b v))=>(match v with
     |true=>(match st with|⟨p,q,r,m⟩=>KM r t (.sc (.p (.b true))) λr=>K want ⟨p,q,r,m⟩)
     |false=>(match st with|⟨p,q,r,m⟩=>KM r t (.sc (.p (.b false))) λr=>K (!want) ⟨p,q,r,m⟩))
    | .skip=>K false st
    |_=>none)
   |none=>none)
  |none=>none
def Un (c:Ctx)(all:List Oper)(o:Oper)(st:St)(K:St->Option R):Option R:=R3 all o st λgo st=>
  bif go then opK c o st λs st=>bu c st o.dst s K
  else bu c st o.dst .skip K
def Ce (c:Ctx)(all:List Oper):List Oper->St->(St->Option R)->Option R
 |[],st,K=>K st
 |o::r,st,K=>Un c all o st λst=>Ce c all r st K
end
section
variable {R:Type}
def mg (st:St):List (Nat×Nat)->List (Nat×OK)->(List MV->Option R)->Option R
 |_,[],K=>K []
 |ps,(t,k)::r,K=>match k,av st.fr t with
  | .sc k,.sc l=>lO st ps [k] [l] λms ps=>mg st ps r λns=>(match app ms ns with|some l=>K l|none=>none)
  | .ag ks,.ag ls=>lO st ps ks ls λms ps=>mg st ps r λns=>(match app ms ns with|some l=>K l|none=>none)
  | .box ks,.box ls=>lO st ps ks ls λms ps=>mg st ps r λns=>(match app ms ns with|some l=>K l|none=>none)
  | .mp s,.box [.mp s' es]=>bif msB s s' then mg st ps r λns=>K (.list es::ns) else none
  | .pt root off,.ptr Ym R4=>bif cM root Ym&&(cM off R4&&(!yD root&&EF (av st.fr root))) then mg st ps r K else none
  |_,_=>none
def Pq (st:St)(t:Nat)(s:Slot)(K:St->Option R):Option R:=match st with|⟨p,q,r,m⟩=>KM r t s λr=>K ⟨p,q,r,m⟩
def Yn:List (Nat×OK)->List MV->St->(St->Option R)->Option R
 |[],ms,st,K=>gN ms (K st)
 |(t,k)::r,ms,st,K=>match k,st with
  | .pt root off,⟨p,q,fr,m⟩=>bif !yD root&&(EF (av fr root)&&!dg (av fr t)) then KM fr t (.ptr root off) λfr=>Yn r ms ⟨p,q,fr,m⟩ K else none
  |_,_=>none
def nw (st:St):List (Nat×OK)->List MV->(St->Option R)->Option R
 |[],ms,K=>gN ms (K st)
 |(t,k)::r,ms,K=>match k with
  | .sc k=>cX st [k] ms λls ms st=>(match ls with|[l]=>Pq st t (.sc l) λst=>nw st r ms K|_=>none)
  | .ag ks=>cX st ks ms λls ms st=>Pq st t (.ag ls) λst=>nw st r ms K
  | .box ks=>bif yD t&&!bI st.cz (posOf t) then none else cX st ks ms λls ms st=>Pq st t (.box ls) λst=>nw st r ms K
  | .mp s=>bif yD t then none else gC ms λm ms=>gL m λes=>Pq st t (.box [.mp s es]) λst=>nw st r ms K
  | .pt root off=>Yn ((t,.pt root off)::r) ms st K
end
def dL:List (Nat×OK)->List Nat
 |[]=>[]
 |(t,_)::r=>t::dL r
def cm:List (Nat×OK)->List Nat
 |[]=>[]
 |(_,.sc k)::r=>cw [k]++cm r
 |(_,.ag ks)::r=>cw ks++cm r
 |(_,.box ks)::r=>cw ks++cm r
 |(_,.mp _)::r=>cm r
 |(_,.pt _ _)::r=>cm r
def minus:List Nat->List Nat->List Nat
 |[],_=>[]
 |k::r,l=>bif bI l k then minus r l else k::minus r l
def uX {R:Type}(ps:List Nat):List aD->(List aD->Option R)->Option R
 |[],K=>K []
 |l::r,K=>(match l with
  | .own g=>bif bI ps g then uX ps r λr=>K (.own g::r) else uX ps r λr=>K (.un::r)
  |l=>uX ps r λr=>K (l::r))
def LF {R:Type}(ps:List Nat)(s:Slot)(K:Slot->Option R):Option R:=match s with
 | .sc (.own g)=>bif bI ps g then K (.sc (.own g)) else K (.sc .un)
 | .ag cs=>uX ps cs λcs=>K (.ag cs)
 | .tg cs=>uX ps cs λcs=>K (.tg cs)
 | .box cs=>uX ps cs λcs=>K (.box cs)
 |s=>K s
def nFr {R:Type}(ps:List Nat):Fr->(Fr->Option R)->Option R
 |[],K=>K []
 |(k,s)::r,K=>LF ps s λs=>nFr ps r λr=>K ((k,s)::r)
def LG {R:Type}(ks fs qs:List Nat):List (Nat×oZ)->(List (Nat×oZ)->Option R)->Option R
 |[],K=>K []
 |(k,o)::r,K=>bif bI ks k then LG ks fs qs r λr=>(bif bI fs k&&!bI qs k then K ((k,⟨o.ty,true,o.xs⟩)::r) else K ((k,o)::r)) else LG ks fs qs r K
def fw (c:Ctx):List (Nat×OK)->Bool
 |[]=>true
 |(_,.sc k)::r=>bif kc c [k] then fw c r else false
 |(_,.ag ks)::r=>bif kc c ks then fw c r else false
 |(_,.box ks)::r=>bif kc c ks then fw c r else false
 |(_,.mp _)::r=>fw c r
 |(_,.pt _ _)::r=>fw c r
def R5 {R:Type}(c:Ctx)(h:pa)(st:St)(K:St->St->Option R):Option R:=match st with
 |⟨p,q,r,m⟩=>
  bif !fw c h.all||meets (dL h.all) p||meets (cm h.all) q||meets (dL h.all) h.cz||meets (cm h.all) h.cS then none else
  match app h.cz p,app h.cS q with
  |some p',some q'=>
   pick h.cz r λrp=>nFr h.cS rp λrp=>pick (dL h.all) r λro=>
   LG h.cS h.eV q m λmp=>LG (cm h.all) h.eV q m λmo=>
   (match app rp ro,app mp mo with
    |some r1,some m1=>K ⟨p',q',r1,m1⟩ ⟨p',q',rp,mp⟩
    |_,_=>none)
  |_,_=>none
def Cf {R:Type}(c:Ctx)(h:pa)(st:St)(K:St->St->Option R):Option R:=R5 c h st λdk dM=>Hx (λt=>bI h.cz t||bI (dL h.all) t) st.fr st.fr dk.fr λfr=>K ⟨dk.cz,dk.cS,fr,dk.bo⟩ dM
def vR (st dM:St):St:=match st,dM with|⟨p,q,_,_⟩,⟨_,_,r,m⟩=>⟨p,q,r,m⟩
def guarded:List Oper->Bool
 |[]=>false
 |o::r=>match o.guard with|some _=>true|none=>guarded r
def sQ:List Oper->List Nat
 |[]=>[]
 |o::r=>match o.op,o.dst with
  | .alloc _,some d=>d::sQ r
  | .box _ _,some d=>d::sQ r
  | .makeMap _ _,some d=>d::sQ r
  | .range _ _,some d=>d::sQ r
  |_,_=>sQ r
def EK {R:Type}(ds:List Nat)(st:St)(K:St->Option R):Option R:=match st with|⟨p,q,r,m⟩=>wA ds r λr1=>Hx (λt=>!bI ds t) r r r1 λr=>K ⟨p,q,r,m⟩
def gM:Code->Option Nat
 | .region id _ _=>some id
 | .seq a b=>match gM a with|some n=>some n|none=>gM b
 | .cond _ a b=>match gM a with|some n=>some n|none=>gM b
 | .block _ b| .loop b| .scope b=>gM b
 |_=>none
def uni:List Nat->List Nat->List Nat
 |[],l=>l
 |k::r,l=>bif bI l k then uni r l else k::uni r l
def lC:Code->List Nat
 | .skip| .region _ _ _=>[0]
 | .seq a b=>bif bI (lC a) 0 then uni (minus (lC a) [0]) (lC b) else lC a
 | .cond _ a b=>uni (lC a) (lC b)
 | .block id b=>bif bI (lC b) (id+2) then uni (minus (lC b) [0,id+2]) [0] else lC b
 | .loop b=>minus (lC b) [0]
 | .exit id=>[id+2]
 | .ret=>[1]
 |_=>[]
def mh (o:Oper):Bool:=match o.op with
 | .load _ _=>true
 | .lookup _ _ _ false=>true
 |_=>false
def lD (c:Ctx)(o:Oper):Bool:=mh o||(match o.op with
 | .convert y _ _=>isLT c y
 |_=>false)
def Cg (o:Oper):Option Nat:=match o.op with
 | .lookup t _ _ false=>some t
 |_=>none
def Yo (o:Oper):Option Nat:=match o.op with
 | .mapEntry t _ _=>some t
 |_=>none
def wC (o p:Oper):Bool:=match Cg o,Yo p with
 |some t,some t'=>cM t t'
 |_,_=>false
def jy (o:Oper):Bool:=match o.op with
 | .move _| .assign _| .nilCheck _| .pick _ _ _| .build _ _| .load _ _| .binOp _ _ _ _ _| .unOp _ _ _| .convert _ _ _| .makeFunc _ _ _| .slice _ _ _ _ _| .fieldAddr _ _ _| .field _ _ _| .indexAddr _ _ _| .index _ _ _| .extract _ _| .lookup _ _ _ false=>true
 | .call cl=>(match cl.callee with| .builtin .len| .builtin .min| .builtin .max| .builtin .real| .builtin .imag| .builtin .complex=>true|_=>false)
 |_=>false
def zt (c:Ctx)(o:Oper):Bool:=match o.op with
 | .alloc _| .box _ _| .buildSlice _ _ _| .makeSlice _ _ _=>true
 | .call cl=>(match cl.callee with| .value (.func f)=>!c.eN (c.key f)| .value _=>(match c.dyn with|[]=>true|_::_=>false)|_=>false)
 |_=>false
def R6:Op->List Operand
 | .build _ ps=>ps.toList.map (·.2)
 | .buildSlice _ _ ps=>ps.toList.map (·.2)
 | .makeFunc _ first captured=>first.toList++captured.toList
 | .slice _ x l h m=>x::(l.toList++(h.toList++m.toList))
 | .call c=>(match c.callee with| .value f=>[f]| .invoke r _=>[r]| .builtin _=>[])++c.args.toList
 |op=>op.operands.toList
def Ps:List Operand->List Nat
 |[]=>[]
 | .tmp t::r=>t::Ps r
 |_::r=>Ps r
def Ni (ops:List Oper)(o:Oper):List Nat:=Ps (R6 o.op)++(match o.guard with|some (g,_)=>(match ops[g]? with|some p=>p.dst.toList|none=>[])|none=>[])
def HE (ops:List Oper)(x y:Oper):Bool:=(match x.dst with|some d=>!bI (Ni ops y) d&&(match y.dst with|some d'=>!cM d' d|none=>true)|none=>true)&& (match y.dst with|some d=>!bI (Ni ops x) d|none=>true)
def Ch (e:Edge):Bool:=match e.ground with
 | .textOnly _=>false
 | .gcOnly _=>false
 |_=>true
def xv (o:Oper)(p:Nat->Bool):Bool:=o.after.toList.any λe=>Ch e&&p e.on
def ajJ (ops:List Oper):Bool:=ops.all λo=>match o.op with| .select _ _=>false|_=>true
def Pt (c:Ctx)(o:Oper):Bool:=jy o||zt c o
def ru (c:Ctx)(ops:List Oper)(o:Oper):List Nat->List Nat->Bool
 |_,[]=>true
 |D,y::r=>match ops[y]? with
  |some p=>bif xv p (bI D) then ru c ops o (y::D) r else HE ops o p&&(!lD c o||Pt c p||still c o||wC o p)&&ru c ops o D r
  |none=>false
def Db (o:Oper):Bool:=match o.op,o.dst,o.guard with
 | .alloc _,some _,none=>o.after.toList.all λe=>!Ch e
 |_,_,_=>false
def agf (c:Ctx)(o:Oper):Bool:=match o.op with
 | .alloc t=>(match c.tv t with|some _=>true|none=>false)
 |_=>false
def agh (ops:List Oper)(i:Nat):Bool:=match ops[i]? with
 |some o=>Db o
 |none=>false
def rv (c:Ctx)(ops:List Oper):List Nat->List Nat->Bool
 |_,[]=>true
 |pre,x::rest=>(match ops[x]? with
  |some o=>(o.after.toList.all λe=>!Ch e||bI pre e.on)&&!bI pre x&&!bI rest x&& (bif jy o&&!jm c o then ru c ops o [x] rest
    else (rest.all λy=>match ops[y]? with
     |some p=>bif Db p then HE ops p o&&agf c p else xv p (λi=>cM i x||(bI rest i&&!agh ops i))
     |none=>false))&&rv c ops (x::pre) rest
  |none=>false)
def tK (c:Ctx)(ops:Array Oper)(ord:List Nat):Bool:=ajJ ops.toList&&cM ord.length ops.toList.length&&(List.range ops.toList.length).all (bI ord)&&rv c ops.toList [] ord
def Hh {R:Type}(c:Ctx)(id:Nat)(ops l:List Oper)(st:St)(K:St->Option R):Option R:=bif guarded ops then
  Cf c (c.yS id) st λdk dM=>bd (EK (sQ ops) dk λdk=>Ce c ops l dk λst=>mg st [] ((c.yS id).ex 0) some) λvs=>nw (vR st dM) ((c.yS id).ex 0) vs K
 else EK (sQ ops) st λst=>Ce c ops l st K
def qT (ops:List Oper):List Nat->Option (List Oper)
 |[]=>some []
 |i::r=>match ops[i]?,qT ops r with
  |some o,some l=>some (o::l)
  |_,_=>none
def ajK {S:Type}(step:S->MV->Option (Bool×S)):S->List MV->Option (List MV×S)
 |s,[]=>some ([],s)
 |s,x::xs=>match step s x with
  |some (b,s1)=>(match ajK step s1 xs with|some (ys,s2)=>some (bif b then ys else x::ys,s2)|none=>none)
  |none=>none
def VJ:MV->Bool
 | .agg _=>true
 |_=>false
def Yp {R:Type}(c:Ctx)(id:Nat)(ops:List Oper)(st:St)(K:St->Option R):Option R:=Hh c id ops ops st K
def fzK {R:Type}(c:Ctx)(ts:List Nat)(st:St)(K:St->Option R):Option R:=match ts with
 |[]=>K st
 |ts=>Hz c st (ts.map .tmp) λ_ st=>K st
def KO (ops:Array Oper)(A B:Nat):Array Oper:=ops.modify B λo=>{o with after:=o.after.push ⟨A,.data⟩}
open Classical in
def both {R:Type}(x y:Option R):Option R:=if x=y then x else none
def Yq (n:Nat)(l:List Nat):Option (List Nat×List Nat×Nat×Nat):=match l.drop (l.length-3) with
 |[m,A,B]=>bif cM A B||(ab8 n A||ab8 n B) then none else some (l.take m,(l.drop m).take (l.length-3-m),A,B)
 |_=>none
def Yr {R:Type}(c:Ctx)(ops:Array Oper)(l:List Nat)(st:St)(K:St->Option R):Option R:=bif tK c ops l then (match qT ops.toList l with
 |some l=>Ce c ops.toList l st K
 |none=>none) else none
def HF {R:Type}(c:Ctx)(st:St)(K:St->Option R):Nat->Array Oper->List Nat->Option R
 |0,_,_=>none
 |k+1,ops,l=>bif cM l.length ops.toList.length then Yr c ops l st K else (match Yq ops.toList.length l with
  |some (o1,o2,A,B)=>both (HF c st K k (KO ops A B) o1) (HF c st K k (KO ops B A) o2)
  |none=>none)
def ajL {R:Type}(c:Ctx)(id:Nat)(ops:Array Oper)(ord:List Nat)(st:St)(K:St->Option R):Option R:=bif guarded ops.toList then
  Cf c (c.yS id) st λdk dM=>bd (EK (sQ ops.toList) dk λdk=>HF c dk (λst=>mg st [] ((c.yS id).ex 0) some) ord.length ops ord) λvs=>nw (vR st dM) ((c.yS id).ex 0) vs K
 else EK (sQ ops.toList) st λst=>HF c st K ord.length ops ord
def Uo {R:Type}(c:Ctx)(id:Nat)(ops:Array Oper)(draw:Bool)(st:St)(K:St->Option R):Option R:=fzK c (c.fz id) st λst=>bif draw then (bif !cM (c.ord id).length ops.toList.length then ajL c id ops (c.ord id) st K else bif tK c ops (c.ord id) then (match qT ops.toList (c.ord id) with|some l=>Hh c id ops.toList l st K|none=>none) else none)
 else Yp c id ops.toList st K
def kZ (c:Ctx):Code->(R:Type)->St->(Nat->St->Option R)->Option R
 | .skip,_,st,K=>K 0 st
 | .region id ops d,_,st,K=>Uo c id ops d st λst=>K 0 st
 | .seq a b,R,st,K=>kZ c a R st λe st=>bif cM e 0 then kZ c b R st K else K e st
 | .cond x a b,R,st,K=>(match aN c st x with
  | .sc (.p (.b v))=>
   bif bI (lC a) 0&&bI (lC b) 0 then
    Cf c (c.AS ((gM (.seq a b)).getD 0)) st λdk dM=>
    bd (bG v (kZ c a (Nat×List MV) dk λe st=>mg st [] ((c.AS ((gM (.seq a b)).getD 0)).ex e) λvs=>some (e,vs)) (kZ c b (Nat×List MV) dk λe st=>mg st [] ((c.AS ((gM (.seq a b)).getD 0)).ex e) λvs=>some (e,vs))) λr=>VD (uni (lC a) (lC b)) r.1 λe=>nw (vR st dM) ((c.AS ((gM (.seq a b)).getD 0)).ex e) r.2 λst=>K e st
   else bG v (kZ c a R st K) (kZ c b R st K)
  |_=>none)
 | .block id b,R,st,K=>kZ c b R st λe st=>bif cM e (id+2) then K 0 st else K e st
 | .loop b,_,st,K=>
  Cf c (c.wv ((gM b).getD 0)) st λdk dM=>mg dk [] (c.wv ((gM b).getD 0)).outs λvs=>
   bd (Loop (λms=>nw dM (c.wv ((gM b).getD 0)).outs ms λst=>kZ c b (Sum (List MV) (Nat×List MV)) st λe st=>
    bif cM e 0 then mg st [] (c.wv ((gM b).getD 0)).outs λvs=>some (.inl vs) else mg st [] ((c.wv ((gM b).getD 0)).ex e) λvs=>some (.inr (e,vs))) vs)
    λr=>VD (minus (lC b) [0]) r.1 λe=>nw (vR st dM) ((c.wv ((gM b).getD 0)).ex e) r.2 λst=>K e st
 | .exit id,_,st,K=>K (id+2) st
 | .ret,_,st,K=>K 1 st
 |_,_,_,_=>none
def HG {R:Type}(c:Ctx):List Nat->Nat->List MV->(Fr->List MV->Option R)->Option R
 |[],_,ms,K=>K [] ms
 |t::ts,n,ms,K=>match c.tv t with
  |some I=>gC ms λm r=>zo I m λs=>HG c ts (n+1) r λfr ms=>K ((n,s)::fr) ms
  |none=>none
def R7 {R:Type}:List (List Kd)->Nat->List MV->(Fr->Option R)->Option R
 |[],_,ms,K=>gN ms (K [])
 |ks::r,n,ms,K=>gC ms λm ms=>gP m λcs=>uV ks cs λcs=>R7 r (n+1) ms λfr=>K ((n,.zl cs)::fr)
def Pu {R:Type}(c:Ctx)(st:St):List ResultVar->(List MV->Option R)->Option R
 |[],K=>K []
 |r::rs,K=>
  let go (s:Slot):Option R:=match s with
   | .sc (.p m)=>Pu c st rs λms=>K (m::ms)
   |_=>none
  match r with
  | .tmp t=>go (av st.fr t)
  | .cell a t=>match c.tv t,av st.fr a with
   |some I,.box cs=>bif gn cs||yD a then none else kj I cs 0 λs=>go s
   |_,_=>none
def R8 {R:Type}(c:Ctx)(st:St)(fresh:Option Nat):List ResultVar->(List MV->Option R)->Option R
 |[],K=>K []
 |r::rs,K=>
  let go (s:Slot):Option R:=match fresh with
   |some ty=>(match s with
    | .sc (.own f)=>(match aQ st.bo f with|some o=>bif o.eV||!cM o.ty ty then none else Pu c st rs λms=>K (.fresh o.xs::ms)|none=>none)
    | .sc .nil=>Pu c st rs λms=>K (.fresh []::ms)
    |_=>none)
   |none=>nC st s λm st=>R8 c st fresh rs λms=>K (m::ms)
  match r with
  | .tmp t=>go (av st.fr t)
  | .cell a t=>match c.tv t,av st.fr a with
   |some I,.box cs=>bif gn cs||yD a then none else kj I cs 0 λs=>go s
   |_,_=>none
def VK {R:Type}(c:Ctx)(st:St):List ResultVar->(List MV->St->Option R)->Option R
 |[],K=>K [] st
 |r::rs,K=>(match r with
  | .tmp t=>nC st (av st.fr t) λm st=>VK c st rs λms st=>K (m::ms) st
  | .cell a t=>(match c.tv t,av st.fr a with
   |some I,.box cs=>bif gn cs||yD a then none else kj I cs 0 λs=>nC st s λm st=>VK c st rs λms st=>K (m::ms) st
   |_,_=>none))
def ajM:List MV->MV
 |[m]=>m
 |ms=> .dH ms
def zu (c:Ctx)(dh:List (List Kd))(pos:Nat)(ks:List LK)(f:Func)(args:List MV):Option MV:=match f.body,args[pos]? with
 |some b,some (.cell (.func off ls))=>bif !kc c ks||!ab8 pos 999 then none else
  HG c f.params.toList 0 (args.set pos (.rp [])) λfr ms=>R7 dh f.params.size ms λqu=>
   (match app fr qu with
   |some fr=>cX ⟨[],[],[],[]⟩ ks ls λcs rest HD=>gN rest<| kZ c b MV ⟨[pos],[],(1000000+off *1000+pos,.box cs)::fr,HD.bo⟩ λe st=>
     bif ab8 e 1 then VK c st f.results.toList λms st=>(match av st.fr (1000000+off *1000+pos) with
      | .box cs=>bif gn cs then none else lO st [] ks cs λouts _=>some (.dX (ajM ms) outs)
      |_=>none) else none
   |none=>none)
 |_,_=>none
def Up (X:Code->St->(Nat->St->Option MV)->Option MV)(c:Ctx)(dh:List (List Kd))(fresh:Option Nat)(f:Func)(args:List MV):Option MV:=match f.body with
 |some b=>HG c f.params.toList 0 args λfr ms=>R7 dh f.params.size ms λqu=>
  match app fr qu with
  |some fr=>X b ⟨[],[],fr,[]⟩ λe st=>bif ab8 e 1 then R8 c st fresh f.results.toList λms=>(match ms with|[m]=>some m|ms=>some (.dH ms)) else none
  |none=>none
 |none=>none
def LH (c:Ctx)(dh:List (List Kd))(fresh:Option Nat)(f:Func)(args:List MV):Option MV:=Up (λb st K=>kZ c b MV st K) c dh fresh f args
end
end Dn
/-
  What abstract values and slots say of Go's memory. Conditions: none.
-/
namespace Dn
open Go
theorem gG (w:World)(o:Obj):(w.alloc o).heap[w.heap.size]? =some o:=by show (w.heap.push o)[w.heap.size]? =some o;simp
theorem qU (w:World)(o:Obj)(i:Nat)(h:i<w.heap.size):(w.alloc o).heap[i]? =w.heap[i]? :=by show (w.heap.push o)[i]? =w.heap[i]?;rw [Array.getElem?_push,if_neg (Nat.ne_of_lt h)]
def MV.one:MV->Bool
 | .h _| .agg _| .dH _| .fresh _| .cell _| .dX _ _=>false
 |_=>true
abbrev Ph:=Nat->Nat->Option Value
section
variable (key:Nat->Nat) (φ:Ph)
mutual
inductive jo:List Value->MV->Prop
 |b (x:Bool):jo [.bool x] (.b x)
 |i (k:IntKind) (n:Int):jo [.int k n] (.i k n)
 |s (bs:ByteArray):jo [.string bs] (.s bs.data.toList)
 |h (x:kY):jo (x.l.map λb=> .int .u8 (b.toNat:Int)) (.h x)
 |raw (v:Value):v.oneCell'=true->jo [v] (.raw v)
 |list (a:Option Addr) (cap:Nat) (xs:List MV) (bq off C0:Nat) (f:Nat->List Value): xs.length<=cap->(0<xs.length->a=some ⟨bq,off,none⟩)->(∀i,i<xs.length->(f i).length=C0)-> (∀i j,i<xs.length->j<C0->φ bq (off+i *C0+j)=(f i)[j]?)-> (∀(i:Nat) (h:i<xs.length),jo (f i) xs[i])->jo [.slice a xs.length cap] (.list xs)
 |agg (vs:List Value) (ms:List MV):iO vs ms->jo vs (.agg ms)
 |func (f k:Nat) (cap:Array Value) (ms:List MV):key f=k->iO cap.toList ms->(∀m∈ms,m.one=true)->jo [.func (.func f) #[] cap] (.func k ms)
 |rp (bq off:Nat) (vs:List Value) (ms:List MV):iO vs ms->(∀j,j<vs.length->φ bq (off+j)=vs[j]?)->jo [.pointer (some ⟨bq,off,none⟩)] (.rp ms)
 |clip (a:Option Addr) (xs:List MV):jo [.slice a xs.length xs.length] (.list xs)->jo [.slice a xs.length xs.length] (.clip xs)
inductive iO:List Value->List MV->Prop
 |nil:iO [] []
 |cons (v:List Value) (m:MV) (vs:List Value) (ms:List MV):jo v m->iO vs ms->iO (v++vs) (m::ms)
end
end
def lE (φ φ':Ph):Prop:= ∀b o v,φ b o=some v->φ' b o=some v
theorem lE.refl (φ:Ph):lE φ φ:=λ_ _ _ h=>h
theorem lE.AW {φ φ':Ph}(h:lE φ φ'){b j:Nat}{cs:List Value}(e:φ b j=cs[j]?)(hj:j<cs.length):φ' b j=cs[j]? :=by rw [OF hj] at e⊢;exact h _ _ _ e
theorem lE.trans {φ φ' φ'':Ph}(h:lE φ φ') (h':lE φ' φ''):lE φ φ'':=λb o v e=>h' b o v (h b o v e)
section
variable {key:Nat->Nat} {φ φ':Ph}(hle:lE φ φ')
include hle
theorem Nj {b o:Nat}{vs:List Value}{j:Nat}(hj:j<vs.length)(h:φ b o=vs[j]?):φ' b o=vs[j]? :=by rw [OF hj] at h⊢;exact hle _ _ _ h
mutual
theorem jo.mono {vs:List Value}{m:MV}:jo key φ vs m->jo key φ' vs m
 | .b x=> .b x
 | .i k n=> .i k n
 | .s bs=> .s bs
 | .h x=> .h x
 | .raw v h=> .raw v h
 | .list a cap xs bq off C0 f h1 h2 h3 h4 h5=> .list a cap xs bq off C0 f h1 h2 h3 (λi j hi hj=>Nj hle (by rw [h3 i hi];exact hj) (h4 i j hi hj)) (λi hi=>(h5 i hi).mono)
 | .agg vs ms h=> .agg vs ms h.mono
 | .func f k cap ms h1 h2 h3=> .func f k cap ms h1 h2.mono h3
 | .rp bq off vs ms h1 h2=> .rp bq off vs ms h1.mono (λj hj=>Nj hle hj (h2 j hj))
 | .clip a xs h=> .clip a xs h.mono
theorem iO.mono {vs:List Value}{ms:List MV}:iO key φ vs ms->iO key φ' vs ms
 | .nil=> .nil
 | .cons v m vs ms h1 h2=> .cons v m vs ms h1.mono h2.mono
end
end
section
variable {key:Nat->Nat} {φ:Ph}
mutual
theorem jo.cells {vs:List Value}{m:MV}:jo key φ vs m-> ∀v∈vs,v.oneCell'=true
 | .b x=>by simp [aaT]
 | .i k n=>by simp [aaT]
 | .s bs=>by simp [aaT]
 | .h x=>by intro v hv;obtain ⟨b,_,rfl⟩:=adn.1 hv;rfl
 | .raw v h=>by simpa using h
 | .list .. =>by simp [aaT]
 | .agg vs ms h=>h.cells
 | .func .. =>by simp [aaT]
 | .rp .. =>by simp [aaT]
 | .clip .. =>by simp [aaT]
theorem iO.cells {vs:List Value}{ms:List MV}:iO key φ vs ms-> ∀v∈vs,v.oneCell'=true
 | .nil=>by simp
 | .cons v m vs ms h1 h2=>by
  intro x hx;rcases aef.1 hx with hx|hx
  ·exact h1.cells x hx
  ·exact h2.cells x hx
end
end
section
variable {key:Nat->Nat} {φ:Ph}
mutual
theorem jo.width {vs:List Value}{m:MV}:jo key φ vs m->vs.length=m.w
 | .b x=>by simp [MV.w]
 | .i k n=>by simp [MV.w]
 | .s bs=>by simp [MV.w]
 | .h x=>by simp [MV.w,x.h]
 | .raw v h=>by simp [MV.w]
 | .list .. =>by simp [MV.w]
 | .agg vs ms h=>by rw [h.width];simp [MV.w]
 | .func .. =>by simp [MV.w]
 | .rp .. =>by simp [MV.w]
 | .clip .. =>by simp [MV.w]
theorem iO.width {vs:List Value}{ms:List MV}:iO key φ vs ms->vs.length=MV.wl ms
 | .nil=>by simp [MV.wl]
 | .cons v m vs ms h1 h2=>by simp [MV.wl,h1.width,h2.width]
end
end
theorem jo.one {key:Nat->Nat} {φ:Ph}{vs:List Value}{m:MV}(h:jo key φ vs m)(hm:m.one=true): ∃v,vs=[v]/\v.oneCell'=true:=by have hc:=h.cells;cases h<;>simp [MV.one] at hm<;>exact ⟨_,rfl,hc _ (by simp)⟩
def fS (key:Nat->Nat) (φ:Ph)(v:Value):MV->Prop
 | .h x=>v= .agg (x.l.map λb=>afl .u8 (b.toNat:Int)).toArray
 | .agg ms=> ∃arr,v= .agg arr/\iO key φ arr.toList ms
 |m=>m.one=true/\jo key φ [v] m
theorem fS.mono {key:Nat->Nat} {φ φ':Ph}(hle:lE φ φ'){v:Value}{m:MV}(h:fS key φ v m):fS key φ' v m:=by cases m<;>simp only [fS] at h⊢ <;>first|exact h|exact ⟨h.1,h.2.mono hle⟩|(obtain ⟨arr,h1,h2⟩:=h;exact ⟨arr,h1,h2.mono hle⟩)
structure Env where
 key:Nat->Nat
 φ:Ph
 E:Nat->Value
 B:Nat->Nat
 m:List (Nat×oZ)
def bC (x:kY):List Value:=x.l.map λb=>afl .u8 (b.toNat:Int)
theorem dm (x:kY):(bC x).length=32:=by simp [bC,x.h]
def aU (e:Env)(vs:List Value):aD->Prop
 | .un=> ∃v,vs=[v]/\v.oneCell'=true
 | .p x=>x.one=true/\jo e.key e.φ vs x
 | .hs x=>vs=bC x
 | .nil=>vs=[.slice none 0 0]
 | .mp _ _=>False
 | .own f=> ∃v,vs=[v]/\v.oneCell'=true/\(∀o,aQ e.m f=some o->v=e.E f)
def ay (e:Env):List Value->List aD->Prop
 |vs,[]=>vs=[]
 |vs,l::ls=> ∃v r,vs=v++r/\aU e v l/\ay e r ls
def tL:aD->Bool
 | .p _| .hs _=>true
 |_=>false
def jc:List aD->Bool
 |[]=>true
 |l::r=>tL l&&jc r
def HH (st:Bool)(x:MV)(cs:List aD):Prop:=(∃ms,bR cs=some ms/\vP st ms=some x)/\ ∀m,aD.p m∈cs->m.one=true
def BL:Slot->Bool
 | .sc l=>tL l
 | .ag cs=>jc cs
 |_=>false
mutual
def af (e:Env)(v:Value):Slot->Prop
 | .skip=>v=undef
 | .sc l=>match l with
  | .un=>True
  | .hs x=>v= .agg (bC x).toArray
  |l=>aU e [v] l
 | .ag cs=> ∃arr,v= .agg arr/\ay e arr.toList cs
 | .tg cs=> ∃arr,v= .tuple arr/\ay e arr.toList cs
 | .dH vs=> ∃arr,v= .tuple arr/\lc e arr.toList vs
 | .box _=>False
 | .zl cs=> ∃bq o vs,v= .pointer (some ⟨bq,o,none⟩)/\ay e vs cs/\jc cs=true/\(∀j,j<vs.length->e.φ bq (o+j)=vs[j]?)
 | .ptr r o=>v= .pointer (some ⟨e.B r,o,none⟩)
 | .zm r=>v= .map (some (e.B r))
 | .rp cs off=> ∃bq o vs,v= .pointer (some ⟨bq,o+off,none⟩)/\ay e vs cs/\jc cs=true/\(∀j,j<vs.length->e.φ bq (o+j)=vs[j]?)
 | .hp r o i=>v= .pointer (some ⟨e.B r,o+i,none⟩)/\i<32
 | .ep f i off st cs=> ∀o,aQ e.m f=some o-> ∃bq cap,e.E f= .slice (some ⟨bq,0,none⟩) o.xs.length cap/\(∃x,o.xs[i]? =some x/\HH st x cs)/\ v= .pointer (some ⟨bq,i *zn cs+off,none⟩)
def lc (e:Env):List Value->List Slot->Prop
 |vs,[]=>vs=[]
 |vs,s::ss=> ∃v r,vs=v::r/\af e v s/\BL s=true/\lc e r ss
end
def Ys:aD->List Value->Bool
 | .p (.b x),[.bool y]=>x==y
 | .p (.i k n),[.int k' n']=>decide (k=k')&&decide (n=n')
 | .p (.s l),[.string s]=>decide (l=s.data.toList)
 | .p (.raw v),[w]=>match v,w with
  | .nilFunc,.nilFunc=>true
  | .nilIface,.nilIface=>true
  | .pointer none,.pointer none=>true
  |_,_=>false
 | .nil,[.slice none 0 0]=>true
 | .un,[v]=>v.oneCell'
 | .hs x,vs=>(vs.length==32)&&(vs.zip x.l).all λp=>match p.1 with| .int .u8 n=>decide (n=(p.2.toNat:Int))|_=>false
 |_,_=>false
def uY:List aD->List Value->Bool
 |[],vs=>vs.isEmpty
 |l::ls,vs=>Ys l (vs.take l.w)&&uY ls (vs.drop l.w)&&decide (l.w<=vs.length)
end Dn
/-
  How an abstract state stands to a frame and a memory; laws of frames and leaves. Conditions: none.
-/
namespace Dn
open Go
def dc:Fr->Nat->Slot->Fr
 |[],t,v=>[(t,v)]
 |(k,s)::r,t,v=>bif cM k t then (k,v)::r else (k,s)::dc r t v
def oP (ds:List Nat):Fr->Fr
 |[]=>[]
 |(k,s)::r=>bif dI s||bI ds k then oP ds r else (k,s)::oP ds r
def pc (ks:List Nat):Fr->Fr
 |[]=>[]
 |(k,s)::r=>bif bI ks k&&!dI s then (k,s)::pc ks r else pc ks r
def b7:List (Nat×oZ)->Nat->oZ->List (Nat×oZ)
 |[],t,v=>[(t,v)]
 |(k,s)::r,t,v=>bif cM k t then (k,v)::r else (k,s)::b7 r t v
def Nk (f:Nat):aD->aD
 | .own g=>bif cM g f then .un else .own g
 |l=>l
def AX (f:Nat):Slot->Slot
 | .sc l=> .sc (Nk f l)
 | .ag cs=> .ag (cs.map (Nk f))
 | .tg cs=> .tg (cs.map (Nk f))
 | .box cs=> .box (cs.map (Nk f))
 | .ep g i o b cs=>bif cM g f then .sc .un else .ep g i o b cs
 |s=>s
def lU (f:Nat)(r:Fr):Fr:=r.map λp=>(p.1,AX f p.2)
def zw (f:Nat)(r:Fr):Fr:=r.map λp=>(p.1,match p.2 with
 | .ep g i o b cs=>bif cM g f then .sc .un else .ep g i o b cs
 |s=>s)
def RO (ps:List Nat):aD->aD
 | .own g=>bif bI ps g then .own g else .un
 |l=>l
def Hi (ps:List Nat):Slot->Slot
 | .sc l=> .sc (RO ps l)
 | .ag cs=> .ag (cs.map (RO ps))
 | .tg cs=> .tg (cs.map (RO ps))
 | .box cs=> .box (cs.map (RO ps))
 |s=>s
def R9 (ps:List Nat)(r:Fr):Fr:=r.map λp=>(p.1,Hi ps p.2)
def tO (ks fs qs:List Nat):List (Nat×oZ)->List (Nat×oZ)
 |[]=>[]
 |(k,o)::r=>bif bI ks k then (bif bI fs k&&!bI qs k then (k,⟨o.ty,true,o.xs⟩) else (k,o))::tO ks fs qs r else tO ks fs qs r
section
variable {R:Type}
theorem force_eq (s:Slot)(K:Slot->Option R):force s K=K s:=by cases s<;>rfl
theorem n8 (r:Fr)(t:Nat)(s:Slot)(K:Fr->Option R):KM r t s K=K (dc r t s):=by
 induction r generalizing K with
 |nil=>rfl
 |cons p r ih=>obtain ⟨k,x⟩:=p;simp only [KM,dc];cases cM k t<;>simp [ih]
theorem FI (ds:List Nat)(r:Fr)(K:Fr->Option R):wA ds r K=K (oP ds r):=by
 induction r generalizing K with
 |nil=>rfl
 |cons p r ih=>obtain ⟨k,x⟩:=p;simp only [wA,oP];cases dI x||bI ds k<;>simp [ih]
theorem acB (ks:List Nat)(r:Fr)(K:Fr->Option R):pick ks r K=K (pc ks r):=by
 induction r generalizing K with
 |nil=>rfl
 |cons p r ih=>obtain ⟨k,x⟩:=p;simp only [pick,pc];cases bI ks k&&!dI x<;>simp [ih]
theorem pe (r:List (Nat×oZ))(t:Nat)(s:oZ)(K:List (Nat×oZ)->Option R):Pg r t s K=K (b7 r t s):=by
 induction r generalizing K with
 |nil=>rfl
 |cons p r ih=>obtain ⟨k,x⟩:=p;simp only [Pg,b7];cases cM k t<;>simp [ih]
theorem Ci (f:Nat)(cs:List aD)(K:List aD->Option R):uW f cs K=K (cs.map (Nk f)):=by
 induction cs generalizing K with
 |nil=>rfl
 |cons l r ih=>cases l<;>simp only [uW,aaf,Nk,ih];rename_i g;cases cM g f<;>rfl
theorem Yt (f:Nat)(s:Slot)(K:Slot->Option R):Hw f s K=K (AX f s):=by
 cases s with
 |sc l=>cases l<;>simp only [Hw,AX,Nk];rename_i g;cases cM g f<;>rfl
 |ag cs=>simp only [Hw,AX,Ci]
 |tg cs=>simp only [Hw,AX,Ci]
 |box cs=>simp only [Hw,AX,Ci]
 |ep g i o b cs=>simp only [Hw,AX];cases cM g f<;>rfl
 |_=>rfl
theorem Yu (f:Nat)(r:Fr)(K:Fr->Option R):kFr f r K=K (lU f r):=by
 induction r generalizing K with
 |nil=>rfl
 |cons p r ih=>obtain ⟨k,x⟩:=p;simp only [kFr,Yt,ih,lU,aaf]
theorem agi (f:Nat)(r:Fr)(K:Fr->Option R):kEp f r K=K (zw f r):=by
 induction r generalizing K with
 |nil=>rfl
 |cons p r ih=>obtain ⟨k,x⟩:=p;cases x<;>simp only [kEp,ih,zw,aaf];rename_i g i o b cs;cases cM g f<;>rfl
theorem Cj (f:List Nat)(cs:List aD)(K:List aD->Option R):uX f cs K=K (cs.map (RO f)):=by
 induction cs generalizing K with
 |nil=>rfl
 |cons l r ih=>cases l<;>simp only [uX,aaf,RO,ih];rename_i g;cases bI f g<;>rfl
theorem Yv (f:List Nat)(s:Slot)(K:Slot->Option R):LF f s K=K (Hi f s):=by
 cases s with
 |sc l=>cases l<;>simp only [LF,Hi,RO];rename_i g;cases bI f g<;>rfl
 |ag cs=>simp only [LF,Hi,Cj]
 |tg cs=>simp only [LF,Hi,Cj]
 |box cs=>simp only [LF,Hi,Cj]
 |_=>rfl
theorem agj (f:List Nat)(r:Fr)(K:Fr->Option R):nFr f r K=K (R9 f r):=by
 induction r generalizing K with
 |nil=>rfl
 |cons p r ih=>obtain ⟨k,x⟩:=p;simp only [nFr,Yv,ih,R9,aaf]
theorem Yw (ks fs qs:List Nat)(r:List (Nat×oZ))(K:List (Nat×oZ)->Option R):LG ks fs qs r K=K (tO ks fs qs r):=by
 induction r generalizing K with
 |nil=>rfl
 |cons p r ih=>
  obtain ⟨k,x⟩:=p;simp only [LG,tO];cases bI ks k
  ·simp [ih]
  ·simp only [cond_true,ih];cases bI fs k&&!bI qs k<;>rfl
theorem zx {α:Type}(x y:List α):app x y=some (x++y):=by
 induction x with
 |nil=>rfl
 |cons a r ih=>simp [app,ih]
end
theorem eD (a b:Nat):cM a b=decide (a=b):=by
 by_cases h:a=b
 ·subst h;simp
 ·simp only [h,decide_false];exact Bool.eq_false_iff.2 (λe=>h (sh e))
theorem bH (l:List Nat)(t:Nat):bI l t=true↔t∈l:=by
 induction l with
 |nil=>simp [bI]
 |cons k r ih=>
  simp only [bI,eD,acd];by_cases h:k=t
  ·simp [h]
  ·simp only [h,decide_false,cond_false,ih];exact ⟨.inr,λh'=>h'.resolve_left (λe=>h e.symm)⟩
theorem bZ (r:Fr)(d t:Nat)(s:Slot):av (dc r d s) t=if t=d then s else av r t:=by
 induction r with
 |nil=>simp only [dc,av,eD];by_cases h:t=d<;>simp [h,Ne.symm]<;>(intro e;exact absurd e.symm h)
 |cons p r ih=>
  obtain ⟨k,x⟩:=p;simp only [dc,eD];by_cases hk:k=d
  ·subst hk;simp only [decide_true,cond_true,av,eD];by_cases h:k=t
   ·simp [h]
   ·have h': ¬t=k:=λe=>h e.symm;simp [h,h']
  ·simp only [hk,decide_false,cond_false,av,eD,ih];by_cases h:k=t
   ·subst h;simp [hk]
   ·simp [h]
theorem bw (r:List (Nat×oZ))(d t:Nat)(s:oZ):aQ (b7 r d s) t=if t=d then some s else aQ r t:=by
 induction r with
 |nil=>simp only [b7,aQ,eD];by_cases h:t=d<;>simp [h,Ne.symm]<;>(intro e;exact absurd e.symm h)
 |cons p r ih=>
  obtain ⟨k,x⟩:=p;simp only [b7,eD];by_cases hk:k=d
  ·subst hk;simp only [decide_true,cond_true,aQ,eD];by_cases h:k=t
   ·simp [h]
   ·have h': ¬t=k:=λe=>h e.symm;simp [h,h']
  ·simp only [hk,decide_false,cond_false,aQ,eD,ih];by_cases h:k=t
   ·subst h;simp [hk]
   ·simp [h]
theorem HI (g:Slot->Slot)(hg:g (.sc .un)= .sc .un)(r:Fr)(t:Nat):av (r.map λp=>(p.1,g p.2)) t=g (av r t):=by
 induction r with
 |nil=>simp [av,hg]
 |cons p r ih=>obtain ⟨k,x⟩:=p;simp only [aaf,av,eD];by_cases h:k=t<;>simp [h,ih]
theorem iP (f:Nat)(r:Fr)(t:Nat):av (lU f r) t=AX f (av r t):=HI (AX f) rfl r t
theorem LI (f:List Nat)(r:Fr)(t:Nat):av (R9 f r) t=Hi f (av r t):=HI (Hi f) rfl r t
def aX (r:Fr):List Nat:=r.map Prod.fst
theorem tk (r:Fr)(t:Nat)(h:t∉aX r):av r t= .sc .un:=by
 induction r with
 |nil=>rfl
 |cons p r ih=>obtain ⟨k,x⟩:=p;simp only [aX,aaf,acd,not_or] at h;have h': ¬k=t:=λe=>h.1 e.symm;simp only [av,eD,h',decide_false,cond_false];exact ih h.2
theorem Dc (ds:List Nat)(r:Fr):List.Sublist (aX (oP ds r)) (aX r):=by
 induction r with
 |nil=>simp [aX,oP]
 |cons p r ih=>
  obtain ⟨k,x⟩:=p;simp only [oP];cases dI x||bI ds k
  ·simpa [aX] using ih
  ·exact (List.Sublist.cons _ ih)
theorem xw (ds:List Nat)(r:Fr):List.Sublist (aX (pc ds r)) (aX r):=by
 induction r with
 |nil=>simp [aX,pc]
 |cons p r ih=>
  obtain ⟨k,x⟩:=p;simp only [pc];cases bI ds k&&!dI x
  ·exact (List.Sublist.cons _ ih)
  ·simpa [aX] using ih
theorem HJ (ds:List Nat)(r:Fr)(hn:(aX r).Nodup)(t:Nat):av (oP ds r) t=if dI (av r t)||bI ds t then .sc .un else av r t:=by
 induction r with
 |nil=>simp [av,oP]
 |cons p r ih=>
  obtain ⟨k,x⟩:=p;simp only [aX,aaf,afv] at hn;have ih:=ih hn.2;simp only [oP];by_cases hk:k=t
  ·subst hk;cases hb:dI x||bI ds k
   ·simp [av,eD,hb]
   ·simp only [cond_true,av,eD,decide_true,hb,if_true];refine tk _ _ (λhm=>hn.1 ((Dc ds r).subset hm))
  ·cases hb:dI x||bI ds k
   ·simp [av,eD,hk,ih]
   ·simp [av,eD,hk,ih]
theorem Ck (ds:List Nat)(r:Fr)(hn:(aX r).Nodup)(t:Nat):av (pc ds r) t=if bI ds t&&!dI (av r t) then av r t else .sc .un:=by
 induction r with
 |nil=>simp [av,pc]
 |cons p r ih=>
  obtain ⟨k,x⟩:=p;simp only [aX,aaf,afv] at hn;have ih:=ih hn.2;simp only [pc];by_cases hk:k=t
  ·subst hk;cases hb:bI ds k&&!dI x
   ·simp only [cond_false,av,eD,decide_true,cond_true,hb];exact tk _ _ (λhm=>hn.1 ((xw ds r).subset hm))
   ·simp [av,eD,hb]
  ·cases hb:bI ds k&&!dI x<;>simp [av,eD,hk,ih]
theorem zy (r s:Fr)(t:Nat):av (r++s) t=if t∈aX r then av r t else av s t:=by
 induction r with
 |nil=>simp [aX]
 |cons p r ih=>
  obtain ⟨k,x⟩:=p;simp only [List.cons_append,av,eD,aX,aaf,acd];by_cases h:k=t
  ·simp [h]
  ·have h': ¬t=k:=λe=>h e.symm;simp only [h,h',decide_false,cond_false,ih,false_or];rfl
end Dn
/-
  Laws of leaves and slots: offsets, and what changes elsewhere. Conditions: none.
-/
namespace Dn
open Go
section
variable {e e':Env}
theorem aU.width {vs:List Value}{l:aD}(h:aU e vs l):vs.length=l.w:=by
 cases l with
 |un=>obtain ⟨v,rfl,_⟩:=h;rfl
 |p m=>obtain ⟨v,rfl,_⟩:=h.2.one h.1;rfl
 |hs x=>cases h;simp [bC,x.h,aD.w]
 |nil=>cases h;rfl
 |mp s es=>exact h.elim
 |own f=>obtain ⟨v,rfl,_⟩:=h;rfl
theorem aU.cells {vs:List Value}{l:aD}(h:aU e vs l): ∀v∈vs,v.oneCell'=true:=by
 cases l with
 |un=>obtain ⟨v,rfl,hv⟩:=h;simpa using hv
 |p m=>exact h.2.cells
 |hs x=>cases h;intro v hv;obtain ⟨b,_,rfl⟩:=adn.1 hv;rfl
 |nil=>cases h;simp [aaT]
 |mp s es=>exact h.elim
 |own f=>obtain ⟨v,rfl,hv,_⟩:=h;simpa using hv
theorem ay.width {cs:List aD}: ∀{vs:List Value},ay e vs cs->vs.length=zn cs:=by
 induction cs with
 |nil=>intro vs h;cases h;rfl
 |cons l r ih=>intro vs h;obtain ⟨v,w,rfl,h1,h2⟩:=h;simp [zn,h1.width,ih h2]
theorem ay.cells {cs:List aD}: ∀{vs:List Value},ay e vs cs-> ∀v∈vs,v.oneCell'=true:=by
 induction cs with
 |nil=>intro vs h;cases h;simp
 |cons l r ih=>
  intro vs h v hv;obtain ⟨a,w,rfl,h1,h2⟩:=h;rcases aef.1 hv with hv|hv
  ·exact h1.cells v hv
  ·exact ih h2 v hv
theorem ay.append {cs ds:List aD}: ∀{vs ws:List Value},ay e vs cs->ay e ws ds->ay e (vs++ws) (cs++ds):=by
 induction cs with
 |nil=>intro vs ws h h';cases h;simpa using h'
 |cons l r ih=>intro vs ws h h';obtain ⟨v,w,rfl,h1,h2⟩:=h;exact ⟨v,w++ws,by simp,h1,ih h2 h'⟩
theorem zC {cs:List aD}: ∀{off:Nat} {ds:List aD} {vs:List Value},cut cs off=some ds->ay e vs cs-> ∃v1 v2,vs=v1++v2/\v1.length=off/\ay e v2 ds:=by
 induction cs with
 |nil=>
  intro off ds vs h hr;cases off with
  |zero=>simp only [cut,BY] at h;subst h;exact ⟨[],vs,rfl,rfl,hr⟩
  |succ n=>simp [cut] at h
 |cons l r ih=>
  intro off ds vs h hr;cases off with
  |zero=>simp only [cut,BY] at h;subst h;exact ⟨[],vs,rfl,rfl,hr⟩
  |succ n=>
   simp only [cut] at h;cases hb:ab8 l.w (n+1) with
   |false=>simp [hb] at h
   |true=>simp only [hb,cond_true] at h;have hle:=ack hb;obtain ⟨v,w,rfl,h1,h2⟩:=hr;obtain ⟨v1,v2,rfl,hl,h3⟩:=ih h h2;exact ⟨v++v1,v2,by simp,by simp [h1.width,hl];omega,h3⟩
theorem VL {cs:List aD}: ∀{n:Nat} {ds:List aD} {vs:List Value},Pj cs n=some ds->ay e vs cs-> ∃v1 v2,vs=v1++v2/\v1.length=n/\ay e v1 ds:=by
 induction cs with
 |nil=>
  intro n ds vs h hr;cases n with
  |zero=>simp only [Pj,BY] at h;subst h;exact ⟨[],vs,rfl,rfl,rfl⟩
  |succ n=>simp [Pj] at h
 |cons l r ih=>
  intro n ds vs h hr;cases n with
  |zero=>simp only [Pj,BY] at h;subst h;exact ⟨[],vs,rfl,rfl,rfl⟩
  |succ n=>
   simp only [Pj] at h;cases hb:ab8 l.w (n+1) with
   |false=>simp [hb] at h
   |true=>
    simp only [hb,cond_true] at h;have hle:=ack hb;obtain ⟨v,w,rfl,h1,h2⟩:=hr;cases hu:Pj r (n+1-l.w) with
    |none=>simp [hu] at h
    |some b=>simp only [hu,BY] at h;subst h;obtain ⟨v1,v2,rfl,hl,h3⟩:=ih hu h2;exact ⟨v++v1,v2,by simp,by simp [h1.width,hl];omega,v,v1,rfl,h1,h3⟩
theorem LJ {cs:List aD}{off n:Nat}{ds:List aD}{vs:List Value}(h:part cs off n=some ds)(hr:ay e vs cs): ∃v1 v2 v3,vs=v1++v2++v3/\v1.length=off/\v2.length=n/\ay e v2 ds:=by
 unfold part at h;cases hc:cut cs off with
 |none=>simp [hc] at h
 |some a=>simp only [hc] at h;obtain ⟨v1,v2,rfl,h1,h2⟩:=zC hc hr;obtain ⟨v3,v4,rfl,h3,h4⟩:=VL h h2;exact ⟨v1,v3,v4,by simp,h1,h3,h4⟩
theorem LL {ls:List aD}: ∀{cs ds:List aD} {vs ws:List Value},over ls cs=some ds->ay e vs cs->ay e ws ls-> ∃v1 v2,vs=v1++v2/\v1.length=ws.length/\ay e (ws++v2) ds:=by
 induction ls with
 |nil=>intro cs ds vs ws h hr hw;simp only [over,BY] at h;subst h;cases hw;exact ⟨[],vs,rfl,rfl,hr⟩
 |cons l r ih=>
  intro cs ds vs ws h hr hw;cases cs with
  |nil=>simp [over] at h
  |cons c cs=>
   simp only [over] at h;cases hb:cM l.w c.w with
   |false=>simp [hb] at h
   |true=>
    simp only [hb,cond_true] at h;have hww:=sh hb;cases ho:over r cs with
    |none=>simp [ho] at h
    |some q=>simp only [ho,BY] at h;subst h;obtain ⟨v,w,rfl,h1,h2⟩:=hr;obtain ⟨a,b,rfl,h3,h4⟩:=hw;obtain ⟨v1,v2,rfl,hl,h5⟩:=ih ho h2 h4;exact ⟨v++v1,v2,by simp,by simp [h1.width,h3.width,hl,hww],a,b++v2,by simp,h3,h5⟩
theorem xx {cs:List aD}: ∀{off:Nat} {ls ds:List aD} {vs ws:List Value},putAt cs off ls=some ds->ay e vs cs->ay e ws ls-> ∃v1 v2 v3,vs=v1++v2++v3/\v1.length=off/\v2.length=ws.length/\ay e (v1++ws++v3) ds:=by
 induction cs with
 |nil=>
  intro off ls ds vs ws h hr hw;cases off with
  |zero=>simp only [putAt] at h;obtain ⟨v1,v2,rfl,h1,h2⟩:=LL h hr hw;exact ⟨[],v1,v2,by simp,rfl,h1,by simpa using h2⟩
  |succ n=>simp [putAt] at h
 |cons l r ih=>
  intro off ls ds vs ws h hr hw;cases off with
  |zero=>simp only [putAt] at h;obtain ⟨v1,v2,rfl,h1,h2⟩:=LL h hr hw;exact ⟨[],v1,v2,by simp,rfl,h1,by simpa using h2⟩
  |succ n=>
   simp only [putAt] at h;cases hb:ab8 l.w (n+1) with
   |false=>simp [hb] at h
   |true=>
    simp only [hb,cond_true] at h;have hle:=ack hb;obtain ⟨v,w,rfl,h1,h2⟩:=hr;cases hu:putAt r (n+1-l.w) ls with
    |none=>simp [hu] at h
    |some b=>simp only [hu,BY] at h;subst h;obtain ⟨v1,v2,v3,rfl,hl,yE,h3⟩:=ih hu h2 hw;exact ⟨v++v1,v2,v3,by simp,by simp [h1.width,hl];omega,yE,v,v1++ws++v3,by simp,h1,h3⟩
structure mi (S T:Nat->Prop) (e e':Env):Prop where
 key:e'.key=e.key
 φ:lE e.φ e'.φ
 B: ∀r,T r->e'.B r=e.B r
 iy: ∀f o',aQ e'.m f=some o'->S f-> ∃o,aQ e.m f=some o/\e'.E f=e.E f/\o'.xs=o.xs
def jR (S:Nat->Prop)(l:aD):Prop:= ∀f,l= .own f->S f
def gO (S T:Nat->Prop):Slot->Prop
 | .ptr r _=>T r
 | .zm r=>T r
 | .hp r _ _=>T r
 | .sc l=>jR S l
 | .ag cs=> ∀l∈cs,jR S l
 | .tg cs=> ∀l∈cs,jR S l
 | .ep g _ _ _ _=>S g
 |_=>True
theorem aU.on {S T:Nat->Prop}(h:mi S T e e'){vs:List Value}{l:aD}(hl:jR S l)(hr:aU e vs l):aU e' vs l:=by
 cases l with
 |un=>exact hr
 |p m=>exact ⟨hr.1,by have:=hr.2.mono h.φ;rw [<-h.key] at this;exact this⟩
 |hs x=>exact hr
 |nil=>exact hr
 |mp s es=>exact hr
 |own f=>obtain ⟨v,rfl,hv,hf⟩:=hr;refine ⟨v,rfl,hv,λo' KP=> ?_⟩;obtain ⟨o,ho,hE,_⟩:=h.iy f o' KP (hl f rfl);rw [hE];exact hf o ho
theorem ay.on {S T:Nat->Prop}(h:mi S T e e'){cs:List aD}: ∀{vs:List Value},(∀l∈cs,jR S l)->ay e vs cs->ay e' vs cs:=by
 induction cs with
 |nil=>intro vs _ hr;exact hr
 |cons l r ih=>intro vs hl hr;obtain ⟨v,w,rfl,h1,h2⟩:=hr;exact ⟨v,w,rfl,h1.on h (hl l (by simp)),ih (λx hx=>hl x (by simp [hx])) h2⟩
theorem HK {S:Nat->Prop}{l:aD}(h:tL l=true):jR S l:=by intro f hf;subst hf;simp [tL] at h
theorem xy {S:Nat->Prop}{cs:List aD}(h:jc cs=true): ∀l∈cs,jR S l:=by
 induction cs with
 |nil=>simp
 |cons l r ih=>
  simp only [jc,ab5] at h;intro x hx;rcases acd.1 hx with rfl|hx
  ·exact HK h.1
  ·exact ih h.2 x hx
mutual
theorem af.on {S T:Nat->Prop}(h:mi S T e e'){v:Value}: ∀{s:Slot},gO S T s->af e v s->af e' v s
 | .skip,_,hr=>by simpa [af] using hr
 | .sc l,hs,hr=>by
  cases l with
  |un=>simp [af]
  |hs x=>simpa [af] using hr
  |p m=>simp only [af] at hr⊢;exact hr.on h hs
  |nil=>simp only [af] at hr⊢;exact hr.on h hs
  |mp s es=>simp only [af] at hr⊢;exact hr
  |own f=>simp only [af] at hr⊢;exact hr.on h hs
 | .ag cs,hs,hr=>by simp only [af] at hr⊢;obtain ⟨arr,h1,h2⟩:=hr;exact ⟨arr,h1,h2.on h hs⟩
 | .tg cs,hs,hr=>by simp only [af] at hr⊢;obtain ⟨arr,h1,h2⟩:=hr;exact ⟨arr,h1,h2.on h hs⟩
 | .dH vs,_,hr=>by simp only [af] at hr⊢;obtain ⟨arr,h1,h2⟩:=hr;exact ⟨arr,h1,lc.on h h2⟩
 | .box _,_,hr=>by simp [af] at hr
 | .zl cs,_,hr=>by simp only [af] at hr⊢;obtain ⟨bq,o,vs,h1,h2,h3,h4⟩:=hr;exact ⟨bq,o,vs,h1,h2.on h (xy h3),h3,λj hj=>Nj h.φ hj (h4 j hj)⟩
 | .ptr r o,hs,hr=>by simp only [af] at hr⊢;rw [h.B r hs];exact hr
 | .zm r,hs,hr=>by simp only [af] at hr⊢;rw [h.B r hs];exact hr
 | .rp cs off,_,hr=>by simp only [af] at hr⊢;obtain ⟨bq,o,vs,h1,h2,h3,h4⟩:=hr;exact ⟨bq,o,vs,h1,h2.on h (xy h3),h3,λj hj=>Nj h.φ hj (h4 j hj)⟩
 | .hp r o i,hs,hr=>by simp only [af] at hr⊢;rw [h.B r hs];exact hr
 | .ep f i off st cs,hs,hr=>by simp only [af] at hr⊢;intro o' KP;obtain ⟨o,ho,hE,hx⟩:=h.iy f o' KP hs;obtain ⟨bq,cap,h1,h2,h3⟩:=hr o ho;exact ⟨bq,cap,by rw [hE,hx];exact h1,by rw [hx];exact h2,h3⟩
theorem lc.on {S T:Nat->Prop}(h:mi S T e e'): ∀{vs:List Value} {ss:List Slot},lc e vs ss->lc e' vs ss
 |vs,[],hr=>hr
 |vs,s::ss,hr=>by
  simp only [lc] at hr⊢;obtain ⟨v,r,h1,h2,h3,h4⟩:=hr;refine ⟨v,r,h1,af.on h ?_ h2,h3,lc.on h h4⟩;cases s<;>simp [BL] at h3<;>simp only [gO]
  ·exact HK h3
  ·exact xy h3
end
end
end Dn
/-
  The relation between an abstract state and a running frame; operations that change no memory. Conditions: none.
-/
namespace Dn
open Go
section
variable {e e':Env}
theorem aU.kill {vs:List Value}{l:aD}(f:Nat)(h:aU e vs l):aU e vs (Nk f l):=by
 cases l with
 |own g=>
  simp only [Nk];cases cM g f
  ·exact h
  ·obtain ⟨v,rfl,hv,_⟩:=h;exact ⟨v,rfl,hv⟩
 |_=>exact h
theorem EL (f:Nat)(l:aD):jR (· ≠f) (Nk f l):=by intro g hg;cases l<;>simp [Nk] at hg;rename_i g';cases hb:cM g' f<;>simp [hb] at hg;subst hg;intro e;subst e;simp [eD] at hb
theorem aU.Pv {vs:List Value}{l:aD}(f:List Nat)(h:aU e vs l):aU e vs (RO f l):=by
 cases l with
 |own g=>
  simp only [RO];cases bI f g
  ·obtain ⟨v,rfl,hv,_⟩:=h;exact ⟨v,rfl,hv⟩
  ·exact h
 |_=>exact h
theorem Nl (f:List Nat)(l:aD):jR (· ∈f) (RO f l):=by intro g hg;cases l<;>simp [RO] at hg;rename_i g';cases hb:bI f g'<;>simp [hb] at hg;subst hg;exact (bH _ _).1 hb
theorem ay.map {g:aD->aD}(hg: ∀vs l,aU e vs l->aU e vs (g l)){cs:List aD}: ∀{vs:List Value},ay e vs cs->ay e vs (cs.map g):=by
 induction cs with
 |nil=>intro vs h;exact h
 |cons l r ih=>intro vs h;obtain ⟨v,w,rfl,h1,h2⟩:=h;exact ⟨v,w,rfl,hg _ _ h1,ih h2⟩
theorem af.agk {v:Value}{l:aD}(hl: ∀x,l≠ .hs x)(hu:l≠ .un):af e v (.sc l)↔aU e [v] l:=by cases l<;>simp_all [af]
theorem af.kill {v:Value}{s:Slot}(f:Nat)(h:af e v s):af e v (AX f s):=by
 cases s with
 |sc l=>
  cases l with
  |own g=>
   simp only [AX,Nk];cases cM g f
   ·exact h
   ·simp [af]
  |_=>exact h
 |ag cs=>simp only [AX,af] at h⊢;obtain ⟨arr,h1,h2⟩:=h;exact ⟨arr,h1,h2.map (λ_ _=>aU.kill f)⟩
 |tg cs=>simp only [AX,af] at h⊢;obtain ⟨arr,h1,h2⟩:=h;exact ⟨arr,h1,h2.map (λ_ _=>aU.kill f)⟩
 |box cs=>simp [af] at h
 |ep g i o b cs=>
  simp only [AX];cases cM g f
  ·exact h
  ·simp [af]
 |_=>exact h
theorem Yx (f:Nat)(T:Nat->Prop)(s:Slot)(hT:gO (λ_=>True) T s):gO (· ≠f) T (AX f s):=by
 cases s with
 |sc l=>exact EL f l
 |ag cs=>intro l hl;obtain ⟨x,_,rfl⟩:=adn.1 hl;exact EL f x
 |tg cs=>intro l hl;obtain ⟨x,_,rfl⟩:=adn.1 hl;exact EL f x
 |ep g i o b cs=>
  simp only [AX];cases hb:cM g f
  ·simp only [cond_false,gO];intro e;subst e;simp [eD] at hb
  ·simp [gO,jR]
 |ptr r o=>exact hT
 |hp r o i=>exact hT
 |_=>trivial
theorem af.Pv {v:Value}{s:Slot}(f:List Nat)(h:af e v s):af e v (Hi f s):=by
 cases s with
 |sc l=>
  cases l with
  |own g=>
   simp only [Hi,RO];cases bI f g
   ·simp [af]
   ·exact h
  |_=>exact h
 |ag cs=>simp only [Hi,af] at h⊢;obtain ⟨arr,h1,h2⟩:=h;exact ⟨arr,h1,h2.map (λ_ _=>aU.Pv f)⟩
 |tg cs=>simp only [Hi,af] at h⊢;obtain ⟨arr,h1,h2⟩:=h;exact ⟨arr,h1,h2.map (λ_ _=>aU.Pv f)⟩
 |box cs=>simp [af] at h
 |_=>exact h
end
def bx (key:Nat->Nat) (φ:Ph)(size:Nat):List Value->List MV->Prop
 |vs,[]=>vs=[]
 |vs,x::xs=> ∃v r,vs=v++r/\v.length=size/\jo key φ v x/\bx key φ size r xs
structure bJ where
 In:Nat->Prop
 cz:List Nat
 cS:List Nat
 T:Nat->Value
 cov:Prop
 Pr:Nat->Prop
instance:CoeFun bJ (λ_=>Nat->Prop):=⟨bJ.In⟩
instance:Coe bJ (Nat->Prop):=⟨bJ.In⟩
theorem O7 {a b c:Prop}(h:(a/\b)\/c)(hn: ¬a):c:=h.resolve_left λh=>hn h.1
def bJ.nc (Z:bJ):bJ:={Z with cov:=False}
def bJ.plain (I:Nat->Prop):bJ:=⟨I,[],[],λ_=>undef,False,λ_=>True⟩
def bJ.bz (Z:bJ)(t:Nat):bJ:={Z with In:=λb=>(t∈Z.cz/\Z.Pr b)\/Z.In b}
def bJ.fz (Z:bJ)(f:Nat):bJ:={Z with In:=λb=>(f∈Z.cS/\Z.Pr b)\/Z.In b,cov:=f∈Z.cS}
def EM:Kd->MV->Bool
 | .b,.b _=>true
 | .i k,.i k' _=>decide (k'=k)
 | .s,.s _=>true
 | .h,.h _=>true
 |_,_=>false
def dJ:List Kd->List MV->Bool
 |[],[]=>true
 |k::ks,m::ms=>EM k m&&dJ ks ms
 |_,_=>false
def EA:MV->List Value
 | .b x=>[.bool x]
 | .i k n=>[.int k n]
 | .s l=>[.string ⟨l.toArray⟩]
 | .h x=>bC x
 |_=>[]
def gp (st:Bool)(ks:List MV):Value:=match st,ks with
 |false,[.h x]=> .agg (bC x).toArray
 |false,[.b x]=> .bool x
 |false,[.i k n]=> .int k n
 |false,[.s l]=> .string ⟨l.toArray⟩
 |_,ks=> .agg (ks.flatMap EA).toArray
def Bu (b:Bool)(m:MV):Value:=match b,m with
 |true,.b x=> .bool x
 |false,.i .i64 n=> .int .i64 n
 |_,_=>undef
def Sa (b:Bool)(m:MV):Bool:=match b,m with
 |true,.b x=>true
 |false,.i .i64 n=>true
 |_,_=>false
def Yy (s:MS)(x:MapEntry)(m:MV)(i:Nat):Prop:=x.born=i/\ ∃ks v,m= .dH [.agg ks,v]/\dJ s.lay ks=true/\x.key=gp s.st ks/\Sa s.b v=true/\x.val=Bu s.b v
structure rz (s:MS) (es:Array MapEntry) (clock:Nat) (ms:List MV):Prop where
 size:es.size=ms.length
 clock:clock=ms.length
 ent: ∀(i:Nat) x m,es[i]? =some x->ms[i]? =some m->Yy s x m i
def kN (e:Env)(o:Obj)(cs:List aD):Prop:=match o with
 | .cells arr _ z=>z=(0,0)/\ay e arr.toList cs
 | .map es clock=> ∃s ms,cs=[.mp s ms]/\C8 s=false/\rz s es clock ms
 | .stringIter x pos=>cs=[.mp MS.it [.s x.data.toList,.i .i64 pos]]
 |_=>False
def HL (cs:List aD)(b:Nat):Value:=bif mf cs then .map (some b) else .pointer (some ⟨b,0,none⟩)
structure uZ (Z:bJ) (e:Env) (w:World) (bq:Nat) (cs:List aD):Prop where
 cB:Z.In bq
 obj: ∃o,w.heap[bq]? =some o/\kN e o cs
 free: ∀off,e.φ bq off=none
theorem kN.on {S T:Nat->Prop} {e e':Env}(h:mi S T e e'){o:Obj}{cs:List aD}(hl: ∀l∈cs,jR S l)(hr:kN e o cs):kN e' o cs:=by
 cases o with
 |cells arr T z=>exact ⟨hr.1,hr.2.on h hl⟩
 |map es clock=>exact hr
 |stringIter x pos=>exact hr
 |_=>exact hr.elim
theorem Nn {cs:List aD}(h:gn cs=true): ∃s ms,cs=[.mp s ms]:=by
 unfold gn at h;split at h
 ·exact ⟨_,_,rfl⟩
 ·cases h
theorem kN.cells {e:Env}{o:Obj}{cs:List aD}(hr:kN e o cs)(hm:gn cs=false): ∃arr T,o= .cells arr T (0,0)/\ay e arr.toList cs:=by
 cases o with
 |cells arr T z=>obtain ⟨rfl,h⟩:=hr;exact ⟨arr,T,rfl,h⟩
 |map es clock=>obtain ⟨s,ms,rfl,_⟩:=hr;simp [gn] at hm
 |stringIter x pos=>rw [show cs=_ from hr] at hm;simp [gn] at hm
 |_=>exact hr.elim
theorem Dd {cs:List aD}(h:gn cs=false):mf cs=false:=by
 unfold mf;split
 ·simp [gn] at h
 ·rfl
theorem Pw (g:aD->aD)(h1: ∀s es,g (.mp s es)= .mp s es)(h2: ∀l,(∀s es,l≠ .mp s es)-> ∀s es,g l≠ .mp s es)(cs:List aD):mf (cs.map g)=mf cs:=by
 cases cs with
 |nil=>rfl
 |cons l r=>
  cases r with
  |nil=>
   by_cases hl: ∃s es,l= .mp s es
   ·obtain ⟨s,es,rfl⟩:=hl;simp [h1,mf]
   ·have EN: ∀s es,l≠ .mp s es:=λs es e=>hl ⟨s,es,e⟩;have hg:=h2 l EN;simp only [aaf,afU];have a:mf [l]=false:=by cases l<;>simp_all [mf]
    have b:mf [g l]=false:=by cases hq:g l<;>simp_all [mf]
    rw [a,b]
  |cons x y=>cases hl:l<;>simp [mf]
theorem uZ.cells {Z:bJ}{e:Env}{w:World}{bq:Nat}{cs:List aD}(h:uZ Z e w bq cs)(hm:gn cs=false): ∃arr T,w.heap[bq]? =some (.cells arr T (0,0))/\ay e arr.toList cs:=by obtain ⟨o,h1,h2⟩:=h.obj;obtain ⟨arr,T,rfl,h3⟩:=h2.cells hm;exact ⟨arr,T,h1,h3⟩
theorem Sb {cs:List aD}(hm:mf cs=false)(b:Nat):HL cs b= .pointer (some ⟨b,0,none⟩):=by simp [HL,hm]
theorem tQ {cs:List aD}(hm:gn cs=false)(b:Nat):HL cs b= .pointer (some ⟨b,0,none⟩):=Sb (Dd hm) b
theorem Yz {cs:List aD}(hm:mf cs=true)(b:Nat):HL cs b= .map (some b):=by simp [HL,hm]
theorem kN.map {e:Env}{g:aD->aD}(hg: ∀vs l,aU e vs l->aU e vs (g l))(hm: ∀s es,g (.mp s es)= .mp s es){o:Obj}{cs:List aD}(hr:kN e o cs):kN e o (cs.map g):=by
 cases o with
 |cells arr T z=>exact ⟨hr.1,hr.2.map hg⟩
 |map es clock=>obtain ⟨s,ms,rfl,h2⟩:=hr;exact ⟨s,ms,by simp [hm],h2⟩
 |stringIter x pos=>rw [show cs=_ from hr];show afB g _=_;simp [hm]
 |_=>exact hr.elim
theorem Sc (f:Nat)(cs:List aD):mf (cs.map (Nk f))=mf cs:=Pw _ (λ_ _=>rfl) (λl hl s es=>by cases l<;>simp_all [Nk];rename_i g;cases cM g f<;>simp) cs
theorem agl (f:List Nat)(cs:List aD):mf (cs.map (RO f))=mf cs:=Pw _ (λ_ _=>rfl) (λl hl s es=>by cases l<;>simp_all [RO];rename_i g;cases bI f g<;>simp) cs
structure cK (c:Ctx) (Z:bJ) (e:Env) (w:World) (v:Value) (o:oZ):Prop where
 row: ∃I cells,c.ti o.ty=some I/\I.cE=[]/\w.ownsRow 0 o.ty I.size v o.xs.length cells/\bx e.key e.φ I.size cells o.xs/\ ∀bq,v.ownBlock=some bq->Z.In bq/\(∀off u,e.φ bq off=some u->o.eV=true/\off<o.xs.length *I.size)/\(Z.cov->o.eV=true-> ∀j,j<cells.length->e.φ bq j=cells[j]?)
def tied (Z:bJ)(t:Nat)(v:Value)(cs:List aD)(b:Nat):Prop:=(yD t=false->v=HL cs b)/\(yD t=true->posOf t∈Z.cz/\Z.T (posOf t)= .pointer (some ⟨b,Pf t,none⟩))
theorem tied.mf {Z:bJ}{t:Nat}{v:Value}{cs ke:List aD}{b:Nat}(h:tied Z t v cs b)(hm:mf ke=mf cs):tied Z t v ke b:=⟨λhp=>by rw [h.1 hp];simp [HL,hm],h.2⟩
theorem tied.own {Z:bJ}{t:Nat}{v:Value}{cs:List aD}{b:Nat}(hp:yD t=false)(h:v=HL cs b):tied Z t v cs b:=⟨λ_=>h,λhq=>by rw [hp] at hq;cases hq⟩
def cj (Z:bJ)(e:Env)(w:World)(t:Nat)(v:Value):Slot->Prop
 | .box cs=>tied Z t v cs (e.B t)/\uZ (Z.bz t) e w (e.B t) cs
 |s=>af e v s
def cL (fr:Fr):Slot->Prop
 | .ptr r _=>dg (av fr r)=true
 | .hp r _ _=>dg (av fr r)=true
 | .zm r=>dg (av fr r)=true
 |_=>True
structure bX (c:Ctx) (Z:bJ) (e:Env) (st:St) (a:Act) (w:World):Prop where
 defers:a.defers=[]/\st.cz=Z.cz/\st.cS=Z.cS/\ ∀t∈Z.cz,a.tmps.getD t undef=Z.T t
 size:a.tmps.size=c.n
 m:e.m=st.bo
 key:e.key=c.key
 nodup:(aX st.fr).Nodup
 slot: ∀t,cj Z e w t (a.tmps.getD t undef) (av st.fr t)
 root: ∀t,cL st.fr (av st.fr t)
 iy: ∀f o,aQ st.bo f=some o->cK c (Z.fz f) e w (e.E f) o
 bb: ∀t t' cs ke,av st.fr t= .box cs->av st.fr t'= .box ke->t≠t'->e.B t≠e.B t'
 bf: ∀t cs f o,av st.fr t= .box cs->aQ st.bo f=some o->(e.E f).ownBlock≠some (e.B t)
 ff: ∀f f' o o' k,aQ st.bo f=some o->aQ st.bo f'=some o'->(e.E f).ownBlock=some k->(e.E f').ownBlock=some k->f=f'
 kE: ∀b o v,e.φ b o=some v->w.cell? ⟨b,o,none⟩=some v
 cB: ∀b,w.heap.size<=b->Z.In b
def Rest (w w':World):Prop:=w'.os=w.os/\w'.tape=w.tape/\w'.output=w.output/\ ∀a,w'.frozen? a=w.frozen? a
theorem Rest.refl (w:World):Rest w w:=⟨rfl,rfl,rfl,λ_=>rfl⟩
theorem Rest.trans {w w' AY:World}(h:Rest w w') (h':Rest w' AY):Rest w AY:=⟨h'.1.trans h.1,h'.2.1.trans h.2.1,h'.2.2.1.trans h.2.2.1,λa=>(h'.2.2.2 a).trans (h.2.2.2 a)⟩
theorem Rest.alloc (w:World)(cs:Array Value)(t:TypeId):Rest w (w.alloc (.cells cs t)):=by
 refine ⟨rfl,rfl,rfl,λa=> ?_⟩;by_cases h:a.block=w.heap.size
 ·have e1:(w.alloc (.cells cs t)).heap[a.block]? =some (.cells cs t (0,0)):=by rw [h];exact gG w _
  have e2:w.heap[a.block]? =none:=by rw [h];simp
  simp [afQ,e1,e2]
 ·exact World.frozen?_alloc_old _ _ _ h
theorem Rest.setRow (w:World)(g:Nat)(cs:Array Value):Rest w (w.setRow g cs):=by
 refine ⟨rfl,rfl,rfl,λa=> ?_⟩;by_cases h:a.block=g
 ·unfold afQ afV;simp only [Array.getElem?_modify,h,if_true];cases hg:w.heap[g]? with
  |none=>rfl
  |some o=>cases o<;>rfl
 ·exact World.frozen?_of_block (setRow_other _ _ _ _ h)
structure dC (w w':World):Prop where
 size:w.heap.size<=w'.heap.size
 ql: ∀b,b<w.heap.size->w'.heap[b]? =w.heap[b]?
 rest:Rest w w'
theorem ba {w:World}{b:Nat}{x:Obj}(h:w.heap[b]? =some x):b<w.heap.size:=(Array.getElem?_eq_some_iff.1 h).1
theorem dC.cell {w w':World}(g:dC w w'){ad:Addr}{v:Value}(h:w.cell? ad=some v):w'.cell? ad=some v:=by have hl:=aca w ad h;rw [acf (g.ql ad.block hl)];exact h
structure Trans (Z:Nat->Prop) (φ:Ph) (w:World) (φ':Ph) (w':World):Prop where
 ph:lE φ φ'
 heap: ∀b,¬Z b->b<w.heap.size->w'.heap[b]? =w.heap[b]?
 free: ∀b o,¬Z b->φ' b o=φ b o
 size:w.heap.size<=w'.heap.size
 rest:Rest w w'
theorem Trans.refl (Z:Nat->Prop) (φ:Ph)(w:World):Trans Z φ w φ w:=⟨.refl φ,λ_ _ _=>rfl,λ_ _ _=>rfl,abK _,.refl _⟩
theorem Trans.trans {Z:Nat->Prop} {φ φ' φ'':Ph} {w w' AY:World}(h:Trans Z φ w φ' w') (h':Trans Z φ' w' φ'' AY):Trans Z φ w φ'' AY:=⟨h.ph.trans h'.ph,λb hb hl=>(h'.heap b hb (ae8 hl h.size)).trans (h.heap b hb hl),λb o hb=>(h'.free b o hb).trans (h.free b o hb),adQ h.size h'.size,h.rest.trans h'.rest⟩
def qv (Z:bJ)(e:Env)(w:World)(st:St)(v:Value):Slot->Prop
 | .box cs=> ∃bq,v=HL cs bq/\uZ Z e w bq cs/\(∀t ke,av st.fr t= .box ke->e.B t≠bq)/\(∀f o,aQ st.bo f=some o->(e.E f).ownBlock≠some bq)
 |s=>af e v s/\cL st.fr s
section
variable {c:Ctx}{Z:bJ}{e:Env}{st:St}{a:Act}{w:World}
theorem af.const {v:Value}:af e v (AU v):=by
 unfold AU;split<;>simp only [af,aU,MV.one]<;> first
   |exact ⟨trivial,.b _⟩
   |exact ⟨trivial,.i _ _⟩
   |exact ⟨trivial,.s _⟩
   |exact ⟨trivial,.raw _ rfl⟩
theorem bX.eval (h:bX c Z e st a w)(x:Operand):af e (a.eval x) (aN c st x)/\cL st.fr (aN c st x):=by
 cases x with
 |tmp t=>
  have hs:=h.slot t;have hr:=h.root t;simp only [Act.eval,aN];cases Np:plk c.par t with
  |some q=>
   simp only;cases hq:yD q&&cM (posOf q) t with
   |false=>exact ⟨by simp [af],trivial⟩
   |true=>
    simp only [cond_true];simp only [ab5] at hq;have hqt:=sh hq.2;have hsq:=h.slot q;split
    ·rename_i cs hfq;rw [hfq] at hsq;cases hm:gn cs with
     |true=>exact ⟨by simp [af],trivial⟩
     |false=>obtain ⟨k1,k2⟩:=hsq.1.2 hq.1;refine ⟨?_,by simp [cL,hfq,dg]⟩;show a.tmps.getD t undef=_;rw [<-hqt,h.defers.2.2.2 _ k1,k2]
    ·exact ⟨by simp [af],trivial⟩
  |none=>
  simp only;generalize hf:av st.fr t=s at hs hr;cases s<;>simp only [cj] at hs<;>try exact ⟨hs,hr⟩
  ·rename_i cs;cases hpt:yD t with
   |true=>simp only [cond_true];exact ⟨by simp [af],trivial⟩
   |false=>
   simp only [cond_false];cases hm:mf cs with
   |true=>simp only [hm,cond_true,af,cL,hf,dg];exact ⟨by rw [hs.1.1 hpt,Yz hm],trivial⟩
   |false=>simp only [hm,cond_false,af,cL,hf,dg];exact ⟨by rw [hs.1.1 hpt,Sb hm],trivial⟩
 |const v=>refine ⟨af.const,?_⟩;simp only [aN];unfold AU;split<;>trivial
 |func f=>simp only [Act.eval,aN,af,aU,MV.one,cL,and_true,true_and];exact .func f _ #[] [] (by rw [h.key]) (by simpa using iO.nil) (by simp)
 |global g=>simp [aN,af,cL]
end
theorem Act.zD {a:Act}{d t:Nat}{v:Value}(hd:d<a.tmps.size):(a.put (some d) v).tmps.getD t undef=if t=d then v else a.tmps.getD t undef:=by
 simp only [Act.put,Array.getD_eq_getD_getElem?,Array.getElem?_setIfInBounds];by_cases h:d=t
 ·subst h;simp [hd]
 ·have h': ¬t=d:=λe=>h e.symm;simp [h,h']
theorem YA {fr:Fr}{s:Slot}(h:cL fr s):gO (λ_=>True) (λr=>dg (av fr r)=true) s:=by cases s<;>simp_all [cL,gO,jR]
theorem Nq (r:Fr)(d:Nat)(s:Slot):aX (dc r d s)=if d∈aX r then aX r else aX r++[d]:=by
 induction r with
 |nil=>simp [dc,aX]
 |cons p r ih=>
  obtain ⟨k,x⟩:=p;simp only [dc,eD];by_cases h:k=d
  ·simp [h,aX]
  ·have h': ¬d=k:=λe=>h e.symm;have ih':afB Prod.fst (dc r d s)=if d∈aX r then aX r else aX r++[d]:=ih
   simp only [h,h',decide_false,cond_false,aX,aaf,acd,false_or,ih'];by_cases hm:d∈aX r
   ·have LM:d∈afB Prod.fst r:=hm;simp [hm,LM,aX]
   ·have LM:d∉afB Prod.fst r:=hm;simp [hm,LM,aX]
theorem fO {r:Fr}{d:Nat}{s:Slot}(h:(aX r).Nodup):(aX (dc r d s)).Nodup:=by
 rw [Nq];by_cases hm:d∈aX r
 ·simpa [hm] using h
 ·simp only [hm,if_false];exact List.nodup_append.2 ⟨h,by simp,by intro x hx y hy;simp at hy;subst hy;intro e;subst e;exact hm hx⟩
section
variable {c:Ctx}{Z:bJ}{e:Env}{st:St}{a:Act}{w:World}{R:Type}{K:St->Option R}{r:R}
def Env.De (e:Env)(d bq:Nat):Env:={e with B:=λt=>if t=d then bq else e.B t}
theorem uZ.env {e e':Env}{bq:Nat}{cs:List aD}(h:uZ Z e w bq cs)(hk:e'.key=e.key)(hp:e'.φ=e.φ)(hE:e'.E=e.E)(hm:e'.m=e.m):uZ Z e' w bq cs:=by refine ⟨h.cB,?_,λoff=>by rw [hp];exact h.free off⟩;obtain ⟨o,h1,h2⟩:=h.obj;refine ⟨o,h1,h2.on (S:=λ_=>True) (T:=λ_=>False) ⟨hk,by rw [hp];exact .refl _,by simp,?_⟩ (by intro l _ f _;trivial)⟩;intro f o ho _;exact ⟨o,by rw [<-hm];exact ho,by rw [hE],rfl⟩
theorem cK.env {e e':Env}{v:Value}{o:oZ}(h:cK c Z e w v o)(hk:e'.key=e.key)(hp:e'.φ=e.φ):cK c Z e' w v o:=by obtain ⟨I,cells,h1,h2,h3,h4,h5⟩:=h.row;exact ⟨I,cells,h1,h2,h3,by rw [hk,hp];exact h4,by rw [hp];exact h5⟩
theorem uZ.to {bq:Nat}{cs:List aD}(h:uZ Z e w bq cs)(t:Nat):uZ (Z.bz t) e w bq cs:=⟨.inr h.cB,h.obj,h.free⟩
theorem cK.to {v:Value}{o:oZ}{f:Nat}(h:cK c Z.nc e w v o)(hf:f∉Z.cS):cK c (Z.fz f) e w v o:=by obtain ⟨I,cells,h1,h2,h3,h4,h5⟩:=h.row;exact ⟨I,cells,h1,h2,h3,h4,λbq hb=>⟨.inr (h5 bq hb).1,(h5 bq hb).2.1,λhc=>absurd hc hf⟩⟩
theorem di {d:Option Nat}{s:Slot}{v:Value}(h:bX c Z e st a w)(hv:qv Z e w st v s)(hK:bu c st d s K=some r): ∃e' bU,bX c Z e' bU (a.put d v) w/\K bU=some r/\e'.φ=e.φ:=by
 cases d with
 |none=>exact ⟨e,st,h,hK,rfl⟩
 |some d=>
  simp only [bu] at hK;cases tR:yD d||(ab8 c.n d||dg (av st.fr d)) with
  |true=>simp [tR] at hK
  |false=>
   obtain ⟨aon,hb⟩:=acg.1 tR;simp only [tR,cond_false,wr] at hK;cases hp:bI st.cz d with
   |true=>simp [hp] at hK
   |false=>
    simp only [hp,cond_false,force_eq,n8] at hK;simp only [acg] at hb;have hdn:d<a.tmps.size:=by
     rw [h.size];have:=hb.1;by_cases cT:d<c.n
     ·exact cT
     ·have:ab8 c.n d=true:=aeX (by omega);simp_all
    have hdp:d∉Z.cz:=by intro hm;rw [<-h.defers.2.1,<-bH,hp] at hm;cases hm
    have ajP: ∀fr:Fr,(a.put (some d) v).defers=[]/\({st with fr:=fr}:St).cz=Z.cz/\({st with fr:=fr}:St).cS=Z.cS/\ ∀t∈Z.cz,(a.put (some d) v).tmps.getD t undef=Z.T t:=by intro fr;refine ⟨h.defers.1,h.defers.2.1,h.defers.2.2.1,λt ht=> ?_⟩;rw [Act.zD hdn,if_neg (by intro e;subst e;exact hdp ht)];exact h.defers.2.2.2 t ht
    have pf: ∀t,gO (λ_=>True) (λr=>r≠d) (av st.fr t):=by intro t;have:=YA (h.root t);generalize av st.fr t=x at this;cases x<;>simp_all [gO,jR]<;>(intro e;subst e;simp_all)
    by_cases hs: ∃cs,s= .box cs
    ·obtain ⟨cs,rfl⟩:=hs;obtain ⟨bq,rfl,sR,hnb,hnf⟩:=hv;have uL:mi (λ_=>True) (λr=>r≠d) e (e.De d bq):=⟨rfl,.refl _,λr hr=>by simp [Env.De,hr],λf o ho _=>⟨o,ho,rfl,rfl⟩⟩
     refine ⟨e.De d bq,_,?_,hK,rfl⟩;refine ⟨ajP _,by simpa [Act.put] using h.size,h.m,h.key,fO h.nodup,?_,?_,?_,?_,?_,?_,h.kE,h.cB⟩
     ·intro t;rw [Act.zD hdn,bZ];by_cases ht:t=d
      ·subst ht;simp only [if_true,cj,Env.De];exact ⟨.own aon rfl,(sR.to t).env rfl rfl rfl rfl⟩
      ·simp only [ht,if_false];have mU:=h.slot t;have rC:=pf t;generalize av st.fr t=x at mU rC;cases x<;>simp only [cj] at mU⊢ <;>try exact mU.on uL rC
       simp only [Env.De,ht,if_false];exact ⟨mU.1,mU.2.env rfl rfl rfl rfl⟩
     ·intro t;simp only [bZ];by_cases ht:t=d
      ·simp [ht,cL]
      ·simp only [ht,if_false];have rC:=h.root t;have Cl:=pf t;generalize av st.fr t=x at rC Cl;cases x<;>simp_all [cL,bZ,gO]
     ·intro f o ho;exact (h.iy f o ho).env rfl rfl
     ·intro t t' gQ qg h1 h2 db;simp only [bZ] at h1 h2;simp only [Env.De];by_cases ht:t=d
      ·by_cases Df:t'=d
       ·exact absurd (ht.trans Df.symm) db
       ·simp only [Df,if_false] at h2;simp only [ht,Df,if_true,if_false];exact λe=>hnb t' qg h2 e.symm
      ·simp only [ht,if_false] at h1;by_cases Df:t'=d
       ·simp only [ht,Df,if_true,if_false];exact hnb t gQ h1
       ·simp only [Df,if_false] at h2;simp only [ht,Df,if_false];exact h.bb t t' gQ qg h1 h2 db
     ·intro t gQ f o h1 h2;simp only [bZ] at h1;simp only [Env.De];by_cases ht:t=d
      ·simp only [ht,if_true];exact hnf f o h2
      ·simp only [ht,if_false] at h1⊢;exact h.bf t gQ f o h1 h2
     ·exact h.ff
    ·have RP:af e v s/\cL st.fr s:=by cases s<;>simp_all [qv]
     refine ⟨e,_,?_,hK,rfl⟩;refine ⟨ajP _,by simpa [Act.put] using h.size,h.m,h.key,fO h.nodup,?_,?_,h.iy,?_,?_,h.ff,h.kE,h.cB⟩
     ·intro t;rw [Act.zD hdn,bZ];by_cases ht:t=d
      ·simp only [ht,if_true];cases s<;>simp only [cj]<;>first|exact RP.1|exact absurd ⟨_,rfl⟩ hs
      ·simp only [ht,if_false];exact h.slot t
     ·intro t;simp only [bZ];by_cases ht:t=d
      ·simp only [ht,if_true];have hr:=RP.2;cases s<;>simp only [cL,bZ] at hr⊢
       ·rename_i r o;by_cases Nr:r=d
        ·subst Nr;simp_all
        ·simp only [Nr,if_false];exact hr
       ·rename_i r;by_cases Nr:r=d
        ·subst Nr;simp_all
        ·simp only [Nr,if_false];exact hr
       ·rename_i r o i;by_cases Nr:r=d
        ·subst Nr;simp_all
        ·simp only [Nr,if_false];exact hr
      ·simp only [ht,if_false];have rC:=h.root t;have Cl:=pf t;generalize av st.fr t=x at rC Cl;cases x<;>simp_all [cL,bZ,gO]
     ·intro t t' gQ qg h1 h2 db;simp only [bZ] at h1 h2;by_cases ht:t=d
      ·simp only [ht,if_true] at h1;exact absurd ⟨_,h1⟩ hs
      ·by_cases Df:t'=d
       ·simp only [Df,if_true] at h2;exact absurd ⟨_,h2⟩ hs
       ·simp only [ht,Df,if_false] at h1 h2;exact h.bb t t' gQ qg h1 h2 db
     ·intro t gQ f o h1 h2;simp only [bZ] at h1;by_cases ht:t=d
      ·simp only [ht,if_true] at h1;exact absurd ⟨_,h1⟩ hs
      ·simp only [ht,if_false] at h1;exact h.bf t gQ f o h1 h2
end
end Dn
/-
  Operations that change no memory: moves, numbers, texts, places. Conditions: none.
-/
namespace Dn
open Go
def Out (c:Ctx)(Z:bJ){R:Type}(K:St->Option R)(r:R) (φ:Ph)(w:World) (a':Act) (w':World):Prop:=∃e' bU,bX c Z e' bU a' w'/\Trans Z φ w e'.φ w'/\K bU=some r
section
variable {P:Program}{c:Ctx}{Z:bJ}{e:Env}{st:St}{a:Act}{w:World}{R:Type}{K:St->Option R}{r:R}{Q:Exit->Act->World->Prop}{o:Oper}
theorem qv.of {s:Slot}{v:Value}(h:af e v s)(hr:cL st.fr s):qv Z e w st v s:=by cases s<;>first|exact ⟨h,hr⟩|(simp [af] at h)
theorem fin {e':Env}{bU:St} {w':World}{s:Slot}{v:Value}(bV:(execOp a.eval o).run P w= .ok (.value v) w')(hs:bX c Z e' bU a w')(ht:Trans Z e.φ w e'.φ w')(hv:qv Z e' w' bU v s)(hK:bu c bU o.dst s K=some r):o.wp P a w (Out c Z K r e.φ w) Q:=by unfold afW;rw [bV,aeg];obtain ⟨e2,dM,h1,h2,h3⟩:=di hs hv hK;exact ⟨e2,dM,h1,by rw [h3];exact ht,h2⟩
theorem Dg {e':Env}{bU:St} {w':World}(bV:(execOp a.eval o).run P w= .ok .skip w')(hs:bX c Z e' bU a w')(ht:Trans Z e.φ w e'.φ w')(hK:bu c bU o.dst (.sc .un) K=some r):o.wp P a w (Out c Z K r e.φ w) Q:=by unfold afW;rw [bV,Oper.upon_skip];obtain ⟨e2,dM,h1,h2,h3⟩:=di (v:=undef) hs (by simp [qv,af,cL]) hK;exact ⟨e2,dM,h1,by rw [h3];exact ht,h2⟩
theorem VM {e':Env}{bU:St} {w':World}{s:Slot}{v:Value}(hg:dC w w')(bV:(execOp a.eval o).run P w= .ok (.value v) w')(hs:bX c Z e' bU a w')(ht:Trans Z e.φ w e'.φ w')(hv:qv Z e' w' bU v s)(hK:bu c bU o.dst s K=some r):o.wp P a w (λa' w'=>dC w w'/\Out c Z K r e.φ w a' w') Q:=by unfold afW;rw [bV,aeg];obtain ⟨e2,dM,h1,h2,h3⟩:=di hs hv hK;exact ⟨hg,e2,dM,h1,by rw [h3];exact ht,h2⟩
def Rd (P:Program)(c:Ctx)(Z:bJ){R:Type}(K:St->Option R)(r:R)(e:Env)(a:Act)(w:World)(o:Oper)(G:World->Prop):Prop:=∃v,(∀w',G w'->(execOp a.eval o).run P w'= .ok (.value v) w')/\Out c Z K r e.φ w (a.put o.dst v) w
theorem Rd.wp {G:World->Prop}(h:Rd P c Z K r e a w o G)(hg:G w):o.wp P a w (Out c Z K r e.φ w) Q:=by obtain ⟨v,h1,h2⟩:=h;unfold afW;rw [h1 w hg,aeg];exact h2
theorem Sd {G:World->Prop} {e':Env}{bU:St}{s:Slot}{v:Value}(bV: ∀w':World,G w'->(execOp a.eval o).run P w'= .ok (.value v) w')(hs:bX c Z e' bU a w)(ht:Trans Z e.φ w e'.φ w)(hv:qv Z e' w bU v s)(hK:bu c bU o.dst s K=some r):Rd P c Z K r e a w o G:=by obtain ⟨e2,dM,h1,h2,h3⟩:=di hs hv hK;exact ⟨v,bV,e2,dM,h1,by rw [h3];exact ht,h2⟩
theorem jz {s:Slot}{v:Value}(h:bX c Z e st a w)(bV: ∀w':World,(execOp a.eval o).run P w'= .ok (.value v) w')(hv:af e v s)(hr:cL st.fr s)(hK:bu c st o.dst s K=some r):Rd P c Z K r e a w o (λ_=>True):=Sd (λw' _=>bV w') h (.refl _ _ _) (.of hv hr) hK
theorem zE {v:Value}{x:Bool}(h:af e v (.sc (.p (.b x)))):v= .bool x:=by simp only [af,aU] at h;obtain ⟨_,h⟩:=h;generalize hv:[v]=vs at h;cases h;simpa using hv
theorem lP {v:Value}{k:IntKind}{n:Int}(h:af e v (.sc (.p (.i k n)))):v= .int k n:=by simp only [af,aU] at h;obtain ⟨_,h⟩:=h;generalize hv:[v]=vs at h;cases h;simpa using hv
theorem FJ {v:Value}{l:List UInt8}(h:af e v (.sc (.p (.s l)))): ∃b:ByteArray,v= .string b/\l=b.data.toList:=by simp only [af,aU] at h;obtain ⟨_,h⟩:=h;generalize hv:[v]=vs at h;cases h;exact ⟨_,by simpa using hv,rfl⟩
theorem yT (x:Bool):af e (.bool x) (.sc (.p (.b x))):=by simp only [af,aU];exact ⟨rfl,.b x⟩
theorem sS (k:IntKind)(n:Int):af e (.int k n) (.sc (.p (.i k n))):=by simp only [af,aU];exact ⟨rfl,.i k n⟩
theorem YB (b:ByteArray):af e (.string b) (.sc (.p (.s b.data.toList))):=by simp only [af,aU];exact ⟨rfl,.s b⟩
theorem xz {v u:Value}(h:af e v (.sc (.p (.raw u)))):v=u:=by simp only [af,aU] at h;obtain ⟨_,h⟩:=h;generalize hv:[v]=vs at h;cases h;simpa using hv
theorem HM (u:Value)(h:u.oneCell'=true):af e u (.sc (.p (.raw u))):=by simp only [af,aU];exact ⟨rfl,.raw u h⟩
theorem Ns {x:Operand}(ho:o.op= .move x\/o.op= .assign x)(h:bX c Z e st a w)(hK:bu c st o.dst (aN c st x) K=some r): Rd P c Z K r e a w o (λ_=>True):=by obtain ⟨h1,h2⟩:=h.eval x;refine jz h ?_ h1 h2 hK;rcases ho with ho|ho<;>simp [execOp,ho]
theorem Px {x:Operand}(ho:o.op= .nilCheck x)(h:bX c Z e st a w)(hK:aga (aN c st x) (λs=>bu c st o.dst s K)=some r):Rd P c Z K r e a w o (λ_=>True):=by
 obtain ⟨h1,h2⟩:=h.eval x;unfold aga at hK;split at hK
 ·rename_i jT;rw [jT] at h1 h2;refine jz h ?_ (v:=a.eval x) h1 h2 hK;simp only [af] at h1;simp [execOp,ho,h1]
 ·rename_i jT;rw [jT] at h1 h2;refine jz h ?_ (v:=a.eval x) h1 h2 hK;simp only [af] at h1;obtain ⟨bq,q,vs,FK,h3⟩:=h1;simp [execOp,ho,FK]
 ·simp at hK
theorem acD {x y z:Operand}(ho:o.op= .pick x y z)(h:bX c Z e st a w)(hK:Yc (aN c st x) (aN c st y) (aN c st z) (λs=>bu c st o.dst s K)=some r):Rd P c Z K r e a w o (λ_=>True):=by
 obtain ⟨hx,_⟩:=h.eval x;obtain ⟨hy,hy2⟩:=h.eval y;obtain ⟨hz,hz2⟩:=h.eval z;have bV: ∀v,a.eval x= .bool v-> ∀w:World,(execOp a.eval o).run P w= .ok (.value (if v then a.eval y else a.eval z)) w:=by intro v hv w;simp [execOp,ho,hv,asBool]
 unfold Yc at hK;split at hK
 ·rename_i v hv;have hxv:=zE (by rw [hv] at hx;exact hx);have hr:=bV v hxv;split at hK
  ·rename_i p q hp hq;rw [hp] at hy;rw [hq] at hz;simp only [zE hy,zE hz] at hr;refine jz h hr ?_ (s:= .sc (.p (.b (bif v then p else q)))) trivial hK;cases v
   ·exact yT q
   ·exact yT p
  ·cases v
   ·exact jz h hr hz hz2 hK
   ·exact jz h hr hy hy2 hK
 ·simp at hK
theorem acE {op:UnOp}{ty:TypeId}{x:Operand}(ho:o.op= .unOp op ty x)(h:bX c Z e st a w)(hK:unK op (aN c st x) (λs=>bu c st o.dst s K)=some r):Rd P c Z K r e a w o (λ_=>True):=by
 obtain ⟨hx,_⟩:=h.eval x;generalize aN c st x=s at hx hK;unfold unK at hK;split at hK
 ·refine jz h ?_ (yT _) trivial hK;simp [execOp,ho,zE hx,Op.unary]
 ·refine jz h ?_ (sS _ _) trivial hK;simp [execOp,ho,lP hx,Op.unary,aeY]
 ·simp at hK
end
end Dn
/-
  The type table; numbers, texts, places, loads. Conditions: none.
-/
namespace Dn
open Go
def GL:List Kd->Nat
 |[]=>0
 | .h::r=>32+GL r
 |_::r=>1+GL r
def sU (ti:Nat->Option TI)(P:Program)(I:TI)(z:Option Value):TypeDesc->Prop
 | .struct fs=>I.st=true/\I.cE=[]/\(0<I.size/\GL I.lay=I.size)/\fs.toList.map (·.offset)=I.Hv/\fs.toList.map (·.type)=I.VC/\ (∀(k:Nat) (f:Field),fs[k]? =some f-> ∃J,ti f.type=some J/\J.cE=[]/\0<J.size)/\ ∃cs,z=some (.agg cs)/\uY I.zero cs.toList=true/\cs.size=I.size
 | .tuple ts=>I.cE=ts.toList/\I.cE≠[]/\I.lay=[]/\I.st=false
 | .slice el=>I.st=false/\I.cE=[]/\I.size=1/\I.elem=el/\(∃E,ti el=some E/\E.cE=[]/\0<E.size)/\z=some (.slice none 0 0)/\I.zero=[.nil]/\(∃k,I.lay=[k]/\k= .l)
 | .array n el=>I.st=false/\I.cE=[]/\I.size=32/\n=32/\I.elem=el/\(∃i,P.underlying el=some (.int .u8)/\P.info? el=some i/\i.size=1)/\I.lay=[.h]/\I.zero=[.hs kY.zero]/\z=some (.agg (bC kY.zero).toArray)
 | .bool=>I.st=false/\I.cE=[]/\I.size=1/\I.lay=[.b]/\I.zero=[.p (.b false)]/\z=some (.bool false)
 | .int k=>I.st=false/\I.cE=[]/\I.size=1/\I.lay=[.i k]/\I.zero=[.p (.i k 0)]/\z=some (.int k 0)
 | .string=>I.st=false/\I.cE=[]/\I.size=1/\I.lay=[.s]/\I.zero=[.p (.s [])]/\ ∃b:ByteArray,z=some (.string b)/\b.data.toList=[]
 |_=>I.st=false/\I.cE=[]/\I.size=1/\I.lay=[.raw]/\ ∃v,z=some v/\v.oneCell'=true/\uY I.zero [v]=true
def pg (ti:Nat->Option TI)(P:Program)(t:Nat)(I:TI):Prop:=∃d i,P.underlying t=some d/\P.info? t=some i/\(I.cE=[]->i.size=I.size/\i.bytes=I.bytes)/\sU ti P I i.zero d
def jA (P:Program)(ti:Nat->Option TI):Prop:= ∀t I,ti t=some I->pg ti P t I
section
variable {P:Program}{c:Ctx}{Z:bJ}{e:Env}{st:St}{a:Act}{w:World}{R:Type}{K:St->Option R}{r:R}{Q:Exit->Act->World->Prop}{o:Oper}
theorem eW {x:Bool}{k:Option R}(h:cU x k=some r):x=true/\k=some r:=by
 cases x
 ·simp [cU] at h
 ·exact ⟨rfl,h⟩
theorem mV {α:Type}{x:Option α}{k:α->Option R}(h:bd x k=some r): ∃y,x=some y/\k y=some r:=by
 cases x with
 |none=>simp [bd] at h
 |some y=>exact ⟨y,rfl,h⟩
theorem Py {l:List MV}{i:Int}{k:MV->Option R}(h:idx l i k=some r):0<=i/\ ∃y,l[i.toNat]? =some y/\k y=some r:=by
 unfold idx RU at h;by_cases hi:0<=i
 ·simp only [hi,if_true] at h;cases hl:l[i.toNat]? with
  |none=>simp [hl] at h
  |some y=>exact ⟨hi,y,rfl,by simpa [hl] using h⟩
 ·simp [hi] at h
theorem pg.agg {ti:Nat->Option TI}{t:Nat}{I:TI}(h:pg ti P t I)(hc:I.cE=[]): (∃d,P.underlying t=some d/\d.isRow=true/\(I.st=true\/I.st=false/\I.size=32))\/(∃d,P.underlying t=some d/\d.isRow=false/\I.st=false/\I.size=1):=by
 obtain ⟨d,i,h1,h2,h3,h4⟩:=h;cases d<;>simp only [sU] at h4<;>first
  |exact .inl ⟨_,h1,rfl,.inl h4.1⟩
  |exact .inl ⟨_,h1,rfl,.inr ⟨h4.1,h4.2.2.1⟩⟩
  |exact .inr ⟨_,h1,rfl,h4.1,h4.2.2.1⟩
  |exact absurd hc h4.2.1
theorem pg.info {ti:Nat->Option TI}{t:Nat}{I:TI}(h:pg ti P t I)(hc:I.cE=[]): ∃i,P.info? t=some i/\i.size=I.size/\i.bytes=I.bytes:=by obtain ⟨d,i,h1,h2,h3,h4⟩:=h;exact ⟨i,h2,h3 hc⟩
theorem bB {t:Nat}{I:TI}(h:c.tv t=some I):c.ti t=some I/\I.cE=[]:=by
 unfold Ctx.tv at h;cases hc:c.ti t with
 |none=>simp [hc] at h
 |some J=>
  cases hj:J.cE with
  |nil=>simp [hc,hj] at h;subst h;exact ⟨rfl,hj⟩
  |cons x y=>simp [hc,hj] at h
theorem Se {s t:TypeId}{x:Operand}{I:TI}(ho:o.op= .convert s t x)(hI:c.ti t=some I)(hT:jA P c.ti)(hs: ∃d,P.underlying s=some d){fk:Option FloatKind}(HN: ∀k,fk=some k->P.underlying t=some (.float k))(h:bX c Z e st a w)(hK:Yd I fk (aN c st x) (λs=>bu c st o.dst s K)=some r):Rd P c Z K r e a w o (λ_=>True):=by
 obtain ⟨hx,_⟩:=h.eval x;obtain ⟨ds,Bv⟩:=hs;obtain ⟨d,i,h1,h2,h3,h4⟩:=hT t I hI;generalize aN c st x=s' at hx hK;unfold Yd at hK;split at hK
 ·rename_i k k' n gm KE hl;have hd:d= .int k:=by cases d<;>simp only [sU,hl,gm,KE] at h4<;>simp_all
  subst hd;refine jz h ?_ (sS _ _) trivial hK;simp [execOp,ho,lP hx,convert,run_underlying Bv,run_underlying h1,Conv.intToInt]
 ·rename_i l gm KE hl;have hd:d= .string:=by cases d<;>simp only [sU,hl,gm,KE] at h4<;>simp_all
  subst hd;obtain ⟨b,hb,rfl⟩:=FJ hx;refine jz h ?_ (YB b) trivial hK;simp [execOp,ho,hb,convert,run_underlying Bv,run_underlying h1]
 ·rename_i k x gm KE hl;have hd:d= .int k:=by cases d<;>simp only [sU,hl,gm,KE] at h4<;>simp_all
  subst hd;obtain ⟨n,hn,hK⟩:=mV hK;obtain ⟨hr,hK⟩:=eW hK;have hr:=of_decide_eq_true hr;refine jz h ?_ (sS _ _) trivial hK;simp [execOp,ho,xz hx,convert,run_underlying Bv,run_underlying h1,Conv.floatToInt,hn,hr]
 ·rename_i k n gm KE hl;split at hK
  ·have FK:=HN _ rfl;refine jz h ?_ (HM _ rfl) trivial hK;simp [execOp,ho,lP hx,convert,run_underlying Bv,run_underlying FK,Conv.intToFloat]
  ·simp at hK
 ·simp at hK
theorem acF {op:BinOp}{k:IntKind}{x y:Int}{m:MV}{t:TypeId}(hm:Uk op k x y=some m): ∃v,(∀w:World,(binOp op t (.int k x) (.int k y)).run P w= .ok v w)/\af e v (.sc (.p m)):=by
 cases op<;>simp only [Uk,BY,reduceCtorEq] at hm<;>subst hm
 ·exact ⟨_,by simp [binOp,aeY],sS _ _⟩
 ·exact ⟨_,by simp [binOp,aeY],sS _ _⟩
 ·exact ⟨_,by simp [binOp,aeY],sS _ _⟩
 ·exact ⟨.int k (RV k x y),λw=>by simp [binOp];rfl,sS _ _⟩
 ·exact ⟨.int k (bOr k x y),λw=>by simp [binOp];rfl,sS _ _⟩
 ·exact ⟨.int k (EH k x y),λw=>by simp [binOp];rfl,sS _ _⟩
 ·refine ⟨.bool (decide (x=y)),λw=> ?_,yT _⟩;simp [binOp,adC];rfl
 ·refine ⟨.bool (!decide (x=y)),λw=> ?_,yT _⟩;simp [binOp,adC];rfl
 ·exact ⟨.bool (decide (x<y)),by simp [binOp,adC],yT _⟩
 ·exact ⟨.bool (decide (x<=y)),by simp [binOp,adC],yT _⟩
 ·exact ⟨.bool (decide (y<x)),by simp [binOp,adC],yT _⟩
 ·exact ⟨.bool (decide (y<=x)),by simp [binOp,adC],yT _⟩
theorem toList_data (b:ByteArray):b.toList=b.data.toList:=by exact ByteArray.toList_eq b
theorem acG {op:BinOp}{x y:ByteArray}{m:MV}{t:TypeId}(hm:Nc op x.data.toList y.data.toList=some m): ∃v,(∀w:World,(binOp op t (.string x) (.string y)).run P w= .ok v w)/\af e v (.sc (.p m)):=by
 have aoo:(x.data.toList==y.data.toList)=decide (x.data.toList=y.data.toList):=by rw [Bool.eq_iff_iff];simp
 cases op<;>simp only [Nc,BY,reduceCtorEq] at hm<;>subst hm<;> exact ⟨_,λw=>by simp only [binOp,Op.stringOp,toList_data,aoo];rfl,yT _⟩
theorem VN (b:ByteArray)(n:Nat):b[n]? =b.data.toList[n]? :=by
 by_cases h:n<b.size
 ·have h2:n<b.data.toList.length:=by simpa using h
  rw [getElem?_pos b n h,OF h2];rfl
 ·have h2: ¬n<b.data.toList.length:=by simpa using h
  rw [getElem?_neg b n h,acJ (by omega)]
theorem Cm (x:kY)(n:Nat)(h:n<32):(bC x)[n]? =some (.int .u8 ((x.l.getD n 0).toNat:Int)):=by
 have hl:n<x.l.length:=by rw [x.h];exact h
 simp [bC,acb,List.getD,OF hl]
theorem ajR {t:TypeId}{x y:Operand}{I:TI}(ho:o.op= .index t x y)(hI:c.ti t=some I)(hT:jA P c.ti)(h:bX c Z e st a w)(hK:ixK I (aN c st x) (aN c st y) (λs=>bu c st o.dst s K)=some r):Rd P c Z K r e a w o (λ_=>True):=by
 obtain ⟨hx,_⟩:=h.eval x;obtain ⟨hy,_⟩:=h.eval y;obtain ⟨d,i,h1,h2,h3,h4⟩:=hT t I hI;generalize aN c st x=sx at hx hK;generalize aN c st y=sy at hy hK;unfold ixK at hK;split at hK
 ·rename_i l k n gm hl;have hd:d= .string:=by cases d<;>simp only [sU,hl,gm] at h4<;>simp_all
  subst hd;cases hc:decide ((0:Int)<=n/\n<(l.length:Int)) with
  |false=>simp [cU,hc] at hK
  |true=>
   simp only [cU,hc] at hK;obtain ⟨XO,O8⟩:=of_decide_eq_true hc;obtain ⟨b,hb,rfl⟩:=FJ hx;have cT:n.toNat<b.data.toList.length:=by omega
   refine jz h ?_ (sS .u8 ((b.data.toList.getD n.toNat 0).toNat:Int)) trivial hK;have hg:b[n.toNat]? =some (b.data.toList.getD n.toNat 0):=by rw [VN,OF cT];simp [List.getD,OF cT]
   simp [execOp,ho,hb,lP hy,Instr.index,run_underlying h1,asIntOf,XO,hg]
 ·rename_i b k n gm hl;cases d<;>simp only [sU,hl,gm] at h4<;>first|(exfalso;simp_all;done)|skip
  rename_i len el;cases hc:decide ((0:Int)<=n/\n<32) with
  |false=>simp [cU,hc] at hK
  |true=>
   simp only [cU,hc] at hK;obtain ⟨XO,O8⟩:=of_decide_eq_true hc;simp only [af] at hx;obtain ⟨_,_,_,rfl,_,⟨ie,hu,C1,yF⟩,_⟩:=h4;refine jz h ?_ (sS .u8 ((b.l.getD n.toNat 0).toNat:Int)) trivial hK;have hg:=Cm b n.toNat (by omega);have YC:(bC b).toArray[n.toNat]? =some (.int .u8 ((b.l.getD n.toNat 0).toNat:Int)):=by simpa using hg
   simp [execOp,ho,hx,lP hy,Instr.index,run_underlying h1,asIntOf,XO,O8,afA,isAgg,run_underlying hu,ace,typeInfo,C1,yF,hg,YC]
 ·simp at hK
def Nt (P:Program)(ti:Nat->Option TI):Prop:= ∀t I,ti t=some I->I.cE=[]-> ∀(e:Env) (w:World) (vx vy:Value) (sx sy:Slot) (b:Bool),af e vx sx->af e vy sy-> fX I.lay (aP sx)=true->fX I.lay (aP sy)=true->nD I.st sx=true->nD I.st sy=true->kl (aP sx) (aP sy)=some b-> (∀k n k' n',sx= .sc (.p (.i k n))->sy= .sc (.p (.i k' n'))->False)->(∀l l',sx= .sc (.p (.s l))->sy= .sc (.p (.s l'))->False)-> (afZ t vx vy).run P w= .ok b w/\ ∀(x y:Operand) (op:BinOp),(eqGuard op t x y vx vy).run P w= .ok () w/\(op= .eql->binOp op t vx vy=(do pure (.bool (<-afZ t vx vy))))/\(op= .neq->binOp op t vx vy=(do pure (.bool (!(<-afZ t vx vy)))))
theorem YD {op:BinOp} {t t':TypeId}{x y:Operand}(ho:o.op= .binOp op t x y t')(h:bX c Z e st a w)(hE:Nt P c.ti)(hK:af9 (c.tv t) op (aN c st x) (aN c st y) (λs=>bu c st o.dst s K)=some r):Rd P c Z K r e a w o (λ_=>True):=by
 obtain ⟨hx,_⟩:=h.eval x;obtain ⟨hy,_⟩:=h.eval y;generalize hsx:aN c st x=sx at hx hK;generalize hsy:aN c st y=sy at hy hK;have bV: ∀v,(∀w:World,(binOp op t (a.eval x) (a.eval y)).run P w= .ok v w)->(∀cs,a.eval x≠ .agg cs)->a.eval x≠ .nilIface-> ∀w:World,(execOp a.eval o).run P w= .ok (.value v) w:=by
  intro v hv hna hni w;have hg:(eqGuard op t x y (a.eval x) (a.eval y)).run P w= .ok () w:=by
   generalize a.eval x=va at hna hni;generalize a.eval y=vb;have hm: ∀(u v:Value),u=va->(∀cs,u≠ .agg cs)->u≠ .nilIface->(eqGuard op t x y u v).run P w= .ok () w:=by
    intro u v _ h1 h2;cases u<;>first
     |exact absurd rfl h2
     |exact absurd rfl (h1 _)
     |(cases op<;>rfl)
   exact hm va vb rfl hna hni
  simp [execOp,ho,hg,hv]
 unfold af9 at hK;split at hK
 ·rename_i k n k' n';have e1:=lP hx;have e2:=lP hy;split at hK
  ·cases hk:decide (k=k') with
   |false=>simp [hk] at hK
   |true=>
    have hk:=of_decide_eq_true hk;subst hk;simp only [decide_true,cond_true] at hK;cases hz:decide (n'=0) with
    |true=>simp [cU,hz] at hK
    |false=>simp only [cU,hz,afD] at hK;have hz:=of_decide_eq_false hz;refine jz h (bV _ ?_ (by simp [e1]) (by simp [e1])) (sS _ _) trivial hK;simp [binOp,e1,e2,Op.intDiv,hz]
  ·cases hk:decide (k=k') with
   |false=>simp [hk] at hK
   |true=>
    have hk:=of_decide_eq_true hk;subst hk;simp only [decide_true,cond_true] at hK;cases hz:decide (n'=0) with
    |true=>simp [cU,hz] at hK
    |false=>simp only [cU,hz,afD] at hK;have hz:=of_decide_eq_false hz;refine jz h (bV _ ?_ (by simp [e1]) (by simp [e1])) (sS _ _) trivial hK;simp [binOp,e1,e2,Op.intDiv,hz]
  ·cases hz:decide ((0:Int)<=n') with
   |false=>simp [cU,hz] at hK
   |true=>
    simp only [cU,hz] at hK;have hz:=of_decide_eq_true hz;refine jz h (bV _ ?_ (by simp [e1]) (by simp [e1])) (sS _ _) trivial hK;have: ¬n'<0:=by omega
    simp [binOp,e1,e2,Op.shift,this]
  ·cases hz:decide ((0:Int)<=n') with
   |false=>simp [cU,hz] at hK
   |true=>
    simp only [cU,hz] at hK;have hz:=of_decide_eq_true hz;refine jz h (bV _ ?_ (by simp [e1]) (by simp [e1])) (sS _ _) trivial hK;have: ¬n'<0:=by omega
    simp [binOp,e1,e2,Op.shift,this]
  ·cases hk:decide (k=k') with
   |false=>simp [hk] at hK
   |true=>
    have hk:=of_decide_eq_true hk;subst hk;simp only [decide_true,cond_true] at hK;cases hm:Uk op k n n' with
    |none=>simp [hm] at hK
    |some m=>simp only [hm] at hK;obtain ⟨v,hv,hr⟩:=acF (P:=P) (e:=e) (t:=t) hm;exact jz h (bV v (by rw [e1,e2];exact hv) (by simp [e1]) (by simp [e1])) hr trivial hK
 ·rename_i l l';obtain ⟨b,hb,rfl⟩:=FJ hx;obtain ⟨b',GM,rfl⟩:=FJ hy;split at hK
  ·obtain ⟨hz,hK⟩:=eW hK
   ·have hz:=of_decide_eq_true hz;have hr:af e (.string (b++b')) (.sc (.p (.s (b.data.toList++b'.data.toList)))):=by have:=YB (e:=e) (b++b');simpa [ByteArray.data_append] using this
    refine jz h (bV _ ?_ (by simp [hb]) (by simp [hb])) hr trivial hK;have hs: ¬(((b.size+b'.size:Nat):Int)>IntKind.i64.max):=by
     have h1:b.size=b.data.toList.length:=by simp
     have h2:b'.size=b'.data.toList.length:=by simp
     have:IntKind.i64.max=9223372036854775807:=by decide
     rw [this];omega
    intro w;simp only [binOp,hb,GM,Op.stringOp,hs,if_false];rfl
  ·cases hm:Nc op b.data.toList b'.data.toList with
   |none=>simp [hm] at hK
   |some m=>simp only [hm] at hK;obtain ⟨v,hv,hr⟩:=acG (P:=P) (e:=e) (t:=t) hm;exact jz h (bV v (by rw [hb,GM];exact hv) (by simp [hb]) (by simp [hb])) hr trivial hK
 ·have e1:=xz hx;have e2:=xz hy;obtain ⟨r',hr',hK⟩:=mV hK;refine jz h (bV _ ?_ (by simp [e1]) (by simp [e1])) (HM (.float .f64 r') rfl) trivial hK;intro w;cases op<;>simp only [ajG,reduceCtorEq] at hr'<;>simp [binOp,e1,e2,Op.floatArith,hr']
 ·rename_i O8 Hj hn3;split at hK
  ·rename_i I hI;obtain ⟨KQ,zF⟩:=bB hI;cases hf:fX I.lay (aP sx)&&fX I.lay (aP sy)&&(nD I.st sx&&nD I.st sy) with
   |false=>simp [hf] at hK
   |true=>
    simp only [hf,cond_true] at hK;simp only [ab5] at hf;obtain ⟨hf,YE⟩:=hf;split at hK
    ·cases hm:kl (aP sx) (aP sy) with
     |none=>simp [hm] at hK
     |some b=>simp only [hm] at hK;refine jz h ?_ (yT b) trivial hK;intro w;obtain ⟨h1,h2⟩:=hE t I KQ zF e w _ _ sx sy b hx hy hf.1 hf.2 YE.1 YE.2 hm O8 Hj;have:=(h2 x y .eql).1;simp [execOp,ho,this,(h2 x y .eql).2.1 rfl,h1]
    ·cases hm:kl (aP sx) (aP sy) with
     |none=>simp [hm] at hK
     |some b=>simp only [hm] at hK;refine jz h ?_ (yT (!b)) trivial hK;intro w;obtain ⟨h1,h2⟩:=hE t I KQ zF e w _ _ sx sy b hx hy hf.1 hf.2 YE.1 YE.2 hm O8 Hj;have:=(h2 x y .neq).1;simp [execOp,ho,this,(h2 x y .neq).2.2 rfl,h1]
    ·simp at hK
  ·simp at hK
end
end Dn
/-
  Lengths, parts, places, loads. Conditions: none.
-/
namespace Dn
open Go
section
variable {P:Program}{c:Ctx}{Z:bJ}{e:Env}{st:St}{a:Act}{w:World}{R:Type}{K:St->Option R}{r:R}{Q:Exit->Act->World->Prop}{o:Oper}
theorem cell_of {bq:Nat}{arr:Array Value}{T:TypeId}{fr:Nat×Nat}(h:w.heap[bq]? =some (.cells arr T fr))(j:Nat):w.cell? ⟨bq,j,none⟩=arr[j]? :=by simp [World.cell?,h]
theorem mj {t:TypeId}{I:TI}{bq off:Nat}{vs:List Value}(hr:pg c.ti P t I)(hc:I.cE=[])(hl:vs.length=I.size)(hm:w.rangeAt bq off vs): ((I.st=true\/I.size=32)/\ ∀w:World,w.rangeAt bq off vs->(adr t (.pointer (some ⟨bq,off,none⟩))).run P w= .ok (.agg vs.toArray) w)\/ (I.st=false/\ ∃v,vs=[v]/\ ∀w:World,w.rangeAt bq off vs->(adr t (.pointer (some ⟨bq,off,none⟩))).run P w= .ok v w):=by
 obtain ⟨i,hi,hs,_⟩:=hr.info hc;rcases hr.agg hc with ⟨d,hu,hd,hh⟩|⟨d,hu,hd,h1,h2⟩
 ·refine .inl ⟨hh.imp id (·.2),λw hm=> ?_⟩;exact run_loadAt_mid w bq off t vs d hm hu hd (by simp [hi,hs,hl])
 ·refine .inr ⟨h1,?_⟩;rw [h2] at hl;obtain ⟨v,rfl⟩:=acu.1 hl;refine ⟨v,rfl,λw hm=> ?_⟩;have sF:w.cell? ⟨bq,off,none⟩=some v:=hm 0 v rfl;have Uq:(isAgg t).run P w= .ok false w:=by unfold isAgg;rw [afa,run_underlying hu w];cases d<;>simp_all
  simp [adr,adx,loadVar,Uq,sF]
theorem aU.slot {vs:List Value}{l:aD}{v:Value}(h:aU e vs l)(hv:(vs=[v]/\l.w=1)\/(v= .agg vs.toArray/\l.w=32)):af e v (.sc l):=by
 rcases hv with ⟨rfl,hw⟩|⟨rfl,hw⟩
 ·cases l<;>simp [af,aD.w] at hw⊢ <;>exact h
 ·cases l<;>simp [aD.w] at hw;simp only [af];have:vs=bC _:=h;rw [this]
theorem jB {t:TypeId}{I:TI}{cs:List aD}{bq base off:Nat}{vs:List Value}{s:Slot} {K':Slot->Option R}(hr:pg c.ti P t I)(hc:I.cE=[])(hv:ay e vs cs)(hm:w.rangeAt bq base vs)(hK:kj I cs off K'=some r): ∃v s,(∀w:World,w.rangeAt bq base vs->(adr t (.pointer (some ⟨bq,base+off,none⟩))).run P w= .ok v w)/\af e v s/\cL st.fr s/\K' s=some r:=by
 unfold kj at hK;cases gm:I.st with
 |true=>
  simp only [gm,cond_true] at hK;cases hp:Dn.part cs off I.size with
  |none=>simp [hp] at hK
  |some ds=>
   simp only [hp] at hK;obtain ⟨v1,v2,v3,rfl,h1,h2,h3⟩:=LJ hp hv;have O9: ∀w:World,w.rangeAt bq base (v1++v2++v3)->w.rangeAt bq (base+off) v2:=by intro w hm j v hj;have XP:j<v2.length:=(AT.1 hj).1;have:=hm (off+j) v (by rw [AI,aaU (by omega),aaW (by omega)];rw [show off+j-v1.length=j by omega];exact hj);rwa [<-ac6] at this
   rcases mj hr hc h2 (O9 w hm) with ⟨_,bV⟩|⟨hf,_⟩
   ·refine ⟨_,.ag ds,λw hm=>bV w (O9 w hm),?_,trivial,hK⟩;simp only [af];exact ⟨_,rfl,by simpa using h3⟩
   ·rw [gm] at hf;cases hf
 |false=>
  simp only [gm,cond_false] at hK;cases hp:cut cs off with
  |none=>simp [hp] at hK
  |some ds=>
   cases ds with
   |nil=>simp [hp] at hK
   |cons l ls=>
    simp only [hp] at hK;cases hb:cM l.w I.size with
    |false=>simp [hb] at hK
    |true=>
     simp only [hb,cond_true] at hK;have hw:=sh hb;obtain ⟨v1,v2,rfl,h1,h2⟩:=zC hp hv;obtain ⟨u,u2,rfl,h3,h4⟩:=h2;have O9: ∀w:World,w.rangeAt bq base (v1++(u++u2))->w.rangeAt bq (base+off) u:=by intro w hm j v hj;have XP:j<u.length:=(AT.1 hj).1;have:=hm (off+j) v (by rw [aaU (by omega),aaW (by omega)];rw [show off+j-v1.length=j by omega];exact hj);rwa [<-ac6] at this
     rcases mj hr hc (by rw [h3.width,hw]) (O9 w hm) with ⟨hh,bV⟩|⟨_,v,Nu,bV⟩
     ·refine ⟨_,.sc l,λw hm=>bV w (O9 w hm),h3.slot (.inr ⟨rfl,?_⟩),trivial,hK⟩;rcases hh with hh|hh
      ·rw [gm] at hh;cases hh
      ·rw [hw,hh]
     ·refine ⟨_,.sc l,λw hm=>bV w (O9 w hm),h3.slot (.inl ⟨Nu,?_⟩),trivial,hK⟩;rw [<-h3.width,Nu];rfl
theorem bx.at {key:Nat->Nat} {φ:Ph}{size:Nat}{xs:List MV}: ∀{cs:List Value} {i:Nat} {x:MV},bx key φ size cs xs->xs[i]? =some x-> ∃a v b,cs=a++v++b/\a.length=i *size/\v.length=size/\jo key φ v x:=by
 induction xs with
 |nil=>intro cs i x _ hx;simp at hx
 |cons y ys ih=>
  intro cs i x h hx;obtain ⟨v,q,rfl,hl,hr,he⟩:=h;cases i with
  |zero=>simp at hx;subst hx;exact ⟨[],v,q,by simp,by simp,hl,hr⟩
  |succ i=>obtain ⟨a,u,b,rfl,h1,h2,h3⟩:=ih he (by simpa using hx);exact ⟨v++a,u,b,by simp,by simp [hl,h1,acn,afc],h2,h3⟩
theorem iO.leaves {ms:List MV}: ∀{vs:List Value} {cs:List aD},iO e.key e.φ vs ms->bR cs=some ms->(∀m,aD.p m∈cs->m.one=true)->ay e vs cs:=by
 induction ms with
 |nil=>
  intro vs cs h hc _;cases h;cases cs with
  |nil=>rfl
  |cons l r=>cases hr:bR r<;>cases l<;>simp [bR,hr] at hc
 |cons m ms ih=>
  intro vs cs h hc ho;cases cs with
  |nil=>simp [bR] at hc
  |cons l r=>
   generalize zj:vs=RQ at h;cases h with
   |cons v _ vs _ h1 h2=>
   subst zj;cases hr:bR r with
   |none=>cases l<;>simp [bR,hr] at hc
   |some q=>
    have cJ: ∀m,aD.p m∈r->m.one=true:=λm hm=>ho m (by simp [hm]);cases l<;>simp [bR,hr] at hc
    ·obtain ⟨rfl,rfl⟩:=hc;exact ⟨v,vs,rfl,⟨ho _ (by simp),h1⟩,ih h2 hr cJ⟩
    ·obtain ⟨rfl,rfl⟩:=hc;refine ⟨v,vs,rfl,?_,ih h2 hr cJ⟩;generalize hv:v=v' at h1;cases h1;exact rfl
theorem jo.HO {vs:List Value}{x:MV}{b:Bool}{cs:List aD}(h:jo e.key e.φ vs x)(hc:HH b x cs):ay e vs cs:=by
 obtain ⟨⟨ms,h1,h2⟩,h3⟩:=hc;cases b with
 |true=>cases ms<;>simp [vP] at h2<;>subst h2<;>(generalize hv:vs=v' at h;cases h;subst hv;rename_i hh;exact hh.leaves h1 h3)
 |false=>
  cases ms with
  |nil=>simp [vP] at h2
  |cons m ms=>
   cases ms with
   |cons y ys=>simp [vP] at h2
   |nil=>simp [vP] at h2;subst h2;have:iO e.key e.φ (vs++[]) [m]:= .cons vs m [] [] h .nil;rw [List.append_nil] at this;exact this.leaves h1 h3
theorem YF {t:TypeId}{x:Operand}{I:TI}{cs:List aD}{off:Nat}(ho:o.op= .load t x)(hI:c.tv t=some I)(hT:jA P c.ti)(h:bX c Z e st a w)(LN:aN c st x= .rp cs off)(hK:kj I cs off (λs=>bu c st o.dst s K)=some r):Rd P c Z K r e a w o (λw'=> ∀b q v,e.φ b q=some v->w'.cell? ⟨b,q,none⟩=some v):=by
 obtain ⟨hx,rC⟩:=h.eval x;obtain ⟨mW,hc⟩:=bB hI;have hr:=hT t I mW;rw [LN] at hx;simp only [af] at hx;obtain ⟨bq,q,vs,hx,qw,_,EO⟩:=hx;have hm: ∀w':World,(∀b q v,e.φ b q=some v->w'.cell? ⟨b,q,none⟩=some v)->w'.rangeAt bq q vs:=by intro w' hi j v hj;have XP:j<vs.length:=(AT.1 hj).1;exact hi _ _ _ (by rw [EO j XP];exact hj)
 obtain ⟨v,s,h1,h2,h3,h4⟩:=jB (st:=st) (s:= .skip) hr hc qw (hm w h.kE) hK;refine Sd (λw' hi=> ?_) h (.refl _ _ _) (.of h2 h3) h4;simp [execOp,ho,hx,h1 w' (hm w' hi)]
theorem acH {t:TypeId}{x:Operand}{I:TI}(ho:o.op= .load t x)(hI:c.tv t=some I)(hT:jA P c.ti)(h:bX c Z e st a w)(hK:ldK st I (aN c st x) (λs=>bu c st o.dst s K)=some r):Rd P c Z K r e a w o (dC w):=by
 obtain ⟨hx,rC⟩:=h.eval x;obtain ⟨mW,hc⟩:=bB hI;have hr:=hT t I mW;have acI: ∀v s,(∀w':World,dC w w'->(adr t (a.eval x)).run P w'= .ok v w')->af e v s->cL st.fr s->bu c st o.dst s K=some r->Rd P c Z K r e a w o (dC w):=by intro v s h1 h2 h3 h4;refine Sd (λw' hg=> ?_) h (.refl _ _ _) (.of h2 h3) h4;simp [execOp,ho,h1 w' hg]
 have keep: ∀{w':World} {bq off:Nat} {vs:List Value},dC w w'->w.rangeAt bq off vs->w'.rangeAt bq off vs:=by intro w' bq off vs hg hm j v hj;exact hg.cell (hm j v hj)
 generalize aN c st x=s at hx hK rC;unfold ldK at hK;split at hK
 ·rename_i root off;simp only [af] at hx;have mU:=h.slot root;split at hK
  ·rename_i cs xA;rw [xA] at mU;have uN:gn cs=false:=by cases hq:gn cs<;>simp_all
   simp only [uN,cond_false] at hK;obtain ⟨_,sR⟩:=mU;obtain ⟨arr,T,eh,qw⟩:=sR.cells uN;have hm:w.rangeAt (e.B root) 0 arr.toList:=by intro j v hj;rw [ab9,cell_of eh];simpa using hj
   obtain ⟨v,s,h1,h2,h3,h4⟩:=jB (st:=st) (s:= .skip) hr hc qw hm hK;rw [ab9] at h1;exact acI v s (λw' hg=>by rw [hx];exact h1 w' (keep hg hm)) h2 h3 h4
  ·simp at hK
 ·rename_i cs off;simp only [af] at hx;obtain ⟨bq,q,vs,hx,qw,_,EO⟩:=hx;have hm:w.rangeAt bq q vs:=by intro j v hj;have XP:j<vs.length:=(AT.1 hj).1;exact h.kE _ _ _ (by rw [EO j XP];exact hj)
  obtain ⟨v,s,h1,h2,h3,h4⟩:=jB (st:=st) (s:= .skip) hr hc qw hm hK;exact acI v s (λw' hg=>by rw [hx];exact h1 w' (keep hg hm)) h2 h3 h4
 ·rename_i f i off b cs;cases hf:aQ st.bo f with
  |none=>simp [hf] at hK
  |some o'=>
   simp only [hf] at hK;simp only [af] at hx;obtain ⟨bq,cap,hE,⟨x,hxi,hel⟩,hx⟩:=hx o' (by rw [h.m];exact hf);obtain ⟨J,cells,hJ,hJc,eQ,mX,_⟩:=(h.iy f o' hf).row;obtain ⟨p1,v1,p2,rfl,Nv,yE,gU⟩:=mX.at hxi;have qw:=gU.HO hel;rw [hE] at eQ;have sF:=eQ.cells (g:=bq) rfl;have hm:w.rangeAt bq (i *zn cs) v1:=by intro j v hj;have XP:j<v1.length:=(AT.1 hj).1;have:=sF (i *J.size+j) v (by rw [AI,aaU (by omega),aaW (by omega)];rw [show i *J.size+j-p1.length=j by omega];exact hj);rw [aco,ab9] at this;rw [<-qw.width,yE];exact this
   obtain ⟨v,s,h1,h2,h3,h4⟩:=jB (st:=st) (s:= .skip) hr hc qw hm hK;exact acI v s (λw' hg=>by rw [hx];exact h1 w' (keep hg hm)) h2 h3 h4
 ·rename_i root off i;simp only [af] at hx;obtain ⟨hx,Sf⟩:=hx;have mU:=h.slot root;cases hb:I.st||!cM I.size 1 with
  |true=>simp [hb] at hK
  |false=>
   simp only [hb,cond_false] at hK;simp only [acg,ady] at hb;have qm:=sh hb.2;split at hK
   ·rename_i cs xA;rw [xA] at mU;have uN:gn cs=false:=by cases hq:gn cs<;>simp_all
    simp only [uN,cond_false] at hK;obtain ⟨_,sR⟩:=mU;obtain ⟨arr,T,eh,qw⟩:=sR.cells uN;split at hK
    ·rename_i b ls agp;obtain ⟨v1,v2,aop,h1,h2⟩:=zC agp qw;obtain ⟨u,u2,rfl,h3,h4⟩:=h2;have h3:u=bC b:=h3;subst h3;have hg:=Cm b i Sf;have hlen:=dm b;have hm:w.rangeAt (e.B root) (off+i) [.int .u8 ((b.l.getD i 0).toNat:Int)]:=by
      intro j v hj;cases j with
      |succ j=>simp at hj
      |zero=>
       simp at hj;rw [adw,cell_of eh];have:arr[off+i]? =arr.toList[off+i]? :=by simp
       rw [this,aop,aaU (by omega),aaW (by omega),show off+i-v1.length=i by omega,hg,<-hj];simp [List.getD]
     rcases mj hr hc (by simp [qm]) hm with ⟨hh,_⟩|⟨_,v,Nu,bV⟩
     ·rcases hh with hh|hh
      ·rw [hb.1] at hh;cases hh
      ·omega
     ·simp at Nu;subst Nu;exact acI _ _ (λw' hg=>by rw [hx];exact bV w' (keep hg hm)) (sS _ _) trivial hK
    ·simp at hK
   ·simp at hK
 ·simp at hK
theorem VO {t:TypeId}{x:Operand}{f:Nat}{I:TI}(ho:o.op= .fieldAddr t x f)(hI:c.tv t=some I)(hT:jA P c.ti)(h:bX c Z e st a w)(hK:Yf st I f (aN c st x) (λs=>bu c st o.dst s K)=some r):Rd P c Z K r e a w o (λ_=>True):=by
 obtain ⟨hx,rC⟩:=h.eval x;obtain ⟨mW,hc⟩:=bB hI;obtain ⟨d,i,h1,h2,h3,h4⟩:=hT t I mW;have key: ∀q bq off,I.st=true->I.Hv[f]? =some q->a.eval x= .pointer (some ⟨bq,off,none⟩)-> ∀w:World,(execOp a.eval o).run P w= .ok (.value (.pointer (some ⟨bq,off+q,none⟩))) w:=by
  intro q bq off gm hq hv w;cases d<;>simp only [sU] at h4;case struct fs=>
   obtain ⟨_,_,_,Sg,cJ,Pz,_⟩:=h4;rw [<-Sg,acb] at hq;cases hf:fs.toList[f]? with
   |none=>simp [hf] at hq
   |some fl=>
    simp [hf] at hq;subst hq;have VP:fs[f]? =some fl:=by simpa using hf
    obtain ⟨J,hJ,hJc,hJs⟩:=Pz f fl VP;obtain ⟨ij,hij,hs,_⟩:=(hT _ _ hJ).info hJc;have hz:ij.size≠0:=by omega
    simp [execOp,ho,hv,Instr.fieldAt,run_underlying h1,VP,adx,fieldPlace,ace,typeInfo,hij,hz,aco]
  all_goals (exfalso;simp_all)
 generalize aN c st x=s at hx hK rC;unfold Yf at hK;split at hK
 ·rename_i q r' o' gm hq;simp only [af] at hx;refine jz (s:= .ptr r' (o'+q)) h (key q _ _ gm hq hx) ?_ rC hK;simp only [af]
 ·rename_i q cs o' gm hq;simp only [af] at hx;obtain ⟨bq,b,vs,hx,hh⟩:=hx;refine jz (s:= .rp cs (o'+q)) h (key q _ _ gm hq hx) ?_ trivial hK;simp only [af];exact ⟨bq,b,vs,by rw [ac6],hh⟩
 ·rename_i q g i' o' b cs gm hq;cases hf:aQ st.bo g with
  |none=>simp [hf] at hK
  |some w'=>simp only [hf] at hK;simp only [af] at hx;obtain ⟨bq,cap,h5,h6,h7⟩:=hx w' (by rw [h.m];exact hf);refine jz (s:= .ep g i' (o'+q) b cs) h (key q _ _ gm hq h7) ?_ trivial hK;simp only [af];intro o2 cJ;rw [h.m,hf] at cJ;cases cJ;exact ⟨bq,cap,h5,h6,by rw [ac6]⟩
 ·simp at hK
theorem VQ {cs:List aD}: ∀{vs:List Value} {k:Nat} {l:aD},ay e vs cs->Da cs k=some l-> ∃v,vs[k]? =some v/\af e v (.sc l):=by
 induction cs with
 |nil=>intro vs k l _ hk;simp [Da] at hk
 |cons x xs ih=>
  intro vs k l hr hk;obtain ⟨v0,q,rfl,h1,h2⟩:=hr;have hw:=h1.width;have hx:x.w=1/\(k=0->x=l)/\(∀j,k=j+1->Da xs j=some l)/\ ∀y,x≠ .hs y:=by cases x<;>cases k<;>simp [Da,aD.w] at hk⊢ <;>exact hk
  obtain ⟨w1,w2,w3,w4⟩:=hx;rw [w1] at hw;obtain ⟨u,rfl⟩:=acu.1 hw;cases k with
  |zero=>have:=w2 rfl;subst this;refine ⟨u,rfl,?_⟩;cases x<;>first|(simp [af];done)|exact absurd rfl (w4 _)|(simp only [af];exact h1)
  |succ j=>obtain ⟨v,g1,g2⟩:=ih h2 (w3 j rfl);exact ⟨v,by simpa using g1,g2⟩
theorem agq {x:Operand}{k:Nat}(ho:o.op= .extract x k)(h:bX c Z e st a w)(hK:age (aN c st x) k (λs=>bu c st o.dst s K)=some r):Rd P c Z K r e a w o (λ_=>True):=by
 obtain ⟨hx,rC⟩:=h.eval x;generalize aN c st x=s at hx hK;unfold age at hK;split at hK
 ·rename_i cs;simp only [af] at hx;obtain ⟨arr,hv,hs⟩:=hx;cases hk:Da cs k with
  |none=>simp [hk] at hK
  |some l=>
   simp only [hk] at hK;obtain ⟨v,FL,h1⟩:=VQ hs hk;have hv3:arr[k]? =some v:=by simpa using FL
   refine jz h ?_ h1 trivial hK;simp [execOp,ho,hv,Instr.extract,hv3]
 ·rename_i vs;simp only [af] at hx;obtain ⟨arr,hv,hs⟩:=hx;cases hk:vs[k]? with
  |none=>simp [hk] at hK
  |some s=>
   simp only [hk] at hK;have: ∀(k:Nat) (vs:List Slot) (l:List Value),lc e l vs->vs[k]? =some s-> ∃v,l[k]? =some v/\af e v s/\BL s=true:=by
    intro k;induction k with
    |zero=>
     intro vs l hl hk;cases vs with
     |nil=>simp at hk
     |cons y ys=>simp at hk;subst hk;simp only [lc] at hl;obtain ⟨v,q,rfl,h1,h2,_⟩:=hl;exact ⟨v,rfl,h1,h2⟩
    |succ k ih=>
     intro vs l hl hk;cases vs with
     |nil=>simp at hk
     |cons y ys=>simp only [lc] at hl;obtain ⟨v,q,rfl,_,_,h3⟩:=hl;obtain ⟨u,h4,h5⟩:=ih ys q h3 (by simpa using hk);exact ⟨u,by simpa using h4,h5⟩
   obtain ⟨v,FL,h1,h2⟩:=this k vs arr.toList hs hk;have hv3:arr[k]? =some v:=by simpa using FL
   refine jz h ?_ h1 ?_ hK
   ·simp [execOp,ho,hv,Instr.extract,hv3]
   ·cases s<;>simp [BL] at h2<;>trivial
 ·simp at hK
end
end Dn
/-
  Operations that make memory: variables. Conditions: none.
-/
namespace Dn
open Go
section
variable {P:Program}{c:Ctx}{Z:bJ}{e:Env}{st:St}{a:Act} {w w':World}{R:Type}{K:St->Option R}{r:R}{Q:Exit->Act->World->Prop}{o:Oper}
theorem dC.refl (w:World):dC w w:=⟨abK _,λ_ _=>rfl,.refl _⟩
theorem dC.alloc (w:World)(cs:Array Value)(t:TypeId):dC w (w.alloc (.cells cs t)):=⟨by simp,λb hb=>qU w _ b hb,.alloc w cs t⟩
theorem dC.aoq (g:dC w w'){base:Nat}{t:TypeId}{size:Nat}{v:Value}{n:Nat}{xs:List Value}(h:w.ownsRow base t size v n xs):w'.ownsRow base t size v n xs:=by
 refine ⟨h.1,?_⟩;rcases h.2 with h|⟨b,cap,fB,h1,h2,h3,h4⟩
 ·exact .inl h
 ·exact .inr ⟨b,cap,fB,h1,h2,by rw [g.ql b (ba h3)];exact h3,h4⟩
theorem uZ.grow (g:dC w w'){bq:Nat}{cs:List aD}(h:uZ Z e w bq cs):uZ Z e w' bq cs:=by obtain ⟨o,h1,h2⟩:=h.obj;exact ⟨h.cB,⟨o,by rw [g.ql _ (ba h1)];exact h1,h2⟩,h.free⟩
theorem cK.grow (g:dC w w'){v:Value}{f:oZ}(h:cK c Z e w v f):cK c Z e w' v f:=by obtain ⟨I,cells,h1,h2,h3,h4,h5⟩:=h.row;exact ⟨I,cells,h1,h2,g.aoq h3,h4,h5⟩
theorem bX.grow (g:dC w w')(h:bX c Z e st a w):bX c Z e st a w':=by refine ⟨h.defers,h.size,h.m,h.key,h.nodup,?_,h.root,λf o ho=>(h.iy f o ho).grow g,h.bb,h.bf,h.ff,λb o v hv=>g.cell (h.kE b o v hv),λb hb=>h.cB b (adQ g.size hb)⟩;intro t;have hs:=h.slot t;generalize av st.fr t=s at hs;cases s<;>simp only [cj] at hs⊢ <;>first|exact hs|exact ⟨hs.1,hs.2.grow g⟩
theorem dC.trans (g:dC w w')(hz: ∀b,w.heap.size<=b->Z b) (φ:Ph):Trans Z φ w φ w':=⟨.refl φ,λb _ hl=>g.ql b hl,λ_ _ _=>rfl,g.size,g.rest⟩
theorem VR {l:aD}{vs:List Value}(h:Ys l vs=true):aU e vs l:=by
 unfold Ys at h;split at h
 ·simp at h;subst h;exact ⟨rfl,.b _⟩
 ·simp at h;obtain ⟨rfl,rfl⟩:=h;exact ⟨rfl,.i _ _⟩
 ·simp at h;subst h;exact ⟨rfl,.s _⟩
 ·split at h
  ·exact ⟨rfl,.raw _ rfl⟩
  ·exact ⟨rfl,.raw _ rfl⟩
  ·exact ⟨rfl,.raw _ rfl⟩
  ·simp at h
 ·rfl
 ·exact ⟨_,rfl,h⟩
 ·rename_i x;simp only [ab5,beq_iff_eq] at h;obtain ⟨h1,h2⟩:=h;show vs=bC x;apply List.ext_getElem?;intro j;by_cases hj:j<32
  ·rw [Cm x j hj];have hjv:j<vs.length:=by omega
   have C2:j<x.l.length:=by rw [x.h];exact hj
   rw [afm] at h2;have hm:(vs[j],x.l[j])∈vs.zip x.l:=ae2.2 ⟨j,by simp;omega,by simp⟩;have:=h2 _ hm;rw [OF hjv];dsimp only at this;split at this
   ·rename_i n hn;rw [hn,of_decide_eq_true this];simp [List.getD,OF C2]
   ·simp at this
  ·rw [acJ (by omega),acJ (by rw [dm];omega)]
 ·simp at h
theorem ml {ls:List aD}: ∀{vs:List Value},uY ls vs=true->ay e vs ls:=by
 induction ls with
 |nil=>intro vs h;simpa [uY,ay] using h
 |cons l r ih=>intro vs h;simp only [uY,ab5] at h;exact ⟨vs.take l.w,vs.drop l.w,by simp,VR h.1.1,ih h.1.2⟩
theorem ay.zG {cs:List aD}{vs:List Value}(h:ay e vs cs):gn cs=false:=by
 cases hm:gn cs with
 |false=>rfl
 |true=>obtain ⟨s,ms,rfl⟩:=Nn hm;obtain ⟨_,_,_,h1,_⟩:=h;exact h1.elim
theorem HP (h:bX c Z e st a w)(off:Nat):e.φ w.heap.size off=none:=by
 cases hp:e.φ w.heap.size off with
 |none=>rfl
 |some v=>have:=aca w _ (h.kE _ _ _ hp);simp at this
theorem AZ (h:bX c Z e st a w):(∀t ke,av st.fr t= .box ke->e.B t≠w.heap.size)/\(∀f o,aQ st.bo f=some o->(e.E f).ownBlock≠some w.heap.size):=by
 refine ⟨?_,?_⟩
 ·intro t ke ht;have hs:=h.slot t;rw [ht] at hs;obtain ⟨o,h1,_⟩:=hs.2.obj;have:=ba h1;omega
 ·intro f o ho hk;obtain ⟨I,cells,h1,h2,h3,h4,h5⟩:=(h.iy f o ho).row;rcases h3.2 with ⟨hv,_⟩|⟨g,cap,fB,hv,_,hg,_⟩
  ·rw [hv] at hk;simp [aa1] at hk
  ·rw [hv] at hk;simp only [aa1,BY] at hk;have:=ba hg;omega
theorem Ur {cells:Array Value}{T:TypeId}{cs:List aD}(h:bX c Z e st a w)(hl:ay e cells.toList cs): qv Z e (w.alloc (.cells cells T)) st (.pointer (some ⟨w.heap.size,0,none⟩)) (.box cs):=by exact ⟨w.heap.size,by rw [tQ hl.zG],⟨h.cB _ (abK _),⟨_,gG w _,rfl,hl⟩,HP h⟩,(AZ h).1,(AZ h).2⟩
theorem YG {t:TypeId}{I:TI}(ho:o.op= .alloc t)(hI:c.tv t=some I)(hT:jA P c.ti)(h:bX c Z e st a w)(hK:bu c st o.dst (.box I.zero) K=some r):o.wp P a w (λa' w'=>dC w w'/\Out c Z K r e.φ w a' w') Q:=by
 obtain ⟨mW,hc⟩:=bB hI;obtain ⟨d,i,h1,h2,h3,h4⟩:=hT t I mW;have hz: ∃z,i.zero=some z/\ay e z.cells.toList I.zero:=by
  cases d<;>simp only [sU] at h4;case struct fs=>obtain ⟨_,_,_,_,_,_,cs,hz,hl,_⟩:=h4;exact ⟨_,hz,by simpa [abX] using ml hl⟩
  case tuple ts=>exact absurd hc h4.2.1
  case slice el=>obtain ⟨_,_,_,_,_,hz,hl,_⟩:=h4;exact ⟨_,hz,by rw [hl];exact ⟨[.slice none 0 0],[],rfl,rfl,rfl⟩⟩
  case array n el=>obtain ⟨_,_,_,_,_,_,_,hl,hz⟩:=h4;exact ⟨_,hz,by rw [hl];exact ⟨bC kY.zero,[],by simp [abX],rfl,rfl⟩⟩
  case bool=>obtain ⟨_,_,_,_,hl,hz⟩:=h4;exact ⟨_,hz,by rw [hl];exact ⟨[.bool false],[],rfl,⟨rfl,.b _⟩,rfl⟩⟩
  case int k=>obtain ⟨_,_,_,_,hl,hz⟩:=h4;exact ⟨_,hz,by rw [hl];exact ⟨[.int k 0],[],rfl,⟨rfl,.i _ _⟩,rfl⟩⟩
  case string=>obtain ⟨_,_,_,_,hl,b,hz,hb⟩:=h4;refine ⟨_,hz,by rw [hl];refine ⟨[.string b],[],rfl,⟨rfl,?_⟩,rfl⟩;rw [<-hb];exact .s b⟩
  all_goals
   obtain ⟨_,_,_,_,v,hz,hv,hl⟩:=h4;refine ⟨v,hz,?_⟩;have:v.cells.toList=[v]:=by cases v<;>simp_all [abX,aaT]
   rw [this];exact ml hl
 obtain ⟨z,hz,hl⟩:=hz;have bV:(execOp a.eval o).run P w= .ok (.value (.pointer (some ⟨w.heap.size,0,none⟩))) (w.alloc (.cells z.cells t)):=by simp [execOp,ho,Instr.alloc,zeroValue,typeInfo,h2,hz,newVar,newRow,newObj,Sem.run]
 exact VM (.alloc w _ _) bV (h.grow (.alloc w _ _)) ((dC.alloc w _ _).trans h.cB _) (Ur h hl) hK
theorem agr {t:TypeId}{x:Operand}{I:TI}(ho:o.op= .box t x)(h:bX c Z e st a w)(hK:agb I (aN c st x) (λs=>bu c st o.dst s K)=some r):o.wp P a w (λa' w'=>dC w w'/\Out c Z K r e.φ w a' w') Q:=by
 obtain ⟨hx,rC⟩:=h.eval x;have bV:(execOp a.eval o).run P w= .ok (.value (.pointer (some ⟨w.heap.size,0,none⟩))) (w.alloc (.cells (a.eval x).cells t)):=by simp [execOp,ho,Instr.box,newVar,newRow,newObj,Sem.run]
 have go: ∀cs,ay e (a.eval x).cells.toList cs->bu c st o.dst (.box cs) K=some r->o.wp P a w (λa' w'=>dC w w'/\Out c Z K r e.φ w a' w') Q:=λcs h1 h2=>VM (.alloc w _ _) bV (h.grow (.alloc w _ _)) ((dC.alloc w _ _).trans h.cB _) (Ur h h1) h2;generalize aN c st x=s at hx hK rC;unfold agb at hK;split at hK
 ·rename_i l;cases hb:I.st||Pk l||!cM l.w I.size with
  |true=>simp [hb] at hK
  |false=>
   simp only [hb,cond_false] at hK;refine go [l] ?_ hK;cases l with
   |un=>simp [Pk] at hb
   |hs y=>simp only [af] at hx;rw [hx];exact ⟨bC y,[],by simp [abX],rfl,rfl⟩
   |p m=>
    simp only [af] at hx;have:(a.eval x).cells.toList=[a.eval x]:=by have:=hx.cells (a.eval x) (by simp);generalize a.eval x=v at this;cases v<;>simp_all [abX,aaT]
    rw [this];exact ⟨_,[],rfl,hx,rfl⟩
   |nil=>simp only [af] at hx;have EB:[a.eval x]=[ach none 0 0]:=hx;simp at EB;rw [EB];exact ⟨[.slice none 0 0],[],rfl,rfl,rfl⟩
   |mp s es=>simp [Pk] at hb
   |own f=>
    simp only [af] at hx;have:(a.eval x).cells.toList=[a.eval x]:=by have:=hx.cells (a.eval x) (by simp);generalize a.eval x=v at this;cases v<;>simp_all [abX,aaT]
    rw [this];exact ⟨_,[],rfl,hx,rfl⟩
 ·rename_i cs;cases hb:I.st&&!wB cs&&cM (zn cs) I.size with
  |false=>simp [hb] at hK
  |true=>simp only [hb,cond_true] at hK;simp only [af] at hx;obtain ⟨arr,hx,hl⟩:=hx;exact go cs (by rw [hx];exact hl) hK
 ·simp at hK
end
end Dn
/-
  Stores into variables. Conditions: none.
-/
namespace Dn
open Go
section
variable {P:Program}{c:Ctx}{Z:bJ}{e:Env}{st:St}{a:Act} {w w':World}{R:Type}{K:St->Option R}{r:R}{Q:Exit->Act->World->Prop}{o:Oper}
theorem setRow_size (w:World)(g:Nat)(cs:Array Value):(w.setRow g cs).heap.size=w.heap.size:=by simp [afV]
structure XQ (g:Nat) (w w':World):Prop where
 size:w'.heap.size=w.heap.size
 other: ∀b,b≠g->w'.heap[b]? =w.heap[b]?
 rest:Rest w w'
theorem XQ.setRow (w:World)(g:Nat)(cs:Array Value):XQ g w (w.setRow g cs):=⟨setRow_size _ _ _,λb hb=>setRow_other _ _ _ _ hb,.setRow _ _ _⟩
theorem PA {g:Nat}(hc:XQ g w w'){base:Nat}{t:TypeId}{size:Nat}{v:Value}{n:Nat}{xs:List Value}(db:v.ownBlock≠some g)(h:w.ownsRow base t size v n xs):w'.ownsRow base t size v n xs:=by
 refine ⟨h.1,?_⟩;rcases h.2 with h|⟨b,cap,fB,h1,h2,h3,h4⟩
 ·exact .inl h
 ·refine .inr ⟨b,cap,fB,h1,h2,?_,h4⟩;rw [hc.other _ (by intro e;subst e;subst h1;exact db rfl)];exact h3
theorem Sh {g:Nat}{cs:Array Value}{base:Nat}{t:TypeId}{size:Nat}{v:Value}{n:Nat}{xs:List Value}(db:v.ownBlock≠some g)(h:w.ownsRow base t size v n xs):(w.setRow g cs).ownsRow base t size v n xs:=PA (.setRow w g cs) db h
theorem bX.setObj {root:Nat}{cs ke:List aD} {o':Obj}{qu:Fr}(h:bX c Z e st a w)(hf:av st.fr root= .box cs)(HQ:XQ (e.B root) w w')(tT:w'.heap[e.B root]? =some o')(hl:kN e o' ke)(YH:mf ke=mf cs)(EP: ∀t,av qu t=if t=root then .box ke else av st.fr t)(hnd:(aX qu).Nodup):bX c Z e {st with fr:=qu} a w':=by
 have qm:=HQ.size;have pf:=h.slot root;rw [hf] at pf;refine ⟨h.defers,h.size,h.m,h.key,hnd,?_,?_,?_,?_,?_,h.ff,?_,λb hb=>h.cB b (by omega)⟩
 ·intro t;show cj Z e _ t _ (av qu t);rw [EP];by_cases ht:t=root
  ·subst ht;simp only [if_true,cj];exact ⟨pf.1.mf YH,⟨pf.2.cB,⟨o',tT,hl⟩,pf.2.free⟩⟩
  ·simp only [ht,if_false];have hs:=h.slot t;have tR:=h.bb t root;generalize hg:av st.fr t=s at hs tR;cases s<;>simp only [cj] at hs⊢ <;>try exact hs
   rename_i qg;refine ⟨hs.1,hs.2.cB,?_,hs.2.free⟩;obtain ⟨o2,h1,h2⟩:=hs.2.obj;exact ⟨o2,by rw [HQ.other _ (tR qg cs rfl hf ht)];exact h1,h2⟩
 ·intro t;show cL qu (av qu t);rw [EP];by_cases ht:t=root
  ·simp [ht,cL]
  ·simp only [ht,if_false];have hr:=h.root t;generalize av st.fr t=s at hr;cases s<;>simp only [cL] at hr⊢ <;>(rw [EP];split<;>simp_all [dg])
 ·intro f o ho;obtain ⟨I,cells,h1,h2,h3,h4,h5⟩:=(h.iy f o ho).row;exact ⟨I,cells,h1,h2,PA HQ (h.bf root cs f o hf ho) h3,h4,h5⟩
 ·intro t t' c1 c2 h1 h2 db;have h1:av qu t= .box c1:=h1;have h2:av qu t'= .box c2:=h2;rw [EP] at h1 h2;by_cases ht:t=root
  ·by_cases Df:t'=root
   ·exact absurd (ht.trans Df.symm) db
   ·simp only [Df,if_false] at h2;rw [ht];exact h.bb root t' cs c2 hf h2 (by rw [<-ht];exact db)
  ·simp only [ht,if_false] at h1;by_cases Df:t'=root
   ·rw [Df];exact h.bb t root c1 cs h1 hf ht
   ·simp only [Df,if_false] at h2;exact h.bb t t' c1 c2 h1 h2 db
 ·intro t c1 f o h1 h2;have h1:av qu t= .box c1:=h1;rw [EP] at h1;by_cases ht:t=root
  ·rw [ht];exact h.bf root cs f o hf h2
  ·simp only [ht,if_false] at h1;exact h.bf t c1 f o h1 h2
 ·intro b o v hv;have db:b≠e.B root:=by intro eb;subst eb;rw [pf.2.free] at hv;cases hv
  have:=h.kE b o v hv;rw [acf (HQ.other _ db)];exact this
theorem bX.YI {root:Nat}{cs ke:List aD}{arr zH:Array Value}{T:TypeId}{qu:Fr}(h:bX c Z e st a w)(hf:av st.fr root= .box cs)(eh:w.heap[e.B root]? =some (.cells arr T (0,0)))(hl:ay e zH.toList ke)(EP: ∀t,av qu t=if t=root then .box ke else av st.fr t)(hnd:(aX qu).Nodup):bX c Z e {st with fr:=qu} a (w.setRow (e.B root) zH):=by
 have pf:=h.slot root;rw [hf] at pf;have hm:gn cs=false:=by obtain ⟨o,h1,h2⟩:=pf.2.obj;rw [eh] at h1;cases h1;exact h2.2.zG
 exact h.setObj hf (.setRow _ _ _) (setRow_heap _ _ _ _ _ _ eh) ⟨rfl,hl⟩ (by rw [Dd hm,Dd hl.zG]) EP hnd
theorem Trans.chg {g:Nat} (φ:Ph)(HQ:XQ g w w')(hz:Z g):Trans Z φ w φ w':=⟨.refl φ,λb hb _=>HQ.other _ (by intro e;subst e;exact hb hz),λ_ _ _=>rfl,by rw [HQ.size];exact abK _,HQ.rest⟩
theorem Trans.setRow {g:Nat}{zH:Array Value} (φ:Ph)(hz:Z g):Trans Z φ w φ (w.setRow g zH):=⟨.refl φ,λb hb _=>setRow_other _ _ _ _ (by intro e;subst e;exact hb hz),λ_ _ _=>rfl,by rw [setRow_size];exact abK _,.setRow _ _ _⟩
theorem BM {v:Value}{s:Slot}(h:af e v s)(hu:wB (aP s)=false)(db:aP s≠[]):ay e v.cells.toList (aP s):=by
 cases s with
 |sc l=>
  simp only [aP] at hu⊢;have lF: ∀l,aU e [v] l->ay e v.cells.toList [l]:=by
   intro l hl;have hc:=hl.cells v (by simp);have:v.cells.toList=[v]:=by cases v<;>simp_all [abX,aaT]
   rw [this];exact ⟨[v],[],rfl,hl,rfl⟩
  cases l with
  |un=>simp [wB,Pk] at hu
  |hs x=>simp only [af] at h;rw [h];exact ⟨bC x,[],by simp [abX],rfl,rfl⟩
  |p m=>simp only [af] at h;exact lF _ h
  |nil=>simp only [af] at h;exact lF _ h
  |mp s es=>simp [wB,Pk] at hu
  |own f=>simp only [af] at h;exact lF _ h
 |ag cs=>simp only [af] at h;obtain ⟨arr,rfl,hl⟩:=h;exact hl
 |_=>exact absurd rfl db
theorem n9 {t:TypeId}{I:TI}{bq off:Nat}{v:Value}{arr:Array Value}{T:TypeId}(hr:pg c.ti P t I)(hc:I.cE=[])(hs:v.cells.toList.length=I.size)(lF: ∀u∈v.cells.toList,u.oneCell'=true)(eh:w.heap[bq]? =some (.cells arr T (0,0)))(HR:off+I.size<=arr.size): (adB t (.pointer (some ⟨bq,off,none⟩)) v).run P w= .ok () (w.setRow bq (arr.toList.take off++v.cells.toList++arr.toList.drop (off+I.size)).toArray):=by
 obtain ⟨i,hi,qm,_⟩:=hr.info hc;have h1:=run_storeCells_at P bq off T v.cells.toList 0 arr w eh (by omega) lF;rw [adw,hs] at h1;have h2:v.cells.size=i.size:=by rw [qm,<-hs];simp
 simp [adB,adx,storeVar,ace,typeInfo,hi,h2,h1]
theorem VS {t:TypeId}{I:TI}{root off:Nat}{v:Value}{cs ls ke:List aD} {K':St->Option R}(uN:gn cs=false)(hr:pg c.ti P t I)(hc:I.cE=[])(h:bX c Z e st a w)(hf:av st.fr root= .box cs)(hv:ay e v.cells.toList ls)(HS:zn ls=I.size)(hp:putAt cs off ls=some ke)(hK:wr st root (.box ke) K'=some r): ∃w' bU,(adB t (.pointer (some ⟨e.B root,off,none⟩)) v).run P w= .ok () w'/\bX c Z e bU a w'/\Trans Z e.φ w e.φ w'/\K' bU=some r:=by
 have mU:=h.slot root;rw [hf] at mU;obtain ⟨arr,T,eh,qw⟩:=mU.2.cells uN;obtain ⟨v1,v2,v3,he,h1,h2,h3⟩:=xx hp qw hv;have hlen:=hv.width;have qm:arr.size=v1.length+v2.length+v3.length:=by
  have:arr.toList.length=(v1++v2++v3).length:=by rw [he]
  simp at this;omega
 have bV:=n9 (P:=P) (w:=w) (bq:=e.B root) (off:=off) hr hc (by rw [hlen,HS]) hv.cells eh (by omega);have ajT:arr.toList.take off=v1:=by rw [he,AI,adk h1]
 have ajU:arr.toList.drop (off+I.size)=v3:=by rw [he];exact acq (by rw [IT];omega)
 rw [ajT,ajU] at bV;unfold wr at hK;cases hn:bI st.cz root with
 |true=>simp [hn] at hK
 |false=>simp only [hn,cond_false,force_eq,n8] at hK;refine ⟨_,_,bV,?_,.setRow _ (O7 mU.2.cB (by rw [<-h.defers.2.1,<-bH,hn];simp)),hK⟩;exact h.YI hf eh (by simpa using h3) (λt=>by rw [bZ]) (fO h.nodup)
end
end Dn
/-
  Owned slices that are shared from now on; what is handed to a callee. Conditions: none.
-/
namespace Dn
open Go
section
variable {P:Program}{c:Ctx}{Z:bJ}{e:Env}{st:St}{a:Act} {w w':World}{R:Type}{K:St->Option R}{r:R}{Q:Exit->Act->World->Prop}{o:Oper}
theorem bx.mono {key:Nat->Nat} {φ φ':Ph}(h:lE φ φ'){size:Nat}{xs:List MV}: ∀{cs:List Value},bx key φ size cs xs->bx key φ' size cs xs:=by
 induction xs with
 |nil=>intro cs hh;exact hh
 |cons x xs ih=>intro cs hh;obtain ⟨v,q,rfl,h1,h2,h3⟩:=hh;exact ⟨v,q,rfl,h1,h2.mono h,ih h3⟩
theorem bx.length {key:Nat->Nat} {φ:Ph}{size:Nat}{xs:List MV}: ∀{cs:List Value},bx key φ size cs xs->cs.length=xs.length *size:=by
 induction xs with
 |nil=>intro cs hh;cases hh;simp
 |cons x xs ih=>intro cs hh;obtain ⟨v,q,rfl,h1,h2,h3⟩:=hh;simp [h1,ih h3,acn,afc]
theorem Si {m:List (Nat×oZ)}{f:Nat}{o:oZ}(h:aQ m f=some o):b7 m f o=m:=by
 induction m with
 |nil=>simp [aQ] at h
 |cons p r ih=>
  obtain ⟨k,x⟩:=p;simp only [aQ,b7,eD] at h⊢;by_cases hk:k=f
  ·subst hk;simp at h;subst h;simp
  ·simp only [hk,decide_false,cond_false] at h⊢;rw [ih h]
def kG (φ:Ph)(v:Value)(cells:List Value):Ph:=λb off=>if v.ownBlock=some b/\off<cells.length then cells[off]? else φ b off
theorem u5 {base:Nat}{t:TypeId}{size n:Nat}{v:Value}{xs ys:List Value}(h:w.ownsRow base t size v n xs) (h':w.ownsRow base t size v n ys){b:Nat}(hb:v.ownBlock=some b):xs=ys:=by
 rcases h.2 with ⟨h1,_⟩|⟨g,cap,fB,h1,_,h2,_,_,_,h3⟩
 ·rw [h1] at hb;simp [aa1] at hb
 ·rcases h'.2 with ⟨FK,_⟩|⟨g',YJ,auc,FK,_,Nw,_,_,_,h3'⟩
  ·rw [FK] at hb;simp [aa1] at hb
  ·rw [h1] at FK;simp at FK;obtain ⟨rfl,rfl⟩:=FK;rw [h2] at Nw;simp at Nw;subst Nw;rw [<-h3,<-h3']
theorem freeze {f:Nat}{o:oZ}(h:bX c Z e st a w)(hf:aQ st.bo f=some o)(hp:f∉Z.cS\/o.eV=true): ∃φ',lE e.φ φ'/\(∀b off,¬Z b->φ' b off=e.φ b off)/\bX c Z {e with φ:=φ',m:=b7 e.m f ⟨o.ty,true,o.xs⟩} {st with bo:=b7 st.bo f ⟨o.ty,true,o.xs⟩} a w/\ jo e.key φ' [e.E f] (.list o.xs)/\ (∀I cells,c.ti o.ty=some I->w.ownsRow 0 o.ty I.size (e.E f) o.xs.length cells-> ∀bq,(e.E f).ownBlock=some bq-> ∀j,j<cells.length->φ' bq j=cells[j]?):=by
 obtain ⟨I,cells,hI,hIc,eQ,mX,hz⟩:=(h.iy f o hf).row;have hlen:=mX.length;have hle:lE e.φ (kG e.φ (e.E f) cells):=by
  intro b off v hv;unfold kG;by_cases hc:(e.E f).ownBlock=some b/\off<cells.length
  ·simp only [hc,and_self,if_true];obtain ⟨hb,ho⟩:=hc;rcases eQ.2 with ⟨hE,_⟩|⟨g,cap,fB,hE,_,hg,hn,KE,xA,Hk⟩
   ·rw [hE] at hb;simp [aa1] at hb
   ·rw [hE] at hb;simp only [aa1,BY] at hb;subst hb;have:=h.kE _ _ _ hv;rw [cell_of hg] at this;rw [<-Hk,acj];have cJ:off<o.xs.length *I.size:=by omega
    simp only [cJ,if_true];simpa using this
  ·simp only [hc,if_false];exact hv
 have lV: ∀b off v,kG e.φ (e.E f) cells b off=some v->w.cell? ⟨b,off,none⟩=some v:=by
  intro b off v hv;unfold kG at hv;by_cases hc:(e.E f).ownBlock=some b/\off<cells.length
  ·simp only [hc,and_self,if_true] at hv;rcases eQ.2 with ⟨hE,_⟩|⟨g,cap,fB,hE,_,hg,hn,KE,xA,Hk⟩
   ·rw [hE] at hc;simp [aa1] at hc
   ·rw [hE] at hc;simp only [aa1,BY] at hc;obtain ⟨hb,ho⟩:=hc;subst hb;rw [cell_of hg];rw [<-Hk,acj] at hv;have cJ:off<o.xs.length *I.size:=by omega
    simp only [cJ,if_true] at hv;simpa using hv
  ·simp only [hc,if_false] at hv;exact h.kE _ _ _ hv
 have ajV: ∀b off,¬Z b->kG e.φ (e.E f) cells b off=e.φ b off:=by
  intro b off hb;unfold kG;by_cases hc:(e.E f).ownBlock=some b/\off<cells.length
  ·by_cases Cn:f∈Z.cS
   ·simp only [hc,and_self,if_true];exact (((hz b hc.1).2.2 Cn (hp.resolve_left (λhn=>hn Cn))) off hc.2).symm
   ·exact absurd (O7 (hz b hc.1).1 Cn) hb
  ·simp [hc]
 have Sj: ∀b off,(e.E f).ownBlock≠some b->kG e.φ (e.E f) cells b off=e.φ b off:=by intro b off hb;unfold kG;simp [hb]
 have uL:mi (λ_=>True) (λ_=>True) e {e with φ:=kG e.φ (e.E f) cells,m:=b7 e.m f ⟨o.ty,true,o.xs⟩}:=by
  refine ⟨rfl,hle,λ_ _=>rfl,?_⟩;intro f2 o2 cJ _;have cJ:aQ (b7 e.m f ⟨o.ty,true,o.xs⟩) f2=some o2:=cJ;rw [bw] at cJ;by_cases fT:f2=f
  ·subst fT;simp at cJ;subst cJ;exact ⟨o,by rw [h.m];exact hf,rfl,rfl⟩
  ·simp only [fT,if_false] at cJ;exact ⟨o2,cJ,rfl,rfl⟩
 have kF: ∀s:Slot,gO (λ_=>True) (λ_=>True) s:=by intro s;cases s<;>simp [gO,jR]
 refine ⟨_,hle,ajV,?_,?_,?_⟩;rotate_right
 ·intro I' Ny hI' ajW bq hb j hj;rw [hI] at hI';cases hI';have hcc:=u5 eQ ajW hb;subst hcc;unfold kG;simp [hb,hj]
 ·refine ⟨h.defers,h.size,by show b7 e.m f _=b7 st.bo f _;rw [h.m],h.key,h.nodup,?_,h.root,?_,h.bb,?_,?_,lV,h.cB⟩
  ·intro t;have hs:=h.slot t;have hbf:=h.bf t;show cj Z _ w t _ (av st.fr t);generalize av st.fr t=s at hs hbf;cases s<;>simp only [cj] at hs⊢ <;>try exact hs.on uL (kF _)
   rename_i cs;refine ⟨hs.1,hs.2.cB,?_,?_⟩
   ·obtain ⟨o2,h1,h2⟩:=hs.2.obj;exact ⟨o2,h1,h2.on uL (λl _ f _=>trivial)⟩
   ·intro off;show kG e.φ (e.E f) cells (e.B t) off=none;rw [Sj _ _ (hbf cs f o rfl hf)];exact hs.2.free off
  ·intro f2 o2 cJ;have cJ:aQ (b7 st.bo f ⟨o.ty,true,o.xs⟩) f2=some o2:=cJ;rw [bw] at cJ;by_cases fT:f2=f
   ·subst fT;simp at cJ;subst cJ;refine ⟨I,cells,hI,hIc,eQ,mX.mono hle,?_⟩;intro bq hb;refine ⟨(hz bq hb).1,?_,?_⟩;rotate_left
    ·intro _ _ j hj;show kG e.φ (e.E f2) cells bq j=_;have hb:(e.E f2).ownBlock=some bq:=hb;unfold kG;simp [hb,hj]
    intro off u hu;refine ⟨rfl,?_⟩;have hu:kG e.φ (e.E f2) cells bq off=some u:=hu;unfold kG at hu;by_cases hc:(e.E f2).ownBlock=some bq/\off<cells.length
    ·show off<o.xs.length *I.size;rw [<-hlen];exact hc.2
    ·simp only [hc,if_false] at hu;exact ((hz bq hb).2.1 off u hu).2
   ·simp only [fT,if_false] at cJ;obtain ⟨I2,xB,h1,h2,h3,h4,h5⟩:=(h.iy f2 o2 cJ).row;refine ⟨I2,xB,h1,h2,h3,h4.mono hle,?_⟩;intro bq hb;refine ⟨(h5 bq hb).1,?_,?_⟩;rotate_left
    ·intro g1 g2 j hj;show kG e.φ (e.E f) cells bq j=_;rw [Sj _ _ (λhbf=>fT (h.ff f2 f o2 o bq cJ hf hb hbf))];exact (h5 bq hb).2.2 g1 g2 j hj
    intro off u hu;have hu:kG e.φ (e.E f) cells bq off=some u:=hu;rw [Sj _ _ (λhbf=>fT (h.ff f2 f o2 o bq cJ hf hb hbf))] at hu;exact (h5 bq hb).2.1 off u hu
  ·intro t cs f2 o2 h1 h2;have h2:aQ (b7 st.bo f ⟨o.ty,true,o.xs⟩) f2=some o2:=h2;rw [bw] at h2;by_cases fT:f2=f
   ·subst fT;exact h.bf t cs f2 o h1 hf
   ·simp only [fT,if_false] at h2;exact h.bf t cs f2 o2 h1 h2
  ·intro f1 f2 o1 o2 k h1 h2 h3 h4;have h1:aQ (b7 st.bo f ⟨o.ty,true,o.xs⟩) f1=some o1:=h1;have h2:aQ (b7 st.bo f ⟨o.ty,true,o.xs⟩) f2=some o2:=h2;rw [bw] at h1 h2;have g1: ∃o',aQ st.bo f1=some o':=by
    by_cases fT:f1=f
    ·subst fT;exact ⟨o,hf⟩
    ·simp only [fT,if_false] at h1;exact ⟨o1,h1⟩
   have g2: ∃o',aQ st.bo f2=some o':=by
    by_cases fT:f2=f
    ·subst fT;exact ⟨o,hf⟩
    ·simp only [fT,if_false] at h2;exact ⟨o2,h2⟩
   obtain ⟨q1,g1⟩:=g1;obtain ⟨q2,g2⟩:=g2;exact h.ff f1 f2 q1 q2 k g1 g2 h3 h4
 ·have zI:=mX.mono hle;rcases eQ.2 with ⟨hE,hn⟩|⟨g,cap,fB,hE,_,hg,hn,KE,xA,Hk⟩
  ·have hx:o.xs=[]:=No hn;have hv:[e.E f]=[ach none 0 0]:=by rw [hE]
   rw [hv,hx];exact .list none 0 [] 0 0 0 (λ_=>[]) (by simp) (by simp) (by simp) (by simp) (by simp)
  ·have hv:[e.E f]=[ach (some ⟨g,0,none⟩) o.xs.length cap]:=by rw [hE]
   rw [hv];have PB: ∀i (hi:i<o.xs.length),∃v1,v1.length=I.size/\jo e.key (kG e.φ (e.E f) cells) v1 o.xs[i]/\(cells.drop (i *I.size)).take I.size=v1:=by intro i hi;obtain ⟨p1,v1,p2,he,Nv,yE,gU⟩:=zI.at (OF hi);refine ⟨v1,yE,gU,?_⟩;rw [he,AI,<-Nv,afF,<-yE,adz]
   refine .list (some ⟨g,0,none⟩) cap o.xs g 0 I.size (λi=>(cells.drop (i *I.size)).take I.size) hn (λ_=>rfl) ?_ ?_ ?_
   ·intro i hi;obtain ⟨v1,h1,_,h3⟩:=PB i hi;rw [h3,h1]
   ·intro i j hi hj;have hb:(e.E f).ownBlock=some g:=by rw [hE];rfl
    have EQ:i *I.size+j<cells.length:=by
     rw [hlen];calc i *I.size+j<i *I.size+I.size:=by omega
      _=(i+1) *I.size:=by rw [acn]
      _<=o.xs.length *I.size:=ab6 _ hi
    rw [ab9];unfold kG;simp only [hb,EQ,and_self,if_true];rw [acj];simp only [hj,if_true,ae9]
   ·intro i hi;obtain ⟨v1,_,h2,h3⟩:=PB i hi;rw [h3];exact h2
end
end Dn
/-
  Arguments and results. Conditions: none.
-/
namespace Dn
open Go
structure Ext (Z:Nat->Prop) (e e':Env):Prop where
 on:mi (λ_=>True) (λ_=>True) e e'
 cB: ∀b off,¬Z b->e'.φ b off=e.φ b off
theorem Ext.refl (Z:Nat->Prop)(e:Env):Ext Z e e:=⟨⟨rfl,.refl _,λ_ _=>rfl,λf o h _=>⟨o,h,rfl,rfl⟩⟩,λ_ _ _=>rfl⟩
theorem Ext.trans {Z:Nat->Prop} {e e' e'':Env}(h:Ext Z e e') (h':Ext Z e' e''):Ext Z e e'':=by refine ⟨⟨h'.on.key.trans h.on.key,h.on.φ.trans h'.on.φ,λr hr=>(h'.on.B r hr).trans (h.on.B r hr),?_⟩,λb off hb=>(h'.cB b off hb).trans (h.cB b off hb)⟩;intro f o ho _;obtain ⟨o1,h1,h2,h3⟩:=h'.on.iy f o ho trivial;obtain ⟨o2,h4,h5,h6⟩:=h.on.iy f o1 h1 trivial;exact ⟨o2,h4,h2.trans h5,h3.trans h6⟩
theorem Ext.tr {Z:Nat->Prop} {e e':Env}{w:World}(h:Ext Z e e'):Trans Z e.φ w e'.φ w:=⟨h.on.φ,λ_ _ _=>rfl,h.cB,abK _,.refl _⟩
theorem eR (s:Slot):gO (λ_=>True) (λ_=>True) s:=by cases s<;>simp [gO,jR]
def bS (key:Nat->Nat) (φ:Ph):List Value->List MV->Prop
 |vs,[]=>vs=[]
 |vs,m::ms=> ∃v r,vs=v::r/\fS key φ v m/\bS key φ r ms
theorem bS.mono {key:Nat->Nat} {φ φ':Ph}(h:lE φ φ'){ms:List MV}: ∀{vs:List Value},bS key φ vs ms->bS key φ' vs ms:=by
 induction ms with
 |nil=>intro vs hh;exact hh
 |cons m ms ih=>intro vs hh;obtain ⟨v,r,rfl,h1,h2⟩:=hh;exact ⟨v,r,rfl,h1.mono h,ih h2⟩
theorem bS.append {key:Nat->Nat} {φ:Ph}{ms ns:List MV}: ∀{vs us:List Value},bS key φ vs ms->bS key φ us ns->bS key φ (vs++us) (ms++ns):=by
 induction ms with
 |nil=>intro vs us h h';cases h;simpa using h'
 |cons m ms ih=>intro vs us h h';obtain ⟨v,r,rfl,h1,h2⟩:=h;exact ⟨v,r++us,rfl,h1,ih h2 h'⟩
section
variable {P:Program}{c:Ctx}{Z:bJ}{e:Env}{st:St}{a:Act} {w w':World}{R:Type}{r:R}{Q:Exit->Act->World->Prop}{o:Oper}
theorem mn {l:aD}{vs:List Value}{K:MV->St->Option R}(h:bX c Z e st a w)(hl:aU e vs l)(hK:oo st l K=some r): ∃e' bU m,bX c Z e' bU a w/\Ext Z e e'/\bU.fr=st.fr/\jo e'.key e'.φ vs m/\K m bU=some r/\(tL l=true->e'=e/\bU=st)/\(∀f,l= .own f-> ∃o,aQ st.bo f=some o/\m= .list o.xs)/\((∀x,l≠ .hs x)->m.one=true):=by
 cases l with
 |un=>simp [oo] at hK
 |p m=>exact ⟨e,st,m,h,.refl _ _,rfl,hl.2,hK,λ_=>⟨rfl,rfl⟩,by simp,λ_=>hl.1⟩
 |hs x=>have hl:vs=bC x:=hl;subst hl;exact ⟨e,st,.h x,h,.refl _ _,rfl,.h x,hK,λ_=>⟨rfl,rfl⟩,by simp,λhx=>absurd rfl (hx x)⟩
 |nil=>have hl:vs=[.slice none 0 0]:=hl;subst hl;exact ⟨e,st,.list [],h,.refl _ _,rfl,.list none 0 [] 0 0 0 (λ_=>[]) (by simp) (by simp) (by simp) (by simp) (by simp),hK,λhp=>by simp [tL] at hp,λ_ he=>(by cases he),λ_=>rfl⟩
 |mp s es=>simp [oo] at hK
 |own f=>
  simp only [oo] at hK;cases hf:aQ st.bo f with
  |none=>simp [hf] at hK
  |some o=>
   simp only [hf] at hK;have Cn:f∉Z.cS\/o.eV=true:=by
    cases hz:o.eV with
    |true=>exact .inr rfl
    |false=>refine .inl (λhm=> ?_);rw [<-h.defers.2.2.1,<-bH] at hm;simp [hz,hm] at hK
   obtain ⟨φ',h1,h2,h3,h4,_⟩:=freeze h hf Cn;obtain ⟨v,rfl,hv,hE⟩:=hl;have hE:=hE o (by rw [h.m];exact hf);subst hE;have acL:Ext Z e {e with φ:=φ',m:=b7 e.m f ⟨o.ty,true,o.xs⟩}:=by
    refine ⟨⟨rfl,h1,λ_ _=>rfl,?_⟩,h2⟩;intro f2 o2 cJ _;have cJ:aQ (b7 e.m f ⟨o.ty,true,o.xs⟩) f2=some o2:=cJ;rw [bw] at cJ;by_cases fT:f2=f
    ·subst fT;simp at cJ;subst cJ;exact ⟨o,by rw [h.m];exact hf,rfl,rfl⟩
    ·simp only [fT,if_false] at cJ;exact ⟨o2,cJ,rfl,rfl⟩
   cases hz:o.eV with
   |true=>
    simp only [hz,cond_true] at hK;have Us:b7 st.bo f ⟨o.ty,true,o.xs⟩=st.bo:=by rw [<-hz];exact Si hf
    rw [Us] at h3;exact ⟨_,st,.list o.xs,h3,acL,rfl,h4,hK,λhp=>by simp [tL] at hp,λ_ he=>by cases he;exact ⟨o,hf,rfl⟩,λ_=>rfl⟩
   |false=>
    simp only [hz,cond_false] at hK;cases hn:bI st.cS f with
    |true=>simp [hn] at hK
    |false=>simp only [hn,cond_false,pe] at hK;exact ⟨_,_,.list o.xs,h3,acL,rfl,h4,hK,λhp=>by simp [tL] at hp,λ_ he=>by cases he;exact ⟨o,hf,rfl⟩,λ_=>rfl⟩
theorem nO {ls:List aD}: ∀{e:Env} {st:St} {vs:List Value} {K:List MV->St->Option R},bX c Z e st a w->ay e vs ls->rq st ls K=some r-> ∃e' bU ms,bX c Z e' bU a w/\Ext Z e e'/\bU.fr=st.fr/\iO e'.key e'.φ vs ms/\K ms bU=some r/\(jc ls=true->e'=e/\bU=st)/\(∀ps,se ls ms=some ps->ay e' vs ps/\jc ps=true):=by
 induction ls with
 |nil=>intro e st vs K h hl hK;cases hl;exact ⟨e,st,[],h,.refl _ _,rfl,.nil,hK,λ_=>⟨rfl,rfl⟩,λps hp=>by simp [se] at hp;subst hp;exact ⟨rfl,rfl⟩⟩
 |cons l ls ih=>
  intro e st vs K h hl hK;obtain ⟨v,u,rfl,h1,h2⟩:=hl;simp only [rq] at hK;obtain ⟨e1,dk,m,yF,ER,ES,xC,nP,hp1,_,lF⟩:=mn h h1 hK;obtain ⟨e2,dM,ms,PC,GN,acM,Cl,xp,LO,BN⟩:=ih yF (h2.on ER.on (λl _ f _=>trivial)) nP;have hrm:jo e2.key e2.φ v m:=by have:=xC.mono GN.on.φ;rw [<-GN.on.key] at this;exact this
  refine ⟨e2,dM,m::ms,PC,ER.trans GN,acM.trans ES,.cons v m u ms ?_ Cl,xp,?_,?_⟩
  ·have:=xC.mono GN.on.φ;rw [<-GN.on.key] at this;exact this
  ·intro hp;simp only [jc,ab5] at hp;obtain ⟨q1,q2⟩:=hp1 hp.1;obtain ⟨q3,q4⟩:=LO hp.2;exact ⟨q3.trans q1,q4.trans q2⟩
  ·intro ps hp;cases hq:se ls ms with
   |none=>cases l<;>simp [se,hq] at hp
   |some q=>
    obtain ⟨g1,g2⟩:=BN q hq;by_cases hh: ∃x,l= .hs x
    ·obtain ⟨x,rfl⟩:=hh;simp [se,hq] at hp;subst hp;exact ⟨⟨v,u,rfl,h1,g1⟩,by simp [jc,tL,g2]⟩
    ·have lF:=lF (λx hx=>hh ⟨x,hx⟩);have GO:ps= .p m::q:=by cases l<;>simp [se,hq] at hp<;>first|exact hp.symm|exact absurd ⟨_,rfl⟩ hh
     subst GO;exact ⟨⟨v,u,rfl,⟨lF,hrm⟩,g1⟩,by simp [jc,tL,g2]⟩
theorem oQ {s:Slot}{v:Value}{K:MV->St->Option R}(h:bX c Z e st a w)(hl:af e v s)(hK:nC st s K=some r): ∃e' bU m,bX c Z e' bU a w/\Ext Z e e'/\bU.fr=st.fr/\fS e'.key e'.φ v m/\K m bU=some r:=by
 cases s with
 |sc l=>
  simp only [nC] at hK;cases l with
  |un=>simp [oo] at hK
  |hs x=>simp only [af] at hl;exact ⟨e,st,.h x,h,.refl _ _,rfl,by simpa [fS,bC] using hl,hK⟩
  |p m=>simp only [af] at hl;refine ⟨e,st,m,h,.refl _ _,rfl,?_,hK⟩;obtain ⟨h1,h2⟩:=hl;cases m<;>simp [MV.one] at h1<;>exact ⟨rfl,h2⟩
  |nil=>simp only [af] at hl;obtain ⟨e',bU,m,q1,q2,q3,q4,q5,q6,_⟩:=mn h hl hK;have hl:[v]=[ach none 0 0]:=hl;refine ⟨e,st,.list [],h,.refl _ _,rfl,⟨rfl,?_⟩,hK⟩;rw [hl];exact .list none 0 [] 0 0 0 (λ_=>[]) (by simp) (by simp) (by simp) (by simp) (by simp)
  |mp s es=>simp [oo] at hK
  |own f=>
   simp only [af] at hl;simp only [oo] at hK;cases hf:aQ st.bo f with
   |none=>simp [hf] at hK
   |some o=>obtain ⟨e',bU,m,q1,q2,q3,q4,q5,q6,q7⟩:=mn (l:= .own f) h hl (by simpa only [oo,hf] using hK);obtain ⟨o2,_,rfl⟩:=q7.1 f rfl;exact ⟨e',bU,.list o2.xs,q1,q2,q3,⟨rfl,q4⟩,q5⟩
 |ag cs=>simp only [af] at hl;obtain ⟨arr,hv,hl⟩:=hl;simp only [nC] at hK;obtain ⟨e',bU,ms,q1,q2,q3,q4,q5,_⟩:=nO h hl hK;exact ⟨e',bU,.agg ms,q1,q2,q3,⟨arr,hv,q4⟩,q5⟩
 |rp cs off=>
  simp only [af] at hl;obtain ⟨bq,q,vs,hv,qw,hp,EO⟩:=hl;simp only [nC] at hK;cases hb:cM off 0 with
  |false=>simp [hb] at hK
  |true=>simp only [hb,cond_true] at hK;have h0:=sh hb;subst h0;obtain ⟨e',bU,ms,q1,q2,q3,q4,q5,q6⟩:=nO h qw hK;obtain ⟨rfl,rfl⟩:=q6.1 hp;refine ⟨e',bU,.rp ms,q1,q2,q3,⟨rfl,?_⟩,q5⟩;rw [hv];exact .rp bq (q+0) vs ms q4 (by simpa using EO)
 |_=>simp [nC] at hK
theorem sV {ss:List Slot}: ∀{e:Env} {st:St} {vs:List Value} {K:List MV->St->Option R},bX c Z e st a w->(∃f:Unit->List Value,f ()=vs/\vs.length=ss.length/\ ∀(i:Nat) (v:Value) (s:Slot),vs[i]? =some v->ss[i]? =some s->af e v s)-> xu st ss K=some r-> ∃e' bU ms,bX c Z e' bU a w/\Ext Z e e'/\bU.fr=st.fr/\bS e'.key e'.φ vs ms/\K ms bU=some r:=by
 induction ss with
 |nil=>intro e st vs K h hl hK;obtain ⟨f,_,hlen,_⟩:=hl;have:=No hlen;subst this;exact ⟨e,st,[],h,.refl _ _,rfl,rfl,hK⟩
 |cons s ss ih=>
  intro e st vs K h hl hK;obtain ⟨f,_,hlen,gU⟩:=hl;cases vs with
  |nil=>simp at hlen
  |cons v vs=>simp only [xu] at hK;obtain ⟨e1,dk,m,q1,q2,q3,q4,q5⟩:=oQ h (gU 0 v s rfl rfl) hK;obtain ⟨e2,dM,ms,p1,p2,p3,p4,p5⟩:=ih (vs:=vs) q1 ⟨λ_=>vs,rfl,by simpa using hlen,λi v s h1 h2=>(gU (i+1) v s (by simpa using h1) (by simpa using h2)).on q2.on (eR s)⟩ q5;refine ⟨e2,dM,m::ms,p1,q2.trans p2,p3.trans q3,⟨v,vs,rfl,?_,p4⟩,p5⟩;have:=q4.mono p2.on.φ;rw [<-p2.on.key] at this;exact this
end
end Dn
/-
  Parts of structs, lengths, the least and the greatest, places of elements. Conditions: none.
-/
namespace Dn
open Go
section
variable {P:Program}{c:Ctx}{Z:bJ}{e:Env}{st:St}{a:Act} {w w':World}{R:Type}{K:St->Option R}{r:R}{Q:Exit->Act->World->Prop}{o:Oper}
theorem LP {t:TypeId}{I:TI}(hr:pg c.ti P t I)(hc:I.cE=[]): ((I.st=true\/I.size=32)/\ ∀w:World,(isAgg t).run P w= .ok true w)\/(I.st=false/\I.size=1/\ ∀w:World,(isAgg t).run P w= .ok false w):=by
 rcases hr.agg hc with ⟨d,hu,hd,hh⟩|⟨d,hu,hd,h1,h2⟩
 ·refine .inl ⟨hh.imp id (·.2),λw=> ?_⟩;unfold isAgg;rw [afa,run_underlying hu w];cases d<;>simp_all [TypeDesc.isRow]
 ·refine .inr ⟨h1,h2,λw=> ?_⟩;unfold isAgg;rw [afa,run_underlying hu w];cases d<;>simp_all [TypeDesc.isRow]
theorem YK {t:TypeId}{I:TI}{cs:List aD}{off:Nat}{arr:Array Value} {K':Slot->Option R}(hr:pg c.ti P t I)(hc:I.cE=[])(hv:ay e arr.toList cs)(hK:kj I cs off K'=some r): ∃v s,(∀w:World,(afA t arr off).run P w= .ok v w)/\af e v s/\cL st.fr s/\K' s=some r:=by
 obtain ⟨i,hi,hs,_⟩:=hr.info hc;have ext: ∀v1 v2 v3:List Value,arr.toList=v1++v2++v3->v1.length=off->(arr.extract off (off+v2.length))=v2.toArray:=by intro v1 v2 v3 h1 h2;apply acp.1;rw [ae4,h1,adA,AI,<-h2,afF];simp
 unfold kj at hK;cases gm:I.st with
 |true=>
  simp only [gm,cond_true] at hK;cases hp:Dn.part cs off I.size with
  |none=>simp [hp] at hK
  |some ds=>
   simp only [hp] at hK;obtain ⟨v1,v2,v3,h0,h1,h2,h3⟩:=LJ hp hv;rcases LP (P:=P) hr hc with ⟨_,Uq⟩|⟨hf,_⟩
   ·refine ⟨.agg v2.toArray,.ag ds,?_,?_,trivial,hK⟩
    ·have hx:=ext v1 v2 v3 h0 h1;rw [h2] at hx;simp [afA,Uq,ace,typeInfo,hi,hs,hx]
    ·simp only [af];exact ⟨_,rfl,by simpa using h3⟩
   ·rw [gm] at hf;cases hf
 |false=>
  simp only [gm,cond_false] at hK;cases hp:cut cs off with
  |none=>simp [hp] at hK
  |some ds=>
   cases ds with
   |nil=>simp [hp] at hK
   |cons l ls=>
    simp only [hp] at hK;cases hb:cM l.w I.size with
    |false=>simp [hb] at hK
    |true=>
     simp only [hb,cond_true] at hK;have hw:=sh hb;obtain ⟨v1,v2,h0,h1,h2⟩:=zC hp hv;obtain ⟨u,u2,rfl,h3,h4⟩:=h2;have hlu:u.length=I.size:=by rw [h3.width,hw]
     rcases LP (P:=P) hr hc with ⟨hh,Uq⟩|⟨_,h1s,Uq⟩
     ·refine ⟨.agg u.toArray,.sc l,?_,h3.slot (.inr ⟨rfl,?_⟩),trivial,hK⟩
      ·have hx:=ext v1 u u2 (by rw [h0,AI]) h1;rw [hlu] at hx;simp [afA,Uq,ace,typeInfo,hi,hs,hx]
      ·rcases hh with hh|hh
       ·rw [gm] at hh;cases hh
       ·rw [hw,hh]
     ·obtain ⟨v,rfl⟩:=acu.1 (by rw [hlu,h1s]);refine ⟨v,.sc l,?_,h3.slot (.inl ⟨rfl,?_⟩),trivial,hK⟩
      ·have:arr[off]? =some v:=by
        have:arr[off]? =arr.toList[off]? :=by simp
        rw [this,h0,aaU (by omega),h1];simp
       simp [afA,Uq,this]
      ·rw [hw,h1s]
theorem ags {t:TypeId}{x:Operand}{f:Nat}{I:TI}(ho:o.op= .field t x f)(hI:c.tv t=some I)(hT:jA P c.ti)(h:bX c Z e st a w)(hK:agc c I f (aN c st x) (λs=>bu c st o.dst s K)=some r):Rd P c Z K r e a w o (λ_=>True):=by
 obtain ⟨hx,rC⟩:=h.eval x;obtain ⟨mW,hc⟩:=bB hI;obtain ⟨d,i,h1,h2,h3,h4⟩:=hT t I mW;generalize aN c st x=s at hx hK rC;unfold agc at hK;split at hK
 ·rename_i q y cs gm hq hy;simp only [af] at hx;obtain ⟨arr,hx,qw⟩:=hx;cases hJ:c.tv y with
  |none=>simp [hJ] at hK
  |some J=>
   simp only [hJ] at hK;obtain ⟨hJt,hJc⟩:=bB hJ;obtain ⟨v,s,bV,h5,h6,h7⟩:=YK (P:=P) (st:=st) (hT y J hJt) hJc qw hK;refine jz (v:=v) h ?_ h5 h6 h7;cases d<;>simp only [sU] at h4;case struct fs=>
    obtain ⟨_,_,_,Sg,cJ,_⟩:=h4;rw [<-Sg,acb] at hq;rw [<-cJ,acb] at hy;cases hf:fs.toList[f]? with
    |none=>simp [hf] at hq
    |some fl=>
     simp [hf] at hq hy;subst hq;subst hy;have VP:fs[f]? =some fl:=by simpa using hf
     simp [execOp,ho,hx,Instr.field,run_underlying h1,VP,asAgg,bV]
   all_goals (exfalso;simp_all)
 ·simp at hK
theorem TI.nG {I:TI}{t:TypeId}(hr:pg c.ti P t I)(h:I.AV=true):P.underlying t=some (.slice I.elem)/\ ∃E,c.ti I.elem=some E/\E.cE=[]/\0<E.size:=by
 unfold TI.AV at h;split at h
 ·rename_i gm hl;obtain ⟨d,i,h1,h2,h3,h4⟩:=hr;cases d<;>simp only [sU,hl,gm] at h4<;>first|(exfalso;simp_all;done)|skip
  obtain ⟨_,_,_,rfl,hE,_⟩:=h4;exact ⟨h1,hE⟩
 ·cases h
theorem TI.HT {I:TI}{t:TypeId}(hr:pg c.ti P t I)(h:I.XN=true):P.underlying t=some .string:=by
 unfold TI.XN at h;split at h
 ·rename_i gm hl;obtain ⟨d,i,h1,h2,h3,h4⟩:=hr;cases d<;>simp only [sU,hl,gm] at h4<;>first|(exfalso;simp_all;done)|skip
  exact h1
 ·cases h
theorem HU {v:Value}{xs:List MV}(h:af e v (.sc (.p (.list xs)))): ∃ad cap,v= .slice ad xs.length cap/\xs.length<=cap:=by simp only [af,aU] at h;obtain ⟨_,h⟩:=h;generalize hv:[v]=vs at h;cases h;exact ⟨_,_,by simpa using hv,by assumption⟩
theorem sW {f:Nat} {w':oZ}{v:Value}(h:bX c Z e st a w)(hv:af e v (.sc (.own f)))(hf:aQ st.bo f=some w'):v=e.E f/\ ∃ad cap,v= .slice ad w'.xs.length cap/\w'.xs.length<=cap:=by
 simp only [af] at hv;obtain ⟨u,hu,_,hE⟩:=hv;simp at hu;subst hu;have hE:=hE w' (by rw [h.m];exact hf);refine ⟨hE,?_⟩;obtain ⟨I,cells,_,_,eQ,_⟩:=(h.iy f w' hf).row;rcases eQ.2 with ⟨h1,h2⟩|⟨g,cap,fB,h1,_,_,h2,_⟩
 ·exact ⟨none,0,by rw [hE,h1,h2],by omega⟩
 ·exact ⟨_,cap,by rw [hE,h1],h2⟩
theorem jU {l:List Operand}:kh c st l=l.map (aN c st):=by
 induction l with
 |nil=>rfl
 |cons x r ih=>simp [kh,ih]
theorem agt {cl:Call}{t:TypeId}{I:TI}(ho:o.op= .call cl)(hb:cl.callee= .builtin .len)(ha:cl.argTypes.toList=[t])(hI:c.tv t=some I)(hT:jA P c.ti)(h:bX c Z e st a w)(hK:Yg I st (kh c st cl.args.toList) (λs=>bu c st o.dst s K)=some r):Rd P c Z K r e a w o (λ_=>True):=by
 obtain ⟨mW,hc⟩:=bB hI;have hr:=hT t I mW;have GP:cl.argTypes= #[t]:=by rw [<-acp,ha]
 rw [jU] at hK;have go: ∀x,cl.args.toList=[x]-> ∀n:Nat,(∃b:ByteArray,a.eval x= .string b/\b.size=n/\P.underlying t=some .string)\/(∃ad cap,a.eval x= .slice ad n cap/\ ∃el,P.underlying t=some (.slice el))-> bu c st o.dst (.sc (.p (.i .i64 n))) K=some r->Rd P c Z K r e a w o (λ_=>True):=by
  intro x hx n HV hK;have EB:cl.args= #[x]:=by rw [<-acp,hx]
  refine jz h ?_ (sS .i64 (n:Int)) trivial hK;rcases HV with ⟨b,h1,h2,h3⟩|⟨ad,cap,h1,el,h3⟩
  ·simp [execOp,ho,resolve,hb,invoke,builtin,Builtin.len_,GP,EB,run_underlying h3,h1,goInt,h2]
  ·simp [execOp,ho,resolve,hb,invoke,builtin,Builtin.len_,GP,EB,run_underlying h3,h1,goInt]
 cases hl:cl.args.toList with
 |nil=>rw [hl] at hK;simp [Yg] at hK
 |cons x ys=>
  rw [hl] at hK;cases ys with
  |cons y zs=>simp only [aaf] at hK;unfold Yg at hK;split at hK<;>simp_all
  |nil=>
   simp only [aaf,afU] at hK;obtain ⟨hx,_⟩:=h.eval x;generalize aN c st x=s at hx hK;unfold Yg at hK;split at hK
   ·rename_i l hs;simp at hs;subst hs;cases hS:I.XN with
    |false=>simp [hS] at hK
    |true=>simp only [hS,cond_true] at hK;obtain ⟨b,GM,rfl⟩:=FJ hx;exact go x hl _ (.inl ⟨b,GM,by show b.data.size=_;exact (aci).symm,TI.HT hr hS⟩) hK
   ·rename_i l hs;simp at hs;subst hs;cases hS:I.AV with
    |false=>simp [hS] at hK
    |true=>simp only [hS,cond_true] at hK;obtain ⟨ad,cap,hv,_⟩:=HU hx;exact go x hl _ (.inr ⟨ad,cap,hv,_,(TI.nG hr hS).1⟩) hK
   ·rename_i hs;simp at hs;subst hs;cases hS:I.AV with
    |false=>simp [hS] at hK
    |true=>simp only [hS,cond_true] at hK;simp only [af] at hx;have hx:[a.eval x]=[ach none 0 0]:=hx;simp at hx;exact go x hl 0 (.inr ⟨none,0,hx,_,(TI.nG hr hS).1⟩) hK
   ·rename_i f hs;simp at hs;subst hs;cases hS:I.AV with
    |false=>simp [hS] at hK
    |true=>
     simp only [hS,cond_true] at hK;cases hf:aQ st.bo f with
     |none=>simp [hf] at hK
     |some w'=>simp only [hf] at hK;obtain ⟨_,ad,cap,hv,_⟩:=sW h hx hf;exact go x hl _ (.inr ⟨ad,cap,hv,_,(TI.nG hr hS).1⟩) hK
   ·simp at hK
end
end Dn
/-
  Values as leaves; places of elements; the least and the greatest; parts of slices. Conditions: none.
-/
namespace Dn
open Go
section
variable {P:Program}{c:Ctx}{Z:bJ}{e:Env}{st:St}{a:Act} {w w':World}{R:Type}{K:St->Option R}{r:R}{Q:Exit->Act->World->Prop}{o:Oper}
structure ae6 (e:Env) (k:Kd) (vs:List Value) (m:MV) (l:aD):Prop where
 rep:jo e.key e.φ vs m->aU e vs l
 XR:tL l=true
 mv:bR [l]=some [m]
 one: ∀m',l= .p m'->m'.one=true
 wid:l.w=GL [k]
theorem ot {k:Kd}{m:MV}{vs:List Value} {K':aD->Option R}(hK:j9 k m K'=some r): ∃l,ae6 e k vs m l/\K' l=some r:=by
 have mk: ∀m:MV,m.one=true->(GL [k]=1)->K' (.p m)=some r-> ∃l,ae6 e k vs m l/\K' l=some r:=λm h1 h2 h3=>⟨.p m,⟨λh=>⟨h1,h⟩,rfl,rfl,λm' e=>by cases e;exact h1,h2.symm⟩,h3⟩
 cases k with
 |b=>unfold j9 gB at hK;cases m<;>simp at hK;exact mk _ rfl rfl hK
 |s=>unfold j9 gS at hK;cases m<;>simp at hK;exact mk _ rfl rfl hK
 |l=>unfold j9 gL at hK;cases m<;>simp at hK;exact mk _ rfl rfl hK
 |i k=>
  unfold j9 gI at hK;cases m<;>simp at hK;rename_i k' n;by_cases hk:k'=k
  ·subst hk;simp at hK;exact mk _ rfl rfl hK
  ·simp [hk] at hK
 |h=>unfold j9 gH at hK;cases m<;>simp at hK;rename_i x;refine ⟨.hs x,⟨?_,rfl,rfl,by simp,rfl⟩,hK⟩;intro h;cases h;rfl
 |raw=>unfold j9 gR at hK;cases m<;>simp at hK<;>exact mk _ rfl rfl hK
theorem BO {l:aD}{ls:List aD}{m:MV}{ms:List MV}(h1:bR [l]=some [m])(h2:bR ls=some ms):bR (l::ls)=some (m::ms):=by cases l<;>simp [bR] at h1⊢ <;>simp [h2,h1]
structure acN (e:Env) (ks:List Kd) (vs:List Value) (ms:List MV) (ls:List aD):Prop where
 rep:iO e.key e.φ vs ms->ay e vs ls
 XR:jc ls=true
 mv:bR ls=some ms
 one: ∀m',aD.p m'∈ls->m'.one=true
 wid:zn ls=GL ks
theorem VT (k:Kd)(ks:List Kd):GL (k::ks)=GL [k]+GL ks:=by cases k<;>simp [GL]
theorem xD {ks:List Kd}: ∀{ms:List MV} {vs:List Value} {K':List aD->Option R},uV ks ms K'=some r-> ∃ls,acN e ks vs ms ls/\K' ls=some r:=by
 induction ks with
 |nil=>
  intro ms vs K' hK;cases ms with
  |nil=>exact ⟨[],⟨λh=>by cases h;rfl,rfl,rfl,by simp,rfl⟩,hK⟩
  |cons m ms=>simp [uV,gN] at hK
 |cons k ks ih=>
  intro ms vs K' hK;cases ms with
  |nil=>simp [uV,gC] at hK
  |cons m ms=>
   simp only [uV,gC] at hK;have h1:=λvs=>ot (e:=e) (vs:=vs) hK;obtain ⟨l,hl,nP⟩:=h1 [];obtain ⟨ls,KF,xp⟩:=ih (vs:=[]) nP;refine ⟨l::ls,⟨?_,?_,BO hl.mv KF.mv,?_,?_⟩,xp⟩
   ·intro h;have g:ay e vs (l::ls):=by
     apply h.leaves (BO hl.mv KF.mv);intro m' hm;rcases acd.1 hm with hm|hm
     ·exact hl.one m' hm.symm
     ·exact KF.one m' hm
    exact g
   ·simp [jc,hl.XR,KF.XR]
   ·intro m' hm;rcases acd.1 hm with hm|hm
    ·exact hl.one m' hm.symm
    ·exact KF.one m' hm
   ·rw [VT,<-hl.wid,<-KF.wid];rfl
theorem acO {t:TypeId}{I:TI}(hr:pg c.ti P t I)(hc:I.cE=[]):GL I.lay=I.size:=by
 obtain ⟨d,i,h1,h2,h3,h4⟩:=hr;cases d<;>simp only [sU] at h4;case struct fs=>exact h4.2.2.1.2
 case tuple ts=>exact absurd hc h4.2.1
 case slice el=>obtain ⟨_,_,hs,_,_,_,_,k,hl,rfl⟩:=h4;rw [hl,hs];rfl
 case array n el=>obtain ⟨_,_,hs,_,_,_,hl,_⟩:=h4;rw [hl,hs];rfl
 all_goals (obtain ⟨_,_,hs,hl,_⟩:=h4;rw [hl,hs];rfl)
theorem FM {E:TI}{t:TypeId}{x:MV} {K':List aD->Option R}(hr:pg c.ti P t E)(hc:E.cE=[])(hK:Nb E x K'=some r): ∃cs,HH E.st x cs/\jc cs=true/\zn cs=E.size/\K' cs=some r:=by
 have hlw:=acO hr hc;unfold Nb at hK;cases gm:E.st with
 |true=>
  simp only [gm,cond_true] at hK;unfold gA at hK;split at hK
  ·rename_i ms;obtain ⟨ls,KF,nP⟩:=xD (e:=⟨λn=>n,λ_ _=>none,λ_=>undef,λ_=>0,[]⟩) (vs:=[]) hK;exact ⟨ls,⟨⟨ms,KF.mv,by simp [vP]⟩,KF.one⟩,KF.XR,by rw [KF.wid,hlw],nP⟩
  ·simp at hK
 |false=>
  simp only [gm,cond_false] at hK;split at hK
  ·rename_i k hl;obtain ⟨l,yE,nP⟩:=ot (e:=⟨λn=>n,λ_ _=>none,λ_=>undef,λ_=>0,[]⟩) (vs:=[]) hK;refine ⟨[l],⟨⟨[x],yE.mv,by simp [vP]⟩,?_⟩,by simp [jc,yE.XR],?_,nP⟩
   ·intro m hm;simp at hm;exact yE.one m hm.symm
   ·rw [<-hlw,hl,<-yE.wid];rfl
  ·simp at hK
theorem agv {t:TypeId}{x y:Operand}{I E:TI}(ho:o.op= .indexAddr t x y)(hI:c.tv t=some I)(hE:c.tv I.elem=some E)(hT:jA P c.ti)(h:bX c Z e st a w)(hK:agd c st I E (aN c st x) (aN c st y) (λs=>bu c st o.dst s K)=some r):Rd P c Z K r e a w o (λ_=>True):=by
 obtain ⟨hx,rC⟩:=h.eval x;obtain ⟨hy,_⟩:=h.eval y;obtain ⟨mW,hc⟩:=bB hI;obtain ⟨tl,vT⟩:=bB hE;have hr:=hT t I mW;have hrE:=hT _ E tl;obtain ⟨iE,hiE,hsE,_⟩:=hrE.info vT;have run: ∀k n bq off len cap,P.underlying t=some (.slice I.elem)->a.eval y= .int k n->a.eval x= .slice (some ⟨bq,off,none⟩) len cap->0<=n->n.toNat<len-> ∀w:World,(execOp a.eval o).run P w= .ok (.value (.pointer (some ⟨bq,off+n.toNat *E.size,none⟩))) w:=by
  intro k n bq off len cap hu hy hx h0 h1 w;have h2:n<(len:Int):=by omega
  simp [execOp,ho,hx,hy,Instr.indexAt,asIntOf,run_underlying hu,h0,h2,ace,typeInfo,hiE,hsE,aco]
 generalize aN c st x=sx at hx hK rC;generalize aN c st y=sy at hy hK;unfold agd at hK;split at hK
 ·rename_i xs k n;cases hL:I.AV with
  |false=>simp [hL] at hK
  |true=>
   simp only [hL,cond_true] at hK;obtain ⟨h0,m,hm,hK⟩:=Py hK;obtain ⟨cs,h1,h2,h3,hK⟩:=FM hrE vT hK;have cT:n.toNat<xs.length:=(AT.1 hm).1;simp only [af,aU] at hx;obtain ⟨_,hx⟩:=hx;generalize hv:[a.eval x]=vs at hx;cases hx with
   |list ad cap _ bq off C0 f g1 g2 g3 g4 g5=>
   simp at hv;have gU:=g5 n.toNat cT;rw [(AT.1 hm).2] at gU;have qw:=gU.HO h1;have Ut:C0=E.size:=by rw [<-h3,<-qw.width,g3 _ cT]
   rw [g2 (by omega)] at hv;refine jz (s:= .rp cs 0) h (run k n bq off _ cap (TI.nG hr hL).1 (lP hy) hv h0 cT) ?_ trivial hK;simp only [af];refine ⟨bq,off+n.toNat *E.size,f n.toNat,rfl,qw,h2,?_⟩;intro j hj;rw [g3 _ cT] at hj;rw [<-Ut];exact g4 n.toNat j cT hj
 ·rename_i f k n;cases hf:aQ st.bo f with
  |none=>simp [hf] at hK
  |some fo=>
   simp only [hf] at hK;cases hL:I.AV with
   |false=>simp [hL] at hK
   |true=>
    simp only [hL,cond_true] at hK;obtain ⟨h0,m,hm,hK⟩:=Py hK;obtain ⟨cs,h1,h2,h3,hK⟩:=FM hrE vT hK;have cT:n.toNat<fo.xs.length:=(AT.1 hm).1;obtain ⟨hv,_⟩:=sW h hx hf;obtain ⟨J,cells,_,_,eQ,_⟩:=(h.iy f fo hf).row;rcases eQ.2 with ⟨h5,h6⟩|⟨g,cap,fB,h5,_⟩
    ·omega
    ·rw [h5] at hv;refine jz (s:= .ep f n.toNat 0 E.st cs) h (run k n g 0 _ cap (TI.nG hr hL).1 (lP hy) hv h0 cT) ?_ trivial hK;simp only [af];intro o2 cJ;rw [h.m,hf] at cJ;cases cJ;exact ⟨g,cap,h5,⟨m,hm,h1⟩,by rw [h3,ab9,adw]⟩
 ·rename_i r' o' k n;cases gm:I.st with
  |true=>simp [gm] at hK
  |false=>
   simp only [gm,cond_false] at hK;split at hK
   ·rename_i hl;obtain ⟨KG,hK⟩:=eW hK;obtain ⟨h0,h1⟩:=of_decide_eq_true KG;obtain ⟨d,i,hu,h2,h3,h4⟩:=hr;cases d<;>simp only [sU,hl,gm] at h4<;>first|(exfalso;simp_all;done)|skip
    obtain ⟨_,_,_,rfl,_,⟨ie,hue,C1,yF⟩,_⟩:=h4;simp only [af] at hx;refine jz (s:= .hp r' o' n.toNat) (v:= .pointer (some ⟨e.B r',o'+n.toNat,none⟩)) h ?_ ?_ rC hK
    ·simp [execOp,ho,hx,lP hy,Instr.indexAt,asIntOf,run_underlying hu,h0,h1,ace,typeInfo,C1,yF,adx,aco]
    ·simp only [af];exact ⟨trivial,by omega⟩
   ·simp at hK
 ·simp at hK
theorem VU {mx:Bool}{k:IntKind}{ss:List Slot}: ∀{vs:List Value} {n:Int} {m:MV},Ya mx k n ss=some m->vs.length=ss.length-> (∀(i:Nat) (v:Value) (s:Slot),vs[i]? =some v->ss[i]? =some s->af e v s)-> ∃v,(∀w:World,(vs.foldlM (if mx then Builtin.max2 else Builtin.min2) (.int k n)).run P w= .ok v w)/\af e v (.sc (.p m)):=by
 induction ss with
 |nil=>intro vs n m hm hl hs;have:=No hl;subst this;simp [Ya] at hm;subst hm;exact ⟨.int k n,by simp,sS k n⟩
 |cons s ss ih=>
  intro vs n m hm hl hs;cases vs with
  |nil=>simp at hl
  |cons v vs=>
   have h0:=hs 0 v s rfl rfl;unfold Ya at hm;split at hm
   ·rename_i jT;simp at jT
   ·rename_i k' y r' jT;simp at jT;obtain ⟨rfl,rfl⟩:=jT;by_cases hk:k'=k
    ·subst hk;simp only [decide_true,cond_true] at hm;obtain ⟨u,h1,h2⟩:=ih hm (by simpa using hl) (λi v s h1 h2=>hs (i+1) v s (by simpa using h1) (by simpa using h2));refine ⟨u,λw=> ?_,h2⟩;have h1:=h1 w;rw [lP h0];cases mx
     ·simp only [cond_false,ajH] at h1;simp [Builtin.min2] at h1⊢;exact h1
     ·simp only [cond_true,imax] at h1;simp [Builtin.max2] at h1⊢;exact h1
    ·simp [hk] at hm
   ·simp at hm
theorem LQ {cl:Call}{mx:Bool}{m:MV}(ho:o.op= .call cl)(hb:cl.callee= .builtin (if mx then .max else .min))(h:bX c Z e st a w)(hm:RX mx (kh c st cl.args.toList)=some m)(hK:bu c st o.dst (.sc (.p m)) K=some r):Rd P c Z K r e a w o (λ_=>True):=by
 rw [jU] at hm;cases hl:cl.args.toList with
 |nil=>rw [hl] at hm;simp [RX] at hm
 |cons x xs=>
  rw [hl] at hm;simp only [aaf] at hm;obtain ⟨hx,_⟩:=h.eval x;generalize aN c st x=s at hx hm;unfold RX at hm;split at hm
  ·rename_i k n ss jT;simp at jT;obtain ⟨rfl,rfl⟩:=jT;obtain ⟨v,h1,h2⟩:=VU (e:=e) (P:=P) (vs:=xs.map a.eval) hm (by simp) (by intro i v s h1 h2;simp only [acb,Option.map_eq_some_iff] at h1 h2;obtain ⟨y,h3,rfl⟩:=h1;obtain ⟨y',h4,rfl⟩:=h2;rw [h3] at h4;cases h4;exact (h.eval y).1);have fY:(cl.args.map a.eval).toList= .int k n::xs.map a.eval:=by simp [hl,lP hx]
   refine jz (v:=v) h ?_ h2 trivial hK;intro w;have h1:=h1 w;cases mx
   ·simp at hb h1;have YL: ∀ts t,(Builtin.min_ ts t (cl.args.map a.eval)).run P w= .ok v w:=by intro ts t;unfold Builtin.min_;rw [fY];exact h1
    simp [execOp,ho,resolve,hb,invoke,builtin,YL]
   ·simp at hb h1;have YL: ∀ts t,(Builtin.max_ ts t (cl.args.map a.eval)).run P w= .ok v w:=by intro ts t;unfold Builtin.max_;rw [fY];exact h1
    simp [execOp,ho,resolve,hb,invoke,builtin,YL]
  ·simp at hm
end
end Dn
/-
  Parts of slices and texts. Conditions: none.
-/
namespace Dn
open Go
section
variable {P:Program}{c:Ctx}{Z:bJ}{e:Env}{st:St}{a:Act} {w w':World}{R:Type}{K:St->Option R}{r:R}{Q:Exit->Act->World->Prop}{o:Oper}
theorem xE {b:Bool}{lo hi:Option Operand}{len cap:Nat} {K':Nat->Nat->Option R}(h:bX c Z e st a w)(Co:len<=cap)(hK:sliceB (mT c st lo) (mT c st hi) len K'=some r): ∃l h',l<=h'/\h'<=len/\(lo=none->l=0)/\(∀w:World,(ab7 b len cap (lo.map a.eval) (hi.map a.eval) none).run P w= .ok (l,h',cap) w)/\K' l h'=some r:=by
 have bnd: ∀(k:IntKind) (n:Int) (y:Nat) (cd:BoundsCode),0<=n->n<=(y:Int)-> ∀w:World,(acK (.int k n) y cd).run P w= .ok n.toNat w:=by intro k n y cd h1 h2 w;simp [acK,asIntOf,h1,h2]
 unfold sliceB at hK;cases lo with
 |none=>
  cases hi with
  |none=>simp only [mT] at hK;exact ⟨0,len,by omega,by omega,λ_=>rfl,by simp [ab7],hK⟩
  |some y=>
   obtain ⟨hy,_⟩:=h.eval y;simp only [mT] at hK;generalize aN c st y=sy at hy hK;split at hK<;>first|(simp_all;done)|skip
   ·rename_i k n h1 h2;simp at h2;subst h2;obtain ⟨KG,hK⟩:=eW hK;obtain ⟨h3,h4,h5⟩:=of_decide_eq_true KG;refine ⟨0,n.toNat,by omega,by omega,λ_=>rfl,?_,hK⟩;have:=bnd k n cap (if b then .sliceAcap else .sliceAlen) h4 (by omega);cases b<;>simp at this<;>simp [ab7,lP hy,this]
 |some x=>
  obtain ⟨hx,_⟩:=h.eval x;cases hi with
  |none=>
   simp only [mT] at hK;generalize aN c st x=sx at hx hK;split at hK<;>first|(simp_all;done)|skip
   ·rename_i k n h1 h2;simp at h1;subst h1;obtain ⟨KG,hK⟩:=eW hK;obtain ⟨h3,h4,h5⟩:=of_decide_eq_true KG;refine ⟨n.toNat,len,by omega,by omega,by simp,?_,by simpa using hK⟩;have:=bnd k n len .sliceB h3 h4;simp [ab7,lP hx,this]
  |some y=>
   obtain ⟨hy,_⟩:=h.eval y;simp only [mT] at hK;generalize aN c st x=sx at hx hK;generalize aN c st y=sy at hy hK;split at hK<;>first|(simp_all;done)|skip
   ·rename_i k n k' n' h1 h2;simp at h1 h2;subst h1;subst h2;obtain ⟨KG,hK⟩:=eW hK;obtain ⟨h3,h4,h5⟩:=of_decide_eq_true KG;refine ⟨n.toNat,n'.toNat,by omega,by omega,by simp,?_,hK⟩;have t1:=bnd k' n' cap (if b then .sliceAcap else .sliceAlen) (by omega) (by omega);have t2:=bnd k n n'.toNat .sliceB h3 (by omega);cases b<;>simp at t1<;>simp [ab7,lP hx,lP hy,t1,t2]
theorem jo.sub {key:Nat->Nat} {φ:Ph}{ad:Option Addr}{len cap:Nat}{xs:List MV} {l h' size:Nat}(hv:jo key φ [.slice ad len cap] (.list xs))(hl:l<=h')(hh:h'<=xs.length)(hw:l≠0-> ∀x∈xs,x.w=size):len=xs.length/\len<=cap/\jo key φ [.slice (if cap=l then ad else ad.map (·.add (l *size))) (h'-l) (cap-l)] (.list ((xs.take h').drop l)):=by
 generalize zj:[ach ad len cap]=vs at hv;cases hv with
 |list ad' YJ _ bq off C0 f g1 g2 g3 g4 g5=>
 simp at zj;obtain ⟨rfl,rfl,rfl⟩:=zj;refine ⟨rfl,g1,?_⟩;have hlen:((xs.take h').drop l).length=h'-l:=by simp;omega
 have aj0:jo key φ [.slice (if cap=l then ad else ad.map (·.add (l *size))) ((xs.take h').drop l).length (cap-l)] (.list ((xs.take h').drop l)):=by
  have tU: ∀i,i<((xs.take h').drop l).length->i+l<xs.length:=by intro i hi;omega
  have hel: ∀(i:Nat) (hi:i<((xs.take h').drop l).length),((xs.take h').drop l)[i]=xs[i+l]'(tU i hi):=by intro i hi;simp [afc]
  refine .list _ _ _ bq (off+l *C0) C0 (λi=>f (i+l)) (by rw [hlen];omega) ?_ ?_ ?_ ?_
  ·intro h0;have db:cap≠l:=by omega
   have hx0:0<xs.length:=by omega
   rw [g2 hx0];simp only [db,if_false,Option.map_some,BY];by_cases hl0:l=0
   ·subst hl0;simp [aco]
   ·have Ut:C0=size:=by have h3:=g5 0 hx0;rw [<-g3 0 hx0,h3.width];exact hw hl0 _ (afn hx0)
    rw [Ut,aco]
  ·intro i hi;exact g3 _ (tU i hi)
  ·intro i j hi hj;have:=g4 (i+l) j (tU i hi) hj;rw [<-this];congr 1;rw [ac7];omega
  ·intro i hi;rw [hel i hi];exact g5 (i+l) (tU i hi)
 rw [hlen] at aj0;exact aj0
theorem Dh {n:Nat}{l:List MV}(h:o9 n l=true): ∀x∈l,x.w=n:=by intro x hx;unfold o9 at h;rw [afm] at h;exact sh (h x hx)
theorem bx.o9 {key:Nat->Nat} {φ:Ph}{size:Nat}{xs:List MV}: ∀{cs:List Value},bx key φ size cs xs-> ∀x∈xs,x.w=size:=by
 induction xs with
 |nil=>intro cs _ x hx;simp at hx
 |cons y ys ih=>
  intro cs h x hx;obtain ⟨v,q,rfl,h1,h2,h3⟩:=h;rcases acd.1 hx with rfl|hx
  ·rw [<-h2.width,h1]
  ·exact ih h3 x hx
theorem YM {t:TypeId}{x:Operand}{lo hi:Option Operand}{I:TI}(ho:o.op= .slice t x lo hi none)(hI:c.tv t=some I)(hT:jA P c.ti)(h:bX c Z e st a w)(hK:RY c I st (aN c st x) (mT c st lo) (mT c st hi) (λs st=>bu c st o.dst s K)=some r):Rd P c Z K r e a w o (λ_=>True):=by
 obtain ⟨hx,rC⟩:=h.eval x;obtain ⟨mW,hc⟩:=bB hI;have hr:=hT t I mW;have run: ∀{el E},P.underlying t=some (.slice el)->c.ti el=some E->E.cE=[]-> ∀ad len cap l h',a.eval x= .slice ad len cap->(∀w:World,(ab7 true len cap (lo.map a.eval) (hi.map a.eval) none).run P w= .ok (l,h',cap) w)-> ∀w:World,(execOp a.eval o).run P w= .ok (.value (.slice (if cap=l then ad else ad.map (·.add (l *E.size))) (h'-l) (cap-l))) w:=by intro el E hu hE vT ad len cap l h' hv hb w;obtain ⟨iE,hiE,hsE,_⟩:=(hT _ E hE).info vT;simp [execOp,ho,ae7,afp,run_underlying hu,hv,hb,ace,typeInfo,hiE,hsE]
 generalize hs:aN c st x=s at hx hK rC;unfold RY at hK;split at hK
 ·rename_i bs;cases hS:I.XN with
  |false=>simp [hS] at hK
  |true=>
   simp only [hS,cond_true] at hK;have hu:=TI.HT hr hS;obtain ⟨b,hb,rfl⟩:=FJ hx;have qm:b.data.toList.length=b.size:=by rw [aci];rfl
   rw [qm] at hK;obtain ⟨l,h',h1,h2,_,h3,hK⟩:=xE (P:=P) (b:=false) (cap:=b.size) h (abK _) hK;refine jz (s:= .sc (.p (.s ((b.data.toList.take h').drop l)))) (v:= .string (b.extract l h')) h ?_ ?_ trivial hK
   ·simp [execOp,ho,ae7,afp,run_underlying hu,hb,h3]
   ·have:=YB (e:=e) (b.extract l h');have h5:(b.extract l h').data.toList=(b.data.toList.take h').drop l:=by rw [adS,ae4,adA,List.drop_take]
    rwa [h5] at this
 ·rename_i xs;cases hS:I.AV with
  |false=>simp [hS] at hK
  |true=>
   simp only [hS,cond_true] at hK;obtain ⟨hu,_⟩:=TI.nG hr hS;cases hE:c.tv I.elem with
   |none=>simp [hE] at hK
   |some E=>
    simp only [hE] at hK;obtain ⟨tl,vT⟩:=bB hE;have xp:(lo≠none->o9 E.size xs=true)/\sliceB (mT c st lo) (mT c st hi) xs.length (λl h'=>bu c st o.dst (.sc (.p (.list ((xs.take h').drop l)))) K)=some r:=by
     cases lo with
     |none=>exact ⟨by simp,hK⟩
     |some y=>simp only [mT] at hK⊢;obtain ⟨h1,h2⟩:=eW hK;exact ⟨λ_=>h1,h2⟩
    obtain ⟨hw,hK⟩:=xp;obtain ⟨ad,cap,hv,Co⟩:=HU hx;obtain ⟨l,h',h1,h2,h0,h3,hK⟩:=xE (P:=P) (b:=true) (cap:=cap) h Co hK;simp only [af,aU] at hx;rw [hv] at hx;obtain ⟨_,_,gU⟩:=jo.sub (size:=E.size) hx.2 h1 h2 (λhl=>Dh (hw (λhn=>hl (h0 hn))));refine jz (s:= .sc (.p (.list ((xs.take h').drop l)))) h (run hu tl vT ad _ cap l h' hv h3) ?_ trivial hK;simp only [af,aU];exact ⟨rfl,gU⟩
 ·rename_i f;cases hf:aQ st.bo f with
  |none=>simp [hf] at hK
  |some fo=>
   simp only [hf] at hK;cases hS:I.AV&&cM fo.ty I.elem with
   |false=>simp [hS] at hK
   |true=>simp only [hS,cond_true] at hK;simp only [ab5] at hS;obtain ⟨hu,E,tl,vT,_⟩:=TI.nG hr hS.1;have jC:=sh hS.2;obtain ⟨hvE,ad,cap,hv,Co⟩:=sW h hx hf;simp only [af] at hx;obtain ⟨J,cells,hJ,_,_,mX,_⟩:=(h.iy f fo hf).row;rw [jC,tl] at hJ;cases hJ;have hwx:=mX.o9;obtain ⟨e',bU,m,yG,acL,EP,gU,hK,_,hm⟩:=mn h hx hK;obtain ⟨o2,cJ,rfl⟩:=hm.1 f rfl;rw [hf] at cJ;cases cJ;obtain ⟨l,h',h1,h2,h0,h3,hK⟩:=xE (P:=P) (b:=true) (cap:=cap) h Co hK;rw [hv] at gU;obtain ⟨_,_,gU⟩:=jo.sub (size:=E.size) gU h1 h2 (λ_=>hwx);refine Sd (s:= .sc (.p (.list ((fo.xs.take h').drop l)))) (λw _=>run hu tl vT ad _ cap l h' hv h3 w) yG acL.tr (.of ?_ trivial) hK;simp only [af,aU];exact ⟨rfl,gU⟩
 ·cases hS:I.AV with
  |false=>simp [hS] at hK
  |true=>
   simp only [hS,cond_true] at hK;obtain ⟨hu,E,tl,vT,_⟩:=TI.nG hr hS;simp only [af] at hx;have hx:[a.eval x]=[ach none 0 0]:=hx;simp at hx;obtain ⟨l,h',h1,h2,_,h3,hK⟩:=xE (P:=P) (b:=true) (cap:=0) h (abK _) hK;have h4:h'=0:=by omega
   have h5:l=0:=by omega
   subst h4;subst h5;refine jz (s:= .sc .nil) h (run hu tl vT none 0 0 0 0 hx h3) ?_ trivial hK;simp only [af,if_true];rfl
 ·simp at hK
theorem acQ {t:TypeId}{x y z:Operand}{I:TI}(ho:o.op= .slice t x none (some y) (some z))(hI:c.tv t=some I)(hT:jA P c.ti)(h:bX c Z e st a w)(hK:Ye I (aN c st x) (aN c st y) (aN c st z) (λs=>bu c st o.dst s K)=some r):Rd P c Z K r e a w o (λ_=>True):=by
 obtain ⟨hx,rC⟩:=h.eval x;obtain ⟨hy,_⟩:=h.eval y;obtain ⟨hz,_⟩:=h.eval z;obtain ⟨mW,hc⟩:=bB hI;have hr:=hT t I mW;generalize aN c st x=s at hx hK rC;generalize aN c st y=s2 at hy hK;generalize aN c st z=s3 at hz hK;unfold Ye at hK;split at hK
 ·rename_i l n n';cases hS:I.AV with
  |false=>simp [hS] at hK
  |true=>
   simp only [hS,cond_true] at hK;obtain ⟨KG,xp⟩:=eW hK;obtain ⟨rfl,rfl⟩:=of_decide_eq_true KG;obtain ⟨hu,E,tl,vT,_⟩:=TI.nG hr hS;obtain ⟨iE,hiE,hsE,_⟩:=(hT _ E tl).info vT;obtain ⟨ad,cap,hv,Co⟩:=HU hx;simp only [af,aU] at hx;rw [hv] at hx;have bnd: ∀(m:Nat) (cd:BoundsCode),l.length<=m-> ∀w:World,(acK (.int .i64 (l.length:Int)) m cd).run P w= .ok l.length w:=by
    intro m cd hm w;have:(l.length:Int)<=(m:Int):=by omega
    simp [acK,asIntOf,this]
   have hb: ∀w:World,(ab7 true l.length cap none (some (.int .i64 (l.length:Int))) (some (.int .i64 (l.length:Int)))).run P w= .ok (0,l.length,l.length) w:=by intro w;have b1:=bnd cap .slice3Acap Co;have b2:=bnd l.length .slice3B (abK _);simp [ab7,b1,b2]
   have gU:jo e.key e.φ [.slice ad l.length l.length] (.list l):=by
    have h2:=hx.2;generalize zj:[ach ad l.length cap]=vs at h2;cases h2 with
    |list ad' YJ _ bq off C0 f g1 g2 g3 g4 g5=>
    simp at zj;obtain ⟨rfl,_⟩:=zj;exact .list _ _ _ bq off C0 f (abK _) g2 g3 g4 g5
   refine jz (s:= .sc (.p (.clip l))) (v:= .slice ad l.length l.length) h (λw=> ?_) ?_ trivial xp
   ·simp [execOp,ho,ae7,afp,run_underlying hu,hv,lP hy,lP hz,hb,ace,typeInfo,hiE,hsE];intro db;cases ad with
    |none=>rfl
    |some b=>simp [Addr.add]
   ·simp only [af,aU];exact ⟨rfl,.clip _ _ gU⟩
 ·simp at hK
end
end Dn
/-
  Stores. Conditions: none.
-/
namespace Dn
open Go
section
variable {P:Program}{c:Ctx}{Z:bJ} {e e':Env}{st:St}{a:Act} {w w':World}{R:Type}{K:St->Option R}{r:R}{Q:Exit->Act->World->Prop}{o:Oper}
theorem HW (x:kY)(i:Nat)(b:UInt8)(hi:i<32):bC (x.put i b)=(bC x).take i++[.int .u8 (b.toNat:Int)]++(bC x).drop (i+1):=by
 have:bC (x.put i b)=(bC x).set i (.int .u8 (b.toNat:Int)):=by simp [bC,kY.put,List.map_set]
 have hl:=dm x;rw [this,List.set_eq_take_append_cons_drop,if_pos (by omega)];simp
structure YN (e e':Env):Prop where
 key:e'.key=e.key
 φ:lE e.φ e'.φ
 iy: ∀f o',aQ e'.m f=some o'->(∃o,aQ e.m f=some o)/\e'.E f=e.E f
theorem aU.XS (h:YN e e'){vs:List Value}{l:aD}(hr:aU e vs l):aU e' vs l:=by
 cases l with
 |p m=>exact ⟨hr.1,by have:=hr.2.mono h.φ;rw [<-h.key] at this;exact this⟩
 |own f=>obtain ⟨v,rfl,hv,hf⟩:=hr;refine ⟨v,rfl,hv,λo' KP=> ?_⟩;obtain ⟨⟨o,ho⟩,hE⟩:=h.iy f o' KP;rw [hE];exact hf o ho
 |_=>exact hr
theorem ay.XS (h:YN e e'){cs:List aD}: ∀{vs:List Value},ay e vs cs->ay e' vs cs:=by
 induction cs with
 |nil=>intro vs hr;exact hr
 |cons l r ih=>intro vs hr;obtain ⟨v,w,rfl,h1,h2⟩:=hr;exact ⟨v,w,rfl,h1.XS h,ih h2⟩
def Sk (f:Nat)(s:Slot):Slot:=match s with
 | .ep g i o b cs=>bif cM g f then .sc .un else .ep g i o b cs
 |s=>s
theorem wD (f:Nat)(r:Fr)(t:Nat):av (zw f r) t=Sk f (av r t):=HI (Sk f) rfl r t
theorem VV (f:Nat)(s:Slot):dg (Sk f s)=dg s:=by cases s<;>simp only [Sk];rename_i g _ _ _ _;cases cM g f<;>rfl
theorem af.XS {f:Nat}{T:Nat->Prop}(h:YN e e')(uL:mi (· ≠f) T e e'){v:Value}{s:Slot}(hT:gO (λ_=>True) T s)(hr:af e v s):af e' v (Sk f s):=by
 cases s with
 |sc l=>
  simp only [Sk];cases l with
  |un=>simp [af]
  |hs x=>simpa [af] using hr
  |p m=>simp only [af] at hr⊢;exact hr.XS h
  |nil=>simp only [af] at hr⊢;exact hr.XS h
  |mp s es=>simp only [af] at hr⊢;exact hr
  |own f=>simp only [af] at hr⊢;exact hr.XS h
 |ag cs=>simp only [Sk,af] at hr⊢;obtain ⟨arr,h1,h2⟩:=hr;exact ⟨arr,h1,h2.XS h⟩
 |tg cs=>simp only [Sk,af] at hr⊢;obtain ⟨arr,h1,h2⟩:=hr;exact ⟨arr,h1,h2.XS h⟩
 |ep g i o b cs=>
  simp only [Sk];cases hb:cM g f
  ·simp only [cond_false];refine hr.on uL ?_;simp only [gO];intro e;subst e;simp [eD] at hb
  ·simp [af]
 |_=>exact hr.on uL hT
theorem kN.XS (h:YN e e')(hk:e'.key=e.key)(hp:lE e.φ e'.φ){o:Obj}{cs:List aD}(hr:kN e o cs):kN e' o cs:=by
 cases o with
 |cells arr T z=>exact ⟨hr.1,hr.2.XS h⟩
 |map es clock=>exact hr
 |stringIter x pos=>exact hr
 |_=>exact hr.elim
theorem bx.set {key:Nat->Nat} {φ:Ph}{size:Nat}{xs:List MV}: ∀{cs:List Value} {i:Nat} {x:MV} {v':List Value},bx key φ size cs xs->i<xs.length->v'.length=size->jo key φ v' x-> bx key φ size (cs.take (i *size)++v'++cs.drop (i *size+size)) (xs.set i x):=by
 induction xs with
 |nil=>intro cs i x v' _ hi;simp at hi
 |cons y ys ih=>
  intro cs i x v' h hi hl hr;obtain ⟨v,q,rfl,h1,h2,h3⟩:=h;cases i with
  |zero=>simp only [afd,List.take_zero,aeQ,ab9,List.set_cons_zero];exact ⟨v',q,by rw [acq h1],hl,hr,h3⟩
  |succ i=>have:=ih h3 (by simpa using hi) hl hr;rw [List.set_cons_succ];refine ⟨v,_,?_,h1,h2,this⟩;rw [acn,acP,adD,acv (by omega),ad9 (by omega)];rw [show i *size+size-v.length=i *size by omega,show i *size+size+size-v.length=i *size+size by omega];simp
theorem bX.agy {f:Nat}{fo:oZ}{I:TI}{g i:Nat}{cap:Nat}{fB:Array Value} {v' cells:List Value}{x:MV}(h:bX c Z e st a w)(hf:aQ st.bo f=some fo)(hz:fo.eV=false)(hI:c.ti fo.ty=some I)(hIc:I.cE=[])(hE:e.E f= .slice (some ⟨g,0,none⟩) fo.xs.length cap)(eQ:w.ownsRow 0 fo.ty I.size (e.E f) fo.xs.length cells)(hg:w.heap[g]? =some (.cells fB fo.ty (0,0)))(mX:bx e.key e.φ I.size cells fo.xs)(hi:i<fo.xs.length)(hl:v'.length=I.size)(hr:jo e.key e.φ v' x)(Cn:f∉Z.cS): bX c Z {e with m:=b7 e.m f ⟨fo.ty,false,fo.xs.set i x⟩} {st with fr:=zw f st.fr,bo:=b7 st.bo f ⟨fo.ty,false,fo.xs.set i x⟩} a (w.setRow g (fB.toList.take (i *I.size)++v'++fB.toList.drop (i *I.size+I.size)).toArray)/\Z g:=by
 have hb:(e.E f).ownBlock=some g:=by rw [hE];rfl
 have hZ:Z g/\ ∀off,e.φ g off=none:=by
  obtain ⟨J,xB,_,_,_,_,h5⟩:=(h.iy f fo hf).row;obtain ⟨h6,h7⟩:=h5 g hb;refine ⟨O7 h6 Cn,λoff=> ?_⟩;cases hp:e.φ g off with
  |none=>rfl
  |some u=>have:=(h7.1 off u hp).1;rw [hz] at this;cases this
 have qm:=setRow_size w g (fB.toList.take (i *I.size)++v'++fB.toList.drop (i *I.size+I.size)).toArray;have hE1:YN e {e with m:=b7 e.m f ⟨fo.ty,false,fo.xs.set i x⟩}:=by
  refine ⟨rfl,.refl _,λf2 o2 cJ=>⟨?_,rfl⟩⟩;have cJ:aQ (b7 e.m f ⟨fo.ty,false,fo.xs.set i x⟩) f2=some o2:=cJ;rw [bw] at cJ;by_cases fT:f2=f
  ·exact ⟨fo,by rw [fT,h.m];exact hf⟩
  ·simp only [fT,if_false] at cJ;exact ⟨o2,cJ⟩
 have uL:mi (· ≠f) (λ_=>True) e {e with m:=b7 e.m f ⟨fo.ty,false,fo.xs.set i x⟩}:=by refine ⟨rfl,.refl _,λ_ _=>rfl,λf2 o2 cJ db=> ?_⟩;have cJ:aQ (b7 e.m f ⟨fo.ty,false,fo.xs.set i x⟩) f2=some o2:=cJ;rw [bw] at cJ;simp only [db,if_false] at cJ;exact ⟨o2,cJ,rfl,rfl⟩
 have tU: ∀f2 o2,aQ (b7 st.bo f ⟨fo.ty,false,fo.xs.set i x⟩) f2=some o2-> ∃o3,aQ st.bo f2=some o3:=by
  intro f2 o2 cJ;rw [bw] at cJ;by_cases fT:f2=f
  ·exact ⟨fo,by rw [fT];exact hf⟩
  ·simp only [fT,if_false] at cJ;exact ⟨o2,cJ⟩
 refine ⟨⟨h.defers,h.size,by show b7 e.m f _=b7 st.bo f _;rw [h.m],h.key,?_,?_,?_,?_,?_,?_,?_,?_,λb hb=>h.cB b (by omega)⟩,hZ.1⟩
 ·show (aX (zw f st.fr)).Nodup;have:aX (zw f st.fr)=aX st.fr:=by simp [aX,zw]
  rw [this];exact h.nodup
 ·intro t;show cj Z _ _ t _ (av (zw f st.fr) t);rw [wD];have hs:=h.slot t;have hbf:=h.bf t;generalize av st.fr t=s at hs hbf;by_cases HX: ∃cs,s= .box cs
  ·obtain ⟨cs,rfl⟩:=HX;simp only [cj,Sk] at hs⊢;refine ⟨hs.1,hs.2.cB,?_,hs.2.free⟩;obtain ⟨o2,h1,h2⟩:=hs.2.obj;refine ⟨o2,?_,h2.XS hE1 rfl (.refl _)⟩;rw [setRow_other _ _ _ _ (by intro eb;exact hbf cs f fo rfl hf (by rw [hb,<-eb]))];exact h1
  ·have yG:af e (a.tmps.getD t undef) s:=by cases s<;>simp only [cj] at hs<;>first|exact hs|exact absurd ⟨_,rfl⟩ HX
   have h2:=yG.XS (f:=f) hE1 uL (eR s);generalize RR:Sk f s=s2 at h2;cases s2<;>first|exact h2|(exfalso;simp [af] at h2)
 ·intro t;show cL (zw f st.fr) (av (zw f st.fr) t);rw [wD];have rC:=h.root t;generalize av st.fr t=s at rC;have hk: ∀q,dg (av (zw f st.fr) q)=dg (av st.fr q):=λq=>by rw [wD,VV]
  cases s with
  |ptr q o=>show dg (av (zw f st.fr) q)=true;rw [hk];exact rC
  |hp q o i=>show dg (av (zw f st.fr) q)=true;rw [hk];exact rC
  |zm q=>show dg (av (zw f st.fr) q)=true;rw [hk];exact rC
  |ep g' _ _ _ _=>simp only [Sk];cases cM g' f<;>trivial
  |_=>trivial
 ·intro f2 o2 cJ;have cJ:aQ (b7 st.bo f ⟨fo.ty,false,fo.xs.set i x⟩) f2=some o2:=cJ;rw [bw] at cJ;by_cases fT:f2=f
  ·subst fT;simp at cJ;subst cJ;obtain ⟨hlen,HV⟩:=eQ;refine ⟨I,cells.take (i *I.size)++v'++cells.drop (i *I.size+I.size),hI,hIc,⟨?_,?_⟩,?_,?_⟩
   ·have hle:i *I.size+I.size<=fo.xs.length *I.size:=by rw [<-acn];exact ab6 _ hi
    simp only [IT,acZ,adG,afz];omega
   ·have hle:i *I.size+I.size<=fo.xs.length *I.size:=by rw [<-acn];exact ab6 _ hi
    rcases HV with ⟨h1,_⟩|⟨g2,Di,PD,h1,_,h3,h4,h5,h6,h7⟩
    ·rw [hE] at h1;simp at h1
    ·rw [hE] at h1;simp at h1;obtain ⟨rfl,rfl⟩:=h1;rw [hg] at h3;simp at h3;subst h3;refine .inr ⟨g,cap,(fB.toList.take (i *I.size)++v'++fB.toList.drop (i *I.size+I.size)).toArray,by rw [hE];simp,by omega,setRow_heap _ _ _ _ _ _ hg,by simpa using h4,h5,?_,?_⟩
     ·have qh:fB.toList.length=fB.size:=by simp
      have hcz:fo.xs.length *I.size<=cap *I.size:=ab6 _ h4;simp only [acw,IT,acZ,adG,qh];omega
     ·have qh:fB.toList.length=fB.size:=by simp
      have hcz:fo.xs.length *I.size<=cap *I.size:=ab6 _ h4;simp only [afz];rw [<-h7];have e1:(fB.toList.take (fo.xs.length *I.size)).take (i *I.size)=fB.toList.take (i *I.size):=by rw [List.take_take,Nat.min_eq_left (by omega)]
      have e2:(fB.toList.take (fo.xs.length *I.size)).drop (i *I.size+I.size)=(fB.toList.drop (i *I.size+I.size)).take (fo.xs.length *I.size-(i *I.size+I.size)):=by rw [List.drop_take]
      rw [e1,e2];have e3:(fB.toList.take (i *I.size)++v').length=i *I.size+I.size:=by simp only [IT,acZ,qh];omega
      show List.take _ (fB.toList.take (i *I.size)++v'++fB.toList.drop (i *I.size+I.size))=_;rw [acP,e3,acv (by omega)]
   ·exact mX.set hi hl hr
   ·intro bq lG;rw [hb] at lG;cases lG;exact ⟨.inr hZ.1,λoff u hu=>(by have hu:e.φ g off=some u:=hu;rw [hZ.2] at hu;cases hu),λ_ hf=>Bool.noConfusion hf⟩
  ·simp only [fT,if_false] at cJ;obtain ⟨I2,xB,h1,h2,h3,h4,h5⟩:=(h.iy f2 o2 cJ).row;exact ⟨I2,xB,h1,h2,Sh (λhk=>fT (h.ff f2 f o2 fo g cJ hf hk hb)) h3,h4,h5⟩
 ·intro t t' c1 c2 h1 h2 db;have h1:av (zw f st.fr) t= .box c1:=h1;have h2:av (zw f st.fr) t'= .box c2:=h2;rw [wD] at h1 h2;have g1:av st.fr t= .box c1:=by generalize av st.fr t=s at h1;cases s<;>simp only [Sk] at h1<;>first|exact h1|(simp at h1;done)|(rename_i g' _ _ _ _;cases tR:cM g' f<;>simp [tR] at h1)
  have g2:av st.fr t'= .box c2:=by generalize av st.fr t'=s at h2;cases s<;>simp only [Sk] at h2<;>first|exact h2|(simp at h2;done)|(rename_i g' _ _ _ _;cases tR:cM g' f<;>simp [tR] at h2)
  exact h.bb t t' c1 c2 g1 g2 db
 ·intro t c1 f2 o2 h1 h2;have h1:av (zw f st.fr) t= .box c1:=h1;rw [wD] at h1;have g1:av st.fr t= .box c1:=by generalize av st.fr t=s at h1;cases s<;>simp only [Sk] at h1<;>first|exact h1|(simp at h1;done)|(rename_i g' _ _ _ _;cases tR:cM g' f<;>simp [tR] at h1)
  obtain ⟨o3,Pz⟩:=tU f2 o2 h2;exact h.bf t c1 f2 o3 g1 Pz
 ·intro f1 f2 o1 o2 k h1 h2 h3 h4;obtain ⟨q1,g1⟩:=tU f1 o1 h1;obtain ⟨q2,g2⟩:=tU f2 o2 h2;exact h.ff f1 f2 q1 q2 k g1 g2 h3 h4
 ·intro b off v hv;have hv:e.φ b off=some v:=hv;have db:b≠g:=by intro eb;subst eb;rw [hZ.2] at hv;cases hv
  rw [acf (setRow_other _ _ _ _ db)];exact h.kE b off v hv
theorem ay.aot {cs:List aD}: ∀{vs:List Value} {ms:List MV},ay e vs cs->bR cs=some ms->iO e.key e.φ vs ms:=by
 induction cs with
 |nil=>intro vs ms h hm;cases h;simp [bR] at hm;subst hm;exact .nil
 |cons l r ih=>
  intro vs ms h hm;obtain ⟨v,u,rfl,h1,h2⟩:=h;cases hr:bR r with
  |none=>cases l<;>simp [bR,hr] at hm
  |some q=>
   cases l<;>simp [bR,hr] at hm
   ·subst hm;exact .cons v _ u q h1.2 (ih h2 hr)
   ·subst hm;have h1:v=bC _:=h1;subst h1;exact .cons _ _ u q (.h _) (ih h2 hr)
theorem YO {b:Bool}{ms:List MV}{x:MV}{vs:List Value}(h:iO e.key e.φ vs ms)(hx:vP b ms=some x):jo e.key e.φ vs x:=by
 cases b with
 |true=>cases ms<;>simp [vP] at hx<;>subst hx<;>exact .agg _ _ h
 |false=>
  cases ms with
  |nil=>simp [vP] at hx
  |cons m ms=>
   cases ms with
   |cons y ys=>simp [vP] at hx
   |nil=>
    simp [vP] at hx;subst hx;generalize zj:vs=RQ at h;cases h with
    |cons v _ u _ h1 h2=>cases h2;simpa using h1
theorem YP {t:TypeId}{x y:Operand}{I:TI}(ho:o.op= .store t x y)(hI:c.tv t=some I)(hT:jA P c.ti)(h:bX c Z e st a w)(hK:stK st I (aN c st x) (aN c st y) (λst=>bu c st o.dst (.sc .un) K)=some r):o.wp P a w (Out c Z K r e.φ w) Q:=by
 obtain ⟨hx,rC⟩:=h.eval x;obtain ⟨hy,_⟩:=h.eval y;obtain ⟨mW,hc⟩:=bB hI;have hr:=hT t I mW;have go: ∀w' bU,(adB t (a.eval x) (a.eval y)).run P w= .ok () w'->bX c Z e bU a w'->Trans Z e.φ w e.φ w'->bu c bU o.dst (.sc .un) K=some r->o.wp P a w (Out c Z K r e.φ w) Q:=by intro w' bU h1 h2 h3 h4;refine Dg ?_ h2 h3 h4;simp [execOp,ho,h1]
 generalize aN c st x=sx at hx hK rC;generalize aN c st y=sy at hy hK;unfold stK at hK;cases hb:wB (aP sy)||!cM (zn (aP sy)) I.size with
 |true=>simp [hb] at hK
 |false=>
  simp only [hb,cond_false] at hK;simp only [acg,ady] at hb;have HS:=sh hb.2;have jn:0<I.size:=by
   rcases hr.agg hc with ⟨d,hu,hd,hh⟩|⟨_,_,_,_,hh⟩
   ·obtain ⟨d',i',h1,h2,h3,h4⟩:=hr;cases d'<;>simp only [sU] at h4<;>first|omega|exact h4.2.2.1|exact absurd hc h4.2.1
   ·omega
  have db:aP sy≠[]:=by intro e0;rw [e0] at HS;simp [zn] at HS;omega
  have hcv:=BM hy hb.1 db;split at hK
  ·rename_i root off;simp only [af] at hx;split at hK
   ·rename_i cs xA;have uN:gn cs=false:=by cases hq:gn cs<;>simp_all
    simp only [uN,cond_false] at hK;cases hp:putAt cs off (aP sy) with
    |none=>simp [hp] at hK
    |some ke=>simp only [hp] at hK;obtain ⟨w',bU,h1,h2,h3,h4⟩:=VS (P:=P) uN hr hc h xA hcv HS hp hK;exact go w' bU (by rw [hx];exact h1) h2 h3 h4
   ·simp at hK
  ·rename_i root off i;simp only [af] at hx;obtain ⟨hx,Sf⟩:=hx;split at hK
   ·rename_i cs n xA;have uN:gn cs=false:=by cases hq:gn cs<;>simp_all
    simp only [uN,cond_false] at hK;split at hK
    ·rename_i x ls agp;unfold gI at hK;split at hK
     ·rename_i k n;by_cases hk:k= .u8
      ·subst hk;simp only [decide_true,cond_true] at hK;obtain ⟨Dj,hK⟩:=eW hK;unfold isByte at Dj;have Dj:=of_decide_eq_true Dj;have hyv:=lP hy;cases hp:putAt cs off [.hs (x.put i (acm n.toNat))] with
       |none=>simp [hp] at hK
       |some ke=>
        simp only [hp] at hK;have mU:=h.slot root;rw [xA] at mU;obtain ⟨arr,T,eh,qw⟩:=mU.2.cells uN;obtain ⟨p1,p2,p3,he,h1,h2,h3⟩:=xx (ws:=bC (x.put i (acm n.toNat))) hp qw ⟨_,[],by simp,rfl,rfl⟩;obtain ⟨u1,u2,hu,h4,h5⟩:=zC agp qw;obtain ⟨u3,u4,rfl,h6,_⟩:=h5;have h6:u3=bC x:=h6;subst h6;have hlx:=dm x;have hly:=dm (x.put i (acm n.toNat));have hpu:p1=u1/\p2++p3=bC x++u4:=List.append_inj (by rw [<-AI,<-he,hu]) (by omega);obtain ⟨rfl,hpu⟩:=hpu;obtain ⟨rfl,rfl⟩:=List.append_inj hpu (by omega);have qm:arr.size=p1.length+32+p3.length:=by
         have:arr.toList.length=(p1++bC x++p3).length:=by rw [he]
         simp at this;omega
        have Nz:(a.eval y).cells.toList=[.int .u8 n]:=by rw [hyv];simp [abX]
        have KQ:I.size=1:=by rw [<-HS];rfl
        have bV:=n9 (P:=P) (w:=w) (bq:=e.B root) (off:=off+i) (v:=a.eval y) hr hc (by rw [Nz,KQ];rfl) (by rw [Nz];simp [aaT]) eh (by omega);have tT:arr.toList.take (off+i)++(a.eval y).cells.toList++arr.toList.drop (off+i+I.size)=p1++bC (x.put i (acm n.toNat))++p3:=by rw [Nz,KQ,he,HW x i _ Sf,<-Dj,AI p1,acP,adD,acP,adD];rw [acv (by omega),ad9 (by omega)];rw [show off+i-p1.length=i by omega,show off+i+1-p1.length=i+1 by omega,show i-(bC x).length=0 by omega,show i+1-(bC x).length=0 by omega];simp
        rw [tT] at bV;unfold wr at hK;cases hn:bI st.cz root with
        |true=>simp [hn] at hK
        |false=>simp only [hn,cond_false,force_eq,n8] at hK;exact go _ _ (by rw [hx];exact bV) (h.YI xA eh (by simpa using h3) (λt=>by rw [bZ]) (fO h.nodup)) (.setRow _ (O7 mU.2.cB (by rw [<-h.defers.2.1,<-bH,hn];simp))) hK
      ·simp [hk] at hK
     ·simp at hK
    ·simp at hK
   ·simp at hK
  ·rename_i f i off b cs;obtain ⟨e1,dk,ms,yF,ER,ES,xC,hK,hp1,BN⟩:=nO h hcv hK;have hx:=hx.on ER.on (eR _);cases hf:aQ dk.bo f with
   |none=>simp [hf] at hK
   |some fo=>
    simp only [hf] at hK;cases hz:fo.eV with
    |true=>simp [hz] at hK
    |false=>
     simp only [hz,cond_false] at hK;cases Np:se (aP sy) ms with
     |none=>simp [Np] at hK
     |some vs=>
      simp only [Np] at hK;obtain ⟨zj,_⟩:=BN vs Np;cases hp:putAt cs off vs with
      |none=>simp [hp] at hK
      |some ke=>
       simp only [hp] at hK;cases hm:bR ke with
       |none=>simp [hm] at hK
       |some ms'=>
        simp only [hm] at hK;cases RS:vP b ms' with
        |none=>simp [RS] at hK
        |some x'=>
         simp only [RS] at hK;cases hn:bI dk.cS f with
         |true=>simp [hn] at hK
         |false=>
          simp only [hn,cond_false,agi,pe] at hK;simp only [af] at hx;obtain ⟨bq,cap,hE,⟨x0,hx0,hel⟩,YQ⟩:=hx fo (by rw [yF.m];exact hf);obtain ⟨J,cells,hJ,hJc,eQ,mX,_⟩:=(yF.iy f fo hf).row;have hi:i<fo.xs.length:=(AT.1 hx0).1;obtain ⟨p1,v1,p2,hce,Nv,yE,gU⟩:=mX.at hx0;have qw:=gU.HO hel;have hw1:=qw.width;obtain ⟨q1,q2,q3,Nu,hq1,hq2,tT⟩:=xx hp qw zj;have aj2:(a.eval y).cells.toList.length=I.size:=by rw [hcv.width,HS]
          have aj3:=YO (tT.aot hm) RS;obtain ⟨hlen,HV⟩:=eQ;rcases HV with ⟨g1,_⟩|⟨g2,Di,fB,g1,g0,g3,g4,g5,g6,g7⟩
          ·rw [hE] at g1;simp at g1
          ·have LR:w.ownsRow 0 fo.ty J.size (e1.E f) fo.xs.length cells:=⟨hlen,.inr ⟨g2,Di,fB,g1,g0,g3,g4,g5,g6,g7⟩⟩
           rw [hE] at g1;simp at g1;obtain ⟨rfl,rfl⟩:=g1;have hvl:(q1++(a.eval y).cells.toList++q3).length=J.size:=by
            have:v1.length=(q1++q2++q3).length:=by rw [Nu]
            simp only [IT] at this⊢;omega
           obtain ⟨sX,hZ⟩:=yF.agy hf hz hJ hJc hE LR g3 mX hi hvl aj3 (by rw [<-yF.defers.2.2.1,<-bH,hn];simp);have YR:fB.toList=p1++q1++q2++(q3++p2++fB.toList.drop (fo.xs.length *J.size)):=by have:=List.take_append_drop (fo.xs.length *J.size) fB.toList;rw [g7,hce,Nu] at this;refine this.symm.trans ?_;simp
           have aug:q2.length=I.size:=by rw [hq2,aj2]
           have EQ:(p1++q1).length=i *J.size+off:=by simp [Nv,hq1]
           have auh:fB.size=(p1++q1).length+I.size+(q3++p2++fB.toList.drop (fo.xs.length *J.size)).length:=by
            have:fB.toList.length=(p1++q1++q2++(q3++p2++fB.toList.drop (fo.xs.length *J.size))).length:=by rw [<-YR]
            rw [IT,IT] at this;rw [aci] at this;omega
           have bV:=n9 (P:=P) (w:=w) (bq:=bq) (off:=i *J.size+off) (v:=a.eval y) hr hc aj2 hcv.cells g3 (by omega);have gV:fB.toList.take (i *J.size+off)++(a.eval y).cells.toList++fB.toList.drop (i *J.size+off+I.size)= fB.toList.take (i *J.size)++(q1++(a.eval y).cells.toList++q3)++fB.toList.drop (i *J.size+J.size):=by
            have t1:fB.toList.take (i *J.size+off)=p1++q1:=by
             conv=>lhs;rw [YR,AI (p1++q1)]
             exact adk EQ
            have t2:fB.toList.drop (i *J.size+off+I.size)=q3++p2++fB.toList.drop (fo.xs.length *J.size):=by
             conv=>lhs;rw [YR]
             exact acq (by rw [IT];omega)
            have t3:fB.toList.take (i *J.size)=p1:=by
             conv=>lhs;rw [YR]
             simp only [AI];exact adk Nv
            have t4:fB.toList.drop (i *J.size+J.size)=p2++fB.toList.drop (fo.xs.length *J.size):=by
             have aj4:fB.toList=(p1++(q1++q2++q3))++(p2++fB.toList.drop (fo.xs.length *J.size)):=by
              conv=>lhs;rw [YR]
              simp
             conv=>lhs;rw [aj4]
             exact acq (by rw [IT,<-Nu];omega)
            rw [t1,t2,t3,t4];simp
           rw [gV] at bV;have aow:i *zn cs+off=i *J.size+off:=by rw [<-hw1,yE]
           refine Dg (w':=w.setRow bq (fB.toList.take (i *J.size)++(q1++(a.eval y).cells.toList++q3)++fB.toList.drop (i *J.size+J.size)).toArray) ?_ sX ?_ hK
           ·rw [aow] at YQ;simp [execOp,ho,YQ,bV]
           ·exact ER.tr.trans (.setRow _ hZ)
  ·simp at hK
end
end Dn
/-
  Structs and sums that are put together. Conditions: none.
-/
namespace Dn
open Go
section
variable {P:Program}{c:Ctx}{Z:bJ} {e e':Env}{st:St}{a:Act} {w w':World}{R:Type}{K:St->Option R}{r:R}{Q:Exit->Act->World->Prop}{o:Oper}
theorem LS {place:Nat->Option (Nat×Nat)}{cells:Array Value}{i off:Nat}{v:Value}{rest:List (Nat×Value)}(hp:place i=some (off,v.cells.size))(hle:off+v.cells.size<=cells.size): aea place cells ((i,v)::rest)=aea place (cells.toList.take off++v.cells.toList++cells.toList.drop (off+v.cells.size)).toArray rest:=by
 conv=>lhs;unfold aea
 simp only [hp];rw [if_neg (by simp;omega)];congr 1;rw [<-Array.foldl_toList,Array.toList_zipIdx];obtain ⟨h1,h2⟩:=Go.Great.foldl_set off v.cells.toList 0 cells;apply Array.ext_getElem?;intro k;have hl:(cells.toList.take off).length=off:=by simp;omega
 have e0:=h2 k;simp only [adw,aci] at e0;refine Eq.trans e0 ?_;have e1:(cells.toList.take off++v.cells.toList++cells.toList.drop (off+v.cells.size)).toArray[k]? =(cells.toList.take off++v.cells.toList++cells.toList.drop (off+v.cells.size))[k]? :=by simp
 rw [e1,AI];have e2:cells[k]? =cells.toList[k]? :=by simp
 by_cases h3:k<off
 ·rw [if_neg (by omega),aaW (by omega),acj,if_pos h3,e2]
 ·rw [aaU (by omega),hl];by_cases h4:k<off+v.cells.size
  ·rw [if_pos ⟨by omega,h4,by omega⟩,aaW (by simp;omega)]
  ·rw [if_neg (by omega),aaU (by simp;omega),ae9,e2];congr 1;simp;omega
theorem Sl {I:TI}{places:List (Nat×Nat)}(h:bX c Z e st a w)(Np: ∀(i q y:Nat)(J:TI),I.Hv[i]? =some q->I.VC[i]? =some y->c.tv y=some J->places[i]? =some (q,J.size)/\0<J.size){parts:List (Nat×Operand)}: ∀{cs ds:List aD} {cells:Array Value},ay e cells.toList cs->Cd c st I parts cs=some ds-> ∃out,aea (places.toArray[·]?) cells (parts.map λp=>(p.1,a.eval p.2))=some out/\ay e out.toList ds:=by
 induction parts with
 |nil=>intro cs ds cells hl hb;simp [Cd] at hb;subst hb;exact ⟨cells,rfl,hl⟩
 |cons p ps ih=>
  intro cs ds cells hl hb;obtain ⟨i,x⟩:=p;simp only [Cd] at hb;split at hb
  ·rename_i q y hq hy;cases hJ:c.tv y with
   |none=>simp [hJ] at hb
   |some J=>
    simp only [hJ] at hb;obtain ⟨hpi,jn⟩:=Np i q y J hq hy hJ;cases hu:wB (aP (aN c st x))||!cM (zn (aP (aN c st x))) J.size with
    |true=>simp [hu] at hb
    |false=>
     simp only [hu,cond_false] at hb;simp only [acg,ady] at hu;have HS:=sh hu.2;cases hp:putAt cs q (aP (aN c st x)) with
     |none=>simp [hp] at hb
     |some ke=>
      simp only [hp] at hb;have db:aP (aN c st x)≠[]:=by intro e0;rw [e0] at HS;simp [zn] at HS;omega
      have hv:=BM (h.eval x).1 hu.1 db;obtain ⟨p1,p2,p3,he,h1,h2,h3⟩:=xx hp hl hv;have hlen:(a.eval x).cells.size=J.size:=by rw [<-HS,<-hv.width];simp
      have qm:cells.size=p1.length+p2.length+p3.length:=by
       have:cells.toList.length=(p1++p2++p3).length:=by rw [he]
       simp at this;omega
      have Nw:p2.length=(a.eval x).cells.size:=by rw [h2];simp
      have BP:=LS (place:=(places.toArray[·]?)) (cells:=cells) (i:=i) (off:=q) (v:=a.eval x) (rest:=ps.map λp=>(p.1,a.eval p.2)) (by rw [hlen];simpa using hpi) (by omega);have ht:cells.toList.take q++(a.eval x).cells.toList++cells.toList.drop (q+(a.eval x).cells.size)=p1++(a.eval x).cells.toList++p3:=by rw [he];rw [AI p1 p2 p3,adk h1,<-AI p1 p2 p3,acq (by rw [IT];omega)]
      rw [ht] at BP;obtain ⟨out,h4,h5⟩:=ih (cells:=(p1++(a.eval x).cells.toList++p3).toArray) (by simpa using h3) hb;exact ⟨out,by rw [aaf,BP];exact h4,h5⟩
  ·simp at hb
theorem Sn {parts:List (Nat×Operand)}(h:bX c Z e st a w): ∀{x:kY} {K':kY->Option R},Hy c st parts x K'=some r-> ∃y,aea (λi=>some (i *1,1)) (bC x).toArray (parts.map λp=>(p.1,a.eval p.2))=some (bC y).toArray/\K' y=some r:=by
 induction parts with
 |nil=>intro x K' hb;exact ⟨x,rfl,hb⟩
 |cons p ps ih=>
  intro x K' hb;obtain ⟨i,y⟩:=p;simp only [Hy] at hb;split at hb
  ·rename_i m hm;cases hi:ab8 32 i with
   |true=>simp [hi] at hb
   |false=>
    simp only [hi,cond_false] at hb;have Sf:i<32:=by
     by_cases cT:i<32
     ·exact cT
     ·have:ab8 32 i=true:=aeX (by omega);simp_all
    unfold gI at hb;split at hb
    ·rename_i k n;by_cases hk:k= .u8
     ·subst hk;simp only [decide_true,cond_true] at hb;obtain ⟨Dj,hb⟩:=eW hb;unfold isByte at Dj;have Dj:=of_decide_eq_true Dj;obtain ⟨out,h1,h2⟩:=ih hb;have hv:=lP (by have:=(h.eval y).1;rw [hm] at this;exact this);refine ⟨out,?_,h2⟩;rw [<-h1,aaf];have KG:(a.eval y).cells= #[.int .u8 n]:=by rw [hv];simp [abX]
      have BP:=LS (place:=λi=>some (i *1,1)) (cells:=(bC x).toArray) (i:=i) (off:=i *1) (v:=a.eval y) (rest:=ps.map λp=>(p.1,a.eval p.2)) (by rw [KG];rfl) (by rw [KG];have:=dm x;simp;omega);rw [BP,HW x i _ Sf,<-Dj,KG];simp
     ·simp [hk] at hb
    ·simp at hb
  ·simp at hb
theorem VW (P:Program)(l:List Field):(∀f∈l,∃i,P.info? f.type=some i)-> ∃places,l.mapM (λf=>(P.info? f.type).map λi=>(f.offset,i.size))=some places/\ ∀(k:Nat) (f:Field),l[k]? =some f-> ∃i,P.info? f.type=some i/\places[k]? =some (f.offset,i.size):=by
 induction l with
 |nil=>intro _;exact ⟨[],by simp,by simp⟩
 |cons f fs ih=>
  intro h;obtain ⟨i,hi⟩:=h f (by simp);obtain ⟨ps,h1,h2⟩:=ih (λg hg=>h g (by simp [hg]));refine ⟨(f.offset,i.size)::ps,by simp [List.mapM_cons,hi,h1],?_⟩;intro k g hg;cases k with
  |zero=>simp at hg;subst hg;exact ⟨i,hi,rfl⟩
  |succ k=>simp at hg;simpa using h2 k g hg
theorem YS {t:TypeId}{parts:Array (Nat×Operand)}{I:TI}(ho:o.op= .build t parts)(hI:c.tv t=some I)(hT:jA P c.ti)(h:bX c Z e st a w)(hK:(bif I.st then (match Cd c st I parts.toList I.zero with|some cs=>bu c st o.dst (.ag cs) K|none=>none)
  else (match I.lay with|[.h]=>Hy c st parts.toList kY.zero λx=>bu c st o.dst (.sc (.hs x)) K|_=>none))=some r):Rd P c Z K r e a w o (λ_=>True):=by
 obtain ⟨mW,hc⟩:=bB hI;obtain ⟨d,i,h1,h2,h3,h4⟩:=hT t I mW;have XT:(parts.map λ(i,x)=>(i,a.eval x)).toList=parts.toList.map λp=>(p.1,a.eval p.2):=by simp
 have run: ∀out,P.built t (parts.toList.map λp=>(p.1,a.eval p.2))=some out-> ∀w:World,(execOp a.eval o).run P w= .ok (.value (.agg out)) w:=by intro out hb w;have:=run_build (P:=P) w t (parts.map λ(i,x)=>(i,a.eval x)) out (by rw [XT];exact hb);simp [execOp,ho] at this⊢;simp [this]
 cases gm:I.st with
 |true=>
  simp only [gm,cond_true] at hK;cases d<;>simp only [sU] at h4;case struct fs=>
   obtain ⟨_,_,_,Sg,cJ,Pz,zc,hz,hzl,_⟩:=h4;cases hb:Cd c st I parts.toList I.zero with
   |none=>simp [hb] at hK
   |some cs=>
    simp only [hb] at hK;have aox: ∃places,fs.toList.mapM (λf=>(P.info? f.type).map λi=>(f.offset,i.size))=some places/\ (∀(i q y:Nat) (J:TI),I.Hv[i]? =some q->I.VC[i]? =some y->c.tv y=some J->places[i]? =some (q,J.size)/\0<J.size):=by
     obtain ⟨places,hp1,LO⟩:=VW P fs.toList (by intro f hf;obtain ⟨k,hk,rfl⟩:=ae2.1 hf;obtain ⟨J,hJ,hJc,_⟩:=Pz k fs.toList[k] (by simp at hk⊢);obtain ⟨i,hi,_⟩:=(hT _ J hJ).info hJc;exact ⟨i,hi⟩);refine ⟨places,hp1,?_⟩;intro i q y J hq hy hJ;rw [<-Sg,acb] at hq;rw [<-cJ,acb] at hy;cases hf:fs.toList[i]? with
     |none=>simp [hf] at hq
     |some f=>simp [hf] at hq hy;subst hq;subst hy;obtain ⟨J2,hJ2,aoy,jn⟩:=Pz i f (by simpa using hf);obtain ⟨hJt,_⟩:=bB hJ;rw [hJ2] at hJt;cases hJt;obtain ⟨i2,hi2,aoz⟩:=LO i f hf;obtain ⟨i3,hi3,hs3,_⟩:=(hT _ J hJ2).info aoy;rw [hi2] at hi3;cases hi3;exact ⟨by rw [aoz,hs3],jn⟩
    obtain ⟨places,Np,So⟩:=aox;obtain ⟨out,h5,h6⟩:=Sl h So (cells:=zc) (ml hzl) hb;refine jz (v:= .agg out) (s:= .ag cs) h (run out ?_) ?_ trivial hK
    ·unfold Program.built;simp only [h2,h1,hz,Np];exact h5
    ·simp only [af];exact ⟨out,rfl,h6⟩
  all_goals (exfalso;simp_all)
 |false=>
  simp only [gm,cond_false] at hK;split at hK
  ·rename_i hl;cases d<;>simp only [sU,hl,gm] at h4<;>first|(exfalso;simp_all;done)|skip
   obtain ⟨_,_,_,rfl,rfl,⟨ie,hu,C1,yF⟩,_,_,hz⟩:=h4;obtain ⟨y,h5,h6⟩:=Sn h hK;refine jz (v:= .agg (bC y).toArray) (s:= .sc (.hs y)) h (run _ ?_) ?_ trivial h6
   ·unfold Program.built;simp only [h2,h1,hz,C1,yF];exact h5
   ·simp only [af]
  ·simp at hK
end
end Dn
/-
  A family comes to have other content. Conditions: none.
-/
namespace Dn
open Go
section
variable {P:Program}{c:Ctx}{Z:bJ} {e e':Env}{st:St}{a:Act} {w w':World}{R:Type}{K:St->Option R}{r:R}{Q:Exit->Act->World->Prop}{o:Oper}
def Env.wE (e:Env)(f:Nat)(v:Value)(fo:oZ):Env:={e with E:=λg=>if g=f then v else e.E g,m:=b7 e.m f fo}
def St.wE (st:St)(f:Nat)(fo:oZ):St:={st with fr:=lU f st.fr,bo:=b7 st.bo f fo}
theorem ET (f:Nat)(s:Slot):dg (AX f s)=dg s:=by cases s<;>simp only [AX,dg];rename_i g _ _ _ _;cases cM g f<;>rfl
theorem u6 {f:Nat}{s:Slot}{cs:List aD}(h:AX f s= .box cs): ∃GQ,s= .box GQ/\cs=GQ.map (Nk f):=by
 cases s<;>simp only [AX] at h<;>first|(simp at h;done)|(rename_i g _ _ _ _;cases hb:cM g f<;>simp [hb] at h;done)|skip
 rename_i GQ;simp at h;exact ⟨GQ,rfl,h.symm⟩
theorem bX.ki {f:Nat}{fo:oZ} {v':Value}(h:bX c Z e st a w)(Cn:f∉Z.cS)(jD:cK c Z.nc e w' v' fo)(asc:w.heap.size<=w'.heap.size)(eh: ∀b,b<w.heap.size->(∀o,aQ st.bo f=some o->(e.E f).ownBlock≠some b)->w'.heap[b]? =w.heap[b]?)(lV: ∀b o v,e.φ b o=some v->w'.cell? ⟨b,o,none⟩=some v)(tT: ∀b,v'.ownBlock=some b->w.heap.size<=b\/ ∃o,aQ st.bo f=some o/\(e.E f).ownBlock=some b): bX c Z (e.wE f v' fo) (st.wE f fo) a w':=by
 have uL:mi (· ≠f) (λ_=>True) e (e.wE f v' fo):=by refine ⟨rfl,.refl _,λ_ _=>rfl,λf2 o2 cJ db=> ?_⟩;have cJ:aQ (b7 e.m f fo) f2=some o2:=cJ;rw [bw] at cJ;simp only [db,if_false] at cJ;exact ⟨o2,cJ,by simp [Env.wE,db],rfl⟩
 have YT: ∀t cs,av st.fr t= .box cs->e.B t<w.heap.size:=by intro t cs ht;have hs:=h.slot t;rw [ht] at hs;obtain ⟨o2,h1,_⟩:=hs.2.obj;exact ba h1
 have sR: ∀t cs,av st.fr t= .box cs->w'.heap[e.B t]? =w.heap[e.B t]? :=by intro t cs ht;exact eh _ (YT t cs ht) (λo ho=>h.bf t cs f o ht ho)
 refine ⟨h.defers,h.size,by show b7 e.m f _=b7 st.bo f _;rw [h.m],h.key,?_,?_,?_,?_,?_,?_,?_,lV,λb hb=>h.cB b (by omega)⟩
 ·show (aX (lU f st.fr)).Nodup;have:aX (lU f st.fr)=aX st.fr:=by simp [aX,lU]
  rw [this];exact h.nodup
 ·intro t;show cj Z _ _ t _ (av (lU f st.fr) t);rw [iP];have hs:=h.slot t;have Bw:=sR t;generalize av st.fr t=s at hs Bw;by_cases HX: ∃cs,s= .box cs
  ·obtain ⟨cs,rfl⟩:=HX;simp only [cj,AX] at hs⊢;refine ⟨hs.1.mf (Sc f _),hs.2.cB,?_,hs.2.free⟩;obtain ⟨o2,h1,h2⟩:=hs.2.obj;refine ⟨o2,by show w'.heap[e.B t]? =_;rw [Bw cs rfl];exact h1,?_⟩;refine (h2.map (λ_ _=>aU.kill f) (λ_ _=>rfl)).on uL ?_;intro l hl;obtain ⟨x,_,rfl⟩:=adn.1 hl;exact EL f x
  ·have yG:af e (a.tmps.getD t undef) s:=by cases s<;>simp only [cj] at hs<;>first|exact hs|exact absurd ⟨_,rfl⟩ HX
   have h2:=(yG.kill f).on uL (Yx f _ s (eR s));generalize RR:AX f s=s2 at h2;cases s2<;>first|exact h2|(exfalso;simp [af] at h2)
 ·intro t;show cL (lU f st.fr) (av (lU f st.fr) t);rw [iP];have rC:=h.root t;generalize av st.fr t=s at rC;have hk: ∀q,dg (av (lU f st.fr) q)=dg (av st.fr q):=λq=>by rw [iP,ET]
  cases s with
  |ptr q o=>show dg (av (lU f st.fr) q)=true;rw [hk];exact rC
  |hp q o i=>show dg (av (lU f st.fr) q)=true;rw [hk];exact rC
  |zm q=>show dg (av (lU f st.fr) q)=true;rw [hk];exact rC
  |ep g' _ _ _ _=>simp only [AX];cases cM g' f<;>trivial
  |_=>trivial
 ·intro f2 o2 cJ;have cJ:aQ (b7 st.bo f fo) f2=some o2:=cJ;rw [bw] at cJ;by_cases fT:f2=f
  ·subst fT;simp at cJ;subst cJ;have:=(jD.to Cn).env (e':=e.wE f2 v' fo) rfl rfl;simpa [Env.wE] using this
  ·simp only [fT,if_false] at cJ;obtain ⟨I2,xB,h1,h2,h3,h4,h5⟩:=(h.iy f2 o2 cJ).row;refine ⟨I2,xB,h1,h2,?_,h4,?_⟩
   ·show w'.ownsRow 0 o2.ty I2.size (if f2=f then v' else e.E f2) o2.xs.length xB;rw [if_neg fT];refine ⟨h3.1,?_⟩;rcases h3.2 with h6|⟨g,cap,fB,g1,g2,g3,g4⟩
    ·exact .inl h6
    ·refine .inr ⟨g,cap,fB,g1,g2,?_,g4⟩;rw [eh g (ba g3) (λo ho hk=>fT (h.ff f2 f o2 o g cJ ho (by rw [g1];rfl) hk))];exact g3
   ·intro bq hb;have hb:(if f2=f then v' else e.E f2).ownBlock=some bq:=hb;rw [if_neg fT] at hb;exact h5 bq hb
 ·intro t t' c1 c2 h1 h2 db;have h1:av (lU f st.fr) t= .box c1:=h1;have h2:av (lU f st.fr) t'= .box c2:=h2;rw [iP] at h1 h2;obtain ⟨d1,g1,_⟩:=u6 h1;obtain ⟨d2,g2,_⟩:=u6 h2;exact h.bb t t' d1 d2 g1 g2 db
 ·intro t c1 f2 o2 h1 h2;have h1:av (lU f st.fr) t= .box c1:=h1;have h2:aQ (b7 st.bo f fo) f2=some o2:=h2;rw [iP] at h1;rw [bw] at h2;obtain ⟨d1,g1,_⟩:=u6 h1;show (if f2=f then v' else e.E f2).ownBlock≠some (e.B t);by_cases fT:f2=f
  ·rw [if_pos fT];intro hb;rcases tT _ hb with h3|⟨o,h3,h4⟩
   ·have:=YT t d1 g1;omega
   ·exact h.bf t d1 f o g1 h3 h4
  ·rw [if_neg fT];simp only [fT,if_false] at h2;exact h.bf t d1 f2 o2 g1 h2
 ·intro f1 f2 o1 o2 k h1 h2 h3 h4;have h1:aQ (b7 st.bo f fo) f1=some o1:=h1;have h2:aQ (b7 st.bo f fo) f2=some o2:=h2;have h3:(if f1=f then v' else e.E f1).ownBlock=some k:=h3;have h4:(if f2=f then v' else e.E f2).ownBlock=some k:=h4;rw [bw] at h1 h2;have ql: ∀g og,aQ st.bo g=some og->(e.E g).ownBlock=some k->k<w.heap.size:=by
   intro g og hg hk;obtain ⟨I2,xB,_,_,g3,_⟩:=(h.iy g og hg).row;rcases g3.2 with ⟨g5,_⟩|⟨b,cap,fB,g5,_,g6,_⟩
   ·rw [g5] at hk;simp [aa1] at hk
   ·rw [g5] at hk;simp only [aa1,BY] at hk;subst hk;exact ba g6
  by_cases NA:f1=f
  ·by_cases C3:f2=f
   ·rw [NA,C3]
   ·rw [if_pos NA] at h3;rw [if_neg C3] at h4;simp only [C3,if_false] at h2;rcases tT k h3 with h5|⟨o,h5,h6⟩
    ·have:=ql f2 o2 h2 h4;omega
    ·exact NA.trans (h.ff f f2 o o2 k h5 h2 h6 h4)
  ·rw [if_neg NA] at h3;simp only [NA,if_false] at h1;by_cases C3:f2=f
   ·rw [if_pos C3] at h4;rcases tT k h4 with h5|⟨o,h5,h6⟩
    ·have:=ql f1 o1 h1 h3;omega
    ·exact (h.ff f1 f o1 o k h1 h5 h3 h6).trans C3.symm
   ·rw [if_neg C3] at h4;simp only [C3,if_false] at h2;exact h.ff f1 f2 o1 o2 k h1 h2 h3 h4
theorem qx {f:Nat}{fo:oZ}(hK:ki st f fo K=some r):K (st.wE f fo)=some r:=by
 unfold Dn.ki at hK;cases hn:bI st.cS f with
 |true=>simp [hn] at hK
 |false=>simpa [hn,Yu,pe,St.wE] using hK
theorem bX.npf {f:Nat}{fo:oZ}(h:bX c Z e st a w)(hK:Dn.ki st f fo K=some r):f∉Z.cS:=by intro hm;rw [<-h.defers.2.2.1,<-bH] at hm;simp [Dn.ki,hm] at hK
theorem wF {f:Nat}{fo:oZ}{v:Value}(h1:v.oneCell'=true):af (e.wE f v fo) v (.sc (.own f)):=by simp only [af];exact ⟨v,rfl,h1,λo ho=>by simp [Env.wE]⟩
end
end Dn
/-
  What is appended. Conditions: none.
-/
namespace Dn
open Go
section
variable {P:Program}{c:Ctx}{Z:bJ} {e e':Env}{st:St}{a:Act} {w w':World}{R:Type}{K:St->Option R}{r:R}{Q:Exit->Act->World->Prop}{o:Oper}
theorem lp {t:TypeId}{I:TI}(hr:pg c.ti P t I)(hc:I.cE=[]): ∃i z,P.info? t=some i/\i.size=I.size/\i.bytes=I.bytes/\i.zero=some z/\z.cells.size=I.size:=by
 obtain ⟨d,i,h1,h2,h3,h4⟩:=hr;obtain ⟨h5,h6⟩:=h3 hc;cases d<;>simp only [sU] at h4;case struct fs=>obtain ⟨_,_,_,_,_,_,cs,hz,_,hs⟩:=h4;exact ⟨i,_,h2,h5,h6,hz,by simpa [abX] using hs⟩
 case tuple ts=>exact absurd hc h4.2.1
 case slice el=>obtain ⟨_,_,hs,_,_,hz,_⟩:=h4;exact ⟨i,_,h2,h5,h6,hz,by rw [hs];rfl⟩
 case array n el=>obtain ⟨_,_,hs,_,_,_,_,_,hz⟩:=h4;exact ⟨i,_,h2,h5,h6,hz,by rw [hs];simp [abX,dm]⟩
 case bool=>obtain ⟨_,_,hs,_,_,hz⟩:=h4;exact ⟨i,_,h2,h5,h6,hz,by rw [hs];rfl⟩
 case int k=>obtain ⟨_,_,hs,_,_,hz⟩:=h4;exact ⟨i,_,h2,h5,h6,hz,by rw [hs];rfl⟩
 case string=>obtain ⟨_,_,hs,_,_,b,hz,_⟩:=h4;exact ⟨i,_,h2,h5,h6,hz,by rw [hs];rfl⟩
 all_goals
  obtain ⟨_,_,hs,_,v,hz,hv,_⟩:=h4;refine ⟨i,v,h2,h5,h6,hz,?_⟩;rw [hs];cases v<;>simp_all [abX,aaT]
structure Src (e:Env) (w:World) (size:Nat) (v:Value) (ys:List MV) (news:List Value):Prop where
 els:bx e.key e.φ size news ys
 val: ∃ad cap,v= .slice ad ys.length cap/\(ad=none->ys=[])/\ ∀x,ad=some x-> ∀(j:Nat) (u:Value),news[j]? =some u->w.cell? (x.add j)=some u
theorem bx.HY {key:Nat->Nat} {φ:Ph}{size:Nat}{xs:List MV}: ∀{cs:List Value},bx key φ size cs xs-> ∀u∈cs,u.oneCell'=true:=by
 induction xs with
 |nil=>intro cs h;cases h;simp
 |cons x xs ih=>
  intro cs h u hu;obtain ⟨v,q,rfl,_,h2,h3⟩:=h;rcases aef.1 hu with hu|hu
  ·exact h2.cells u hu
  ·exact ih h3 u hu
theorem bx.append {key:Nat->Nat} {φ:Ph}{size:Nat}{xs ys:List MV}: ∀{cs ds:List Value},bx key φ size cs xs->bx key φ size ds ys->bx key φ size (cs++ds) (xs++ys):=by
 induction xs with
 |nil=>intro cs ds h h';cases h;simpa using h'
 |cons x xs ih=>intro cs ds h h';obtain ⟨v,q,rfl,h1,h2,h3⟩:=h;exact ⟨v,q++ds,by simp,h1,h2,ih h3 h'⟩
theorem HZ {key:Nat->Nat} {φ:Ph}{size:Nat}{xs:List MV}: ∀{f:Nat->List Value},(∀i,i<xs.length->(f i).length=size)->(∀(i:Nat) (h:i<xs.length),jo key φ (f i) xs[i])-> ∃cs,bx key φ size cs xs/\ ∀(i j:Nat),i<xs.length->j<size->cs[i *size+j]? =(f i)[j]? :=by
 induction xs with
 |nil=>intro f _ _;exact ⟨[],rfl,λi j hi=>by simp at hi⟩
 |cons x xs ih=>
  intro f h1 h2;obtain ⟨cs,h3,h4⟩:=ih (f:=λi=>f (i+1)) (λi hi=>h1 (i+1) (by simpa using hi)) (λi hi=>h2 (i+1) (by simpa using hi));have hl:=h1 0 (by simp);refine ⟨f 0++cs,⟨f 0,cs,rfl,hl,h2 0 (by simp),h3⟩,?_⟩;intro i j hi hj;cases i with
  |zero=>rw [afd,ab9,aaW (by omega)]
  |succ i=>rw [acn,aaU (by omega),show i *size+size+j-(f 0).length=i *size+j by omega];exact h4 i j (by simpa using hi) hj
theorem FN {I E:TI}{x:Slot}{v:Value} {K':List MV->Option R}(h:bX c Z e st a w)(hE:c.ti I.elem=some E)(jn:0<E.size)(hx:af e v x)(hK:Nd I E st x K'=some r): ∃ys news,Src e w E.size v ys news/\K' ys=some r:=by
 unfold Nd at hK;split at hK
 ·rename_i xs;obtain ⟨hw,hK⟩:=eW hK;simp only [af,aU] at hx;obtain ⟨_,hx⟩:=hx;generalize hv:[v]=vs at hx;cases hx with
  |list ad cap _ bq off C0 f g1 g2 g3 g4 g5=>
  simp at hv;have Ut: ∀i,i<xs.length->(f i).length=E.size:=by intro i hi;rw [(g5 i hi).width];exact Dh hw _ (afn hi)
  obtain ⟨cs,h1,h2⟩:=HZ Ut g5;refine ⟨xs,cs,⟨h1,ad,cap,hv,?_,?_⟩,hK⟩
  ·intro hn;cases xs with
   |nil=>rfl
   |cons y ys=>have:=g2 (by simp);rw [hn] at this;cases this
  ·intro x hx j u hj;have C2:j<cs.length:=(AT.1 hj).1;rw [h1.length] at C2;have H0:0<xs.length:=by
    cases xs with
    |nil=>simp at C2
    |cons y ys=>simp
   have EU:=g2 H0;rw [hx] at EU;cases EU;have hq:j/E.size<xs.length:=(Nat.div_lt_iff_lt_mul jn).2 C2;have hm:=Nat.mod_lt j jn;have XP:j=j/E.size *E.size+j%E.size:=by rw [Nat.mul_comm];exact (Nat.div_add_mod j E.size).symm
   have e1:=h2 (j/E.size) (j%E.size) hq hm;rw [<-XP,hj] at e1;have YU:C0=E.size:=by rw [<-g3 0 H0,Ut 0 H0]
   have e2:=g4 (j/E.size) (j%E.size) hq (by rw [YU];exact hm);rw [<-e1,YU,ac6,<-XP] at e2;have:=h.kE _ _ _ e2;rw [aco];exact this
 ·simp only [af] at hx;have hx:[v]=[ach none 0 0]:=hx;simp at hx;exact ⟨[],[],⟨rfl,none,0,hx,λ_=>rfl,by simp⟩,hK⟩
 ·rename_i f;cases hf:aQ st.bo f with
  |none=>simp [hf] at hK
  |some fo=>
   simp only [hf] at hK;cases hb:cM fo.ty I.elem with
   |false=>simp [hb] at hK
   |true=>
    simp only [hb,cond_true] at hK;have jC:=sh hb;obtain ⟨hv,_⟩:=sW h hx hf;obtain ⟨J,cells,hJ,_,eQ,mX,_⟩:=(h.iy f fo hf).row;rw [jC,hE] at hJ;cases hJ;refine ⟨fo.xs,cells,⟨mX,?_⟩,hK⟩;rcases eQ.2 with ⟨h1,h2⟩|⟨g,cap,fB,h1,_⟩
    ·exact ⟨none,0,by rw [hv,h1,h2],λ_=>No h2,by simp⟩
    ·refine ⟨some ⟨g,0,none⟩,cap,by rw [hv,h1],by simp,?_⟩;intro x hx j u hj;cases hx;exact eQ.cells (g:=g) (by rw [h1];rfl) j u hj
 ·simp at hK
end
end Dn
/-
  Appends. Conditions: none.
-/
namespace Dn
open Go
section
variable {P:Program}{c:Ctx}{Z:bJ} {e e':Env}{st:St}{a:Act} {w w':World}{R:Type}{K:St->Option R}{r:R}{Q:Exit->Act->World->Prop}{o:Oper}
structure aj6 (w w':World) (el:TypeId) (size:Nat) (v v':Value) (n m:Nat) (cells news:List Value):Prop where
 own:w'.ownsRow 0 el size v' (n+m) (cells++news)
 size:w.heap.size<=w'.heap.size
 ql: ∀k,k<w.heap.size->some k≠v.ownBlock->w'.heap[k]? =w.heap[k]?
 cell: ∀(k off:Nat) (u:Value),v.ownBlock=some k->off<cells.length->w.cell? ⟨k,off,none⟩=some u->w'.cell? ⟨k,off,none⟩=some u
 place:v'.ownBlock=v.ownBlock\/v'.ownBlock=some w.heap.size
 rest:Rest w w'
structure Apx (P:Program) (w:World) (u el:TypeId) (size:Nat) (x:Value) (m:Nat) (news:List Value):Prop where
 ty:P.underlying u=some (.slice el)\/P.underlying u=some .string
 len:Builtin.lenOf x=pure m
 now:(acr size m x).run P w= .ok news.toArray w
 drew:(acr size m x).run P w.drew= .ok news.toArray w.drew
 one: ∀y∈news,y.oneCell'=true
 nl:news.length=m *size
theorem Src.apx {ys:List MV}{news:List Value}{x:Value}{u el:TypeId}{size:Nat}(hu:P.underlying u=some (.slice el))(h:Src e w size x ys news):Apx P w u el size x ys.length news:=by
 obtain ⟨ad,cap,hx,FO,Uu⟩:=h.val;have Hl:=h.els.length;subst hx;cases ad with
 |none=>have hys:=FO rfl;subst hys;have:news=[]:=No (by simpa using Hl);subst this;exact ⟨.inl hu,rfl,run_firstCells_none w _ _ _ _,run_firstCells_none w.drew _ _ _ _,h.els.HY,Hl⟩
 |some ad=>exact ⟨.inl hu,rfl,run_firstCells_some w _ _ _ _ _ _ Hl (Uu ad rfl),run_firstCells_some w.drew _ _ _ _ _ _ Hl (by simpa using Uu ad rfl),h.els.HY,Hl⟩
theorem Apx.str {u el:TypeId}(hu:P.underlying u=some .string)(b:ByteArray):Apx P w u el 1 (.string b) b.size (b.data.toList.map λx=> .int .u8 (x.toNat:Int)):=by
 have hf: ∀w',(acr 1 b.size (.string b)).run P w'= .ok (b.data.toList.map λx=>afl .u8 (x.toNat:Int)).toArray w':=by
  intro w';have he:b.extract 0 b.size=b:=by apply ByteArray.ext;rw [adS];exact Array.extract_eq_self_of_le (abK _)
  simp only [acr,he,Sem.run_pure];congr 1;apply Array.ext';simp
 exact ⟨.inr hu,rfl,hf w,hf w.drew,by simp [aaT],by simp⟩
section
variable {t u ty el:TypeId}{i:TypeInfo}{z x:Value}{m:Nat}{news:List Value}(ht:P.underlying t=some (.slice el))(hi:P.info? el=some i)(hz:i.zero=some z)(hx:Apx P w u el i.size x m news)
include ht hi hx
theorem acR (h0:m=0):(ab1 #[t,u] ty #[.slice none 0 0,x]).run P w= .ok (.slice none 0 0) w:=by subst h0;have hn:=hx.now;have hl:=hx.len;rcases hx.ty with hu|hu<;>simp [ab1,run_underlying ht,run_underlying hu,ace,typeInfo,hi,hl,hn]
theorem acS {g qy yU:Nat}{fB:Array Value}(hg:w.heap[g]? =some (.cells fB el (0,0)))(u7:qy+m<=yU)(HR:qy *i.size+news.length<=fB.size): (ab1 #[t,u] ty #[.slice (some ⟨g,0,none⟩) qy yU,x]).run P w= .ok (.slice (some ⟨g,0,none⟩) (qy+m) yU) (w.setRow g (fB.toList.take (qy *i.size)++news++fB.toList.drop (qy *i.size+news.length)).toArray):=by have gm:=run_storeCells_at P g (qy *i.size) el news 0 fB w hg (by simpa using HR) hx.one;simp only [adw] at gm;have hn:=hx.now;have hl:=hx.len;rcases hx.ty with hu|hu<;>simp [ab1,run_underlying ht,run_underlying hu,ace,typeInfo,hi,hl,u7,hn,Addr.add_lit,gm]
include hz
theorem YV (h0:0<m)(h63:(m:Int)<=9223372036854775807)(h48:m *i.bytes<=281474976710656): (ab1 #[t,u] ty #[.slice none 0 0,x]).run P w= .ok (.slice (some ⟨w.heap.size,0,none⟩) m (grownCap w m 0 el)) (w.drew.alloc (.cells (news.toArray++acC z.cells (grownCap w m 0 el-m)) el)):=by
 have db:m≠0:=by omega
 have agA: ¬(9223372036854775807<(m:Int)):=by omega
 have agB: ¬(281474976710656<adi m 0 *i.bytes):=by rw [nextslicecap_zero h0];omega
 have hn:=hx.drew;have hl:=hx.len;rcases hx.ty with hu|hu<;>simp [ab1,run_underlying ht,run_underlying hu,ace,typeInfo,zeroValue,hi,hz,hl,db,agA,agB,Question.forced,run_firstCells_none,hn,newRow,grownCap]
theorem Uv {b:Addr}{qy yU:Nat}{acT:List Value}(hlo:acT.length=qy *i.size)(holds: ∀j v,acT[j]? =some v->w.cell? (b.add j)=some v)(hg:yU<qy+m)(h63:((qy+m:Nat):Int)<=9223372036854775807)(HR:adi (qy+m) yU *i.bytes<=281474976710656): (ab1 #[t,u] ty #[.slice (some b) qy yU,x]).run P w= .ok (.slice (some ⟨w.heap.size,0,none⟩) (qy+m) (grownCap w (qy+m) yU el)) (w.drew.alloc (.cells (acT.toArray++news.toArray++acC z.cells (grownCap w (qy+m) yU el-(qy+m))) el)):=by
 have db: ¬(qy+m<=yU):=by omega
 have agA: ¬(9223372036854775807<((qy:Int)+(m:Int))):=by omega
 have agB: ¬(281474976710656<adi (qy+m) yU *i.bytes):=by omega
 have hfo:=run_firstCells_some (P:=P) w.drew i.size qy b qy yU acT hlo (by simpa using holds);have hn:=hx.drew;have hl:=hx.len;rcases hx.ty with hu|hu<;>(simp [ab1,run_underlying ht,run_underlying hu,ace,typeInfo,zeroValue,hi,hz,hl,db,agA,agB,Question.forced,hn,hfo,newRow,grownCap];congr 2;apply Array.ext';simp [AI])
end
theorem Cp {t u ty:TypeId}{I E:TI}{v x:Value}{n m:Nat}{cells news:List Value}(hu:P.underlying t=some (.slice I.elem))(hE:c.ti I.elem=some E)(vT:E.cE=[])(jn:0<E.size)(hT:jA P c.ti)(uO:1<=E.bytes)(eQ:w.ownsRow 0 I.elem E.size v n cells)(hx:Apx P w u I.elem E.size x m news)(kO:(n+m) *E.bytes<=2^46): ∃v' w',(ab1 #[t,u] ty #[v,x]).run P w= .ok v' w'/\aj6 w w' I.elem E.size v v' n m cells news:=by
 obtain ⟨i,z,hi,hs,EC,hz,Sp⟩:=lp (hT _ E hE) vT;rw [<-hs] at hx eQ Sp jn⊢;rw [<-EC] at kO uO;have hle:n+m<=2^46:=adQ (adH _ uO) kO;have hml:n+m<=afo:=by unfold afo;omega
 have Hl:=hx.nl;have hlen:(cells++news).length=(n+m) *i.size:=by rw [IT,eQ.1,Hl,ac7]
 have grown: ∀(ql:Nat),ql<n+m-> (w.drew.alloc (.cells (cells.toArray++news.toArray++acC z.cells (grownCap w (n+m) ql I.elem-(n+m))) I.elem)).ownsRow 0 I.elem i.size (.slice (some ⟨w.heap.size,0,none⟩) (n+m) (grownCap w (n+m) ql I.elem)) (n+m) (cells++news):=by
  intro ql ho;refine ⟨hlen,.inr ⟨w.heap.size,_,_,rfl,afq _,gG w.drew _,grownCap_ge w (n+m) ql I.elem,grownCap_le_maxLen w (n+m) ql I.elem hml,?_,?_⟩⟩
  ·have VX:=grownCap_ge w (n+m) ql I.elem;simp only [aff,acw,size_zeroCells,Sp,eQ.1,Hl,<-ac7];congr 1;omega
  ·simp only [ae5,AI];rw [<-AI,<-hlen];exact adz
 have rest: ∀cs:Array Value,Rest w (w.drew.alloc (.cells cs I.elem)):=λcs=>⟨rfl,rfl,rfl,λp=>(Rest.alloc w.drew cs I.elem).2.2.2 p⟩
 rcases eQ.2 with ⟨rfl,rfl⟩|⟨g,cap,fB,rfl,_,hg,hnc,KE,xA,Hk⟩
 ·have hcn:cells=[]:=No (by simpa using eQ.1);subst hcn;by_cases hm:m=0
  ·have hnn:news=[]:=No (by rw [Hl,hm,afd]);subst hnn;refine ⟨_,_,acR hu hi hx hm,⟨?_,abK _,λ_ _ _=>rfl,(λ_ _ _ hk=>by cases hk),.inl rfl,.refl _⟩⟩;rw [hm];exact afh w 0 I.elem i.size
  ·simp only [ab9] at kO hle hml;have hr:=YV (ty:=ty) hu hi hz hx (by omega) (by omega) (by omega);have Pa:=grown 0 (by omega);simp only [ab9,aeQ,Array.empty_append] at Pa⊢;exact ⟨_,_,hr,⟨by simpa using Pa,by simp,λk hk _=>qU w.drew _ k hk,(λ_ _ _ hk=>by cases hk),.inr rfl,rest _⟩⟩
 ·by_cases u7:n+m<=cap
  ·have HR:n *i.size+news.length<=fB.size:=by rw [Hl,xA,<-ac7];exact ab6 _ u7
   have hr:=acS (ty:=ty) hu hi hx hg u7 HR;have Sq:=setRow_heap w g fB (fB.toList.take (n *i.size)++news++fB.toList.drop (n *i.size+news.length)).toArray I.elem _ hg;refine ⟨_,_,hr,⟨⟨hlen,.inr ⟨g,cap,_,rfl,afq _,Sq,u7,KE,?_,?_⟩⟩,by simp,λk _ hk=>setRow_other w g k _ (λhe=>hk (by simp [aa1,he])),?_,.inl rfl,Rest.setRow w g _⟩⟩
   ·simp only [acw,IT,acZ,adG,aci];omega
   ·rw [Hk,<-hlen];exact adz
   ·intro k off y hk EQ hc;have hkg:k=g:=by simp [aa1] at hk;exact hk.symm
    subst hkg;rw [cell_of hg] at hc;rw [cell_of Sq];have aj8:off<(fB.toList.take (n *i.size)).length:=by rw [Hk];exact EQ
    rw [List.getElem?_toArray,AI,aaW aj8,acj];have:off<n *i.size:=by rw [<-eQ.1];exact EQ
    rw [if_pos this];simpa using hc
  ·have holds: ∀j y,cells[j]? =some y->w.cell? ((⟨g,0,none⟩:Addr).add j)=some y:=eQ.cells (g:=g) rfl;have hr:=Uv (ty:=ty) (yU:=cap) hu hi hz hx eQ.1 holds (by omega) (by omega) (growslice_fits (by omega) (by omega));refine ⟨_,_,hr,⟨grown cap (by omega),by simp,λk hk _=>qU w.drew _ k hk,?_,.inr rfl,rest _⟩⟩;intro k off y hk EQ hc;have hkg:k=g:=by simp [aa1] at hk;exact hk.symm
   subst hkg;rw [acf (qU w.drew _ k (ba hg))];exact hc
theorem PE {t u ty:TypeId}{I E:TI}{ad:Option Addr}{x:Value}{n m:Nat}{cells news:List Value}(hu:P.underlying t=some (.slice I.elem))(hE:c.ti I.elem=some E)(vT:E.cE=[])(hT:jA P c.ti)(uO:1<=E.bytes)(qh:cells.length=n *E.size)(Sr:ad=none->n=0)(bC: ∀y,ad=some y-> ∀(j:Nat)(v:Value),cells[j]? =some v->w.cell? (y.add j)=some v)(hx:Apx P w u I.elem E.size x m news)(hm:0<m)(kO:(n+m) *E.bytes<=2^46): ∃v' w',(ab1 #[t,u] ty #[.slice ad n n,x]).run P w= .ok v' w'/\w'.ownsRow 0 I.elem E.size v' (n+m) (cells++news)/\v'.ownBlock=some w.heap.size/\dC w w':=by
 obtain ⟨i,z,hi,hs,EC,hz,Sp⟩:=lp (hT _ E hE) vT;rw [<-hs] at hx qh Sp⊢;rw [<-EC] at kO uO;have hle:n+m<=2^46:=adQ (adH _ uO) kO;have hml:n+m<=afo:=by unfold afo;omega
 have Hl:=hx.nl;have hlen:(cells++news).length=(n+m) *i.size:=by rw [IT,qh,Hl,ac7]
 have grown: ∀(ql:Nat),ql<n+m-> (w.drew.alloc (.cells (cells.toArray++news.toArray++acC z.cells (grownCap w (n+m) ql I.elem-(n+m))) I.elem)).ownsRow 0 I.elem i.size (.slice (some ⟨w.heap.size,0,none⟩) (n+m) (grownCap w (n+m) ql I.elem)) (n+m) (cells++news):=by
  intro ql ho;refine ⟨hlen,.inr ⟨w.heap.size,_,_,rfl,afq _,gG w.drew _,grownCap_ge w (n+m) ql I.elem,grownCap_le_maxLen w (n+m) ql I.elem hml,?_,?_⟩⟩
  ·have VX:=grownCap_ge w (n+m) ql I.elem;simp only [aff,acw,size_zeroCells,Sp,qh,Hl,<-ac7];congr 1;omega
  ·simp only [ae5,AI];rw [<-AI,<-hlen];exact adz
 have rest: ∀cs:Array Value,Rest w (w.drew.alloc (.cells cs I.elem)):=λcs=>⟨rfl,rfl,rfl,λp=>(Rest.alloc w.drew cs I.elem).2.2.2 p⟩
 have Pa: ∀cs:Array Value,dC w (w.drew.alloc (.cells cs I.elem)):=λcs=>⟨by simp,λk hk=>qU w.drew _ k hk,rest cs⟩
 cases ad with
 |none=>have hn:=Sr rfl;subst hn;have hcn:cells=[]:=No (by simpa using qh);subst hcn;simp only [ab9] at kO hle hml;have hr:=YV (ty:=ty) hu hi hz hx (by omega) (by omega) (by omega);have XU:=grown 0 (by omega);simp only [ab9,aeQ,Array.empty_append] at XU⊢;exact ⟨_,_,hr,by simpa using XU,rfl,Pa _⟩
 |some b=>have hr:=Uv (ty:=ty) (yU:=n) hu hi hz hx qh (λj v hj=>bC b rfl j v hj) (by omega) (by omega) (growslice_fits (by omega) (by omega));exact ⟨_,_,hr,grown n (by omega),rfl,Pa _⟩
end
end Dn
/-
  Appends, the operation. Conditions: none.
-/
namespace Dn
open Go
section
variable {P:Program}{c:Ctx}{Z:bJ} {e e':Env}{st:St}{a:Act} {w w':World}{R:Type}{K:St->Option R}{r:R}{Q:Exit->Act->World->Prop}{o:Oper}
theorem zJ {base:Nat}{t:TypeId}{size n:Nat}{v:Value}{xs:List Value}(h:w.ownsRow base t size v n xs):v.oneCell'=true:=by rcases h.2 with ⟨rfl,_⟩|⟨g,cap,fB,rfl,_⟩<;>rfl
theorem Uw {E:TI}{t:TypeId}(hr:pg c.ti P t E)(h:VF E=true):P.underlying t=some (.int .u8)/\E.size=1:=by
 unfold VF at h;split at h
 ·rename_i k gm hl;have:=of_decide_eq_true h;subst this;obtain ⟨d,i,h1,h2,h3,h4⟩:=hr;cases d<;>simp only [sU,hl,gm] at h4<;>first|(exfalso;simp_all;done)|skip
  obtain ⟨_,_,h5,h6,_⟩:=h4;simp only [List.cons.injEq,Kd.i.injEq,and_true] at h6;subst h6;exact ⟨h1,h5⟩
 ·cases h
theorem Ux {key:Nat->Nat} {φ:Ph}: ∀l:List UInt8,bx key φ 1 (l.map λx=>afl .u8 (x.toNat:Int)) (Pl l)
 |[]=>rfl
 |b::l=>⟨[.int .u8 (b.toNat:Int)],_,rfl,rfl,.i .u8 _,Ux l⟩
theorem PF {cl:Call}{s x:Operand}{t u:TypeId}{I E:TI}{ys:List MV}{news:List Value}(ho:o.op= .call cl)(hb:cl.callee= .builtin .append)(ha:cl.args.toList=[s,x])(GP:cl.argTypes.toList=[t,u])(hI:c.tv t=some I)(hL:I.AV=true)(hE:c.tv I.elem=some E)(hT:jA P c.ti)(h:bX c Z e st a w)(zK:Apx P w u I.elem E.size (a.eval x) ys.length news)(tT:bx e.key e.φ E.size news ys)(hK:VG (bI c.bs (o.dst.getD 0)) (o.dst.getD 0) st I E (aN c st s) ys (λsl st=>bu c st o.dst sl K)=some r):o.wp P a w (Out c Z K r e.φ w) Q:=by
 obtain ⟨mW,hc⟩:=bB hI;obtain ⟨tl,vT⟩:=bB hE;obtain ⟨hu,E2,FP,_,jn⟩:=TI.nG (hT t I mW) hL;rw [tl] at FP;cases FP;have ha':cl.args= #[s,x]:=by rw [<-acp,ha]
 have aj9:cl.argTypes= #[t,u]:=by rw [<-acp,GP]
 obtain ⟨hs,_⟩:=h.eval s;have go: ∀(f:Nat) (eV:Bool) (xs:List MV) (cells:List Value),1<=E.bytes->(xs.length+ys.length) *E.bytes<=2^46->w.ownsRow 0 I.elem E.size (a.eval s) xs.length cells->bx e.key e.φ E.size cells xs-> (∀bq,(a.eval s).ownBlock=some bq->((f∈Z.cS/\Z.Pr bq)\/Z.In bq)/\(∃o,aQ st.bo f=some o/\(e.E f).ownBlock=some bq)/\ ∀off u,e.φ bq off=some u->eV=true/\off<xs.length *E.size)-> ki st f ⟨I.elem,eV,xs++ys⟩ (λst=>bu c st o.dst (.sc (.own f)) K)=some r->o.wp P a w (Out c Z K r e.φ w) Q:=by
  intro f eV xs cells uO kO eQ mX EO hK;obtain ⟨v',w',bV,xF⟩:=Cp (P:=P) (ty:=o.type) hu tl vT jn hT uO eQ zK kO;have hlen:cells.length=xs.length *E.size:=mX.length;have Cn:=h.npf hK;have hK:=qx hK;have jD:cK c Z.nc e w' v' ⟨I.elem,eV,xs++ys⟩:=by
   refine ⟨E,cells++news,tl,vT,by simpa using xF.own,mX.append tT,?_⟩;intro bq lG;rcases xF.place with h1|h1
   ·rw [h1] at lG;obtain ⟨h2,_,h3⟩:=EO bq lG;refine ⟨O7 h2 Cn,λoff u hu=> ?_,λhc=>afG hc⟩;obtain ⟨h4,h5⟩:=h3 off u hu;refine ⟨h4,ae8 h5 ?_⟩;simp only [IT];exact ab6 _ (Nat.le_add_right _ _)
   ·rw [h1] at lG;cases lG;refine ⟨h.cB _ (abK _),λoff u hu=> ?_,λhc=>afG hc⟩;have:=aca w _ (h.kE _ _ _ hu);simp at this
  have sX:=h.ki (f:=f) Cn jD xF.size (λb H2 db=>xF.ql b H2 (λhk=>by obtain ⟨_,⟨o2,h1,h2⟩,_⟩:=EO b hk.symm;exact db o2 h1 h2)) (λb off u hu=>by
    have hc0:=h.kE b off u hu;by_cases hk:(a.eval s).ownBlock=some b
    ·obtain ⟨_,_,h3⟩:=EO b hk;exact xF.cell b off u hk (by rw [hlen];exact (h3 off u hu).2) hc0
    ·rw [acf (xF.ql b (aca w _ hc0) (λPb=>hk Pb.symm))];exact hc0)
   (λb lG=>by
    rcases xF.place with h1|h1
    ·rw [h1] at lG;exact .inr (EO b lG).2.1
    ·rw [h1] at lG;cases lG;exact .inl (abK _))
  refine fin (v:=v') (s:= .sc (.own f)) ?_ sX ?_ (.of (wF (zJ xF.own)) trivial) hK
  ·simp [execOp,ho,resolve,hb,invoke,builtin,ha',aj9,bV]
  ·exact ⟨.refl _,λb hz H2=>xF.ql b H2 (λhk=>hz (O7 (EO b hk.symm).1 Cn)),λ_ _ _=>rfl,xF.size,xF.rest⟩
 generalize aN c st s=ss at hs hK;unfold VG at hK;cases uO:ab8 1 E.bytes with
 |false=>simp [uO] at hK
 |true=>
  simp only [uO,cond_true] at hK;have uO:=ack uO;split at hK
  ·obtain ⟨kO,hK⟩:=eW hK;have kO:=of_decide_eq_true kO;simp only [af] at hs;have hs:[a.eval s]=[ach none 0 0]:=hs;simp at hs;refine go (o.dst.getD 0) false [] [] uO (by simpa using kO) (by rw [hs];exact afh w 0 I.elem E.size) rfl ?_ (by simpa using hK);intro bq lG;rw [hs] at lG;simp [aa1] at lG
  ·rename_i f;cases hf:aQ st.bo f with
   |none=>simp [hf] at hK
   |some fo=>
    simp only [hf] at hK;obtain ⟨kO,hK⟩:=eW hK;have kO:=of_decide_eq_true kO;cases jC:cM fo.ty I.elem with
    |false=>simp [jC] at hK
    |true=>simp only [jC,cond_true] at hK;have jC:=sh jC;obtain ⟨hv,_⟩:=sW h hs hf;obtain ⟨J,cells,hJ,_,eQ,mX,h5⟩:=(h.iy f fo hf).row;rw [jC,tl] at hJ;cases hJ;refine go f fo.eV fo.xs cells uO kO (by rw [hv,<-jC];exact eQ) mX ?_ (by rw [<-jC];exact hK);intro bq lG;rw [hv] at lG;exact ⟨(h5 bq lG).1,⟨fo,hf,lG⟩,(h5 bq lG).2.1⟩
  ·rename_i xs;obtain ⟨hw,hK⟩:=eW hK;obtain ⟨kO,hK⟩:=eW hK;obtain ⟨hm,kO⟩:=of_decide_eq_true kO;simp only [af,aU] at hs;obtain ⟨_,hs⟩:=hs;generalize hv:[a.eval s]=vs at hs;cases hs with
   |clip ad _ hl=>
   simp at hv;have mU:af e (a.eval s) (.sc (.p (.list xs))):=by simp only [af,aU];rw [hv];exact ⟨rfl,hl⟩
   obtain ⟨ys',cells,hsr,hy⟩:=FN (I:=I) (K':=some) (r:=xs) h tl jn mU (by show cU (o9 E.size xs) (some xs)=some xs;rw [hw];rfl);cases hy;obtain ⟨ad',YJ,FL,O8,KG⟩:=hsr.val;rw [hv] at FL;simp only [Value.slice.injEq] at FL;obtain ⟨rfl,_,_⟩:=FL;obtain ⟨v',w',bV,eQ,lG,hg⟩:=PE (P:=P) (ty:=o.type) hu tl vT hT uO hsr.els.length (λhn=>by rw [O8 hn];rfl) KG zK hm kO;have Cn:=h.npf hK;have hK:=qx hK;have jD:cK c Z.nc e w' v' ⟨I.elem,false,xs++ys⟩:=by refine ⟨E,cells++news,tl,vT,by simpa using eQ,hsr.els.append tT,?_⟩;intro bq qV;rw [lG] at qV;cases qV;refine ⟨h.cB _ (abK _),λoff u hu=> ?_,λhc=>afG hc⟩;have:=aca w _ (h.kE _ _ _ hu);simp at this
   have sX:=h.ki (f:=o.dst.getD 0) Cn jD hg.size (λb H2 _=>hg.ql b H2) (λb off u hu=>hg.cell (h.kE b off u hu)) (λb qV=>by rw [lG] at qV;cases qV;exact .inl (abK _));have hx:(execOp a.eval o).run P w= .ok (.value v') w':=by simp [execOp,ho,resolve,hb,invoke,builtin,ha',aj9,hv,bV]
   cases Ss:bI c.bs (o.dst.getD 0) with
   |false=>simp only [Ss,cond_false] at hK;exact fin (v:=v') (s:= .sc (.own (o.dst.getD 0))) hx sX (hg.trans h.cB _) (.of (wF (zJ eQ)) trivial) hK
   |true=>simp only [Ss,cond_true] at hK;have hl:aU (e.wE (o.dst.getD 0) v' ⟨I.elem,false,xs++ys⟩) [v'] (.own (o.dst.getD 0)):=wF (zJ eQ);obtain ⟨e3,pi,m,k1,k2,_,k4,hK,_,k7,k8⟩:=mn (l:= .own (o.dst.getD 0)) sX (vs:=[v']) hl hK;have hm:m.one=true:=k8 (λx he=>by cases he);exact fin (v:=v') (s:= .sc (.p m)) hx k1 ((hg.trans h.cB _).trans k2.tr) (.of (s:= .sc (.p m)) (by exact ⟨hm,k4⟩) trivial) hK
  ·simp at hK
theorem VY {cl:Call}{s x:Operand}{t u:TypeId}{I E:TI}(ho:o.op= .call cl)(hb:cl.callee= .builtin .append)(ha:cl.args.toList=[s,x])(GP:cl.argTypes.toList=[t,u])(hI:c.tv t=some I)(hL:I.AV=true)(hE:c.tv I.elem=some E)(hT:jA P c.ti)(h:bX c Z e st a w)(hK:(bif cM t u then Nd I E st (aN c st x) λys=>VG (bI c.bs (o.dst.getD 0)) (o.dst.getD 0) st I E (aN c st s) ys (λsl st=>bu c st o.dst sl K)
  else RW c u E (aN c st x) λys=>VG (bI c.bs (o.dst.getD 0)) (o.dst.getD 0) st I E (aN c st s) ys (λsl st=>bu c st o.dst sl K))=some r):o.wp P a w (Out c Z K r e.φ w) Q:=by
 obtain ⟨mW,_⟩:=bB hI;obtain ⟨tl,_⟩:=bB hE;obtain ⟨hu,E2,FP,_,jn⟩:=TI.nG (hT t I mW) hL;rw [tl] at FP;cases FP;obtain ⟨hx,_⟩:=h.eval x;cases qV:cM t u with
 |true=>simp only [qV,cond_true] at hK;obtain rfl:=sh qV;obtain ⟨ys,news,zK,hK⟩:=FN h tl jn hx hK;exact PF ho hb ha GP hI hL hE hT h (zK.apx hu) zK.els hK
 |false=>
  simp only [qV,cond_false] at hK;unfold RW at hK;split at hK
  ·rename_i T l hTu hxl;cases YW:T.XN&&VF E with
   |false=>simp [YW] at hK
   |true=>
    simp only [YW,cond_true] at hK;simp only [ab5] at YW;obtain ⟨hTi,_⟩:=bB hTu;have hd:=TI.HT (hT u T hTi) YW.1;obtain ⟨he,qm⟩:=Uw (hT _ E tl) YW.2;rw [hxl] at hx;obtain ⟨b,hb3,rfl⟩:=FJ hx;refine PF ho hb ha GP hI hL hE hT h (news:=b.data.toList.map λx=> .int .u8 (x.toNat:Int)) ?_ ?_ hK
    ·rw [qm,hb3];have:=Apx.str (w:=w) (el:=I.elem) hd b;rwa [show (Pl b.data.toList).length=b.size by unfold Pl;rw [List.length_map];rfl]
    ·rw [qm];exact Ux _
  ·cases hK
end
end Dn
/-
  Slices that are written out. Conditions: none.
-/
namespace Dn
open Go
section
variable {P:Program}{c:Ctx}{Z:bJ} {e e':Env}{st:St}{a:Act} {w w':World}{R:Type}{K:St->Option R}{r:R}{Q:Exit->Act->World->Prop}{o:Oper}
theorem bX.aka {φ':Ph}(h:bX c Z e st a w)(hle:lE e.φ φ')(lV: ∀b o v,φ' b o=some v->w.cell? ⟨b,o,none⟩=some v)(sR: ∀t cs,av st.fr t= .box cs-> ∀off,φ' (e.B t) off=e.φ (e.B t) off)(jD: ∀f o b,aQ st.bo f=some o->(e.E f).ownBlock=some b-> ∀off,φ' b off=e.φ b off): bX c Z {e with φ:=φ'} st a w:=by
 have uL:mi (λ_=>True) (λ_=>True) e {e with φ:=φ'}:=⟨rfl,hle,λ_ _=>rfl,λf o ho _=>⟨o,ho,rfl,rfl⟩⟩
 refine ⟨h.defers,h.size,h.m,h.key,h.nodup,?_,h.root,?_,h.bb,h.bf,h.ff,lV,h.cB⟩
 ·intro t;have hs:=h.slot t;have hb:=sR t;show cj Z _ w t _ (av st.fr t);generalize av st.fr t=s at hs hb;cases s<;>simp only [cj] at hs⊢ <;>try exact hs.on uL (eR _)
  rename_i cs;refine ⟨hs.1,hs.2.cB,?_,λoff=>by show φ' (e.B t) off=none;rw [hb cs rfl];exact hs.2.free off⟩;obtain ⟨o2,h1,h2⟩:=hs.2.obj;exact ⟨o2,h1,h2.on uL (λl _ f _=>trivial)⟩
 ·intro f o ho;obtain ⟨I,cells,h1,h2,h3,h4,h5⟩:=(h.iy f o ho).row;refine ⟨I,cells,h1,h2,h3,h4.mono hle,λbq hb=>⟨(h5 bq hb).1,λoff u hu=>(h5 bq hb).2.1 off u ?_,λg1 g2 j hj=>hle.AW ((h5 bq hb).2.2 g1 g2 j hj) hj⟩⟩;have hu:φ' bq off=some u:=hu;rw [jD f o bq ho hb] at hu;exact hu
theorem fS.cells {key:Nat->Nat} {φ:Ph}{v:Value}{m:MV}(h:fS key φ v m):jo key φ v.cells.toList m:=by
 have one:m.one=true->jo key φ [v] m->jo key φ v.cells.toList m:=by
  intro h1 h2;have:=h2.cells v (by simp);have hv:v.cells.toList=[v]:=by cases v<;>simp_all [abX,aaT]
  rw [hv];exact h2
 cases m<;>simp only [fS] at h<;>first|exact one h.1 h.2|skip
 ·rw [h];simpa [abX] using jo.h _
 ·obtain ⟨arr,rfl,h⟩:=h;exact .agg _ _ (by simpa [abX] using h)
theorem VZ {parts:List (Nat×Operand)}: ∀{e:Env} {st:St} {n:Nat} {K':List MV->St->Option R},bX c Z e st a w->X9 c st parts n K'=some r-> ∃e' bU ms,bX c Z e' bU a w/\Ext Z e e'/\bS e'.key e'.φ (parts.map λp=>a.eval p.2) ms/\K' ms bU=some r/\parts.map (λp=>(p.1,a.eval p.2))=((parts.map λp=>a.eval p.2).zipIdx n).map (λx=>(x.2,x.1)):=by
 induction parts with
 |nil=>intro e st n K' h hK;exact ⟨e,st,[],h,.refl _ _,rfl,hK,rfl⟩
 |cons p ps ih=>
  intro e st n K' h hK;obtain ⟨i,x⟩:=p;simp only [X9] at hK;cases hi:cM i n with
  |false=>simp [hi] at hK
  |true=>
   simp only [hi,cond_true] at hK;have vU:=sh hi;subst vU;obtain ⟨e1,dk,m,q1,q2,q3,q4,q5⟩:=oQ h (h.eval x).1 hK;obtain ⟨e2,dM,ms,p1,p2,p4,p5,p6⟩:=ih q1 q5;refine ⟨e2,dM,m::ms,p1,q2.trans p2,⟨_,_,rfl,?_,p4⟩,p5,?_⟩
   ·have:=q4.mono p2.on.φ;rw [<-p2.on.key] at this;exact this
   ·simp only [aaf,List.zipIdx_cons,p6]
theorem KR {key:Nat->Nat} {φ:Ph}{size:Nat}{ms:List MV}: ∀{vs:List Value},bS key φ vs ms->o9 size ms=true->bx key φ size (vs.flatMap λv=>v.cells.toList) ms/\vs.length=ms.length/\ ∀v∈vs,v.cells.size=size:=by
 induction ms with
 |nil=>intro vs h _;cases h;exact ⟨rfl,rfl,by simp⟩
 |cons m ms ih=>
  intro vs h hw;obtain ⟨v,u,rfl,h1,h2⟩:=h;have hm:=Dh hw m (by simp);have hw2:o9 size ms=true:=by unfold o9 at hw⊢;simp only [List.all_cons,ab5] at hw;exact hw.2
  obtain ⟨h3,h4,h5⟩:=ih h2 hw2;have hl:v.cells.toList.length=size:=by rw [h1.cells.width,hm]
  refine ⟨⟨v.cells.toList,_,rfl,hl,h1.cells,h3⟩,by simp [h4],?_⟩;intro x hx;rcases acd.1 hx with rfl|hx
  ·simpa using hl
  ·exact h5 x hx
end
end Dn
