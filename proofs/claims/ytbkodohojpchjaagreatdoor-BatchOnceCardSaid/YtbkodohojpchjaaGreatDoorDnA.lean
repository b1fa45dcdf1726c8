import GoSem.Dispatch
import Derived.Orders
import Derived.Calls
import Derived.Laws.AppendOwn
import Derived.Laws.AppendOwnNone
import Derived.Deep.MidRow
import Derived.Laws.Strings
import Derived.Laws.Tables
import Derived.Great.FillDense
import Derived.Maps.AppendAt
import Derived.Great.BuildSlice
/- How code runs. Conditions: none. -/
set_option linter.unusedVariables false
set_option linter.unusedSectionVars false
set_option linter.unusedSimpArgs false
open Nat renaming beq→bN,eq_of_beq_eq_true→sh,le_refl→aa6,mul_le_mul_right→abN,ble→abP,zero_add→abQ,le_of_ble_eq_true→ab0,succ_mul→ab2,add_assoc→acY,add_mul→ac3,add_zero→ade,le_mul_of_pos_right→adx,le_trans→adX,ble_eq_true_of_le→ae7,lt_of_lt_of_le→afm,add_comm→afw,zero_mul→afx,zero_le→afX
open List renaming append_assoc→AI,getElem?_eq_some_iff→AS,length_append→By,eq_nil_of_length_eq_zero→BY,getElem?_eq_getElem→IN,map_cons→IT,getElem?_append_right→OF,getElem?_append_left→aaG,getElem?_map→abS,mem_cons→abT,getElem?_take→abZ,drop_left'→ab8,length_eq_one_iff→aco,take_of_length_le→acu,size_toArray→acv,getElem?_eq_none→acC,take_append→acU,length_take→acX,take_left'→ac9,mem_map→ada,take_left→adh,extract_eq_take_drop→adk,drop_append→adv,length_drop→adw,drop_of_length_le→aem,mem_append→ae3,nil_append→ae6,mem_iff_getElem→afc,getElem?_drop→afq,all_eq_true→afB,getElem_mem→afF,nodup_cons→agb,length_set→agc,map→age,drop_left→agn,map_nil→agr
open Option.some renaming injEq→AT
open Go.Value renaming oneCell'→No,ownBlock→aaW,cells→abK,slice→abX,int→afA
open Go.Builtin renaming append_→abL,firstCells→ach,zeroCells→acw,nextslicecap→ac5
open Bool renaming and_eq_true→abM,or_eq_false_iff→abW,not_eq_false'→adg,not_false→agf
open Go.Instr renaming sliceBounds→abO,sliceBound→acO,loadAt→adb,sureAddr→adf,storeAt→adn,fill→aeW,sliceAt→afk,slice→afP,indexAt→agp
open Go.World renaming block_lt_of_cell?→abR,cell?_of_block→abV,ownsRow_nil→afz
open Go renaming sizeOf→abU,maxLen→afM,part→agd
open Array renaming length_toList→abY,toList_inj→ab7,toList_extract→afe,toList_append→afj,size_append→afy
open UInt8 renaming ofNat→ab1
open Go.Addr renaming add_mid→ab6
open BitVec renaming ofInt→aci
open Go.Op renaming intCmp→adr,bytesLess→adG,intArith→ae8,equal→agA
open ByteArray renaming data_extract→aec
open Go.Oper renaming upon_value→ae5,wp→ags
open Go.Sem renaming run_bind→afr
open False renaming elim→ago
open Go.Utf8 renaming decode→agz
namespace Dn
noncomputable section
open Go
structure kM where
 l:List UInt8
 h:l.length=32
theorem kM.ext' {a b:kM}(e:a.l=b.l):a=b:=by cases a;cases b;cases e;rfl
instance:DecidableEq kM:=λa b=>if e:a.l=b.l then .isTrue (kM.ext' e) else .isFalse (λh=>e (by rw [h]))
def kM.zero:kM:=⟨[0,0,0,0,0,0,0,0,0,0,0,0,0,0,0,0,0,0,0,0,0,0,0,0,0,0,0,0,0,0,0,0],rfl⟩
def kM.put (x:kM)(i:Nat)(b:UInt8):kM:=⟨x.l.set i b,by simp [x.h]⟩
inductive MV where
 |b (x:Bool)
 |i (k:IntKind) (n:Int)
 |s (l:List UInt8)
 |h (x:kM)
 |raw (v:Value)
 |list (xs:List MV)
 |agg (cs:List MV)
 |b8 (vs:List MV)
 |func (f:Nat) (cap:List MV)
 |rp (cs:List MV)
 |fresh (xs:List MV)
 |cell (m:MV)
 |ef (r:MV) (outs:List MV)
 |clip (xs:List MV)
instance:Inhabited MV:=⟨.b false⟩
mutual
def MV.w:MV->Nat
 | .h _=>32
 | .agg cs=>MV.wl cs
 |_=>1
def MV.wl:List MV->Nat
 |[]=>0
 |m::r=>m.w+MV.wl r
end
def pS (n:Nat)(l:List MV):Bool:=l.all λm=>bN m.w n
inductive Kd where
 |b|i (k:IntKind)|s|l|h|raw
structure MS where
 st:Bool
 lay:List Kd
 b:Bool
def MS.it:MS:=⟨true,[],true⟩
def F8 (s:MS):Bool:=match s.lay with
 |[]=>s.st
 |_=>false
inductive aE where
 |un
 |p (m:MV)
 |hs (x:kM)
 |nil
 |own (iK:Nat)
 |mp (s:MS) (es:List MV)
def aE.w:aE->Nat
 | .hs _=>32
 |_=>1
inductive Slot where
 |skip
 |sc (l:aE)
 |ag (cs:List aE)
 |tg (cs:List aE)
 |b8 (vs:List Slot)
 |box (cs:List aE)
 |zp (cs:List aE)
 |ptr (root off:Nat)
 |zq (root:Nat)
 |rp (cs:List aE) (off:Nat)
 |hp (root off:Nat) (i:Nat)
 |ep (iK:Nat) (i:Nat) (off:Nat) (st:Bool) (cs:List aE)
abbrev Fr:=List (Nat×Slot)
structure TI where
 st:Bool
 size:Nat
 bytes:Nat
 lay:List Kd
 zero:List aE
 yS:List Nat
 U1:List Nat
 elem:Nat
 ct:List Nat
section
variable {R:Type}
def gB (m:MV)(K:Bool->Option R):Option R:=match m with| .b x=>K x|_=>none
def gI (k:IntKind)(m:MV)(K:Int->Option R):Option R:=match m with| .i k' n=>bif decide (k'=k) then K n else none|_=>none
def gS (m:MV)(K:List UInt8->Option R):Option R:=match m with| .s l=>K l|_=>none
def gL (m:MV)(K:List MV->Option R):Option R:=match m with| .list l=>K l|_=>none
def gH (m:MV)(K:kM->Option R):Option R:=match m with| .h l=>K l|_=>none
def gA (m:MV)(K:List MV->Option R):Option R:=match m with| .agg l=>K l|_=>none
def gT (m:MV)(K:List MV->Option R):Option R:=match m with| .b8 l=>K l|_=>none
def gF (m:MV)(K:List MV->Option R):Option R:=match m with| .fresh l=>K l|_=>none
def gCl (m:MV)(K:List MV->Option R):Option R:=match m with| .clip l=>K l|_=>none
def OT (m:MV)(K:Nat->List MV->Option R):Option R:=match m with| .func f c=>K f c|_=>none
def gW (m:MV)(K:MV->List MV->Option R):Option R:=match m with| .ef r outs=>K r outs|_=>none
def gP (m:MV)(K:List MV->Option R):Option R:=match m with| .rp c=>K c|_=>none
def gCx (m:MV)(K:Nat->Nat->Option R):Option R:=match m with| .raw (.complex .f64 a b)=>K a b|_=>none
def gR (m:MV)(K:MV->Option R):Option R:=match m with| .raw v=>K (.raw v)| .func f c=>K (.func f c)| .rp c=>K (.rp c)|_=>none
def gC (l:List MV)(K:MV->List MV->Option R):Option R:=match l with|m::r=>K m r|[]=>none
def gN (l:List MV)(K:Option R):Option R:=match l with|[]=>K|_=>none
def bd {α:Type}(x:Option α)(K:α->Option R):Option R:=match x with|some a=>K a|none=>none
def afW (l:List MV)(i:Int):Option MV:=if 0<=i then l[i.toNat]? else none
def idx (l:List MV)(i:Int)(K:MV->Option R):Option R:=match afW l i with|some x=>K x|none=>none
def cJ (c:Bool)(K:Option R):Option R:=match c with|true=>K|false=>none
def bB (c:Bool)(x y:Option R):Option R:=match c with|true=>x|false=>y
def Kr:List Nat->Nat->(Nat->Option R)->Option R
 |[],_,_=>none
 |[p],e,K=>bif bN e p then K p else none
 |p::q::r,e,K=>bif bN e p then K p else Kr (q::r) e K
def jL (k:Kd)(m:MV)(K:aE->Option R):Option R:=match k with
 | .b=>gB m λx=>K (.p (.b x))
 | .i k=>gI k m λx=>K (.p (.i k x))
 | .s=>gS m λx=>K (.p (.s x))
 | .l=>gL m λx=>K (.p (.list x))
 | .h=>gH m λx=>K (.hs x)
 | .raw=>gR m λm=>K (.p m)
def uE:List Kd->List MV->(List aE->Option R)->Option R
 |[],l,K=>gN l (K [])
 |k::ks,l,K=>gC l λm r=>jL k m λx=>uE ks r λxs=>K (x::xs)
end
def iter {σ R:Type}(body:σ->Option (Sum σ R)):Nat->σ->Option R
 |0,_=>none
 |n+1,s=>match body s with
  |some (.inl s')=>iter body n s'
  |some (.inr r)=>some r
  |none=>none
open Classical in
def Loop {σ R:Type}(body:σ->Option (Sum σ R))(s:σ):Option R:=if h: ∃r n,iter body n s=some r then some (Classical.choose h) else none
def aq:Fr->Nat->Slot
 |[],_=> .sc .un
 |(k,s)::r,t=>bif bN k t then s else aq r t
def Ks {R:Type}:Fr->Nat->Slot->(Fr->Option R)->Option R
 |[],t,v,K=>K [(t,v)]
 |(k,s)::r,t,v,K=>bif bN k t then K ((k,v)::r) else Ks r t v λr=>K ((k,s)::r)
def force {R:Type}(s:Slot)(K:Slot->Option R):Option R:=match s with
 | .skip=>K .skip
 | .sc l=>K (.sc l)
 | .ag cs=>K (.ag cs)
 | .tg cs=>K (.tg cs)
 | .b8 vs=>K (.b8 vs)
 | .box cs=>K (.box cs)
 | .zp cs=>K (.zp cs)
 | .ptr r o=>K (.ptr r o)
 | .zq r=>K (.zq r)
 | .rp cs o=>K (.rp cs o)
 | .hp r o i=>K (.hp r o i)
 | .ep f i o b cs=>K (.ep f i o b cs)
def bx:List Nat->Nat->Bool
 |[],_=>false
 |k::r,t=>bif bN k t then true else bx r t
def zt (t:Nat):Bool:=abP 1000000 t
def posOf (t:Nat):Nat:=(t-1000000)%1000
def OU (t:Nat):Nat:=(t-1000000)/1000
def plk:List (Nat×Nat)->Nat->Option Nat
 |[],_=>none
 |(k,x)::r,t=>bif bN k t then some x else plk r t
def dq:Slot->Bool
 | .ptr _ _| .hp _ _ _| .ep _ _ _ _ _| .rp _ _| .zq _=>true
 |_=>false
def wa {R:Type}(ds:List Nat):Fr->(Fr->Option R)->Option R
 |[],K=>K []
 |(k,s)::r,K=>bif dq s||bx ds k then wa ds r K else wa ds r λr=>K ((k,s)::r)
def cV:Slot->Bool
 | .box _| .zp _=>true
 |_=>false
def pick {R:Type}(ks:List Nat):Fr->(Fr->Option R)->Option R
 |[],K=>K []
 |(k,s)::r,K=>bif bx ks k&&!dq s then pick ks r λr=>K ((k,s)::r) else pick ks r K
structure oM where
 ty:Nat
 ei:Bool
 xs:List MV
structure St where
 cA:List Nat
 cy:List Nat
 fr:Fr
 aP:List (Nat×oM)
def aI:List (Nat×oM)->Nat->Option oM
 |[],_=>none
 |(k,s)::r,t=>bif bN k t then some s else aI r t
def OV {R:Type}:List (Nat×oM)->Nat->oM->(List (Nat×oM)->Option R)->Option R
 |[],t,v,K=>K [(t,v)]
 |(k,s)::r,t,v,K=>bif bN k t then K ((k,v)::r) else OV r t v λr=>K ((k,s)::r)
def kB (a b:IntKind):Bool:=decide (a=b)
def kdB:Kd->Kd->Bool
 | .b,.b=>true
 | .i k,.i k'=>kB k k'
 | .s,.s=>true
 | .l,.l=>true
 | .h,.h=>true
 | .raw,.raw=>true
 |_,_=>false
def F9:List Kd->List Kd->Bool
 |[],[]=>true
 |x::xs,y::ys=>kdB x y&&F9 xs ys
 |_,_=>false
def msB (s t:MS):Bool:=(s.st==t.st)&&(F9 s.lay t.lay&&(s.b==t.b))
def uF {R:Type}(f:Nat):List aE->(List aE->Option R)->Option R
 |[],K=>K []
 |l::r,K=>(match l with
  | .own g=>bif bN g f then uF f r λr=>K (.un::r) else uF f r λr=>K (.own g::r)
  |l=>uF f r λr=>K (l::r))
def G3 {R:Type}(f:Nat)(s:Slot)(K:Slot->Option R):Option R:=match s with
 | .sc (.own g)=>bif bN g f then K (.sc .un) else K (.sc (.own g))
 | .ag cs=>uF f cs λcs=>K (.ag cs)
 | .tg cs=>uF f cs λcs=>K (.tg cs)
 | .box cs=>uF f cs λcs=>K (.box cs)
 | .ep g i o b cs=>bif bN g f then K (.sc .un) else K (.ep g i o b cs)
 |s=>K s
def kFr {R:Type}(f:Nat):Fr->(Fr->Option R)->Option R
 |[],K=>K []
 |(k,s)::r,K=>G3 f s λs=>kFr f r λr=>K ((k,s)::r)
section
variable {R:Type}
def nT (st:St)(l:aE)(K:MV->St->Option R):Option R:=match l with
 | .un=>none
 | .p m=>K m st
 | .hs x=>K (.h x) st
 | .nil=>K (.list []) st
 | .mp _ _=>none
 | .own f=>match aI st.aP f with
  |some o=>bif o.ei then K (.list o.xs) st else bif bx st.cy f then none else (match st with|⟨p,q,r,m⟩=>OV m f ⟨o.ty,true,o.xs⟩ λm=>K (.list o.xs) ⟨p,q,r,m⟩)
  |none=>none
def qH (st:St):List aE->(List MV->St->Option R)->Option R
 |[],K=>K [] st
 |l::r,K=>nT st l λm st=>qH st r λms st=>K (m::ms) st
def mW (st:St)(s:Slot)(K:MV->St->Option R):Option R:=match s with
 | .sc l=>nT st l K
 | .ag cs=>qH st cs λms st=>K (.agg ms) st
 | .rp cs off=>bif bN off 0 then qH st cs λms st=>K (.rp ms) st else none
 |_=>none
def xd (st:St):List Slot->(List MV->St->Option R)->Option R
 |[],K=>K [] st
 |l::r,K=>mW st l λm st=>xd st r λms st=>K (m::ms) st
end
def zu:List aE->Nat
 |[]=>0
 |k::r=>k.w+zu r
def cut:List aE->Nat->Option (List aE)
 |cs,0=>some cs
 |c::cs,n+1=>bif abP c.w (n+1) then cut cs (n+1-c.w) else none
 |_,_=>none
def OW:List aE->Nat->Option (List aE)
 |_,0=>some []
 |c::cs,n+1=>bif abP c.w (n+1) then (match OW cs (n+1-c.w) with|some b=>some (c::b)|none=>none) else none
 |_,_=>none
def part (cs:List aE)(off n:Nat):Option (List aE):=match cut cs off with
 |some a=>OW a n
 |none=>none
def over:List aE->List aE->Option (List aE)
 |[],cs=>some cs
 |v::vs,c::cs=>bif bN v.w c.w then (match over vs cs with|some r=>some (v::r)|none=>none) else none
 |_,[]=>none
def putAt:List aE->Nat->List aE->Option (List aE)
 |cs,0,vs=>over vs cs
 |c::cs,n+1,vs=>bif abP c.w (n+1) then (match putAt cs (n+1-c.w) vs with|some r=>some (c::r)|none=>none) else none
 |_,_,_=>none
def app {α:Type}:List α->List α->Option (List α)
 |[],l=>some l
 |x::r,l=>(match app r l with|some q=>some (x::q)|none=>none)
def OX:aE->Bool
 | .un=>true
 | .mp _ _=>true
 |_=>false
def eT:List aE->Bool
 |[.mp _ _]=>true
 |_=>false
def D5:Slot->Bool
 | .box cs=>!eT cs
 |_=>false
def G4 {R:Type}(ok:Nat->Bool)(r0:Fr):Fr->Fr->(Fr->Option R)->Option R
 |[],fr,K=>K fr
 |(t,s)::r,fr,K=>match s with
  | .ptr root off=>bif ok t&&(!zt root&&(D5 (aq r0 root)&&(D5 (aq fr root)&&!cV (aq fr t)))) then Ks fr t (.ptr root off) λfr=>G4 ok r0 r fr K else G4 ok r0 r fr K
  |_=>G4 ok r0 r fr K
def lO:List aE->Bool
 |[.mp s _]=>!F8 s
 |_=>false
def wb:List aE->Bool
 |[]=>false
 |l::r=>bif OX l then true else wb r
def kEp {R:Type}(f:Nat):Fr->(Fr->Option R)->Option R
 |[],K=>K []
 |(k,s)::r,K=>(match s with
  | .ep g i o b cs=>bif bN g f then kEp f r λr=>K ((k,.sc .un)::r) else kEp f r λr=>K ((k,.ep g i o b cs)::r)
  |s=>kEp f r λr=>K ((k,s)::r))
inductive LK where
 |k (x:Kd)
 |own (f:Nat) (ty:Nat) (ei:Bool)
inductive OK where
 |sc (l:LK)
 |ag (ls:List LK)
 |box (ls:List LK)
 |mp (s:MS)
 |pt (root off:Nat)
structure qI where
 cA:List Nat
 cy:List Nat
 outs:List (Nat×OK)
 exo:List (Nat×List (Nat×OK))
 ei:List Nat
instance:Inhabited qI:=⟨⟨[],[],[],[],[]⟩⟩
def XK:List (Nat×List (Nat×OK))->Nat->List (Nat×OK)
 |[],_=>[]
 |(k,l)::r,e=>bif bN k e then l else XK r e
def qI.ex (h:qI)(e:Nat):List (Nat×OK):=XK h.exo e
def Tl:List (Nat×List (Nat×OK))->List (Nat×OK)
 |[]=>[]
 |(_,l)::r=>l++Tl r
def qI.all (h:qI):List (Nat×OK):=h.outs++Tl h.exo
structure Ctx where
 ti:Nat->Option TI
 key:Nat->Nat
 g:Nat->List MV->Option MV
 dA:Nat->Bool
 fresh:Nat->Bool
 nU:Nat->Nat
 sig:Nat->Option (Nat×List LK)
 par:List (Nat×Nat)
 n:Nat
 bs:List Nat
 fl:List Nat
 fz:Nat->List Nat
 fk:Nat->Option FloatKind
 mt:Nat->Option (Nat×Bool)
 ord:Nat->List Nat
 D6:Nat->qI
 GG:Nat->qI
 E9:Nat->qI
 M3:Nat->Bool
 dyn:List Nat
def Ctx.tv (c:Ctx)(t:Nat):Option TI:=match c.ti t with|some I=>(match I.ct with|[]=>some I|_=>none)|none=>none
def AF:Value->Slot
 | .bool b=> .sc (.p (.b b))
 | .int k n=> .sc (.p (.i k n))
 | .string s=> .sc (.p (.s s.data.toList))
 | .slice none 0 0=> .sc .nil
 | .float k b=> .sc (.p (.raw (.float k b)))
 | .complex k a b=> .sc (.p (.raw (.complex k a b)))
 | .pointer none=> .sc (.p (.raw (.pointer none)))
 | .nilFunc=> .sc (.p (.raw .nilFunc))
 | .nilIface=> .sc (.p (.raw .nilIface))
 |_=> .sc .un
def aH (c:Ctx)(st:St):Operand->Slot
 | .tmp t=>match plk c.par t with
  |some q=>bif zt q&&bN (posOf q) t then (match aq st.fr q with| .box cs=>bif eT cs then .sc .un else .ptr q (OU q)|_=> .sc .un) else .sc .un
  |none=>match aq st.fr t with
   | .box cs=>bif zt t then .sc .un else bif lO cs then .zq t else .ptr t 0
   | .zp cs=> .rp cs 0
   |s=>s
 | .const v=>AF v
 | .func f=> .sc (.p (.func (c.key f) []))
 | .global _=> .sc .un
def jM (c:Ctx)(st:St):List Operand->List Slot
 |[]=>[]
 |o::r=>aH c st o::jM c st r
section
variable {R:Type}
def wr (st:St)(d:Nat)(s:Slot)(K:St->Option R):Option R:=bif bx st.cA d then none else (match st with|⟨p,q,r,m⟩=>force s λs=>Ks r d s λr=>K ⟨p,q,r,m⟩)
def bn (c:Ctx)(st:St)(d:Option Nat)(s:Slot)(K:St->Option R):Option R:=match d with
 |some d=>bif zt d||(abP c.n d||cV (aq st.fr d)) then none else wr st d s K
 |none=>K st
def iP (st:St)(f:Nat)(o:oM)(K:St->Option R):Option R:=bif bx st.cy f then none else (match st with|⟨p,q,r,m⟩=>kFr f r λr=>OV m f o λm=>K ⟨p,q,r,m⟩)
def jN (I:TI)(cs:List aE)(off:Nat)(K:Slot->Option R):Option R:=bif I.st then (match part cs off I.size with|some a=>K (.ag a)|none=>none)
 else (match cut cs off with|some (l::_)=>bif bN l.w I.size then K (.sc l) else none|_=>none)
def ldK (st:St)(I:TI)(a:Slot)(K:Slot->Option R):Option R:=match a with
 | .ptr root off=>match aq st.fr root with
  | .box cs=>bif eT cs then none else jN I cs off K
  |_=>none
 | .rp cs off=>jN I cs off K
 | .ep f _ off _ cs=>(match aI st.aP f with|some _=>jN I cs off K|none=>none)
 | .hp root off i=>bif I.st||!bN I.size 1 then none else (match aq st.fr root with
  | .box cs=>bif eT cs then none else (match cut cs off with|some (.hs x::_)=>K (.sc (.p (.i .u8 (x.l.getD i 0).toNat)))|_=>none)
  |_=>none)
 |_=>none
def aJ:Slot->List aE
 | .sc l=>[l]
 | .ag cs=>cs
 |_=>[]
def bE:List aE->Option (List MV)
 |[]=>some []
 |l::r=>match l,bE r with
  | .p m,some q=>some (m::q)
  | .hs x,some q=>some (.h x::q)
  |_,_=>none
def rj:List aE->List MV->Option (List aE)
 |[],[]=>some []
 | .hs x::r,_::ms=>(match rj r ms with|some q=>some (.hs x::q)|none=>none)
 |_::r,m::ms=>(match rj r ms with|some q=>some (.p m::q)|none=>none)
 |_,_=>none
def vr (b:Bool)(cs:List MV):Option MV:=match b,cs with
 |false,[m]=>some m
 |true,cs=>some (.agg cs)
 |_,_=>none
def isByte (n:Int):Bool:=decide (n=((ab1 n.toNat).toNat:Int))
def stK (st:St)(I:TI)(a v:Slot)(K:St->Option R):Option R:=bif wb (aJ v)||!bN (zu (aJ v)) I.size then none else
 match a with
 | .ptr root off=>match aq st.fr root with
  | .box cs=>bif eT cs then none else (match putAt cs off (aJ v) with|some fU=>wr st root (.box fU) K|none=>none)
  |_=>none
 | .hp root off i=>match aq st.fr root,v with
  | .box cs,.sc (.p n)=>bif eT cs then none else (match cut cs off with
   |some (.hs x::_)=>gI .u8 n λn=>cJ (isByte n) (match putAt cs off [.hs (x.put i (ab1 n.toNat))] with|some fU=>wr st root (.box fU) K|none=>none)
   |_=>none)
  |_,_=>none
 | .ep f i off b cs=>qH st (aJ v) λms st=>match aI st.aP f with
  |some o=>bif o.ei then none else
   (match rj (aJ v) ms with
   |some vs=>(match putAt cs off vs with
    |some fU=>(match bE fU with
     |some ms'=>(match vr b ms' with
      |some x=>bif bx st.cy f then none else
       (match st with|⟨p,q,r,m⟩=>kEp f r λr=>OV m f ⟨o.ty,false,o.xs.set i x⟩ λm=>K ⟨p,q,r,m⟩)
      |none=>none)
     |none=>none)
    |none=>none)
   |none=>none)
  |none=>none
 |_=>none
def M4 (I:TI)(x:MV)(K:List aE->Option R):Option R:=bif I.st then gA x λcs=>uE I.lay cs K
 else match I.lay with
  |[k]=>jL k x λx=>K [x]
  |_=>none
def zw (I:TI)(x:MV)(K:Slot->Option R):Option R:=bif I.st then gA x λcs=>uE I.lay cs λcs=>K (.ag cs)
 else match I.lay with
  |[k]=>jL k x λx=>K (.sc x)
  |_=>none
def zx (c:Ctx):List Nat->List MV->(List Slot->Option R)->Option R
 |[],l,K=>gN l (K [])
 |t::ts,l,K=>match c.tv t with
  |some I=>gC l λm r=>zw I m λs=>zx c ts r λss=>K (s::ss)
  |none=>none
def rQ (c:Ctx)(I:TI)(x:MV)(K:Slot->Option R):Option R:=match I.ct with
 |[]=>zw I x K
 |ts=>gT x λvs=>zx c ts vs λss=>K (.b8 ss)
def D7:aE->aE->Option Bool
 | .p (.b x),.p (.b y)=>some (decide (x=y))
 | .p (.i k x),.p (.i k' y)=>bif decide (k=k') then some (decide (x=y)) else none
 | .p (.s x),.p (.s y)=>some (decide (x=y))
 | .hs x,.hs y=>some (decide (x=y))
 |_,_=>none
def jO:List aE->List aE->Option Bool
 |[],[]=>some true
 |[x],[y]=>D7 x y
 |x::xs,y::ys=>match D7 x y,jO xs ys with
  |some a,some b=>some (a&&b)
  |_,_=>none
 |_,_=>none
def M5 (op:BinOp)(x y:List UInt8):Option MV:=match op with
 | .eql=>some (.b (decide (x=y)))
 | .neq=>some (.b (!decide (x=y)))
 | .lss=>some (.b (adG x y))
 | .gtr=>some (.b (!(adG x y||decide (x=y))))
 | .leq=>some (.b (adG x y||decide (x=y)))
 | .geq=>some (.b (!adG x y))
 |_=>none
def M6 (k:IntKind)(x y:Int):Int:=k.wrap ((aci k.bits x&&&aci k.bits y).toNat:Int)
def bOr (k:IntKind)(x y:Int):Int:=k.wrap ((aci k.bits x|||aci k.bits y).toNat:Int)
def D8 (k:IntKind)(x y:Int):Int:=k.wrap ((aci k.bits x^^^aci k.bits y).toNat:Int)
def Tn (op:BinOp)(k:IntKind)(x y:Int):Option MV:=match op with
 | .add=>some (.i k (k.wrap (x+y)))
 | .sub=>some (.i k (k.wrap (x-y)))
 | .mul=>some (.i k (k.wrap (x *y)))
 | .and=>some (.i k (M6 k x y))
 | .or=>some (.i k (bOr k x y))
 | .xor=>some (.i k (D8 k x y))
 | .eql=>some (.b (decide (x=y)))
 | .neq=>some (.b (!decide (x=y)))
 | .lss=>some (.b (decide (x<y)))
 | .leq=>some (.b (decide (x<=y)))
 | .gtr=>some (.b (decide (y<x)))
 | .geq=>some (.b (decide (y<=x)))
 |_=>none
def nV:Kd->aE->Bool
 | .b,.p (.b _)=>true
 | .i k,.p (.i k' _)=>decide (k'=k)
 | .s,.p (.s _)=>true
 | .h,.hs _=>true
 |_,_=>false
def eY:List Kd->List aE->Bool
 |[],[]=>true
 |k::ks,l::ls=>bif nV k l then eY ks ls else false
 |_,_=>false
def mX (st:Bool):Slot->Bool
 | .ag _=>st
 | .sc _=>!st
 |_=>false
def aiU (op:BinOp)(a b:Nat):Option Nat:=match op with
 | .add=>FloatKind.f64.format.add a b
 | .sub=>FloatKind.f64.format.sub a b
 | .mul=>FloatKind.f64.format.mul a b
 |_=>none
def afY (oI:Option TI)(op:BinOp)(x y:Slot)(K:Slot->Option R):Option R:=match x,y with
 | .sc (.p (.i k a)),.sc (.p (.i k' b))=>
  (match op with
   | .quo=>bif decide (k=k') then cJ (!decide (b=0)) (K (.sc (.p (.i k (k.wrap (a.tdiv b)))))) else none
   | .rem=>bif decide (k=k') then cJ (!decide (b=0)) (K (.sc (.p (.i k (a.tmod b))))) else none
   | .shr=>cJ (decide (0<=b)) (K (.sc (.p (.i k (a.fdiv (2^min b.toNat k.bits))))))
   | .shl=>cJ (decide (0<=b)) (K (.sc (.p (.i k (k.wrap (a *2^min b.toNat k.bits))))))
   |_=>bif decide (k=k') then (match Tn op k a b with|some m=>K (.sc (.p m))|none=>none) else none)
 | .sc (.p (.s a)),.sc (.p (.s b))=>(match op with
  | .add=>cJ (decide (a.length+b.length<=2^46)) (K (.sc (.p (.s (a++b)))))
  |_=>(match M5 op a b with|some m=>K (.sc (.p m))|none=>none))
 | .sc (.p (.raw (.float .f64 a))),.sc (.p (.raw (.float .f64 b)))=>bd (aiU op a b) λr=>K (.sc (.p (.raw (.float .f64 r))))
 |x,y=>match oI with
  |some I=>bif eY I.lay (aJ x)&&eY I.lay (aJ y)&&(mX I.st x&&mX I.st y) then (match op with
   | .eql=>(match jO (aJ x) (aJ y) with|some b=>K (.sc (.p (.b b)))|none=>none)
   | .neq=>(match jO (aJ x) (aJ y) with|some b=>K (.sc (.p (.b (!b))))|none=>none)
   |_=>none) else none
  |none=>none
def sliceB (lo hi:Option Slot)(len:Nat)(K:Nat->Nat->Option R):Option R:=match lo,hi with
 |none,none=>K 0 len
 |some (.sc (.p (.i _ l))),none=>cJ (decide (0<=l/\l<=(len:Int)/\(len:Int)<=(len:Int))) (K l.toNat (Int.toNat (len:Int)))
 |none,some (.sc (.p (.i _ h)))=>cJ (decide (0<=(0:Int)/\(0:Int)<=h/\h<=(len:Int))) (K (Int.toNat 0) h.toNat)
 |some (.sc (.p (.i _ l))),some (.sc (.p (.i _ h)))=>cJ (decide (0<=l/\l<=h/\h<=(len:Int))) (K l.toNat h.toNat)
 |_,_=>none
def mA (c:Ctx)(st:St):Option Operand->Option Slot
 |some o=>some (aH c st o)
 |none=>none
def zy:List aE->Option (List MV)
 |[]=>some []
 |l::r=>match l,zy r with
  | .p m,some q=>some (m::q)
  | .hs x,some q=>some (.h x::q)
  | .nil,some q=>some (.list []::q)
  |_,_=>none
def XL (d:Nat)(st:St)(I E:TI)(x y:Slot)(K:Slot->St->Option R):Option R:=match x,y with
 | .sc (.p (.i _ n)),.sc (.p (.i _ m))=>bif abP 1 E.bytes then cJ (decide ((0:Int)<=n/\n=m/\n *E.bytes<=2^46)) (match zy E.zero with
  |some zs=>(match vr E.st zs with
   |some z=>iP st d ⟨I.elem,false,List.replicate n.toNat z⟩ λst=>K (.sc (.own d)) st
   |none=>none)
  |none=>none) else none
 |_,_=>none
def TI.yr (I:TI):Bool:=match I.st,I.lay with|false,[.l]=>true|_,_=>false
def TI.Rf (I:TI):Bool:=match I.st,I.lay with|false,[.s]=>true|_,_=>false
def Rg (E:TI):Bool:=match E.st,E.lay with
 |false,[.i k]=>decide (k= .u8)
 |_,_=>false
def CG (l:List UInt8):List MV:=l.map λb=> .i .u8 (b.toNat:Int)
def Rh (c:Ctx)(u:Nat)(E:TI)(x:Slot)(K:List MV->Option R):Option R:=match c.tv u,x with
 |some T,.sc (.p (.s l))=>bif T.Rf&&Rg E then K (CG l) else none
 |_,_=>none
def M7 (I E:TI)(st:St)(x:Slot)(K:List MV->Option R):Option R:=match x with
 | .sc (.p (.list xs))=>cJ (pS E.size xs) (K xs)
 | .sc .nil=>K []
 | .sc (.own f)=>(match aI st.aP f with|some o=>bif bN o.ty I.elem then K o.xs else none|none=>none)
 |_=>none
def BT (c:Ctx)(st:St)(I:TI):List (Nat×Operand)->List aE->Option (List aE)
 |[],cs=>some cs
 |(i,o)::r,cs=>match I.yS[i]?,I.U1[i]? with
  |some q,some y=>(match c.tv y with
   |some J=>bif wb (aJ (aH c st o))||!bN (zu (aJ (aH c st o))) J.size then none else
    (match putAt cs q (aJ (aH c st o)) with|some fU=>BT c st I r fU|none=>none)
   |none=>none)
  |_,_=>none
def G5 (c:Ctx)(st:St):List (Nat×Operand)->kM->(kM->Option R)->Option R
 |[],x,K=>K x
 |(i,o)::r,x,K=>match aH c st o with
  | .sc (.p m)=>bif abP 32 i then none else gI .u8 m λn=>cJ (isByte n) (G5 c st r (x.put i (ab1 n.toNat)) K)
  |_=>none
def XM (c:Ctx)(st:St):List (Nat×Operand)->Nat->(List MV->St->Option R)->Option R
 |[],_,K=>K [] st
 |(i,o)::r,n,K=>bif bN i n then mW st (aH c st o) λm st=>XM c st r (n+1) λms st=>K (m::ms) st else none
def CH (c:Ctx)(st:St):List Operand->(List MV->St->Option R)->Option R
 |[],K=>K [] st
 |o::r,K=>match aH c st o with
  | .ptr root 0=>(match aq st.fr root with
   | .box cs=>bif wb cs||zt root then none else qH st cs λms st=>(match rj cs ms with|some fU=>wr st root (.zp fU) λst=>CH c st r λxs st=>K (.rp ms::xs) st|none=>none)
   |_=>none)
  | .rp cs 0=>qH st cs λms st=>CH c st r λxs st=>K (.rp ms::xs) st
  |_=>none
def CJ (c:Ctx)(k:Nat)(st:St)(s:Slot)(K:MV->St->Option R):Option R:=match s with
 | .sc (.own f)=>(match aI st.aP f with
  |some o=>bif o.ei||!bN o.ty (c.nU k) then none else iP st f ⟨o.ty,true,[]⟩ λst=>K (.fresh o.xs) st
  |none=>none)
 | .sc .nil=>(match c.tv (c.nU k) with|some _=>K (.fresh []) st|none=>none)
 |_=>none
def Tp (c:Ctx)(k:Nat)(st:St)(ss:List Slot)(K:List MV->St->Option R):Option R:=bif c.dA k then (match ss with
  |[s0,s1,s2]=>(match s2 with
   | .sc (.p m2)=>mW st s1 λm1 st=>CJ c k st s0 λm0 st=>K [m0,m1,m2] st
   |s2=>mW st s1 λm1 st=>CJ c k st s0 λm0 st=>CJ c k st s2 λm2 st=>K [m0,m1,m2] st)
  |_=>none)
 else xd st ss K
def aiV (x y:Int):Int:=if y<x then y else x
def imax (x y:Int):Int:=if y>x then y else x
def XN (mx:Bool)(k:IntKind):Int->List Slot->Option MV
 |x,[]=>some (.i k x)
 |x,.sc (.p (.i k' y))::r=>bif decide (k'=k) then XN mx k (bif mx then imax x y else aiV x y) r else none
 |_,_=>none
def Ri (mx:Bool):List Slot->Option MV
 | .sc (.p (.i k n))::r=>XN mx k n r
 |_=>none
def ab3:List Nat->Bool
 |[]=>false
 |_=>true
def G6 (c:Ctx):List Nat->List MV->(List aE->Option R)->Option R
 |[],l,K=>gN l (K [])
 |t::ts,l,K=>match c.tv t with
  |some I=>gC l λm r=>zw I m λs=>(match s with| .sc (.p m)=>G6 c ts r λls=>K (.p m::ls)|_=>none)
  |none=>none
def G7 (c:Ctx)(d:Nat)(st:St)(f:Nat)(r:MV)(ts:List Nat)(K:Slot->St->Option R):Option R:=match ts with
 |[]=>none
 |t0::ts=>(match c.tv t0 with
  |some I0=>bif !bN I0.elem (c.nU f) then none else gT r λvs=>gC vs λx vs=>gF x λxs=>G6 c ts vs λls=>iP st d ⟨I0.elem,false,xs⟩ λst=>(bif bx c.bs d then nT st (.own d) λm st=>K (.tg (.p m::ls)) st else K (.tg (.own d::ls)) st)
  |none=>none)
def XO (c:Ctx)(d:Nat)(st:St)(f:Nat)(ms:List MV)(I:TI)(K:Slot->St->Option R):Option R:=bd (c.g f ms) λr=>bif c.fresh f then bif bN (c.nU f) 0 then gCl r λxs=>K (.sc (.p (.clip xs))) st else bif ab3 I.ct then G7 c d st f r I.ct K else gF r λxs=>bif !bN I.elem (c.nU f) then none else iP st d ⟨I.elem,false,xs⟩ λst=>(bif bx c.bs d then nT st (.own d) λm st=>K (.sc (.p m)) st else K (.sc (.own d)) st) else rQ c I r λs=>K s st
def afZ (s:Slot)(K:Slot->Option R):Option R:=match s with
 | .ptr r o=>K (.ptr r o)
 | .rp cs o=>K (.rp cs o)
 |_=>none
def XP (x y z:Slot)(K:Slot->Option R):Option R:=match x with
 | .sc (.p (.b v))=>(match y,z with
  | .sc (.p (.b p)),.sc (.p (.b q))=>K (.sc (.p (.b (bif v then p else q))))
  |p,q=>match v with|true=>K p|false=>K q)
 |_=>none
def af0 (I:TI)(s:Slot)(K:Slot->Option R):Option R:=match s with
 | .sc l=>bif I.st||OX l||!bN l.w I.size then none else K (.box [l])
 | .ag cs=>bif I.st&&!wb cs&&bN (zu cs) I.size then K (.box cs) else none
 |_=>none
def unK (op:UnOp)(s:Slot)(K:Slot->Option R):Option R:=match op,s with
 | .not,.sc (.p (.b v))=>K (.sc (.p (.b (!v))))
 | .neg,.sc (.p (.i k n))=>K (.sc (.p (.i k (k.wrap (0-n)))))
 |_,_=>none
def XQ (I:TI)(fk:Option FloatKind)(s:Slot)(K:Slot->Option R):Option R:=match I.st,I.ct,I.lay,s with
 |false,[],[.i k],.sc (.p (.i _ n))=>K (.sc (.p (.i k (k.wrap n))))
 |false,[],[.s],.sc (.p (.s l))=>K (.sc (.p (.s l)))
 |false,[],[.i k],.sc (.p (.raw (.float .f64 a)))=>bd ((FloatKind.decode .f64 a).toInt .zero) λn=>cJ (decide (k.min<=n/\n<=k.max)) (K (.sc (.p (.i k n))))
 |false,[],[.raw],.sc (.p (.i _ n))=>(match fk with
  |some .f64=>K (.sc (.p (.raw (.float .f64 (FloatKind.nearest .f64 n)))))
  |_=>none)
 |_,_,_,_=>none
def Rj (c:Ctx)(I:TI)(st:St)(s:Slot)(lo hi:Option Slot)(K:Slot->St->Option R):Option R:=match s with
 | .sc (.p (.s l))=>bif I.Rf then sliceB lo hi l.length λa b=>K (.sc (.p (.s ((l.take b).drop a)))) st else none
 | .sc (.p (.list l))=>bif I.yr then (match c.tv I.elem with
  |some E=>(match lo with
   |none=>sliceB none hi l.length λa b=>K (.sc (.p (.list ((l.take b).drop a)))) st
   |some lo=>cJ (pS E.size l) (sliceB (some lo) hi l.length λa b=>K (.sc (.p (.list ((l.take b).drop a)))) st))
  |none=>none) else none
 | .sc (.own f)=>(match aI st.aP f with
  |some o=>bif I.yr&&bN o.ty I.elem then nT st (.own f) λ_ st=>sliceB lo hi o.xs.length λa b=>K (.sc (.p (.list ((o.xs.take b).drop a)))) st else none
  |none=>none)
 | .sc .nil=>bif I.yr then sliceB lo hi 0 λ_ _=>K (.sc .nil) st else none
 |_=>none
def XR (I:TI)(s h m:Slot)(K:Slot->Option R):Option R:=match s,h,m with
 | .sc (.p (.list l)),.sc (.p (.i .i64 n)),.sc (.p (.i .i64 n'))=>bif I.yr then cJ (decide (n=(l.length:Int)/\n'=(l.length:Int))) (K (.sc (.p (.clip l)))) else none
 |_,_,_=>none
def XS (st:St)(I:TI)(f:Nat)(s:Slot)(K:Slot->Option R):Option R:=match I.st,I.yS[f]?,s with
 |true,some q,.ptr r o=>K (.ptr r (o+q))
 |true,some q,.rp cs o=>K (.rp cs (o+q))
 |true,some q,.ep g i o b cs=>(match aI st.aP g with|some _=>K (.ep g i (o+q) b cs)|none=>none)
 |_,_,_=>none
def af1 (c:Ctx)(I:TI)(f:Nat)(s:Slot)(K:Slot->Option R):Option R:=match I.st,I.yS[f]?,I.U1[f]?,s with
 |true,some q,some y,.ag cs=>(match c.tv y with|some J=>jN J cs q K|none=>none)
 |_,_,_,_=>none
def af2 (c:Ctx)(st:St)(I E:TI)(x i:Slot)(K:Slot->Option R):Option R:=match x,i with
 | .sc (.p (.list xs)),.sc (.p (.i _ n))=>bif I.yr then idx xs n λx=>M4 E x λcs=>K (.rp cs 0) else none
 | .sc (.own f),.sc (.p (.i _ n))=>(match aI st.aP f with
  |some o=>bif I.yr then idx o.xs n λx=>M4 E x λcs=>K (.ep f n.toNat 0 E.st cs) else none
  |none=>none)
 | .ptr r o,.sc (.p (.i _ n))=>bif I.st then none else (match I.lay with|[.h]=>cJ (decide ((0:Int)<=n/\n<32)) (K (.hp r o n.toNat))|_=>none)
 |_,_=>none
def ixK (I:TI)(x i:Slot)(K:Slot->Option R):Option R:=match I.st,I.lay,x,i with
 |false,[.s],.sc (.p (.s l)),.sc (.p (.i _ n))=>cJ (decide ((0:Int)<=n/\n<(l.length:Int))) (K (.sc (.p (.i .u8 (l.getD n.toNat 0).toNat))))
 |false,[.h],.sc (.hs x),.sc (.p (.i _ n))=>cJ (decide ((0:Int)<=n/\n<32)) (K (.sc (.p (.i .u8 (x.l.getD n.toNat 0).toNat))))
 |_,_,_,_=>none
def CL:List aE->Nat->Option aE
 | .p m::_,0=>some (.p m)
 | .own f::_,0=>some (.own f)
 | .un::_,0=>some .un
 | .p _::r,k+1=>CL r k
 | .own _::r,k+1=>CL r k
 | .un::r,k+1=>CL r k
 |_,_=>none
def af3 (s:Slot)(k:Nat)(K:Slot->Option R):Option R:=match s with
 | .tg cs=>(match CL cs k with|some l=>K (.sc l)|none=>none)
 | .b8 vs=>(match vs[k]? with|some s=>K s|none=>none)
 |_=>none
def XT (I:TI)(st:St)(ss:List Slot)(K:Slot->Option R):Option R:=match ss with
 |[.sc (.p (.s l))]=>bif I.Rf then K (.sc (.p (.i .i64 l.length))) else none
 |[.sc (.p (.list l))]=>bif I.yr then K (.sc (.p (.i .i64 l.length))) else none
 |[.sc .nil]=>bif I.yr then K (.sc (.p (.i .i64 0))) else none
 |[.sc (.own f)]=>bif I.yr then (match aI st.aP f with|some o=>K (.sc (.p (.i .i64 o.xs.length)))|none=>none) else none
 |_=>none
def U2 (pb:Bool)(d:Nat)(st:St)(I E:TI)(s:Slot)(ys:List MV)(K:Slot->St->Option R):Option R:=bif abP 1 E.bytes then (match s with
 | .sc .nil=>cJ (decide (ys.length *E.bytes<=2^46)) (iP st d ⟨I.elem,false,ys⟩ λst=>K (.sc (.own d)) st)
 | .sc (.own f)=>(match aI st.aP f with
  |some w=>cJ (decide ((w.xs.length+ys.length) *E.bytes<=2^46)) (bif bN w.ty I.elem then iP st f ⟨w.ty,w.ei,w.xs++ys⟩ λst=>K (.sc (.own f)) st else none)
  |none=>none)
 | .sc (.p (.clip xs))=>cJ (pS E.size xs) (cJ (decide (0<ys.length/\(xs.length+ys.length) *E.bytes<=2^46)) (iP st d ⟨I.elem,false,xs++ys⟩ λst=>bif pb then nT st (.own d) λm st=>K (.sc (.p m)) st else K (.sc (.own d)) st))
 |_=>none) else none
def M8 (c:Ctx)(st:St)(I:TI)(f:Slot)(ss:List Slot)(K:Slot->St->Option R):Option R:=match f with
 | .sc (.p m)=>OT m λf bV=>cJ (!c.dA f)<|xd st ss λms st=>bd (c.g f (ms++bV)) λr=>rQ c I r λs=>K s st
 |_=>none
def Kt:MV->MV->Bool
 | .b x,.b y=>decide (x=y)
 | .i k x,.i k' y=>decide (k=k')&&decide (x=y)
 | .s x,.s y=>decide (x=y)
 | .h x,.h y=>decide (x=y)
 |_,_=>false
def jG:List MV->List MV->Bool
 |[],[]=>true
 |x::xs,y::ys=>Kt x y&&jG xs ys
 |_,_=>false
def sJ:MV->List MV
 | .b8 (.agg k::_)=>k
 |_=>[]
def af4:MV->MV
 | .b8 [_,v]=>v
 |_=> .b false
def iZ:List MV->List MV->Nat
 |[],_=>0
 |e::r,ks=>bif jG (sJ e) ks then 0 else iZ r ks+1
def asI:MV->Int
 | .i _ n=>n
 |_=>0
def asB:MV->Bool
 | .b x=>x
 |_=>false
def aeX (es:List MV)(ks:List MV):Int:=match es[iZ es ks]? with|some e=>asI (af4 e)|none=>0
def aeY (es:List MV)(ks:List MV):Bool:=match es[iZ es ks]? with|some e=>asB (af4 e)|none=>false
def D9 (es ks:List MV)(z:MV):List MV:=bif bN (iZ es ks) es.length then es++[.b8 [.agg ks,z]] else es
def Ku (es:List MV)(i:Nat)(v:MV):List MV:=match es[i]? with|some e=>es.set i (.b8 [.agg (sJ e),v])|none=>es
def jH (b:Bool):MV:=bif b then .b false else .i .i64 0
def xe (c:Ctx)(t:Nat):Option MS:=match c.mt t with
 |some (kt,b)=>(match c.tv kt with|some I=>bif F8 ⟨I.st,I.lay,b⟩ then none else some ⟨I.st,I.lay,b⟩|none=>none)
 |none=>none
def OY (s:MS)(k:Slot)(K:List MV->Option R):Option R:=bif eY s.lay (aJ k)&&mX s.st k then (match bE (aJ k) with|some ks=>K ks|none=>none) else none
def Kv (st:St)(s:MS)(m:Slot)(K:Nat->List MV->Option R):Option R:=match m with
 | .zq r=>(match aq st.fr r with| .box [.mp s' es]=>bif msB s s'&&!F8 s' then K r es else none|_=>none)
 |_=>none
def U3 (b:Bool)(s:Slot)(K:MV->Option R):Option R:=match b,s with
 |true,.sc (.p (.b x))=>K (.b x)
 |false,.sc (.p (.i .i64 n))=>K (.i .i64 n)
 |_,_=>none
def Fa (st:St)(r:Nat)(s:MS)(es:List MV)(K:St->Option R):Option R:=wr st r (.box [.mp s es]) K
def isLT (c:Ctx)(y:Nat):Bool:=match c.tv y with|some Y=>Y.yr|none=>false
def Rk (c:Ctx)(y t:Nat):Bool:=match c.tv y,c.tv t with
 |some Y,some I=>Y.Rf&&I.yr&&(match c.tv I.elem with|some E=>Rg E|none=>false)
 |_,_=>false
def fC (c:Ctx)(o:Oper):Bool:=match o.op with
 | .assign (.tmp _)=>(match c.mt o.type with|some _=>true|none=>false)
 | .convert y t _=>Rk c y t
 |_=>false
def GH (c:Ctx)(o:Oper)(st:St)(x:Operand)(K:Slot->St->Option R):Option R:=match x,c.mt o.type with
 | .tmp t,some _=>(match aq st.fr t with
  | .box cs=>bif eT cs then bif bx st.cA t||zt t then none else (match st with|⟨p,q,r,m⟩=>wa [t] r λr=>K (.box cs) ⟨p,q,r,m⟩) else K (aH c st x) st
  |_=>K (aH c st x) st)
 |_,_=>K (aH c st x) st
def Ea (s:MS)(es ks:List MV):Slot:=bif s.b then .sc (.p (.b (aeY es ks))) else .sc (.p (.i .i64 (aeX es ks)))
def aeZ (c:Ctx)(st:St)(t:Nat)(m k:Slot)(K:Slot->Option R):Option R:=match xe c t with
 |some s=>Kv st s m λ_ es=>OY s k λks=>K (Ea s es ks)
 |none=>none
def ae0 (c:Ctx)(st:St)(t:Nat)(m k v:Slot)(K:St->Option R):Option R:=match xe c t with
 |some s=>Kv st s m λr es=>OY s k λks=>U3 s.b v λv=>Fa st r s (Ku (D9 es ks (jH s.b)) (iZ es ks) v) K
 |none=>none
def XU (c:Ctx)(st:St)(t:Nat)(m k:Slot)(K:Slot->St->Option R):Option R:=match xe c t with
 |some s=>Kv st s m λr es=>OY s k λks=>Fa st r s (D9 es ks (jH s.b)) λst=>K (.b8 [Ea s es ks,.sc (.p (.i .i64 (iZ es ks)))]) st
 |none=>none
def aiW (c:Ctx)(st:St)(t:Nat)(m i v:Slot)(K:St->Option R):Option R:=match xe c t with
 |some s=>Kv st s m λr es=>(match i with
  | .sc (.p (.i .i64 n))=>cJ (decide (0<=n/\n.toNat<es.length)) (U3 s.b v λv=>Fa st r s (Ku es n.toNat v) K)
  |_=>none)
 |none=>none
def Xu (es:List MV):List UInt8:=match es with|[.s l,.i .i64 _]=>l|_=>[]
def rJ (es:List MV):Int:=match es with|[.s _,.i .i64 n]=>n|_=>0
def Kw (es:List MV):Bool:=decide (rJ es<((Xu es).length:Int))
def zA (es:List MV):Int:=(agz ⟨(Xu es).toArray⟩ (rJ es).toNat).1
def BU (es:List MV):List MV:=[.s (Xu es),.i .i64 (rJ es+(agz ⟨(Xu es).toArray⟩ (rJ es).toNat).2)]
def itK (st:St)(x:Slot)(K:Slot->St->Option R):Option R:=match x with
 | .ptr t 0=>(match aq st.fr t with
  | .box [.mp s es]=>bif F8 s then
   bB (Kw es) (wr st t (.box [.mp s (BU es)]) λst=>K (.b8 [.sc (.p (.b true)),.sc (.p (.i .i64 (rJ es))),.sc (.p (.i .i32 (zA es)))]) st) (K (.b8 [.sc (.p (.b false))]) st)
   else none
  |_=>none)
 |_=>none
def byK (m:MV)(K:UInt8->Option R):Option R:=gI .u8 m λn=>cJ (isByte n) (K (ab1 n.toNat))
def Kx:List MV->(List UInt8->Option R)->Option R
 |[],K=>K []
 |m::r,K=>byK m λb=>Kx r λl=>K (b::l)
def Rl (I:TI)(x:Slot)(K:Slot->Option R):Option R:=match x with
 | .sc (.p (.s l))=>bif I.Rf then K (.box [.mp MS.it [.s l,.i .i64 0]]) else none
 |_=>none
def XV (c:Ctx)(st:St)(Y I:TI)(x:Slot)(K:Slot->Option R):Option R:=match c.tv Y.elem with
 |some E=>bif I.Rf&&Rg E then (match x with
  | .sc (.p (.list xs))=>Kx xs λl=>K (.sc (.p (.s l)))
  | .sc .nil=>K (.sc (.p (.s [])))
  | .sc (.own f)=>(match aI st.aP f with
   |some o=>bif bN o.ty Y.elem then Kx o.xs λl=>K (.sc (.p (.s l))) else none
   |none=>none)
  |_=>none) else none
 |none=>none
def still (c:Ctx)(o:Oper):Bool:=match o.op,o.dst with
 | .load _ _,some d=>bx c.fl d
 |_,_=>false
def bt:List LK->List Nat
 |[]=>[]
 | .own f _ _::r=>f::bt r
 |_::r=>bt r
def meets:List Nat->List Nat->Bool
 |[],_=>false
 |k::r,l=>bif bx l k then true else meets r l
def iL (c:Ctx):List LK->Bool
 |[]=>true
 | .own _ ty _::r=>(match c.tv ty with|some _=>iL c r|none=>false)
 |_::r=>iL c r
def mY (ps:List (Nat×Nat))(f g:Nat):Bool:=match ps with
 |[]=>true
 |(a,b)::r=>(bif bN a f then bN b g&&!bN g 0 else (bif bN b g then bN g 0 else true))&&mY r f g
def M9 (st:St)(ps:List (Nat×Nat))(k:LK)(l:aE)(K:MV->List (Nat×Nat)->Option R):Option R:=match k,l with
 | .k .l,.nil=>K (.list []) ps
 | .k .h,.hs x=>K (.h x) ps
 | .k x,.p m=>jL x m λ_=>K m ps
 | .own f ty ei,.own g=>match aI st.aP g with
  |some o=>bif !bN o.ty ty||(o.ei&&!ei)||bx st.cy g||!mY ps f (g+1) then none else K (.list o.xs) ((f,g+1)::ps)
  |none=>none
 | .own f _ _,.nil=>bif mY ps f 0 then K (.list []) ((f,0)::ps) else none
 |_,_=>none
def kq (st:St):List (Nat×Nat)->List LK->List aE->(List MV->List (Nat×Nat)->Option R)->Option R
 |ps,[],[],K=>K [] ps
 |ps,k::ks,l::ls,K=>M9 st ps k l λm ps=>kq st ps ks ls λms ps=>K (m::ms) ps
 |_,_,_,_=>none
def ll (st:St)(k:LK)(m:MV)(K:aE->St->Option R):Option R:=match k with
 | .k x=>jL x m λl=>K l st
 | .own f ty ei=>gL m λxs=>(match st with|⟨p,q,r,n⟩=>OV n f ⟨ty,ei,xs⟩ λn=>K (.own f) ⟨p,q,r,n⟩)
def cQ (st:St):List LK->List MV->(List aE->List MV->St->Option R)->Option R
 |[],ms,K=>K [] ms st
 |k::ks,ms,K=>gC ms λm r=>ll st k m λl st=>cQ st ks r λls ms st=>K (l::ls) ms st
def OZ (gs:List Nat):List (Nat×oM)->(List (Nat×oM)->Option R)->Option R
 |[],K=>K []
 |(k,o)::r,K=>bif bx gs k then OZ gs r K else OZ gs r λr=>K ((k,o)::r)
def ab4:List Nat->Fr->(Fr->Option R)->Option R
 |[],r,K=>K r
 |f::fs,r,K=>kFr f r λr=>ab4 fs r K
def eB:List (Nat×Nat)->List Nat
 |[]=>[]
 |(_,0)::r=>eB r
 |(_,g+1)::r=>g::eB r
def Lj:List Nat->List (Nat×oM)->Bool
 |[],_=>false
 |f::r,m=>(match aI m f with|some _=>true|none=>Lj r m)
def Lk (st:St)(root:Nat)(ks:List LK)(ps:List (Nat×Nat))(outs:List MV)(K:St->Option R):Option R:=cQ ⟨[],[],[],[]⟩ ks outs λcs rest AG=>gN rest<|OZ (eB ps) st.aP λm=>
  bif Lj (bt ks) m||meets (bt ks) st.cy then none else
   ab4 (bt ks) st.fr λr=>Ks r root (.box cs) λr=>(match app AG.aP m with|some m=>K ⟨st.cA,st.cy,r,m⟩|none=>none)
def Tq (c:Ctx)(gv:Bool)(g:List MV->Option MV)(pos:Nat)(ks:List LK)(st:St)(ss:List Slot)(I:Option TI)(K:Slot->St->Option R):Option R:=match ss[pos]? with
 |some (.ptr root off)=>xd st (ss.take pos) λm1 st=>xd st (ss.drop (pos+1)) λm2 st=>
  (match aq st.fr root with
  | .box cs=>bif eT cs||bx st.cA root||!iL c ks||!gv then none else kq st [] ks cs λls ps=>
   (match app m1 (.cell (.func off ls)::m2) with
   |some ms=>bd (g ms) λx=>gW x λr outs=>Lk st root ks ps outs λst=>(match I with
    |some I=>rQ c I r λs=>K s st
    |none=>K (.sc .un) st)
   |none=>none)
  |_=>none)
 |_=>none
def ae1 (c:Ctx)(key pos:Nat)(ks:List LK)(st:St)(ss:List Slot)(I:Option TI)(K:Slot->St->Option R):Option R:=Tq c (c.dA key) (c.g key) pos ks st ss I K
def XW:List LK->List LK->Bool
 |[],[]=>true
 | .k k1::r,.k k2::q=>kdB k1 k2&&XW r q
 | .own f t z::r,.own f' t' z'::q=>bN f f'&&(bN t t'&&(z==z'&&XW r q))
 |_,_=>false
def O0 (c:Ctx)(pos:Nat)(ks:List LK):List Nat->Bool
 |[]=>true
 |k::r=>(match c.sig k with|some sg=>bN sg.1 pos&&XW sg.2 ks|none=>false)&&(c.dA k&&O0 c pos ks r)
def XX (c:Ctx)(U4:List Nat)(st:St)(f:Slot)(ss:List Slot)(I:Option TI)(K:Slot->St->Option R):Option R:=match f,U4 with
 | .sc (.p m),k0::_=>(match c.sig k0 with
  |some sg=>bif O0 c sg.1 sg.2 U4 then OT m λk bV=>gN bV<|Tq c true (λms=>Kr U4 k λk=>c.g k ms) sg.1 sg.2 st ss I K else none
  |none=>none)
 |_,_=>none
def opK (c:Ctx)(o:Oper)(st:St)(K:Slot->St->Option R):Option R:=match o.op with
 | .move x=>K (aH c st x) st
 | .assign x=>GH c o st x K
 | .makeMap t none=>(match xe c t with|some s=>K (.box [.mp s []]) st|none=>none)
 | .lookup t m k false=>aeZ c st t (aH c st m) (aH c st k) λs=>K s st
 | .mapUpdate t m k v=>ae0 c st t (aH c st m) (aH c st k) (aH c st v) λst=>K (.sc .un) st
 | .mapEntry t m k=>XU c st t (aH c st m) (aH c st k) K
 | .entryStore t m i v=>aiW c st t (aH c st m) (aH c st i) (aH c st v) λst=>K (.sc .un) st
 | .nilCheck x=>afZ (aH c st x) λs=>K s st
 | .pick x a b=>XP (aH c st x) (aH c st a) (aH c st b) λs=>K s st
 | .alloc t=>(match c.tv t with|some I=>K (.box I.zero) st|none=>none)
 | .box t x=>(match c.tv t with|some I=>af0 I (aH c st x) λs=>K s st|none=>none)
 | .build t parts=>(match c.tv t with
  |some I=>bif I.st then (match BT c st I parts.toList I.zero with|some cs=>K (.ag cs) st|none=>none)
   else (match I.lay with|[.h]=>G5 c st parts.toList kM.zero λx=>K (.sc (.hs x)) st|_=>none)
  |none=>none)
 | .buildSlice t n parts=>(match c.tv t with
  |some I=>bif I.yr then (match c.tv I.elem with
   |some E=>bif abP (n *E.size) 16777216 then XM c st parts.toList 0 λms st=>bif bN ms.length n then cJ (pS E.size ms) (bif bx c.bs (o.dst.getD 0) then K (.sc (.p (.list ms))) st else iP st (o.dst.getD 0) ⟨I.elem,false,ms⟩ λst=>K (.sc (.own (o.dst.getD 0))) st) else none else none
   |none=>none) else none
  |none=>none)
 | .makeSlice t x y=>(match c.tv t with
  |some I=>bif I.yr then (match c.tv I.elem with|some E=>XL (o.dst.getD 0) st I E (aH c st x) (aH c st y) K|none=>none) else none
  |none=>none)
 | .load t a=>(match c.tv t with
  |some I=>bif still c o then (match aH c st a with| .rp cs off=>jN I cs off λs=>K s st|_=>none) else ldK st I (aH c st a) λs=>K s st
  |none=>none)
 | .store t a v=>(match c.tv t with|some I=>stK st I (aH c st a) (aH c st v) λst=>K (.sc .un) st|none=>none)
 | .binOp op t x y _=>afY (c.tv t) op (aH c st x) (aH c st y) λs=>K s st
 | .unOp op _ x=>unK op (aH c st x) λs=>K s st
 | .convert y t x=>bif isLT c y then (match c.tv y,c.tv t with|some Y,some I=>XV c st Y I (aH c st x) λs=>K s st|_,_=>none)
  else bif Rk c y t then (match aH c st x with| .sc (.p (.s l))=>K (.sc (.p (.list (CG l)))) st|_=>none)
  else (match c.ti y,c.tv t with|some _,some I=>XQ I (c.fk t) (aH c st x) λs=>K s st|_,_=>none)
 | .range t x=>(match c.tv t with|some I=>Rl I (aH c st x) λs=>K s st|none=>none)
 | .next x true=>itK st (aH c st x) K
 | .makeFunc (.func f) first bV=>(match first.toList with
  |[]=>CH c st bV.toList λms st=>K (.sc (.p (.func (c.key f) ms))) st
  |_=>none)
 | .slice t x lo hi none=>(match c.tv t with|some I=>Rj c I st (aH c st x) (mA c st lo) (mA c st hi) K|none=>none)
 | .slice t x none (some h) (some m)=>(match c.tv t with|some I=>XR I (aH c st x) (aH c st h) (aH c st m) λs=>K s st|none=>none)
 | .fieldAddr t x f=>(match c.tv t with|some I=>XS st I f (aH c st x) λs=>K s st|none=>none)
 | .field t x f=>(match c.tv t with|some I=>af1 c I f (aH c st x) λs=>K s st|none=>none)
 | .indexAddr t x i=>(match c.tv t with
  |some I=>(match c.tv I.elem with|some E=>af2 c st I E (aH c st x) (aH c st i) λs=>K s st|none=>none)
  |none=>none)
 | .index t x i=>(match c.tv t with|some I=>ixK I (aH c st x) (aH c st i) λs=>K s st|none=>none)
 | .extract x k=>af3 (aH c st x) k λs=>K s st
 | .call cl=>(match cl.callee with
  | .value (.func f)=>(match c.sig (c.key f) with
   |some sg=>ae1 c (c.key f) sg.1 sg.2 st (jM c st cl.args.toList) (c.ti o.type) K
   |none=>match c.ti o.type with
   |some I=>Tp c (c.key f) st (jM c st cl.args.toList) λms st=>XO c (o.dst.getD 0) st (c.key f) ms I K
   |none=>none)
  | .value x=>(match c.dyn with
   |_::_=>XX c c.dyn st (aH c st x) (jM c st cl.args.toList) (c.ti o.type) K
   |[]=>match c.ti o.type with
   |some I=>M8 c st I (aH c st x) (jM c st cl.args.toList) K
   |none=>none)
  | .builtin .len=>(match cl.argTypes.toList with
   |[t]=>(match c.tv t with|some I=>XT I st (jM c st cl.args.toList) λs=>K s st|none=>none)
   |_=>none)
  | .builtin .append=>(match jM c st cl.args.toList,cl.argTypes.toList with
   |[s,x],[t,t']=>(match c.tv t with
    |some I=>bif I.yr then (match c.tv I.elem with
     |some E=>bif bN t t' then M7 I E st x λys=>U2 (bx c.bs (o.dst.getD 0)) (o.dst.getD 0) st I E s ys K else Rh c t' E x λys=>U2 (bx c.bs (o.dst.getD 0)) (o.dst.getD 0) st I E s ys K
     |none=>none) else none
    |none=>none)
   |_,_=>none)
  | .builtin .real=>(match jM c st cl.args.toList with|[.sc (.p m)]=>gCx m λx _=>K (.sc (.p (.raw (.float .f64 x)))) st|_=>none)
  | .builtin .imag=>(match jM c st cl.args.toList with|[.sc (.p m)]=>gCx m λ_ y=>K (.sc (.p (.raw (.float .f64 y)))) st|_=>none)
  | .builtin .complex=>(match jM c st cl.args.toList with|[.sc (.p (.raw (.float .f64 x))),.sc (.p (.raw (.float .f64 y)))]=>K (.sc (.p (.raw (.complex .f64 x y)))) st|_=>none)
  | .builtin .min=>(match Ri false (jM c st cl.args.toList) with|some m=>K (.sc (.p m)) st|none=>none)
  | .builtin .max=>(match Ri true (jM c st cl.args.toList) with|some m=>K (.sc (.p m)) st|none=>none)
  |_=>none)
 |_=>none
def Rm (all:List Oper)(o:Oper)(st:St)(K:Bool->St->Option R):Option R:=match o.guard with
 |none=>K true st
 |some (j,want)=>match all[j]? with
  |some p=>(match p.dst with
   |some t=>(match aq st.fr t with
    | .sc (.p (.b v))=>(match v with
     |true=>(match st with|⟨p,q,r,m⟩=>Ks r t (.sc (.p (.b true))) λr=>K want ⟨p,q,r,m⟩)
     |false=>(match st with|⟨p,q,r,m⟩=>Ks r t (.sc (.p (.b false))) λr=>K (!want) ⟨p,q,r,m⟩))
    | .skip=>K false st
    |_=>none)
   |none=>none)
  |none=>none
def Ts (c:Ctx)(all:List Oper)(o:Oper)(st:St)(K:St->Option R):Option R:=Rm all o st λgo st=>
  bif go then opK c o st λs st=>bn c st o.dst s K
  else bn c st o.dst .skip K
def Bf (c:Ctx)(all:List Oper):List Oper->St->(St->Option R)->Option R
 |[],st,K=>K st
 |o::r,st,K=>Ts c all o st λst=>Bf c all r st K
end
section
variable {R:Type}
def eH (st:St):List (Nat×Nat)->List (Nat×OK)->(List MV->Option R)->Option R
 |_,[],K=>K []
 |ps,(t,k)::r,K=>match k,aq st.fr t with
  | .sc k,.sc l=>kq st ps [k] [l] λms ps=>eH st ps r λns=>(match app ms ns with|some l=>K l|none=>none)
  | .ag ks,.ag ls=>kq st ps ks ls λms ps=>eH st ps r λns=>(match app ms ns with|some l=>K l|none=>none)
  | .box ks,.box ls=>kq st ps ks ls λms ps=>eH st ps r λns=>(match app ms ns with|some l=>K l|none=>none)
  | .mp s,.box [.mp s' es]=>bif msB s s' then eH st ps r λns=>K (.list es::ns) else none
  | .pt root off,.ptr XY Rn=>bif bN root XY&&(bN off Rn&&(!zt root&&D5 (aq st.fr root))) then eH st ps r K else none
  |_,_=>none
def O1 (st:St)(t:Nat)(s:Slot)(K:St->Option R):Option R:=match st with|⟨p,q,r,m⟩=>Ks r t s λr=>K ⟨p,q,r,m⟩
def XZ:List (Nat×OK)->List MV->St->(St->Option R)->Option R
 |[],ms,st,K=>gN ms (K st)
 |(t,k)::r,ms,st,K=>match k,st with
  | .pt root off,⟨p,q,fr,m⟩=>bif !zt root&&(D5 (aq fr root)&&!cV (aq fr t)) then Ks fr t (.ptr root off) λfr=>XZ r ms ⟨p,q,fr,m⟩ K else none
  |_,_=>none
def nj (st:St):List (Nat×OK)->List MV->(St->Option R)->Option R
 |[],ms,K=>gN ms (K st)
 |(t,k)::r,ms,K=>match k with
  | .sc k=>cQ st [k] ms λls ms st=>(match ls with|[l]=>O1 st t (.sc l) λst=>nj st r ms K|_=>none)
  | .ag ks=>cQ st ks ms λls ms st=>O1 st t (.ag ls) λst=>nj st r ms K
  | .box ks=>bif zt t&&!bx st.cA (posOf t) then none else cQ st ks ms λls ms st=>O1 st t (.box ls) λst=>nj st r ms K
  | .mp s=>bif zt t then none else gC ms λm ms=>gL m λes=>O1 st t (.box [.mp s es]) λst=>nj st r ms K
  | .pt root off=>XZ ((t,.pt root off)::r) ms st K
end
def du:List (Nat×OK)->List Nat
 |[]=>[]
 |(t,_)::r=>t::du r
def b9:List (Nat×OK)->List Nat
 |[]=>[]
 |(_,.sc k)::r=>bt [k]++b9 r
 |(_,.ag ks)::r=>bt ks++b9 r
 |(_,.box ks)::r=>bt ks++b9 r
 |(_,.mp _)::r=>b9 r
 |(_,.pt _ _)::r=>b9 r
def minus:List Nat->List Nat->List Nat
 |[],_=>[]
 |k::r,l=>bif bx l k then minus r l else k::minus r l
def uG {R:Type}(ps:List Nat):List aE->(List aE->Option R)->Option R
 |[],K=>K []
 |l::r,K=>(match l with
  | .own g=>bif bx ps g then uG ps r λr=>K (.own g::r) else uG ps r λr=>K (.un::r)
  |l=>uG ps r λr=>K (l::r))
def Ll {R:Type}(ps:List Nat)(s:Slot)(K:Slot->Option R):Option R:=match s with
 | .sc (.own g)=>bif bx ps g then K (.sc (.own g)) else K (.sc .un)
 | .ag cs=>uG ps cs λcs=>K (.ag cs)
 | .tg cs=>uG ps cs λcs=>K (.tg cs)
 | .box cs=>uG ps cs λcs=>K (.box cs)
 |s=>K s
def nFr {R:Type}(ps:List Nat):Fr->(Fr->Option R)->Option R
 |[],K=>K []
 |(k,s)::r,K=>Ll ps s λs=>nFr ps r λr=>K ((k,s)::r)
def Lm {R:Type}(ks fs qs:List Nat):List (Nat×oM)->(List (Nat×oM)->Option R)->Option R
 |[],K=>K []
 |(k,o)::r,K=>bif bx ks k then Lm ks fs qs r λr=>(bif bx fs k&&!bx qs k then K ((k,⟨o.ty,true,o.xs⟩)::r) else K ((k,o)::r)) else Lm ks fs qs r K
def eC (c:Ctx):List (Nat×OK)->Bool
 |[]=>true
 |(_,.sc k)::r=>bif iL c [k] then eC c r else false
 |(_,.ag ks)::r=>bif iL c ks then eC c r else false
 |(_,.box ks)::r=>bif iL c ks then eC c r else false
 |(_,.mp _)::r=>eC c r
 |(_,.pt _ _)::r=>eC c r
def Ro {R:Type}(c:Ctx)(h:qI)(st:St)(K:St->St->Option R):Option R:=match st with
 |⟨p,q,r,m⟩=>
  bif !eC c h.all||meets (du h.all) p||meets (b9 h.all) q||meets (du h.all) h.cA||meets (b9 h.all) h.cy then none else
  match app h.cA p,app h.cy q with
  |some p',some q'=>
   pick h.cA r λrp=>nFr h.cy rp λrp=>pick (du h.all) r λro=>
   Lm h.cy h.ei q m λmp=>Lm (b9 h.all) h.ei q m λmo=>
   (match app rp ro,app mp mo with
    |some r1,some m1=>K ⟨p',q',r1,m1⟩ ⟨p',q',rp,mp⟩
    |_,_=>none)
  |_,_=>none
def Eb {R:Type}(c:Ctx)(h:qI)(st:St)(K:St->St->Option R):Option R:=Ro c h st λeJ eg=>G4 (λt=>bx h.cA t||bx (du h.all) t) st.fr st.fr eJ.fr λfr=>K ⟨eJ.cA,eJ.cy,fr,eJ.aP⟩ eg
def BV (st eg:St):St:=match st,eg with|⟨p,q,_,_⟩,⟨_,_,r,m⟩=>⟨p,q,r,m⟩
def guarded:List Oper->Bool
 |[]=>false
 |o::r=>match o.guard with|some _=>true|none=>guarded r
def qn:List Oper->List Nat
 |[]=>[]
 |o::r=>match o.op,o.dst with
  | .alloc _,some d=>d::qn r
  | .box _ _,some d=>d::qn r
  | .makeMap _ _,some d=>d::qn r
  | .range _ _,some d=>d::qn r
  |_,_=>qn r
def BW {R:Type}(ds:List Nat)(st:St)(K:St->Option R):Option R:=match st with|⟨p,q,r,m⟩=>wa ds r λr1=>G4 (λt=>!bx ds t) r r r1 λr=>K ⟨p,q,r,m⟩
def fD:Code->Option Nat
 | .region id _ _=>some id
 | .seq a b=>match fD a with|some n=>some n|none=>fD b
 | .cond _ a b=>match fD a with|some n=>some n|none=>fD b
 | .block _ b| .loop b| .scope b=>fD b
 |_=>none
def uni:List Nat->List Nat->List Nat
 |[],l=>l
 |k::r,l=>bif bx l k then uni r l else k::uni r l
def lP:Code->List Nat
 | .skip| .region _ _ _=>[0]
 | .seq a b=>bif bx (lP a) 0 then uni (minus (lP a) [0]) (lP b) else lP a
 | .cond _ a b=>uni (lP a) (lP b)
 | .block id b=>bif bx (lP b) (id+2) then uni (minus (lP b) [0,id+2]) [0] else lP b
 | .loop b=>minus (lP b) [0]
 | .exit id=>[id+2]
 | .ret=>[1]
 |_=>[]
def nk (o:Oper):Bool:=match o.op with
 | .load _ _=>true
 | .lookup _ _ _ false=>true
 |_=>false
def jP (c:Ctx)(o:Oper):Bool:=nk o||(match o.op with
 | .convert y _ _=>isLT c y
 |_=>false)
def zB (o:Oper):Option Nat:=match o.op with
 | .lookup t _ _ false=>some t
 |_=>none
def X0 (o:Oper):Option Nat:=match o.op with
 | .mapEntry t _ _=>some t
 |_=>none
def sK (o p:Oper):Bool:=match zB o,X0 p with
 |some t,some t'=>bN t t'
 |_,_=>false
def gQ (o:Oper):Bool:=match o.op with
 | .move _| .assign _| .nilCheck _| .pick _ _ _| .build _ _| .load _ _| .binOp _ _ _ _ _| .unOp _ _ _| .convert _ _ _| .makeFunc _ _ _| .slice _ _ _ _ _| .fieldAddr _ _ _| .field _ _ _| .indexAddr _ _ _| .index _ _ _| .extract _ _| .lookup _ _ _ false=>true
 | .call cl=>(match cl.callee with| .builtin .len| .builtin .min| .builtin .max| .builtin .real| .builtin .imag| .builtin .complex=>true|_=>false)
 |_=>false
def zC (c:Ctx)(o:Oper):Bool:=match o.op with
 | .alloc _| .box _ _| .buildSlice _ _ _| .makeSlice _ _ _=>true
 | .call cl=>(match cl.callee with| .value (.func f)=>!c.dA (c.key f)| .value _=>(match c.dyn with|[]=>true|_::_=>false)|_=>false)
 |_=>false
def Rq:Op->List Operand
 | .build _ ps=>ps.toList.map (·.2)
 | .buildSlice _ _ ps=>ps.toList.map (·.2)
 | .makeFunc _ first captured=>first.toList++captured.toList
 | .slice _ x l h m=>x::(l.toList++(h.toList++m.toList))
 | .call c=>(match c.callee with| .value f=>[f]| .invoke r _=>[r]| .builtin _=>[])++c.args.toList
 |op=>op.operands.toList
def O2:List Operand->List Nat
 |[]=>[]
 | .tmp t::r=>t::O2 r
 |_::r=>O2 r
def Na (ops:List Oper)(o:Oper):List Nat:=O2 (Rq o.op)++(match o.guard with|some (g,_)=>(match ops[g]? with|some p=>p.dst.toList|none=>[])|none=>[])
def G8 (ops:List Oper)(x y:Oper):Bool:=(match x.dst with|some d=>!bx (Na ops y) d&&(match y.dst with|some d'=>!bN d' d|none=>true)|none=>true)&& (match y.dst with|some d=>!bx (Na ops x) d|none=>true)
def G9 (e:Edge):Bool:=match e.ground with
 | .textOnly _=>false
 | .gcOnly _=>false
 |_=>true
def xf (o:Oper)(p:Nat->Bool):Bool:=o.after.toList.any λe=>G9 e&&p e.on
def aiX (ops:List Oper):Bool:=ops.all λo=>match o.op with| .select _ _=>false|_=>true
def Ky (c:Ctx)(o:Oper):Bool:=gQ o||zC c o
def qJ (c:Ctx)(ops:List Oper)(o:Oper):List Nat->List Nat->Bool
 |_,[]=>true
 |D,y::r=>match ops[y]? with
  |some p=>bif xf p (bx D) then qJ c ops o (y::D) r else G8 ops o p&&(!jP c o||Ky c p||still c o||sK o p)&&qJ c ops o D r
  |none=>false
def Ga (o:Oper):Bool:=match o.op,o.dst,o.guard with
 | .alloc _,some _,none=>o.after.toList.all λe=>!G9 e
 |_,_,_=>false
def af5 (c:Ctx)(o:Oper):Bool:=match o.op with
 | .alloc t=>(match c.tv t with|some _=>true|none=>false)
 |_=>false
def af6 (ops:List Oper)(i:Nat):Bool:=match ops[i]? with
 |some o=>Ga o
 |none=>false
def qK (c:Ctx)(ops:List Oper):List Nat->List Nat->Bool
 |_,[]=>true
 |pre,x::rest=>(match ops[x]? with
  |some o=>(o.after.toList.all λe=>!G9 e||bx pre e.on)&&!bx pre x&&!bx rest x&& (bif gQ o&&!fC c o then qJ c ops o [x] rest
    else (rest.all λy=>match ops[y]? with
     |some p=>bif Ga p then G8 ops p o&&af5 c p else xf p (λi=>bN i x||(bx rest i&&!af6 ops i))
     |none=>false))&&qK c ops (x::pre) rest
  |none=>false)
def sL (c:Ctx)(ops:Array Oper)(ord:List Nat):Bool:=aiX ops.toList&&bN ord.length ops.toList.length&&(List.range ops.toList.length).all (bx ord)&&qK c ops.toList [] ord
def GI {R:Type}(c:Ctx)(id:Nat)(ops l:List Oper)(st:St)(K:St->Option R):Option R:=bif guarded ops then
  Eb c (c.D6 id) st λeJ eg=>bd (BW (qn ops) eJ λeJ=>Bf c ops l eJ λst=>eH st [] ((c.D6 id).ex 0) some) λvs=>nj (BV st eg) ((c.D6 id).ex 0) vs K
 else BW (qn ops) st λst=>Bf c ops l st K
def qo (ops:List Oper):List Nat->Option (List Oper)
 |[]=>some []
 |i::r=>match ops[i]?,qo ops r with
  |some o,some l=>some (o::l)
  |_,_=>none
def nm {S:Type}(step:S->MV->Option (Bool×S)):S->List MV->Option (List MV×S)
 |s,[]=>some ([],s)
 |s,x::xs=>match step s x with
  |some (b,s1)=>(match nm step s1 xs with|some (ys,s2)=>some (bif b then ys else x::ys,s2)|none=>none)
  |none=>none
def X1 (g:Nat->List MV->Option MV)(k:Nat)(bV:List MV):Unit->MV->Option (Bool×Unit):=λ_ x=>match g k (x::bV) with
 |some (.b b)=>some (b,())
 |_=>none
def Ln (g:Nat->List MV->Option MV)(k:Nat)(bV:List MV):List MV->MV->Option (Bool×List MV):=λls x=>match g k (x::(bV++[.cell (.func 0 ls)])) with
 |some (.ef (.b b) outs)=>some (b,outs)
 |_=>none
def Rr:MV->Bool
 | .agg _=>true
 |_=>false
def X2 {R:Type}(c:Ctx)(h f:Nat)(bV:List Operand)(x:Operand)(o1 o2:Oper)(st:St)(K:St->Option R):Option R:=
 let fin (ys:List MV) (st:St):Option R:=iP st (o2.dst.getD 0) ⟨c.nU (c.key h),false,ys⟩ λst=>bn c st o2.dst (.sc (.own (o2.dst.getD 0))) λst=>bn c st o1.dst (.sc .un) K;match c.sig (c.key f) with
 |none=>bif c.dA (c.key f) then none else CH c st bV λms st=>CJ c (c.key h) st (aH c st x) λm st=>gF m λxs=>cJ (xs.all Rr)<|bd (nm (X1 c.g (c.key f) ms) () xs) λp=>fin p.1 st
 |some sg=>CH c st bV.dropLast λms st=>CJ c (c.key h) st (aH c st x) λm st=>gF m λxs=>cJ (xs.all Rr)<| (match bV.getLast? with
  |some y=>(match aH c st y with
   | .ptr root 0=>(match aq st.fr root with
    | .box cs=>bif eT cs||bx st.cA root||!iL c sg.2||!bN sg.1 (ms.length+1)||!c.dA (c.key f) then none else
     kq st [] sg.2 cs λls ps=>bd (nm (Ln c.g (c.key f) ms) ls xs) λp=>Lk st root sg.2 ps p.2 λst=>fin p.1 st
    |_=>none)
   |_=>none)
  |none=>none)
def CM (c:Ctx):List Oper->List Oper->Option (List Oper×Nat×List Operand×Nat×Operand×Oper×Oper×List Oper)
 |pre,o1::o2::r=>match o1.op,o2.op with
  | .makeFunc (.func f) first bV,.call cl=>(match cl.callee,cl.args.toList,first.toList,o1.dst with
   | .value (.func h),[.tmp x,.tmp y],[],some d=>bif c.M3 h&&bN y d&&!bN x d&&!abP c.n d&&!bN (o2.dst.getD d) d then some (pre.reverse,f,bV.toList,h,.tmp x,o1,o2,r) else CM c (o1::pre) (o2::r)
   |_,_,_,_=>CM c (o1::pre) (o2::r))
  |_,_=>CM c (o1::pre) (o2::r)
 |_,_=>none
def Ha:List Oper->Bool
 |[]=>true
 |o::r=>(match o.guard with|none=>Ha r|some _=>false)
def X3 {R:Type}(c:Ctx)(id:Nat)(ops:List Oper)(st:St)(K:St->Option R):Option R:=match CM c [] ops with
 |some (pre,f,bV,h,x,o1,o2,post)=>bif Ha ops then BW (qn ops) st λst=>Bf c ops pre st λst=>X2 c h f bV x o1 o2 st λst=>Bf c ops post st K else none
 |none=>GI c id ops ops st K
def fzK {R:Type}(c:Ctx)(ts:List Nat)(st:St)(K:St->Option R):Option R:=match ts with
 |[]=>K st
 |ts=>CH c st (ts.map .tmp) λ_ st=>K st
def Kz (ops:Array Oper)(A B:Nat):Array Oper:=ops.modify B λo=>{o with after:=o.after.push ⟨A,.data⟩}
open Classical in
def both {R:Type}(x y:Option R):Option R:=if x=y then x else none
def X4 (n:Nat)(l:List Nat):Option (List Nat×List Nat×Nat×Nat):=match l.drop (l.length-3) with
 |[m,A,B]=>bif bN A B||(abP n A||abP n B) then none else some (l.take m,(l.drop m).take (l.length-3-m),A,B)
 |_=>none
def X5 {R:Type}(c:Ctx)(ops:Array Oper)(l:List Nat)(st:St)(K:St->Option R):Option R:=bif sL c ops l then (match qo ops.toList l with
 |some l=>Bf c ops.toList l st K
 |none=>none) else none
def Hb {R:Type}(c:Ctx)(st:St)(K:St->Option R):Nat->Array Oper->List Nat->Option R
 |0,_,_=>none
 |k+1,ops,l=>bif bN l.length ops.toList.length then X5 c ops l st K else (match X4 ops.toList.length l with
  |some (o1,o2,A,B)=>both (Hb c st K k (Kz ops A B) o1) (Hb c st K k (Kz ops B A) o2)
  |none=>none)
def aiY {R:Type}(c:Ctx)(id:Nat)(ops:Array Oper)(ord:List Nat)(st:St)(K:St->Option R):Option R:=bif guarded ops.toList then
  Eb c (c.D6 id) st λeJ eg=>bd (BW (qn ops.toList) eJ λeJ=>Hb c eJ (λst=>eH st [] ((c.D6 id).ex 0) some) ord.length ops ord) λvs=>nj (BV st eg) ((c.D6 id).ex 0) vs K
 else BW (qn ops.toList) st λst=>Hb c st K ord.length ops ord
def Tt {R:Type}(c:Ctx)(id:Nat)(ops:Array Oper)(draw:Bool)(st:St)(K:St->Option R):Option R:=fzK c (c.fz id) st λst=>bif draw then (bif !bN (c.ord id).length ops.toList.length then aiY c id ops (c.ord id) st K else bif sL c ops (c.ord id) then (match qo ops.toList (c.ord id) with|some l=>GI c id ops.toList l st K|none=>none) else none)
 else X3 c id ops.toList st K
def pM (c:Ctx):Code->(R:Type)->St->(Nat->St->Option R)->Option R
 | .skip,_,st,K=>K 0 st
 | .region id ops d,_,st,K=>Tt c id ops d st λst=>K 0 st
 | .seq a b,R,st,K=>pM c a R st λe st=>bif bN e 0 then pM c b R st K else K e st
 | .cond x a b,R,st,K=>(match aH c st x with
  | .sc (.p (.b v))=>
   bif bx (lP a) 0&&bx (lP b) 0 then
    Eb c (c.GG ((fD (.seq a b)).getD 0)) st λeJ eg=>
    bd (bB v (pM c a (Nat×List MV) eJ λe st=>eH st [] ((c.GG ((fD (.seq a b)).getD 0)).ex e) λvs=>some (e,vs)) (pM c b (Nat×List MV) eJ λe st=>eH st [] ((c.GG ((fD (.seq a b)).getD 0)).ex e) λvs=>some (e,vs))) λr=>Kr (uni (lP a) (lP b)) r.1 λe=>nj (BV st eg) ((c.GG ((fD (.seq a b)).getD 0)).ex e) r.2 λst=>K e st
   else bB v (pM c a R st K) (pM c b R st K)
  |_=>none)
 | .block id b,R,st,K=>pM c b R st λe st=>bif bN e (id+2) then K 0 st else K e st
 | .loop b,_,st,K=>
  Eb c (c.E9 ((fD b).getD 0)) st λeJ eg=>eH eJ [] (c.E9 ((fD b).getD 0)).outs λvs=>
   bd (Loop (λms=>nj eg (c.E9 ((fD b).getD 0)).outs ms λst=>pM c b (Sum (List MV) (Nat×List MV)) st λe st=>
    bif bN e 0 then eH st [] (c.E9 ((fD b).getD 0)).outs λvs=>some (.inl vs) else eH st [] ((c.E9 ((fD b).getD 0)).ex e) λvs=>some (.inr (e,vs))) vs)
    λr=>Kr (minus (lP b) [0]) r.1 λe=>nj (BV st eg) ((c.E9 ((fD b).getD 0)).ex e) r.2 λst=>K e st
 | .exit id,_,st,K=>K (id+2) st
 | .ret,_,st,K=>K 1 st
 |_,_,_,_=>none
def Hc {R:Type}(c:Ctx):List Nat->Nat->List MV->(Fr->List MV->Option R)->Option R
 |[],_,ms,K=>K [] ms
 |t::ts,n,ms,K=>match c.tv t with
  |some I=>gC ms λm r=>zw I m λs=>Hc c ts (n+1) r λfr ms=>K ((n,s)::fr) ms
  |none=>none
def Rs {R:Type}:List (List Kd)->Nat->List MV->(Fr->Option R)->Option R
 |[],_,ms,K=>gN ms (K [])
 |ks::r,n,ms,K=>gC ms λm ms=>gP m λcs=>uE ks cs λcs=>Rs r (n+1) ms λfr=>K ((n,.zp cs)::fr)
def O3 {R:Type}(c:Ctx)(st:St):List ResultVar->(List MV->Option R)->Option R
 |[],K=>K []
 |r::rs,K=>
  let go (s:Slot):Option R:=match s with
   | .sc (.p m)=>O3 c st rs λms=>K (m::ms)
   |_=>none
  match r with
  | .tmp t=>go (aq st.fr t)
  | .cell a t=>match c.tv t,aq st.fr a with
   |some I,.box cs=>bif eT cs||zt a then none else jN I cs 0 λs=>go s
   |_,_=>none
def Rt {R:Type}(c:Ctx)(st:St)(fresh:Option Nat):List ResultVar->(List MV->Option R)->Option R
 |[],K=>K []
 |r::rs,K=>
  let go (s:Slot):Option R:=match fresh with
   |some ty=>(match s with
    | .sc (.own f)=>(match aI st.aP f with|some o=>bif o.ei||!bN o.ty ty then none else O3 c st rs λms=>K (.fresh o.xs::ms)|none=>none)
    | .sc .nil=>O3 c st rs λms=>K (.fresh []::ms)
    |_=>none)
   |none=>mW st s λm st=>Rt c st fresh rs λms=>K (m::ms)
  match r with
  | .tmp t=>go (aq st.fr t)
  | .cell a t=>match c.tv t,aq st.fr a with
   |some I,.box cs=>bif eT cs||zt a then none else jN I cs 0 λs=>go s
   |_,_=>none
def U5 {R:Type}(c:Ctx)(st:St):List ResultVar->(List MV->St->Option R)->Option R
 |[],K=>K [] st
 |r::rs,K=>(match r with
  | .tmp t=>mW st (aq st.fr t) λm st=>U5 c st rs λms st=>K (m::ms) st
  | .cell a t=>(match c.tv t,aq st.fr a with
   |some I,.box cs=>bif eT cs||zt a then none else jN I cs 0 λs=>mW st s λm st=>U5 c st rs λms st=>K (m::ms) st
   |_,_=>none))
def aiZ:List MV->MV
 |[m]=>m
 |ms=> .b8 ms
def Lo (c:Ctx)(bV:List (List Kd))(pos:Nat)(ks:List LK)(f:Func)(args:List MV):Option MV:=match f.body,args[pos]? with
 |some b,some (.cell (.func off ls))=>bif !iL c ks||!abP pos 999 then none else
  Hc c f.params.toList 0 (args.set pos (.rp [])) λfr ms=>Rs bV f.params.size ms λpT=>
   (match app fr pT with
   |some fr=>cQ ⟨[],[],[],[]⟩ ks ls λcs rest AG=>gN rest<| pM c b MV ⟨[pos],[],(1000000+off *1000+pos,.box cs)::fr,AG.aP⟩ λe st=>
     bif abP e 1 then U5 c st f.results.toList λms st=>(match aq st.fr (1000000+off *1000+pos) with
      | .box cs=>bif eT cs then none else kq st [] ks cs λouts _=>some (.ef (aiZ ms) outs)
      |_=>none) else none
   |none=>none)
 |_,_=>none
def X6 (X:Code->St->(Nat->St->Option MV)->Option MV)(c:Ctx)(bV:List (List Kd))(fresh:Option Nat)(f:Func)(args:List MV):Option MV:=match f.body with
 |some b=>Hc c f.params.toList 0 args λfr ms=>Rs bV f.params.size ms λpT=>
  match app fr pT with
  |some fr=>X b ⟨[],[],fr,[]⟩ λe st=>bif abP e 1 then Rt c st fresh f.results.toList λms=>(match ms with|[m]=>some m|ms=>some (.b8 ms)) else none
  |none=>none
 |none=>none
def Lp (c:Ctx)(bV:List (List Kd))(fresh:Option Nat)(f:Func)(args:List MV):Option MV:=X6 (λb st K=>pM c b MV st K) c bV fresh f args
end
end Dn
/-
  What abstract values and slots say of Go's memory. Conditions: none.
-/
namespace Dn
open Go
theorem iy (w:World)(o:Obj):(w.alloc o).heap[w.heap.size]? =some o:=by show (w.heap.push o)[w.heap.size]? =some o;simp
theorem rR (w:World)(o:Obj)(i:Nat)(h:i<w.heap.size):(w.alloc o).heap[i]? =w.heap[i]? :=by show (w.heap.push o)[i]? =w.heap[i]?;rw [Array.getElem?_push,if_neg (Nat.ne_of_lt h)]
def MV.one:MV->Bool
 | .h _| .agg _| .b8 _| .fresh _| .cell _| .ef _ _=>false
 |_=>true
abbrev Ph:=Nat->Nat->Option Value
section
variable (key:Nat->Nat) (φ:Ph)
mutual
inductive gY:List Value->MV->Prop
 |b (x:Bool):gY [.bool x] (.b x)
 |i (k:IntKind) (n:Int):gY [.int k n] (.i k n)
 |s (bs:ByteArray):gY [.string bs] (.s bs.data.toList)
 |h (x:kM):gY (x.l.map λb=> .int .u8 (b.toNat:Int)) (.h x)
 |raw (v:Value):v.oneCell'=true->gY [v] (.raw v)
 |list (a:Option Addr) (cap:Nat) (xs:List MV) (a8 off Fb:Nat) (f:Nat->List Value): xs.length<=cap->(0<xs.length->a=some ⟨a8,off,none⟩)->(∀i,i<xs.length->(f i).length=Fb)-> (∀i j,i<xs.length->j<Fb->φ a8 (off+i *Fb+j)=(f i)[j]?)-> (∀(i:Nat) (h:i<xs.length),gY (f i) xs[i])->gY [.slice a xs.length cap] (.list xs)
 |agg (vs:List Value) (ms:List MV):ga vs ms->gY vs (.agg ms)
 |func (f k:Nat) (cap:Array Value) (ms:List MV):key f=k->ga cap.toList ms->(∀m∈ms,m.one=true)->gY [.func (.func f) #[] cap] (.func k ms)
 |rp (a8 off:Nat) (vs:List Value) (ms:List MV):ga vs ms->(∀j,j<vs.length->φ a8 (off+j)=vs[j]?)->gY [.pointer (some ⟨a8,off,none⟩)] (.rp ms)
 |clip (a:Option Addr) (xs:List MV):gY [.slice a xs.length xs.length] (.list xs)->gY [.slice a xs.length xs.length] (.clip xs)
inductive ga:List Value->List MV->Prop
 |nil:ga [] []
 |cons (v:List Value) (m:MV) (vs:List Value) (ms:List MV):gY v m->ga vs ms->ga (v++vs) (m::ms)
end
end
def gZ (φ φ':Ph):Prop:= ∀b o v,φ b o=some v->φ' b o=some v
theorem gZ.refl (φ:Ph):gZ φ φ:=λ_ _ _ h=>h
theorem gZ.AH {φ φ':Ph}(h:gZ φ φ'){b j:Nat}{cs:List Value}(e:φ b j=cs[j]?)(hj:j<cs.length):φ' b j=cs[j]? :=by rw [IN hj] at e⊢;exact h _ _ _ e
theorem gZ.trans {φ φ' φ'':Ph}(h:gZ φ φ') (h':gZ φ' φ''):gZ φ φ'':=λb o v e=>h' b o v (h b o v e)
section
variable {key:Nat->Nat} {φ φ':Ph}(hle:gZ φ φ')
include hle
theorem Nb {b o:Nat}{vs:List Value}{j:Nat}(hj:j<vs.length)(h:φ b o=vs[j]?):φ' b o=vs[j]? :=by rw [IN hj] at h⊢;exact hle _ _ _ h
mutual
theorem gY.mono {vs:List Value}{m:MV}:gY key φ vs m->gY key φ' vs m
 | .b x=> .b x
 | .i k n=> .i k n
 | .s bs=> .s bs
 | .h x=> .h x
 | .raw v h=> .raw v h
 | .list a cap xs a8 off Fb f h1 h2 h3 h4 h5=> .list a cap xs a8 off Fb f h1 h2 h3 (λi j hi hj=>Nb hle (by rw [h3 i hi];exact hj) (h4 i j hi hj)) (λi hi=>(h5 i hi).mono)
 | .agg vs ms h=> .agg vs ms h.mono
 | .func f k cap ms h1 h2 h3=> .func f k cap ms h1 h2.mono h3
 | .rp a8 off vs ms h1 h2=> .rp a8 off vs ms h1.mono (λj hj=>Nb hle hj (h2 j hj))
 | .clip a xs h=> .clip a xs h.mono
theorem ga.mono {vs:List Value}{ms:List MV}:ga key φ vs ms->ga key φ' vs ms
 | .nil=> .nil
 | .cons v m vs ms h1 h2=> .cons v m vs ms h1.mono h2.mono
end
end
section
variable {key:Nat->Nat} {φ:Ph}
mutual
theorem gY.cells {vs:List Value}{m:MV}:gY key φ vs m-> ∀v∈vs,v.oneCell'=true
 | .b x=>by simp [No]
 | .i k n=>by simp [No]
 | .s bs=>by simp [No]
 | .h x=>by intro v hv;obtain ⟨b,_,rfl⟩:=ada.1 hv;rfl
 | .raw v h=>by simpa using h
 | .list .. =>by simp [No]
 | .agg vs ms h=>h.cells
 | .func .. =>by simp [No]
 | .rp .. =>by simp [No]
 | .clip .. =>by simp [No]
theorem ga.cells {vs:List Value}{ms:List MV}:ga key φ vs ms-> ∀v∈vs,v.oneCell'=true
 | .nil=>by simp
 | .cons v m vs ms h1 h2=>by
  intro x hx;rcases ae3.1 hx with hx|hx
  ·exact h1.cells x hx
  ·exact h2.cells x hx
end
end
section
variable {key:Nat->Nat} {φ:Ph}
mutual
theorem gY.width {vs:List Value}{m:MV}:gY key φ vs m->vs.length=m.w
 | .b x=>by simp [MV.w]
 | .i k n=>by simp [MV.w]
 | .s bs=>by simp [MV.w]
 | .h x=>by simp [MV.w,x.h]
 | .raw v h=>by simp [MV.w]
 | .list .. =>by simp [MV.w]
 | .agg vs ms h=>by rw [h.width];simp [MV.w]
 | .func .. =>by simp [MV.w]
 | .rp .. =>by simp [MV.w]
 | .clip .. =>by simp [MV.w]
theorem ga.width {vs:List Value}{ms:List MV}:ga key φ vs ms->vs.length=MV.wl ms
 | .nil=>by simp [MV.wl]
 | .cons v m vs ms h1 h2=>by simp [MV.wl,h1.width,h2.width]
end
end
theorem gY.one {key:Nat->Nat} {φ:Ph}{vs:List Value}{m:MV}(h:gY key φ vs m)(hm:m.one=true): ∃v,vs=[v]/\v.oneCell'=true:=by have hc:=h.cells;cases h<;>simp [MV.one] at hm<;>exact ⟨_,rfl,hc _ (by simp)⟩
def di (key:Nat->Nat) (φ:Ph)(v:Value):MV->Prop
 | .h x=>v= .agg (x.l.map λb=>afA .u8 (b.toNat:Int)).toArray
 | .agg ms=> ∃arr,v= .agg arr/\ga key φ arr.toList ms
 |m=>m.one=true/\gY key φ [v] m
theorem di.mono {key:Nat->Nat} {φ φ':Ph}(hle:gZ φ φ'){v:Value}{m:MV}(h:di key φ v m):di key φ' v m:=by cases m<;>simp only [di] at h⊢ <;>first|exact h|exact ⟨h.1,h.2.mono hle⟩|(obtain ⟨arr,h1,h2⟩:=h;exact ⟨arr,h1,h2.mono hle⟩)
structure Env where
 key:Nat->Nat
 φ:Ph
 E:Nat->Value
 B:Nat->Nat
 m:List (Nat×oM)
def bq (x:kM):List Value:=x.l.map λb=>afA .u8 (b.toNat:Int)
theorem cX (x:kM):(bq x).length=32:=by simp [bq,x.h]
def aM (e:Env)(vs:List Value):aE->Prop
 | .un=> ∃v,vs=[v]/\v.oneCell'=true
 | .p x=>x.one=true/\gY e.key e.φ vs x
 | .hs x=>vs=bq x
 | .nil=>vs=[.slice none 0 0]
 | .mp _ _=>False
 | .own f=> ∃v,vs=[v]/\v.oneCell'=true/\(∀o,aI e.m f=some o->v=e.E f)
def av (e:Env):List Value->List aE->Prop
 |vs,[]=>vs=[]
 |vs,l::ls=> ∃v r,vs=v++r/\aM e v l/\av e r ls
def sM:aE->Bool
 | .p _| .hs _=>true
 |_=>false
def iz:List aE->Bool
 |[]=>true
 |l::r=>sM l&&iz r
def Hd (st:Bool)(x:MV)(cs:List aE):Prop:=(∃ms,bE cs=some ms/\vr st ms=some x)/\ ∀m,aE.p m∈cs->m.one=true
def Bx:Slot->Bool
 | .sc l=>sM l
 | .ag cs=>iz cs
 |_=>false
mutual
def ab (e:Env)(v:Value):Slot->Prop
 | .skip=>v=undef
 | .sc l=>match l with
  | .un=>True
  | .hs x=>v= .agg (bq x).toArray
  |l=>aM e [v] l
 | .ag cs=> ∃arr,v= .agg arr/\av e arr.toList cs
 | .tg cs=> ∃arr,v= .tuple arr/\av e arr.toList cs
 | .b8 vs=> ∃arr,v= .tuple arr/\kN e arr.toList vs
 | .box _=>False
 | .zp cs=> ∃a8 o vs,v= .pointer (some ⟨a8,o,none⟩)/\av e vs cs/\iz cs=true/\(∀j,j<vs.length->e.φ a8 (o+j)=vs[j]?)
 | .ptr r o=>v= .pointer (some ⟨e.B r,o,none⟩)
 | .zq r=>v= .map (some (e.B r))
 | .rp cs off=> ∃a8 o vs,v= .pointer (some ⟨a8,o+off,none⟩)/\av e vs cs/\iz cs=true/\(∀j,j<vs.length->e.φ a8 (o+j)=vs[j]?)
 | .hp r o i=>v= .pointer (some ⟨e.B r,o+i,none⟩)/\i<32
 | .ep f i off st cs=> ∀o,aI e.m f=some o-> ∃a8 cap,e.E f= .slice (some ⟨a8,0,none⟩) o.xs.length cap/\(∃x,o.xs[i]? =some x/\Hd st x cs)/\ v= .pointer (some ⟨a8,i *zu cs+off,none⟩)
def kN (e:Env):List Value->List Slot->Prop
 |vs,[]=>vs=[]
 |vs,s::ss=> ∃v r,vs=v::r/\ab e v s/\Bx s=true/\kN e r ss
end
def X7:aE->List Value->Bool
 | .p (.b x),[.bool y]=>x==y
 | .p (.i k n),[.int k' n']=>decide (k=k')&&decide (n=n')
 | .p (.s l),[.string s]=>decide (l=s.data.toList)
 | .p (.raw v),[w]=>match v,w with
  | .nilFunc,.nilFunc=>true
  | .nilIface,.nilIface=>true
  | .pointer none,.pointer none=>true
  |_,_=>false
 | .nil,[.slice none 0 0]=>true
 | .un,[v]=>v.oneCell'
 | .hs x,vs=>(vs.length==32)&&(vs.zip x.l).all λp=>match p.1 with| .int .u8 n=>decide (n=(p.2.toNat:Int))|_=>false
 |_,_=>false
def uH:List aE->List Value->Bool
 |[],vs=>vs.isEmpty
 |l::ls,vs=>X7 l (vs.take l.w)&&uH ls (vs.drop l.w)&&decide (l.w<=vs.length)
end Dn
/-
  How an abstract state stands to a frame and a memory; laws of frames and leaves. Conditions: none.
-/
namespace Dn
open Go
def cj:Fr->Nat->Slot->Fr
 |[],t,v=>[(t,v)]
 |(k,s)::r,t,v=>bif bN k t then (k,v)::r else (k,s)::cj r t v
def dv (ds:List Nat):Fr->Fr
 |[]=>[]
 |(k,s)::r=>bif dq s||bx ds k then dv ds r else (k,s)::dv ds r
def oU (ks:List Nat):Fr->Fr
 |[]=>[]
 |(k,s)::r=>bif bx ks k&&!dq s then (k,s)::oU ks r else oU ks r
def bR:List (Nat×oM)->Nat->oM->List (Nat×oM)
 |[],t,v=>[(t,v)]
 |(k,s)::r,t,v=>bif bN k t then (k,v)::r else (k,s)::bR r t v
def Nc (f:Nat):aE->aE
 | .own g=>bif bN g f then .un else .own g
 |l=>l
def AJ (f:Nat):Slot->Slot
 | .sc l=> .sc (Nc f l)
 | .ag cs=> .ag (cs.map (Nc f))
 | .tg cs=> .tg (cs.map (Nc f))
 | .box cs=> .box (cs.map (Nc f))
 | .ep g i o b cs=>bif bN g f then .sc .un else .ep g i o b cs
 |s=>s
def lM (f:Nat)(r:Fr):Fr:=r.map λp=>(p.1,AJ f p.2)
def zD (f:Nat)(r:Fr):Fr:=r.map λp=>(p.1,match p.2 with
 | .ep g i o b cs=>bif bN g f then .sc .un else .ep g i o b cs
 |s=>s)
def Q2 (ps:List Nat):aE->aE
 | .own g=>bif bx ps g then .own g else .un
 |l=>l
def GJ (ps:List Nat):Slot->Slot
 | .sc l=> .sc (Q2 ps l)
 | .ag cs=> .ag (cs.map (Q2 ps))
 | .tg cs=> .tg (cs.map (Q2 ps))
 | .box cs=> .box (cs.map (Q2 ps))
 |s=>s
def Ru (ps:List Nat)(r:Fr):Fr:=r.map λp=>(p.1,GJ ps p.2)
def sN (ks fs qs:List Nat):List (Nat×oM)->List (Nat×oM)
 |[]=>[]
 |(k,o)::r=>bif bx ks k then (bif bx fs k&&!bx qs k then (k,⟨o.ty,true,o.xs⟩) else (k,o))::sN ks fs qs r else sN ks fs qs r
section
variable {R:Type}
theorem force_eq (s:Slot)(K:Slot->Option R):force s K=K s:=by cases s<;>rfl
theorem mB (r:Fr)(t:Nat)(s:Slot)(K:Fr->Option R):Ks r t s K=K (cj r t s):=by
 induction r generalizing K with
 |nil=>rfl
 |cons p r ih=>obtain ⟨k,x⟩:=p;simp only [Ks,cj];cases bN k t<;>simp [ih]
theorem Fc (ds:List Nat)(r:Fr)(K:Fr->Option R):wa ds r K=K (dv ds r):=by
 induction r generalizing K with
 |nil=>rfl
 |cons p r ih=>obtain ⟨k,x⟩:=p;simp only [wa,dv];cases dq x||bx ds k<;>simp [ih]
theorem ab5 (ks:List Nat)(r:Fr)(K:Fr->Option R):pick ks r K=K (oU ks r):=by
 induction r generalizing K with
 |nil=>rfl
 |cons p r ih=>obtain ⟨k,x⟩:=p;simp only [pick,oU];cases bx ks k&&!dq x<;>simp [ih]
theorem oV (r:List (Nat×oM))(t:Nat)(s:oM)(K:List (Nat×oM)->Option R):OV r t s K=K (bR r t s):=by
 induction r generalizing K with
 |nil=>rfl
 |cons p r ih=>obtain ⟨k,x⟩:=p;simp only [OV,bR];cases bN k t<;>simp [ih]
theorem BX (f:Nat)(cs:List aE)(K:List aE->Option R):uF f cs K=K (cs.map (Nc f)):=by
 induction cs generalizing K with
 |nil=>rfl
 |cons l r ih=>cases l<;>simp only [uF,IT,Nc,ih];rename_i g;cases bN g f<;>rfl
theorem X8 (f:Nat)(s:Slot)(K:Slot->Option R):G3 f s K=K (AJ f s):=by
 cases s with
 |sc l=>cases l<;>simp only [G3,AJ,Nc];rename_i g;cases bN g f<;>rfl
 |ag cs=>simp only [G3,AJ,BX]
 |tg cs=>simp only [G3,AJ,BX]
 |box cs=>simp only [G3,AJ,BX]
 |ep g i o b cs=>simp only [G3,AJ];cases bN g f<;>rfl
 |_=>rfl
theorem X9 (f:Nat)(r:Fr)(K:Fr->Option R):kFr f r K=K (lM f r):=by
 induction r generalizing K with
 |nil=>rfl
 |cons p r ih=>obtain ⟨k,x⟩:=p;simp only [kFr,X8,ih,lM,IT]
theorem af7 (f:Nat)(r:Fr)(K:Fr->Option R):kEp f r K=K (zD f r):=by
 induction r generalizing K with
 |nil=>rfl
 |cons p r ih=>obtain ⟨k,x⟩:=p;cases x<;>simp only [kEp,ih,zD,IT];rename_i g i o b cs;cases bN g f<;>rfl
theorem BZ (f:List Nat)(cs:List aE)(K:List aE->Option R):uG f cs K=K (cs.map (Q2 f)):=by
 induction cs generalizing K with
 |nil=>rfl
 |cons l r ih=>cases l<;>simp only [uG,IT,Q2,ih];rename_i g;cases bx f g<;>rfl
theorem Ya (f:List Nat)(s:Slot)(K:Slot->Option R):Ll f s K=K (GJ f s):=by
 cases s with
 |sc l=>cases l<;>simp only [Ll,GJ,Q2];rename_i g;cases bx f g<;>rfl
 |ag cs=>simp only [Ll,GJ,BZ]
 |tg cs=>simp only [Ll,GJ,BZ]
 |box cs=>simp only [Ll,GJ,BZ]
 |_=>rfl
theorem af8 (f:List Nat)(r:Fr)(K:Fr->Option R):nFr f r K=K (Ru f r):=by
 induction r generalizing K with
 |nil=>rfl
 |cons p r ih=>obtain ⟨k,x⟩:=p;simp only [nFr,Ya,ih,Ru,IT]
theorem Yb (ks fs qs:List Nat)(r:List (Nat×oM))(K:List (Nat×oM)->Option R):Lm ks fs qs r K=K (sN ks fs qs r):=by
 induction r generalizing K with
 |nil=>rfl
 |cons p r ih=>
  obtain ⟨k,x⟩:=p;simp only [Lm,sN];cases bx ks k
  ·simp [ih]
  ·simp only [cond_true,ih];cases bx fs k&&!bx qs k<;>rfl
theorem xg {α:Type}(x y:List α):app x y=some (x++y):=by
 induction x with
 |nil=>rfl
 |cons a r ih=>simp [app,ih]
end
theorem fm (a b:Nat):bN a b=decide (a=b):=by
 by_cases h:a=b
 ·subst h;simp
 ·simp only [h,decide_false];exact Bool.eq_false_iff.2 (λe=>h (sh e))
theorem bu (l:List Nat)(t:Nat):bx l t=true↔t∈l:=by
 induction l with
 |nil=>simp [bx]
 |cons k r ih=>
  simp only [bx,fm,abT];by_cases h:k=t
  ·simp [h]
  ·simp only [h,decide_false,cond_false,ih];exact ⟨.inr,λh'=>h'.resolve_left (λe=>h e.symm)⟩
theorem bL (r:Fr)(d t:Nat)(s:Slot):aq (cj r d s) t=if t=d then s else aq r t:=by
 induction r with
 |nil=>simp only [cj,aq,fm];by_cases h:t=d<;>simp [h,Ne.symm]<;>(intro e;exact absurd e.symm h)
 |cons p r ih=>
  obtain ⟨k,x⟩:=p;simp only [cj,fm];by_cases hk:k=d
  ·subst hk;simp only [decide_true,cond_true,aq,fm];by_cases h:k=t
   ·simp [h]
   ·have h': ¬t=k:=λe=>h e.symm;simp [h,h']
  ·simp only [hk,decide_false,cond_false,aq,fm,ih];by_cases h:k=t
   ·subst h;simp [hk]
   ·simp [h]
theorem bm (r:List (Nat×oM))(d t:Nat)(s:oM):aI (bR r d s) t=if t=d then some s else aI r t:=by
 induction r with
 |nil=>simp only [bR,aI,fm];by_cases h:t=d<;>simp [h,Ne.symm]<;>(intro e;exact absurd e.symm h)
 |cons p r ih=>
  obtain ⟨k,x⟩:=p;simp only [bR,fm];by_cases hk:k=d
  ·subst hk;simp only [decide_true,cond_true,aI,fm];by_cases h:k=t
   ·simp [h]
   ·have h': ¬t=k:=λe=>h e.symm;simp [h,h']
  ·simp only [hk,decide_false,cond_false,aI,fm,ih];by_cases h:k=t
   ·subst h;simp [hk]
   ·simp [h]
theorem He (g:Slot->Slot)(hg:g (.sc .un)= .sc .un)(r:Fr)(t:Nat):aq (r.map λp=>(p.1,g p.2)) t=g (aq r t):=by
 induction r with
 |nil=>simp [aq,hg]
 |cons p r ih=>obtain ⟨k,x⟩:=p;simp only [IT,aq,fm];by_cases h:k=t<;>simp [h,ih]
theorem gU (f:Nat)(r:Fr)(t:Nat):aq (lM f r) t=AJ f (aq r t):=He (AJ f) rfl r t
theorem Lq (f:List Nat)(r:Fr)(t:Nat):aq (Ru f r) t=GJ f (aq r t):=He (GJ f) rfl r t
def aN (r:Fr):List Nat:=r.map Prod.fst
theorem su (r:Fr)(t:Nat)(h:t∉aN r):aq r t= .sc .un:=by
 induction r with
 |nil=>rfl
 |cons p r ih=>obtain ⟨k,x⟩:=p;simp only [aN,IT,abT,not_or] at h;have h': ¬k=t:=λe=>h.1 e.symm;simp only [aq,fm,h',decide_false,cond_false];exact ih h.2
theorem CO (ds:List Nat)(r:Fr):List.Sublist (aN (dv ds r)) (aN r):=by
 induction r with
 |nil=>simp [aN,dv]
 |cons p r ih=>
  obtain ⟨k,x⟩:=p;simp only [dv];cases dq x||bx ds k
  ·simpa [aN] using ih
  ·exact (List.Sublist.cons _ ih)
theorem xh (ds:List Nat)(r:Fr):List.Sublist (aN (oU ds r)) (aN r):=by
 induction r with
 |nil=>simp [aN,oU]
 |cons p r ih=>
  obtain ⟨k,x⟩:=p;simp only [oU];cases bx ds k&&!dq x
  ·exact (List.Sublist.cons _ ih)
  ·simpa [aN] using ih
theorem Hf (ds:List Nat)(r:Fr)(hn:(aN r).Nodup)(t:Nat):aq (dv ds r) t=if dq (aq r t)||bx ds t then .sc .un else aq r t:=by
 induction r with
 |nil=>simp [aq,dv]
 |cons p r ih=>
  obtain ⟨k,x⟩:=p;simp only [aN,IT,agb] at hn;have ih:=ih hn.2;simp only [dv];by_cases hk:k=t
  ·subst hk;cases hb:dq x||bx ds k
   ·simp [aq,fm,hb]
   ·simp only [cond_true,aq,fm,decide_true,hb,if_true];refine su _ _ (λhm=>hn.1 ((CO ds r).subset hm))
  ·cases hb:dq x||bx ds k
   ·simp [aq,fm,hk,ih]
   ·simp [aq,fm,hk,ih]
theorem B0 (ds:List Nat)(r:Fr)(hn:(aN r).Nodup)(t:Nat):aq (oU ds r) t=if bx ds t&&!dq (aq r t) then aq r t else .sc .un:=by
 induction r with
 |nil=>simp [aq,oU]
 |cons p r ih=>
  obtain ⟨k,x⟩:=p;simp only [aN,IT,agb] at hn;have ih:=ih hn.2;simp only [oU];by_cases hk:k=t
  ·subst hk;cases hb:bx ds k&&!dq x
   ·simp only [cond_false,aq,fm,decide_true,cond_true,hb];exact su _ _ (λhm=>hn.1 ((xh ds r).subset hm))
   ·simp [aq,fm,hb]
  ·cases hb:bx ds k&&!dq x<;>simp [aq,fm,hk,ih]
theorem zE (r s:Fr)(t:Nat):aq (r++s) t=if t∈aN r then aq r t else aq s t:=by
 induction r with
 |nil=>simp [aN]
 |cons p r ih=>
  obtain ⟨k,x⟩:=p;simp only [List.cons_append,aq,fm,aN,IT,abT];by_cases h:k=t
  ·simp [h]
  ·have h': ¬t=k:=λe=>h e.symm;simp only [h,h',decide_false,cond_false,ih,false_or];rfl
end Dn
/-
  Laws of leaves and slots: offsets, and what changes elsewhere. Conditions: none.
-/
namespace Dn
open Go
section
variable {e e':Env}
theorem aM.width {vs:List Value}{l:aE}(h:aM e vs l):vs.length=l.w:=by
 cases l with
 |un=>obtain ⟨v,rfl,_⟩:=h;rfl
 |p m=>obtain ⟨v,rfl,_⟩:=h.2.one h.1;rfl
 |hs x=>cases h;simp [bq,x.h,aE.w]
 |nil=>cases h;rfl
 |mp s es=>exact h.elim
 |own f=>obtain ⟨v,rfl,_⟩:=h;rfl
theorem aM.cells {vs:List Value}{l:aE}(h:aM e vs l): ∀v∈vs,v.oneCell'=true:=by
 cases l with
 |un=>obtain ⟨v,rfl,hv⟩:=h;simpa using hv
 |p m=>exact h.2.cells
 |hs x=>cases h;intro v hv;obtain ⟨b,_,rfl⟩:=ada.1 hv;rfl
 |nil=>cases h;simp [No]
 |mp s es=>exact h.elim
 |own f=>obtain ⟨v,rfl,hv,_⟩:=h;simpa using hv
theorem av.width {cs:List aE}: ∀{vs:List Value},av e vs cs->vs.length=zu cs:=by
 induction cs with
 |nil=>intro vs h;cases h;rfl
 |cons l r ih=>intro vs h;obtain ⟨v,w,rfl,h1,h2⟩:=h;simp [zu,h1.width,ih h2]
theorem av.cells {cs:List aE}: ∀{vs:List Value},av e vs cs-> ∀v∈vs,v.oneCell'=true:=by
 induction cs with
 |nil=>intro vs h;cases h;simp
 |cons l r ih=>
  intro vs h v hv;obtain ⟨a,w,rfl,h1,h2⟩:=h;rcases ae3.1 hv with hv|hv
  ·exact h1.cells v hv
  ·exact ih h2 v hv
theorem av.append {cs ds:List aE}: ∀{vs ws:List Value},av e vs cs->av e ws ds->av e (vs++ws) (cs++ds):=by
 induction cs with
 |nil=>intro vs ws h h';cases h;simpa using h'
 |cons l r ih=>intro vs ws h h';obtain ⟨v,w,rfl,h1,h2⟩:=h;exact ⟨v,w++ws,by simp,h1,ih h2 h'⟩
theorem zF {cs:List aE}: ∀{off:Nat} {ds:List aE} {vs:List Value},cut cs off=some ds->av e vs cs-> ∃v1 v2,vs=v1++v2/\v1.length=off/\av e v2 ds:=by
 induction cs with
 |nil=>
  intro off ds vs h hr;cases off with
  |zero=>simp only [cut,AT] at h;subst h;exact ⟨[],vs,rfl,rfl,hr⟩
  |succ n=>simp [cut] at h
 |cons l r ih=>
  intro off ds vs h hr;cases off with
  |zero=>simp only [cut,AT] at h;subst h;exact ⟨[],vs,rfl,rfl,hr⟩
  |succ n=>
   simp only [cut] at h;cases hb:abP l.w (n+1) with
   |false=>simp [hb] at h
   |true=>simp only [hb,cond_true] at h;have hle:=ab0 hb;obtain ⟨v,w,rfl,h1,h2⟩:=hr;obtain ⟨v1,v2,rfl,hl,h3⟩:=ih h h2;exact ⟨v++v1,v2,by simp,by simp [h1.width,hl];omega,h3⟩
theorem U6 {cs:List aE}: ∀{n:Nat} {ds:List aE} {vs:List Value},OW cs n=some ds->av e vs cs-> ∃v1 v2,vs=v1++v2/\v1.length=n/\av e v1 ds:=by
 induction cs with
 |nil=>
  intro n ds vs h hr;cases n with
  |zero=>simp only [OW,AT] at h;subst h;exact ⟨[],vs,rfl,rfl,rfl⟩
  |succ n=>simp [OW] at h
 |cons l r ih=>
  intro n ds vs h hr;cases n with
  |zero=>simp only [OW,AT] at h;subst h;exact ⟨[],vs,rfl,rfl,rfl⟩
  |succ n=>
   simp only [OW] at h;cases hb:abP l.w (n+1) with
   |false=>simp [hb] at h
   |true=>
    simp only [hb,cond_true] at h;have hle:=ab0 hb;obtain ⟨v,w,rfl,h1,h2⟩:=hr;cases hu:OW r (n+1-l.w) with
    |none=>simp [hu] at h
    |some b=>simp only [hu,AT] at h;subst h;obtain ⟨v1,v2,rfl,hl,h3⟩:=ih hu h2;exact ⟨v++v1,v2,by simp,by simp [h1.width,hl];omega,v,v1,rfl,h1,h3⟩
theorem Lr {cs:List aE}{off n:Nat}{ds:List aE}{vs:List Value}(h:part cs off n=some ds)(hr:av e vs cs): ∃v1 v2 v3,vs=v1++v2++v3/\v1.length=off/\v2.length=n/\av e v2 ds:=by
 unfold part at h;cases hc:cut cs off with
 |none=>simp [hc] at h
 |some a=>simp only [hc] at h;obtain ⟨v1,v2,rfl,h1,h2⟩:=zF hc hr;obtain ⟨v3,v4,rfl,h3,h4⟩:=U6 h h2;exact ⟨v1,v3,v4,by simp,h1,h3,h4⟩
theorem Ls {ls:List aE}: ∀{cs ds:List aE} {vs ws:List Value},over ls cs=some ds->av e vs cs->av e ws ls-> ∃v1 v2,vs=v1++v2/\v1.length=ws.length/\av e (ws++v2) ds:=by
 induction ls with
 |nil=>intro cs ds vs ws h hr hw;simp only [over,AT] at h;subst h;cases hw;exact ⟨[],vs,rfl,rfl,hr⟩
 |cons l r ih=>
  intro cs ds vs ws h hr hw;cases cs with
  |nil=>simp [over] at h
  |cons c cs=>
   simp only [over] at h;cases hb:bN l.w c.w with
   |false=>simp [hb] at h
   |true=>
    simp only [hb,cond_true] at h;have hww:=sh hb;cases ho:over r cs with
    |none=>simp [ho] at h
    |some q=>simp only [ho,AT] at h;subst h;obtain ⟨v,w,rfl,h1,h2⟩:=hr;obtain ⟨a,b,rfl,h3,h4⟩:=hw;obtain ⟨v1,v2,rfl,hl,h5⟩:=ih ho h2 h4;exact ⟨v++v1,v2,by simp,by simp [h1.width,h3.width,hl,hww],a,b++v2,by simp,h3,h5⟩
theorem xi {cs:List aE}: ∀{off:Nat} {ls ds:List aE} {vs ws:List Value},putAt cs off ls=some ds->av e vs cs->av e ws ls-> ∃v1 v2 v3,vs=v1++v2++v3/\v1.length=off/\v2.length=ws.length/\av e (v1++ws++v3) ds:=by
 induction cs with
 |nil=>
  intro off ls ds vs ws h hr hw;cases off with
  |zero=>simp only [putAt] at h;obtain ⟨v1,v2,rfl,h1,h2⟩:=Ls h hr hw;exact ⟨[],v1,v2,by simp,rfl,h1,by simpa using h2⟩
  |succ n=>simp [putAt] at h
 |cons l r ih=>
  intro off ls ds vs ws h hr hw;cases off with
  |zero=>simp only [putAt] at h;obtain ⟨v1,v2,rfl,h1,h2⟩:=Ls h hr hw;exact ⟨[],v1,v2,by simp,rfl,h1,by simpa using h2⟩
  |succ n=>
   simp only [putAt] at h;cases hb:abP l.w (n+1) with
   |false=>simp [hb] at h
   |true=>
    simp only [hb,cond_true] at h;have hle:=ab0 hb;obtain ⟨v,w,rfl,h1,h2⟩:=hr;cases hu:putAt r (n+1-l.w) ls with
    |none=>simp [hu] at h
    |some b=>simp only [hu,AT] at h;subst h;obtain ⟨v1,v2,v3,rfl,hl,sv,h3⟩:=ih hu h2 hw;exact ⟨v++v1,v2,v3,by simp,by simp [h1.width,hl];omega,sv,v,v1++ws++v3,by simp,h1,h3⟩
structure ki (S T:Nat->Prop) (e e':Env):Prop where
 key:e'.key=e.key
 φ:gZ e.φ e'.φ
 B: ∀r,T r->e'.B r=e.B r
 iK: ∀f o',aI e'.m f=some o'->S f-> ∃o,aI e.m f=some o/\e'.E f=e.E f/\o'.xs=o.xs
def jB (S:Nat->Prop)(l:aE):Prop:= ∀f,l= .own f->S f
def fF (S T:Nat->Prop):Slot->Prop
 | .ptr r _=>T r
 | .zq r=>T r
 | .hp r _ _=>T r
 | .sc l=>jB S l
 | .ag cs=> ∀l∈cs,jB S l
 | .tg cs=> ∀l∈cs,jB S l
 | .ep g _ _ _ _=>S g
 |_=>True
theorem aM.on {S T:Nat->Prop}(h:ki S T e e'){vs:List Value}{l:aE}(hl:jB S l)(hr:aM e vs l):aM e' vs l:=by
 cases l with
 |un=>exact hr
 |p m=>exact ⟨hr.1,by have:=hr.2.mono h.φ;rw [<-h.key] at this;exact this⟩
 |hs x=>exact hr
 |nil=>exact hr
 |mp s es=>exact hr
 |own f=>obtain ⟨v,rfl,hv,hf⟩:=hr;refine ⟨v,rfl,hv,λo' B1=> ?_⟩;obtain ⟨o,ho,hE,_⟩:=h.iK f o' B1 (hl f rfl);rw [hE];exact hf o ho
theorem av.on {S T:Nat->Prop}(h:ki S T e e'){cs:List aE}: ∀{vs:List Value},(∀l∈cs,jB S l)->av e vs cs->av e' vs cs:=by
 induction cs with
 |nil=>intro vs _ hr;exact hr
 |cons l r ih=>intro vs hl hr;obtain ⟨v,w,rfl,h1,h2⟩:=hr;exact ⟨v,w,rfl,h1.on h (hl l (by simp)),ih (λx hx=>hl x (by simp [hx])) h2⟩
theorem Hg {S:Nat->Prop}{l:aE}(h:sM l=true):jB S l:=by intro f hf;subst hf;simp [sM] at h
theorem xj {S:Nat->Prop}{cs:List aE}(h:iz cs=true): ∀l∈cs,jB S l:=by
 induction cs with
 |nil=>simp
 |cons l r ih=>
  simp only [iz,abM] at h;intro x hx;rcases abT.1 hx with rfl|hx
  ·exact Hg h.1
  ·exact ih h.2 x hx
mutual
theorem ab.on {S T:Nat->Prop}(h:ki S T e e'){v:Value}: ∀{s:Slot},fF S T s->ab e v s->ab e' v s
 | .skip,_,hr=>by simpa [ab] using hr
 | .sc l,hs,hr=>by
  cases l with
  |un=>simp [ab]
  |hs x=>simpa [ab] using hr
  |p m=>simp only [ab] at hr⊢;exact hr.on h hs
  |nil=>simp only [ab] at hr⊢;exact hr.on h hs
  |mp s es=>simp only [ab] at hr⊢;exact hr
  |own f=>simp only [ab] at hr⊢;exact hr.on h hs
 | .ag cs,hs,hr=>by simp only [ab] at hr⊢;obtain ⟨arr,h1,h2⟩:=hr;exact ⟨arr,h1,h2.on h hs⟩
 | .tg cs,hs,hr=>by simp only [ab] at hr⊢;obtain ⟨arr,h1,h2⟩:=hr;exact ⟨arr,h1,h2.on h hs⟩
 | .b8 vs,_,hr=>by simp only [ab] at hr⊢;obtain ⟨arr,h1,h2⟩:=hr;exact ⟨arr,h1,kN.on h h2⟩
 | .box _,_,hr=>by simp [ab] at hr
 | .zp cs,_,hr=>by simp only [ab] at hr⊢;obtain ⟨a8,o,vs,h1,h2,h3,h4⟩:=hr;exact ⟨a8,o,vs,h1,h2.on h (xj h3),h3,λj hj=>Nb h.φ hj (h4 j hj)⟩
 | .ptr r o,hs,hr=>by simp only [ab] at hr⊢;rw [h.B r hs];exact hr
 | .zq r,hs,hr=>by simp only [ab] at hr⊢;rw [h.B r hs];exact hr
 | .rp cs off,_,hr=>by simp only [ab] at hr⊢;obtain ⟨a8,o,vs,h1,h2,h3,h4⟩:=hr;exact ⟨a8,o,vs,h1,h2.on h (xj h3),h3,λj hj=>Nb h.φ hj (h4 j hj)⟩
 | .hp r o i,hs,hr=>by simp only [ab] at hr⊢;rw [h.B r hs];exact hr
 | .ep f i off st cs,hs,hr=>by simp only [ab] at hr⊢;intro o' B1;obtain ⟨o,ho,hE,hx⟩:=h.iK f o' B1 hs;obtain ⟨a8,cap,h1,h2,h3⟩:=hr o ho;exact ⟨a8,cap,by rw [hE,hx];exact h1,by rw [hx];exact h2,h3⟩
theorem kN.on {S T:Nat->Prop}(h:ki S T e e'): ∀{vs:List Value} {ss:List Slot},kN e vs ss->kN e' vs ss
 |vs,[],hr=>hr
 |vs,s::ss,hr=>by
  simp only [kN] at hr⊢;obtain ⟨v,r,h1,h2,h3,h4⟩:=hr;refine ⟨v,r,h1,ab.on h ?_ h2,h3,kN.on h h4⟩;cases s<;>simp [Bx] at h3<;>simp only [fF]
  ·exact Hg h3
  ·exact xj h3
end
end
end Dn
/-
  The relation between an abstract state and a running frame; operations that change no memory. Conditions: none.
-/
namespace Dn
open Go
section
variable {e e':Env}
theorem aM.kill {vs:List Value}{l:aE}(f:Nat)(h:aM e vs l):aM e vs (Nc f l):=by
 cases l with
 |own g=>
  simp only [Nc];cases bN g f
  ·exact h
  ·obtain ⟨v,rfl,hv,_⟩:=h;exact ⟨v,rfl,hv⟩
 |_=>exact h
theorem Ec (f:Nat)(l:aE):jB (· ≠f) (Nc f l):=by intro g hg;cases l<;>simp [Nc] at hg;rename_i g';cases hb:bN g' f<;>simp [hb] at hg;subst hg;intro e;subst e;simp [fm] at hb
theorem aM.O4 {vs:List Value}{l:aE}(f:List Nat)(h:aM e vs l):aM e vs (Q2 f l):=by
 cases l with
 |own g=>
  simp only [Q2];cases bx f g
  ·obtain ⟨v,rfl,hv,_⟩:=h;exact ⟨v,rfl,hv⟩
  ·exact h
 |_=>exact h
theorem Nd (f:List Nat)(l:aE):jB (· ∈f) (Q2 f l):=by intro g hg;cases l<;>simp [Q2] at hg;rename_i g';cases hb:bx f g'<;>simp [hb] at hg;subst hg;exact (bu _ _).1 hb
theorem av.map {g:aE->aE}(hg: ∀vs l,aM e vs l->aM e vs (g l)){cs:List aE}: ∀{vs:List Value},av e vs cs->av e vs (cs.map g):=by
 induction cs with
 |nil=>intro vs h;exact h
 |cons l r ih=>intro vs h;obtain ⟨v,w,rfl,h1,h2⟩:=h;exact ⟨v,w,rfl,hg _ _ h1,ih h2⟩
theorem ab.af9 {v:Value}{l:aE}(hl: ∀x,l≠ .hs x)(hu:l≠ .un):ab e v (.sc l)↔aM e [v] l:=by cases l<;>simp_all [ab]
theorem ab.kill {v:Value}{s:Slot}(f:Nat)(h:ab e v s):ab e v (AJ f s):=by
 cases s with
 |sc l=>
  cases l with
  |own g=>
   simp only [AJ,Nc];cases bN g f
   ·exact h
   ·simp [ab]
  |_=>exact h
 |ag cs=>simp only [AJ,ab] at h⊢;obtain ⟨arr,h1,h2⟩:=h;exact ⟨arr,h1,h2.map (λ_ _=>aM.kill f)⟩
 |tg cs=>simp only [AJ,ab] at h⊢;obtain ⟨arr,h1,h2⟩:=h;exact ⟨arr,h1,h2.map (λ_ _=>aM.kill f)⟩
 |box cs=>simp [ab] at h
 |ep g i o b cs=>
  simp only [AJ];cases bN g f
  ·exact h
  ·simp [ab]
 |_=>exact h
theorem Yc (f:Nat)(T:Nat->Prop)(s:Slot)(hT:fF (λ_=>True) T s):fF (· ≠f) T (AJ f s):=by
 cases s with
 |sc l=>exact Ec f l
 |ag cs=>intro l hl;obtain ⟨x,_,rfl⟩:=ada.1 hl;exact Ec f x
 |tg cs=>intro l hl;obtain ⟨x,_,rfl⟩:=ada.1 hl;exact Ec f x
 |ep g i o b cs=>
  simp only [AJ];cases hb:bN g f
  ·simp only [cond_false,fF];intro e;subst e;simp [fm] at hb
  ·simp [fF,jB]
 |ptr r o=>exact hT
 |hp r o i=>exact hT
 |_=>trivial
theorem ab.O4 {v:Value}{s:Slot}(f:List Nat)(h:ab e v s):ab e v (GJ f s):=by
 cases s with
 |sc l=>
  cases l with
  |own g=>
   simp only [GJ,Q2];cases bx f g
   ·simp [ab]
   ·exact h
  |_=>exact h
 |ag cs=>simp only [GJ,ab] at h⊢;obtain ⟨arr,h1,h2⟩:=h;exact ⟨arr,h1,h2.map (λ_ _=>aM.O4 f)⟩
 |tg cs=>simp only [GJ,ab] at h⊢;obtain ⟨arr,h1,h2⟩:=h;exact ⟨arr,h1,h2.map (λ_ _=>aM.O4 f)⟩
 |box cs=>simp [ab] at h
 |_=>exact h
end
def aX (key:Nat->Nat) (φ:Ph)(size:Nat):List Value->List MV->Prop
 |vs,[]=>vs=[]
 |vs,x::xs=> ∃v r,vs=v++r/\v.length=size/\gY key φ v x/\aX key φ size r xs
structure bC where
 In:Nat->Prop
 cA:List Nat
 cy:List Nat
 T:Nat->Value
 cov:Prop
 Pr:Nat->Prop
instance:CoeFun bC (λ_=>Nat->Prop):=⟨bC.In⟩
instance:Coe bC (Nat->Prop):=⟨bC.In⟩
theorem OJ {a b c:Prop}(h:(a/\b)\/c)(hn: ¬a):c:=h.resolve_left λh=>hn h.1
def bC.nc (Z:bC):bC:={Z with cov:=False}
def bC.plain (I:Nat->Prop):bC:=⟨I,[],[],λ_=>undef,False,λ_=>True⟩
def bC.bz (Z:bC)(t:Nat):bC:={Z with In:=λb=>(t∈Z.cA/\Z.Pr b)\/Z.In b}
def bC.fz (Z:bC)(f:Nat):bC:={Z with In:=λb=>(f∈Z.cy/\Z.Pr b)\/Z.In b,cov:=f∈Z.cy}
def Ed:Kd->MV->Bool
 | .b,.b _=>true
 | .i k,.i k' _=>decide (k'=k)
 | .s,.s _=>true
 | .h,.h _=>true
 |_,_=>false
def dt:List Kd->List MV->Bool
 |[],[]=>true
 |k::ks,m::ms=>Ed k m&&dt ks ms
 |_,_=>false
def DX:MV->List Value
 | .b x=>[.bool x]
 | .i k n=>[.int k n]
 | .s l=>[.string ⟨l.toArray⟩]
 | .h x=>bq x
 |_=>[]
def fS (st:Bool)(ks:List MV):Value:=match st,ks with
 |false,[.h x]=> .agg (bq x).toArray
 |false,[.b x]=> .bool x
 |false,[.i k n]=> .int k n
 |false,[.s l]=> .string ⟨l.toArray⟩
 |_,ks=> .agg (ks.flatMap DX).toArray
def Bg (b:Bool)(m:MV):Value:=match b,m with
 |true,.b x=> .bool x
 |false,.i .i64 n=> .int .i64 n
 |_,_=>undef
def Rv (b:Bool)(m:MV):Bool:=match b,m with
 |true,.b x=>true
 |false,.i .i64 n=>true
 |_,_=>false
def ae2 (s:MS)(x:MapEntry)(m:MV)(i:Nat):Prop:=x.born=i/\ ∃ks v,m= .b8 [.agg ks,v]/\dt s.lay ks=true/\x.key=fS s.st ks/\Rv s.b v=true/\x.val=Bg s.b v
structure sO (s:MS) (es:Array MapEntry) (clock:Nat) (ms:List MV):Prop where
 size:es.size=ms.length
 clock:clock=ms.length
 ent: ∀(i:Nat) x m,es[i]? =some x->ms[i]? =some m->ae2 s x m i
def kr (e:Env)(o:Obj)(cs:List aE):Prop:=match o with
 | .cells arr _ z=>z=(0,0)/\av e arr.toList cs
 | .map es clock=> ∃s ms,cs=[.mp s ms]/\F8 s=false/\sO s es clock ms
 | .stringIter x pos=>cs=[.mp MS.it [.s x.data.toList,.i .i64 pos]]
 |_=>False
def Nf (cs:List aE)(b:Nat):Value:=bif lO cs then .map (some b) else .pointer (some ⟨b,0,none⟩)
structure uI (Z:bC) (e:Env) (w:World) (a8:Nat) (cs:List aE):Prop where
 ch:Z.In a8
 obj: ∃o,w.heap[a8]? =some o/\kr e o cs
 free: ∀off,e.φ a8 off=none
theorem kr.on {S T:Nat->Prop} {e e':Env}(h:ki S T e e'){o:Obj}{cs:List aE}(hl: ∀l∈cs,jB S l)(hr:kr e o cs):kr e' o cs:=by
 cases o with
 |cells arr T z=>exact ⟨hr.1,hr.2.on h hl⟩
 |map es clock=>exact hr
 |stringIter x pos=>exact hr
 |_=>exact hr.elim
theorem Ng {cs:List aE}(h:eT cs=true): ∃s ms,cs=[.mp s ms]:=by
 unfold eT at h;split at h
 ·exact ⟨_,_,rfl⟩
 ·cases h
theorem kr.cells {e:Env}{o:Obj}{cs:List aE}(hr:kr e o cs)(hm:eT cs=false): ∃arr T,o= .cells arr T (0,0)/\av e arr.toList cs:=by
 cases o with
 |cells arr T z=>obtain ⟨rfl,h⟩:=hr;exact ⟨arr,T,rfl,h⟩
 |map es clock=>obtain ⟨s,ms,rfl,_⟩:=hr;simp [eT] at hm
 |stringIter x pos=>rw [show cs=_ from hr] at hm;simp [eT] at hm
 |_=>exact hr.elim
theorem xk {cs:List aE}(h:eT cs=false):lO cs=false:=by
 unfold lO;split
 ·simp [eT] at h
 ·rfl
theorem O5 (g:aE->aE)(h1: ∀s es,g (.mp s es)= .mp s es)(h2: ∀l,(∀s es,l≠ .mp s es)-> ∀s es,g l≠ .mp s es)(cs:List aE):lO (cs.map g)=lO cs:=by
 cases cs with
 |nil=>rfl
 |cons l r=>
  cases r with
  |nil=>
   by_cases hl: ∃s es,l= .mp s es
   ·obtain ⟨s,es,rfl⟩:=hl;simp [h1,lO]
   ·have Fe: ∀s es,l≠ .mp s es:=λs es e=>hl ⟨s,es,e⟩;have hg:=h2 l Fe;simp only [IT,agr];have a:lO [l]=false:=by cases l<;>simp_all [lO]
    have b:lO [g l]=false:=by cases hq:g l<;>simp_all [lO]
    rw [a,b]
  |cons x y=>cases hl:l<;>simp [lO]
theorem uI.cells {Z:bC}{e:Env}{w:World}{a8:Nat}{cs:List aE}(h:uI Z e w a8 cs)(hm:eT cs=false): ∃arr T,w.heap[a8]? =some (.cells arr T (0,0))/\av e arr.toList cs:=by obtain ⟨o,h1,h2⟩:=h.obj;obtain ⟨arr,T,rfl,h3⟩:=h2.cells hm;exact ⟨arr,T,h1,h3⟩
theorem Rw {cs:List aE}(hm:lO cs=false)(b:Nat):Nf cs b= .pointer (some ⟨b,0,none⟩):=by simp [Nf,hm]
theorem sP {cs:List aE}(hm:eT cs=false)(b:Nat):Nf cs b= .pointer (some ⟨b,0,none⟩):=Rw (xk hm) b
theorem Yd {cs:List aE}(hm:lO cs=true)(b:Nat):Nf cs b= .map (some b):=by simp [Nf,hm]
theorem kr.map {e:Env}{g:aE->aE}(hg: ∀vs l,aM e vs l->aM e vs (g l))(hm: ∀s es,g (.mp s es)= .mp s es){o:Obj}{cs:List aE}(hr:kr e o cs):kr e o (cs.map g):=by
 cases o with
 |cells arr T z=>exact ⟨hr.1,hr.2.map hg⟩
 |map es clock=>obtain ⟨s,ms,rfl,h2⟩:=hr;exact ⟨s,ms,by simp [hm],h2⟩
 |stringIter x pos=>rw [show cs=_ from hr];show age g _=_;simp [hm]
 |_=>exact hr.elim
theorem Rx (f:Nat)(cs:List aE):lO (cs.map (Nc f))=lO cs:=O5 _ (λ_ _=>rfl) (λl hl s es=>by cases l<;>simp_all [Nc];rename_i g;cases bN g f<;>simp) cs
theorem aga (f:List Nat)(cs:List aE):lO (cs.map (Q2 f))=lO cs:=O5 _ (λ_ _=>rfl) (λl hl s es=>by cases l<;>simp_all [Q2];rename_i g;cases bx f g<;>simp) cs
structure cu (c:Ctx) (Z:bC) (e:Env) (w:World) (v:Value) (o:oM):Prop where
 row: ∃I cells,c.ti o.ty=some I/\I.ct=[]/\w.ownsRow 0 o.ty I.size v o.xs.length cells/\aX e.key e.φ I.size cells o.xs/\ ∀a8,v.ownBlock=some a8->Z.In a8/\(∀off u,e.φ a8 off=some u->o.ei=true/\off<o.xs.length *I.size)/\(Z.cov->o.ei=true-> ∀j,j<cells.length->e.φ a8 j=cells[j]?)
def tied (Z:bC)(t:Nat)(v:Value)(cs:List aE)(b:Nat):Prop:=(zt t=false->v=Nf cs b)/\(zt t=true->posOf t∈Z.cA/\Z.T (posOf t)= .pointer (some ⟨b,OU t,none⟩))
theorem tied.lO {Z:bC}{t:Nat}{v:Value}{cs fU:List aE}{b:Nat}(h:tied Z t v cs b)(hm:lO fU=lO cs):tied Z t v fU b:=⟨λhp=>by rw [h.1 hp];simp [Nf,hm],h.2⟩
theorem tied.own {Z:bC}{t:Nat}{v:Value}{cs:List aE}{b:Nat}(hp:zt t=false)(h:v=Nf cs b):tied Z t v cs b:=⟨λ_=>h,λhq=>by rw [hp] at hq;cases hq⟩
def bW (Z:bC)(e:Env)(w:World)(t:Nat)(v:Value):Slot->Prop
 | .box cs=>tied Z t v cs (e.B t)/\uI (Z.bz t) e w (e.B t) cs
 |s=>ab e v s
def cC (fr:Fr):Slot->Prop
 | .ptr r _=>cV (aq fr r)=true
 | .hp r _ _=>cV (aq fr r)=true
 | .zq r=>cV (aq fr r)=true
 |_=>True
structure bS (c:Ctx) (Z:bC) (e:Env) (st:St) (a:Act) (w:World):Prop where
 defers:a.defers=[]/\st.cA=Z.cA/\st.cy=Z.cy/\ ∀t∈Z.cA,a.tmps.getD t undef=Z.T t
 size:a.tmps.size=c.n
 m:e.m=st.aP
 key:e.key=c.key
 nodup:(aN st.fr).Nodup
 slot: ∀t,bW Z e w t (a.tmps.getD t undef) (aq st.fr t)
 root: ∀t,cC st.fr (aq st.fr t)
 iK: ∀f o,aI st.aP f=some o->cu c (Z.fz f) e w (e.E f) o
 bb: ∀t t' cs fU,aq st.fr t= .box cs->aq st.fr t'= .box fU->t≠t'->e.B t≠e.B t'
 bf: ∀t cs f o,aq st.fr t= .box cs->aI st.aP f=some o->(e.E f).ownBlock≠some (e.B t)
 ff: ∀f f' o o' k,aI st.aP f=some o->aI st.aP f'=some o'->(e.E f).ownBlock=some k->(e.E f').ownBlock=some k->f=f'
 kZ: ∀b o v,e.φ b o=some v->w.cell? ⟨b,o,none⟩=some v
 ch: ∀b,w.heap.size<=b->Z.In b
def Rest (w w':World):Prop:=w'.os=w.os/\w'.tape=w.tape/\w'.output=w.output
theorem Rest.refl (w:World):Rest w w:=⟨rfl,rfl,rfl⟩
theorem Rest.trans {w w' AK:World}(h:Rest w w') (h':Rest w' AK):Rest w AK:=⟨h'.1.trans h.1,h'.2.1.trans h.2.1,h'.2.2.trans h.2.2⟩
theorem Rest.alloc (w:World)(cs:Array Value)(t:TypeId):Rest w (w.alloc (.cells cs t)):=⟨rfl,rfl,rfl⟩
theorem Rest.setRow (w:World)(g:Nat)(cs:Array Value):Rest w (w.setRow g cs):=⟨rfl,rfl,rfl⟩
structure db (w w':World):Prop where
 size:w.heap.size<=w'.heap.size
 rK: ∀b,b<w.heap.size->w'.heap[b]? =w.heap[b]?
 rest:Rest w w'
theorem aZ {w:World}{b:Nat}{x:Obj}(h:w.heap[b]? =some x):b<w.heap.size:=(Array.getElem?_eq_some_iff.1 h).1
theorem db.cell {w w':World}(g:db w w'){ad:Addr}{v:Value}(h:w.cell? ad=some v):w'.cell? ad=some v:=by have hl:=abR w ad h;rw [abV (g.rK ad.block hl)];exact h
structure Trans (Z:Nat->Prop) (φ:Ph) (w:World) (φ':Ph) (w':World):Prop where
 ph:gZ φ φ'
 heap: ∀b,¬Z b->b<w.heap.size->w'.heap[b]? =w.heap[b]?
 free: ∀b o,¬Z b->φ' b o=φ b o
 size:w.heap.size<=w'.heap.size
 rest:Rest w w'
theorem Trans.refl (Z:Nat->Prop) (φ:Ph)(w:World):Trans Z φ w φ w:=⟨.refl φ,λ_ _ _=>rfl,λ_ _ _=>rfl,aa6 _,.refl _⟩
theorem Trans.trans {Z:Nat->Prop} {φ φ' φ'':Ph} {w w' AK:World}(h:Trans Z φ w φ' w') (h':Trans Z φ' w' φ'' AK):Trans Z φ w φ'' AK:=⟨h.ph.trans h'.ph,λb hb hl=>(h'.heap b hb (afm hl h.size)).trans (h.heap b hb hl),λb o hb=>(h'.free b o hb).trans (h.free b o hb),adX h.size h'.size,h.rest.trans h'.rest⟩
def rk (Z:bC)(e:Env)(w:World)(st:St)(v:Value):Slot->Prop
 | .box cs=> ∃a8,v=Nf cs a8/\uI Z e w a8 cs/\(∀t fU,aq st.fr t= .box fU->e.B t≠a8)/\(∀f o,aI st.aP f=some o->(e.E f).ownBlock≠some a8)
 |s=>ab e v s/\cC st.fr s
section
variable {c:Ctx}{Z:bC}{e:Env}{st:St}{a:Act}{w:World}
theorem ab.const {v:Value}:ab e v (AF v):=by
 unfold AF;split<;>simp only [ab,aM,MV.one]<;> first
   |exact ⟨trivial,.b _⟩
   |exact ⟨trivial,.i _ _⟩
   |exact ⟨trivial,.s _⟩
   |exact ⟨trivial,.raw _ rfl⟩
theorem bS.eval (h:bS c Z e st a w)(x:Operand):ab e (a.eval x) (aH c st x)/\cC st.fr (aH c st x):=by
 cases x with
 |tmp t=>
  have hs:=h.slot t;have hr:=h.root t;simp only [Act.eval,aH];cases Q3:plk c.par t with
  |some q=>
   simp only;cases hq:zt q&&bN (posOf q) t with
   |false=>exact ⟨by simp [ab],trivial⟩
   |true=>
    simp only [cond_true];simp only [abM] at hq;have hqt:=sh hq.2;have hsq:=h.slot q;split
    ·rename_i cs hfq;rw [hfq] at hsq;cases hm:eT cs with
     |true=>exact ⟨by simp [ab],trivial⟩
     |false=>obtain ⟨k1,k2⟩:=hsq.1.2 hq.1;refine ⟨?_,by simp [cC,hfq,cV]⟩;show a.tmps.getD t undef=_;rw [<-hqt,h.defers.2.2.2 _ k1,k2]
    ·exact ⟨by simp [ab],trivial⟩
  |none=>
  simp only;generalize hf:aq st.fr t=s at hs hr;cases s<;>simp only [bW] at hs<;>try exact ⟨hs,hr⟩
  ·rename_i cs;cases hpt:zt t with
   |true=>simp only [cond_true];exact ⟨by simp [ab],trivial⟩
   |false=>
   simp only [cond_false];cases hm:lO cs with
   |true=>simp only [hm,cond_true,ab,cC,hf,cV];exact ⟨by rw [hs.1.1 hpt,Yd hm],trivial⟩
   |false=>simp only [hm,cond_false,ab,cC,hf,cV];exact ⟨by rw [hs.1.1 hpt,Rw hm],trivial⟩
 |const v=>refine ⟨ab.const,?_⟩;simp only [aH];unfold AF;split<;>trivial
 |func f=>simp only [Act.eval,aH,ab,aM,MV.one,cC,and_true,true_and];exact .func f _ #[] [] (by rw [h.key]) (by simpa using ga.nil) (by simp)
 |global g=>simp [aH,ab,cC]
end
theorem Act.zG {a:Act}{d t:Nat}{v:Value}(hd:d<a.tmps.size):(a.put (some d) v).tmps.getD t undef=if t=d then v else a.tmps.getD t undef:=by
 simp only [Act.put,Array.getD_eq_getD_getElem?,Array.getElem?_setIfInBounds];by_cases h:d=t
 ·subst h;simp [hd]
 ·have h': ¬t=d:=λe=>h e.symm;simp [h,h']
theorem Ye {fr:Fr}{s:Slot}(h:cC fr s):fF (λ_=>True) (λr=>cV (aq fr r)=true) s:=by cases s<;>simp_all [cC,fF,jB]
theorem Nh (r:Fr)(d:Nat)(s:Slot):aN (cj r d s)=if d∈aN r then aN r else aN r++[d]:=by
 induction r with
 |nil=>simp [cj,aN]
 |cons p r ih=>
  obtain ⟨k,x⟩:=p;simp only [cj,fm];by_cases h:k=d
  ·simp [h,aN]
  ·have h': ¬d=k:=λe=>h e.symm;have ih':age Prod.fst (cj r d s)=if d∈aN r then aN r else aN r++[d]:=ih
   simp only [h,h',decide_false,cond_false,aN,IT,abT,false_or,ih'];by_cases hm:d∈aN r
   ·have hm':d∈age Prod.fst r:=hm;simp [hm,hm',aN]
   ·have hm':d∉age Prod.fst r:=hm;simp [hm,hm',aN]
theorem ej {r:Fr}{d:Nat}{s:Slot}(h:(aN r).Nodup):(aN (cj r d s)).Nodup:=by
 rw [Nh];by_cases hm:d∈aN r
 ·simpa [hm] using h
 ·simp only [hm,if_false];exact List.nodup_append.2 ⟨h,by simp,by intro x hx y hy;simp at hy;subst hy;intro e;subst e;exact hm hx⟩
section
variable {c:Ctx}{Z:bC}{e:Env}{st:St}{a:Act}{w:World}{R:Type}{K:St->Option R}{r:R}
def Env.Bh (e:Env)(d a8:Nat):Env:={e with B:=λt=>if t=d then a8 else e.B t}
theorem uI.env {e e':Env}{a8:Nat}{cs:List aE}(h:uI Z e w a8 cs)(hk:e'.key=e.key)(hp:e'.φ=e.φ)(hE:e'.E=e.E)(hm:e'.m=e.m):uI Z e' w a8 cs:=by refine ⟨h.ch,?_,λoff=>by rw [hp];exact h.free off⟩;obtain ⟨o,h1,h2⟩:=h.obj;refine ⟨o,h1,h2.on (S:=λ_=>True) (T:=λ_=>False) ⟨hk,by rw [hp];exact .refl _,by simp,?_⟩ (by intro l _ f _;trivial)⟩;intro f o ho _;exact ⟨o,by rw [<-hm];exact ho,by rw [hE],rfl⟩
theorem cu.env {e e':Env}{v:Value}{o:oM}(h:cu c Z e w v o)(hk:e'.key=e.key)(hp:e'.φ=e.φ):cu c Z e' w v o:=by obtain ⟨I,cells,h1,h2,h3,h4,h5⟩:=h.row;exact ⟨I,cells,h1,h2,h3,by rw [hk,hp];exact h4,by rw [hp];exact h5⟩
theorem uI.to {a8:Nat}{cs:List aE}(h:uI Z e w a8 cs)(t:Nat):uI (Z.bz t) e w a8 cs:=⟨.inr h.ch,h.obj,h.free⟩
theorem cu.to {v:Value}{o:oM}{f:Nat}(h:cu c Z.nc e w v o)(hf:f∉Z.cy):cu c (Z.fz f) e w v o:=by obtain ⟨I,cells,h1,h2,h3,h4,h5⟩:=h.row;exact ⟨I,cells,h1,h2,h3,h4,λa8 hb=>⟨.inr (h5 a8 hb).1,(h5 a8 hb).2.1,λhc=>absurd hc hf⟩⟩
theorem cW {d:Option Nat}{s:Slot}{v:Value}(h:bS c Z e st a w)(hv:rk Z e w st v s)(hK:bn c st d s K=some r): ∃e' bY,bS c Z e' bY (a.put d v) w/\K bY=some r/\e'.φ=e.φ:=by
 cases d with
 |none=>exact ⟨e,st,h,hK,rfl⟩
 |some d=>
  simp only [bn] at hK;cases DY:zt d||(abP c.n d||cV (aq st.fr d)) with
  |true=>simp [DY] at hK
  |false=>
   obtain ⟨anr,hb⟩:=abW.1 DY;simp only [DY,cond_false,wr] at hK;cases hp:bx st.cA d with
   |true=>simp [hp] at hK
   |false=>
    simp only [hp,cond_false,force_eq,mB] at hK;simp only [abW] at hb;have hdn:d<a.tmps.size:=by
     rw [h.size];have:=hb.1;by_cases cI:d<c.n
     ·exact cI
     ·have:abP c.n d=true:=ae7 (by omega);simp_all
    have hdp:d∉Z.cA:=by intro hm;rw [<-h.defers.2.1,<-bu,hp] at hm;cases hm
    have ai2: ∀fr:Fr,(a.put (some d) v).defers=[]/\({st with fr:=fr}:St).cA=Z.cA/\({st with fr:=fr}:St).cy=Z.cy/\ ∀t∈Z.cA,(a.put (some d) v).tmps.getD t undef=Z.T t:=by intro fr;refine ⟨h.defers.1,h.defers.2.1,h.defers.2.2.1,λt ht=> ?_⟩;rw [Act.zG hdn,if_neg (by intro e;subst e;exact hdp ht)];exact h.defers.2.2.2 t ht
    have lr: ∀t,fF (λ_=>True) (λr=>r≠d) (aq st.fr t):=by intro t;have:=Ye (h.root t);generalize aq st.fr t=x at this;cases x<;>simp_all [fF,jB]<;>(intro e;subst e;simp_all)
    by_cases hs: ∃cs,s= .box cs
    ·obtain ⟨cs,rfl⟩:=hs;obtain ⟨a8,rfl,vt,hnb,hnf⟩:=hv;have rS:ki (λ_=>True) (λr=>r≠d) e (e.Bh d a8):=⟨rfl,.refl _,λr hr=>by simp [Env.Bh,hr],λf o ho _=>⟨o,ho,rfl,rfl⟩⟩
     refine ⟨e.Bh d a8,_,?_,hK,rfl⟩;refine ⟨ai2 _,by simpa [Act.put] using h.size,h.m,h.key,ej h.nodup,?_,?_,?_,?_,?_,?_,h.kZ,h.ch⟩
     ·intro t;rw [Act.zG hdn,bL];by_cases ht:t=d
      ·subst ht;simp only [if_true,bW,Env.Bh];exact ⟨.own anr rfl,(vt.to t).env rfl rfl rfl rfl⟩
      ·simp only [ht,if_false];have nn:=h.slot t;have pN:=lr t;generalize aq st.fr t=x at nn pN;cases x<;>simp only [bW] at nn⊢ <;>try exact nn.on rS pN
       simp only [Env.Bh,ht,if_false];exact ⟨nn.1,nn.2.env rfl rfl rfl rfl⟩
     ·intro t;simp only [bL];by_cases ht:t=d
      ·simp [ht,cC]
      ·simp only [ht,if_false];have pN:=h.root t;have O6:=lr t;generalize aq st.fr t=x at pN O6;cases x<;>simp_all [cC,bL,fF]
     ·intro f o ho;exact (h.iK f o ho).env rfl rfl
     ·intro t t' ja yT h1 h2 cR;simp only [bL] at h1 h2;simp only [Env.Bh];by_cases ht:t=d
      ·by_cases B2:t'=d
       ·exact absurd (ht.trans B2.symm) cR
       ·simp only [B2,if_false] at h2;simp only [ht,B2,if_true,if_false];exact λe=>hnb t' yT h2 e.symm
      ·simp only [ht,if_false] at h1;by_cases B2:t'=d
       ·simp only [ht,B2,if_true,if_false];exact hnb t ja h1
       ·simp only [B2,if_false] at h2;simp only [ht,B2,if_false];exact h.bb t t' ja yT h1 h2 cR
     ·intro t ja f o h1 h2;simp only [bL] at h1;simp only [Env.Bh];by_cases ht:t=d
      ·simp only [ht,if_true];exact hnf f o h2
      ·simp only [ht,if_false] at h1⊢;exact h.bf t ja f o h1 h2
     ·exact h.ff
    ·have Ry:ab e v s/\cC st.fr s:=by cases s<;>simp_all [rk]
     refine ⟨e,_,?_,hK,rfl⟩;refine ⟨ai2 _,by simpa [Act.put] using h.size,h.m,h.key,ej h.nodup,?_,?_,h.iK,?_,?_,h.ff,h.kZ,h.ch⟩
     ·intro t;rw [Act.zG hdn,bL];by_cases ht:t=d
      ·simp only [ht,if_true];cases s<;>simp only [bW]<;>first|exact Ry.1|exact absurd ⟨_,rfl⟩ hs
      ·simp only [ht,if_false];exact h.slot t
     ·intro t;simp only [bL];by_cases ht:t=d
      ·simp only [ht,if_true];have hr:=Ry.2;cases s<;>simp only [cC,bL] at hr⊢
       ·rename_i r o;by_cases KA:r=d
        ·subst KA;simp_all
        ·simp only [KA,if_false];exact hr
       ·rename_i r;by_cases KA:r=d
        ·subst KA;simp_all
        ·simp only [KA,if_false];exact hr
       ·rename_i r o i;by_cases KA:r=d
        ·subst KA;simp_all
        ·simp only [KA,if_false];exact hr
      ·simp only [ht,if_false];have pN:=h.root t;have O6:=lr t;generalize aq st.fr t=x at pN O6;cases x<;>simp_all [cC,bL,fF]
     ·intro t t' ja yT h1 h2 cR;simp only [bL] at h1 h2;by_cases ht:t=d
      ·simp only [ht,if_true] at h1;exact absurd ⟨_,h1⟩ hs
      ·by_cases B2:t'=d
       ·simp only [B2,if_true] at h2;exact absurd ⟨_,h2⟩ hs
       ·simp only [ht,B2,if_false] at h1 h2;exact h.bb t t' ja yT h1 h2 cR
     ·intro t ja f o h1 h2;simp only [bL] at h1;by_cases ht:t=d
      ·simp only [ht,if_true] at h1;exact absurd ⟨_,h1⟩ hs
      ·simp only [ht,if_false] at h1;exact h.bf t ja f o h1 h2
end
end Dn
/-
  Operations that change no memory: moves, numbers, texts, places. Conditions: none.
-/
namespace Dn
open Go
def Out (c:Ctx)(Z:bC){R:Type}(K:St->Option R)(r:R) (φ:Ph)(w:World) (a':Act) (w':World):Prop:=∃e' bY,bS c Z e' bY a' w'/\Trans Z φ w e'.φ w'/\K bY=some r
section
variable {P:Program}{c:Ctx}{Z:bC}{e:Env}{st:St}{a:Act}{w:World}{R:Type}{K:St->Option R}{r:R}{Q:Exit->Act->World->Prop}{o:Oper}
theorem rk.of {s:Slot}{v:Value}(h:ab e v s)(hr:cC st.fr s):rk Z e w st v s:=by cases s<;>first|exact ⟨h,hr⟩|(simp [ab] at h)
theorem fin {e':Env}{bY:St} {w':World}{s:Slot}{v:Value}(bF:(execOp a.eval o).run P w= .ok (.value v) w')(hs:bS c Z e' bY a w')(ht:Trans Z e.φ w e'.φ w')(hv:rk Z e' w' bY v s)(hK:bn c bY o.dst s K=some r):o.wp P a w (Out c Z K r e.φ w) Q:=by unfold ags;rw [bF,ae5];obtain ⟨e2,eg,h1,h2,h3⟩:=cW hs hv hK;exact ⟨e2,eg,h1,by rw [h3];exact ht,h2⟩
theorem CP {e':Env}{bY:St} {w':World}(bF:(execOp a.eval o).run P w= .ok .skip w')(hs:bS c Z e' bY a w')(ht:Trans Z e.φ w e'.φ w')(hK:bn c bY o.dst (.sc .un) K=some r):o.wp P a w (Out c Z K r e.φ w) Q:=by unfold ags;rw [bF,Oper.upon_skip];obtain ⟨e2,eg,h1,h2,h3⟩:=cW (v:=undef) hs (by simp [rk,ab,cC]) hK;exact ⟨e2,eg,h1,by rw [h3];exact ht,h2⟩
theorem Rz {e':Env}{bY:St} {w':World}{s:Slot}{v:Value}(hg:db w w')(bF:(execOp a.eval o).run P w= .ok (.value v) w')(hs:bS c Z e' bY a w')(ht:Trans Z e.φ w e'.φ w')(hv:rk Z e' w' bY v s)(hK:bn c bY o.dst s K=some r):o.wp P a w (λa' w'=>db w w'/\Out c Z K r e.φ w a' w') Q:=by unfold ags;rw [bF,ae5];obtain ⟨e2,eg,h1,h2,h3⟩:=cW hs hv hK;exact ⟨hg,e2,eg,h1,by rw [h3];exact ht,h2⟩
def Rd (P:Program)(c:Ctx)(Z:bC){R:Type}(K:St->Option R)(r:R)(e:Env)(a:Act)(w:World)(o:Oper)(G:World->Prop):Prop:=∃v,(∀w',G w'->(execOp a.eval o).run P w'= .ok (.value v) w')/\Out c Z K r e.φ w (a.put o.dst v) w
theorem Rd.wp {G:World->Prop}(h:Rd P c Z K r e a w o G)(hg:G w):o.wp P a w (Out c Z K r e.φ w) Q:=by obtain ⟨v,h1,h2⟩:=h;unfold ags;rw [h1 w hg,ae5];exact h2
theorem RB {G:World->Prop} {e':Env}{bY:St}{s:Slot}{v:Value}(bF: ∀w':World,G w'->(execOp a.eval o).run P w'= .ok (.value v) w')(hs:bS c Z e' bY a w)(ht:Trans Z e.φ w e'.φ w)(hv:rk Z e' w bY v s)(hK:bn c bY o.dst s K=some r):Rd P c Z K r e a w o G:=by obtain ⟨e2,eg,h1,h2,h3⟩:=cW hs hv hK;exact ⟨v,bF,e2,eg,h1,by rw [h3];exact ht,h2⟩
theorem jb {s:Slot}{v:Value}(h:bS c Z e st a w)(bF: ∀w':World,(execOp a.eval o).run P w'= .ok (.value v) w')(hv:ab e v s)(hr:cC st.fr s)(hK:bn c st o.dst s K=some r):Rd P c Z K r e a w o (λ_=>True):=RB (λw' _=>bF w') h (.refl _ _ _) (.of hv hr) hK
theorem Ff {v:Value}{x:Bool}(h:ab e v (.sc (.p (.b x)))):v= .bool x:=by simp only [ab,aM] at h;obtain ⟨_,h⟩:=h;generalize hv:[v]=vs at h;cases h;simpa using hv
theorem lu {v:Value}{k:IntKind}{n:Int}(h:ab e v (.sc (.p (.i k n)))):v= .int k n:=by simp only [ab,aM] at h;obtain ⟨_,h⟩:=h;generalize hv:[v]=vs at h;cases h;simpa using hv
theorem CQ {v:Value}{l:List UInt8}(h:ab e v (.sc (.p (.s l)))): ∃b:ByteArray,v= .string b/\l=b.data.toList:=by simp only [ab,aM] at h;obtain ⟨_,h⟩:=h;generalize hv:[v]=vs at h;cases h;exact ⟨_,by simpa using hv,rfl⟩
theorem Bi (x:Bool):ab e (.bool x) (.sc (.p (.b x))):=by simp only [ab,aM];exact ⟨rfl,.b x⟩
theorem sQ (k:IntKind)(n:Int):ab e (.int k n) (.sc (.p (.i k n))):=by simp only [ab,aM];exact ⟨rfl,.i k n⟩
theorem ab9 (b:ByteArray):ab e (.string b) (.sc (.p (.s b.data.toList))):=by simp only [ab,aM];exact ⟨rfl,.s b⟩
theorem xl {v u:Value}(h:ab e v (.sc (.p (.raw u)))):v=u:=by simp only [ab,aM] at h;obtain ⟨_,h⟩:=h;generalize hv:[v]=vs at h;cases h;simpa using hv
theorem Hh (u:Value)(h:u.oneCell'=true):ab e u (.sc (.p (.raw u))):=by simp only [ab,aM];exact ⟨rfl,.raw u h⟩
theorem Ni {x:Operand}(ho:o.op= .move x\/o.op= .assign x)(h:bS c Z e st a w)(hK:bn c st o.dst (aH c st x) K=some r): Rd P c Z K r e a w o (λ_=>True):=by obtain ⟨h1,h2⟩:=h.eval x;refine jb h ?_ h1 h2 hK;rcases ho with ho|ho<;>simp [execOp,ho]
theorem O7 {x:Operand}(ho:o.op= .nilCheck x)(h:bS c Z e st a w)(hK:afZ (aH c st x) (λs=>bn c st o.dst s K)=some r):Rd P c Z K r e a w o (λ_=>True):=by
 obtain ⟨h1,h2⟩:=h.eval x;unfold afZ at hK;split at hK
 ·rename_i jK;rw [jK] at h1 h2;refine jb h ?_ (v:=a.eval x) h1 h2 hK;simp only [ab] at h1;simp [execOp,ho,h1]
 ·rename_i jK;rw [jK] at h1 h2;refine jb h ?_ (v:=a.eval x) h1 h2 hK;simp only [ab] at h1;obtain ⟨a8,q,vs,GK,h3⟩:=h1;simp [execOp,ho,GK]
 ·simp at hK
theorem aca {x y z:Operand}(ho:o.op= .pick x y z)(h:bS c Z e st a w)(hK:XP (aH c st x) (aH c st y) (aH c st z) (λs=>bn c st o.dst s K)=some r):Rd P c Z K r e a w o (λ_=>True):=by
 obtain ⟨hx,_⟩:=h.eval x;obtain ⟨hy,hy2⟩:=h.eval y;obtain ⟨hz,Yf⟩:=h.eval z;have bF: ∀v,a.eval x= .bool v-> ∀w:World,(execOp a.eval o).run P w= .ok (.value (if v then a.eval y else a.eval z)) w:=by intro v hv w;simp [execOp,ho,hv,asBool]
 unfold XP at hK;split at hK
 ·rename_i v hv;have hxv:=Ff (by rw [hv] at hx;exact hx);have hr:=bF v hxv;split at hK
  ·rename_i p q hp hq;rw [hp] at hy;rw [hq] at hz;simp only [Ff hy,Ff hz] at hr;refine jb h hr ?_ (s:= .sc (.p (.b (bif v then p else q)))) trivial hK;cases v
   ·exact Bi q
   ·exact Bi p
  ·cases v
   ·exact jb h hr hz Yf hK
   ·exact jb h hr hy hy2 hK
 ·simp at hK
theorem acb {op:UnOp}{ty:TypeId}{x:Operand}(ho:o.op= .unOp op ty x)(h:bS c Z e st a w)(hK:unK op (aH c st x) (λs=>bn c st o.dst s K)=some r):Rd P c Z K r e a w o (λ_=>True):=by
 obtain ⟨hx,_⟩:=h.eval x;generalize aH c st x=s at hx hK;unfold unK at hK;split at hK
 ·refine jb h ?_ (Bi _) trivial hK;simp [execOp,ho,Ff hx,Op.unary]
 ·refine jb h ?_ (sQ _ _) trivial hK;simp [execOp,ho,lu hx,Op.unary,ae8]
 ·simp at hK
end
end Dn
/-
  The type table; numbers, texts, places, loads. Conditions: none.
-/
namespace Dn
open Go
def Gb:List Kd->Nat
 |[]=>0
 | .h::r=>32+Gb r
 |_::r=>1+Gb r
def rT (ti:Nat->Option TI)(P:Program)(I:TI)(z:Option Value):TypeDesc->Prop
 | .struct fs=>I.st=true/\I.ct=[]/\(0<I.size/\Gb I.lay=I.size)/\fs.toList.map (·.offset)=I.yS/\fs.toList.map (·.type)=I.U1/\ (∀(k:Nat) (f:Field),fs[k]? =some f-> ∃J,ti f.type=some J/\J.ct=[]/\0<J.size)/\ ∃cs,z=some (.agg cs)/\uH I.zero cs.toList=true/\cs.size=I.size
 | .tuple ts=>I.ct=ts.toList/\I.ct≠[]/\I.lay=[]/\I.st=false
 | .slice el=>I.st=false/\I.ct=[]/\I.size=1/\I.elem=el/\(∃E,ti el=some E/\E.ct=[]/\0<E.size)/\z=some (.slice none 0 0)/\I.zero=[.nil]/\(∃k,I.lay=[k]/\k= .l)
 | .array n el=>I.st=false/\I.ct=[]/\I.size=32/\n=32/\I.elem=el/\(∃i,P.underlying el=some (.int .u8)/\P.info? el=some i/\i.size=1)/\I.lay=[.h]/\I.zero=[.hs kM.zero]/\z=some (.agg (bq kM.zero).toArray)
 | .bool=>I.st=false/\I.ct=[]/\I.size=1/\I.lay=[.b]/\I.zero=[.p (.b false)]/\z=some (.bool false)
 | .int k=>I.st=false/\I.ct=[]/\I.size=1/\I.lay=[.i k]/\I.zero=[.p (.i k 0)]/\z=some (.int k 0)
 | .string=>I.st=false/\I.ct=[]/\I.size=1/\I.lay=[.s]/\I.zero=[.p (.s [])]/\ ∃b:ByteArray,z=some (.string b)/\b.data.toList=[]
 |_=>I.st=false/\I.ct=[]/\I.size=1/\I.lay=[.raw]/\ ∃v,z=some v/\v.oneCell'=true/\uH I.zero [v]=true
def oh (ti:Nat->Option TI)(P:Program)(t:Nat)(I:TI):Prop:=∃d i,P.underlying t=some d/\P.info? t=some i/\(I.ct=[]->i.size=I.size/\i.bytes=I.bytes)/\rT ti P I i.zero d
def ia (P:Program)(ti:Nat->Option TI):Prop:= ∀t I,ti t=some I->oh ti P t I
section
variable {P:Program}{c:Ctx}{Z:bC}{e:Env}{st:St}{a:Act}{w:World}{R:Type}{K:St->Option R}{r:R}{Q:Exit->Act->World->Prop}{o:Oper}
theorem dE {x:Bool}{k:Option R}(h:cJ x k=some r):x=true/\k=some r:=by
 cases x
 ·simp [cJ] at h
 ·exact ⟨rfl,h⟩
theorem oW {α:Type}{x:Option α}{k:α->Option R}(h:bd x k=some r): ∃y,x=some y/\k y=some r:=by
 cases x with
 |none=>simp [bd] at h
 |some y=>exact ⟨y,rfl,h⟩
theorem O8 {l:List MV}{i:Int}{k:MV->Option R}(h:idx l i k=some r):0<=i/\ ∃y,l[i.toNat]? =some y/\k y=some r:=by
 unfold idx afW at h;by_cases hi:0<=i
 ·simp only [hi,if_true] at h;cases hl:l[i.toNat]? with
  |none=>simp [hl] at h
  |some y=>exact ⟨hi,y,rfl,by simpa [hl] using h⟩
 ·simp [hi] at h
theorem oh.agg {ti:Nat->Option TI}{t:Nat}{I:TI}(h:oh ti P t I)(hc:I.ct=[]): (∃d,P.underlying t=some d/\d.isRow=true/\(I.st=true\/I.st=false/\I.size=32))\/(∃d,P.underlying t=some d/\d.isRow=false/\I.st=false/\I.size=1):=by
 obtain ⟨d,i,h1,h2,h3,h4⟩:=h;cases d<;>simp only [rT] at h4<;>first
  |exact .inl ⟨_,h1,rfl,.inl h4.1⟩
  |exact .inl ⟨_,h1,rfl,.inr ⟨h4.1,h4.2.2.1⟩⟩
  |exact .inr ⟨_,h1,rfl,h4.1,h4.2.2.1⟩
  |exact absurd hc h4.2.1
theorem oh.info {ti:Nat->Option TI}{t:Nat}{I:TI}(h:oh ti P t I)(hc:I.ct=[]): ∃i,P.info? t=some i/\i.size=I.size/\i.bytes=I.bytes:=by obtain ⟨d,i,h1,h2,h3,h4⟩:=h;exact ⟨i,h2,h3 hc⟩
theorem bj {t:Nat}{I:TI}(h:c.tv t=some I):c.ti t=some I/\I.ct=[]:=by
 unfold Ctx.tv at h;cases hc:c.ti t with
 |none=>simp [hc] at h
 |some J=>
  cases hj:J.ct with
  |nil=>simp [hc,hj] at h;subst h;exact ⟨rfl,hj⟩
  |cons x y=>simp [hc,hj] at h
theorem RC {s t:TypeId}{x:Operand}{I:TI}(ho:o.op= .convert s t x)(hI:c.ti t=some I)(hT:ia P c.ti)(hs: ∃d,P.underlying s=some d){fk:Option FloatKind}(Nj: ∀k,fk=some k->P.underlying t=some (.float k))(h:bS c Z e st a w)(hK:XQ I fk (aH c st x) (λs=>bn c st o.dst s K)=some r):Rd P c Z K r e a w o (λ_=>True):=by
 obtain ⟨hx,_⟩:=h.eval x;obtain ⟨ds,uo⟩:=hs;obtain ⟨d,i,h1,h2,h3,h4⟩:=hT t I hI;generalize aH c st x=s' at hx hK;unfold XQ at hK;split at hK
 ·rename_i k k' n dK CD hl;have hd:d= .int k:=by cases d<;>simp only [rT,hl,dK,CD] at h4<;>simp_all
  subst hd;refine jb h ?_ (sQ _ _) trivial hK;simp [execOp,ho,lu hx,convert,run_underlying uo,run_underlying h1,Conv.intToInt]
 ·rename_i l dK CD hl;have hd:d= .string:=by cases d<;>simp only [rT,hl,dK,CD] at h4<;>simp_all
  subst hd;obtain ⟨b,hb,rfl⟩:=CQ hx;refine jb h ?_ (ab9 b) trivial hK;simp [execOp,ho,hb,convert,run_underlying uo,run_underlying h1]
 ·rename_i k x dK CD hl;have hd:d= .int k:=by cases d<;>simp only [rT,hl,dK,CD] at h4<;>simp_all
  subst hd;obtain ⟨n,hn,hK⟩:=oW hK;obtain ⟨hr,hK⟩:=dE hK;have hr:=of_decide_eq_true hr;refine jb h ?_ (sQ _ _) trivial hK;simp [execOp,ho,xl hx,convert,run_underlying uo,run_underlying h1,Conv.floatToInt,hn,hr]
 ·rename_i k n dK CD hl;split at hK
  ·have GK:=Nj _ rfl;refine jb h ?_ (Hh _ rfl) trivial hK;simp [execOp,ho,lu hx,convert,run_underlying uo,run_underlying GK,Conv.intToFloat]
  ·simp at hK
 ·simp at hK
theorem acd {op:BinOp}{k:IntKind}{x y:Int}{m:MV}{t:TypeId}(hm:Tn op k x y=some m): ∃v,(∀w:World,(binOp op t (.int k x) (.int k y)).run P w= .ok v w)/\ab e v (.sc (.p m)):=by
 cases op<;>simp only [Tn,AT,reduceCtorEq] at hm<;>subst hm
 ·exact ⟨_,by simp [binOp,ae8],sQ _ _⟩
 ·exact ⟨_,by simp [binOp,ae8],sQ _ _⟩
 ·exact ⟨_,by simp [binOp,ae8],sQ _ _⟩
 ·exact ⟨.int k (M6 k x y),λw=>by simp [binOp];rfl,sQ _ _⟩
 ·exact ⟨.int k (bOr k x y),λw=>by simp [binOp];rfl,sQ _ _⟩
 ·exact ⟨.int k (D8 k x y),λw=>by simp [binOp];rfl,sQ _ _⟩
 ·refine ⟨.bool (decide (x=y)),λw=> ?_,Bi _⟩;simp [binOp,adr];rfl
 ·refine ⟨.bool (!decide (x=y)),λw=> ?_,Bi _⟩;simp [binOp,adr];rfl
 ·exact ⟨.bool (decide (x<y)),by simp [binOp,adr],Bi _⟩
 ·exact ⟨.bool (decide (x<=y)),by simp [binOp,adr],Bi _⟩
 ·exact ⟨.bool (decide (y<x)),by simp [binOp,adr],Bi _⟩
 ·exact ⟨.bool (decide (y<=x)),by simp [binOp,adr],Bi _⟩
theorem toList_data (b:ByteArray):b.toList=b.data.toList:=by exact ByteArray.toList_eq b
theorem ace {op:BinOp}{x y:ByteArray}{m:MV}{t:TypeId}(hm:M5 op x.data.toList y.data.toList=some m): ∃v,(∀w:World,(binOp op t (.string x) (.string y)).run P w= .ok v w)/\ab e v (.sc (.p m)):=by
 have ant:(x.data.toList==y.data.toList)=decide (x.data.toList=y.data.toList):=by rw [Bool.eq_iff_iff];simp
 cases op<;>simp only [M5,AT,reduceCtorEq] at hm<;>subst hm<;> exact ⟨_,λw=>by simp only [binOp,Op.stringOp,toList_data,ant];rfl,Bi _⟩
theorem U7 (b:ByteArray)(n:Nat):b[n]? =b.data.toList[n]? :=by
 by_cases h:n<b.size
 ·have h2:n<b.data.toList.length:=by simpa using h
  rw [getElem?_pos b n h,IN h2];rfl
 ·have h2: ¬n<b.data.toList.length:=by simpa using h
  rw [getElem?_neg b n h,acC (by omega)]
theorem B3 (x:kM)(n:Nat)(h:n<32):(bq x)[n]? =some (.int .u8 ((x.l.getD n 0).toNat:Int)):=by
 have hl:n<x.l.length:=by rw [x.h];exact h
 simp [bq,abS,List.getD,IN hl]
theorem ai3 {t:TypeId}{x y:Operand}{I:TI}(ho:o.op= .index t x y)(hI:c.ti t=some I)(hT:ia P c.ti)(h:bS c Z e st a w)(hK:ixK I (aH c st x) (aH c st y) (λs=>bn c st o.dst s K)=some r):Rd P c Z K r e a w o (λ_=>True):=by
 obtain ⟨hx,_⟩:=h.eval x;obtain ⟨hy,_⟩:=h.eval y;obtain ⟨d,i,h1,h2,h3,h4⟩:=hT t I hI;generalize aH c st x=sx at hx hK;generalize aH c st y=sy at hy hK;unfold ixK at hK;split at hK
 ·rename_i l k n dK hl;have hd:d= .string:=by cases d<;>simp only [rT,hl,dK] at h4<;>simp_all
  subst hd;cases hc:decide ((0:Int)<=n/\n<(l.length:Int)) with
  |false=>simp [cJ,hc] at hK
  |true=>
   simp only [cJ,hc] at hK;obtain ⟨hn0,KB⟩:=of_decide_eq_true hc;obtain ⟨b,hb,rfl⟩:=CQ hx;have cI:n.toNat<b.data.toList.length:=by omega
   refine jb h ?_ (sQ .u8 ((b.data.toList.getD n.toNat 0).toNat:Int)) trivial hK;have hg:b[n.toNat]? =some (b.data.toList.getD n.toNat 0):=by rw [U7,IN cI];simp [List.getD,IN cI]
   simp [execOp,ho,hb,lu hy,Instr.index,run_underlying h1,asIntOf,hn0,hg]
 ·rename_i b k n dK hl;cases d<;>simp only [rT,hl,dK] at h4<;>first|(exfalso;simp_all;done)|skip
  rename_i len el;cases hc:decide ((0:Int)<=n/\n<32) with
  |false=>simp [cJ,hc] at hK
  |true=>
   simp only [cJ,hc] at hK;obtain ⟨hn0,KB⟩:=of_decide_eq_true hc;simp only [ab] at hx;obtain ⟨_,_,_,rfl,_,⟨ie,hu,pH,zn⟩,_⟩:=h4;refine jb h ?_ (sQ .u8 ((b.l.getD n.toNat 0).toNat:Int)) trivial hK;have hg:=B3 b n.toNat (by omega);have hg':(bq b).toArray[n.toNat]? =some (.int .u8 ((b.l.getD n.toNat 0).toNat:Int)):=by simpa using hg
   simp [execOp,ho,hx,lu hy,Instr.index,run_underlying h1,asIntOf,hn0,KB,agd,isAgg,run_underlying hu,abU,typeInfo,pH,zn,hg,hg']
 ·simp at hK
def RD (P:Program)(ti:Nat->Option TI):Prop:= ∀t I,ti t=some I->I.ct=[]-> ∀(e:Env) (w:World) (vx vy:Value) (sx sy:Slot) (b:Bool),ab e vx sx->ab e vy sy-> eY I.lay (aJ sx)=true->eY I.lay (aJ sy)=true->mX I.st sx=true->mX I.st sy=true->jO (aJ sx) (aJ sy)=some b-> (∀k n k' n',sx= .sc (.p (.i k n))->sy= .sc (.p (.i k' n'))->False)->(∀l l',sx= .sc (.p (.s l))->sy= .sc (.p (.s l'))->False)-> (agA t vx vy).run P w= .ok b w/\ ∀(x y:Operand) (op:BinOp),(eqGuard op t x y vx vy).run P w= .ok () w/\(op= .eql->binOp op t vx vy=(do pure (.bool (<-agA t vx vy))))/\(op= .neq->binOp op t vx vy=(do pure (.bool (!(<-agA t vx vy)))))
theorem Yg {op:BinOp} {t t':TypeId}{x y:Operand}(ho:o.op= .binOp op t x y t')(h:bS c Z e st a w)(hE:RD P c.ti)(hK:afY (c.tv t) op (aH c st x) (aH c st y) (λs=>bn c st o.dst s K)=some r):Rd P c Z K r e a w o (λ_=>True):=by
 obtain ⟨hx,_⟩:=h.eval x;obtain ⟨hy,_⟩:=h.eval y;generalize hsx:aH c st x=sx at hx hK;generalize hsy:aH c st y=sy at hy hK;have bF: ∀v,(∀w:World,(binOp op t (a.eval x) (a.eval y)).run P w= .ok v w)->(∀cs,a.eval x≠ .agg cs)->a.eval x≠ .nilIface-> ∀w:World,(execOp a.eval o).run P w= .ok (.value v) w:=by
  intro v hv hna hni w;have hg:(eqGuard op t x y (a.eval x) (a.eval y)).run P w= .ok () w:=by
   generalize a.eval x=va at hna hni;generalize a.eval y=vb;have hm: ∀(u v:Value),u=va->(∀cs,u≠ .agg cs)->u≠ .nilIface->(eqGuard op t x y u v).run P w= .ok () w:=by
    intro u v _ h1 h2;cases u<;>first
     |exact absurd rfl h2
     |exact absurd rfl (h1 _)
     |(cases op<;>rfl)
   exact hm va vb rfl hna hni
  simp [execOp,ho,hg,hv]
 unfold afY at hK;split at hK
 ·rename_i k n k' n';have e1:=lu hx;have e2:=lu hy;split at hK
  ·cases hk:decide (k=k') with
   |false=>simp [hk] at hK
   |true=>
    have hk:=of_decide_eq_true hk;subst hk;simp only [decide_true,cond_true] at hK;cases hz:decide (n'=0) with
    |true=>simp [cJ,hz] at hK
    |false=>simp only [cJ,hz,agf] at hK;have hz:=of_decide_eq_false hz;refine jb h (bF _ ?_ (by simp [e1]) (by simp [e1])) (sQ _ _) trivial hK;simp [binOp,e1,e2,Op.intDiv,hz]
  ·cases hk:decide (k=k') with
   |false=>simp [hk] at hK
   |true=>
    have hk:=of_decide_eq_true hk;subst hk;simp only [decide_true,cond_true] at hK;cases hz:decide (n'=0) with
    |true=>simp [cJ,hz] at hK
    |false=>simp only [cJ,hz,agf] at hK;have hz:=of_decide_eq_false hz;refine jb h (bF _ ?_ (by simp [e1]) (by simp [e1])) (sQ _ _) trivial hK;simp [binOp,e1,e2,Op.intDiv,hz]
  ·cases hz:decide ((0:Int)<=n') with
   |false=>simp [cJ,hz] at hK
   |true=>
    simp only [cJ,hz] at hK;have hz:=of_decide_eq_true hz;refine jb h (bF _ ?_ (by simp [e1]) (by simp [e1])) (sQ _ _) trivial hK;have: ¬n'<0:=by omega
    simp [binOp,e1,e2,Op.shift,this]
  ·cases hz:decide ((0:Int)<=n') with
   |false=>simp [cJ,hz] at hK
   |true=>
    simp only [cJ,hz] at hK;have hz:=of_decide_eq_true hz;refine jb h (bF _ ?_ (by simp [e1]) (by simp [e1])) (sQ _ _) trivial hK;have: ¬n'<0:=by omega
    simp [binOp,e1,e2,Op.shift,this]
  ·cases hk:decide (k=k') with
   |false=>simp [hk] at hK
   |true=>
    have hk:=of_decide_eq_true hk;subst hk;simp only [decide_true,cond_true] at hK;cases hm:Tn op k n n' with
    |none=>simp [hm] at hK
    |some m=>simp only [hm] at hK;obtain ⟨v,hv,hr⟩:=acd (P:=P) (e:=e) (t:=t) hm;exact jb h (bF v (by rw [e1,e2];exact hv) (by simp [e1]) (by simp [e1])) hr trivial hK
 ·rename_i l l';obtain ⟨b,hb,rfl⟩:=CQ hx;obtain ⟨b',CR,rfl⟩:=CQ hy;split at hK
  ·obtain ⟨hz,hK⟩:=dE hK
   ·have hz:=of_decide_eq_true hz;have hr:ab e (.string (b++b')) (.sc (.p (.s (b.data.toList++b'.data.toList)))):=by have:=ab9 (e:=e) (b++b');simpa [ByteArray.data_append] using this
    refine jb h (bF _ ?_ (by simp [hb]) (by simp [hb])) hr trivial hK;have hs: ¬(((b.size+b'.size:Nat):Int)>IntKind.i64.max):=by
     have h1:b.size=b.data.toList.length:=by simp
     have h2:b'.size=b'.data.toList.length:=by simp
     have:IntKind.i64.max=9223372036854775807:=by decide
     rw [this];omega
    intro w;simp only [binOp,hb,CR,Op.stringOp,hs,if_false];rfl
  ·cases hm:M5 op b.data.toList b'.data.toList with
   |none=>simp [hm] at hK
   |some m=>simp only [hm] at hK;obtain ⟨v,hv,hr⟩:=ace (P:=P) (e:=e) (t:=t) hm;exact jb h (bF v (by rw [hb,CR];exact hv) (by simp [hb]) (by simp [hb])) hr trivial hK
 ·have e1:=xl hx;have e2:=xl hy;obtain ⟨r',hr',hK⟩:=oW hK;refine jb h (bF _ ?_ (by simp [e1]) (by simp [e1])) (Hh (.float .f64 r') rfl) trivial hK;intro w;cases op<;>simp only [aiU,reduceCtorEq] at hr'<;>simp [binOp,e1,e2,Op.floatArith,hr']
 ·rename_i KB Hi hn3;split at hK
  ·rename_i I hI;obtain ⟨Lt,OL⟩:=bj hI;cases hf:eY I.lay (aJ sx)&&eY I.lay (aJ sy)&&(mX I.st sx&&mX I.st sy) with
   |false=>simp [hf] at hK
   |true=>
    simp only [hf,cond_true] at hK;simp only [abM] at hf;obtain ⟨hf,Yh⟩:=hf;split at hK
    ·cases hm:jO (aJ sx) (aJ sy) with
     |none=>simp [hm] at hK
     |some b=>simp only [hm] at hK;refine jb h ?_ (Bi b) trivial hK;intro w;obtain ⟨h1,h2⟩:=hE t I Lt OL e w _ _ sx sy b hx hy hf.1 hf.2 Yh.1 Yh.2 hm KB Hi;have:=(h2 x y .eql).1;simp [execOp,ho,this,(h2 x y .eql).2.1 rfl,h1]
    ·cases hm:jO (aJ sx) (aJ sy) with
     |none=>simp [hm] at hK
     |some b=>simp only [hm] at hK;refine jb h ?_ (Bi (!b)) trivial hK;intro w;obtain ⟨h1,h2⟩:=hE t I Lt OL e w _ _ sx sy b hx hy hf.1 hf.2 Yh.1 Yh.2 hm KB Hi;have:=(h2 x y .neq).1;simp [execOp,ho,this,(h2 x y .neq).2.2 rfl,h1]
    ·simp at hK
  ·simp at hK
end
end Dn
/-
  Lengths, parts, places, loads. Conditions: none.
-/
namespace Dn
open Go
section
variable {P:Program}{c:Ctx}{Z:bC}{e:Env}{st:St}{a:Act}{w:World}{R:Type}{K:St->Option R}{r:R}{Q:Exit->Act->World->Prop}{o:Oper}
theorem cell_of {a8:Nat}{arr:Array Value}{T:TypeId}{fr:Nat×Nat}(h:w.heap[a8]? =some (.cells arr T fr))(j:Nat):w.cell? ⟨a8,j,none⟩=arr[j]? :=by simp [World.cell?,h]
theorem jQ {t:TypeId}{I:TI}{a8 off:Nat}{vs:List Value}(hr:oh c.ti P t I)(hc:I.ct=[])(hl:vs.length=I.size)(hm:w.rangeAt a8 off vs): ((I.st=true\/I.size=32)/\ ∀w:World,w.rangeAt a8 off vs->(adb t (.pointer (some ⟨a8,off,none⟩))).run P w= .ok (.agg vs.toArray) w)\/ (I.st=false/\ ∃v,vs=[v]/\ ∀w:World,w.rangeAt a8 off vs->(adb t (.pointer (some ⟨a8,off,none⟩))).run P w= .ok v w):=by
 obtain ⟨i,hi,hs,_⟩:=hr.info hc;rcases hr.agg hc with ⟨d,hu,hd,hh⟩|⟨d,hu,hd,h1,h2⟩
 ·refine .inl ⟨hh.imp id (·.2),λw hm=> ?_⟩;exact run_loadAt_mid w a8 off t vs d hm hu hd (by simp [hi,hs,hl])
 ·refine .inr ⟨h1,?_⟩;rw [h2] at hl;obtain ⟨v,rfl⟩:=aco.1 hl;refine ⟨v,rfl,λw hm=> ?_⟩;have rL:w.cell? ⟨a8,off,none⟩=some v:=hm 0 v rfl;have hag:(isAgg t).run P w= .ok false w:=by unfold isAgg;rw [afr,run_underlying hu w];cases d<;>simp_all
  simp [adb,adf,loadVar,hag,rL]
theorem aM.slot {vs:List Value}{l:aE}{v:Value}(h:aM e vs l)(hv:(vs=[v]/\l.w=1)\/(v= .agg vs.toArray/\l.w=32)):ab e v (.sc l):=by
 rcases hv with ⟨rfl,hw⟩|⟨rfl,hw⟩
 ·cases l<;>simp [ab,aE.w] at hw⊢ <;>exact h
 ·cases l<;>simp [aE.w] at hw;simp only [ab];have:vs=bq _:=h;rw [this]
theorem jc {t:TypeId}{I:TI}{cs:List aE}{a8 base off:Nat}{vs:List Value}{s:Slot} {K':Slot->Option R}(hr:oh c.ti P t I)(hc:I.ct=[])(hv:av e vs cs)(hm:w.rangeAt a8 base vs)(hK:jN I cs off K'=some r): ∃v s,(∀w:World,w.rangeAt a8 base vs->(adb t (.pointer (some ⟨a8,base+off,none⟩))).run P w= .ok v w)/\ab e v s/\cC st.fr s/\K' s=some r:=by
 unfold jN at hK;cases dK:I.st with
 |true=>
  simp only [dK,cond_true] at hK;cases hp:Dn.part cs off I.size with
  |none=>simp [hp] at hK
  |some ds=>
   simp only [hp] at hK;obtain ⟨v1,v2,v3,rfl,h1,h2,h3⟩:=Lr hp hv;have Tu: ∀w:World,w.rangeAt a8 base (v1++v2++v3)->w.rangeAt a8 (base+off) v2:=by intro w hm j v hj;have Xv:j<v2.length:=(AS.1 hj).1;have:=hm (off+j) v (by rw [AI,OF (by omega),aaG (by omega)];rw [show off+j-v1.length=j by omega];exact hj);rwa [<-acY] at this
   rcases jQ hr hc h2 (Tu w hm) with ⟨_,bF⟩|⟨hf,_⟩
   ·refine ⟨_,.ag ds,λw hm=>bF w (Tu w hm),?_,trivial,hK⟩;simp only [ab];exact ⟨_,rfl,by simpa using h3⟩
   ·rw [dK] at hf;cases hf
 |false=>
  simp only [dK,cond_false] at hK;cases hp:cut cs off with
  |none=>simp [hp] at hK
  |some ds=>
   cases ds with
   |nil=>simp [hp] at hK
   |cons l ls=>
    simp only [hp] at hK;cases hb:bN l.w I.size with
    |false=>simp [hb] at hK
    |true=>
     simp only [hb,cond_true] at hK;have hw:=sh hb;obtain ⟨v1,v2,rfl,h1,h2⟩:=zF hp hv;obtain ⟨u,u2,rfl,h3,h4⟩:=h2;have Tu: ∀w:World,w.rangeAt a8 base (v1++(u++u2))->w.rangeAt a8 (base+off) u:=by intro w hm j v hj;have Xv:j<u.length:=(AS.1 hj).1;have:=hm (off+j) v (by rw [OF (by omega),aaG (by omega)];rw [show off+j-v1.length=j by omega];exact hj);rwa [<-acY] at this
     rcases jQ hr hc (by rw [h3.width,hw]) (Tu w hm) with ⟨hh,bF⟩|⟨_,v,U8,bF⟩
     ·refine ⟨_,.sc l,λw hm=>bF w (Tu w hm),h3.slot (.inr ⟨rfl,?_⟩),trivial,hK⟩;rcases hh with hh|hh
      ·rw [dK] at hh;cases hh
      ·rw [hw,hh]
     ·refine ⟨_,.sc l,λw hm=>bF w (Tu w hm),h3.slot (.inl ⟨U8,?_⟩),trivial,hK⟩;rw [<-h3.width,U8];rfl
theorem aX.at {key:Nat->Nat} {φ:Ph}{size:Nat}{xs:List MV}: ∀{cs:List Value} {i:Nat} {x:MV},aX key φ size cs xs->xs[i]? =some x-> ∃a v b,cs=a++v++b/\a.length=i *size/\v.length=size/\gY key φ v x:=by
 induction xs with
 |nil=>intro cs i x _ hx;simp at hx
 |cons y ys ih=>
  intro cs i x h hx;obtain ⟨v,q,rfl,hl,hr,he⟩:=h;cases i with
  |zero=>simp at hx;subst hx;exact ⟨[],v,q,by simp,by simp,hl,hr⟩
  |succ i=>obtain ⟨a,u,b,rfl,h1,h2,h3⟩:=ih he (by simpa using hx);exact ⟨v++a,u,b,by simp,by simp [hl,h1,ab2,afw],h2,h3⟩
theorem ga.leaves {ms:List MV}: ∀{vs:List Value} {cs:List aE},ga e.key e.φ vs ms->bE cs=some ms->(∀m,aE.p m∈cs->m.one=true)->av e vs cs:=by
 induction ms with
 |nil=>
  intro vs cs h hc _;cases h;cases cs with
  |nil=>rfl
  |cons l r=>cases hr:bE r<;>cases l<;>simp [bE,hr] at hc
 |cons m ms ih=>
  intro vs cs h hc ho;cases cs with
  |nil=>simp [bE] at hc
  |cons l r=>
   generalize yt:vs=KC at h;cases h with
   |cons v _ vs _ h1 h2=>
   subst yt;cases hr:bE r with
   |none=>cases l<;>simp [bE,hr] at hc
   |some q=>
    have cB: ∀m,aE.p m∈r->m.one=true:=λm hm=>ho m (by simp [hm]);cases l<;>simp [bE,hr] at hc
    ·obtain ⟨rfl,rfl⟩:=hc;exact ⟨v,vs,rfl,⟨ho _ (by simp),h1⟩,ih h2 hr cB⟩
    ·obtain ⟨rfl,rfl⟩:=hc;refine ⟨v,vs,rfl,?_,ih h2 hr cB⟩;generalize hv:v=v' at h1;cases h1;exact rfl
theorem gY.Hj {vs:List Value}{x:MV}{b:Bool}{cs:List aE}(h:gY e.key e.φ vs x)(hc:Hd b x cs):av e vs cs:=by
 obtain ⟨⟨ms,h1,h2⟩,h3⟩:=hc;cases b with
 |true=>cases ms<;>simp [vr] at h2<;>subst h2<;>(generalize hv:vs=v' at h;cases h;subst hv;rename_i hh;exact hh.leaves h1 h3)
 |false=>
  cases ms with
  |nil=>simp [vr] at h2
  |cons m ms=>
   cases ms with
   |cons y ys=>simp [vr] at h2
   |nil=>simp [vr] at h2;subst h2;have:ga e.key e.φ (vs++[]) [m]:= .cons vs m [] [] h .nil;rw [List.append_nil] at this;exact this.leaves h1 h3
theorem Yi {t:TypeId}{x:Operand}{I:TI}{cs:List aE}{off:Nat}(ho:o.op= .load t x)(hI:c.tv t=some I)(hT:ia P c.ti)(h:bS c Z e st a w)(GL:aH c st x= .rp cs off)(hK:jN I cs off (λs=>bn c st o.dst s K)=some r):Rd P c Z K r e a w o (λw'=> ∀b q v,e.φ b q=some v->w'.cell? ⟨b,q,none⟩=some v):=by
 obtain ⟨hx,pN⟩:=h.eval x;obtain ⟨lQ,hc⟩:=bj hI;have hr:=hT t I lQ;rw [GL] at hx;simp only [ab] at hx;obtain ⟨a8,q,vs,hx,pI,_,Ee⟩:=hx;have hm: ∀w':World,(∀b q v,e.φ b q=some v->w'.cell? ⟨b,q,none⟩=some v)->w'.rangeAt a8 q vs:=by intro w' hi j v hj;have Xv:j<vs.length:=(AS.1 hj).1;exact hi _ _ _ (by rw [Ee j Xv];exact hj)
 obtain ⟨v,s,h1,h2,h3,h4⟩:=jc (st:=st) (s:= .skip) hr hc pI (hm w h.kZ) hK;refine RB (λw' hi=> ?_) h (.refl _ _ _) (.of h2 h3) h4;simp [execOp,ho,hx,h1 w' (hm w' hi)]
theorem acf {t:TypeId}{x:Operand}{I:TI}(ho:o.op= .load t x)(hI:c.tv t=some I)(hT:ia P c.ti)(h:bS c Z e st a w)(hK:ldK st I (aH c st x) (λs=>bn c st o.dst s K)=some r):Rd P c Z K r e a w o (db w):=by
 obtain ⟨hx,pN⟩:=h.eval x;obtain ⟨lQ,hc⟩:=bj hI;have hr:=hT t I lQ;have acg: ∀v s,(∀w':World,db w w'->(adb t (a.eval x)).run P w'= .ok v w')->ab e v s->cC st.fr s->bn c st o.dst s K=some r->Rd P c Z K r e a w o (db w):=by intro v s h1 h2 h3 h4;refine RB (λw' hg=> ?_) h (.refl _ _ _) (.of h2 h3) h4;simp [execOp,ho,h1 w' hg]
 have keep: ∀{w':World} {a8 off:Nat} {vs:List Value},db w w'->w.rangeAt a8 off vs->w'.rangeAt a8 off vs:=by intro w' a8 off vs hg hm j v hj;exact hg.cell (hm j v hj)
 generalize aH c st x=s at hx hK pN;unfold ldK at hK;split at hK
 ·rename_i root off;simp only [ab] at hx;have nn:=h.slot root;split at hK
  ·rename_i cs uq;rw [uq] at nn;have uJ:eT cs=false:=by cases hq:eT cs<;>simp_all
   simp only [uJ,cond_false] at hK;obtain ⟨_,vt⟩:=nn;obtain ⟨arr,T,cz,pI⟩:=vt.cells uJ;have hm:w.rangeAt (e.B root) 0 arr.toList:=by intro j v hj;rw [abQ,cell_of cz];simpa using hj
   obtain ⟨v,s,h1,h2,h3,h4⟩:=jc (st:=st) (s:= .skip) hr hc pI hm hK;rw [abQ] at h1;exact acg v s (λw' hg=>by rw [hx];exact h1 w' (keep hg hm)) h2 h3 h4
  ·simp at hK
 ·rename_i cs off;simp only [ab] at hx;obtain ⟨a8,q,vs,hx,pI,_,Ee⟩:=hx;have hm:w.rangeAt a8 q vs:=by intro j v hj;have Xv:j<vs.length:=(AS.1 hj).1;exact h.kZ _ _ _ (by rw [Ee j Xv];exact hj)
  obtain ⟨v,s,h1,h2,h3,h4⟩:=jc (st:=st) (s:= .skip) hr hc pI hm hK;exact acg v s (λw' hg=>by rw [hx];exact h1 w' (keep hg hm)) h2 h3 h4
 ·rename_i f i off b cs;cases hf:aI st.aP f with
  |none=>simp [hf] at hK
  |some o'=>
   simp only [hf] at hK;simp only [ab] at hx;obtain ⟨a8,cap,hE,⟨x,hxi,hel⟩,hx⟩:=hx o' (by rw [h.m];exact hf);obtain ⟨J,cells,hJ,hJc,dn,ib,_⟩:=(h.iK f o' hf).row;obtain ⟨p1,v1,p2,rfl,CE,sv,eK⟩:=ib.at hxi;have pI:=eK.Hj hel;rw [hE] at dn;have rL:=dn.cells (g:=a8) rfl;have hm:w.rangeAt a8 (i *zu cs) v1:=by intro j v hj;have Xv:j<v1.length:=(AS.1 hj).1;have:=rL (i *J.size+j) v (by rw [AI,OF (by omega),aaG (by omega)];rw [show i *J.size+j-p1.length=j by omega];exact hj);rw [ab6,abQ] at this;rw [<-pI.width,sv];exact this
   obtain ⟨v,s,h1,h2,h3,h4⟩:=jc (st:=st) (s:= .skip) hr hc pI hm hK;exact acg v s (λw' hg=>by rw [hx];exact h1 w' (keep hg hm)) h2 h3 h4
 ·rename_i root off i;simp only [ab] at hx;obtain ⟨hx,RE⟩:=hx;have nn:=h.slot root;cases hb:I.st||!bN I.size 1 with
  |true=>simp [hb] at hK
  |false=>
   simp only [hb,cond_false] at hK;simp only [abW,adg] at hb;have pJ:=sh hb.2;split at hK
   ·rename_i cs uq;rw [uq] at nn;have uJ:eT cs=false:=by cases hq:eT cs<;>simp_all
    simp only [uJ,cond_false] at hK;obtain ⟨_,vt⟩:=nn;obtain ⟨arr,T,cz,pI⟩:=vt.cells uJ;split at hK
    ·rename_i b ls agh;obtain ⟨v1,v2,anu,h1,h2⟩:=zF agh pI;obtain ⟨u,u2,rfl,h3,h4⟩:=h2;have h3:u=bq b:=h3;subst h3;have hg:=B3 b i RE;have hlen:=cX b;have hm:w.rangeAt (e.B root) (off+i) [.int .u8 ((b.l.getD i 0).toNat:Int)]:=by
      intro j v hj;cases j with
      |succ j=>simp at hj
      |zero=>
       simp at hj;rw [ade,cell_of cz];have:arr[off+i]? =arr.toList[off+i]? :=by simp
       rw [this,anu,OF (by omega),aaG (by omega),show off+i-v1.length=i by omega,hg,<-hj];simp [List.getD]
     rcases jQ hr hc (by simp [pJ]) hm with ⟨hh,_⟩|⟨_,v,U8,bF⟩
     ·rcases hh with hh|hh
      ·rw [hb.1] at hh;cases hh
      ·omega
     ·simp at U8;subst U8;exact acg _ _ (λw' hg=>by rw [hx];exact bF w' (keep hg hm)) (sQ _ _) trivial hK
    ·simp at hK
   ·simp at hK
 ·simp at hK
theorem U9 {t:TypeId}{x:Operand}{f:Nat}{I:TI}(ho:o.op= .fieldAddr t x f)(hI:c.tv t=some I)(hT:ia P c.ti)(h:bS c Z e st a w)(hK:XS st I f (aH c st x) (λs=>bn c st o.dst s K)=some r):Rd P c Z K r e a w o (λ_=>True):=by
 obtain ⟨hx,pN⟩:=h.eval x;obtain ⟨lQ,hc⟩:=bj hI;obtain ⟨d,i,h1,h2,h3,h4⟩:=hT t I lQ;have key: ∀q a8 off,I.st=true->I.yS[f]? =some q->a.eval x= .pointer (some ⟨a8,off,none⟩)-> ∀w:World,(execOp a.eval o).run P w= .ok (.value (.pointer (some ⟨a8,off+q,none⟩))) w:=by
  intro q a8 off dK hq hv w;cases d<;>simp only [rT] at h4;case struct fs=>
   obtain ⟨_,_,_,ho1,cB,Tv,_⟩:=h4;rw [<-ho1,abS] at hq;cases hf:fs.toList[f]? with
   |none=>simp [hf] at hq
   |some fl=>
    simp [hf] at hq;subst hq;have O9:fs[f]? =some fl:=by simpa using hf
    obtain ⟨J,hJ,hJc,hJs⟩:=Tv f fl O9;obtain ⟨ij,Tw,hs,_⟩:=(hT _ _ hJ).info hJc;have hz:ij.size≠0:=by omega
    simp [execOp,ho,hv,Instr.fieldAt,run_underlying h1,O9,adf,fieldPlace,abU,typeInfo,Tw,hz,ab6]
  all_goals (exfalso;simp_all)
 generalize aH c st x=s at hx hK pN;unfold XS at hK;split at hK
 ·rename_i q r' o' dK hq;simp only [ab] at hx;refine jb (s:= .ptr r' (o'+q)) h (key q _ _ dK hq hx) ?_ pN hK;simp only [ab]
 ·rename_i q cs o' dK hq;simp only [ab] at hx;obtain ⟨a8,b,vs,hx,hh⟩:=hx;refine jb (s:= .rp cs (o'+q)) h (key q _ _ dK hq hx) ?_ trivial hK;simp only [ab];exact ⟨a8,b,vs,by rw [acY],hh⟩
 ·rename_i q g i' o' b cs dK hq;cases hf:aI st.aP g with
  |none=>simp [hf] at hK
  |some w'=>simp only [hf] at hK;simp only [ab] at hx;obtain ⟨a8,cap,h5,h6,h7⟩:=hx w' (by rw [h.m];exact hf);refine jb (s:= .ep g i' (o'+q) b cs) h (key q _ _ dK hq h7) ?_ trivial hK;simp only [ab];intro o2 cB;rw [h.m,hf] at cB;cases cB;exact ⟨a8,cap,h5,h6,by rw [acY]⟩
 ·simp at hK
theorem Va {cs:List aE}: ∀{vs:List Value} {k:Nat} {l:aE},av e vs cs->CL cs k=some l-> ∃v,vs[k]? =some v/\ab e v (.sc l):=by
 induction cs with
 |nil=>intro vs k l _ hk;simp [CL] at hk
 |cons x xs ih=>
  intro vs k l hr hk;obtain ⟨v0,q,rfl,h1,h2⟩:=hr;have hw:=h1.width;have hx:x.w=1/\(k=0->x=l)/\(∀j,k=j+1->CL xs j=some l)/\ ∀y,x≠ .hs y:=by cases x<;>cases k<;>simp [CL,aE.w] at hk⊢ <;>exact hk
  obtain ⟨w1,w2,w3,w4⟩:=hx;rw [w1] at hw;obtain ⟨u,rfl⟩:=aco.1 hw;cases k with
  |zero=>have:=w2 rfl;subst this;refine ⟨u,rfl,?_⟩;cases x<;>first|(simp [ab];done)|exact absurd rfl (w4 _)|(simp only [ab];exact h1)
  |succ j=>obtain ⟨v,g1,g2⟩:=ih h2 (w3 j rfl);exact ⟨v,by simpa using g1,g2⟩
theorem agi {x:Operand}{k:Nat}(ho:o.op= .extract x k)(h:bS c Z e st a w)(hK:af3 (aH c st x) k (λs=>bn c st o.dst s K)=some r):Rd P c Z K r e a w o (λ_=>True):=by
 obtain ⟨hx,pN⟩:=h.eval x;generalize aH c st x=s at hx hK;unfold af3 at hK;split at hK
 ·rename_i cs;simp only [ab] at hx;obtain ⟨arr,hv,hs⟩:=hx;cases hk:CL cs k with
  |none=>simp [hk] at hK
  |some l=>
   simp only [hk] at hK;obtain ⟨v,Q4,h1⟩:=Va hs hk;have hv3:arr[k]? =some v:=by simpa using Q4
   refine jb h ?_ h1 trivial hK;simp [execOp,ho,hv,Instr.extract,hv3]
 ·rename_i vs;simp only [ab] at hx;obtain ⟨arr,hv,hs⟩:=hx;cases hk:vs[k]? with
  |none=>simp [hk] at hK
  |some s=>
   simp only [hk] at hK;have: ∀(k:Nat) (vs:List Slot) (l:List Value),kN e l vs->vs[k]? =some s-> ∃v,l[k]? =some v/\ab e v s/\Bx s=true:=by
    intro k;induction k with
    |zero=>
     intro vs l hl hk;cases vs with
     |nil=>simp at hk
     |cons y ys=>simp at hk;subst hk;simp only [kN] at hl;obtain ⟨v,q,rfl,h1,h2,_⟩:=hl;exact ⟨v,rfl,h1,h2⟩
    |succ k ih=>
     intro vs l hl hk;cases vs with
     |nil=>simp at hk
     |cons y ys=>simp only [kN] at hl;obtain ⟨v,q,rfl,_,_,h3⟩:=hl;obtain ⟨u,h4,h5⟩:=ih ys q h3 (by simpa using hk);exact ⟨u,by simpa using h4,h5⟩
   obtain ⟨v,Q4,h1,h2⟩:=this k vs arr.toList hs hk;have hv3:arr[k]? =some v:=by simpa using Q4
   refine jb h ?_ h1 ?_ hK
   ·simp [execOp,ho,hv,Instr.extract,hv3]
   ·cases s<;>simp [Bx] at h2<;>trivial
 ·simp at hK
end
end Dn
/-
  Operations that make memory: variables. Conditions: none.
-/
namespace Dn
open Go
section
variable {P:Program}{c:Ctx}{Z:bC}{e:Env}{st:St}{a:Act} {w w':World}{R:Type}{K:St->Option R}{r:R}{Q:Exit->Act->World->Prop}{o:Oper}
theorem db.refl (w:World):db w w:=⟨aa6 _,λ_ _=>rfl,.refl _⟩
theorem db.alloc (w:World)(cs:Array Value)(t:TypeId):db w (w.alloc (.cells cs t)):=⟨by simp,λb hb=>rR w _ b hb,.alloc w cs t⟩
theorem db.anv (g:db w w'){base:Nat}{t:TypeId}{size:Nat}{v:Value}{n:Nat}{xs:List Value}(h:w.ownsRow base t size v n xs):w'.ownsRow base t size v n xs:=by
 refine ⟨h.1,?_⟩;rcases h.2 with h|⟨b,cap,cY,h1,h2,h3,h4⟩
 ·exact .inl h
 ·exact .inr ⟨b,cap,cY,h1,h2,by rw [g.rK b (aZ h3)];exact h3,h4⟩
theorem uI.grow (g:db w w'){a8:Nat}{cs:List aE}(h:uI Z e w a8 cs):uI Z e w' a8 cs:=by obtain ⟨o,h1,h2⟩:=h.obj;exact ⟨h.ch,⟨o,by rw [g.rK _ (aZ h1)];exact h1,h2⟩,h.free⟩
theorem cu.grow (g:db w w'){v:Value}{f:oM}(h:cu c Z e w v f):cu c Z e w' v f:=by obtain ⟨I,cells,h1,h2,h3,h4,h5⟩:=h.row;exact ⟨I,cells,h1,h2,g.anv h3,h4,h5⟩
theorem bS.grow (g:db w w')(h:bS c Z e st a w):bS c Z e st a w':=by refine ⟨h.defers,h.size,h.m,h.key,h.nodup,?_,h.root,λf o ho=>(h.iK f o ho).grow g,h.bb,h.bf,h.ff,λb o v hv=>g.cell (h.kZ b o v hv),λb hb=>h.ch b (adX g.size hb)⟩;intro t;have hs:=h.slot t;generalize aq st.fr t=s at hs;cases s<;>simp only [bW] at hs⊢ <;>first|exact hs|exact ⟨hs.1,hs.2.grow g⟩
theorem db.trans (g:db w w')(hz: ∀b,w.heap.size<=b->Z b) (φ:Ph):Trans Z φ w φ w':=⟨.refl φ,λb _ hl=>g.rK b hl,λ_ _ _=>rfl,g.size,g.rest⟩
theorem Vb {l:aE}{vs:List Value}(h:X7 l vs=true):aM e vs l:=by
 unfold X7 at h;split at h
 ·simp at h;subst h;exact ⟨rfl,.b _⟩
 ·simp at h;obtain ⟨rfl,rfl⟩:=h;exact ⟨rfl,.i _ _⟩
 ·simp at h;subst h;exact ⟨rfl,.s _⟩
 ·split at h
  ·exact ⟨rfl,.raw _ rfl⟩
  ·exact ⟨rfl,.raw _ rfl⟩
  ·exact ⟨rfl,.raw _ rfl⟩
  ·simp at h
 ·rfl
 ·exact ⟨_,rfl,h⟩
 ·rename_i x;simp only [abM,beq_iff_eq] at h;obtain ⟨h1,h2⟩:=h;show vs=bq x;apply List.ext_getElem?;intro j;by_cases hj:j<32
  ·rw [B3 x j hj];have hjv:j<vs.length:=by omega
   have Kl:j<x.l.length:=by rw [x.h];exact hj
   rw [afB] at h2;have hm:(vs[j],x.l[j])∈vs.zip x.l:=afc.2 ⟨j,by simp;omega,by simp⟩;have:=h2 _ hm;rw [IN hjv];dsimp only at this;split at this
   ·rename_i n hn;rw [hn,of_decide_eq_true this];simp [List.getD,IN Kl]
   ·simp at this
  ·rw [acC (by omega),acC (by rw [cX];omega)]
 ·simp at h
theorem lR {ls:List aE}: ∀{vs:List Value},uH ls vs=true->av e vs ls:=by
 induction ls with
 |nil=>intro vs h;simpa [uH,av] using h
 |cons l r ih=>intro vs h;simp only [uH,abM] at h;exact ⟨vs.take l.w,vs.drop l.w,by simp,Vb h.1.1,ih h.1.2⟩
theorem av.zH {cs:List aE}{vs:List Value}(h:av e vs cs):eT cs=false:=by
 cases hm:eT cs with
 |false=>rfl
 |true=>obtain ⟨s,ms,rfl⟩:=Ng hm;obtain ⟨_,_,_,h1,_⟩:=h;exact h1.elim
theorem Hk (h:bS c Z e st a w)(off:Nat):e.φ w.heap.size off=none:=by
 cases hp:e.φ w.heap.size off with
 |none=>rfl
 |some v=>have:=abR w _ (h.kZ _ _ _ hp);simp at this
theorem AL (h:bS c Z e st a w):(∀t fU,aq st.fr t= .box fU->e.B t≠w.heap.size)/\(∀f o,aI st.aP f=some o->(e.E f).ownBlock≠some w.heap.size):=by
 refine ⟨?_,?_⟩
 ·intro t fU ht;have hs:=h.slot t;rw [ht] at hs;obtain ⟨o,h1,_⟩:=hs.2.obj;have:=aZ h1;omega
 ·intro f o ho hk;obtain ⟨I,cells,h1,h2,h3,h4,h5⟩:=(h.iK f o ho).row;rcases h3.2 with ⟨hv,_⟩|⟨g,cap,cY,hv,_,hg,_⟩
  ·rw [hv] at hk;simp [aaW] at hk
  ·rw [hv] at hk;simp only [aaW,AT] at hk;have:=aZ hg;omega
theorem Tx {cells:Array Value}{T:TypeId}{cs:List aE}(h:bS c Z e st a w)(hl:av e cells.toList cs): rk Z e (w.alloc (.cells cells T)) st (.pointer (some ⟨w.heap.size,0,none⟩)) (.box cs):=by exact ⟨w.heap.size,by rw [sP hl.zH],⟨h.ch _ (aa6 _),⟨_,iy w _,rfl,hl⟩,Hk h⟩,(AL h).1,(AL h).2⟩
theorem Yj {t:TypeId}{I:TI}(ho:o.op= .alloc t)(hI:c.tv t=some I)(hT:ia P c.ti)(h:bS c Z e st a w)(hK:bn c st o.dst (.box I.zero) K=some r):o.wp P a w (λa' w'=>db w w'/\Out c Z K r e.φ w a' w') Q:=by
 obtain ⟨lQ,hc⟩:=bj hI;obtain ⟨d,i,h1,h2,h3,h4⟩:=hT t I lQ;have hz: ∃z,i.zero=some z/\av e z.cells.toList I.zero:=by
  cases d<;>simp only [rT] at h4;case struct fs=>obtain ⟨_,_,_,_,_,_,cs,hz,hl,_⟩:=h4;exact ⟨_,hz,by simpa [abK] using lR hl⟩
  case tuple ts=>exact absurd hc h4.2.1
  case slice el=>obtain ⟨_,_,_,_,_,hz,hl,_⟩:=h4;exact ⟨_,hz,by rw [hl];exact ⟨[.slice none 0 0],[],rfl,rfl,rfl⟩⟩
  case array n el=>obtain ⟨_,_,_,_,_,_,_,hl,hz⟩:=h4;exact ⟨_,hz,by rw [hl];exact ⟨bq kM.zero,[],by simp [abK],rfl,rfl⟩⟩
  case bool=>obtain ⟨_,_,_,_,hl,hz⟩:=h4;exact ⟨_,hz,by rw [hl];exact ⟨[.bool false],[],rfl,⟨rfl,.b _⟩,rfl⟩⟩
  case int k=>obtain ⟨_,_,_,_,hl,hz⟩:=h4;exact ⟨_,hz,by rw [hl];exact ⟨[.int k 0],[],rfl,⟨rfl,.i _ _⟩,rfl⟩⟩
  case string=>obtain ⟨_,_,_,_,hl,b,hz,hb⟩:=h4;refine ⟨_,hz,by rw [hl];refine ⟨[.string b],[],rfl,⟨rfl,?_⟩,rfl⟩;rw [<-hb];exact .s b⟩
  all_goals
   obtain ⟨_,_,_,_,v,hz,hv,hl⟩:=h4;refine ⟨v,hz,?_⟩;have:v.cells.toList=[v]:=by cases v<;>simp_all [abK,No]
   rw [this];exact lR hl
 obtain ⟨z,hz,hl⟩:=hz;have bF:(execOp a.eval o).run P w= .ok (.value (.pointer (some ⟨w.heap.size,0,none⟩))) (w.alloc (.cells z.cells t)):=by simp [execOp,ho,Instr.alloc,zeroValue,typeInfo,h2,hz,newVar,newRow,newObj,Sem.run]
 exact Rz (.alloc w _ _) bF (h.grow (.alloc w _ _)) ((db.alloc w _ _).trans h.ch _) (Tx h hl) hK
theorem agj {t:TypeId}{x:Operand}{I:TI}(ho:o.op= .box t x)(h:bS c Z e st a w)(hK:af0 I (aH c st x) (λs=>bn c st o.dst s K)=some r):o.wp P a w (λa' w'=>db w w'/\Out c Z K r e.φ w a' w') Q:=by
 obtain ⟨hx,pN⟩:=h.eval x;have bF:(execOp a.eval o).run P w= .ok (.value (.pointer (some ⟨w.heap.size,0,none⟩))) (w.alloc (.cells (a.eval x).cells t)):=by simp [execOp,ho,Instr.box,newVar,newRow,newObj,Sem.run]
 have go: ∀cs,av e (a.eval x).cells.toList cs->bn c st o.dst (.box cs) K=some r->o.wp P a w (λa' w'=>db w w'/\Out c Z K r e.φ w a' w') Q:=λcs h1 h2=>Rz (.alloc w _ _) bF (h.grow (.alloc w _ _)) ((db.alloc w _ _).trans h.ch _) (Tx h h1) h2;generalize aH c st x=s at hx hK pN;unfold af0 at hK;split at hK
 ·rename_i l;cases hb:I.st||OX l||!bN l.w I.size with
  |true=>simp [hb] at hK
  |false=>
   simp only [hb,cond_false] at hK;refine go [l] ?_ hK;cases l with
   |un=>simp [OX] at hb
   |hs y=>simp only [ab] at hx;rw [hx];exact ⟨bq y,[],by simp [abK],rfl,rfl⟩
   |p m=>
    simp only [ab] at hx;have:(a.eval x).cells.toList=[a.eval x]:=by have:=hx.cells (a.eval x) (by simp);generalize a.eval x=v at this;cases v<;>simp_all [abK,No]
    rw [this];exact ⟨_,[],rfl,hx,rfl⟩
   |nil=>simp only [ab] at hx;have Vc:[a.eval x]=[abX none 0 0]:=hx;simp at Vc;rw [Vc];exact ⟨[.slice none 0 0],[],rfl,rfl,rfl⟩
   |mp s es=>simp [OX] at hb
   |own f=>
    simp only [ab] at hx;have:(a.eval x).cells.toList=[a.eval x]:=by have:=hx.cells (a.eval x) (by simp);generalize a.eval x=v at this;cases v<;>simp_all [abK,No]
    rw [this];exact ⟨_,[],rfl,hx,rfl⟩
 ·rename_i cs;cases hb:I.st&&!wb cs&&bN (zu cs) I.size with
  |false=>simp [hb] at hK
  |true=>simp only [hb,cond_true] at hK;simp only [ab] at hx;obtain ⟨arr,hx,hl⟩:=hx;exact go cs (by rw [hx];exact hl) hK
 ·simp at hK
end
end Dn
/-
  Stores into variables. Conditions: none.
-/
namespace Dn
open Go
section
variable {P:Program}{c:Ctx}{Z:bC}{e:Env}{st:St}{a:Act} {w w':World}{R:Type}{K:St->Option R}{r:R}{Q:Exit->Act->World->Prop}{o:Oper}
theorem setRow_size (w:World)(g:Nat)(cs:Array Value):(w.setRow g cs).heap.size=w.heap.size:=by simp [World.setRow]
structure Xw (g:Nat) (w w':World):Prop where
 size:w'.heap.size=w.heap.size
 other: ∀b,b≠g->w'.heap[b]? =w.heap[b]?
 rest:Rest w w'
theorem Xw.setRow (w:World)(g:Nat)(cs:Array Value):Xw g w (w.setRow g cs):=⟨setRow_size _ _ _,λb hb=>setRow_other _ _ _ _ hb,.setRow _ _ _⟩
theorem Pa {g:Nat}(hc:Xw g w w'){base:Nat}{t:TypeId}{size:Nat}{v:Value}{n:Nat}{xs:List Value}(cR:v.ownBlock≠some g)(h:w.ownsRow base t size v n xs):w'.ownsRow base t size v n xs:=by
 refine ⟨h.1,?_⟩;rcases h.2 with h|⟨b,cap,cY,h1,h2,h3,h4⟩
 ·exact .inl h
 ·refine .inr ⟨b,cap,cY,h1,h2,?_,h4⟩;rw [hc.other _ (by intro e;subst e;subst h1;exact cR rfl)];exact h3
theorem RF {g:Nat}{cs:Array Value}{base:Nat}{t:TypeId}{size:Nat}{v:Value}{n:Nat}{xs:List Value}(cR:v.ownBlock≠some g)(h:w.ownsRow base t size v n xs):(w.setRow g cs).ownsRow base t size v n xs:=Pa (.setRow w g cs) cR h
theorem bS.setObj {root:Nat}{cs fU:List aE} {o':Obj}{pT:Fr}(h:bS c Z e st a w)(hf:aq st.fr root= .box cs)(OM:Xw (e.B root) w w')(jC:w'.heap[e.B root]? =some o')(hl:kr e o' fU)(hmm:lO fU=lO cs)(zo: ∀t,aq pT t=if t=root then .box fU else aq st.fr t)(hnd:(aN pT).Nodup):bS c Z e {st with fr:=pT} a w':=by
 have pJ:=OM.size;have lr:=h.slot root;rw [hf] at lr;refine ⟨h.defers,h.size,h.m,h.key,hnd,?_,?_,?_,?_,?_,h.ff,?_,λb hb=>h.ch b (by omega)⟩
 ·intro t;show bW Z e _ t _ (aq pT t);rw [zo];by_cases ht:t=root
  ·subst ht;simp only [if_true,bW];exact ⟨lr.1.lO hmm,⟨lr.2.ch,⟨o',jC,hl⟩,lr.2.free⟩⟩
  ·simp only [ht,if_false];have hs:=h.slot t;have DY:=h.bb t root;generalize hg:aq st.fr t=s at hs DY;cases s<;>simp only [bW] at hs⊢ <;>try exact hs
   rename_i yT;refine ⟨hs.1,hs.2.ch,?_,hs.2.free⟩;obtain ⟨o2,h1,h2⟩:=hs.2.obj;exact ⟨o2,by rw [OM.other _ (DY yT cs rfl hf ht)];exact h1,h2⟩
 ·intro t;show cC pT (aq pT t);rw [zo];by_cases ht:t=root
  ·simp [ht,cC]
  ·simp only [ht,if_false];have hr:=h.root t;generalize aq st.fr t=s at hr;cases s<;>simp only [cC] at hr⊢ <;>(rw [zo];split<;>simp_all [cV])
 ·intro f o ho;obtain ⟨I,cells,h1,h2,h3,h4,h5⟩:=(h.iK f o ho).row;exact ⟨I,cells,h1,h2,Pa OM (h.bf root cs f o hf ho) h3,h4,h5⟩
 ·intro t t' c1 c2 h1 h2 cR;have h1:aq pT t= .box c1:=h1;have h2:aq pT t'= .box c2:=h2;rw [zo] at h1 h2;by_cases ht:t=root
  ·by_cases B2:t'=root
   ·exact absurd (ht.trans B2.symm) cR
   ·simp only [B2,if_false] at h2;rw [ht];exact h.bb root t' cs c2 hf h2 (by rw [<-ht];exact cR)
  ·simp only [ht,if_false] at h1;by_cases B2:t'=root
   ·rw [B2];exact h.bb t root c1 cs h1 hf ht
   ·simp only [B2,if_false] at h2;exact h.bb t t' c1 c2 h1 h2 cR
 ·intro t c1 f o h1 h2;have h1:aq pT t= .box c1:=h1;rw [zo] at h1;by_cases ht:t=root
  ·rw [ht];exact h.bf root cs f o hf h2
  ·simp only [ht,if_false] at h1;exact h.bf t c1 f o h1 h2
 ·intro b o v hv;have cR:b≠e.B root:=by intro eb;subst eb;rw [lr.2.free] at hv;cases hv
  have:=h.kZ b o v hv;rw [abV (OM.other _ cR)];exact this
theorem bS.Yk {root:Nat}{cs fU:List aE}{arr KD:Array Value}{T:TypeId}{pT:Fr}(h:bS c Z e st a w)(hf:aq st.fr root= .box cs)(cz:w.heap[e.B root]? =some (.cells arr T (0,0)))(hl:av e KD.toList fU)(zo: ∀t,aq pT t=if t=root then .box fU else aq st.fr t)(hnd:(aN pT).Nodup):bS c Z e {st with fr:=pT} a (w.setRow (e.B root) KD):=by
 have lr:=h.slot root;rw [hf] at lr;have hm:eT cs=false:=by obtain ⟨o,h1,h2⟩:=lr.2.obj;rw [cz] at h1;cases h1;exact h2.2.zH
 exact h.setObj hf (.setRow _ _ _) (setRow_heap _ _ _ _ _ _ cz) ⟨rfl,hl⟩ (by rw [xk hm,xk hl.zH]) zo hnd
theorem Trans.chg {g:Nat} (φ:Ph)(OM:Xw g w w')(hz:Z g):Trans Z φ w φ w':=⟨.refl φ,λb hb _=>OM.other _ (by intro e;subst e;exact hb hz),λ_ _ _=>rfl,by rw [OM.size];exact aa6 _,OM.rest⟩
theorem Trans.setRow {g:Nat}{KD:Array Value} (φ:Ph)(hz:Z g):Trans Z φ w φ (w.setRow g KD):=⟨.refl φ,λb hb _=>setRow_other _ _ _ _ (by intro e;subst e;exact hb hz),λ_ _ _=>rfl,by rw [setRow_size];exact aa6 _,.setRow _ _ _⟩
theorem Bz {v:Value}{s:Slot}(h:ab e v s)(hu:wb (aJ s)=false)(cR:aJ s≠[]):av e v.cells.toList (aJ s):=by
 cases s with
 |sc l=>
  simp only [aJ] at hu⊢;have jd: ∀l,aM e [v] l->av e v.cells.toList [l]:=by
   intro l hl;have hc:=hl.cells v (by simp);have:v.cells.toList=[v]:=by cases v<;>simp_all [abK,No]
   rw [this];exact ⟨[v],[],rfl,hl,rfl⟩
  cases l with
  |un=>simp [wb,OX] at hu
  |hs x=>simp only [ab] at h;rw [h];exact ⟨bq x,[],by simp [abK],rfl,rfl⟩
  |p m=>simp only [ab] at h;exact jd _ h
  |nil=>simp only [ab] at h;exact jd _ h
  |mp s es=>simp [wb,OX] at hu
  |own f=>simp only [ab] at h;exact jd _ h
 |ag cs=>simp only [ab] at h;obtain ⟨arr,rfl,hl⟩:=h;exact hl
 |_=>exact absurd rfl cR
theorem nE {t:TypeId}{I:TI}{a8 off:Nat}{v:Value}{arr:Array Value}{T:TypeId}(hr:oh c.ti P t I)(hc:I.ct=[])(hs:v.cells.toList.length=I.size)(jd: ∀u∈v.cells.toList,u.oneCell'=true)(cz:w.heap[a8]? =some (.cells arr T (0,0)))(yU:off+I.size<=arr.size): (adn t (.pointer (some ⟨a8,off,none⟩)) v).run P w= .ok () (w.setRow a8 (arr.toList.take off++v.cells.toList++arr.toList.drop (off+I.size)).toArray):=by
 obtain ⟨i,hi,pJ,_⟩:=hr.info hc;have h1:=run_storeCells_at P a8 off T v.cells.toList 0 arr w cz (by omega) jd;rw [ade,hs] at h1;have h2:v.cells.size=i.size:=by rw [pJ,<-hs];simp
 simp [adn,adf,storeVar,abU,typeInfo,hi,h2,h1]
theorem Vd {t:TypeId}{I:TI}{root off:Nat}{v:Value}{cs ls fU:List aE} {K':St->Option R}(uJ:eT cs=false)(hr:oh c.ti P t I)(hc:I.ct=[])(h:bS c Z e st a w)(hf:aq st.fr root= .box cs)(hv:av e v.cells.toList ls)(Gc:zu ls=I.size)(hp:putAt cs off ls=some fU)(hK:wr st root (.box fU) K'=some r): ∃w' bY,(adn t (.pointer (some ⟨e.B root,off,none⟩)) v).run P w= .ok () w'/\bS c Z e bY a w'/\Trans Z e.φ w e.φ w'/\K' bY=some r:=by
 have nn:=h.slot root;rw [hf] at nn;obtain ⟨arr,T,cz,pI⟩:=nn.2.cells uJ;obtain ⟨v1,v2,v3,he,h1,h2,h3⟩:=xi hp pI hv;have hlen:=hv.width;have pJ:arr.size=v1.length+v2.length+v3.length:=by
  have:arr.toList.length=(v1++v2++v3).length:=by rw [he]
  simp at this;omega
 have bF:=nE (P:=P) (w:=w) (a8:=e.B root) (off:=off) hr hc (by rw [hlen,Gc]) hv.cells cz (by omega);have ai4:arr.toList.take off=v1:=by rw [he,AI,ac9 h1]
 have ai5:arr.toList.drop (off+I.size)=v3:=by rw [he];exact ab8 (by rw [By];omega)
 rw [ai4,ai5] at bF;unfold wr at hK;cases hn:bx st.cA root with
 |true=>simp [hn] at hK
 |false=>simp only [hn,cond_false,force_eq,mB] at hK;refine ⟨_,_,bF,?_,.setRow _ (OJ nn.2.ch (by rw [<-h.defers.2.1,<-bu,hn];simp)),hK⟩;exact h.Yk hf cz (by simpa using h3) (λt=>by rw [bL]) (ej h.nodup)
end
end Dn
/-
  Owned slices that are shared from now on; what is handed to a callee. Conditions: none.
-/
namespace Dn
open Go
section
variable {P:Program}{c:Ctx}{Z:bC}{e:Env}{st:St}{a:Act} {w w':World}{R:Type}{K:St->Option R}{r:R}{Q:Exit->Act->World->Prop}{o:Oper}
theorem aX.mono {key:Nat->Nat} {φ φ':Ph}(h:gZ φ φ'){size:Nat}{xs:List MV}: ∀{cs:List Value},aX key φ size cs xs->aX key φ' size cs xs:=by
 induction xs with
 |nil=>intro cs hh;exact hh
 |cons x xs ih=>intro cs hh;obtain ⟨v,q,rfl,h1,h2,h3⟩:=hh;exact ⟨v,q,rfl,h1,h2.mono h,ih h3⟩
theorem aX.length {key:Nat->Nat} {φ:Ph}{size:Nat}{xs:List MV}: ∀{cs:List Value},aX key φ size cs xs->cs.length=xs.length *size:=by
 induction xs with
 |nil=>intro cs hh;cases hh;simp
 |cons x xs ih=>intro cs hh;obtain ⟨v,q,rfl,h1,h2,h3⟩:=hh;simp [h1,ih h3,ab2,afw]
theorem RG {m:List (Nat×oM)}{f:Nat}{o:oM}(h:aI m f=some o):bR m f o=m:=by
 induction m with
 |nil=>simp [aI] at h
 |cons p r ih=>
  obtain ⟨k,x⟩:=p;simp only [aI,bR,fm] at h⊢;by_cases hk:k=f
  ·subst hk;simp at h;subst h;simp
  ·simp only [hk,decide_false,cond_false] at h⊢;rw [ih h]
def kj (φ:Ph)(v:Value)(cells:List Value):Ph:=λb off=>if v.ownBlock=some b/\off<cells.length then cells[off]? else φ b off
theorem Fg {base:Nat}{t:TypeId}{size n:Nat}{v:Value}{xs ys:List Value}(h:w.ownsRow base t size v n xs) (h':w.ownsRow base t size v n ys){b:Nat}(hb:v.ownBlock=some b):xs=ys:=by
 rcases h.2 with ⟨h1,_⟩|⟨g,cap,cY,h1,_,h2,_,_,_,h3⟩
 ·rw [h1] at hb;simp [aaW] at hb
 ·rcases h'.2 with ⟨GK,_⟩|⟨g',Yl,mZ,GK,_,Nk,_,_,_,h3'⟩
  ·rw [GK] at hb;simp [aaW] at hb
  ·rw [h1] at GK;simp at GK;obtain ⟨rfl,rfl⟩:=GK;rw [h2] at Nk;simp at Nk;subst Nk;rw [<-h3,<-h3']
theorem freeze {f:Nat}{o:oM}(h:bS c Z e st a w)(hf:aI st.aP f=some o)(hp:f∉Z.cy\/o.ei=true): ∃φ',gZ e.φ φ'/\(∀b off,¬Z b->φ' b off=e.φ b off)/\bS c Z {e with φ:=φ',m:=bR e.m f ⟨o.ty,true,o.xs⟩} {st with aP:=bR st.aP f ⟨o.ty,true,o.xs⟩} a w/\ gY e.key φ' [e.E f] (.list o.xs)/\ (∀I cells,c.ti o.ty=some I->w.ownsRow 0 o.ty I.size (e.E f) o.xs.length cells-> ∀a8,(e.E f).ownBlock=some a8-> ∀j,j<cells.length->φ' a8 j=cells[j]?):=by
 obtain ⟨I,cells,hI,Q5,dn,ib,hz⟩:=(h.iK f o hf).row;have hlen:=ib.length;have hle:gZ e.φ (kj e.φ (e.E f) cells):=by
  intro b off v hv;unfold kj;by_cases hc:(e.E f).ownBlock=some b/\off<cells.length
  ·simp only [hc,and_self,if_true];obtain ⟨hb,ho⟩:=hc;rcases dn.2 with ⟨hE,_⟩|⟨g,cap,cY,hE,_,hg,hn,CD,uq,Lu⟩
   ·rw [hE] at hb;simp [aaW] at hb
   ·rw [hE] at hb;simp only [aaW,AT] at hb;subst hb;have:=h.kZ _ _ _ hv;rw [cell_of hg] at this;rw [<-Lu,abZ];have cB:off<o.xs.length *I.size:=by omega
    simp only [cB,if_true];simpa using this
  ·simp only [hc,if_false];exact hv
 have iQ: ∀b off v,kj e.φ (e.E f) cells b off=some v->w.cell? ⟨b,off,none⟩=some v:=by
  intro b off v hv;unfold kj at hv;by_cases hc:(e.E f).ownBlock=some b/\off<cells.length
  ·simp only [hc,and_self,if_true] at hv;rcases dn.2 with ⟨hE,_⟩|⟨g,cap,cY,hE,_,hg,hn,CD,uq,Lu⟩
   ·rw [hE] at hc;simp [aaW] at hc
   ·rw [hE] at hc;simp only [aaW,AT] at hc;obtain ⟨hb,ho⟩:=hc;subst hb;rw [cell_of hg];rw [<-Lu,abZ] at hv;have cB:off<o.xs.length *I.size:=by omega
    simp only [cB,if_true] at hv;simpa using hv
  ·simp only [hc,if_false] at hv;exact h.kZ _ _ _ hv
 have ai6: ∀b off,¬Z b->kj e.φ (e.E f) cells b off=e.φ b off:=by
  intro b off hb;unfold kj;by_cases hc:(e.E f).ownBlock=some b/\off<cells.length
  ·by_cases zJ:f∈Z.cy
   ·simp only [hc,and_self,if_true];exact (((hz b hc.1).2.2 zJ (hp.resolve_left (λhn=>hn zJ))) off hc.2).symm
   ·exact absurd (OJ (hz b hc.1).1 zJ) hb
  ·simp [hc]
 have RH: ∀b off,(e.E f).ownBlock≠some b->kj e.φ (e.E f) cells b off=e.φ b off:=by intro b off hb;unfold kj;simp [hb]
 have rS:ki (λ_=>True) (λ_=>True) e {e with φ:=kj e.φ (e.E f) cells,m:=bR e.m f ⟨o.ty,true,o.xs⟩}:=by
  refine ⟨rfl,hle,λ_ _=>rfl,?_⟩;intro f2 o2 cB _;have cB:aI (bR e.m f ⟨o.ty,true,o.xs⟩) f2=some o2:=cB;rw [bm] at cB;by_cases eU:f2=f
  ·subst eU;simp at cB;subst cB;exact ⟨o,by rw [h.m];exact hf,rfl,rfl⟩
  ·simp only [eU,if_false] at cB;exact ⟨o2,cB,rfl,rfl⟩
 have sR: ∀s:Slot,fF (λ_=>True) (λ_=>True) s:=by intro s;cases s<;>simp [fF,jB]
 refine ⟨_,hle,ai6,?_,?_,?_⟩;rotate_right
 ·intro I' Ym hI' ai7 a8 hb j hj;rw [hI] at hI';cases hI';have hcc:=Fg dn ai7 hb;subst hcc;unfold kj;simp [hb,hj]
 ·refine ⟨h.defers,h.size,by show bR e.m f _=bR st.aP f _;rw [h.m],h.key,h.nodup,?_,h.root,?_,h.bb,?_,?_,iQ,h.ch⟩
  ·intro t;have hs:=h.slot t;have hbf:=h.bf t;show bW Z _ w t _ (aq st.fr t);generalize aq st.fr t=s at hs hbf;cases s<;>simp only [bW] at hs⊢ <;>try exact hs.on rS (sR _)
   rename_i cs;refine ⟨hs.1,hs.2.ch,?_,?_⟩
   ·obtain ⟨o2,h1,h2⟩:=hs.2.obj;exact ⟨o2,h1,h2.on rS (λl _ f _=>trivial)⟩
   ·intro off;show kj e.φ (e.E f) cells (e.B t) off=none;rw [RH _ _ (hbf cs f o rfl hf)];exact hs.2.free off
  ·intro f2 o2 cB;have cB:aI (bR st.aP f ⟨o.ty,true,o.xs⟩) f2=some o2:=cB;rw [bm] at cB;by_cases eU:f2=f
   ·subst eU;simp at cB;subst cB;refine ⟨I,cells,hI,Q5,dn,ib.mono hle,?_⟩;intro a8 hb;refine ⟨(hz a8 hb).1,?_,?_⟩;rotate_left
    ·intro _ _ j hj;show kj e.φ (e.E f2) cells a8 j=_;have hb:(e.E f2).ownBlock=some a8:=hb;unfold kj;simp [hb,hj]
    intro off u hu;refine ⟨rfl,?_⟩;have hu:kj e.φ (e.E f2) cells a8 off=some u:=hu;unfold kj at hu;by_cases hc:(e.E f2).ownBlock=some a8/\off<cells.length
    ·show off<o.xs.length *I.size;rw [<-hlen];exact hc.2
    ·simp only [hc,if_false] at hu;exact ((hz a8 hb).2.1 off u hu).2
   ·simp only [eU,if_false] at cB;obtain ⟨I2,vu,h1,h2,h3,h4,h5⟩:=(h.iK f2 o2 cB).row;refine ⟨I2,vu,h1,h2,h3,h4.mono hle,?_⟩;intro a8 hb;refine ⟨(h5 a8 hb).1,?_,?_⟩;rotate_left
    ·intro g1 g2 j hj;show kj e.φ (e.E f) cells a8 j=_;rw [RH _ _ (λhbf=>eU (h.ff f2 f o2 o a8 cB hf hb hbf))];exact (h5 a8 hb).2.2 g1 g2 j hj
    intro off u hu;have hu:kj e.φ (e.E f) cells a8 off=some u:=hu;rw [RH _ _ (λhbf=>eU (h.ff f2 f o2 o a8 cB hf hb hbf))] at hu;exact (h5 a8 hb).2.1 off u hu
  ·intro t cs f2 o2 h1 h2;have h2:aI (bR st.aP f ⟨o.ty,true,o.xs⟩) f2=some o2:=h2;rw [bm] at h2;by_cases eU:f2=f
   ·subst eU;exact h.bf t cs f2 o h1 hf
   ·simp only [eU,if_false] at h2;exact h.bf t cs f2 o2 h1 h2
  ·intro f1 f2 o1 o2 k h1 h2 h3 h4;have h1:aI (bR st.aP f ⟨o.ty,true,o.xs⟩) f1=some o1:=h1;have h2:aI (bR st.aP f ⟨o.ty,true,o.xs⟩) f2=some o2:=h2;rw [bm] at h1 h2;have g1: ∃o',aI st.aP f1=some o':=by
    by_cases eU:f1=f
    ·subst eU;exact ⟨o,hf⟩
    ·simp only [eU,if_false] at h1;exact ⟨o1,h1⟩
   have g2: ∃o',aI st.aP f2=some o':=by
    by_cases eU:f2=f
    ·subst eU;exact ⟨o,hf⟩
    ·simp only [eU,if_false] at h2;exact ⟨o2,h2⟩
   obtain ⟨q1,g1⟩:=g1;obtain ⟨q2,g2⟩:=g2;exact h.ff f1 f2 q1 q2 k g1 g2 h3 h4
 ·have zK:=ib.mono hle;rcases dn.2 with ⟨hE,hn⟩|⟨g,cap,cY,hE,_,hg,hn,CD,uq,Lu⟩
  ·have hx:o.xs=[]:=BY hn;have hv:[e.E f]=[abX none 0 0]:=by rw [hE]
   rw [hv,hx];exact .list none 0 [] 0 0 0 (λ_=>[]) (by simp) (by simp) (by simp) (by simp) (by simp)
  ·have hv:[e.E f]=[abX (some ⟨g,0,none⟩) o.xs.length cap]:=by rw [hE]
   rw [hv];have Gd: ∀i (hi:i<o.xs.length),∃v1,v1.length=I.size/\gY e.key (kj e.φ (e.E f) cells) v1 o.xs[i]/\(cells.drop (i *I.size)).take I.size=v1:=by intro i hi;obtain ⟨p1,v1,p2,he,CE,sv,eK⟩:=zK.at (IN hi);refine ⟨v1,sv,eK,?_⟩;rw [he,AI,<-CE,agn,<-sv,adh]
   refine .list (some ⟨g,0,none⟩) cap o.xs g 0 I.size (λi=>(cells.drop (i *I.size)).take I.size) hn (λ_=>rfl) ?_ ?_ ?_
   ·intro i hi;obtain ⟨v1,h1,_,h3⟩:=Gd i hi;rw [h3,h1]
   ·intro i j hi hj;have hb:(e.E f).ownBlock=some g:=by rw [hE];rfl
    have zL:i *I.size+j<cells.length:=by
     rw [hlen];calc i *I.size+j<i *I.size+I.size:=by omega
      _=(i+1) *I.size:=by rw [ab2]
      _<=o.xs.length *I.size:=abN _ hi
    rw [abQ];unfold kj;simp only [hb,zL,and_self,if_true];rw [abZ];simp only [hj,if_true,afq]
   ·intro i hi;obtain ⟨v1,_,h2,h3⟩:=Gd i hi;rw [h3];exact h2
end
end Dn
/-
  Arguments and results. Conditions: none.
-/
namespace Dn
open Go
structure Ext (Z:Nat->Prop) (e e':Env):Prop where
 on:ki (λ_=>True) (λ_=>True) e e'
 ch: ∀b off,¬Z b->e'.φ b off=e.φ b off
theorem Ext.refl (Z:Nat->Prop)(e:Env):Ext Z e e:=⟨⟨rfl,.refl _,λ_ _=>rfl,λf o h _=>⟨o,h,rfl,rfl⟩⟩,λ_ _ _=>rfl⟩
theorem Ext.trans {Z:Nat->Prop} {e e' e'':Env}(h:Ext Z e e') (h':Ext Z e' e''):Ext Z e e'':=by refine ⟨⟨h'.on.key.trans h.on.key,h.on.φ.trans h'.on.φ,λr hr=>(h'.on.B r hr).trans (h.on.B r hr),?_⟩,λb off hb=>(h'.ch b off hb).trans (h.ch b off hb)⟩;intro f o ho _;obtain ⟨o1,h1,h2,h3⟩:=h'.on.iK f o ho trivial;obtain ⟨o2,h4,h5,h6⟩:=h.on.iK f o1 h1 trivial;exact ⟨o2,h4,h2.trans h5,h3.trans h6⟩
theorem Ext.tr {Z:Nat->Prop} {e e':Env}{w:World}(h:Ext Z e e'):Trans Z e.φ w e'.φ w:=⟨h.on.φ,λ_ _ _=>rfl,h.ch,aa6 _,.refl _⟩
theorem dH (s:Slot):fF (λ_=>True) (λ_=>True) s:=by cases s<;>simp [fF,jB]
def bg (key:Nat->Nat) (φ:Ph):List Value->List MV->Prop
 |vs,[]=>vs=[]
 |vs,m::ms=> ∃v r,vs=v::r/\di key φ v m/\bg key φ r ms
theorem bg.mono {key:Nat->Nat} {φ φ':Ph}(h:gZ φ φ'){ms:List MV}: ∀{vs:List Value},bg key φ vs ms->bg key φ' vs ms:=by
 induction ms with
 |nil=>intro vs hh;exact hh
 |cons m ms ih=>intro vs hh;obtain ⟨v,r,rfl,h1,h2⟩:=hh;exact ⟨v,r,rfl,h1.mono h,ih h2⟩
theorem bg.append {key:Nat->Nat} {φ:Ph}{ms ns:List MV}: ∀{vs us:List Value},bg key φ vs ms->bg key φ us ns->bg key φ (vs++us) (ms++ns):=by
 induction ms with
 |nil=>intro vs us h h';cases h;simpa using h'
 |cons m ms ih=>intro vs us h h';obtain ⟨v,r,rfl,h1,h2⟩:=h;exact ⟨v,r++us,rfl,h1,ih h2 h'⟩
section
variable {P:Program}{c:Ctx}{Z:bC}{e:Env}{st:St}{a:Act} {w w':World}{R:Type}{r:R}{Q:Exit->Act->World->Prop}{o:Oper}
theorem lS {l:aE}{vs:List Value}{K:MV->St->Option R}(h:bS c Z e st a w)(hl:aM e vs l)(hK:nT st l K=some r): ∃e' bY m,bS c Z e' bY a w/\Ext Z e e'/\bY.fr=st.fr/\gY e'.key e'.φ vs m/\K m bY=some r/\(sM l=true->e'=e/\bY=st)/\(∀f,l= .own f-> ∃o,aI st.aP f=some o/\m= .list o.xs)/\((∀x,l≠ .hs x)->m.one=true):=by
 cases l with
 |un=>simp [nT] at hK
 |p m=>exact ⟨e,st,m,h,.refl _ _,rfl,hl.2,hK,λ_=>⟨rfl,rfl⟩,by simp,λ_=>hl.1⟩
 |hs x=>have hl:vs=bq x:=hl;subst hl;exact ⟨e,st,.h x,h,.refl _ _,rfl,.h x,hK,λ_=>⟨rfl,rfl⟩,by simp,λhx=>absurd rfl (hx x)⟩
 |nil=>have hl:vs=[.slice none 0 0]:=hl;subst hl;exact ⟨e,st,.list [],h,.refl _ _,rfl,.list none 0 [] 0 0 0 (λ_=>[]) (by simp) (by simp) (by simp) (by simp) (by simp),hK,λhp=>by simp [sM] at hp,λ_ he=>(by cases he),λ_=>rfl⟩
 |mp s es=>simp [nT] at hK
 |own f=>
  simp only [nT] at hK;cases hf:aI st.aP f with
  |none=>simp [hf] at hK
  |some o=>
   simp only [hf] at hK;have zJ:f∉Z.cy\/o.ei=true:=by
    cases hz:o.ei with
    |true=>exact .inr rfl
    |false=>refine .inl (λhm=> ?_);rw [<-h.defers.2.2.1,<-bu] at hm;simp [hz,hm] at hK
   obtain ⟨φ',h1,h2,h3,h4,_⟩:=freeze h hf zJ;obtain ⟨v,rfl,hv,hE⟩:=hl;have hE:=hE o (by rw [h.m];exact hf);subst hE;have acj:Ext Z e {e with φ:=φ',m:=bR e.m f ⟨o.ty,true,o.xs⟩}:=by
    refine ⟨⟨rfl,h1,λ_ _=>rfl,?_⟩,h2⟩;intro f2 o2 cB _;have cB:aI (bR e.m f ⟨o.ty,true,o.xs⟩) f2=some o2:=cB;rw [bm] at cB;by_cases eU:f2=f
    ·subst eU;simp at cB;subst cB;exact ⟨o,by rw [h.m];exact hf,rfl,rfl⟩
    ·simp only [eU,if_false] at cB;exact ⟨o2,cB,rfl,rfl⟩
   cases hz:o.ei with
   |true=>
    simp only [hz,cond_true] at hK;have ai9:bR st.aP f ⟨o.ty,true,o.xs⟩=st.aP:=by rw [<-hz];exact RG hf
    rw [ai9] at h3;exact ⟨_,st,.list o.xs,h3,acj,rfl,h4,hK,λhp=>by simp [sM] at hp,λ_ he=>by cases he;exact ⟨o,hf,rfl⟩,λ_=>rfl⟩
   |false=>
    simp only [hz,cond_false] at hK;cases hn:bx st.cy f with
    |true=>simp [hn] at hK
    |false=>simp only [hn,cond_false,oV] at hK;exact ⟨_,_,.list o.xs,h3,acj,rfl,h4,hK,λhp=>by simp [sM] at hp,λ_ he=>by cases he;exact ⟨o,hf,rfl⟩,λ_=>rfl⟩
theorem np {ls:List aE}: ∀{e:Env} {st:St} {vs:List Value} {K:List MV->St->Option R},bS c Z e st a w->av e vs ls->qH st ls K=some r-> ∃e' bY ms,bS c Z e' bY a w/\Ext Z e e'/\bY.fr=st.fr/\ga e'.key e'.φ vs ms/\K ms bY=some r/\(iz ls=true->e'=e/\bY=st)/\(∀ps,rj ls ms=some ps->av e' vs ps/\iz ps=true):=by
 induction ls with
 |nil=>intro e st vs K h hl hK;cases hl;exact ⟨e,st,[],h,.refl _ _,rfl,.nil,hK,λ_=>⟨rfl,rfl⟩,λps hp=>by simp [rj] at hp;subst hp;exact ⟨rfl,rfl⟩⟩
 |cons l ls ih=>
  intro e st vs K h hl hK;obtain ⟨v,u,rfl,h1,h2⟩:=hl;simp only [qH] at hK;obtain ⟨e1,eJ,m,zn,CF,Ef,DZ,rU,Ve,_,jd⟩:=lS h h1 hK;obtain ⟨e2,eg,ms,Lv,Lw,ack,O6,yV,Lx,zM⟩:=ih zn (h2.on CF.on (λl _ f _=>trivial)) rU;have hrm:gY e2.key e2.φ v m:=by have:=DZ.mono Lw.on.φ;rw [<-Lw.on.key] at this;exact this
  refine ⟨e2,eg,m::ms,Lv,CF.trans Lw,ack.trans Ef,.cons v m u ms ?_ O6,yV,?_,?_⟩
  ·have:=DZ.mono Lw.on.φ;rw [<-Lw.on.key] at this;exact this
  ·intro hp;simp only [iz,abM] at hp;obtain ⟨q1,q2⟩:=Ve hp.1;obtain ⟨q3,q4⟩:=Lx hp.2;exact ⟨q3.trans q1,q4.trans q2⟩
  ·intro ps hp;cases hq:rj ls ms with
   |none=>cases l<;>simp [rj,hq] at hp
   |some q=>
    obtain ⟨g1,g2⟩:=zM q hq;by_cases hh: ∃x,l= .hs x
    ·obtain ⟨x,rfl⟩:=hh;simp [rj,hq] at hp;subst hp;exact ⟨⟨v,u,rfl,h1,g1⟩,by simp [iz,sM,g2]⟩
    ·have jd:=jd (λx hx=>hh ⟨x,hx⟩);have Nl:ps= .p m::q:=by cases l<;>simp [rj,hq] at hp<;>first|exact hp.symm|exact absurd ⟨_,rfl⟩ hh
     subst Nl;exact ⟨⟨v,u,rfl,⟨jd,hrm⟩,g1⟩,by simp [iz,sM,g2]⟩
theorem ol {s:Slot}{v:Value}{K:MV->St->Option R}(h:bS c Z e st a w)(hl:ab e v s)(hK:mW st s K=some r): ∃e' bY m,bS c Z e' bY a w/\Ext Z e e'/\bY.fr=st.fr/\di e'.key e'.φ v m/\K m bY=some r:=by
 cases s with
 |sc l=>
  simp only [mW] at hK;cases l with
  |un=>simp [nT] at hK
  |hs x=>simp only [ab] at hl;exact ⟨e,st,.h x,h,.refl _ _,rfl,by simpa [di,bq] using hl,hK⟩
  |p m=>simp only [ab] at hl;refine ⟨e,st,m,h,.refl _ _,rfl,?_,hK⟩;obtain ⟨h1,h2⟩:=hl;cases m<;>simp [MV.one] at h1<;>exact ⟨rfl,h2⟩
  |nil=>simp only [ab] at hl;obtain ⟨e',bY,m,q1,q2,q3,q4,q5,q6,_⟩:=lS h hl hK;have hl:[v]=[abX none 0 0]:=hl;refine ⟨e,st,.list [],h,.refl _ _,rfl,⟨rfl,?_⟩,hK⟩;rw [hl];exact .list none 0 [] 0 0 0 (λ_=>[]) (by simp) (by simp) (by simp) (by simp) (by simp)
  |mp s es=>simp [nT] at hK
  |own f=>
   simp only [ab] at hl;simp only [nT] at hK;cases hf:aI st.aP f with
   |none=>simp [hf] at hK
   |some o=>obtain ⟨e',bY,m,q1,q2,q3,q4,q5,q6,q7⟩:=lS (l:= .own f) h hl (by simpa only [nT,hf] using hK);obtain ⟨o2,_,rfl⟩:=q7.1 f rfl;exact ⟨e',bY,.list o2.xs,q1,q2,q3,⟨rfl,q4⟩,q5⟩
 |ag cs=>simp only [ab] at hl;obtain ⟨arr,hv,hl⟩:=hl;simp only [mW] at hK;obtain ⟨e',bY,ms,q1,q2,q3,q4,q5,_⟩:=np h hl hK;exact ⟨e',bY,.agg ms,q1,q2,q3,⟨arr,hv,q4⟩,q5⟩
 |rp cs off=>
  simp only [ab] at hl;obtain ⟨a8,q,vs,hv,pI,hp,Ee⟩:=hl;simp only [mW] at hK;cases hb:bN off 0 with
  |false=>simp [hb] at hK
  |true=>simp only [hb,cond_true] at hK;have h0:=sh hb;subst h0;obtain ⟨e',bY,ms,q1,q2,q3,q4,q5,q6⟩:=np h pI hK;obtain ⟨rfl,rfl⟩:=q6.1 hp;refine ⟨e',bY,.rp ms,q1,q2,q3,⟨rfl,?_⟩,q5⟩;rw [hv];exact .rp a8 (q+0) vs ms q4 (by simpa using Ee)
 |_=>simp [mW] at hK
theorem rV {ss:List Slot}: ∀{e:Env} {st:St} {vs:List Value} {K:List MV->St->Option R},bS c Z e st a w->(∃f:Unit->List Value,f ()=vs/\vs.length=ss.length/\ ∀(i:Nat) (v:Value) (s:Slot),vs[i]? =some v->ss[i]? =some s->ab e v s)-> xd st ss K=some r-> ∃e' bY ms,bS c Z e' bY a w/\Ext Z e e'/\bY.fr=st.fr/\bg e'.key e'.φ vs ms/\K ms bY=some r:=by
 induction ss with
 |nil=>intro e st vs K h hl hK;obtain ⟨f,_,hlen,_⟩:=hl;have:=BY hlen;subst this;exact ⟨e,st,[],h,.refl _ _,rfl,rfl,hK⟩
 |cons s ss ih=>
  intro e st vs K h hl hK;obtain ⟨f,_,hlen,eK⟩:=hl;cases vs with
  |nil=>simp at hlen
  |cons v vs=>simp only [xd] at hK;obtain ⟨e1,eJ,m,q1,q2,q3,q4,q5⟩:=ol h (eK 0 v s rfl rfl) hK;obtain ⟨e2,eg,ms,p1,p2,p3,p4,p5⟩:=ih (vs:=vs) q1 ⟨λ_=>vs,rfl,by simpa using hlen,λi v s h1 h2=>(eK (i+1) v s (by simpa using h1) (by simpa using h2)).on q2.on (dH s)⟩ q5;refine ⟨e2,eg,m::ms,p1,q2.trans p2,p3.trans q3,⟨v,vs,rfl,?_,p4⟩,p5⟩;have:=q4.mono p2.on.φ;rw [<-p2.on.key] at this;exact this
end
end Dn
/-
  Parts of structs, lengths, the least and the greatest, places of elements. Conditions: none.
-/
namespace Dn
open Go
section
variable {P:Program}{c:Ctx}{Z:bC}{e:Env}{st:St}{a:Act} {w w':World}{R:Type}{K:St->Option R}{r:R}{Q:Exit->Act->World->Prop}{o:Oper}
theorem Ly {t:TypeId}{I:TI}(hr:oh c.ti P t I)(hc:I.ct=[]): ((I.st=true\/I.size=32)/\ ∀w:World,(isAgg t).run P w= .ok true w)\/(I.st=false/\I.size=1/\ ∀w:World,(isAgg t).run P w= .ok false w):=by
 rcases hr.agg hc with ⟨d,hu,hd,hh⟩|⟨d,hu,hd,h1,h2⟩
 ·refine .inl ⟨hh.imp id (·.2),λw=> ?_⟩;unfold isAgg;rw [afr,run_underlying hu w];cases d<;>simp_all [TypeDesc.isRow]
 ·refine .inr ⟨h1,h2,λw=> ?_⟩;unfold isAgg;rw [afr,run_underlying hu w];cases d<;>simp_all [TypeDesc.isRow]
theorem Yn {t:TypeId}{I:TI}{cs:List aE}{off:Nat}{arr:Array Value} {K':Slot->Option R}(hr:oh c.ti P t I)(hc:I.ct=[])(hv:av e arr.toList cs)(hK:jN I cs off K'=some r): ∃v s,(∀w:World,(agd t arr off).run P w= .ok v w)/\ab e v s/\cC st.fr s/\K' s=some r:=by
 obtain ⟨i,hi,hs,_⟩:=hr.info hc;have ext: ∀v1 v2 v3:List Value,arr.toList=v1++v2++v3->v1.length=off->(arr.extract off (off+v2.length))=v2.toArray:=by intro v1 v2 v3 h1 h2;apply ab7.1;rw [afe,h1,adk,AI,<-h2,agn];simp
 unfold jN at hK;cases dK:I.st with
 |true=>
  simp only [dK,cond_true] at hK;cases hp:Dn.part cs off I.size with
  |none=>simp [hp] at hK
  |some ds=>
   simp only [hp] at hK;obtain ⟨v1,v2,v3,h0,h1,h2,h3⟩:=Lr hp hv;rcases Ly (P:=P) hr hc with ⟨_,hag⟩|⟨hf,_⟩
   ·refine ⟨.agg v2.toArray,.ag ds,?_,?_,trivial,hK⟩
    ·have hx:=ext v1 v2 v3 h0 h1;rw [h2] at hx;simp [agd,hag,abU,typeInfo,hi,hs,hx]
    ·simp only [ab];exact ⟨_,rfl,by simpa using h3⟩
   ·rw [dK] at hf;cases hf
 |false=>
  simp only [dK,cond_false] at hK;cases hp:cut cs off with
  |none=>simp [hp] at hK
  |some ds=>
   cases ds with
   |nil=>simp [hp] at hK
   |cons l ls=>
    simp only [hp] at hK;cases hb:bN l.w I.size with
    |false=>simp [hb] at hK
    |true=>
     simp only [hb,cond_true] at hK;have hw:=sh hb;obtain ⟨v1,v2,h0,h1,h2⟩:=zF hp hv;obtain ⟨u,u2,rfl,h3,h4⟩:=h2;have hlu:u.length=I.size:=by rw [h3.width,hw]
     rcases Ly (P:=P) hr hc with ⟨hh,hag⟩|⟨_,h1s,hag⟩
     ·refine ⟨.agg u.toArray,.sc l,?_,h3.slot (.inr ⟨rfl,?_⟩),trivial,hK⟩
      ·have hx:=ext v1 u u2 (by rw [h0,AI]) h1;rw [hlu] at hx;simp [agd,hag,abU,typeInfo,hi,hs,hx]
      ·rcases hh with hh|hh
       ·rw [dK] at hh;cases hh
       ·rw [hw,hh]
     ·obtain ⟨v,rfl⟩:=aco.1 (by rw [hlu,h1s]);refine ⟨v,.sc l,?_,h3.slot (.inl ⟨rfl,?_⟩),trivial,hK⟩
      ·have:arr[off]? =some v:=by
        have:arr[off]? =arr.toList[off]? :=by simp
        rw [this,h0,OF (by omega),h1];simp
       simp [agd,hag,this]
      ·rw [hw,h1s]
theorem agk {t:TypeId}{x:Operand}{f:Nat}{I:TI}(ho:o.op= .field t x f)(hI:c.tv t=some I)(hT:ia P c.ti)(h:bS c Z e st a w)(hK:af1 c I f (aH c st x) (λs=>bn c st o.dst s K)=some r):Rd P c Z K r e a w o (λ_=>True):=by
 obtain ⟨hx,pN⟩:=h.eval x;obtain ⟨lQ,hc⟩:=bj hI;obtain ⟨d,i,h1,h2,h3,h4⟩:=hT t I lQ;generalize aH c st x=s at hx hK pN;unfold af1 at hK;split at hK
 ·rename_i q y cs dK hq hy;simp only [ab] at hx;obtain ⟨arr,hx,pI⟩:=hx;cases hJ:c.tv y with
  |none=>simp [hJ] at hK
  |some J=>
   simp only [hJ] at hK;obtain ⟨hJt,hJc⟩:=bj hJ;obtain ⟨v,s,bF,h5,h6,h7⟩:=Yn (P:=P) (st:=st) (hT y J hJt) hJc pI hK;refine jb (v:=v) h ?_ h5 h6 h7;cases d<;>simp only [rT] at h4;case struct fs=>
    obtain ⟨_,_,_,ho1,cB,_⟩:=h4;rw [<-ho1,abS] at hq;rw [<-cB,abS] at hy;cases hf:fs.toList[f]? with
    |none=>simp [hf] at hq
    |some fl=>
     simp [hf] at hq hy;subst hq;subst hy;have O9:fs[f]? =some fl:=by simpa using hf
     simp [execOp,ho,hx,Instr.field,run_underlying h1,O9,asAgg,bF]
   all_goals (exfalso;simp_all)
 ·simp at hK
theorem TI.lm {I:TI}{t:TypeId}(hr:oh c.ti P t I)(h:I.yr=true):P.underlying t=some (.slice I.elem)/\ ∃E,c.ti I.elem=some E/\E.ct=[]/\0<E.size:=by
 unfold TI.yr at h;split at h
 ·rename_i dK hl;obtain ⟨d,i,h1,h2,h3,h4⟩:=hr;cases d<;>simp only [rT,hl,dK] at h4<;>first|(exfalso;simp_all;done)|skip
  obtain ⟨_,_,_,rfl,hE,_⟩:=h4;exact ⟨h1,hE⟩
 ·cases h
theorem TI.Eg {I:TI}{t:TypeId}(hr:oh c.ti P t I)(h:I.Rf=true):P.underlying t=some .string:=by
 unfold TI.Rf at h;split at h
 ·rename_i dK hl;obtain ⟨d,i,h1,h2,h3,h4⟩:=hr;cases d<;>simp only [rT,hl,dK] at h4<;>first|(exfalso;simp_all;done)|skip
  exact h1
 ·cases h
theorem Hl {v:Value}{xs:List MV}(h:ab e v (.sc (.p (.list xs)))): ∃ad cap,v= .slice ad xs.length cap/\xs.length<=cap:=by simp only [ab,aM] at h;obtain ⟨_,h⟩:=h;generalize hv:[v]=vs at h;cases h;exact ⟨_,_,by simpa using hv,by assumption⟩
theorem rW {f:Nat} {w':oM}{v:Value}(h:bS c Z e st a w)(hv:ab e v (.sc (.own f)))(hf:aI st.aP f=some w'):v=e.E f/\ ∃ad cap,v= .slice ad w'.xs.length cap/\w'.xs.length<=cap:=by
 simp only [ab] at hv;obtain ⟨u,hu,_,hE⟩:=hv;simp at hu;subst hu;have hE:=hE w' (by rw [h.m];exact hf);refine ⟨hE,?_⟩;obtain ⟨I,cells,_,_,dn,_⟩:=(h.iK f w' hf).row;rcases dn.2 with ⟨h1,h2⟩|⟨g,cap,cY,h1,_,_,h2,_⟩
 ·exact ⟨none,0,by rw [hE,h1,h2],by omega⟩
 ·exact ⟨_,cap,by rw [hE,h1],h2⟩
theorem jD {l:List Operand}:jM c st l=l.map (aH c st):=by
 induction l with
 |nil=>rfl
 |cons x r ih=>simp [jM,ih]
theorem agl {cl:Call}{t:TypeId}{I:TI}(ho:o.op= .call cl)(hb:cl.callee= .builtin .len)(ha:cl.argTypes.toList=[t])(hI:c.tv t=some I)(hT:ia P c.ti)(h:bS c Z e st a w)(hK:XT I st (jM c st cl.args.toList) (λs=>bn c st o.dst s K)=some r):Rd P c Z K r e a w o (λ_=>True):=by
 obtain ⟨lQ,hc⟩:=bj hI;have hr:=hT t I lQ;have KE:cl.argTypes= #[t]:=by rw [<-ab7,ha]
 rw [jD] at hK;have go: ∀x,cl.args.toList=[x]-> ∀n:Nat,(∃b:ByteArray,a.eval x= .string b/\b.size=n/\P.underlying t=some .string)\/(∃ad cap,a.eval x= .slice ad n cap/\ ∃el,P.underlying t=some (.slice el))-> bn c st o.dst (.sc (.p (.i .i64 n))) K=some r->Rd P c Z K r e a w o (λ_=>True):=by
  intro x hx n Pb hK;have Vc:cl.args= #[x]:=by rw [<-ab7,hx]
  refine jb h ?_ (sQ .i64 (n:Int)) trivial hK;rcases Pb with ⟨b,h1,h2,h3⟩|⟨ad,cap,h1,el,h3⟩
  ·simp [execOp,ho,resolve,hb,invoke,builtin,Builtin.len_,KE,Vc,run_underlying h3,h1,goInt,h2]
  ·simp [execOp,ho,resolve,hb,invoke,builtin,Builtin.len_,KE,Vc,run_underlying h3,h1,goInt]
 cases hl:cl.args.toList with
 |nil=>rw [hl] at hK;simp [XT] at hK
 |cons x ys=>
  rw [hl] at hK;cases ys with
  |cons y zs=>simp only [IT] at hK;unfold XT at hK;split at hK<;>simp_all
  |nil=>
   simp only [IT,agr] at hK;obtain ⟨hx,_⟩:=h.eval x;generalize aH c st x=s at hx hK;unfold XT at hK;split at hK
   ·rename_i l hs;simp at hs;subst hs;cases hS:I.Rf with
    |false=>simp [hS] at hK
    |true=>simp only [hS,cond_true] at hK;obtain ⟨b,CR,rfl⟩:=CQ hx;exact go x hl _ (.inl ⟨b,CR,by show b.data.size=_;exact (abY).symm,TI.Eg hr hS⟩) hK
   ·rename_i l hs;simp at hs;subst hs;cases hS:I.yr with
    |false=>simp [hS] at hK
    |true=>simp only [hS,cond_true] at hK;obtain ⟨ad,cap,hv,_⟩:=Hl hx;exact go x hl _ (.inr ⟨ad,cap,hv,_,(TI.lm hr hS).1⟩) hK
   ·rename_i hs;simp at hs;subst hs;cases hS:I.yr with
    |false=>simp [hS] at hK
    |true=>simp only [hS,cond_true] at hK;simp only [ab] at hx;have hx:[a.eval x]=[abX none 0 0]:=hx;simp at hx;exact go x hl 0 (.inr ⟨none,0,hx,_,(TI.lm hr hS).1⟩) hK
   ·rename_i f hs;simp at hs;subst hs;cases hS:I.yr with
    |false=>simp [hS] at hK
    |true=>
     simp only [hS,cond_true] at hK;cases hf:aI st.aP f with
     |none=>simp [hf] at hK
     |some w'=>simp only [hf] at hK;obtain ⟨_,ad,cap,hv,_⟩:=rW h hx hf;exact go x hl _ (.inr ⟨ad,cap,hv,_,(TI.lm hr hS).1⟩) hK
   ·simp at hK
end
end Dn
/-
  Values as leaves; places of elements; the least and the greatest; parts of slices. Conditions: none.
-/
namespace Dn
open Go
section
variable {P:Program}{c:Ctx}{Z:bC}{e:Env}{st:St}{a:Act} {w w':World}{R:Type}{K:St->Option R}{r:R}{Q:Exit->Act->World->Prop}{o:Oper}
structure ae4 (e:Env) (k:Kd) (vs:List Value) (m:MV) (l:aE):Prop where
 rep:gY e.key e.φ vs m->aM e vs l
 Xx:sM l=true
 mv:bE [l]=some [m]
 one: ∀m',l= .p m'->m'.one=true
 wid:l.w=Gb [k]
theorem nW {k:Kd}{m:MV}{vs:List Value} {K':aE->Option R}(hK:jL k m K'=some r): ∃l,ae4 e k vs m l/\K' l=some r:=by
 have mk: ∀m:MV,m.one=true->(Gb [k]=1)->K' (.p m)=some r-> ∃l,ae4 e k vs m l/\K' l=some r:=λm h1 h2 h3=>⟨.p m,⟨λh=>⟨h1,h⟩,rfl,rfl,λm' e=>by cases e;exact h1,h2.symm⟩,h3⟩
 cases k with
 |b=>unfold jL gB at hK;cases m<;>simp at hK;exact mk _ rfl rfl hK
 |s=>unfold jL gS at hK;cases m<;>simp at hK;exact mk _ rfl rfl hK
 |l=>unfold jL gL at hK;cases m<;>simp at hK;exact mk _ rfl rfl hK
 |i k=>
  unfold jL gI at hK;cases m<;>simp at hK;rename_i k' n;by_cases hk:k'=k
  ·subst hk;simp at hK;exact mk _ rfl rfl hK
  ·simp [hk] at hK
 |h=>unfold jL gH at hK;cases m<;>simp at hK;rename_i x;refine ⟨.hs x,⟨?_,rfl,rfl,by simp,rfl⟩,hK⟩;intro h;cases h;rfl
 |raw=>unfold jL gR at hK;cases m<;>simp at hK<;>exact mk _ rfl rfl hK
theorem BA {l:aE}{ls:List aE}{m:MV}{ms:List MV}(h1:bE [l]=some [m])(h2:bE ls=some ms):bE (l::ls)=some (m::ms):=by cases l<;>simp [bE] at h1⊢ <;>simp [h2,h1]
structure acm (e:Env) (ks:List Kd) (vs:List Value) (ms:List MV) (ls:List aE):Prop where
 rep:ga e.key e.φ vs ms->av e vs ls
 Xx:iz ls=true
 mv:bE ls=some ms
 one: ∀m',aE.p m'∈ls->m'.one=true
 wid:zu ls=Gb ks
theorem Vf (k:Kd)(ks:List Kd):Gb (k::ks)=Gb [k]+Gb ks:=by cases k<;>simp [Gb]
theorem xm {ks:List Kd}: ∀{ms:List MV} {vs:List Value} {K':List aE->Option R},uE ks ms K'=some r-> ∃ls,acm e ks vs ms ls/\K' ls=some r:=by
 induction ks with
 |nil=>
  intro ms vs K' hK;cases ms with
  |nil=>exact ⟨[],⟨λh=>by cases h;rfl,rfl,rfl,by simp,rfl⟩,hK⟩
  |cons m ms=>simp [uE,gN] at hK
 |cons k ks ih=>
  intro ms vs K' hK;cases ms with
  |nil=>simp [uE,gC] at hK
  |cons m ms=>
   simp only [uE,gC] at hK;have h1:=λvs=>nW (e:=e) (vs:=vs) hK;obtain ⟨l,hl,rU⟩:=h1 [];obtain ⟨ls,Km,yV⟩:=ih (vs:=[]) rU;refine ⟨l::ls,⟨?_,?_,BA hl.mv Km.mv,?_,?_⟩,yV⟩
   ·intro h;have g:av e vs (l::ls):=by
     apply h.leaves (BA hl.mv Km.mv);intro m' hm;rcases abT.1 hm with hm|hm
     ·exact hl.one m' hm.symm
     ·exact Km.one m' hm
    exact g
   ·simp [iz,hl.Xx,Km.Xx]
   ·intro m' hm;rcases abT.1 hm with hm|hm
    ·exact hl.one m' hm.symm
    ·exact Km.one m' hm
   ·rw [Vf,<-hl.wid,<-Km.wid];rfl
theorem acn {t:TypeId}{I:TI}(hr:oh c.ti P t I)(hc:I.ct=[]):Gb I.lay=I.size:=by
 obtain ⟨d,i,h1,h2,h3,h4⟩:=hr;cases d<;>simp only [rT] at h4;case struct fs=>exact h4.2.2.1.2
 case tuple ts=>exact absurd hc h4.2.1
 case slice el=>obtain ⟨_,_,hs,_,_,_,_,k,hl,rfl⟩:=h4;rw [hl,hs];rfl
 case array n el=>obtain ⟨_,_,hs,_,_,_,hl,_⟩:=h4;rw [hl,hs];rfl
 all_goals (obtain ⟨_,_,hs,hl,_⟩:=h4;rw [hl,hs];rfl)
theorem Fh {E:TI}{t:TypeId}{x:MV} {K':List aE->Option R}(hr:oh c.ti P t E)(hc:E.ct=[])(hK:M4 E x K'=some r): ∃cs,Hd E.st x cs/\iz cs=true/\zu cs=E.size/\K' cs=some r:=by
 have hlw:=acn hr hc;unfold M4 at hK;cases dK:E.st with
 |true=>
  simp only [dK,cond_true] at hK;unfold gA at hK;split at hK
  ·rename_i ms;obtain ⟨ls,Km,rU⟩:=xm (e:=⟨λn=>n,λ_ _=>none,λ_=>undef,λ_=>0,[]⟩) (vs:=[]) hK;exact ⟨ls,⟨⟨ms,Km.mv,by simp [vr]⟩,Km.one⟩,Km.Xx,by rw [Km.wid,hlw],rU⟩
  ·simp at hK
 |false=>
  simp only [dK,cond_false] at hK;split at hK
  ·rename_i k hl;obtain ⟨l,sv,rU⟩:=nW (e:=⟨λn=>n,λ_ _=>none,λ_=>undef,λ_=>0,[]⟩) (vs:=[]) hK;refine ⟨[l],⟨⟨[x],sv.mv,by simp [vr]⟩,?_⟩,by simp [iz,sv.Xx],?_,rU⟩
   ·intro m hm;simp at hm;exact sv.one m hm.symm
   ·rw [<-hlw,hl,<-sv.wid];rfl
  ·simp at hK
theorem agm {t:TypeId}{x y:Operand}{I E:TI}(ho:o.op= .indexAddr t x y)(hI:c.tv t=some I)(hE:c.tv I.elem=some E)(hT:ia P c.ti)(h:bS c Z e st a w)(hK:af2 c st I E (aH c st x) (aH c st y) (λs=>bn c st o.dst s K)=some r):Rd P c Z K r e a w o (λ_=>True):=by
 obtain ⟨hx,pN⟩:=h.eval x;obtain ⟨hy,_⟩:=h.eval y;obtain ⟨lQ,hc⟩:=bj hI;obtain ⟨lN,om⟩:=bj hE;have hr:=hT t I lQ;have hrE:=hT _ E lN;obtain ⟨iE,hiE,hsE,_⟩:=hrE.info om;have run: ∀k n a8 off len cap,P.underlying t=some (.slice I.elem)->a.eval y= .int k n->a.eval x= .slice (some ⟨a8,off,none⟩) len cap->0<=n->n.toNat<len-> ∀w:World,(execOp a.eval o).run P w= .ok (.value (.pointer (some ⟨a8,off+n.toNat *E.size,none⟩))) w:=by
  intro k n a8 off len cap hu hy hx h0 h1 w;have h2:n<(len:Int):=by omega
  simp [execOp,ho,hx,hy,agp,asIntOf,run_underlying hu,h0,h2,abU,typeInfo,hiE,hsE,ab6]
 generalize aH c st x=sx at hx hK pN;generalize aH c st y=sy at hy hK;unfold af2 at hK;split at hK
 ·rename_i xs k n;cases hL:I.yr with
  |false=>simp [hL] at hK
  |true=>
   simp only [hL,cond_true] at hK;obtain ⟨h0,m,hm,hK⟩:=O8 hK;obtain ⟨cs,h1,h2,h3,hK⟩:=Fh hrE om hK;have cI:n.toNat<xs.length:=(AS.1 hm).1;simp only [ab,aM] at hx;obtain ⟨_,hx⟩:=hx;generalize hv:[a.eval x]=vs at hx;cases hx with
   |list ad cap _ a8 off Fb f g1 g2 g3 g4 g5=>
   simp at hv;have eK:=g5 n.toNat cI;rw [(AS.1 hm).2] at eK;have pI:=eK.Hj h1;have hes:Fb=E.size:=by rw [<-h3,<-pI.width,g3 _ cI]
   rw [g2 (by omega)] at hv;refine jb (s:= .rp cs 0) h (run k n a8 off _ cap (TI.lm hr hL).1 (lu hy) hv h0 cI) ?_ trivial hK;simp only [ab];refine ⟨a8,off+n.toNat *E.size,f n.toNat,rfl,pI,h2,?_⟩;intro j hj;rw [g3 _ cI] at hj;rw [<-hes];exact g4 n.toNat j cI hj
 ·rename_i f k n;cases hf:aI st.aP f with
  |none=>simp [hf] at hK
  |some fo=>
   simp only [hf] at hK;cases hL:I.yr with
   |false=>simp [hL] at hK
   |true=>
    simp only [hL,cond_true] at hK;obtain ⟨h0,m,hm,hK⟩:=O8 hK;obtain ⟨cs,h1,h2,h3,hK⟩:=Fh hrE om hK;have cI:n.toNat<fo.xs.length:=(AS.1 hm).1;obtain ⟨hv,_⟩:=rW h hx hf;obtain ⟨J,cells,_,_,dn,_⟩:=(h.iK f fo hf).row;rcases dn.2 with ⟨h5,h6⟩|⟨g,cap,cY,h5,_⟩
    ·omega
    ·rw [h5] at hv;refine jb (s:= .ep f n.toNat 0 E.st cs) h (run k n g 0 _ cap (TI.lm hr hL).1 (lu hy) hv h0 cI) ?_ trivial hK;simp only [ab];intro o2 cB;rw [h.m,hf] at cB;cases cB;exact ⟨g,cap,h5,⟨m,hm,h1⟩,by rw [h3,abQ,ade]⟩
 ·rename_i r' o' k n;cases dK:I.st with
  |true=>simp [dK] at hK
  |false=>
   simp only [dK,cond_false] at hK;split at hK
   ·rename_i hl;obtain ⟨Fi,hK⟩:=dE hK;obtain ⟨h0,h1⟩:=of_decide_eq_true Fi;obtain ⟨d,i,hu,h2,h3,h4⟩:=hr;cases d<;>simp only [rT,hl,dK] at h4<;>first|(exfalso;simp_all;done)|skip
    obtain ⟨_,_,_,rfl,_,⟨ie,hue,pH,zn⟩,_⟩:=h4;simp only [ab] at hx;refine jb (s:= .hp r' o' n.toNat) (v:= .pointer (some ⟨e.B r',o'+n.toNat,none⟩)) h ?_ ?_ pN hK
    ·simp [execOp,ho,hx,lu hy,agp,asIntOf,run_underlying hu,h0,h1,abU,typeInfo,pH,zn,adf,ab6]
    ·simp only [ab];exact ⟨trivial,by omega⟩
   ·simp at hK
 ·simp at hK
theorem Vg {mx:Bool}{k:IntKind}{ss:List Slot}: ∀{vs:List Value} {n:Int} {m:MV},XN mx k n ss=some m->vs.length=ss.length-> (∀(i:Nat) (v:Value) (s:Slot),vs[i]? =some v->ss[i]? =some s->ab e v s)-> ∃v,(∀w:World,(vs.foldlM (if mx then Builtin.max2 else Builtin.min2) (.int k n)).run P w= .ok v w)/\ab e v (.sc (.p m)):=by
 induction ss with
 |nil=>intro vs n m hm hl hs;have:=BY hl;subst this;simp [XN] at hm;subst hm;exact ⟨.int k n,by simp,sQ k n⟩
 |cons s ss ih=>
  intro vs n m hm hl hs;cases vs with
  |nil=>simp at hl
  |cons v vs=>
   have h0:=hs 0 v s rfl rfl;unfold XN at hm;split at hm
   ·rename_i jK;simp at jK
   ·rename_i k' y r' jK;simp at jK;obtain ⟨rfl,rfl⟩:=jK;by_cases hk:k'=k
    ·subst hk;simp only [decide_true,cond_true] at hm;obtain ⟨u,h1,h2⟩:=ih hm (by simpa using hl) (λi v s h1 h2=>hs (i+1) v s (by simpa using h1) (by simpa using h2));refine ⟨u,λw=> ?_,h2⟩;have h1:=h1 w;rw [lu h0];cases mx
     ·simp only [cond_false,aiV] at h1;simp [Builtin.min2] at h1⊢;exact h1
     ·simp only [cond_true,imax] at h1;simp [Builtin.max2] at h1⊢;exact h1
    ·simp [hk] at hm
   ·simp at hm
theorem Lz {cl:Call}{mx:Bool}{m:MV}(ho:o.op= .call cl)(hb:cl.callee= .builtin (if mx then .max else .min))(h:bS c Z e st a w)(hm:Ri mx (jM c st cl.args.toList)=some m)(hK:bn c st o.dst (.sc (.p m)) K=some r):Rd P c Z K r e a w o (λ_=>True):=by
 rw [jD] at hm;cases hl:cl.args.toList with
 |nil=>rw [hl] at hm;simp [Ri] at hm
 |cons x xs=>
  rw [hl] at hm;simp only [IT] at hm;obtain ⟨hx,_⟩:=h.eval x;generalize aH c st x=s at hx hm;unfold Ri at hm;split at hm
  ·rename_i k n ss jK;simp at jK;obtain ⟨rfl,rfl⟩:=jK;obtain ⟨v,h1,h2⟩:=Vg (e:=e) (P:=P) (vs:=xs.map a.eval) hm (by simp) (by intro i v s h1 h2;simp only [abS,Option.map_eq_some_iff] at h1 h2;obtain ⟨y,h3,rfl⟩:=h1;obtain ⟨y',h4,rfl⟩:=h2;rw [h3] at h4;cases h4;exact (h.eval y).1);have dL:(cl.args.map a.eval).toList= .int k n::xs.map a.eval:=by simp [hl,lu hx]
   refine jb (v:=v) h ?_ h2 trivial hK;intro w;have h1:=h1 w;cases mx
   ·simp at hb h1;have Yo: ∀ts t,(Builtin.min_ ts t (cl.args.map a.eval)).run P w= .ok v w:=by intro ts t;unfold Builtin.min_;rw [dL];exact h1
    simp [execOp,ho,resolve,hb,invoke,builtin,Yo]
   ·simp at hb h1;have Yo: ∀ts t,(Builtin.max_ ts t (cl.args.map a.eval)).run P w= .ok v w:=by intro ts t;unfold Builtin.max_;rw [dL];exact h1
    simp [execOp,ho,resolve,hb,invoke,builtin,Yo]
  ·simp at hm
end
end Dn
/-
  Parts of slices and texts. Conditions: none.
-/
namespace Dn
open Go
section
variable {P:Program}{c:Ctx}{Z:bC}{e:Env}{st:St}{a:Act} {w w':World}{R:Type}{K:St->Option R}{r:R}{Q:Exit->Act->World->Prop}{o:Oper}
theorem xn {b:Bool}{lo hi:Option Operand}{len cap:Nat} {K':Nat->Nat->Option R}(h:bS c Z e st a w)(B4:len<=cap)(hK:sliceB (mA c st lo) (mA c st hi) len K'=some r): ∃l h',l<=h'/\h'<=len/\(lo=none->l=0)/\(∀w:World,(abO b len cap (lo.map a.eval) (hi.map a.eval) none).run P w= .ok (l,h',cap) w)/\K' l h'=some r:=by
 have bnd: ∀(k:IntKind) (n:Int) (y:Nat) (cd:BoundsCode),0<=n->n<=(y:Int)-> ∀w:World,(acO (.int k n) y cd).run P w= .ok n.toNat w:=by intro k n y cd h1 h2 w;simp [acO,asIntOf,h1,h2]
 unfold sliceB at hK;cases lo with
 |none=>
  cases hi with
  |none=>simp only [mA] at hK;exact ⟨0,len,by omega,by omega,λ_=>rfl,by simp [abO],hK⟩
  |some y=>
   obtain ⟨hy,_⟩:=h.eval y;simp only [mA] at hK;generalize aH c st y=sy at hy hK;split at hK<;>first|(simp_all;done)|skip
   ·rename_i k n h1 h2;simp at h2;subst h2;obtain ⟨Fi,hK⟩:=dE hK;obtain ⟨h3,h4,h5⟩:=of_decide_eq_true Fi;refine ⟨0,n.toNat,by omega,by omega,λ_=>rfl,?_,hK⟩;have:=bnd k n cap (if b then .sliceAcap else .sliceAlen) h4 (by omega);cases b<;>simp at this<;>simp [abO,lu hy,this]
 |some x=>
  obtain ⟨hx,_⟩:=h.eval x;cases hi with
  |none=>
   simp only [mA] at hK;generalize aH c st x=sx at hx hK;split at hK<;>first|(simp_all;done)|skip
   ·rename_i k n h1 h2;simp at h1;subst h1;obtain ⟨Fi,hK⟩:=dE hK;obtain ⟨h3,h4,h5⟩:=of_decide_eq_true Fi;refine ⟨n.toNat,len,by omega,by omega,by simp,?_,by simpa using hK⟩;have:=bnd k n len .sliceB h3 h4;simp [abO,lu hx,this]
  |some y=>
   obtain ⟨hy,_⟩:=h.eval y;simp only [mA] at hK;generalize aH c st x=sx at hx hK;generalize aH c st y=sy at hy hK;split at hK<;>first|(simp_all;done)|skip
   ·rename_i k n k' n' h1 h2;simp at h1 h2;subst h1;subst h2;obtain ⟨Fi,hK⟩:=dE hK;obtain ⟨h3,h4,h5⟩:=of_decide_eq_true Fi;refine ⟨n.toNat,n'.toNat,by omega,by omega,by simp,?_,hK⟩;have t1:=bnd k' n' cap (if b then .sliceAcap else .sliceAlen) (by omega) (by omega);have t2:=bnd k n n'.toNat .sliceB h3 (by omega);cases b<;>simp at t1<;>simp [abO,lu hx,lu hy,t1,t2]
theorem gY.sub {key:Nat->Nat} {φ:Ph}{ad:Option Addr}{len cap:Nat}{xs:List MV} {l h' size:Nat}(hv:gY key φ [.slice ad len cap] (.list xs))(hl:l<=h')(hh:h'<=xs.length)(hw:l≠0-> ∀x∈xs,x.w=size):len=xs.length/\len<=cap/\gY key φ [.slice (if cap=l then ad else ad.map (·.add (l *size))) (h'-l) (cap-l)] (.list ((xs.take h').drop l)):=by
 generalize yt:[abX ad len cap]=vs at hv;cases hv with
 |list ad' Yl _ a8 off Fb f g1 g2 g3 g4 g5=>
 simp at yt;obtain ⟨rfl,rfl,rfl⟩:=yt;refine ⟨rfl,g1,?_⟩;have hlen:((xs.take h').drop l).length=h'-l:=by simp;omega
 have ajd:gY key φ [.slice (if cap=l then ad else ad.map (·.add (l *size))) ((xs.take h').drop l).length (cap-l)] (.list ((xs.take h').drop l)):=by
  have oN: ∀i,i<((xs.take h').drop l).length->i+l<xs.length:=by intro i hi;omega
  have hel: ∀(i:Nat) (hi:i<((xs.take h').drop l).length),((xs.take h').drop l)[i]=xs[i+l]'(oN i hi):=by intro i hi;simp [afw]
  refine .list _ _ _ a8 (off+l *Fb) Fb (λi=>f (i+l)) (by rw [hlen];omega) ?_ ?_ ?_ ?_
  ·intro h0;have cR:cap≠l:=by omega
   have hx0:0<xs.length:=by omega
   rw [g2 hx0];simp only [cR,if_false,Option.map_some,AT];by_cases hl0:l=0
   ·subst hl0;simp [ab6]
   ·have hes:Fb=size:=by have h3:=g5 0 hx0;rw [<-g3 0 hx0,h3.width];exact hw hl0 _ (afF hx0)
    rw [hes,ab6]
  ·intro i hi;exact g3 _ (oN i hi)
  ·intro i j hi hj;have:=g4 (i+l) j (oN i hi) hj;rw [<-this];congr 1;rw [ac3];omega
  ·intro i hi;rw [hel i hi];exact g5 (i+l) (oN i hi)
 rw [hlen] at ajd;exact ajd
theorem CT {n:Nat}{l:List MV}(h:pS n l=true): ∀x∈l,x.w=n:=by intro x hx;unfold pS at h;rw [afB] at h;exact sh (h x hx)
theorem aX.pS {key:Nat->Nat} {φ:Ph}{size:Nat}{xs:List MV}: ∀{cs:List Value},aX key φ size cs xs-> ∀x∈xs,x.w=size:=by
 induction xs with
 |nil=>intro cs _ x hx;simp at hx
 |cons y ys ih=>
  intro cs h x hx;obtain ⟨v,q,rfl,h1,h2,h3⟩:=h;rcases abT.1 hx with rfl|hx
  ·rw [<-h2.width,h1]
  ·exact ih h3 x hx
theorem Yp {t:TypeId}{x:Operand}{lo hi:Option Operand}{I:TI}(ho:o.op= .slice t x lo hi none)(hI:c.tv t=some I)(hT:ia P c.ti)(h:bS c Z e st a w)(hK:Rj c I st (aH c st x) (mA c st lo) (mA c st hi) (λs st=>bn c st o.dst s K)=some r):Rd P c Z K r e a w o (λ_=>True):=by
 obtain ⟨hx,pN⟩:=h.eval x;obtain ⟨lQ,hc⟩:=bj hI;have hr:=hT t I lQ;have run: ∀{el E},P.underlying t=some (.slice el)->c.ti el=some E->E.ct=[]-> ∀ad len cap l h',a.eval x= .slice ad len cap->(∀w:World,(abO true len cap (lo.map a.eval) (hi.map a.eval) none).run P w= .ok (l,h',cap) w)-> ∀w:World,(execOp a.eval o).run P w= .ok (.value (.slice (if cap=l then ad else ad.map (·.add (l *E.size))) (h'-l) (cap-l))) w:=by intro el E hu hE om ad len cap l h' hv hb w;obtain ⟨iE,hiE,hsE,_⟩:=(hT _ E hE).info om;simp [execOp,ho,afk,afP,run_underlying hu,hv,hb,abU,typeInfo,hiE,hsE]
 generalize hs:aH c st x=s at hx hK pN;unfold Rj at hK;split at hK
 ·rename_i bs;cases hS:I.Rf with
  |false=>simp [hS] at hK
  |true=>
   simp only [hS,cond_true] at hK;have hu:=TI.Eg hr hS;obtain ⟨b,hb,rfl⟩:=CQ hx;have pJ:b.data.toList.length=b.size:=by rw [abY];rfl
   rw [pJ] at hK;obtain ⟨l,h',h1,h2,_,h3,hK⟩:=xn (P:=P) (b:=false) (cap:=b.size) h (aa6 _) hK;refine jb (s:= .sc (.p (.s ((b.data.toList.take h').drop l)))) (v:= .string (b.extract l h')) h ?_ ?_ trivial hK
   ·simp [execOp,ho,afk,afP,run_underlying hu,hb,h3]
   ·have:=ab9 (e:=e) (b.extract l h');have h5:(b.extract l h').data.toList=(b.data.toList.take h').drop l:=by rw [aec,afe,adk,List.drop_take]
    rwa [h5] at this
 ·rename_i xs;cases hS:I.yr with
  |false=>simp [hS] at hK
  |true=>
   simp only [hS,cond_true] at hK;obtain ⟨hu,_⟩:=TI.lm hr hS;cases hE:c.tv I.elem with
   |none=>simp [hE] at hK
   |some E=>
    simp only [hE] at hK;obtain ⟨lN,om⟩:=bj hE;have yV:(lo≠none->pS E.size xs=true)/\sliceB (mA c st lo) (mA c st hi) xs.length (λl h'=>bn c st o.dst (.sc (.p (.list ((xs.take h').drop l)))) K)=some r:=by
     cases lo with
     |none=>exact ⟨by simp,hK⟩
     |some y=>simp only [mA] at hK⊢;obtain ⟨h1,h2⟩:=dE hK;exact ⟨λ_=>h1,h2⟩
    obtain ⟨hw,hK⟩:=yV;obtain ⟨ad,cap,hv,B4⟩:=Hl hx;obtain ⟨l,h',h1,h2,h0,h3,hK⟩:=xn (P:=P) (b:=true) (cap:=cap) h B4 hK;simp only [ab,aM] at hx;rw [hv] at hx;obtain ⟨_,_,eK⟩:=gY.sub (size:=E.size) hx.2 h1 h2 (λhl=>CT (hw (λhn=>hl (h0 hn))));refine jb (s:= .sc (.p (.list ((xs.take h').drop l)))) h (run hu lN om ad _ cap l h' hv h3) ?_ trivial hK;simp only [ab,aM];exact ⟨rfl,eK⟩
 ·rename_i f;cases hf:aI st.aP f with
  |none=>simp [hf] at hK
  |some fo=>
   simp only [hf] at hK;cases hS:I.yr&&bN fo.ty I.elem with
   |false=>simp [hS] at hK
   |true=>simp only [hS,cond_true] at hK;simp only [abM] at hS;obtain ⟨hu,E,lN,om,_⟩:=TI.lm hr hS.1;have iJ:=sh hS.2;obtain ⟨hvE,ad,cap,hv,B4⟩:=rW h hx hf;simp only [ab] at hx;obtain ⟨J,cells,hJ,_,_,ib,_⟩:=(h.iK f fo hf).row;rw [iJ,lN] at hJ;cases hJ;have hwx:=ib.pS;obtain ⟨e',bY,m,yu,acj,zo,eK,hK,_,hm⟩:=lS h hx hK;obtain ⟨o2,cB,rfl⟩:=hm.1 f rfl;rw [hf] at cB;cases cB;obtain ⟨l,h',h1,h2,h0,h3,hK⟩:=xn (P:=P) (b:=true) (cap:=cap) h B4 hK;rw [hv] at eK;obtain ⟨_,_,eK⟩:=gY.sub (size:=E.size) eK h1 h2 (λ_=>hwx);refine RB (s:= .sc (.p (.list ((fo.xs.take h').drop l)))) (λw _=>run hu lN om ad _ cap l h' hv h3 w) yu acj.tr (.of ?_ trivial) hK;simp only [ab,aM];exact ⟨rfl,eK⟩
 ·cases hS:I.yr with
  |false=>simp [hS] at hK
  |true=>
   simp only [hS,cond_true] at hK;obtain ⟨hu,E,lN,om,_⟩:=TI.lm hr hS;simp only [ab] at hx;have hx:[a.eval x]=[abX none 0 0]:=hx;simp at hx;obtain ⟨l,h',h1,h2,_,h3,hK⟩:=xn (P:=P) (b:=true) (cap:=0) h (aa6 _) hK;have h4:h'=0:=by omega
   have h5:l=0:=by omega
   subst h4;subst h5;refine jb (s:= .sc .nil) h (run hu lN om none 0 0 0 0 hx h3) ?_ trivial hK;simp only [ab,if_true];rfl
 ·simp at hK
theorem acp {t:TypeId}{x y z:Operand}{I:TI}(ho:o.op= .slice t x none (some y) (some z))(hI:c.tv t=some I)(hT:ia P c.ti)(h:bS c Z e st a w)(hK:XR I (aH c st x) (aH c st y) (aH c st z) (λs=>bn c st o.dst s K)=some r):Rd P c Z K r e a w o (λ_=>True):=by
 obtain ⟨hx,pN⟩:=h.eval x;obtain ⟨hy,_⟩:=h.eval y;obtain ⟨hz,_⟩:=h.eval z;obtain ⟨lQ,hc⟩:=bj hI;have hr:=hT t I lQ;generalize aH c st x=s at hx hK pN;generalize aH c st y=s2 at hy hK;generalize aH c st z=s3 at hz hK;unfold XR at hK;split at hK
 ·rename_i l n n';cases hS:I.yr with
  |false=>simp [hS] at hK
  |true=>
   simp only [hS,cond_true] at hK;obtain ⟨Fi,yV⟩:=dE hK;obtain ⟨rfl,rfl⟩:=of_decide_eq_true Fi;obtain ⟨hu,E,lN,om,_⟩:=TI.lm hr hS;obtain ⟨iE,hiE,hsE,_⟩:=(hT _ E lN).info om;obtain ⟨ad,cap,hv,B4⟩:=Hl hx;simp only [ab,aM] at hx;rw [hv] at hx;have bnd: ∀(m:Nat) (cd:BoundsCode),l.length<=m-> ∀w:World,(acO (.int .i64 (l.length:Int)) m cd).run P w= .ok l.length w:=by
    intro m cd hm w;have:(l.length:Int)<=(m:Int):=by omega
    simp [acO,asIntOf,this]
   have hb: ∀w:World,(abO true l.length cap none (some (.int .i64 (l.length:Int))) (some (.int .i64 (l.length:Int)))).run P w= .ok (0,l.length,l.length) w:=by intro w;have b1:=bnd cap .slice3Acap B4;have b2:=bnd l.length .slice3B (aa6 _);simp [abO,b1,b2]
   have eK:gY e.key e.φ [.slice ad l.length l.length] (.list l):=by
    have h2:=hx.2;generalize yt:[abX ad l.length cap]=vs at h2;cases h2 with
    |list ad' Yl _ a8 off Fb f g1 g2 g3 g4 g5=>
    simp at yt;obtain ⟨rfl,_⟩:=yt;exact .list _ _ _ a8 off Fb f (aa6 _) g2 g3 g4 g5
   refine jb (s:= .sc (.p (.clip l))) (v:= .slice ad l.length l.length) h (λw=> ?_) ?_ trivial yV
   ·simp [execOp,ho,afk,afP,run_underlying hu,hv,lu hy,lu hz,hb,abU,typeInfo,hiE,hsE];intro cR;cases ad with
    |none=>rfl
    |some b=>simp [Addr.add]
   ·simp only [ab,aM];exact ⟨rfl,.clip _ _ eK⟩
 ·simp at hK
end
end Dn
/-
  Stores. Conditions: none.
-/
namespace Dn
open Go
section
variable {P:Program}{c:Ctx}{Z:bC} {e e':Env}{st:St}{a:Act} {w w':World}{R:Type}{K:St->Option R}{r:R}{Q:Exit->Act->World->Prop}{o:Oper}
theorem Hm (x:kM)(i:Nat)(b:UInt8)(hi:i<32):bq (x.put i b)=(bq x).take i++[.int .u8 (b.toNat:Int)]++(bq x).drop (i+1):=by
 have:bq (x.put i b)=(bq x).set i (.int .u8 (b.toNat:Int)):=by simp [bq,kM.put,List.map_set]
 have hl:=cX x;rw [this,List.set_eq_take_append_cons_drop,if_pos (by omega)];simp
structure Yq (e e':Env):Prop where
 key:e'.key=e.key
 φ:gZ e.φ e'.φ
 iK: ∀f o',aI e'.m f=some o'->(∃o,aI e.m f=some o)/\e'.E f=e.E f
theorem aM.Xy (h:Yq e e'){vs:List Value}{l:aE}(hr:aM e vs l):aM e' vs l:=by
 cases l with
 |p m=>exact ⟨hr.1,by have:=hr.2.mono h.φ;rw [<-h.key] at this;exact this⟩
 |own f=>obtain ⟨v,rfl,hv,hf⟩:=hr;refine ⟨v,rfl,hv,λo' B1=> ?_⟩;obtain ⟨⟨o,ho⟩,hE⟩:=h.iK f o' B1;rw [hE];exact hf o ho
 |_=>exact hr
theorem av.Xy (h:Yq e e'){cs:List aE}: ∀{vs:List Value},av e vs cs->av e' vs cs:=by
 induction cs with
 |nil=>intro vs hr;exact hr
 |cons l r ih=>intro vs hr;obtain ⟨v,w,rfl,h1,h2⟩:=hr;exact ⟨v,w,rfl,h1.Xy h,ih h2⟩
def RI (f:Nat)(s:Slot):Slot:=match s with
 | .ep g i o b cs=>bif bN g f then .sc .un else .ep g i o b cs
 |s=>s
theorem wc (f:Nat)(r:Fr)(t:Nat):aq (zD f r) t=RI f (aq r t):=He (RI f) rfl r t
theorem Vh (f:Nat)(s:Slot):cV (RI f s)=cV s:=by cases s<;>simp only [RI];rename_i g _ _ _ _;cases bN g f<;>rfl
theorem ab.Xy {f:Nat}{T:Nat->Prop}(h:Yq e e')(rS:ki (· ≠f) T e e'){v:Value}{s:Slot}(hT:fF (λ_=>True) T s)(hr:ab e v s):ab e' v (RI f s):=by
 cases s with
 |sc l=>
  simp only [RI];cases l with
  |un=>simp [ab]
  |hs x=>simpa [ab] using hr
  |p m=>simp only [ab] at hr⊢;exact hr.Xy h
  |nil=>simp only [ab] at hr⊢;exact hr.Xy h
  |mp s es=>simp only [ab] at hr⊢;exact hr
  |own f=>simp only [ab] at hr⊢;exact hr.Xy h
 |ag cs=>simp only [RI,ab] at hr⊢;obtain ⟨arr,h1,h2⟩:=hr;exact ⟨arr,h1,h2.Xy h⟩
 |tg cs=>simp only [RI,ab] at hr⊢;obtain ⟨arr,h1,h2⟩:=hr;exact ⟨arr,h1,h2.Xy h⟩
 |ep g i o b cs=>
  simp only [RI];cases hb:bN g f
  ·simp only [cond_false];refine hr.on rS ?_;simp only [fF];intro e;subst e;simp [fm] at hb
  ·simp [ab]
 |_=>exact hr.on rS hT
theorem kr.Xy (h:Yq e e')(hk:e'.key=e.key)(hp:gZ e.φ e'.φ){o:Obj}{cs:List aE}(hr:kr e o cs):kr e' o cs:=by
 cases o with
 |cells arr T z=>exact ⟨hr.1,hr.2.Xy h⟩
 |map es clock=>exact hr
 |stringIter x pos=>exact hr
 |_=>exact hr.elim
theorem aX.set {key:Nat->Nat} {φ:Ph}{size:Nat}{xs:List MV}: ∀{cs:List Value} {i:Nat} {x:MV} {v':List Value},aX key φ size cs xs->i<xs.length->v'.length=size->gY key φ v' x-> aX key φ size (cs.take (i *size)++v'++cs.drop (i *size+size)) (xs.set i x):=by
 induction xs with
 |nil=>intro cs i x v' _ hi;simp at hi
 |cons y ys ih=>
  intro cs i x v' h hi hl hr;obtain ⟨v,q,rfl,h1,h2,h3⟩:=h;cases i with
  |zero=>simp only [afx,List.take_zero,ae6,abQ,List.set_cons_zero];exact ⟨v',q,by rw [ab8 h1],hl,hr,h3⟩
  |succ i=>have:=ih h3 (by simpa using hi) hl hr;rw [List.set_cons_succ];refine ⟨v,_,?_,h1,h2,this⟩;rw [ab2,acU,adv,acu (by omega),aem (by omega)];rw [show i *size+size-v.length=i *size by omega,show i *size+size+size-v.length=i *size+size by omega];simp
theorem bS.agq {f:Nat}{fo:oM}{I:TI}{g i:Nat}{cap:Nat}{cY:Array Value} {v' cells:List Value}{x:MV}(h:bS c Z e st a w)(hf:aI st.aP f=some fo)(hz:fo.ei=false)(hI:c.ti fo.ty=some I)(Q5:I.ct=[])(hE:e.E f= .slice (some ⟨g,0,none⟩) fo.xs.length cap)(dn:w.ownsRow 0 fo.ty I.size (e.E f) fo.xs.length cells)(hg:w.heap[g]? =some (.cells cY fo.ty (0,0)))(ib:aX e.key e.φ I.size cells fo.xs)(hi:i<fo.xs.length)(hl:v'.length=I.size)(hr:gY e.key e.φ v' x)(zJ:f∉Z.cy): bS c Z {e with m:=bR e.m f ⟨fo.ty,false,fo.xs.set i x⟩} {st with fr:=zD f st.fr,aP:=bR st.aP f ⟨fo.ty,false,fo.xs.set i x⟩} a (w.setRow g (cY.toList.take (i *I.size)++v'++cY.toList.drop (i *I.size+I.size)).toArray)/\Z g:=by
 have hb:(e.E f).ownBlock=some g:=by rw [hE];rfl
 have hZ:Z g/\ ∀off,e.φ g off=none:=by
  obtain ⟨J,vu,_,_,_,_,h5⟩:=(h.iK f fo hf).row;obtain ⟨h6,h7⟩:=h5 g hb;refine ⟨OJ h6 zJ,λoff=> ?_⟩;cases hp:e.φ g off with
  |none=>rfl
  |some u=>have:=(h7.1 off u hp).1;rw [hz] at this;cases this
 have pJ:=setRow_size w g (cY.toList.take (i *I.size)++v'++cY.toList.drop (i *I.size+I.size)).toArray;have hE1:Yq e {e with m:=bR e.m f ⟨fo.ty,false,fo.xs.set i x⟩}:=by
  refine ⟨rfl,.refl _,λf2 o2 cB=>⟨?_,rfl⟩⟩;have cB:aI (bR e.m f ⟨fo.ty,false,fo.xs.set i x⟩) f2=some o2:=cB;rw [bm] at cB;by_cases eU:f2=f
  ·exact ⟨fo,by rw [eU,h.m];exact hf⟩
  ·simp only [eU,if_false] at cB;exact ⟨o2,cB⟩
 have rS:ki (· ≠f) (λ_=>True) e {e with m:=bR e.m f ⟨fo.ty,false,fo.xs.set i x⟩}:=by refine ⟨rfl,.refl _,λ_ _=>rfl,λf2 o2 cB cR=> ?_⟩;have cB:aI (bR e.m f ⟨fo.ty,false,fo.xs.set i x⟩) f2=some o2:=cB;rw [bm] at cB;simp only [cR,if_false] at cB;exact ⟨o2,cB,rfl,rfl⟩
 have oN: ∀f2 o2,aI (bR st.aP f ⟨fo.ty,false,fo.xs.set i x⟩) f2=some o2-> ∃o3,aI st.aP f2=some o3:=by
  intro f2 o2 cB;rw [bm] at cB;by_cases eU:f2=f
  ·exact ⟨fo,by rw [eU];exact hf⟩
  ·simp only [eU,if_false] at cB;exact ⟨o2,cB⟩
 refine ⟨⟨h.defers,h.size,by show bR e.m f _=bR st.aP f _;rw [h.m],h.key,?_,?_,?_,?_,?_,?_,?_,?_,λb hb=>h.ch b (by omega)⟩,hZ.1⟩
 ·show (aN (zD f st.fr)).Nodup;have:aN (zD f st.fr)=aN st.fr:=by simp [aN,zD]
  rw [this];exact h.nodup
 ·intro t;show bW Z _ _ t _ (aq (zD f st.fr) t);rw [wc];have hs:=h.slot t;have hbf:=h.bf t;generalize aq st.fr t=s at hs hbf;by_cases Eh: ∃cs,s= .box cs
  ·obtain ⟨cs,rfl⟩:=Eh;simp only [bW,RI] at hs⊢;refine ⟨hs.1,hs.2.ch,?_,hs.2.free⟩;obtain ⟨o2,h1,h2⟩:=hs.2.obj;refine ⟨o2,?_,h2.Xy hE1 rfl (.refl _)⟩;rw [setRow_other _ _ _ _ (by intro eb;exact hbf cs f fo rfl hf (by rw [hb,<-eb]))];exact h1
  ·have yu:ab e (a.tmps.getD t undef) s:=by cases s<;>simp only [bW] at hs<;>first|exact hs|exact absurd ⟨_,rfl⟩ Eh
   have h2:=yu.Xy (f:=f) hE1 rS (dH s);generalize Vi:RI f s=s2 at h2;cases s2<;>first|exact h2|(exfalso;simp [ab] at h2)
 ·intro t;show cC (zD f st.fr) (aq (zD f st.fr) t);rw [wc];have pN:=h.root t;generalize aq st.fr t=s at pN;have hk: ∀q,cV (aq (zD f st.fr) q)=cV (aq st.fr q):=λq=>by rw [wc,Vh]
  cases s with
  |ptr q o=>show cV (aq (zD f st.fr) q)=true;rw [hk];exact pN
  |hp q o i=>show cV (aq (zD f st.fr) q)=true;rw [hk];exact pN
  |zq q=>show cV (aq (zD f st.fr) q)=true;rw [hk];exact pN
  |ep g' _ _ _ _=>simp only [RI];cases bN g' f<;>trivial
  |_=>trivial
 ·intro f2 o2 cB;have cB:aI (bR st.aP f ⟨fo.ty,false,fo.xs.set i x⟩) f2=some o2:=cB;rw [bm] at cB;by_cases eU:f2=f
  ·subst eU;simp at cB;subst cB;obtain ⟨hlen,Pb⟩:=dn;refine ⟨I,cells.take (i *I.size)++v'++cells.drop (i *I.size+I.size),hI,Q5,⟨?_,?_⟩,?_,?_⟩
   ·have hle:i *I.size+I.size<=fo.xs.length *I.size:=by rw [<-ab2];exact abN _ hi
    simp only [By,acX,adw,agc];omega
   ·have hle:i *I.size+I.size<=fo.xs.length *I.size:=by rw [<-ab2];exact abN _ hi
    rcases Pb with ⟨h1,_⟩|⟨g2,yW,we,h1,_,h3,h4,h5,h6,h7⟩
    ·rw [hE] at h1;simp at h1
    ·rw [hE] at h1;simp at h1;obtain ⟨rfl,rfl⟩:=h1;rw [hg] at h3;simp at h3;subst h3;refine .inr ⟨g,cap,(cY.toList.take (i *I.size)++v'++cY.toList.drop (i *I.size+I.size)).toArray,by rw [hE];simp,by omega,setRow_heap _ _ _ _ _ _ hg,by simpa using h4,h5,?_,?_⟩
     ·have oq:cY.toList.length=cY.size:=by simp
      have hcz:fo.xs.length *I.size<=cap *I.size:=abN _ h4;simp only [acv,By,acX,adw,oq];omega
     ·have oq:cY.toList.length=cY.size:=by simp
      have hcz:fo.xs.length *I.size<=cap *I.size:=abN _ h4;simp only [agc];rw [<-h7];have e1:(cY.toList.take (fo.xs.length *I.size)).take (i *I.size)=cY.toList.take (i *I.size):=by rw [List.take_take,Nat.min_eq_left (by omega)]
      have e2:(cY.toList.take (fo.xs.length *I.size)).drop (i *I.size+I.size)=(cY.toList.drop (i *I.size+I.size)).take (fo.xs.length *I.size-(i *I.size+I.size)):=by rw [List.drop_take]
      rw [e1,e2];have e3:(cY.toList.take (i *I.size)++v').length=i *I.size+I.size:=by simp only [By,acX,oq];omega
      show List.take _ (cY.toList.take (i *I.size)++v'++cY.toList.drop (i *I.size+I.size))=_;rw [acU,e3,acu (by omega)]
   ·exact ib.set hi hl hr
   ·intro a8 jI;rw [hb] at jI;cases jI;exact ⟨.inr hZ.1,λoff u hu=>(by have hu:e.φ g off=some u:=hu;rw [hZ.2] at hu;cases hu),λ_ hf=>Bool.noConfusion hf⟩
  ·simp only [eU,if_false] at cB;obtain ⟨I2,vu,h1,h2,h3,h4,h5⟩:=(h.iK f2 o2 cB).row;exact ⟨I2,vu,h1,h2,RF (λhk=>eU (h.ff f2 f o2 fo g cB hf hk hb)) h3,h4,h5⟩
 ·intro t t' c1 c2 h1 h2 cR;have h1:aq (zD f st.fr) t= .box c1:=h1;have h2:aq (zD f st.fr) t'= .box c2:=h2;rw [wc] at h1 h2;have g1:aq st.fr t= .box c1:=by generalize aq st.fr t=s at h1;cases s<;>simp only [RI] at h1<;>first|exact h1|(simp at h1;done)|(rename_i g' _ _ _ _;cases DY:bN g' f<;>simp [DY] at h1)
  have g2:aq st.fr t'= .box c2:=by generalize aq st.fr t'=s at h2;cases s<;>simp only [RI] at h2<;>first|exact h2|(simp at h2;done)|(rename_i g' _ _ _ _;cases DY:bN g' f<;>simp [DY] at h2)
  exact h.bb t t' c1 c2 g1 g2 cR
 ·intro t c1 f2 o2 h1 h2;have h1:aq (zD f st.fr) t= .box c1:=h1;rw [wc] at h1;have g1:aq st.fr t= .box c1:=by generalize aq st.fr t=s at h1;cases s<;>simp only [RI] at h1<;>first|exact h1|(simp at h1;done)|(rename_i g' _ _ _ _;cases DY:bN g' f<;>simp [DY] at h1)
  obtain ⟨o3,Tv⟩:=oN f2 o2 h2;exact h.bf t c1 f2 o3 g1 Tv
 ·intro f1 f2 o1 o2 k h1 h2 h3 h4;obtain ⟨q1,g1⟩:=oN f1 o1 h1;obtain ⟨q2,g2⟩:=oN f2 o2 h2;exact h.ff f1 f2 q1 q2 k g1 g2 h3 h4
 ·intro b off v hv;have hv:e.φ b off=some v:=hv;have cR:b≠g:=by intro eb;subst eb;rw [hZ.2] at hv;cases hv
  rw [abV (setRow_other _ _ _ _ cR)];exact h.kZ b off v hv
theorem av.Vj {cs:List aE}: ∀{vs:List Value} {ms:List MV},av e vs cs->bE cs=some ms->ga e.key e.φ vs ms:=by
 induction cs with
 |nil=>intro vs ms h hm;cases h;simp [bE] at hm;subst hm;exact .nil
 |cons l r ih=>
  intro vs ms h hm;obtain ⟨v,u,rfl,h1,h2⟩:=h;cases hr:bE r with
  |none=>cases l<;>simp [bE,hr] at hm
  |some q=>
   cases l<;>simp [bE,hr] at hm
   ·subst hm;exact .cons v _ u q h1.2 (ih h2 hr)
   ·subst hm;have h1:v=bq _:=h1;subst h1;exact .cons _ _ u q (.h _) (ih h2 hr)
theorem Yr {b:Bool}{ms:List MV}{x:MV}{vs:List Value}(h:ga e.key e.φ vs ms)(hx:vr b ms=some x):gY e.key e.φ vs x:=by
 cases b with
 |true=>cases ms<;>simp [vr] at hx<;>subst hx<;>exact .agg _ _ h
 |false=>
  cases ms with
  |nil=>simp [vr] at hx
  |cons m ms=>
   cases ms with
   |cons y ys=>simp [vr] at hx
   |nil=>
    simp [vr] at hx;subst hx;generalize yt:vs=KC at h;cases h with
    |cons v _ u _ h1 h2=>cases h2;simpa using h1
theorem Ys {t:TypeId}{x y:Operand}{I:TI}(ho:o.op= .store t x y)(hI:c.tv t=some I)(hT:ia P c.ti)(h:bS c Z e st a w)(hK:stK st I (aH c st x) (aH c st y) (λst=>bn c st o.dst (.sc .un) K)=some r):o.wp P a w (Out c Z K r e.φ w) Q:=by
 obtain ⟨hx,pN⟩:=h.eval x;obtain ⟨hy,_⟩:=h.eval y;obtain ⟨lQ,hc⟩:=bj hI;have hr:=hT t I lQ;have go: ∀w' bY,(adn t (a.eval x) (a.eval y)).run P w= .ok () w'->bS c Z e bY a w'->Trans Z e.φ w e.φ w'->bn c bY o.dst (.sc .un) K=some r->o.wp P a w (Out c Z K r e.φ w) Q:=by intro w' bY h1 h2 h3 h4;refine CP ?_ h2 h3 h4;simp [execOp,ho,h1]
 generalize aH c st x=sx at hx hK pN;generalize aH c st y=sy at hy hK;unfold stK at hK;cases hb:wb (aJ sy)||!bN (zu (aJ sy)) I.size with
 |true=>simp [hb] at hK
 |false=>
  simp only [hb,cond_false] at hK;simp only [abW,adg] at hb;have Gc:=sh hb.2;have eD:0<I.size:=by
   rcases hr.agg hc with ⟨d,hu,hd,hh⟩|⟨_,_,_,_,hh⟩
   ·obtain ⟨d',i',h1,h2,h3,h4⟩:=hr;cases d'<;>simp only [rT] at h4<;>first|omega|exact h4.2.2.1|exact absurd hc h4.2.1
   ·omega
  have cR:aJ sy≠[]:=by intro e0;rw [e0] at Gc;simp [zu] at Gc;omega
  have hcv:=Bz hy hb.1 cR;split at hK
  ·rename_i root off;simp only [ab] at hx;split at hK
   ·rename_i cs uq;have uJ:eT cs=false:=by cases hq:eT cs<;>simp_all
    simp only [uJ,cond_false] at hK;cases hp:putAt cs off (aJ sy) with
    |none=>simp [hp] at hK
    |some fU=>simp only [hp] at hK;obtain ⟨w',bY,h1,h2,h3,h4⟩:=Vd (P:=P) uJ hr hc h uq hcv Gc hp hK;exact go w' bY (by rw [hx];exact h1) h2 h3 h4
   ·simp at hK
  ·rename_i root off i;simp only [ab] at hx;obtain ⟨hx,RE⟩:=hx;split at hK
   ·rename_i cs n uq;have uJ:eT cs=false:=by cases hq:eT cs<;>simp_all
    simp only [uJ,cond_false] at hK;split at hK
    ·rename_i x ls agh;unfold gI at hK;split at hK
     ·rename_i k n;by_cases hk:k= .u8
      ·subst hk;simp only [decide_true,cond_true] at hK;obtain ⟨CU,hK⟩:=dE hK;unfold isByte at CU;have CU:=of_decide_eq_true CU;have hyv:=lu hy;cases hp:putAt cs off [.hs (x.put i (ab1 n.toNat))] with
       |none=>simp [hp] at hK
       |some fU=>
        simp only [hp] at hK;have nn:=h.slot root;rw [uq] at nn;obtain ⟨arr,T,cz,pI⟩:=nn.2.cells uJ;obtain ⟨p1,p2,p3,he,h1,h2,h3⟩:=xi (ws:=bq (x.put i (ab1 n.toNat))) hp pI ⟨_,[],by simp,rfl,rfl⟩;obtain ⟨u1,u2,hu,h4,h5⟩:=zF agh pI;obtain ⟨u3,u4,rfl,h6,_⟩:=h5;have h6:u3=bq x:=h6;subst h6;have hlx:=cX x;have hly:=cX (x.put i (ab1 n.toNat));have hpu:p1=u1/\p2++p3=bq x++u4:=List.append_inj (by rw [<-AI,<-he,hu]) (by omega);obtain ⟨rfl,hpu⟩:=hpu;obtain ⟨rfl,rfl⟩:=List.append_inj hpu (by omega);have pJ:arr.size=p1.length+32+p3.length:=by
         have:arr.toList.length=(p1++bq x++p3).length:=by rw [he]
         simp at this;omega
        have Nn:(a.eval y).cells.toList=[.int .u8 n]:=by rw [hyv];simp [abK]
        have Lt:I.size=1:=by rw [<-Gc];rfl
        have bF:=nE (P:=P) (w:=w) (a8:=e.B root) (off:=off+i) (v:=a.eval y) hr hc (by rw [Nn,Lt];rfl) (by rw [Nn];simp [No]) cz (by omega);have jC:arr.toList.take (off+i)++(a.eval y).cells.toList++arr.toList.drop (off+i+I.size)=p1++bq (x.put i (ab1 n.toNat))++p3:=by rw [Nn,Lt,he,Hm x i _ RE,<-CU,AI p1,acU,adv,acU,adv];rw [acu (by omega),aem (by omega)];rw [show off+i-p1.length=i by omega,show off+i+1-p1.length=i+1 by omega,show i-(bq x).length=0 by omega,show i+1-(bq x).length=0 by omega];simp
        rw [jC] at bF;unfold wr at hK;cases hn:bx st.cA root with
        |true=>simp [hn] at hK
        |false=>simp only [hn,cond_false,force_eq,mB] at hK;exact go _ _ (by rw [hx];exact bF) (h.Yk uq cz (by simpa using h3) (λt=>by rw [bL]) (ej h.nodup)) (.setRow _ (OJ nn.2.ch (by rw [<-h.defers.2.1,<-bu,hn];simp))) hK
      ·simp [hk] at hK
     ·simp at hK
    ·simp at hK
   ·simp at hK
  ·rename_i f i off b cs;obtain ⟨e1,eJ,ms,zn,CF,Ef,DZ,hK,Ve,zM⟩:=np h hcv hK;have hx:=hx.on CF.on (dH _);cases hf:aI eJ.aP f with
   |none=>simp [hf] at hK
   |some fo=>
    simp only [hf] at hK;cases hz:fo.ei with
    |true=>simp [hz] at hK
    |false=>
     simp only [hz,cond_false] at hK;cases Q3:rj (aJ sy) ms with
     |none=>simp [Q3] at hK
     |some vs=>
      simp only [Q3] at hK;obtain ⟨yt,_⟩:=zM vs Q3;cases hp:putAt cs off vs with
      |none=>simp [hp] at hK
      |some fU=>
       simp only [hp] at hK;cases hm:bE fU with
       |none=>simp [hm] at hK
       |some ms'=>
        simp only [hm] at hK;cases hre:vr b ms' with
        |none=>simp [hre] at hK
        |some x'=>
         simp only [hre] at hK;cases hn:bx eJ.cy f with
         |true=>simp [hn] at hK
         |false=>
          simp only [hn,cond_false,af7,oV] at hK;simp only [ab] at hx;obtain ⟨a8,cap,hE,⟨x0,hx0,hel⟩,Yt⟩:=hx fo (by rw [zn.m];exact hf);obtain ⟨J,cells,hJ,hJc,dn,ib,_⟩:=(zn.iK f fo hf).row;have hi:i<fo.xs.length:=(AS.1 hx0).1;obtain ⟨p1,v1,p2,hce,CE,sv,eK⟩:=ib.at hx0;have pI:=eK.Hj hel;have hw1:=pI.width;obtain ⟨q1,q2,q3,U8,hq1,hq2,jC⟩:=xi hp pI yt;have aje:(a.eval y).cells.toList.length=I.size:=by rw [hcv.width,Gc]
          have ajf:=Yr (jC.Vj hm) hre;obtain ⟨hlen,Pb⟩:=dn;rcases Pb with ⟨g1,_⟩|⟨g2,yW,cY,g1,g0,g3,g4,g5,g6,g7⟩
          ·rw [hE] at g1;simp at g1
          ·have LA:w.ownsRow 0 fo.ty J.size (e1.E f) fo.xs.length cells:=⟨hlen,.inr ⟨g2,yW,cY,g1,g0,g3,g4,g5,g6,g7⟩⟩
           rw [hE] at g1;simp at g1;obtain ⟨rfl,rfl⟩:=g1;have hvl:(q1++(a.eval y).cells.toList++q3).length=J.size:=by
            have:v1.length=(q1++q2++q3).length:=by rw [U8]
            simp only [By] at this⊢;omega
           obtain ⟨oO,hZ⟩:=zn.agq hf hz hJ hJc hE LA g3 ib hi hvl ajf (by rw [<-zn.defers.2.2.1,<-bu,hn];simp);have Yu:cY.toList=p1++q1++q2++(q3++p2++cY.toList.drop (fo.xs.length *J.size)):=by have:=List.take_append_drop (fo.xs.length *J.size) cY.toList;rw [g7,hce,U8] at this;refine this.symm.trans ?_;simp
           have asj:q2.length=I.size:=by rw [hq2,aje]
           have zL:(p1++q1).length=i *J.size+off:=by simp [CE,hq1]
           have asl:cY.size=(p1++q1).length+I.size+(q3++p2++cY.toList.drop (fo.xs.length *J.size)).length:=by
            have:cY.toList.length=(p1++q1++q2++(q3++p2++cY.toList.drop (fo.xs.length *J.size))).length:=by rw [<-Yu]
            rw [By,By] at this;rw [abY] at this;omega
           have bF:=nE (P:=P) (w:=w) (a8:=a8) (off:=i *J.size+off) (v:=a.eval y) hr hc aje hcv.cells g3 (by omega);have iM:cY.toList.take (i *J.size+off)++(a.eval y).cells.toList++cY.toList.drop (i *J.size+off+I.size)= cY.toList.take (i *J.size)++(q1++(a.eval y).cells.toList++q3)++cY.toList.drop (i *J.size+J.size):=by
            have t1:cY.toList.take (i *J.size+off)=p1++q1:=by
             conv=>lhs;rw [Yu,AI (p1++q1)]
             exact ac9 zL
            have t2:cY.toList.drop (i *J.size+off+I.size)=q3++p2++cY.toList.drop (fo.xs.length *J.size):=by
             conv=>lhs;rw [Yu]
             exact ab8 (by rw [By];omega)
            have t3:cY.toList.take (i *J.size)=p1:=by
             conv=>lhs;rw [Yu]
             simp only [AI];exact ac9 CE
            have t4:cY.toList.drop (i *J.size+J.size)=p2++cY.toList.drop (fo.xs.length *J.size):=by
             have Pc:cY.toList=(p1++(q1++q2++q3))++(p2++cY.toList.drop (fo.xs.length *J.size)):=by
              conv=>lhs;rw [Yu]
              simp
             conv=>lhs;rw [Pc]
             exact ab8 (by rw [By,<-U8];omega)
            rw [t1,t2,t3,t4];simp
           rw [iM] at bF;have anA:i *zu cs+off=i *J.size+off:=by rw [<-hw1,sv]
           refine CP (w':=w.setRow a8 (cY.toList.take (i *J.size)++(q1++(a.eval y).cells.toList++q3)++cY.toList.drop (i *J.size+J.size)).toArray) ?_ oO ?_ hK
           ·rw [anA] at Yt;simp [execOp,ho,Yt,bF]
           ·exact CF.tr.trans (.setRow _ hZ)
  ·simp at hK
end
end Dn
/-
  Structs and sums that are put together. Conditions: none.
-/
namespace Dn
open Go
section
variable {P:Program}{c:Ctx}{Z:bC} {e e':Env}{st:St}{a:Act} {w w':World}{R:Type}{K:St->Option R}{r:R}{Q:Exit->Act->World->Prop}{o:Oper}
theorem LB {place:Nat->Option (Nat×Nat)}{cells:Array Value}{i off:Nat}{v:Value}{rest:List (Nat×Value)}(hp:place i=some (off,v.cells.size))(hle:off+v.cells.size<=cells.size): aeW place cells ((i,v)::rest)=aeW place (cells.toList.take off++v.cells.toList++cells.toList.drop (off+v.cells.size)).toArray rest:=by
 conv=>lhs;unfold aeW
 simp only [hp];rw [if_neg (by simp;omega)];congr 1;rw [<-Array.foldl_toList,Array.toList_zipIdx];obtain ⟨h1,h2⟩:=Go.Great.foldl_set off v.cells.toList 0 cells;apply Array.ext_getElem?;intro k;have hl:(cells.toList.take off).length=off:=by simp;omega
 have e0:=h2 k;simp only [ade,abY] at e0;refine Eq.trans e0 ?_;have e1:(cells.toList.take off++v.cells.toList++cells.toList.drop (off+v.cells.size)).toArray[k]? =(cells.toList.take off++v.cells.toList++cells.toList.drop (off+v.cells.size))[k]? :=by simp
 rw [e1,AI];have e2:cells[k]? =cells.toList[k]? :=by simp
 by_cases h3:k<off
 ·rw [if_neg (by omega),aaG (by omega),abZ,if_pos h3,e2]
 ·rw [OF (by omega),hl];by_cases h4:k<off+v.cells.size
  ·rw [if_pos ⟨by omega,h4,by omega⟩,aaG (by simp;omega)]
  ·rw [if_neg (by omega),OF (by simp;omega),afq,e2];congr 1;simp;omega
theorem RJ {I:TI}{places:List (Nat×Nat)}(h:bS c Z e st a w)(Q3: ∀(i q y:Nat)(J:TI),I.yS[i]? =some q->I.U1[i]? =some y->c.tv y=some J->places[i]? =some (q,J.size)/\0<J.size){parts:List (Nat×Operand)}: ∀{cs ds:List aE} {cells:Array Value},av e cells.toList cs->BT c st I parts cs=some ds-> ∃out,aeW (places.toArray[·]?) cells (parts.map λp=>(p.1,a.eval p.2))=some out/\av e out.toList ds:=by
 induction parts with
 |nil=>intro cs ds cells hl hb;simp [BT] at hb;subst hb;exact ⟨cells,rfl,hl⟩
 |cons p ps ih=>
  intro cs ds cells hl hb;obtain ⟨i,x⟩:=p;simp only [BT] at hb;split at hb
  ·rename_i q y hq hy;cases hJ:c.tv y with
   |none=>simp [hJ] at hb
   |some J=>
    simp only [hJ] at hb;obtain ⟨hpi,eD⟩:=Q3 i q y J hq hy hJ;cases hu:wb (aJ (aH c st x))||!bN (zu (aJ (aH c st x))) J.size with
    |true=>simp [hu] at hb
    |false=>
     simp only [hu,cond_false] at hb;simp only [abW,adg] at hu;have Gc:=sh hu.2;cases hp:putAt cs q (aJ (aH c st x)) with
     |none=>simp [hp] at hb
     |some fU=>
      simp only [hp] at hb;have cR:aJ (aH c st x)≠[]:=by intro e0;rw [e0] at Gc;simp [zu] at Gc;omega
      have hv:=Bz (h.eval x).1 hu.1 cR;obtain ⟨p1,p2,p3,he,h1,h2,h3⟩:=xi hp hl hv;have hlen:(a.eval x).cells.size=J.size:=by rw [<-Gc,<-hv.width];simp
      have pJ:cells.size=p1.length+p2.length+p3.length:=by
       have:cells.toList.length=(p1++p2++p3).length:=by rw [he]
       simp at this;omega
      have Nk:p2.length=(a.eval x).cells.size:=by rw [h2];simp
      have Ty:=LB (place:=(places.toArray[·]?)) (cells:=cells) (i:=i) (off:=q) (v:=a.eval x) (rest:=ps.map λp=>(p.1,a.eval p.2)) (by rw [hlen];simpa using hpi) (by omega);have ht:cells.toList.take q++(a.eval x).cells.toList++cells.toList.drop (q+(a.eval x).cells.size)=p1++(a.eval x).cells.toList++p3:=by rw [he];rw [AI p1 p2 p3,ac9 h1,<-AI p1 p2 p3,ab8 (by rw [By];omega)]
      rw [ht] at Ty;obtain ⟨out,h4,h5⟩:=ih (cells:=(p1++(a.eval x).cells.toList++p3).toArray) (by simpa using h3) hb;exact ⟨out,by rw [IT,Ty];exact h4,h5⟩
  ·simp at hb
theorem RL {parts:List (Nat×Operand)}(h:bS c Z e st a w): ∀{x:kM} {K':kM->Option R},G5 c st parts x K'=some r-> ∃y,aeW (λi=>some (i *1,1)) (bq x).toArray (parts.map λp=>(p.1,a.eval p.2))=some (bq y).toArray/\K' y=some r:=by
 induction parts with
 |nil=>intro x K' hb;exact ⟨x,rfl,hb⟩
 |cons p ps ih=>
  intro x K' hb;obtain ⟨i,y⟩:=p;simp only [G5] at hb;split at hb
  ·rename_i m hm;cases hi:abP 32 i with
   |true=>simp [hi] at hb
   |false=>
    simp only [hi,cond_false] at hb;have RE:i<32:=by
     by_cases cI:i<32
     ·exact cI
     ·have:abP 32 i=true:=ae7 (by omega);simp_all
    unfold gI at hb;split at hb
    ·rename_i k n;by_cases hk:k= .u8
     ·subst hk;simp only [decide_true,cond_true] at hb;obtain ⟨CU,hb⟩:=dE hb;unfold isByte at CU;have CU:=of_decide_eq_true CU;obtain ⟨out,h1,h2⟩:=ih hb;have hv:=lu (by have:=(h.eval y).1;rw [hm] at this;exact this);refine ⟨out,?_,h2⟩;rw [<-h1,IT];have Fi:(a.eval y).cells= #[.int .u8 n]:=by rw [hv];simp [abK]
      have Ty:=LB (place:=λi=>some (i *1,1)) (cells:=(bq x).toArray) (i:=i) (off:=i *1) (v:=a.eval y) (rest:=ps.map λp=>(p.1,a.eval p.2)) (by rw [Fi];rfl) (by rw [Fi];have:=cX x;simp;omega);rw [Ty,Hm x i _ RE,<-CU,Fi];simp
     ·simp [hk] at hb
    ·simp at hb
  ·simp at hb
theorem Vk (P:Program)(l:List Field):(∀f∈l,∃i,P.info? f.type=some i)-> ∃places,l.mapM (λf=>(P.info? f.type).map λi=>(f.offset,i.size))=some places/\ ∀(k:Nat) (f:Field),l[k]? =some f-> ∃i,P.info? f.type=some i/\places[k]? =some (f.offset,i.size):=by
 induction l with
 |nil=>intro _;exact ⟨[],by simp,by simp⟩
 |cons f fs ih=>
  intro h;obtain ⟨i,hi⟩:=h f (by simp);obtain ⟨ps,h1,h2⟩:=ih (λg hg=>h g (by simp [hg]));refine ⟨(f.offset,i.size)::ps,by simp [List.mapM_cons,hi,h1],?_⟩;intro k g hg;cases k with
  |zero=>simp at hg;subst hg;exact ⟨i,hi,rfl⟩
  |succ k=>simp at hg;simpa using h2 k g hg
theorem Yv {t:TypeId}{parts:Array (Nat×Operand)}{I:TI}(ho:o.op= .build t parts)(hI:c.tv t=some I)(hT:ia P c.ti)(h:bS c Z e st a w)(hK:(bif I.st then (match BT c st I parts.toList I.zero with|some cs=>bn c st o.dst (.ag cs) K|none=>none)
  else (match I.lay with|[.h]=>G5 c st parts.toList kM.zero λx=>bn c st o.dst (.sc (.hs x)) K|_=>none))=some r):Rd P c Z K r e a w o (λ_=>True):=by
 obtain ⟨lQ,hc⟩:=bj hI;obtain ⟨d,i,h1,h2,h3,h4⟩:=hT t I lQ;have Xz:(parts.map λ(i,x)=>(i,a.eval x)).toList=parts.toList.map λp=>(p.1,a.eval p.2):=by simp
 have run: ∀out,P.built t (parts.toList.map λp=>(p.1,a.eval p.2))=some out-> ∀w:World,(execOp a.eval o).run P w= .ok (.value (.agg out)) w:=by intro out hb w;have:=run_build (P:=P) w t (parts.map λ(i,x)=>(i,a.eval x)) out (by rw [Xz];exact hb);simp [execOp,ho] at this⊢;simp [this]
 cases dK:I.st with
 |true=>
  simp only [dK,cond_true] at hK;cases d<;>simp only [rT] at h4;case struct fs=>
   obtain ⟨_,_,_,ho1,cB,Tv,zc,hz,hzl,_⟩:=h4;cases hb:BT c st I parts.toList I.zero with
   |none=>simp [hb] at hK
   |some cs=>
    simp only [hb] at hK;have anB: ∃places,fs.toList.mapM (λf=>(P.info? f.type).map λi=>(f.offset,i.size))=some places/\ (∀(i q y:Nat) (J:TI),I.yS[i]? =some q->I.U1[i]? =some y->c.tv y=some J->places[i]? =some (q,J.size)/\0<J.size):=by
     obtain ⟨places,Ve,Lx⟩:=Vk P fs.toList (by intro f hf;obtain ⟨k,hk,rfl⟩:=afc.1 hf;obtain ⟨J,hJ,hJc,_⟩:=Tv k fs.toList[k] (by simp at hk⊢);obtain ⟨i,hi,_⟩:=(hT _ J hJ).info hJc;exact ⟨i,hi⟩);refine ⟨places,Ve,?_⟩;intro i q y J hq hy hJ;rw [<-ho1,abS] at hq;rw [<-cB,abS] at hy;cases hf:fs.toList[i]? with
     |none=>simp [hf] at hq
     |some f=>simp [hf] at hq hy;subst hq;subst hy;obtain ⟨J2,hJ2,anC,eD⟩:=Tv i f (by simpa using hf);obtain ⟨hJt,_⟩:=bj hJ;rw [hJ2] at hJt;cases hJt;obtain ⟨i2,XA,anD⟩:=Lx i f hf;obtain ⟨i3,hi3,hs3,_⟩:=(hT _ J hJ2).info anC;rw [XA] at hi3;cases hi3;exact ⟨by rw [anD,hs3],eD⟩
    obtain ⟨places,Q3,RM⟩:=anB;obtain ⟨out,h5,h6⟩:=RJ h RM (cells:=zc) (lR hzl) hb;refine jb (v:= .agg out) (s:= .ag cs) h (run out ?_) ?_ trivial hK
    ·unfold Program.built;simp only [h2,h1,hz,Q3];exact h5
    ·simp only [ab];exact ⟨out,rfl,h6⟩
  all_goals (exfalso;simp_all)
 |false=>
  simp only [dK,cond_false] at hK;split at hK
  ·rename_i hl;cases d<;>simp only [rT,hl,dK] at h4<;>first|(exfalso;simp_all;done)|skip
   obtain ⟨_,_,_,rfl,rfl,⟨ie,hu,pH,zn⟩,_,_,hz⟩:=h4;obtain ⟨y,h5,h6⟩:=RL h hK;refine jb (v:= .agg (bq y).toArray) (s:= .sc (.hs y)) h (run _ ?_) ?_ trivial h6
   ·unfold Program.built;simp only [h2,h1,hz,pH,zn];exact h5
   ·simp only [ab]
  ·simp at hK
end
end Dn
/-
  A family comes to have other content. Conditions: none.
-/
namespace Dn
open Go
section
variable {P:Program}{c:Ctx}{Z:bC} {e e':Env}{st:St}{a:Act} {w w':World}{R:Type}{K:St->Option R}{r:R}{Q:Exit->Act->World->Prop}{o:Oper}
def Env.wg (e:Env)(f:Nat)(v:Value)(fo:oM):Env:={e with E:=λg=>if g=f then v else e.E g,m:=bR e.m f fo}
def St.wg (st:St)(f:Nat)(fo:oM):St:={st with fr:=lM f st.fr,aP:=bR st.aP f fo}
theorem Ei (f:Nat)(s:Slot):cV (AJ f s)=cV s:=by cases s<;>simp only [AJ,cV];rename_i g _ _ _ _;cases bN g f<;>rfl
theorem uK {f:Nat}{s:Slot}{cs:List aE}(h:AJ f s= .box cs): ∃Ge,s= .box Ge/\cs=Ge.map (Nc f):=by
 cases s<;>simp only [AJ] at h<;>first|(simp at h;done)|(rename_i g _ _ _ _;cases hb:bN g f<;>simp [hb] at h;done)|skip
 rename_i Ge;simp at h;exact ⟨Ge,rfl,h.symm⟩
theorem bS.iP {f:Nat}{fo:oM} {v':Value}(h:bS c Z e st a w)(zJ:f∉Z.cy)(gd:cu c Z.nc e w' v' fo)(aqo:w.heap.size<=w'.heap.size)(cz: ∀b,b<w.heap.size->(∀o,aI st.aP f=some o->(e.E f).ownBlock≠some b)->w'.heap[b]? =w.heap[b]?)(iQ: ∀b o v,e.φ b o=some v->w'.cell? ⟨b,o,none⟩=some v)(jC: ∀b,v'.ownBlock=some b->w.heap.size<=b\/ ∃o,aI st.aP f=some o/\(e.E f).ownBlock=some b): bS c Z (e.wg f v' fo) (st.wg f fo) a w':=by
 have rS:ki (· ≠f) (λ_=>True) e (e.wg f v' fo):=by refine ⟨rfl,.refl _,λ_ _=>rfl,λf2 o2 cB cR=> ?_⟩;have cB:aI (bR e.m f fo) f2=some o2:=cB;rw [bm] at cB;simp only [cR,if_false] at cB;exact ⟨o2,cB,by simp [Env.wg,cR],rfl⟩
 have Yw: ∀t cs,aq st.fr t= .box cs->e.B t<w.heap.size:=by intro t cs ht;have hs:=h.slot t;rw [ht] at hs;obtain ⟨o2,h1,_⟩:=hs.2.obj;exact aZ h1
 have vt: ∀t cs,aq st.fr t= .box cs->w'.heap[e.B t]? =w.heap[e.B t]? :=by intro t cs ht;exact cz _ (Yw t cs ht) (λo ho=>h.bf t cs f o ht ho)
 refine ⟨h.defers,h.size,by show bR e.m f _=bR st.aP f _;rw [h.m],h.key,?_,?_,?_,?_,?_,?_,?_,iQ,λb hb=>h.ch b (by omega)⟩
 ·show (aN (lM f st.fr)).Nodup;have:aN (lM f st.fr)=aN st.fr:=by simp [aN,lM]
  rw [this];exact h.nodup
 ·intro t;show bW Z _ _ t _ (aq (lM f st.fr) t);rw [gU];have hs:=h.slot t;have CV:=vt t;generalize aq st.fr t=s at hs CV;by_cases Eh: ∃cs,s= .box cs
  ·obtain ⟨cs,rfl⟩:=Eh;simp only [bW,AJ] at hs⊢;refine ⟨hs.1.lO (Rx f _),hs.2.ch,?_,hs.2.free⟩;obtain ⟨o2,h1,h2⟩:=hs.2.obj;refine ⟨o2,by show w'.heap[e.B t]? =_;rw [CV cs rfl];exact h1,?_⟩;refine (h2.map (λ_ _=>aM.kill f) (λ_ _=>rfl)).on rS ?_;intro l hl;obtain ⟨x,_,rfl⟩:=ada.1 hl;exact Ec f x
  ·have yu:ab e (a.tmps.getD t undef) s:=by cases s<;>simp only [bW] at hs<;>first|exact hs|exact absurd ⟨_,rfl⟩ Eh
   have h2:=(yu.kill f).on rS (Yc f _ s (dH s));generalize Vi:AJ f s=s2 at h2;cases s2<;>first|exact h2|(exfalso;simp [ab] at h2)
 ·intro t;show cC (lM f st.fr) (aq (lM f st.fr) t);rw [gU];have pN:=h.root t;generalize aq st.fr t=s at pN;have hk: ∀q,cV (aq (lM f st.fr) q)=cV (aq st.fr q):=λq=>by rw [gU,Ei]
  cases s with
  |ptr q o=>show cV (aq (lM f st.fr) q)=true;rw [hk];exact pN
  |hp q o i=>show cV (aq (lM f st.fr) q)=true;rw [hk];exact pN
  |zq q=>show cV (aq (lM f st.fr) q)=true;rw [hk];exact pN
  |ep g' _ _ _ _=>simp only [AJ];cases bN g' f<;>trivial
  |_=>trivial
 ·intro f2 o2 cB;have cB:aI (bR st.aP f fo) f2=some o2:=cB;rw [bm] at cB;by_cases eU:f2=f
  ·subst eU;simp at cB;subst cB;have:=(gd.to zJ).env (e':=e.wg f2 v' fo) rfl rfl;simpa [Env.wg] using this
  ·simp only [eU,if_false] at cB;obtain ⟨I2,vu,h1,h2,h3,h4,h5⟩:=(h.iK f2 o2 cB).row;refine ⟨I2,vu,h1,h2,?_,h4,?_⟩
   ·show w'.ownsRow 0 o2.ty I2.size (if f2=f then v' else e.E f2) o2.xs.length vu;rw [if_neg eU];refine ⟨h3.1,?_⟩;rcases h3.2 with h6|⟨g,cap,cY,g1,g2,g3,g4⟩
    ·exact .inl h6
    ·refine .inr ⟨g,cap,cY,g1,g2,?_,g4⟩;rw [cz g (aZ g3) (λo ho hk=>eU (h.ff f2 f o2 o g cB ho (by rw [g1];rfl) hk))];exact g3
   ·intro a8 hb;have hb:(if f2=f then v' else e.E f2).ownBlock=some a8:=hb;rw [if_neg eU] at hb;exact h5 a8 hb
 ·intro t t' c1 c2 h1 h2 cR;have h1:aq (lM f st.fr) t= .box c1:=h1;have h2:aq (lM f st.fr) t'= .box c2:=h2;rw [gU] at h1 h2;obtain ⟨d1,g1,_⟩:=uK h1;obtain ⟨d2,g2,_⟩:=uK h2;exact h.bb t t' d1 d2 g1 g2 cR
 ·intro t c1 f2 o2 h1 h2;have h1:aq (lM f st.fr) t= .box c1:=h1;have h2:aI (bR st.aP f fo) f2=some o2:=h2;rw [gU] at h1;rw [bm] at h2;obtain ⟨d1,g1,_⟩:=uK h1;show (if f2=f then v' else e.E f2).ownBlock≠some (e.B t);by_cases eU:f2=f
  ·rw [if_pos eU];intro hb;rcases jC _ hb with h3|⟨o,h3,h4⟩
   ·have:=Yw t d1 g1;omega
   ·exact h.bf t d1 f o g1 h3 h4
  ·rw [if_neg eU];simp only [eU,if_false] at h2;exact h.bf t d1 f2 o2 g1 h2
 ·intro f1 f2 o1 o2 k h1 h2 h3 h4;have h1:aI (bR st.aP f fo) f1=some o1:=h1;have h2:aI (bR st.aP f fo) f2=some o2:=h2;have h3:(if f1=f then v' else e.E f1).ownBlock=some k:=h3;have h4:(if f2=f then v' else e.E f2).ownBlock=some k:=h4;rw [bm] at h1 h2;have rK: ∀g og,aI st.aP g=some og->(e.E g).ownBlock=some k->k<w.heap.size:=by
   intro g og hg hk;obtain ⟨I2,vu,_,_,g3,_⟩:=(h.iK g og hg).row;rcases g3.2 with ⟨g5,_⟩|⟨b,cap,cY,g5,_,g6,_⟩
   ·rw [g5] at hk;simp [aaW] at hk
   ·rw [g5] at hk;simp only [aaW,AT] at hk;subst hk;exact aZ g6
  by_cases Np:f1=f
  ·by_cases BB:f2=f
   ·rw [Np,BB]
   ·rw [if_pos Np] at h3;rw [if_neg BB] at h4;simp only [BB,if_false] at h2;rcases jC k h3 with h5|⟨o,h5,h6⟩
    ·have:=rK f2 o2 h2 h4;omega
    ·exact Np.trans (h.ff f f2 o o2 k h5 h2 h6 h4)
  ·rw [if_neg Np] at h3;simp only [Np,if_false] at h1;by_cases BB:f2=f
   ·rw [if_pos BB] at h4;rcases jC k h4 with h5|⟨o,h5,h6⟩
    ·have:=rK f1 o1 h1 h3;omega
    ·exact (h.ff f1 f o1 o k h1 h5 h3 h6).trans BB.symm
   ·rw [if_neg BB] at h4;simp only [BB,if_false] at h2;exact h.ff f1 f2 o1 o2 k h1 h2 h3 h4
theorem ot {f:Nat}{fo:oM}(hK:iP st f fo K=some r):K (st.wg f fo)=some r:=by
 unfold Dn.iP at hK;cases hn:bx st.cy f with
 |true=>simp [hn] at hK
 |false=>simpa [hn,X9,oV,St.wg] using hK
theorem bS.npf {f:Nat}{fo:oM}(h:bS c Z e st a w)(hK:Dn.iP st f fo K=some r):f∉Z.cy:=by intro hm;rw [<-h.defers.2.2.1,<-bu] at hm;simp [Dn.iP,hm] at hK
theorem sS {f:Nat}{fo:oM}{v:Value}(h1:v.oneCell'=true):ab (e.wg f v fo) v (.sc (.own f)):=by simp only [ab];exact ⟨v,rfl,h1,λo ho=>by simp [Env.wg]⟩
end
end Dn
/-
  What is appended. Conditions: none.
-/
namespace Dn
open Go
section
variable {P:Program}{c:Ctx}{Z:bC} {e e':Env}{st:St}{a:Act} {w w':World}{R:Type}{K:St->Option R}{r:R}{Q:Exit->Act->World->Prop}{o:Oper}
theorem lc {t:TypeId}{I:TI}(hr:oh c.ti P t I)(hc:I.ct=[]): ∃i z,P.info? t=some i/\i.size=I.size/\i.bytes=I.bytes/\i.zero=some z/\z.cells.size=I.size:=by
 obtain ⟨d,i,h1,h2,h3,h4⟩:=hr;obtain ⟨h5,h6⟩:=h3 hc;cases d<;>simp only [rT] at h4;case struct fs=>obtain ⟨_,_,_,_,_,_,cs,hz,_,hs⟩:=h4;exact ⟨i,_,h2,h5,h6,hz,by simpa [abK] using hs⟩
 case tuple ts=>exact absurd hc h4.2.1
 case slice el=>obtain ⟨_,_,hs,_,_,hz,_⟩:=h4;exact ⟨i,_,h2,h5,h6,hz,by rw [hs];rfl⟩
 case array n el=>obtain ⟨_,_,hs,_,_,_,_,_,hz⟩:=h4;exact ⟨i,_,h2,h5,h6,hz,by rw [hs];simp [abK,cX]⟩
 case bool=>obtain ⟨_,_,hs,_,_,hz⟩:=h4;exact ⟨i,_,h2,h5,h6,hz,by rw [hs];rfl⟩
 case int k=>obtain ⟨_,_,hs,_,_,hz⟩:=h4;exact ⟨i,_,h2,h5,h6,hz,by rw [hs];rfl⟩
 case string=>obtain ⟨_,_,hs,_,_,b,hz,_⟩:=h4;exact ⟨i,_,h2,h5,h6,hz,by rw [hs];rfl⟩
 all_goals
  obtain ⟨_,_,hs,_,v,hz,hv,_⟩:=h4;refine ⟨i,v,h2,h5,h6,hz,?_⟩;rw [hs];cases v<;>simp_all [abK,No]
structure Src (e:Env) (w:World) (size:Nat) (v:Value) (ys:List MV) (news:List Value):Prop where
 els:aX e.key e.φ size news ys
 val: ∃ad cap,v= .slice ad ys.length cap/\(ad=none->ys=[])/\ ∀x,ad=some x-> ∀(j:Nat) (u:Value),news[j]? =some u->w.cell? (x.add j)=some u
theorem aX.zN {key:Nat->Nat} {φ:Ph}{size:Nat}{xs:List MV}: ∀{cs:List Value},aX key φ size cs xs-> ∀u∈cs,u.oneCell'=true:=by
 induction xs with
 |nil=>intro cs h;cases h;simp
 |cons x xs ih=>
  intro cs h u hu;obtain ⟨v,q,rfl,_,h2,h3⟩:=h;rcases ae3.1 hu with hu|hu
  ·exact h2.cells u hu
  ·exact ih h3 u hu
theorem aX.append {key:Nat->Nat} {φ:Ph}{size:Nat}{xs ys:List MV}: ∀{cs ds:List Value},aX key φ size cs xs->aX key φ size ds ys->aX key φ size (cs++ds) (xs++ys):=by
 induction xs with
 |nil=>intro cs ds h h';cases h;simpa using h'
 |cons x xs ih=>intro cs ds h h';obtain ⟨v,q,rfl,h1,h2,h3⟩:=h;exact ⟨v,q++ds,by simp,h1,h2,ih h3 h'⟩
theorem Hn {key:Nat->Nat} {φ:Ph}{size:Nat}{xs:List MV}: ∀{f:Nat->List Value},(∀i,i<xs.length->(f i).length=size)->(∀(i:Nat) (h:i<xs.length),gY key φ (f i) xs[i])-> ∃cs,aX key φ size cs xs/\ ∀(i j:Nat),i<xs.length->j<size->cs[i *size+j]? =(f i)[j]? :=by
 induction xs with
 |nil=>intro f _ _;exact ⟨[],rfl,λi j hi=>by simp at hi⟩
 |cons x xs ih=>
  intro f h1 h2;obtain ⟨cs,h3,h4⟩:=ih (f:=λi=>f (i+1)) (λi hi=>h1 (i+1) (by simpa using hi)) (λi hi=>h2 (i+1) (by simpa using hi));have hl:=h1 0 (by simp);refine ⟨f 0++cs,⟨f 0,cs,rfl,hl,h2 0 (by simp),h3⟩,?_⟩;intro i j hi hj;cases i with
  |zero=>rw [afx,abQ,aaG (by omega)]
  |succ i=>rw [ab2,OF (by omega),show i *size+size+j-(f 0).length=i *size+j by omega];exact h4 i j (by simpa using hi) hj
theorem Fj {I E:TI}{x:Slot}{v:Value} {K':List MV->Option R}(h:bS c Z e st a w)(hE:c.ti I.elem=some E)(eD:0<E.size)(hx:ab e v x)(hK:M7 I E st x K'=some r): ∃ys news,Src e w E.size v ys news/\K' ys=some r:=by
 unfold M7 at hK;split at hK
 ·rename_i xs;obtain ⟨hw,hK⟩:=dE hK;simp only [ab,aM] at hx;obtain ⟨_,hx⟩:=hx;generalize hv:[v]=vs at hx;cases hx with
  |list ad cap _ a8 off Fb f g1 g2 g3 g4 g5=>
  simp at hv;have hes: ∀i,i<xs.length->(f i).length=E.size:=by intro i hi;rw [(g5 i hi).width];exact CT hw _ (afF hi)
  obtain ⟨cs,h1,h2⟩:=Hn hes g5;refine ⟨xs,cs,⟨h1,ad,cap,hv,?_,?_⟩,hK⟩
  ·intro hn;cases xs with
   |nil=>rfl
   |cons y ys=>have:=g2 (by simp);rw [hn] at this;cases this
  ·intro x hx j u hj;have Kl:j<cs.length:=(AS.1 hj).1;rw [h1.length] at Kl;have Ho:0<xs.length:=by
    cases xs with
    |nil=>simp at Kl
    |cons y ys=>simp
   have Pd:=g2 Ho;rw [hx] at Pd;cases Pd;have hq:j/E.size<xs.length:=(Nat.div_lt_iff_lt_mul eD).2 Kl;have hm:=Nat.mod_lt j eD;have Xv:j=j/E.size *E.size+j%E.size:=by rw [Nat.mul_comm];exact (Nat.div_add_mod j E.size).symm
   have e1:=h2 (j/E.size) (j%E.size) hq hm;rw [<-Xv,hj] at e1;have Yx:Fb=E.size:=by rw [<-g3 0 Ho,hes 0 Ho]
   have e2:=g4 (j/E.size) (j%E.size) hq (by rw [Yx];exact hm);rw [<-e1,Yx,acY,<-Xv] at e2;have:=h.kZ _ _ _ e2;rw [ab6];exact this
 ·simp only [ab] at hx;have hx:[v]=[abX none 0 0]:=hx;simp at hx;exact ⟨[],[],⟨rfl,none,0,hx,λ_=>rfl,by simp⟩,hK⟩
 ·rename_i f;cases hf:aI st.aP f with
  |none=>simp [hf] at hK
  |some fo=>
   simp only [hf] at hK;cases hb:bN fo.ty I.elem with
   |false=>simp [hb] at hK
   |true=>
    simp only [hb,cond_true] at hK;have iJ:=sh hb;obtain ⟨hv,_⟩:=rW h hx hf;obtain ⟨J,cells,hJ,_,dn,ib,_⟩:=(h.iK f fo hf).row;rw [iJ,hE] at hJ;cases hJ;refine ⟨fo.xs,cells,⟨ib,?_⟩,hK⟩;rcases dn.2 with ⟨h1,h2⟩|⟨g,cap,cY,h1,_⟩
    ·exact ⟨none,0,by rw [hv,h1,h2],λ_=>BY h2,by simp⟩
    ·refine ⟨some ⟨g,0,none⟩,cap,by rw [hv,h1],by simp,?_⟩;intro x hx j u hj;cases hx;exact dn.cells (g:=g) (by rw [h1];rfl) j u hj
 ·simp at hK
end
end Dn
/-
  Appends. Conditions: none.
-/
namespace Dn
open Go
section
variable {P:Program}{c:Ctx}{Z:bC} {e e':Env}{st:St}{a:Act} {w w':World}{R:Type}{K:St->Option R}{r:R}{Q:Exit->Act->World->Prop}{o:Oper}
structure ajh (w w':World) (el:TypeId) (size:Nat) (v v':Value) (n m:Nat) (cells news:List Value):Prop where
 own:w'.ownsRow 0 el size v' (n+m) (cells++news)
 size:w.heap.size<=w'.heap.size
 rK: ∀k,k<w.heap.size->some k≠v.ownBlock->w'.heap[k]? =w.heap[k]?
 cell: ∀(k off:Nat) (u:Value),v.ownBlock=some k->off<cells.length->w.cell? ⟨k,off,none⟩=some u->w'.cell? ⟨k,off,none⟩=some u
 place:v'.ownBlock=v.ownBlock\/v'.ownBlock=some w.heap.size
 rest:Rest w w'
structure Apx (P:Program) (w:World) (u el:TypeId) (size:Nat) (x:Value) (m:Nat) (news:List Value):Prop where
 ty:P.underlying u=some (.slice el)\/P.underlying u=some .string
 len:Builtin.lenOf x=pure m
 now:(ach size m x).run P w= .ok news.toArray w
 drew:(ach size m x).run P w.drew= .ok news.toArray w.drew
 one: ∀y∈news,y.oneCell'=true
 nl:news.length=m *size
theorem Src.apx {ys:List MV}{news:List Value}{x:Value}{u el:TypeId}{size:Nat}(hu:P.underlying u=some (.slice el))(h:Src e w size x ys news):Apx P w u el size x ys.length news:=by
 obtain ⟨ad,cap,hx,Fk,ae9⟩:=h.val;have Ej:=h.els.length;subst hx;cases ad with
 |none=>have hys:=Fk rfl;subst hys;have:news=[]:=BY (by simpa using Ej);subst this;exact ⟨.inl hu,rfl,run_firstCells_none w _ _ _ _,run_firstCells_none w.drew _ _ _ _,h.els.zN,Ej⟩
 |some ad=>exact ⟨.inl hu,rfl,run_firstCells_some w _ _ _ _ _ _ Ej (ae9 ad rfl),run_firstCells_some w.drew _ _ _ _ _ _ Ej (by simpa using ae9 ad rfl),h.els.zN,Ej⟩
theorem Apx.str {u el:TypeId}(hu:P.underlying u=some .string)(b:ByteArray):Apx P w u el 1 (.string b) b.size (b.data.toList.map λx=> .int .u8 (x.toNat:Int)):=by
 have hf: ∀w',(ach 1 b.size (.string b)).run P w'= .ok (b.data.toList.map λx=>afA .u8 (x.toNat:Int)).toArray w':=by
  intro w';have he:b.extract 0 b.size=b:=by apply ByteArray.ext;rw [aec];exact Array.extract_eq_self_of_le (aa6 _)
  simp only [ach,he,Sem.run_pure];congr 1;apply Array.ext';simp
 exact ⟨.inr hu,rfl,hf w,hf w.drew,by simp [No],by simp⟩
section
variable {t u ty el:TypeId}{i:TypeInfo}{z x:Value}{m:Nat}{news:List Value}(ht:P.underlying t=some (.slice el))(hi:P.info? el=some i)(hz:i.zero=some z)(hx:Apx P w u el i.size x m news)
include ht hi hx
theorem acq (h0:m=0):(abL #[t,u] ty #[.slice none 0 0,x]).run P w= .ok (.slice none 0 0) w:=by subst h0;have hn:=hx.now;have hl:=hx.len;rcases hx.ty with hu|hu<;>simp [abL,run_underlying ht,run_underlying hu,abU,typeInfo,hi,hl,hn]
theorem acr {g pU yX:Nat}{cY:Array Value}(hg:w.heap[g]? =some (.cells cY el (0,0)))(uL:pU+m<=yX)(yU:pU *i.size+news.length<=cY.size): (abL #[t,u] ty #[.slice (some ⟨g,0,none⟩) pU yX,x]).run P w= .ok (.slice (some ⟨g,0,none⟩) (pU+m) yX) (w.setRow g (cY.toList.take (pU *i.size)++news++cY.toList.drop (pU *i.size+news.length)).toArray):=by have dK:=run_storeCells_at P g (pU *i.size) el news 0 cY w hg (by simpa using yU) hx.one;simp only [ade] at dK;have hn:=hx.now;have hl:=hx.len;rcases hx.ty with hu|hu<;>simp [abL,run_underlying ht,run_underlying hu,abU,typeInfo,hi,hl,uL,hn,Addr.add_lit,dK]
include hz
theorem Yy (h0:0<m)(h63:(m:Int)<=9223372036854775807)(Yz:m *i.bytes<=281474976710656): (abL #[t,u] ty #[.slice none 0 0,x]).run P w= .ok (.slice (some ⟨w.heap.size,0,none⟩) m (grownCap w m 0 el)) (w.drew.alloc (.cells (news.toArray++acw z.cells (grownCap w m 0 el-m)) el)):=by
 have cR:m≠0:=by omega
 have agt: ¬(9223372036854775807<(m:Int)):=by omega
 have agu: ¬(281474976710656<ac5 m 0 *i.bytes):=by rw [nextslicecap_zero h0];omega
 have hn:=hx.drew;have hl:=hx.len;rcases hx.ty with hu|hu<;>simp [abL,run_underlying ht,run_underlying hu,abU,typeInfo,zeroValue,hi,hz,hl,cR,agt,agu,Question.forced,run_firstCells_none,hn,newRow,grownCap]
theorem Tz {b:Addr}{pU yX:Nat}{acs:List Value}(hlo:acs.length=pU *i.size)(holds: ∀j v,acs[j]? =some v->w.cell? (b.add j)=some v)(hg:yX<pU+m)(h63:((pU+m:Nat):Int)<=9223372036854775807)(yU:ac5 (pU+m) yX *i.bytes<=281474976710656): (abL #[t,u] ty #[.slice (some b) pU yX,x]).run P w= .ok (.slice (some ⟨w.heap.size,0,none⟩) (pU+m) (grownCap w (pU+m) yX el)) (w.drew.alloc (.cells (acs.toArray++news.toArray++acw z.cells (grownCap w (pU+m) yX el-(pU+m))) el)):=by
 have cR: ¬(pU+m<=yX):=by omega
 have agt: ¬(9223372036854775807<((pU:Int)+(m:Int))):=by omega
 have agu: ¬(281474976710656<ac5 (pU+m) yX *i.bytes):=by omega
 have hfo:=run_firstCells_some (P:=P) w.drew i.size pU b pU yX acs hlo (by simpa using holds);have hn:=hx.drew;have hl:=hx.len;rcases hx.ty with hu|hu<;>(simp [abL,run_underlying ht,run_underlying hu,abU,typeInfo,zeroValue,hi,hz,hl,cR,agt,agu,Question.forced,hn,hfo,newRow,grownCap];congr 2;apply Array.ext';simp [AI])
end
theorem B5 {t u ty:TypeId}{I E:TI}{v x:Value}{n m:Nat}{cells news:List Value}(hu:P.underlying t=some (.slice I.elem))(hE:c.ti I.elem=some E)(om:E.ct=[])(eD:0<E.size)(hT:ia P c.ti)(sw:1<=E.bytes)(dn:w.ownsRow 0 I.elem E.size v n cells)(hx:Apx P w u I.elem E.size x m news)(ku:(n+m) *E.bytes<=2^46): ∃v' w',(abL #[t,u] ty #[v,x]).run P w= .ok v' w'/\ajh w w' I.elem E.size v v' n m cells news:=by
 obtain ⟨i,z,hi,hs,XB,hz,Kn⟩:=lc (hT _ E hE) om;rw [<-hs] at hx dn Kn eD⊢;rw [<-XB] at ku sw;have hle:n+m<=2^46:=adX (adx _ sw) ku;have hml:n+m<=afM:=by unfold afM;omega
 have Ej:=hx.nl;have hlen:(cells++news).length=(n+m) *i.size:=by rw [By,dn.1,Ej,ac3]
 have grown: ∀(rK:Nat),rK<n+m-> (w.drew.alloc (.cells (cells.toArray++news.toArray++acw z.cells (grownCap w (n+m) rK I.elem-(n+m))) I.elem)).ownsRow 0 I.elem i.size (.slice (some ⟨w.heap.size,0,none⟩) (n+m) (grownCap w (n+m) rK I.elem)) (n+m) (cells++news):=by
  intro rK ho;refine ⟨hlen,.inr ⟨w.heap.size,_,_,rfl,afX _,iy w.drew _,grownCap_ge w (n+m) rK I.elem,grownCap_le_maxLen w (n+m) rK I.elem hml,?_,?_⟩⟩
  ·have TA:=grownCap_ge w (n+m) rK I.elem;simp only [afy,acv,size_zeroCells,Kn,dn.1,Ej,<-ac3];congr 1;omega
  ·simp only [afj,AI];rw [<-AI,<-hlen];exact adh
 have rest: ∀cs:Array Value,Rest w (w.drew.alloc (.cells cs I.elem)):=λcs=>⟨rfl,rfl,rfl⟩
 rcases dn.2 with ⟨rfl,rfl⟩|⟨g,cap,cY,rfl,_,hg,Pe,CD,uq,Lu⟩
 ·have hcn:cells=[]:=BY (by simpa using dn.1);subst hcn;by_cases hm:m=0
  ·have hnn:news=[]:=BY (by rw [Ej,hm,afx]);subst hnn;refine ⟨_,_,acq hu hi hx hm,⟨?_,aa6 _,λ_ _ _=>rfl,(λ_ _ _ hk=>by cases hk),.inl rfl,.refl _⟩⟩;rw [hm];exact afz w 0 I.elem i.size
  ·simp only [abQ] at ku hle hml;have hr:=Yy (ty:=ty) hu hi hz hx (by omega) (by omega) (by omega);have Q6:=grown 0 (by omega);simp only [abQ,ae6,Array.empty_append] at Q6⊢;exact ⟨_,_,hr,⟨by simpa using Q6,by simp,λk hk _=>rR w.drew _ k hk,(λ_ _ _ hk=>by cases hk),.inr rfl,rest _⟩⟩
 ·by_cases uL:n+m<=cap
  ·have yU:n *i.size+news.length<=cY.size:=by rw [Ej,uq,<-ac3];exact abN _ uL
   have hr:=acr (ty:=ty) hu hi hx hg uL yU;have ajj:=setRow_heap w g cY (cY.toList.take (n *i.size)++news++cY.toList.drop (n *i.size+news.length)).toArray I.elem _ hg;refine ⟨_,_,hr,⟨⟨hlen,.inr ⟨g,cap,_,rfl,afX _,ajj,uL,CD,?_,?_⟩⟩,by simp,λk _ hk=>setRow_other w g k _ (λhe=>hk (by simp [aaW,he])),?_,.inl rfl,Rest.setRow w g _⟩⟩
   ·simp only [acv,By,acX,adw,abY];omega
   ·rw [Lu,<-hlen];exact adh
   ·intro k off y hk zL hc;have hkg:k=g:=by simp [aaW] at hk;exact hk.symm
    subst hkg;rw [cell_of hg] at hc;rw [cell_of ajj];have ajk:off<(cY.toList.take (n *i.size)).length:=by rw [Lu];exact zL
    rw [List.getElem?_toArray,AI,aaG ajk,abZ];have:off<n *i.size:=by rw [<-dn.1];exact zL
    rw [if_pos this];simpa using hc
  ·have holds: ∀j y,cells[j]? =some y->w.cell? ((⟨g,0,none⟩:Addr).add j)=some y:=dn.cells (g:=g) rfl;have hr:=Tz (ty:=ty) (yX:=cap) hu hi hz hx dn.1 holds (by omega) (by omega) (growslice_fits (by omega) (by omega));refine ⟨_,_,hr,⟨grown cap (by omega),by simp,λk hk _=>rR w.drew _ k hk,?_,.inr rfl,rest _⟩⟩;intro k off y hk zL hc;have hkg:k=g:=by simp [aaW] at hk;exact hk.symm
   subst hkg;rw [abV (rR w.drew _ k (aZ hg))];exact hc
theorem Pf {t u ty:TypeId}{I E:TI}{ad:Option Addr}{x:Value}{n m:Nat}{cells news:List Value}(hu:P.underlying t=some (.slice I.elem))(hE:c.ti I.elem=some E)(om:E.ct=[])(hT:ia P c.ti)(sw:1<=E.bytes)(oq:cells.length=n *E.size)(RN:ad=none->n=0)(bq: ∀y,ad=some y-> ∀(j:Nat)(v:Value),cells[j]? =some v->w.cell? (y.add j)=some v)(hx:Apx P w u I.elem E.size x m news)(hm:0<m)(ku:(n+m) *E.bytes<=2^46): ∃v' w',(abL #[t,u] ty #[.slice ad n n,x]).run P w= .ok v' w'/\w'.ownsRow 0 I.elem E.size v' (n+m) (cells++news)/\v'.ownBlock=some w.heap.size/\db w w':=by
 obtain ⟨i,z,hi,hs,XB,hz,Kn⟩:=lc (hT _ E hE) om;rw [<-hs] at hx oq Kn⊢;rw [<-XB] at ku sw;have hle:n+m<=2^46:=adX (adx _ sw) ku;have hml:n+m<=afM:=by unfold afM;omega
 have Ej:=hx.nl;have hlen:(cells++news).length=(n+m) *i.size:=by rw [By,oq,Ej,ac3]
 have grown: ∀(rK:Nat),rK<n+m-> (w.drew.alloc (.cells (cells.toArray++news.toArray++acw z.cells (grownCap w (n+m) rK I.elem-(n+m))) I.elem)).ownsRow 0 I.elem i.size (.slice (some ⟨w.heap.size,0,none⟩) (n+m) (grownCap w (n+m) rK I.elem)) (n+m) (cells++news):=by
  intro rK ho;refine ⟨hlen,.inr ⟨w.heap.size,_,_,rfl,afX _,iy w.drew _,grownCap_ge w (n+m) rK I.elem,grownCap_le_maxLen w (n+m) rK I.elem hml,?_,?_⟩⟩
  ·have TA:=grownCap_ge w (n+m) rK I.elem;simp only [afy,acv,size_zeroCells,Kn,oq,Ej,<-ac3];congr 1;omega
  ·simp only [afj,AI];rw [<-AI,<-hlen];exact adh
 have rest: ∀cs:Array Value,Rest w (w.drew.alloc (.cells cs I.elem)):=λcs=>⟨rfl,rfl,rfl⟩
 have Q6: ∀cs:Array Value,db w (w.drew.alloc (.cells cs I.elem)):=λcs=>⟨by simp,λk hk=>rR w.drew _ k hk,rest cs⟩
 cases ad with
 |none=>have hn:=RN rfl;subst hn;have hcn:cells=[]:=BY (by simpa using oq);subst hcn;simp only [abQ] at ku hle hml;have hr:=Yy (ty:=ty) hu hi hz hx (by omega) (by omega) (by omega);have TB:=grown 0 (by omega);simp only [abQ,ae6,Array.empty_append] at TB⊢;exact ⟨_,_,hr,by simpa using TB,rfl,Q6 _⟩
 |some b=>have hr:=Tz (ty:=ty) (yX:=n) hu hi hz hx oq (λj v hj=>bq b rfl j v hj) (by omega) (by omega) (growslice_fits (by omega) (by omega));exact ⟨_,_,hr,grown n (by omega),rfl,Q6 _⟩
end
end Dn
/-
  Appends, the operation. Conditions: none.
-/
namespace Dn
open Go
section
variable {P:Program}{c:Ctx}{Z:bC} {e e':Env}{st:St}{a:Act} {w w':World}{R:Type}{K:St->Option R}{r:R}{Q:Exit->Act->World->Prop}{o:Oper}
theorem zP {base:Nat}{t:TypeId}{size n:Nat}{v:Value}{xs:List Value}(h:w.ownsRow base t size v n xs):v.oneCell'=true:=by rcases h.2 with ⟨rfl,_⟩|⟨g,cap,cY,rfl,_⟩<;>rfl
theorem Nq {E:TI}{t:TypeId}(hr:oh c.ti P t E)(h:Rg E=true):P.underlying t=some (.int .u8)/\E.size=1:=by
 unfold Rg at h;split at h
 ·rename_i k dK hl;have:=of_decide_eq_true h;subst this;obtain ⟨d,i,h1,h2,h3,h4⟩:=hr;cases d<;>simp only [rT,hl,dK] at h4<;>first|(exfalso;simp_all;done)|skip
  obtain ⟨_,_,h5,h6,_⟩:=h4;simp only [List.cons.injEq,Kd.i.injEq,and_true] at h6;subst h6;exact ⟨h1,h5⟩
 ·cases h
theorem Nr {key:Nat->Nat} {φ:Ph}: ∀l:List UInt8,aX key φ 1 (l.map λx=>afA .u8 (x.toNat:Int)) (CG l)
 |[]=>rfl
 |b::l=>⟨[.int .u8 (b.toNat:Int)],_,rfl,rfl,.i .u8 _,Nr l⟩
theorem Pg {cl:Call}{s x:Operand}{t u:TypeId}{I E:TI}{ys:List MV}{news:List Value}(ho:o.op= .call cl)(hb:cl.callee= .builtin .append)(ha:cl.args.toList=[s,x])(KE:cl.argTypes.toList=[t,u])(hI:c.tv t=some I)(hL:I.yr=true)(hE:c.tv I.elem=some E)(hT:ia P c.ti)(h:bS c Z e st a w)(zQ:Apx P w u I.elem E.size (a.eval x) ys.length news)(jC:aX e.key e.φ E.size news ys)(hK:U2 (bx c.bs (o.dst.getD 0)) (o.dst.getD 0) st I E (aH c st s) ys (λsl st=>bn c st o.dst sl K)=some r):o.wp P a w (Out c Z K r e.φ w) Q:=by
 obtain ⟨lQ,hc⟩:=bj hI;obtain ⟨lN,om⟩:=bj hE;obtain ⟨hu,E2,v7,_,eD⟩:=TI.lm (hT t I lQ) hL;rw [lN] at v7;cases v7;have ha':cl.args= #[s,x]:=by rw [<-ab7,ha]
 have ajl:cl.argTypes= #[t,u]:=by rw [<-ab7,KE]
 obtain ⟨hs,_⟩:=h.eval s;have go: ∀(f:Nat) (ei:Bool) (xs:List MV) (cells:List Value),1<=E.bytes->(xs.length+ys.length) *E.bytes<=2^46->w.ownsRow 0 I.elem E.size (a.eval s) xs.length cells->aX e.key e.φ E.size cells xs-> (∀a8,(a.eval s).ownBlock=some a8->((f∈Z.cy/\Z.Pr a8)\/Z.In a8)/\(∃o,aI st.aP f=some o/\(e.E f).ownBlock=some a8)/\ ∀off u,e.φ a8 off=some u->ei=true/\off<xs.length *E.size)-> iP st f ⟨I.elem,ei,xs++ys⟩ (λst=>bn c st o.dst (.sc (.own f)) K)=some r->o.wp P a w (Out c Z K r e.φ w) Q:=by
  intro f ei xs cells sw ku dn ib Ee hK;obtain ⟨v',w',bF,wh⟩:=B5 (P:=P) (ty:=o.type) hu lN om eD hT sw dn zQ ku;have hlen:cells.length=xs.length *E.size:=ib.length;have zJ:=h.npf hK;have hK:=ot hK;have gd:cu c Z.nc e w' v' ⟨I.elem,ei,xs++ys⟩:=by
   refine ⟨E,cells++news,lN,om,by simpa using wh.own,ib.append jC,?_⟩;intro a8 jI;rcases wh.place with h1|h1
   ·rw [h1] at jI;obtain ⟨h2,_,h3⟩:=Ee a8 jI;refine ⟨OJ h2 zJ,λoff u hu=> ?_,λhc=>ago hc⟩;obtain ⟨h4,h5⟩:=h3 off u hu;refine ⟨h4,afm h5 ?_⟩;simp only [By];exact abN _ (Nat.le_add_right _ _)
   ·rw [h1] at jI;cases jI;refine ⟨h.ch _ (aa6 _),λoff u hu=> ?_,λhc=>ago hc⟩;have:=abR w _ (h.kZ _ _ _ hu);simp at this
  have oO:=h.iP (f:=f) zJ gd wh.size (λb GM cR=>wh.rK b GM (λhk=>by obtain ⟨_,⟨o2,h1,h2⟩,_⟩:=Ee b hk.symm;exact cR o2 h1 h2)) (λb off u hu=>by
    have hc0:=h.kZ b off u hu;by_cases hk:(a.eval s).ownBlock=some b
    ·obtain ⟨_,_,h3⟩:=Ee b hk;exact wh.cell b off u hk (by rw [hlen];exact (h3 off u hu).2) hc0
    ·rw [abV (wh.rK b (abR w _ hc0) (λON=>hk ON.symm))];exact hc0)
   (λb jI=>by
    rcases wh.place with h1|h1
    ·rw [h1] at jI;exact .inr (Ee b jI).2.1
    ·rw [h1] at jI;cases jI;exact .inl (aa6 _))
  refine fin (v:=v') (s:= .sc (.own f)) ?_ oO ?_ (.of (sS (zP wh.own)) trivial) hK
  ·simp [execOp,ho,resolve,hb,invoke,builtin,ha',ajl,bF]
  ·exact ⟨.refl _,λb hz GM=>wh.rK b GM (λhk=>hz (OJ (Ee b hk.symm).1 zJ)),λ_ _ _=>rfl,wh.size,wh.rest⟩
 generalize aH c st s=ss at hs hK;unfold U2 at hK;cases sw:abP 1 E.bytes with
 |false=>simp [sw] at hK
 |true=>
  simp only [sw,cond_true] at hK;have sw:=ab0 sw;split at hK
  ·obtain ⟨ku,hK⟩:=dE hK;have ku:=of_decide_eq_true ku;simp only [ab] at hs;have hs:[a.eval s]=[abX none 0 0]:=hs;simp at hs;refine go (o.dst.getD 0) false [] [] sw (by simpa using ku) (by rw [hs];exact afz w 0 I.elem E.size) rfl ?_ (by simpa using hK);intro a8 jI;rw [hs] at jI;simp [aaW] at jI
  ·rename_i f;cases hf:aI st.aP f with
   |none=>simp [hf] at hK
   |some fo=>
    simp only [hf] at hK;obtain ⟨ku,hK⟩:=dE hK;have ku:=of_decide_eq_true ku;cases iJ:bN fo.ty I.elem with
    |false=>simp [iJ] at hK
    |true=>simp only [iJ,cond_true] at hK;have iJ:=sh iJ;obtain ⟨hv,_⟩:=rW h hs hf;obtain ⟨J,cells,hJ,_,dn,ib,h5⟩:=(h.iK f fo hf).row;rw [iJ,lN] at hJ;cases hJ;refine go f fo.ei fo.xs cells sw ku (by rw [hv,<-iJ];exact dn) ib ?_ (by rw [<-iJ];exact hK);intro a8 jI;rw [hv] at jI;exact ⟨(h5 a8 jI).1,⟨fo,hf,jI⟩,(h5 a8 jI).2.1⟩
  ·rename_i xs;obtain ⟨hw,hK⟩:=dE hK;obtain ⟨ku,hK⟩:=dE hK;obtain ⟨hm,ku⟩:=of_decide_eq_true ku;simp only [ab,aM] at hs;obtain ⟨_,hs⟩:=hs;generalize hv:[a.eval s]=vs at hs;cases hs with
   |clip ad _ hl=>
   simp at hv;have nn:ab e (a.eval s) (.sc (.p (.list xs))):=by simp only [ab,aM];rw [hv];exact ⟨rfl,hl⟩
   obtain ⟨ys',cells,hsr,hy⟩:=Fj (I:=I) (K':=some) (r:=xs) h lN eD nn (by show cJ (pS E.size xs) (some xs)=some xs;rw [hw];rfl);cases hy;obtain ⟨ad',Yl,Q4,KB,Fi⟩:=hsr.val;rw [hv] at Q4;simp only [Value.slice.injEq] at Q4;obtain ⟨rfl,_,_⟩:=Q4;obtain ⟨v',w',bF,dn,jI,hg⟩:=Pf (P:=P) (ty:=o.type) hu lN om hT sw hsr.els.length (λhn=>by rw [KB hn];rfl) Fi zQ hm ku;have zJ:=h.npf hK;have hK:=ot hK;have gd:cu c Z.nc e w' v' ⟨I.elem,false,xs++ys⟩:=by refine ⟨E,cells++news,lN,om,by simpa using dn,hsr.els.append jC,?_⟩;intro a8 rM;rw [jI] at rM;cases rM;refine ⟨h.ch _ (aa6 _),λoff u hu=> ?_,λhc=>ago hc⟩;have:=abR w _ (h.kZ _ _ _ hu);simp at this
   have oO:=h.iP (f:=o.dst.getD 0) zJ gd hg.size (λb GM _=>hg.rK b GM) (λb off u hu=>hg.cell (h.kZ b off u hu)) (λb rM=>by rw [jI] at rM;cases rM;exact .inl (aa6 _));have hx:(execOp a.eval o).run P w= .ok (.value v') w':=by simp [execOp,ho,resolve,hb,invoke,builtin,ha',ajl,hv,bF]
   cases GN:bx c.bs (o.dst.getD 0) with
   |false=>simp only [GN,cond_false] at hK;exact fin (v:=v') (s:= .sc (.own (o.dst.getD 0))) hx oO (hg.trans h.ch _) (.of (sS (zP dn)) trivial) hK
   |true=>simp only [GN,cond_true] at hK;have hl:aM (e.wg (o.dst.getD 0) v' ⟨I.elem,false,xs++ys⟩) [v'] (.own (o.dst.getD 0)):=sS (zP dn);obtain ⟨e3,oP,m,k1,k2,_,k4,hK,_,k7,k8⟩:=lS (l:= .own (o.dst.getD 0)) oO (vs:=[v']) hl hK;have hm:m.one=true:=k8 (λx he=>by cases he);exact fin (v:=v') (s:= .sc (.p m)) hx k1 ((hg.trans h.ch _).trans k2.tr) (.of (s:= .sc (.p m)) (by exact ⟨hm,k4⟩) trivial) hK
  ·simp at hK
theorem Vl {cl:Call}{s x:Operand}{t u:TypeId}{I E:TI}(ho:o.op= .call cl)(hb:cl.callee= .builtin .append)(ha:cl.args.toList=[s,x])(KE:cl.argTypes.toList=[t,u])(hI:c.tv t=some I)(hL:I.yr=true)(hE:c.tv I.elem=some E)(hT:ia P c.ti)(h:bS c Z e st a w)(hK:(bif bN t u then M7 I E st (aH c st x) λys=>U2 (bx c.bs (o.dst.getD 0)) (o.dst.getD 0) st I E (aH c st s) ys (λsl st=>bn c st o.dst sl K)
  else Rh c u E (aH c st x) λys=>U2 (bx c.bs (o.dst.getD 0)) (o.dst.getD 0) st I E (aH c st s) ys (λsl st=>bn c st o.dst sl K))=some r):o.wp P a w (Out c Z K r e.φ w) Q:=by
 obtain ⟨lQ,_⟩:=bj hI;obtain ⟨lN,_⟩:=bj hE;obtain ⟨hu,E2,v7,_,eD⟩:=TI.lm (hT t I lQ) hL;rw [lN] at v7;cases v7;obtain ⟨hx,_⟩:=h.eval x;cases rM:bN t u with
 |true=>simp only [rM,cond_true] at hK;obtain rfl:=sh rM;obtain ⟨ys,news,zQ,hK⟩:=Fj h lN eD hx hK;exact Pg ho hb ha KE hI hL hE hT h (zQ.apx hu) zQ.els hK
 |false=>
  simp only [rM,cond_false] at hK;unfold Rh at hK;split at hK
  ·rename_i T l hTu hxl;cases YA:T.Rf&&Rg E with
   |false=>simp [YA] at hK
   |true=>
    simp only [YA,cond_true] at hK;simp only [abM] at YA;obtain ⟨hTi,_⟩:=bj hTu;have hd:=TI.Eg (hT u T hTi) YA.1;obtain ⟨he,pJ⟩:=Nq (hT _ E lN) YA.2;rw [hxl] at hx;obtain ⟨b,hb3,rfl⟩:=CQ hx;refine Pg ho hb ha KE hI hL hE hT h (news:=b.data.toList.map λx=> .int .u8 (x.toNat:Int)) ?_ ?_ hK
    ·rw [pJ,hb3];have:=Apx.str (w:=w) (el:=I.elem) hd b;rwa [show (CG b.data.toList).length=b.size by unfold CG;rw [List.length_map];rfl]
    ·rw [pJ];exact Nr _
  ·cases hK
end
end Dn
/-
  Slices that are written out. Conditions: none.
-/
namespace Dn
open Go
section
variable {P:Program}{c:Ctx}{Z:bC} {e e':Env}{st:St}{a:Act} {w w':World}{R:Type}{K:St->Option R}{r:R}{Q:Exit->Act->World->Prop}{o:Oper}
theorem bS.afa {φ':Ph}(h:bS c Z e st a w)(hle:gZ e.φ φ')(iQ: ∀b o v,φ' b o=some v->w.cell? ⟨b,o,none⟩=some v)(vt: ∀t cs,aq st.fr t= .box cs-> ∀off,φ' (e.B t) off=e.φ (e.B t) off)(gd: ∀f o b,aI st.aP f=some o->(e.E f).ownBlock=some b-> ∀off,φ' b off=e.φ b off): bS c Z {e with φ:=φ'} st a w:=by
 have rS:ki (λ_=>True) (λ_=>True) e {e with φ:=φ'}:=⟨rfl,hle,λ_ _=>rfl,λf o ho _=>⟨o,ho,rfl,rfl⟩⟩
 refine ⟨h.defers,h.size,h.m,h.key,h.nodup,?_,h.root,?_,h.bb,h.bf,h.ff,iQ,h.ch⟩
 ·intro t;have hs:=h.slot t;have hb:=vt t;show bW Z _ w t _ (aq st.fr t);generalize aq st.fr t=s at hs hb;cases s<;>simp only [bW] at hs⊢ <;>try exact hs.on rS (dH _)
  rename_i cs;refine ⟨hs.1,hs.2.ch,?_,λoff=>by show φ' (e.B t) off=none;rw [hb cs rfl];exact hs.2.free off⟩;obtain ⟨o2,h1,h2⟩:=hs.2.obj;exact ⟨o2,h1,h2.on rS (λl _ f _=>trivial)⟩
 ·intro f o ho;obtain ⟨I,cells,h1,h2,h3,h4,h5⟩:=(h.iK f o ho).row;refine ⟨I,cells,h1,h2,h3,h4.mono hle,λa8 hb=>⟨(h5 a8 hb).1,λoff u hu=>(h5 a8 hb).2.1 off u ?_,λg1 g2 j hj=>hle.AH ((h5 a8 hb).2.2 g1 g2 j hj) hj⟩⟩;have hu:φ' a8 off=some u:=hu;rw [gd f o a8 ho hb] at hu;exact hu
theorem di.cells {key:Nat->Nat} {φ:Ph}{v:Value}{m:MV}(h:di key φ v m):gY key φ v.cells.toList m:=by
 have one:m.one=true->gY key φ [v] m->gY key φ v.cells.toList m:=by
  intro h1 h2;have:=h2.cells v (by simp);have hv:v.cells.toList=[v]:=by cases v<;>simp_all [abK,No]
  rw [hv];exact h2
 cases m<;>simp only [di] at h<;>first|exact one h.1 h.2|skip
 ·rw [h];simpa [abK] using gY.h _
 ·obtain ⟨arr,rfl,h⟩:=h;exact .agg _ _ (by simpa [abK] using h)
theorem Vm {parts:List (Nat×Operand)}: ∀{e:Env} {st:St} {n:Nat} {K':List MV->St->Option R},bS c Z e st a w->XM c st parts n K'=some r-> ∃e' bY ms,bS c Z e' bY a w/\Ext Z e e'/\bg e'.key e'.φ (parts.map λp=>a.eval p.2) ms/\K' ms bY=some r/\parts.map (λp=>(p.1,a.eval p.2))=((parts.map λp=>a.eval p.2).zipIdx n).map (λx=>(x.2,x.1)):=by
 induction parts with
 |nil=>intro e st n K' h hK;exact ⟨e,st,[],h,.refl _ _,rfl,hK,rfl⟩
 |cons p ps ih=>
  intro e st n K' h hK;obtain ⟨i,x⟩:=p;simp only [XM] at hK;cases hi:bN i n with
  |false=>simp [hi] at hK
  |true=>
   simp only [hi,cond_true] at hK;have rX:=sh hi;subst rX;obtain ⟨e1,eJ,m,q1,q2,q3,q4,q5⟩:=ol h (h.eval x).1 hK;obtain ⟨e2,eg,ms,p1,p2,p4,p5,p6⟩:=ih q1 q5;refine ⟨e2,eg,m::ms,p1,q2.trans p2,⟨_,_,rfl,?_,p4⟩,p5,?_⟩
   ·have:=q4.mono p2.on.φ;rw [<-p2.on.key] at this;exact this
   ·simp only [IT,List.zipIdx_cons,p6]
theorem KF {key:Nat->Nat} {φ:Ph}{size:Nat}{ms:List MV}: ∀{vs:List Value},bg key φ vs ms->pS size ms=true->aX key φ size (vs.flatMap λv=>v.cells.toList) ms/\vs.length=ms.length/\ ∀v∈vs,v.cells.size=size:=by
 induction ms with
 |nil=>intro vs h _;cases h;exact ⟨rfl,rfl,by simp⟩
 |cons m ms ih=>
  intro vs h hw;obtain ⟨v,u,rfl,h1,h2⟩:=h;have hm:=CT hw m (by simp);have hw2:pS size ms=true:=by unfold pS at hw⊢;simp only [List.all_cons,abM] at hw;exact hw.2
  obtain ⟨h3,h4,h5⟩:=ih h2 hw2;have hl:v.cells.toList.length=size:=by rw [h1.cells.width,hm]
  refine ⟨⟨v.cells.toList,_,rfl,hl,h1.cells,h3⟩,by simp [h4],?_⟩;intro x hx;rcases abT.1 hx with rfl|hx
  ·simpa using hl
  ·exact h5 x hx
end
end Dn
