import GoSem.Dispatch
import Derived.Orders
import Derived.Calls
import Derived.Laws.AppendOwn
import Derived.Laws.AppendOwnNone
import Derived.Deep.MidRow
import Derived.Laws.Strings
import Derived.Laws.Tables
import Derived.Great.FillDense
import Derived.Maps.AppendAt
import Derived.Great.BuildSlice
/-
  An abstract run of Go functions over values that no one changes: definitions. Conditions: none.
-/
set_option linter.unusedVariables false
set_option linter.unusedSectionVars false
set_option linter.unusedSimpArgs false
open Nat renaming beq→c8,eq_of_beq_eq_true→sh,le_refl→aaf,mul_le_mul_right→aaj,zero_add→aaI,ble→aaK,le_of_ble_eq_true→abc,succ_mul→acw,add_assoc→acJ,add_zero→acN,le_mul_of_pos_right→adq,le_trans→adC,ble_eq_true_of_le→adX,add_mul→aew,lt_of_lt_of_le→aey,add_comm→aeA,zero_mul→aeB,zero_le→aeH
open List renaming append_assoc→AI,getElem?_eq_some_iff→AS,getElem?_eq_getElem→By,eq_nil_of_length_eq_zero→IN,length_append→IS,map_cons→IT,getElem?_append_right→No,getElem?_append_left→OF,mem_cons→aaH,getElem?_map→aa5,getElem?_take→aa6,take_of_length_le→acA,drop_left'→acD,size_toArray→acF,getElem?_eq_none→acG,take_append→acH,length_take→acI,take_left'→acL,take_left→acQ,getElem?_drop→acR,extract_eq_take_drop→ac1,drop_append→ade,length_drop→adj,mem_map→adz,length_eq_one_iff→adF,drop_of_length_le→adK,mem_append→adP,mem_iff_getElem→aec,drop_left→aeg,all_eq_true→aeE,getElem_mem→aeG,nodup_cons→aeI,nil_append→aeK,length_set→ae4,map→afF,map_nil→afO
open Option.some renaming injEq→AT
open Go.Value renaming ownBlock→BY,oneCell'→aaa,cells→aai,slice→ab1,int→aeD
open Bool renaming and_eq_true→aaG,or_eq_false_iff→aaL,not_eq_false'→acP,not_false→afI
open Go.Builtin renaming append_→aaJ,firstCells→acE,nextslicecap→acK,zeroCells→ac4
open Go.World renaming block_lt_of_cell?→aaX,cell?_of_block→abH,ownsRow_nil→aeC,frozen?→afK,setRow→afQ
open Go renaming sizeOf→abG,part→afq,maxLen→afM
open Go.Instr renaming sliceBounds→abM,loadAt→acM,sureAddr→acO,fill→acV,storeAt→ac6,sliceBound→aeF,sliceAt→afL,slice→af2
open Array renaming length_toList→abR,toList_inj→abT,toList_extract→aeh
open UInt8 renaming ofNat→acB
open Go.Addr renaming add_mid→acC
open Go.Op renaming intCmp→adb,bytesLess→adv,intArith→adY,equal→af1
open ByteArray renaming data_extract→adJ
open Go.Oper renaming upon_value→adQ,wp→afR
open Go.Sem renaming run_bind→aez
open False renaming elim→afJ
open Go.Utf8 renaming decode→afU
namespace Dn
noncomputable section
open Go
structure lQ where
 l:List UInt8
 h:l.length=32
theorem lQ.ext' {a b:lQ}(e:a.l=b.l):a=b:=by cases a;cases b;cases e;rfl
instance:DecidableEq lQ:=λa b=>if e:a.l=b.l then .isTrue (lQ.ext' e) else .isFalse (λh=>e (by rw [h]))
def lQ.zero:lQ:=⟨[0,0,0,0,0,0,0,0,0,0,0,0,0,0,0,0,0,0,0,0,0,0,0,0,0,0,0,0,0,0,0,0],rfl⟩
def lQ.put (x:lQ)(i:Nat)(b:UInt8):lQ:=⟨x.l.set i b,by simp [x.h]⟩
inductive MV where
 |b (x:Bool)
 |i (k:IntKind) (n:Int)
 |s (l:List UInt8)
 |h (x:lQ)
 |raw (v:Value)
 |list (xs:List MV)
 |agg (cs:List MV)
 |cj (vs:List MV)
 |func (f:Nat) (cap:List MV)
 |rp (cs:List MV)
 |fresh (xs:List MV)
 |cell (m:MV)
 |e9 (r:MV) (outs:List MV)
instance:Inhabited MV:=⟨.b false⟩
mutual
def MV.w:MV->Nat
 | .h _=>32
 | .agg cs=>MV.wl cs
 |_=>1
def MV.wl:List MV->Nat
 |[]=>0
 |m::r=>m.w+MV.wl r
end
def qa (n:Nat)(l:List MV):Bool:=l.all λm=>c8 m.w n
inductive Kd where
 |b|i (k:IntKind)|s|l|h|raw
structure MS where
 st:Bool
 lay:List Kd
 b:Bool
def MS.it:MS:=⟨true,[],true⟩
def Sc (s:MS):Bool:=match s.lay with
 |[]=>s.st
 |_=>false
inductive aS where
 |un
 |p (m:MV)
 |hs (x:lQ)
 |nil
 |own (jN:Nat)
 |mp (s:MS) (es:List MV)
def aS.w:aS->Nat
 | .hs _=>32
 |_=>1
inductive Slot where
 |skip
 |sc (l:aS)
 |ag (cs:List aS)
 |cj (vs:List Slot)
 |box (cs:List aS)
 |zM (cs:List aS)
 |ptr (root off:Nat)
 |zN (root:Nat)
 |rp (cs:List aS) (off:Nat)
 |hp (root off:Nat) (i:Nat)
 |ep (jN:Nat) (i:Nat) (off:Nat) (st:Bool) (cs:List aS)
abbrev Fr:=List (Nat×Slot)
structure TI where
 st:Bool
 size:Nat
 bytes:Nat
 lay:List Kd
 zero:List aS
 xC:List Nat
 V2:List Nat
 elem:Nat
 du:List Nat
section
variable {R:Type}
def gB (m:MV)(K:Bool->Option R):Option R:=match m with| .b x=>K x|_=>none
def gI (k:IntKind)(m:MV)(K:Int->Option R):Option R:=match m with| .i k' n=>bif decide (k'=k) then K n else none|_=>none
def gS (m:MV)(K:List UInt8->Option R):Option R:=match m with| .s l=>K l|_=>none
def gL (m:MV)(K:List MV->Option R):Option R:=match m with| .list l=>K l|_=>none
def gH (m:MV)(K:lQ->Option R):Option R:=match m with| .h l=>K l|_=>none
def gA (m:MV)(K:List MV->Option R):Option R:=match m with| .agg l=>K l|_=>none
def gT (m:MV)(K:List MV->Option R):Option R:=match m with| .cj l=>K l|_=>none
def gF (m:MV)(K:List MV->Option R):Option R:=match m with| .fresh l=>K l|_=>none
def Sd (m:MV)(K:Nat->List MV->Option R):Option R:=match m with| .func f c=>K f c|_=>none
def gW (m:MV)(K:MV->List MV->Option R):Option R:=match m with| .e9 r outs=>K r outs|_=>none
def gP (m:MV)(K:List MV->Option R):Option R:=match m with| .rp c=>K c|_=>none
def gR (m:MV)(K:MV->Option R):Option R:=match m with| .raw v=>K (.raw v)| .func f c=>K (.func f c)| .rp c=>K (.rp c)|_=>none
def gC (l:List MV)(K:MV->List MV->Option R):Option R:=match l with|m::r=>K m r|[]=>none
def gN (l:List MV)(K:Option R):Option R:=match l with|[]=>K|_=>none
def bd {α:Type}(x:Option α)(K:α->Option R):Option R:=match x with|some a=>K a|none=>none
def agQ (l:List MV)(i:Int):Option MV:=if 0<=i then l[i.toNat]? else none
def idx (l:List MV)(i:Int)(K:MV->Option R):Option R:=match agQ l i with|some x=>K x|none=>none
def bU (c:Bool)(K:Option R):Option R:=match c with|true=>K|false=>none
def aQ (c:Bool)(x y:Option R):Option R:=match c with|true=>x|false=>y
def KD:List Nat->Nat->(Nat->Option R)->Option R
 |[],_,_=>none
 |[p],e,K=>bif c8 e p then K p else none
 |p::q::r,e,K=>bif c8 e p then K p else KD (q::r) e K
def kF (k:Kd)(m:MV)(K:aS->Option R):Option R:=match k with
 | .b=>gB m λx=>K (.p (.b x))
 | .i k=>gI k m λx=>K (.p (.i k x))
 | .s=>gS m λx=>K (.p (.s x))
 | .l=>gL m λx=>K (.p (.list x))
 | .h=>gH m λx=>K (.hs x)
 | .raw=>gR m λm=>K (.p m)
def uM:List Kd->List MV->(List aS->Option R)->Option R
 |[],l,K=>gN l (K [])
 |k::ks,l,K=>gC l λm r=>kF k m λx=>uM ks r λxs=>K (x::xs)
end
def iter {σ R:Type}(body:σ->Option (Sum σ R)):Nat->σ->Option R
 |0,_=>none
 |n+1,s=>match body s with
  |some (.inl s')=>iter body n s'
  |some (.inr r)=>some r
  |none=>none
open Classical in
def Loop {σ R:Type}(body:σ->Option (Sum σ R))(s:σ):Option R:=if h: ∃r n,iter body n s=some r then some (Classical.choose h) else none
def av:Fr->Nat->Slot
 |[],_=> .sc .un
 |(k,s)::r,t=>bif c8 k t then s else av r t
def KE {R:Type}:Fr->Nat->Slot->(Fr->Option R)->Option R
 |[],t,v,K=>K [(t,v)]
 |(k,s)::r,t,v,K=>bif c8 k t then K ((k,v)::r) else KE r t v λr=>K ((k,s)::r)
def force {R:Type}(s:Slot)(K:Slot->Option R):Option R:=match s with
 | .skip=>K .skip
 | .sc l=>K (.sc l)
 | .ag cs=>K (.ag cs)
 | .cj vs=>K (.cj vs)
 | .box cs=>K (.box cs)
 | .zM cs=>K (.zM cs)
 | .ptr r o=>K (.ptr r o)
 | .zN r=>K (.zN r)
 | .rp cs o=>K (.rp cs o)
 | .hp r o i=>K (.hp r o i)
 | .ep f i o b cs=>K (.ep f i o b cs)
def bX:List Nat->Nat->Bool
 |[],_=>false
 |k::r,t=>bif c8 k t then true else bX r t
def BX (t:Nat):Bool:=aaK 1000000 t
def posOf (t:Nat):Nat:=(t-1000000)%1000
def O8 (t:Nat):Nat:=(t-1000000)/1000
def plk:List (Nat×Nat)->Nat->Option Nat
 |[],_=>none
 |(k,x)::r,t=>bif c8 k t then some x else plk r t
def dW:Slot->Bool
 | .ptr _ _| .hp _ _ _| .ep _ _ _ _ _| .rp _ _| .zN _=>true
 |_=>false
def wk {R:Type}(ds:List Nat):Fr->(Fr->Option R)->Option R
 |[],K=>K []
 |(k,s)::r,K=>bif dW s||bX ds k then wk ds r K else wk ds r λr=>K ((k,s)::r)
def dv:Slot->Bool
 | .box _| .zM _=>true
 |_=>false
def pick {R:Type}(ks:List Nat):Fr->(Fr->Option R)->Option R
 |[],K=>K []
 |(k,s)::r,K=>bif bX ks k&&!dW s then pick ks r λr=>K ((k,s)::r) else pick ks r K
structure oS where
 ty:Nat
 eT:Bool
 xs:List MV
structure St where
 df:List Nat
 cY:List Nat
 fr:Fr
 bk:List (Nat×oS)
def aV:List (Nat×oS)->Nat->Option oS
 |[],_=>none
 |(k,s)::r,t=>bif c8 k t then some s else aV r t
def Se {R:Type}:List (Nat×oS)->Nat->oS->(List (Nat×oS)->Option R)->Option R
 |[],t,v,K=>K [(t,v)]
 |(k,s)::r,t,v,K=>bif c8 k t then K ((k,v)::r) else Se r t v λr=>K ((k,s)::r)
def kB (a b:IntKind):Bool:=decide (a=b)
def kdB:Kd->Kd->Bool
 | .b,.b=>true
 | .i k,.i k'=>kB k k'
 | .s,.s=>true
 | .l,.l=>true
 | .h,.h=>true
 | .raw,.raw=>true
 |_,_=>false
def GJ:List Kd->List Kd->Bool
 |[],[]=>true
 |x::xs,y::ys=>kdB x y&&GJ xs ys
 |_,_=>false
def msB (s t:MS):Bool:=(s.st==t.st)&&(GJ s.lay t.lay&&(s.b==t.b))
def xD {R:Type}(f:Nat):List aS->(List aS->Option R)->Option R
 |[],K=>K []
 |l::r,K=>(match l with
  | .own g=>bif c8 g f then xD f r λr=>K (.un::r) else xD f r λr=>K (.own g::r)
  |l=>xD f r λr=>K (l::r))
def Ls {R:Type}(f:Nat)(s:Slot)(K:Slot->Option R):Option R:=match s with
 | .sc (.own g)=>bif c8 g f then K (.sc .un) else K (.sc (.own g))
 | .ag cs=>xD f cs λcs=>K (.ag cs)
 | .box cs=>xD f cs λcs=>K (.box cs)
 | .ep g i o b cs=>bif c8 g f then K (.sc .un) else K (.ep g i o b cs)
 |s=>K s
def kFr {R:Type}(f:Nat):Fr->(Fr->Option R)->Option R
 |[],K=>K []
 |(k,s)::r,K=>Ls f s λs=>kFr f r λr=>K ((k,s)::r)
section
variable {R:Type}
def qc (st:St)(l:aS)(K:MV->St->Option R):Option R:=match l with
 | .un=>none
 | .p m=>K m st
 | .hs x=>K (.h x) st
 | .nil=>K (.list []) st
 | .mp _ _=>none
 | .own f=>match aV st.bk f with
  |some o=>bif o.eT then K (.list o.xs) st else bif bX st.cY f then none else (match st with|⟨p,q,r,m⟩=>Se m f ⟨o.ty,true,o.xs⟩ λm=>K (.list o.xs) ⟨p,q,r,m⟩)
  |none=>none
def qQ (st:St):List aS->(List MV->St->Option R)->Option R
 |[],K=>K [] st
 |l::r,K=>qc st l λm st=>qQ st r λms st=>K (m::ms) st
def na (st:St)(s:Slot)(K:MV->St->Option R):Option R:=match s with
 | .sc l=>qc st l K
 | .ag cs=>qQ st cs λms st=>K (.agg ms) st
 | .rp cs off=>bif c8 off 0 then qQ st cs λms st=>K (.rp ms) st else none
 |_=>none
def xF (st:St):List Slot->(List MV->St->Option R)->Option R
 |[],K=>K [] st
 |l::r,K=>na st l λm st=>xF st r λms st=>K (m::ms) st
end
def zO:List aS->Nat
 |[]=>0
 |k::r=>k.w+zO r
def cut:List aS->Nat->Option (List aS)
 |cs,0=>some cs
 |c::cs,n+1=>bif aaK c.w (n+1) then cut cs (n+1-c.w) else none
 |_,_=>none
def O9:List aS->Nat->Option (List aS)
 |_,0=>some []
 |c::cs,n+1=>bif aaK c.w (n+1) then (match O9 cs (n+1-c.w) with|some b=>some (c::b)|none=>none) else none
 |_,_=>none
def part (cs:List aS)(off n:Nat):Option (List aS):=match cut cs off with
 |some a=>O9 a n
 |none=>none
def over:List aS->List aS->Option (List aS)
 |[],cs=>some cs
 |v::vs,c::cs=>bif c8 v.w c.w then (match over vs cs with|some r=>some (v::r)|none=>none) else none
 |_,[]=>none
def putAt:List aS->Nat->List aS->Option (List aS)
 |cs,0,vs=>over vs cs
 |c::cs,n+1,vs=>bif aaK c.w (n+1) then (match putAt cs (n+1-c.w) vs with|some r=>some (c::r)|none=>none) else none
 |_,_,_=>none
def app {α:Type}:List α->List α->Option (List α)
 |[],l=>some l
 |x::r,l=>(match app r l with|some q=>some (x::q)|none=>none)
def Pa:aS->Bool
 | .un=>true
 | .mp _ _=>true
 |_=>false
def fT:List aS->Bool
 |[.mp _ _]=>true
 |_=>false
def EV:Slot->Bool
 | .box cs=>!fT cs
 |_=>false
def HH {R:Type}(ok:Nat->Bool)(r0:Fr):Fr->Fr->(Fr->Option R)->Option R
 |[],fr,K=>K fr
 |(t,s)::r,fr,K=>match s with
  | .ptr root off=>bif ok t&&(!BX root&&(EV (av r0 root)&&(EV (av fr root)&&!dv (av fr t)))) then KE fr t (.ptr root off) λfr=>HH ok r0 r fr K else HH ok r0 r fr K
  |_=>HH ok r0 r fr K
def mG:List aS->Bool
 |[.mp s _]=>!Sc s
 |_=>false
def wm:List aS->Bool
 |[]=>false
 |l::r=>bif Pa l then true else wm r
def kEp {R:Type}(f:Nat):Fr->(Fr->Option R)->Option R
 |[],K=>K []
 |(k,s)::r,K=>(match s with
  | .ep g i o b cs=>bif c8 g f then kEp f r λr=>K ((k,.sc .un)::r) else kEp f r λr=>K ((k,.ep g i o b cs)::r)
  |s=>kEp f r λr=>K ((k,s)::r))
inductive LK where
 |k (x:Kd)
 |own (f:Nat) (ty:Nat) (eT:Bool)
inductive OK where
 |sc (l:LK)
 |ag (ls:List LK)
 |box (ls:List LK)
 |mp (s:MS)
 |pt (root off:Nat)
structure se where
 df:List Nat
 cY:List Nat
 outs:List (Nat×OK)
 exo:List (Nat×List (Nat×OK))
 eT:List Nat
instance:Inhabited se:=⟨⟨[],[],[],[],[]⟩⟩
def Yt:List (Nat×List (Nat×OK))->Nat->List (Nat×OK)
 |[],_=>[]
 |(k,l)::r,e=>bif c8 k e then l else Yt r e
def se.ex (h:se)(e:Nat):List (Nat×OK):=Yt h.exo e
def Uv:List (Nat×List (Nat×OK))->List (Nat×OK)
 |[]=>[]
 |(_,l)::r=>l++Uv r
def se.all (h:se):List (Nat×OK):=h.outs++Uv h.exo
structure Ctx where
 ti:Nat->Option TI
 key:Nat->Nat
 g:Nat->List MV->Option MV
 fe:Nat->Bool
 fresh:Nat->Bool
 sf:Nat->Nat
 sig:Nat->Option (Nat×List LK)
 par:List (Nat×Nat)
 n:Nat
 bs:List Nat
 fl:List Nat
 fz:Nat->List Nat
 fk:Nat->Option FloatKind
 mt:Nat->Option (Nat×Bool)
 ord:Nat->List Nat
 HI:Nat->se
 Hf:Nat->se
 FW:Nat->se
 M7:Nat->Bool
 dyn:List Nat
def Ctx.tv (c:Ctx)(t:Nat):Option TI:=match c.ti t with|some I=>(match I.du with|[]=>some I|_=>none)|none=>none
def Bb:Value->Slot
 | .bool b=> .sc (.p (.b b))
 | .int k n=> .sc (.p (.i k n))
 | .string s=> .sc (.p (.s s.data.toList))
 | .slice none 0 0=> .sc .nil
 | .float k b=> .sc (.p (.raw (.float k b)))
 | .complex k a b=> .sc (.p (.raw (.complex k a b)))
 | .pointer none=> .sc (.p (.raw (.pointer none)))
 | .nilFunc=> .sc (.p (.raw .nilFunc))
 | .nilIface=> .sc (.p (.raw .nilIface))
 |_=> .sc .un
def bw (c:Ctx)(st:St):Operand->Slot
 | .tmp t=>match plk c.par t with
  |some q=>bif BX q&&c8 (posOf q) t then (match av st.fr q with| .box cs=>bif fT cs then .sc .un else .ptr q (O8 q)|_=> .sc .un) else .sc .un
  |none=>match av st.fr t with
   | .box cs=>bif BX t then .sc .un else bif mG cs then .zN t else .ptr t 0
   | .zM cs=> .rp cs 0
   |s=>s
 | .const v=>Bb v
 | .func f=> .sc (.p (.func (c.key f) []))
 | .global _=> .sc .un
def lq (c:Ctx)(st:St):List Operand->List Slot
 |[]=>[]
 |o::r=>bw c st o::lq c st r
section
variable {R:Type}
def wr (st:St)(d:Nat)(s:Slot)(K:St->Option R):Option R:=bif bX st.df d then none else (match st with|⟨p,q,r,m⟩=>force s λs=>KE r d s λr=>K ⟨p,q,r,m⟩)
def bY (c:Ctx)(st:St)(d:Option Nat)(s:Slot)(K:St->Option R):Option R:=match d with
 |some d=>bif BX d||(aaK c.n d||dv (av st.fr d)) then none else wr st d s K
 |none=>K st
def lR (st:St)(f:Nat)(o:oS)(K:St->Option R):Option R:=bif bX st.cY f then none else (match st with|⟨p,q,r,m⟩=>kFr f r λr=>Se m f o λm=>K ⟨p,q,r,m⟩)
def kG (I:TI)(cs:List aS)(off:Nat)(K:Slot->Option R):Option R:=bif I.st then (match part cs off I.size with|some a=>K (.ag a)|none=>none)
 else (match cut cs off with|some (l::_)=>bif c8 l.w I.size then K (.sc l) else none|_=>none)
def ldK (st:St)(I:TI)(a:Slot)(K:Slot->Option R):Option R:=match a with
 | .ptr root off=>match av st.fr root with
  | .box cs=>bif fT cs then none else kG I cs off K
  |_=>none
 | .rp cs off=>kG I cs off K
 | .ep f _ off _ cs=>(match aV st.bk f with|some _=>kG I cs off K|none=>none)
 | .hp root off i=>bif I.st||!c8 I.size 1 then none else (match av st.fr root with
  | .box cs=>bif fT cs then none else (match cut cs off with|some (.hs x::_)=>K (.sc (.p (.i .u8 (x.l.getD i 0).toNat)))|_=>none)
  |_=>none)
 |_=>none
def bm:Slot->List aS
 | .sc l=>[l]
 | .ag cs=>cs
 |_=>[]
def ea:List aS->Option (List MV)
 |[]=>some []
 |l::r=>match l,ea r with
  | .p m,some q=>some (m::q)
  | .hs x,some q=>some (.h x::q)
  |_,_=>none
def rQ:List aS->List MV->Option (List aS)
 |[],[]=>some []
 | .hs x::r,_::ms=>(match rQ r ms with|some q=>some (.hs x::q)|none=>none)
 |_::r,m::ms=>(match rQ r ms with|some q=>some (.p m::q)|none=>none)
 |_,_=>none
def Dh (b:Bool)(cs:List MV):Option MV:=match b,cs with
 |false,[m]=>some m
 |true,cs=>some (.agg cs)
 |_,_=>none
def isByte (n:Int):Bool:=decide (n=((acB n.toNat).toNat:Int))
def stK (st:St)(I:TI)(a v:Slot)(K:St->Option R):Option R:=bif wm (bm v)||!c8 (zO (bm v)) I.size then none else
 match a with
 | .ptr root off=>match av st.fr root with
  | .box cs=>bif fT cs then none else (match putAt cs off (bm v) with|some gK=>wr st root (.box gK) K|none=>none)
  |_=>none
 | .hp root off i=>match av st.fr root,v with
  | .box cs,.sc (.p n)=>bif fT cs then none else (match cut cs off with
   |some (.hs x::_)=>gI .u8 n λn=>bU (isByte n) (match putAt cs off [.hs (x.put i (acB n.toNat))] with|some gK=>wr st root (.box gK) K|none=>none)
   |_=>none)
  |_,_=>none
 | .ep f i off b cs=>qQ st (bm v) λms st=>match aV st.bk f with
  |some o=>bif o.eT then none else
   (match rQ (bm v) ms with
   |some vs=>(match putAt cs off vs with
    |some gK=>(match ea gK with
     |some ms'=>(match Dh b ms' with
      |some x=>bif bX st.cY f then none else
       (match st with|⟨p,q,r,m⟩=>kEp f r λr=>Se m f ⟨o.ty,false,o.xs.set i x⟩ λm=>K ⟨p,q,r,m⟩)
      |none=>none)
     |none=>none)
    |none=>none)
   |none=>none)
  |none=>none
 |_=>none
def M8 (I:TI)(x:MV)(K:List aS->Option R):Option R:=bif I.st then gA x λcs=>uM I.lay cs K
 else match I.lay with
  |[k]=>kF k x λx=>K [x]
  |_=>none
def FX (I:TI)(x:MV)(K:Slot->Option R):Option R:=bif I.st then gA x λcs=>uM I.lay cs λcs=>K (.ag cs)
 else match I.lay with
  |[k]=>kF k x λx=>K (.sc x)
  |_=>none
def HJ (c:Ctx):List Nat->List MV->(List Slot->Option R)->Option R
 |[],l,K=>gN l (K [])
 |t::ts,l,K=>match c.tv t with
  |some I=>gC l λm r=>FX I m λs=>HJ c ts r λss=>K (s::ss)
  |none=>none
def si (c:Ctx)(I:TI)(x:MV)(K:Slot->Option R):Option R:=match I.du with
 |[]=>FX I x K
 |ts=>gT x λvs=>HJ c ts vs λss=>K (.cj ss)
def EW:aS->aS->Option Bool
 | .p (.b x),.p (.b y)=>some (decide (x=y))
 | .p (.i k x),.p (.i k' y)=>bif decide (k=k') then some (decide (x=y)) else none
 | .p (.s x),.p (.s y)=>some (decide (x=y))
 | .hs x,.hs y=>some (decide (x=y))
 |_,_=>none
def jU:List aS->List aS->Option Bool
 |[],[]=>some true
 |[x],[y]=>EW x y
 |x::xs,y::ys=>match EW x y,jU xs ys with
  |some a,some b=>some (a&&b)
  |_,_=>none
 |_,_=>none
def M9 (op:BinOp)(x y:List UInt8):Option MV:=match op with
 | .eql=>some (.b (decide (x=y)))
 | .neq=>some (.b (!decide (x=y)))
 | .lss=>some (.b (adv x y))
 | .gtr=>some (.b (!(adv x y||decide (x=y))))
 | .leq=>some (.b (adv x y||decide (x=y)))
 | .geq=>some (.b (!adv x y))
 |_=>none
def Uw (op:BinOp)(k:IntKind)(x y:Int):Option MV:=match op with
 | .add=>some (.i k (k.wrap (x+y)))
 | .sub=>some (.i k (k.wrap (x-y)))
 | .mul=>some (.i k (k.wrap (x *y)))
 | .eql=>some (.b (decide (x=y)))
 | .neq=>some (.b (!decide (x=y)))
 | .lss=>some (.b (decide (x<y)))
 | .leq=>some (.b (decide (x<=y)))
 | .gtr=>some (.b (decide (y<x)))
 | .geq=>some (.b (decide (y<=x)))
 |_=>none
def vC:Kd->aS->Bool
 | .b,.p (.b _)=>true
 | .i k,.p (.i k' _)=>decide (k'=k)
 | .s,.p (.s _)=>true
 | .h,.hs _=>true
 |_,_=>false
def jV:List Kd->List aS->Bool
 |[],[]=>true
 |k::ks,l::ls=>bif vC k l then jV ks ls else false
 |_,_=>false
def vD (st:Bool):Slot->Bool
 | .ag _=>st
 | .sc _=>!st
 |_=>false
def ajQ (op:BinOp)(a b:Nat):Option Nat:=match op with
 | .add=>FloatKind.f64.format.add a b
 | .sub=>FloatKind.f64.format.sub a b
 | .mul=>FloatKind.f64.format.mul a b
 |_=>none
def agR (oI:Option TI)(op:BinOp)(x y:Slot)(K:Slot->Option R):Option R:=match x,y with
 | .sc (.p (.i k a)),.sc (.p (.i k' b))=>
  (match op with
   | .quo=>bif decide (k=k') then bU (!decide (b=0)) (K (.sc (.p (.i k (k.wrap (a.tdiv b)))))) else none
   | .rem=>bif decide (k=k') then bU (!decide (b=0)) (K (.sc (.p (.i k (a.tmod b))))) else none
   | .shr=>bU (decide (0<=b)) (K (.sc (.p (.i k (a.fdiv (2^min b.toNat k.bits))))))
   | .shl=>bU (decide (0<=b)) (K (.sc (.p (.i k (k.wrap (a *2^min b.toNat k.bits))))))
   |_=>bif decide (k=k') then (match Uw op k a b with|some m=>K (.sc (.p m))|none=>none) else none)
 | .sc (.p (.s a)),.sc (.p (.s b))=>(match op with
  | .add=>bU (decide (a.length+b.length<=2^46)) (K (.sc (.p (.s (a++b)))))
  |_=>(match M9 op a b with|some m=>K (.sc (.p m))|none=>none))
 | .sc (.p (.raw (.float .f64 a))),.sc (.p (.raw (.float .f64 b)))=>bd (ajQ op a b) λr=>K (.sc (.p (.raw (.float .f64 r))))
 |x,y=>match oI with
  |some I=>bif jV I.lay (bm x)&&jV I.lay (bm y)&&(vD I.st x&&vD I.st y) then (match op with
   | .eql=>(match jU (bm x) (bm y) with|some b=>K (.sc (.p (.b b)))|none=>none)
   | .neq=>(match jU (bm x) (bm y) with|some b=>K (.sc (.p (.b (!b))))|none=>none)
   |_=>none) else none
  |none=>none
def sliceB (lo hi:Option Slot)(len:Nat)(K:Nat->Nat->Option R):Option R:=match lo,hi with
 |none,none=>K 0 len
 |some (.sc (.p (.i _ l))),none=>bU (decide (0<=l/\l<=(len:Int)/\(len:Int)<=(len:Int))) (K l.toNat (Int.toNat (len:Int)))
 |none,some (.sc (.p (.i _ h)))=>bU (decide (0<=(0:Int)/\(0:Int)<=h/\h<=(len:Int))) (K (Int.toNat 0) h.toNat)
 |some (.sc (.p (.i _ l))),some (.sc (.p (.i _ h)))=>bU (decide (0<=l/\l<=h/\h<=(len:Int))) (K l.toNat h.toNat)
 |_,_=>none
def mH (c:Ctx)(st:St):Option Operand->Option Slot
 |some o=>some (bw c st o)
 |none=>none
def TI.Dd (I:TI):Bool:=match I.st,I.lay with|false,[.l]=>true|_,_=>false
def TI.X9 (I:TI):Bool:=match I.st,I.lay with|false,[.s]=>true|_,_=>false
def V3 (E:TI):Bool:=match E.st,E.lay with
 |false,[.i k]=>decide (k= .u8)
 |_,_=>false
def Pb (l:List UInt8):List MV:=l.map λb=> .i .u8 (b.toNat:Int)
def Sf (c:Ctx)(u:Nat)(E:TI)(x:Slot)(K:List MV->Option R):Option R:=match c.tv u,x with
 |some T,.sc (.p (.s l))=>bif T.X9&&V3 E then K (Pb l) else none
 |_,_=>none
def Na (I E:TI)(st:St)(x:Slot)(K:List MV->Option R):Option R:=match x with
 | .sc (.p (.list xs))=>bU (qa E.size xs) (K xs)
 | .sc .nil=>K []
 | .sc (.own f)=>(match aV st.bk f with|some o=>bif c8 o.ty I.elem then K o.xs else none|none=>none)
 |_=>none
def CA (c:Ctx)(st:St)(I:TI):List (Nat×Operand)->List aS->Option (List aS)
 |[],cs=>some cs
 |(i,o)::r,cs=>match I.xC[i]?,I.V2[i]? with
  |some q,some y=>(match c.tv y with
   |some J=>bif wm (bm (bw c st o))||!c8 (zO (bm (bw c st o))) J.size then none else
    (match putAt cs q (bm (bw c st o)) with|some gK=>CA c st I r gK|none=>none)
   |none=>none)
  |_,_=>none
def HK (c:Ctx)(st:St):List (Nat×Operand)->lQ->(lQ->Option R)->Option R
 |[],x,K=>K x
 |(i,o)::r,x,K=>match bw c st o with
  | .sc (.p m)=>bif aaK 32 i then none else gI .u8 m λn=>bU (isByte n) (HK c st r (x.put i (acB n.toNat)) K)
  |_=>none
def Yu (c:Ctx)(st:St):List (Nat×Operand)->Nat->(List MV->St->Option R)->Option R
 |[],_,K=>K [] st
 |(i,o)::r,n,K=>bif c8 i n then na st (bw c st o) λm st=>Yu c st r (n+1) λms st=>K (m::ms) st else none
def Di (c:Ctx)(st:St):List Operand->(List MV->St->Option R)->Option R
 |[],K=>K [] st
 |o::r,K=>match bw c st o with
  | .ptr root 0=>(match av st.fr root with
   | .box cs=>bif wm cs||BX root then none else qQ st cs λms st=>(match rQ cs ms with|some gK=>wr st root (.zM gK) λst=>Di c st r λxs st=>K (.rp ms::xs) st|none=>none)
   |_=>none)
  | .rp cs 0=>qQ st cs λms st=>Di c st r λxs st=>K (.rp ms::xs) st
  |_=>none
def Dj (c:Ctx)(k:Nat)(st:St)(s:Slot)(K:MV->St->Option R):Option R:=match s with
 | .sc (.own f)=>(match aV st.bk f with
  |some o=>bif o.eT||!c8 o.ty (c.sf k) then none else lR st f ⟨o.ty,true,[]⟩ λst=>K (.fresh o.xs) st
  |none=>none)
 | .sc .nil=>(match c.tv (c.sf k) with|some _=>K (.fresh []) st|none=>none)
 |_=>none
def Ux (c:Ctx)(k:Nat)(st:St)(ss:List Slot)(K:List MV->St->Option R):Option R:=bif c.fe k then (match ss with
  |[s0,s1,s2]=>(match s2 with
   | .sc (.p m2)=>na st s1 λm1 st=>Dj c k st s0 λm0 st=>K [m0,m1,m2] st
   |s2=>na st s1 λm1 st=>Dj c k st s0 λm0 st=>Dj c k st s2 λm2 st=>K [m0,m1,m2] st)
  |_=>none)
 else xF st ss K
def ajR (x y:Int):Int:=if y<x then y else x
def imax (x y:Int):Int:=if y>x then y else x
def Yv (mx:Bool)(k:IntKind):Int->List Slot->Option MV
 |x,[]=>some (.i k x)
 |x,.sc (.p (.i k' y))::r=>bif decide (k'=k) then Yv mx k (bif mx then imax x y else ajR x y) r else none
 |_,_=>none
def Sg (mx:Bool):List Slot->Option MV
 | .sc (.p (.i k n))::r=>Yv mx k n r
 |_=>none
def Yw (c:Ctx)(d:Nat)(st:St)(f:Nat)(ms:List MV)(I:TI)(K:Slot->St->Option R):Option R:=bd (c.g f ms) λr=>bif c.fresh f then gF r λxs=>bif !c8 I.elem (c.sf f) then none else lR st d ⟨I.elem,false,xs⟩ λst=>(bif bX c.bs d then qc st (.own d) λm st=>K (.sc (.p m)) st else K (.sc (.own d)) st) else si c I r λs=>K s st
def agS (s:Slot)(K:Slot->Option R):Option R:=match s with
 | .ptr r o=>K (.ptr r o)
 | .rp cs o=>K (.rp cs o)
 |_=>none
def Yx (x y z:Slot)(K:Slot->Option R):Option R:=match x with
 | .sc (.p (.b v))=>(match y,z with
  | .sc (.p (.b p)),.sc (.p (.b q))=>K (.sc (.p (.b (bif v then p else q))))
  |p,q=>match v with|true=>K p|false=>K q)
 |_=>none
def agT (I:TI)(s:Slot)(K:Slot->Option R):Option R:=match s with
 | .sc l=>bif I.st||Pa l||!c8 l.w I.size then none else K (.box [l])
 | .ag cs=>bif I.st&&!wm cs&&c8 (zO cs) I.size then K (.box cs) else none
 |_=>none
def unK (op:UnOp)(s:Slot)(K:Slot->Option R):Option R:=match op,s with
 | .not,.sc (.p (.b v))=>K (.sc (.p (.b (!v))))
 | .neg,.sc (.p (.i k n))=>K (.sc (.p (.i k (k.wrap (0-n)))))
 |_,_=>none
def Yy (I:TI)(fk:Option FloatKind)(s:Slot)(K:Slot->Option R):Option R:=match I.st,I.du,I.lay,s with
 |false,[],[.i k],.sc (.p (.i _ n))=>K (.sc (.p (.i k (k.wrap n))))
 |false,[],[.s],.sc (.p (.s l))=>K (.sc (.p (.s l)))
 |false,[],[.i k],.sc (.p (.raw (.float .f64 a)))=>bd ((FloatKind.decode .f64 a).toInt .zero) λn=>bU (decide (k.min<=n/\n<=k.max)) (K (.sc (.p (.i k n))))
 |false,[],[.raw],.sc (.p (.i _ n))=>(match fk with
  |some .f64=>K (.sc (.p (.raw (.float .f64 (FloatKind.nearest .f64 n)))))
  |_=>none)
 |_,_,_,_=>none
def Sh (c:Ctx)(I:TI)(st:St)(s:Slot)(lo hi:Option Slot)(K:Slot->St->Option R):Option R:=match s with
 | .sc (.p (.s l))=>bif I.X9 then sliceB lo hi l.length λa b=>K (.sc (.p (.s ((l.take b).drop a)))) st else none
 | .sc (.p (.list l))=>bif I.Dd then (match c.tv I.elem with
  |some E=>(match lo with
   |none=>sliceB none hi l.length λa b=>K (.sc (.p (.list ((l.take b).drop a)))) st
   |some lo=>bU (qa E.size l) (sliceB (some lo) hi l.length λa b=>K (.sc (.p (.list ((l.take b).drop a)))) st))
  |none=>none) else none
 | .sc (.own f)=>(match aV st.bk f with
  |some o=>bif I.Dd&&c8 o.ty I.elem then qc st (.own f) λ_ st=>sliceB lo hi o.xs.length λa b=>K (.sc (.p (.list ((o.xs.take b).drop a)))) st else none
  |none=>none)
 | .sc .nil=>bif I.Dd then sliceB lo hi 0 λ_ _=>K (.sc .nil) st else none
 |_=>none
def Yz (st:St)(I:TI)(f:Nat)(s:Slot)(K:Slot->Option R):Option R:=match I.st,I.xC[f]?,s with
 |true,some q,.ptr r o=>K (.ptr r (o+q))
 |true,some q,.rp cs o=>K (.rp cs (o+q))
 |true,some q,.ep g i o b cs=>(match aV st.bk g with|some _=>K (.ep g i (o+q) b cs)|none=>none)
 |_,_,_=>none
def agU (c:Ctx)(I:TI)(f:Nat)(s:Slot)(K:Slot->Option R):Option R:=match I.st,I.xC[f]?,I.V2[f]?,s with
 |true,some q,some y,.ag cs=>(match c.tv y with|some J=>kG J cs q K|none=>none)
 |_,_,_,_=>none
def agV (c:Ctx)(st:St)(I E:TI)(x i:Slot)(K:Slot->Option R):Option R:=match x,i with
 | .sc (.p (.list xs)),.sc (.p (.i _ n))=>bif I.Dd then idx xs n λx=>M8 E x λcs=>K (.rp cs 0) else none
 | .sc (.own f),.sc (.p (.i _ n))=>(match aV st.bk f with
  |some o=>bif I.Dd then idx o.xs n λx=>M8 E x λcs=>K (.ep f n.toNat 0 E.st cs) else none
  |none=>none)
 | .ptr r o,.sc (.p (.i _ n))=>bif I.st then none else (match I.lay with|[.h]=>bU (decide ((0:Int)<=n/\n<32)) (K (.hp r o n.toNat))|_=>none)
 |_,_=>none
def ixK (I:TI)(x i:Slot)(K:Slot->Option R):Option R:=match I.st,I.lay,x,i with
 |false,[.s],.sc (.p (.s l)),.sc (.p (.i _ n))=>bU (decide ((0:Int)<=n/\n<(l.length:Int))) (K (.sc (.p (.i .u8 (l.getD n.toNat 0).toNat))))
 |false,[.h],.sc (.hs x),.sc (.p (.i _ n))=>bU (decide ((0:Int)<=n/\n<32)) (K (.sc (.p (.i .u8 (x.l.getD n.toNat 0).toNat))))
 |_,_,_,_=>none
def agW (s:Slot)(k:Nat)(K:Slot->Option R):Option R:=match s with
 | .cj vs=>(match vs[k]? with|some s=>K s|none=>none)
 |_=>none
def YA (I:TI)(st:St)(ss:List Slot)(K:Slot->Option R):Option R:=match ss with
 |[.sc (.p (.s l))]=>bif I.X9 then K (.sc (.p (.i .i64 l.length))) else none
 |[.sc (.p (.list l))]=>bif I.Dd then K (.sc (.p (.i .i64 l.length))) else none
 |[.sc .nil]=>bif I.Dd then K (.sc (.p (.i .i64 0))) else none
 |[.sc (.own f)]=>bif I.Dd then (match aV st.bk f with|some o=>K (.sc (.p (.i .i64 o.xs.length)))|none=>none) else none
 |_=>none
def V4 (d:Nat)(st:St)(I E:TI)(s:Slot)(ys:List MV)(K:Slot->St->Option R):Option R:=bif aaK 1 E.bytes then (match s with
 | .sc .nil=>bU (decide (ys.length *E.bytes<=2^46)) (lR st d ⟨I.elem,false,ys⟩ λst=>K (.sc (.own d)) st)
 | .sc (.own f)=>(match aV st.bk f with
  |some w=>bU (decide ((w.xs.length+ys.length) *E.bytes<=2^46)) (bif c8 w.ty I.elem then lR st f ⟨w.ty,w.eT,w.xs++ys⟩ λst=>K (.sc (.own f)) st else none)
  |none=>none)
 |_=>none) else none
def Nb (c:Ctx)(st:St)(I:TI)(f:Slot)(ss:List Slot)(K:Slot->St->Option R):Option R:=match f with
 | .sc (.p m)=>Sd m λf cE=>bU (!c.fe f)<|xF st ss λms st=>bd (c.g f (ms++cE)) λr=>si c I r λs=>K s st
 |_=>none
def Pc:MV->MV->Bool
 | .b x,.b y=>decide (x=y)
 | .i k x,.i k' y=>decide (k=k')&&decide (x=y)
 | .s x,.s y=>decide (x=y)
 | .h x,.h y=>decide (x=y)
 |_,_=>false
def zP:List MV->List MV->Bool
 |[],[]=>true
 |x::xs,y::ys=>Pc x y&&zP xs ys
 |_,_=>false
def agX:MV->List MV
 | .cj (.agg k::_)=>k
 |_=>[]
def Uy (b:Bool):MV:=bif b then .b false else .i .i64 0
def V5 (c:Ctx)(t:Nat):Option MS:=match c.mt t with
 |some (kt,b)=>(match c.tv kt with|some I=>bif Sc ⟨I.st,I.lay,b⟩ then none else some ⟨I.st,I.lay,b⟩|none=>none)
 |none=>none
def asl (st:St)(s:MS)(m:Slot)(K:Nat->List MV->Option R):Option R:=match m with
 | .zN r=>(match av st.fr r with| .box [.mp s' es]=>bif msB s s'&&!Sc s' then K r es else none|_=>none)
 |_=>none
def isLT (c:Ctx)(y:Nat):Bool:=match c.tv y with|some Y=>Y.Dd|none=>false
def oT (c:Ctx)(o:Oper):Bool:=match o.op with
 | .assign (.tmp _)=>(match c.mt o.type with|some _=>true|none=>false)
 |_=>false
def Hg (c:Ctx)(o:Oper)(st:St)(x:Operand)(K:Slot->St->Option R):Option R:=match x,c.mt o.type with
 | .tmp t,some _=>(match av st.fr t with
  | .box cs=>bif fT cs then bif bX st.df t||BX t then none else (match st with|⟨p,q,r,m⟩=>wk [t] r λr=>K (.box cs) ⟨p,q,r,m⟩) else K (bw c st x) st
  |_=>K (bw c st x) st)
 |_,_=>K (bw c st x) st
def Ya (es:List MV):List UInt8:=match es with|[.s l,.i .i64 _]=>l|_=>[]
def r7 (es:List MV):Int:=match es with|[.s _,.i .i64 n]=>n|_=>0
def KF (es:List MV):Bool:=decide (r7 es<((Ya es).length:Int))
def zQ (es:List MV):Int:=(afU ⟨(Ya es).toArray⟩ (r7 es).toNat).1
def CB (es:List MV):List MV:=[.s (Ya es),.i .i64 (r7 es+(afU ⟨(Ya es).toArray⟩ (r7 es).toNat).2)]
def itK (st:St)(x:Slot)(K:Slot->St->Option R):Option R:=match x with
 | .ptr t 0=>(match av st.fr t with
  | .box [.mp s es]=>bif Sc s then
   aQ (KF es) (wr st t (.box [.mp s (CB es)]) λst=>K (.cj [.sc (.p (.b true)),.sc (.p (.i .i64 (r7 es))),.sc (.p (.i .i32 (zQ es)))]) st) (K (.cj [.sc (.p (.b false))]) st)
   else none
  |_=>none)
 |_=>none
def byK (m:MV)(K:UInt8->Option R):Option R:=gI .u8 m λn=>bU (isByte n) (K (acB n.toNat))
def HL:List MV->(List UInt8->Option R)->Option R
 |[],K=>K []
 |m::r,K=>byK m λb=>HL r λl=>K (b::l)
def Si (I:TI)(x:Slot)(K:Slot->Option R):Option R:=match x with
 | .sc (.p (.s l))=>bif I.X9 then K (.box [.mp MS.it [.s l,.i .i64 0]]) else none
 |_=>none
def YB (c:Ctx)(st:St)(Y I:TI)(x:Slot)(K:Slot->Option R):Option R:=match c.tv Y.elem with
 |some E=>bif I.X9&&V3 E then (match x with
  | .sc (.p (.list xs))=>HL xs λl=>K (.sc (.p (.s l)))
  | .sc .nil=>K (.sc (.p (.s [])))
  | .sc (.own f)=>(match aV st.bk f with
   |some o=>bif c8 o.ty Y.elem then HL o.xs λl=>K (.sc (.p (.s l))) else none
   |none=>none)
  |_=>none) else none
 |none=>none
def still (c:Ctx)(o:Oper):Bool:=match o.op,o.dst with
 | .load _ _,some d=>bX c.fl d
 |_,_=>false
def bK:List LK->List Nat
 |[]=>[]
 | .own f _ _::r=>f::bK r
 |_::r=>bK r
def meets:List Nat->List Nat->Bool
 |[],_=>false
 |k::r,l=>bif bX l k then true else meets r l
def je (c:Ctx):List LK->Bool
 |[]=>true
 | .own _ ty _::r=>(match c.tv ty with|some _=>je c r|none=>false)
 |_::r=>je c r
def nb (ps:List (Nat×Nat))(f g:Nat):Bool:=match ps with
 |[]=>true
 |(a,b)::r=>(bif c8 a f then c8 b g&&!c8 g 0 else (bif c8 b g then c8 g 0 else true))&&nb r f g
def Nc (st:St)(ps:List (Nat×Nat))(k:LK)(l:aS)(K:MV->List (Nat×Nat)->Option R):Option R:=match k,l with
 | .k .l,.nil=>K (.list []) ps
 | .k .h,.hs x=>K (.h x) ps
 | .k x,.p m=>kF x m λ_=>K m ps
 | .own f ty eT,.own g=>match aV st.bk g with
  |some o=>bif !c8 o.ty ty||(o.eT&&!eT)||bX st.cY g||!nb ps f (g+1) then none else K (.list o.xs) ((f,g+1)::ps)
  |none=>none
 | .own f _ _,.nil=>bif nb ps f 0 then K (.list []) ((f,0)::ps) else none
 |_,_=>none
def kh (st:St):List (Nat×Nat)->List LK->List aS->(List MV->List (Nat×Nat)->Option R)->Option R
 |ps,[],[],K=>K [] ps
 |ps,k::ks,l::ls,K=>Nc st ps k l λm ps=>kh st ps ks ls λms ps=>K (m::ms) ps
 |_,_,_,_=>none
def lS (st:St)(k:LK)(m:MV)(K:aS->St->Option R):Option R:=match k with
 | .k x=>kF x m λl=>K l st
 | .own f ty eT=>gL m λxs=>(match st with|⟨p,q,r,n⟩=>Se n f ⟨ty,eT,xs⟩ λn=>K (.own f) ⟨p,q,r,n⟩)
def dw (st:St):List LK->List MV->(List aS->List MV->St->Option R)->Option R
 |[],ms,K=>K [] ms st
 |k::ks,ms,K=>gC ms λm r=>lS st k m λl st=>dw st ks r λls ms st=>K (l::ls) ms st
def Pd (gs:List Nat):List (Nat×oS)->(List (Nat×oS)->Option R)->Option R
 |[],K=>K []
 |(k,o)::r,K=>bif bX gs k then Pd gs r K else Pd gs r λr=>K ((k,o)::r)
def acS:List Nat->Fr->(Fr->Option R)->Option R
 |[],r,K=>K r
 |f::fs,r,K=>kFr f r λr=>acS fs r K
def eZ:List (Nat×Nat)->List Nat
 |[]=>[]
 |(_,0)::r=>eZ r
 |(_,g+1)::r=>g::eZ r
def Lt:List Nat->List (Nat×oS)->Bool
 |[],_=>false
 |f::r,m=>(match aV m f with|some _=>true|none=>Lt r m)
def Lu (st:St)(root:Nat)(ks:List LK)(ps:List (Nat×Nat))(outs:List MV)(K:St->Option R):Option R:=dw ⟨[],[],[],[]⟩ ks outs λcs rest Bc=>gN rest<|Pd (eZ ps) st.bk λm=>
  bif Lt (bK ks) m||meets (bK ks) st.cY then none else
   acS (bK ks) st.fr λr=>KE r root (.box cs) λr=>(match app Bc.bk m with|some m=>K ⟨st.df,st.cY,r,m⟩|none=>none)
def Uz (c:Ctx)(gv:Bool)(g:List MV->Option MV)(pos:Nat)(ks:List LK)(st:St)(ss:List Slot)(I:Option TI)(K:Slot->St->Option R):Option R:=match ss[pos]? with
 |some (.ptr root off)=>xF st (ss.take pos) λm1 st=>xF st (ss.drop (pos+1)) λm2 st=>
  (match av st.fr root with
  | .box cs=>bif fT cs||bX st.df root||!je c ks||!gv then none else kh st [] ks cs λls ps=>
   (match app m1 (.cell (.func off ls)::m2) with
   |some ms=>bd (g ms) λx=>gW x λr outs=>Lu st root ks ps outs λst=>(match I with
    |some I=>si c I r λs=>K s st
    |none=>K (.sc .un) st)
   |none=>none)
  |_=>none)
 |_=>none
def afG (c:Ctx)(key pos:Nat)(ks:List LK)(st:St)(ss:List Slot)(I:Option TI)(K:Slot->St->Option R):Option R:=Uz c (c.fe key) (c.g key) pos ks st ss I K
def YC:List LK->List LK->Bool
 |[],[]=>true
 | .k k1::r,.k k2::q=>kdB k1 k2&&YC r q
 | .own f t z::r,.own f' t' z'::q=>c8 f f'&&(c8 t t'&&(z==z'&&YC r q))
 |_,_=>false
def Pe (c:Ctx)(pos:Nat)(ks:List LK):List Nat->Bool
 |[]=>true
 |k::r=>(match c.sig k with|some sg=>c8 sg.1 pos&&YC sg.2 ks|none=>false)&&(c.fe k&&Pe c pos ks r)
def YD (c:Ctx)(V6:List Nat)(st:St)(f:Slot)(ss:List Slot)(I:Option TI)(K:Slot->St->Option R):Option R:=match f,V6 with
 | .sc (.p m),k0::_=>(match c.sig k0 with
  |some sg=>bif Pe c sg.1 sg.2 V6 then Sd m λk cE=>gN cE<|Uz c true (λms=>KD V6 k λk=>c.g k ms) sg.1 sg.2 st ss I K else none
  |none=>none)
 |_,_=>none
def opK (c:Ctx)(o:Oper)(st:St)(K:Slot->St->Option R):Option R:=match o.op with
 | .move x=>K (bw c st x) st
 | .assign x=>Hg c o st x K
 | .nilCheck x=>agS (bw c st x) λs=>K s st
 | .pick x a b=>Yx (bw c st x) (bw c st a) (bw c st b) λs=>K s st
 | .alloc t=>(match c.tv t with|some I=>K (.box I.zero) st|none=>none)
 | .box t x=>(match c.tv t with|some I=>agT I (bw c st x) λs=>K s st|none=>none)
 | .build t parts=>(match c.tv t with
  |some I=>bif I.st then (match CA c st I parts.toList I.zero with|some cs=>K (.ag cs) st|none=>none)
   else (match I.lay with|[.h]=>HK c st parts.toList lQ.zero λx=>K (.sc (.hs x)) st|_=>none)
  |none=>none)
 | .buildSlice t n parts=>(match c.tv t with
  |some I=>bif I.Dd then (match c.tv I.elem with
   |some E=>bif aaK (n *E.size) 16777216 then Yu c st parts.toList 0 λms st=>bif c8 ms.length n then bU (qa E.size ms) (bif bX c.bs (o.dst.getD 0) then K (.sc (.p (.list ms))) st else lR st (o.dst.getD 0) ⟨I.elem,false,ms⟩ λst=>K (.sc (.own (o.dst.getD 0))) st) else none else none
   |none=>none) else none
  |none=>none)
 | .load t a=>(match c.tv t with
  |some I=>bif still c o then (match bw c st a with| .rp cs off=>kG I cs off λs=>K s st|_=>none) else ldK st I (bw c st a) λs=>K s st
  |none=>none)
 | .store t a v=>(match c.tv t with|some I=>stK st I (bw c st a) (bw c st v) λst=>K (.sc .un) st|none=>none)
 | .binOp op t x y _=>agR (c.tv t) op (bw c st x) (bw c st y) λs=>K s st
 | .unOp op _ x=>unK op (bw c st x) λs=>K s st
 | .convert y t x=>bif isLT c y then (match c.tv y,c.tv t with|some Y,some I=>YB c st Y I (bw c st x) λs=>K s st|_,_=>none)
  else (match c.ti y,c.tv t with|some _,some I=>Yy I (c.fk t) (bw c st x) λs=>K s st|_,_=>none)
 | .range t x=>(match c.tv t with|some I=>Si I (bw c st x) λs=>K s st|none=>none)
 | .next x true=>itK st (bw c st x) K
 | .makeFunc (.func f) first cE=>(match first.toList with
  |[]=>Di c st cE.toList λms st=>K (.sc (.p (.func (c.key f) ms))) st
  |_=>none)
 | .slice t x lo hi none=>(match c.tv t with|some I=>Sh c I st (bw c st x) (mH c st lo) (mH c st hi) K|none=>none)
 | .fieldAddr t x f=>(match c.tv t with|some I=>Yz st I f (bw c st x) λs=>K s st|none=>none)
 | .field t x f=>(match c.tv t with|some I=>agU c I f (bw c st x) λs=>K s st|none=>none)
 | .indexAddr t x i=>(match c.tv t with
  |some I=>(match c.tv I.elem with|some E=>agV c st I E (bw c st x) (bw c st i) λs=>K s st|none=>none)
  |none=>none)
 | .index t x i=>(match c.tv t with|some I=>ixK I (bw c st x) (bw c st i) λs=>K s st|none=>none)
 | .extract x k=>agW (bw c st x) k λs=>K s st
 | .call cl=>(match cl.callee with
  | .value (.func f)=>(match c.sig (c.key f) with
   |some sg=>afG c (c.key f) sg.1 sg.2 st (lq c st cl.args.toList) (c.ti o.type) K
   |none=>match c.ti o.type with
   |some I=>Ux c (c.key f) st (lq c st cl.args.toList) λms st=>Yw c (o.dst.getD 0) st (c.key f) ms I K
   |none=>none)
  | .value x=>(match c.dyn with
   |_::_=>YD c c.dyn st (bw c st x) (lq c st cl.args.toList) (c.ti o.type) K
   |[]=>match c.ti o.type with
   |some I=>Nb c st I (bw c st x) (lq c st cl.args.toList) K
   |none=>none)
  | .builtin .len=>(match cl.argTypes.toList with
   |[t]=>(match c.tv t with|some I=>YA I st (lq c st cl.args.toList) λs=>K s st|none=>none)
   |_=>none)
  | .builtin .append=>(match lq c st cl.args.toList,cl.argTypes.toList with
   |[s,x],[t,t']=>(match c.tv t with
    |some I=>bif I.Dd then (match c.tv I.elem with
     |some E=>bif c8 t t' then Na I E st x λys=>V4 (o.dst.getD 0) st I E s ys K else Sf c t' E x λys=>V4 (o.dst.getD 0) st I E s ys K
     |none=>none) else none
    |none=>none)
   |_,_=>none)
  | .builtin .min=>(match Sg false (lq c st cl.args.toList) with|some m=>K (.sc (.p m)) st|none=>none)
  | .builtin .max=>(match Sg true (lq c st cl.args.toList) with|some m=>K (.sc (.p m)) st|none=>none)
  |_=>none)
 |_=>none
def Sj (all:List Oper)(o:Oper)(st:St)(K:Bool->St->Option R):Option R:=match o.guard with
 |none=>K true st
 |some (j,want)=>match all[j]? with
  |some p=>(match p.dst with
   |some t=>(match av st.fr t with
    | .sc (.p (.b v))=>(match v with
     |true=>(match st with|⟨p,q,r,m⟩=>KE r t (.sc (.p (.b true))) λr=>K want ⟨p,q,r,m⟩)
     |false=>(match st with|⟨p,q,r,m⟩=>KE r t (.sc (.p (.b false))) λr=>K (!want) ⟨p,q,r,m⟩))
    | .skip=>K false st
    |_=>none)
   |none=>none)
  |none=>none
def UA (c:Ctx)(all:List Oper)(o:Oper)(st:St)(K:St->Option R):Option R:=Sj all o st λgo st=>
  bif go then opK c o st λs st=>bY c st o.dst s K
  else bY c st o.dst .skip K
def BZ (c:Ctx)(all:List Oper):List Oper->St->(St->Option R)->Option R
 |[],st,K=>K st
 |o::r,st,K=>UA c all o st λst=>BZ c all r st K
end
section
variable {R:Type}
def om (st:St):List (Nat×Nat)->List (Nat×OK)->(List MV->Option R)->Option R
 |_,[],K=>K []
 |ps,(t,k)::r,K=>match k,av st.fr t with
  | .sc k,.sc l=>kh st ps [k] [l] λms ps=>om st ps r λns=>(match app ms ns with|some l=>K l|none=>none)
  | .ag ks,.ag ls=>kh st ps ks ls λms ps=>om st ps r λns=>(match app ms ns with|some l=>K l|none=>none)
  | .box ks,.box ls=>kh st ps ks ls λms ps=>om st ps r λns=>(match app ms ns with|some l=>K l|none=>none)
  | .mp s,.box [.mp s' es]=>bif msB s s' then om st ps r λns=>K (.list es::ns) else none
  | .pt root off,.ptr YE V7=>bif c8 root YE&&(c8 off V7&&(!BX root&&EV (av st.fr root))) then om st ps r K else none
  |_,_=>none
def Pf (st:St)(t:Nat)(s:Slot)(K:St->Option R):Option R:=match st with|⟨p,q,r,m⟩=>KE r t s λr=>K ⟨p,q,r,m⟩
def YF:List (Nat×OK)->List MV->St->(St->Option R)->Option R
 |[],ms,st,K=>gN ms (K st)
 |(t,k)::r,ms,st,K=>match k,st with
  | .pt root off,⟨p,q,fr,m⟩=>bif !BX root&&(EV (av fr root)&&!dv (av fr t)) then KE fr t (.ptr root off) λfr=>YF r ms ⟨p,q,fr,m⟩ K else none
  |_,_=>none
def oo (st:St):List (Nat×OK)->List MV->(St->Option R)->Option R
 |[],ms,K=>gN ms (K st)
 |(t,k)::r,ms,K=>match k with
  | .sc k=>dw st [k] ms λls ms st=>(match ls with|[l]=>Pf st t (.sc l) λst=>oo st r ms K|_=>none)
  | .ag ks=>dw st ks ms λls ms st=>Pf st t (.ag ls) λst=>oo st r ms K
  | .box ks=>bif BX t&&!bX st.df (posOf t) then none else dw st ks ms λls ms st=>Pf st t (.box ls) λst=>oo st r ms K
  | .mp s=>bif BX t then none else gC ms λm ms=>gL m λes=>Pf st t (.box [.mp s es]) λst=>oo st r ms K
  | .pt root off=>YF ((t,.pt root off)::r) ms st K
end
def dZ:List (Nat×OK)->List Nat
 |[]=>[]
 |(t,_)::r=>t::dZ r
def cI:List (Nat×OK)->List Nat
 |[]=>[]
 |(_,.sc k)::r=>bK [k]++cI r
 |(_,.ag ks)::r=>bK ks++cI r
 |(_,.box ks)::r=>bK ks++cI r
 |(_,.mp _)::r=>cI r
 |(_,.pt _ _)::r=>cI r
def minus:List Nat->List Nat->List Nat
 |[],_=>[]
 |k::r,l=>bif bX l k then minus r l else k::minus r l
def xG {R:Type}(ps:List Nat):List aS->(List aS->Option R)->Option R
 |[],K=>K []
 |l::r,K=>(match l with
  | .own g=>bif bX ps g then xG ps r λr=>K (.own g::r) else xG ps r λr=>K (.un::r)
  |l=>xG ps r λr=>K (l::r))
def Pg {R:Type}(ps:List Nat)(s:Slot)(K:Slot->Option R):Option R:=match s with
 | .sc (.own g)=>bif bX ps g then K (.sc (.own g)) else K (.sc .un)
 | .ag cs=>xG ps cs λcs=>K (.ag cs)
 | .box cs=>xG ps cs λcs=>K (.box cs)
 |s=>K s
def nFr {R:Type}(ps:List Nat):Fr->(Fr->Option R)->Option R
 |[],K=>K []
 |(k,s)::r,K=>Pg ps s λs=>nFr ps r λr=>K ((k,s)::r)
def Lv {R:Type}(ks fs qs:List Nat):List (Nat×oS)->(List (Nat×oS)->Option R)->Option R
 |[],K=>K []
 |(k,o)::r,K=>bif bX ks k then Lv ks fs qs r λr=>(bif bX fs k&&!bX qs k then K ((k,⟨o.ty,true,o.xs⟩)::r) else K ((k,o)::r)) else Lv ks fs qs r K
def e8 (c:Ctx):List (Nat×OK)->Bool
 |[]=>true
 |(_,.sc k)::r=>bif je c [k] then e8 c r else false
 |(_,.ag ks)::r=>bif je c ks then e8 c r else false
 |(_,.box ks)::r=>bif je c ks then e8 c r else false
 |(_,.mp _)::r=>e8 c r
 |(_,.pt _ _)::r=>e8 c r
def Sk {R:Type}(c:Ctx)(h:se)(st:St)(K:St->St->Option R):Option R:=match st with
 |⟨p,q,r,m⟩=>
  bif !e8 c h.all||meets (dZ h.all) p||meets (cI h.all) q||meets (dZ h.all) h.df||meets (cI h.all) h.cY then none else
  match app h.df p,app h.cY q with
  |some p',some q'=>
   pick h.df r λrp=>nFr h.cY rp λrp=>pick (dZ h.all) r λro=>
   Lv h.cY h.eT q m λmp=>Lv (cI h.all) h.eT q m λmo=>
   (match app rp ro,app mp mo with
    |some r1,some m1=>K ⟨p',q',r1,m1⟩ ⟨p',q',rp,mp⟩
    |_,_=>none)
  |_,_=>none
def HM {R:Type}(c:Ctx)(h:se)(st:St)(K:St->St->Option R):Option R:=Sk c h st λdA ei=>HH (λt=>bX h.df t||bX (dZ h.all) t) st.fr st.fr dA.fr λfr=>K ⟨dA.df,dA.cY,fr,dA.bk⟩ ei
def EX (st ei:St):St:=match st,ei with|⟨p,q,_,_⟩,⟨_,_,r,m⟩=>⟨p,q,r,m⟩
def guarded:List Oper->Bool
 |[]=>false
 |o::r=>match o.guard with|some _=>true|none=>guarded r
def sm:List Oper->List Nat
 |[]=>[]
 |o::r=>match o.op,o.dst with
  | .alloc _,some d=>d::sm r
  | .box _ _,some d=>d::sm r
  | .makeMap _ _,some d=>d::sm r
  | .range _ _,some d=>d::sm r
  |_,_=>sm r
def EY {R:Type}(ds:List Nat)(st:St)(K:St->Option R):Option R:=match st with|⟨p,q,r,m⟩=>wk ds r λr1=>HH (λt=>!bX ds t) r r r1 λr=>K ⟨p,q,r,m⟩
def gf:Code->Option Nat
 | .region id _ _=>some id
 | .seq a b=>match gf a with|some n=>some n|none=>gf b
 | .cond _ a b=>match gf a with|some n=>some n|none=>gf b
 | .block _ b| .loop b| .scope b=>gf b
 |_=>none
def uni:List Nat->List Nat->List Nat
 |[],l=>l
 |k::r,l=>bif bX l k then uni r l else k::uni r l
def lT:Code->List Nat
 | .skip| .region _ _ _=>[0]
 | .seq a b=>bif bX (lT a) 0 then uni (minus (lT a) [0]) (lT b) else lT a
 | .cond _ a b=>uni (lT a) (lT b)
 | .block id b=>bif bX (lT b) (id+2) then uni (minus (lT b) [0,id+2]) [0] else lT b
 | .loop b=>minus (lT b) [0]
 | .exit id=>[id+2]
 | .ret=>[1]
 |_=>[]
def uz (o:Oper):Bool:=match o.op with
 | .load _ _=>true
 | .lookup _ _ _ false=>true
 |_=>false
def oL (c:Ctx)(o:Oper):Bool:=uz o||(match o.op with
 | .convert y _ _=>isLT c y
 |_=>false)
def acT (o:Oper):Option Nat:=match o.op with
 | .lookup t _ _ false=>some t
 |_=>none
def agY (o:Oper):Option Nat:=match o.op with
 | .mapEntry t _ _=>some t
 |_=>none
def Ch (o p:Oper):Bool:=match acT o,agY p with
 |some t,some t'=>c8 t t'
 |_,_=>false
def uA (o:Oper):Bool:=match o.op with
 | .move _| .assign _| .nilCheck _| .pick _ _ _| .build _ _| .load _ _| .binOp _ _ _ _ _| .unOp _ _ _| .convert _ _ _| .makeFunc _ _ _| .slice _ _ _ _ _| .fieldAddr _ _ _| .field _ _ _| .indexAddr _ _ _| .index _ _ _| .extract _ _| .lookup _ _ _ false=>true
 | .call cl=>(match cl.callee with| .builtin .len| .builtin .min| .builtin .max| .builtin .real| .builtin .imag| .builtin .complex=>true|_=>false)
 |_=>false
def GK (c:Ctx)(o:Oper):Bool:=match o.op with
 | .alloc _| .box _ _| .buildSlice _ _ _| .makeSlice _ _ _=>true
 | .call cl=>(match cl.callee with| .value (.func f)=>!c.fe (c.key f)| .value _=>(match c.dyn with|[]=>true|_::_=>false)|_=>false)
 |_=>false
def Sl:Op->List Operand
 | .build _ ps=>ps.toList.map (·.2)
 | .buildSlice _ _ ps=>ps.toList.map (·.2)
 | .makeFunc _ first captured=>first.toList++captured.toList
 | .slice _ x l h m=>x::(l.toList++(h.toList++m.toList))
 | .call c=>(match c.callee with| .value f=>[f]| .invoke r _=>[r]| .builtin _=>[])++c.args.toList
 |op=>op.operands.toList
def Pj:List Operand->List Nat
 |[]=>[]
 | .tmp t::r=>t::Pj r
 |_::r=>Pj r
def Nd (ops:List Oper)(o:Oper):List Nat:=Pj (Sl o.op)++(match o.guard with|some (g,_)=>(match ops[g]? with|some p=>p.dst.toList|none=>[])|none=>[])
def Nf (ops:List Oper)(x y:Oper):Bool:=(match x.dst with|some d=>!bX (Nd ops y) d&&(match y.dst with|some d'=>!c8 d' d|none=>true)|none=>true)&& (match y.dst with|some d=>!bX (Nd ops x) d|none=>true)
def HN (e:Edge):Bool:=match e.ground with
 | .textOnly _=>false
 | .gcOnly _=>false
 |_=>true
def CC (o:Oper)(p:Nat->Bool):Bool:=o.after.toList.any λe=>HN e&&p e.on
def ajS (ops:List Oper):Bool:=ops.all λo=>match o.op with| .select _ _=>false|_=>true
def YG (c:Ctx)(o:Oper):Bool:=uA o||GK c o
def td (c:Ctx)(ops:List Oper)(o:Oper):List Nat->List Nat->Bool
 |_,[]=>true
 |D,y::r=>match ops[y]? with
  |some p=>bif CC p (bX D) then td c ops o (y::D) r else Nf ops o p&&(!oL c o||YG c p||still c o||Ch o p)&&td c ops o D r
  |none=>false
def Pk (o:Oper):Bool:=match o.op,o.dst,o.guard with
 | .alloc _,some _,none=>o.after.toList.all λe=>!HN e
 |_,_,_=>false
def ajT (c:Ctx)(o:Oper):Bool:=match o.op with
 | .alloc t=>(match c.tv t with|some _=>true|none=>false)
 |_=>false
def ajU (ops:List Oper)(i:Nat):Bool:=match ops[i]? with
 |some o=>Pk o
 |none=>false
def wo (c:Ctx)(ops:List Oper):List Nat->List Nat->Bool
 |_,[]=>true
 |pre,x::rest=>(match ops[x]? with
  |some o=>(o.after.toList.all λe=>!HN e||bX pre e.on)&&!bX pre x&&!bX rest x&& (bif uA o&&!oT c o then td c ops o [x] rest
    else (rest.all λy=>match ops[y]? with
     |some p=>bif Pk p then Nf ops p o&&ajT c p else CC p (λi=>c8 i x||(bX rest i&&!ajU ops i))
     |none=>false))&&wo c ops (x::pre) rest
  |none=>false)
def CD (c:Ctx)(ops:Array Oper)(ord:List Nat):Bool:=ajS ops.toList&&c8 ord.length ops.toList.length&&(List.range ops.toList.length).all (bX ord)&&wo c ops.toList [] ord
def Hh {R:Type}(c:Ctx)(id:Nat)(ops l:List Oper)(st:St)(K:St->Option R):Option R:=bif guarded ops then
  HM c (c.HI id) st λdA ei=>bd (EY (sm ops) dA λdA=>BZ c ops l dA λst=>om st [] ((c.HI id).ex 0) some) λvs=>oo (EX st ei) ((c.HI id).ex 0) vs K
 else EY (sm ops) st λst=>BZ c ops l st K
def qy (ops:List Oper):List Nat->Option (List Oper)
 |[]=>some []
 |i::r=>match ops[i]?,qy ops r with
  |some o,some l=>some (o::l)
  |_,_=>none
def nr {S:Type}(step:S->MV->Option (Bool×S)):S->List MV->Option (List MV×S)
 |s,[]=>some ([],s)
 |s,x::xs=>match step s x with
  |some (b,s1)=>(match nr step s1 xs with|some (ys,s2)=>some (bif b then ys else x::ys,s2)|none=>none)
  |none=>none
def YH (g:Nat->List MV->Option MV)(k:Nat)(cE:List MV):Unit->MV->Option (Bool×Unit):=λ_ x=>match g k (x::cE) with
 |some (.b b)=>some (b,())
 |_=>none
def Lw (g:Nat->List MV->Option MV)(k:Nat)(cE:List MV):List MV->MV->Option (Bool×List MV):=λls x=>match g k (x::(cE++[.cell (.func 0 ls)])) with
 |some (.e9 (.b b) outs)=>some (b,outs)
 |_=>none
def Sn:MV->Bool
 | .agg _=>true
 |_=>false
def YI {R:Type}(c:Ctx)(h f:Nat)(cE:List Operand)(x:Operand)(o1 o2:Oper)(st:St)(K:St->Option R):Option R:=
 let fin (ys:List MV) (st:St):Option R:=lR st (o2.dst.getD 0) ⟨c.sf (c.key h),false,ys⟩ λst=>bY c st o2.dst (.sc (.own (o2.dst.getD 0))) λst=>bY c st o1.dst (.sc .un) K;match c.sig (c.key f) with
 |none=>bif c.fe (c.key f) then none else Di c st cE λms st=>Dj c (c.key h) st (bw c st x) λm st=>gF m λxs=>bU (xs.all Sn)<|bd (nr (YH c.g (c.key f) ms) () xs) λp=>fin p.1 st
 |some sg=>Di c st cE.dropLast λms st=>Dj c (c.key h) st (bw c st x) λm st=>gF m λxs=>bU (xs.all Sn)<| (match cE.getLast? with
  |some y=>(match bw c st y with
   | .ptr root 0=>(match av st.fr root with
    | .box cs=>bif fT cs||bX st.df root||!je c sg.2||!c8 sg.1 (ms.length+1)||!c.fe (c.key f) then none else
     kh st [] sg.2 cs λls ps=>bd (nr (Lw c.g (c.key f) ms) ls xs) λp=>Lu st root sg.2 ps p.2 λst=>fin p.1 st
    |_=>none)
   |_=>none)
  |none=>none)
def Dk (c:Ctx):List Oper->List Oper->Option (List Oper×Nat×List Operand×Nat×Operand×Oper×Oper×List Oper)
 |pre,o1::o2::r=>match o1.op,o2.op with
  | .makeFunc (.func f) first cE,.call cl=>(match cl.callee,cl.args.toList,first.toList,o1.dst with
   | .value (.func h),[.tmp x,.tmp y],[],some d=>bif c.M7 h&&c8 y d&&!c8 x d&&!aaK c.n d&&!c8 (o2.dst.getD d) d then some (pre.reverse,f,cE.toList,h,.tmp x,o1,o2,r) else Dk c (o1::pre) (o2::r)
   |_,_,_,_=>Dk c (o1::pre) (o2::r))
  |_,_=>Dk c (o1::pre) (o2::r)
 |_,_=>none
def HO:List Oper->Bool
 |[]=>true
 |o::r=>(match o.guard with|none=>HO r|some _=>false)
def YJ {R:Type}(c:Ctx)(id:Nat)(ops:List Oper)(st:St)(K:St->Option R):Option R:=match Dk c [] ops with
 |some (pre,f,cE,h,x,o1,o2,post)=>bif HO ops then EY (sm ops) st λst=>BZ c ops pre st λst=>YI c h f cE x o1 o2 st λst=>BZ c ops post st K else none
 |none=>Hh c id ops ops st K
def fzK {R:Type}(c:Ctx)(ts:List Nat)(st:St)(K:St->Option R):Option R:=match ts with
 |[]=>K st
 |ts=>Di c st (ts.map .tmp) λ_ st=>K st
def KG (ops:Array Oper)(A B:Nat):Array Oper:=ops.modify B λo=>{o with after:=o.after.push ⟨A,.data⟩}
open Classical in
def both {R:Type}(x y:Option R):Option R:=if x=y then x else none
def YK (n:Nat)(l:List Nat):Option (List Nat×List Nat×Nat×Nat):=match l.drop (l.length-2) with
 |[A,B]=>bif c8 A B||(aaK n A||aaK n B) then none else some (l.take n,(l.drop n).take (l.length-2-n),A,B)
 |_=>none
def UB {R:Type}(c:Ctx)(ops:Array Oper)(l:List Nat)(st:St)(K:St->Option R):Option R:=bif CD c ops l then (match qy ops.toList l with
 |some l=>BZ c ops.toList l st K
 |none=>none) else none
def Pl {R:Type}(c:Ctx)(st:St)(K:St->Option R):Nat->Array Oper->List Nat->Option R
 |0,_,_=>none
 |k+1,ops,l=>bif c8 l.length ops.toList.length then UB c ops l st K else (match YK ops.toList.length l with
  |some (o1,o2,A,B)=>both (UB c (KG ops A B) o1 st K) (Pl c st K k (KG ops B A) o2)
  |none=>none)
def ajV {R:Type}(c:Ctx)(ops:Array Oper)(ord:List Nat)(st:St)(K:St->Option R):Option R:=bif guarded ops.toList then none else EY (sm ops.toList) st λst=>Pl c st K ord.length ops ord
def UC {R:Type}(c:Ctx)(id:Nat)(ops:Array Oper)(draw:Bool)(st:St)(K:St->Option R):Option R:=fzK c (c.fz id) st λst=>bif draw then (bif !c8 (c.ord id).length ops.toList.length then ajV c ops (c.ord id) st K else bif CD c ops (c.ord id) then (match qy ops.toList (c.ord id) with|some l=>Hh c id ops.toList l st K|none=>none) else none)
 else YJ c id ops.toList st K
def pR (c:Ctx):Code->(R:Type)->St->(Nat->St->Option R)->Option R
 | .skip,_,st,K=>K 0 st
 | .region id ops d,_,st,K=>UC c id ops d st λst=>K 0 st
 | .seq a b,R,st,K=>pR c a R st λe st=>bif c8 e 0 then pR c b R st K else K e st
 | .cond x a b,R,st,K=>(match bw c st x with
  | .sc (.p (.b v))=>
   bif bX (lT a) 0&&bX (lT b) 0 then
    HM c (c.Hf ((gf (.seq a b)).getD 0)) st λdA ei=>
    bd (aQ v (pR c a (Nat×List MV) dA λe st=>om st [] ((c.Hf ((gf (.seq a b)).getD 0)).ex e) λvs=>some (e,vs)) (pR c b (Nat×List MV) dA λe st=>om st [] ((c.Hf ((gf (.seq a b)).getD 0)).ex e) λvs=>some (e,vs))) λr=>KD (uni (lT a) (lT b)) r.1 λe=>oo (EX st ei) ((c.Hf ((gf (.seq a b)).getD 0)).ex e) r.2 λst=>K e st
   else aQ v (pR c a R st K) (pR c b R st K)
  |_=>none)
 | .block id b,R,st,K=>pR c b R st λe st=>bif c8 e (id+2) then K 0 st else K e st
 | .loop b,_,st,K=>
  HM c (c.FW ((gf b).getD 0)) st λdA ei=>om dA [] (c.FW ((gf b).getD 0)).outs λvs=>
   bd (Loop (λms=>oo ei (c.FW ((gf b).getD 0)).outs ms λst=>pR c b (Sum (List MV) (Nat×List MV)) st λe st=>
    bif c8 e 0 then om st [] (c.FW ((gf b).getD 0)).outs λvs=>some (.inl vs) else om st [] ((c.FW ((gf b).getD 0)).ex e) λvs=>some (.inr (e,vs))) vs)
    λr=>KD (minus (lT b) [0]) r.1 λe=>oo (EX st ei) ((c.FW ((gf b).getD 0)).ex e) r.2 λst=>K e st
 | .exit id,_,st,K=>K (id+2) st
 | .ret,_,st,K=>K 1 st
 |_,_,_,_=>none
def HP {R:Type}(c:Ctx):List Nat->Nat->List MV->(Fr->List MV->Option R)->Option R
 |[],_,ms,K=>K [] ms
 |t::ts,n,ms,K=>match c.tv t with
  |some I=>gC ms λm r=>FX I m λs=>HP c ts (n+1) r λfr ms=>K ((n,s)::fr) ms
  |none=>none
def So {R:Type}:List (List Kd)->Nat->List MV->(Fr->Option R)->Option R
 |[],_,ms,K=>gN ms (K [])
 |ks::r,n,ms,K=>gC ms λm ms=>gP m λcs=>uM ks cs λcs=>So r (n+1) ms λfr=>K ((n,.zM cs)::fr)
def EZ {R:Type}(c:Ctx)(st:St)(fresh:Option Nat):List ResultVar->(List MV->Option R)->Option R
 |[],K=>K []
 |r::rs,K=>
  let go (s:Slot):Option R:=match fresh with
   |some ty=>(match s with
    | .sc (.own f)=>(match aV st.bk f with|some o=>bif o.eT||!c8 o.ty ty then none else EZ c st fresh rs λms=>K (.fresh o.xs::ms)|none=>none)
    | .sc .nil=>EZ c st fresh rs λms=>K (.fresh []::ms)
    |_=>none)
   |none=>na st s λm st=>EZ c st fresh rs λms=>K (m::ms)
  match r with
  | .tmp t=>go (av st.fr t)
  | .cell a t=>match c.tv t,av st.fr a with
   |some I,.box cs=>bif fT cs||BX a then none else kG I cs 0 λs=>go s
   |_,_=>none
def V8 {R:Type}(c:Ctx)(st:St):List ResultVar->(List MV->St->Option R)->Option R
 |[],K=>K [] st
 |r::rs,K=>(match r with
  | .tmp t=>na st (av st.fr t) λm st=>V8 c st rs λms st=>K (m::ms) st
  | .cell a t=>(match c.tv t,av st.fr a with
   |some I,.box cs=>bif fT cs||BX a then none else kG I cs 0 λs=>na st s λm st=>V8 c st rs λms st=>K (m::ms) st
   |_,_=>none))
def ajW:List MV->MV
 |[m]=>m
 |ms=> .cj ms
def Lx (c:Ctx)(cE:List (List Kd))(pos:Nat)(ks:List LK)(f:Func)(args:List MV):Option MV:=match f.body,args[pos]? with
 |some b,some (.cell (.func off ls))=>bif !je c ks||!aaK pos 999 then none else
  HP c f.params.toList 0 (args.set pos (.rp [])) λfr ms=>So cE f.params.size ms λqd=>
   (match app fr qd with
   |some fr=>dw ⟨[],[],[],[]⟩ ks ls λcs rest Bc=>gN rest<| pR c b MV ⟨[pos],[],(1000000+off *1000+pos,.box cs)::fr,Bc.bk⟩ λe st=>
     bif aaK e 1 then V8 c st f.results.toList λms st=>(match av st.fr (1000000+off *1000+pos) with
      | .box cs=>bif fT cs then none else kh st [] ks cs λouts _=>some (.e9 (ajW ms) outs)
      |_=>none) else none
   |none=>none)
 |_,_=>none
def HQ (c:Ctx)(cE:List (List Kd))(fresh:Option Nat)(f:Func)(args:List MV):Option MV:=match f.body with
 |some b=>HP c f.params.toList 0 args λfr ms=>So cE f.params.size ms λqd=>
  match app fr qd with
  |some fr=>pR c b MV ⟨[],[],fr,[]⟩ λe st=>bif aaK e 1 then EZ c st fresh f.results.toList λms=>(match ms with|[m]=>some m|ms=>some (.cj ms)) else none
  |none=>none
 |none=>none
end
end Dn
/-
  What abstract values and slots say of Go's memory. Conditions: none.
-/
namespace Dn
open Go
theorem nK (w:World)(o:Obj):(w.alloc o).heap[w.heap.size]? =some o:=by show (w.heap.push o)[w.heap.size]? =some o;simp
theorem Bd (w:World)(o:Obj)(i:Nat)(h:i<w.heap.size):(w.alloc o).heap[i]? =w.heap[i]? :=by show (w.heap.push o)[i]? =w.heap[i]?;rw [Array.getElem?_push,if_neg (Nat.ne_of_lt h)]
def MV.one:MV->Bool
 | .h _| .agg _| .cj _| .fresh _| .cell _| .e9 _ _=>false
 |_=>true
abbrev Ph:=Nat->Nat->Option Value
section
variable (key:Nat->Nat) (φ:Ph)
mutual
inductive nn:List Value->MV->Prop
 |b (x:Bool):nn [.bool x] (.b x)
 |i (k:IntKind) (n:Int):nn [.int k n] (.i k n)
 |s (bs:ByteArray):nn [.string bs] (.s bs.data.toList)
 |h (x:lQ):nn (x.l.map λb=> .int .u8 (b.toNat:Int)) (.h x)
 |raw (v:Value):v.oneCell'=true->nn [v] (.raw v)
 |list (a:Option Addr) (cap:Nat) (xs:List MV) (bB off OZ:Nat) (f:Nat->List Value): xs.length<=cap->(0<xs.length->a=some ⟨bB,off,none⟩)->(∀i,i<xs.length->(f i).length=OZ)-> (∀i j,i<xs.length->j<OZ->φ bB (off+i *OZ+j)=(f i)[j]?)-> (∀(i:Nat) (h:i<xs.length),nn (f i) xs[i])->nn [.slice a xs.length cap] (.list xs)
 |agg (vs:List Value) (ms:List MV):jj vs ms->nn vs (.agg ms)
 |func (f k:Nat) (cap:Array Value) (ms:List MV):key f=k->jj cap.toList ms->(∀m∈ms,m.one=true)->nn [.func (.func f) #[] cap] (.func k ms)
 |rp (bB off:Nat) (vs:List Value) (ms:List MV):jj vs ms->(∀j,j<vs.length->φ bB (off+j)=vs[j]?)->nn [.pointer (some ⟨bB,off,none⟩)] (.rp ms)
inductive jj:List Value->List MV->Prop
 |nil:jj [] []
 |cons (v:List Value) (m:MV) (vs:List Value) (ms:List MV):nn v m->jj vs ms->jj (v++vs) (m::ms)
end
end
def sn (φ φ':Ph):Prop:= ∀b o v,φ b o=some v->φ' b o=some v
theorem sn.refl (φ:Ph):sn φ φ:=λ_ _ _ h=>h
theorem sn.Be {φ φ':Ph}(h:sn φ φ'){b j:Nat}{cs:List Value}(e:φ b j=cs[j]?)(hj:j<cs.length):φ' b j=cs[j]? :=by rw [By hj] at e⊢;exact h _ _ _ e
theorem sn.trans {φ φ' φ'':Ph}(h:sn φ φ') (h':sn φ' φ''):sn φ φ'':=λb o v e=>h' b o v (h b o v e)
section
variable {key:Nat->Nat} {φ φ':Ph}(hle:sn φ φ')
include hle
theorem Ng {b o:Nat}{vs:List Value}{j:Nat}(hj:j<vs.length)(h:φ b o=vs[j]?):φ' b o=vs[j]? :=by rw [By hj] at h⊢;exact hle _ _ _ h
mutual
theorem nn.mono {vs:List Value}{m:MV}:nn key φ vs m->nn key φ' vs m
 | .b x=> .b x
 | .i k n=> .i k n
 | .s bs=> .s bs
 | .h x=> .h x
 | .raw v h=> .raw v h
 | .list a cap xs bB off OZ f h1 h2 h3 h4 h5=> .list a cap xs bB off OZ f h1 h2 h3 (λi j hi hj=>Ng hle (by rw [h3 i hi];exact hj) (h4 i j hi hj)) (λi hi=>(h5 i hi).mono)
 | .agg vs ms h=> .agg vs ms h.mono
 | .func f k cap ms h1 h2 h3=> .func f k cap ms h1 h2.mono h3
 | .rp bB off vs ms h1 h2=> .rp bB off vs ms h1.mono (λj hj=>Ng hle hj (h2 j hj))
theorem jj.mono {vs:List Value}{ms:List MV}:jj key φ vs ms->jj key φ' vs ms
 | .nil=> .nil
 | .cons v m vs ms h1 h2=> .cons v m vs ms h1.mono h2.mono
end
end
section
variable {key:Nat->Nat} {φ:Ph}
mutual
theorem nn.cells {vs:List Value}{m:MV}:nn key φ vs m-> ∀v∈vs,v.oneCell'=true
 | .b x=>by simp [aaa]
 | .i k n=>by simp [aaa]
 | .s bs=>by simp [aaa]
 | .h x=>by intro v hv;obtain ⟨b,_,rfl⟩:=adz.1 hv;rfl
 | .raw v h=>by simpa using h
 | .list .. =>by simp [aaa]
 | .agg vs ms h=>h.cells
 | .func .. =>by simp [aaa]
 | .rp .. =>by simp [aaa]
theorem jj.cells {vs:List Value}{ms:List MV}:jj key φ vs ms-> ∀v∈vs,v.oneCell'=true
 | .nil=>by simp
 | .cons v m vs ms h1 h2=>by
  intro x hx;rcases adP.1 hx with hx|hx
  ·exact h1.cells x hx
  ·exact h2.cells x hx
end
end
section
variable {key:Nat->Nat} {φ:Ph}
mutual
theorem nn.width {vs:List Value}{m:MV}:nn key φ vs m->vs.length=m.w
 | .b x=>by simp [MV.w]
 | .i k n=>by simp [MV.w]
 | .s bs=>by simp [MV.w]
 | .h x=>by simp [MV.w,x.h]
 | .raw v h=>by simp [MV.w]
 | .list .. =>by simp [MV.w]
 | .agg vs ms h=>by rw [h.width];simp [MV.w]
 | .func .. =>by simp [MV.w]
 | .rp .. =>by simp [MV.w]
theorem jj.width {vs:List Value}{ms:List MV}:jj key φ vs ms->vs.length=MV.wl ms
 | .nil=>by simp [MV.wl]
 | .cons v m vs ms h1 h2=>by simp [MV.wl,h1.width,h2.width]
end
end
theorem nn.one {key:Nat->Nat} {φ:Ph}{vs:List Value}{m:MV}(h:nn key φ vs m)(hm:m.one=true): ∃v,vs=[v]/\v.oneCell'=true:=by have hc:=h.cells;cases h<;>simp [MV.one] at hm<;>exact ⟨_,rfl,hc _ (by simp)⟩
def gh (key:Nat->Nat) (φ:Ph)(v:Value):MV->Prop
 | .h x=>v= .agg (x.l.map λb=>aeD .u8 (b.toNat:Int)).toArray
 | .agg ms=> ∃arr,v= .agg arr/\jj key φ arr.toList ms
 |m=>m.one=true/\nn key φ [v] m
theorem gh.mono {key:Nat->Nat} {φ φ':Ph}(hle:sn φ φ'){v:Value}{m:MV}(h:gh key φ v m):gh key φ' v m:=by cases m<;>simp only [gh] at h⊢ <;>first|exact h|exact ⟨h.1,h.2.mono hle⟩|(obtain ⟨arr,h1,h2⟩:=h;exact ⟨arr,h1,h2.mono hle⟩)
structure Env where
 key:Nat->Nat
 φ:Ph
 E:Nat->Value
 B:Nat->Nat
 m:List (Nat×oS)
def bT (x:lQ):List Value:=x.l.map λb=>aeD .u8 (b.toNat:Int)
theorem dJ (x:lQ):(bT x).length=32:=by simp [bT,x.h]
def bp (e:Env)(vs:List Value):aS->Prop
 | .un=> ∃v,vs=[v]/\v.oneCell'=true
 | .p x=>x.one=true/\nn e.key e.φ vs x
 | .hs x=>vs=bT x
 | .nil=>vs=[.slice none 0 0]
 | .mp _ _=>False
 | .own f=> ∃v,vs=[v]/\v.oneCell'=true/\(∀o,aV e.m f=some o->v=e.E f)
def aJ (e:Env):List Value->List aS->Prop
 |vs,[]=>vs=[]
 |vs,l::ls=> ∃v r,vs=v++r/\bp e v l/\aJ e r ls
def uN:aS->Bool
 | .p _| .hs _=>true
 |_=>false
def jS:List aS->Bool
 |[]=>true
 |l::r=>uN l&&jS r
def HR (st:Bool)(x:MV)(cs:List aS):Prop:=(∃ms,ea cs=some ms/\Dh st ms=some x)/\ ∀m,aS.p m∈cs->m.one=true
def Dl:Slot->Bool
 | .sc l=>uN l
 | .ag cs=>jS cs
 |_=>false
mutual
def ah (e:Env)(v:Value):Slot->Prop
 | .skip=>v=undef
 | .sc l=>match l with
  | .un=>True
  | .hs x=>v= .agg (bT x).toArray
  |l=>bp e [v] l
 | .ag cs=> ∃arr,v= .agg arr/\aJ e arr.toList cs
 | .cj vs=> ∃arr,v= .tuple arr/\kH e arr.toList vs
 | .box _=>False
 | .zM cs=> ∃bB o vs,v= .pointer (some ⟨bB,o,none⟩)/\aJ e vs cs/\jS cs=true/\(∀j,j<vs.length->e.φ bB (o+j)=vs[j]?)
 | .ptr r o=>v= .pointer (some ⟨e.B r,o,none⟩)
 | .zN r=>v= .map (some (e.B r))
 | .rp cs off=> ∃bB o vs,v= .pointer (some ⟨bB,o+off,none⟩)/\aJ e vs cs/\jS cs=true/\(∀j,j<vs.length->e.φ bB (o+j)=vs[j]?)
 | .hp r o i=>v= .pointer (some ⟨e.B r,o+i,none⟩)/\i<32
 | .ep f i off st cs=> ∀o,aV e.m f=some o-> ∃bB cap,e.E f= .slice (some ⟨bB,0,none⟩) o.xs.length cap/\(∃x,o.xs[i]? =some x/\HR st x cs)/\ v= .pointer (some ⟨bB,i *zO cs+off,none⟩)
def kH (e:Env):List Value->List Slot->Prop
 |vs,[]=>vs=[]
 |vs,s::ss=> ∃v r,vs=v::r/\ah e v s/\Dl s=true/\kH e r ss
end
def YL:aS->List Value->Bool
 | .p (.b x),[.bool y]=>x==y
 | .p (.i k n),[.int k' n']=>decide (k=k')&&decide (n=n')
 | .p (.s l),[.string s]=>decide (l=s.data.toList)
 | .p (.raw v),[w]=>match v,w with
  | .nilFunc,.nilFunc=>true
  | .nilIface,.nilIface=>true
  | .pointer none,.pointer none=>true
  |_,_=>false
 | .nil,[.slice none 0 0]=>true
 | .un,[v]=>v.oneCell'
 | .hs x,vs=>(vs.length==32)&&(vs.zip x.l).all λp=>match p.1 with| .int .u8 n=>decide (n=(p.2.toNat:Int))|_=>false
 |_,_=>false
def uO:List aS->List Value->Bool
 |[],vs=>vs.isEmpty
 |l::ls,vs=>YL l (vs.take l.w)&&uO ls (vs.drop l.w)&&decide (l.w<=vs.length)
end Dn
/-
  How an abstract state stands to a frame and a memory; laws of frames and leaves. Conditions: none.
-/
namespace Dn
open Go
def cM:Fr->Nat->Slot->Fr
 |[],t,v=>[(t,v)]
 |(k,s)::r,t,v=>bif c8 k t then (k,v)::r else (k,s)::cM r t v
def cH (ds:List Nat):Fr->Fr
 |[]=>[]
 |(k,s)::r=>bif dW s||bX ds k then cH ds r else (k,s)::cH ds r
def oU (ks:List Nat):Fr->Fr
 |[]=>[]
 |(k,s)::r=>bif bX ks k&&!dW s then (k,s)::oU ks r else oU ks r
def cw:List (Nat×oS)->Nat->oS->List (Nat×oS)
 |[],t,v=>[(t,v)]
 |(k,s)::r,t,v=>bif c8 k t then (k,v)::r else (k,s)::cw r t v
def O0 (f:Nat):aS->aS
 | .own g=>bif c8 g f then .un else .own g
 |l=>l
def Ci (f:Nat):Slot->Slot
 | .sc l=> .sc (O0 f l)
 | .ag cs=> .ag (cs.map (O0 f))
 | .box cs=> .box (cs.map (O0 f))
 | .ep g i o b cs=>bif c8 g f then .sc .un else .ep g i o b cs
 |s=>s
def lM (f:Nat)(r:Fr):Fr:=r.map λp=>(p.1,Ci f p.2)
def zR (f:Nat)(r:Fr):Fr:=r.map λp=>(p.1,match p.2 with
 | .ep g i o b cs=>bif c8 g f then .sc .un else .ep g i o b cs
 |s=>s)
def Sp (ps:List Nat):aS->aS
 | .own g=>bif bX ps g then .own g else .un
 |l=>l
def Kx (ps:List Nat):Slot->Slot
 | .sc l=> .sc (Sp ps l)
 | .ag cs=> .ag (cs.map (Sp ps))
 | .box cs=> .box (cs.map (Sp ps))
 |s=>s
def Sq (ps:List Nat)(r:Fr):Fr:=r.map λp=>(p.1,Kx ps p.2)
def te (ks fs qs:List Nat):List (Nat×oS)->List (Nat×oS)
 |[]=>[]
 |(k,o)::r=>bif bX ks k then (bif bX fs k&&!bX qs k then (k,⟨o.ty,true,o.xs⟩) else (k,o))::te ks fs qs r else te ks fs qs r
section
variable {R:Type}
theorem force_eq (s:Slot)(K:Slot->Option R):force s K=K s:=by cases s<;>rfl
theorem nL (r:Fr)(t:Nat)(s:Slot)(K:Fr->Option R):KE r t s K=K (cM r t s):=by
 induction r generalizing K with
 |nil=>rfl
 |cons p r ih=>obtain ⟨k,x⟩:=p;simp only [KE,cM];cases c8 k t<;>simp [ih]
theorem FY (ds:List Nat)(r:Fr)(K:Fr->Option R):wk ds r K=K (cH ds r):=by
 induction r generalizing K with
 |nil=>rfl
 |cons p r ih=>obtain ⟨k,x⟩:=p;simp only [wk,cH];cases dW x||bX ds k<;>simp [ih]
theorem acU (ks:List Nat)(r:Fr)(K:Fr->Option R):pick ks r K=K (oU ks r):=by
 induction r generalizing K with
 |nil=>rfl
 |cons p r ih=>obtain ⟨k,x⟩:=p;simp only [pick,oU];cases bX ks k&&!dW x<;>simp [ih]
theorem oV (r:List (Nat×oS))(t:Nat)(s:oS)(K:List (Nat×oS)->Option R):Se r t s K=K (cw r t s):=by
 induction r generalizing K with
 |nil=>rfl
 |cons p r ih=>obtain ⟨k,x⟩:=p;simp only [Se,cw];cases c8 k t<;>simp [ih]
theorem HS (f:Nat)(cs:List aS)(K:List aS->Option R):xD f cs K=K (cs.map (O0 f)):=by
 induction cs generalizing K with
 |nil=>rfl
 |cons l r ih=>cases l<;>simp only [xD,IT,O0,ih];rename_i g;cases c8 g f<;>rfl
theorem YM (f:Nat)(s:Slot)(K:Slot->Option R):Ls f s K=K (Ci f s):=by
 cases s with
 |sc l=>cases l<;>simp only [Ls,Ci,O0];rename_i g;cases c8 g f<;>rfl
 |ag cs=>simp only [Ls,Ci,HS]
 |box cs=>simp only [Ls,Ci,HS]
 |ep g i o b cs=>simp only [Ls,Ci];cases c8 g f<;>rfl
 |_=>rfl
theorem YN (f:Nat)(r:Fr)(K:Fr->Option R):kFr f r K=K (lM f r):=by
 induction r generalizing K with
 |nil=>rfl
 |cons p r ih=>obtain ⟨k,x⟩:=p;simp only [kFr,YM,ih,lM,IT]
theorem agZ (f:Nat)(r:Fr)(K:Fr->Option R):kEp f r K=K (zR f r):=by
 induction r generalizing K with
 |nil=>rfl
 |cons p r ih=>obtain ⟨k,x⟩:=p;cases x<;>simp only [kEp,ih,zR,IT];rename_i g i o b cs;cases c8 g f<;>rfl
theorem HT (f:List Nat)(cs:List aS)(K:List aS->Option R):xG f cs K=K (cs.map (Sp f)):=by
 induction cs generalizing K with
 |nil=>rfl
 |cons l r ih=>cases l<;>simp only [xG,IT,Sp,ih];rename_i g;cases bX f g<;>rfl
theorem YO (f:List Nat)(s:Slot)(K:Slot->Option R):Pg f s K=K (Kx f s):=by
 cases s with
 |sc l=>cases l<;>simp only [Pg,Kx,Sp];rename_i g;cases bX f g<;>rfl
 |ag cs=>simp only [Pg,Kx,HT]
 |box cs=>simp only [Pg,Kx,HT]
 |_=>rfl
theorem ag0 (f:List Nat)(r:Fr)(K:Fr->Option R):nFr f r K=K (Sq f r):=by
 induction r generalizing K with
 |nil=>rfl
 |cons p r ih=>obtain ⟨k,x⟩:=p;simp only [nFr,YO,ih,Sq,IT]
theorem YP (ks fs qs:List Nat)(r:List (Nat×oS))(K:List (Nat×oS)->Option R):Lv ks fs qs r K=K (te ks fs qs r):=by
 induction r generalizing K with
 |nil=>rfl
 |cons p r ih=>
  obtain ⟨k,x⟩:=p;simp only [Lv,te];cases bX ks k
  ·simp [ih]
  ·simp only [cond_true,ih];cases bX fs k&&!bX qs k<;>rfl
theorem xH {α:Type}(x y:List α):app x y=some (x++y):=by
 induction x with
 |nil=>rfl
 |cons a r ih=>simp [app,ih]
end
theorem gj (a b:Nat):c8 a b=decide (a=b):=by
 by_cases h:a=b
 ·subst h;simp
 ·simp only [h,decide_false];exact Bool.eq_false_iff.2 (λe=>h (sh e))
theorem b8 (l:List Nat)(t:Nat):bX l t=true↔t∈l:=by
 induction l with
 |nil=>simp [bX]
 |cons k r ih=>
  simp only [bX,gj,aaH];by_cases h:k=t
  ·simp [h]
  ·simp only [h,decide_false,cond_false,ih];exact ⟨.inr,λh'=>h'.resolve_left (λe=>h e.symm)⟩
theorem cr (r:Fr)(d t:Nat)(s:Slot):av (cM r d s) t=if t=d then s else av r t:=by
 induction r with
 |nil=>simp only [cM,av,gj];by_cases h:t=d<;>simp [h,Ne.symm]<;>(intro e;exact absurd e.symm h)
 |cons p r ih=>
  obtain ⟨k,x⟩:=p;simp only [cM,gj];by_cases hk:k=d
  ·subst hk;simp only [decide_true,cond_true,av,gj];by_cases h:k=t
   ·simp [h]
   ·have h': ¬t=k:=λe=>h e.symm;simp [h,h']
  ·simp only [hk,decide_false,cond_false,av,gj,ih];by_cases h:k=t
   ·subst h;simp [hk]
   ·simp [h]
theorem bG (r:List (Nat×oS))(d t:Nat)(s:oS):aV (cw r d s) t=if t=d then some s else aV r t:=by
 induction r with
 |nil=>simp only [cw,aV,gj];by_cases h:t=d<;>simp [h,Ne.symm]<;>(intro e;exact absurd e.symm h)
 |cons p r ih=>
  obtain ⟨k,x⟩:=p;simp only [cw,gj];by_cases hk:k=d
  ·subst hk;simp only [decide_true,cond_true,aV,gj];by_cases h:k=t
   ·simp [h]
   ·have h': ¬t=k:=λe=>h e.symm;simp [h,h']
  ·simp only [hk,decide_false,cond_false,aV,gj,ih];by_cases h:k=t
   ·subst h;simp [hk]
   ·simp [h]
theorem HU (g:Slot->Slot)(hg:g (.sc .un)= .sc .un)(r:Fr)(t:Nat):av (r.map λp=>(p.1,g p.2)) t=g (av r t):=by
 induction r with
 |nil=>simp [av,hg]
 |cons p r ih=>obtain ⟨k,x⟩:=p;simp only [IT,av,gj];by_cases h:k=t<;>simp [h,ih]
theorem iK (f:Nat)(r:Fr)(t:Nat):av (lM f r) t=Ci f (av r t):=HU (Ci f) rfl r t
theorem Ly (f:List Nat)(r:Fr)(t:Nat):av (Sq f r) t=Kx f (av r t):=HU (Kx f) rfl r t
def bg (r:Fr):List Nat:=r.map Prod.fst
theorem sU (r:Fr)(t:Nat)(h:t∉bg r):av r t= .sc .un:=by
 induction r with
 |nil=>rfl
 |cons p r ih=>obtain ⟨k,x⟩:=p;simp only [bg,IT,aaH,not_or] at h;have h': ¬k=t:=λe=>h.1 e.symm;simp only [av,gj,h',decide_false,cond_false];exact ih h.2
theorem Dm (ds:List Nat)(r:Fr):List.Sublist (bg (cH ds r)) (bg r):=by
 induction r with
 |nil=>simp [bg,cH]
 |cons p r ih=>
  obtain ⟨k,x⟩:=p;simp only [cH];cases dW x||bX ds k
  ·simpa [bg] using ih
  ·exact (List.Sublist.cons _ ih)
theorem xI (ds:List Nat)(r:Fr):List.Sublist (bg (oU ds r)) (bg r):=by
 induction r with
 |nil=>simp [bg,oU]
 |cons p r ih=>
  obtain ⟨k,x⟩:=p;simp only [oU];cases bX ds k&&!dW x
  ·exact (List.Sublist.cons _ ih)
  ·simpa [bg] using ih
theorem HV (ds:List Nat)(r:Fr)(hn:(bg r).Nodup)(t:Nat):av (cH ds r) t=if dW (av r t)||bX ds t then .sc .un else av r t:=by
 induction r with
 |nil=>simp [av,cH]
 |cons p r ih=>
  obtain ⟨k,x⟩:=p;simp only [bg,IT,aeI] at hn;have ih:=ih hn.2;simp only [cH];by_cases hk:k=t
  ·subst hk;cases hb:dW x||bX ds k
   ·simp [av,gj,hb]
   ·simp only [cond_true,av,gj,decide_true,hb,if_true];refine sU _ _ (λhm=>hn.1 ((Dm ds r).subset hm))
  ·cases hb:dW x||bX ds k
   ·simp [av,gj,hk,ih]
   ·simp [av,gj,hk,ih]
theorem CE (ds:List Nat)(r:Fr)(hn:(bg r).Nodup)(t:Nat):av (oU ds r) t=if bX ds t&&!dW (av r t) then av r t else .sc .un:=by
 induction r with
 |nil=>simp [av,oU]
 |cons p r ih=>
  obtain ⟨k,x⟩:=p;simp only [bg,IT,aeI] at hn;have ih:=ih hn.2;simp only [oU];by_cases hk:k=t
  ·subst hk;cases hb:bX ds k&&!dW x
   ·simp only [cond_false,av,gj,decide_true,cond_true,hb];exact sU _ _ (λhm=>hn.1 ((xI ds r).subset hm))
   ·simp [av,gj,hb]
  ·cases hb:bX ds k&&!dW x<;>simp [av,gj,hk,ih]
theorem zS (r s:Fr)(t:Nat):av (r++s) t=if t∈bg r then av r t else av s t:=by
 induction r with
 |nil=>simp [bg]
 |cons p r ih=>
  obtain ⟨k,x⟩:=p;simp only [List.cons_append,av,gj,bg,IT,aaH];by_cases h:k=t
  ·simp [h]
  ·have h': ¬t=k:=λe=>h e.symm;simp only [h,h',decide_false,cond_false,ih,false_or];rfl
end Dn
/-
  Laws of leaves and slots: offsets, and what changes elsewhere. Conditions: none.
-/
namespace Dn
open Go
section
variable {e e':Env}
theorem bp.width {vs:List Value}{l:aS}(h:bp e vs l):vs.length=l.w:=by
 cases l with
 |un=>obtain ⟨v,rfl,_⟩:=h;rfl
 |p m=>obtain ⟨v,rfl,_⟩:=h.2.one h.1;rfl
 |hs x=>cases h;simp [bT,x.h,aS.w]
 |nil=>cases h;rfl
 |mp s es=>exact h.elim
 |own f=>obtain ⟨v,rfl,_⟩:=h;rfl
theorem bp.cells {vs:List Value}{l:aS}(h:bp e vs l): ∀v∈vs,v.oneCell'=true:=by
 cases l with
 |un=>obtain ⟨v,rfl,hv⟩:=h;simpa using hv
 |p m=>exact h.2.cells
 |hs x=>cases h;intro v hv;obtain ⟨b,_,rfl⟩:=adz.1 hv;rfl
 |nil=>cases h;simp [aaa]
 |mp s es=>exact h.elim
 |own f=>obtain ⟨v,rfl,hv,_⟩:=h;simpa using hv
theorem aJ.width {cs:List aS}: ∀{vs:List Value},aJ e vs cs->vs.length=zO cs:=by
 induction cs with
 |nil=>intro vs h;cases h;rfl
 |cons l r ih=>intro vs h;obtain ⟨v,w,rfl,h1,h2⟩:=h;simp [zO,h1.width,ih h2]
theorem aJ.cells {cs:List aS}: ∀{vs:List Value},aJ e vs cs-> ∀v∈vs,v.oneCell'=true:=by
 induction cs with
 |nil=>intro vs h;cases h;simp
 |cons l r ih=>
  intro vs h v hv;obtain ⟨a,w,rfl,h1,h2⟩:=h;rcases adP.1 hv with hv|hv
  ·exact h1.cells v hv
  ·exact ih h2 v hv
theorem aJ.append {cs ds:List aS}: ∀{vs ws:List Value},aJ e vs cs->aJ e ws ds->aJ e (vs++ws) (cs++ds):=by
 induction cs with
 |nil=>intro vs ws h h';cases h;simpa using h'
 |cons l r ih=>intro vs ws h h';obtain ⟨v,w,rfl,h1,h2⟩:=h;exact ⟨v,w++ws,by simp,h1,ih h2 h'⟩
theorem zT {cs:List aS}: ∀{off:Nat}{ds:List aS}{vs:List Value},cut cs off=some ds->aJ e vs cs-> ∃v1 v2,vs=v1++v2/\v1.length=off/\aJ e v2 ds:=by
 induction cs with
 |nil=>
  intro off ds vs h hr;cases off with
  |zero=>simp only [cut,AT] at h;subst h;exact ⟨[],vs,rfl,rfl,hr⟩
  |succ n=>simp [cut] at h
 |cons l r ih=>
  intro off ds vs h hr;cases off with
  |zero=>simp only [cut,AT] at h;subst h;exact ⟨[],vs,rfl,rfl,hr⟩
  |succ n=>
   simp only [cut] at h;cases hb:aaK l.w (n+1) with
   |false=>simp [hb] at h
   |true=>simp only [hb,cond_true] at h;have hle:=abc hb;obtain ⟨v,w,rfl,h1,h2⟩:=hr;obtain ⟨v1,v2,rfl,hl,h3⟩:=ih h h2;exact ⟨v++v1,v2,by simp,by simp [h1.width,hl];omega,h3⟩
theorem V9 {cs:List aS}: ∀{n:Nat}{ds:List aS}{vs:List Value},O9 cs n=some ds->aJ e vs cs-> ∃v1 v2,vs=v1++v2/\v1.length=n/\aJ e v1 ds:=by
 induction cs with
 |nil=>
  intro n ds vs h hr;cases n with
  |zero=>simp only [O9,AT] at h;subst h;exact ⟨[],vs,rfl,rfl,rfl⟩
  |succ n=>simp [O9] at h
 |cons l r ih=>
  intro n ds vs h hr;cases n with
  |zero=>simp only [O9,AT] at h;subst h;exact ⟨[],vs,rfl,rfl,rfl⟩
  |succ n=>
   simp only [O9] at h;cases hb:aaK l.w (n+1) with
   |false=>simp [hb] at h
   |true=>
    simp only [hb,cond_true] at h;have hle:=abc hb;obtain ⟨v,w,rfl,h1,h2⟩:=hr;cases hu:O9 r (n+1-l.w) with
    |none=>simp [hu] at h
    |some b=>simp only [hu,AT] at h;subst h;obtain ⟨v1,v2,rfl,hl,h3⟩:=ih hu h2;exact ⟨v++v1,v2,by simp,by simp [h1.width,hl];omega,v,v1,rfl,h1,h3⟩
theorem Lz {cs:List aS}{off n:Nat}{ds:List aS}{vs:List Value}(h:part cs off n=some ds)(hr:aJ e vs cs): ∃v1 v2 v3,vs=v1++v2++v3/\v1.length=off/\v2.length=n/\aJ e v2 ds:=by
 unfold part at h;cases hc:cut cs off with
 |none=>simp [hc] at h
 |some a=>simp only [hc] at h;obtain ⟨v1,v2,rfl,h1,h2⟩:=zT hc hr;obtain ⟨v3,v4,rfl,h3,h4⟩:=V9 h h2;exact ⟨v1,v3,v4,by simp,h1,h3,h4⟩
theorem LA {ls:List aS}: ∀{cs ds:List aS}{vs ws:List Value},over ls cs=some ds->aJ e vs cs->aJ e ws ls-> ∃v1 v2,vs=v1++v2/\v1.length=ws.length/\aJ e (ws++v2) ds:=by
 induction ls with
 |nil=>intro cs ds vs ws h hr hw;simp only [over,AT] at h;subst h;cases hw;exact ⟨[],vs,rfl,rfl,hr⟩
 |cons l r ih=>
  intro cs ds vs ws h hr hw;cases cs with
  |nil=>simp [over] at h
  |cons c cs=>
   simp only [over] at h;cases hb:c8 l.w c.w with
   |false=>simp [hb] at h
   |true=>
    simp only [hb,cond_true] at h;have hww:=sh hb;cases ho:over r cs with
    |none=>simp [ho] at h
    |some q=>simp only [ho,AT] at h;subst h;obtain ⟨v,w,rfl,h1,h2⟩:=hr;obtain ⟨a,b,rfl,h3,h4⟩:=hw;obtain ⟨v1,v2,rfl,hl,h5⟩:=ih ho h2 h4;exact ⟨v++v1,v2,by simp,by simp [h1.width,h3.width,hl,hww],a,b++v2,by simp,h3,h5⟩
theorem xJ {cs:List aS}: ∀{off:Nat}{ls ds:List aS}{vs ws:List Value},putAt cs off ls=some ds->aJ e vs cs->aJ e ws ls-> ∃v1 v2 v3,vs=v1++v2++v3/\v1.length=off/\v2.length=ws.length/\aJ e (v1++ws++v3) ds:=by
 induction cs with
 |nil=>
  intro off ls ds vs ws h hr hw;cases off with
  |zero=>simp only [putAt] at h;obtain ⟨v1,v2,rfl,h1,h2⟩:=LA h hr hw;exact ⟨[],v1,v2,by simp,rfl,h1,by simpa using h2⟩
  |succ n=>simp [putAt] at h
 |cons l r ih=>
  intro off ls ds vs ws h hr hw;cases off with
  |zero=>simp only [putAt] at h;obtain ⟨v1,v2,rfl,h1,h2⟩:=LA h hr hw;exact ⟨[],v1,v2,by simp,rfl,h1,by simpa using h2⟩
  |succ n=>
   simp only [putAt] at h;cases hb:aaK l.w (n+1) with
   |false=>simp [hb] at h
   |true=>
    simp only [hb,cond_true] at h;have hle:=abc hb;obtain ⟨v,w,rfl,h1,h2⟩:=hr;cases hu:putAt r (n+1-l.w) ls with
    |none=>simp [hu] at h
    |some b=>simp only [hu,AT] at h;subst h;obtain ⟨v1,v2,v3,rfl,hl,sr,h3⟩:=ih hu h2 hw;exact ⟨v++v1,v2,v3,by simp,by simp [h1.width,hl];omega,sr,v,v1++ws++v3,by simp,h1,h3⟩
structure lr (S T:Nat->Prop) (e e':Env):Prop where
 key:e'.key=e.key
 φ:sn e.φ e'.φ
 B: ∀r,T r->e'.B r=e.B r
 jN: ∀f o',aV e'.m f=some o'->S f-> ∃o,aV e.m f=some o/\e'.E f=e.E f/\o'.xs=o.xs
def jW (S:Nat->Prop)(l:aS):Prop:= ∀f,l= .own f->S f
def gk (S T:Nat->Prop):Slot->Prop
 | .ptr r _=>T r
 | .zN r=>T r
 | .hp r _ _=>T r
 | .sc l=>jW S l
 | .ag cs=> ∀l∈cs,jW S l
 | .ep g _ _ _ _=>S g
 |_=>True
theorem bp.on {S T:Nat->Prop}(h:lr S T e e'){vs:List Value}{l:aS}(hl:jW S l)(hr:bp e vs l):bp e' vs l:=by
 cases l with
 |un=>exact hr
 |p m=>exact ⟨hr.1,by have:=hr.2.mono h.φ;rw [<-h.key] at this;exact this⟩
 |hs x=>exact hr
 |nil=>exact hr
 |mp s es=>exact hr
 |own f=>obtain ⟨v,rfl,hv,hf⟩:=hr;refine ⟨v,rfl,hv,λo' CF=> ?_⟩;obtain ⟨o,ho,hE,_⟩:=h.jN f o' CF (hl f rfl);rw [hE];exact hf o ho
theorem aJ.on {S T:Nat->Prop}(h:lr S T e e'){cs:List aS}: ∀{vs:List Value},(∀l∈cs,jW S l)->aJ e vs cs->aJ e' vs cs:=by
 induction cs with
 |nil=>intro vs _ hr;exact hr
 |cons l r ih=>intro vs hl hr;obtain ⟨v,w,rfl,h1,h2⟩:=hr;exact ⟨v,w,rfl,h1.on h (hl l (by simp)),ih (λx hx=>hl x (by simp [hx])) h2⟩
theorem HW {S:Nat->Prop}{l:aS}(h:uN l=true):jW S l:=by intro f hf;subst hf;simp [uN] at h
theorem CG {S:Nat->Prop}{cs:List aS}(h:jS cs=true): ∀l∈cs,jW S l:=by
 induction cs with
 |nil=>simp
 |cons l r ih=>
  simp only [jS,aaG] at h;intro x hx;rcases aaH.1 hx with rfl|hx
  ·exact HW h.1
  ·exact ih h.2 x hx
mutual
theorem ah.on {S T:Nat->Prop}(h:lr S T e e'){v:Value}: ∀{s:Slot},gk S T s->ah e v s->ah e' v s
 | .skip,_,hr=>by simpa [ah] using hr
 | .sc l,hs,hr=>by
  cases l with
  |un=>simp [ah]
  |hs x=>simpa [ah] using hr
  |p m=>simp only [ah] at hr⊢;exact hr.on h hs
  |nil=>simp only [ah] at hr⊢;exact hr.on h hs
  |mp s es=>simp only [ah] at hr⊢;exact hr
  |own f=>simp only [ah] at hr⊢;exact hr.on h hs
 | .ag cs,hs,hr=>by simp only [ah] at hr⊢;obtain ⟨arr,h1,h2⟩:=hr;exact ⟨arr,h1,h2.on h hs⟩
 | .cj vs,_,hr=>by simp only [ah] at hr⊢;obtain ⟨arr,h1,h2⟩:=hr;exact ⟨arr,h1,kH.on h h2⟩
 | .box _,_,hr=>by simp [ah] at hr
 | .zM cs,_,hr=>by simp only [ah] at hr⊢;obtain ⟨bB,o,vs,h1,h2,h3,h4⟩:=hr;exact ⟨bB,o,vs,h1,h2.on h (CG h3),h3,λj hj=>Ng h.φ hj (h4 j hj)⟩
 | .ptr r o,hs,hr=>by simp only [ah] at hr⊢;rw [h.B r hs];exact hr
 | .zN r,hs,hr=>by simp only [ah] at hr⊢;rw [h.B r hs];exact hr
 | .rp cs off,_,hr=>by simp only [ah] at hr⊢;obtain ⟨bB,o,vs,h1,h2,h3,h4⟩:=hr;exact ⟨bB,o,vs,h1,h2.on h (CG h3),h3,λj hj=>Ng h.φ hj (h4 j hj)⟩
 | .hp r o i,hs,hr=>by simp only [ah] at hr⊢;rw [h.B r hs];exact hr
 | .ep f i off st cs,hs,hr=>by simp only [ah] at hr⊢;intro o' CF;obtain ⟨o,ho,hE,hx⟩:=h.jN f o' CF hs;obtain ⟨bB,cap,h1,h2,h3⟩:=hr o ho;exact ⟨bB,cap,by rw [hE,hx];exact h1,by rw [hx];exact h2,h3⟩
theorem kH.on {S T:Nat->Prop}(h:lr S T e e'): ∀{vs:List Value}{ss:List Slot},kH e vs ss->kH e' vs ss
 |vs,[],hr=>hr
 |vs,s::ss,hr=>by
  simp only [kH] at hr⊢;obtain ⟨v,r,h1,h2,h3,h4⟩:=hr;refine ⟨v,r,h1,ah.on h ?_ h2,h3,kH.on h h4⟩;cases s<;>simp [Dl] at h3<;>simp only [gk]
  ·exact HW h3
  ·exact CG h3
end
end
end Dn
/-
  The relation between an abstract state and a running frame; operations that change no memory. Conditions: none.
-/
namespace Dn
open Go
section
variable {e e':Env}
theorem bp.kill {vs:List Value}{l:aS}(f:Nat)(h:bp e vs l):bp e vs (O0 f l):=by
 cases l with
 |own g=>
  simp only [O0];cases c8 g f
  ·exact h
  ·obtain ⟨v,rfl,hv,_⟩:=h;exact ⟨v,rfl,hv⟩
 |_=>exact h
theorem HX (f:Nat)(l:aS):jW (· ≠f) (O0 f l):=by intro g hg;cases l<;>simp [O0] at hg;rename_i g';cases hb:c8 g' f<;>simp [hb] at hg;subst hg;intro e;subst e;simp [gj] at hb
theorem bp.UD {vs:List Value}{l:aS}(f:List Nat)(h:bp e vs l):bp e vs (Sp f l):=by
 cases l with
 |own g=>
  simp only [Sp];cases bX f g
  ·obtain ⟨v,rfl,hv,_⟩:=h;exact ⟨v,rfl,hv⟩
  ·exact h
 |_=>exact h
theorem Sr (f:List Nat)(l:aS):jW (· ∈f) (Sp f l):=by intro g hg;cases l<;>simp [Sp] at hg;rename_i g';cases hb:bX f g'<;>simp [hb] at hg;subst hg;exact (b8 _ _).1 hb
theorem aJ.map {g:aS->aS}(hg: ∀vs l,bp e vs l->bp e vs (g l)){cs:List aS}: ∀{vs:List Value},aJ e vs cs->aJ e vs (cs.map g):=by
 induction cs with
 |nil=>intro vs h;exact h
 |cons l r ih=>intro vs h;obtain ⟨v,w,rfl,h1,h2⟩:=h;exact ⟨v,w,rfl,hg _ _ h1,ih h2⟩
theorem ah.ag1 {v:Value}{l:aS}(hl: ∀x,l≠ .hs x)(hu:l≠ .un):ah e v (.sc l)↔bp e [v] l:=by cases l<;>simp_all [ah]
theorem ah.kill {v:Value}{s:Slot}(f:Nat)(h:ah e v s):ah e v (Ci f s):=by
 cases s with
 |sc l=>
  cases l with
  |own g=>
   simp only [Ci,O0];cases c8 g f
   ·exact h
   ·simp [ah]
  |_=>exact h
 |ag cs=>simp only [Ci,ah] at h⊢;obtain ⟨arr,h1,h2⟩:=h;exact ⟨arr,h1,h2.map (λ_ _=>bp.kill f)⟩
 |box cs=>simp [ah] at h
 |ep g i o b cs=>
  simp only [Ci];cases c8 g f
  ·exact h
  ·simp [ah]
 |_=>exact h
theorem YQ (f:Nat)(T:Nat->Prop)(s:Slot)(hT:gk (λ_=>True) T s):gk (· ≠f) T (Ci f s):=by
 cases s with
 |sc l=>exact HX f l
 |ag cs=>intro l hl;obtain ⟨x,_,rfl⟩:=adz.1 hl;exact HX f x
 |ep g i o b cs=>
  simp only [Ci];cases hb:c8 g f
  ·simp only [cond_false,gk];intro e;subst e;simp [gj] at hb
  ·simp [gk,jW]
 |ptr r o=>exact hT
 |hp r o i=>exact hT
 |_=>trivial
theorem ah.UD {v:Value}{s:Slot}(f:List Nat)(h:ah e v s):ah e v (Kx f s):=by
 cases s with
 |sc l=>
  cases l with
  |own g=>
   simp only [Kx,Sp];cases bX f g
   ·simp [ah]
   ·exact h
  |_=>exact h
 |ag cs=>simp only [Kx,ah] at h⊢;obtain ⟨arr,h1,h2⟩:=h;exact ⟨arr,h1,h2.map (λ_ _=>bp.UD f)⟩
 |box cs=>simp [ah] at h
 |_=>exact h
end
def bx (key:Nat->Nat) (φ:Ph)(size:Nat):List Value->List MV->Prop
 |vs,[]=>vs=[]
 |vs,x::xs=> ∃v r,vs=v++r/\v.length=size/\nn key φ v x/\bx key φ size r xs
structure cb where
 In:Nat->Prop
 df:List Nat
 cY:List Nat
 T:Nat->Value
 cov:Prop
 Pr:Nat->Prop
instance:CoeFun cb (λ_=>Nat->Prop):=⟨cb.In⟩
instance:Coe cb (Nat->Prop):=⟨cb.In⟩
theorem Pm {a b c:Prop}(h:(a/\b)\/c)(hn: ¬a):c:=h.resolve_left λh=>hn h.1
def cb.nc (Z:cb):cb:={Z with cov:=False}
def cb.plain (I:Nat->Prop):cb:=⟨I,[],[],λ_=>undef,False,λ_=>True⟩
def cb.bz (Z:cb)(t:Nat):cb:={Z with In:=λb=>(t∈Z.df/\Z.Pr b)\/Z.In b}
def cb.fz (Z:cb)(f:Nat):cb:={Z with In:=λb=>(f∈Z.cY/\Z.Pr b)\/Z.In b,cov:=f∈Z.cY}
def HY:Kd->MV->Bool
 | .b,.b _=>true
 | .i k,.i k' _=>decide (k'=k)
 | .s,.s _=>true
 | .h,.h _=>true
 |_,_=>false
def lU:List Kd->List MV->Bool
 |[],[]=>true
 |k::ks,m::ms=>HY k m&&lU ks ms
 |_,_=>false
def R2:MV->List Value
 | .b x=>[.bool x]
 | .i k n=>[.int k n]
 | .s l=>[.string ⟨l.toArray⟩]
 | .h x=>bT x
 |_=>[]
def Dp (st:Bool)(ks:List MV):Value:=match st,ks with
 |false,[.h x]=> .agg (bT x).toArray
 |false,[.b x]=> .bool x
 |false,[.i k n]=> .int k n
 |false,[.s l]=> .string ⟨l.toArray⟩
 |_,ks=> .agg (ks.flatMap R2).toArray
def YR (b:Bool)(m:MV):Value:=match b,m with
 |true,.b x=> .bool x
 |false,.i .i64 n=> .int .i64 n
 |_,_=>undef
def anX (b:Bool)(m:MV):Bool:=match b,m with
 |true,.b x=>true
 |false,.i .i64 n=>true
 |_,_=>false
def afH (s:MS)(x:MapEntry)(m:MV)(i:Nat):Prop:=x.born=i/\ ∃ks v,m= .cj [.agg ks,v]/\lU s.lay ks=true/\x.key=Dp s.st ks/\anX s.b v=true/\x.val=YR s.b v
structure LB (s:MS) (es:Array MapEntry) (clock:Nat) (ms:List MV):Prop where
 size:es.size=ms.length
 clock:clock=ms.length
 ent: ∀(i:Nat) x m,es[i]? =some x->ms[i]? =some m->afH s x m i
def ki (e:Env)(o:Obj)(cs:List aS):Prop:=match o with
 | .cells arr _ z=>z=(0,0)/\aJ e arr.toList cs
 | .map es clock=> ∃s ms,cs=[.mp s ms]/\Sc s=false/\LB s es clock ms
 | .stringIter x pos=>cs=[.mp MS.it [.s x.data.toList,.i .i64 pos]]
 |_=>False
def Nh (cs:List aS)(b:Nat):Value:=bif mG cs then .map (some b) else .pointer (some ⟨b,0,none⟩)
structure uP (Z:cb) (e:Env) (w:World) (bB:Nat) (cs:List aS):Prop where
 dm:Z.In bB
 obj: ∃o,w.heap[bB]? =some o/\ki e o cs
 free: ∀off,e.φ bB off=none
theorem ki.on {S T:Nat->Prop} {e e':Env}(h:lr S T e e'){o:Obj}{cs:List aS}(hl: ∀l∈cs,jW S l)(hr:ki e o cs):ki e' o cs:=by
 cases o with
 |cells arr T z=>exact ⟨hr.1,hr.2.on h hl⟩
 |map es clock=>exact hr
 |stringIter x pos=>exact hr
 |_=>exact hr.elim
theorem Ni {cs:List aS}(h:fT cs=true): ∃s ms,cs=[.mp s ms]:=by
 unfold fT at h;split at h
 ·exact ⟨_,_,rfl⟩
 ·cases h
theorem ki.cells {e:Env}{o:Obj}{cs:List aS}(hr:ki e o cs)(hm:fT cs=false): ∃arr T,o= .cells arr T (0,0)/\aJ e arr.toList cs:=by
 cases o with
 |cells arr T z=>obtain ⟨rfl,h⟩:=hr;exact ⟨arr,T,rfl,h⟩
 |map es clock=>obtain ⟨s,ms,rfl,_⟩:=hr;simp [fT] at hm
 |stringIter x pos=>rw [show cs=_ from hr] at hm;simp [fT] at hm
 |_=>exact hr.elim
theorem xK {cs:List aS}(h:fT cs=false):mG cs=false:=by
 unfold mG;split
 ·simp [fT] at h
 ·rfl
theorem Pn (g:aS->aS)(h1: ∀s es,g (.mp s es)= .mp s es)(h2: ∀l,(∀s es,l≠ .mp s es)-> ∀s es,g l≠ .mp s es)(cs:List aS):mG (cs.map g)=mG cs:=by
 cases cs with
 |nil=>rfl
 |cons l r=>
  cases r with
  |nil=>
   by_cases hl: ∃s es,l= .mp s es
   ·obtain ⟨s,es,rfl⟩:=hl;simp [h1,mG]
   ·have B0: ∀s es,l≠ .mp s es:=λs es e=>hl ⟨s,es,e⟩;have hg:=h2 l B0;simp only [IT,afO];have a:mG [l]=false:=by cases l<;>simp_all [mG]
    have b:mG [g l]=false:=by cases hq:g l<;>simp_all [mG]
    rw [a,b]
  |cons x y=>cases hl:l<;>simp [mG]
theorem uP.cells {Z:cb}{e:Env}{w:World}{bB:Nat}{cs:List aS}(h:uP Z e w bB cs)(hm:fT cs=false): ∃arr T,w.heap[bB]? =some (.cells arr T (0,0))/\aJ e arr.toList cs:=by obtain ⟨o,h1,h2⟩:=h.obj;obtain ⟨arr,T,rfl,h3⟩:=h2.cells hm;exact ⟨arr,T,h1,h3⟩
theorem Ss {cs:List aS}(hm:mG cs=false)(b:Nat):Nh cs b= .pointer (some ⟨b,0,none⟩):=by simp [Nh,hm]
theorem vE {cs:List aS}(hm:fT cs=false)(b:Nat):Nh cs b= .pointer (some ⟨b,0,none⟩):=Ss (xK hm) b
theorem ag2 {cs:List aS}(hm:mG cs=true)(b:Nat):Nh cs b= .map (some b):=by simp [Nh,hm]
theorem ki.map {e:Env}{g:aS->aS}(hg: ∀vs l,bp e vs l->bp e vs (g l))(hm: ∀s es,g (.mp s es)= .mp s es){o:Obj}{cs:List aS}(hr:ki e o cs):ki e o (cs.map g):=by
 cases o with
 |cells arr T z=>exact ⟨hr.1,hr.2.map hg⟩
 |map es clock=>obtain ⟨s,ms,rfl,h2⟩:=hr;exact ⟨s,ms,by simp [hm],h2⟩
 |stringIter x pos=>rw [show cs=_ from hr];show afF g _=_;simp [hm]
 |_=>exact hr.elim
theorem Su (f:Nat)(cs:List aS):mG (cs.map (O0 f))=mG cs:=Pn _ (λ_ _=>rfl) (λl hl s es=>by cases l<;>simp_all [O0];rename_i g;cases c8 g f<;>simp) cs
theorem ag3 (f:List Nat)(cs:List aS):mG (cs.map (Sp f))=mG cs:=Pn _ (λ_ _=>rfl) (λl hl s es=>by cases l<;>simp_all [Sp];rename_i g;cases bX f g<;>simp) cs
structure dH (c:Ctx) (Z:cb) (e:Env) (w:World) (v:Value) (o:oS):Prop where
 row: ∃I cells,c.ti o.ty=some I/\I.du=[]/\w.ownsRow 0 o.ty I.size v o.xs.length cells/\bx e.key e.φ I.size cells o.xs/\ ∀bB,v.ownBlock=some bB->Z.In bB/\(∀off u,e.φ bB off=some u->o.eT=true/\off<o.xs.length *I.size)/\(Z.cov->o.eT=true-> ∀j,j<cells.length->e.φ bB j=cells[j]?)
def tied (Z:cb)(t:Nat)(v:Value)(cs:List aS)(b:Nat):Prop:=(BX t=false->v=Nh cs b)/\(BX t=true->posOf t∈Z.df/\Z.T (posOf t)= .pointer (some ⟨b,O8 t,none⟩))
theorem tied.mG {Z:cb}{t:Nat}{v:Value}{cs gK:List aS}{b:Nat}(h:tied Z t v cs b)(hm:mG gK=mG cs):tied Z t v gK b:=⟨λhp=>by rw [h.1 hp];simp [Nh,hm],h.2⟩
theorem tied.own {Z:cb}{t:Nat}{v:Value}{cs:List aS}{b:Nat}(hp:BX t=false)(h:v=Nh cs b):tied Z t v cs b:=⟨λ_=>h,λhq=>by rw [hp] at hq;cases hq⟩
def cz (Z:cb)(e:Env)(w:World)(t:Nat)(v:Value):Slot->Prop
 | .box cs=>tied Z t v cs (e.B t)/\uP (Z.bz t) e w (e.B t) cs
 |s=>ah e v s
def cZ (fr:Fr):Slot->Prop
 | .ptr r _=>dv (av fr r)=true
 | .hp r _ _=>dv (av fr r)=true
 | .zN r=>dv (av fr r)=true
 |_=>True
structure cG (c:Ctx) (Z:cb) (e:Env) (st:St) (a:Act) (w:World):Prop where
 defers:a.defers=[]/\st.df=Z.df/\st.cY=Z.cY/\ ∀t∈Z.df,a.tmps.getD t undef=Z.T t
 size:a.tmps.size=c.n
 m:e.m=st.bk
 key:e.key=c.key
 nodup:(bg st.fr).Nodup
 slot: ∀t,cz Z e w t (a.tmps.getD t undef) (av st.fr t)
 root: ∀t,cZ st.fr (av st.fr t)
 jN: ∀f o,aV st.bk f=some o->dH c (Z.fz f) e w (e.E f) o
 bb: ∀t t' cs gK,av st.fr t= .box cs->av st.fr t'= .box gK->t≠t'->e.B t≠e.B t'
 bf: ∀t cs f o,av st.fr t= .box cs->aV st.bk f=some o->(e.E f).ownBlock≠some (e.B t)
 ff: ∀f f' o o' k,aV st.bk f=some o->aV st.bk f'=some o'->(e.E f).ownBlock=some k->(e.E f').ownBlock=some k->f=f'
 qe: ∀b o v,e.φ b o=some v->w.cell? ⟨b,o,none⟩=some v
 dm: ∀b,w.heap.size<=b->Z.In b
def Rest (w w':World):Prop:=w'.os=w.os/\w'.tape=w.tape/\w'.output=w.output/\ ∀a,w'.frozen? a=w.frozen? a
theorem Rest.refl (w:World):Rest w w:=⟨rfl,rfl,rfl,λ_=>rfl⟩
theorem Rest.trans {w w' Bf:World}(h:Rest w w') (h':Rest w' Bf):Rest w Bf:=⟨h'.1.trans h.1,h'.2.1.trans h.2.1,h'.2.2.1.trans h.2.2.1,λa=>(h'.2.2.2 a).trans (h.2.2.2 a)⟩
theorem Rest.alloc (w:World)(cs:Array Value)(t:TypeId):Rest w (w.alloc (.cells cs t)):=by
 refine ⟨rfl,rfl,rfl,λa=> ?_⟩;by_cases h:a.block=w.heap.size
 ·have e1:(w.alloc (.cells cs t)).heap[a.block]? =some (.cells cs t (0,0)):=by rw [h];exact nK w _
  have e2:w.heap[a.block]? =none:=by rw [h];simp
  simp [afK,e1,e2]
 ·exact World.frozen?_alloc_old _ _ _ h
theorem Rest.setRow (w:World)(g:Nat)(cs:Array Value):Rest w (w.setRow g cs):=by
 refine ⟨rfl,rfl,rfl,λa=> ?_⟩;by_cases h:a.block=g
 ·unfold afK afQ;simp only [Array.getElem?_modify,h,if_true];cases hg:w.heap[g]? with
  |none=>rfl
  |some o=>cases o<;>rfl
 ·exact World.frozen?_of_block (setRow_other _ _ _ _ h)
structure eG (w w':World):Prop where
 size:w.heap.size<=w'.heap.size
 Bg: ∀b,b<w.heap.size->w'.heap[b]? =w.heap[b]?
 rest:Rest w w'
theorem bZ {w:World}{b:Nat}{x:Obj}(h:w.heap[b]? =some x):b<w.heap.size:=(Array.getElem?_eq_some_iff.1 h).1
theorem eG.cell {w w':World}(g:eG w w'){ad:Addr}{v:Value}(h:w.cell? ad=some v):w'.cell? ad=some v:=by have hl:=aaX w ad h;rw [abH (g.Bg ad.block hl)];exact h
structure Trans (Z:Nat->Prop) (φ:Ph) (w:World) (φ':Ph) (w':World):Prop where
 ph:sn φ φ'
 heap: ∀b,¬Z b->b<w.heap.size->w'.heap[b]? =w.heap[b]?
 free: ∀b o,¬Z b->φ' b o=φ b o
 size:w.heap.size<=w'.heap.size
 rest:Rest w w'
theorem Trans.refl (Z:Nat->Prop) (φ:Ph)(w:World):Trans Z φ w φ w:=⟨.refl φ,λ_ _ _=>rfl,λ_ _ _=>rfl,aaf _,.refl _⟩
theorem Trans.trans {Z:Nat->Prop} {φ φ' φ'':Ph} {w w' Bf:World}(h:Trans Z φ w φ' w') (h':Trans Z φ' w' φ'' Bf):Trans Z φ w φ'' Bf:=⟨h.ph.trans h'.ph,λb hb hl=>(h'.heap b hb (aey hl h.size)).trans (h.heap b hb hl),λb o hb=>(h'.free b o hb).trans (h.free b o hb),adC h.size h'.size,h.rest.trans h'.rest⟩
def tf (Z:cb)(e:Env)(w:World)(st:St)(v:Value):Slot->Prop
 | .box cs=> ∃bB,v=Nh cs bB/\uP Z e w bB cs/\(∀t gK,av st.fr t= .box gK->e.B t≠bB)/\(∀f o,aV st.bk f=some o->(e.E f).ownBlock≠some bB)
 |s=>ah e v s/\cZ st.fr s
section
variable {c:Ctx}{Z:cb}{e:Env}{st:St}{a:Act}{w:World}
theorem ah.const {v:Value}:ah e v (Bb v):=by
 unfold Bb;split<;>simp only [ah,bp,MV.one]<;> first
   |exact ⟨trivial,.b _⟩
   |exact ⟨trivial,.i _ _⟩
   |exact ⟨trivial,.s _⟩
   |exact ⟨trivial,.raw _ rfl⟩
theorem cG.eval (h:cG c Z e st a w)(x:Operand):ah e (a.eval x) (bw c st x)/\cZ st.fr (bw c st x):=by
 cases x with
 |tmp t=>
  have hs:=h.slot t;have hr:=h.root t;simp only [Act.eval,bw];cases LC:plk c.par t with
  |some q=>
   simp only;cases hq:BX q&&c8 (posOf q) t with
   |false=>exact ⟨by simp [ah],trivial⟩
   |true=>
    simp only [cond_true];simp only [aaG] at hq;have hqt:=sh hq.2;have hsq:=h.slot q;split
    ·rename_i cs hfq;rw [hfq] at hsq;cases hm:fT cs with
     |true=>exact ⟨by simp [ah],trivial⟩
     |false=>obtain ⟨k1,k2⟩:=hsq.1.2 hq.1;refine ⟨?_,by simp [cZ,hfq,dv]⟩;show a.tmps.getD t undef=_;rw [<-hqt,h.defers.2.2.2 _ k1,k2]
    ·exact ⟨by simp [ah],trivial⟩
  |none=>
  simp only;generalize hf:av st.fr t=s at hs hr;cases s<;>simp only [cz] at hs<;>try exact ⟨hs,hr⟩
  ·rename_i cs;cases hpt:BX t with
   |true=>simp only [cond_true];exact ⟨by simp [ah],trivial⟩
   |false=>
   simp only [cond_false];cases hm:mG cs with
   |true=>simp only [hm,cond_true,ah,cZ,hf,dv];exact ⟨by rw [hs.1.1 hpt,ag2 hm],trivial⟩
   |false=>simp only [hm,cond_false,ah,cZ,hf,dv];exact ⟨by rw [hs.1.1 hpt,Ss hm],trivial⟩
 |const v=>refine ⟨ah.const,?_⟩;simp only [bw];unfold Bb;split<;>trivial
 |func f=>simp only [Act.eval,bw,ah,bp,MV.one,cZ,and_true,true_and];exact .func f _ #[] [] (by rw [h.key]) (by simpa using jj.nil) (by simp)
 |global g=>simp [bw,ah,cZ]
end
theorem Act.zU {a:Act}{d t:Nat}{v:Value}(hd:d<a.tmps.size):(a.put (some d) v).tmps.getD t undef=if t=d then v else a.tmps.getD t undef:=by
 simp only [Act.put,Array.getD_eq_getD_getElem?,Array.getElem?_setIfInBounds];by_cases h:d=t
 ·subst h;simp [hd]
 ·have h': ¬t=d:=λe=>h e.symm;simp [h,h']
theorem YS {fr:Fr}{s:Slot}(h:cZ fr s):gk (λ_=>True) (λr=>dv (av fr r)=true) s:=by cases s<;>simp_all [cZ,gk,jW]
theorem Nj (r:Fr)(d:Nat)(s:Slot):bg (cM r d s)=if d∈bg r then bg r else bg r++[d]:=by
 induction r with
 |nil=>simp [cM,bg]
 |cons p r ih=>
  obtain ⟨k,x⟩:=p;simp only [cM,gj];by_cases h:k=d
  ·simp [h,bg]
  ·have h': ¬d=k:=λe=>h e.symm;have ih':afF Prod.fst (cM r d s)=if d∈bg r then bg r else bg r++[d]:=ih
   simp only [h,h',decide_false,cond_false,bg,IT,aaH,false_or,ih'];by_cases hm:d∈bg r
   ·have hm':d∈afF Prod.fst r:=hm;simp [hm,hm',bg]
   ·have hm':d∉afF Prod.fst r:=hm;simp [hm,hm',bg]
theorem fG {r:Fr}{d:Nat}{s:Slot}(h:(bg r).Nodup):(bg (cM r d s)).Nodup:=by
 rw [Nj];by_cases hm:d∈bg r
 ·simpa [hm] using h
 ·simp only [hm,if_false];exact List.nodup_append.2 ⟨h,by simp,by intro x hx y hy;simp at hy;subst hy;intro e;subst e;exact hm hx⟩
section
variable {c:Ctx}{Z:cb}{e:Env}{st:St}{a:Act}{w:World}{R:Type}{K:St->Option R}{r:R}
def Env.Dq (e:Env)(d bB:Nat):Env:={e with B:=λt=>if t=d then bB else e.B t}
theorem uP.env {e e':Env}{bB:Nat}{cs:List aS}(h:uP Z e w bB cs)(hk:e'.key=e.key)(hp:e'.φ=e.φ)(hE:e'.E=e.E)(hm:e'.m=e.m):uP Z e' w bB cs:=by refine ⟨h.dm,?_,λoff=>by rw [hp];exact h.free off⟩;obtain ⟨o,h1,h2⟩:=h.obj;refine ⟨o,h1,h2.on (S:=λ_=>True) (T:=λ_=>False) ⟨hk,by rw [hp];exact .refl _,by simp,?_⟩ (by intro l _ f _;trivial)⟩;intro f o ho _;exact ⟨o,by rw [<-hm];exact ho,by rw [hE],rfl⟩
theorem dH.env {e e':Env}{v:Value}{o:oS}(h:dH c Z e w v o)(hk:e'.key=e.key)(hp:e'.φ=e.φ):dH c Z e' w v o:=by obtain ⟨I,cells,h1,h2,h3,h4,h5⟩:=h.row;exact ⟨I,cells,h1,h2,h3,by rw [hk,hp];exact h4,by rw [hp];exact h5⟩
theorem uP.to {bB:Nat}{cs:List aS}(h:uP Z e w bB cs)(t:Nat):uP (Z.bz t) e w bB cs:=⟨.inr h.dm,h.obj,h.free⟩
theorem dH.to {v:Value}{o:oS}{f:Nat}(h:dH c Z.nc e w v o)(hf:f∉Z.cY):dH c (Z.fz f) e w v o:=by obtain ⟨I,cells,h1,h2,h3,h4,h5⟩:=h.row;exact ⟨I,cells,h1,h2,h3,h4,λbB hb=>⟨.inr (h5 bB hb).1,(h5 bB hb).2.1,λhc=>absurd hc hf⟩⟩
theorem ew {d:Option Nat}{s:Slot}{v:Value}(h:cG c Z e st a w)(hv:tf Z e w st v s)(hK:bY c st d s K=some r): ∃e' cO,cG c Z e' cO (a.put d v) w/\K cO=some r/\e'.φ=e.φ:=by
 cases d with
 |none=>exact ⟨e,st,h,hK,rfl⟩
 |some d=>
  simp only [bY] at hK;cases ET:BX d||(aaK c.n d||dv (av st.fr d)) with
  |true=>simp [ET] at hK
  |false=>
   obtain ⟨anY,hb⟩:=aaL.1 ET;simp only [ET,cond_false,wr] at hK;cases hp:bX st.df d with
   |true=>simp [hp] at hK
   |false=>
    simp only [hp,cond_false,force_eq,nL] at hK;simp only [aaL] at hb;have hdn:d<a.tmps.size:=by
     rw [h.size];have:=hb.1;by_cases dK:d<c.n
     ·exact dK
     ·have:aaK c.n d=true:=adX (by omega);simp_all
    have hdp:d∉Z.df:=by intro hm;rw [<-h.defers.2.1,<-b8,hp] at hm;cases hm
    have aj0: ∀fr:Fr,(a.put (some d) v).defers=[]/\({st with fr:=fr}:St).df=Z.df/\({st with fr:=fr}:St).cY=Z.cY/\ ∀t∈Z.df,(a.put (some d) v).tmps.getD t undef=Z.T t:=by intro fr;refine ⟨h.defers.1,h.defers.2.1,h.defers.2.2.1,λt ht=> ?_⟩;rw [Act.zU hdn,if_neg (by intro e;subst e;exact hdp ht)];exact h.defers.2.2.2 t ht
    have kc: ∀t,gk (λ_=>True) (λr=>r≠d) (av st.fr t):=by intro t;have:=YS (h.root t);generalize av st.fr t=x at this;cases x<;>simp_all [gk,jW]<;>(intro e;subst e;simp_all)
    by_cases hs: ∃cs,s= .box cs
    ·obtain ⟨cs,rfl⟩:=hs;obtain ⟨bB,rfl,vF,hnb,hnf⟩:=hv;have vG:lr (λ_=>True) (λr=>r≠d) e (e.Dq d bB):=⟨rfl,.refl _,λr hr=>by simp [Env.Dq,hr],λf o ho _=>⟨o,ho,rfl,rfl⟩⟩
     refine ⟨e.Dq d bB,_,?_,hK,rfl⟩;refine ⟨aj0 _,by simpa [Act.put] using h.size,h.m,h.key,fG h.nodup,?_,?_,?_,?_,?_,?_,h.qe,h.dm⟩
     ·intro t;rw [Act.zU hdn,cr];by_cases ht:t=d
      ·subst ht;simp only [if_true,cz,Env.Dq];exact ⟨.own anY rfl,(vF.to t).env rfl rfl rfl rfl⟩
      ·simp only [ht,if_false];have oW:=h.slot t;have qz:=kc t;generalize av st.fr t=x at oW qz;cases x<;>simp only [cz] at oW⊢ <;>try exact oW.on vG qz
       simp only [Env.Dq,ht,if_false];exact ⟨oW.1,oW.2.env rfl rfl rfl rfl⟩
     ·intro t;simp only [cr];by_cases ht:t=d
      ·simp [ht,cZ]
      ·simp only [ht,if_false];have qz:=h.root t;have hr2:=kc t;generalize av st.fr t=x at qz hr2;cases x<;>simp_all [cZ,cr,gk]
     ·intro f o ho;exact (h.jN f o ho).env rfl rfl
     ·intro t t' dP lu h1 h2 dG;simp only [cr] at h1 h2;simp only [Env.Dq];by_cases ht:t=d
      ·by_cases CH:t'=d
       ·exact absurd (ht.trans CH.symm) dG
       ·simp only [CH,if_false] at h2;simp only [ht,CH,if_true,if_false];exact λe=>hnb t' lu h2 e.symm
      ·simp only [ht,if_false] at h1;by_cases CH:t'=d
       ·simp only [ht,CH,if_true,if_false];exact hnb t dP h1
       ·simp only [CH,if_false] at h2;simp only [ht,CH,if_false];exact h.bb t t' dP lu h1 h2 dG
     ·intro t dP f o h1 h2;simp only [cr] at h1;simp only [Env.Dq];by_cases ht:t=d
      ·simp only [ht,if_true];exact hnf f o h2
      ·simp only [ht,if_false] at h1⊢;exact h.bf t dP f o h1 h2
     ·exact h.ff
    ·have Yb:ah e v s/\cZ st.fr s:=by cases s<;>simp_all [tf]
     refine ⟨e,_,?_,hK,rfl⟩;refine ⟨aj0 _,by simpa [Act.put] using h.size,h.m,h.key,fG h.nodup,?_,?_,h.jN,?_,?_,h.ff,h.qe,h.dm⟩
     ·intro t;rw [Act.zU hdn,cr];by_cases ht:t=d
      ·simp only [ht,if_true];cases s<;>simp only [cz]<;>first|exact Yb.1|exact absurd ⟨_,rfl⟩ hs
      ·simp only [ht,if_false];exact h.slot t
     ·intro t;simp only [cr];by_cases ht:t=d
      ·simp only [ht,if_true];have hr:=Yb.2;cases s<;>simp only [cZ,cr] at hr⊢
       ·rename_i r o;by_cases Po:r=d
        ·subst Po;simp_all
        ·simp only [Po,if_false];exact hr
       ·rename_i r;by_cases Po:r=d
        ·subst Po;simp_all
        ·simp only [Po,if_false];exact hr
       ·rename_i r o i;by_cases Po:r=d
        ·subst Po;simp_all
        ·simp only [Po,if_false];exact hr
      ·simp only [ht,if_false];have qz:=h.root t;have hr2:=kc t;generalize av st.fr t=x at qz hr2;cases x<;>simp_all [cZ,cr,gk]
     ·intro t t' dP lu h1 h2 dG;simp only [cr] at h1 h2;by_cases ht:t=d
      ·simp only [ht,if_true] at h1;exact absurd ⟨_,h1⟩ hs
      ·by_cases CH:t'=d
       ·simp only [CH,if_true] at h2;exact absurd ⟨_,h2⟩ hs
       ·simp only [ht,CH,if_false] at h1 h2;exact h.bb t t' dP lu h1 h2 dG
     ·intro t dP f o h1 h2;simp only [cr] at h1;by_cases ht:t=d
      ·simp only [ht,if_true] at h1;exact absurd ⟨_,h1⟩ hs
      ·simp only [ht,if_false] at h1;exact h.bf t dP f o h1 h2
end
end Dn
/-
  Operations that change no memory: moves, numbers, texts, places. Conditions: none.
-/
namespace Dn
open Go
def Out (c:Ctx)(Z:cb){R:Type}(K:St->Option R)(r:R) (φ:Ph)(w:World) (a':Act) (w':World):Prop:=∃e' cO,cG c Z e' cO a' w'/\Trans Z φ w e'.φ w'/\K cO=some r
section
variable {P:Program}{c:Ctx}{Z:cb}{e:Env}{st:St}{a:Act}{w:World}{R:Type}{K:St->Option R}{r:R}{Q:Exit->Act->World->Prop}{o:Oper}
theorem tf.of {s:Slot}{v:Value}(h:ah e v s)(hr:cZ st.fr s):tf Z e w st v s:=by cases s<;>first|exact ⟨h,hr⟩|(simp [ah] at h)
theorem fin {e':Env}{cO:St} {w':World}{s:Slot}{v:Value}(cC:(execOp a.eval o).run P w= .ok (.value v) w')(hs:cG c Z e' cO a w')(ht:Trans Z e.φ w e'.φ w')(hv:tf Z e' w' cO v s)(hK:bY c cO o.dst s K=some r):o.wp P a w (Out c Z K r e.φ w) Q:=by unfold afR;rw [cC,adQ];obtain ⟨e2,ei,h1,h2,h3⟩:=ew hs hv hK;exact ⟨e2,ei,h1,by rw [h3];exact ht,h2⟩
theorem UE {e':Env}{cO:St} {w':World}(cC:(execOp a.eval o).run P w= .ok .skip w')(hs:cG c Z e' cO a w')(ht:Trans Z e.φ w e'.φ w')(hK:bY c cO o.dst (.sc .un) K=some r):o.wp P a w (Out c Z K r e.φ w) Q:=by unfold afR;rw [cC,Oper.upon_skip];obtain ⟨e2,ei,h1,h2,h3⟩:=ew (v:=undef) hs (by simp [tf,ah,cZ]) hK;exact ⟨e2,ei,h1,by rw [h3];exact ht,h2⟩
theorem YT {e':Env}{cO:St} {w':World}{s:Slot}{v:Value}(hg:eG w w')(cC:(execOp a.eval o).run P w= .ok (.value v) w')(hs:cG c Z e' cO a w')(ht:Trans Z e.φ w e'.φ w')(hv:tf Z e' w' cO v s)(hK:bY c cO o.dst s K=some r):o.wp P a w (λa' w'=>eG w w'/\Out c Z K r e.φ w a' w') Q:=by unfold afR;rw [cC,adQ];obtain ⟨e2,ei,h1,h2,h3⟩:=ew hs hv hK;exact ⟨hg,e2,ei,h1,by rw [h3];exact ht,h2⟩
def Rd (P:Program)(c:Ctx)(Z:cb){R:Type}(K:St->Option R)(r:R)(e:Env)(a:Act)(w:World)(o:Oper)(G:World->Prop):Prop:=∃v,(∀w',G w'->(execOp a.eval o).run P w'= .ok (.value v) w')/\Out c Z K r e.φ w (a.put o.dst v) w
theorem Rd.wp {G:World->Prop}(h:Rd P c Z K r e a w o G)(hg:G w):o.wp P a w (Out c Z K r e.φ w) Q:=by obtain ⟨v,h1,h2⟩:=h;unfold afR;rw [h1 w hg,adQ];exact h2
theorem Wa {G:World->Prop} {e':Env}{cO:St}{s:Slot}{v:Value}(cC: ∀w':World,G w'->(execOp a.eval o).run P w'= .ok (.value v) w')(hs:cG c Z e' cO a w)(ht:Trans Z e.φ w e'.φ w)(hv:tf Z e' w cO v s)(hK:bY c cO o.dst s K=some r):Rd P c Z K r e a w o G:=by obtain ⟨e2,ei,h1,h2,h3⟩:=ew hs hv hK;exact ⟨v,cC,e2,ei,h1,by rw [h3];exact ht,h2⟩
theorem kj {s:Slot}{v:Value}(h:cG c Z e st a w)(cC: ∀w':World,(execOp a.eval o).run P w'= .ok (.value v) w')(hv:ah e v s)(hr:cZ st.fr s)(hK:bY c st o.dst s K=some r):Rd P c Z K r e a w o (λ_=>True):=Wa (λw' _=>cC w') h (.refl _ _ _) (.of hv hr) hK
theorem HZ {v:Value}{x:Bool}(h:ah e v (.sc (.p (.b x)))):v= .bool x:=by simp only [ah,bp] at h;obtain ⟨_,h⟩:=h;generalize hv:[v]=vs at h;cases h;simpa using hv
theorem pS {v:Value}{k:IntKind}{n:Int}(h:ah e v (.sc (.p (.i k n)))):v= .int k n:=by simp only [ah,bp] at h;obtain ⟨_,h⟩:=h;generalize hv:[v]=vs at h;cases h;simpa using hv
theorem FZ {v:Value}{l:List UInt8}(h:ah e v (.sc (.p (.s l)))): ∃b:ByteArray,v= .string b/\l=b.data.toList:=by simp only [ah,bp] at h;obtain ⟨_,h⟩:=h;generalize hv:[v]=vs at h;cases h;exact ⟨_,by simpa using hv,rfl⟩
theorem Dr (x:Bool):ah e (.bool x) (.sc (.p (.b x))):=by simp only [ah,bp];exact ⟨rfl,.b x⟩
theorem zV (k:IntKind)(n:Int):ah e (.int k n) (.sc (.p (.i k n))):=by simp only [ah,bp];exact ⟨rfl,.i k n⟩
theorem acW (b:ByteArray):ah e (.string b) (.sc (.p (.s b.data.toList))):=by simp only [ah,bp];exact ⟨rfl,.s b⟩
theorem Nk {v u:Value}(h:ah e v (.sc (.p (.raw u)))):v=u:=by simp only [ah,bp] at h;obtain ⟨_,h⟩:=h;generalize hv:[v]=vs at h;cases h;simpa using hv
theorem YU (u:Value)(h:u.oneCell'=true):ah e u (.sc (.p (.raw u))):=by simp only [ah,bp];exact ⟨rfl,.raw u h⟩
theorem Nl {x:Operand}(ho:o.op= .move x\/o.op= .assign x)(h:cG c Z e st a w)(hK:bY c st o.dst (bw c st x) K=some r): Rd P c Z K r e a w o (λ_=>True):=by obtain ⟨h1,h2⟩:=h.eval x;refine kj h ?_ h1 h2 hK;rcases ho with ho|ho<;>simp [execOp,ho]
theorem Pp {x:Operand}(ho:o.op= .nilCheck x)(h:cG c Z e st a w)(hK:agS (bw c st x) (λs=>bY c st o.dst s K)=some r):Rd P c Z K r e a w o (λ_=>True):=by
 obtain ⟨h1,h2⟩:=h.eval x;unfold agS at hK;split at hK
 ·rename_i oM;rw [oM] at h1 h2;refine kj h ?_ (v:=a.eval x) h1 h2 hK;simp only [ah] at h1;simp [execOp,ho,h1]
 ·rename_i oM;rw [oM] at h1 h2;refine kj h ?_ (v:=a.eval x) h1 h2 hK;simp only [ah] at h1;obtain ⟨bB,q,vs,Ky,h3⟩:=h1;simp [execOp,ho,Ky]
 ·simp at hK
theorem acX {x y z:Operand}(ho:o.op= .pick x y z)(h:cG c Z e st a w)(hK:Yx (bw c st x) (bw c st y) (bw c st z) (λs=>bY c st o.dst s K)=some r):Rd P c Z K r e a w o (λ_=>True):=by
 obtain ⟨hx,_⟩:=h.eval x;obtain ⟨hy,hy2⟩:=h.eval y;obtain ⟨hz,YV⟩:=h.eval z;have cC: ∀v,a.eval x= .bool v-> ∀w:World,(execOp a.eval o).run P w= .ok (.value (if v then a.eval y else a.eval z)) w:=by intro v hv w;simp [execOp,ho,hv,asBool]
 unfold Yx at hK;split at hK
 ·rename_i v hv;have hxv:=HZ (by rw [hv] at hx;exact hx);have hr:=cC v hxv;split at hK
  ·rename_i p q hp hq;rw [hp] at hy;rw [hq] at hz;simp only [HZ hy,HZ hz] at hr;refine kj h hr ?_ (s:= .sc (.p (.b (bif v then p else q)))) trivial hK;cases v
   ·exact Dr q
   ·exact Dr p
  ·cases v
   ·exact kj h hr hz YV hK
   ·exact kj h hr hy hy2 hK
 ·simp at hK
theorem acY {op:UnOp}{ty:TypeId}{x:Operand}(ho:o.op= .unOp op ty x)(h:cG c Z e st a w)(hK:unK op (bw c st x) (λs=>bY c st o.dst s K)=some r):Rd P c Z K r e a w o (λ_=>True):=by
 obtain ⟨hx,_⟩:=h.eval x;generalize bw c st x=s at hx hK;unfold unK at hK;split at hK
 ·refine kj h ?_ (Dr _) trivial hK;simp [execOp,ho,HZ hx,Op.unary]
 ·refine kj h ?_ (zV _ _) trivial hK;simp [execOp,ho,pS hx,Op.unary,adY]
 ·simp at hK
end
end Dn
/-
  The type table; numbers, texts, places, loads. Conditions: none.
-/
namespace Dn
open Go
def GL:List Kd->Nat
 |[]=>0
 | .h::r=>32+GL r
 |_::r=>1+GL r
def uB (ti:Nat->Option TI)(P:Program)(I:TI)(z:Option Value):TypeDesc->Prop
 | .struct fs=>I.st=true/\I.du=[]/\(0<I.size/\GL I.lay=I.size)/\fs.toList.map (·.offset)=I.xC/\fs.toList.map (·.type)=I.V2/\ (∀(k:Nat) (f:Field),fs[k]? =some f-> ∃J,ti f.type=some J/\J.du=[]/\0<J.size)/\ ∃cs,z=some (.agg cs)/\uO I.zero cs.toList=true/\cs.size=I.size
 | .tuple ts=>I.du=ts.toList/\I.du≠[]/\I.lay=[]/\I.st=false
 | .slice el=>I.st=false/\I.du=[]/\I.size=1/\I.elem=el/\(∃E,ti el=some E/\E.du=[]/\0<E.size)/\z=some (.slice none 0 0)/\I.zero=[.nil]/\(∃k,I.lay=[k]/\k= .l)
 | .array n el=>I.st=false/\I.du=[]/\I.size=32/\n=32/\I.elem=el/\(∃i,P.underlying el=some (.int .u8)/\P.info? el=some i/\i.size=1)/\I.lay=[.h]/\I.zero=[.hs lQ.zero]/\z=some (.agg (bT lQ.zero).toArray)
 | .bool=>I.st=false/\I.du=[]/\I.size=1/\I.lay=[.b]/\I.zero=[.p (.b false)]/\z=some (.bool false)
 | .int k=>I.st=false/\I.du=[]/\I.size=1/\I.lay=[.i k]/\I.zero=[.p (.i k 0)]/\z=some (.int k 0)
 | .string=>I.st=false/\I.du=[]/\I.size=1/\I.lay=[.s]/\I.zero=[.p (.s [])]/\ ∃b:ByteArray,z=some (.string b)/\b.data.toList=[]
 |_=>I.st=false/\I.du=[]/\I.size=1/\I.lay=[.raw]/\ ∃v,z=some v/\v.oneCell'=true/\uO I.zero [v]=true
def oq (ti:Nat->Option TI)(P:Program)(t:Nat)(I:TI):Prop:=∃d i,P.underlying t=some d/\P.info? t=some i/\(I.du=[]->i.size=I.size/\i.bytes=I.bytes)/\uB ti P I i.zero d
def lV (P:Program)(ti:Nat->Option TI):Prop:= ∀t I,ti t=some I->oq ti P t I
section
variable {P:Program}{c:Ctx}{Z:cb}{e:Env}{st:St}{a:Act}{w:World}{R:Type}{K:St->Option R}{r:R}{Q:Exit->Act->World->Prop}{o:Oper}
theorem gl {x:Bool}{k:Option R}(h:bU x k=some r):x=true/\k=some r:=by
 cases x
 ·simp [bU] at h
 ·exact ⟨rfl,h⟩
theorem qA {α:Type}{x:Option α}{k:α->Option R}(h:bd x k=some r): ∃y,x=some y/\k y=some r:=by
 cases x with
 |none=>simp [bd] at h
 |some y=>exact ⟨y,rfl,h⟩
theorem Pq {l:List MV}{i:Int}{k:MV->Option R}(h:idx l i k=some r):0<=i/\ ∃y,l[i.toNat]? =some y/\k y=some r:=by
 unfold idx agQ at h;by_cases hi:0<=i
 ·simp only [hi,if_true] at h;cases hl:l[i.toNat]? with
  |none=>simp [hl] at h
  |some y=>exact ⟨hi,y,rfl,by simpa [hl] using h⟩
 ·simp [hi] at h
theorem oq.agg {ti:Nat->Option TI}{t:Nat}{I:TI}(h:oq ti P t I)(hc:I.du=[]): (∃d,P.underlying t=some d/\d.isRow=true/\(I.st=true\/I.st=false/\I.size=32))\/(∃d,P.underlying t=some d/\d.isRow=false/\I.st=false/\I.size=1):=by
 obtain ⟨d,i,h1,h2,h3,h4⟩:=h;cases d<;>simp only [uB] at h4<;>first
  |exact .inl ⟨_,h1,rfl,.inl h4.1⟩
  |exact .inl ⟨_,h1,rfl,.inr ⟨h4.1,h4.2.2.1⟩⟩
  |exact .inr ⟨_,h1,rfl,h4.1,h4.2.2.1⟩
  |exact absurd hc h4.2.1
theorem oq.info {ti:Nat->Option TI}{t:Nat}{I:TI}(h:oq ti P t I)(hc:I.du=[]): ∃i,P.info? t=some i/\i.size=I.size/\i.bytes=I.bytes:=by obtain ⟨d,i,h1,h2,h3,h4⟩:=h;exact ⟨i,h2,h3 hc⟩
theorem cc {t:Nat}{I:TI}(h:c.tv t=some I):c.ti t=some I/\I.du=[]:=by
 unfold Ctx.tv at h;cases hc:c.ti t with
 |none=>simp [hc] at h
 |some J=>
  cases hj:J.du with
  |nil=>simp [hc,hj] at h;subst h;exact ⟨rfl,hj⟩
  |cons x y=>simp [hc,hj] at h
theorem Sv {s t:TypeId}{x:Operand}{I:TI}(ho:o.op= .convert s t x)(hI:c.ti t=some I)(hT:lV P c.ti)(hs: ∃d,P.underlying s=some d){fk:Option FloatKind}(hfk: ∀k,fk=some k->P.underlying t=some (.float k))(h:cG c Z e st a w)(hK:Yy I fk (bw c st x) (λs=>bY c st o.dst s K)=some r):Rd P c Z K r e a w o (λ_=>True):=by
 obtain ⟨hx,_⟩:=h.eval x;obtain ⟨ds,hds⟩:=hs;obtain ⟨d,i,h1,h2,h3,h4⟩:=hT t I hI;generalize bw c st x=s' at hx hK;unfold Yy at hK;split at hK
 ·rename_i k k' n eR Hi hl;have hd:d= .int k:=by cases d<;>simp only [uB,hl,eR,Hi] at h4<;>simp_all
  subst hd;refine kj h ?_ (zV _ _) trivial hK;simp [execOp,ho,pS hx,convert,run_underlying hds,run_underlying h1,Conv.intToInt]
 ·rename_i l eR Hi hl;have hd:d= .string:=by cases d<;>simp only [uB,hl,eR,Hi] at h4<;>simp_all
  subst hd;obtain ⟨b,hb,rfl⟩:=FZ hx;refine kj h ?_ (acW b) trivial hK;simp [execOp,ho,hb,convert,run_underlying hds,run_underlying h1]
 ·rename_i k x eR Hi hl;have hd:d= .int k:=by cases d<;>simp only [uB,hl,eR,Hi] at h4<;>simp_all
  subst hd;obtain ⟨n,hn,hK⟩:=qA hK;obtain ⟨hr,hK⟩:=gl hK;have hr:=of_decide_eq_true hr;refine kj h ?_ (zV _ _) trivial hK;simp [execOp,ho,Nk hx,convert,run_underlying hds,run_underlying h1,Conv.floatToInt,hn,hr]
 ·rename_i k n eR Hi hl;split at hK
  ·have Ky:=hfk _ rfl;refine kj h ?_ (YU _ rfl) trivial hK;simp [execOp,ho,pS hx,convert,run_underlying hds,run_underlying Ky,Conv.intToFloat]
  ·simp at hK
 ·simp at hK
theorem acZ {op:BinOp}{k:IntKind}{x y:Int}{m:MV}{t:TypeId}(hm:Uw op k x y=some m): ∃v,(∀w:World,(binOp op t (.int k x) (.int k y)).run P w= .ok v w)/\ah e v (.sc (.p m)):=by
 cases op<;>simp only [Uw,AT,reduceCtorEq] at hm<;>subst hm
 ·exact ⟨_,by simp [binOp,adY],zV _ _⟩
 ·exact ⟨_,by simp [binOp,adY],zV _ _⟩
 ·exact ⟨_,by simp [binOp,adY],zV _ _⟩
 ·refine ⟨.bool (decide (x=y)),λw=> ?_,Dr _⟩;simp [binOp,adb];rfl
 ·refine ⟨.bool (!decide (x=y)),λw=> ?_,Dr _⟩;simp [binOp,adb];rfl
 ·exact ⟨.bool (decide (x<y)),by simp [binOp,adb],Dr _⟩
 ·exact ⟨.bool (decide (x<=y)),by simp [binOp,adb],Dr _⟩
 ·exact ⟨.bool (decide (y<x)),by simp [binOp,adb],Dr _⟩
 ·exact ⟨.bool (decide (y<=x)),by simp [binOp,adb],Dr _⟩
theorem toList_data (b:ByteArray):b.toList=b.data.toList:=by exact ByteArray.toList_eq b
theorem ac0 {op:BinOp}{x y:ByteArray}{m:MV}{t:TypeId}(hm:M9 op x.data.toList y.data.toList=some m): ∃v,(∀w:World,(binOp op t (.string x) (.string y)).run P w= .ok v w)/\ah e v (.sc (.p m)):=by
 have an0:(x.data.toList==y.data.toList)=decide (x.data.toList=y.data.toList):=by rw [Bool.eq_iff_iff];simp
 cases op<;>simp only [M9,AT,reduceCtorEq] at hm<;>subst hm<;> exact ⟨_,λw=>by simp only [binOp,Op.stringOp,toList_data,an0];rfl,Dr _⟩
theorem Wb (b:ByteArray)(n:Nat):b[n]? =b.data.toList[n]? :=by
 by_cases h:n<b.size
 ·have h2:n<b.data.toList.length:=by simpa using h
  rw [getElem?_pos b n h,By h2];rfl
 ·have h2: ¬n<b.data.toList.length:=by simpa using h
  rw [getElem?_neg b n h,acG (by omega)]
theorem CI (x:lQ)(n:Nat)(h:n<32):(bT x)[n]? =some (.int .u8 ((x.l.getD n 0).toNat:Int)):=by
 have hl:n<x.l.length:=by rw [x.h];exact h
 simp [bT,aa5,List.getD,By hl]
theorem aj1 {t:TypeId}{x y:Operand}{I:TI}(ho:o.op= .index t x y)(hI:c.ti t=some I)(hT:lV P c.ti)(h:cG c Z e st a w)(hK:ixK I (bw c st x) (bw c st y) (λs=>bY c st o.dst s K)=some r):Rd P c Z K r e a w o (λ_=>True):=by
 obtain ⟨hx,_⟩:=h.eval x;obtain ⟨hy,_⟩:=h.eval y;obtain ⟨d,i,h1,h2,h3,h4⟩:=hT t I hI;generalize bw c st x=sx at hx hK;generalize bw c st y=sy at hy hK;unfold ixK at hK;split at hK
 ·rename_i l k n eR hl;have hd:d= .string:=by cases d<;>simp only [uB,hl,eR] at h4<;>simp_all
  subst hd;cases hc:decide ((0:Int)<=n/\n<(l.length:Int)) with
  |false=>simp [bU,hc] at hK
  |true=>
   simp only [bU,hc] at hK;obtain ⟨hn0,KH⟩:=of_decide_eq_true hc;obtain ⟨b,hb,rfl⟩:=FZ hx;have dK:n.toNat<b.data.toList.length:=by omega
   refine kj h ?_ (zV .u8 ((b.data.toList.getD n.toNat 0).toNat:Int)) trivial hK;have hg:b[n.toNat]? =some (b.data.toList.getD n.toNat 0):=by rw [Wb,By dK];simp [List.getD,By dK]
   simp [execOp,ho,hb,pS hy,Instr.index,run_underlying h1,asIntOf,hn0,hg]
 ·rename_i b k n eR hl;cases d<;>simp only [uB,hl,eR] at h4<;>first|(exfalso;simp_all;done)|skip
  rename_i len el;cases hc:decide ((0:Int)<=n/\n<32) with
  |false=>simp [bU,hc] at hK
  |true=>
   simp only [bU,hc] at hK;obtain ⟨hn0,KH⟩:=of_decide_eq_true hc;simp only [ah] at hx;obtain ⟨_,_,_,rfl,_,⟨ie,hu,oQ,za⟩,_⟩:=h4;refine kj h ?_ (zV .u8 ((b.l.getD n.toNat 0).toNat:Int)) trivial hK;have hg:=CI b n.toNat (by omega);have hg':(bT b).toArray[n.toNat]? =some (.int .u8 ((b.l.getD n.toNat 0).toNat:Int)):=by simpa using hg
   simp [execOp,ho,hx,pS hy,Instr.index,run_underlying h1,asIntOf,hn0,KH,afq,isAgg,run_underlying hu,abG,typeInfo,oQ,za,hg,hg']
 ·simp at hK
def Sw (P:Program)(ti:Nat->Option TI):Prop:= ∀t I,ti t=some I->I.du=[]-> ∀(e:Env) (w:World) (vx vy:Value) (sx sy:Slot) (b:Bool),ah e vx sx->ah e vy sy-> jV I.lay (bm sx)=true->jV I.lay (bm sy)=true->vD I.st sx=true->vD I.st sy=true->jU (bm sx) (bm sy)=some b-> (∀k n k' n',sx= .sc (.p (.i k n))->sy= .sc (.p (.i k' n'))->False)->(∀l l',sx= .sc (.p (.s l))->sy= .sc (.p (.s l'))->False)-> (af1 t vx vy).run P w= .ok b w/\ ∀(x y:Operand) (op:BinOp),(eqGuard op t x y vx vy).run P w= .ok () w/\(op= .eql->binOp op t vx vy=(do pure (.bool (<-af1 t vx vy))))/\(op= .neq->binOp op t vx vy=(do pure (.bool (!(<-af1 t vx vy)))))
theorem YW {op:BinOp} {t t':TypeId}{x y:Operand}(ho:o.op= .binOp op t x y t')(h:cG c Z e st a w)(hE:Sw P c.ti)(hK:agR (c.tv t) op (bw c st x) (bw c st y) (λs=>bY c st o.dst s K)=some r):Rd P c Z K r e a w o (λ_=>True):=by
 obtain ⟨hx,_⟩:=h.eval x;obtain ⟨hy,_⟩:=h.eval y;generalize hsx:bw c st x=sx at hx hK;generalize hsy:bw c st y=sy at hy hK;have cC: ∀v,(∀w:World,(binOp op t (a.eval x) (a.eval y)).run P w= .ok v w)->(∀cs,a.eval x≠ .agg cs)->a.eval x≠ .nilIface-> ∀w:World,(execOp a.eval o).run P w= .ok (.value v) w:=by
  intro v hv hna hni w;have hg:(eqGuard op t x y (a.eval x) (a.eval y)).run P w= .ok () w:=by
   generalize a.eval x=va at hna hni;generalize a.eval y=vb;have hm: ∀(u v:Value),u=va->(∀cs,u≠ .agg cs)->u≠ .nilIface->(eqGuard op t x y u v).run P w= .ok () w:=by
    intro u v _ h1 h2;cases u<;>first
     |exact absurd rfl h2
     |exact absurd rfl (h1 _)
     |(cases op<;>rfl)
   exact hm va vb rfl hna hni
  simp [execOp,ho,hg,hv]
 unfold agR at hK;split at hK
 ·rename_i k n k' n';have e1:=pS hx;have e2:=pS hy;split at hK
  ·cases hk:decide (k=k') with
   |false=>simp [hk] at hK
   |true=>
    have hk:=of_decide_eq_true hk;subst hk;simp only [decide_true,cond_true] at hK;cases hz:decide (n'=0) with
    |true=>simp [bU,hz] at hK
    |false=>simp only [bU,hz,afI] at hK;have hz:=of_decide_eq_false hz;refine kj h (cC _ ?_ (by simp [e1]) (by simp [e1])) (zV _ _) trivial hK;simp [binOp,e1,e2,Op.intDiv,hz]
  ·cases hk:decide (k=k') with
   |false=>simp [hk] at hK
   |true=>
    have hk:=of_decide_eq_true hk;subst hk;simp only [decide_true,cond_true] at hK;cases hz:decide (n'=0) with
    |true=>simp [bU,hz] at hK
    |false=>simp only [bU,hz,afI] at hK;have hz:=of_decide_eq_false hz;refine kj h (cC _ ?_ (by simp [e1]) (by simp [e1])) (zV _ _) trivial hK;simp [binOp,e1,e2,Op.intDiv,hz]
  ·cases hz:decide ((0:Int)<=n') with
   |false=>simp [bU,hz] at hK
   |true=>
    simp only [bU,hz] at hK;have hz:=of_decide_eq_true hz;refine kj h (cC _ ?_ (by simp [e1]) (by simp [e1])) (zV _ _) trivial hK;have: ¬n'<0:=by omega
    simp [binOp,e1,e2,Op.shift,this]
  ·cases hz:decide ((0:Int)<=n') with
   |false=>simp [bU,hz] at hK
   |true=>
    simp only [bU,hz] at hK;have hz:=of_decide_eq_true hz;refine kj h (cC _ ?_ (by simp [e1]) (by simp [e1])) (zV _ _) trivial hK;have: ¬n'<0:=by omega
    simp [binOp,e1,e2,Op.shift,this]
  ·cases hk:decide (k=k') with
   |false=>simp [hk] at hK
   |true=>
    have hk:=of_decide_eq_true hk;subst hk;simp only [decide_true,cond_true] at hK;cases hm:Uw op k n n' with
    |none=>simp [hm] at hK
    |some m=>simp only [hm] at hK;obtain ⟨v,hv,hr⟩:=acZ (P:=P) (e:=e) (t:=t) hm;exact kj h (cC v (by rw [e1,e2];exact hv) (by simp [e1]) (by simp [e1])) hr trivial hK
 ·rename_i l l';obtain ⟨b,hb,rfl⟩:=FZ hx;obtain ⟨b',E0,rfl⟩:=FZ hy;split at hK
  ·obtain ⟨hz,hK⟩:=gl hK
   ·have hz:=of_decide_eq_true hz;have hr:ah e (.string (b++b')) (.sc (.p (.s (b.data.toList++b'.data.toList)))):=by have:=acW (e:=e) (b++b');simpa [ByteArray.data_append] using this
    refine kj h (cC _ ?_ (by simp [hb]) (by simp [hb])) hr trivial hK;have hs: ¬(((b.size+b'.size:Nat):Int)>IntKind.i64.max):=by
     have h1:b.size=b.data.toList.length:=by simp
     have h2:b'.size=b'.data.toList.length:=by simp
     have:IntKind.i64.max=9223372036854775807:=by decide
     rw [this];omega
    intro w;simp only [binOp,hb,E0,Op.stringOp,hs,if_false];rfl
  ·cases hm:M9 op b.data.toList b'.data.toList with
   |none=>simp [hm] at hK
   |some m=>simp only [hm] at hK;obtain ⟨v,hv,hr⟩:=ac0 (P:=P) (e:=e) (t:=t) hm;exact kj h (cC v (by rw [hb,E0];exact hv) (by simp [hb]) (by simp [hb])) hr trivial hK
 ·have e1:=Nk hx;have e2:=Nk hy;obtain ⟨r',hr',hK⟩:=qA hK;refine kj h (cC _ ?_ (by simp [e1]) (by simp [e1])) (YU (.float .f64 r') rfl) trivial hK;intro w;cases op<;>simp only [ajQ,reduceCtorEq] at hr'<;>simp [binOp,e1,e2,Op.floatArith,hr']
 ·rename_i KH GM hn3;split at hK
  ·rename_i I hI;obtain ⟨O1,R3⟩:=cc hI;cases hf:jV I.lay (bm sx)&&jV I.lay (bm sy)&&(vD I.st sx&&vD I.st sy) with
   |false=>simp [hf] at hK
   |true=>
    simp only [hf,cond_true] at hK;simp only [aaG] at hf;obtain ⟨hf,hsh⟩:=hf;split at hK
    ·cases hm:jU (bm sx) (bm sy) with
     |none=>simp [hm] at hK
     |some b=>simp only [hm] at hK;refine kj h ?_ (Dr b) trivial hK;intro w;obtain ⟨h1,h2⟩:=hE t I O1 R3 e w _ _ sx sy b hx hy hf.1 hf.2 hsh.1 hsh.2 hm KH GM;have:=(h2 x y .eql).1;simp [execOp,ho,this,(h2 x y .eql).2.1 rfl,h1]
    ·cases hm:jU (bm sx) (bm sy) with
     |none=>simp [hm] at hK
     |some b=>simp only [hm] at hK;refine kj h ?_ (Dr (!b)) trivial hK;intro w;obtain ⟨h1,h2⟩:=hE t I O1 R3 e w _ _ sx sy b hx hy hf.1 hf.2 hsh.1 hsh.2 hm KH GM;have:=(h2 x y .neq).1;simp [execOp,ho,this,(h2 x y .neq).2.2 rfl,h1]
    ·simp at hK
  ·simp at hK
end
end Dn
/-
  Lengths, parts, places, loads. Conditions: none.
-/
namespace Dn
open Go
section
variable {P:Program}{c:Ctx}{Z:cb}{e:Env}{st:St}{a:Act}{w:World}{R:Type}{K:St->Option R}{r:R}{Q:Exit->Act->World->Prop}{o:Oper}
theorem cell_of {bB:Nat}{arr:Array Value}{T:TypeId}{fr:Nat×Nat}(h:w.heap[bB]? =some (.cells arr T fr))(j:Nat):w.cell? ⟨bB,j,none⟩=arr[j]? :=by simp [World.cell?,h]
theorem oX {t:TypeId}{I:TI}{bB off:Nat}{vs:List Value}(hr:oq c.ti P t I)(hc:I.du=[])(hl:vs.length=I.size)(hm:w.rangeAt bB off vs): ((I.st=true\/I.size=32)/\ ∀w:World,w.rangeAt bB off vs->(acM t (.pointer (some ⟨bB,off,none⟩))).run P w= .ok (.agg vs.toArray) w)\/ (I.st=false/\ ∃v,vs=[v]/\ ∀w:World,w.rangeAt bB off vs->(acM t (.pointer (some ⟨bB,off,none⟩))).run P w= .ok v w):=by
 obtain ⟨i,hi,hs,_⟩:=hr.info hc;rcases hr.agg hc with ⟨d,hu,hd,hh⟩|⟨d,hu,hd,h1,h2⟩
 ·refine .inl ⟨hh.imp id (·.2),λw hm=> ?_⟩;exact run_loadAt_mid w bB off t vs d hm hu hd (by simp [hi,hs,hl])
 ·refine .inr ⟨h1,?_⟩;rw [h2] at hl;obtain ⟨v,rfl⟩:=adF.1 hl;refine ⟨v,rfl,λw hm=> ?_⟩;have uQ:w.cell? ⟨bB,off,none⟩=some v:=hm 0 v rfl;have hag:(isAgg t).run P w= .ok false w:=by unfold isAgg;rw [aez,run_underlying hu w];cases d<;>simp_all
  simp [acM,acO,loadVar,hag,uQ]
theorem bp.slot {vs:List Value}{l:aS}{v:Value}(h:bp e vs l)(hv:(vs=[v]/\l.w=1)\/(v= .agg vs.toArray/\l.w=32)):ah e v (.sc l):=by
 rcases hv with ⟨rfl,hw⟩|⟨rfl,hw⟩
 ·cases l<;>simp [ah,aS.w] at hw⊢ <;>exact h
 ·cases l<;>simp [aS.w] at hw;simp only [ah];have:vs=bT _:=h;rw [this]
theorem kl {t:TypeId}{I:TI}{cs:List aS}{bB base off:Nat}{vs:List Value}{s:Slot} {K':Slot->Option R}(hr:oq c.ti P t I)(hc:I.du=[])(hv:aJ e vs cs)(hm:w.rangeAt bB base vs)(hK:kG I cs off K'=some r): ∃v s,(∀w:World,w.rangeAt bB base vs->(acM t (.pointer (some ⟨bB,base+off,none⟩))).run P w= .ok v w)/\ah e v s/\cZ st.fr s/\K' s=some r:=by
 unfold kG at hK;cases eR:I.st with
 |true=>
  simp only [eR,cond_true] at hK;cases hp:Dn.part cs off I.size with
  |none=>simp [hp] at hK
  |some ds=>
   simp only [hp] at hK;obtain ⟨v1,v2,v3,rfl,h1,h2,h3⟩:=Lz hp hv;have UF: ∀w:World,w.rangeAt bB base (v1++v2++v3)->w.rangeAt bB (base+off) v2:=by intro w hm j v hj;have Kz:j<v2.length:=(AS.1 hj).1;have:=hm (off+j) v (by rw [AI,No (by omega),OF (by omega)];rw [show off+j-v1.length=j by omega];exact hj);rwa [<-acJ] at this
   rcases oX hr hc h2 (UF w hm) with ⟨_,cC⟩|⟨hf,_⟩
   ·refine ⟨_,.ag ds,λw hm=>cC w (UF w hm),?_,trivial,hK⟩;simp only [ah];exact ⟨_,rfl,by simpa using h3⟩
   ·rw [eR] at hf;cases hf
 |false=>
  simp only [eR,cond_false] at hK;cases hp:cut cs off with
  |none=>simp [hp] at hK
  |some ds=>
   cases ds with
   |nil=>simp [hp] at hK
   |cons l ls=>
    simp only [hp] at hK;cases hb:c8 l.w I.size with
    |false=>simp [hb] at hK
    |true=>
     simp only [hb,cond_true] at hK;have hw:=sh hb;obtain ⟨v1,v2,rfl,h1,h2⟩:=zT hp hv;obtain ⟨u,u2,rfl,h3,h4⟩:=h2;have UF: ∀w:World,w.rangeAt bB base (v1++(u++u2))->w.rangeAt bB (base+off) u:=by intro w hm j v hj;have Kz:j<u.length:=(AS.1 hj).1;have:=hm (off+j) v (by rw [No (by omega),OF (by omega)];rw [show off+j-v1.length=j by omega];exact hj);rwa [<-acJ] at this
     rcases oX hr hc (by rw [h3.width,hw]) (UF w hm) with ⟨hh,cC⟩|⟨_,v,Wc,cC⟩
     ·refine ⟨_,.sc l,λw hm=>cC w (UF w hm),h3.slot (.inr ⟨rfl,?_⟩),trivial,hK⟩;rcases hh with hh|hh
      ·rw [eR] at hh;cases hh
      ·rw [hw,hh]
     ·refine ⟨_,.sc l,λw hm=>cC w (UF w hm),h3.slot (.inl ⟨Wc,?_⟩),trivial,hK⟩;rw [<-h3.width,Wc];rfl
theorem bx.at {key:Nat->Nat} {φ:Ph}{size:Nat}{xs:List MV}: ∀{cs:List Value}{i:Nat}{x:MV},bx key φ size cs xs->xs[i]? =some x-> ∃a v b,cs=a++v++b/\a.length=i *size/\v.length=size/\nn key φ v x:=by
 induction xs with
 |nil=>intro cs i x _ hx;simp at hx
 |cons y ys ih=>
  intro cs i x h hx;obtain ⟨v,q,rfl,hl,hr,he⟩:=h;cases i with
  |zero=>simp at hx;subst hx;exact ⟨[],v,q,by simp,by simp,hl,hr⟩
  |succ i=>obtain ⟨a,u,b,rfl,h1,h2,h3⟩:=ih he (by simpa using hx);exact ⟨v++a,u,b,by simp,by simp [hl,h1,acw,aeA],h2,h3⟩
theorem jj.leaves {ms:List MV}: ∀{vs:List Value}{cs:List aS},jj e.key e.φ vs ms->ea cs=some ms->(∀m,aS.p m∈cs->m.one=true)->aJ e vs cs:=by
 induction ms with
 |nil=>
  intro vs cs h hc _;cases h;cases cs with
  |nil=>rfl
  |cons l r=>cases hr:ea r<;>cases l<;>simp [ea,hr] at hc
 |cons m ms ih=>
  intro vs cs h hc ho;cases cs with
  |nil=>simp [ea] at hc
  |cons l r=>
   generalize Cj:vs=Sx at h;cases h with
   |cons v _ vs _ h1 h2=>
   subst Cj;cases hr:ea r with
   |none=>cases l<;>simp [ea,hr] at hc
   |some q=>
    have dh: ∀m,aS.p m∈r->m.one=true:=λm hm=>ho m (by simp [hm]);cases l<;>simp [ea,hr] at hc
    ·obtain ⟨rfl,rfl⟩:=hc;exact ⟨v,vs,rfl,⟨ho _ (by simp),h1⟩,ih h2 hr dh⟩
    ·obtain ⟨rfl,rfl⟩:=hc;refine ⟨v,vs,rfl,?_,ih h2 hr dh⟩;generalize hv:v=v' at h1;cases h1;exact rfl
theorem nn.H0 {vs:List Value}{x:MV}{b:Bool}{cs:List aS}(h:nn e.key e.φ vs x)(hc:HR b x cs):aJ e vs cs:=by
 obtain ⟨⟨ms,h1,h2⟩,h3⟩:=hc;cases b with
 |true=>cases ms<;>simp [Dh] at h2<;>subst h2<;>(generalize hv:vs=v' at h;cases h;subst hv;rename_i hh;exact hh.leaves h1 h3)
 |false=>
  cases ms with
  |nil=>simp [Dh] at h2
  |cons m ms=>
   cases ms with
   |cons y ys=>simp [Dh] at h2
   |nil=>simp [Dh] at h2;subst h2;have:jj e.key e.φ (vs++[]) [m]:= .cons vs m [] [] h .nil;rw [List.append_nil] at this;exact this.leaves h1 h3
theorem YX {t:TypeId}{x:Operand}{I:TI}{cs:List aS}{off:Nat}(ho:o.op= .load t x)(hI:c.tv t=some I)(hT:lV P c.ti)(h:cG c Z e st a w)(H2:bw c st x= .rp cs off)(hK:kG I cs off (λs=>bY c st o.dst s K)=some r):Rd P c Z K r e a w o (λw'=> ∀b q v,e.φ b q=some v->w'.cell? ⟨b,q,none⟩=some v):=by
 obtain ⟨hx,qz⟩:=h.eval x;obtain ⟨uC,hc⟩:=cc hI;have hr:=hT t I uC;rw [H2] at hx;simp only [ah] at hx;obtain ⟨bB,q,vs,hx,rO,_,E4⟩:=hx;have hm: ∀w':World,(∀b q v,e.φ b q=some v->w'.cell? ⟨b,q,none⟩=some v)->w'.rangeAt bB q vs:=by intro w' hi j v hj;have Kz:j<vs.length:=(AS.1 hj).1;exact hi _ _ _ (by rw [E4 j Kz];exact hj)
 obtain ⟨v,s,h1,h2,h3,h4⟩:=kl (st:=st) (s:= .skip) hr hc rO (hm w h.qe) hK;refine Wa (λw' hi=> ?_) h (.refl _ _ _) (.of h2 h3) h4;simp [execOp,ho,hx,h1 w' (hm w' hi)]
theorem ac2 {t:TypeId}{x:Operand}{I:TI}(ho:o.op= .load t x)(hI:c.tv t=some I)(hT:lV P c.ti)(h:cG c Z e st a w)(hK:ldK st I (bw c st x) (λs=>bY c st o.dst s K)=some r):Rd P c Z K r e a w o (eG w):=by
 obtain ⟨hx,qz⟩:=h.eval x;obtain ⟨uC,hc⟩:=cc hI;have hr:=hT t I uC;have ac3: ∀v s,(∀w':World,eG w w'->(acM t (a.eval x)).run P w'= .ok v w')->ah e v s->cZ st.fr s->bY c st o.dst s K=some r->Rd P c Z K r e a w o (eG w):=by intro v s h1 h2 h3 h4;refine Wa (λw' hg=> ?_) h (.refl _ _ _) (.of h2 h3) h4;simp [execOp,ho,h1 w' hg]
 have keep: ∀{w':World} {bB off:Nat} {vs:List Value},eG w w'->w.rangeAt bB off vs->w'.rangeAt bB off vs:=by intro w' bB off vs hg hm j v hj;exact hg.cell (hm j v hj)
 generalize bw c st x=s at hx hK qz;unfold ldK at hK;split at hK
 ·rename_i root off;simp only [ah] at hx;have oW:=h.slot root;split at hK
  ·rename_i cs xz;rw [xz] at oW;have Ds:fT cs=false:=by cases hq:fT cs<;>simp_all
   simp only [Ds,cond_false] at hK;obtain ⟨_,vF⟩:=oW;obtain ⟨arr,T,dx,rO⟩:=vF.cells Ds;have hm:w.rangeAt (e.B root) 0 arr.toList:=by intro j v hj;rw [aaI,cell_of dx];simpa using hj
   obtain ⟨v,s,h1,h2,h3,h4⟩:=kl (st:=st) (s:= .skip) hr hc rO hm hK;rw [aaI] at h1;exact ac3 v s (λw' hg=>by rw [hx];exact h1 w' (keep hg hm)) h2 h3 h4
  ·simp at hK
 ·rename_i cs off;simp only [ah] at hx;obtain ⟨bB,q,vs,hx,rO,_,E4⟩:=hx;have hm:w.rangeAt bB q vs:=by intro j v hj;have Kz:j<vs.length:=(AS.1 hj).1;exact h.qe _ _ _ (by rw [E4 j Kz];exact hj)
  obtain ⟨v,s,h1,h2,h3,h4⟩:=kl (st:=st) (s:= .skip) hr hc rO hm hK;exact ac3 v s (λw' hg=>by rw [hx];exact h1 w' (keep hg hm)) h2 h3 h4
 ·rename_i f i off b cs;cases hf:aV st.bk f with
  |none=>simp [hf] at hK
  |some o'=>
   simp only [hf] at hK;simp only [ah] at hx;obtain ⟨bB,cap,hE,⟨x,hxi,hel⟩,hx⟩:=hx o' (by rw [h.m];exact hf);obtain ⟨J,cells,hJ,hJc,eS,km,_⟩:=(h.jN f o' hf).row;obtain ⟨p1,v1,p2,rfl,Bh,sr,gm⟩:=km.at hxi;have rO:=gm.H0 hel;rw [hE] at eS;have uQ:=eS.cells (g:=bB) rfl;have hm:w.rangeAt bB (i *zO cs) v1:=by intro j v hj;have Kz:j<v1.length:=(AS.1 hj).1;have:=uQ (i *J.size+j) v (by rw [AI,No (by omega),OF (by omega)];rw [show i *J.size+j-p1.length=j by omega];exact hj);rw [acC,aaI] at this;rw [<-rO.width,sr];exact this
   obtain ⟨v,s,h1,h2,h3,h4⟩:=kl (st:=st) (s:= .skip) hr hc rO hm hK;exact ac3 v s (λw' hg=>by rw [hx];exact h1 w' (keep hg hm)) h2 h3 h4
 ·rename_i root off i;simp only [ah] at hx;obtain ⟨hx,Sy⟩:=hx;have oW:=h.slot root;cases hb:I.st||!c8 I.size 1 with
  |true=>simp [hb] at hK
  |false=>
   simp only [hb,cond_false] at hK;simp only [aaL,acP] at hb;have wu:=sh hb.2;split at hK
   ·rename_i cs xz;rw [xz] at oW;have Ds:fT cs=false:=by cases hq:fT cs<;>simp_all
    simp only [Ds,cond_false] at hK;obtain ⟨_,vF⟩:=oW;obtain ⟨arr,T,dx,rO⟩:=vF.cells Ds;split at hK
    ·rename_i b ls aha;obtain ⟨v1,v2,an1,h1,h2⟩:=zT aha rO;obtain ⟨u,u2,rfl,h3,h4⟩:=h2;have h3:u=bT b:=h3;subst h3;have hg:=CI b i Sy;have hlen:=dJ b;have hm:w.rangeAt (e.B root) (off+i) [.int .u8 ((b.l.getD i 0).toNat:Int)]:=by
      intro j v hj;cases j with
      |succ j=>simp at hj
      |zero=>
       simp at hj;rw [acN,cell_of dx];have:arr[off+i]? =arr.toList[off+i]? :=by simp
       rw [this,an1,No (by omega),OF (by omega),show off+i-v1.length=i by omega,hg,<-hj];simp [List.getD]
     rcases oX hr hc (by simp [wu]) hm with ⟨hh,_⟩|⟨_,v,Wc,cC⟩
     ·rcases hh with hh|hh
      ·rw [hb.1] at hh;cases hh
      ·omega
     ·simp at Wc;subst Wc;exact ac3 _ _ (λw' hg=>by rw [hx];exact cC w' (keep hg hm)) (zV _ _) trivial hK
    ·simp at hK
   ·simp at hK
 ·simp at hK
theorem Wd {t:TypeId}{x:Operand}{f:Nat}{I:TI}(ho:o.op= .fieldAddr t x f)(hI:c.tv t=some I)(hT:lV P c.ti)(h:cG c Z e st a w)(hK:Yz st I f (bw c st x) (λs=>bY c st o.dst s K)=some r):Rd P c Z K r e a w o (λ_=>True):=by
 obtain ⟨hx,qz⟩:=h.eval x;obtain ⟨uC,hc⟩:=cc hI;obtain ⟨d,i,h1,h2,h3,h4⟩:=hT t I uC;have key: ∀q bB off,I.st=true->I.xC[f]? =some q->a.eval x= .pointer (some ⟨bB,off,none⟩)-> ∀w:World,(execOp a.eval o).run P w= .ok (.value (.pointer (some ⟨bB,off+q,none⟩))) w:=by
  intro q bB off eR hq hv w;cases d<;>simp only [uB] at h4;case struct fs=>
   obtain ⟨_,_,_,ho1,dh,Yc,_⟩:=h4;rw [<-ho1,aa5] at hq;cases hf:fs.toList[f]? with
   |none=>simp [hf] at hq
   |some fl=>
    simp [hf] at hq;subst hq;have UG:fs[f]? =some fl:=by simpa using hf
    obtain ⟨J,hJ,hJc,hJs⟩:=Yc f fl UG;obtain ⟨ij,Nn,hs,_⟩:=(hT _ _ hJ).info hJc;have hz:ij.size≠0:=by omega
    simp [execOp,ho,hv,Instr.fieldAt,run_underlying h1,UG,acO,fieldPlace,abG,typeInfo,Nn,hz,acC]
  all_goals (exfalso;simp_all)
 generalize bw c st x=s at hx hK qz;unfold Yz at hK;split at hK
 ·rename_i q r' o' eR hq;simp only [ah] at hx;refine kj (s:= .ptr r' (o'+q)) h (key q _ _ eR hq hx) ?_ qz hK;simp only [ah]
 ·rename_i q cs o' eR hq;simp only [ah] at hx;obtain ⟨bB,b,vs,hx,hh⟩:=hx;refine kj (s:= .rp cs (o'+q)) h (key q _ _ eR hq hx) ?_ trivial hK;simp only [ah];exact ⟨bB,b,vs,by rw [acJ],hh⟩
 ·rename_i q g i' o' b cs eR hq;cases hf:aV st.bk g with
  |none=>simp [hf] at hK
  |some w'=>simp only [hf] at hK;simp only [ah] at hx;obtain ⟨bB,cap,h5,h6,h7⟩:=hx w' (by rw [h.m];exact hf);refine kj (s:= .ep g i' (o'+q) b cs) h (key q _ _ eR hq h7) ?_ trivial hK;simp only [ah];intro o2 dh;rw [h.m,hf] at dh;cases dh;exact ⟨bB,cap,h5,h6,by rw [acJ]⟩
 ·simp at hK
theorem ahb {x:Operand}{k:Nat}(ho:o.op= .extract x k)(h:cG c Z e st a w)(hK:agW (bw c st x) k (λs=>bY c st o.dst s K)=some r):Rd P c Z K r e a w o (λ_=>True):=by
 obtain ⟨hx,qz⟩:=h.eval x;generalize bw c st x=s at hx hK;unfold agW at hK;split at hK
 ·rename_i vs;simp only [ah] at hx;obtain ⟨arr,hv,hs⟩:=hx;cases hk:vs[k]? with
  |none=>simp [hk] at hK
  |some s=>
   simp only [hk] at hK;have: ∀(k:Nat) (vs:List Slot) (l:List Value),kH e l vs->vs[k]? =some s-> ∃v,l[k]? =some v/\ah e v s/\Dl s=true:=by
    intro k;induction k with
    |zero=>
     intro vs l hl hk;cases vs with
     |nil=>simp at hk
     |cons y ys=>simp at hk;subst hk;simp only [kH] at hl;obtain ⟨v,q,rfl,h1,h2,_⟩:=hl;exact ⟨v,rfl,h1,h2⟩
    |succ k ih=>
     intro vs l hl hk;cases vs with
     |nil=>simp at hk
     |cons y ys=>simp only [kH] at hl;obtain ⟨v,q,rfl,_,_,h3⟩:=hl;obtain ⟨u,h4,h5⟩:=ih ys q h3 (by simpa using hk);exact ⟨u,by simpa using h4,h5⟩
   obtain ⟨v,hv2,h1,h2⟩:=this k vs arr.toList hs hk;have hv3:arr[k]? =some v:=by simpa using hv2
   refine kj h ?_ h1 ?_ hK
   ·simp [execOp,ho,hv,Instr.extract,hv3]
   ·cases s<;>simp [Dl] at h2<;>trivial
 ·simp at hK
end
end Dn
/-
  Operations that make memory: variables. Conditions: none.
-/
namespace Dn
open Go
section
variable {P:Program}{c:Ctx}{Z:cb}{e:Env}{st:St}{a:Act} {w w':World}{R:Type}{K:St->Option R}{r:R}{Q:Exit->Act->World->Prop}{o:Oper}
theorem eG.refl (w:World):eG w w:=⟨aaf _,λ_ _=>rfl,.refl _⟩
theorem eG.alloc (w:World)(cs:Array Value)(t:TypeId):eG w (w.alloc (.cells cs t)):=⟨by simp,λb hb=>Bd w _ b hb,.alloc w cs t⟩
theorem eG.an2 (g:eG w w'){base:Nat}{t:TypeId}{size:Nat}{v:Value}{n:Nat}{xs:List Value}(h:w.ownsRow base t size v n xs):w'.ownsRow base t size v n xs:=by
 refine ⟨h.1,?_⟩;rcases h.2 with h|⟨b,cap,dL,h1,h2,h3,h4⟩
 ·exact .inl h
 ·exact .inr ⟨b,cap,dL,h1,h2,by rw [g.Bg b (bZ h3)];exact h3,h4⟩
theorem uP.grow (g:eG w w'){bB:Nat}{cs:List aS}(h:uP Z e w bB cs):uP Z e w' bB cs:=by obtain ⟨o,h1,h2⟩:=h.obj;exact ⟨h.dm,⟨o,by rw [g.Bg _ (bZ h1)];exact h1,h2⟩,h.free⟩
theorem dH.grow (g:eG w w'){v:Value}{f:oS}(h:dH c Z e w v f):dH c Z e w' v f:=by obtain ⟨I,cells,h1,h2,h3,h4,h5⟩:=h.row;exact ⟨I,cells,h1,h2,g.an2 h3,h4,h5⟩
theorem cG.grow (g:eG w w')(h:cG c Z e st a w):cG c Z e st a w':=by refine ⟨h.defers,h.size,h.m,h.key,h.nodup,?_,h.root,λf o ho=>(h.jN f o ho).grow g,h.bb,h.bf,h.ff,λb o v hv=>g.cell (h.qe b o v hv),λb hb=>h.dm b (adC g.size hb)⟩;intro t;have hs:=h.slot t;generalize av st.fr t=s at hs;cases s<;>simp only [cz] at hs⊢ <;>first|exact hs|exact ⟨hs.1,hs.2.grow g⟩
theorem eG.trans (g:eG w w')(hz: ∀b,w.heap.size<=b->Z b) (φ:Ph):Trans Z φ w φ w':=⟨.refl φ,λb _ hl=>g.Bg b hl,λ_ _ _=>rfl,g.size,g.rest⟩
theorem We {l:aS}{vs:List Value}(h:YL l vs=true):bp e vs l:=by
 unfold YL at h;split at h
 ·simp at h;subst h;exact ⟨rfl,.b _⟩
 ·simp at h;obtain ⟨rfl,rfl⟩:=h;exact ⟨rfl,.i _ _⟩
 ·simp at h;subst h;exact ⟨rfl,.s _⟩
 ·split at h
  ·exact ⟨rfl,.raw _ rfl⟩
  ·exact ⟨rfl,.raw _ rfl⟩
  ·exact ⟨rfl,.raw _ rfl⟩
  ·simp at h
 ·rfl
 ·exact ⟨_,rfl,h⟩
 ·rename_i x;simp only [aaG,beq_iff_eq] at h;obtain ⟨h1,h2⟩:=h;show vs=bT x;apply List.ext_getElem?;intro j;by_cases hj:j<32
  ·rw [CI x j hj];have hjv:j<vs.length:=by omega
   have KA:j<x.l.length:=by rw [x.h];exact hj
   rw [aeE] at h2;have hm:(vs[j],x.l[j])∈vs.zip x.l:=aec.2 ⟨j,by simp;omega,by simp⟩;have:=h2 _ hm;rw [By hjv];dsimp only at this;split at this
   ·rename_i n hn;rw [hn,of_decide_eq_true this];simp [List.getD,By KA]
   ·simp at this
  ·rw [acG (by omega),acG (by rw [dJ];omega)]
 ·simp at h
theorem qR {ls:List aS}: ∀{vs:List Value},uO ls vs=true->aJ e vs ls:=by
 induction ls with
 |nil=>intro vs h;simpa [uO,aJ] using h
 |cons l r ih=>intro vs h;simp only [uO,aaG] at h;exact ⟨vs.take l.w,vs.drop l.w,by simp,We h.1.1,ih h.1.2⟩
theorem aJ.Ck {cs:List aS}{vs:List Value}(h:aJ e vs cs):fT cs=false:=by
 cases hm:fT cs with
 |false=>rfl
 |true=>obtain ⟨s,ms,rfl⟩:=Ni hm;obtain ⟨_,_,_,h1,_⟩:=h;exact h1.elim
theorem Ps (h:cG c Z e st a w)(off:Nat):e.φ w.heap.size off=none:=by
 cases hp:e.φ w.heap.size off with
 |none=>rfl
 |some v=>have:=aaX w _ (h.qe _ _ _ hp);simp at this
theorem Hj (h:cG c Z e st a w):(∀t gK,av st.fr t= .box gK->e.B t≠w.heap.size)/\(∀f o,aV st.bk f=some o->(e.E f).ownBlock≠some w.heap.size):=by
 refine ⟨?_,?_⟩
 ·intro t gK ht;have hs:=h.slot t;rw [ht] at hs;obtain ⟨o,h1,_⟩:=hs.2.obj;have:=bZ h1;omega
 ·intro f o ho hk;obtain ⟨I,cells,h1,h2,h3,h4,h5⟩:=(h.jN f o ho).row;rcases h3.2 with ⟨hv,_⟩|⟨g,cap,dL,hv,_,hg,_⟩
  ·rw [hv] at hk;simp [BY] at hk
  ·rw [hv] at hk;simp only [BY,AT] at hk;have:=bZ hg;omega
theorem UH {cells:Array Value}{T:TypeId}{cs:List aS}(h:cG c Z e st a w)(hl:aJ e cells.toList cs): tf Z e (w.alloc (.cells cells T)) st (.pointer (some ⟨w.heap.size,0,none⟩)) (.box cs):=by exact ⟨w.heap.size,by rw [vE hl.Ck],⟨h.dm _ (aaf _),⟨_,nK w _,rfl,hl⟩,Ps h⟩,(Hj h).1,(Hj h).2⟩
theorem YY {t:TypeId}{I:TI}(ho:o.op= .alloc t)(hI:c.tv t=some I)(hT:lV P c.ti)(h:cG c Z e st a w)(hK:bY c st o.dst (.box I.zero) K=some r):o.wp P a w (λa' w'=>eG w w'/\Out c Z K r e.φ w a' w') Q:=by
 obtain ⟨uC,hc⟩:=cc hI;obtain ⟨d,i,h1,h2,h3,h4⟩:=hT t I uC;have hz: ∃z,i.zero=some z/\aJ e z.cells.toList I.zero:=by
  cases d<;>simp only [uB] at h4;case struct fs=>obtain ⟨_,_,_,_,_,_,cs,hz,hl,_⟩:=h4;exact ⟨_,hz,by simpa [aai] using qR hl⟩
  case tuple ts=>exact absurd hc h4.2.1
  case slice el=>obtain ⟨_,_,_,_,_,hz,hl,_⟩:=h4;exact ⟨_,hz,by rw [hl];exact ⟨[.slice none 0 0],[],rfl,rfl,rfl⟩⟩
  case array n el=>obtain ⟨_,_,_,_,_,_,_,hl,hz⟩:=h4;exact ⟨_,hz,by rw [hl];exact ⟨bT lQ.zero,[],by simp [aai],rfl,rfl⟩⟩
  case bool=>obtain ⟨_,_,_,_,hl,hz⟩:=h4;exact ⟨_,hz,by rw [hl];exact ⟨[.bool false],[],rfl,⟨rfl,.b _⟩,rfl⟩⟩
  case int k=>obtain ⟨_,_,_,_,hl,hz⟩:=h4;exact ⟨_,hz,by rw [hl];exact ⟨[.int k 0],[],rfl,⟨rfl,.i _ _⟩,rfl⟩⟩
  case string=>obtain ⟨_,_,_,_,hl,b,hz,hb⟩:=h4;refine ⟨_,hz,by rw [hl];refine ⟨[.string b],[],rfl,⟨rfl,?_⟩,rfl⟩;rw [<-hb];exact .s b⟩
  all_goals
   obtain ⟨_,_,_,_,v,hz,hv,hl⟩:=h4;refine ⟨v,hz,?_⟩;have:v.cells.toList=[v]:=by cases v<;>simp_all [aai,aaa]
   rw [this];exact qR hl
 obtain ⟨z,hz,hl⟩:=hz;have cC:(execOp a.eval o).run P w= .ok (.value (.pointer (some ⟨w.heap.size,0,none⟩))) (w.alloc (.cells z.cells t)):=by simp [execOp,ho,Instr.alloc,zeroValue,typeInfo,h2,hz,newVar,newRow,newObj,Sem.run]
 exact YT (.alloc w _ _) cC (h.grow (.alloc w _ _)) ((eG.alloc w _ _).trans h.dm _) (UH h hl) hK
theorem ahd {t:TypeId}{x:Operand}{I:TI}(ho:o.op= .box t x)(h:cG c Z e st a w)(hK:agT I (bw c st x) (λs=>bY c st o.dst s K)=some r):o.wp P a w (λa' w'=>eG w w'/\Out c Z K r e.φ w a' w') Q:=by
 obtain ⟨hx,qz⟩:=h.eval x;have cC:(execOp a.eval o).run P w= .ok (.value (.pointer (some ⟨w.heap.size,0,none⟩))) (w.alloc (.cells (a.eval x).cells t)):=by simp [execOp,ho,Instr.box,newVar,newRow,newObj,Sem.run]
 have go: ∀cs,aJ e (a.eval x).cells.toList cs->bY c st o.dst (.box cs) K=some r->o.wp P a w (λa' w'=>eG w w'/\Out c Z K r e.φ w a' w') Q:=λcs h1 h2=>YT (.alloc w _ _) cC (h.grow (.alloc w _ _)) ((eG.alloc w _ _).trans h.dm _) (UH h h1) h2;generalize bw c st x=s at hx hK qz;unfold agT at hK;split at hK
 ·rename_i l;cases hb:I.st||Pa l||!c8 l.w I.size with
  |true=>simp [hb] at hK
  |false=>
   simp only [hb,cond_false] at hK;refine go [l] ?_ hK;cases l with
   |un=>simp [Pa] at hb
   |hs y=>simp only [ah] at hx;rw [hx];exact ⟨bT y,[],by simp [aai],rfl,rfl⟩
   |p m=>
    simp only [ah] at hx;have:(a.eval x).cells.toList=[a.eval x]:=by have:=hx.cells (a.eval x) (by simp);generalize a.eval x=v at this;cases v<;>simp_all [aai,aaa]
    rw [this];exact ⟨_,[],rfl,hx,rfl⟩
   |nil=>simp only [ah] at hx;have hx':[a.eval x]=[ab1 none 0 0]:=hx;simp at hx';rw [hx'];exact ⟨[.slice none 0 0],[],rfl,rfl,rfl⟩
   |mp s es=>simp [Pa] at hb
   |own f=>
    simp only [ah] at hx;have:(a.eval x).cells.toList=[a.eval x]:=by have:=hx.cells (a.eval x) (by simp);generalize a.eval x=v at this;cases v<;>simp_all [aai,aaa]
    rw [this];exact ⟨_,[],rfl,hx,rfl⟩
 ·rename_i cs;cases hb:I.st&&!wm cs&&c8 (zO cs) I.size with
  |false=>simp [hb] at hK
  |true=>simp only [hb,cond_true] at hK;simp only [ah] at hx;obtain ⟨arr,hx,hl⟩:=hx;exact go cs (by rw [hx];exact hl) hK
 ·simp at hK
end
end Dn
/-
  Stores into variables. Conditions: none.
-/
namespace Dn
open Go
section
variable {P:Program}{c:Ctx}{Z:cb}{e:Env}{st:St}{a:Act} {w w':World}{R:Type}{K:St->Option R}{r:R}{Q:Exit->Act->World->Prop}{o:Oper}
theorem setRow_size (w:World)(g:Nat)(cs:Array Value):(w.setRow g cs).heap.size=w.heap.size:=by simp [afQ]
structure Chg (g:Nat) (w w':World):Prop where
 size:w'.heap.size=w.heap.size
 other: ∀b,b≠g->w'.heap[b]? =w.heap[b]?
 rest:Rest w w'
theorem Chg.setRow (w:World)(g:Nat)(cs:Array Value):Chg g w (w.setRow g cs):=⟨setRow_size _ _ _,λb hb=>setRow_other _ _ _ _ hb,.setRow _ _ _⟩
theorem Pt {g:Nat}(hc:Chg g w w'){base:Nat}{t:TypeId}{size:Nat}{v:Value}{n:Nat}{xs:List Value}(dG:v.ownBlock≠some g)(h:w.ownsRow base t size v n xs):w'.ownsRow base t size v n xs:=by
 refine ⟨h.1,?_⟩;rcases h.2 with h|⟨b,cap,dL,h1,h2,h3,h4⟩
 ·exact .inl h
 ·refine .inr ⟨b,cap,dL,h1,h2,?_,h4⟩;rw [hc.other _ (by intro e;subst e;subst h1;exact dG rfl)];exact h3
theorem Sz {g:Nat}{cs:Array Value}{base:Nat}{t:TypeId}{size:Nat}{v:Value}{n:Nat}{xs:List Value}(dG:v.ownBlock≠some g)(h:w.ownsRow base t size v n xs):(w.setRow g cs).ownsRow base t size v n xs:=Pt (.setRow w g cs) dG h
theorem cG.setObj {root:Nat}{cs gK:List aS} {o':Obj}{qd:Fr}(h:cG c Z e st a w)(hf:av st.fr root= .box cs)(YZ:Chg (e.B root) w w')(lN:w'.heap[e.B root]? =some o')(hl:ki e o' gK)(hmm:mG gK=mG cs)(E5: ∀t,av qd t=if t=root then .box gK else av st.fr t)(hnd:(bg qd).Nodup):cG c Z e {st with fr:=qd} a w':=by
 have wu:=YZ.size;have kc:=h.slot root;rw [hf] at kc;refine ⟨h.defers,h.size,h.m,h.key,hnd,?_,?_,?_,?_,?_,h.ff,?_,λb hb=>h.dm b (by omega)⟩
 ·intro t;show cz Z e _ t _ (av qd t);rw [E5];by_cases ht:t=root
  ·subst ht;simp only [if_true,cz];exact ⟨kc.1.mG hmm,⟨kc.2.dm,⟨o',lN,hl⟩,kc.2.free⟩⟩
  ·simp only [ht,if_false];have hs:=h.slot t;have ET:=h.bb t root;generalize hg:av st.fr t=s at hs ET;cases s<;>simp only [cz] at hs⊢ <;>try exact hs
   rename_i lu;refine ⟨hs.1,hs.2.dm,?_,hs.2.free⟩;obtain ⟨o2,h1,h2⟩:=hs.2.obj;exact ⟨o2,by rw [YZ.other _ (ET lu cs rfl hf ht)];exact h1,h2⟩
 ·intro t;show cZ qd (av qd t);rw [E5];by_cases ht:t=root
  ·simp [ht,cZ]
  ·simp only [ht,if_false];have hr:=h.root t;generalize av st.fr t=s at hr;cases s<;>simp only [cZ] at hr⊢ <;>(rw [E5];split<;>simp_all [dv])
 ·intro f o ho;obtain ⟨I,cells,h1,h2,h3,h4,h5⟩:=(h.jN f o ho).row;exact ⟨I,cells,h1,h2,Pt YZ (h.bf root cs f o hf ho) h3,h4,h5⟩
 ·intro t t' c1 c2 h1 h2 dG;have h1:av qd t= .box c1:=h1;have h2:av qd t'= .box c2:=h2;rw [E5] at h1 h2;by_cases ht:t=root
  ·by_cases CH:t'=root
   ·exact absurd (ht.trans CH.symm) dG
   ·simp only [CH,if_false] at h2;rw [ht];exact h.bb root t' cs c2 hf h2 (by rw [<-ht];exact dG)
  ·simp only [ht,if_false] at h1;by_cases CH:t'=root
   ·rw [CH];exact h.bb t root c1 cs h1 hf ht
   ·simp only [CH,if_false] at h2;exact h.bb t t' c1 c2 h1 h2 dG
 ·intro t c1 f o h1 h2;have h1:av qd t= .box c1:=h1;rw [E5] at h1;by_cases ht:t=root
  ·rw [ht];exact h.bf root cs f o hf h2
  ·simp only [ht,if_false] at h1;exact h.bf t c1 f o h1 h2
 ·intro b o v hv;have dG:b≠e.B root:=by intro eb;subst eb;rw [kc.2.free] at hv;cases hv
  have:=h.qe b o v hv;rw [abH (YZ.other _ dG)];exact this
theorem cG.Y0 {root:Nat}{cs gK:List aS}{arr ac5:Array Value}{T:TypeId}{qd:Fr}(h:cG c Z e st a w)(hf:av st.fr root= .box cs)(dx:w.heap[e.B root]? =some (.cells arr T (0,0)))(hl:aJ e ac5.toList gK)(E5: ∀t,av qd t=if t=root then .box gK else av st.fr t)(hnd:(bg qd).Nodup):cG c Z e {st with fr:=qd} a (w.setRow (e.B root) ac5):=by
 have kc:=h.slot root;rw [hf] at kc;have hm:fT cs=false:=by obtain ⟨o,h1,h2⟩:=kc.2.obj;rw [dx] at h1;cases h1;exact h2.2.Ck
 exact h.setObj hf (.setRow _ _ _) (setRow_heap _ _ _ _ _ _ dx) ⟨rfl,hl⟩ (by rw [xK hm,xK hl.Ck]) E5 hnd
theorem Trans.chg {g:Nat} (φ:Ph)(YZ:Chg g w w')(hz:Z g):Trans Z φ w φ w':=⟨.refl φ,λb hb _=>YZ.other _ (by intro e;subst e;exact hb hz),λ_ _ _=>rfl,by rw [YZ.size];exact aaf _,YZ.rest⟩
theorem Trans.setRow {g:Nat}{ac5:Array Value} (φ:Ph)(hz:Z g):Trans Z φ w φ (w.setRow g ac5):=⟨.refl φ,λb hb _=>setRow_other _ _ _ _ (by intro e;subst e;exact hb hz),λ_ _ _=>rfl,by rw [setRow_size];exact aaf _,.setRow _ _ _⟩
theorem Cl {v:Value}{s:Slot}(h:ah e v s)(hu:wm (bm s)=false)(dG:bm s≠[]):aJ e v.cells.toList (bm s):=by
 cases s with
 |sc l=>
  simp only [bm] at hu⊢;have jO: ∀l,bp e [v] l->aJ e v.cells.toList [l]:=by
   intro l hl;have hc:=hl.cells v (by simp);have:v.cells.toList=[v]:=by cases v<;>simp_all [aai,aaa]
   rw [this];exact ⟨[v],[],rfl,hl,rfl⟩
  cases l with
  |un=>simp [wm,Pa] at hu
  |hs x=>simp only [ah] at h;rw [h];exact ⟨bT x,[],by simp [aai],rfl,rfl⟩
  |p m=>simp only [ah] at h;exact jO _ h
  |nil=>simp only [ah] at h;exact jO _ h
  |mp s es=>simp [wm,Pa] at hu
  |own f=>simp only [ah] at h;exact jO _ h
 |ag cs=>simp only [ah] at h;obtain ⟨arr,rfl,hl⟩:=h;exact hl
 |_=>exact absurd rfl dG
theorem nM {t:TypeId}{I:TI}{bB off:Nat}{v:Value}{arr:Array Value}{T:TypeId}(hr:oq c.ti P t I)(hc:I.du=[])(hs:v.cells.toList.length=I.size)(jO: ∀u∈v.cells.toList,u.oneCell'=true)(dx:w.heap[bB]? =some (.cells arr T (0,0)))(zu:off+I.size<=arr.size): (ac6 t (.pointer (some ⟨bB,off,none⟩)) v).run P w= .ok () (w.setRow bB (arr.toList.take off++v.cells.toList++arr.toList.drop (off+I.size)).toArray):=by
 obtain ⟨i,hi,wu,_⟩:=hr.info hc;have h1:=run_storeCells_at P bB off T v.cells.toList 0 arr w dx (by omega) jO;rw [acN,hs] at h1;have h2:v.cells.size=i.size:=by rw [wu,<-hs];simp
 simp [ac6,acO,storeVar,abG,typeInfo,hi,h2,h1]
theorem Wf {t:TypeId}{I:TI}{root off:Nat}{v:Value}{cs ls gK:List aS} {K':St->Option R}(Ds:fT cs=false)(hr:oq c.ti P t I)(hc:I.du=[])(h:cG c Z e st a w)(hf:av st.fr root= .box cs)(hv:aJ e v.cells.toList ls)(GN:zO ls=I.size)(hp:putAt cs off ls=some gK)(hK:wr st root (.box gK) K'=some r): ∃w' cO,(ac6 t (.pointer (some ⟨e.B root,off,none⟩)) v).run P w= .ok () w'/\cG c Z e cO a w'/\Trans Z e.φ w e.φ w'/\K' cO=some r:=by
 have oW:=h.slot root;rw [hf] at oW;obtain ⟨arr,T,dx,rO⟩:=oW.2.cells Ds;obtain ⟨v1,v2,v3,he,h1,h2,h3⟩:=xJ hp rO hv;have hlen:=hv.width;have wu:arr.size=v1.length+v2.length+v3.length:=by
  have:arr.toList.length=(v1++v2++v3).length:=by rw [he]
  simp at this;omega
 have cC:=nM (P:=P) (w:=w) (bB:=e.B root) (off:=off) hr hc (by rw [hlen,GN]) hv.cells dx (by omega);have aj3:arr.toList.take off=v1:=by rw [he,AI,acL h1]
 have aj4:arr.toList.drop (off+I.size)=v3:=by rw [he];exact acD (by rw [IS];omega)
 rw [aj3,aj4] at cC;unfold wr at hK;cases hn:bX st.df root with
 |true=>simp [hn] at hK
 |false=>simp only [hn,cond_false,force_eq,nL] at hK;refine ⟨_,_,cC,?_,.setRow _ (Pm oW.2.dm (by rw [<-h.defers.2.1,<-b8,hn];simp)),hK⟩;exact h.Y0 hf dx (by simpa using h3) (λt=>by rw [cr]) (fG h.nodup)
end
end Dn
/-
  Owned slices that are shared from now on; what is handed to a callee. Conditions: none.
-/
namespace Dn
open Go
section
variable {P:Program}{c:Ctx}{Z:cb}{e:Env}{st:St}{a:Act} {w w':World}{R:Type}{K:St->Option R}{r:R}{Q:Exit->Act->World->Prop}{o:Oper}
theorem bx.mono {key:Nat->Nat} {φ φ':Ph}(h:sn φ φ'){size:Nat}{xs:List MV}: ∀{cs:List Value},bx key φ size cs xs->bx key φ' size cs xs:=by
 induction xs with
 |nil=>intro cs hh;exact hh
 |cons x xs ih=>intro cs hh;obtain ⟨v,q,rfl,h1,h2,h3⟩:=hh;exact ⟨v,q,rfl,h1,h2.mono h,ih h3⟩
theorem bx.length {key:Nat->Nat} {φ:Ph}{size:Nat}{xs:List MV}: ∀{cs:List Value},bx key φ size cs xs->cs.length=xs.length *size:=by
 induction xs with
 |nil=>intro cs hh;cases hh;simp
 |cons x xs ih=>intro cs hh;obtain ⟨v,q,rfl,h1,h2,h3⟩:=hh;simp [h1,ih h3,acw,aeA]
theorem SA {m:List (Nat×oS)}{f:Nat}{o:oS}(h:aV m f=some o):cw m f o=m:=by
 induction m with
 |nil=>simp [aV] at h
 |cons p r ih=>
  obtain ⟨k,x⟩:=p;simp only [aV,cw,gj] at h⊢;by_cases hk:k=f
  ·subst hk;simp at h;subst h;simp
  ·simp only [hk,decide_false,cond_false] at h⊢;rw [ih h]
def oY (φ:Ph)(v:Value)(cells:List Value):Ph:=λb off=>if v.ownBlock=some b/\off<cells.length then cells[off]? else φ b off
theorem F1 {base:Nat}{t:TypeId}{size n:Nat}{v:Value}{xs ys:List Value}(h:w.ownsRow base t size v n xs) (h':w.ownsRow base t size v n ys){b:Nat}(hb:v.ownBlock=some b):xs=ys:=by
 rcases h.2 with ⟨h1,_⟩|⟨g,cap,dL,h1,_,h2,_,_,_,h3⟩
 ·rw [h1] at hb;simp [BY] at hb
 ·rcases h'.2 with ⟨Ky,_⟩|⟨g',ahe,nd,Ky,_,Pu,_,_,_,h3'⟩
  ·rw [Ky] at hb;simp [BY] at hb
  ·rw [h1] at Ky;simp at Ky;obtain ⟨rfl,rfl⟩:=Ky;rw [h2] at Pu;simp at Pu;subst Pu;rw [<-h3,<-h3']
theorem freeze {f:Nat}{o:oS}(h:cG c Z e st a w)(hf:aV st.bk f=some o)(hp:f∉Z.cY\/o.eT=true): ∃φ',sn e.φ φ'/\(∀b off,¬Z b->φ' b off=e.φ b off)/\cG c Z {e with φ:=φ',m:=cw e.m f ⟨o.ty,true,o.xs⟩} {st with bk:=cw st.bk f ⟨o.ty,true,o.xs⟩} a w/\ nn e.key φ' [e.E f] (.list o.xs)/\ (∀I cells,c.ti o.ty=some I->w.ownsRow 0 o.ty I.size (e.E f) o.xs.length cells-> ∀bB,(e.E f).ownBlock=some bB-> ∀j,j<cells.length->φ' bB j=cells[j]?):=by
 obtain ⟨I,cells,hI,Y1,eS,km,hz⟩:=(h.jN f o hf).row;have hlen:=km.length;have hle:sn e.φ (oY e.φ (e.E f) cells):=by
  intro b off v hv;unfold oY;by_cases hc:(e.E f).ownBlock=some b/\off<cells.length
  ·simp only [hc,and_self,if_true];obtain ⟨hb,ho⟩:=hc;rcases eS.2 with ⟨hE,_⟩|⟨g,cap,dL,hE,_,hg,hn,Hi,xz,R4⟩
   ·rw [hE] at hb;simp [BY] at hb
   ·rw [hE] at hb;simp only [BY,AT] at hb;subst hb;have:=h.qe _ _ _ hv;rw [cell_of hg] at this;rw [<-R4,aa6];have dh:off<o.xs.length *I.size:=by omega
    simp only [dh,if_true];simpa using this
  ·simp only [hc,if_false];exact hv
 have kb: ∀b off v,oY e.φ (e.E f) cells b off=some v->w.cell? ⟨b,off,none⟩=some v:=by
  intro b off v hv;unfold oY at hv;by_cases hc:(e.E f).ownBlock=some b/\off<cells.length
  ·simp only [hc,and_self,if_true] at hv;rcases eS.2 with ⟨hE,_⟩|⟨g,cap,dL,hE,_,hg,hn,Hi,xz,R4⟩
   ·rw [hE] at hc;simp [BY] at hc
   ·rw [hE] at hc;simp only [BY,AT] at hc;obtain ⟨hb,ho⟩:=hc;subst hb;rw [cell_of hg];rw [<-R4,aa6] at hv;have dh:off<o.xs.length *I.size:=by omega
    simp only [dh,if_true] at hv;simpa using hv
  ·simp only [hc,if_false] at hv;exact h.qe _ _ _ hv
 have aj5: ∀b off,¬Z b->oY e.φ (e.E f) cells b off=e.φ b off:=by
  intro b off hb;unfold oY;by_cases hc:(e.E f).ownBlock=some b/\off<cells.length
  ·by_cases CJ:f∈Z.cY
   ·simp only [hc,and_self,if_true];exact (((hz b hc.1).2.2 CJ (hp.resolve_left (λhn=>hn CJ))) off hc.2).symm
   ·exact absurd (Pm (hz b hc.1).1 CJ) hb
  ·simp [hc]
 have SB: ∀b off,(e.E f).ownBlock≠some b->oY e.φ (e.E f) cells b off=e.φ b off:=by intro b off hb;unfold oY;simp [hb]
 have vG:lr (λ_=>True) (λ_=>True) e {e with φ:=oY e.φ (e.E f) cells,m:=cw e.m f ⟨o.ty,true,o.xs⟩}:=by
  refine ⟨rfl,hle,λ_ _=>rfl,?_⟩;intro f2 o2 dh _;have dh:aV (cw e.m f ⟨o.ty,true,o.xs⟩) f2=some o2:=dh;rw [bG] at dh;by_cases fK:f2=f
  ·subst fK;simp at dh;subst dh;exact ⟨o,by rw [h.m];exact hf,rfl,rfl⟩
  ·simp only [fK,if_false] at dh;exact ⟨o2,dh,rfl,rfl⟩
 have lW: ∀s:Slot,gk (λ_=>True) (λ_=>True) s:=by intro s;cases s<;>simp [gk,jW]
 refine ⟨_,hle,aj5,?_,?_,?_⟩;rotate_right
 ·intro I' Y2 hI' aj6 bB hb j hj;rw [hI] at hI';cases hI';have hcc:=F1 eS aj6 hb;subst hcc;unfold oY;simp [hb,hj]
 ·refine ⟨h.defers,h.size,by show cw e.m f _=cw st.bk f _;rw [h.m],h.key,h.nodup,?_,h.root,?_,h.bb,?_,?_,kb,h.dm⟩
  ·intro t;have hs:=h.slot t;have hbf:=h.bf t;show cz Z _ w t _ (av st.fr t);generalize av st.fr t=s at hs hbf;cases s<;>simp only [cz] at hs⊢ <;>try exact hs.on vG (lW _)
   rename_i cs;refine ⟨hs.1,hs.2.dm,?_,?_⟩
   ·obtain ⟨o2,h1,h2⟩:=hs.2.obj;exact ⟨o2,h1,h2.on vG (λl _ f _=>trivial)⟩
   ·intro off;show oY e.φ (e.E f) cells (e.B t) off=none;rw [SB _ _ (hbf cs f o rfl hf)];exact hs.2.free off
  ·intro f2 o2 dh;have dh:aV (cw st.bk f ⟨o.ty,true,o.xs⟩) f2=some o2:=dh;rw [bG] at dh;by_cases fK:f2=f
   ·subst fK;simp at dh;subst dh;refine ⟨I,cells,hI,Y1,eS,km.mono hle,?_⟩;intro bB hb;refine ⟨(hz bB hb).1,?_,?_⟩;rotate_left
    ·intro _ _ j hj;show oY e.φ (e.E f2) cells bB j=_;have hb:(e.E f2).ownBlock=some bB:=hb;unfold oY;simp [hb,hj]
    intro off u hu;refine ⟨rfl,?_⟩;have hu:oY e.φ (e.E f2) cells bB off=some u:=hu;unfold oY at hu;by_cases hc:(e.E f2).ownBlock=some bB/\off<cells.length
    ·show off<o.xs.length *I.size;rw [<-hlen];exact hc.2
    ·simp only [hc,if_false] at hu;exact ((hz bB hb).2.1 off u hu).2
   ·simp only [fK,if_false] at dh;obtain ⟨I2,xL,h1,h2,h3,h4,h5⟩:=(h.jN f2 o2 dh).row;refine ⟨I2,xL,h1,h2,h3,h4.mono hle,?_⟩;intro bB hb;refine ⟨(h5 bB hb).1,?_,?_⟩;rotate_left
    ·intro g1 g2 j hj;show oY e.φ (e.E f) cells bB j=_;rw [SB _ _ (λhbf=>fK (h.ff f2 f o2 o bB dh hf hb hbf))];exact (h5 bB hb).2.2 g1 g2 j hj
    intro off u hu;have hu:oY e.φ (e.E f) cells bB off=some u:=hu;rw [SB _ _ (λhbf=>fK (h.ff f2 f o2 o bB dh hf hb hbf))] at hu;exact (h5 bB hb).2.1 off u hu
  ·intro t cs f2 o2 h1 h2;have h2:aV (cw st.bk f ⟨o.ty,true,o.xs⟩) f2=some o2:=h2;rw [bG] at h2;by_cases fK:f2=f
   ·subst fK;exact h.bf t cs f2 o h1 hf
   ·simp only [fK,if_false] at h2;exact h.bf t cs f2 o2 h1 h2
  ·intro f1 f2 o1 o2 k h1 h2 h3 h4;have h1:aV (cw st.bk f ⟨o.ty,true,o.xs⟩) f1=some o1:=h1;have h2:aV (cw st.bk f ⟨o.ty,true,o.xs⟩) f2=some o2:=h2;rw [bG] at h1 h2;have g1: ∃o',aV st.bk f1=some o':=by
    by_cases fK:f1=f
    ·subst fK;exact ⟨o,hf⟩
    ·simp only [fK,if_false] at h1;exact ⟨o1,h1⟩
   have g2: ∃o',aV st.bk f2=some o':=by
    by_cases fK:f2=f
    ·subst fK;exact ⟨o,hf⟩
    ·simp only [fK,if_false] at h2;exact ⟨o2,h2⟩
   obtain ⟨q1,g1⟩:=g1;obtain ⟨q2,g2⟩:=g2;exact h.ff f1 f2 q1 q2 k g1 g2 h3 h4
 ·have Dt:=km.mono hle;rcases eS.2 with ⟨hE,hn⟩|⟨g,cap,dL,hE,_,hg,hn,Hi,xz,R4⟩
  ·have hx:o.xs=[]:=IN hn;have hv:[e.E f]=[ab1 none 0 0]:=by rw [hE]
   rw [hv,hx];exact .list none 0 [] 0 0 0 (λ_=>[]) (by simp) (by simp) (by simp) (by simp) (by simp)
  ·have hv:[e.E f]=[ab1 (some ⟨g,0,none⟩) o.xs.length cap]:=by rw [hE]
   rw [hv];have Np: ∀i (hi:i<o.xs.length),∃v1,v1.length=I.size/\nn e.key (oY e.φ (e.E f) cells) v1 o.xs[i]/\(cells.drop (i *I.size)).take I.size=v1:=by intro i hi;obtain ⟨p1,v1,p2,he,Bh,sr,gm⟩:=Dt.at (By hi);refine ⟨v1,sr,gm,?_⟩;rw [he,AI,<-Bh,aeg,<-sr,acQ]
   refine .list (some ⟨g,0,none⟩) cap o.xs g 0 I.size (λi=>(cells.drop (i *I.size)).take I.size) hn (λ_=>rfl) ?_ ?_ ?_
   ·intro i hi;obtain ⟨v1,h1,_,h3⟩:=Np i hi;rw [h3,h1]
   ·intro i j hi hj;have hb:(e.E f).ownBlock=some g:=by rw [hE];rfl
    have H3:i *I.size+j<cells.length:=by
     rw [hlen];calc i *I.size+j<i *I.size+I.size:=by omega
      _=(i+1) *I.size:=by rw [acw]
      _<=o.xs.length *I.size:=aaj _ hi
    rw [aaI];unfold oY;simp only [hb,H3,and_self,if_true];rw [aa6];simp only [hj,if_true,acR]
   ·intro i hi;obtain ⟨v1,_,h2,h3⟩:=Np i hi;rw [h3];exact h2
end
end Dn
/-
  Arguments and results. Conditions: none.
-/
namespace Dn
open Go
structure Ext (Z:Nat->Prop) (e e':Env):Prop where
 on:lr (λ_=>True) (λ_=>True) e e'
 dm: ∀b off,¬Z b->e'.φ b off=e.φ b off
theorem Ext.refl (Z:Nat->Prop)(e:Env):Ext Z e e:=⟨⟨rfl,.refl _,λ_ _=>rfl,λf o h _=>⟨o,h,rfl,rfl⟩⟩,λ_ _ _=>rfl⟩
theorem Ext.trans {Z:Nat->Prop} {e e' e'':Env}(h:Ext Z e e') (h':Ext Z e' e''):Ext Z e e'':=by refine ⟨⟨h'.on.key.trans h.on.key,h.on.φ.trans h'.on.φ,λr hr=>(h'.on.B r hr).trans (h.on.B r hr),?_⟩,λb off hb=>(h'.dm b off hb).trans (h.dm b off hb)⟩;intro f o ho _;obtain ⟨o1,h1,h2,h3⟩:=h'.on.jN f o ho trivial;obtain ⟨o2,h4,h5,h6⟩:=h.on.jN f o1 h1 trivial;exact ⟨o2,h4,h2.trans h5,h3.trans h6⟩
theorem Ext.tr {Z:Nat->Prop} {e e':Env}{w:World}(h:Ext Z e e'):Trans Z e.φ w e'.φ w:=⟨h.on.φ,λ_ _ _=>rfl,h.dm,aaf _,.refl _⟩
theorem ey (s:Slot):gk (λ_=>True) (λ_=>True) s:=by cases s<;>simp [gk,jW]
def cN (key:Nat->Nat) (φ:Ph):List Value->List MV->Prop
 |vs,[]=>vs=[]
 |vs,m::ms=> ∃v r,vs=v::r/\gh key φ v m/\cN key φ r ms
theorem cN.mono {key:Nat->Nat} {φ φ':Ph}(h:sn φ φ'){ms:List MV}: ∀{vs:List Value},cN key φ vs ms->cN key φ' vs ms:=by
 induction ms with
 |nil=>intro vs hh;exact hh
 |cons m ms ih=>intro vs hh;obtain ⟨v,r,rfl,h1,h2⟩:=hh;exact ⟨v,r,rfl,h1.mono h,ih h2⟩
theorem cN.append {key:Nat->Nat} {φ:Ph}{ms ns:List MV}: ∀{vs us:List Value},cN key φ vs ms->cN key φ us ns->cN key φ (vs++us) (ms++ns):=by
 induction ms with
 |nil=>intro vs us h h';cases h;simpa using h'
 |cons m ms ih=>intro vs us h h';obtain ⟨v,r,rfl,h1,h2⟩:=h;exact ⟨v,r++us,rfl,h1,ih h2 h'⟩
section
variable {P:Program}{c:Ctx}{Z:cb}{e:Env}{st:St}{a:Act} {w w':World}{R:Type}{r:R}{Q:Exit->Act->World->Prop}{o:Oper}
theorem qS {l:aS}{vs:List Value}{K:MV->St->Option R}(h:cG c Z e st a w)(hl:bp e vs l)(hK:qc st l K=some r): ∃e' cO m,cG c Z e' cO a w/\Ext Z e e'/\cO.fr=st.fr/\nn e'.key e'.φ vs m/\K m cO=some r/\(uN l=true->e'=e/\cO=st)/\(∀f,l= .own f-> ∃o,aV st.bk f=some o/\m= .list o.xs)/\((∀x,l≠ .hs x)->m.one=true):=by
 cases l with
 |un=>simp [qc] at hK
 |p m=>exact ⟨e,st,m,h,.refl _ _,rfl,hl.2,hK,λ_=>⟨rfl,rfl⟩,by simp,λ_=>hl.1⟩
 |hs x=>have hl:vs=bT x:=hl;subst hl;exact ⟨e,st,.h x,h,.refl _ _,rfl,.h x,hK,λ_=>⟨rfl,rfl⟩,by simp,λhx=>absurd rfl (hx x)⟩
 |nil=>have hl:vs=[.slice none 0 0]:=hl;subst hl;exact ⟨e,st,.list [],h,.refl _ _,rfl,.list none 0 [] 0 0 0 (λ_=>[]) (by simp) (by simp) (by simp) (by simp) (by simp),hK,λhp=>by simp [uN] at hp,λ_ he=>(by cases he),λ_=>rfl⟩
 |mp s es=>simp [qc] at hK
 |own f=>
  simp only [qc] at hK;cases hf:aV st.bk f with
  |none=>simp [hf] at hK
  |some o=>
   simp only [hf] at hK;have CJ:f∉Z.cY\/o.eT=true:=by
    cases hz:o.eT with
    |true=>exact .inr rfl
    |false=>refine .inl (λhm=> ?_);rw [<-h.defers.2.2.1,<-b8] at hm;simp [hz,hm] at hK
   obtain ⟨φ',h1,h2,h3,h4,_⟩:=freeze h hf CJ;obtain ⟨v,rfl,hv,hE⟩:=hl;have hE:=hE o (by rw [h.m];exact hf);subst hE;have ac7:Ext Z e {e with φ:=φ',m:=cw e.m f ⟨o.ty,true,o.xs⟩}:=by
    refine ⟨⟨rfl,h1,λ_ _=>rfl,?_⟩,h2⟩;intro f2 o2 dh _;have dh:aV (cw e.m f ⟨o.ty,true,o.xs⟩) f2=some o2:=dh;rw [bG] at dh;by_cases fK:f2=f
    ·subst fK;simp at dh;subst dh;exact ⟨o,by rw [h.m];exact hf,rfl,rfl⟩
    ·simp only [fK,if_false] at dh;exact ⟨o2,dh,rfl,rfl⟩
   cases hz:o.eT with
   |true=>
    simp only [hz,cond_true] at hK;have aj8:cw st.bk f ⟨o.ty,true,o.xs⟩=st.bk:=by rw [<-hz];exact SA hf
    rw [aj8] at h3;exact ⟨_,st,.list o.xs,h3,ac7,rfl,h4,hK,λhp=>by simp [uN] at hp,λ_ he=>by cases he;exact ⟨o,hf,rfl⟩,λ_=>rfl⟩
   |false=>
    simp only [hz,cond_false] at hK;cases hn:bX st.cY f with
    |true=>simp [hn] at hK
    |false=>simp only [hn,cond_false,oV] at hK;exact ⟨_,_,.list o.xs,h3,ac7,rfl,h4,hK,λhp=>by simp [uN] at hp,λ_ he=>by cases he;exact ⟨o,hf,rfl⟩,λ_=>rfl⟩
theorem nt {ls:List aS}: ∀{e:Env}{st:St}{vs:List Value}{K:List MV->St->Option R},cG c Z e st a w->aJ e vs ls->qQ st ls K=some r-> ∃e' cO ms,cG c Z e' cO a w/\Ext Z e e'/\cO.fr=st.fr/\jj e'.key e'.φ vs ms/\K ms cO=some r/\(jS ls=true->e'=e/\cO=st)/\(∀ps,rQ ls ms=some ps->aJ e' vs ps/\jS ps=true):=by
 induction ls with
 |nil=>intro e st vs K h hl hK;cases hl;exact ⟨e,st,[],h,.refl _ _,rfl,.nil,hK,λ_=>⟨rfl,rfl⟩,λps hp=>by simp [rQ] at hp;subst hp;exact ⟨rfl,rfl⟩⟩
 |cons l ls ih=>
  intro e st vs K h hl hK;obtain ⟨v,u,rfl,h1,h2⟩:=hl;simp only [qQ] at hK;obtain ⟨e1,dA,m,za,De,E6,LD,su,hp1,_,jO⟩:=qS h h1 hK;obtain ⟨e2,ei,ms,Nq,Yd,ac8,hr2,zW,R5,Du⟩:=ih za (h2.on De.on (λl _ f _=>trivial)) su;have hrm:nn e2.key e2.φ v m:=by have:=LD.mono Yd.on.φ;rw [<-Yd.on.key] at this;exact this
  refine ⟨e2,ei,m::ms,Nq,De.trans Yd,ac8.trans E6,.cons v m u ms ?_ hr2,zW,?_,?_⟩
  ·have:=LD.mono Yd.on.φ;rw [<-Yd.on.key] at this;exact this
  ·intro hp;simp only [jS,aaG] at hp;obtain ⟨q1,q2⟩:=hp1 hp.1;obtain ⟨q3,q4⟩:=R5 hp.2;exact ⟨q3.trans q1,q4.trans q2⟩
  ·intro ps hp;cases hq:rQ ls ms with
   |none=>cases l<;>simp [rQ,hq] at hp
   |some q=>
    obtain ⟨g1,g2⟩:=Du q hq;by_cases hh: ∃x,l= .hs x
    ·obtain ⟨x,rfl⟩:=hh;simp [rQ,hq] at hp;subst hp;exact ⟨⟨v,u,rfl,h1,g1⟩,by simp [jS,uN,g2]⟩
    ·have jO:=jO (λx hx=>hh ⟨x,hx⟩);have Nr:ps= .p m::q:=by cases l<;>simp [rQ,hq] at hp<;>first|exact hp.symm|exact absurd ⟨_,rfl⟩ hh
     subst Nr;exact ⟨⟨v,u,rfl,⟨jO,hrm⟩,g1⟩,by simp [jS,uN,g2]⟩
theorem ot {s:Slot}{v:Value}{K:MV->St->Option R}(h:cG c Z e st a w)(hl:ah e v s)(hK:na st s K=some r): ∃e' cO m,cG c Z e' cO a w/\Ext Z e e'/\cO.fr=st.fr/\gh e'.key e'.φ v m/\K m cO=some r:=by
 cases s with
 |sc l=>
  simp only [na] at hK;cases l with
  |un=>simp [qc] at hK
  |hs x=>simp only [ah] at hl;exact ⟨e,st,.h x,h,.refl _ _,rfl,by simpa [gh,bT] using hl,hK⟩
  |p m=>simp only [ah] at hl;refine ⟨e,st,m,h,.refl _ _,rfl,?_,hK⟩;obtain ⟨h1,h2⟩:=hl;cases m<;>simp [MV.one] at h1<;>exact ⟨rfl,h2⟩
  |nil=>simp only [ah] at hl;obtain ⟨e',cO,m,q1,q2,q3,q4,q5,q6,_⟩:=qS h hl hK;have hl:[v]=[ab1 none 0 0]:=hl;refine ⟨e,st,.list [],h,.refl _ _,rfl,⟨rfl,?_⟩,hK⟩;rw [hl];exact .list none 0 [] 0 0 0 (λ_=>[]) (by simp) (by simp) (by simp) (by simp) (by simp)
  |mp s es=>simp [qc] at hK
  |own f=>
   simp only [ah] at hl;simp only [qc] at hK;cases hf:aV st.bk f with
   |none=>simp [hf] at hK
   |some o=>obtain ⟨e',cO,m,q1,q2,q3,q4,q5,q6,q7⟩:=qS (l:= .own f) h hl (by simpa only [qc,hf] using hK);obtain ⟨o2,_,rfl⟩:=q7.1 f rfl;exact ⟨e',cO,.list o2.xs,q1,q2,q3,⟨rfl,q4⟩,q5⟩
 |ag cs=>simp only [ah] at hl;obtain ⟨arr,hv,hl⟩:=hl;simp only [na] at hK;obtain ⟨e',cO,ms,q1,q2,q3,q4,q5,_⟩:=nt h hl hK;exact ⟨e',cO,.agg ms,q1,q2,q3,⟨arr,hv,q4⟩,q5⟩
 |rp cs off=>
  simp only [ah] at hl;obtain ⟨bB,q,vs,hv,rO,hp,E4⟩:=hl;simp only [na] at hK;cases hb:c8 off 0 with
  |false=>simp [hb] at hK
  |true=>simp only [hb,cond_true] at hK;have h0:=sh hb;subst h0;obtain ⟨e',cO,ms,q1,q2,q3,q4,q5,q6⟩:=nt h rO hK;obtain ⟨rfl,rfl⟩:=q6.1 hp;refine ⟨e',cO,.rp ms,q1,q2,q3,⟨rfl,?_⟩,q5⟩;rw [hv];exact .rp bB (q+0) vs ms q4 (by simpa using E4)
 |_=>simp [na] at hK
theorem sv {ss:List Slot}: ∀{e:Env}{st:St}{vs:List Value}{K:List MV->St->Option R},cG c Z e st a w->(∃f:Unit->List Value,f ()=vs/\vs.length=ss.length/\ ∀(i:Nat)(v:Value)(s:Slot),vs[i]? =some v->ss[i]? =some s->ah e v s)-> xF st ss K=some r-> ∃e' cO ms,cG c Z e' cO a w/\Ext Z e e'/\cO.fr=st.fr/\cN e'.key e'.φ vs ms/\K ms cO=some r:=by
 induction ss with
 |nil=>intro e st vs K h hl hK;obtain ⟨f,_,hlen,_⟩:=hl;have:=IN hlen;subst this;exact ⟨e,st,[],h,.refl _ _,rfl,rfl,hK⟩
 |cons s ss ih=>
  intro e st vs K h hl hK;obtain ⟨f,_,hlen,gm⟩:=hl;cases vs with
  |nil=>simp at hlen
  |cons v vs=>simp only [xF] at hK;obtain ⟨e1,dA,m,q1,q2,q3,q4,q5⟩:=ot h (gm 0 v s rfl rfl) hK;obtain ⟨e2,ei,ms,p1,p2,p3,p4,p5⟩:=ih (vs:=vs) q1 ⟨λ_=>vs,rfl,by simpa using hlen,λi v s h1 h2=>(gm (i+1) v s (by simpa using h1) (by simpa using h2)).on q2.on (ey s)⟩ q5;refine ⟨e2,ei,m::ms,p1,q2.trans p2,p3.trans q3,⟨v,vs,rfl,?_,p4⟩,p5⟩;have:=q4.mono p2.on.φ;rw [<-p2.on.key] at this;exact this
end
end Dn
/-
  Parts of structs, lengths, the least and the greatest, places of elements. Conditions: none.
-/
namespace Dn
open Go
section
variable {P:Program}{c:Ctx}{Z:cb}{e:Env}{st:St}{a:Act} {w w':World}{R:Type}{K:St->Option R}{r:R}{Q:Exit->Act->World->Prop}{o:Oper}
theorem LF {t:TypeId}{I:TI}(hr:oq c.ti P t I)(hc:I.du=[]): ((I.st=true\/I.size=32)/\ ∀w:World,(isAgg t).run P w= .ok true w)\/(I.st=false/\I.size=1/\ ∀w:World,(isAgg t).run P w= .ok false w):=by
 rcases hr.agg hc with ⟨d,hu,hd,hh⟩|⟨d,hu,hd,h1,h2⟩
 ·refine .inl ⟨hh.imp id (·.2),λw=> ?_⟩;unfold isAgg;rw [aez,run_underlying hu w];cases d<;>simp_all [TypeDesc.isRow]
 ·refine .inr ⟨h1,h2,λw=> ?_⟩;unfold isAgg;rw [aez,run_underlying hu w];cases d<;>simp_all [TypeDesc.isRow]
theorem Y3 {t:TypeId}{I:TI}{cs:List aS}{off:Nat}{arr:Array Value} {K':Slot->Option R}(hr:oq c.ti P t I)(hc:I.du=[])(hv:aJ e arr.toList cs)(hK:kG I cs off K'=some r): ∃v s,(∀w:World,(afq t arr off).run P w= .ok v w)/\ah e v s/\cZ st.fr s/\K' s=some r:=by
 obtain ⟨i,hi,hs,_⟩:=hr.info hc;have ext: ∀v1 v2 v3:List Value,arr.toList=v1++v2++v3->v1.length=off->(arr.extract off (off+v2.length))=v2.toArray:=by intro v1 v2 v3 h1 h2;apply abT.1;rw [aeh,h1,ac1,AI,<-h2,aeg];simp
 unfold kG at hK;cases eR:I.st with
 |true=>
  simp only [eR,cond_true] at hK;cases hp:Dn.part cs off I.size with
  |none=>simp [hp] at hK
  |some ds=>
   simp only [hp] at hK;obtain ⟨v1,v2,v3,h0,h1,h2,h3⟩:=Lz hp hv;rcases LF (P:=P) hr hc with ⟨_,hag⟩|⟨hf,_⟩
   ·refine ⟨.agg v2.toArray,.ag ds,?_,?_,trivial,hK⟩
    ·have hx:=ext v1 v2 v3 h0 h1;rw [h2] at hx;simp [afq,hag,abG,typeInfo,hi,hs,hx]
    ·simp only [ah];exact ⟨_,rfl,by simpa using h3⟩
   ·rw [eR] at hf;cases hf
 |false=>
  simp only [eR,cond_false] at hK;cases hp:cut cs off with
  |none=>simp [hp] at hK
  |some ds=>
   cases ds with
   |nil=>simp [hp] at hK
   |cons l ls=>
    simp only [hp] at hK;cases hb:c8 l.w I.size with
    |false=>simp [hb] at hK
    |true=>
     simp only [hb,cond_true] at hK;have hw:=sh hb;obtain ⟨v1,v2,h0,h1,h2⟩:=zT hp hv;obtain ⟨u,u2,rfl,h3,h4⟩:=h2;have hlu:u.length=I.size:=by rw [h3.width,hw]
     rcases LF (P:=P) hr hc with ⟨hh,hag⟩|⟨_,h1s,hag⟩
     ·refine ⟨.agg u.toArray,.sc l,?_,h3.slot (.inr ⟨rfl,?_⟩),trivial,hK⟩
      ·have hx:=ext v1 u u2 (by rw [h0,AI]) h1;rw [hlu] at hx;simp [afq,hag,abG,typeInfo,hi,hs,hx]
      ·rcases hh with hh|hh
       ·rw [eR] at hh;cases hh
       ·rw [hw,hh]
     ·obtain ⟨v,rfl⟩:=adF.1 (by rw [hlu,h1s]);refine ⟨v,.sc l,?_,h3.slot (.inl ⟨rfl,?_⟩),trivial,hK⟩
      ·have:arr[off]? =some v:=by
        have:arr[off]? =arr.toList[off]? :=by simp
        rw [this,h0,No (by omega),h1];simp
       simp [afq,hag,this]
      ·rw [hw,h1s]
theorem ahg {t:TypeId}{x:Operand}{f:Nat}{I:TI}(ho:o.op= .field t x f)(hI:c.tv t=some I)(hT:lV P c.ti)(h:cG c Z e st a w)(hK:agU c I f (bw c st x) (λs=>bY c st o.dst s K)=some r):Rd P c Z K r e a w o (λ_=>True):=by
 obtain ⟨hx,qz⟩:=h.eval x;obtain ⟨uC,hc⟩:=cc hI;obtain ⟨d,i,h1,h2,h3,h4⟩:=hT t I uC;generalize bw c st x=s at hx hK qz;unfold agU at hK;split at hK
 ·rename_i q y cs eR hq hy;simp only [ah] at hx;obtain ⟨arr,hx,rO⟩:=hx;cases hJ:c.tv y with
  |none=>simp [hJ] at hK
  |some J=>
   simp only [hJ] at hK;obtain ⟨hJt,hJc⟩:=cc hJ;obtain ⟨v,s,cC,h5,h6,h7⟩:=Y3 (P:=P) (st:=st) (hT y J hJt) hJc rO hK;refine kj (v:=v) h ?_ h5 h6 h7;cases d<;>simp only [uB] at h4;case struct fs=>
    obtain ⟨_,_,_,ho1,dh,_⟩:=h4;rw [<-ho1,aa5] at hq;rw [<-dh,aa5] at hy;cases hf:fs.toList[f]? with
    |none=>simp [hf] at hq
    |some fl=>
     simp [hf] at hq hy;subst hq;subst hy;have UG:fs[f]? =some fl:=by simpa using hf
     simp [execOp,ho,hx,Instr.field,run_underlying h1,UG,asAgg,cC]
   all_goals (exfalso;simp_all)
 ·simp at hK
theorem TI.nZ {I:TI}{t:TypeId}(hr:oq c.ti P t I)(h:I.Dd=true):P.underlying t=some (.slice I.elem)/\ ∃E,c.ti I.elem=some E/\E.du=[]/\0<E.size:=by
 unfold TI.Dd at h;split at h
 ·rename_i eR hl;obtain ⟨d,i,h1,h2,h3,h4⟩:=hr;cases d<;>simp only [uB,hl,eR] at h4<;>first|(exfalso;simp_all;done)|skip
  obtain ⟨_,_,_,rfl,hE,_⟩:=h4;exact ⟨h1,hE⟩
 ·cases h
theorem TI.H4 {I:TI}{t:TypeId}(hr:oq c.ti P t I)(h:I.X9=true):P.underlying t=some .string:=by
 unfold TI.X9 at h;split at h
 ·rename_i eR hl;obtain ⟨d,i,h1,h2,h3,h4⟩:=hr;cases d<;>simp only [uB,hl,eR] at h4<;>first|(exfalso;simp_all;done)|skip
  exact h1
 ·cases h
theorem Pv {v:Value}{xs:List MV}(h:ah e v (.sc (.p (.list xs)))): ∃ad cap,v= .slice ad xs.length cap/\xs.length<=cap:=by simp only [ah,bp] at h;obtain ⟨_,h⟩:=h;generalize hv:[v]=vs at h;cases h;exact ⟨_,_,by simpa using hv,by assumption⟩
theorem sw {f:Nat} {w':oS}{v:Value}(h:cG c Z e st a w)(hv:ah e v (.sc (.own f)))(hf:aV st.bk f=some w'):v=e.E f/\ ∃ad cap,v= .slice ad w'.xs.length cap/\w'.xs.length<=cap:=by
 simp only [ah] at hv;obtain ⟨u,hu,_,hE⟩:=hv;simp at hu;subst hu;have hE:=hE w' (by rw [h.m];exact hf);refine ⟨hE,?_⟩;obtain ⟨I,cells,_,_,eS,_⟩:=(h.jN f w' hf).row;rcases eS.2 with ⟨h1,h2⟩|⟨g,cap,dL,h1,_,_,h2,_⟩
 ·exact ⟨none,0,by rw [hE,h1,h2],by omega⟩
 ·exact ⟨_,cap,by rw [hE,h1],h2⟩
theorem n0 {l:List Operand}:lq c st l=l.map (bw c st):=by
 induction l with
 |nil=>rfl
 |cons x r ih=>simp [lq,ih]
theorem ahh {cl:Call}{t:TypeId}{I:TI}(ho:o.op= .call cl)(hb:cl.callee= .builtin .len)(ha:cl.argTypes.toList=[t])(hI:c.tv t=some I)(hT:lV P c.ti)(h:cG c Z e st a w)(hK:YA I st (lq c st cl.args.toList) (λs=>bY c st o.dst s K)=some r):Rd P c Z K r e a w o (λ_=>True):=by
 obtain ⟨uC,hc⟩:=cc hI;have hr:=hT t I uC;have Df:cl.argTypes= #[t]:=by rw [<-abT,ha]
 rw [n0] at hK;have go: ∀x,cl.args.toList=[x]-> ∀n:Nat,(∃b:ByteArray,a.eval x= .string b/\b.size=n/\P.underlying t=some .string)\/(∃ad cap,a.eval x= .slice ad n cap/\ ∃el,P.underlying t=some (.slice el))-> bY c st o.dst (.sc (.p (.i .i64 n))) K=some r->Rd P c Z K r e a w o (λ_=>True):=by
  intro x hx n Pw hK;have hx':cl.args= #[x]:=by rw [<-abT,hx]
  refine kj h ?_ (zV .i64 (n:Int)) trivial hK;rcases Pw with ⟨b,h1,h2,h3⟩|⟨ad,cap,h1,el,h3⟩
  ·simp [execOp,ho,resolve,hb,invoke,builtin,Builtin.len_,Df,hx',run_underlying h3,h1,goInt,h2]
  ·simp [execOp,ho,resolve,hb,invoke,builtin,Builtin.len_,Df,hx',run_underlying h3,h1,goInt]
 cases hl:cl.args.toList with
 |nil=>rw [hl] at hK;simp [YA] at hK
 |cons x ys=>
  rw [hl] at hK;cases ys with
  |cons y zs=>simp only [IT] at hK;unfold YA at hK;split at hK<;>simp_all
  |nil=>
   simp only [IT,afO] at hK;obtain ⟨hx,_⟩:=h.eval x;generalize bw c st x=s at hx hK;unfold YA at hK;split at hK
   ·rename_i l hs;simp at hs;subst hs;cases hS:I.X9 with
    |false=>simp [hS] at hK
    |true=>simp only [hS,cond_true] at hK;obtain ⟨b,E0,rfl⟩:=FZ hx;exact go x hl _ (.inl ⟨b,E0,by show b.data.size=_;exact (abR).symm,TI.H4 hr hS⟩) hK
   ·rename_i l hs;simp at hs;subst hs;cases hS:I.Dd with
    |false=>simp [hS] at hK
    |true=>simp only [hS,cond_true] at hK;obtain ⟨ad,cap,hv,_⟩:=Pv hx;exact go x hl _ (.inr ⟨ad,cap,hv,_,(TI.nZ hr hS).1⟩) hK
   ·rename_i hs;simp at hs;subst hs;cases hS:I.Dd with
    |false=>simp [hS] at hK
    |true=>simp only [hS,cond_true] at hK;simp only [ah] at hx;have hx:[a.eval x]=[ab1 none 0 0]:=hx;simp at hx;exact go x hl 0 (.inr ⟨none,0,hx,_,(TI.nZ hr hS).1⟩) hK
   ·rename_i f hs;simp at hs;subst hs;cases hS:I.Dd with
    |false=>simp [hS] at hK
    |true=>
     simp only [hS,cond_true] at hK;cases hf:aV st.bk f with
     |none=>simp [hf] at hK
     |some w'=>simp only [hf] at hK;obtain ⟨_,ad,cap,hv,_⟩:=sw h hx hf;exact go x hl _ (.inr ⟨ad,cap,hv,_,(TI.nZ hr hS).1⟩) hK
   ·simp at hK
end
end Dn
/-
  Values as leaves; places of elements; the least and the greatest; parts of slices. Conditions: none.
-/
namespace Dn
open Go
section
variable {P:Program}{c:Ctx}{Z:cb}{e:Env}{st:St}{a:Act} {w w':World}{R:Type}{K:St->Option R}{r:R}{Q:Exit->Act->World->Prop}{o:Oper}
structure afN (e:Env) (k:Kd) (vs:List Value) (m:MV) (l:aS):Prop where
 rep:nn e.key e.φ vs m->bp e vs l
 Ye:uN l=true
 mv:ea [l]=some [m]
 one: ∀m',l= .p m'->m'.one=true
 wid:l.w=GL [k]
theorem n5 {k:Kd}{m:MV}{vs:List Value} {K':aS->Option R}(hK:kF k m K'=some r): ∃l,afN e k vs m l/\K' l=some r:=by
 have mk: ∀m:MV,m.one=true->(GL [k]=1)->K' (.p m)=some r-> ∃l,afN e k vs m l/\K' l=some r:=λm h1 h2 h3=>⟨.p m,⟨λh=>⟨h1,h⟩,rfl,rfl,λm' e=>by cases e;exact h1,h2.symm⟩,h3⟩
 cases k with
 |b=>unfold kF gB at hK;cases m<;>simp at hK;exact mk _ rfl rfl hK
 |s=>unfold kF gS at hK;cases m<;>simp at hK;exact mk _ rfl rfl hK
 |l=>unfold kF gL at hK;cases m<;>simp at hK;exact mk _ rfl rfl hK
 |i k=>
  unfold kF gI at hK;cases m<;>simp at hK;rename_i k' n;by_cases hk:k'=k
  ·subst hk;simp at hK;exact mk _ rfl rfl hK
  ·simp [hk] at hK
 |h=>unfold kF gH at hK;cases m<;>simp at hK;rename_i x;refine ⟨.hs x,⟨?_,rfl,rfl,by simp,rfl⟩,hK⟩;intro h;cases h;rfl
 |raw=>unfold kF gR at hK;cases m<;>simp at hK<;>exact mk _ rfl rfl hK
theorem Cm {l:aS}{ls:List aS}{m:MV}{ms:List MV}(h1:ea [l]=some [m])(h2:ea ls=some ms):ea (l::ls)=some (m::ms):=by cases l<;>simp [ea] at h1⊢ <;>simp [h2,h1]
structure ac9 (e:Env) (ks:List Kd) (vs:List Value) (ms:List MV) (ls:List aS):Prop where
 rep:jj e.key e.φ vs ms->aJ e vs ls
 Ye:jS ls=true
 mv:ea ls=some ms
 one: ∀m',aS.p m'∈ls->m'.one=true
 wid:zO ls=GL ks
theorem Wg (k:Kd)(ks:List Kd):GL (k::ks)=GL [k]+GL ks:=by cases k<;>simp [GL]
theorem xM {ks:List Kd}: ∀{ms:List MV}{vs:List Value} {K':List aS->Option R},uM ks ms K'=some r-> ∃ls,ac9 e ks vs ms ls/\K' ls=some r:=by
 induction ks with
 |nil=>
  intro ms vs K' hK;cases ms with
  |nil=>exact ⟨[],⟨λh=>by cases h;rfl,rfl,rfl,by simp,rfl⟩,hK⟩
  |cons m ms=>simp [uM,gN] at hK
 |cons k ks ih=>
  intro ms vs K' hK;cases ms with
  |nil=>simp [uM,gC] at hK
  |cons m ms=>
   simp only [uM,gC] at hK;have h1:=λvs=>n5 (e:=e) (vs:=vs) hK;obtain ⟨l,hl,su⟩:=h1 [];obtain ⟨ls,Px,zW⟩:=ih (vs:=[]) su;refine ⟨l::ls,⟨?_,?_,Cm hl.mv Px.mv,?_,?_⟩,zW⟩
   ·intro h;have g:aJ e vs (l::ls):=by
     apply h.leaves (Cm hl.mv Px.mv);intro m' hm;rcases aaH.1 hm with hm|hm
     ·exact hl.one m' hm.symm
     ·exact Px.one m' hm
    exact g
   ·simp [jS,hl.Ye,Px.Ye]
   ·intro m' hm;rcases aaH.1 hm with hm|hm
    ·exact hl.one m' hm.symm
    ·exact Px.one m' hm
   ·rw [Wg,<-hl.wid,<-Px.wid];rfl
theorem ada {t:TypeId}{I:TI}(hr:oq c.ti P t I)(hc:I.du=[]):GL I.lay=I.size:=by
 obtain ⟨d,i,h1,h2,h3,h4⟩:=hr;cases d<;>simp only [uB] at h4;case struct fs=>exact h4.2.2.1.2
 case tuple ts=>exact absurd hc h4.2.1
 case slice el=>obtain ⟨_,_,hs,_,_,_,_,k,hl,rfl⟩:=h4;rw [hl,hs];rfl
 case array n el=>obtain ⟨_,_,hs,_,_,_,hl,_⟩:=h4;rw [hl,hs];rfl
 all_goals (obtain ⟨_,_,hs,hl,_⟩:=h4;rw [hl,hs];rfl)
theorem F3 {E:TI}{t:TypeId}{x:MV} {K':List aS->Option R}(hr:oq c.ti P t E)(hc:E.du=[])(hK:M8 E x K'=some r): ∃cs,HR E.st x cs/\jS cs=true/\zO cs=E.size/\K' cs=some r:=by
 have hlw:=ada hr hc;unfold M8 at hK;cases eR:E.st with
 |true=>
  simp only [eR,cond_true] at hK;unfold gA at hK;split at hK
  ·rename_i ms;obtain ⟨ls,Px,su⟩:=xM (e:=⟨λn=>n,λ_ _=>none,λ_=>undef,λ_=>0,[]⟩) (vs:=[]) hK;exact ⟨ls,⟨⟨ms,Px.mv,by simp [Dh]⟩,Px.one⟩,Px.Ye,by rw [Px.wid,hlw],su⟩
  ·simp at hK
 |false=>
  simp only [eR,cond_false] at hK;split at hK
  ·rename_i k hl;obtain ⟨l,sr,su⟩:=n5 (e:=⟨λn=>n,λ_ _=>none,λ_=>undef,λ_=>0,[]⟩) (vs:=[]) hK;refine ⟨[l],⟨⟨[x],sr.mv,by simp [Dh]⟩,?_⟩,by simp [jS,sr.Ye],?_,su⟩
   ·intro m hm;simp at hm;exact sr.one m hm.symm
   ·rw [<-hlw,hl,<-sr.wid];rfl
  ·simp at hK
theorem ahi {t:TypeId}{x y:Operand}{I E:TI}(ho:o.op= .indexAddr t x y)(hI:c.tv t=some I)(hE:c.tv I.elem=some E)(hT:lV P c.ti)(h:cG c Z e st a w)(hK:agV c st I E (bw c st x) (bw c st y) (λs=>bY c st o.dst s K)=some r):Rd P c Z K r e a w o (λ_=>True):=by
 obtain ⟨hx,qz⟩:=h.eval x;obtain ⟨hy,_⟩:=h.eval y;obtain ⟨uC,hc⟩:=cc hI;obtain ⟨oR,rP⟩:=cc hE;have hr:=hT t I uC;have hrE:=hT _ E oR;obtain ⟨iE,hiE,hsE,_⟩:=hrE.info rP;have run: ∀k n bB off len cap,P.underlying t=some (.slice I.elem)->a.eval y= .int k n->a.eval x= .slice (some ⟨bB,off,none⟩) len cap->0<=n->n.toNat<len-> ∀w:World,(execOp a.eval o).run P w= .ok (.value (.pointer (some ⟨bB,off+n.toNat *E.size,none⟩))) w:=by
  intro k n bB off len cap hu hy hx h0 h1 w;have h2:n<(len:Int):=by omega
  simp [execOp,ho,hx,hy,Instr.indexAt,asIntOf,run_underlying hu,h0,h2,abG,typeInfo,hiE,hsE,acC]
 generalize bw c st x=sx at hx hK qz;generalize bw c st y=sy at hy hK;unfold agV at hK;split at hK
 ·rename_i xs k n;cases hL:I.Dd with
  |false=>simp [hL] at hK
  |true=>
   simp only [hL,cond_true] at hK;obtain ⟨h0,m,hm,hK⟩:=Pq hK;obtain ⟨cs,h1,h2,h3,hK⟩:=F3 hrE rP hK;have dK:n.toNat<xs.length:=(AS.1 hm).1;simp only [ah,bp] at hx;obtain ⟨_,hx⟩:=hx;generalize hv:[a.eval x]=vs at hx;cases hx with
   |list ad cap _ bB off OZ f g1 g2 g3 g4 g5=>
   simp at hv;have gm:=g5 n.toNat dK;rw [(AS.1 hm).2] at gm;have rO:=gm.H0 h1;have hes:OZ=E.size:=by rw [<-h3,<-rO.width,g3 _ dK]
   rw [g2 (by omega)] at hv;refine kj (s:= .rp cs 0) h (run k n bB off _ cap (TI.nZ hr hL).1 (pS hy) hv h0 dK) ?_ trivial hK;simp only [ah];refine ⟨bB,off+n.toNat *E.size,f n.toNat,rfl,rO,h2,?_⟩;intro j hj;rw [g3 _ dK] at hj;rw [<-hes];exact g4 n.toNat j dK hj
 ·rename_i f k n;cases hf:aV st.bk f with
  |none=>simp [hf] at hK
  |some fo=>
   simp only [hf] at hK;cases hL:I.Dd with
   |false=>simp [hL] at hK
   |true=>
    simp only [hL,cond_true] at hK;obtain ⟨h0,m,hm,hK⟩:=Pq hK;obtain ⟨cs,h1,h2,h3,hK⟩:=F3 hrE rP hK;have dK:n.toNat<fo.xs.length:=(AS.1 hm).1;obtain ⟨hv,_⟩:=sw h hx hf;obtain ⟨J,cells,_,_,eS,_⟩:=(h.jN f fo hf).row;rcases eS.2 with ⟨h5,h6⟩|⟨g,cap,dL,h5,_⟩
    ·omega
    ·rw [h5] at hv;refine kj (s:= .ep f n.toNat 0 E.st cs) h (run k n g 0 _ cap (TI.nZ hr hL).1 (pS hy) hv h0 dK) ?_ trivial hK;simp only [ah];intro o2 dh;rw [h.m,hf] at dh;cases dh;exact ⟨g,cap,h5,⟨m,hm,h1⟩,by rw [h3,aaI,acN]⟩
 ·rename_i r' o' k n;cases eR:I.st with
  |true=>simp [eR] at hK
  |false=>
   simp only [eR,cond_false] at hK;split at hK
   ·rename_i hl;obtain ⟨SC,hK⟩:=gl hK;obtain ⟨h0,h1⟩:=of_decide_eq_true SC;obtain ⟨d,i,hu,h2,h3,h4⟩:=hr;cases d<;>simp only [uB,hl,eR] at h4<;>first|(exfalso;simp_all;done)|skip
    obtain ⟨_,_,_,rfl,_,⟨ie,hue,oQ,za⟩,_⟩:=h4;simp only [ah] at hx;refine kj (s:= .hp r' o' n.toNat) (v:= .pointer (some ⟨e.B r',o'+n.toNat,none⟩)) h ?_ ?_ qz hK
    ·simp [execOp,ho,hx,pS hy,Instr.indexAt,asIntOf,run_underlying hu,h0,h1,abG,typeInfo,oQ,za,acO,acC]
    ·simp only [ah];exact ⟨trivial,by omega⟩
   ·simp at hK
 ·simp at hK
theorem Wh {mx:Bool}{k:IntKind}{ss:List Slot}: ∀{vs:List Value}{n:Int}{m:MV},Yv mx k n ss=some m->vs.length=ss.length-> (∀(i:Nat)(v:Value)(s:Slot),vs[i]? =some v->ss[i]? =some s->ah e v s)-> ∃v,(∀w:World,(vs.foldlM (if mx then Builtin.max2 else Builtin.min2) (.int k n)).run P w= .ok v w)/\ah e v (.sc (.p m)):=by
 induction ss with
 |nil=>intro vs n m hm hl hs;have:=IN hl;subst this;simp [Yv] at hm;subst hm;exact ⟨.int k n,by simp,zV k n⟩
 |cons s ss ih=>
  intro vs n m hm hl hs;cases vs with
  |nil=>simp at hl
  |cons v vs=>
   have h0:=hs 0 v s rfl rfl;unfold Yv at hm;split at hm
   ·rename_i oM;simp at oM
   ·rename_i k' y r' oM;simp at oM;obtain ⟨rfl,rfl⟩:=oM;by_cases hk:k'=k
    ·subst hk;simp only [decide_true,cond_true] at hm;obtain ⟨u,h1,h2⟩:=ih hm (by simpa using hl) (λi v s h1 h2=>hs (i+1) v s (by simpa using h1) (by simpa using h2));refine ⟨u,λw=> ?_,h2⟩;have h1:=h1 w;rw [pS h0];cases mx
     ·simp only [cond_false,ajR] at h1;simp [Builtin.min2] at h1⊢;exact h1
     ·simp only [cond_true,imax] at h1;simp [Builtin.max2] at h1⊢;exact h1
    ·simp [hk] at hm
   ·simp at hm
theorem LG {cl:Call}{mx:Bool}{m:MV}(ho:o.op= .call cl)(hb:cl.callee= .builtin (if mx then .max else .min))(h:cG c Z e st a w)(hm:Sg mx (lq c st cl.args.toList)=some m)(hK:bY c st o.dst (.sc (.p m)) K=some r):Rd P c Z K r e a w o (λ_=>True):=by
 rw [n0] at hm;cases hl:cl.args.toList with
 |nil=>rw [hl] at hm;simp [Sg] at hm
 |cons x xs=>
  rw [hl] at hm;simp only [IT] at hm;obtain ⟨hx,_⟩:=h.eval x;generalize bw c st x=s at hx hm;unfold Sg at hm;split at hm
  ·rename_i k n ss oM;simp at oM;obtain ⟨rfl,rfl⟩:=oM;obtain ⟨v,h1,h2⟩:=Wh (e:=e) (P:=P) (vs:=xs.map a.eval) hm (by simp) (by intro i v s h1 h2;simp only [aa5,Option.map_eq_some_iff] at h1 h2;obtain ⟨y,h3,rfl⟩:=h1;obtain ⟨y',h4,rfl⟩:=h2;rw [h3] at h4;cases h4;exact (h.eval y).1);have gn:(cl.args.map a.eval).toList= .int k n::xs.map a.eval:=by simp [hl,pS hx]
   refine kj (v:=v) h ?_ h2 trivial hK;intro w;have h1:=h1 w;cases mx
   ·simp at hb h1;have Y4: ∀ts t,(Builtin.min_ ts t (cl.args.map a.eval)).run P w= .ok v w:=by intro ts t;unfold Builtin.min_;rw [gn];exact h1
    simp [execOp,ho,resolve,hb,invoke,builtin,Y4]
   ·simp at hb h1;have Y4: ∀ts t,(Builtin.max_ ts t (cl.args.map a.eval)).run P w= .ok v w:=by intro ts t;unfold Builtin.max_;rw [gn];exact h1
    simp [execOp,ho,resolve,hb,invoke,builtin,Y4]
  ·simp at hm
end
end Dn
/-
  Parts of slices and texts. Conditions: none.
-/
namespace Dn
open Go
section
variable {P:Program}{c:Ctx}{Z:cb}{e:Env}{st:St}{a:Act} {w w':World}{R:Type}{K:St->Option R}{r:R}{Q:Exit->Act->World->Prop}{o:Oper}
theorem xN {b:Bool}{lo hi:Option Operand}{len cap:Nat} {K':Nat->Nat->Option R}(h:cG c Z e st a w)(E7:len<=cap)(hK:sliceB (mH c st lo) (mH c st hi) len K'=some r): ∃l h',l<=h'/\h'<=len/\(lo=none->l=0)/\(∀w:World,(abM b len cap (lo.map a.eval) (hi.map a.eval) none).run P w= .ok (l,h',cap) w)/\K' l h'=some r:=by
 have bnd: ∀(k:IntKind) (n:Int) (y:Nat) (cd:BoundsCode),0<=n->n<=(y:Int)-> ∀w:World,(aeF (.int k n) y cd).run P w= .ok n.toNat w:=by intro k n y cd h1 h2 w;simp [aeF,asIntOf,h1,h2]
 unfold sliceB at hK;cases lo with
 |none=>
  cases hi with
  |none=>simp only [mH] at hK;exact ⟨0,len,by omega,by omega,λ_=>rfl,by simp [abM],hK⟩
  |some y=>
   obtain ⟨hy,_⟩:=h.eval y;simp only [mH] at hK;generalize bw c st y=sy at hy hK;split at hK<;>first|(simp_all;done)|skip
   ·rename_i k n h1 h2;simp at h2;subst h2;obtain ⟨SC,hK⟩:=gl hK;obtain ⟨h3,h4,h5⟩:=of_decide_eq_true SC;refine ⟨0,n.toNat,by omega,by omega,λ_=>rfl,?_,hK⟩;have:=bnd k n cap (if b then .sliceAcap else .sliceAlen) h4 (by omega);cases b<;>simp at this<;>simp [abM,pS hy,this]
 |some x=>
  obtain ⟨hx,_⟩:=h.eval x;cases hi with
  |none=>
   simp only [mH] at hK;generalize bw c st x=sx at hx hK;split at hK<;>first|(simp_all;done)|skip
   ·rename_i k n h1 h2;simp at h1;subst h1;obtain ⟨SC,hK⟩:=gl hK;obtain ⟨h3,h4,h5⟩:=of_decide_eq_true SC;refine ⟨n.toNat,len,by omega,by omega,by simp,?_,by simpa using hK⟩;have:=bnd k n len .sliceB h3 h4;simp [abM,pS hx,this]
  |some y=>
   obtain ⟨hy,_⟩:=h.eval y;simp only [mH] at hK;generalize bw c st x=sx at hx hK;generalize bw c st y=sy at hy hK;split at hK<;>first|(simp_all;done)|skip
   ·rename_i k n k' n' h1 h2;simp at h1 h2;subst h1;subst h2;obtain ⟨SC,hK⟩:=gl hK;obtain ⟨h3,h4,h5⟩:=of_decide_eq_true SC;refine ⟨n.toNat,n'.toNat,by omega,by omega,by simp,?_,hK⟩;have t1:=bnd k' n' cap (if b then .sliceAcap else .sliceAlen) (by omega) (by omega);have t2:=bnd k n n'.toNat .sliceB h3 (by omega);cases b<;>simp at t1<;>simp [abM,pS hx,pS hy,t1,t2]
theorem nn.sub {key:Nat->Nat} {φ:Ph}{ad:Option Addr}{len cap:Nat}{xs:List MV} {l h' size:Nat}(hv:nn key φ [.slice ad len cap] (.list xs))(hl:l<=h')(hh:h'<=xs.length)(hw:l≠0-> ∀x∈xs,x.w=size):len=xs.length/\len<=cap/\nn key φ [.slice (if cap=l then ad else ad.map (·.add (l *size))) (h'-l) (cap-l)] (.list ((xs.take h').drop l)):=by
 generalize Cj:[ab1 ad len cap]=vs at hv;cases hv with
 |list ad' ahe _ bB off OZ f g1 g2 g3 g4 g5=>
 simp at Cj;obtain ⟨rfl,rfl,rfl⟩:=Cj;refine ⟨rfl,g1,?_⟩;have hlen:((xs.take h').drop l).length=h'-l:=by simp;omega
 have aka:nn key φ [.slice (if cap=l then ad else ad.map (·.add (l *size))) ((xs.take h').drop l).length (cap-l)] (.list ((xs.take h').drop l)):=by
  have lX: ∀i,i<((xs.take h').drop l).length->i+l<xs.length:=by intro i hi;omega
  have hel: ∀(i:Nat) (hi:i<((xs.take h').drop l).length),((xs.take h').drop l)[i]=xs[i+l]'(lX i hi):=by intro i hi;simp [aeA]
  refine .list _ _ _ bB (off+l *OZ) OZ (λi=>f (i+l)) (by rw [hlen];omega) ?_ ?_ ?_ ?_
  ·intro h0;have dG:cap≠l:=by omega
   have Yf:0<xs.length:=by omega
   rw [g2 Yf];simp only [dG,if_false,Option.map_some,AT];by_cases hl0:l=0
   ·subst hl0;simp [acC]
   ·have hes:OZ=size:=by have h3:=g5 0 Yf;rw [<-g3 0 Yf,h3.width];exact hw hl0 _ (aeG Yf)
    rw [hes,acC]
  ·intro i hi;exact g3 _ (lX i hi)
  ·intro i j hi hj;have:=g4 (i+l) j (lX i hi) hj;rw [<-this];congr 1;rw [aew];omega
  ·intro i hi;rw [hel i hi];exact g5 (i+l) (lX i hi)
 rw [hlen] at aka;exact aka
theorem Dv {n:Nat}{l:List MV}(h:qa n l=true): ∀x∈l,x.w=n:=by intro x hx;unfold qa at h;rw [aeE] at h;exact sh (h x hx)
theorem bx.qa {key:Nat->Nat} {φ:Ph}{size:Nat}{xs:List MV}: ∀{cs:List Value},bx key φ size cs xs-> ∀x∈xs,x.w=size:=by
 induction xs with
 |nil=>intro cs _ x hx;simp at hx
 |cons y ys ih=>
  intro cs h x hx;obtain ⟨v,q,rfl,h1,h2,h3⟩:=h;rcases aaH.1 hx with rfl|hx
  ·rw [<-h2.width,h1]
  ·exact ih h3 x hx
theorem Y5 {t:TypeId}{x:Operand}{lo hi:Option Operand}{I:TI}(ho:o.op= .slice t x lo hi none)(hI:c.tv t=some I)(hT:lV P c.ti)(h:cG c Z e st a w)(hK:Sh c I st (bw c st x) (mH c st lo) (mH c st hi) (λs st=>bY c st o.dst s K)=some r):Rd P c Z K r e a w o (λ_=>True):=by
 obtain ⟨hx,qz⟩:=h.eval x;obtain ⟨uC,hc⟩:=cc hI;have hr:=hT t I uC;have run: ∀{el E},P.underlying t=some (.slice el)->c.ti el=some E->E.du=[]-> ∀ad len cap l h',a.eval x= .slice ad len cap->(∀w:World,(abM true len cap (lo.map a.eval) (hi.map a.eval) none).run P w= .ok (l,h',cap) w)-> ∀w:World,(execOp a.eval o).run P w= .ok (.value (.slice (if cap=l then ad else ad.map (·.add (l *E.size))) (h'-l) (cap-l))) w:=by intro el E hu hE rP ad len cap l h' hv hb w;obtain ⟨iE,hiE,hsE,_⟩:=(hT _ E hE).info rP;simp [execOp,ho,afL,af2,run_underlying hu,hv,hb,abG,typeInfo,hiE,hsE]
 generalize hs:bw c st x=s at hx hK qz;unfold Sh at hK;split at hK
 ·rename_i bs;cases hS:I.X9 with
  |false=>simp [hS] at hK
  |true=>
   simp only [hS,cond_true] at hK;have hu:=TI.H4 hr hS;obtain ⟨b,hb,rfl⟩:=FZ hx;have wu:b.data.toList.length=b.size:=by rw [abR];rfl
   rw [wu] at hK;obtain ⟨l,h',h1,h2,_,h3,hK⟩:=xN (P:=P) (b:=false) (cap:=b.size) h (aaf _) hK;refine kj (s:= .sc (.p (.s ((b.data.toList.take h').drop l)))) (v:= .string (b.extract l h')) h ?_ ?_ trivial hK
   ·simp [execOp,ho,afL,af2,run_underlying hu,hb,h3]
   ·have:=acW (e:=e) (b.extract l h');have h5:(b.extract l h').data.toList=(b.data.toList.take h').drop l:=by rw [adJ,aeh,ac1,List.drop_take]
    rwa [h5] at this
 ·rename_i xs;cases hS:I.Dd with
  |false=>simp [hS] at hK
  |true=>
   simp only [hS,cond_true] at hK;obtain ⟨hu,_⟩:=TI.nZ hr hS;cases hE:c.tv I.elem with
   |none=>simp [hE] at hK
   |some E=>
    simp only [hE] at hK;obtain ⟨oR,rP⟩:=cc hE;have zW:(lo≠none->qa E.size xs=true)/\sliceB (mH c st lo) (mH c st hi) xs.length (λl h'=>bY c st o.dst (.sc (.p (.list ((xs.take h').drop l)))) K)=some r:=by
     cases lo with
     |none=>exact ⟨by simp,hK⟩
     |some y=>simp only [mH] at hK⊢;obtain ⟨h1,h2⟩:=gl hK;exact ⟨λ_=>h1,h2⟩
    obtain ⟨hw,hK⟩:=zW;obtain ⟨ad,cap,hv,E7⟩:=Pv hx;obtain ⟨l,h',h1,h2,h0,h3,hK⟩:=xN (P:=P) (b:=true) (cap:=cap) h E7 hK;simp only [ah,bp] at hx;rw [hv] at hx;obtain ⟨_,_,gm⟩:=nn.sub (size:=E.size) hx.2 h1 h2 (λhl=>Dv (hw (λhn=>hl (h0 hn))));refine kj (s:= .sc (.p (.list ((xs.take h').drop l)))) h (run hu oR rP ad _ cap l h' hv h3) ?_ trivial hK;simp only [ah,bp];exact ⟨rfl,gm⟩
 ·rename_i f;cases hf:aV st.bk f with
  |none=>simp [hf] at hK
  |some fo=>
   simp only [hf] at hK;cases hS:I.Dd&&c8 fo.ty I.elem with
   |false=>simp [hS] at hK
   |true=>simp only [hS,cond_true] at hK;simp only [aaG] at hS;obtain ⟨hu,E,oR,rP,_⟩:=TI.nZ hr hS.1;have kI:=sh hS.2;obtain ⟨hvE,ad,cap,hv,E7⟩:=sw h hx hf;simp only [ah] at hx;obtain ⟨J,cells,hJ,_,_,km,_⟩:=(h.jN f fo hf).row;rw [kI,oR] at hJ;cases hJ;have hwx:=km.qa;obtain ⟨e',cO,m,Bi,ac7,E5,gm,hK,_,hm⟩:=qS h hx hK;obtain ⟨o2,dh,rfl⟩:=hm.1 f rfl;rw [hf] at dh;cases dh;obtain ⟨l,h',h1,h2,h0,h3,hK⟩:=xN (P:=P) (b:=true) (cap:=cap) h E7 hK;rw [hv] at gm;obtain ⟨_,_,gm⟩:=nn.sub (size:=E.size) gm h1 h2 (λ_=>hwx);refine Wa (s:= .sc (.p (.list ((fo.xs.take h').drop l)))) (λw _=>run hu oR rP ad _ cap l h' hv h3 w) Bi ac7.tr (.of ?_ trivial) hK;simp only [ah,bp];exact ⟨rfl,gm⟩
 ·cases hS:I.Dd with
  |false=>simp [hS] at hK
  |true=>
   simp only [hS,cond_true] at hK;obtain ⟨hu,E,oR,rP,_⟩:=TI.nZ hr hS;simp only [ah] at hx;have hx:[a.eval x]=[ab1 none 0 0]:=hx;simp at hx;obtain ⟨l,h',h1,h2,_,h3,hK⟩:=xN (P:=P) (b:=true) (cap:=0) h (aaf _) hK;have h4:h'=0:=by omega
   have h5:l=0:=by omega
   subst h4;subst h5;refine kj (s:= .sc .nil) h (run hu oR rP none 0 0 0 0 hx h3) ?_ trivial hK;simp only [ah,if_true];rfl
 ·simp at hK
end
end Dn
/-
  Stores. Conditions: none.
-/
namespace Dn
open Go
section
variable {P:Program}{c:Ctx}{Z:cb} {e e':Env}{st:St}{a:Act} {w w':World}{R:Type}{K:St->Option R}{r:R}{Q:Exit->Act->World->Prop}{o:Oper}
theorem H5 (x:lQ)(i:Nat)(b:UInt8)(hi:i<32):bT (x.put i b)=(bT x).take i++[.int .u8 (b.toNat:Int)]++(bT x).drop (i+1):=by
 have:bT (x.put i b)=(bT x).set i (.int .u8 (b.toNat:Int)):=by simp [bT,lQ.put,List.map_set]
 have hl:=dJ x;rw [this,List.set_eq_take_append_cons_drop,if_pos (by omega)];simp
structure Y6 (e e':Env):Prop where
 key:e'.key=e.key
 φ:sn e.φ e'.φ
 jN: ∀f o',aV e'.m f=some o'->(∃o,aV e.m f=some o)/\e'.E f=e.E f
theorem bp.Y7 (h:Y6 e e'){vs:List Value}{l:aS}(hr:bp e vs l):bp e' vs l:=by
 cases l with
 |p m=>exact ⟨hr.1,by have:=hr.2.mono h.φ;rw [<-h.key] at this;exact this⟩
 |own f=>obtain ⟨v,rfl,hv,hf⟩:=hr;refine ⟨v,rfl,hv,λo' CF=> ?_⟩;obtain ⟨⟨o,ho⟩,hE⟩:=h.jN f o' CF;rw [hE];exact hf o ho
 |_=>exact hr
theorem aJ.Y7 (h:Y6 e e'){cs:List aS}: ∀{vs:List Value},aJ e vs cs->aJ e' vs cs:=by
 induction cs with
 |nil=>intro vs hr;exact hr
 |cons l r ih=>intro vs hr;obtain ⟨v,w,rfl,h1,h2⟩:=hr;exact ⟨v,w,rfl,h1.Y7 h,ih h2⟩
def UI (f:Nat)(s:Slot):Slot:=match s with
 | .ep g i o b cs=>bif c8 g f then .sc .un else .ep g i o b cs
 |s=>s
theorem wv (f:Nat)(r:Fr)(t:Nat):av (zR f r) t=UI f (av r t):=HU (UI f) rfl r t
theorem Wi (f:Nat)(s:Slot):dv (UI f s)=dv s:=by cases s<;>simp only [UI];rename_i g _ _ _ _;cases c8 g f<;>rfl
theorem ah.Y7 {f:Nat}{T:Nat->Prop}(h:Y6 e e')(vG:lr (· ≠f) T e e'){v:Value}{s:Slot}(hT:gk (λ_=>True) T s)(hr:ah e v s):ah e' v (UI f s):=by
 cases s with
 |sc l=>
  simp only [UI];cases l with
  |un=>simp [ah]
  |hs x=>simpa [ah] using hr
  |p m=>simp only [ah] at hr⊢;exact hr.Y7 h
  |nil=>simp only [ah] at hr⊢;exact hr.Y7 h
  |mp s es=>simp only [ah] at hr⊢;exact hr
  |own f=>simp only [ah] at hr⊢;exact hr.Y7 h
 |ag cs=>simp only [UI,ah] at hr⊢;obtain ⟨arr,h1,h2⟩:=hr;exact ⟨arr,h1,h2.Y7 h⟩
 |ep g i o b cs=>
  simp only [UI];cases hb:c8 g f
  ·simp only [cond_false];refine hr.on vG ?_;simp only [gk];intro e;subst e;simp [gj] at hb
  ·simp [ah]
 |_=>exact hr.on vG hT
theorem ki.Y7 (h:Y6 e e')(hk:e'.key=e.key)(hp:sn e.φ e'.φ){o:Obj}{cs:List aS}(hr:ki e o cs):ki e' o cs:=by
 cases o with
 |cells arr T z=>exact ⟨hr.1,hr.2.Y7 h⟩
 |map es clock=>exact hr
 |stringIter x pos=>exact hr
 |_=>exact hr.elim
theorem bx.set {key:Nat->Nat} {φ:Ph}{size:Nat}{xs:List MV}: ∀{cs:List Value}{i:Nat}{x:MV} {v':List Value},bx key φ size cs xs->i<xs.length->v'.length=size->nn key φ v' x-> bx key φ size (cs.take (i *size)++v'++cs.drop (i *size+size)) (xs.set i x):=by
 induction xs with
 |nil=>intro cs i x v' _ hi;simp at hi
 |cons y ys ih=>
  intro cs i x v' h hi hl hr;obtain ⟨v,q,rfl,h1,h2,h3⟩:=h;cases i with
  |zero=>simp only [aeB,List.take_zero,aeK,aaI,List.set_cons_zero];exact ⟨v',q,by rw [acD h1],hl,hr,h3⟩
  |succ i=>have:=ih h3 (by simpa using hi) hl hr;rw [List.set_cons_succ];refine ⟨v,_,?_,h1,h2,this⟩;rw [acw,acH,ade,acA (by omega),adK (by omega)];rw [show i *size+size-v.length=i *size by omega,show i *size+size+size-v.length=i *size+size by omega];simp
theorem cG.ahj {f:Nat}{fo:oS}{I:TI}{g i:Nat}{cap:Nat}{dL:Array Value} {v' cells:List Value}{x:MV}(h:cG c Z e st a w)(hf:aV st.bk f=some fo)(hz:fo.eT=false)(hI:c.ti fo.ty=some I)(Y1:I.du=[])(hE:e.E f= .slice (some ⟨g,0,none⟩) fo.xs.length cap)(eS:w.ownsRow 0 fo.ty I.size (e.E f) fo.xs.length cells)(hg:w.heap[g]? =some (.cells dL fo.ty (0,0)))(km:bx e.key e.φ I.size cells fo.xs)(hi:i<fo.xs.length)(hl:v'.length=I.size)(hr:nn e.key e.φ v' x)(CJ:f∉Z.cY): cG c Z {e with m:=cw e.m f ⟨fo.ty,false,fo.xs.set i x⟩} {st with fr:=zR f st.fr,bk:=cw st.bk f ⟨fo.ty,false,fo.xs.set i x⟩} a (w.setRow g (dL.toList.take (i *I.size)++v'++dL.toList.drop (i *I.size+I.size)).toArray)/\Z g:=by
 have hb:(e.E f).ownBlock=some g:=by rw [hE];rfl
 have hZ:Z g/\ ∀off,e.φ g off=none:=by
  obtain ⟨J,xL,_,_,_,_,h5⟩:=(h.jN f fo hf).row;obtain ⟨h6,h7⟩:=h5 g hb;refine ⟨Pm h6 CJ,λoff=> ?_⟩;cases hp:e.φ g off with
  |none=>rfl
  |some u=>have:=(h7.1 off u hp).1;rw [hz] at this;cases this
 have wu:=setRow_size w g (dL.toList.take (i *I.size)++v'++dL.toList.drop (i *I.size+I.size)).toArray;have hE1:Y6 e {e with m:=cw e.m f ⟨fo.ty,false,fo.xs.set i x⟩}:=by
  refine ⟨rfl,.refl _,λf2 o2 dh=>⟨?_,rfl⟩⟩;have dh:aV (cw e.m f ⟨fo.ty,false,fo.xs.set i x⟩) f2=some o2:=dh;rw [bG] at dh;by_cases fK:f2=f
  ·exact ⟨fo,by rw [fK,h.m];exact hf⟩
  ·simp only [fK,if_false] at dh;exact ⟨o2,dh⟩
 have vG:lr (· ≠f) (λ_=>True) e {e with m:=cw e.m f ⟨fo.ty,false,fo.xs.set i x⟩}:=by refine ⟨rfl,.refl _,λ_ _=>rfl,λf2 o2 dh dG=> ?_⟩;have dh:aV (cw e.m f ⟨fo.ty,false,fo.xs.set i x⟩) f2=some o2:=dh;rw [bG] at dh;simp only [dG,if_false] at dh;exact ⟨o2,dh,rfl,rfl⟩
 have lX: ∀f2 o2,aV (cw st.bk f ⟨fo.ty,false,fo.xs.set i x⟩) f2=some o2-> ∃o3,aV st.bk f2=some o3:=by
  intro f2 o2 dh;rw [bG] at dh;by_cases fK:f2=f
  ·exact ⟨fo,by rw [fK];exact hf⟩
  ·simp only [fK,if_false] at dh;exact ⟨o2,dh⟩
 refine ⟨⟨h.defers,h.size,by show cw e.m f _=cw st.bk f _;rw [h.m],h.key,?_,?_,?_,?_,?_,?_,?_,?_,λb hb=>h.dm b (by omega)⟩,hZ.1⟩
 ·show (bg (zR f st.fr)).Nodup;have:bg (zR f st.fr)=bg st.fr:=by simp [bg,zR]
  rw [this];exact h.nodup
 ·intro t;show cz Z _ _ t _ (av (zR f st.fr) t);rw [wv];have hs:=h.slot t;have hbf:=h.bf t;generalize av st.fr t=s at hs hbf;by_cases E8: ∃cs,s= .box cs
  ·obtain ⟨cs,rfl⟩:=E8;simp only [cz,UI] at hs⊢;refine ⟨hs.1,hs.2.dm,?_,hs.2.free⟩;obtain ⟨o2,h1,h2⟩:=hs.2.obj;refine ⟨o2,?_,h2.Y7 hE1 rfl (.refl _)⟩;rw [setRow_other _ _ _ _ (by intro eb;exact hbf cs f fo rfl hf (by rw [hb,<-eb]))];exact h1
  ·have Bi:ah e (a.tmps.getD t undef) s:=by cases s<;>simp only [cz] at hs<;>first|exact hs|exact absurd ⟨_,rfl⟩ E8
   have h2:=Bi.Y7 (f:=f) hE1 vG (ey s);generalize hks:UI f s=s2 at h2;cases s2<;>first|exact h2|(exfalso;simp [ah] at h2)
 ·intro t;show cZ (zR f st.fr) (av (zR f st.fr) t);rw [wv];have qz:=h.root t;generalize av st.fr t=s at qz;have hk: ∀q,dv (av (zR f st.fr) q)=dv (av st.fr q):=λq=>by rw [wv,Wi]
  cases s with
  |ptr q o=>show dv (av (zR f st.fr) q)=true;rw [hk];exact qz
  |hp q o i=>show dv (av (zR f st.fr) q)=true;rw [hk];exact qz
  |zN q=>show dv (av (zR f st.fr) q)=true;rw [hk];exact qz
  |ep g' _ _ _ _=>simp only [UI];cases c8 g' f<;>trivial
  |_=>trivial
 ·intro f2 o2 dh;have dh:aV (cw st.bk f ⟨fo.ty,false,fo.xs.set i x⟩) f2=some o2:=dh;rw [bG] at dh;by_cases fK:f2=f
  ·subst fK;simp at dh;subst dh;obtain ⟨hlen,Pw⟩:=eS;refine ⟨I,cells.take (i *I.size)++v'++cells.drop (i *I.size+I.size),hI,Y1,⟨?_,?_⟩,?_,?_⟩
   ·have hle:i *I.size+I.size<=fo.xs.length *I.size:=by rw [<-acw];exact aaj _ hi
    simp only [IS,acI,adj,ae4];omega
   ·have hle:i *I.size+I.size<=fo.xs.length *I.size:=by rw [<-acw];exact aaj _ hi
    rcases Pw with ⟨h1,_⟩|⟨g2,zv,wz,h1,_,h3,h4,h5,h6,h7⟩
    ·rw [hE] at h1;simp at h1
    ·rw [hE] at h1;simp at h1;obtain ⟨rfl,rfl⟩:=h1;rw [hg] at h3;simp at h3;subst h3;refine .inr ⟨g,cap,(dL.toList.take (i *I.size)++v'++dL.toList.drop (i *I.size+I.size)).toArray,by rw [hE];simp,by omega,setRow_heap _ _ _ _ _ _ hg,by simpa using h4,h5,?_,?_⟩
     ·have r8:dL.toList.length=dL.size:=by simp
      have hcz:fo.xs.length *I.size<=cap *I.size:=aaj _ h4;simp only [acF,IS,acI,adj,r8];omega
     ·have r8:dL.toList.length=dL.size:=by simp
      have hcz:fo.xs.length *I.size<=cap *I.size:=aaj _ h4;simp only [ae4];rw [<-h7];have e1:(dL.toList.take (fo.xs.length *I.size)).take (i *I.size)=dL.toList.take (i *I.size):=by rw [List.take_take,Nat.min_eq_left (by omega)]
      have e2:(dL.toList.take (fo.xs.length *I.size)).drop (i *I.size+I.size)=(dL.toList.drop (i *I.size+I.size)).take (fo.xs.length *I.size-(i *I.size+I.size)):=by rw [List.drop_take]
      rw [e1,e2];have e3:(dL.toList.take (i *I.size)++v').length=i *I.size+I.size:=by simp only [IS,acI,r8];omega
      show List.take _ (dL.toList.take (i *I.size)++v'++dL.toList.drop (i *I.size+I.size))=_;rw [acH,e3,acA (by omega)]
   ·exact km.set hi hl hr
   ·intro bB mI;rw [hb] at mI;cases mI;exact ⟨.inr hZ.1,λoff u hu=>(by have hu:e.φ g off=some u:=hu;rw [hZ.2] at hu;cases hu),λ_ hf=>Bool.noConfusion hf⟩
  ·simp only [fK,if_false] at dh;obtain ⟨I2,xL,h1,h2,h3,h4,h5⟩:=(h.jN f2 o2 dh).row;exact ⟨I2,xL,h1,h2,Sz (λhk=>fK (h.ff f2 f o2 fo g dh hf hk hb)) h3,h4,h5⟩
 ·intro t t' c1 c2 h1 h2 dG;have h1:av (zR f st.fr) t= .box c1:=h1;have h2:av (zR f st.fr) t'= .box c2:=h2;rw [wv] at h1 h2;have g1:av st.fr t= .box c1:=by generalize av st.fr t=s at h1;cases s<;>simp only [UI] at h1<;>first|exact h1|(simp at h1;done)|(rename_i g' _ _ _ _;cases ET:c8 g' f<;>simp [ET] at h1)
  have g2:av st.fr t'= .box c2:=by generalize av st.fr t'=s at h2;cases s<;>simp only [UI] at h2<;>first|exact h2|(simp at h2;done)|(rename_i g' _ _ _ _;cases ET:c8 g' f<;>simp [ET] at h2)
  exact h.bb t t' c1 c2 g1 g2 dG
 ·intro t c1 f2 o2 h1 h2;have h1:av (zR f st.fr) t= .box c1:=h1;rw [wv] at h1;have g1:av st.fr t= .box c1:=by generalize av st.fr t=s at h1;cases s<;>simp only [UI] at h1<;>first|exact h1|(simp at h1;done)|(rename_i g' _ _ _ _;cases ET:c8 g' f<;>simp [ET] at h1)
  obtain ⟨o3,Yc⟩:=lX f2 o2 h2;exact h.bf t c1 f2 o3 g1 Yc
 ·intro f1 f2 o1 o2 k h1 h2 h3 h4;obtain ⟨q1,g1⟩:=lX f1 o1 h1;obtain ⟨q2,g2⟩:=lX f2 o2 h2;exact h.ff f1 f2 q1 q2 k g1 g2 h3 h4
 ·intro b off v hv;have hv:e.φ b off=some v:=hv;have dG:b≠g:=by intro eb;subst eb;rw [hZ.2] at hv;cases hv
  rw [abH (setRow_other _ _ _ _ dG)];exact h.qe b off v hv
theorem aJ.an7 {cs:List aS}: ∀{vs:List Value}{ms:List MV},aJ e vs cs->ea cs=some ms->jj e.key e.φ vs ms:=by
 induction cs with
 |nil=>intro vs ms h hm;cases h;simp [ea] at hm;subst hm;exact .nil
 |cons l r ih=>
  intro vs ms h hm;obtain ⟨v,u,rfl,h1,h2⟩:=h;cases hr:ea r with
  |none=>cases l<;>simp [ea,hr] at hm
  |some q=>
   cases l<;>simp [ea,hr] at hm
   ·subst hm;exact .cons v _ u q h1.2 (ih h2 hr)
   ·subst hm;have h1:v=bT _:=h1;subst h1;exact .cons _ _ u q (.h _) (ih h2 hr)
theorem Y8 {b:Bool}{ms:List MV}{x:MV}{vs:List Value}(h:jj e.key e.φ vs ms)(hx:Dh b ms=some x):nn e.key e.φ vs x:=by
 cases b with
 |true=>cases ms<;>simp [Dh] at hx<;>subst hx<;>exact .agg _ _ h
 |false=>
  cases ms with
  |nil=>simp [Dh] at hx
  |cons m ms=>
   cases ms with
   |cons y ys=>simp [Dh] at hx
   |nil=>
    simp [Dh] at hx;subst hx;generalize Cj:vs=Sx at h;cases h with
    |cons v _ u _ h1 h2=>cases h2;simpa using h1
theorem Y9 {t:TypeId}{x y:Operand}{I:TI}(ho:o.op= .store t x y)(hI:c.tv t=some I)(hT:lV P c.ti)(h:cG c Z e st a w)(hK:stK st I (bw c st x) (bw c st y) (λst=>bY c st o.dst (.sc .un) K)=some r):o.wp P a w (Out c Z K r e.φ w) Q:=by
 obtain ⟨hx,qz⟩:=h.eval x;obtain ⟨hy,_⟩:=h.eval y;obtain ⟨uC,hc⟩:=cc hI;have hr:=hT t I uC;have go: ∀w' cO,(ac6 t (a.eval x) (a.eval y)).run P w= .ok () w'->cG c Z e cO a w'->Trans Z e.φ w e.φ w'->bY c cO o.dst (.sc .un) K=some r->o.wp P a w (Out c Z K r e.φ w) Q:=by intro w' cO h1 h2 h3 h4;refine UE ?_ h2 h3 h4;simp [execOp,ho,h1]
 generalize bw c st x=sx at hx hK qz;generalize bw c st y=sy at hy hK;unfold stK at hK;cases hb:wm (bm sy)||!c8 (zO (bm sy)) I.size with
 |true=>simp [hb] at hK
 |false=>
  simp only [hb,cond_false] at hK;simp only [aaL,acP] at hb;have GN:=sh hb.2;have fg:0<I.size:=by
   rcases hr.agg hc with ⟨d,hu,hd,hh⟩|⟨_,_,_,_,hh⟩
   ·obtain ⟨d',i',h1,h2,h3,h4⟩:=hr;cases d'<;>simp only [uB] at h4<;>first|omega|exact h4.2.2.1|exact absurd hc h4.2.1
   ·omega
  have dG:bm sy≠[]:=by intro e0;rw [e0] at GN;simp [zO] at GN;omega
  have hcv:=Cl hy hb.1 dG;split at hK
  ·rename_i root off;simp only [ah] at hx;split at hK
   ·rename_i cs xz;have Ds:fT cs=false:=by cases hq:fT cs<;>simp_all
    simp only [Ds,cond_false] at hK;cases hp:putAt cs off (bm sy) with
    |none=>simp [hp] at hK
    |some gK=>simp only [hp] at hK;obtain ⟨w',cO,h1,h2,h3,h4⟩:=Wf (P:=P) Ds hr hc h xz hcv GN hp hK;exact go w' cO (by rw [hx];exact h1) h2 h3 h4
   ·simp at hK
  ·rename_i root off i;simp only [ah] at hx;obtain ⟨hx,Sy⟩:=hx;split at hK
   ·rename_i cs n xz;have Ds:fT cs=false:=by cases hq:fT cs<;>simp_all
    simp only [Ds,cond_false] at hK;split at hK
    ·rename_i x ls aha;unfold gI at hK;split at hK
     ·rename_i k n;by_cases hk:k= .u8
      ·subst hk;simp only [decide_true,cond_true] at hK;obtain ⟨Dw,hK⟩:=gl hK;unfold isByte at Dw;have Dw:=of_decide_eq_true Dw;have hyv:=pS hy;cases hp:putAt cs off [.hs (x.put i (acB n.toNat))] with
       |none=>simp [hp] at hK
       |some gK=>
        simp only [hp] at hK;have oW:=h.slot root;rw [xz] at oW;obtain ⟨arr,T,dx,rO⟩:=oW.2.cells Ds;obtain ⟨p1,p2,p3,he,h1,h2,h3⟩:=xJ (ws:=bT (x.put i (acB n.toNat))) hp rO ⟨_,[],by simp,rfl,rfl⟩;obtain ⟨u1,u2,hu,h4,h5⟩:=zT aha rO;obtain ⟨u3,u4,rfl,h6,_⟩:=h5;have h6:u3=bT x:=h6;subst h6;have hlx:=dJ x;have hly:=dJ (x.put i (acB n.toNat));have hpu:p1=u1/\p2++p3=bT x++u4:=List.append_inj (by rw [<-AI,<-he,hu]) (by omega);obtain ⟨rfl,hpu⟩:=hpu;obtain ⟨rfl,rfl⟩:=List.append_inj hpu (by omega);have wu:arr.size=p1.length+32+p3.length:=by
         have:arr.toList.length=(p1++bT x++p3).length:=by rw [he]
         simp at this;omega
        have Ns:(a.eval y).cells.toList=[.int .u8 n]:=by rw [hyv];simp [aai]
        have O1:I.size=1:=by rw [<-GN];rfl
        have cC:=nM (P:=P) (w:=w) (bB:=e.B root) (off:=off+i) (v:=a.eval y) hr hc (by rw [Ns,O1];rfl) (by rw [Ns];simp [aaa]) dx (by omega);have lN:arr.toList.take (off+i)++(a.eval y).cells.toList++arr.toList.drop (off+i+I.size)=p1++bT (x.put i (acB n.toNat))++p3:=by rw [Ns,O1,he,H5 x i _ Sy,<-Dw,AI p1,acH,ade,acH,ade];rw [acA (by omega),adK (by omega)];rw [show off+i-p1.length=i by omega,show off+i+1-p1.length=i+1 by omega,show i-(bT x).length=0 by omega,show i+1-(bT x).length=0 by omega];simp
        rw [lN] at cC;unfold wr at hK;cases hn:bX st.df root with
        |true=>simp [hn] at hK
        |false=>simp only [hn,cond_false,force_eq,nL] at hK;exact go _ _ (by rw [hx];exact cC) (h.Y0 xz dx (by simpa using h3) (λt=>by rw [cr]) (fG h.nodup)) (.setRow _ (Pm oW.2.dm (by rw [<-h.defers.2.1,<-b8,hn];simp))) hK
      ·simp [hk] at hK
     ·simp at hK
    ·simp at hK
   ·simp at hK
  ·rename_i f i off b cs;obtain ⟨e1,dA,ms,za,De,E6,LD,hK,hp1,Du⟩:=nt h hcv hK;have hx:=hx.on De.on (ey _);cases hf:aV dA.bk f with
   |none=>simp [hf] at hK
   |some fo=>
    simp only [hf] at hK;cases hz:fo.eT with
    |true=>simp [hz] at hK
    |false=>
     simp only [hz,cond_false] at hK;cases LC:rQ (bm sy) ms with
     |none=>simp [LC] at hK
     |some vs=>
      simp only [LC] at hK;obtain ⟨Cj,_⟩:=Du vs LC;cases hp:putAt cs off vs with
      |none=>simp [hp] at hK
      |some gK=>
       simp only [hp] at hK;cases hm:ea gK with
       |none=>simp [hm] at hK
       |some ms'=>
        simp only [hm] at hK;cases hre:Dh b ms' with
        |none=>simp [hre] at hK
        |some x'=>
         simp only [hre] at hK;cases hn:bX dA.cY f with
         |true=>simp [hn] at hK
         |false=>
          simp only [hn,cond_false,agZ,oV] at hK;simp only [ah] at hx;obtain ⟨bB,cap,hE,⟨x0,Yf,hel⟩,Za⟩:=hx fo (by rw [za.m];exact hf);obtain ⟨J,cells,hJ,hJc,eS,km,_⟩:=(za.jN f fo hf).row;have hi:i<fo.xs.length:=(AS.1 Yf).1;obtain ⟨p1,v1,p2,hce,Bh,sr,gm⟩:=km.at Yf;have rO:=gm.H0 hel;have hw1:=rO.width;obtain ⟨q1,q2,q3,Wc,hq1,hq2,lN⟩:=xJ hp rO Cj;have akc:(a.eval y).cells.toList.length=I.size:=by rw [hcv.width,GN]
          have akd:=Y8 (lN.an7 hm) hre;obtain ⟨hlen,Pw⟩:=eS;rcases Pw with ⟨g1,_⟩|⟨g2,zv,dL,g1,g0,g3,g4,g5,g6,g7⟩
          ·rw [hE] at g1;simp at g1
          ·have LH:w.ownsRow 0 fo.ty J.size (e1.E f) fo.xs.length cells:=⟨hlen,.inr ⟨g2,zv,dL,g1,g0,g3,g4,g5,g6,g7⟩⟩
           rw [hE] at g1;simp at g1;obtain ⟨rfl,rfl⟩:=g1;have hvl:(q1++(a.eval y).cells.toList++q3).length=J.size:=by
            have:v1.length=(q1++q2++q3).length:=by rw [Wc]
            simp only [IS] at this⊢;omega
           obtain ⟨tg,hZ⟩:=za.ahj hf hz hJ hJc hE LH g3 km hi hvl akd (by rw [<-za.defers.2.2.1,<-b8,hn];simp);have Zd:dL.toList=p1++q1++q2++(q3++p2++dL.toList.drop (fo.xs.length *J.size)):=by have:=List.take_append_drop (fo.xs.length *J.size) dL.toList;rw [g7,hce,Wc] at this;refine this.symm.trans ?_;simp
           have asD:q2.length=I.size:=by rw [hq2,akc]
           have H3:(p1++q1).length=i *J.size+off:=by simp [Bh,hq1]
           have asE:dL.size=(p1++q1).length+I.size+(q3++p2++dL.toList.drop (fo.xs.length *J.size)).length:=by
            have:dL.toList.length=(p1++q1++q2++(q3++p2++dL.toList.drop (fo.xs.length *J.size))).length:=by rw [<-Zd]
            rw [IS,IS] at this;rw [abR] at this;omega
           have cC:=nM (P:=P) (w:=w) (bB:=bB) (off:=i *J.size+off) (v:=a.eval y) hr hc akc hcv.cells g3 (by omega);have zX:dL.toList.take (i *J.size+off)++(a.eval y).cells.toList++dL.toList.drop (i *J.size+off+I.size)= dL.toList.take (i *J.size)++(q1++(a.eval y).cells.toList++q3)++dL.toList.drop (i *J.size+J.size):=by
            have t1:dL.toList.take (i *J.size+off)=p1++q1:=by
             conv=>lhs;rw [Zd,AI (p1++q1)]
             exact acL H3
            have t2:dL.toList.drop (i *J.size+off+I.size)=q3++p2++dL.toList.drop (fo.xs.length *J.size):=by
             conv=>lhs;rw [Zd]
             exact acD (by rw [IS];omega)
            have t3:dL.toList.take (i *J.size)=p1:=by
             conv=>lhs;rw [Zd]
             simp only [AI];exact acL Bh
            have t4:dL.toList.drop (i *J.size+J.size)=p2++dL.toList.drop (fo.xs.length *J.size):=by
             have Py:dL.toList=(p1++(q1++q2++q3))++(p2++dL.toList.drop (fo.xs.length *J.size)):=by
              conv=>lhs;rw [Zd]
              simp
             conv=>lhs;rw [Py]
             exact acD (by rw [IS,<-Wc];omega)
            rw [t1,t2,t3,t4];simp
           rw [zX] at cC;have aob:i *zO cs+off=i *J.size+off:=by rw [<-hw1,sr]
           refine UE (w':=w.setRow bB (dL.toList.take (i *J.size)++(q1++(a.eval y).cells.toList++q3)++dL.toList.drop (i *J.size+J.size)).toArray) ?_ tg ?_ hK
           ·rw [aob] at Za;simp [execOp,ho,Za,cC]
           ·exact De.tr.trans (.setRow _ hZ)
  ·simp at hK
end
end Dn
/-
  Structs and sums that are put together. Conditions: none.
-/
namespace Dn
open Go
section
variable {P:Program}{c:Ctx}{Z:cb} {e e':Env}{st:St}{a:Act} {w w':World}{R:Type}{K:St->Option R}{r:R}{Q:Exit->Act->World->Prop}{o:Oper}
theorem LI {place:Nat->Option (Nat×Nat)}{cells:Array Value}{i off:Nat}{v:Value}{rest:List (Nat×Value)}(hp:place i=some (off,v.cells.size))(hle:off+v.cells.size<=cells.size): acV place cells ((i,v)::rest)=acV place (cells.toList.take off++v.cells.toList++cells.toList.drop (off+v.cells.size)).toArray rest:=by
 conv=>lhs;unfold acV
 simp only [hp];rw [if_neg (by simp;omega)];congr 1;rw [<-Array.foldl_toList,Array.toList_zipIdx];obtain ⟨h1,h2⟩:=Go.Great.foldl_set off v.cells.toList 0 cells;apply Array.ext_getElem?;intro k;have hl:(cells.toList.take off).length=off:=by simp;omega
 have e0:=h2 k;simp only [acN,abR] at e0;refine Eq.trans e0 ?_;have e1:(cells.toList.take off++v.cells.toList++cells.toList.drop (off+v.cells.size)).toArray[k]? =(cells.toList.take off++v.cells.toList++cells.toList.drop (off+v.cells.size))[k]? :=by simp
 rw [e1,AI];have e2:cells[k]? =cells.toList[k]? :=by simp
 by_cases h3:k<off
 ·rw [if_neg (by omega),OF (by omega),aa6,if_pos h3,e2]
 ·rw [No (by omega),hl];by_cases h4:k<off+v.cells.size
  ·rw [if_pos ⟨by omega,h4,by omega⟩,OF (by simp;omega)]
  ·rw [if_neg (by omega),No (by simp;omega),acR,e2];congr 1;simp;omega
theorem SD {I:TI}{places:List (Nat×Nat)}(h:cG c Z e st a w)(LC: ∀(i q y:Nat)(J:TI),I.xC[i]? =some q->I.V2[i]? =some y->c.tv y=some J->places[i]? =some (q,J.size)/\0<J.size){parts:List (Nat×Operand)}: ∀{cs ds:List aS}{cells:Array Value},aJ e cells.toList cs->CA c st I parts cs=some ds-> ∃out,acV (places.toArray[·]?) cells (parts.map λp=>(p.1,a.eval p.2))=some out/\aJ e out.toList ds:=by
 induction parts with
 |nil=>intro cs ds cells hl hb;simp [CA] at hb;subst hb;exact ⟨cells,rfl,hl⟩
 |cons p ps ih=>
  intro cs ds cells hl hb;obtain ⟨i,x⟩:=p;simp only [CA] at hb;split at hb
  ·rename_i q y hq hy;cases hJ:c.tv y with
   |none=>simp [hJ] at hb
   |some J=>
    simp only [hJ] at hb;obtain ⟨hpi,fg⟩:=LC i q y J hq hy hJ;cases hu:wm (bm (bw c st x))||!c8 (zO (bm (bw c st x))) J.size with
    |true=>simp [hu] at hb
    |false=>
     simp only [hu,cond_false] at hb;simp only [aaL,acP] at hu;have GN:=sh hu.2;cases hp:putAt cs q (bm (bw c st x)) with
     |none=>simp [hp] at hb
     |some gK=>
      simp only [hp] at hb;have dG:bm (bw c st x)≠[]:=by intro e0;rw [e0] at GN;simp [zO] at GN;omega
      have hv:=Cl (h.eval x).1 hu.1 dG;obtain ⟨p1,p2,p3,he,h1,h2,h3⟩:=xJ hp hl hv;have hlen:(a.eval x).cells.size=J.size:=by rw [<-GN,<-hv.width];simp
      have wu:cells.size=p1.length+p2.length+p3.length:=by
       have:cells.toList.length=(p1++p2++p3).length:=by rw [he]
       simp at this;omega
      have Pu:p2.length=(a.eval x).cells.size:=by rw [h2];simp
      have UJ:=LI (place:=(places.toArray[·]?)) (cells:=cells) (i:=i) (off:=q) (v:=a.eval x) (rest:=ps.map λp=>(p.1,a.eval p.2)) (by rw [hlen];simpa using hpi) (by omega);have ht:cells.toList.take q++(a.eval x).cells.toList++cells.toList.drop (q+(a.eval x).cells.size)=p1++(a.eval x).cells.toList++p3:=by rw [he];rw [AI p1 p2 p3,acL h1,<-AI p1 p2 p3,acD (by rw [IS];omega)]
      rw [ht] at UJ;obtain ⟨out,h4,h5⟩:=ih (cells:=(p1++(a.eval x).cells.toList++p3).toArray) (by simpa using h3) hb;exact ⟨out,by rw [IT,UJ];exact h4,h5⟩
  ·simp at hb
theorem SE {parts:List (Nat×Operand)}(h:cG c Z e st a w): ∀{x:lQ} {K':lQ->Option R},HK c st parts x K'=some r-> ∃y,acV (λi=>some (i *1,1)) (bT x).toArray (parts.map λp=>(p.1,a.eval p.2))=some (bT y).toArray/\K' y=some r:=by
 induction parts with
 |nil=>intro x K' hb;exact ⟨x,rfl,hb⟩
 |cons p ps ih=>
  intro x K' hb;obtain ⟨i,y⟩:=p;simp only [HK] at hb;split at hb
  ·rename_i m hm;cases hi:aaK 32 i with
   |true=>simp [hi] at hb
   |false=>
    simp only [hi,cond_false] at hb;have Sy:i<32:=by
     by_cases dK:i<32
     ·exact dK
     ·have:aaK 32 i=true:=adX (by omega);simp_all
    unfold gI at hb;split at hb
    ·rename_i k n;by_cases hk:k= .u8
     ·subst hk;simp only [decide_true,cond_true] at hb;obtain ⟨Dw,hb⟩:=gl hb;unfold isByte at Dw;have Dw:=of_decide_eq_true Dw;obtain ⟨out,h1,h2⟩:=ih hb;have hv:=pS (by have:=(h.eval y).1;rw [hm] at this;exact this);refine ⟨out,?_,h2⟩;rw [<-h1,IT];have SC:(a.eval y).cells= #[.int .u8 n]:=by rw [hv];simp [aai]
      have UJ:=LI (place:=λi=>some (i *1,1)) (cells:=(bT x).toArray) (i:=i) (off:=i *1) (v:=a.eval y) (rest:=ps.map λp=>(p.1,a.eval p.2)) (by rw [SC];rfl) (by rw [SC];have:=dJ x;simp;omega);rw [UJ,H5 x i _ Sy,<-Dw,SC];simp
     ·simp [hk] at hb
    ·simp at hb
  ·simp at hb
theorem Wj (P:Program)(l:List Field):(∀f∈l,∃i,P.info? f.type=some i)-> ∃places,l.mapM (λf=>(P.info? f.type).map λi=>(f.offset,i.size))=some places/\ ∀(k:Nat)(f:Field),l[k]? =some f-> ∃i,P.info? f.type=some i/\places[k]? =some (f.offset,i.size):=by
 induction l with
 |nil=>intro _;exact ⟨[],by simp,by simp⟩
 |cons f fs ih=>
  intro h;obtain ⟨i,hi⟩:=h f (by simp);obtain ⟨ps,h1,h2⟩:=ih (λg hg=>h g (by simp [hg]));refine ⟨(f.offset,i.size)::ps,by simp [List.mapM_cons,hi,h1],?_⟩;intro k g hg;cases k with
  |zero=>simp at hg;subst hg;exact ⟨i,hi,rfl⟩
  |succ k=>simp at hg;simpa using h2 k g hg
theorem Ze {t:TypeId}{parts:Array (Nat×Operand)}{I:TI}(ho:o.op= .build t parts)(hI:c.tv t=some I)(hT:lV P c.ti)(h:cG c Z e st a w)(hK:(bif I.st then (match CA c st I parts.toList I.zero with|some cs=>bY c st o.dst (.ag cs) K|none=>none)
  else (match I.lay with|[.h]=>HK c st parts.toList lQ.zero λx=>bY c st o.dst (.sc (.hs x)) K|_=>none))=some r):Rd P c Z K r e a w o (λ_=>True):=by
 obtain ⟨uC,hc⟩:=cc hI;obtain ⟨d,i,h1,h2,h3,h4⟩:=hT t I uC;have Yg:(parts.map λ(i,x)=>(i,a.eval x)).toList=parts.toList.map λp=>(p.1,a.eval p.2):=by simp
 have run: ∀out,P.built t (parts.toList.map λp=>(p.1,a.eval p.2))=some out-> ∀w:World,(execOp a.eval o).run P w= .ok (.value (.agg out)) w:=by intro out hb w;have:=run_build (P:=P) w t (parts.map λ(i,x)=>(i,a.eval x)) out (by rw [Yg];exact hb);simp [execOp,ho] at this⊢;simp [this]
 cases eR:I.st with
 |true=>
  simp only [eR,cond_true] at hK;cases d<;>simp only [uB] at h4;case struct fs=>
   obtain ⟨_,_,_,ho1,dh,Yc,zc,hz,hzl,_⟩:=h4;cases hb:CA c st I parts.toList I.zero with
   |none=>simp [hb] at hK
   |some cs=>
    simp only [hb] at hK;have aoc: ∃places,fs.toList.mapM (λf=>(P.info? f.type).map λi=>(f.offset,i.size))=some places/\ (∀(i q y:Nat) (J:TI),I.xC[i]? =some q->I.V2[i]? =some y->c.tv y=some J->places[i]? =some (q,J.size)/\0<J.size):=by
     obtain ⟨places,hp1,R5⟩:=Wj P fs.toList (by intro f hf;obtain ⟨k,hk,rfl⟩:=aec.1 hf;obtain ⟨J,hJ,hJc,_⟩:=Yc k fs.toList[k] (by simp at hk⊢);obtain ⟨i,hi,_⟩:=(hT _ J hJ).info hJc;exact ⟨i,hi⟩);refine ⟨places,hp1,?_⟩;intro i q y J hq hy hJ;rw [<-ho1,aa5] at hq;rw [<-dh,aa5] at hy;cases hf:fs.toList[i]? with
     |none=>simp [hf] at hq
     |some f=>simp [hf] at hq hy;subst hq;subst hy;obtain ⟨J2,hJ2,aod,fg⟩:=Yc i f (by simpa using hf);obtain ⟨hJt,_⟩:=cc hJ;rw [hJ2] at hJt;cases hJt;obtain ⟨i2,Yh,aoe⟩:=R5 i f hf;obtain ⟨i3,hi3,hs3,_⟩:=(hT _ J hJ2).info aod;rw [Yh] at hi3;cases hi3;exact ⟨by rw [aoe,hs3],fg⟩
    obtain ⟨places,LC,SF⟩:=aoc;obtain ⟨out,h5,h6⟩:=SD h SF (cells:=zc) (qR hzl) hb;refine kj (v:= .agg out) (s:= .ag cs) h (run out ?_) ?_ trivial hK
    ·unfold Program.built;simp only [h2,h1,hz,LC];exact h5
    ·simp only [ah];exact ⟨out,rfl,h6⟩
  all_goals (exfalso;simp_all)
 |false=>
  simp only [eR,cond_false] at hK;split at hK
  ·rename_i hl;cases d<;>simp only [uB,hl,eR] at h4<;>first|(exfalso;simp_all;done)|skip
   obtain ⟨_,_,_,rfl,rfl,⟨ie,hu,oQ,za⟩,_,_,hz⟩:=h4;obtain ⟨y,h5,h6⟩:=SE h hK;refine kj (v:= .agg (bT y).toArray) (s:= .sc (.hs y)) h (run _ ?_) ?_ trivial h6
   ·unfold Program.built;simp only [h2,h1,hz,oQ,za];exact h5
   ·simp only [ah]
  ·simp at hK
end
end Dn
/-
  A family comes to have other content. Conditions: none.
-/
namespace Dn
open Go
section
variable {P:Program}{c:Ctx}{Z:cb} {e e':Env}{st:St}{a:Act} {w w':World}{R:Type}{K:St->Option R}{r:R}{Q:Exit->Act->World->Prop}{o:Oper}
def Env.B1 (e:Env)(f:Nat)(v:Value)(fo:oS):Env:={e with E:=λg=>if g=f then v else e.E g,m:=cw e.m f fo}
def St.B1 (st:St)(f:Nat)(fo:oS):St:={st with fr:=lM f st.fr,bk:=cw st.bk f fo}
theorem E9 (f:Nat)(s:Slot):dv (Ci f s)=dv s:=by cases s<;>simp only [Ci,dv];rename_i g _ _ _ _;cases c8 g f<;>rfl
theorem uR {f:Nat}{s:Slot}{cs:List aS}(h:Ci f s= .box cs): ∃GO,s= .box GO/\cs=GO.map (O0 f):=by
 cases s<;>simp only [Ci] at h<;>first|(simp at h;done)|(rename_i g _ _ _ _;cases hb:c8 g f<;>simp [hb] at h;done)|skip
 rename_i GO;simp at h;exact ⟨GO,rfl,h.symm⟩
theorem cG.lR {f:Nat}{fo:oS} {v':Value}(h:cG c Z e st a w)(CJ:f∉Z.cY)(iN:dH c Z.nc e w' v' fo)(aqV:w.heap.size<=w'.heap.size)(dx: ∀b,b<w.heap.size->(∀o,aV st.bk f=some o->(e.E f).ownBlock≠some b)->w'.heap[b]? =w.heap[b]?)(kb: ∀b o v,e.φ b o=some v->w'.cell? ⟨b,o,none⟩=some v)(lN: ∀b,v'.ownBlock=some b->w.heap.size<=b\/ ∃o,aV st.bk f=some o/\(e.E f).ownBlock=some b): cG c Z (e.B1 f v' fo) (st.B1 f fo) a w':=by
 have vG:lr (· ≠f) (λ_=>True) e (e.B1 f v' fo):=by refine ⟨rfl,.refl _,λ_ _=>rfl,λf2 o2 dh dG=> ?_⟩;have dh:aV (cw e.m f fo) f2=some o2:=dh;rw [bG] at dh;simp only [dG,if_false] at dh;exact ⟨o2,dh,by simp [Env.B1,dG],rfl⟩
 have Zf: ∀t cs,av st.fr t= .box cs->e.B t<w.heap.size:=by intro t cs ht;have hs:=h.slot t;rw [ht] at hs;obtain ⟨o2,h1,_⟩:=hs.2.obj;exact bZ h1
 have vF: ∀t cs,av st.fr t= .box cs->w'.heap[e.B t]? =w.heap[e.B t]? :=by intro t cs ht;exact dx _ (Zf t cs ht) (λo ho=>h.bf t cs f o ht ho)
 refine ⟨h.defers,h.size,by show cw e.m f _=cw st.bk f _;rw [h.m],h.key,?_,?_,?_,?_,?_,?_,?_,kb,λb hb=>h.dm b (by omega)⟩
 ·show (bg (lM f st.fr)).Nodup;have:bg (lM f st.fr)=bg st.fr:=by simp [bg,lM]
  rw [this];exact h.nodup
 ·intro t;show cz Z _ _ t _ (av (lM f st.fr) t);rw [iK];have hs:=h.slot t;have Fa:=vF t;generalize av st.fr t=s at hs Fa;by_cases E8: ∃cs,s= .box cs
  ·obtain ⟨cs,rfl⟩:=E8;simp only [cz,Ci] at hs⊢;refine ⟨hs.1.mG (Su f _),hs.2.dm,?_,hs.2.free⟩;obtain ⟨o2,h1,h2⟩:=hs.2.obj;refine ⟨o2,by show w'.heap[e.B t]? =_;rw [Fa cs rfl];exact h1,?_⟩;refine (h2.map (λ_ _=>bp.kill f) (λ_ _=>rfl)).on vG ?_;intro l hl;obtain ⟨x,_,rfl⟩:=adz.1 hl;exact HX f x
  ·have Bi:ah e (a.tmps.getD t undef) s:=by cases s<;>simp only [cz] at hs<;>first|exact hs|exact absurd ⟨_,rfl⟩ E8
   have h2:=(Bi.kill f).on vG (YQ f _ s (ey s));generalize hks:Ci f s=s2 at h2;cases s2<;>first|exact h2|(exfalso;simp [ah] at h2)
 ·intro t;show cZ (lM f st.fr) (av (lM f st.fr) t);rw [iK];have qz:=h.root t;generalize av st.fr t=s at qz;have hk: ∀q,dv (av (lM f st.fr) q)=dv (av st.fr q):=λq=>by rw [iK,E9]
  cases s with
  |ptr q o=>show dv (av (lM f st.fr) q)=true;rw [hk];exact qz
  |hp q o i=>show dv (av (lM f st.fr) q)=true;rw [hk];exact qz
  |zN q=>show dv (av (lM f st.fr) q)=true;rw [hk];exact qz
  |ep g' _ _ _ _=>simp only [Ci];cases c8 g' f<;>trivial
  |_=>trivial
 ·intro f2 o2 dh;have dh:aV (cw st.bk f fo) f2=some o2:=dh;rw [bG] at dh;by_cases fK:f2=f
  ·subst fK;simp at dh;subst dh;have:=(iN.to CJ).env (e':=e.B1 f2 v' fo) rfl rfl;simpa [Env.B1] using this
  ·simp only [fK,if_false] at dh;obtain ⟨I2,xL,h1,h2,h3,h4,h5⟩:=(h.jN f2 o2 dh).row;refine ⟨I2,xL,h1,h2,?_,h4,?_⟩
   ·show w'.ownsRow 0 o2.ty I2.size (if f2=f then v' else e.E f2) o2.xs.length xL;rw [if_neg fK];refine ⟨h3.1,?_⟩;rcases h3.2 with h6|⟨g,cap,dL,g1,g2,g3,g4⟩
    ·exact .inl h6
    ·refine .inr ⟨g,cap,dL,g1,g2,?_,g4⟩;rw [dx g (bZ g3) (λo ho hk=>fK (h.ff f2 f o2 o g dh ho (by rw [g1];rfl) hk))];exact g3
   ·intro bB hb;have hb:(if f2=f then v' else e.E f2).ownBlock=some bB:=hb;rw [if_neg fK] at hb;exact h5 bB hb
 ·intro t t' c1 c2 h1 h2 dG;have h1:av (lM f st.fr) t= .box c1:=h1;have h2:av (lM f st.fr) t'= .box c2:=h2;rw [iK] at h1 h2;obtain ⟨d1,g1,_⟩:=uR h1;obtain ⟨d2,g2,_⟩:=uR h2;exact h.bb t t' d1 d2 g1 g2 dG
 ·intro t c1 f2 o2 h1 h2;have h1:av (lM f st.fr) t= .box c1:=h1;have h2:aV (cw st.bk f fo) f2=some o2:=h2;rw [iK] at h1;rw [bG] at h2;obtain ⟨d1,g1,_⟩:=uR h1;show (if f2=f then v' else e.E f2).ownBlock≠some (e.B t);by_cases fK:f2=f
  ·rw [if_pos fK];intro hb;rcases lN _ hb with h3|⟨o,h3,h4⟩
   ·have:=Zf t d1 g1;omega
   ·exact h.bf t d1 f o g1 h3 h4
  ·rw [if_neg fK];simp only [fK,if_false] at h2;exact h.bf t d1 f2 o2 g1 h2
 ·intro f1 f2 o1 o2 k h1 h2 h3 h4;have h1:aV (cw st.bk f fo) f1=some o1:=h1;have h2:aV (cw st.bk f fo) f2=some o2:=h2;have h3:(if f1=f then v' else e.E f1).ownBlock=some k:=h3;have h4:(if f2=f then v' else e.E f2).ownBlock=some k:=h4;rw [bG] at h1 h2;have Bg: ∀g og,aV st.bk g=some og->(e.E g).ownBlock=some k->k<w.heap.size:=by
   intro g og hg hk;obtain ⟨I2,xL,_,_,g3,_⟩:=(h.jN g og hg).row;rcases g3.2 with ⟨g5,_⟩|⟨b,cap,dL,g5,_,g6,_⟩
   ·rw [g5] at hk;simp [BY] at hk
   ·rw [g5] at hk;simp only [BY,AT] at hk;subst hk;exact bZ g6
  by_cases SH:f1=f
  ·by_cases Cn:f2=f
   ·rw [SH,Cn]
   ·rw [if_pos SH] at h3;rw [if_neg Cn] at h4;simp only [Cn,if_false] at h2;rcases lN k h3 with h5|⟨o,h5,h6⟩
    ·have:=Bg f2 o2 h2 h4;omega
    ·exact SH.trans (h.ff f f2 o o2 k h5 h2 h6 h4)
  ·rw [if_neg SH] at h3;simp only [SH,if_false] at h1;by_cases Cn:f2=f
   ·rw [if_pos Cn] at h4;rcases lN k h4 with h5|⟨o,h5,h6⟩
    ·have:=Bg f1 o1 h1 h3;omega
    ·exact (h.ff f1 f o1 o k h1 h5 h3 h6).trans Cn.symm
   ·rw [if_neg Cn] at h4;simp only [Cn,if_false] at h2;exact h.ff f1 f2 o1 o2 k h1 h2 h3 h4
theorem wA {f:Nat}{fo:oS}(hK:lR st f fo K=some r):K (st.B1 f fo)=some r:=by
 unfold Dn.lR at hK;cases hn:bX st.cY f with
 |true=>simp [hn] at hK
 |false=>simpa [hn,YN,oV,St.B1] using hK
theorem cG.npf {f:Nat}{fo:oS}(h:cG c Z e st a w)(hK:Dn.lR st f fo K=some r):f∉Z.cY:=by intro hm;rw [<-h.defers.2.2.1,<-b8] at hm;simp [Dn.lR,hm] at hK
theorem Dx {f:Nat}{fo:oS}{v:Value}(h1:v.oneCell'=true):ah (e.B1 f v fo) v (.sc (.own f)):=by simp only [ah];exact ⟨v,rfl,h1,λo ho=>by simp [Env.B1]⟩
end
end Dn
/-
  What is appended. Conditions: none.
-/
namespace Dn
open Go
section
variable {P:Program}{c:Ctx}{Z:cb} {e e':Env}{st:St}{a:Act} {w w':World}{R:Type}{K:St->Option R}{r:R}{Q:Exit->Act->World->Prop}{o:Oper}
theorem sV {t:TypeId}{I:TI}(hr:oq c.ti P t I)(hc:I.du=[]): ∃i z,P.info? t=some i/\i.size=I.size/\i.bytes=I.bytes/\i.zero=some z/\z.cells.size=I.size:=by
 obtain ⟨d,i,h1,h2,h3,h4⟩:=hr;obtain ⟨h5,h6⟩:=h3 hc;cases d<;>simp only [uB] at h4;case struct fs=>obtain ⟨_,_,_,_,_,_,cs,hz,_,hs⟩:=h4;exact ⟨i,_,h2,h5,h6,hz,by simpa [aai] using hs⟩
 case tuple ts=>exact absurd hc h4.2.1
 case slice el=>obtain ⟨_,_,hs,_,_,hz,_⟩:=h4;exact ⟨i,_,h2,h5,h6,hz,by rw [hs];rfl⟩
 case array n el=>obtain ⟨_,_,hs,_,_,_,_,_,hz⟩:=h4;exact ⟨i,_,h2,h5,h6,hz,by rw [hs];simp [aai,dJ]⟩
 case bool=>obtain ⟨_,_,hs,_,_,hz⟩:=h4;exact ⟨i,_,h2,h5,h6,hz,by rw [hs];rfl⟩
 case int k=>obtain ⟨_,_,hs,_,_,hz⟩:=h4;exact ⟨i,_,h2,h5,h6,hz,by rw [hs];rfl⟩
 case string=>obtain ⟨_,_,hs,_,_,b,hz,_⟩:=h4;exact ⟨i,_,h2,h5,h6,hz,by rw [hs];rfl⟩
 all_goals
  obtain ⟨_,_,hs,_,v,hz,hv,_⟩:=h4;refine ⟨i,v,h2,h5,h6,hz,?_⟩;rw [hs];cases v<;>simp_all [aai,aaa]
structure Src (e:Env) (w:World) (size:Nat) (v:Value) (ys:List MV) (news:List Value):Prop where
 els:bx e.key e.φ size news ys
 val: ∃ad cap,v= .slice ad ys.length cap/\(ad=none->ys=[])/\ ∀x,ad=some x-> ∀(j:Nat) (u:Value),news[j]? =some u->w.cell? (x.add j)=some u
theorem bx.CK {key:Nat->Nat} {φ:Ph}{size:Nat}{xs:List MV}: ∀{cs:List Value},bx key φ size cs xs-> ∀u∈cs,u.oneCell'=true:=by
 induction xs with
 |nil=>intro cs h;cases h;simp
 |cons x xs ih=>
  intro cs h u hu;obtain ⟨v,q,rfl,_,h2,h3⟩:=h;rcases adP.1 hu with hu|hu
  ·exact h2.cells u hu
  ·exact ih h3 u hu
theorem bx.append {key:Nat->Nat} {φ:Ph}{size:Nat}{xs ys:List MV}: ∀{cs ds:List Value},bx key φ size cs xs->bx key φ size ds ys->bx key φ size (cs++ds) (xs++ys):=by
 induction xs with
 |nil=>intro cs ds h h';cases h;simpa using h'
 |cons x xs ih=>intro cs ds h h';obtain ⟨v,q,rfl,h1,h2,h3⟩:=h;exact ⟨v,q++ds,by simp,h1,h2,ih h3 h'⟩
theorem H6 {key:Nat->Nat} {φ:Ph}{size:Nat}{xs:List MV}: ∀{f:Nat->List Value},(∀i,i<xs.length->(f i).length=size)->(∀(i:Nat)(h:i<xs.length),nn key φ (f i) xs[i])-> ∃cs,bx key φ size cs xs/\ ∀(i j:Nat),i<xs.length->j<size->cs[i *size+j]? =(f i)[j]? :=by
 induction xs with
 |nil=>intro f _ _;exact ⟨[],rfl,λi j hi=>by simp at hi⟩
 |cons x xs ih=>
  intro f h1 h2;obtain ⟨cs,h3,h4⟩:=ih (f:=λi=>f (i+1)) (λi hi=>h1 (i+1) (by simpa using hi)) (λi hi=>h2 (i+1) (by simpa using hi));have hl:=h1 0 (by simp);refine ⟨f 0++cs,⟨f 0,cs,rfl,hl,h2 0 (by simp),h3⟩,?_⟩;intro i j hi hj;cases i with
  |zero=>rw [aeB,aaI,OF (by omega)]
  |succ i=>rw [acw,No (by omega),show i *size+size+j-(f 0).length=i *size+j by omega];exact h4 i j (by simpa using hi) hj
theorem Pz {I E:TI}{x:Slot}{v:Value} {K':List MV->Option R}(h:cG c Z e st a w)(hE:c.ti I.elem=some E)(fg:0<E.size)(hx:ah e v x)(hK:Na I E st x K'=some r): ∃ys news,Src e w E.size v ys news/\K' ys=some r:=by
 unfold Na at hK;split at hK
 ·rename_i xs;obtain ⟨hw,hK⟩:=gl hK;simp only [ah,bp] at hx;obtain ⟨_,hx⟩:=hx;generalize hv:[v]=vs at hx;cases hx with
  |list ad cap _ bB off OZ f g1 g2 g3 g4 g5=>
  simp at hv;have hes: ∀i,i<xs.length->(f i).length=E.size:=by intro i hi;rw [(g5 i hi).width];exact Dv hw _ (aeG hi)
  obtain ⟨cs,h1,h2⟩:=H6 hes g5;refine ⟨xs,cs,⟨h1,ad,cap,hv,?_,?_⟩,hK⟩
  ·intro hn;cases xs with
   |nil=>rfl
   |cons y ys=>have:=g2 (by simp);rw [hn] at this;cases this
  ·intro x hx j u hj;have KA:j<cs.length:=(AS.1 hj).1;rw [h1.length] at KA;have H7:0<xs.length:=by
    cases xs with
    |nil=>simp at KA
    |cons y ys=>simp
   have PA:=g2 H7;rw [hx] at PA;cases PA;have hq:j/E.size<xs.length:=(Nat.div_lt_iff_lt_mul fg).2 KA;have hm:=Nat.mod_lt j fg;have Kz:j=j/E.size *E.size+j%E.size:=by rw [Nat.mul_comm];exact (Nat.div_add_mod j E.size).symm
   have e1:=h2 (j/E.size) (j%E.size) hq hm;rw [<-Kz,hj] at e1;have Zg:OZ=E.size:=by rw [<-g3 0 H7,hes 0 H7]
   have e2:=g4 (j/E.size) (j%E.size) hq (by rw [Zg];exact hm);rw [<-e1,Zg,acJ,<-Kz] at e2;have:=h.qe _ _ _ e2;rw [acC];exact this
 ·simp only [ah] at hx;have hx:[v]=[ab1 none 0 0]:=hx;simp at hx;exact ⟨[],[],⟨rfl,none,0,hx,λ_=>rfl,by simp⟩,hK⟩
 ·rename_i f;cases hf:aV st.bk f with
  |none=>simp [hf] at hK
  |some fo=>
   simp only [hf] at hK;cases hb:c8 fo.ty I.elem with
   |false=>simp [hb] at hK
   |true=>
    simp only [hb,cond_true] at hK;have kI:=sh hb;obtain ⟨hv,_⟩:=sw h hx hf;obtain ⟨J,cells,hJ,_,eS,km,_⟩:=(h.jN f fo hf).row;rw [kI,hE] at hJ;cases hJ;refine ⟨fo.xs,cells,⟨km,?_⟩,hK⟩;rcases eS.2 with ⟨h1,h2⟩|⟨g,cap,dL,h1,_⟩
    ·exact ⟨none,0,by rw [hv,h1,h2],λ_=>IN h2,by simp⟩
    ·refine ⟨some ⟨g,0,none⟩,cap,by rw [hv,h1],by simp,?_⟩;intro x hx j u hj;cases hx;exact eS.cells (g:=g) (by rw [h1];rfl) j u hj
 ·simp at hK
end
end Dn
/-
  Appends. Conditions: none.
-/
namespace Dn
open Go
section
variable {P:Program}{c:Ctx}{Z:cb} {e e':Env}{st:St}{a:Act} {w w':World}{R:Type}{K:St->Option R}{r:R}{Q:Exit->Act->World->Prop}{o:Oper}
structure akh (w w':World) (el:TypeId) (size:Nat) (v v':Value) (n m:Nat) (cells news:List Value):Prop where
 own:w'.ownsRow 0 el size v' (n+m) (cells++news)
 size:w.heap.size<=w'.heap.size
 Bg: ∀k,k<w.heap.size->some k≠v.ownBlock->w'.heap[k]? =w.heap[k]?
 cell: ∀(k off:Nat) (u:Value),v.ownBlock=some k->off<cells.length->w.cell? ⟨k,off,none⟩=some u->w'.cell? ⟨k,off,none⟩=some u
 place:v'.ownBlock=v.ownBlock\/v'.ownBlock=some w.heap.size
 rest:Rest w w'
structure Apx (P:Program) (w:World) (u el:TypeId) (size:Nat) (x:Value) (m:Nat) (news:List Value):Prop where
 ty:P.underlying u=some (.slice el)\/P.underlying u=some .string
 len:Builtin.lenOf x=pure m
 now:(acE size m x).run P w= .ok news.toArray w
 drew:(acE size m x).run P w.drew= .ok news.toArray w.drew
 one: ∀y∈news,y.oneCell'=true
 nl:news.length=m *size
theorem Src.apx {ys:List MV}{news:List Value}{x:Value}{u el:TypeId}{size:Nat}(hu:P.underlying u=some (.slice el))(h:Src e w size x ys news):Apx P w u el size x ys.length news:=by
 obtain ⟨ad,cap,hx,UK,afP⟩:=h.val;have Hk:=h.els.length;subst hx;cases ad with
 |none=>have hys:=UK rfl;subst hys;have:news=[]:=IN (by simpa using Hk);subst this;exact ⟨.inl hu,rfl,run_firstCells_none w _ _ _ _,run_firstCells_none w.drew _ _ _ _,h.els.CK,Hk⟩
 |some ad=>exact ⟨.inl hu,rfl,run_firstCells_some w _ _ _ _ _ _ Hk (afP ad rfl),run_firstCells_some w.drew _ _ _ _ _ _ Hk (by simpa using afP ad rfl),h.els.CK,Hk⟩
theorem Apx.str {u el:TypeId}(hu:P.underlying u=some .string)(b:ByteArray):Apx P w u el 1 (.string b) b.size (b.data.toList.map λx=> .int .u8 (x.toNat:Int)):=by
 have hf: ∀w',(acE 1 b.size (.string b)).run P w'= .ok (b.data.toList.map λx=>aeD .u8 (x.toNat:Int)).toArray w':=by
  intro w';have he:b.extract 0 b.size=b:=by apply ByteArray.ext;rw [adJ];exact Array.extract_eq_self_of_le (aaf _)
  simp only [acE,he,Sem.run_pure];congr 1;apply Array.ext';simp
 exact ⟨.inr hu,rfl,hf w,hf w.drew,by simp [aaa],by simp⟩
section
variable {t u ty el:TypeId}{i:TypeInfo}{z x:Value}{m:Nat}{news:List Value}(ht:P.underlying t=some (.slice el))(hi:P.info? el=some i)(hz:i.zero=some z)(hx:Apx P w u el i.size x m news)
include ht hi hx
theorem adf (h0:m=0):(aaJ #[t,u] ty #[.slice none 0 0,x]).run P w= .ok (.slice none 0 0) w:=by subst h0;have hn:=hx.now;have hl:=hx.len;rcases hx.ty with hu|hu<;>simp [aaJ,run_underlying ht,run_underlying hu,abG,typeInfo,hi,hl,hn]
theorem adg {g qf zY:Nat}{dL:Array Value}(hg:w.heap[g]? =some (.cells dL el (0,0)))(uS:qf+m<=zY)(zu:qf *i.size+news.length<=dL.size): (aaJ #[t,u] ty #[.slice (some ⟨g,0,none⟩) qf zY,x]).run P w= .ok (.slice (some ⟨g,0,none⟩) (qf+m) zY) (w.setRow g (dL.toList.take (qf *i.size)++news++dL.toList.drop (qf *i.size+news.length)).toArray):=by have eR:=run_storeCells_at P g (qf *i.size) el news 0 dL w hg (by simpa using zu) hx.one;simp only [acN] at eR;have hn:=hx.now;have hl:=hx.len;rcases hx.ty with hu|hu<;>simp [aaJ,run_underlying ht,run_underlying hu,abG,typeInfo,hi,hl,uS,hn,Addr.add_lit,eR]
include hz
theorem ahm (h0:0<m)(h63:(m:Int)<=9223372036854775807)(h48:m *i.bytes<=281474976710656): (aaJ #[t,u] ty #[.slice none 0 0,x]).run P w= .ok (.slice (some ⟨w.heap.size,0,none⟩) m (grownCap w m 0 el)) (w.drew.alloc (.cells (news.toArray++ac4 z.cells (grownCap w m 0 el-m)) el)):=by
 have dG:m≠0:=by omega
 have ahn: ¬(9223372036854775807<(m:Int)):=by omega
 have aho: ¬(281474976710656<acK m 0 *i.bytes):=by rw [nextslicecap_zero h0];omega
 have hn:=hx.drew;have hl:=hx.len;rcases hx.ty with hu|hu<;>simp [aaJ,run_underlying ht,run_underlying hu,abG,typeInfo,zeroValue,hi,hz,hl,dG,ahn,aho,Question.forced,run_firstCells_none,hn,newRow,grownCap]
theorem adh {b:Addr}{qf zY:Nat}{adi:List Value}(hlo:adi.length=qf *i.size)(holds: ∀j v,adi[j]? =some v->w.cell? (b.add j)=some v)(hg:zY<qf+m)(h63:((qf+m:Nat):Int)<=9223372036854775807)(zu:acK (qf+m) zY *i.bytes<=281474976710656): (aaJ #[t,u] ty #[.slice (some b) qf zY,x]).run P w= .ok (.slice (some ⟨w.heap.size,0,none⟩) (qf+m) (grownCap w (qf+m) zY el)) (w.drew.alloc (.cells (adi.toArray++news.toArray++ac4 z.cells (grownCap w (qf+m) zY el-(qf+m))) el)):=by
 have dG: ¬(qf+m<=zY):=by omega
 have ahn: ¬(9223372036854775807<((qf:Int)+(m:Int))):=by omega
 have aho: ¬(281474976710656<acK (qf+m) zY *i.bytes):=by omega
 have hfo:=run_firstCells_some (P:=P) w.drew i.size qf b qf zY adi hlo (by simpa using holds);have hn:=hx.drew;have hl:=hx.len;rcases hx.ty with hu|hu<;>(simp [aaJ,run_underlying ht,run_underlying hu,abG,typeInfo,zeroValue,hi,hz,hl,dG,ahn,aho,Question.forced,hn,hfo,newRow,grownCap];congr 2;apply Array.ext';simp [AI])
end
theorem CL {t u ty:TypeId}{I E:TI}{v x:Value}{n m:Nat}{cells news:List Value}(hu:P.underlying t=some (.slice I.elem))(hE:c.ti I.elem=some E)(rP:E.du=[])(fg:0<E.size)(hT:lV P c.ti)(wj:1<=E.bytes)(eS:w.ownsRow 0 I.elem E.size v n cells)(hx:Apx P w u I.elem E.size x m news)(oN:(n+m) *E.bytes<=2^46): ∃v' w',(aaJ #[t,u] ty #[v,x]).run P w= .ok v' w'/\akh w w' I.elem E.size v v' n m cells news:=by
 obtain ⟨i,z,hi,hs,hby,hz,SI⟩:=sV (hT _ E hE) rP;rw [<-hs] at hx eS SI fg⊢;rw [<-hby] at oN wj;have hle:n+m<=2^46:=adC (adq _ wj) oN;have hml:n+m<=afM:=by unfold afM;omega
 have Hk:=hx.nl;have hlen:(cells++news).length=(n+m) *i.size:=by rw [IS,eS.1,Hk,aew]
 have grown: ∀(Bg:Nat),Bg<n+m-> (w.drew.alloc (.cells (cells.toArray++news.toArray++ac4 z.cells (grownCap w (n+m) Bg I.elem-(n+m))) I.elem)).ownsRow 0 I.elem i.size (.slice (some ⟨w.heap.size,0,none⟩) (n+m) (grownCap w (n+m) Bg I.elem)) (n+m) (cells++news):=by
  intro Bg ho;refine ⟨hlen,.inr ⟨w.heap.size,_,_,rfl,aeH _,nK w.drew _,grownCap_ge w (n+m) Bg I.elem,grownCap_le_maxLen w (n+m) Bg I.elem hml,?_,?_⟩⟩
  ·have hge:=grownCap_ge w (n+m) Bg I.elem;simp only [Array.size_append,acF,size_zeroCells,SI,eS.1,Hk,<-aew];congr 1;omega
  ·simp only [Array.toList_append,AI];rw [<-AI,<-hlen];exact acQ
 have rest: ∀cs:Array Value,Rest w (w.drew.alloc (.cells cs I.elem)):=λcs=>⟨rfl,rfl,rfl,λp=>(Rest.alloc w.drew cs I.elem).2.2.2 p⟩
 rcases eS.2 with ⟨rfl,rfl⟩|⟨g,cap,dL,rfl,_,hg,PB,Hi,xz,R4⟩
 ·have hcn:cells=[]:=IN (by simpa using eS.1);subst hcn;by_cases hm:m=0
  ·have hnn:news=[]:=IN (by rw [Hk,hm,aeB]);subst hnn;refine ⟨_,_,adf hu hi hx hm,⟨?_,aaf _,λ_ _ _=>rfl,(λ_ _ _ hk=>by cases hk),.inl rfl,.refl _⟩⟩;rw [hm];exact aeC w 0 I.elem i.size
  ·simp only [aaI] at oN hle hml;have hr:=ahm (ty:=ty) hu hi hz hx (by omega) (by omega) (by omega);have hgr:=grown 0 (by omega);simp only [aaI,aeK,Array.empty_append] at hgr⊢;exact ⟨_,_,hr,⟨by simpa using hgr,by simp,λk hk _=>Bd w.drew _ k hk,(λ_ _ _ hk=>by cases hk),.inr rfl,rest _⟩⟩
 ·by_cases uS:n+m<=cap
  ·have zu:n *i.size+news.length<=dL.size:=by rw [Hk,xz,<-aew];exact aaj _ uS
   have hr:=adg (ty:=ty) hu hi hx hg uS zu;have SJ:=setRow_heap w g dL (dL.toList.take (n *i.size)++news++dL.toList.drop (n *i.size+news.length)).toArray I.elem _ hg;refine ⟨_,_,hr,⟨⟨hlen,.inr ⟨g,cap,_,rfl,aeH _,SJ,uS,Hi,?_,?_⟩⟩,by simp,λk _ hk=>setRow_other w g k _ (λhe=>hk (by simp [BY,he])),?_,.inl rfl,Rest.setRow w g _⟩⟩
   ·simp only [acF,IS,acI,adj,abR];omega
   ·rw [R4,<-hlen];exact acQ
   ·intro k off y hk H3 hc;have hkg:k=g:=by simp [BY] at hk;exact hk.symm
    subst hkg;rw [cell_of hg] at hc;rw [cell_of SJ];have aki:off<(dL.toList.take (n *i.size)).length:=by rw [R4];exact H3
    rw [List.getElem?_toArray,AI,OF aki,aa6];have:off<n *i.size:=by rw [<-eS.1];exact H3
    rw [if_pos this];simpa using hc
  ·have holds: ∀j y,cells[j]? =some y->w.cell? ((⟨g,0,none⟩:Addr).add j)=some y:=eS.cells (g:=g) rfl;have hr:=adh (ty:=ty) (zY:=cap) hu hi hz hx eS.1 holds (by omega) (by omega) (growslice_fits (by omega) (by omega));refine ⟨_,_,hr,⟨grown cap (by omega),by simp,λk hk _=>Bd w.drew _ k hk,?_,.inr rfl,rest _⟩⟩;intro k off y hk H3 hc;have hkg:k=g:=by simp [BY] at hk;exact hk.symm
   subst hkg;rw [abH (Bd w.drew _ k (bZ hg))];exact hc
end
end Dn
/-
  Appends, the operation. Conditions: none.
-/
namespace Dn
open Go
section
variable {P:Program}{c:Ctx}{Z:cb} {e e':Env}{st:St}{a:Act} {w w':World}{R:Type}{K:St->Option R}{r:R}{Q:Exit->Act->World->Prop}{o:Oper}
theorem PC {base:Nat}{t:TypeId}{size n:Nat}{v:Value}{xs:List Value}(h:w.ownsRow base t size v n xs):v.oneCell'=true:=by rcases h.2 with ⟨rfl,_⟩|⟨g,cap,dL,rfl,_⟩<;>rfl
theorem UL {E:TI}{t:TypeId}(hr:oq c.ti P t E)(h:V3 E=true):P.underlying t=some (.int .u8)/\E.size=1:=by
 unfold V3 at h;split at h
 ·rename_i k eR hl;have:=of_decide_eq_true h;subst this;obtain ⟨d,i,h1,h2,h3,h4⟩:=hr;cases d<;>simp only [uB,hl,eR] at h4<;>first|(exfalso;simp_all;done)|skip
  obtain ⟨_,_,h5,h6,_⟩:=h4;simp only [List.cons.injEq,Kd.i.injEq,and_true] at h6;subst h6;exact ⟨h1,h5⟩
 ·cases h
theorem UM {key:Nat->Nat} {φ:Ph}: ∀l:List UInt8,bx key φ 1 (l.map λx=>aeD .u8 (x.toNat:Int)) (Pb l)
 |[]=>rfl
 |b::l=>⟨[.int .u8 (b.toNat:Int)],_,rfl,rfl,.i .u8 _,UM l⟩
theorem PD {cl:Call}{s x:Operand}{t u:TypeId}{I E:TI}{ys:List MV}{news:List Value}(ho:o.op= .call cl)(hb:cl.callee= .builtin .append)(ha:cl.args.toList=[s,x])(Df:cl.argTypes.toList=[t,u])(hI:c.tv t=some I)(hL:I.Dd=true)(hE:c.tv I.elem=some E)(hT:lV P c.ti)(h:cG c Z e st a w)(B2:Apx P w u I.elem E.size (a.eval x) ys.length news)(lN:bx e.key e.φ E.size news ys)(hK:V4 (o.dst.getD 0) st I E (bw c st s) ys (λsl st=>bY c st o.dst sl K)=some r):o.wp P a w (Out c Z K r e.φ w) Q:=by
 obtain ⟨uC,hc⟩:=cc hI;obtain ⟨oR,rP⟩:=cc hE;obtain ⟨hu,E2,zJ,_,fg⟩:=TI.nZ (hT t I uC) hL;rw [oR] at zJ;cases zJ;have ha':cl.args= #[s,x]:=by rw [<-abT,ha]
 have aok:cl.argTypes= #[t,u]:=by rw [<-abT,Df]
 obtain ⟨hs,_⟩:=h.eval s;have go: ∀(f:Nat) (eT:Bool) (xs:List MV) (cells:List Value),1<=E.bytes->(xs.length+ys.length) *E.bytes<=2^46->w.ownsRow 0 I.elem E.size (a.eval s) xs.length cells->bx e.key e.φ E.size cells xs-> (∀bB,(a.eval s).ownBlock=some bB->((f∈Z.cY/\Z.Pr bB)\/Z.In bB)/\(∃o,aV st.bk f=some o/\(e.E f).ownBlock=some bB)/\ ∀off u,e.φ bB off=some u->eT=true/\off<xs.length *E.size)-> lR st f ⟨I.elem,eT,xs++ys⟩ (λst=>bY c st o.dst (.sc (.own f)) K)=some r->o.wp P a w (Out c Z K r e.φ w) Q:=by
  intro f eT xs cells wj oN eS km E4 hK;obtain ⟨v',w',cC,wB⟩:=CL (P:=P) (ty:=o.type) hu oR rP fg hT wj eS B2 oN;have hlen:cells.length=xs.length *E.size:=km.length;have CJ:=h.npf hK;have hK:=wA hK;have iN:dH c Z.nc e w' v' ⟨I.elem,eT,xs++ys⟩:=by
   refine ⟨E,cells++news,oR,rP,by simpa using wB.own,km.append lN,?_⟩;intro bB mI;rcases wB.place with h1|h1
   ·rw [h1] at mI;obtain ⟨h2,_,h3⟩:=E4 bB mI;refine ⟨Pm h2 CJ,λoff u hu=> ?_,λhc=>afJ hc⟩;obtain ⟨h4,h5⟩:=h3 off u hu;refine ⟨h4,aey h5 ?_⟩;simp only [IS];exact aaj _ (Nat.le_add_right _ _)
   ·rw [h1] at mI;cases mI;refine ⟨h.dm _ (aaf _),λoff u hu=> ?_,λhc=>afJ hc⟩;have:=aaX w _ (h.qe _ _ _ hu);simp at this
  have tg:=h.lR (f:=f) CJ iN wB.size (λb SK dG=>wB.Bg b SK (λhk=>by obtain ⟨_,⟨o2,h1,h2⟩,_⟩:=E4 b hk.symm;exact dG o2 h1 h2)) (λb off u hu=>by
    have hc0:=h.qe b off u hu;by_cases hk:(a.eval s).ownBlock=some b
    ·obtain ⟨_,_,h3⟩:=E4 b hk;exact wB.cell b off u hk (by rw [hlen];exact (h3 off u hu).2) hc0
    ·rw [abH (wB.Bg b (aaX w _ hc0) (λCM=>hk CM.symm))];exact hc0)
   (λb mI=>by
    rcases wB.place with h1|h1
    ·rw [h1] at mI;exact .inr (E4 b mI).2.1
    ·rw [h1] at mI;cases mI;exact .inl (aaf _))
  refine fin (v:=v') (s:= .sc (.own f)) ?_ tg ?_ (.of (Dx (PC wB.own)) trivial) hK
  ·simp [execOp,ho,resolve,hb,invoke,builtin,ha',aok,cC]
  ·exact ⟨.refl _,λb hz SK=>wB.Bg b SK (λhk=>hz (Pm (E4 b hk.symm).1 CJ)),λ_ _ _=>rfl,wB.size,wB.rest⟩
 generalize bw c st s=ss at hs hK;unfold V4 at hK;cases wj:aaK 1 E.bytes with
 |false=>simp [wj] at hK
 |true=>
  simp only [wj,cond_true] at hK;have wj:=abc wj;split at hK
  ·obtain ⟨oN,hK⟩:=gl hK;have oN:=of_decide_eq_true oN;simp only [ah] at hs;have hs:[a.eval s]=[ab1 none 0 0]:=hs;simp at hs;refine go (o.dst.getD 0) false [] [] wj (by simpa using oN) (by rw [hs];exact aeC w 0 I.elem E.size) rfl ?_ (by simpa using hK);intro bB mI;rw [hs] at mI;simp [BY] at mI
  ·rename_i f;cases hf:aV st.bk f with
   |none=>simp [hf] at hK
   |some fo=>
    simp only [hf] at hK;obtain ⟨oN,hK⟩:=gl hK;have oN:=of_decide_eq_true oN;cases kI:c8 fo.ty I.elem with
    |false=>simp [kI] at hK
    |true=>simp only [kI,cond_true] at hK;have kI:=sh kI;obtain ⟨hv,_⟩:=sw h hs hf;obtain ⟨J,cells,hJ,_,eS,km,h5⟩:=(h.jN f fo hf).row;rw [kI,oR] at hJ;cases hJ;refine go f fo.eT fo.xs cells wj oN (by rw [hv,<-kI];exact eS) km ?_ (by rw [<-kI];exact hK);intro bB mI;rw [hv] at mI;exact ⟨(h5 bB mI).1,⟨fo,hf,mI⟩,(h5 bB mI).2.1⟩
  ·simp at hK
theorem Wk {cl:Call}{s x:Operand}{t u:TypeId}{I E:TI}(ho:o.op= .call cl)(hb:cl.callee= .builtin .append)(ha:cl.args.toList=[s,x])(Df:cl.argTypes.toList=[t,u])(hI:c.tv t=some I)(hL:I.Dd=true)(hE:c.tv I.elem=some E)(hT:lV P c.ti)(h:cG c Z e st a w)(hK:(bif c8 t u then Na I E st (bw c st x) λys=>V4 (o.dst.getD 0) st I E (bw c st s) ys (λsl st=>bY c st o.dst sl K)
  else Sf c u E (bw c st x) λys=>V4 (o.dst.getD 0) st I E (bw c st s) ys (λsl st=>bY c st o.dst sl K))=some r):o.wp P a w (Out c Z K r e.φ w) Q:=by
 obtain ⟨uC,_⟩:=cc hI;obtain ⟨oR,_⟩:=cc hE;obtain ⟨hu,E2,zJ,_,fg⟩:=TI.nZ (hT t I uC) hL;rw [oR] at zJ;cases zJ;obtain ⟨hx,_⟩:=h.eval x;cases vH:c8 t u with
 |true=>simp only [vH,cond_true] at hK;obtain rfl:=sh vH;obtain ⟨ys,news,B2,hK⟩:=Pz h oR fg hx hK;exact PD ho hb ha Df hI hL hE hT h (B2.apx hu) B2.els hK
 |false=>
  simp only [vH,cond_false] at hK;unfold Sf at hK;split at hK
  ·rename_i T l hTu hxl;cases Zh:T.X9&&V3 E with
   |false=>simp [Zh] at hK
   |true=>
    simp only [Zh,cond_true] at hK;simp only [aaG] at Zh;obtain ⟨hTi,_⟩:=cc hTu;have hd:=TI.H4 (hT u T hTi) Zh.1;obtain ⟨he,wu⟩:=UL (hT _ E oR) Zh.2;rw [hxl] at hx;obtain ⟨b,hb3,rfl⟩:=FZ hx;refine PD ho hb ha Df hI hL hE hT h (news:=b.data.toList.map λx=> .int .u8 (x.toNat:Int)) ?_ ?_ hK
    ·rw [wu,hb3];have:=Apx.str (w:=w) (el:=I.elem) hd b;rwa [show (Pb b.data.toList).length=b.size by unfold Pb;rw [List.length_map];rfl]
    ·rw [wu];exact UM _
  ·cases hK
end
end Dn
/-
  Slices that are written out. Conditions: none.
-/
namespace Dn
open Go
section
variable {P:Program}{c:Ctx}{Z:cb} {e e':Env}{st:St}{a:Act} {w w':World}{R:Type}{K:St->Option R}{r:R}{Q:Exit->Act->World->Prop}{o:Oper}
theorem cG.akk {φ':Ph}(h:cG c Z e st a w)(hle:sn e.φ φ')(kb: ∀b o v,φ' b o=some v->w.cell? ⟨b,o,none⟩=some v)(vF: ∀t cs,av st.fr t= .box cs-> ∀off,φ' (e.B t) off=e.φ (e.B t) off)(iN: ∀f o b,aV st.bk f=some o->(e.E f).ownBlock=some b-> ∀off,φ' b off=e.φ b off): cG c Z {e with φ:=φ'} st a w:=by
 have vG:lr (λ_=>True) (λ_=>True) e {e with φ:=φ'}:=⟨rfl,hle,λ_ _=>rfl,λf o ho _=>⟨o,ho,rfl,rfl⟩⟩
 refine ⟨h.defers,h.size,h.m,h.key,h.nodup,?_,h.root,?_,h.bb,h.bf,h.ff,kb,h.dm⟩
 ·intro t;have hs:=h.slot t;have hb:=vF t;show cz Z _ w t _ (av st.fr t);generalize av st.fr t=s at hs hb;cases s<;>simp only [cz] at hs⊢ <;>try exact hs.on vG (ey _)
  rename_i cs;refine ⟨hs.1,hs.2.dm,?_,λoff=>by show φ' (e.B t) off=none;rw [hb cs rfl];exact hs.2.free off⟩;obtain ⟨o2,h1,h2⟩:=hs.2.obj;exact ⟨o2,h1,h2.on vG (λl _ f _=>trivial)⟩
 ·intro f o ho;obtain ⟨I,cells,h1,h2,h3,h4,h5⟩:=(h.jN f o ho).row;refine ⟨I,cells,h1,h2,h3,h4.mono hle,λbB hb=>⟨(h5 bB hb).1,λoff u hu=>(h5 bB hb).2.1 off u ?_,λg1 g2 j hj=>hle.Be ((h5 bB hb).2.2 g1 g2 j hj) hj⟩⟩;have hu:φ' bB off=some u:=hu;rw [iN f o bB ho hb] at hu;exact hu
theorem gh.cells {key:Nat->Nat} {φ:Ph}{v:Value}{m:MV}(h:gh key φ v m):nn key φ v.cells.toList m:=by
 have one:m.one=true->nn key φ [v] m->nn key φ v.cells.toList m:=by
  intro h1 h2;have:=h2.cells v (by simp);have hv:v.cells.toList=[v]:=by cases v<;>simp_all [aai,aaa]
  rw [hv];exact h2
 cases m<;>simp only [gh] at h<;>first|exact one h.1 h.2|skip
 ·rw [h];simpa [aai] using nn.h _
 ·obtain ⟨arr,rfl,h⟩:=h;exact .agg _ _ (by simpa [aai] using h)
theorem Wl {parts:List (Nat×Operand)}: ∀{e:Env}{st:St}{n:Nat} {K':List MV->St->Option R},cG c Z e st a w->Yu c st parts n K'=some r-> ∃e' cO ms,cG c Z e' cO a w/\Ext Z e e'/\cN e'.key e'.φ (parts.map λp=>a.eval p.2) ms/\K' ms cO=some r/\parts.map (λp=>(p.1,a.eval p.2))=((parts.map λp=>a.eval p.2).zipIdx n).map (λx=>(x.2,x.1)):=by
 induction parts with
 |nil=>intro e st n K' h hK;exact ⟨e,st,[],h,.refl _ _,rfl,hK,rfl⟩
 |cons p ps ih=>
  intro e st n K' h hK;obtain ⟨i,x⟩:=p;simp only [Yu] at hK;cases hi:c8 i n with
  |false=>simp [hi] at hK
  |true=>
   simp only [hi,cond_true] at hK;have vI:=sh hi;subst vI;obtain ⟨e1,dA,m,q1,q2,q3,q4,q5⟩:=ot h (h.eval x).1 hK;obtain ⟨e2,ei,ms,p1,p2,p4,p5,p6⟩:=ih q1 q5;refine ⟨e2,ei,m::ms,p1,q2.trans p2,⟨_,_,rfl,?_,p4⟩,p5,?_⟩
   ·have:=q4.mono p2.on.φ;rw [<-p2.on.key] at this;exact this
   ·simp only [IT,List.zipIdx_cons,p6]
theorem KI {key:Nat->Nat} {φ:Ph}{size:Nat}{ms:List MV}: ∀{vs:List Value},cN key φ vs ms->qa size ms=true->bx key φ size (vs.flatMap λv=>v.cells.toList) ms/\vs.length=ms.length/\ ∀v∈vs,v.cells.size=size:=by
 induction ms with
 |nil=>intro vs h _;cases h;exact ⟨rfl,rfl,by simp⟩
 |cons m ms ih=>
  intro vs h hw;obtain ⟨v,u,rfl,h1,h2⟩:=h;have hm:=Dv hw m (by simp);have hw2:qa size ms=true:=by unfold qa at hw⊢;simp only [List.all_cons,aaG] at hw;exact hw.2
  obtain ⟨h3,h4,h5⟩:=ih h2 hw2;have hl:v.cells.toList.length=size:=by rw [h1.cells.width,hm]
  refine ⟨⟨v.cells.toList,_,rfl,hl,h1.cells,h3⟩,by simp [h4],?_⟩;intro x hx;rcases aaH.1 hx with rfl|hx
  ·simpa using hl
  ·exact h5 x hx
end
end Dn
/-
  Slices that are written out, the operation. Conditions: none.
-/
namespace Dn
open Go
section
variable {P:Program}{c:Ctx}{Z:cb} {e e':Env}{st:St}{a:Act} {w w':World}{R:Type}{K:St->Option R}{r:R}{Q:Exit->Act->World->Prop}{o:Oper}
theorem UN {t:TypeId}{I E:TI}{vs:List Value}{parts:Array (Nat×Value)}(hu:P.underlying t=some (.slice I.elem))(hE:c.ti I.elem=some E)(rP:E.du=[])(fg:0<E.size)(hT:lV P c.ti)(oN:vs.length *E.size<=16777216)(hv: ∀v∈vs,v.cells.size=E.size)(hp:parts.toList=(vs.zipIdx 0).map λx=>(x.2,x.1)): (Instr.buildSlice t vs.length parts).run P w= .ok (.slice (some ⟨w.heap.size,0,none⟩) vs.length vs.length) (w.alloc (.cells (vs.flatMap λv=>v.cells.toList).toArray I.elem)):=by
 obtain ⟨i,z,hi,hs,hby,hz,SI⟩:=sV (hT _ E hE) rP;by_cases h0:vs.length=0
 ·have Cj:=IN h0;subst Cj;have Nr:parts= #[]:=by rw [<-abT,hp];rfl
  simp [Instr.buildSlice,run_underlying hu,abG,typeInfo,hi,Nr,acV,newRow,Sem.run];congr 2;apply Array.ext_getElem?;intro k;simp
 ·have dG: ¬vs.length *i.size=0:=by rw [hs];exact Nat.mul_ne_zero h0 (by omega)
  refine run_buildSlice w t I.elem vs.length parts _ i z hu hi hz (by rw [hs];omega) dG ?_;rw [hp,hs];exact Go.Great.fill_whole fg vs _ hv (by simp)
theorem adk {key:Nat->Nat} {φ:Ph}{size cap bB:Nat}{xs:List MV}{cells:List Value}(h:bx key φ size cells xs)(E7:xs.length<=cap)(hp: ∀off,off<cells.length->φ bB off=cells[off]?): nn key φ [.slice (some ⟨bB,0,none⟩) xs.length cap] (.list xs):=by
 have hlen:=h.length;have Np: ∀i (hi:i<xs.length),∃v1,v1.length=size/\nn key φ v1 xs[i]/\(cells.drop (i *size)).take size=v1:=by intro i hi;obtain ⟨p1,v1,p2,he,Bh,sr,gm⟩:=h.at (By hi);refine ⟨v1,sr,gm,?_⟩;rw [he,AI,<-Bh,aeg,<-sr,acQ]
 refine .list (some ⟨bB,0,none⟩) cap xs bB 0 size (λi=>(cells.drop (i *size)).take size) E7 (λ_=>rfl) ?_ ?_ ?_
 ·intro i hi;obtain ⟨v1,h1,_,h3⟩:=Np i hi;rw [h3,h1]
 ·intro i j hi hj;have H3:i *size+j<cells.length:=by
   rw [hlen];calc i *size+j<i *size+size:=by omega
    _=(i+1) *size:=by rw [acw]
    _<=xs.length *size:=aaj _ hi
  rw [aaI,hp _ H3,aa6];simp only [hj,if_true,acR]
 ·intro i hi;obtain ⟨v1,_,h2,h3⟩:=Np i hi;rw [h3];exact h2
theorem KJ {t:TypeId}{n:Nat}{parts:Array (Nat×Operand)}{I E:TI}(ho:o.op= .buildSlice t n parts)(hI:c.tv t=some I)(hL:I.Dd=true)(hE:c.tv I.elem=some E)(hT:lV P c.ti)(h:cG c Z e st a w)(oN:aaK (n *E.size) 16777216=true)(hK:Yu c st parts.toList 0 (λms st=>bif c8 ms.length n then bU (qa E.size ms) (bif bX c.bs (o.dst.getD 0) then bY c st o.dst (.sc (.p (.list ms))) K else lR st (o.dst.getD 0) ⟨I.elem,false,ms⟩ λst=>bY c st o.dst (.sc (.own (o.dst.getD 0))) K) else none)=some r): o.wp P a w (λa' w'=>eG w w'/\Out c Z K r e.φ w a' w') Q:=by
 obtain ⟨uC,hc⟩:=cc hI;obtain ⟨oR,rP⟩:=cc hE;obtain ⟨hu,E2,zJ,_,fg⟩:=TI.nZ (hT t I uC) hL;rw [oR] at zJ;cases zJ;obtain ⟨e1,dA,ms,za,De,gn,hK,Zj⟩:=Wl h hK;cases hn:c8 ms.length n with
 |false=>simp [hn] at hK
 |true=>
  simp only [hn,cond_true] at hK;have hn:=sh hn;obtain ⟨hw,hK⟩:=gl hK;obtain ⟨km,hlen,xz⟩:=KI gn hw;generalize Cj:parts.toList.map (λp=>a.eval p.2)=vs at gn Zj km hlen xz;have oN:=abc oN;have cC:=UN (P:=P) (c:=c) (w:=w) (t:=t) (I:=I) (vs:=vs) (parts:=parts.map λ(i,x)=>(i,a.eval x)) hu oR rP fg hT (by rw [hlen,hn];exact oN) xz (by rw [<-Zj];simp);have afS:(execOp a.eval o).run P w= .ok (.value (.slice (some ⟨w.heap.size,0,none⟩) vs.length vs.length)) (w.alloc (.cells (vs.flatMap λv=>v.cells.toList).toArray I.elem)):=by rw [hlen,hn] at cC⊢;simp [execOp,ho] at cC⊢;simp [cC]
  have hg:eG w (w.alloc (.cells (vs.flatMap λv=>v.cells.toList).toArray I.elem)):= .alloc w _ _;have UK: ∀off,e1.φ w.heap.size off=none:=by
   intro off;cases hp:e1.φ w.heap.size off with
   |none=>rfl
   |some u=>have:=aaX w _ (za.qe _ _ _ hp);simp at this
  have afT:(vs.flatMap λv=>v.cells.toList).length=ms.length *E.size:=km.length;have E7:ms.length<=16777216:=adC (adq _ fg) (by rw [hn];exact oN);cases hb:bX c.bs (o.dst.getD 0) with
  |false=>
   simp only [hb,cond_false] at hK;have CJ:=za.npf hK;have hK:=wA hK;have iN:dH c Z.nc e1 (w.alloc (.cells (vs.flatMap λv=>v.cells.toList).toArray I.elem)) (.slice (some ⟨w.heap.size,0,none⟩) vs.length vs.length) ⟨I.elem,false,ms⟩:=by
    refine ⟨E,_,oR,rP,⟨afT,.inr ⟨w.heap.size,vs.length,_,by rw [hlen],aeH _,nK w _,by rw [hlen];exact aaf _,by rw [hlen];unfold afM;omega,?_,?_⟩⟩,km,?_⟩
    ·rw [acF,afT,hlen]
    ·show List.take (ms.length *E.size) _=_;rw [acA (by simp only [List.toList_toArray];omega)]
    ·intro bB mI;simp [BY] at mI;subst mI;refine ⟨za.dm _ (aaf _),λoff u hu=>(by rw [UK] at hu;cases hu),λhc=>afJ hc⟩
   have tg:=za.lR (f:=o.dst.getD 0) CJ iN hg.size (λb SK _=>hg.Bg b SK) (λb off u hu=>hg.cell (za.qe b off u hu)) (λb mI=>by simp [BY] at mI;exact .inl (by omega));exact YT (s:= .sc (.own (o.dst.getD 0))) hg afS tg (De.tr.trans (hg.trans za.dm _)) (.of (Dx rfl) trivial) hK
  |true=>
   simp only [hb,cond_true] at hK;generalize hfl:(vs.flatMap λv=>v.cells.toList)=flat at *;have hle:sn e1.φ (λb off=>if b=w.heap.size/\off<flat.length then flat[off]? else e1.φ b off):=by
    intro b off u hu;by_cases Zk:b=w.heap.size
    ·subst Zk;rw [UK] at hu;cases hu
    ·simp only [Zk,false_and,if_false];exact hu
   have kb: ∀b off u,(λb off=>if b=w.heap.size/\off<flat.length then flat[off]? else e1.φ b off) b off=some u->(w.alloc (.cells flat.toArray I.elem)).cell? ⟨b,off,none⟩=some u:=by
    intro b off u hu;by_cases Zk:b=w.heap.size/\off<flat.length
    ·simp only [Zk,and_self,if_true] at hu;obtain ⟨rfl,_⟩:=Zk;rw [cell_of (nK w _)];simpa using hu
    ·simp only [Zk,if_false] at hu;exact hg.cell (za.qe b off u hu)
   have tg:=(za.grow hg).akk hle kb (by
     intro t2 lu ht off;have Nq:=za.slot t2;rw [ht] at Nq;obtain ⟨o2,h1,_⟩:=Nq.2.obj;have:=bZ h1;have dG: ¬e1.B t2=w.heap.size:=by omega
     simp [dG])
    (by
     intro f o2 b dh vH off;obtain ⟨J,xL,_,_,h3,_⟩:=(za.jN f o2 dh).row;rcases h3.2 with ⟨h1,_⟩|⟨g,cap,dL,h1,_,h4,_⟩
     ·rw [h1] at vH;simp [BY] at vH
     ·rw [h1] at vH;simp [BY] at vH;subst vH;have:=bZ h4;have dG: ¬g=w.heap.size:=by omega
      simp [dG])
   refine YT (s:= .sc (.p (.list ms))) hg afS tg ?_ (.of ?_ trivial) hK
   ·refine De.tr.trans ⟨hle,λb hz SK=>hg.Bg b SK,λb off hz=> ?_,hg.size,hg.rest⟩;have dG: ¬b=w.heap.size:=by intro hbe;subst hbe;exact hz (za.dm _ (aaf _))
    simp [dG]
   ·simp only [ah,bp];rw [hlen];exact ⟨rfl,adk (km.mono hle) (aaf _) (λoff H3=>by simp [H3])⟩
end
end Dn
/-
  Variables that no one changes any more. Conditions: none.
-/
namespace Dn
open Go
section
variable {P:Program}{c:Ctx}{Z:cb} {e e':Env}{st:St}{a:Act} {w w':World}{R:Type}{K:St->Option R}{r:R}{Q:Exit->Act->World->Prop}{o:Oper}
theorem cG.Wm {root:Nat}{cs gK:List aS}{arr:Array Value}{T:TypeId}(h:cG c Z e st a w)(hf:av st.fr root= .box cs)(dx:w.heap[e.B root]? =some (.cells arr T (0,0)))(hl:aJ e arr.toList gK)(hp:jS gK=true)(H8:root∉Z.df)(Du:BX root=false): ∃φ',sn e.φ φ'/\(∀b off,¬Z b->φ' b off=e.φ b off)/\(∀j,j<arr.toList.length->φ' (e.B root) j=arr.toList[j]?)/\ cG c Z {e with φ:=φ'} {st with fr:=cM st.fr root (.zM gK)} a w:=by
 have kc:=h.slot root;rw [hf] at kc;have r9:=kc.2.free;have Ds:fT cs=false:=by obtain ⟨o,h1,h2⟩:=kc.2.obj;rw [dx] at h1;cases h1;exact h2.2.Ck
 simp only [cz] at kc;refine ⟨λb off=>if b=e.B root/\off<arr.toList.length then arr.toList[off]? else e.φ b off,?_,?_,?_,?_⟩
 ·intro b off v hv;by_cases hb:b=e.B root
  ·subst hb;rw [r9] at hv;cases hv
  ·simp only [hb,false_and,if_false];exact hv
 ·intro b off hz;have hb: ¬b=e.B root:=by intro hb;subst hb;exact hz (Pm kc.2.dm H8)
  simp [hb]
 ·intro j hj;have hj':j<arr.size:=by simpa using hj
  simp [hj']
 ·have hle:sn e.φ (λb off=>if b=e.B root/\off<arr.toList.length then arr.toList[off]? else e.φ b off):=by
   intro b off v hv;by_cases hb:b=e.B root
   ·subst hb;rw [r9] at hv;cases hv
   ·simp only [hb,false_and,if_false];exact hv
  have vG:lr (λ_=>True) (λ_=>True) e {e with φ:=λb off=>if b=e.B root/\off<arr.toList.length then arr.toList[off]? else e.φ b off}:=⟨rfl,hle,λ_ _=>rfl,λf o ho _=>⟨o,ho,rfl,rfl⟩⟩
  have Zl: ∀q,dv (av st.fr q)=true->dv (av (cM st.fr root (.zM gK)) q)=true:=by
   intro q hq;rw [cr];by_cases hqr:q=root
   ·simp [hqr,dv]
   ·simp only [hqr,if_false];exact hq
  refine ⟨h.defers,h.size,h.m,h.key,fG h.nodup,?_,?_,?_,?_,?_,h.ff,?_,h.dm⟩
  ·intro t;show cz Z _ w t _ (av (cM st.fr root (.zM gK)) t);rw [cr];by_cases ht:t=root
   ·subst ht;simp only [if_true,cz,ah];refine ⟨e.B t,0,arr.toList,by have:=kc.1.1 Du;rwa [vE Ds] at this,hl.on vG (λl _ f _=>trivial),hp,?_⟩;intro j hj;have hj':j<arr.size:=by simpa using hj
    rw [aaI];simp [hj']
   ·simp only [ht,if_false];have hs:=h.slot t;have ET:=h.bb t root;generalize av st.fr t=s at hs ET;cases s<;>simp only [cz] at hs⊢ <;>try exact hs.on vG (ey _)
    rename_i lu;refine ⟨hs.1,hs.2.dm,?_,?_⟩
    ·obtain ⟨o2,h1,h2⟩:=hs.2.obj;exact ⟨o2,h1,h2.on vG (λl _ f _=>trivial)⟩
    ·intro off;have dG: ¬e.B t=e.B root:=ET lu cs rfl hf ht;show (if e.B t=e.B root/\off<arr.toList.length then arr.toList[off]? else e.φ (e.B t) off)=none;simp only [dG,false_and,if_false];exact hs.2.free off
  ·intro t;show cZ (cM st.fr root (.zM gK)) (av (cM st.fr root (.zM gK)) t);rw [cr];by_cases ht:t=root
   ·simp [ht,cZ]
   ·simp only [ht,if_false];have qz:=h.root t;generalize av st.fr t=s at qz;cases s with
    |ptr q o=>exact Zl q qz
    |hp q o i=>exact Zl q qz
    |zN q=>exact Zl q qz
    |_=>trivial
  ·intro f o ho;obtain ⟨I,cells,h1,h2,h3,h4,h5⟩:=(h.jN f o ho).row;refine ⟨I,cells,h1,h2,h3,h4.mono hle,λbB hb=>⟨(h5 bB hb).1,λoff u hu=>(h5 bB hb).2.1 off u ?_,λg1 g2 j hj=>hle.Be ((h5 bB hb).2.2 g1 g2 j hj) hj⟩⟩;have dG: ¬bB=e.B root:=by intro hbe;exact h.bf root cs f o hf ho (by rw [hb,hbe])
   have hu:(if bB=e.B root/\off<arr.toList.length then arr.toList[off]? else e.φ bB off)=some u:=hu;simpa [dG] using hu
  ·intro t t' c1 c2 h1 h2 dG;have h1:av (cM st.fr root (.zM gK)) t= .box c1:=h1;have h2:av (cM st.fr root (.zM gK)) t'= .box c2:=h2;rw [cr] at h1 h2;by_cases ht:t=root
   ·simp [ht] at h1
   ·by_cases CH:t'=root
    ·simp [CH] at h2
    ·simp only [ht,CH,if_false] at h1 h2;exact h.bb t t' c1 c2 h1 h2 dG
  ·intro t c1 f o h1 h2;have h1:av (cM st.fr root (.zM gK)) t= .box c1:=h1;rw [cr] at h1;by_cases ht:t=root
   ·simp [ht] at h1
   ·simp only [ht,if_false] at h1;exact h.bf t c1 f o h1 h2
  ·intro b off v hv;have hv:(if b=e.B root/\off<arr.toList.length then arr.toList[off]? else e.φ b off)=some v:=hv;by_cases hb:b=e.B root/\off<arr.toList.length
   ·simp only [hb,and_self,if_true] at hv;rw [hb.1,cell_of dx];simpa using hv
   ·simp only [hb,if_false] at hv;exact h.qe b off v hv
end
end Dn
/-
  Functions with captured variables. Conditions: none.
-/
namespace Dn
open Go
section
variable {P:Program}{c:Ctx}{Z:cb} {e e':Env}{st:St}{a:Act} {w w':World}{R:Type}{K:St->Option R}{r:R}{Q:Exit->Act->World->Prop}{o:Oper}
theorem xO {os:List Operand}: ∀{e:Env}{st:St} {K':List MV->St->Option R},cG c Z e st a w->Di c st os K'=some r-> ∃e' cO ms,cG c Z e' cO a w/\Ext Z e e'/\jj e'.key e'.φ (os.map a.eval) ms/\K' ms cO=some r/\(∀m∈ms,m.one=true):=by
 induction os with
 |nil=>intro e st K' h hK;exact ⟨e,st,[],h,.refl _ _,.nil,hK,by simp⟩
 |cons x xs ih=>
  intro e st K' h hK;simp only [Di] at hK;obtain ⟨hx,_⟩:=h.eval x;generalize bw c st x=s at hx hK;split at hK
  ·rename_i root;simp only [ah] at hx;split at hK
   ·rename_i cs xz;cases hup:wm cs||BX root with
    |true=>simp [hup] at hK
    |false=>
     simp only [hup,cond_false] at hK;obtain ⟨hu,aoo⟩:=aaL.1 hup;have oW:=h.slot root;rw [xz] at oW;have Ds:fT cs=false:=by
      cases hm:fT cs with
      |false=>rfl
      |true=>obtain ⟨s,ms,rfl⟩:=Ni hm;simp [wm,Pa] at hu
     obtain ⟨arr,T,dx,rO⟩:=oW.2.cells Ds;obtain ⟨e1,dA,ms,za,De,E6,LD,hK,_,Du⟩:=nt h rO hK;cases LC:rQ cs ms with
     |none=>simp [LC] at hK
     |some gK=>
      simp only [LC] at hK;obtain ⟨B0,Nr⟩:=Du gK LC;have hB:e1.B root=e.B root:=De.on.B root trivial;unfold wr at hK;cases hn:bX dA.df root with
      |true=>simp [hn] at hK
      |false=>
       obtain ⟨φ',g1,g2,g3,g4⟩:=za.Wm (root:=root) (cs:=cs) (by rw [E6];exact xz) (by rw [hB];exact dx) B0 Nr (by rw [<-za.defers.2.1,<-b8,hn];simp) aoo;simp only [hn,cond_false,force_eq,nL] at hK;have Yd:Ext Z e1 {e1 with φ:=φ'}:=⟨⟨rfl,g1,λ_ _=>rfl,λf o ho _=>⟨o,ho,rfl,rfl⟩⟩,g2⟩
       obtain ⟨e3,np,ns,hs3,Zm,hr3,hK,jO⟩:=ih g4 hK;refine ⟨e3,np,.rp ms::ns,hs3,(De.trans Yd).trans Zm,?_,hK,by intro m hm;rcases aaH.1 hm with rfl|hm<;>first|rfl|exact jO m hm⟩;have gm:nn e1.key φ' [a.eval x] (.rp ms):=by rw [hx,<-hB];refine .rp (e1.B root) 0 arr.toList ms (LD.mono g1) ?_;intro j hj;rw [aaI];exact g3 j hj
       have gm:=gm.mono Zm.on.φ;have hk3:e3.key=e1.key:=Zm.on.key;rw [<-hk3] at gm;exact .cons [a.eval x] _ _ _ gm hr3
   ·simp at hK
  ·rename_i cs;simp only [ah] at hx;obtain ⟨bB,q,vs,hv,rO,hp,E4⟩:=hx;obtain ⟨e1,dA,ms,za,De,E6,LD,zW,h6,_⟩:=nt h rO hK;clear hK;obtain ⟨rfl,rfl⟩:=h6 hp;obtain ⟨e3,np,ns,hs3,Zm,hr3,H9,jO⟩:=ih za zW;refine ⟨e3,np,.rp ms::ns,hs3,De.trans Zm,?_,H9,by intro m hm;rcases aaH.1 hm with rfl|hm<;>first|rfl|exact jO m hm⟩;have gm:nn e1.key e1.φ [a.eval x] (.rp ms):=by rw [hv];exact .rp bB (q+0) vs ms LD (by simpa using E4)
   have gm:=gm.mono Zm.on.φ;rw [<-Zm.on.key] at gm;exact .cons [a.eval x] _ _ _ gm hr3
  ·simp at hK
theorem PE {f:Nat}{cE:Array Operand}(ho:o.op= .makeFunc (.func f) #[] cE)(h:cG c Z e st a w)(hK:Di c st cE.toList (λms st=>bY c st o.dst (.sc (.p (.func (c.key f) ms))) K)=some r):Rd P c Z K r e a w o (λ_=>True):=by
 obtain ⟨e1,dA,ms,za,De,LD,hK,jO⟩:=xO h hK;refine Wa (v:= .func (.func f) #[] (cE.map a.eval)) (s:= .sc (.p (.func (c.key f) ms))) (λw _=> ?_) za De.tr (.of ?_ trivial) hK
 ·simp [execOp,ho,Instr.makeFunc]
 ·simp only [ah,bp];exact ⟨rfl,.func f _ _ ms (by rw [za.key]) (by simpa using LD) jO⟩
end
end Dn
