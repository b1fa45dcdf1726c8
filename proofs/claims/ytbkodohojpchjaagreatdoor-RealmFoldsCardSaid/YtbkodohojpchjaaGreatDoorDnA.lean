import GoSem.Dispatch
import Derived.Orders
import Derived.Calls
import Derived.Laws.AppendOwn
import Derived.Laws.AppendOwnNone
import Derived.Deep.MidRow
import Derived.Laws.Strings
import Derived.Laws.Tables
import Derived.Great.FillDense
import Derived.Maps.AppendAt
import Derived.Great.BuildSlice
/-
  An abstract run of Go functions over values that no one changes: definitions. Conditions: none.
-/
set_option linter.unusedVariables false
set_option linter.unusedSectionVars false
set_option linter.unusedSimpArgs false
open Nat renaming beq→c9,eq_of_beq_eq_true→sh,le_refl→aar,mul_le_mul_right→aaF,zero_add→aaL,ble→abq,le_of_ble_eq_true→acb,succ_mul→acj,add_assoc→acD,add_zero→acO,le_mul_of_pos_right→adB,le_trans→adV,ble_eq_true_of_le→aeg,add_mul→ael,lt_of_lt_of_le→aem,add_comm→aeo,zero_mul→aep,zero_le→afs
open List renaming append_assoc→AI,getElem?_eq_some_iff→AS,getElem?_eq_getElem→By,eq_nil_of_length_eq_zero→IN,length_append→IS,map_cons→IT,getElem?_append_right→No,getElem?_append_left→OF,mem_cons→aaK,getElem?_map→ab9,getElem?_take→aca,take_of_length_le→ack,drop_left'→aco,size_toArray→acq,getElem?_eq_none→acr,take_append→acs,length_take→acx,take_left'→acI,take_left→ac5,getElem?_drop→ac9,extract_eq_take_drop→adi,drop_append→adt,length_drop→adA,mem_map→adU,length_eq_one_iff→adW,drop_of_length_le→aec,mem_append→aed,mem_iff_getElem→aei,drop_left→aej,all_eq_true→aeu,getElem_mem→aeU,nodup_cons→afv,nil_append→afw,length_set→afx,map→afz,map_nil→afP
open Option.some renaming injEq→AT
open Go.Value renaming ownBlock→BY,oneCell'→aaq,cells→aas,slice→aci,int→aer
open Bool renaming and_eq_true→aaJ,or_eq_false_iff→abr,not_eq_false'→ac0,not_false→afB
open Go.Builtin renaming append_→aaS,firstCells→acp,nextslicecap→acG,zeroCells→adm
open Go.World renaming block_lt_of_cell?→ab4,cell?_of_block→ace,ownsRow_nil→aeq,frozen?→afE,setRow→afU
open Go renaming sizeOf→acd,part→afy,maxLen→afO
open Go.Instr renaming sliceBounds→acf,loadAt→acN,sureAddr→acT,fill→ade,storeAt→adn,sliceBound→aeT,sliceAt→afH,slice→af3
open Array renaming length_toList→acg,toList_inj→ach,toList_extract→aek
open UInt8 renaming ofNat→acm
open Go.Addr renaming add_mid→acn
open Go.Op renaming intCmp→ads,bytesLess→adP,intArith→aeh,equal→af2
open ByteArray renaming data_extract→adX
open Go.Oper renaming upon_value→aef,wp→af0
open Go.Sem renaming run_bind→aen
open False renaming elim→afD
open Go.Utf8 renaming decode→af1
namespace Dn
noncomputable section
open Go
structure lR where
 l:List UInt8
 h:l.length=32
theorem lR.ext' {a b:lR}(e:a.l=b.l):a=b:=by cases a;cases b;cases e;rfl
instance:DecidableEq lR:=λa b=>if e:a.l=b.l then .isTrue (lR.ext' e) else .isFalse (λh=>e (by rw [h]))
def lR.zero:lR:=⟨[0,0,0,0,0,0,0,0,0,0,0,0,0,0,0,0,0,0,0,0,0,0,0,0,0,0,0,0,0,0,0,0],rfl⟩
def lR.put (x:lR)(i:Nat)(b:UInt8):lR:=⟨x.l.set i b,by simp [x.h]⟩
inductive MV where
 |b (x:Bool)
 |i (k:IntKind) (n:Int)
 |s (l:List UInt8)
 |h (x:lR)
 |raw (v:Value)
 |list (xs:List MV)
 |agg (cs:List MV)
 |cg (vs:List MV)
 |func (f:Nat) (cap:List MV)
 |rp (cs:List MV)
 |fresh (xs:List MV)
 |cell (m:MV)
 |fb (r:MV) (outs:List MV)
instance:Inhabited MV:=⟨.b false⟩
mutual
def MV.w:MV->Nat
 | .h _=>32
 | .agg cs=>MV.wl cs
 |_=>1
def MV.wl:List MV->Nat
 |[]=>0
 |m::r=>m.w+MV.wl r
end
def nS (n:Nat)(l:List MV):Bool:=l.all λm=>c9 m.w n
inductive Kd where
 |b|i (k:IntKind)|s|l|h|raw
structure MS where
 st:Bool
 lay:List Kd
 b:Bool
def MS.it:MS:=⟨true,[],true⟩
def RW (s:MS):Bool:=match s.lay with
 |[]=>s.st
 |_=>false
inductive aR where
 |un
 |p (m:MV)
 |hs (x:lR)
 |nil
 |own (jO:Nat)
 |mp (s:MS) (es:List MV)
def aR.w:aR->Nat
 | .hs _=>32
 |_=>1
inductive Slot where
 |skip
 |sc (l:aR)
 |ag (cs:List aR)
 |cg (vs:List Slot)
 |box (cs:List aR)
 |zz (cs:List aR)
 |ptr (root off:Nat)
 |zA (root:Nat)
 |rp (cs:List aR) (off:Nat)
 |hp (root off:Nat) (i:Nat)
 |ep (jO:Nat) (i:Nat) (off:Nat) (st:Bool) (cs:List aR)
abbrev Fr:=List (Nat×Slot)
structure TI where
 st:Bool
 size:Nat
 bytes:Nat
 lay:List Kd
 zero:List aR
 zf:List Nat
 VL:List Nat
 elem:Nat
 dw:List Nat
section
variable {R:Type}
def gB (m:MV)(K:Bool->Option R):Option R:=match m with| .b x=>K x|_=>none
def gI (k:IntKind)(m:MV)(K:Int->Option R):Option R:=match m with| .i k' n=>bif decide (k'=k) then K n else none|_=>none
def gS (m:MV)(K:List UInt8->Option R):Option R:=match m with| .s l=>K l|_=>none
def gL (m:MV)(K:List MV->Option R):Option R:=match m with| .list l=>K l|_=>none
def gH (m:MV)(K:lR->Option R):Option R:=match m with| .h l=>K l|_=>none
def gA (m:MV)(K:List MV->Option R):Option R:=match m with| .agg l=>K l|_=>none
def gT (m:MV)(K:List MV->Option R):Option R:=match m with| .cg l=>K l|_=>none
def gF (m:MV)(K:List MV->Option R):Option R:=match m with| .fresh l=>K l|_=>none
def RX (m:MV)(K:Nat->List MV->Option R):Option R:=match m with| .func f c=>K f c|_=>none
def gW (m:MV)(K:MV->List MV->Option R):Option R:=match m with| .fb r outs=>K r outs|_=>none
def gP (m:MV)(K:List MV->Option R):Option R:=match m with| .rp c=>K c|_=>none
def gR (m:MV)(K:MV->Option R):Option R:=match m with| .raw v=>K (.raw v)| .func f c=>K (.func f c)| .rp c=>K (.rp c)|_=>none
def gC (l:List MV)(K:MV->List MV->Option R):Option R:=match l with|m::r=>K m r|[]=>none
def gN (l:List MV)(K:Option R):Option R:=match l with|[]=>K|_=>none
def bd {α:Type}(x:Option α)(K:α->Option R):Option R:=match x with|some a=>K a|none=>none
def agE (l:List MV)(i:Int):Option MV:=if 0<=i then l[i.toNat]? else none
def idx (l:List MV)(i:Int)(K:MV->Option R):Option R:=match agE l i with|some x=>K x|none=>none
def bP (c:Bool)(K:Option R):Option R:=match c with|true=>K|false=>none
def aW (c:Bool)(x y:Option R):Option R:=match c with|true=>x|false=>y
def KD:List Nat->Nat->(Nat->Option R)->Option R
 |[],_,_=>none
 |[p],e,K=>bif c9 e p then K p else none
 |p::q::r,e,K=>bif c9 e p then K p else KD (q::r) e K
def kP (k:Kd)(m:MV)(K:aR->Option R):Option R:=match k with
 | .b=>gB m λx=>K (.p (.b x))
 | .i k=>gI k m λx=>K (.p (.i k x))
 | .s=>gS m λx=>K (.p (.s x))
 | .l=>gL m λx=>K (.p (.list x))
 | .h=>gH m λx=>K (.hs x)
 | .raw=>gR m λm=>K (.p m)
def uM:List Kd->List MV->(List aR->Option R)->Option R
 |[],l,K=>gN l (K [])
 |k::ks,l,K=>gC l λm r=>kP k m λx=>uM ks r λxs=>K (x::xs)
end
def iter {σ R:Type}(body:σ->Option (Sum σ R)):Nat->σ->Option R
 |0,_=>none
 |n+1,s=>match body s with
  |some (.inl s')=>iter body n s'
  |some (.inr r)=>some r
  |none=>none
open Classical in
def Loop {σ R:Type}(body:σ->Option (Sum σ R))(s:σ):Option R:=if h: ∃r n,iter body n s=some r then some (Classical.choose h) else none
def au:Fr->Nat->Slot
 |[],_=> .sc .un
 |(k,s)::r,t=>bif c9 k t then s else au r t
def KE {R:Type}:Fr->Nat->Slot->(Fr->Option R)->Option R
 |[],t,v,K=>K [(t,v)]
 |(k,s)::r,t,v,K=>bif c9 k t then K ((k,v)::r) else KE r t v λr=>K ((k,s)::r)
def force {R:Type}(s:Slot)(K:Slot->Option R):Option R:=match s with
 | .skip=>K .skip
 | .sc l=>K (.sc l)
 | .ag cs=>K (.ag cs)
 | .cg vs=>K (.cg vs)
 | .box cs=>K (.box cs)
 | .zz cs=>K (.zz cs)
 | .ptr r o=>K (.ptr r o)
 | .zA r=>K (.zA r)
 | .rp cs o=>K (.rp cs o)
 | .hp r o i=>K (.hp r o i)
 | .ep f i o b cs=>K (.ep f i o b cs)
def bU:List Nat->Nat->Bool
 |[],_=>false
 |k::r,t=>bif c9 k t then true else bU r t
def BF (t:Nat):Bool:=abq 1000000 t
def posOf (t:Nat):Nat:=(t-1000000)%1000
def Pb (t:Nat):Nat:=(t-1000000)/1000
def plk:List (Nat×Nat)->Nat->Option Nat
 |[],_=>none
 |(k,x)::r,t=>bif c9 k t then some x else plk r t
def dW:Slot->Bool
 | .ptr _ _| .hp _ _ _| .ep _ _ _ _ _| .rp _ _| .zA _=>true
 |_=>false
def wa {R:Type}(ds:List Nat):Fr->(Fr->Option R)->Option R
 |[],K=>K []
 |(k,s)::r,K=>bif dW s||bU ds k then wa ds r K else wa ds r λr=>K ((k,s)::r)
def dx:Slot->Bool
 | .box _| .zz _=>true
 |_=>false
def pick {R:Type}(ks:List Nat):Fr->(Fr->Option R)->Option R
 |[],K=>K []
 |(k,s)::r,K=>bif bU ks k&&!dW s then pick ks r λr=>K ((k,s)::r) else pick ks r K
structure oR where
 ty:Nat
 eU:Bool
 xs:List MV
structure St where
 dg:List Nat
 cZ:List Nat
 fr:Fr
 bh:List (Nat×oR)
def aU:List (Nat×oR)->Nat->Option oR
 |[],_=>none
 |(k,s)::r,t=>bif c9 k t then some s else aU r t
def RY {R:Type}:List (Nat×oR)->Nat->oR->(List (Nat×oR)->Option R)->Option R
 |[],t,v,K=>K [(t,v)]
 |(k,s)::r,t,v,K=>bif c9 k t then K ((k,v)::r) else RY r t v λr=>K ((k,s)::r)
def kB (a b:IntKind):Bool:=decide (a=b)
def kdB:Kd->Kd->Bool
 | .b,.b=>true
 | .i k,.i k'=>kB k k'
 | .s,.s=>true
 | .l,.l=>true
 | .h,.h=>true
 | .raw,.raw=>true
 |_,_=>false
def GI:List Kd->List Kd->Bool
 |[],[]=>true
 |x::xs,y::ys=>kdB x y&&GI xs ys
 |_,_=>false
def msB (s t:MS):Bool:=(s.st==t.st)&&(GI s.lay t.lay&&(s.b==t.b))
def xq {R:Type}(f:Nat):List aR->(List aR->Option R)->Option R
 |[],K=>K []
 |l::r,K=>(match l with
  | .own g=>bif c9 g f then xq f r λr=>K (.un::r) else xq f r λr=>K (.own g::r)
  |l=>xq f r λr=>K (l::r))
def Ln {R:Type}(f:Nat)(s:Slot)(K:Slot->Option R):Option R:=match s with
 | .sc (.own g)=>bif c9 g f then K (.sc .un) else K (.sc (.own g))
 | .ag cs=>xq f cs λcs=>K (.ag cs)
 | .box cs=>xq f cs λcs=>K (.box cs)
 | .ep g i o b cs=>bif c9 g f then K (.sc .un) else K (.ep g i o b cs)
 |s=>K s
def kFr {R:Type}(f:Nat):Fr->(Fr->Option R)->Option R
 |[],K=>K []
 |(k,s)::r,K=>Ln f s λs=>kFr f r λr=>K ((k,s)::r)
section
variable {R:Type}
def qc (st:St)(l:aR)(K:MV->St->Option R):Option R:=match l with
 | .un=>none
 | .p m=>K m st
 | .hs x=>K (.h x) st
 | .nil=>K (.list []) st
 | .mp _ _=>none
 | .own f=>match aU st.bh f with
  |some o=>bif o.eU then K (.list o.xs) st else bif bU st.cZ f then none else (match st with|⟨p,q,r,m⟩=>RY m f ⟨o.ty,true,o.xs⟩ λm=>K (.list o.xs) ⟨p,q,r,m⟩)
  |none=>none
def qX (st:St):List aR->(List MV->St->Option R)->Option R
 |[],K=>K [] st
 |l::r,K=>qc st l λm st=>qX st r λms st=>K (m::ms) st
def mX (st:St)(s:Slot)(K:MV->St->Option R):Option R:=match s with
 | .sc l=>qc st l K
 | .ag cs=>qX st cs λms st=>K (.agg ms) st
 | .rp cs off=>bif c9 off 0 then qX st cs λms st=>K (.rp ms) st else none
 |_=>none
def xr (st:St):List Slot->(List MV->St->Option R)->Option R
 |[],K=>K [] st
 |l::r,K=>mX st l λm st=>xr st r λms st=>K (m::ms) st
end
def zB:List aR->Nat
 |[]=>0
 |k::r=>k.w+zB r
def cut:List aR->Nat->Option (List aR)
 |cs,0=>some cs
 |c::cs,n+1=>bif abq c.w (n+1) then cut cs (n+1-c.w) else none
 |_,_=>none
def Pc:List aR->Nat->Option (List aR)
 |_,0=>some []
 |c::cs,n+1=>bif abq c.w (n+1) then (match Pc cs (n+1-c.w) with|some b=>some (c::b)|none=>none) else none
 |_,_=>none
def part (cs:List aR)(off n:Nat):Option (List aR):=match cut cs off with
 |some a=>Pc a n
 |none=>none
def over:List aR->List aR->Option (List aR)
 |[],cs=>some cs
 |v::vs,c::cs=>bif c9 v.w c.w then (match over vs cs with|some r=>some (v::r)|none=>none) else none
 |_,[]=>none
def putAt:List aR->Nat->List aR->Option (List aR)
 |cs,0,vs=>over vs cs
 |c::cs,n+1,vs=>bif abq c.w (n+1) then (match putAt cs (n+1-c.w) vs with|some r=>some (c::r)|none=>none) else none
 |_,_,_=>none
def app {α:Type}:List α->List α->Option (List α)
 |[],l=>some l
 |x::r,l=>(match app r l with|some q=>some (x::q)|none=>none)
def Pd:aR->Bool
 | .un=>true
 | .mp _ _=>true
 |_=>false
def fR:List aR->Bool
 |[.mp _ _]=>true
 |_=>false
def EP:Slot->Bool
 | .box cs=>!fR cs
 |_=>false
def HM {R:Type}(ok:Nat->Bool)(r0:Fr):Fr->Fr->(Fr->Option R)->Option R
 |[],fr,K=>K fr
 |(t,s)::r,fr,K=>match s with
  | .ptr root off=>bif ok t&&(!BF root&&(EP (au r0 root)&&(EP (au fr root)&&!dx (au fr t)))) then KE fr t (.ptr root off) λfr=>HM ok r0 r fr K else HM ok r0 r fr K
  |_=>HM ok r0 r fr K
def mB:List aR->Bool
 |[.mp s _]=>!RW s
 |_=>false
def wb:List aR->Bool
 |[]=>false
 |l::r=>bif Pd l then true else wb r
def kEp {R:Type}(f:Nat):Fr->(Fr->Option R)->Option R
 |[],K=>K []
 |(k,s)::r,K=>(match s with
  | .ep g i o b cs=>bif c9 g f then kEp f r λr=>K ((k,.sc .un)::r) else kEp f r λr=>K ((k,.ep g i o b cs)::r)
  |s=>kEp f r λr=>K ((k,s)::r))
inductive LK where
 |k (x:Kd)
 |own (f:Nat) (ty:Nat) (eU:Bool)
inductive OK where
 |sc (l:LK)
 |ag (ls:List LK)
 |box (ls:List LK)
 |mp (s:MS)
 |pt (root off:Nat)
structure sv where
 dg:List Nat
 cZ:List Nat
 outs:List (Nat×OK)
 exo:List (Nat×List (Nat×OK))
 eU:List Nat
instance:Inhabited sv:=⟨⟨[],[],[],[],[]⟩⟩
def Ya:List (Nat×List (Nat×OK))->Nat->List (Nat×OK)
 |[],_=>[]
 |(k,l)::r,e=>bif c9 k e then l else Ya r e
def sv.ex (h:sv)(e:Nat):List (Nat×OK):=Ya h.exo e
def Ue:List (Nat×List (Nat×OK))->List (Nat×OK)
 |[]=>[]
 |(_,l)::r=>l++Ue r
def sv.all (h:sv):List (Nat×OK):=h.outs++Ue h.exo
structure Ctx where
 ti:Nat->Option TI
 key:Nat->Nat
 g:Nat->List MV->Option MV
 fj:Nat->Bool
 fresh:Nat->Bool
 sw:Nat->Nat
 sig:Nat->Option (Nat×List LK)
 par:List (Nat×Nat)
 n:Nat
 bs:List Nat
 fl:List Nat
 fz:Nat->List Nat
 fk:Nat->Option FloatKind
 mt:Nat->Option (Nat×Bool)
 ord:Nat->List Nat
 HN:Nat->sv
 Hg:Nat->sv
 FO:Nat->sv
 MY:Nat->Bool
 dyn:List Nat
def Ctx.tv (c:Ctx)(t:Nat):Option TI:=match c.ti t with|some I=>(match I.dw with|[]=>some I|_=>none)|none=>none
def AV:Value->Slot
 | .bool b=> .sc (.p (.b b))
 | .int k n=> .sc (.p (.i k n))
 | .string s=> .sc (.p (.s s.data.toList))
 | .slice none 0 0=> .sc .nil
 | .float k b=> .sc (.p (.raw (.float k b)))
 | .complex k a b=> .sc (.p (.raw (.complex k a b)))
 | .pointer none=> .sc (.p (.raw (.pointer none)))
 | .nilFunc=> .sc (.p (.raw .nilFunc))
 | .nilIface=> .sc (.p (.raw .nilIface))
 |_=> .sc .un
def bw (c:Ctx)(st:St):Operand->Slot
 | .tmp t=>match plk c.par t with
  |some q=>bif BF q&&c9 (posOf q) t then (match au st.fr q with| .box cs=>bif fR cs then .sc .un else .ptr q (Pb q)|_=> .sc .un) else .sc .un
  |none=>match au st.fr t with
   | .box cs=>bif BF t then .sc .un else bif mB cs then .zA t else .ptr t 0
   | .zz cs=> .rp cs 0
   |s=>s
 | .const v=>AV v
 | .func f=> .sc (.p (.func (c.key f) []))
 | .global _=> .sc .un
def lz (c:Ctx)(st:St):List Operand->List Slot
 |[]=>[]
 |o::r=>bw c st o::lz c st r
section
variable {R:Type}
def wr (st:St)(d:Nat)(s:Slot)(K:St->Option R):Option R:=bif bU st.dg d then none else (match st with|⟨p,q,r,m⟩=>force s λs=>KE r d s λr=>K ⟨p,q,r,m⟩)
def bV (c:Ctx)(st:St)(d:Option Nat)(s:Slot)(K:St->Option R):Option R:=match d with
 |some d=>bif BF d||(abq c.n d||dx (au st.fr d)) then none else wr st d s K
 |none=>K st
def lS (st:St)(f:Nat)(o:oR)(K:St->Option R):Option R:=bif bU st.cZ f then none else (match st with|⟨p,q,r,m⟩=>kFr f r λr=>RY m f o λm=>K ⟨p,q,r,m⟩)
def kQ (I:TI)(cs:List aR)(off:Nat)(K:Slot->Option R):Option R:=bif I.st then (match part cs off I.size with|some a=>K (.ag a)|none=>none)
 else (match cut cs off with|some (l::_)=>bif c9 l.w I.size then K (.sc l) else none|_=>none)
def ldK (st:St)(I:TI)(a:Slot)(K:Slot->Option R):Option R:=match a with
 | .ptr root off=>match au st.fr root with
  | .box cs=>bif fR cs then none else kQ I cs off K
  |_=>none
 | .rp cs off=>kQ I cs off K
 | .ep f _ off _ cs=>(match aU st.bh f with|some _=>kQ I cs off K|none=>none)
 | .hp root off i=>bif I.st||!c9 I.size 1 then none else (match au st.fr root with
  | .box cs=>bif fR cs then none else (match cut cs off with|some (.hs x::_)=>K (.sc (.p (.i .u8 (x.l.getD i 0).toNat)))|_=>none)
  |_=>none)
 |_=>none
def bn:Slot->List aR
 | .sc l=>[l]
 | .ag cs=>cs
 |_=>[]
def ea:List aR->Option (List MV)
 |[]=>some []
 |l::r=>match l,ea r with
  | .p m,some q=>some (m::q)
  | .hs x,some q=>some (.h x::q)
  |_,_=>none
def rV:List aR->List MV->Option (List aR)
 |[],[]=>some []
 | .hs x::r,_::ms=>(match rV r ms with|some q=>some (.hs x::q)|none=>none)
 |_::r,m::ms=>(match rV r ms with|some q=>some (.p m::q)|none=>none)
 |_,_=>none
def C0 (b:Bool)(cs:List MV):Option MV:=match b,cs with
 |false,[m]=>some m
 |true,cs=>some (.agg cs)
 |_,_=>none
def isByte (n:Int):Bool:=decide (n=((acm n.toNat).toNat:Int))
def stK (st:St)(I:TI)(a v:Slot)(K:St->Option R):Option R:=bif wb (bn v)||!c9 (zB (bn v)) I.size then none else
 match a with
 | .ptr root off=>match au st.fr root with
  | .box cs=>bif fR cs then none else (match putAt cs off (bn v) with|some gO=>wr st root (.box gO) K|none=>none)
  |_=>none
 | .hp root off i=>match au st.fr root,v with
  | .box cs,.sc (.p n)=>bif fR cs then none else (match cut cs off with
   |some (.hs x::_)=>gI .u8 n λn=>bP (isByte n) (match putAt cs off [.hs (x.put i (acm n.toNat))] with|some gO=>wr st root (.box gO) K|none=>none)
   |_=>none)
  |_,_=>none
 | .ep f i off b cs=>qX st (bn v) λms st=>match aU st.bh f with
  |some o=>bif o.eU then none else
   (match rV (bn v) ms with
   |some vs=>(match putAt cs off vs with
    |some gO=>(match ea gO with
     |some ms'=>(match C0 b ms' with
      |some x=>bif bU st.cZ f then none else
       (match st with|⟨p,q,r,m⟩=>kEp f r λr=>RY m f ⟨o.ty,false,o.xs.set i x⟩ λm=>K ⟨p,q,r,m⟩)
      |none=>none)
     |none=>none)
    |none=>none)
   |none=>none)
  |none=>none
 |_=>none
def MZ (I:TI)(x:MV)(K:List aR->Option R):Option R:=bif I.st then gA x λcs=>uM I.lay cs K
 else match I.lay with
  |[k]=>kP k x λx=>K [x]
  |_=>none
def FP (I:TI)(x:MV)(K:Slot->Option R):Option R:=bif I.st then gA x λcs=>uM I.lay cs λcs=>K (.ag cs)
 else match I.lay with
  |[k]=>kP k x λx=>K (.sc x)
  |_=>none
def HO (c:Ctx):List Nat->List MV->(List Slot->Option R)->Option R
 |[],l,K=>gN l (K [])
 |t::ts,l,K=>match c.tv t with
  |some I=>gC l λm r=>FP I m λs=>HO c ts r λss=>K (s::ss)
  |none=>none
def sB (c:Ctx)(I:TI)(x:MV)(K:Slot->Option R):Option R:=match I.dw with
 |[]=>FP I x K
 |ts=>gT x λvs=>HO c ts vs λss=>K (.cg ss)
def EQ:aR->aR->Option Bool
 | .p (.b x),.p (.b y)=>some (decide (x=y))
 | .p (.i k x),.p (.i k' y)=>bif decide (k=k') then some (decide (x=y)) else none
 | .p (.s x),.p (.s y)=>some (decide (x=y))
 | .hs x,.hs y=>some (decide (x=y))
 |_,_=>none
def jU:List aR->List aR->Option Bool
 |[],[]=>some true
 |[x],[y]=>EQ x y
 |x::xs,y::ys=>match EQ x y,jU xs ys with
  |some a,some b=>some (a&&b)
  |_,_=>none
 |_,_=>none
def M0 (op:BinOp)(x y:List UInt8):Option MV:=match op with
 | .eql=>some (.b (decide (x=y)))
 | .neq=>some (.b (!decide (x=y)))
 | .lss=>some (.b (adP x y))
 | .gtr=>some (.b (!(adP x y||decide (x=y))))
 | .leq=>some (.b (adP x y||decide (x=y)))
 | .geq=>some (.b (!adP x y))
 |_=>none
def Uf (op:BinOp)(k:IntKind)(x y:Int):Option MV:=match op with
 | .add=>some (.i k (k.wrap (x+y)))
 | .sub=>some (.i k (k.wrap (x-y)))
 | .mul=>some (.i k (k.wrap (x *y)))
 | .eql=>some (.b (decide (x=y)))
 | .neq=>some (.b (!decide (x=y)))
 | .lss=>some (.b (decide (x<y)))
 | .leq=>some (.b (decide (x<=y)))
 | .gtr=>some (.b (decide (y<x)))
 | .geq=>some (.b (decide (y<=x)))
 |_=>none
def vA:Kd->aR->Bool
 | .b,.p (.b _)=>true
 | .i k,.p (.i k' _)=>decide (k'=k)
 | .s,.p (.s _)=>true
 | .h,.hs _=>true
 |_,_=>false
def jV:List Kd->List aR->Bool
 |[],[]=>true
 |k::ks,l::ls=>bif vA k l then jV ks ls else false
 |_,_=>false
def vB (st:Bool):Slot->Bool
 | .ag _=>st
 | .sc _=>!st
 |_=>false
def ajC (op:BinOp)(a b:Nat):Option Nat:=match op with
 | .add=>FloatKind.f64.format.add a b
 | .sub=>FloatKind.f64.format.sub a b
 | .mul=>FloatKind.f64.format.mul a b
 |_=>none
def agF (oI:Option TI)(op:BinOp)(x y:Slot)(K:Slot->Option R):Option R:=match x,y with
 | .sc (.p (.i k a)),.sc (.p (.i k' b))=>
  (match op with
   | .quo=>bif decide (k=k') then bP (!decide (b=0)) (K (.sc (.p (.i k (k.wrap (a.tdiv b)))))) else none
   | .rem=>bif decide (k=k') then bP (!decide (b=0)) (K (.sc (.p (.i k (a.tmod b))))) else none
   | .shr=>bP (decide (0<=b)) (K (.sc (.p (.i k (a.fdiv (2^min b.toNat k.bits))))))
   | .shl=>bP (decide (0<=b)) (K (.sc (.p (.i k (k.wrap (a *2^min b.toNat k.bits))))))
   |_=>bif decide (k=k') then (match Uf op k a b with|some m=>K (.sc (.p m))|none=>none) else none)
 | .sc (.p (.s a)),.sc (.p (.s b))=>(match op with
  | .add=>bP (decide (a.length+b.length<=2^46)) (K (.sc (.p (.s (a++b)))))
  |_=>(match M0 op a b with|some m=>K (.sc (.p m))|none=>none))
 | .sc (.p (.raw (.float .f64 a))),.sc (.p (.raw (.float .f64 b)))=>bd (ajC op a b) λr=>K (.sc (.p (.raw (.float .f64 r))))
 |x,y=>match oI with
  |some I=>bif jV I.lay (bn x)&&jV I.lay (bn y)&&(vB I.st x&&vB I.st y) then (match op with
   | .eql=>(match jU (bn x) (bn y) with|some b=>K (.sc (.p (.b b)))|none=>none)
   | .neq=>(match jU (bn x) (bn y) with|some b=>K (.sc (.p (.b (!b))))|none=>none)
   |_=>none) else none
  |none=>none
def sliceB (lo hi:Option Slot)(len:Nat)(K:Nat->Nat->Option R):Option R:=match lo,hi with
 |none,none=>K 0 len
 |some (.sc (.p (.i _ l))),none=>bP (decide (0<=l/\l<=(len:Int)/\(len:Int)<=(len:Int))) (K l.toNat (Int.toNat (len:Int)))
 |none,some (.sc (.p (.i _ h)))=>bP (decide (0<=(0:Int)/\(0:Int)<=h/\h<=(len:Int))) (K (Int.toNat 0) h.toNat)
 |some (.sc (.p (.i _ l))),some (.sc (.p (.i _ h)))=>bP (decide (0<=l/\l<=h/\h<=(len:Int))) (K l.toNat h.toNat)
 |_,_=>none
def mC (c:Ctx)(st:St):Option Operand->Option Slot
 |some o=>some (bw c st o)
 |none=>none
def TI.CW (I:TI):Bool:=match I.st,I.lay with|false,[.l]=>true|_,_=>false
def TI.XS (I:TI):Bool:=match I.st,I.lay with|false,[.s]=>true|_,_=>false
def VM (E:TI):Bool:=match E.st,E.lay with
 |false,[.i k]=>decide (k= .u8)
 |_,_=>false
def Pe (l:List UInt8):List MV:=l.map λb=> .i .u8 (b.toNat:Int)
def RZ (c:Ctx)(u:Nat)(E:TI)(x:Slot)(K:List MV->Option R):Option R:=match c.tv u,x with
 |some T,.sc (.p (.s l))=>bif T.XS&&VM E then K (Pe l) else none
 |_,_=>none
def M1 (I E:TI)(st:St)(x:Slot)(K:List MV->Option R):Option R:=match x with
 | .sc (.p (.list xs))=>bP (nS E.size xs) (K xs)
 | .sc .nil=>K []
 | .sc (.own f)=>(match aU st.bh f with|some o=>bif c9 o.ty I.elem then K o.xs else none|none=>none)
 |_=>none
def Ci (c:Ctx)(st:St)(I:TI):List (Nat×Operand)->List aR->Option (List aR)
 |[],cs=>some cs
 |(i,o)::r,cs=>match I.zf[i]?,I.VL[i]? with
  |some q,some y=>(match c.tv y with
   |some J=>bif wb (bn (bw c st o))||!c9 (zB (bn (bw c st o))) J.size then none else
    (match putAt cs q (bn (bw c st o)) with|some gO=>Ci c st I r gO|none=>none)
   |none=>none)
  |_,_=>none
def HP (c:Ctx)(st:St):List (Nat×Operand)->lR->(lR->Option R)->Option R
 |[],x,K=>K x
 |(i,o)::r,x,K=>match bw c st o with
  | .sc (.p m)=>bif abq 32 i then none else gI .u8 m λn=>bP (isByte n) (HP c st r (x.put i (acm n.toNat)) K)
  |_=>none
def Yb (c:Ctx)(st:St):List (Nat×Operand)->Nat->(List MV->St->Option R)->Option R
 |[],_,K=>K [] st
 |(i,o)::r,n,K=>bif c9 i n then mX st (bw c st o) λm st=>Yb c st r (n+1) λms st=>K (m::ms) st else none
def C1 (c:Ctx)(st:St):List Operand->(List MV->St->Option R)->Option R
 |[],K=>K [] st
 |o::r,K=>match bw c st o with
  | .ptr root 0=>(match au st.fr root with
   | .box cs=>bif wb cs||BF root then none else qX st cs λms st=>(match rV cs ms with|some gO=>wr st root (.zz gO) λst=>C1 c st r λxs st=>K (.rp ms::xs) st|none=>none)
   |_=>none)
  | .rp cs 0=>qX st cs λms st=>C1 c st r λxs st=>K (.rp ms::xs) st
  |_=>none
def C2 (c:Ctx)(k:Nat)(st:St)(s:Slot)(K:MV->St->Option R):Option R:=match s with
 | .sc (.own f)=>(match aU st.bh f with
  |some o=>bif o.eU||!c9 o.ty (c.sw k) then none else lS st f ⟨o.ty,true,[]⟩ λst=>K (.fresh o.xs) st
  |none=>none)
 | .sc .nil=>(match c.tv (c.sw k) with|some _=>K (.fresh []) st|none=>none)
 |_=>none
def Ug (c:Ctx)(k:Nat)(st:St)(ss:List Slot)(K:List MV->St->Option R):Option R:=bif c.fj k then (match ss with
  |[s0,s1,s2]=>(match s2 with
   | .sc (.p m2)=>mX st s1 λm1 st=>C2 c k st s0 λm0 st=>K [m0,m1,m2] st
   |s2=>mX st s1 λm1 st=>C2 c k st s0 λm0 st=>C2 c k st s2 λm2 st=>K [m0,m1,m2] st)
  |_=>none)
 else xr st ss K
def nT (x y:Int):Int:=if y<x then y else x
def imax (x y:Int):Int:=if y>x then y else x
def Yc (mx:Bool)(k:IntKind):Int->List Slot->Option MV
 |x,[]=>some (.i k x)
 |x,.sc (.p (.i k' y))::r=>bif decide (k'=k) then Yc mx k (bif mx then imax x y else nT x y) r else none
 |_,_=>none
def R0 (mx:Bool):List Slot->Option MV
 | .sc (.p (.i k n))::r=>Yc mx k n r
 |_=>none
def Yd (c:Ctx)(d:Nat)(st:St)(f:Nat)(ms:List MV)(I:TI)(K:Slot->St->Option R):Option R:=bd (c.g f ms) λr=>bif c.fresh f then gF r λxs=>bif !c9 I.elem (c.sw f) then none else lS st d ⟨I.elem,false,xs⟩ λst=>(bif bU c.bs d then qc st (.own d) λm st=>K (.sc (.p m)) st else K (.sc (.own d)) st) else sB c I r λs=>K s st
def agG (s:Slot)(K:Slot->Option R):Option R:=match s with
 | .ptr r o=>K (.ptr r o)
 | .rp cs o=>K (.rp cs o)
 |_=>none
def Ye (x y z:Slot)(K:Slot->Option R):Option R:=match x with
 | .sc (.p (.b v))=>(match y,z with
  | .sc (.p (.b p)),.sc (.p (.b q))=>K (.sc (.p (.b (bif v then p else q))))
  |p,q=>match v with|true=>K p|false=>K q)
 |_=>none
def agH (I:TI)(s:Slot)(K:Slot->Option R):Option R:=match s with
 | .sc l=>bif I.st||Pd l||!c9 l.w I.size then none else K (.box [l])
 | .ag cs=>bif I.st&&!wb cs&&c9 (zB cs) I.size then K (.box cs) else none
 |_=>none
def unK (op:UnOp)(s:Slot)(K:Slot->Option R):Option R:=match op,s with
 | .not,.sc (.p (.b v))=>K (.sc (.p (.b (!v))))
 | .neg,.sc (.p (.i k n))=>K (.sc (.p (.i k (k.wrap (0-n)))))
 |_,_=>none
def Yf (I:TI)(fk:Option FloatKind)(s:Slot)(K:Slot->Option R):Option R:=match I.st,I.dw,I.lay,s with
 |false,[],[.i k],.sc (.p (.i _ n))=>K (.sc (.p (.i k (k.wrap n))))
 |false,[],[.s],.sc (.p (.s l))=>K (.sc (.p (.s l)))
 |false,[],[.i k],.sc (.p (.raw (.float .f64 a)))=>bd ((FloatKind.decode .f64 a).toInt .zero) λn=>bP (decide (k.min<=n/\n<=k.max)) (K (.sc (.p (.i k n))))
 |false,[],[.raw],.sc (.p (.i _ n))=>(match fk with
  |some .f64=>K (.sc (.p (.raw (.float .f64 (FloatKind.nearest .f64 n)))))
  |_=>none)
 |_,_,_,_=>none
def R2 (c:Ctx)(I:TI)(st:St)(s:Slot)(lo hi:Option Slot)(K:Slot->St->Option R):Option R:=match s with
 | .sc (.p (.s l))=>bif I.XS then sliceB lo hi l.length λa b=>K (.sc (.p (.s ((l.take b).drop a)))) st else none
 | .sc (.p (.list l))=>bif I.CW then (match c.tv I.elem with
  |some E=>(match lo with
   |none=>sliceB none hi l.length λa b=>K (.sc (.p (.list ((l.take b).drop a)))) st
   |some lo=>bP (nS E.size l) (sliceB (some lo) hi l.length λa b=>K (.sc (.p (.list ((l.take b).drop a)))) st))
  |none=>none) else none
 | .sc (.own f)=>(match aU st.bh f with
  |some o=>bif I.CW&&c9 o.ty I.elem then qc st (.own f) λ_ st=>sliceB lo hi o.xs.length λa b=>K (.sc (.p (.list ((o.xs.take b).drop a)))) st else none
  |none=>none)
 | .sc .nil=>bif I.CW then sliceB lo hi 0 λ_ _=>K (.sc .nil) st else none
 |_=>none
def Yg (st:St)(I:TI)(f:Nat)(s:Slot)(K:Slot->Option R):Option R:=match I.st,I.zf[f]?,s with
 |true,some q,.ptr r o=>K (.ptr r (o+q))
 |true,some q,.rp cs o=>K (.rp cs (o+q))
 |true,some q,.ep g i o b cs=>(match aU st.bh g with|some _=>K (.ep g i (o+q) b cs)|none=>none)
 |_,_,_=>none
def agI (c:Ctx)(I:TI)(f:Nat)(s:Slot)(K:Slot->Option R):Option R:=match I.st,I.zf[f]?,I.VL[f]?,s with
 |true,some q,some y,.ag cs=>(match c.tv y with|some J=>kQ J cs q K|none=>none)
 |_,_,_,_=>none
def agJ (c:Ctx)(st:St)(I E:TI)(x i:Slot)(K:Slot->Option R):Option R:=match x,i with
 | .sc (.p (.list xs)),.sc (.p (.i _ n))=>bif I.CW then idx xs n λx=>MZ E x λcs=>K (.rp cs 0) else none
 | .sc (.own f),.sc (.p (.i _ n))=>(match aU st.bh f with
  |some o=>bif I.CW then idx o.xs n λx=>MZ E x λcs=>K (.ep f n.toNat 0 E.st cs) else none
  |none=>none)
 | .ptr r o,.sc (.p (.i _ n))=>bif I.st then none else (match I.lay with|[.h]=>bP (decide ((0:Int)<=n/\n<32)) (K (.hp r o n.toNat))|_=>none)
 |_,_=>none
def ixK (I:TI)(x i:Slot)(K:Slot->Option R):Option R:=match I.st,I.lay,x,i with
 |false,[.s],.sc (.p (.s l)),.sc (.p (.i _ n))=>bP (decide ((0:Int)<=n/\n<(l.length:Int))) (K (.sc (.p (.i .u8 (l.getD n.toNat 0).toNat))))
 |false,[.h],.sc (.hs x),.sc (.p (.i _ n))=>bP (decide ((0:Int)<=n/\n<32)) (K (.sc (.p (.i .u8 (x.l.getD n.toNat 0).toNat))))
 |_,_,_,_=>none
def agK (s:Slot)(k:Nat)(K:Slot->Option R):Option R:=match s with
 | .cg vs=>(match vs[k]? with|some s=>K s|none=>none)
 |_=>none
def Yh (I:TI)(st:St)(ss:List Slot)(K:Slot->Option R):Option R:=match ss with
 |[.sc (.p (.s l))]=>bif I.XS then K (.sc (.p (.i .i64 l.length))) else none
 |[.sc (.p (.list l))]=>bif I.CW then K (.sc (.p (.i .i64 l.length))) else none
 |[.sc .nil]=>bif I.CW then K (.sc (.p (.i .i64 0))) else none
 |[.sc (.own f)]=>bif I.CW then (match aU st.bh f with|some o=>K (.sc (.p (.i .i64 o.xs.length)))|none=>none) else none
 |_=>none
def VN (d:Nat)(st:St)(I E:TI)(s:Slot)(ys:List MV)(K:Slot->St->Option R):Option R:=bif abq 1 E.bytes then (match s with
 | .sc .nil=>bP (decide (ys.length *E.bytes<=2^46)) (lS st d ⟨I.elem,false,ys⟩ λst=>K (.sc (.own d)) st)
 | .sc (.own f)=>(match aU st.bh f with
  |some w=>bP (decide ((w.xs.length+ys.length) *E.bytes<=2^46)) (bif c9 w.ty I.elem then lS st f ⟨w.ty,w.eU,w.xs++ys⟩ λst=>K (.sc (.own f)) st else none)
  |none=>none)
 |_=>none) else none
def M2 (c:Ctx)(st:St)(I:TI)(f:Slot)(ss:List Slot)(K:Slot->St->Option R):Option R:=match f with
 | .sc (.p m)=>RX m λf cE=>bP (!c.fj f)<|xr st ss λms st=>bd (c.g f (ms++cE)) λr=>sB c I r λs=>K s st
 |_=>none
def Pf:MV->MV->Bool
 | .b x,.b y=>decide (x=y)
 | .i k x,.i k' y=>decide (k=k')&&decide (x=y)
 | .s x,.s y=>decide (x=y)
 | .h x,.h y=>decide (x=y)
 |_,_=>false
def zC:List MV->List MV->Bool
 |[],[]=>true
 |x::xs,y::ys=>Pf x y&&zC xs ys
 |_,_=>false
def agL:MV->List MV
 | .cg (.agg k::_)=>k
 |_=>[]
def Uh (b:Bool):MV:=bif b then .b false else .i .i64 0
def VO (c:Ctx)(t:Nat):Option MS:=match c.mt t with
 |some (kt,b)=>(match c.tv kt with|some I=>bif RW ⟨I.st,I.lay,b⟩ then none else some ⟨I.st,I.lay,b⟩|none=>none)
 |none=>none
def ar0 (st:St)(s:MS)(m:Slot)(K:Nat->List MV->Option R):Option R:=match m with
 | .zA r=>(match au st.fr r with| .box [.mp s' es]=>bif msB s s'&&!RW s' then K r es else none|_=>none)
 |_=>none
def isLT (c:Ctx)(y:Nat):Bool:=match c.tv y with|some Y=>Y.CW|none=>false
def oS (c:Ctx)(o:Oper):Bool:=match o.op with
 | .assign (.tmp _)=>(match c.mt o.type with|some _=>true|none=>false)
 |_=>false
def Hh (c:Ctx)(o:Oper)(st:St)(x:Operand)(K:Slot->St->Option R):Option R:=match x,c.mt o.type with
 | .tmp t,some _=>(match au st.fr t with
  | .box cs=>bif fR cs then bif bU st.dg t||BF t then none else (match st with|⟨p,q,r,m⟩=>wa [t] r λr=>K (.box cs) ⟨p,q,r,m⟩) else K (bw c st x) st
  |_=>K (bw c st x) st)
 |_,_=>K (bw c st x) st
def XT (es:List MV):List UInt8:=match es with|[.s l,.i .i64 _]=>l|_=>[]
def se (es:List MV):Int:=match es with|[.s _,.i .i64 n]=>n|_=>0
def KF (es:List MV):Bool:=decide (se es<((XT es).length:Int))
def zD (es:List MV):Int:=(af1 ⟨(XT es).toArray⟩ (se es).toNat).1
def Cj (es:List MV):List MV:=[.s (XT es),.i .i64 (se es+(af1 ⟨(XT es).toArray⟩ (se es).toNat).2)]
def itK (st:St)(x:Slot)(K:Slot->St->Option R):Option R:=match x with
 | .ptr t 0=>(match au st.fr t with
  | .box [.mp s es]=>bif RW s then
   aW (KF es) (wr st t (.box [.mp s (Cj es)]) λst=>K (.cg [.sc (.p (.b true)),.sc (.p (.i .i64 (se es))),.sc (.p (.i .i32 (zD es)))]) st) (K (.cg [.sc (.p (.b false))]) st)
   else none
  |_=>none)
 |_=>none
def byK (m:MV)(K:UInt8->Option R):Option R:=gI .u8 m λn=>bP (isByte n) (K (acm n.toNat))
def HQ:List MV->(List UInt8->Option R)->Option R
 |[],K=>K []
 |m::r,K=>byK m λb=>HQ r λl=>K (b::l)
def R3 (I:TI)(x:Slot)(K:Slot->Option R):Option R:=match x with
 | .sc (.p (.s l))=>bif I.XS then K (.box [.mp MS.it [.s l,.i .i64 0]]) else none
 |_=>none
def Yi (c:Ctx)(st:St)(Y I:TI)(x:Slot)(K:Slot->Option R):Option R:=match c.tv Y.elem with
 |some E=>bif I.XS&&VM E then (match x with
  | .sc (.p (.list xs))=>HQ xs λl=>K (.sc (.p (.s l)))
  | .sc .nil=>K (.sc (.p (.s [])))
  | .sc (.own f)=>(match aU st.bh f with
   |some o=>bif c9 o.ty Y.elem then HQ o.xs λl=>K (.sc (.p (.s l))) else none
   |none=>none)
  |_=>none) else none
 |none=>none
def still (c:Ctx)(o:Oper):Bool:=match o.op,o.dst with
 | .load _ _,some d=>bU c.fl d
 |_,_=>false
def bL:List LK->List Nat
 |[]=>[]
 | .own f _ _::r=>f::bL r
 |_::r=>bL r
def meets:List Nat->List Nat->Bool
 |[],_=>false
 |k::r,l=>bif bU l k then true else meets r l
def je (c:Ctx):List LK->Bool
 |[]=>true
 | .own _ ty _::r=>(match c.tv ty with|some _=>je c r|none=>false)
 |_::r=>je c r
def mY (ps:List (Nat×Nat))(f g:Nat):Bool:=match ps with
 |[]=>true
 |(a,b)::r=>(bif c9 a f then c9 b g&&!c9 g 0 else (bif c9 b g then c9 g 0 else true))&&mY r f g
def M3 (st:St)(ps:List (Nat×Nat))(k:LK)(l:aR)(K:MV->List (Nat×Nat)->Option R):Option R:=match k,l with
 | .k .l,.nil=>K (.list []) ps
 | .k .h,.hs x=>K (.h x) ps
 | .k x,.p m=>kP x m λ_=>K m ps
 | .own f ty eU,.own g=>match aU st.bh g with
  |some o=>bif !c9 o.ty ty||(o.eU&&!eU)||bU st.cZ g||!mY ps f (g+1) then none else K (.list o.xs) ((f,g+1)::ps)
  |none=>none
 | .own f _ _,.nil=>bif mY ps f 0 then K (.list []) ((f,0)::ps) else none
 |_,_=>none
def kq (st:St):List (Nat×Nat)->List LK->List aR->(List MV->List (Nat×Nat)->Option R)->Option R
 |ps,[],[],K=>K [] ps
 |ps,k::ks,l::ls,K=>M3 st ps k l λm ps=>kq st ps ks ls λms ps=>K (m::ms) ps
 |_,_,_,_=>none
def lT (st:St)(k:LK)(m:MV)(K:aR->St->Option R):Option R:=match k with
 | .k x=>kP x m λl=>K l st
 | .own f ty eU=>gL m λxs=>(match st with|⟨p,q,r,n⟩=>RY n f ⟨ty,eU,xs⟩ λn=>K (.own f) ⟨p,q,r,n⟩)
def dA (st:St):List LK->List MV->(List aR->List MV->St->Option R)->Option R
 |[],ms,K=>K [] ms st
 |k::ks,ms,K=>gC ms λm r=>lT st k m λl st=>dA st ks r λls ms st=>K (l::ls) ms st
def Pg (gs:List Nat):List (Nat×oR)->(List (Nat×oR)->Option R)->Option R
 |[],K=>K []
 |(k,o)::r,K=>bif bU gs k then Pg gs r K else Pg gs r λr=>K ((k,o)::r)
def acu:List Nat->Fr->(Fr->Option R)->Option R
 |[],r,K=>K r
 |f::fs,r,K=>kFr f r λr=>acu fs r K
def e9:List (Nat×Nat)->List Nat
 |[]=>[]
 |(_,0)::r=>e9 r
 |(_,g+1)::r=>g::e9 r
def Lo:List Nat->List (Nat×oR)->Bool
 |[],_=>false
 |f::r,m=>(match aU m f with|some _=>true|none=>Lo r m)
def Lp (st:St)(root:Nat)(ks:List LK)(ps:List (Nat×Nat))(outs:List MV)(K:St->Option R):Option R:=dA ⟨[],[],[],[]⟩ ks outs λcs rest AW=>gN rest<|Pg (e9 ps) st.bh λm=>
  bif Lo (bL ks) m||meets (bL ks) st.cZ then none else
   acu (bL ks) st.fr λr=>KE r root (.box cs) λr=>(match app AW.bh m with|some m=>K ⟨st.dg,st.cZ,r,m⟩|none=>none)
def Ui (c:Ctx)(gv:Bool)(g:List MV->Option MV)(pos:Nat)(ks:List LK)(st:St)(ss:List Slot)(I:Option TI)(K:Slot->St->Option R):Option R:=match ss[pos]? with
 |some (.ptr root off)=>xr st (ss.take pos) λm1 st=>xr st (ss.drop (pos+1)) λm2 st=>
  (match au st.fr root with
  | .box cs=>bif fR cs||bU st.dg root||!je c ks||!gv then none else kq st [] ks cs λls ps=>
   (match app m1 (.cell (.func off ls)::m2) with
   |some ms=>bd (g ms) λx=>gW x λr outs=>Lp st root ks ps outs λst=>(match I with
    |some I=>sB c I r λs=>K s st
    |none=>K (.sc .un) st)
   |none=>none)
  |_=>none)
 |_=>none
def aft (c:Ctx)(key pos:Nat)(ks:List LK)(st:St)(ss:List Slot)(I:Option TI)(K:Slot->St->Option R):Option R:=Ui c (c.fj key) (c.g key) pos ks st ss I K
def Yj:List LK->List LK->Bool
 |[],[]=>true
 | .k k1::r,.k k2::q=>kdB k1 k2&&Yj r q
 | .own f t z::r,.own f' t' z'::q=>c9 f f'&&(c9 t t'&&(z==z'&&Yj r q))
 |_,_=>false
def Pj (c:Ctx)(pos:Nat)(ks:List LK):List Nat->Bool
 |[]=>true
 |k::r=>(match c.sig k with|some sg=>c9 sg.1 pos&&Yj sg.2 ks|none=>false)&&(c.fj k&&Pj c pos ks r)
def Yk (c:Ctx)(VP:List Nat)(st:St)(f:Slot)(ss:List Slot)(I:Option TI)(K:Slot->St->Option R):Option R:=match f,VP with
 | .sc (.p m),k0::_=>(match c.sig k0 with
  |some sg=>bif Pj c sg.1 sg.2 VP then RX m λk cE=>gN cE<|Ui c true (λms=>KD VP k λk=>c.g k ms) sg.1 sg.2 st ss I K else none
  |none=>none)
 |_,_=>none
def opK (c:Ctx)(o:Oper)(st:St)(K:Slot->St->Option R):Option R:=match o.op with
 | .move x=>K (bw c st x) st
 | .assign x=>Hh c o st x K
 | .nilCheck x=>agG (bw c st x) λs=>K s st
 | .pick x a b=>Ye (bw c st x) (bw c st a) (bw c st b) λs=>K s st
 | .alloc t=>(match c.tv t with|some I=>K (.box I.zero) st|none=>none)
 | .box t x=>(match c.tv t with|some I=>agH I (bw c st x) λs=>K s st|none=>none)
 | .build t parts=>(match c.tv t with
  |some I=>bif I.st then (match Ci c st I parts.toList I.zero with|some cs=>K (.ag cs) st|none=>none)
   else (match I.lay with|[.h]=>HP c st parts.toList lR.zero λx=>K (.sc (.hs x)) st|_=>none)
  |none=>none)
 | .buildSlice t n parts=>(match c.tv t with
  |some I=>bif I.CW then (match c.tv I.elem with
   |some E=>bif abq (n *E.size) 16777216 then Yb c st parts.toList 0 λms st=>bif c9 ms.length n then bP (nS E.size ms) (bif bU c.bs (o.dst.getD 0) then K (.sc (.p (.list ms))) st else lS st (o.dst.getD 0) ⟨I.elem,false,ms⟩ λst=>K (.sc (.own (o.dst.getD 0))) st) else none else none
   |none=>none) else none
  |none=>none)
 | .load t a=>(match c.tv t with
  |some I=>bif still c o then (match bw c st a with| .rp cs off=>kQ I cs off λs=>K s st|_=>none) else ldK st I (bw c st a) λs=>K s st
  |none=>none)
 | .store t a v=>(match c.tv t with|some I=>stK st I (bw c st a) (bw c st v) λst=>K (.sc .un) st|none=>none)
 | .binOp op t x y _=>agF (c.tv t) op (bw c st x) (bw c st y) λs=>K s st
 | .unOp op _ x=>unK op (bw c st x) λs=>K s st
 | .convert y t x=>bif isLT c y then (match c.tv y,c.tv t with|some Y,some I=>Yi c st Y I (bw c st x) λs=>K s st|_,_=>none)
  else (match c.ti y,c.tv t with|some _,some I=>Yf I (c.fk t) (bw c st x) λs=>K s st|_,_=>none)
 | .range t x=>(match c.tv t with|some I=>R3 I (bw c st x) λs=>K s st|none=>none)
 | .next x true=>itK st (bw c st x) K
 | .makeFunc (.func f) first cE=>(match first.toList with
  |[]=>C1 c st cE.toList λms st=>K (.sc (.p (.func (c.key f) ms))) st
  |_=>none)
 | .slice t x lo hi none=>(match c.tv t with|some I=>R2 c I st (bw c st x) (mC c st lo) (mC c st hi) K|none=>none)
 | .fieldAddr t x f=>(match c.tv t with|some I=>Yg st I f (bw c st x) λs=>K s st|none=>none)
 | .field t x f=>(match c.tv t with|some I=>agI c I f (bw c st x) λs=>K s st|none=>none)
 | .indexAddr t x i=>(match c.tv t with
  |some I=>(match c.tv I.elem with|some E=>agJ c st I E (bw c st x) (bw c st i) λs=>K s st|none=>none)
  |none=>none)
 | .index t x i=>(match c.tv t with|some I=>ixK I (bw c st x) (bw c st i) λs=>K s st|none=>none)
 | .extract x k=>agK (bw c st x) k λs=>K s st
 | .call cl=>(match cl.callee with
  | .value (.func f)=>(match c.sig (c.key f) with
   |some sg=>aft c (c.key f) sg.1 sg.2 st (lz c st cl.args.toList) (c.ti o.type) K
   |none=>match c.ti o.type with
   |some I=>Ug c (c.key f) st (lz c st cl.args.toList) λms st=>Yd c (o.dst.getD 0) st (c.key f) ms I K
   |none=>none)
  | .value x=>(match c.dyn with
   |_::_=>Yk c c.dyn st (bw c st x) (lz c st cl.args.toList) (c.ti o.type) K
   |[]=>match c.ti o.type with
   |some I=>M2 c st I (bw c st x) (lz c st cl.args.toList) K
   |none=>none)
  | .builtin .len=>(match cl.argTypes.toList with
   |[t]=>(match c.tv t with|some I=>Yh I st (lz c st cl.args.toList) λs=>K s st|none=>none)
   |_=>none)
  | .builtin .append=>(match lz c st cl.args.toList,cl.argTypes.toList with
   |[s,x],[t,t']=>(match c.tv t with
    |some I=>bif I.CW then (match c.tv I.elem with
     |some E=>bif c9 t t' then M1 I E st x λys=>VN (o.dst.getD 0) st I E s ys K else RZ c t' E x λys=>VN (o.dst.getD 0) st I E s ys K
     |none=>none) else none
    |none=>none)
   |_,_=>none)
  | .builtin .min=>(match R0 false (lz c st cl.args.toList) with|some m=>K (.sc (.p m)) st|none=>none)
  | .builtin .max=>(match R0 true (lz c st cl.args.toList) with|some m=>K (.sc (.p m)) st|none=>none)
  |_=>none)
 |_=>none
def R4 (all:List Oper)(o:Oper)(st:St)(K:Bool->St->Option R):Option R:=match o.guard with
 |none=>K true st
 |some (j,want)=>match all[j]? with
  |some p=>(match p.dst with
   |some t=>(match au st.fr t with
    | .sc (.p (.b v))=>(match v with
     |true=>(match st with|⟨p,q,r,m⟩=>KE r t (.sc (.p (.b true))) λr=>K want ⟨p,q,r,m⟩)
     |false=>(match st with|⟨p,q,r,m⟩=>KE r t (.sc (.p (.b false))) λr=>K (!want) ⟨p,q,r,m⟩))
    | .skip=>K false st
    |_=>none)
   |none=>none)
  |none=>none
def Uj (c:Ctx)(all:List Oper)(o:Oper)(st:St)(K:St->Option R):Option R:=R4 all o st λgo st=>
  bif go then opK c o st λs st=>bV c st o.dst s K
  else bV c st o.dst .skip K
def BG (c:Ctx)(all:List Oper):List Oper->St->(St->Option R)->Option R
 |[],st,K=>K st
 |o::r,st,K=>Uj c all o st λst=>BG c all r st K
end
section
variable {R:Type}
def oh (st:St):List (Nat×Nat)->List (Nat×OK)->(List MV->Option R)->Option R
 |_,[],K=>K []
 |ps,(t,k)::r,K=>match k,au st.fr t with
  | .sc k,.sc l=>kq st ps [k] [l] λms ps=>oh st ps r λns=>(match app ms ns with|some l=>K l|none=>none)
  | .ag ks,.ag ls=>kq st ps ks ls λms ps=>oh st ps r λns=>(match app ms ns with|some l=>K l|none=>none)
  | .box ks,.box ls=>kq st ps ks ls λms ps=>oh st ps r λns=>(match app ms ns with|some l=>K l|none=>none)
  | .mp s,.box [.mp s' es]=>bif msB s s' then oh st ps r λns=>K (.list es::ns) else none
  | .pt root off,.ptr Yl VQ=>bif c9 root Yl&&(c9 off VQ&&(!BF root&&EP (au st.fr root))) then oh st ps r K else none
  |_,_=>none
def Pk (st:St)(t:Nat)(s:Slot)(K:St->Option R):Option R:=match st with|⟨p,q,r,m⟩=>KE r t s λr=>K ⟨p,q,r,m⟩
def Ym:List (Nat×OK)->List MV->St->(St->Option R)->Option R
 |[],ms,st,K=>gN ms (K st)
 |(t,k)::r,ms,st,K=>match k,st with
  | .pt root off,⟨p,q,fr,m⟩=>bif !BF root&&(EP (au fr root)&&!dx (au fr t)) then KE fr t (.ptr root off) λfr=>Ym r ms ⟨p,q,fr,m⟩ K else none
  |_,_=>none
def ol (st:St):List (Nat×OK)->List MV->(St->Option R)->Option R
 |[],ms,K=>gN ms (K st)
 |(t,k)::r,ms,K=>match k with
  | .sc k=>dA st [k] ms λls ms st=>(match ls with|[l]=>Pk st t (.sc l) λst=>ol st r ms K|_=>none)
  | .ag ks=>dA st ks ms λls ms st=>Pk st t (.ag ls) λst=>ol st r ms K
  | .box ks=>bif BF t&&!bU st.dg (posOf t) then none else dA st ks ms λls ms st=>Pk st t (.box ls) λst=>ol st r ms K
  | .mp s=>bif BF t then none else gC ms λm ms=>gL m λes=>Pk st t (.box [.mp s es]) λst=>ol st r ms K
  | .pt root off=>Ym ((t,.pt root off)::r) ms st K
end
def dZ:List (Nat×OK)->List Nat
 |[]=>[]
 |(t,_)::r=>t::dZ r
def cH:List (Nat×OK)->List Nat
 |[]=>[]
 |(_,.sc k)::r=>bL [k]++cH r
 |(_,.ag ks)::r=>bL ks++cH r
 |(_,.box ks)::r=>bL ks++cH r
 |(_,.mp _)::r=>cH r
 |(_,.pt _ _)::r=>cH r
def minus:List Nat->List Nat->List Nat
 |[],_=>[]
 |k::r,l=>bif bU l k then minus r l else k::minus r l
def xt {R:Type}(ps:List Nat):List aR->(List aR->Option R)->Option R
 |[],K=>K []
 |l::r,K=>(match l with
  | .own g=>bif bU ps g then xt ps r λr=>K (.own g::r) else xt ps r λr=>K (.un::r)
  |l=>xt ps r λr=>K (l::r))
def Pl {R:Type}(ps:List Nat)(s:Slot)(K:Slot->Option R):Option R:=match s with
 | .sc (.own g)=>bif bU ps g then K (.sc (.own g)) else K (.sc .un)
 | .ag cs=>xt ps cs λcs=>K (.ag cs)
 | .box cs=>xt ps cs λcs=>K (.box cs)
 |s=>K s
def nFr {R:Type}(ps:List Nat):Fr->(Fr->Option R)->Option R
 |[],K=>K []
 |(k,s)::r,K=>Pl ps s λs=>nFr ps r λr=>K ((k,s)::r)
def Lq {R:Type}(ks fs qs:List Nat):List (Nat×oR)->(List (Nat×oR)->Option R)->Option R
 |[],K=>K []
 |(k,o)::r,K=>bif bU ks k then Lq ks fs qs r λr=>(bif bU fs k&&!bU qs k then K ((k,⟨o.ty,true,o.xs⟩)::r) else K ((k,o)::r)) else Lq ks fs qs r K
def fa (c:Ctx):List (Nat×OK)->Bool
 |[]=>true
 |(_,.sc k)::r=>bif je c [k] then fa c r else false
 |(_,.ag ks)::r=>bif je c ks then fa c r else false
 |(_,.box ks)::r=>bif je c ks then fa c r else false
 |(_,.mp _)::r=>fa c r
 |(_,.pt _ _)::r=>fa c r
def R5 {R:Type}(c:Ctx)(h:sv)(st:St)(K:St->St->Option R):Option R:=match st with
 |⟨p,q,r,m⟩=>
  bif !fa c h.all||meets (dZ h.all) p||meets (cH h.all) q||meets (dZ h.all) h.dg||meets (cH h.all) h.cZ then none else
  match app h.dg p,app h.cZ q with
  |some p',some q'=>
   pick h.dg r λrp=>nFr h.cZ rp λrp=>pick (dZ h.all) r λro=>
   Lq h.cZ h.eU q m λmp=>Lq (cH h.all) h.eU q m λmo=>
   (match app rp ro,app mp mo with
    |some r1,some m1=>K ⟨p',q',r1,m1⟩ ⟨p',q',rp,mp⟩
    |_,_=>none)
  |_,_=>none
def HR {R:Type}(c:Ctx)(h:sv)(st:St)(K:St->St->Option R):Option R:=R5 c h st λdH eP=>HM (λt=>bU h.dg t||bU (dZ h.all) t) st.fr st.fr dH.fr λfr=>K ⟨dH.dg,dH.cZ,fr,dH.bh⟩ eP
def ER (st eP:St):St:=match st,eP with|⟨p,q,_,_⟩,⟨_,_,r,m⟩=>⟨p,q,r,m⟩
def guarded:List Oper->Bool
 |[]=>false
 |o::r=>match o.guard with|some _=>true|none=>guarded r
def sC:List Oper->List Nat
 |[]=>[]
 |o::r=>match o.op,o.dst with
  | .alloc _,some d=>d::sC r
  | .box _ _,some d=>d::sC r
  | .makeMap _ _,some d=>d::sC r
  | .range _ _,some d=>d::sC r
  |_,_=>sC r
def ES {R:Type}(ds:List Nat)(st:St)(K:St->Option R):Option R:=match st with|⟨p,q,r,m⟩=>wa ds r λr1=>HM (λt=>!bU ds t) r r r1 λr=>K ⟨p,q,r,m⟩
def gd:Code->Option Nat
 | .region id _ _=>some id
 | .seq a b=>match gd a with|some n=>some n|none=>gd b
 | .cond _ a b=>match gd a with|some n=>some n|none=>gd b
 | .block _ b| .loop b| .scope b=>gd b
 |_=>none
def uni:List Nat->List Nat->List Nat
 |[],l=>l
 |k::r,l=>bif bU l k then uni r l else k::uni r l
def lU:Code->List Nat
 | .skip| .region _ _ _=>[0]
 | .seq a b=>bif bU (lU a) 0 then uni (minus (lU a) [0]) (lU b) else lU a
 | .cond _ a b=>uni (lU a) (lU b)
 | .block id b=>bif bU (lU b) (id+2) then uni (minus (lU b) [0,id+2]) [0] else lU b
 | .loop b=>minus (lU b) [0]
 | .exit id=>[id+2]
 | .ret=>[1]
 |_=>[]
def uy (o:Oper):Bool:=match o.op with
 | .load _ _=>true
 | .lookup _ _ _ false=>true
 |_=>false
def oL (c:Ctx)(o:Oper):Bool:=uy o||(match o.op with
 | .convert y _ _=>isLT c y
 |_=>false)
def acv (o:Oper):Option Nat:=match o.op with
 | .lookup t _ _ false=>some t
 |_=>none
def agM (o:Oper):Option Nat:=match o.op with
 | .mapEntry t _ _=>some t
 |_=>none
def BZ (o p:Oper):Bool:=match acv o,agM p with
 |some t,some t'=>c9 t t'
 |_,_=>false
def uz (o:Oper):Bool:=match o.op with
 | .move _| .assign _| .nilCheck _| .pick _ _ _| .build _ _| .load _ _| .binOp _ _ _ _ _| .unOp _ _ _| .convert _ _ _| .makeFunc _ _ _| .slice _ _ _ _ _| .fieldAddr _ _ _| .field _ _ _| .indexAddr _ _ _| .index _ _ _| .extract _ _| .lookup _ _ _ false=>true
 | .call cl=>(match cl.callee with| .builtin .len| .builtin .min| .builtin .max| .builtin .real| .builtin .imag| .builtin .complex=>true|_=>false)
 |_=>false
def GJ (c:Ctx)(o:Oper):Bool:=match o.op with
 | .alloc _| .box _ _| .buildSlice _ _ _| .makeSlice _ _ _=>true
 | .call cl=>(match cl.callee with| .value (.func f)=>!c.fj (c.key f)| .value _=>(match c.dyn with|[]=>true|_::_=>false)|_=>false)
 |_=>false
def R6:Op->List Operand
 | .build _ ps=>ps.toList.map (·.2)
 | .buildSlice _ _ ps=>ps.toList.map (·.2)
 | .makeFunc _ first captured=>first.toList++captured.toList
 | .slice _ x l h m=>x::(l.toList++(h.toList++m.toList))
 | .call c=>(match c.callee with| .value f=>[f]| .invoke r _=>[r]| .builtin _=>[])++c.args.toList
 |op=>op.operands.toList
def Pm:List Operand->List Nat
 |[]=>[]
 | .tmp t::r=>t::Pm r
 |_::r=>Pm r
def M4 (ops:List Oper)(o:Oper):List Nat:=Pm (R6 o.op)++(match o.guard with|some (g,_)=>(match ops[g]? with|some p=>p.dst.toList|none=>[])|none=>[])
def M5 (ops:List Oper)(x y:Oper):Bool:=(match x.dst with|some d=>!bU (M4 ops y) d&&(match y.dst with|some d'=>!c9 d' d|none=>true)|none=>true)&& (match y.dst with|some d=>!bU (M4 ops x) d|none=>true)
def HS (e:Edge):Bool:=match e.ground with
 | .textOnly _=>false
 | .gcOnly _=>false
 |_=>true
def Ck (o:Oper)(p:Nat->Bool):Bool:=o.after.toList.any λe=>HS e&&p e.on
def ajD (ops:List Oper):Bool:=ops.all λo=>match o.op with| .select _ _=>false|_=>true
def Yn (c:Ctx)(o:Oper):Bool:=uz o||GJ c o
def tc (c:Ctx)(ops:List Oper)(o:Oper):List Nat->List Nat->Bool
 |_,[]=>true
 |D,y::r=>match ops[y]? with
  |some p=>bif Ck p (bU D) then tc c ops o (y::D) r else M5 ops o p&&(!oL c o||Yn c p||still c o||BZ o p)&&tc c ops o D r
  |none=>false
def Pn (o:Oper):Bool:=match o.op,o.dst,o.guard with
 | .alloc _,some _,none=>o.after.toList.all λe=>!HS e
 |_,_,_=>false
def ajE (c:Ctx)(o:Oper):Bool:=match o.op with
 | .alloc t=>(match c.tv t with|some _=>true|none=>false)
 |_=>false
def ajF (ops:List Oper)(i:Nat):Bool:=match ops[i]? with
 |some o=>Pn o
 |none=>false
def wc (c:Ctx)(ops:List Oper):List Nat->List Nat->Bool
 |_,[]=>true
 |pre,x::rest=>(match ops[x]? with
  |some o=>(o.after.toList.all λe=>!HS e||bU pre e.on)&&!bU pre x&&!bU rest x&& (bif uz o&&!oS c o then tc c ops o [x] rest
    else (rest.all λy=>match ops[y]? with
     |some p=>bif Pn p then M5 ops p o&&ajE c p else Ck p (λi=>c9 i x||(bU rest i&&!ajF ops i))
     |none=>false))&&wc c ops (x::pre) rest
  |none=>false)
def Cl (c:Ctx)(ops:Array Oper)(ord:List Nat):Bool:=ajD ops.toList&&c9 ord.length ops.toList.length&&(List.range ops.toList.length).all (bU ord)&&wc c ops.toList [] ord
def Hi {R:Type}(c:Ctx)(id:Nat)(ops l:List Oper)(st:St)(K:St->Option R):Option R:=bif guarded ops then
  HR c (c.HN id) st λdH eP=>bd (ES (sC ops) dH λdH=>BG c ops l dH λst=>oh st [] ((c.HN id).ex 0) some) λvs=>ol (ER st eP) ((c.HN id).ex 0) vs K
 else ES (sC ops) st λst=>BG c ops l st K
def qF (ops:List Oper):List Nat->Option (List Oper)
 |[]=>some []
 |i::r=>match ops[i]?,qF ops r with
  |some o,some l=>some (o::l)
  |_,_=>none
def nk {S:Type}(step:S->MV->Option (Bool×S)):S->List MV->Option (List MV×S)
 |s,[]=>some ([],s)
 |s,x::xs=>match step s x with
  |some (b,s1)=>(match nk step s1 xs with|some (ys,s2)=>some (bif b then ys else x::ys,s2)|none=>none)
  |none=>none
def Yo (g:Nat->List MV->Option MV)(k:Nat)(cE:List MV):Unit->MV->Option (Bool×Unit):=λ_ x=>match g k (x::cE) with
 |some (.b b)=>some (b,())
 |_=>none
def Lr (g:Nat->List MV->Option MV)(k:Nat)(cE:List MV):List MV->MV->Option (Bool×List MV):=λls x=>match g k (x::(cE++[.cell (.func 0 ls)])) with
 |some (.fb (.b b) outs)=>some (b,outs)
 |_=>none
def R7:MV->Bool
 | .agg _=>true
 |_=>false
def Yp {R:Type}(c:Ctx)(h f:Nat)(cE:List Operand)(x:Operand)(o1 o2:Oper)(st:St)(K:St->Option R):Option R:=
 let fin (ys:List MV) (st:St):Option R:=lS st (o2.dst.getD 0) ⟨c.sw (c.key h),false,ys⟩ λst=>bV c st o2.dst (.sc (.own (o2.dst.getD 0))) λst=>bV c st o1.dst (.sc .un) K;match c.sig (c.key f) with
 |none=>bif c.fj (c.key f) then none else C1 c st cE λms st=>C2 c (c.key h) st (bw c st x) λm st=>gF m λxs=>bP (xs.all R7)<|bd (nk (Yo c.g (c.key f) ms) () xs) λp=>fin p.1 st
 |some sg=>C1 c st cE.dropLast λms st=>C2 c (c.key h) st (bw c st x) λm st=>gF m λxs=>bP (xs.all R7)<| (match cE.getLast? with
  |some y=>(match bw c st y with
   | .ptr root 0=>(match au st.fr root with
    | .box cs=>bif fR cs||bU st.dg root||!je c sg.2||!c9 sg.1 (ms.length+1)||!c.fj (c.key f) then none else
     kq st [] sg.2 cs λls ps=>bd (nk (Lr c.g (c.key f) ms) ls xs) λp=>Lp st root sg.2 ps p.2 λst=>fin p.1 st
    |_=>none)
   |_=>none)
  |none=>none)
def C3 (c:Ctx):List Oper->List Oper->Option (List Oper×Nat×List Operand×Nat×Operand×Oper×Oper×List Oper)
 |pre,o1::o2::r=>match o1.op,o2.op with
  | .makeFunc (.func f) first cE,.call cl=>(match cl.callee,cl.args.toList,first.toList,o1.dst with
   | .value (.func h),[.tmp x,.tmp y],[],some d=>bif c.MY h&&c9 y d&&!c9 x d&&!abq c.n d&&!c9 (o2.dst.getD d) d then some (pre.reverse,f,cE.toList,h,.tmp x,o1,o2,r) else C3 c (o1::pre) (o2::r)
   |_,_,_,_=>C3 c (o1::pre) (o2::r))
  |_,_=>C3 c (o1::pre) (o2::r)
 |_,_=>none
def HT:List Oper->Bool
 |[]=>true
 |o::r=>(match o.guard with|none=>HT r|some _=>false)
def Yq {R:Type}(c:Ctx)(id:Nat)(ops:List Oper)(st:St)(K:St->Option R):Option R:=match C3 c [] ops with
 |some (pre,f,cE,h,x,o1,o2,post)=>bif HT ops then ES (sC ops) st λst=>BG c ops pre st λst=>Yp c h f cE x o1 o2 st λst=>BG c ops post st K else none
 |none=>Hi c id ops ops st K
def fzK {R:Type}(c:Ctx)(ts:List Nat)(st:St)(K:St->Option R):Option R:=match ts with
 |[]=>K st
 |ts=>C1 c st (ts.map .tmp) λ_ st=>K st
def KG (ops:Array Oper)(A B:Nat):Array Oper:=ops.modify B λo=>{o with after:=o.after.push ⟨A,.data⟩}
open Classical in
def both {R:Type}(x y:Option R):Option R:=if x=y then x else none
def Yr (n:Nat)(l:List Nat):Option (List Nat×List Nat×Nat×Nat):=match l.drop (l.length-2) with
 |[A,B]=>bif c9 A B||(abq n A||abq n B) then none else some (l.take n,(l.drop n).take (l.length-2-n),A,B)
 |_=>none
def Uk {R:Type}(c:Ctx)(ops:Array Oper)(l:List Nat)(st:St)(K:St->Option R):Option R:=bif Cl c ops l then (match qF ops.toList l with
 |some l=>BG c ops.toList l st K
 |none=>none) else none
def Po {R:Type}(c:Ctx)(st:St)(K:St->Option R):Nat->Array Oper->List Nat->Option R
 |0,_,_=>none
 |k+1,ops,l=>bif c9 l.length ops.toList.length then Uk c ops l st K else (match Yr ops.toList.length l with
  |some (o1,o2,A,B)=>both (Uk c (KG ops A B) o1 st K) (Po c st K k (KG ops B A) o2)
  |none=>none)
def ajG {R:Type}(c:Ctx)(ops:Array Oper)(ord:List Nat)(st:St)(K:St->Option R):Option R:=bif guarded ops.toList then none else ES (sC ops.toList) st λst=>Po c st K ord.length ops ord
def Ul {R:Type}(c:Ctx)(id:Nat)(ops:Array Oper)(draw:Bool)(st:St)(K:St->Option R):Option R:=fzK c (c.fz id) st λst=>bif draw then (bif !c9 (c.ord id).length ops.toList.length then ajG c ops (c.ord id) st K else bif Cl c ops (c.ord id) then (match qF ops.toList (c.ord id) with|some l=>Hi c id ops.toList l st K|none=>none) else none)
 else Yq c id ops.toList st K
def pR (c:Ctx):Code->(R:Type)->St->(Nat->St->Option R)->Option R
 | .skip,_,st,K=>K 0 st
 | .region id ops d,_,st,K=>Ul c id ops d st λst=>K 0 st
 | .seq a b,R,st,K=>pR c a R st λe st=>bif c9 e 0 then pR c b R st K else K e st
 | .cond x a b,R,st,K=>(match bw c st x with
  | .sc (.p (.b v))=>
   bif bU (lU a) 0&&bU (lU b) 0 then
    HR c (c.Hg ((gd (.seq a b)).getD 0)) st λdH eP=>
    bd (aW v (pR c a (Nat×List MV) dH λe st=>oh st [] ((c.Hg ((gd (.seq a b)).getD 0)).ex e) λvs=>some (e,vs)) (pR c b (Nat×List MV) dH λe st=>oh st [] ((c.Hg ((gd (.seq a b)).getD 0)).ex e) λvs=>some (e,vs))) λr=>KD (uni (lU a) (lU b)) r.1 λe=>ol (ER st eP) ((c.Hg ((gd (.seq a b)).getD 0)).ex e) r.2 λst=>K e st
   else aW v (pR c a R st K) (pR c b R st K)
  |_=>none)
 | .block id b,R,st,K=>pR c b R st λe st=>bif c9 e (id+2) then K 0 st else K e st
 | .loop b,_,st,K=>
  HR c (c.FO ((gd b).getD 0)) st λdH eP=>oh dH [] (c.FO ((gd b).getD 0)).outs λvs=>
   bd (Loop (λms=>ol eP (c.FO ((gd b).getD 0)).outs ms λst=>pR c b (Sum (List MV) (Nat×List MV)) st λe st=>
    bif c9 e 0 then oh st [] (c.FO ((gd b).getD 0)).outs λvs=>some (.inl vs) else oh st [] ((c.FO ((gd b).getD 0)).ex e) λvs=>some (.inr (e,vs))) vs)
    λr=>KD (minus (lU b) [0]) r.1 λe=>ol (ER st eP) ((c.FO ((gd b).getD 0)).ex e) r.2 λst=>K e st
 | .exit id,_,st,K=>K (id+2) st
 | .ret,_,st,K=>K 1 st
 |_,_,_,_=>none
def HU {R:Type}(c:Ctx):List Nat->Nat->List MV->(Fr->List MV->Option R)->Option R
 |[],_,ms,K=>K [] ms
 |t::ts,n,ms,K=>match c.tv t with
  |some I=>gC ms λm r=>FP I m λs=>HU c ts (n+1) r λfr ms=>K ((n,s)::fr) ms
  |none=>none
def R8 {R:Type}:List (List Kd)->Nat->List MV->(Fr->Option R)->Option R
 |[],_,ms,K=>gN ms (K [])
 |ks::r,n,ms,K=>gC ms λm ms=>gP m λcs=>uM ks cs λcs=>R8 r (n+1) ms λfr=>K ((n,.zz cs)::fr)
def ET {R:Type}(c:Ctx)(st:St)(fresh:Option Nat):List ResultVar->(List MV->Option R)->Option R
 |[],K=>K []
 |r::rs,K=>
  let go (s:Slot):Option R:=match fresh with
   |some ty=>(match s with
    | .sc (.own f)=>(match aU st.bh f with|some o=>bif o.eU||!c9 o.ty ty then none else ET c st fresh rs λms=>K (.fresh o.xs::ms)|none=>none)
    | .sc .nil=>ET c st fresh rs λms=>K (.fresh []::ms)
    |_=>none)
   |none=>mX st s λm st=>ET c st fresh rs λms=>K (m::ms)
  match r with
  | .tmp t=>go (au st.fr t)
  | .cell a t=>match c.tv t,au st.fr a with
   |some I,.box cs=>bif fR cs||BF a then none else kQ I cs 0 λs=>go s
   |_,_=>none
def VR {R:Type}(c:Ctx)(st:St):List ResultVar->(List MV->St->Option R)->Option R
 |[],K=>K [] st
 |r::rs,K=>(match r with
  | .tmp t=>mX st (au st.fr t) λm st=>VR c st rs λms st=>K (m::ms) st
  | .cell a t=>(match c.tv t,au st.fr a with
   |some I,.box cs=>bif fR cs||BF a then none else kQ I cs 0 λs=>mX st s λm st=>VR c st rs λms st=>K (m::ms) st
   |_,_=>none))
def ajH:List MV->MV
 |[m]=>m
 |ms=> .cg ms
def Ls (c:Ctx)(cE:List (List Kd))(pos:Nat)(ks:List LK)(f:Func)(args:List MV):Option MV:=match f.body,args[pos]? with
 |some b,some (.cell (.func off ls))=>bif !je c ks||!abq pos 999 then none else
  HU c f.params.toList 0 (args.set pos (.rp [])) λfr ms=>R8 cE f.params.size ms λqd=>
   (match app fr qd with
   |some fr=>dA ⟨[],[],[],[]⟩ ks ls λcs rest AW=>gN rest<| pR c b MV ⟨[pos],[],(1000000+off *1000+pos,.box cs)::fr,AW.bh⟩ λe st=>
     bif abq e 1 then VR c st f.results.toList λms st=>(match au st.fr (1000000+off *1000+pos) with
      | .box cs=>bif fR cs then none else kq st [] ks cs λouts _=>some (.fb (ajH ms) outs)
      |_=>none) else none
   |none=>none)
 |_,_=>none
def HV (c:Ctx)(cE:List (List Kd))(fresh:Option Nat)(f:Func)(args:List MV):Option MV:=match f.body with
 |some b=>HU c f.params.toList 0 args λfr ms=>R8 cE f.params.size ms λqd=>
  match app fr qd with
  |some fr=>pR c b MV ⟨[],[],fr,[]⟩ λe st=>bif abq e 1 then ET c st fresh f.results.toList λms=>(match ms with|[m]=>some m|ms=>some (.cg ms)) else none
  |none=>none
 |none=>none
end
end Dn
/-
  What abstract values and slots say of Go's memory. Conditions: none.
-/
namespace Dn
open Go
theorem nF (w:World)(o:Obj):(w.alloc o).heap[w.heap.size]? =some o:=by show (w.heap.push o)[w.heap.size]? =some o;simp
theorem AX (w:World)(o:Obj)(i:Nat)(h:i<w.heap.size):(w.alloc o).heap[i]? =w.heap[i]? :=by show (w.heap.push o)[i]? =w.heap[i]?;rw [Array.getElem?_push,if_neg (Nat.ne_of_lt h)]
def MV.one:MV->Bool
 | .h _| .agg _| .cg _| .fresh _| .cell _| .fb _ _=>false
 |_=>true
abbrev Ph:=Nat->Nat->Option Value
section
variable (key:Nat->Nat) (φ:Ph)
mutual
inductive ni:List Value->MV->Prop
 |b (x:Bool):ni [.bool x] (.b x)
 |i (k:IntKind) (n:Int):ni [.int k n] (.i k n)
 |s (bs:ByteArray):ni [.string bs] (.s bs.data.toList)
 |h (x:lR):ni (x.l.map λb=> .int .u8 (b.toNat:Int)) (.h x)
 |raw (v:Value):v.oneCell'=true->ni [v] (.raw v)
 |list (a:Option Addr) (cap:Nat) (xs:List MV) (bG off OY:Nat) (f:Nat->List Value): xs.length<=cap->(0<xs.length->a=some ⟨bG,off,none⟩)->(∀i,i<xs.length->(f i).length=OY)-> (∀i j,i<xs.length->j<OY->φ bG (off+i *OY+j)=(f i)[j]?)-> (∀(i:Nat) (h:i<xs.length),ni (f i) xs[i])->ni [.slice a xs.length cap] (.list xs)
 |agg (vs:List Value) (ms:List MV):jk vs ms->ni vs (.agg ms)
 |func (f k:Nat) (cap:Array Value) (ms:List MV):key f=k->jk cap.toList ms->(∀m∈ms,m.one=true)->ni [.func (.func f) #[] cap] (.func k ms)
 |rp (bG off:Nat) (vs:List Value) (ms:List MV):jk vs ms->(∀j,j<vs.length->φ bG (off+j)=vs[j]?)->ni [.pointer (some ⟨bG,off,none⟩)] (.rp ms)
inductive jk:List Value->List MV->Prop
 |nil:jk [] []
 |cons (v:List Value) (m:MV) (vs:List Value) (ms:List MV):ni v m->jk vs ms->jk (v++vs) (m::ms)
end
end
def sD (φ φ':Ph):Prop:= ∀b o v,φ b o=some v->φ' b o=some v
theorem sD.refl (φ:Ph):sD φ φ:=λ_ _ _ h=>h
theorem sD.AY {φ φ':Ph}(h:sD φ φ'){b j:Nat}{cs:List Value}(e:φ b j=cs[j]?)(hj:j<cs.length):φ' b j=cs[j]? :=by rw [By hj] at e⊢;exact h _ _ _ e
theorem sD.trans {φ φ' φ'':Ph}(h:sD φ φ') (h':sD φ' φ''):sD φ φ'':=λb o v e=>h' b o v (h b o v e)
section
variable {key:Nat->Nat} {φ φ':Ph}(hle:sD φ φ')
include hle
theorem M6 {b o:Nat}{vs:List Value}{j:Nat}(hj:j<vs.length)(h:φ b o=vs[j]?):φ' b o=vs[j]? :=by rw [By hj] at h⊢;exact hle _ _ _ h
mutual
theorem ni.mono {vs:List Value}{m:MV}:ni key φ vs m->ni key φ' vs m
 | .b x=> .b x
 | .i k n=> .i k n
 | .s bs=> .s bs
 | .h x=> .h x
 | .raw v h=> .raw v h
 | .list a cap xs bG off OY f h1 h2 h3 h4 h5=> .list a cap xs bG off OY f h1 h2 h3 (λi j hi hj=>M6 hle (by rw [h3 i hi];exact hj) (h4 i j hi hj)) (λi hi=>(h5 i hi).mono)
 | .agg vs ms h=> .agg vs ms h.mono
 | .func f k cap ms h1 h2 h3=> .func f k cap ms h1 h2.mono h3
 | .rp bG off vs ms h1 h2=> .rp bG off vs ms h1.mono (λj hj=>M6 hle hj (h2 j hj))
theorem jk.mono {vs:List Value}{ms:List MV}:jk key φ vs ms->jk key φ' vs ms
 | .nil=> .nil
 | .cons v m vs ms h1 h2=> .cons v m vs ms h1.mono h2.mono
end
end
section
variable {key:Nat->Nat} {φ:Ph}
mutual
theorem ni.cells {vs:List Value}{m:MV}:ni key φ vs m-> ∀v∈vs,v.oneCell'=true
 | .b x=>by simp [aaq]
 | .i k n=>by simp [aaq]
 | .s bs=>by simp [aaq]
 | .h x=>by intro v hv;obtain ⟨b,_,rfl⟩:=adU.1 hv;rfl
 | .raw v h=>by simpa using h
 | .list .. =>by simp [aaq]
 | .agg vs ms h=>h.cells
 | .func .. =>by simp [aaq]
 | .rp .. =>by simp [aaq]
theorem jk.cells {vs:List Value}{ms:List MV}:jk key φ vs ms-> ∀v∈vs,v.oneCell'=true
 | .nil=>by simp
 | .cons v m vs ms h1 h2=>by
  intro x hx;rcases aed.1 hx with hx|hx
  ·exact h1.cells x hx
  ·exact h2.cells x hx
end
end
section
variable {key:Nat->Nat} {φ:Ph}
mutual
theorem ni.width {vs:List Value}{m:MV}:ni key φ vs m->vs.length=m.w
 | .b x=>by simp [MV.w]
 | .i k n=>by simp [MV.w]
 | .s bs=>by simp [MV.w]
 | .h x=>by simp [MV.w,x.h]
 | .raw v h=>by simp [MV.w]
 | .list .. =>by simp [MV.w]
 | .agg vs ms h=>by rw [h.width];simp [MV.w]
 | .func .. =>by simp [MV.w]
 | .rp .. =>by simp [MV.w]
theorem jk.width {vs:List Value}{ms:List MV}:jk key φ vs ms->vs.length=MV.wl ms
 | .nil=>by simp [MV.wl]
 | .cons v m vs ms h1 h2=>by simp [MV.wl,h1.width,h2.width]
end
end
theorem ni.one {key:Nat->Nat} {φ:Ph}{vs:List Value}{m:MV}(h:ni key φ vs m)(hm:m.one=true): ∃v,vs=[v]/\v.oneCell'=true:=by have hc:=h.cells;cases h<;>simp [MV.one] at hm<;>exact ⟨_,rfl,hc _ (by simp)⟩
def gf (key:Nat->Nat) (φ:Ph)(v:Value):MV->Prop
 | .h x=>v= .agg (x.l.map λb=>aer .u8 (b.toNat:Int)).toArray
 | .agg ms=> ∃arr,v= .agg arr/\jk key φ arr.toList ms
 |m=>m.one=true/\ni key φ [v] m
theorem gf.mono {key:Nat->Nat} {φ φ':Ph}(hle:sD φ φ'){v:Value}{m:MV}(h:gf key φ v m):gf key φ' v m:=by cases m<;>simp only [gf] at h⊢ <;>first|exact h|exact ⟨h.1,h.2.mono hle⟩|(obtain ⟨arr,h1,h2⟩:=h;exact ⟨arr,h1,h2.mono hle⟩)
structure Env where
 key:Nat->Nat
 φ:Ph
 E:Nat->Value
 B:Nat->Nat
 m:List (Nat×oR)
def bR (x:lR):List Value:=x.l.map λb=>aer .u8 (b.toNat:Int)
theorem dL (x:lR):(bR x).length=32:=by simp [bR,x.h]
def bp (e:Env)(vs:List Value):aR->Prop
 | .un=> ∃v,vs=[v]/\v.oneCell'=true
 | .p x=>x.one=true/\ni e.key e.φ vs x
 | .hs x=>vs=bR x
 | .nil=>vs=[.slice none 0 0]
 | .mp _ _=>False
 | .own f=> ∃v,vs=[v]/\v.oneCell'=true/\(∀o,aU e.m f=some o->v=e.E f)
def aJ (e:Env):List Value->List aR->Prop
 |vs,[]=>vs=[]
 |vs,l::ls=> ∃v r,vs=v++r/\bp e v l/\aJ e r ls
def uN:aR->Bool
 | .p _| .hs _=>true
 |_=>false
def jS:List aR->Bool
 |[]=>true
 |l::r=>uN l&&jS r
def HW (st:Bool)(x:MV)(cs:List aR):Prop:=(∃ms,ea cs=some ms/\C0 st ms=some x)/\ ∀m,aR.p m∈cs->m.one=true
def C4:Slot->Bool
 | .sc l=>uN l
 | .ag cs=>jS cs
 |_=>false
mutual
def af (e:Env)(v:Value):Slot->Prop
 | .skip=>v=undef
 | .sc l=>match l with
  | .un=>True
  | .hs x=>v= .agg (bR x).toArray
  |l=>bp e [v] l
 | .ag cs=> ∃arr,v= .agg arr/\aJ e arr.toList cs
 | .cg vs=> ∃arr,v= .tuple arr/\kR e arr.toList vs
 | .box _=>False
 | .zz cs=> ∃bG o vs,v= .pointer (some ⟨bG,o,none⟩)/\aJ e vs cs/\jS cs=true/\(∀j,j<vs.length->e.φ bG (o+j)=vs[j]?)
 | .ptr r o=>v= .pointer (some ⟨e.B r,o,none⟩)
 | .zA r=>v= .map (some (e.B r))
 | .rp cs off=> ∃bG o vs,v= .pointer (some ⟨bG,o+off,none⟩)/\aJ e vs cs/\jS cs=true/\(∀j,j<vs.length->e.φ bG (o+j)=vs[j]?)
 | .hp r o i=>v= .pointer (some ⟨e.B r,o+i,none⟩)/\i<32
 | .ep f i off st cs=> ∀o,aU e.m f=some o-> ∃bG cap,e.E f= .slice (some ⟨bG,0,none⟩) o.xs.length cap/\(∃x,o.xs[i]? =some x/\HW st x cs)/\ v= .pointer (some ⟨bG,i *zB cs+off,none⟩)
def kR (e:Env):List Value->List Slot->Prop
 |vs,[]=>vs=[]
 |vs,s::ss=> ∃v r,vs=v::r/\af e v s/\C4 s=true/\kR e r ss
end
def Ys:aR->List Value->Bool
 | .p (.b x),[.bool y]=>x==y
 | .p (.i k n),[.int k' n']=>decide (k=k')&&decide (n=n')
 | .p (.s l),[.string s]=>decide (l=s.data.toList)
 | .p (.raw v),[w]=>match v,w with
  | .nilFunc,.nilFunc=>true
  | .nilIface,.nilIface=>true
  | .pointer none,.pointer none=>true
  |_,_=>false
 | .nil,[.slice none 0 0]=>true
 | .un,[v]=>v.oneCell'
 | .hs x,vs=>(vs.length==32)&&(vs.zip x.l).all λp=>match p.1 with| .int .u8 n=>decide (n=(p.2.toNat:Int))|_=>false
 |_,_=>false
def uO:List aR->List Value->Bool
 |[],vs=>vs.isEmpty
 |l::ls,vs=>Ys l (vs.take l.w)&&uO ls (vs.drop l.w)&&decide (l.w<=vs.length)
end Dn
/-
  How an abstract state stands to a frame and a memory; laws of frames and leaves. Conditions: none.
-/
namespace Dn
open Go
def cM:Fr->Nat->Slot->Fr
 |[],t,v=>[(t,v)]
 |(k,s)::r,t,v=>bif c9 k t then (k,v)::r else (k,s)::cM r t v
def cG (ds:List Nat):Fr->Fr
 |[]=>[]
 |(k,s)::r=>bif dW s||bU ds k then cG ds r else (k,s)::cG ds r
def oT (ks:List Nat):Fr->Fr
 |[]=>[]
 |(k,s)::r=>bif bU ks k&&!dW s then (k,s)::oT ks r else oT ks r
def cq:List (Nat×oR)->Nat->oR->List (Nat×oR)
 |[],t,v=>[(t,v)]
 |(k,s)::r,t,v=>bif c9 k t then (k,v)::r else (k,s)::cq r t v
def OZ (f:Nat):aR->aR
 | .own g=>bif c9 g f then .un else .own g
 |l=>l
def B0 (f:Nat):Slot->Slot
 | .sc l=> .sc (OZ f l)
 | .ag cs=> .ag (cs.map (OZ f))
 | .box cs=> .box (cs.map (OZ f))
 | .ep g i o b cs=>bif c9 g f then .sc .un else .ep g i o b cs
 |s=>s
def lO (f:Nat)(r:Fr):Fr:=r.map λp=>(p.1,B0 f p.2)
def zE (f:Nat)(r:Fr):Fr:=r.map λp=>(p.1,match p.2 with
 | .ep g i o b cs=>bif c9 g f then .sc .un else .ep g i o b cs
 |s=>s)
def R9 (ps:List Nat):aR->aR
 | .own g=>bif bU ps g then .own g else .un
 |l=>l
def KA (ps:List Nat):Slot->Slot
 | .sc l=> .sc (R9 ps l)
 | .ag cs=> .ag (cs.map (R9 ps))
 | .box cs=> .box (cs.map (R9 ps))
 |s=>s
def Sa (ps:List Nat)(r:Fr):Fr:=r.map λp=>(p.1,KA ps p.2)
def td (ks fs qs:List Nat):List (Nat×oR)->List (Nat×oR)
 |[]=>[]
 |(k,o)::r=>bif bU ks k then (bif bU fs k&&!bU qs k then (k,⟨o.ty,true,o.xs⟩) else (k,o))::td ks fs qs r else td ks fs qs r
section
variable {R:Type}
theorem force_eq (s:Slot)(K:Slot->Option R):force s K=K s:=by cases s<;>rfl
theorem nG (r:Fr)(t:Nat)(s:Slot)(K:Fr->Option R):KE r t s K=K (cM r t s):=by
 induction r generalizing K with
 |nil=>rfl
 |cons p r ih=>obtain ⟨k,x⟩:=p;simp only [KE,cM];cases c9 k t<;>simp [ih]
theorem FQ (ds:List Nat)(r:Fr)(K:Fr->Option R):wa ds r K=K (cG ds r):=by
 induction r generalizing K with
 |nil=>rfl
 |cons p r ih=>obtain ⟨k,x⟩:=p;simp only [wa,cG];cases dW x||bU ds k<;>simp [ih]
theorem acw (ks:List Nat)(r:Fr)(K:Fr->Option R):pick ks r K=K (oT ks r):=by
 induction r generalizing K with
 |nil=>rfl
 |cons p r ih=>obtain ⟨k,x⟩:=p;simp only [pick,oT];cases bU ks k&&!dW x<;>simp [ih]
theorem oU (r:List (Nat×oR))(t:Nat)(s:oR)(K:List (Nat×oR)->Option R):RY r t s K=K (cq r t s):=by
 induction r generalizing K with
 |nil=>rfl
 |cons p r ih=>obtain ⟨k,x⟩:=p;simp only [RY,cq];cases c9 k t<;>simp [ih]
theorem HX (f:Nat)(cs:List aR)(K:List aR->Option R):xq f cs K=K (cs.map (OZ f)):=by
 induction cs generalizing K with
 |nil=>rfl
 |cons l r ih=>cases l<;>simp only [xq,IT,OZ,ih];rename_i g;cases c9 g f<;>rfl
theorem Yt (f:Nat)(s:Slot)(K:Slot->Option R):Ln f s K=K (B0 f s):=by
 cases s with
 |sc l=>cases l<;>simp only [Ln,B0,OZ];rename_i g;cases c9 g f<;>rfl
 |ag cs=>simp only [Ln,B0,HX]
 |box cs=>simp only [Ln,B0,HX]
 |ep g i o b cs=>simp only [Ln,B0];cases c9 g f<;>rfl
 |_=>rfl
theorem Yu (f:Nat)(r:Fr)(K:Fr->Option R):kFr f r K=K (lO f r):=by
 induction r generalizing K with
 |nil=>rfl
 |cons p r ih=>obtain ⟨k,x⟩:=p;simp only [kFr,Yt,ih,lO,IT]
theorem agN (f:Nat)(r:Fr)(K:Fr->Option R):kEp f r K=K (zE f r):=by
 induction r generalizing K with
 |nil=>rfl
 |cons p r ih=>obtain ⟨k,x⟩:=p;cases x<;>simp only [kEp,ih,zE,IT];rename_i g i o b cs;cases c9 g f<;>rfl
theorem HY (f:List Nat)(cs:List aR)(K:List aR->Option R):xt f cs K=K (cs.map (R9 f)):=by
 induction cs generalizing K with
 |nil=>rfl
 |cons l r ih=>cases l<;>simp only [xt,IT,R9,ih];rename_i g;cases bU f g<;>rfl
theorem Yv (f:List Nat)(s:Slot)(K:Slot->Option R):Pl f s K=K (KA f s):=by
 cases s with
 |sc l=>cases l<;>simp only [Pl,KA,R9];rename_i g;cases bU f g<;>rfl
 |ag cs=>simp only [Pl,KA,HY]
 |box cs=>simp only [Pl,KA,HY]
 |_=>rfl
theorem agO (f:List Nat)(r:Fr)(K:Fr->Option R):nFr f r K=K (Sa f r):=by
 induction r generalizing K with
 |nil=>rfl
 |cons p r ih=>obtain ⟨k,x⟩:=p;simp only [nFr,Yv,ih,Sa,IT]
theorem Yw (ks fs qs:List Nat)(r:List (Nat×oR))(K:List (Nat×oR)->Option R):Lq ks fs qs r K=K (td ks fs qs r):=by
 induction r generalizing K with
 |nil=>rfl
 |cons p r ih=>
  obtain ⟨k,x⟩:=p;simp only [Lq,td];cases bU ks k
  ·simp [ih]
  ·simp only [cond_true,ih];cases bU fs k&&!bU qs k<;>rfl
theorem xu {α:Type}(x y:List α):app x y=some (x++y):=by
 induction x with
 |nil=>rfl
 |cons a r ih=>simp [app,ih]
end
theorem gh (a b:Nat):c9 a b=decide (a=b):=by
 by_cases h:a=b
 ·subst h;simp
 ·simp only [h,decide_false];exact Bool.eq_false_iff.2 (λe=>h (sh e))
theorem b4 (l:List Nat)(t:Nat):bU l t=true↔t∈l:=by
 induction l with
 |nil=>simp [bU]
 |cons k r ih=>
  simp only [bU,gh,aaK];by_cases h:k=t
  ·simp [h]
  ·simp only [h,decide_false,cond_false,ih];exact ⟨.inr,λh'=>h'.resolve_left (λe=>h e.symm)⟩
theorem ck (r:Fr)(d t:Nat)(s:Slot):au (cM r d s) t=if t=d then s else au r t:=by
 induction r with
 |nil=>simp only [cM,au,gh];by_cases h:t=d<;>simp [h,Ne.symm]<;>(intro e;exact absurd e.symm h)
 |cons p r ih=>
  obtain ⟨k,x⟩:=p;simp only [cM,gh];by_cases hk:k=d
  ·subst hk;simp only [decide_true,cond_true,au,gh];by_cases h:k=t
   ·simp [h]
   ·have h': ¬t=k:=λe=>h e.symm;simp [h,h']
  ·simp only [hk,decide_false,cond_false,au,gh,ih];by_cases h:k=t
   ·subst h;simp [hk]
   ·simp [h]
theorem bI (r:List (Nat×oR))(d t:Nat)(s:oR):aU (cq r d s) t=if t=d then some s else aU r t:=by
 induction r with
 |nil=>simp only [cq,aU,gh];by_cases h:t=d<;>simp [h,Ne.symm]<;>(intro e;exact absurd e.symm h)
 |cons p r ih=>
  obtain ⟨k,x⟩:=p;simp only [cq,gh];by_cases hk:k=d
  ·subst hk;simp only [decide_true,cond_true,aU,gh];by_cases h:k=t
   ·simp [h]
   ·have h': ¬t=k:=λe=>h e.symm;simp [h,h']
  ·simp only [hk,decide_false,cond_false,aU,gh,ih];by_cases h:k=t
   ·subst h;simp [hk]
   ·simp [h]
theorem HZ (g:Slot->Slot)(hg:g (.sc .un)= .sc .un)(r:Fr)(t:Nat):au (r.map λp=>(p.1,g p.2)) t=g (au r t):=by
 induction r with
 |nil=>simp [au,hg]
 |cons p r ih=>obtain ⟨k,x⟩:=p;simp only [IT,au,gh];by_cases h:k=t<;>simp [h,ih]
theorem iJ (f:Nat)(r:Fr)(t:Nat):au (lO f r) t=B0 f (au r t):=HZ (B0 f) rfl r t
theorem Lt (f:List Nat)(r:Fr)(t:Nat):au (Sa f r) t=KA f (au r t):=HZ (KA f) rfl r t
def a7 (r:Fr):List Nat:=r.map Prod.fst
theorem sX (r:Fr)(t:Nat)(h:t∉a7 r):au r t= .sc .un:=by
 induction r with
 |nil=>rfl
 |cons p r ih=>obtain ⟨k,x⟩:=p;simp only [a7,IT,aaK,not_or] at h;have h': ¬k=t:=λe=>h.1 e.symm;simp only [au,gh,h',decide_false,cond_false];exact ih h.2
theorem C5 (ds:List Nat)(r:Fr):List.Sublist (a7 (cG ds r)) (a7 r):=by
 induction r with
 |nil=>simp [a7,cG]
 |cons p r ih=>
  obtain ⟨k,x⟩:=p;simp only [cG];cases dW x||bU ds k
  ·simpa [a7] using ih
  ·exact (List.Sublist.cons _ ih)
theorem xv (ds:List Nat)(r:Fr):List.Sublist (a7 (oT ds r)) (a7 r):=by
 induction r with
 |nil=>simp [a7,oT]
 |cons p r ih=>
  obtain ⟨k,x⟩:=p;simp only [oT];cases bU ds k&&!dW x
  ·exact (List.Sublist.cons _ ih)
  ·simpa [a7] using ih
theorem H0 (ds:List Nat)(r:Fr)(hn:(a7 r).Nodup)(t:Nat):au (cG ds r) t=if dW (au r t)||bU ds t then .sc .un else au r t:=by
 induction r with
 |nil=>simp [au,cG]
 |cons p r ih=>
  obtain ⟨k,x⟩:=p;simp only [a7,IT,afv] at hn;have ih:=ih hn.2;simp only [cG];by_cases hk:k=t
  ·subst hk;cases hb:dW x||bU ds k
   ·simp [au,gh,hb]
   ·simp only [cond_true,au,gh,decide_true,hb,if_true];refine sX _ _ (λhm=>hn.1 ((C5 ds r).subset hm))
  ·cases hb:dW x||bU ds k
   ·simp [au,gh,hk,ih]
   ·simp [au,gh,hk,ih]
theorem Cm (ds:List Nat)(r:Fr)(hn:(a7 r).Nodup)(t:Nat):au (oT ds r) t=if bU ds t&&!dW (au r t) then au r t else .sc .un:=by
 induction r with
 |nil=>simp [au,oT]
 |cons p r ih=>
  obtain ⟨k,x⟩:=p;simp only [a7,IT,afv] at hn;have ih:=ih hn.2;simp only [oT];by_cases hk:k=t
  ·subst hk;cases hb:bU ds k&&!dW x
   ·simp only [cond_false,au,gh,decide_true,cond_true,hb];exact sX _ _ (λhm=>hn.1 ((xv ds r).subset hm))
   ·simp [au,gh,hb]
  ·cases hb:bU ds k&&!dW x<;>simp [au,gh,hk,ih]
theorem zF (r s:Fr)(t:Nat):au (r++s) t=if t∈a7 r then au r t else au s t:=by
 induction r with
 |nil=>simp [a7]
 |cons p r ih=>
  obtain ⟨k,x⟩:=p;simp only [List.cons_append,au,gh,a7,IT,aaK];by_cases h:k=t
  ·simp [h]
  ·have h': ¬t=k:=λe=>h e.symm;simp only [h,h',decide_false,cond_false,ih,false_or];rfl
end Dn
/-
  Laws of leaves and slots: offsets, and what changes elsewhere. Conditions: none.
-/
namespace Dn
open Go
section
variable {e e':Env}
theorem bp.width {vs:List Value}{l:aR}(h:bp e vs l):vs.length=l.w:=by
 cases l with
 |un=>obtain ⟨v,rfl,_⟩:=h;rfl
 |p m=>obtain ⟨v,rfl,_⟩:=h.2.one h.1;rfl
 |hs x=>cases h;simp [bR,x.h,aR.w]
 |nil=>cases h;rfl
 |mp s es=>exact h.elim
 |own f=>obtain ⟨v,rfl,_⟩:=h;rfl
theorem bp.cells {vs:List Value}{l:aR}(h:bp e vs l): ∀v∈vs,v.oneCell'=true:=by
 cases l with
 |un=>obtain ⟨v,rfl,hv⟩:=h;simpa using hv
 |p m=>exact h.2.cells
 |hs x=>cases h;intro v hv;obtain ⟨b,_,rfl⟩:=adU.1 hv;rfl
 |nil=>cases h;simp [aaq]
 |mp s es=>exact h.elim
 |own f=>obtain ⟨v,rfl,hv,_⟩:=h;simpa using hv
theorem aJ.width {cs:List aR}: ∀{vs:List Value},aJ e vs cs->vs.length=zB cs:=by
 induction cs with
 |nil=>intro vs h;cases h;rfl
 |cons l r ih=>intro vs h;obtain ⟨v,w,rfl,h1,h2⟩:=h;simp [zB,h1.width,ih h2]
theorem aJ.cells {cs:List aR}: ∀{vs:List Value},aJ e vs cs-> ∀v∈vs,v.oneCell'=true:=by
 induction cs with
 |nil=>intro vs h;cases h;simp
 |cons l r ih=>
  intro vs h v hv;obtain ⟨a,w,rfl,h1,h2⟩:=h;rcases aed.1 hv with hv|hv
  ·exact h1.cells v hv
  ·exact ih h2 v hv
theorem aJ.append {cs ds:List aR}: ∀{vs ws:List Value},aJ e vs cs->aJ e ws ds->aJ e (vs++ws) (cs++ds):=by
 induction cs with
 |nil=>intro vs ws h h';cases h;simpa using h'
 |cons l r ih=>intro vs ws h h';obtain ⟨v,w,rfl,h1,h2⟩:=h;exact ⟨v,w++ws,by simp,h1,ih h2 h'⟩
theorem zG {cs:List aR}: ∀{off:Nat}{ds:List aR}{vs:List Value},cut cs off=some ds->aJ e vs cs-> ∃v1 v2,vs=v1++v2/\v1.length=off/\aJ e v2 ds:=by
 induction cs with
 |nil=>
  intro off ds vs h hr;cases off with
  |zero=>simp only [cut,AT] at h;subst h;exact ⟨[],vs,rfl,rfl,hr⟩
  |succ n=>simp [cut] at h
 |cons l r ih=>
  intro off ds vs h hr;cases off with
  |zero=>simp only [cut,AT] at h;subst h;exact ⟨[],vs,rfl,rfl,hr⟩
  |succ n=>
   simp only [cut] at h;cases hb:abq l.w (n+1) with
   |false=>simp [hb] at h
   |true=>simp only [hb,cond_true] at h;have hle:=acb hb;obtain ⟨v,w,rfl,h1,h2⟩:=hr;obtain ⟨v1,v2,rfl,hl,h3⟩:=ih h h2;exact ⟨v++v1,v2,by simp,by simp [h1.width,hl];omega,h3⟩
theorem VS {cs:List aR}: ∀{n:Nat}{ds:List aR}{vs:List Value},Pc cs n=some ds->aJ e vs cs-> ∃v1 v2,vs=v1++v2/\v1.length=n/\aJ e v1 ds:=by
 induction cs with
 |nil=>
  intro n ds vs h hr;cases n with
  |zero=>simp only [Pc,AT] at h;subst h;exact ⟨[],vs,rfl,rfl,rfl⟩
  |succ n=>simp [Pc] at h
 |cons l r ih=>
  intro n ds vs h hr;cases n with
  |zero=>simp only [Pc,AT] at h;subst h;exact ⟨[],vs,rfl,rfl,rfl⟩
  |succ n=>
   simp only [Pc] at h;cases hb:abq l.w (n+1) with
   |false=>simp [hb] at h
   |true=>
    simp only [hb,cond_true] at h;have hle:=acb hb;obtain ⟨v,w,rfl,h1,h2⟩:=hr;cases hu:Pc r (n+1-l.w) with
    |none=>simp [hu] at h
    |some b=>simp only [hu,AT] at h;subst h;obtain ⟨v1,v2,rfl,hl,h3⟩:=ih hu h2;exact ⟨v++v1,v2,by simp,by simp [h1.width,hl];omega,v,v1,rfl,h1,h3⟩
theorem Lu {cs:List aR}{off n:Nat}{ds:List aR}{vs:List Value}(h:part cs off n=some ds)(hr:aJ e vs cs): ∃v1 v2 v3,vs=v1++v2++v3/\v1.length=off/\v2.length=n/\aJ e v2 ds:=by
 unfold part at h;cases hc:cut cs off with
 |none=>simp [hc] at h
 |some a=>simp only [hc] at h;obtain ⟨v1,v2,rfl,h1,h2⟩:=zG hc hr;obtain ⟨v3,v4,rfl,h3,h4⟩:=VS h h2;exact ⟨v1,v3,v4,by simp,h1,h3,h4⟩
theorem Lv {ls:List aR}: ∀{cs ds:List aR}{vs ws:List Value},over ls cs=some ds->aJ e vs cs->aJ e ws ls-> ∃v1 v2,vs=v1++v2/\v1.length=ws.length/\aJ e (ws++v2) ds:=by
 induction ls with
 |nil=>intro cs ds vs ws h hr hw;simp only [over,AT] at h;subst h;cases hw;exact ⟨[],vs,rfl,rfl,hr⟩
 |cons l r ih=>
  intro cs ds vs ws h hr hw;cases cs with
  |nil=>simp [over] at h
  |cons c cs=>
   simp only [over] at h;cases hb:c9 l.w c.w with
   |false=>simp [hb] at h
   |true=>
    simp only [hb,cond_true] at h;have hww:=sh hb;cases ho:over r cs with
    |none=>simp [ho] at h
    |some q=>simp only [ho,AT] at h;subst h;obtain ⟨v,w,rfl,h1,h2⟩:=hr;obtain ⟨a,b,rfl,h3,h4⟩:=hw;obtain ⟨v1,v2,rfl,hl,h5⟩:=ih ho h2 h4;exact ⟨v++v1,v2,by simp,by simp [h1.width,h3.width,hl,hww],a,b++v2,by simp,h3,h5⟩
theorem xw {cs:List aR}: ∀{off:Nat}{ls ds:List aR}{vs ws:List Value},putAt cs off ls=some ds->aJ e vs cs->aJ e ws ls-> ∃v1 v2 v3,vs=v1++v2++v3/\v1.length=off/\v2.length=ws.length/\aJ e (v1++ws++v3) ds:=by
 induction cs with
 |nil=>
  intro off ls ds vs ws h hr hw;cases off with
  |zero=>simp only [putAt] at h;obtain ⟨v1,v2,rfl,h1,h2⟩:=Lv h hr hw;exact ⟨[],v1,v2,by simp,rfl,h1,by simpa using h2⟩
  |succ n=>simp [putAt] at h
 |cons l r ih=>
  intro off ls ds vs ws h hr hw;cases off with
  |zero=>simp only [putAt] at h;obtain ⟨v1,v2,rfl,h1,h2⟩:=Lv h hr hw;exact ⟨[],v1,v2,by simp,rfl,h1,by simpa using h2⟩
  |succ n=>
   simp only [putAt] at h;cases hb:abq l.w (n+1) with
   |false=>simp [hb] at h
   |true=>
    simp only [hb,cond_true] at h;have hle:=acb hb;obtain ⟨v,w,rfl,h1,h2⟩:=hr;cases hu:putAt r (n+1-l.w) ls with
    |none=>simp [hu] at h
    |some b=>simp only [hu,AT] at h;subst h;obtain ⟨v1,v2,v3,rfl,hl,sE,h3⟩:=ih hu h2 hw;exact ⟨v++v1,v2,v3,by simp,by simp [h1.width,hl];omega,sE,v,v1++ws++v3,by simp,h1,h3⟩
structure lB (S T:Nat->Prop) (e e':Env):Prop where
 key:e'.key=e.key
 φ:sD e.φ e'.φ
 B: ∀r,T r->e'.B r=e.B r
 jO: ∀f o',aU e'.m f=some o'->S f-> ∃o,aU e.m f=some o/\e'.E f=e.E f/\o'.xs=o.xs
def jW (S:Nat->Prop)(l:aR):Prop:= ∀f,l= .own f->S f
def gj (S T:Nat->Prop):Slot->Prop
 | .ptr r _=>T r
 | .zA r=>T r
 | .hp r _ _=>T r
 | .sc l=>jW S l
 | .ag cs=> ∀l∈cs,jW S l
 | .ep g _ _ _ _=>S g
 |_=>True
theorem bp.on {S T:Nat->Prop}(h:lB S T e e'){vs:List Value}{l:aR}(hl:jW S l)(hr:bp e vs l):bp e' vs l:=by
 cases l with
 |un=>exact hr
 |p m=>exact ⟨hr.1,by have:=hr.2.mono h.φ;rw [<-h.key] at this;exact this⟩
 |hs x=>exact hr
 |nil=>exact hr
 |mp s es=>exact hr
 |own f=>obtain ⟨v,rfl,hv,hf⟩:=hr;refine ⟨v,rfl,hv,λo' Cn=> ?_⟩;obtain ⟨o,ho,hE,_⟩:=h.jO f o' Cn (hl f rfl);rw [hE];exact hf o ho
theorem aJ.on {S T:Nat->Prop}(h:lB S T e e'){cs:List aR}: ∀{vs:List Value},(∀l∈cs,jW S l)->aJ e vs cs->aJ e' vs cs:=by
 induction cs with
 |nil=>intro vs _ hr;exact hr
 |cons l r ih=>intro vs hl hr;obtain ⟨v,w,rfl,h1,h2⟩:=hr;exact ⟨v,w,rfl,h1.on h (hl l (by simp)),ih (λx hx=>hl x (by simp [hx])) h2⟩
theorem H2 {S:Nat->Prop}{l:aR}(h:uN l=true):jW S l:=by intro f hf;subst hf;simp [uN] at h
theorem Co {S:Nat->Prop}{cs:List aR}(h:jS cs=true): ∀l∈cs,jW S l:=by
 induction cs with
 |nil=>simp
 |cons l r ih=>
  simp only [jS,aaJ] at h;intro x hx;rcases aaK.1 hx with rfl|hx
  ·exact H2 h.1
  ·exact ih h.2 x hx
mutual
theorem af.on {S T:Nat->Prop}(h:lB S T e e'){v:Value}: ∀{s:Slot},gj S T s->af e v s->af e' v s
 | .skip,_,hr=>by simpa [af] using hr
 | .sc l,hs,hr=>by
  cases l with
  |un=>simp [af]
  |hs x=>simpa [af] using hr
  |p m=>simp only [af] at hr⊢;exact hr.on h hs
  |nil=>simp only [af] at hr⊢;exact hr.on h hs
  |mp s es=>simp only [af] at hr⊢;exact hr
  |own f=>simp only [af] at hr⊢;exact hr.on h hs
 | .ag cs,hs,hr=>by simp only [af] at hr⊢;obtain ⟨arr,h1,h2⟩:=hr;exact ⟨arr,h1,h2.on h hs⟩
 | .cg vs,_,hr=>by simp only [af] at hr⊢;obtain ⟨arr,h1,h2⟩:=hr;exact ⟨arr,h1,kR.on h h2⟩
 | .box _,_,hr=>by simp [af] at hr
 | .zz cs,_,hr=>by simp only [af] at hr⊢;obtain ⟨bG,o,vs,h1,h2,h3,h4⟩:=hr;exact ⟨bG,o,vs,h1,h2.on h (Co h3),h3,λj hj=>M6 h.φ hj (h4 j hj)⟩
 | .ptr r o,hs,hr=>by simp only [af] at hr⊢;rw [h.B r hs];exact hr
 | .zA r,hs,hr=>by simp only [af] at hr⊢;rw [h.B r hs];exact hr
 | .rp cs off,_,hr=>by simp only [af] at hr⊢;obtain ⟨bG,o,vs,h1,h2,h3,h4⟩:=hr;exact ⟨bG,o,vs,h1,h2.on h (Co h3),h3,λj hj=>M6 h.φ hj (h4 j hj)⟩
 | .hp r o i,hs,hr=>by simp only [af] at hr⊢;rw [h.B r hs];exact hr
 | .ep f i off st cs,hs,hr=>by simp only [af] at hr⊢;intro o' Cn;obtain ⟨o,ho,hE,hx⟩:=h.jO f o' Cn hs;obtain ⟨bG,cap,h1,h2,h3⟩:=hr o ho;exact ⟨bG,cap,by rw [hE,hx];exact h1,by rw [hx];exact h2,h3⟩
theorem kR.on {S T:Nat->Prop}(h:lB S T e e'): ∀{vs:List Value}{ss:List Slot},kR e vs ss->kR e' vs ss
 |vs,[],hr=>hr
 |vs,s::ss,hr=>by
  simp only [kR] at hr⊢;obtain ⟨v,r,h1,h2,h3,h4⟩:=hr;refine ⟨v,r,h1,af.on h ?_ h2,h3,kR.on h h4⟩;cases s<;>simp [C4] at h3<;>simp only [gj]
  ·exact H2 h3
  ·exact Co h3
end
end
end Dn
/-
  The relation between an abstract state and a running frame; operations that change no memory. Conditions: none.
-/
namespace Dn
open Go
section
variable {e e':Env}
theorem bp.kill {vs:List Value}{l:aR}(f:Nat)(h:bp e vs l):bp e vs (OZ f l):=by
 cases l with
 |own g=>
  simp only [OZ];cases c9 g f
  ·exact h
  ·obtain ⟨v,rfl,hv,_⟩:=h;exact ⟨v,rfl,hv⟩
 |_=>exact h
theorem H3 (f:Nat)(l:aR):jW (· ≠f) (OZ f l):=by intro g hg;cases l<;>simp [OZ] at hg;rename_i g';cases hb:c9 g' f<;>simp [hb] at hg;subst hg;intro e;subst e;simp [gh] at hb
theorem bp.Um {vs:List Value}{l:aR}(f:List Nat)(h:bp e vs l):bp e vs (R9 f l):=by
 cases l with
 |own g=>
  simp only [R9];cases bU f g
  ·obtain ⟨v,rfl,hv,_⟩:=h;exact ⟨v,rfl,hv⟩
  ·exact h
 |_=>exact h
theorem Sb (f:List Nat)(l:aR):jW (· ∈f) (R9 f l):=by intro g hg;cases l<;>simp [R9] at hg;rename_i g';cases hb:bU f g'<;>simp [hb] at hg;subst hg;exact (b4 _ _).1 hb
theorem aJ.map {g:aR->aR}(hg: ∀vs l,bp e vs l->bp e vs (g l)){cs:List aR}: ∀{vs:List Value},aJ e vs cs->aJ e vs (cs.map g):=by
 induction cs with
 |nil=>intro vs h;exact h
 |cons l r ih=>intro vs h;obtain ⟨v,w,rfl,h1,h2⟩:=h;exact ⟨v,w,rfl,hg _ _ h1,ih h2⟩
theorem af.agP {v:Value}{l:aR}(hl: ∀x,l≠ .hs x)(hu:l≠ .un):af e v (.sc l)↔bp e [v] l:=by cases l<;>simp_all [af]
theorem af.kill {v:Value}{s:Slot}(f:Nat)(h:af e v s):af e v (B0 f s):=by
 cases s with
 |sc l=>
  cases l with
  |own g=>
   simp only [B0,OZ];cases c9 g f
   ·exact h
   ·simp [af]
  |_=>exact h
 |ag cs=>simp only [B0,af] at h⊢;obtain ⟨arr,h1,h2⟩:=h;exact ⟨arr,h1,h2.map (λ_ _=>bp.kill f)⟩
 |box cs=>simp [af] at h
 |ep g i o b cs=>
  simp only [B0];cases c9 g f
  ·exact h
  ·simp [af]
 |_=>exact h
theorem Yx (f:Nat)(T:Nat->Prop)(s:Slot)(hT:gj (λ_=>True) T s):gj (· ≠f) T (B0 f s):=by
 cases s with
 |sc l=>exact H3 f l
 |ag cs=>intro l hl;obtain ⟨x,_,rfl⟩:=adU.1 hl;exact H3 f x
 |ep g i o b cs=>
  simp only [B0];cases hb:c9 g f
  ·simp only [cond_false,gj];intro e;subst e;simp [gh] at hb
  ·simp [gj,jW]
 |ptr r o=>exact hT
 |hp r o i=>exact hT
 |_=>trivial
theorem af.Um {v:Value}{s:Slot}(f:List Nat)(h:af e v s):af e v (KA f s):=by
 cases s with
 |sc l=>
  cases l with
  |own g=>
   simp only [KA,R9];cases bU f g
   ·simp [af]
   ·exact h
  |_=>exact h
 |ag cs=>simp only [KA,af] at h⊢;obtain ⟨arr,h1,h2⟩:=h;exact ⟨arr,h1,h2.map (λ_ _=>bp.Um f)⟩
 |box cs=>simp [af] at h
 |_=>exact h
end
def bx (key:Nat->Nat) (φ:Ph)(size:Nat):List Value->List MV->Prop
 |vs,[]=>vs=[]
 |vs,x::xs=> ∃v r,vs=v++r/\v.length=size/\ni key φ v x/\bx key φ size r xs
structure b7 where
 In:Nat->Prop
 dg:List Nat
 cZ:List Nat
 T:Nat->Value
 cov:Prop
 Pr:Nat->Prop
instance:CoeFun b7 (λ_=>Nat->Prop):=⟨b7.In⟩
instance:Coe b7 (Nat->Prop):=⟨b7.In⟩
theorem Pp {a b c:Prop}(h:(a/\b)\/c)(hn: ¬a):c:=h.resolve_left λh=>hn h.1
def b7.nc (Z:b7):b7:={Z with cov:=False}
def b7.plain (I:Nat->Prop):b7:=⟨I,[],[],λ_=>undef,False,λ_=>True⟩
def b7.bz (Z:b7)(t:Nat):b7:={Z with In:=λb=>(t∈Z.dg/\Z.Pr b)\/Z.In b}
def b7.fz (Z:b7)(f:Nat):b7:={Z with In:=λb=>(f∈Z.cZ/\Z.Pr b)\/Z.In b,cov:=f∈Z.cZ}
def H4:Kd->MV->Bool
 | .b,.b _=>true
 | .i k,.i k' _=>decide (k'=k)
 | .s,.s _=>true
 | .h,.h _=>true
 |_,_=>false
def lV:List Kd->List MV->Bool
 |[],[]=>true
 |k::ks,m::ms=>H4 k m&&lV ks ms
 |_,_=>false
def RP:MV->List Value
 | .b x=>[.bool x]
 | .i k n=>[.int k n]
 | .s l=>[.string ⟨l.toArray⟩]
 | .h x=>bR x
 |_=>[]
def C6 (st:Bool)(ks:List MV):Value:=match st,ks with
 |false,[.h x]=> .agg (bR x).toArray
 |false,[.b x]=> .bool x
 |false,[.i k n]=> .int k n
 |false,[.s l]=> .string ⟨l.toArray⟩
 |_,ks=> .agg (ks.flatMap RP).toArray
def Yy (b:Bool)(m:MV):Value:=match b,m with
 |true,.b x=> .bool x
 |false,.i .i64 n=> .int .i64 n
 |_,_=>undef
def anG (b:Bool)(m:MV):Bool:=match b,m with
 |true,.b x=>true
 |false,.i .i64 n=>true
 |_,_=>false
def afu (s:MS)(x:MapEntry)(m:MV)(i:Nat):Prop:=x.born=i/\ ∃ks v,m= .cg [.agg ks,v]/\lV s.lay ks=true/\x.key=C6 s.st ks/\anG s.b v=true/\x.val=Yy s.b v
structure Lw (s:MS) (es:Array MapEntry) (clock:Nat) (ms:List MV):Prop where
 size:es.size=ms.length
 clock:clock=ms.length
 ent: ∀(i:Nat) x m,es[i]? =some x->ms[i]? =some m->afu s x m i
def kr (e:Env)(o:Obj)(cs:List aR):Prop:=match o with
 | .cells arr _ z=>z=(0,0)/\aJ e arr.toList cs
 | .map es clock=> ∃s ms,cs=[.mp s ms]/\RW s=false/\Lw s es clock ms
 | .stringIter x pos=>cs=[.mp MS.it [.s x.data.toList,.i .i64 pos]]
 |_=>False
def M7 (cs:List aR)(b:Nat):Value:=bif mB cs then .map (some b) else .pointer (some ⟨b,0,none⟩)
structure uP (Z:b7) (e:Env) (w:World) (bG:Nat) (cs:List aR):Prop where
 dn:Z.In bG
 obj: ∃o,w.heap[bG]? =some o/\kr e o cs
 free: ∀off,e.φ bG off=none
theorem kr.on {S T:Nat->Prop} {e e':Env}(h:lB S T e e'){o:Obj}{cs:List aR}(hl: ∀l∈cs,jW S l)(hr:kr e o cs):kr e' o cs:=by
 cases o with
 |cells arr T z=>exact ⟨hr.1,hr.2.on h hl⟩
 |map es clock=>exact hr
 |stringIter x pos=>exact hr
 |_=>exact hr.elim
theorem M8 {cs:List aR}(h:fR cs=true): ∃s ms,cs=[.mp s ms]:=by
 unfold fR at h;split at h
 ·exact ⟨_,_,rfl⟩
 ·cases h
theorem kr.cells {e:Env}{o:Obj}{cs:List aR}(hr:kr e o cs)(hm:fR cs=false): ∃arr T,o= .cells arr T (0,0)/\aJ e arr.toList cs:=by
 cases o with
 |cells arr T z=>obtain ⟨rfl,h⟩:=hr;exact ⟨arr,T,rfl,h⟩
 |map es clock=>obtain ⟨s,ms,rfl,_⟩:=hr;simp [fR] at hm
 |stringIter x pos=>rw [show cs=_ from hr] at hm;simp [fR] at hm
 |_=>exact hr.elim
theorem xx {cs:List aR}(h:fR cs=false):mB cs=false:=by
 unfold mB;split
 ·simp [fR] at h
 ·rfl
theorem Pq (g:aR->aR)(h1: ∀s es,g (.mp s es)= .mp s es)(h2: ∀l,(∀s es,l≠ .mp s es)-> ∀s es,g l≠ .mp s es)(cs:List aR):mB (cs.map g)=mB cs:=by
 cases cs with
 |nil=>rfl
 |cons l r=>
  cases r with
  |nil=>
   by_cases hl: ∃s es,l= .mp s es
   ·obtain ⟨s,es,rfl⟩:=hl;simp [h1,mB]
   ·have BH: ∀s es,l≠ .mp s es:=λs es e=>hl ⟨s,es,e⟩;have hg:=h2 l BH;simp only [IT,afP];have a:mB [l]=false:=by cases l<;>simp_all [mB]
    have b:mB [g l]=false:=by cases hq:g l<;>simp_all [mB]
    rw [a,b]
  |cons x y=>cases hl:l<;>simp [mB]
theorem uP.cells {Z:b7}{e:Env}{w:World}{bG:Nat}{cs:List aR}(h:uP Z e w bG cs)(hm:fR cs=false): ∃arr T,w.heap[bG]? =some (.cells arr T (0,0))/\aJ e arr.toList cs:=by obtain ⟨o,h1,h2⟩:=h.obj;obtain ⟨arr,T,rfl,h3⟩:=h2.cells hm;exact ⟨arr,T,h1,h3⟩
theorem Sc {cs:List aR}(hm:mB cs=false)(b:Nat):M7 cs b= .pointer (some ⟨b,0,none⟩):=by simp [M7,hm]
theorem vC {cs:List aR}(hm:fR cs=false)(b:Nat):M7 cs b= .pointer (some ⟨b,0,none⟩):=Sc (xx hm) b
theorem agQ {cs:List aR}(hm:mB cs=true)(b:Nat):M7 cs b= .map (some b):=by simp [M7,hm]
theorem kr.map {e:Env}{g:aR->aR}(hg: ∀vs l,bp e vs l->bp e vs (g l))(hm: ∀s es,g (.mp s es)= .mp s es){o:Obj}{cs:List aR}(hr:kr e o cs):kr e o (cs.map g):=by
 cases o with
 |cells arr T z=>exact ⟨hr.1,hr.2.map hg⟩
 |map es clock=>obtain ⟨s,ms,rfl,h2⟩:=hr;exact ⟨s,ms,by simp [hm],h2⟩
 |stringIter x pos=>rw [show cs=_ from hr];show afz g _=_;simp [hm]
 |_=>exact hr.elim
theorem Sd (f:Nat)(cs:List aR):mB (cs.map (OZ f))=mB cs:=Pq _ (λ_ _=>rfl) (λl hl s es=>by cases l<;>simp_all [OZ];rename_i g;cases c9 g f<;>simp) cs
theorem agR (f:List Nat)(cs:List aR):mB (cs.map (R9 f))=mB cs:=Pq _ (λ_ _=>rfl) (λl hl s es=>by cases l<;>simp_all [R9];rename_i g;cases bU f g<;>simp) cs
structure dI (c:Ctx) (Z:b7) (e:Env) (w:World) (v:Value) (o:oR):Prop where
 row: ∃I cells,c.ti o.ty=some I/\I.dw=[]/\w.ownsRow 0 o.ty I.size v o.xs.length cells/\bx e.key e.φ I.size cells o.xs/\ ∀bG,v.ownBlock=some bG->Z.In bG/\(∀off u,e.φ bG off=some u->o.eU=true/\off<o.xs.length *I.size)/\(Z.cov->o.eU=true-> ∀j,j<cells.length->e.φ bG j=cells[j]?)
def tied (Z:b7)(t:Nat)(v:Value)(cs:List aR)(b:Nat):Prop:=(BF t=false->v=M7 cs b)/\(BF t=true->posOf t∈Z.dg/\Z.T (posOf t)= .pointer (some ⟨b,Pb t,none⟩))
theorem tied.mB {Z:b7}{t:Nat}{v:Value}{cs gO:List aR}{b:Nat}(h:tied Z t v cs b)(hm:mB gO=mB cs):tied Z t v gO b:=⟨λhp=>by rw [h.1 hp];simp [M7,hm],h.2⟩
theorem tied.own {Z:b7}{t:Nat}{v:Value}{cs:List aR}{b:Nat}(hp:BF t=false)(h:v=M7 cs b):tied Z t v cs b:=⟨λ_=>h,λhq=>by rw [hp] at hq;cases hq⟩
def cu (Z:b7)(e:Env)(w:World)(t:Nat)(v:Value):Slot->Prop
 | .box cs=>tied Z t v cs (e.B t)/\uP (Z.bz t) e w (e.B t) cs
 |s=>af e v s
def c8 (fr:Fr):Slot->Prop
 | .ptr r _=>dx (au fr r)=true
 | .hp r _ _=>dx (au fr r)=true
 | .zA r=>dx (au fr r)=true
 |_=>True
structure cF (c:Ctx) (Z:b7) (e:Env) (st:St) (a:Act) (w:World):Prop where
 defers:a.defers=[]/\st.dg=Z.dg/\st.cZ=Z.cZ/\ ∀t∈Z.dg,a.tmps.getD t undef=Z.T t
 size:a.tmps.size=c.n
 m:e.m=st.bh
 key:e.key=c.key
 nodup:(a7 st.fr).Nodup
 slot: ∀t,cu Z e w t (a.tmps.getD t undef) (au st.fr t)
 root: ∀t,c8 st.fr (au st.fr t)
 jO: ∀f o,aU st.bh f=some o->dI c (Z.fz f) e w (e.E f) o
 bb: ∀t t' cs gO,au st.fr t= .box cs->au st.fr t'= .box gO->t≠t'->e.B t≠e.B t'
 bf: ∀t cs f o,au st.fr t= .box cs->aU st.bh f=some o->(e.E f).ownBlock≠some (e.B t)
 ff: ∀f f' o o' k,aU st.bh f=some o->aU st.bh f'=some o'->(e.E f).ownBlock=some k->(e.E f').ownBlock=some k->f=f'
 qe: ∀b o v,e.φ b o=some v->w.cell? ⟨b,o,none⟩=some v
 dn: ∀b,w.heap.size<=b->Z.In b
def Rest (w w':World):Prop:=w'.os=w.os/\w'.tape=w.tape/\w'.output=w.output/\ ∀a,w'.frozen? a=w.frozen? a
theorem Rest.refl (w:World):Rest w w:=⟨rfl,rfl,rfl,λ_=>rfl⟩
theorem Rest.trans {w w' AZ:World}(h:Rest w w') (h':Rest w' AZ):Rest w AZ:=⟨h'.1.trans h.1,h'.2.1.trans h.2.1,h'.2.2.1.trans h.2.2.1,λa=>(h'.2.2.2 a).trans (h.2.2.2 a)⟩
theorem Rest.alloc (w:World)(cs:Array Value)(t:TypeId):Rest w (w.alloc (.cells cs t)):=by
 refine ⟨rfl,rfl,rfl,λa=> ?_⟩;by_cases h:a.block=w.heap.size
 ·have e1:(w.alloc (.cells cs t)).heap[a.block]? =some (.cells cs t (0,0)):=by rw [h];exact nF w _
  have e2:w.heap[a.block]? =none:=by rw [h];simp
  simp [afE,e1,e2]
 ·exact World.frozen?_alloc_old _ _ _ h
theorem Rest.setRow (w:World)(g:Nat)(cs:Array Value):Rest w (w.setRow g cs):=by
 refine ⟨rfl,rfl,rfl,λa=> ?_⟩;by_cases h:a.block=g
 ·unfold afE afU;simp only [Array.getElem?_modify,h,if_true];cases hg:w.heap[g]? with
  |none=>rfl
  |some o=>cases o<;>rfl
 ·exact World.frozen?_of_block (setRow_other _ _ _ _ h)
structure eI (w w':World):Prop where
 size:w.heap.size<=w'.heap.size
 A0: ∀b,b<w.heap.size->w'.heap[b]? =w.heap[b]?
 rest:Rest w w'
theorem bW {w:World}{b:Nat}{x:Obj}(h:w.heap[b]? =some x):b<w.heap.size:=(Array.getElem?_eq_some_iff.1 h).1
theorem eI.cell {w w':World}(g:eI w w'){ad:Addr}{v:Value}(h:w.cell? ad=some v):w'.cell? ad=some v:=by have hl:=ab4 w ad h;rw [ace (g.A0 ad.block hl)];exact h
structure Trans (Z:Nat->Prop) (φ:Ph) (w:World) (φ':Ph) (w':World):Prop where
 ph:sD φ φ'
 heap: ∀b,¬Z b->b<w.heap.size->w'.heap[b]? =w.heap[b]?
 free: ∀b o,¬Z b->φ' b o=φ b o
 size:w.heap.size<=w'.heap.size
 rest:Rest w w'
theorem Trans.refl (Z:Nat->Prop) (φ:Ph)(w:World):Trans Z φ w φ w:=⟨.refl φ,λ_ _ _=>rfl,λ_ _ _=>rfl,aar _,.refl _⟩
theorem Trans.trans {Z:Nat->Prop} {φ φ' φ'':Ph} {w w' AZ:World}(h:Trans Z φ w φ' w') (h':Trans Z φ' w' φ'' AZ):Trans Z φ w φ'' AZ:=⟨h.ph.trans h'.ph,λb hb hl=>(h'.heap b hb (aem hl h.size)).trans (h.heap b hb hl),λb o hb=>(h'.free b o hb).trans (h.free b o hb),adV h.size h'.size,h.rest.trans h'.rest⟩
def te (Z:b7)(e:Env)(w:World)(st:St)(v:Value):Slot->Prop
 | .box cs=> ∃bG,v=M7 cs bG/\uP Z e w bG cs/\(∀t gO,au st.fr t= .box gO->e.B t≠bG)/\(∀f o,aU st.bh f=some o->(e.E f).ownBlock≠some bG)
 |s=>af e v s/\c8 st.fr s
section
variable {c:Ctx}{Z:b7}{e:Env}{st:St}{a:Act}{w:World}
theorem af.const {v:Value}:af e v (AV v):=by
 unfold AV;split<;>simp only [af,bp,MV.one]<;> first
   |exact ⟨trivial,.b _⟩
   |exact ⟨trivial,.i _ _⟩
   |exact ⟨trivial,.s _⟩
   |exact ⟨trivial,.raw _ rfl⟩
theorem cF.eval (h:cF c Z e st a w)(x:Operand):af e (a.eval x) (bw c st x)/\c8 st.fr (bw c st x):=by
 cases x with
 |tmp t=>
  have hs:=h.slot t;have hr:=h.root t;simp only [Act.eval,bw];cases Lx:plk c.par t with
  |some q=>
   simp only;cases hq:BF q&&c9 (posOf q) t with
   |false=>exact ⟨by simp [af],trivial⟩
   |true=>
    simp only [cond_true];simp only [aaJ] at hq;have hqt:=sh hq.2;have hsq:=h.slot q;split
    ·rename_i cs hfq;rw [hfq] at hsq;cases hm:fR cs with
     |true=>exact ⟨by simp [af],trivial⟩
     |false=>obtain ⟨k1,k2⟩:=hsq.1.2 hq.1;refine ⟨?_,by simp [c8,hfq,dx]⟩;show a.tmps.getD t undef=_;rw [<-hqt,h.defers.2.2.2 _ k1,k2]
    ·exact ⟨by simp [af],trivial⟩
  |none=>
  simp only;generalize hf:au st.fr t=s at hs hr;cases s<;>simp only [cu] at hs<;>try exact ⟨hs,hr⟩
  ·rename_i cs;cases hpt:BF t with
   |true=>simp only [cond_true];exact ⟨by simp [af],trivial⟩
   |false=>
   simp only [cond_false];cases hm:mB cs with
   |true=>simp only [hm,cond_true,af,c8,hf,dx];exact ⟨by rw [hs.1.1 hpt,agQ hm],trivial⟩
   |false=>simp only [hm,cond_false,af,c8,hf,dx];exact ⟨by rw [hs.1.1 hpt,Sc hm],trivial⟩
 |const v=>refine ⟨af.const,?_⟩;simp only [bw];unfold AV;split<;>trivial
 |func f=>simp only [Act.eval,bw,af,bp,MV.one,c8,and_true,true_and];exact .func f _ #[] [] (by rw [h.key]) (by simpa using jk.nil) (by simp)
 |global g=>simp [bw,af,c8]
end
theorem Act.zH {a:Act}{d t:Nat}{v:Value}(hd:d<a.tmps.size):(a.put (some d) v).tmps.getD t undef=if t=d then v else a.tmps.getD t undef:=by
 simp only [Act.put,Array.getD_eq_getD_getElem?,Array.getElem?_setIfInBounds];by_cases h:d=t
 ·subst h;simp [hd]
 ·have h': ¬t=d:=λe=>h e.symm;simp [h,h']
theorem Yz {fr:Fr}{s:Slot}(h:c8 fr s):gj (λ_=>True) (λr=>dx (au fr r)=true) s:=by cases s<;>simp_all [c8,gj,jW]
theorem M9 (r:Fr)(d:Nat)(s:Slot):a7 (cM r d s)=if d∈a7 r then a7 r else a7 r++[d]:=by
 induction r with
 |nil=>simp [cM,a7]
 |cons p r ih=>
  obtain ⟨k,x⟩:=p;simp only [cM,gh];by_cases h:k=d
  ·simp [h,a7]
  ·have h': ¬d=k:=λe=>h e.symm;have ih':afz Prod.fst (cM r d s)=if d∈a7 r then a7 r else a7 r++[d]:=ih
   simp only [h,h',decide_false,cond_false,a7,IT,aaK,false_or,ih'];by_cases hm:d∈a7 r
   ·have hm':d∈afz Prod.fst r:=hm;simp [hm,hm',a7]
   ·have hm':d∉afz Prod.fst r:=hm;simp [hm,hm',a7]
theorem fG {r:Fr}{d:Nat}{s:Slot}(h:(a7 r).Nodup):(a7 (cM r d s)).Nodup:=by
 rw [M9];by_cases hm:d∈a7 r
 ·simpa [hm] using h
 ·simp only [hm,if_false];exact List.nodup_append.2 ⟨h,by simp,by intro x hx y hy;simp at hy;subst hy;intro e;subst e;exact hm hx⟩
section
variable {c:Ctx}{Z:b7}{e:Env}{st:St}{a:Act}{w:World}{R:Type}{K:St->Option R}{r:R}
def Env.C7 (e:Env)(d bG:Nat):Env:={e with B:=λt=>if t=d then bG else e.B t}
theorem uP.env {e e':Env}{bG:Nat}{cs:List aR}(h:uP Z e w bG cs)(hk:e'.key=e.key)(hp:e'.φ=e.φ)(hE:e'.E=e.E)(hm:e'.m=e.m):uP Z e' w bG cs:=by refine ⟨h.dn,?_,λoff=>by rw [hp];exact h.free off⟩;obtain ⟨o,h1,h2⟩:=h.obj;refine ⟨o,h1,h2.on (S:=λ_=>True) (T:=λ_=>False) ⟨hk,by rw [hp];exact .refl _,by simp,?_⟩ (by intro l _ f _;trivial)⟩;intro f o ho _;exact ⟨o,by rw [<-hm];exact ho,by rw [hE],rfl⟩
theorem dI.env {e e':Env}{v:Value}{o:oR}(h:dI c Z e w v o)(hk:e'.key=e.key)(hp:e'.φ=e.φ):dI c Z e' w v o:=by obtain ⟨I,cells,h1,h2,h3,h4,h5⟩:=h.row;exact ⟨I,cells,h1,h2,h3,by rw [hk,hp];exact h4,by rw [hp];exact h5⟩
theorem uP.to {bG:Nat}{cs:List aR}(h:uP Z e w bG cs)(t:Nat):uP (Z.bz t) e w bG cs:=⟨.inr h.dn,h.obj,h.free⟩
theorem dI.to {v:Value}{o:oR}{f:Nat}(h:dI c Z.nc e w v o)(hf:f∉Z.cZ):dI c (Z.fz f) e w v o:=by obtain ⟨I,cells,h1,h2,h3,h4,h5⟩:=h.row;exact ⟨I,cells,h1,h2,h3,h4,λbG hb=>⟨.inr (h5 bG hb).1,(h5 bG hb).2.1,λhc=>absurd hc hf⟩⟩
theorem ey {d:Option Nat}{s:Slot}{v:Value}(h:cF c Z e st a w)(hv:te Z e w st v s)(hK:bV c st d s K=some r): ∃e' cP,cF c Z e' cP (a.put d v) w/\K cP=some r/\e'.φ=e.φ:=by
 cases d with
 |none=>exact ⟨e,st,h,hK,rfl⟩
 |some d=>
  simp only [bV] at hK;cases EM:BF d||(abq c.n d||dx (au st.fr d)) with
  |true=>simp [EM] at hK
  |false=>
   obtain ⟨anH,hb⟩:=abr.1 EM;simp only [EM,cond_false,wr] at hK;cases hp:bU st.dg d with
   |true=>simp [hp] at hK
   |false=>
    simp only [hp,cond_false,force_eq,nG] at hK;simp only [abr] at hb;have hdn:d<a.tmps.size:=by
     rw [h.size];have:=hb.1;by_cases dY:d<c.n
     ·exact dY
     ·have:abq c.n d=true:=aeg (by omega);simp_all
    have hdp:d∉Z.dg:=by intro hm;rw [<-h.defers.2.1,<-b4,hp] at hm;cases hm
    have ajL: ∀fr:Fr,(a.put (some d) v).defers=[]/\({st with fr:=fr}:St).dg=Z.dg/\({st with fr:=fr}:St).cZ=Z.cZ/\ ∀t∈Z.dg,(a.put (some d) v).tmps.getD t undef=Z.T t:=by intro fr;refine ⟨h.defers.1,h.defers.2.1,h.defers.2.2.1,λt ht=> ?_⟩;rw [Act.zH hdn,if_neg (by intro e;subst e;exact hdp ht)];exact h.defers.2.2.2 t ht
    have kl: ∀t,gj (λ_=>True) (λr=>r≠d) (au st.fr t):=by intro t;have:=Yz (h.root t);generalize au st.fr t=x at this;cases x<;>simp_all [gj,jW]<;>(intro e;subst e;simp_all)
    by_cases hs: ∃cs,s= .box cs
    ·obtain ⟨cs,rfl⟩:=hs;obtain ⟨bG,rfl,vD,hnb,hnf⟩:=hv;have vE:lB (λ_=>True) (λr=>r≠d) e (e.C7 d bG):=⟨rfl,.refl _,λr hr=>by simp [Env.C7,hr],λf o ho _=>⟨o,ho,rfl,rfl⟩⟩
     refine ⟨e.C7 d bG,_,?_,hK,rfl⟩;refine ⟨ajL _,by simpa [Act.put] using h.size,h.m,h.key,fG h.nodup,?_,?_,?_,?_,?_,?_,h.qe,h.dn⟩
     ·intro t;rw [Act.zH hdn,ck];by_cases ht:t=d
      ·subst ht;simp only [if_true,cu,Env.C7];exact ⟨.own anH rfl,(vD.to t).env rfl rfl rfl rfl⟩
      ·simp only [ht,if_false];have pO:=h.slot t;have qG:=kl t;generalize au st.fr t=x at pO qG;cases x<;>simp only [cu] at pO⊢ <;>try exact pO.on vE qG
       simp only [Env.C7,ht,if_false];exact ⟨pO.1,pO.2.env rfl rfl rfl rfl⟩
     ·intro t;simp only [ck];by_cases ht:t=d
      ·simp [ht,c8]
      ·simp only [ht,if_false];have qG:=h.root t;have hr2:=kl t;generalize au st.fr t=x at qG hr2;cases x<;>simp_all [c8,ck,gj]
     ·intro f o ho;exact (h.jO f o ho).env rfl rfl
     ·intro t t' dU mQ h1 h2 dG;simp only [ck] at h1 h2;simp only [Env.C7];by_cases ht:t=d
      ·by_cases Cp:t'=d
       ·exact absurd (ht.trans Cp.symm) dG
       ·simp only [Cp,if_false] at h2;simp only [ht,Cp,if_true,if_false];exact λe=>hnb t' mQ h2 e.symm
      ·simp only [ht,if_false] at h1;by_cases Cp:t'=d
       ·simp only [ht,Cp,if_true,if_false];exact hnb t dU h1
       ·simp only [Cp,if_false] at h2;simp only [ht,Cp,if_false];exact h.bb t t' dU mQ h1 h2 dG
     ·intro t dU f o h1 h2;simp only [ck] at h1;simp only [Env.C7];by_cases ht:t=d
      ·simp only [ht,if_true];exact hnf f o h2
      ·simp only [ht,if_false] at h1⊢;exact h.bf t dU f o h1 h2
     ·exact h.ff
    ·have XU:af e v s/\c8 st.fr s:=by cases s<;>simp_all [te]
     refine ⟨e,_,?_,hK,rfl⟩;refine ⟨ajL _,by simpa [Act.put] using h.size,h.m,h.key,fG h.nodup,?_,?_,h.jO,?_,?_,h.ff,h.qe,h.dn⟩
     ·intro t;rw [Act.zH hdn,ck];by_cases ht:t=d
      ·simp only [ht,if_true];cases s<;>simp only [cu]<;>first|exact XU.1|exact absurd ⟨_,rfl⟩ hs
      ·simp only [ht,if_false];exact h.slot t
     ·intro t;simp only [ck];by_cases ht:t=d
      ·simp only [ht,if_true];have hr:=XU.2;cases s<;>simp only [c8,ck] at hr⊢
       ·rename_i r o;by_cases Ps:r=d
        ·subst Ps;simp_all
        ·simp only [Ps,if_false];exact hr
       ·rename_i r;by_cases Ps:r=d
        ·subst Ps;simp_all
        ·simp only [Ps,if_false];exact hr
       ·rename_i r o i;by_cases Ps:r=d
        ·subst Ps;simp_all
        ·simp only [Ps,if_false];exact hr
      ·simp only [ht,if_false];have qG:=h.root t;have hr2:=kl t;generalize au st.fr t=x at qG hr2;cases x<;>simp_all [c8,ck,gj]
     ·intro t t' dU mQ h1 h2 dG;simp only [ck] at h1 h2;by_cases ht:t=d
      ·simp only [ht,if_true] at h1;exact absurd ⟨_,h1⟩ hs
      ·by_cases Cp:t'=d
       ·simp only [Cp,if_true] at h2;exact absurd ⟨_,h2⟩ hs
       ·simp only [ht,Cp,if_false] at h1 h2;exact h.bb t t' dU mQ h1 h2 dG
     ·intro t dU f o h1 h2;simp only [ck] at h1;by_cases ht:t=d
      ·simp only [ht,if_true] at h1;exact absurd ⟨_,h1⟩ hs
      ·simp only [ht,if_false] at h1;exact h.bf t dU f o h1 h2
end
end Dn
/-
  Operations that change no memory: moves, numbers, texts, places. Conditions: none.
-/
namespace Dn
open Go
def Out (c:Ctx)(Z:b7){R:Type}(K:St->Option R)(r:R) (φ:Ph)(w:World) (a':Act) (w':World):Prop:=∃e' cP,cF c Z e' cP a' w'/\Trans Z φ w e'.φ w'/\K cP=some r
section
variable {P:Program}{c:Ctx}{Z:b7}{e:Env}{st:St}{a:Act}{w:World}{R:Type}{K:St->Option R}{r:R}{Q:Exit->Act->World->Prop}{o:Oper}
theorem te.of {s:Slot}{v:Value}(h:af e v s)(hr:c8 st.fr s):te Z e w st v s:=by cases s<;>first|exact ⟨h,hr⟩|(simp [af] at h)
theorem fin {e':Env}{cP:St} {w':World}{s:Slot}{v:Value}(cB:(execOp a.eval o).run P w= .ok (.value v) w')(hs:cF c Z e' cP a w')(ht:Trans Z e.φ w e'.φ w')(hv:te Z e' w' cP v s)(hK:bV c cP o.dst s K=some r):o.wp P a w (Out c Z K r e.φ w) Q:=by unfold af0;rw [cB,aef];obtain ⟨e2,eP,h1,h2,h3⟩:=ey hs hv hK;exact ⟨e2,eP,h1,by rw [h3];exact ht,h2⟩
theorem Un {e':Env}{cP:St} {w':World}(cB:(execOp a.eval o).run P w= .ok .skip w')(hs:cF c Z e' cP a w')(ht:Trans Z e.φ w e'.φ w')(hK:bV c cP o.dst (.sc .un) K=some r):o.wp P a w (Out c Z K r e.φ w) Q:=by unfold af0;rw [cB,Oper.upon_skip];obtain ⟨e2,eP,h1,h2,h3⟩:=ey (v:=undef) hs (by simp [te,af,c8]) hK;exact ⟨e2,eP,h1,by rw [h3];exact ht,h2⟩
theorem YA {e':Env}{cP:St} {w':World}{s:Slot}{v:Value}(hg:eI w w')(cB:(execOp a.eval o).run P w= .ok (.value v) w')(hs:cF c Z e' cP a w')(ht:Trans Z e.φ w e'.φ w')(hv:te Z e' w' cP v s)(hK:bV c cP o.dst s K=some r):o.wp P a w (λa' w'=>eI w w'/\Out c Z K r e.φ w a' w') Q:=by unfold af0;rw [cB,aef];obtain ⟨e2,eP,h1,h2,h3⟩:=ey hs hv hK;exact ⟨hg,e2,eP,h1,by rw [h3];exact ht,h2⟩
def Rd (P:Program)(c:Ctx)(Z:b7){R:Type}(K:St->Option R)(r:R)(e:Env)(a:Act)(w:World)(o:Oper)(G:World->Prop):Prop:=∃v,(∀w',G w'->(execOp a.eval o).run P w'= .ok (.value v) w')/\Out c Z K r e.φ w (a.put o.dst v) w
theorem Rd.wp {G:World->Prop}(h:Rd P c Z K r e a w o G)(hg:G w):o.wp P a w (Out c Z K r e.φ w) Q:=by obtain ⟨v,h1,h2⟩:=h;unfold af0;rw [h1 w hg,aef];exact h2
theorem VT {G:World->Prop} {e':Env}{cP:St}{s:Slot}{v:Value}(cB: ∀w':World,G w'->(execOp a.eval o).run P w'= .ok (.value v) w')(hs:cF c Z e' cP a w)(ht:Trans Z e.φ w e'.φ w)(hv:te Z e' w cP v s)(hK:bV c cP o.dst s K=some r):Rd P c Z K r e a w o G:=by obtain ⟨e2,eP,h1,h2,h3⟩:=ey hs hv hK;exact ⟨v,cB,e2,eP,h1,by rw [h3];exact ht,h2⟩
theorem ku {s:Slot}{v:Value}(h:cF c Z e st a w)(cB: ∀w':World,(execOp a.eval o).run P w'= .ok (.value v) w')(hv:af e v s)(hr:c8 st.fr s)(hK:bV c st o.dst s K=some r):Rd P c Z K r e a w o (λ_=>True):=VT (λw' _=>cB w') h (.refl _ _ _) (.of hv hr) hK
theorem H5 {v:Value}{x:Bool}(h:af e v (.sc (.p (.b x)))):v= .bool x:=by simp only [af,bp] at h;obtain ⟨_,h⟩:=h;generalize hv:[v]=vs at h;cases h;simpa using hv
theorem pS {v:Value}{k:IntKind}{n:Int}(h:af e v (.sc (.p (.i k n)))):v= .int k n:=by simp only [af,bp] at h;obtain ⟨_,h⟩:=h;generalize hv:[v]=vs at h;cases h;simpa using hv
theorem FR {v:Value}{l:List UInt8}(h:af e v (.sc (.p (.s l)))): ∃b:ByteArray,v= .string b/\l=b.data.toList:=by simp only [af,bp] at h;obtain ⟨_,h⟩:=h;generalize hv:[v]=vs at h;cases h;exact ⟨_,by simpa using hv,rfl⟩
theorem C8 (x:Bool):af e (.bool x) (.sc (.p (.b x))):=by simp only [af,bp];exact ⟨rfl,.b x⟩
theorem zI (k:IntKind)(n:Int):af e (.int k n) (.sc (.p (.i k n))):=by simp only [af,bp];exact ⟨rfl,.i k n⟩
theorem acy (b:ByteArray):af e (.string b) (.sc (.p (.s b.data.toList))):=by simp only [af,bp];exact ⟨rfl,.s b⟩
theorem Na {v u:Value}(h:af e v (.sc (.p (.raw u)))):v=u:=by simp only [af,bp] at h;obtain ⟨_,h⟩:=h;generalize hv:[v]=vs at h;cases h;simpa using hv
theorem YB (u:Value)(h:u.oneCell'=true):af e u (.sc (.p (.raw u))):=by simp only [af,bp];exact ⟨rfl,.raw u h⟩
theorem Nb {x:Operand}(ho:o.op= .move x\/o.op= .assign x)(h:cF c Z e st a w)(hK:bV c st o.dst (bw c st x) K=some r): Rd P c Z K r e a w o (λ_=>True):=by obtain ⟨h1,h2⟩:=h.eval x;refine ku h ?_ h1 h2 hK;rcases ho with ho|ho<;>simp [execOp,ho]
theorem Pt {x:Operand}(ho:o.op= .nilCheck x)(h:cF c Z e st a w)(hK:agG (bw c st x) (λs=>bV c st o.dst s K)=some r):Rd P c Z K r e a w o (λ_=>True):=by
 obtain ⟨h1,h2⟩:=h.eval x;unfold agG at hK;split at hK
 ·rename_i oM;rw [oM] at h1 h2;refine ku h ?_ (v:=a.eval x) h1 h2 hK;simp only [af] at h1;simp [execOp,ho,h1]
 ·rename_i oM;rw [oM] at h1 h2;refine ku h ?_ (v:=a.eval x) h1 h2 hK;simp only [af] at h1;obtain ⟨bG,q,vs,KB,h3⟩:=h1;simp [execOp,ho,KB]
 ·simp at hK
theorem acz {x y z:Operand}(ho:o.op= .pick x y z)(h:cF c Z e st a w)(hK:Ye (bw c st x) (bw c st y) (bw c st z) (λs=>bV c st o.dst s K)=some r):Rd P c Z K r e a w o (λ_=>True):=by
 obtain ⟨hx,_⟩:=h.eval x;obtain ⟨hy,hy2⟩:=h.eval y;obtain ⟨hz,YC⟩:=h.eval z;have cB: ∀v,a.eval x= .bool v-> ∀w:World,(execOp a.eval o).run P w= .ok (.value (if v then a.eval y else a.eval z)) w:=by intro v hv w;simp [execOp,ho,hv,asBool]
 unfold Ye at hK;split at hK
 ·rename_i v hv;have hxv:=H5 (by rw [hv] at hx;exact hx);have hr:=cB v hxv;split at hK
  ·rename_i p q hp hq;rw [hp] at hy;rw [hq] at hz;simp only [H5 hy,H5 hz] at hr;refine ku h hr ?_ (s:= .sc (.p (.b (bif v then p else q)))) trivial hK;cases v
   ·exact C8 q
   ·exact C8 p
  ·cases v
   ·exact ku h hr hz YC hK
   ·exact ku h hr hy hy2 hK
 ·simp at hK
theorem acA {op:UnOp}{ty:TypeId}{x:Operand}(ho:o.op= .unOp op ty x)(h:cF c Z e st a w)(hK:unK op (bw c st x) (λs=>bV c st o.dst s K)=some r):Rd P c Z K r e a w o (λ_=>True):=by
 obtain ⟨hx,_⟩:=h.eval x;generalize bw c st x=s at hx hK;unfold unK at hK;split at hK
 ·refine ku h ?_ (C8 _) trivial hK;simp [execOp,ho,H5 hx,Op.unary]
 ·refine ku h ?_ (zI _ _) trivial hK;simp [execOp,ho,pS hx,Op.unary,aeh]
 ·simp at hK
end
end Dn
/-
  The type table; numbers, texts, places, loads. Conditions: none.
-/
namespace Dn
open Go
def GK:List Kd->Nat
 |[]=>0
 | .h::r=>32+GK r
 |_::r=>1+GK r
def uA (ti:Nat->Option TI)(P:Program)(I:TI)(z:Option Value):TypeDesc->Prop
 | .struct fs=>I.st=true/\I.dw=[]/\(0<I.size/\GK I.lay=I.size)/\fs.toList.map (·.offset)=I.zf/\fs.toList.map (·.type)=I.VL/\ (∀(k:Nat) (f:Field),fs[k]? =some f-> ∃J,ti f.type=some J/\J.dw=[]/\0<J.size)/\ ∃cs,z=some (.agg cs)/\uO I.zero cs.toList=true/\cs.size=I.size
 | .tuple ts=>I.dw=ts.toList/\I.dw≠[]/\I.lay=[]/\I.st=false
 | .slice el=>I.st=false/\I.dw=[]/\I.size=1/\I.elem=el/\(∃E,ti el=some E/\E.dw=[]/\0<E.size)/\z=some (.slice none 0 0)/\I.zero=[.nil]/\(∃k,I.lay=[k]/\k= .l)
 | .array n el=>I.st=false/\I.dw=[]/\I.size=32/\n=32/\I.elem=el/\(∃i,P.underlying el=some (.int .u8)/\P.info? el=some i/\i.size=1)/\I.lay=[.h]/\I.zero=[.hs lR.zero]/\z=some (.agg (bR lR.zero).toArray)
 | .bool=>I.st=false/\I.dw=[]/\I.size=1/\I.lay=[.b]/\I.zero=[.p (.b false)]/\z=some (.bool false)
 | .int k=>I.st=false/\I.dw=[]/\I.size=1/\I.lay=[.i k]/\I.zero=[.p (.i k 0)]/\z=some (.int k 0)
 | .string=>I.st=false/\I.dw=[]/\I.size=1/\I.lay=[.s]/\I.zero=[.p (.s [])]/\ ∃b:ByteArray,z=some (.string b)/\b.data.toList=[]
 |_=>I.st=false/\I.dw=[]/\I.size=1/\I.lay=[.raw]/\ ∃v,z=some v/\v.oneCell'=true/\uO I.zero [v]=true
def om (ti:Nat->Option TI)(P:Program)(t:Nat)(I:TI):Prop:=∃d i,P.underlying t=some d/\P.info? t=some i/\(I.dw=[]->i.size=I.size/\i.bytes=I.bytes)/\uA ti P I i.zero d
def lW (P:Program)(ti:Nat->Option TI):Prop:= ∀t I,ti t=some I->om ti P t I
section
variable {P:Program}{c:Ctx}{Z:b7}{e:Env}{st:St}{a:Act}{w:World}{R:Type}{K:St->Option R}{r:R}{Q:Exit->Act->World->Prop}{o:Oper}
theorem gk {x:Bool}{k:Option R}(h:bP x k=some r):x=true/\k=some r:=by
 cases x
 ·simp [bP] at h
 ·exact ⟨rfl,h⟩
theorem qH {α:Type}{x:Option α}{k:α->Option R}(h:bd x k=some r): ∃y,x=some y/\k y=some r:=by
 cases x with
 |none=>simp [bd] at h
 |some y=>exact ⟨y,rfl,h⟩
theorem Pu {l:List MV}{i:Int}{k:MV->Option R}(h:idx l i k=some r):0<=i/\ ∃y,l[i.toNat]? =some y/\k y=some r:=by
 unfold idx agE at h;by_cases hi:0<=i
 ·simp only [hi,if_true] at h;cases hl:l[i.toNat]? with
  |none=>simp [hl] at h
  |some y=>exact ⟨hi,y,rfl,by simpa [hl] using h⟩
 ·simp [hi] at h
theorem om.agg {ti:Nat->Option TI}{t:Nat}{I:TI}(h:om ti P t I)(hc:I.dw=[]): (∃d,P.underlying t=some d/\d.isRow=true/\(I.st=true\/I.st=false/\I.size=32))\/(∃d,P.underlying t=some d/\d.isRow=false/\I.st=false/\I.size=1):=by
 obtain ⟨d,i,h1,h2,h3,h4⟩:=h;cases d<;>simp only [uA] at h4<;>first
  |exact .inl ⟨_,h1,rfl,.inl h4.1⟩
  |exact .inl ⟨_,h1,rfl,.inr ⟨h4.1,h4.2.2.1⟩⟩
  |exact .inr ⟨_,h1,rfl,h4.1,h4.2.2.1⟩
  |exact absurd hc h4.2.1
theorem om.info {ti:Nat->Option TI}{t:Nat}{I:TI}(h:om ti P t I)(hc:I.dw=[]): ∃i,P.info? t=some i/\i.size=I.size/\i.bytes=I.bytes:=by obtain ⟨d,i,h1,h2,h3,h4⟩:=h;exact ⟨i,h2,h3 hc⟩
theorem b8 {t:Nat}{I:TI}(h:c.tv t=some I):c.ti t=some I/\I.dw=[]:=by
 unfold Ctx.tv at h;cases hc:c.ti t with
 |none=>simp [hc] at h
 |some J=>
  cases hj:J.dw with
  |nil=>simp [hc,hj] at h;subst h;exact ⟨rfl,hj⟩
  |cons x y=>simp [hc,hj] at h
theorem Se {s t:TypeId}{x:Operand}{I:TI}(ho:o.op= .convert s t x)(hI:c.ti t=some I)(hT:lW P c.ti)(hs: ∃d,P.underlying s=some d){fk:Option FloatKind}(hfk: ∀k,fk=some k->P.underlying t=some (.float k))(h:cF c Z e st a w)(hK:Yf I fk (bw c st x) (λs=>bV c st o.dst s K)=some r):Rd P c Z K r e a w o (λ_=>True):=by
 obtain ⟨hx,_⟩:=h.eval x;obtain ⟨ds,hds⟩:=hs;obtain ⟨d,i,h1,h2,h3,h4⟩:=hT t I hI;generalize bw c st x=s' at hx hK;unfold Yf at hK;split at hK
 ·rename_i k k' n eR Hj hl;have hd:d= .int k:=by cases d<;>simp only [uA,hl,eR,Hj] at h4<;>simp_all
  subst hd;refine ku h ?_ (zI _ _) trivial hK;simp [execOp,ho,pS hx,convert,run_underlying hds,run_underlying h1,Conv.intToInt]
 ·rename_i l eR Hj hl;have hd:d= .string:=by cases d<;>simp only [uA,hl,eR,Hj] at h4<;>simp_all
  subst hd;obtain ⟨b,hb,rfl⟩:=FR hx;refine ku h ?_ (acy b) trivial hK;simp [execOp,ho,hb,convert,run_underlying hds,run_underlying h1]
 ·rename_i k x eR Hj hl;have hd:d= .int k:=by cases d<;>simp only [uA,hl,eR,Hj] at h4<;>simp_all
  subst hd;obtain ⟨n,hn,hK⟩:=qH hK;obtain ⟨hr,hK⟩:=gk hK;have hr:=of_decide_eq_true hr;refine ku h ?_ (zI _ _) trivial hK;simp [execOp,ho,Na hx,convert,run_underlying hds,run_underlying h1,Conv.floatToInt,hn,hr]
 ·rename_i k n eR Hj hl;split at hK
  ·have KB:=hfk _ rfl;refine ku h ?_ (YB _ rfl) trivial hK;simp [execOp,ho,pS hx,convert,run_underlying hds,run_underlying KB,Conv.intToFloat]
  ·simp at hK
 ·simp at hK
theorem acB {op:BinOp}{k:IntKind}{x y:Int}{m:MV}{t:TypeId}(hm:Uf op k x y=some m): ∃v,(∀w:World,(binOp op t (.int k x) (.int k y)).run P w= .ok v w)/\af e v (.sc (.p m)):=by
 cases op<;>simp only [Uf,AT,reduceCtorEq] at hm<;>subst hm
 ·exact ⟨_,by simp [binOp,aeh],zI _ _⟩
 ·exact ⟨_,by simp [binOp,aeh],zI _ _⟩
 ·exact ⟨_,by simp [binOp,aeh],zI _ _⟩
 ·refine ⟨.bool (decide (x=y)),λw=> ?_,C8 _⟩;simp [binOp,ads];rfl
 ·refine ⟨.bool (!decide (x=y)),λw=> ?_,C8 _⟩;simp [binOp,ads];rfl
 ·exact ⟨.bool (decide (x<y)),by simp [binOp,ads],C8 _⟩
 ·exact ⟨.bool (decide (x<=y)),by simp [binOp,ads],C8 _⟩
 ·exact ⟨.bool (decide (y<x)),by simp [binOp,ads],C8 _⟩
 ·exact ⟨.bool (decide (y<=x)),by simp [binOp,ads],C8 _⟩
theorem toList_data (b:ByteArray):b.toList=b.data.toList:=by exact ByteArray.toList_eq b
theorem acC {op:BinOp}{x y:ByteArray}{m:MV}{t:TypeId}(hm:M0 op x.data.toList y.data.toList=some m): ∃v,(∀w:World,(binOp op t (.string x) (.string y)).run P w= .ok v w)/\af e v (.sc (.p m)):=by
 have anJ:(x.data.toList==y.data.toList)=decide (x.data.toList=y.data.toList):=by rw [Bool.eq_iff_iff];simp
 cases op<;>simp only [M0,AT,reduceCtorEq] at hm<;>subst hm<;> exact ⟨_,λw=>by simp only [binOp,Op.stringOp,toList_data,anJ];rfl,C8 _⟩
theorem VU (b:ByteArray)(n:Nat):b[n]? =b.data.toList[n]? :=by
 by_cases h:n<b.size
 ·have h2:n<b.data.toList.length:=by simpa using h
  rw [getElem?_pos b n h,By h2];rfl
 ·have h2: ¬n<b.data.toList.length:=by simpa using h
  rw [getElem?_neg b n h,acr (by omega)]
theorem Cq (x:lR)(n:Nat)(h:n<32):(bR x)[n]? =some (.int .u8 ((x.l.getD n 0).toNat:Int)):=by
 have hl:n<x.l.length:=by rw [x.h];exact h
 simp [bR,ab9,List.getD,By hl]
theorem ajM {t:TypeId}{x y:Operand}{I:TI}(ho:o.op= .index t x y)(hI:c.ti t=some I)(hT:lW P c.ti)(h:cF c Z e st a w)(hK:ixK I (bw c st x) (bw c st y) (λs=>bV c st o.dst s K)=some r):Rd P c Z K r e a w o (λ_=>True):=by
 obtain ⟨hx,_⟩:=h.eval x;obtain ⟨hy,_⟩:=h.eval y;obtain ⟨d,i,h1,h2,h3,h4⟩:=hT t I hI;generalize bw c st x=sx at hx hK;generalize bw c st y=sy at hy hK;unfold ixK at hK;split at hK
 ·rename_i l k n eR hl;have hd:d= .string:=by cases d<;>simp only [uA,hl,eR] at h4<;>simp_all
  subst hd;cases hc:decide ((0:Int)<=n/\n<(l.length:Int)) with
  |false=>simp [bP,hc] at hK
  |true=>
   simp only [bP,hc] at hK;obtain ⟨hn0,KH⟩:=of_decide_eq_true hc;obtain ⟨b,hb,rfl⟩:=FR hx;have dY:n.toNat<b.data.toList.length:=by omega
   refine ku h ?_ (zI .u8 ((b.data.toList.getD n.toNat 0).toNat:Int)) trivial hK;have hg:b[n.toNat]? =some (b.data.toList.getD n.toNat 0):=by rw [VU,By dY];simp [List.getD,By dY]
   simp [execOp,ho,hb,pS hy,Instr.index,run_underlying h1,asIntOf,hn0,hg]
 ·rename_i b k n eR hl;cases d<;>simp only [uA,hl,eR] at h4<;>first|(exfalso;simp_all;done)|skip
  rename_i len el;cases hc:decide ((0:Int)<=n/\n<32) with
  |false=>simp [bP,hc] at hK
  |true=>
   simp only [bP,hc] at hK;obtain ⟨hn0,KH⟩:=of_decide_eq_true hc;simp only [af] at hx;obtain ⟨_,_,_,rfl,_,⟨ie,hu,oP,yP⟩,_⟩:=h4;refine ku h ?_ (zI .u8 ((b.l.getD n.toNat 0).toNat:Int)) trivial hK;have hg:=Cq b n.toNat (by omega);have hg':(bR b).toArray[n.toNat]? =some (.int .u8 ((b.l.getD n.toNat 0).toNat:Int)):=by simpa using hg
   simp [execOp,ho,hx,pS hy,Instr.index,run_underlying h1,asIntOf,hn0,KH,afy,isAgg,run_underlying hu,acd,typeInfo,oP,yP,hg,hg']
 ·simp at hK
def Sf (P:Program)(ti:Nat->Option TI):Prop:= ∀t I,ti t=some I->I.dw=[]-> ∀(e:Env) (w:World) (vx vy:Value) (sx sy:Slot) (b:Bool),af e vx sx->af e vy sy-> jV I.lay (bn sx)=true->jV I.lay (bn sy)=true->vB I.st sx=true->vB I.st sy=true->jU (bn sx) (bn sy)=some b-> (∀k n k' n',sx= .sc (.p (.i k n))->sy= .sc (.p (.i k' n'))->False)->(∀l l',sx= .sc (.p (.s l))->sy= .sc (.p (.s l'))->False)-> (af2 t vx vy).run P w= .ok b w/\ ∀(x y:Operand) (op:BinOp),(eqGuard op t x y vx vy).run P w= .ok () w/\(op= .eql->binOp op t vx vy=(do pure (.bool (<-af2 t vx vy))))/\(op= .neq->binOp op t vx vy=(do pure (.bool (!(<-af2 t vx vy)))))
theorem YD {op:BinOp} {t t':TypeId}{x y:Operand}(ho:o.op= .binOp op t x y t')(h:cF c Z e st a w)(hE:Sf P c.ti)(hK:agF (c.tv t) op (bw c st x) (bw c st y) (λs=>bV c st o.dst s K)=some r):Rd P c Z K r e a w o (λ_=>True):=by
 obtain ⟨hx,_⟩:=h.eval x;obtain ⟨hy,_⟩:=h.eval y;generalize hsx:bw c st x=sx at hx hK;generalize hsy:bw c st y=sy at hy hK;have cB: ∀v,(∀w:World,(binOp op t (a.eval x) (a.eval y)).run P w= .ok v w)->(∀cs,a.eval x≠ .agg cs)->a.eval x≠ .nilIface-> ∀w:World,(execOp a.eval o).run P w= .ok (.value v) w:=by
  intro v hv hna hni w;have hg:(eqGuard op t x y (a.eval x) (a.eval y)).run P w= .ok () w:=by
   generalize a.eval x=va at hna hni;generalize a.eval y=vb;have hm: ∀(u v:Value),u=va->(∀cs,u≠ .agg cs)->u≠ .nilIface->(eqGuard op t x y u v).run P w= .ok () w:=by
    intro u v _ h1 h2;cases u<;>first
     |exact absurd rfl h2
     |exact absurd rfl (h1 _)
     |(cases op<;>rfl)
   exact hm va vb rfl hna hni
  simp [execOp,ho,hg,hv]
 unfold agF at hK;split at hK
 ·rename_i k n k' n';have e1:=pS hx;have e2:=pS hy;split at hK
  ·cases hk:decide (k=k') with
   |false=>simp [hk] at hK
   |true=>
    have hk:=of_decide_eq_true hk;subst hk;simp only [decide_true,cond_true] at hK;cases hz:decide (n'=0) with
    |true=>simp [bP,hz] at hK
    |false=>simp only [bP,hz,afB] at hK;have hz:=of_decide_eq_false hz;refine ku h (cB _ ?_ (by simp [e1]) (by simp [e1])) (zI _ _) trivial hK;simp [binOp,e1,e2,Op.intDiv,hz]
  ·cases hk:decide (k=k') with
   |false=>simp [hk] at hK
   |true=>
    have hk:=of_decide_eq_true hk;subst hk;simp only [decide_true,cond_true] at hK;cases hz:decide (n'=0) with
    |true=>simp [bP,hz] at hK
    |false=>simp only [bP,hz,afB] at hK;have hz:=of_decide_eq_false hz;refine ku h (cB _ ?_ (by simp [e1]) (by simp [e1])) (zI _ _) trivial hK;simp [binOp,e1,e2,Op.intDiv,hz]
  ·cases hz:decide ((0:Int)<=n') with
   |false=>simp [bP,hz] at hK
   |true=>
    simp only [bP,hz] at hK;have hz:=of_decide_eq_true hz;refine ku h (cB _ ?_ (by simp [e1]) (by simp [e1])) (zI _ _) trivial hK;have: ¬n'<0:=by omega
    simp [binOp,e1,e2,Op.shift,this]
  ·cases hz:decide ((0:Int)<=n') with
   |false=>simp [bP,hz] at hK
   |true=>
    simp only [bP,hz] at hK;have hz:=of_decide_eq_true hz;refine ku h (cB _ ?_ (by simp [e1]) (by simp [e1])) (zI _ _) trivial hK;have: ¬n'<0:=by omega
    simp [binOp,e1,e2,Op.shift,this]
  ·cases hk:decide (k=k') with
   |false=>simp [hk] at hK
   |true=>
    have hk:=of_decide_eq_true hk;subst hk;simp only [decide_true,cond_true] at hK;cases hm:Uf op k n n' with
    |none=>simp [hm] at hK
    |some m=>simp only [hm] at hK;obtain ⟨v,hv,hr⟩:=acB (P:=P) (e:=e) (t:=t) hm;exact ku h (cB v (by rw [e1,e2];exact hv) (by simp [e1]) (by simp [e1])) hr trivial hK
 ·rename_i l l';obtain ⟨b,hb,rfl⟩:=FR hx;obtain ⟨b',EU,rfl⟩:=FR hy;split at hK
  ·obtain ⟨hz,hK⟩:=gk hK
   ·have hz:=of_decide_eq_true hz;have hr:af e (.string (b++b')) (.sc (.p (.s (b.data.toList++b'.data.toList)))):=by have:=acy (e:=e) (b++b');simpa [ByteArray.data_append] using this
    refine ku h (cB _ ?_ (by simp [hb]) (by simp [hb])) hr trivial hK;have hs: ¬(((b.size+b'.size:Nat):Int)>IntKind.i64.max):=by
     have h1:b.size=b.data.toList.length:=by simp
     have h2:b'.size=b'.data.toList.length:=by simp
     have:IntKind.i64.max=9223372036854775807:=by decide
     rw [this];omega
    intro w;simp only [binOp,hb,EU,Op.stringOp,hs,if_false];rfl
  ·cases hm:M0 op b.data.toList b'.data.toList with
   |none=>simp [hm] at hK
   |some m=>simp only [hm] at hK;obtain ⟨v,hv,hr⟩:=acC (P:=P) (e:=e) (t:=t) hm;exact ku h (cB v (by rw [hb,EU];exact hv) (by simp [hb]) (by simp [hb])) hr trivial hK
 ·have e1:=Na hx;have e2:=Na hy;obtain ⟨r',hr',hK⟩:=qH hK;refine ku h (cB _ ?_ (by simp [e1]) (by simp [e1])) (YB (.float .f64 r') rfl) trivial hK;intro w;cases op<;>simp only [ajC,reduceCtorEq] at hr'<;>simp [binOp,e1,e2,Op.floatArith,hr']
 ·rename_i KH GL hn3;split at hK
  ·rename_i I hI;obtain ⟨O0,RQ⟩:=b8 hI;cases hf:jV I.lay (bn sx)&&jV I.lay (bn sy)&&(vB I.st sx&&vB I.st sy) with
   |false=>simp [hf] at hK
   |true=>
    simp only [hf,cond_true] at hK;simp only [aaJ] at hf;obtain ⟨hf,hsh⟩:=hf;split at hK
    ·cases hm:jU (bn sx) (bn sy) with
     |none=>simp [hm] at hK
     |some b=>simp only [hm] at hK;refine ku h ?_ (C8 b) trivial hK;intro w;obtain ⟨h1,h2⟩:=hE t I O0 RQ e w _ _ sx sy b hx hy hf.1 hf.2 hsh.1 hsh.2 hm KH GL;have:=(h2 x y .eql).1;simp [execOp,ho,this,(h2 x y .eql).2.1 rfl,h1]
    ·cases hm:jU (bn sx) (bn sy) with
     |none=>simp [hm] at hK
     |some b=>simp only [hm] at hK;refine ku h ?_ (C8 (!b)) trivial hK;intro w;obtain ⟨h1,h2⟩:=hE t I O0 RQ e w _ _ sx sy b hx hy hf.1 hf.2 hsh.1 hsh.2 hm KH GL;have:=(h2 x y .neq).1;simp [execOp,ho,this,(h2 x y .neq).2.2 rfl,h1]
    ·simp at hK
  ·simp at hK
end
end Dn
/-
  Lengths, parts, places, loads. Conditions: none.
-/
namespace Dn
open Go
section
variable {P:Program}{c:Ctx}{Z:b7}{e:Env}{st:St}{a:Act}{w:World}{R:Type}{K:St->Option R}{r:R}{Q:Exit->Act->World->Prop}{o:Oper}
theorem cell_of {bG:Nat}{arr:Array Value}{T:TypeId}{fr:Nat×Nat}(h:w.heap[bG]? =some (.cells arr T fr))(j:Nat):w.cell? ⟨bG,j,none⟩=arr[j]? :=by simp [World.cell?,h]
theorem oV {t:TypeId}{I:TI}{bG off:Nat}{vs:List Value}(hr:om c.ti P t I)(hc:I.dw=[])(hl:vs.length=I.size)(hm:w.rangeAt bG off vs): ((I.st=true\/I.size=32)/\ ∀w:World,w.rangeAt bG off vs->(acN t (.pointer (some ⟨bG,off,none⟩))).run P w= .ok (.agg vs.toArray) w)\/ (I.st=false/\ ∃v,vs=[v]/\ ∀w:World,w.rangeAt bG off vs->(acN t (.pointer (some ⟨bG,off,none⟩))).run P w= .ok v w):=by
 obtain ⟨i,hi,hs,_⟩:=hr.info hc;rcases hr.agg hc with ⟨d,hu,hd,hh⟩|⟨d,hu,hd,h1,h2⟩
 ·refine .inl ⟨hh.imp id (·.2),λw hm=> ?_⟩;exact run_loadAt_mid w bG off t vs d hm hu hd (by simp [hi,hs,hl])
 ·refine .inr ⟨h1,?_⟩;rw [h2] at hl;obtain ⟨v,rfl⟩:=adW.1 hl;refine ⟨v,rfl,λw hm=> ?_⟩;have uQ:w.cell? ⟨bG,off,none⟩=some v:=hm 0 v rfl;have hag:(isAgg t).run P w= .ok false w:=by unfold isAgg;rw [aen,run_underlying hu w];cases d<;>simp_all
  simp [acN,acT,loadVar,hag,uQ]
theorem bp.slot {vs:List Value}{l:aR}{v:Value}(h:bp e vs l)(hv:(vs=[v]/\l.w=1)\/(v= .agg vs.toArray/\l.w=32)):af e v (.sc l):=by
 rcases hv with ⟨rfl,hw⟩|⟨rfl,hw⟩
 ·cases l<;>simp [af,aR.w] at hw⊢ <;>exact h
 ·cases l<;>simp [aR.w] at hw;simp only [af];have:vs=bR _:=h;rw [this]
theorem kv {t:TypeId}{I:TI}{cs:List aR}{bG base off:Nat}{vs:List Value}{s:Slot} {K':Slot->Option R}(hr:om c.ti P t I)(hc:I.dw=[])(hv:aJ e vs cs)(hm:w.rangeAt bG base vs)(hK:kQ I cs off K'=some r): ∃v s,(∀w:World,w.rangeAt bG base vs->(acN t (.pointer (some ⟨bG,base+off,none⟩))).run P w= .ok v w)/\af e v s/\c8 st.fr s/\K' s=some r:=by
 unfold kQ at hK;cases eR:I.st with
 |true=>
  simp only [eR,cond_true] at hK;cases hp:Dn.part cs off I.size with
  |none=>simp [hp] at hK
  |some ds=>
   simp only [hp] at hK;obtain ⟨v1,v2,v3,rfl,h1,h2,h3⟩:=Lu hp hv;have Uo: ∀w:World,w.rangeAt bG base (v1++v2++v3)->w.rangeAt bG (base+off) v2:=by intro w hm j v hj;have Ly:j<v2.length:=(AS.1 hj).1;have:=hm (off+j) v (by rw [AI,No (by omega),OF (by omega)];rw [show off+j-v1.length=j by omega];exact hj);rwa [<-acD] at this
   rcases oV hr hc h2 (Uo w hm) with ⟨_,cB⟩|⟨hf,_⟩
   ·refine ⟨_,.ag ds,λw hm=>cB w (Uo w hm),?_,trivial,hK⟩;simp only [af];exact ⟨_,rfl,by simpa using h3⟩
   ·rw [eR] at hf;cases hf
 |false=>
  simp only [eR,cond_false] at hK;cases hp:cut cs off with
  |none=>simp [hp] at hK
  |some ds=>
   cases ds with
   |nil=>simp [hp] at hK
   |cons l ls=>
    simp only [hp] at hK;cases hb:c9 l.w I.size with
    |false=>simp [hb] at hK
    |true=>
     simp only [hb,cond_true] at hK;have hw:=sh hb;obtain ⟨v1,v2,rfl,h1,h2⟩:=zG hp hv;obtain ⟨u,u2,rfl,h3,h4⟩:=h2;have Uo: ∀w:World,w.rangeAt bG base (v1++(u++u2))->w.rangeAt bG (base+off) u:=by intro w hm j v hj;have Ly:j<u.length:=(AS.1 hj).1;have:=hm (off+j) v (by rw [No (by omega),OF (by omega)];rw [show off+j-v1.length=j by omega];exact hj);rwa [<-acD] at this
     rcases oV hr hc (by rw [h3.width,hw]) (Uo w hm) with ⟨hh,cB⟩|⟨_,v,VV,cB⟩
     ·refine ⟨_,.sc l,λw hm=>cB w (Uo w hm),h3.slot (.inr ⟨rfl,?_⟩),trivial,hK⟩;rcases hh with hh|hh
      ·rw [eR] at hh;cases hh
      ·rw [hw,hh]
     ·refine ⟨_,.sc l,λw hm=>cB w (Uo w hm),h3.slot (.inl ⟨VV,?_⟩),trivial,hK⟩;rw [<-h3.width,VV];rfl
theorem bx.at {key:Nat->Nat} {φ:Ph}{size:Nat}{xs:List MV}: ∀{cs:List Value}{i:Nat}{x:MV},bx key φ size cs xs->xs[i]? =some x-> ∃a v b,cs=a++v++b/\a.length=i *size/\v.length=size/\ni key φ v x:=by
 induction xs with
 |nil=>intro cs i x _ hx;simp at hx
 |cons y ys ih=>
  intro cs i x h hx;obtain ⟨v,q,rfl,hl,hr,he⟩:=h;cases i with
  |zero=>simp at hx;subst hx;exact ⟨[],v,q,by simp,by simp,hl,hr⟩
  |succ i=>obtain ⟨a,u,b,rfl,h1,h2,h3⟩:=ih he (by simpa using hx);exact ⟨v++a,u,b,by simp,by simp [hl,h1,acj,aeo],h2,h3⟩
theorem jk.leaves {ms:List MV}: ∀{vs:List Value}{cs:List aR},jk e.key e.φ vs ms->ea cs=some ms->(∀m,aR.p m∈cs->m.one=true)->aJ e vs cs:=by
 induction ms with
 |nil=>
  intro vs cs h hc _;cases h;cases cs with
  |nil=>rfl
  |cons l r=>cases hr:ea r<;>cases l<;>simp [ea,hr] at hc
 |cons m ms ih=>
  intro vs cs h hc ho;cases cs with
  |nil=>simp [ea] at hc
  |cons l r=>
   generalize B1:vs=Sg at h;cases h with
   |cons v _ vs _ h1 h2=>
   subst B1;cases hr:ea r with
   |none=>cases l<;>simp [ea,hr] at hc
   |some q=>
    have dh: ∀m,aR.p m∈r->m.one=true:=λm hm=>ho m (by simp [hm]);cases l<;>simp [ea,hr] at hc
    ·obtain ⟨rfl,rfl⟩:=hc;exact ⟨v,vs,rfl,⟨ho _ (by simp),h1⟩,ih h2 hr dh⟩
    ·obtain ⟨rfl,rfl⟩:=hc;refine ⟨v,vs,rfl,?_,ih h2 hr dh⟩;generalize hv:v=v' at h1;cases h1;exact rfl
theorem ni.H6 {vs:List Value}{x:MV}{b:Bool}{cs:List aR}(h:ni e.key e.φ vs x)(hc:HW b x cs):aJ e vs cs:=by
 obtain ⟨⟨ms,h1,h2⟩,h3⟩:=hc;cases b with
 |true=>cases ms<;>simp [C0] at h2<;>subst h2<;>(generalize hv:vs=v' at h;cases h;subst hv;rename_i hh;exact hh.leaves h1 h3)
 |false=>
  cases ms with
  |nil=>simp [C0] at h2
  |cons m ms=>
   cases ms with
   |cons y ys=>simp [C0] at h2
   |nil=>simp [C0] at h2;subst h2;have:jk e.key e.φ (vs++[]) [m]:= .cons vs m [] [] h .nil;rw [List.append_nil] at this;exact this.leaves h1 h3
theorem YE {t:TypeId}{x:Operand}{I:TI}{cs:List aR}{off:Nat}(ho:o.op= .load t x)(hI:c.tv t=some I)(hT:lW P c.ti)(h:cF c Z e st a w)(GM:bw c st x= .rp cs off)(hK:kQ I cs off (λs=>bV c st o.dst s K)=some r):Rd P c Z K r e a w o (λw'=> ∀b q v,e.φ b q=some v->w'.cell? ⟨b,q,none⟩=some v):=by
 obtain ⟨hx,qG⟩:=h.eval x;obtain ⟨uB,hc⟩:=b8 hI;have hr:=hT t I uB;rw [GM] at hx;simp only [af] at hx;obtain ⟨bG,q,vs,hx,rT,_,EV⟩:=hx;have hm: ∀w':World,(∀b q v,e.φ b q=some v->w'.cell? ⟨b,q,none⟩=some v)->w'.rangeAt bG q vs:=by intro w' hi j v hj;have Ly:j<vs.length:=(AS.1 hj).1;exact hi _ _ _ (by rw [EV j Ly];exact hj)
 obtain ⟨v,s,h1,h2,h3,h4⟩:=kv (st:=st) (s:= .skip) hr hc rT (hm w h.qe) hK;refine VT (λw' hi=> ?_) h (.refl _ _ _) (.of h2 h3) h4;simp [execOp,ho,hx,h1 w' (hm w' hi)]
theorem acE {t:TypeId}{x:Operand}{I:TI}(ho:o.op= .load t x)(hI:c.tv t=some I)(hT:lW P c.ti)(h:cF c Z e st a w)(hK:ldK st I (bw c st x) (λs=>bV c st o.dst s K)=some r):Rd P c Z K r e a w o (eI w):=by
 obtain ⟨hx,qG⟩:=h.eval x;obtain ⟨uB,hc⟩:=b8 hI;have hr:=hT t I uB;have acF: ∀v s,(∀w':World,eI w w'->(acN t (a.eval x)).run P w'= .ok v w')->af e v s->c8 st.fr s->bV c st o.dst s K=some r->Rd P c Z K r e a w o (eI w):=by intro v s h1 h2 h3 h4;refine VT (λw' hg=> ?_) h (.refl _ _ _) (.of h2 h3) h4;simp [execOp,ho,h1 w' hg]
 have keep: ∀{w':World} {bG off:Nat} {vs:List Value},eI w w'->w.rangeAt bG off vs->w'.rangeAt bG off vs:=by intro w' bG off vs hg hm j v hj;exact hg.cell (hm j v hj)
 generalize bw c st x=s at hx hK qG;unfold ldK at hK;split at hK
 ·rename_i root off;simp only [af] at hx;have pO:=h.slot root;split at hK
  ·rename_i cs xn;rw [xn] at pO;have C9:fR cs=false:=by cases hq:fR cs<;>simp_all
   simp only [C9,cond_false] at hK;obtain ⟨_,vD⟩:=pO;obtain ⟨arr,T,dB,rT⟩:=vD.cells C9;have hm:w.rangeAt (e.B root) 0 arr.toList:=by intro j v hj;rw [aaL,cell_of dB];simpa using hj
   obtain ⟨v,s,h1,h2,h3,h4⟩:=kv (st:=st) (s:= .skip) hr hc rT hm hK;rw [aaL] at h1;exact acF v s (λw' hg=>by rw [hx];exact h1 w' (keep hg hm)) h2 h3 h4
  ·simp at hK
 ·rename_i cs off;simp only [af] at hx;obtain ⟨bG,q,vs,hx,rT,_,EV⟩:=hx;have hm:w.rangeAt bG q vs:=by intro j v hj;have Ly:j<vs.length:=(AS.1 hj).1;exact h.qe _ _ _ (by rw [EV j Ly];exact hj)
  obtain ⟨v,s,h1,h2,h3,h4⟩:=kv (st:=st) (s:= .skip) hr hc rT hm hK;exact acF v s (λw' hg=>by rw [hx];exact h1 w' (keep hg hm)) h2 h3 h4
 ·rename_i f i off b cs;cases hf:aU st.bh f with
  |none=>simp [hf] at hK
  |some o'=>
   simp only [hf] at hK;simp only [af] at hx;obtain ⟨bG,cap,hE,⟨x,hxi,hel⟩,hx⟩:=hx o' (by rw [h.m];exact hf);obtain ⟨J,cells,hJ,hJc,eS,kw,_⟩:=(h.jO f o' hf).row;obtain ⟨p1,v1,p2,rfl,A3,sE,gl⟩:=kw.at hxi;have rT:=gl.H6 hel;rw [hE] at eS;have uQ:=eS.cells (g:=bG) rfl;have hm:w.rangeAt bG (i *zB cs) v1:=by intro j v hj;have Ly:j<v1.length:=(AS.1 hj).1;have:=uQ (i *J.size+j) v (by rw [AI,No (by omega),OF (by omega)];rw [show i *J.size+j-p1.length=j by omega];exact hj);rw [acn,aaL] at this;rw [<-rT.width,sE];exact this
   obtain ⟨v,s,h1,h2,h3,h4⟩:=kv (st:=st) (s:= .skip) hr hc rT hm hK;exact acF v s (λw' hg=>by rw [hx];exact h1 w' (keep hg hm)) h2 h3 h4
 ·rename_i root off i;simp only [af] at hx;obtain ⟨hx,Sh⟩:=hx;have pO:=h.slot root;cases hb:I.st||!c9 I.size 1 with
  |true=>simp [hb] at hK
  |false=>
   simp only [hb,cond_false] at hK;simp only [abr,ac0] at hb;have we:=sh hb.2;split at hK
   ·rename_i cs xn;rw [xn] at pO;have C9:fR cs=false:=by cases hq:fR cs<;>simp_all
    simp only [C9,cond_false] at hK;obtain ⟨_,vD⟩:=pO;obtain ⟨arr,T,dB,rT⟩:=vD.cells C9;split at hK
    ·rename_i b ls Si;obtain ⟨v1,v2,anK,h1,h2⟩:=zG Si rT;obtain ⟨u,u2,rfl,h3,h4⟩:=h2;have h3:u=bR b:=h3;subst h3;have hg:=Cq b i Sh;have hlen:=dL b;have hm:w.rangeAt (e.B root) (off+i) [.int .u8 ((b.l.getD i 0).toNat:Int)]:=by
      intro j v hj;cases j with
      |succ j=>simp at hj
      |zero=>
       simp at hj;rw [acO,cell_of dB];have:arr[off+i]? =arr.toList[off+i]? :=by simp
       rw [this,anK,No (by omega),OF (by omega),show off+i-v1.length=i by omega,hg,<-hj];simp [List.getD]
     rcases oV hr hc (by simp [we]) hm with ⟨hh,_⟩|⟨_,v,VV,cB⟩
     ·rcases hh with hh|hh
      ·rw [hb.1] at hh;cases hh
      ·omega
     ·simp at VV;subst VV;exact acF _ _ (λw' hg=>by rw [hx];exact cB w' (keep hg hm)) (zI _ _) trivial hK
    ·simp at hK
   ·simp at hK
 ·simp at hK
theorem VW {t:TypeId}{x:Operand}{f:Nat}{I:TI}(ho:o.op= .fieldAddr t x f)(hI:c.tv t=some I)(hT:lW P c.ti)(h:cF c Z e st a w)(hK:Yg st I f (bw c st x) (λs=>bV c st o.dst s K)=some r):Rd P c Z K r e a w o (λ_=>True):=by
 obtain ⟨hx,qG⟩:=h.eval x;obtain ⟨uB,hc⟩:=b8 hI;obtain ⟨d,i,h1,h2,h3,h4⟩:=hT t I uB;have key: ∀q bG off,I.st=true->I.zf[f]? =some q->a.eval x= .pointer (some ⟨bG,off,none⟩)-> ∀w:World,(execOp a.eval o).run P w= .ok (.value (.pointer (some ⟨bG,off+q,none⟩))) w:=by
  intro q bG off eR hq hv w;cases d<;>simp only [uA] at h4;case struct fs=>
   obtain ⟨_,_,_,ho1,dh,XV,_⟩:=h4;rw [<-ho1,ab9] at hq;cases hf:fs.toList[f]? with
   |none=>simp [hf] at hq
   |some fl=>
    simp [hf] at hq;subst hq;have Up:fs[f]? =some fl:=by simpa using hf
    obtain ⟨J,hJ,hJc,hJs⟩:=XV f fl Up;obtain ⟨ij,RR,hs,_⟩:=(hT _ _ hJ).info hJc;have hz:ij.size≠0:=by omega
    simp [execOp,ho,hv,Instr.fieldAt,run_underlying h1,Up,acT,fieldPlace,acd,typeInfo,RR,hz,acn]
  all_goals (exfalso;simp_all)
 generalize bw c st x=s at hx hK qG;unfold Yg at hK;split at hK
 ·rename_i q r' o' eR hq;simp only [af] at hx;refine ku (s:= .ptr r' (o'+q)) h (key q _ _ eR hq hx) ?_ qG hK;simp only [af]
 ·rename_i q cs o' eR hq;simp only [af] at hx;obtain ⟨bG,b,vs,hx,hh⟩:=hx;refine ku (s:= .rp cs (o'+q)) h (key q _ _ eR hq hx) ?_ trivial hK;simp only [af];exact ⟨bG,b,vs,by rw [acD],hh⟩
 ·rename_i q g i' o' b cs eR hq;cases hf:aU st.bh g with
  |none=>simp [hf] at hK
  |some w'=>simp only [hf] at hK;simp only [af] at hx;obtain ⟨bG,cap,h5,h6,h7⟩:=hx w' (by rw [h.m];exact hf);refine ku (s:= .ep g i' (o'+q) b cs) h (key q _ _ eR hq h7) ?_ trivial hK;simp only [af];intro o2 dh;rw [h.m,hf] at dh;cases dh;exact ⟨bG,cap,h5,h6,by rw [acD]⟩
 ·simp at hK
theorem agY {x:Operand}{k:Nat}(ho:o.op= .extract x k)(h:cF c Z e st a w)(hK:agK (bw c st x) k (λs=>bV c st o.dst s K)=some r):Rd P c Z K r e a w o (λ_=>True):=by
 obtain ⟨hx,qG⟩:=h.eval x;generalize bw c st x=s at hx hK;unfold agK at hK;split at hK
 ·rename_i vs;simp only [af] at hx;obtain ⟨arr,hv,hs⟩:=hx;cases hk:vs[k]? with
  |none=>simp [hk] at hK
  |some s=>
   simp only [hk] at hK;have: ∀(k:Nat) (vs:List Slot) (l:List Value),kR e l vs->vs[k]? =some s-> ∃v,l[k]? =some v/\af e v s/\C4 s=true:=by
    intro k;induction k with
    |zero=>
     intro vs l hl hk;cases vs with
     |nil=>simp at hk
     |cons y ys=>simp at hk;subst hk;simp only [kR] at hl;obtain ⟨v,q,rfl,h1,h2,_⟩:=hl;exact ⟨v,rfl,h1,h2⟩
    |succ k ih=>
     intro vs l hl hk;cases vs with
     |nil=>simp at hk
     |cons y ys=>simp only [kR] at hl;obtain ⟨v,q,rfl,_,_,h3⟩:=hl;obtain ⟨u,h4,h5⟩:=ih ys q h3 (by simpa using hk);exact ⟨u,by simpa using h4,h5⟩
   obtain ⟨v,hv2,h1,h2⟩:=this k vs arr.toList hs hk;have hv3:arr[k]? =some v:=by simpa using hv2
   refine ku h ?_ h1 ?_ hK
   ·simp [execOp,ho,hv,Instr.extract,hv3]
   ·cases s<;>simp [C4] at h2<;>trivial
 ·simp at hK
end
end Dn
/-
  Operations that make memory: variables. Conditions: none.
-/
namespace Dn
open Go
section
variable {P:Program}{c:Ctx}{Z:b7}{e:Env}{st:St}{a:Act} {w w':World}{R:Type}{K:St->Option R}{r:R}{Q:Exit->Act->World->Prop}{o:Oper}
theorem eI.refl (w:World):eI w w:=⟨aar _,λ_ _=>rfl,.refl _⟩
theorem eI.alloc (w:World)(cs:Array Value)(t:TypeId):eI w (w.alloc (.cells cs t)):=⟨by simp,λb hb=>AX w _ b hb,.alloc w cs t⟩
theorem eI.anL (g:eI w w'){base:Nat}{t:TypeId}{size:Nat}{v:Value}{n:Nat}{xs:List Value}(h:w.ownsRow base t size v n xs):w'.ownsRow base t size v n xs:=by
 refine ⟨h.1,?_⟩;rcases h.2 with h|⟨b,cap,dM,h1,h2,h3,h4⟩
 ·exact .inl h
 ·exact .inr ⟨b,cap,dM,h1,h2,by rw [g.A0 b (bW h3)];exact h3,h4⟩
theorem uP.grow (g:eI w w'){bG:Nat}{cs:List aR}(h:uP Z e w bG cs):uP Z e w' bG cs:=by obtain ⟨o,h1,h2⟩:=h.obj;exact ⟨h.dn,⟨o,by rw [g.A0 _ (bW h1)];exact h1,h2⟩,h.free⟩
theorem dI.grow (g:eI w w'){v:Value}{f:oR}(h:dI c Z e w v f):dI c Z e w' v f:=by obtain ⟨I,cells,h1,h2,h3,h4,h5⟩:=h.row;exact ⟨I,cells,h1,h2,g.anL h3,h4,h5⟩
theorem cF.grow (g:eI w w')(h:cF c Z e st a w):cF c Z e st a w':=by refine ⟨h.defers,h.size,h.m,h.key,h.nodup,?_,h.root,λf o ho=>(h.jO f o ho).grow g,h.bb,h.bf,h.ff,λb o v hv=>g.cell (h.qe b o v hv),λb hb=>h.dn b (adV g.size hb)⟩;intro t;have hs:=h.slot t;generalize au st.fr t=s at hs;cases s<;>simp only [cu] at hs⊢ <;>first|exact hs|exact ⟨hs.1,hs.2.grow g⟩
theorem eI.trans (g:eI w w')(hz: ∀b,w.heap.size<=b->Z b) (φ:Ph):Trans Z φ w φ w':=⟨.refl φ,λb _ hl=>g.A0 b hl,λ_ _ _=>rfl,g.size,g.rest⟩
theorem VX {l:aR}{vs:List Value}(h:Ys l vs=true):bp e vs l:=by
 unfold Ys at h;split at h
 ·simp at h;subst h;exact ⟨rfl,.b _⟩
 ·simp at h;obtain ⟨rfl,rfl⟩:=h;exact ⟨rfl,.i _ _⟩
 ·simp at h;subst h;exact ⟨rfl,.s _⟩
 ·split at h
  ·exact ⟨rfl,.raw _ rfl⟩
  ·exact ⟨rfl,.raw _ rfl⟩
  ·exact ⟨rfl,.raw _ rfl⟩
  ·simp at h
 ·rfl
 ·exact ⟨_,rfl,h⟩
 ·rename_i x;simp only [aaJ,beq_iff_eq] at h;obtain ⟨h1,h2⟩:=h;show vs=bR x;apply List.ext_getElem?;intro j;by_cases hj:j<32
  ·rw [Cq x j hj];have hjv:j<vs.length:=by omega
   have KC:j<x.l.length:=by rw [x.h];exact hj
   rw [aeu] at h2;have hm:(vs[j],x.l[j])∈vs.zip x.l:=aei.2 ⟨j,by simp;omega,by simp⟩;have:=h2 _ hm;rw [By hjv];dsimp only at this;split at this
   ·rename_i n hn;rw [hn,of_decide_eq_true this];simp [List.getD,By KC]
   ·simp at this
  ·rw [acr (by omega),acr (by rw [dL];omega)]
 ·simp at h
theorem qY {ls:List aR}: ∀{vs:List Value},uO ls vs=true->aJ e vs ls:=by
 induction ls with
 |nil=>intro vs h;simpa [uO,aJ] using h
 |cons l r ih=>intro vs h;simp only [uO,aaJ] at h;exact ⟨vs.take l.w,vs.drop l.w,by simp,VX h.1.1,ih h.1.2⟩
theorem aJ.B2 {cs:List aR}{vs:List Value}(h:aJ e vs cs):fR cs=false:=by
 cases hm:fR cs with
 |false=>rfl
 |true=>obtain ⟨s,ms,rfl⟩:=M8 hm;obtain ⟨_,_,_,h1,_⟩:=h;exact h1.elim
theorem Pv (h:cF c Z e st a w)(off:Nat):e.φ w.heap.size off=none:=by
 cases hp:e.φ w.heap.size off with
 |none=>rfl
 |some v=>have:=ab4 w _ (h.qe _ _ _ hp);simp at this
theorem Hk (h:cF c Z e st a w):(∀t gO,au st.fr t= .box gO->e.B t≠w.heap.size)/\(∀f o,aU st.bh f=some o->(e.E f).ownBlock≠some w.heap.size):=by
 refine ⟨?_,?_⟩
 ·intro t gO ht;have hs:=h.slot t;rw [ht] at hs;obtain ⟨o,h1,_⟩:=hs.2.obj;have:=bW h1;omega
 ·intro f o ho hk;obtain ⟨I,cells,h1,h2,h3,h4,h5⟩:=(h.jO f o ho).row;rcases h3.2 with ⟨hv,_⟩|⟨g,cap,dM,hv,_,hg,_⟩
  ·rw [hv] at hk;simp [BY] at hk
  ·rw [hv] at hk;simp only [BY,AT] at hk;have:=bW hg;omega
theorem Uq {cells:Array Value}{T:TypeId}{cs:List aR}(h:cF c Z e st a w)(hl:aJ e cells.toList cs): te Z e (w.alloc (.cells cells T)) st (.pointer (some ⟨w.heap.size,0,none⟩)) (.box cs):=by exact ⟨w.heap.size,by rw [vC hl.B2],⟨h.dn _ (aar _),⟨_,nF w _,rfl,hl⟩,Pv h⟩,(Hk h).1,(Hk h).2⟩
theorem YF {t:TypeId}{I:TI}(ho:o.op= .alloc t)(hI:c.tv t=some I)(hT:lW P c.ti)(h:cF c Z e st a w)(hK:bV c st o.dst (.box I.zero) K=some r):o.wp P a w (λa' w'=>eI w w'/\Out c Z K r e.φ w a' w') Q:=by
 obtain ⟨uB,hc⟩:=b8 hI;obtain ⟨d,i,h1,h2,h3,h4⟩:=hT t I uB;have hz: ∃z,i.zero=some z/\aJ e z.cells.toList I.zero:=by
  cases d<;>simp only [uA] at h4;case struct fs=>obtain ⟨_,_,_,_,_,_,cs,hz,hl,_⟩:=h4;exact ⟨_,hz,by simpa [aas] using qY hl⟩
  case tuple ts=>exact absurd hc h4.2.1
  case slice el=>obtain ⟨_,_,_,_,_,hz,hl,_⟩:=h4;exact ⟨_,hz,by rw [hl];exact ⟨[.slice none 0 0],[],rfl,rfl,rfl⟩⟩
  case array n el=>obtain ⟨_,_,_,_,_,_,_,hl,hz⟩:=h4;exact ⟨_,hz,by rw [hl];exact ⟨bR lR.zero,[],by simp [aas],rfl,rfl⟩⟩
  case bool=>obtain ⟨_,_,_,_,hl,hz⟩:=h4;exact ⟨_,hz,by rw [hl];exact ⟨[.bool false],[],rfl,⟨rfl,.b _⟩,rfl⟩⟩
  case int k=>obtain ⟨_,_,_,_,hl,hz⟩:=h4;exact ⟨_,hz,by rw [hl];exact ⟨[.int k 0],[],rfl,⟨rfl,.i _ _⟩,rfl⟩⟩
  case string=>obtain ⟨_,_,_,_,hl,b,hz,hb⟩:=h4;refine ⟨_,hz,by rw [hl];refine ⟨[.string b],[],rfl,⟨rfl,?_⟩,rfl⟩;rw [<-hb];exact .s b⟩
  all_goals
   obtain ⟨_,_,_,_,v,hz,hv,hl⟩:=h4;refine ⟨v,hz,?_⟩;have:v.cells.toList=[v]:=by cases v<;>simp_all [aas,aaq]
   rw [this];exact qY hl
 obtain ⟨z,hz,hl⟩:=hz;have cB:(execOp a.eval o).run P w= .ok (.value (.pointer (some ⟨w.heap.size,0,none⟩))) (w.alloc (.cells z.cells t)):=by simp [execOp,ho,Instr.alloc,zeroValue,typeInfo,h2,hz,newVar,newRow,newObj,Sem.run]
 exact YA (.alloc w _ _) cB (h.grow (.alloc w _ _)) ((eI.alloc w _ _).trans h.dn _) (Uq h hl) hK
theorem ag0 {t:TypeId}{x:Operand}{I:TI}(ho:o.op= .box t x)(h:cF c Z e st a w)(hK:agH I (bw c st x) (λs=>bV c st o.dst s K)=some r):o.wp P a w (λa' w'=>eI w w'/\Out c Z K r e.φ w a' w') Q:=by
 obtain ⟨hx,qG⟩:=h.eval x;have cB:(execOp a.eval o).run P w= .ok (.value (.pointer (some ⟨w.heap.size,0,none⟩))) (w.alloc (.cells (a.eval x).cells t)):=by simp [execOp,ho,Instr.box,newVar,newRow,newObj,Sem.run]
 have go: ∀cs,aJ e (a.eval x).cells.toList cs->bV c st o.dst (.box cs) K=some r->o.wp P a w (λa' w'=>eI w w'/\Out c Z K r e.φ w a' w') Q:=λcs h1 h2=>YA (.alloc w _ _) cB (h.grow (.alloc w _ _)) ((eI.alloc w _ _).trans h.dn _) (Uq h h1) h2;generalize bw c st x=s at hx hK qG;unfold agH at hK;split at hK
 ·rename_i l;cases hb:I.st||Pd l||!c9 l.w I.size with
  |true=>simp [hb] at hK
  |false=>
   simp only [hb,cond_false] at hK;refine go [l] ?_ hK;cases l with
   |un=>simp [Pd] at hb
   |hs y=>simp only [af] at hx;rw [hx];exact ⟨bR y,[],by simp [aas],rfl,rfl⟩
   |p m=>
    simp only [af] at hx;have:(a.eval x).cells.toList=[a.eval x]:=by have:=hx.cells (a.eval x) (by simp);generalize a.eval x=v at this;cases v<;>simp_all [aas,aaq]
    rw [this];exact ⟨_,[],rfl,hx,rfl⟩
   |nil=>simp only [af] at hx;have hx':[a.eval x]=[aci none 0 0]:=hx;simp at hx';rw [hx'];exact ⟨[.slice none 0 0],[],rfl,rfl,rfl⟩
   |mp s es=>simp [Pd] at hb
   |own f=>
    simp only [af] at hx;have:(a.eval x).cells.toList=[a.eval x]:=by have:=hx.cells (a.eval x) (by simp);generalize a.eval x=v at this;cases v<;>simp_all [aas,aaq]
    rw [this];exact ⟨_,[],rfl,hx,rfl⟩
 ·rename_i cs;cases hb:I.st&&!wb cs&&c9 (zB cs) I.size with
  |false=>simp [hb] at hK
  |true=>simp only [hb,cond_true] at hK;simp only [af] at hx;obtain ⟨arr,hx,hl⟩:=hx;exact go cs (by rw [hx];exact hl) hK
 ·simp at hK
end
end Dn
/-
  Stores into variables. Conditions: none.
-/
namespace Dn
open Go
section
variable {P:Program}{c:Ctx}{Z:b7}{e:Env}{st:St}{a:Act} {w w':World}{R:Type}{K:St->Option R}{r:R}{Q:Exit->Act->World->Prop}{o:Oper}
theorem setRow_size (w:World)(g:Nat)(cs:Array Value):(w.setRow g cs).heap.size=w.heap.size:=by simp [afU]
structure Chg (g:Nat) (w w':World):Prop where
 size:w'.heap.size=w.heap.size
 other: ∀b,b≠g->w'.heap[b]? =w.heap[b]?
 rest:Rest w w'
theorem Chg.setRow (w:World)(g:Nat)(cs:Array Value):Chg g w (w.setRow g cs):=⟨setRow_size _ _ _,λb hb=>setRow_other _ _ _ _ hb,.setRow _ _ _⟩
theorem Pw {g:Nat}(hc:Chg g w w'){base:Nat}{t:TypeId}{size:Nat}{v:Value}{n:Nat}{xs:List Value}(dG:v.ownBlock≠some g)(h:w.ownsRow base t size v n xs):w'.ownsRow base t size v n xs:=by
 refine ⟨h.1,?_⟩;rcases h.2 with h|⟨b,cap,dM,h1,h2,h3,h4⟩
 ·exact .inl h
 ·refine .inr ⟨b,cap,dM,h1,h2,?_,h4⟩;rw [hc.other _ (by intro e;subst e;subst h1;exact dG rfl)];exact h3
theorem Sj {g:Nat}{cs:Array Value}{base:Nat}{t:TypeId}{size:Nat}{v:Value}{n:Nat}{xs:List Value}(dG:v.ownBlock≠some g)(h:w.ownsRow base t size v n xs):(w.setRow g cs).ownsRow base t size v n xs:=Pw (.setRow w g cs) dG h
theorem cF.setObj {root:Nat}{cs gO:List aR} {o':Obj}{qd:Fr}(h:cF c Z e st a w)(hf:au st.fr root= .box cs)(YG:Chg (e.B root) w w')(lP:w'.heap[e.B root]? =some o')(hl:kr e o' gO)(hmm:mB gO=mB cs)(EW: ∀t,au qd t=if t=root then .box gO else au st.fr t)(hnd:(a7 qd).Nodup):cF c Z e {st with fr:=qd} a w':=by
 have we:=YG.size;have kl:=h.slot root;rw [hf] at kl;refine ⟨h.defers,h.size,h.m,h.key,hnd,?_,?_,?_,?_,?_,h.ff,?_,λb hb=>h.dn b (by omega)⟩
 ·intro t;show cu Z e _ t _ (au qd t);rw [EW];by_cases ht:t=root
  ·subst ht;simp only [if_true,cu];exact ⟨kl.1.mB hmm,⟨kl.2.dn,⟨o',lP,hl⟩,kl.2.free⟩⟩
  ·simp only [ht,if_false];have hs:=h.slot t;have EM:=h.bb t root;generalize hg:au st.fr t=s at hs EM;cases s<;>simp only [cu] at hs⊢ <;>try exact hs
   rename_i mQ;refine ⟨hs.1,hs.2.dn,?_,hs.2.free⟩;obtain ⟨o2,h1,h2⟩:=hs.2.obj;exact ⟨o2,by rw [YG.other _ (EM mQ cs rfl hf ht)];exact h1,h2⟩
 ·intro t;show c8 qd (au qd t);rw [EW];by_cases ht:t=root
  ·simp [ht,c8]
  ·simp only [ht,if_false];have hr:=h.root t;generalize au st.fr t=s at hr;cases s<;>simp only [c8] at hr⊢ <;>(rw [EW];split<;>simp_all [dx])
 ·intro f o ho;obtain ⟨I,cells,h1,h2,h3,h4,h5⟩:=(h.jO f o ho).row;exact ⟨I,cells,h1,h2,Pw YG (h.bf root cs f o hf ho) h3,h4,h5⟩
 ·intro t t' c1 c2 h1 h2 dG;have h1:au qd t= .box c1:=h1;have h2:au qd t'= .box c2:=h2;rw [EW] at h1 h2;by_cases ht:t=root
  ·by_cases Cp:t'=root
   ·exact absurd (ht.trans Cp.symm) dG
   ·simp only [Cp,if_false] at h2;rw [ht];exact h.bb root t' cs c2 hf h2 (by rw [<-ht];exact dG)
  ·simp only [ht,if_false] at h1;by_cases Cp:t'=root
   ·rw [Cp];exact h.bb t root c1 cs h1 hf ht
   ·simp only [Cp,if_false] at h2;exact h.bb t t' c1 c2 h1 h2 dG
 ·intro t c1 f o h1 h2;have h1:au qd t= .box c1:=h1;rw [EW] at h1;by_cases ht:t=root
  ·rw [ht];exact h.bf root cs f o hf h2
  ·simp only [ht,if_false] at h1;exact h.bf t c1 f o h1 h2
 ·intro b o v hv;have dG:b≠e.B root:=by intro eb;subst eb;rw [kl.2.free] at hv;cases hv
  have:=h.qe b o v hv;rw [ace (YG.other _ dG)];exact this
theorem cF.YH {root:Nat}{cs gO:List aR}{arr acH:Array Value}{T:TypeId}{qd:Fr}(h:cF c Z e st a w)(hf:au st.fr root= .box cs)(dB:w.heap[e.B root]? =some (.cells arr T (0,0)))(hl:aJ e acH.toList gO)(EW: ∀t,au qd t=if t=root then .box gO else au st.fr t)(hnd:(a7 qd).Nodup):cF c Z e {st with fr:=qd} a (w.setRow (e.B root) acH):=by
 have kl:=h.slot root;rw [hf] at kl;have hm:fR cs=false:=by obtain ⟨o,h1,h2⟩:=kl.2.obj;rw [dB] at h1;cases h1;exact h2.2.B2
 exact h.setObj hf (.setRow _ _ _) (setRow_heap _ _ _ _ _ _ dB) ⟨rfl,hl⟩ (by rw [xx hm,xx hl.B2]) EW hnd
theorem Trans.chg {g:Nat} (φ:Ph)(YG:Chg g w w')(hz:Z g):Trans Z φ w φ w':=⟨.refl φ,λb hb _=>YG.other _ (by intro e;subst e;exact hb hz),λ_ _ _=>rfl,by rw [YG.size];exact aar _,YG.rest⟩
theorem Trans.setRow {g:Nat}{acH:Array Value} (φ:Ph)(hz:Z g):Trans Z φ w φ (w.setRow g acH):=⟨.refl φ,λb hb _=>setRow_other _ _ _ _ (by intro e;subst e;exact hb hz),λ_ _ _=>rfl,by rw [setRow_size];exact aar _,.setRow _ _ _⟩
theorem B3 {v:Value}{s:Slot}(h:af e v s)(hu:wb (bn s)=false)(dG:bn s≠[]):aJ e v.cells.toList (bn s):=by
 cases s with
 |sc l=>
  simp only [bn] at hu⊢;have jP: ∀l,bp e [v] l->aJ e v.cells.toList [l]:=by
   intro l hl;have hc:=hl.cells v (by simp);have:v.cells.toList=[v]:=by cases v<;>simp_all [aas,aaq]
   rw [this];exact ⟨[v],[],rfl,hl,rfl⟩
  cases l with
  |un=>simp [wb,Pd] at hu
  |hs x=>simp only [af] at h;rw [h];exact ⟨bR x,[],by simp [aas],rfl,rfl⟩
  |p m=>simp only [af] at h;exact jP _ h
  |nil=>simp only [af] at h;exact jP _ h
  |mp s es=>simp [wb,Pd] at hu
  |own f=>simp only [af] at h;exact jP _ h
 |ag cs=>simp only [af] at h;obtain ⟨arr,rfl,hl⟩:=h;exact hl
 |_=>exact absurd rfl dG
theorem nH {t:TypeId}{I:TI}{bG off:Nat}{v:Value}{arr:Array Value}{T:TypeId}(hr:om c.ti P t I)(hc:I.dw=[])(hs:v.cells.toList.length=I.size)(jP: ∀u∈v.cells.toList,u.oneCell'=true)(dB:w.heap[bG]? =some (.cells arr T (0,0)))(zg:off+I.size<=arr.size): (adn t (.pointer (some ⟨bG,off,none⟩)) v).run P w= .ok () (w.setRow bG (arr.toList.take off++v.cells.toList++arr.toList.drop (off+I.size)).toArray):=by
 obtain ⟨i,hi,we,_⟩:=hr.info hc;have h1:=run_storeCells_at P bG off T v.cells.toList 0 arr w dB (by omega) jP;rw [acO,hs] at h1;have h2:v.cells.size=i.size:=by rw [we,<-hs];simp
 simp [adn,acT,storeVar,acd,typeInfo,hi,h2,h1]
theorem VY {t:TypeId}{I:TI}{root off:Nat}{v:Value}{cs ls gO:List aR} {K':St->Option R}(C9:fR cs=false)(hr:om c.ti P t I)(hc:I.dw=[])(h:cF c Z e st a w)(hf:au st.fr root= .box cs)(hv:aJ e v.cells.toList ls)(GN:zB ls=I.size)(hp:putAt cs off ls=some gO)(hK:wr st root (.box gO) K'=some r): ∃w' cP,(adn t (.pointer (some ⟨e.B root,off,none⟩)) v).run P w= .ok () w'/\cF c Z e cP a w'/\Trans Z e.φ w e.φ w'/\K' cP=some r:=by
 have pO:=h.slot root;rw [hf] at pO;obtain ⟨arr,T,dB,rT⟩:=pO.2.cells C9;obtain ⟨v1,v2,v3,he,h1,h2,h3⟩:=xw hp rT hv;have hlen:=hv.width;have we:arr.size=v1.length+v2.length+v3.length:=by
  have:arr.toList.length=(v1++v2++v3).length:=by rw [he]
  simp at this;omega
 have cB:=nH (P:=P) (w:=w) (bG:=e.B root) (off:=off) hr hc (by rw [hlen,GN]) hv.cells dB (by omega);have ajO:arr.toList.take off=v1:=by rw [he,AI,acI h1]
 have ajP:arr.toList.drop (off+I.size)=v3:=by rw [he];exact aco (by rw [IS];omega)
 rw [ajO,ajP] at cB;unfold wr at hK;cases hn:bU st.dg root with
 |true=>simp [hn] at hK
 |false=>simp only [hn,cond_false,force_eq,nG] at hK;refine ⟨_,_,cB,?_,.setRow _ (Pp pO.2.dn (by rw [<-h.defers.2.1,<-b4,hn];simp)),hK⟩;exact h.YH hf dB (by simpa using h3) (λt=>by rw [ck]) (fG h.nodup)
end
end Dn
/-
  Owned slices that are shared from now on; what is handed to a callee. Conditions: none.
-/
namespace Dn
open Go
section
variable {P:Program}{c:Ctx}{Z:b7}{e:Env}{st:St}{a:Act} {w w':World}{R:Type}{K:St->Option R}{r:R}{Q:Exit->Act->World->Prop}{o:Oper}
theorem bx.mono {key:Nat->Nat} {φ φ':Ph}(h:sD φ φ'){size:Nat}{xs:List MV}: ∀{cs:List Value},bx key φ size cs xs->bx key φ' size cs xs:=by
 induction xs with
 |nil=>intro cs hh;exact hh
 |cons x xs ih=>intro cs hh;obtain ⟨v,q,rfl,h1,h2,h3⟩:=hh;exact ⟨v,q,rfl,h1,h2.mono h,ih h3⟩
theorem bx.length {key:Nat->Nat} {φ:Ph}{size:Nat}{xs:List MV}: ∀{cs:List Value},bx key φ size cs xs->cs.length=xs.length *size:=by
 induction xs with
 |nil=>intro cs hh;cases hh;simp
 |cons x xs ih=>intro cs hh;obtain ⟨v,q,rfl,h1,h2,h3⟩:=hh;simp [h1,ih h3,acj,aeo]
theorem Sk {m:List (Nat×oR)}{f:Nat}{o:oR}(h:aU m f=some o):cq m f o=m:=by
 induction m with
 |nil=>simp [aU] at h
 |cons p r ih=>
  obtain ⟨k,x⟩:=p;simp only [aU,cq,gh] at h⊢;by_cases hk:k=f
  ·subst hk;simp at h;subst h;simp
  ·simp only [hk,decide_false,cond_false] at h⊢;rw [ih h]
def oW (φ:Ph)(v:Value)(cells:List Value):Ph:=λb off=>if v.ownBlock=some b/\off<cells.length then cells[off]? else φ b off
theorem FU {base:Nat}{t:TypeId}{size n:Nat}{v:Value}{xs ys:List Value}(h:w.ownsRow base t size v n xs) (h':w.ownsRow base t size v n ys){b:Nat}(hb:v.ownBlock=some b):xs=ys:=by
 rcases h.2 with ⟨h1,_⟩|⟨g,cap,dM,h1,_,h2,_,_,_,h3⟩
 ·rw [h1] at hb;simp [BY] at hb
 ·rcases h'.2 with ⟨KB,_⟩|⟨g',ag1,mZ,KB,_,Px,_,_,_,h3'⟩
  ·rw [KB] at hb;simp [BY] at hb
  ·rw [h1] at KB;simp at KB;obtain ⟨rfl,rfl⟩:=KB;rw [h2] at Px;simp at Px;subst Px;rw [<-h3,<-h3']
theorem freeze {f:Nat}{o:oR}(h:cF c Z e st a w)(hf:aU st.bh f=some o)(hp:f∉Z.cZ\/o.eU=true): ∃φ',sD e.φ φ'/\(∀b off,¬Z b->φ' b off=e.φ b off)/\cF c Z {e with φ:=φ',m:=cq e.m f ⟨o.ty,true,o.xs⟩} {st with bh:=cq st.bh f ⟨o.ty,true,o.xs⟩} a w/\ ni e.key φ' [e.E f] (.list o.xs)/\ (∀I cells,c.ti o.ty=some I->w.ownsRow 0 o.ty I.size (e.E f) o.xs.length cells-> ∀bG,(e.E f).ownBlock=some bG-> ∀j,j<cells.length->φ' bG j=cells[j]?):=by
 obtain ⟨I,cells,hI,YI,eS,kw,hz⟩:=(h.jO f o hf).row;have hlen:=kw.length;have hle:sD e.φ (oW e.φ (e.E f) cells):=by
  intro b off v hv;unfold oW;by_cases hc:(e.E f).ownBlock=some b/\off<cells.length
  ·simp only [hc,and_self,if_true];obtain ⟨hb,ho⟩:=hc;rcases eS.2 with ⟨hE,_⟩|⟨g,cap,dM,hE,_,hg,hn,Hj,xn,RS⟩
   ·rw [hE] at hb;simp [BY] at hb
   ·rw [hE] at hb;simp only [BY,AT] at hb;subst hb;have:=h.qe _ _ _ hv;rw [cell_of hg] at this;rw [<-RS,aca];have dh:off<o.xs.length *I.size:=by omega
    simp only [dh,if_true];simpa using this
  ·simp only [hc,if_false];exact hv
 have ki: ∀b off v,oW e.φ (e.E f) cells b off=some v->w.cell? ⟨b,off,none⟩=some v:=by
  intro b off v hv;unfold oW at hv;by_cases hc:(e.E f).ownBlock=some b/\off<cells.length
  ·simp only [hc,and_self,if_true] at hv;rcases eS.2 with ⟨hE,_⟩|⟨g,cap,dM,hE,_,hg,hn,Hj,xn,RS⟩
   ·rw [hE] at hc;simp [BY] at hc
   ·rw [hE] at hc;simp only [BY,AT] at hc;obtain ⟨hb,ho⟩:=hc;subst hb;rw [cell_of hg];rw [<-RS,aca] at hv;have dh:off<o.xs.length *I.size:=by omega
    simp only [dh,if_true] at hv;simpa using hv
  ·simp only [hc,if_false] at hv;exact h.qe _ _ _ hv
 have ajQ: ∀b off,¬Z b->oW e.φ (e.E f) cells b off=e.φ b off:=by
  intro b off hb;unfold oW;by_cases hc:(e.E f).ownBlock=some b/\off<cells.length
  ·by_cases Cr:f∈Z.cZ
   ·simp only [hc,and_self,if_true];exact (((hz b hc.1).2.2 Cr (hp.resolve_left (λhn=>hn Cr))) off hc.2).symm
   ·exact absurd (Pp (hz b hc.1).1 Cr) hb
  ·simp [hc]
 have Sl: ∀b off,(e.E f).ownBlock≠some b->oW e.φ (e.E f) cells b off=e.φ b off:=by intro b off hb;unfold oW;simp [hb]
 have vE:lB (λ_=>True) (λ_=>True) e {e with φ:=oW e.φ (e.E f) cells,m:=cq e.m f ⟨o.ty,true,o.xs⟩}:=by
  refine ⟨rfl,hle,λ_ _=>rfl,?_⟩;intro f2 o2 dh _;have dh:aU (cq e.m f ⟨o.ty,true,o.xs⟩) f2=some o2:=dh;rw [bI] at dh;by_cases fJ:f2=f
  ·subst fJ;simp at dh;subst dh;exact ⟨o,by rw [h.m];exact hf,rfl,rfl⟩
  ·simp only [fJ,if_false] at dh;exact ⟨o2,dh,rfl,rfl⟩
 have nm: ∀s:Slot,gj (λ_=>True) (λ_=>True) s:=by intro s;cases s<;>simp [gj,jW]
 refine ⟨_,hle,ajQ,?_,?_,?_⟩;rotate_right
 ·intro I' YJ hI' ajR bG hb j hj;rw [hI] at hI';cases hI';have hcc:=FU eS ajR hb;subst hcc;unfold oW;simp [hb,hj]
 ·refine ⟨h.defers,h.size,by show cq e.m f _=cq st.bh f _;rw [h.m],h.key,h.nodup,?_,h.root,?_,h.bb,?_,?_,ki,h.dn⟩
  ·intro t;have hs:=h.slot t;have hbf:=h.bf t;show cu Z _ w t _ (au st.fr t);generalize au st.fr t=s at hs hbf;cases s<;>simp only [cu] at hs⊢ <;>try exact hs.on vE (nm _)
   rename_i cs;refine ⟨hs.1,hs.2.dn,?_,?_⟩
   ·obtain ⟨o2,h1,h2⟩:=hs.2.obj;exact ⟨o2,h1,h2.on vE (λl _ f _=>trivial)⟩
   ·intro off;show oW e.φ (e.E f) cells (e.B t) off=none;rw [Sl _ _ (hbf cs f o rfl hf)];exact hs.2.free off
  ·intro f2 o2 dh;have dh:aU (cq st.bh f ⟨o.ty,true,o.xs⟩) f2=some o2:=dh;rw [bI] at dh;by_cases fJ:f2=f
   ·subst fJ;simp at dh;subst dh;refine ⟨I,cells,hI,YI,eS,kw.mono hle,?_⟩;intro bG hb;refine ⟨(hz bG hb).1,?_,?_⟩;rotate_left
    ·intro _ _ j hj;show oW e.φ (e.E f2) cells bG j=_;have hb:(e.E f2).ownBlock=some bG:=hb;unfold oW;simp [hb,hj]
    intro off u hu;refine ⟨rfl,?_⟩;have hu:oW e.φ (e.E f2) cells bG off=some u:=hu;unfold oW at hu;by_cases hc:(e.E f2).ownBlock=some bG/\off<cells.length
    ·show off<o.xs.length *I.size;rw [<-hlen];exact hc.2
    ·simp only [hc,if_false] at hu;exact ((hz bG hb).2.1 off u hu).2
   ·simp only [fJ,if_false] at dh;obtain ⟨I2,xy,h1,h2,h3,h4,h5⟩:=(h.jO f2 o2 dh).row;refine ⟨I2,xy,h1,h2,h3,h4.mono hle,?_⟩;intro bG hb;refine ⟨(h5 bG hb).1,?_,?_⟩;rotate_left
    ·intro g1 g2 j hj;show oW e.φ (e.E f) cells bG j=_;rw [Sl _ _ (λhbf=>fJ (h.ff f2 f o2 o bG dh hf hb hbf))];exact (h5 bG hb).2.2 g1 g2 j hj
    intro off u hu;have hu:oW e.φ (e.E f) cells bG off=some u:=hu;rw [Sl _ _ (λhbf=>fJ (h.ff f2 f o2 o bG dh hf hb hbf))] at hu;exact (h5 bG hb).2.1 off u hu
  ·intro t cs f2 o2 h1 h2;have h2:aU (cq st.bh f ⟨o.ty,true,o.xs⟩) f2=some o2:=h2;rw [bI] at h2;by_cases fJ:f2=f
   ·subst fJ;exact h.bf t cs f2 o h1 hf
   ·simp only [fJ,if_false] at h2;exact h.bf t cs f2 o2 h1 h2
  ·intro f1 f2 o1 o2 k h1 h2 h3 h4;have h1:aU (cq st.bh f ⟨o.ty,true,o.xs⟩) f1=some o1:=h1;have h2:aU (cq st.bh f ⟨o.ty,true,o.xs⟩) f2=some o2:=h2;rw [bI] at h1 h2;have g1: ∃o',aU st.bh f1=some o':=by
    by_cases fJ:f1=f
    ·subst fJ;exact ⟨o,hf⟩
    ·simp only [fJ,if_false] at h1;exact ⟨o1,h1⟩
   have g2: ∃o',aU st.bh f2=some o':=by
    by_cases fJ:f2=f
    ·subst fJ;exact ⟨o,hf⟩
    ·simp only [fJ,if_false] at h2;exact ⟨o2,h2⟩
   obtain ⟨q1,g1⟩:=g1;obtain ⟨q2,g2⟩:=g2;exact h.ff f1 f2 q1 q2 k g1 g2 h3 h4
 ·have Da:=kw.mono hle;rcases eS.2 with ⟨hE,hn⟩|⟨g,cap,dM,hE,_,hg,hn,Hj,xn,RS⟩
  ·have hx:o.xs=[]:=IN hn;have hv:[e.E f]=[aci none 0 0]:=by rw [hE]
   rw [hv,hx];exact .list none 0 [] 0 0 0 (λ_=>[]) (by simp) (by simp) (by simp) (by simp) (by simp)
  ·have hv:[e.E f]=[aci (some ⟨g,0,none⟩) o.xs.length cap]:=by rw [hE]
   rw [hv];have Nc: ∀i (hi:i<o.xs.length),∃v1,v1.length=I.size/\ni e.key (oW e.φ (e.E f) cells) v1 o.xs[i]/\(cells.drop (i *I.size)).take I.size=v1:=by intro i hi;obtain ⟨p1,v1,p2,he,A3,sE,gl⟩:=Da.at (By hi);refine ⟨v1,sE,gl,?_⟩;rw [he,AI,<-A3,aej,<-sE,ac5]
   refine .list (some ⟨g,0,none⟩) cap o.xs g 0 I.size (λi=>(cells.drop (i *I.size)).take I.size) hn (λ_=>rfl) ?_ ?_ ?_
   ·intro i hi;obtain ⟨v1,h1,_,h3⟩:=Nc i hi;rw [h3,h1]
   ·intro i j hi hj;have hb:(e.E f).ownBlock=some g:=by rw [hE];rfl
    have H7:i *I.size+j<cells.length:=by
     rw [hlen];calc i *I.size+j<i *I.size+I.size:=by omega
      _=(i+1) *I.size:=by rw [acj]
      _<=o.xs.length *I.size:=aaF _ hi
    rw [aaL];unfold oW;simp only [hb,H7,and_self,if_true];rw [aca];simp only [hj,if_true,ac9]
   ·intro i hi;obtain ⟨v1,_,h2,h3⟩:=Nc i hi;rw [h3];exact h2
end
end Dn
/-
  Arguments and results. Conditions: none.
-/
namespace Dn
open Go
structure Ext (Z:Nat->Prop) (e e':Env):Prop where
 on:lB (λ_=>True) (λ_=>True) e e'
 dn: ∀b off,¬Z b->e'.φ b off=e.φ b off
theorem Ext.refl (Z:Nat->Prop)(e:Env):Ext Z e e:=⟨⟨rfl,.refl _,λ_ _=>rfl,λf o h _=>⟨o,h,rfl,rfl⟩⟩,λ_ _ _=>rfl⟩
theorem Ext.trans {Z:Nat->Prop} {e e' e'':Env}(h:Ext Z e e') (h':Ext Z e' e''):Ext Z e e'':=by refine ⟨⟨h'.on.key.trans h.on.key,h.on.φ.trans h'.on.φ,λr hr=>(h'.on.B r hr).trans (h.on.B r hr),?_⟩,λb off hb=>(h'.dn b off hb).trans (h.dn b off hb)⟩;intro f o ho _;obtain ⟨o1,h1,h2,h3⟩:=h'.on.jO f o ho trivial;obtain ⟨o2,h4,h5,h6⟩:=h.on.jO f o1 h1 trivial;exact ⟨o2,h4,h2.trans h5,h3.trans h6⟩
theorem Ext.tr {Z:Nat->Prop} {e e':Env}{w:World}(h:Ext Z e e'):Trans Z e.φ w e'.φ w:=⟨h.on.φ,λ_ _ _=>rfl,h.dn,aar _,.refl _⟩
theorem ez (s:Slot):gj (λ_=>True) (λ_=>True) s:=by cases s<;>simp [gj,jW]
def cN (key:Nat->Nat) (φ:Ph):List Value->List MV->Prop
 |vs,[]=>vs=[]
 |vs,m::ms=> ∃v r,vs=v::r/\gf key φ v m/\cN key φ r ms
theorem cN.mono {key:Nat->Nat} {φ φ':Ph}(h:sD φ φ'){ms:List MV}: ∀{vs:List Value},cN key φ vs ms->cN key φ' vs ms:=by
 induction ms with
 |nil=>intro vs hh;exact hh
 |cons m ms ih=>intro vs hh;obtain ⟨v,r,rfl,h1,h2⟩:=hh;exact ⟨v,r,rfl,h1.mono h,ih h2⟩
theorem cN.append {key:Nat->Nat} {φ:Ph}{ms ns:List MV}: ∀{vs us:List Value},cN key φ vs ms->cN key φ us ns->cN key φ (vs++us) (ms++ns):=by
 induction ms with
 |nil=>intro vs us h h';cases h;simpa using h'
 |cons m ms ih=>intro vs us h h';obtain ⟨v,r,rfl,h1,h2⟩:=h;exact ⟨v,r++us,rfl,h1,ih h2 h'⟩
section
variable {P:Program}{c:Ctx}{Z:b7}{e:Env}{st:St}{a:Act} {w w':World}{R:Type}{r:R}{Q:Exit->Act->World->Prop}{o:Oper}
theorem qZ {l:aR}{vs:List Value}{K:MV->St->Option R}(h:cF c Z e st a w)(hl:bp e vs l)(hK:qc st l K=some r): ∃e' cP m,cF c Z e' cP a w/\Ext Z e e'/\cP.fr=st.fr/\ni e'.key e'.φ vs m/\K m cP=some r/\(uN l=true->e'=e/\cP=st)/\(∀f,l= .own f-> ∃o,aU st.bh f=some o/\m= .list o.xs)/\((∀x,l≠ .hs x)->m.one=true):=by
 cases l with
 |un=>simp [qc] at hK
 |p m=>exact ⟨e,st,m,h,.refl _ _,rfl,hl.2,hK,λ_=>⟨rfl,rfl⟩,by simp,λ_=>hl.1⟩
 |hs x=>have hl:vs=bR x:=hl;subst hl;exact ⟨e,st,.h x,h,.refl _ _,rfl,.h x,hK,λ_=>⟨rfl,rfl⟩,by simp,λhx=>absurd rfl (hx x)⟩
 |nil=>have hl:vs=[.slice none 0 0]:=hl;subst hl;exact ⟨e,st,.list [],h,.refl _ _,rfl,.list none 0 [] 0 0 0 (λ_=>[]) (by simp) (by simp) (by simp) (by simp) (by simp),hK,λhp=>by simp [uN] at hp,λ_ he=>(by cases he),λ_=>rfl⟩
 |mp s es=>simp [qc] at hK
 |own f=>
  simp only [qc] at hK;cases hf:aU st.bh f with
  |none=>simp [hf] at hK
  |some o=>
   simp only [hf] at hK;have Cr:f∉Z.cZ\/o.eU=true:=by
    cases hz:o.eU with
    |true=>exact .inr rfl
    |false=>refine .inl (λhm=> ?_);rw [<-h.defers.2.2.1,<-b4] at hm;simp [hz,hm] at hK
   obtain ⟨φ',h1,h2,h3,h4,_⟩:=freeze h hf Cr;obtain ⟨v,rfl,hv,hE⟩:=hl;have hE:=hE o (by rw [h.m];exact hf);subst hE;have acJ:Ext Z e {e with φ:=φ',m:=cq e.m f ⟨o.ty,true,o.xs⟩}:=by
    refine ⟨⟨rfl,h1,λ_ _=>rfl,?_⟩,h2⟩;intro f2 o2 dh _;have dh:aU (cq e.m f ⟨o.ty,true,o.xs⟩) f2=some o2:=dh;rw [bI] at dh;by_cases fJ:f2=f
    ·subst fJ;simp at dh;subst dh;exact ⟨o,by rw [h.m];exact hf,rfl,rfl⟩
    ·simp only [fJ,if_false] at dh;exact ⟨o2,dh,rfl,rfl⟩
   cases hz:o.eU with
   |true=>
    simp only [hz,cond_true] at hK;have ajT:cq st.bh f ⟨o.ty,true,o.xs⟩=st.bh:=by rw [<-hz];exact Sk hf
    rw [ajT] at h3;exact ⟨_,st,.list o.xs,h3,acJ,rfl,h4,hK,λhp=>by simp [uN] at hp,λ_ he=>by cases he;exact ⟨o,hf,rfl⟩,λ_=>rfl⟩
   |false=>
    simp only [hz,cond_false] at hK;cases hn:bU st.cZ f with
    |true=>simp [hn] at hK
    |false=>simp only [hn,cond_false,oU] at hK;exact ⟨_,_,.list o.xs,h3,acJ,rfl,h4,hK,λhp=>by simp [uN] at hp,λ_ he=>by cases he;exact ⟨o,hf,rfl⟩,λ_=>rfl⟩
theorem nn {ls:List aR}: ∀{e:Env}{st:St}{vs:List Value}{K:List MV->St->Option R},cF c Z e st a w->aJ e vs ls->qX st ls K=some r-> ∃e' cP ms,cF c Z e' cP a w/\Ext Z e e'/\cP.fr=st.fr/\jk e'.key e'.φ vs ms/\K ms cP=some r/\(jS ls=true->e'=e/\cP=st)/\(∀ps,rV ls ms=some ps->aJ e' vs ps/\jS ps=true):=by
 induction ls with
 |nil=>intro e st vs K h hl hK;cases hl;exact ⟨e,st,[],h,.refl _ _,rfl,.nil,hK,λ_=>⟨rfl,rfl⟩,λps hp=>by simp [rV] at hp;subst hp;exact ⟨rfl,rfl⟩⟩
 |cons l ls ih=>
  intro e st vs K h hl hK;obtain ⟨v,u,rfl,h1,h2⟩:=hl;simp only [qX] at hK;obtain ⟨e1,dH,m,yP,CX,EX,Lz,sF,hp1,_,jP⟩:=qZ h h1 hK;obtain ⟨e2,eP,ms,Nd,XW,acK,hr2,zJ,RT,Db⟩:=ih yP (h2.on CX.on (λl _ f _=>trivial)) sF;have hrm:ni e2.key e2.φ v m:=by have:=Lz.mono XW.on.φ;rw [<-XW.on.key] at this;exact this
  refine ⟨e2,eP,m::ms,Nd,CX.trans XW,acK.trans EX,.cons v m u ms ?_ hr2,zJ,?_,?_⟩
  ·have:=Lz.mono XW.on.φ;rw [<-XW.on.key] at this;exact this
  ·intro hp;simp only [jS,aaJ] at hp;obtain ⟨q1,q2⟩:=hp1 hp.1;obtain ⟨q3,q4⟩:=RT hp.2;exact ⟨q3.trans q1,q4.trans q2⟩
  ·intro ps hp;cases hq:rV ls ms with
   |none=>cases l<;>simp [rV,hq] at hp
   |some q=>
    obtain ⟨g1,g2⟩:=Db q hq;by_cases hh: ∃x,l= .hs x
    ·obtain ⟨x,rfl⟩:=hh;simp [rV,hq] at hp;subst hp;exact ⟨⟨v,u,rfl,h1,g1⟩,by simp [jS,uN,g2]⟩
    ·have jP:=jP (λx hx=>hh ⟨x,hx⟩);have Nf:ps= .p m::q:=by cases l<;>simp [rV,hq] at hp<;>first|exact hp.symm|exact absurd ⟨_,rfl⟩ hh
     subst Nf;exact ⟨⟨v,u,rfl,⟨jP,hrm⟩,g1⟩,by simp [jS,uN,g2]⟩
theorem oo {s:Slot}{v:Value}{K:MV->St->Option R}(h:cF c Z e st a w)(hl:af e v s)(hK:mX st s K=some r): ∃e' cP m,cF c Z e' cP a w/\Ext Z e e'/\cP.fr=st.fr/\gf e'.key e'.φ v m/\K m cP=some r:=by
 cases s with
 |sc l=>
  simp only [mX] at hK;cases l with
  |un=>simp [qc] at hK
  |hs x=>simp only [af] at hl;exact ⟨e,st,.h x,h,.refl _ _,rfl,by simpa [gf,bR] using hl,hK⟩
  |p m=>simp only [af] at hl;refine ⟨e,st,m,h,.refl _ _,rfl,?_,hK⟩;obtain ⟨h1,h2⟩:=hl;cases m<;>simp [MV.one] at h1<;>exact ⟨rfl,h2⟩
  |nil=>simp only [af] at hl;obtain ⟨e',cP,m,q1,q2,q3,q4,q5,q6,_⟩:=qZ h hl hK;have hl:[v]=[aci none 0 0]:=hl;refine ⟨e,st,.list [],h,.refl _ _,rfl,⟨rfl,?_⟩,hK⟩;rw [hl];exact .list none 0 [] 0 0 0 (λ_=>[]) (by simp) (by simp) (by simp) (by simp) (by simp)
  |mp s es=>simp [qc] at hK
  |own f=>
   simp only [af] at hl;simp only [qc] at hK;cases hf:aU st.bh f with
   |none=>simp [hf] at hK
   |some o=>obtain ⟨e',cP,m,q1,q2,q3,q4,q5,q6,q7⟩:=qZ (l:= .own f) h hl (by simpa only [qc,hf] using hK);obtain ⟨o2,_,rfl⟩:=q7.1 f rfl;exact ⟨e',cP,.list o2.xs,q1,q2,q3,⟨rfl,q4⟩,q5⟩
 |ag cs=>simp only [af] at hl;obtain ⟨arr,hv,hl⟩:=hl;simp only [mX] at hK;obtain ⟨e',cP,ms,q1,q2,q3,q4,q5,_⟩:=nn h hl hK;exact ⟨e',cP,.agg ms,q1,q2,q3,⟨arr,hv,q4⟩,q5⟩
 |rp cs off=>
  simp only [af] at hl;obtain ⟨bG,q,vs,hv,rT,hp,EV⟩:=hl;simp only [mX] at hK;cases hb:c9 off 0 with
  |false=>simp [hb] at hK
  |true=>simp only [hb,cond_true] at hK;have h0:=sh hb;subst h0;obtain ⟨e',cP,ms,q1,q2,q3,q4,q5,q6⟩:=nn h rT hK;obtain ⟨rfl,rfl⟩:=q6.1 hp;refine ⟨e',cP,.rp ms,q1,q2,q3,⟨rfl,?_⟩,q5⟩;rw [hv];exact .rp bG (q+0) vs ms q4 (by simpa using EV)
 |_=>simp [mX] at hK
theorem sG {ss:List Slot}: ∀{e:Env}{st:St}{vs:List Value}{K:List MV->St->Option R},cF c Z e st a w->(∃f:Unit->List Value,f ()=vs/\vs.length=ss.length/\ ∀(i:Nat)(v:Value)(s:Slot),vs[i]? =some v->ss[i]? =some s->af e v s)-> xr st ss K=some r-> ∃e' cP ms,cF c Z e' cP a w/\Ext Z e e'/\cP.fr=st.fr/\cN e'.key e'.φ vs ms/\K ms cP=some r:=by
 induction ss with
 |nil=>intro e st vs K h hl hK;obtain ⟨f,_,hlen,_⟩:=hl;have:=IN hlen;subst this;exact ⟨e,st,[],h,.refl _ _,rfl,rfl,hK⟩
 |cons s ss ih=>
  intro e st vs K h hl hK;obtain ⟨f,_,hlen,gl⟩:=hl;cases vs with
  |nil=>simp at hlen
  |cons v vs=>simp only [xr] at hK;obtain ⟨e1,dH,m,q1,q2,q3,q4,q5⟩:=oo h (gl 0 v s rfl rfl) hK;obtain ⟨e2,eP,ms,p1,p2,p3,p4,p5⟩:=ih (vs:=vs) q1 ⟨λ_=>vs,rfl,by simpa using hlen,λi v s h1 h2=>(gl (i+1) v s (by simpa using h1) (by simpa using h2)).on q2.on (ez s)⟩ q5;refine ⟨e2,eP,m::ms,p1,q2.trans p2,p3.trans q3,⟨v,vs,rfl,?_,p4⟩,p5⟩;have:=q4.mono p2.on.φ;rw [<-p2.on.key] at this;exact this
end
end Dn
/-
  Parts of structs, lengths, the least and the greatest, places of elements. Conditions: none.
-/
namespace Dn
open Go
section
variable {P:Program}{c:Ctx}{Z:b7}{e:Env}{st:St}{a:Act} {w w':World}{R:Type}{K:St->Option R}{r:R}{Q:Exit->Act->World->Prop}{o:Oper}
theorem LA {t:TypeId}{I:TI}(hr:om c.ti P t I)(hc:I.dw=[]): ((I.st=true\/I.size=32)/\ ∀w:World,(isAgg t).run P w= .ok true w)\/(I.st=false/\I.size=1/\ ∀w:World,(isAgg t).run P w= .ok false w):=by
 rcases hr.agg hc with ⟨d,hu,hd,hh⟩|⟨d,hu,hd,h1,h2⟩
 ·refine .inl ⟨hh.imp id (·.2),λw=> ?_⟩;unfold isAgg;rw [aen,run_underlying hu w];cases d<;>simp_all [TypeDesc.isRow]
 ·refine .inr ⟨h1,h2,λw=> ?_⟩;unfold isAgg;rw [aen,run_underlying hu w];cases d<;>simp_all [TypeDesc.isRow]
theorem YK {t:TypeId}{I:TI}{cs:List aR}{off:Nat}{arr:Array Value} {K':Slot->Option R}(hr:om c.ti P t I)(hc:I.dw=[])(hv:aJ e arr.toList cs)(hK:kQ I cs off K'=some r): ∃v s,(∀w:World,(afy t arr off).run P w= .ok v w)/\af e v s/\c8 st.fr s/\K' s=some r:=by
 obtain ⟨i,hi,hs,_⟩:=hr.info hc;have ext: ∀v1 v2 v3:List Value,arr.toList=v1++v2++v3->v1.length=off->(arr.extract off (off+v2.length))=v2.toArray:=by intro v1 v2 v3 h1 h2;apply ach.1;rw [aek,h1,adi,AI,<-h2,aej];simp
 unfold kQ at hK;cases eR:I.st with
 |true=>
  simp only [eR,cond_true] at hK;cases hp:Dn.part cs off I.size with
  |none=>simp [hp] at hK
  |some ds=>
   simp only [hp] at hK;obtain ⟨v1,v2,v3,h0,h1,h2,h3⟩:=Lu hp hv;rcases LA (P:=P) hr hc with ⟨_,hag⟩|⟨hf,_⟩
   ·refine ⟨.agg v2.toArray,.ag ds,?_,?_,trivial,hK⟩
    ·have hx:=ext v1 v2 v3 h0 h1;rw [h2] at hx;simp [afy,hag,acd,typeInfo,hi,hs,hx]
    ·simp only [af];exact ⟨_,rfl,by simpa using h3⟩
   ·rw [eR] at hf;cases hf
 |false=>
  simp only [eR,cond_false] at hK;cases hp:cut cs off with
  |none=>simp [hp] at hK
  |some ds=>
   cases ds with
   |nil=>simp [hp] at hK
   |cons l ls=>
    simp only [hp] at hK;cases hb:c9 l.w I.size with
    |false=>simp [hb] at hK
    |true=>
     simp only [hb,cond_true] at hK;have hw:=sh hb;obtain ⟨v1,v2,h0,h1,h2⟩:=zG hp hv;obtain ⟨u,u2,rfl,h3,h4⟩:=h2;have hlu:u.length=I.size:=by rw [h3.width,hw]
     rcases LA (P:=P) hr hc with ⟨hh,hag⟩|⟨_,h1s,hag⟩
     ·refine ⟨.agg u.toArray,.sc l,?_,h3.slot (.inr ⟨rfl,?_⟩),trivial,hK⟩
      ·have hx:=ext v1 u u2 (by rw [h0,AI]) h1;rw [hlu] at hx;simp [afy,hag,acd,typeInfo,hi,hs,hx]
      ·rcases hh with hh|hh
       ·rw [eR] at hh;cases hh
       ·rw [hw,hh]
     ·obtain ⟨v,rfl⟩:=adW.1 (by rw [hlu,h1s]);refine ⟨v,.sc l,?_,h3.slot (.inl ⟨rfl,?_⟩),trivial,hK⟩
      ·have:arr[off]? =some v:=by
        have:arr[off]? =arr.toList[off]? :=by simp
        rw [this,h0,No (by omega),h1];simp
       simp [afy,hag,this]
      ·rw [hw,h1s]
theorem ag3 {t:TypeId}{x:Operand}{f:Nat}{I:TI}(ho:o.op= .field t x f)(hI:c.tv t=some I)(hT:lW P c.ti)(h:cF c Z e st a w)(hK:agI c I f (bw c st x) (λs=>bV c st o.dst s K)=some r):Rd P c Z K r e a w o (λ_=>True):=by
 obtain ⟨hx,qG⟩:=h.eval x;obtain ⟨uB,hc⟩:=b8 hI;obtain ⟨d,i,h1,h2,h3,h4⟩:=hT t I uB;generalize bw c st x=s at hx hK qG;unfold agI at hK;split at hK
 ·rename_i q y cs eR hq hy;simp only [af] at hx;obtain ⟨arr,hx,rT⟩:=hx;cases hJ:c.tv y with
  |none=>simp [hJ] at hK
  |some J=>
   simp only [hJ] at hK;obtain ⟨hJt,hJc⟩:=b8 hJ;obtain ⟨v,s,cB,h5,h6,h7⟩:=YK (P:=P) (st:=st) (hT y J hJt) hJc rT hK;refine ku (v:=v) h ?_ h5 h6 h7;cases d<;>simp only [uA] at h4;case struct fs=>
    obtain ⟨_,_,_,ho1,dh,_⟩:=h4;rw [<-ho1,ab9] at hq;rw [<-dh,ab9] at hy;cases hf:fs.toList[f]? with
    |none=>simp [hf] at hq
    |some fl=>
     simp [hf] at hq hy;subst hq;subst hy;have Up:fs[f]? =some fl:=by simpa using hf
     simp [execOp,ho,hx,Instr.field,run_underlying h1,Up,asAgg,cB]
   all_goals (exfalso;simp_all)
 ·simp at hK
theorem TI.nU {I:TI}{t:TypeId}(hr:om c.ti P t I)(h:I.CW=true):P.underlying t=some (.slice I.elem)/\ ∃E,c.ti I.elem=some E/\E.dw=[]/\0<E.size:=by
 unfold TI.CW at h;split at h
 ·rename_i eR hl;obtain ⟨d,i,h1,h2,h3,h4⟩:=hr;cases d<;>simp only [uA,hl,eR] at h4<;>first|(exfalso;simp_all;done)|skip
  obtain ⟨_,_,_,rfl,hE,_⟩:=h4;exact ⟨h1,hE⟩
 ·cases h
theorem TI.H8 {I:TI}{t:TypeId}(hr:om c.ti P t I)(h:I.XS=true):P.underlying t=some .string:=by
 unfold TI.XS at h;split at h
 ·rename_i eR hl;obtain ⟨d,i,h1,h2,h3,h4⟩:=hr;cases d<;>simp only [uA,hl,eR] at h4<;>first|(exfalso;simp_all;done)|skip
  exact h1
 ·cases h
theorem Py {v:Value}{xs:List MV}(h:af e v (.sc (.p (.list xs)))): ∃ad cap,v= .slice ad xs.length cap/\xs.length<=cap:=by simp only [af,bp] at h;obtain ⟨_,h⟩:=h;generalize hv:[v]=vs at h;cases h;exact ⟨_,_,by simpa using hv,by assumption⟩
theorem sH {f:Nat} {w':oR}{v:Value}(h:cF c Z e st a w)(hv:af e v (.sc (.own f)))(hf:aU st.bh f=some w'):v=e.E f/\ ∃ad cap,v= .slice ad w'.xs.length cap/\w'.xs.length<=cap:=by
 simp only [af] at hv;obtain ⟨u,hu,_,hE⟩:=hv;simp at hu;subst hu;have hE:=hE w' (by rw [h.m];exact hf);refine ⟨hE,?_⟩;obtain ⟨I,cells,_,_,eS,_⟩:=(h.jO f w' hf).row;rcases eS.2 with ⟨h1,h2⟩|⟨g,cap,dM,h1,_,_,h2,_⟩
 ·exact ⟨none,0,by rw [hE,h1,h2],by omega⟩
 ·exact ⟨_,cap,by rw [hE,h1],h2⟩
theorem nV {l:List Operand}:lz c st l=l.map (bw c st):=by
 induction l with
 |nil=>rfl
 |cons x r ih=>simp [lz,ih]
theorem ag4 {cl:Call}{t:TypeId}{I:TI}(ho:o.op= .call cl)(hb:cl.callee= .builtin .len)(ha:cl.argTypes.toList=[t])(hI:c.tv t=some I)(hT:lW P c.ti)(h:cF c Z e st a w)(hK:Yh I st (lz c st cl.args.toList) (λs=>bV c st o.dst s K)=some r):Rd P c Z K r e a w o (λ_=>True):=by
 obtain ⟨uB,hc⟩:=b8 hI;have hr:=hT t I uB;have EY:cl.argTypes= #[t]:=by rw [<-ach,ha]
 rw [nV] at hK;have go: ∀x,cl.args.toList=[x]-> ∀n:Nat,(∃b:ByteArray,a.eval x= .string b/\b.size=n/\P.underlying t=some .string)\/(∃ad cap,a.eval x= .slice ad n cap/\ ∃el,P.underlying t=some (.slice el))-> bV c st o.dst (.sc (.p (.i .i64 n))) K=some r->Rd P c Z K r e a w o (λ_=>True):=by
  intro x hx n Pz hK;have hx':cl.args= #[x]:=by rw [<-ach,hx]
  refine ku h ?_ (zI .i64 (n:Int)) trivial hK;rcases Pz with ⟨b,h1,h2,h3⟩|⟨ad,cap,h1,el,h3⟩
  ·simp [execOp,ho,resolve,hb,invoke,builtin,Builtin.len_,EY,hx',run_underlying h3,h1,goInt,h2]
  ·simp [execOp,ho,resolve,hb,invoke,builtin,Builtin.len_,EY,hx',run_underlying h3,h1,goInt]
 cases hl:cl.args.toList with
 |nil=>rw [hl] at hK;simp [Yh] at hK
 |cons x ys=>
  rw [hl] at hK;cases ys with
  |cons y zs=>simp only [IT] at hK;unfold Yh at hK;split at hK<;>simp_all
  |nil=>
   simp only [IT,afP] at hK;obtain ⟨hx,_⟩:=h.eval x;generalize bw c st x=s at hx hK;unfold Yh at hK;split at hK
   ·rename_i l hs;simp at hs;subst hs;cases hS:I.XS with
    |false=>simp [hS] at hK
    |true=>simp only [hS,cond_true] at hK;obtain ⟨b,EU,rfl⟩:=FR hx;exact go x hl _ (.inl ⟨b,EU,by show b.data.size=_;exact (acg).symm,TI.H8 hr hS⟩) hK
   ·rename_i l hs;simp at hs;subst hs;cases hS:I.CW with
    |false=>simp [hS] at hK
    |true=>simp only [hS,cond_true] at hK;obtain ⟨ad,cap,hv,_⟩:=Py hx;exact go x hl _ (.inr ⟨ad,cap,hv,_,(TI.nU hr hS).1⟩) hK
   ·rename_i hs;simp at hs;subst hs;cases hS:I.CW with
    |false=>simp [hS] at hK
    |true=>simp only [hS,cond_true] at hK;simp only [af] at hx;have hx:[a.eval x]=[aci none 0 0]:=hx;simp at hx;exact go x hl 0 (.inr ⟨none,0,hx,_,(TI.nU hr hS).1⟩) hK
   ·rename_i f hs;simp at hs;subst hs;cases hS:I.CW with
    |false=>simp [hS] at hK
    |true=>
     simp only [hS,cond_true] at hK;cases hf:aU st.bh f with
     |none=>simp [hf] at hK
     |some w'=>simp only [hf] at hK;obtain ⟨_,ad,cap,hv,_⟩:=sH h hx hf;exact go x hl _ (.inr ⟨ad,cap,hv,_,(TI.nU hr hS).1⟩) hK
   ·simp at hK
end
end Dn
/-
  Values as leaves; places of elements; the least and the greatest; parts of slices. Conditions: none.
-/
namespace Dn
open Go
section
variable {P:Program}{c:Ctx}{Z:b7}{e:Env}{st:St}{a:Act} {w w':World}{R:Type}{K:St->Option R}{r:R}{Q:Exit->Act->World->Prop}{o:Oper}
structure afA (e:Env) (k:Kd) (vs:List Value) (m:MV) (l:aR):Prop where
 rep:ni e.key e.φ vs m->bp e vs l
 XX:uN l=true
 mv:ea [l]=some [m]
 one: ∀m',l= .p m'->m'.one=true
 wid:l.w=GK [k]
theorem nW {k:Kd}{m:MV}{vs:List Value} {K':aR->Option R}(hK:kP k m K'=some r): ∃l,afA e k vs m l/\K' l=some r:=by
 have mk: ∀m:MV,m.one=true->(GK [k]=1)->K' (.p m)=some r-> ∃l,afA e k vs m l/\K' l=some r:=λm h1 h2 h3=>⟨.p m,⟨λh=>⟨h1,h⟩,rfl,rfl,λm' e=>by cases e;exact h1,h2.symm⟩,h3⟩
 cases k with
 |b=>unfold kP gB at hK;cases m<;>simp at hK;exact mk _ rfl rfl hK
 |s=>unfold kP gS at hK;cases m<;>simp at hK;exact mk _ rfl rfl hK
 |l=>unfold kP gL at hK;cases m<;>simp at hK;exact mk _ rfl rfl hK
 |i k=>
  unfold kP gI at hK;cases m<;>simp at hK;rename_i k' n;by_cases hk:k'=k
  ·subst hk;simp at hK;exact mk _ rfl rfl hK
  ·simp [hk] at hK
 |h=>unfold kP gH at hK;cases m<;>simp at hK;rename_i x;refine ⟨.hs x,⟨?_,rfl,rfl,by simp,rfl⟩,hK⟩;intro h;cases h;rfl
 |raw=>unfold kP gR at hK;cases m<;>simp at hK<;>exact mk _ rfl rfl hK
theorem B4 {l:aR}{ls:List aR}{m:MV}{ms:List MV}(h1:ea [l]=some [m])(h2:ea ls=some ms):ea (l::ls)=some (m::ms):=by cases l<;>simp [ea] at h1⊢ <;>simp [h2,h1]
structure acL (e:Env) (ks:List Kd) (vs:List Value) (ms:List MV) (ls:List aR):Prop where
 rep:jk e.key e.φ vs ms->aJ e vs ls
 XX:jS ls=true
 mv:ea ls=some ms
 one: ∀m',aR.p m'∈ls->m'.one=true
 wid:zB ls=GK ks
theorem VZ (k:Kd)(ks:List Kd):GK (k::ks)=GK [k]+GK ks:=by cases k<;>simp [GK]
theorem xz {ks:List Kd}: ∀{ms:List MV}{vs:List Value} {K':List aR->Option R},uM ks ms K'=some r-> ∃ls,acL e ks vs ms ls/\K' ls=some r:=by
 induction ks with
 |nil=>
  intro ms vs K' hK;cases ms with
  |nil=>exact ⟨[],⟨λh=>by cases h;rfl,rfl,rfl,by simp,rfl⟩,hK⟩
  |cons m ms=>simp [uM,gN] at hK
 |cons k ks ih=>
  intro ms vs K' hK;cases ms with
  |nil=>simp [uM,gC] at hK
  |cons m ms=>
   simp only [uM,gC] at hK;have h1:=λvs=>nW (e:=e) (vs:=vs) hK;obtain ⟨l,hl,sF⟩:=h1 [];obtain ⟨ls,PA,zJ⟩:=ih (vs:=[]) sF;refine ⟨l::ls,⟨?_,?_,B4 hl.mv PA.mv,?_,?_⟩,zJ⟩
   ·intro h;have g:aJ e vs (l::ls):=by
     apply h.leaves (B4 hl.mv PA.mv);intro m' hm;rcases aaK.1 hm with hm|hm
     ·exact hl.one m' hm.symm
     ·exact PA.one m' hm
    exact g
   ·simp [jS,hl.XX,PA.XX]
   ·intro m' hm;rcases aaK.1 hm with hm|hm
    ·exact hl.one m' hm.symm
    ·exact PA.one m' hm
   ·rw [VZ,<-hl.wid,<-PA.wid];rfl
theorem acM {t:TypeId}{I:TI}(hr:om c.ti P t I)(hc:I.dw=[]):GK I.lay=I.size:=by
 obtain ⟨d,i,h1,h2,h3,h4⟩:=hr;cases d<;>simp only [uA] at h4;case struct fs=>exact h4.2.2.1.2
 case tuple ts=>exact absurd hc h4.2.1
 case slice el=>obtain ⟨_,_,hs,_,_,_,_,k,hl,rfl⟩:=h4;rw [hl,hs];rfl
 case array n el=>obtain ⟨_,_,hs,_,_,_,hl,_⟩:=h4;rw [hl,hs];rfl
 all_goals (obtain ⟨_,_,hs,hl,_⟩:=h4;rw [hl,hs];rfl)
theorem FV {E:TI}{t:TypeId}{x:MV} {K':List aR->Option R}(hr:om c.ti P t E)(hc:E.dw=[])(hK:MZ E x K'=some r): ∃cs,HW E.st x cs/\jS cs=true/\zB cs=E.size/\K' cs=some r:=by
 have hlw:=acM hr hc;unfold MZ at hK;cases eR:E.st with
 |true=>
  simp only [eR,cond_true] at hK;unfold gA at hK;split at hK
  ·rename_i ms;obtain ⟨ls,PA,sF⟩:=xz (e:=⟨λn=>n,λ_ _=>none,λ_=>undef,λ_=>0,[]⟩) (vs:=[]) hK;exact ⟨ls,⟨⟨ms,PA.mv,by simp [C0]⟩,PA.one⟩,PA.XX,by rw [PA.wid,hlw],sF⟩
  ·simp at hK
 |false=>
  simp only [eR,cond_false] at hK;split at hK
  ·rename_i k hl;obtain ⟨l,sE,sF⟩:=nW (e:=⟨λn=>n,λ_ _=>none,λ_=>undef,λ_=>0,[]⟩) (vs:=[]) hK;refine ⟨[l],⟨⟨[x],sE.mv,by simp [C0]⟩,?_⟩,by simp [jS,sE.XX],?_,sF⟩
   ·intro m hm;simp at hm;exact sE.one m hm.symm
   ·rw [<-hlw,hl,<-sE.wid];rfl
  ·simp at hK
theorem ag5 {t:TypeId}{x y:Operand}{I E:TI}(ho:o.op= .indexAddr t x y)(hI:c.tv t=some I)(hE:c.tv I.elem=some E)(hT:lW P c.ti)(h:cF c Z e st a w)(hK:agJ c st I E (bw c st x) (bw c st y) (λs=>bV c st o.dst s K)=some r):Rd P c Z K r e a w o (λ_=>True):=by
 obtain ⟨hx,qG⟩:=h.eval x;obtain ⟨hy,_⟩:=h.eval y;obtain ⟨uB,hc⟩:=b8 hI;obtain ⟨oQ,rU⟩:=b8 hE;have hr:=hT t I uB;have hrE:=hT _ E oQ;obtain ⟨iE,hiE,hsE,_⟩:=hrE.info rU;have run: ∀k n bG off len cap,P.underlying t=some (.slice I.elem)->a.eval y= .int k n->a.eval x= .slice (some ⟨bG,off,none⟩) len cap->0<=n->n.toNat<len-> ∀w:World,(execOp a.eval o).run P w= .ok (.value (.pointer (some ⟨bG,off+n.toNat *E.size,none⟩))) w:=by
  intro k n bG off len cap hu hy hx h0 h1 w;have h2:n<(len:Int):=by omega
  simp [execOp,ho,hx,hy,Instr.indexAt,asIntOf,run_underlying hu,h0,h2,acd,typeInfo,hiE,hsE,acn]
 generalize bw c st x=sx at hx hK qG;generalize bw c st y=sy at hy hK;unfold agJ at hK;split at hK
 ·rename_i xs k n;cases hL:I.CW with
  |false=>simp [hL] at hK
  |true=>
   simp only [hL,cond_true] at hK;obtain ⟨h0,m,hm,hK⟩:=Pu hK;obtain ⟨cs,h1,h2,h3,hK⟩:=FV hrE rU hK;have dY:n.toNat<xs.length:=(AS.1 hm).1;simp only [af,bp] at hx;obtain ⟨_,hx⟩:=hx;generalize hv:[a.eval x]=vs at hx;cases hx with
   |list ad cap _ bG off OY f g1 g2 g3 g4 g5=>
   simp at hv;have gl:=g5 n.toNat dY;rw [(AS.1 hm).2] at gl;have rT:=gl.H6 h1;have hes:OY=E.size:=by rw [<-h3,<-rT.width,g3 _ dY]
   rw [g2 (by omega)] at hv;refine ku (s:= .rp cs 0) h (run k n bG off _ cap (TI.nU hr hL).1 (pS hy) hv h0 dY) ?_ trivial hK;simp only [af];refine ⟨bG,off+n.toNat *E.size,f n.toNat,rfl,rT,h2,?_⟩;intro j hj;rw [g3 _ dY] at hj;rw [<-hes];exact g4 n.toNat j dY hj
 ·rename_i f k n;cases hf:aU st.bh f with
  |none=>simp [hf] at hK
  |some fo=>
   simp only [hf] at hK;cases hL:I.CW with
   |false=>simp [hL] at hK
   |true=>
    simp only [hL,cond_true] at hK;obtain ⟨h0,m,hm,hK⟩:=Pu hK;obtain ⟨cs,h1,h2,h3,hK⟩:=FV hrE rU hK;have dY:n.toNat<fo.xs.length:=(AS.1 hm).1;obtain ⟨hv,_⟩:=sH h hx hf;obtain ⟨J,cells,_,_,eS,_⟩:=(h.jO f fo hf).row;rcases eS.2 with ⟨h5,h6⟩|⟨g,cap,dM,h5,_⟩
    ·omega
    ·rw [h5] at hv;refine ku (s:= .ep f n.toNat 0 E.st cs) h (run k n g 0 _ cap (TI.nU hr hL).1 (pS hy) hv h0 dY) ?_ trivial hK;simp only [af];intro o2 dh;rw [h.m,hf] at dh;cases dh;exact ⟨g,cap,h5,⟨m,hm,h1⟩,by rw [h3,aaL,acO]⟩
 ·rename_i r' o' k n;cases eR:I.st with
  |true=>simp [eR] at hK
  |false=>
   simp only [eR,cond_false] at hK;split at hK
   ·rename_i hl;obtain ⟨Sn,hK⟩:=gk hK;obtain ⟨h0,h1⟩:=of_decide_eq_true Sn;obtain ⟨d,i,hu,h2,h3,h4⟩:=hr;cases d<;>simp only [uA,hl,eR] at h4<;>first|(exfalso;simp_all;done)|skip
    obtain ⟨_,_,_,rfl,_,⟨ie,hue,oP,yP⟩,_⟩:=h4;simp only [af] at hx;refine ku (s:= .hp r' o' n.toNat) (v:= .pointer (some ⟨e.B r',o'+n.toNat,none⟩)) h ?_ ?_ qG hK
    ·simp [execOp,ho,hx,pS hy,Instr.indexAt,asIntOf,run_underlying hu,h0,h1,acd,typeInfo,oP,yP,acT,acn]
    ·simp only [af];exact ⟨trivial,by omega⟩
   ·simp at hK
 ·simp at hK
theorem V0 {mx:Bool}{k:IntKind}{ss:List Slot}: ∀{vs:List Value}{n:Int}{m:MV},Yc mx k n ss=some m->vs.length=ss.length-> (∀(i:Nat)(v:Value)(s:Slot),vs[i]? =some v->ss[i]? =some s->af e v s)-> ∃v,(∀w:World,(vs.foldlM (if mx then Builtin.max2 else Builtin.min2) (.int k n)).run P w= .ok v w)/\af e v (.sc (.p m)):=by
 induction ss with
 |nil=>intro vs n m hm hl hs;have:=IN hl;subst this;simp [Yc] at hm;subst hm;exact ⟨.int k n,by simp,zI k n⟩
 |cons s ss ih=>
  intro vs n m hm hl hs;cases vs with
  |nil=>simp at hl
  |cons v vs=>
   have h0:=hs 0 v s rfl rfl;unfold Yc at hm;split at hm
   ·rename_i oM;simp at oM
   ·rename_i k' y r' oM;simp at oM;obtain ⟨rfl,rfl⟩:=oM;by_cases hk:k'=k
    ·subst hk;simp only [decide_true,cond_true] at hm;obtain ⟨u,h1,h2⟩:=ih hm (by simpa using hl) (λi v s h1 h2=>hs (i+1) v s (by simpa using h1) (by simpa using h2));refine ⟨u,λw=> ?_,h2⟩;have h1:=h1 w;rw [pS h0];cases mx
     ·simp only [cond_false,nT] at h1;simp [Builtin.min2] at h1⊢;exact h1
     ·simp only [cond_true,imax] at h1;simp [Builtin.max2] at h1⊢;exact h1
    ·simp [hk] at hm
   ·simp at hm
theorem LB {cl:Call}{mx:Bool}{m:MV}(ho:o.op= .call cl)(hb:cl.callee= .builtin (if mx then .max else .min))(h:cF c Z e st a w)(hm:R0 mx (lz c st cl.args.toList)=some m)(hK:bV c st o.dst (.sc (.p m)) K=some r):Rd P c Z K r e a w o (λ_=>True):=by
 rw [nV] at hm;cases hl:cl.args.toList with
 |nil=>rw [hl] at hm;simp [R0] at hm
 |cons x xs=>
  rw [hl] at hm;simp only [IT] at hm;obtain ⟨hx,_⟩:=h.eval x;generalize bw c st x=s at hx hm;unfold R0 at hm;split at hm
  ·rename_i k n ss oM;simp at oM;obtain ⟨rfl,rfl⟩:=oM;obtain ⟨v,h1,h2⟩:=V0 (e:=e) (P:=P) (vs:=xs.map a.eval) hm (by simp) (by intro i v s h1 h2;simp only [ab9,Option.map_eq_some_iff] at h1 h2;obtain ⟨y,h3,rfl⟩:=h1;obtain ⟨y',h4,rfl⟩:=h2;rw [h3] at h4;cases h4;exact (h.eval y).1);have gm:(cl.args.map a.eval).toList= .int k n::xs.map a.eval:=by simp [hl,pS hx]
   refine ku (v:=v) h ?_ h2 trivial hK;intro w;have h1:=h1 w;cases mx
   ·simp at hb h1;have YL: ∀ts t,(Builtin.min_ ts t (cl.args.map a.eval)).run P w= .ok v w:=by intro ts t;unfold Builtin.min_;rw [gm];exact h1
    simp [execOp,ho,resolve,hb,invoke,builtin,YL]
   ·simp at hb h1;have YL: ∀ts t,(Builtin.max_ ts t (cl.args.map a.eval)).run P w= .ok v w:=by intro ts t;unfold Builtin.max_;rw [gm];exact h1
    simp [execOp,ho,resolve,hb,invoke,builtin,YL]
  ·simp at hm
end
end Dn
/-
  Parts of slices and texts. Conditions: none.
-/
namespace Dn
open Go
section
variable {P:Program}{c:Ctx}{Z:b7}{e:Env}{st:St}{a:Act} {w w':World}{R:Type}{K:St->Option R}{r:R}{Q:Exit->Act->World->Prop}{o:Oper}
theorem xA {b:Bool}{lo hi:Option Operand}{len cap:Nat} {K':Nat->Nat->Option R}(h:cF c Z e st a w)(EZ:len<=cap)(hK:sliceB (mC c st lo) (mC c st hi) len K'=some r): ∃l h',l<=h'/\h'<=len/\(lo=none->l=0)/\(∀w:World,(acf b len cap (lo.map a.eval) (hi.map a.eval) none).run P w= .ok (l,h',cap) w)/\K' l h'=some r:=by
 have bnd: ∀(k:IntKind) (n:Int) (y:Nat) (cd:BoundsCode),0<=n->n<=(y:Int)-> ∀w:World,(aeT (.int k n) y cd).run P w= .ok n.toNat w:=by intro k n y cd h1 h2 w;simp [aeT,asIntOf,h1,h2]
 unfold sliceB at hK;cases lo with
 |none=>
  cases hi with
  |none=>simp only [mC] at hK;exact ⟨0,len,by omega,by omega,λ_=>rfl,by simp [acf],hK⟩
  |some y=>
   obtain ⟨hy,_⟩:=h.eval y;simp only [mC] at hK;generalize bw c st y=sy at hy hK;split at hK<;>first|(simp_all;done)|skip
   ·rename_i k n h1 h2;simp at h2;subst h2;obtain ⟨Sn,hK⟩:=gk hK;obtain ⟨h3,h4,h5⟩:=of_decide_eq_true Sn;refine ⟨0,n.toNat,by omega,by omega,λ_=>rfl,?_,hK⟩;have:=bnd k n cap (if b then .sliceAcap else .sliceAlen) h4 (by omega);cases b<;>simp at this<;>simp [acf,pS hy,this]
 |some x=>
  obtain ⟨hx,_⟩:=h.eval x;cases hi with
  |none=>
   simp only [mC] at hK;generalize bw c st x=sx at hx hK;split at hK<;>first|(simp_all;done)|skip
   ·rename_i k n h1 h2;simp at h1;subst h1;obtain ⟨Sn,hK⟩:=gk hK;obtain ⟨h3,h4,h5⟩:=of_decide_eq_true Sn;refine ⟨n.toNat,len,by omega,by omega,by simp,?_,by simpa using hK⟩;have:=bnd k n len .sliceB h3 h4;simp [acf,pS hx,this]
  |some y=>
   obtain ⟨hy,_⟩:=h.eval y;simp only [mC] at hK;generalize bw c st x=sx at hx hK;generalize bw c st y=sy at hy hK;split at hK<;>first|(simp_all;done)|skip
   ·rename_i k n k' n' h1 h2;simp at h1 h2;subst h1;subst h2;obtain ⟨Sn,hK⟩:=gk hK;obtain ⟨h3,h4,h5⟩:=of_decide_eq_true Sn;refine ⟨n.toNat,n'.toNat,by omega,by omega,by simp,?_,hK⟩;have t1:=bnd k' n' cap (if b then .sliceAcap else .sliceAlen) (by omega) (by omega);have t2:=bnd k n n'.toNat .sliceB h3 (by omega);cases b<;>simp at t1<;>simp [acf,pS hx,pS hy,t1,t2]
theorem ni.sub {key:Nat->Nat} {φ:Ph}{ad:Option Addr}{len cap:Nat}{xs:List MV} {l h' size:Nat}(hv:ni key φ [.slice ad len cap] (.list xs))(hl:l<=h')(hh:h'<=xs.length)(hw:l≠0-> ∀x∈xs,x.w=size):len=xs.length/\len<=cap/\ni key φ [.slice (if cap=l then ad else ad.map (·.add (l *size))) (h'-l) (cap-l)] (.list ((xs.take h').drop l)):=by
 generalize B1:[aci ad len cap]=vs at hv;cases hv with
 |list ad' ag1 _ bG off OY f g1 g2 g3 g4 g5=>
 simp at B1;obtain ⟨rfl,rfl,rfl⟩:=B1;refine ⟨rfl,g1,?_⟩;have hlen:((xs.take h').drop l).length=h'-l:=by simp;omega
 have ajV:ni key φ [.slice (if cap=l then ad else ad.map (·.add (l *size))) ((xs.take h').drop l).length (cap-l)] (.list ((xs.take h').drop l)):=by
  have na: ∀i,i<((xs.take h').drop l).length->i+l<xs.length:=by intro i hi;omega
  have hel: ∀(i:Nat) (hi:i<((xs.take h').drop l).length),((xs.take h').drop l)[i]=xs[i+l]'(na i hi):=by intro i hi;simp [aeo]
  refine .list _ _ _ bG (off+l *OY) OY (λi=>f (i+l)) (by rw [hlen];omega) ?_ ?_ ?_ ?_
  ·intro h0;have dG:cap≠l:=by omega
   have XY:0<xs.length:=by omega
   rw [g2 XY];simp only [dG,if_false,Option.map_some,AT];by_cases hl0:l=0
   ·subst hl0;simp [acn]
   ·have hes:OY=size:=by have h3:=g5 0 XY;rw [<-g3 0 XY,h3.width];exact hw hl0 _ (aeU XY)
    rw [hes,acn]
  ·intro i hi;exact g3 _ (na i hi)
  ·intro i j hi hj;have:=g4 (i+l) j (na i hi) hj;rw [<-this];congr 1;rw [ael];omega
  ·intro i hi;rw [hel i hi];exact g5 (i+l) (na i hi)
 rw [hlen] at ajV;exact ajV
theorem Dc {n:Nat}{l:List MV}(h:nS n l=true): ∀x∈l,x.w=n:=by intro x hx;unfold nS at h;rw [aeu] at h;exact sh (h x hx)
theorem bx.nS {key:Nat->Nat} {φ:Ph}{size:Nat}{xs:List MV}: ∀{cs:List Value},bx key φ size cs xs-> ∀x∈xs,x.w=size:=by
 induction xs with
 |nil=>intro cs _ x hx;simp at hx
 |cons y ys ih=>
  intro cs h x hx;obtain ⟨v,q,rfl,h1,h2,h3⟩:=h;rcases aaK.1 hx with rfl|hx
  ·rw [<-h2.width,h1]
  ·exact ih h3 x hx
theorem YM {t:TypeId}{x:Operand}{lo hi:Option Operand}{I:TI}(ho:o.op= .slice t x lo hi none)(hI:c.tv t=some I)(hT:lW P c.ti)(h:cF c Z e st a w)(hK:R2 c I st (bw c st x) (mC c st lo) (mC c st hi) (λs st=>bV c st o.dst s K)=some r):Rd P c Z K r e a w o (λ_=>True):=by
 obtain ⟨hx,qG⟩:=h.eval x;obtain ⟨uB,hc⟩:=b8 hI;have hr:=hT t I uB;have run: ∀{el E},P.underlying t=some (.slice el)->c.ti el=some E->E.dw=[]-> ∀ad len cap l h',a.eval x= .slice ad len cap->(∀w:World,(acf true len cap (lo.map a.eval) (hi.map a.eval) none).run P w= .ok (l,h',cap) w)-> ∀w:World,(execOp a.eval o).run P w= .ok (.value (.slice (if cap=l then ad else ad.map (·.add (l *E.size))) (h'-l) (cap-l))) w:=by intro el E hu hE rU ad len cap l h' hv hb w;obtain ⟨iE,hiE,hsE,_⟩:=(hT _ E hE).info rU;simp [execOp,ho,afH,af3,run_underlying hu,hv,hb,acd,typeInfo,hiE,hsE]
 generalize hs:bw c st x=s at hx hK qG;unfold R2 at hK;split at hK
 ·rename_i bs;cases hS:I.XS with
  |false=>simp [hS] at hK
  |true=>
   simp only [hS,cond_true] at hK;have hu:=TI.H8 hr hS;obtain ⟨b,hb,rfl⟩:=FR hx;have we:b.data.toList.length=b.size:=by rw [acg];rfl
   rw [we] at hK;obtain ⟨l,h',h1,h2,_,h3,hK⟩:=xA (P:=P) (b:=false) (cap:=b.size) h (aar _) hK;refine ku (s:= .sc (.p (.s ((b.data.toList.take h').drop l)))) (v:= .string (b.extract l h')) h ?_ ?_ trivial hK
   ·simp [execOp,ho,afH,af3,run_underlying hu,hb,h3]
   ·have:=acy (e:=e) (b.extract l h');have h5:(b.extract l h').data.toList=(b.data.toList.take h').drop l:=by rw [adX,aek,adi,List.drop_take]
    rwa [h5] at this
 ·rename_i xs;cases hS:I.CW with
  |false=>simp [hS] at hK
  |true=>
   simp only [hS,cond_true] at hK;obtain ⟨hu,_⟩:=TI.nU hr hS;cases hE:c.tv I.elem with
   |none=>simp [hE] at hK
   |some E=>
    simp only [hE] at hK;obtain ⟨oQ,rU⟩:=b8 hE;have zJ:(lo≠none->nS E.size xs=true)/\sliceB (mC c st lo) (mC c st hi) xs.length (λl h'=>bV c st o.dst (.sc (.p (.list ((xs.take h').drop l)))) K)=some r:=by
     cases lo with
     |none=>exact ⟨by simp,hK⟩
     |some y=>simp only [mC] at hK⊢;obtain ⟨h1,h2⟩:=gk hK;exact ⟨λ_=>h1,h2⟩
    obtain ⟨hw,hK⟩:=zJ;obtain ⟨ad,cap,hv,EZ⟩:=Py hx;obtain ⟨l,h',h1,h2,h0,h3,hK⟩:=xA (P:=P) (b:=true) (cap:=cap) h EZ hK;simp only [af,bp] at hx;rw [hv] at hx;obtain ⟨_,_,gl⟩:=ni.sub (size:=E.size) hx.2 h1 h2 (λhl=>Dc (hw (λhn=>hl (h0 hn))));refine ku (s:= .sc (.p (.list ((xs.take h').drop l)))) h (run hu oQ rU ad _ cap l h' hv h3) ?_ trivial hK;simp only [af,bp];exact ⟨rfl,gl⟩
 ·rename_i f;cases hf:aU st.bh f with
  |none=>simp [hf] at hK
  |some fo=>
   simp only [hf] at hK;cases hS:I.CW&&c9 fo.ty I.elem with
   |false=>simp [hS] at hK
   |true=>simp only [hS,cond_true] at hK;simp only [aaJ] at hS;obtain ⟨hu,E,oQ,rU,_⟩:=TI.nU hr hS.1;have kS:=sh hS.2;obtain ⟨hvE,ad,cap,hv,EZ⟩:=sH h hx hf;simp only [af] at hx;obtain ⟨J,cells,hJ,_,_,kw,_⟩:=(h.jO f fo hf).row;rw [kS,oQ] at hJ;cases hJ;have hwx:=kw.nS;obtain ⟨e',cP,m,A4,acJ,EW,gl,hK,_,hm⟩:=qZ h hx hK;obtain ⟨o2,dh,rfl⟩:=hm.1 f rfl;rw [hf] at dh;cases dh;obtain ⟨l,h',h1,h2,h0,h3,hK⟩:=xA (P:=P) (b:=true) (cap:=cap) h EZ hK;rw [hv] at gl;obtain ⟨_,_,gl⟩:=ni.sub (size:=E.size) gl h1 h2 (λ_=>hwx);refine VT (s:= .sc (.p (.list ((fo.xs.take h').drop l)))) (λw _=>run hu oQ rU ad _ cap l h' hv h3 w) A4 acJ.tr (.of ?_ trivial) hK;simp only [af,bp];exact ⟨rfl,gl⟩
 ·cases hS:I.CW with
  |false=>simp [hS] at hK
  |true=>
   simp only [hS,cond_true] at hK;obtain ⟨hu,E,oQ,rU,_⟩:=TI.nU hr hS;simp only [af] at hx;have hx:[a.eval x]=[aci none 0 0]:=hx;simp at hx;obtain ⟨l,h',h1,h2,_,h3,hK⟩:=xA (P:=P) (b:=true) (cap:=0) h (aar _) hK;have h4:h'=0:=by omega
   have h5:l=0:=by omega
   subst h4;subst h5;refine ku (s:= .sc .nil) h (run hu oQ rU none 0 0 0 0 hx h3) ?_ trivial hK;simp only [af,if_true];rfl
 ·simp at hK
end
end Dn
/-
  Stores. Conditions: none.
-/
namespace Dn
open Go
section
variable {P:Program}{c:Ctx}{Z:b7} {e e':Env}{st:St}{a:Act} {w w':World}{R:Type}{K:St->Option R}{r:R}{Q:Exit->Act->World->Prop}{o:Oper}
theorem H9 (x:lR)(i:Nat)(b:UInt8)(hi:i<32):bR (x.put i b)=(bR x).take i++[.int .u8 (b.toNat:Int)]++(bR x).drop (i+1):=by
 have:bR (x.put i b)=(bR x).set i (.int .u8 (b.toNat:Int)):=by simp [bR,lR.put,List.map_set]
 have hl:=dL x;rw [this,List.set_eq_take_append_cons_drop,if_pos (by omega)];simp
structure YN (e e':Env):Prop where
 key:e'.key=e.key
 φ:sD e.φ e'.φ
 jO: ∀f o',aU e'.m f=some o'->(∃o,aU e.m f=some o)/\e'.E f=e.E f
theorem bp.YO (h:YN e e'){vs:List Value}{l:aR}(hr:bp e vs l):bp e' vs l:=by
 cases l with
 |p m=>exact ⟨hr.1,by have:=hr.2.mono h.φ;rw [<-h.key] at this;exact this⟩
 |own f=>obtain ⟨v,rfl,hv,hf⟩:=hr;refine ⟨v,rfl,hv,λo' Cn=> ?_⟩;obtain ⟨⟨o,ho⟩,hE⟩:=h.jO f o' Cn;rw [hE];exact hf o ho
 |_=>exact hr
theorem aJ.YO (h:YN e e'){cs:List aR}: ∀{vs:List Value},aJ e vs cs->aJ e' vs cs:=by
 induction cs with
 |nil=>intro vs hr;exact hr
 |cons l r ih=>intro vs hr;obtain ⟨v,w,rfl,h1,h2⟩:=hr;exact ⟨v,w,rfl,h1.YO h,ih h2⟩
def Ur (f:Nat)(s:Slot):Slot:=match s with
 | .ep g i o b cs=>bif c9 g f then .sc .un else .ep g i o b cs
 |s=>s
theorem wg (f:Nat)(r:Fr)(t:Nat):au (zE f r) t=Ur f (au r t):=HZ (Ur f) rfl r t
theorem V1 (f:Nat)(s:Slot):dx (Ur f s)=dx s:=by cases s<;>simp only [Ur];rename_i g _ _ _ _;cases c9 g f<;>rfl
theorem af.YO {f:Nat}{T:Nat->Prop}(h:YN e e')(vE:lB (· ≠f) T e e'){v:Value}{s:Slot}(hT:gj (λ_=>True) T s)(hr:af e v s):af e' v (Ur f s):=by
 cases s with
 |sc l=>
  simp only [Ur];cases l with
  |un=>simp [af]
  |hs x=>simpa [af] using hr
  |p m=>simp only [af] at hr⊢;exact hr.YO h
  |nil=>simp only [af] at hr⊢;exact hr.YO h
  |mp s es=>simp only [af] at hr⊢;exact hr
  |own f=>simp only [af] at hr⊢;exact hr.YO h
 |ag cs=>simp only [Ur,af] at hr⊢;obtain ⟨arr,h1,h2⟩:=hr;exact ⟨arr,h1,h2.YO h⟩
 |ep g i o b cs=>
  simp only [Ur];cases hb:c9 g f
  ·simp only [cond_false];refine hr.on vE ?_;simp only [gj];intro e;subst e;simp [gh] at hb
  ·simp [af]
 |_=>exact hr.on vE hT
theorem kr.YO (h:YN e e')(hk:e'.key=e.key)(hp:sD e.φ e'.φ){o:Obj}{cs:List aR}(hr:kr e o cs):kr e' o cs:=by
 cases o with
 |cells arr T z=>exact ⟨hr.1,hr.2.YO h⟩
 |map es clock=>exact hr
 |stringIter x pos=>exact hr
 |_=>exact hr.elim
theorem bx.set {key:Nat->Nat} {φ:Ph}{size:Nat}{xs:List MV}: ∀{cs:List Value}{i:Nat}{x:MV} {v':List Value},bx key φ size cs xs->i<xs.length->v'.length=size->ni key φ v' x-> bx key φ size (cs.take (i *size)++v'++cs.drop (i *size+size)) (xs.set i x):=by
 induction xs with
 |nil=>intro cs i x v' _ hi;simp at hi
 |cons y ys ih=>
  intro cs i x v' h hi hl hr;obtain ⟨v,q,rfl,h1,h2,h3⟩:=h;cases i with
  |zero=>simp only [aep,List.take_zero,afw,aaL,List.set_cons_zero];exact ⟨v',q,by rw [aco h1],hl,hr,h3⟩
  |succ i=>have:=ih h3 (by simpa using hi) hl hr;rw [List.set_cons_succ];refine ⟨v,_,?_,h1,h2,this⟩;rw [acj,acs,adt,ack (by omega),aec (by omega)];rw [show i *size+size-v.length=i *size by omega,show i *size+size+size-v.length=i *size+size by omega];simp
theorem cF.ag6 {f:Nat}{fo:oR}{I:TI}{g i:Nat}{cap:Nat}{dM:Array Value} {v' cells:List Value}{x:MV}(h:cF c Z e st a w)(hf:aU st.bh f=some fo)(hz:fo.eU=false)(hI:c.ti fo.ty=some I)(YI:I.dw=[])(hE:e.E f= .slice (some ⟨g,0,none⟩) fo.xs.length cap)(eS:w.ownsRow 0 fo.ty I.size (e.E f) fo.xs.length cells)(hg:w.heap[g]? =some (.cells dM fo.ty (0,0)))(kw:bx e.key e.φ I.size cells fo.xs)(hi:i<fo.xs.length)(hl:v'.length=I.size)(hr:ni e.key e.φ v' x)(Cr:f∉Z.cZ): cF c Z {e with m:=cq e.m f ⟨fo.ty,false,fo.xs.set i x⟩} {st with fr:=zE f st.fr,bh:=cq st.bh f ⟨fo.ty,false,fo.xs.set i x⟩} a (w.setRow g (dM.toList.take (i *I.size)++v'++dM.toList.drop (i *I.size+I.size)).toArray)/\Z g:=by
 have hb:(e.E f).ownBlock=some g:=by rw [hE];rfl
 have hZ:Z g/\ ∀off,e.φ g off=none:=by
  obtain ⟨J,xy,_,_,_,_,h5⟩:=(h.jO f fo hf).row;obtain ⟨h6,h7⟩:=h5 g hb;refine ⟨Pp h6 Cr,λoff=> ?_⟩;cases hp:e.φ g off with
  |none=>rfl
  |some u=>have:=(h7.1 off u hp).1;rw [hz] at this;cases this
 have we:=setRow_size w g (dM.toList.take (i *I.size)++v'++dM.toList.drop (i *I.size+I.size)).toArray;have hE1:YN e {e with m:=cq e.m f ⟨fo.ty,false,fo.xs.set i x⟩}:=by
  refine ⟨rfl,.refl _,λf2 o2 dh=>⟨?_,rfl⟩⟩;have dh:aU (cq e.m f ⟨fo.ty,false,fo.xs.set i x⟩) f2=some o2:=dh;rw [bI] at dh;by_cases fJ:f2=f
  ·exact ⟨fo,by rw [fJ,h.m];exact hf⟩
  ·simp only [fJ,if_false] at dh;exact ⟨o2,dh⟩
 have vE:lB (· ≠f) (λ_=>True) e {e with m:=cq e.m f ⟨fo.ty,false,fo.xs.set i x⟩}:=by refine ⟨rfl,.refl _,λ_ _=>rfl,λf2 o2 dh dG=> ?_⟩;have dh:aU (cq e.m f ⟨fo.ty,false,fo.xs.set i x⟩) f2=some o2:=dh;rw [bI] at dh;simp only [dG,if_false] at dh;exact ⟨o2,dh,rfl,rfl⟩
 have na: ∀f2 o2,aU (cq st.bh f ⟨fo.ty,false,fo.xs.set i x⟩) f2=some o2-> ∃o3,aU st.bh f2=some o3:=by
  intro f2 o2 dh;rw [bI] at dh;by_cases fJ:f2=f
  ·exact ⟨fo,by rw [fJ];exact hf⟩
  ·simp only [fJ,if_false] at dh;exact ⟨o2,dh⟩
 refine ⟨⟨h.defers,h.size,by show cq e.m f _=cq st.bh f _;rw [h.m],h.key,?_,?_,?_,?_,?_,?_,?_,?_,λb hb=>h.dn b (by omega)⟩,hZ.1⟩
 ·show (a7 (zE f st.fr)).Nodup;have:a7 (zE f st.fr)=a7 st.fr:=by simp [a7,zE]
  rw [this];exact h.nodup
 ·intro t;show cu Z _ _ t _ (au (zE f st.fr) t);rw [wg];have hs:=h.slot t;have hbf:=h.bf t;generalize au st.fr t=s at hs hbf;by_cases E0: ∃cs,s= .box cs
  ·obtain ⟨cs,rfl⟩:=E0;simp only [cu,Ur] at hs⊢;refine ⟨hs.1,hs.2.dn,?_,hs.2.free⟩;obtain ⟨o2,h1,h2⟩:=hs.2.obj;refine ⟨o2,?_,h2.YO hE1 rfl (.refl _)⟩;rw [setRow_other _ _ _ _ (by intro eb;exact hbf cs f fo rfl hf (by rw [hb,<-eb]))];exact h1
  ·have A4:af e (a.tmps.getD t undef) s:=by cases s<;>simp only [cu] at hs<;>first|exact hs|exact absurd ⟨_,rfl⟩ E0
   have h2:=A4.YO (f:=f) hE1 vE (ez s);generalize hks:Ur f s=s2 at h2;cases s2<;>first|exact h2|(exfalso;simp [af] at h2)
 ·intro t;show c8 (zE f st.fr) (au (zE f st.fr) t);rw [wg];have qG:=h.root t;generalize au st.fr t=s at qG;have hk: ∀q,dx (au (zE f st.fr) q)=dx (au st.fr q):=λq=>by rw [wg,V1]
  cases s with
  |ptr q o=>show dx (au (zE f st.fr) q)=true;rw [hk];exact qG
  |hp q o i=>show dx (au (zE f st.fr) q)=true;rw [hk];exact qG
  |zA q=>show dx (au (zE f st.fr) q)=true;rw [hk];exact qG
  |ep g' _ _ _ _=>simp only [Ur];cases c9 g' f<;>trivial
  |_=>trivial
 ·intro f2 o2 dh;have dh:aU (cq st.bh f ⟨fo.ty,false,fo.xs.set i x⟩) f2=some o2:=dh;rw [bI] at dh;by_cases fJ:f2=f
  ·subst fJ;simp at dh;subst dh;obtain ⟨hlen,Pz⟩:=eS;refine ⟨I,cells.take (i *I.size)++v'++cells.drop (i *I.size+I.size),hI,YI,⟨?_,?_⟩,?_,?_⟩
   ·have hle:i *I.size+I.size<=fo.xs.length *I.size:=by rw [<-acj];exact aaF _ hi
    simp only [IS,acx,adA,afx];omega
   ·have hle:i *I.size+I.size<=fo.xs.length *I.size:=by rw [<-acj];exact aaF _ hi
    rcases Pz with ⟨h1,_⟩|⟨g2,zh,wh,h1,_,h3,h4,h5,h6,h7⟩
    ·rw [hE] at h1;simp at h1
    ·rw [hE] at h1;simp at h1;obtain ⟨rfl,rfl⟩:=h1;rw [hg] at h3;simp at h3;subst h3;refine .inr ⟨g,cap,(dM.toList.take (i *I.size)++v'++dM.toList.drop (i *I.size+I.size)).toArray,by rw [hE];simp,by omega,setRow_heap _ _ _ _ _ _ hg,by simpa using h4,h5,?_,?_⟩
     ·have sf:dM.toList.length=dM.size:=by simp
      have hcz:fo.xs.length *I.size<=cap *I.size:=aaF _ h4;simp only [acq,IS,acx,adA,sf];omega
     ·have sf:dM.toList.length=dM.size:=by simp
      have hcz:fo.xs.length *I.size<=cap *I.size:=aaF _ h4;simp only [afx];rw [<-h7];have e1:(dM.toList.take (fo.xs.length *I.size)).take (i *I.size)=dM.toList.take (i *I.size):=by rw [List.take_take,Nat.min_eq_left (by omega)]
      have e2:(dM.toList.take (fo.xs.length *I.size)).drop (i *I.size+I.size)=(dM.toList.drop (i *I.size+I.size)).take (fo.xs.length *I.size-(i *I.size+I.size)):=by rw [List.drop_take]
      rw [e1,e2];have e3:(dM.toList.take (i *I.size)++v').length=i *I.size+I.size:=by simp only [IS,acx,sf];omega
      show List.take _ (dM.toList.take (i *I.size)++v'++dM.toList.drop (i *I.size+I.size))=_;rw [acs,e3,ack (by omega)]
   ·exact kw.set hi hl hr
   ·intro bG mD;rw [hb] at mD;cases mD;exact ⟨.inr hZ.1,λoff u hu=>(by have hu:e.φ g off=some u:=hu;rw [hZ.2] at hu;cases hu),λ_ hf=>Bool.noConfusion hf⟩
  ·simp only [fJ,if_false] at dh;obtain ⟨I2,xy,h1,h2,h3,h4,h5⟩:=(h.jO f2 o2 dh).row;exact ⟨I2,xy,h1,h2,Sj (λhk=>fJ (h.ff f2 f o2 fo g dh hf hk hb)) h3,h4,h5⟩
 ·intro t t' c1 c2 h1 h2 dG;have h1:au (zE f st.fr) t= .box c1:=h1;have h2:au (zE f st.fr) t'= .box c2:=h2;rw [wg] at h1 h2;have g1:au st.fr t= .box c1:=by generalize au st.fr t=s at h1;cases s<;>simp only [Ur] at h1<;>first|exact h1|(simp at h1;done)|(rename_i g' _ _ _ _;cases EM:c9 g' f<;>simp [EM] at h1)
  have g2:au st.fr t'= .box c2:=by generalize au st.fr t'=s at h2;cases s<;>simp only [Ur] at h2<;>first|exact h2|(simp at h2;done)|(rename_i g' _ _ _ _;cases EM:c9 g' f<;>simp [EM] at h2)
  exact h.bb t t' c1 c2 g1 g2 dG
 ·intro t c1 f2 o2 h1 h2;have h1:au (zE f st.fr) t= .box c1:=h1;rw [wg] at h1;have g1:au st.fr t= .box c1:=by generalize au st.fr t=s at h1;cases s<;>simp only [Ur] at h1<;>first|exact h1|(simp at h1;done)|(rename_i g' _ _ _ _;cases EM:c9 g' f<;>simp [EM] at h1)
  obtain ⟨o3,XV⟩:=na f2 o2 h2;exact h.bf t c1 f2 o3 g1 XV
 ·intro f1 f2 o1 o2 k h1 h2 h3 h4;obtain ⟨q1,g1⟩:=na f1 o1 h1;obtain ⟨q2,g2⟩:=na f2 o2 h2;exact h.ff f1 f2 q1 q2 k g1 g2 h3 h4
 ·intro b off v hv;have hv:e.φ b off=some v:=hv;have dG:b≠g:=by intro eb;subst eb;rw [hZ.2] at hv;cases hv
  rw [ace (setRow_other _ _ _ _ dG)];exact h.qe b off v hv
theorem aJ.anQ {cs:List aR}: ∀{vs:List Value}{ms:List MV},aJ e vs cs->ea cs=some ms->jk e.key e.φ vs ms:=by
 induction cs with
 |nil=>intro vs ms h hm;cases h;simp [ea] at hm;subst hm;exact .nil
 |cons l r ih=>
  intro vs ms h hm;obtain ⟨v,u,rfl,h1,h2⟩:=h;cases hr:ea r with
  |none=>cases l<;>simp [ea,hr] at hm
  |some q=>
   cases l<;>simp [ea,hr] at hm
   ·subst hm;exact .cons v _ u q h1.2 (ih h2 hr)
   ·subst hm;have h1:v=bR _:=h1;subst h1;exact .cons _ _ u q (.h _) (ih h2 hr)
theorem YP {b:Bool}{ms:List MV}{x:MV}{vs:List Value}(h:jk e.key e.φ vs ms)(hx:C0 b ms=some x):ni e.key e.φ vs x:=by
 cases b with
 |true=>cases ms<;>simp [C0] at hx<;>subst hx<;>exact .agg _ _ h
 |false=>
  cases ms with
  |nil=>simp [C0] at hx
  |cons m ms=>
   cases ms with
   |cons y ys=>simp [C0] at hx
   |nil=>
    simp [C0] at hx;subst hx;generalize B1:vs=Sg at h;cases h with
    |cons v _ u _ h1 h2=>cases h2;simpa using h1
theorem YQ {t:TypeId}{x y:Operand}{I:TI}(ho:o.op= .store t x y)(hI:c.tv t=some I)(hT:lW P c.ti)(h:cF c Z e st a w)(hK:stK st I (bw c st x) (bw c st y) (λst=>bV c st o.dst (.sc .un) K)=some r):o.wp P a w (Out c Z K r e.φ w) Q:=by
 obtain ⟨hx,qG⟩:=h.eval x;obtain ⟨hy,_⟩:=h.eval y;obtain ⟨uB,hc⟩:=b8 hI;have hr:=hT t I uB;have go: ∀w' cP,(adn t (a.eval x) (a.eval y)).run P w= .ok () w'->cF c Z e cP a w'->Trans Z e.φ w e.φ w'->bV c cP o.dst (.sc .un) K=some r->o.wp P a w (Out c Z K r e.φ w) Q:=by intro w' cP h1 h2 h3 h4;refine Un ?_ h2 h3 h4;simp [execOp,ho,h1]
 generalize bw c st x=sx at hx hK qG;generalize bw c st y=sy at hy hK;unfold stK at hK;cases hb:wb (bn sy)||!c9 (zB (bn sy)) I.size with
 |true=>simp [hb] at hK
 |false=>
  simp only [hb,cond_false] at hK;simp only [abr,ac0] at hb;have GN:=sh hb.2;have fm:0<I.size:=by
   rcases hr.agg hc with ⟨d,hu,hd,hh⟩|⟨_,_,_,_,hh⟩
   ·obtain ⟨d',i',h1,h2,h3,h4⟩:=hr;cases d'<;>simp only [uA] at h4<;>first|omega|exact h4.2.2.1|exact absurd hc h4.2.1
   ·omega
  have dG:bn sy≠[]:=by intro e0;rw [e0] at GN;simp [zB] at GN;omega
  have hcv:=B3 hy hb.1 dG;split at hK
  ·rename_i root off;simp only [af] at hx;split at hK
   ·rename_i cs xn;have C9:fR cs=false:=by cases hq:fR cs<;>simp_all
    simp only [C9,cond_false] at hK;cases hp:putAt cs off (bn sy) with
    |none=>simp [hp] at hK
    |some gO=>simp only [hp] at hK;obtain ⟨w',cP,h1,h2,h3,h4⟩:=VY (P:=P) C9 hr hc h xn hcv GN hp hK;exact go w' cP (by rw [hx];exact h1) h2 h3 h4
   ·simp at hK
  ·rename_i root off i;simp only [af] at hx;obtain ⟨hx,Sh⟩:=hx;split at hK
   ·rename_i cs n xn;have C9:fR cs=false:=by cases hq:fR cs<;>simp_all
    simp only [C9,cond_false] at hK;split at hK
    ·rename_i x ls Si;unfold gI at hK;split at hK
     ·rename_i k n;by_cases hk:k= .u8
      ·subst hk;simp only [decide_true,cond_true] at hK;obtain ⟨Dd,hK⟩:=gk hK;unfold isByte at Dd;have Dd:=of_decide_eq_true Dd;have hyv:=pS hy;cases hp:putAt cs off [.hs (x.put i (acm n.toNat))] with
       |none=>simp [hp] at hK
       |some gO=>
        simp only [hp] at hK;have pO:=h.slot root;rw [xn] at pO;obtain ⟨arr,T,dB,rT⟩:=pO.2.cells C9;obtain ⟨p1,p2,p3,he,h1,h2,h3⟩:=xw (ws:=bR (x.put i (acm n.toNat))) hp rT ⟨_,[],by simp,rfl,rfl⟩;obtain ⟨u1,u2,hu,h4,h5⟩:=zG Si rT;obtain ⟨u3,u4,rfl,h6,_⟩:=h5;have h6:u3=bR x:=h6;subst h6;have hlx:=dL x;have hly:=dL (x.put i (acm n.toNat));have hpu:p1=u1/\p2++p3=bR x++u4:=List.append_inj (by rw [<-AI,<-he,hu]) (by omega);obtain ⟨rfl,hpu⟩:=hpu;obtain ⟨rfl,rfl⟩:=List.append_inj hpu (by omega);have we:arr.size=p1.length+32+p3.length:=by
         have:arr.toList.length=(p1++bR x++p3).length:=by rw [he]
         simp at this;omega
        have Ng:(a.eval y).cells.toList=[.int .u8 n]:=by rw [hyv];simp [aas]
        have O0:I.size=1:=by rw [<-GN];rfl
        have cB:=nH (P:=P) (w:=w) (bG:=e.B root) (off:=off+i) (v:=a.eval y) hr hc (by rw [Ng,O0];rfl) (by rw [Ng];simp [aaq]) dB (by omega);have lP:arr.toList.take (off+i)++(a.eval y).cells.toList++arr.toList.drop (off+i+I.size)=p1++bR (x.put i (acm n.toNat))++p3:=by rw [Ng,O0,he,H9 x i _ Sh,<-Dd,AI p1,acs,adt,acs,adt];rw [ack (by omega),aec (by omega)];rw [show off+i-p1.length=i by omega,show off+i+1-p1.length=i+1 by omega,show i-(bR x).length=0 by omega,show i+1-(bR x).length=0 by omega];simp
        rw [lP] at cB;unfold wr at hK;cases hn:bU st.dg root with
        |true=>simp [hn] at hK
        |false=>simp only [hn,cond_false,force_eq,nG] at hK;exact go _ _ (by rw [hx];exact cB) (h.YH xn dB (by simpa using h3) (λt=>by rw [ck]) (fG h.nodup)) (.setRow _ (Pp pO.2.dn (by rw [<-h.defers.2.1,<-b4,hn];simp))) hK
      ·simp [hk] at hK
     ·simp at hK
    ·simp at hK
   ·simp at hK
  ·rename_i f i off b cs;obtain ⟨e1,dH,ms,yP,CX,EX,Lz,hK,hp1,Db⟩:=nn h hcv hK;have hx:=hx.on CX.on (ez _);cases hf:aU dH.bh f with
   |none=>simp [hf] at hK
   |some fo=>
    simp only [hf] at hK;cases hz:fo.eU with
    |true=>simp [hz] at hK
    |false=>
     simp only [hz,cond_false] at hK;cases Lx:rV (bn sy) ms with
     |none=>simp [Lx] at hK
     |some vs=>
      simp only [Lx] at hK;obtain ⟨B1,_⟩:=Db vs Lx;cases hp:putAt cs off vs with
      |none=>simp [hp] at hK
      |some gO=>
       simp only [hp] at hK;cases hm:ea gO with
       |none=>simp [hm] at hK
       |some ms'=>
        simp only [hm] at hK;cases hre:C0 b ms' with
        |none=>simp [hre] at hK
        |some x'=>
         simp only [hre] at hK;cases hn:bU dH.cZ f with
         |true=>simp [hn] at hK
         |false=>
          simp only [hn,cond_false,agN,oU] at hK;simp only [af] at hx;obtain ⟨bG,cap,hE,⟨x0,XY,hel⟩,YR⟩:=hx fo (by rw [yP.m];exact hf);obtain ⟨J,cells,hJ,hJc,eS,kw,_⟩:=(yP.jO f fo hf).row;have hi:i<fo.xs.length:=(AS.1 XY).1;obtain ⟨p1,v1,p2,hce,A3,sE,gl⟩:=kw.at XY;have rT:=gl.H6 hel;have hw1:=rT.width;obtain ⟨q1,q2,q3,VV,hq1,hq2,lP⟩:=xw hp rT B1;have ajX:(a.eval y).cells.toList.length=I.size:=by rw [hcv.width,GN]
          have ajY:=YP (lP.anQ hm) hre;obtain ⟨hlen,Pz⟩:=eS;rcases Pz with ⟨g1,_⟩|⟨g2,zh,dM,g1,g0,g3,g4,g5,g6,g7⟩
          ·rw [hE] at g1;simp at g1
          ·have LC:w.ownsRow 0 fo.ty J.size (e1.E f) fo.xs.length cells:=⟨hlen,.inr ⟨g2,zh,dM,g1,g0,g3,g4,g5,g6,g7⟩⟩
           rw [hE] at g1;simp at g1;obtain ⟨rfl,rfl⟩:=g1;have hvl:(q1++(a.eval y).cells.toList++q3).length=J.size:=by
            have:v1.length=(q1++q2++q3).length:=by rw [VV]
            simp only [IS] at this⊢;omega
           obtain ⟨tf,hZ⟩:=yP.ag6 hf hz hJ hJc hE LC g3 kw hi hvl ajY (by rw [<-yP.defers.2.2.1,<-b4,hn];simp);have YS:dM.toList=p1++q1++q2++(q3++p2++dM.toList.drop (fo.xs.length *J.size)):=by have:=List.take_append_drop (fo.xs.length *J.size) dM.toList;rw [g7,hce,VV] at this;refine this.symm.trans ?_;simp
           have asi:q2.length=I.size:=by rw [hq2,ajX]
           have H7:(p1++q1).length=i *J.size+off:=by simp [A3,hq1]
           have asj:dM.size=(p1++q1).length+I.size+(q3++p2++dM.toList.drop (fo.xs.length *J.size)).length:=by
            have:dM.toList.length=(p1++q1++q2++(q3++p2++dM.toList.drop (fo.xs.length *J.size))).length:=by rw [<-YS]
            rw [IS,IS] at this;rw [acg] at this;omega
           have cB:=nH (P:=P) (w:=w) (bG:=bG) (off:=i *J.size+off) (v:=a.eval y) hr hc ajX hcv.cells g3 (by omega);have zK:dM.toList.take (i *J.size+off)++(a.eval y).cells.toList++dM.toList.drop (i *J.size+off+I.size)= dM.toList.take (i *J.size)++(q1++(a.eval y).cells.toList++q3)++dM.toList.drop (i *J.size+J.size):=by
            have t1:dM.toList.take (i *J.size+off)=p1++q1:=by
             conv=>lhs;rw [YS,AI (p1++q1)]
             exact acI H7
            have t2:dM.toList.drop (i *J.size+off+I.size)=q3++p2++dM.toList.drop (fo.xs.length *J.size):=by
             conv=>lhs;rw [YS]
             exact aco (by rw [IS];omega)
            have t3:dM.toList.take (i *J.size)=p1:=by
             conv=>lhs;rw [YS]
             simp only [AI];exact acI A3
            have t4:dM.toList.drop (i *J.size+J.size)=p2++dM.toList.drop (fo.xs.length *J.size):=by
             have PB:dM.toList=(p1++(q1++q2++q3))++(p2++dM.toList.drop (fo.xs.length *J.size)):=by
              conv=>lhs;rw [YS]
              simp
             conv=>lhs;rw [PB]
             exact aco (by rw [IS,<-VV];omega)
            rw [t1,t2,t3,t4];simp
           rw [zK] at cB;have anU:i *zB cs+off=i *J.size+off:=by rw [<-hw1,sE]
           refine Un (w':=w.setRow bG (dM.toList.take (i *J.size)++(q1++(a.eval y).cells.toList++q3)++dM.toList.drop (i *J.size+J.size)).toArray) ?_ tf ?_ hK
           ·rw [anU] at YR;simp [execOp,ho,YR,cB]
           ·exact CX.tr.trans (.setRow _ hZ)
  ·simp at hK
end
end Dn
/-
  Structs and sums that are put together. Conditions: none.
-/
namespace Dn
open Go
section
variable {P:Program}{c:Ctx}{Z:b7} {e e':Env}{st:St}{a:Act} {w w':World}{R:Type}{K:St->Option R}{r:R}{Q:Exit->Act->World->Prop}{o:Oper}
theorem LD {place:Nat->Option (Nat×Nat)}{cells:Array Value}{i off:Nat}{v:Value}{rest:List (Nat×Value)}(hp:place i=some (off,v.cells.size))(hle:off+v.cells.size<=cells.size): ade place cells ((i,v)::rest)=ade place (cells.toList.take off++v.cells.toList++cells.toList.drop (off+v.cells.size)).toArray rest:=by
 conv=>lhs;unfold ade
 simp only [hp];rw [if_neg (by simp;omega)];congr 1;rw [<-Array.foldl_toList,Array.toList_zipIdx];obtain ⟨h1,h2⟩:=Go.Great.foldl_set off v.cells.toList 0 cells;apply Array.ext_getElem?;intro k;have hl:(cells.toList.take off).length=off:=by simp;omega
 have e0:=h2 k;simp only [acO,acg] at e0;refine Eq.trans e0 ?_;have e1:(cells.toList.take off++v.cells.toList++cells.toList.drop (off+v.cells.size)).toArray[k]? =(cells.toList.take off++v.cells.toList++cells.toList.drop (off+v.cells.size))[k]? :=by simp
 rw [e1,AI];have e2:cells[k]? =cells.toList[k]? :=by simp
 by_cases h3:k<off
 ·rw [if_neg (by omega),OF (by omega),aca,if_pos h3,e2]
 ·rw [No (by omega),hl];by_cases h4:k<off+v.cells.size
  ·rw [if_pos ⟨by omega,h4,by omega⟩,OF (by simp;omega)]
  ·rw [if_neg (by omega),No (by simp;omega),ac9,e2];congr 1;simp;omega
theorem So {I:TI}{places:List (Nat×Nat)}(h:cF c Z e st a w)(Lx: ∀(i q y:Nat)(J:TI),I.zf[i]? =some q->I.VL[i]? =some y->c.tv y=some J->places[i]? =some (q,J.size)/\0<J.size){parts:List (Nat×Operand)}: ∀{cs ds:List aR}{cells:Array Value},aJ e cells.toList cs->Ci c st I parts cs=some ds-> ∃out,ade (places.toArray[·]?) cells (parts.map λp=>(p.1,a.eval p.2))=some out/\aJ e out.toList ds:=by
 induction parts with
 |nil=>intro cs ds cells hl hb;simp [Ci] at hb;subst hb;exact ⟨cells,rfl,hl⟩
 |cons p ps ih=>
  intro cs ds cells hl hb;obtain ⟨i,x⟩:=p;simp only [Ci] at hb;split at hb
  ·rename_i q y hq hy;cases hJ:c.tv y with
   |none=>simp [hJ] at hb
   |some J=>
    simp only [hJ] at hb;obtain ⟨hpi,fm⟩:=Lx i q y J hq hy hJ;cases hu:wb (bn (bw c st x))||!c9 (zB (bn (bw c st x))) J.size with
    |true=>simp [hu] at hb
    |false=>
     simp only [hu,cond_false] at hb;simp only [abr,ac0] at hu;have GN:=sh hu.2;cases hp:putAt cs q (bn (bw c st x)) with
     |none=>simp [hp] at hb
     |some gO=>
      simp only [hp] at hb;have dG:bn (bw c st x)≠[]:=by intro e0;rw [e0] at GN;simp [zB] at GN;omega
      have hv:=B3 (h.eval x).1 hu.1 dG;obtain ⟨p1,p2,p3,he,h1,h2,h3⟩:=xw hp hl hv;have hlen:(a.eval x).cells.size=J.size:=by rw [<-GN,<-hv.width];simp
      have we:cells.size=p1.length+p2.length+p3.length:=by
       have:cells.toList.length=(p1++p2++p3).length:=by rw [he]
       simp at this;omega
      have Px:p2.length=(a.eval x).cells.size:=by rw [h2];simp
      have Us:=LD (place:=(places.toArray[·]?)) (cells:=cells) (i:=i) (off:=q) (v:=a.eval x) (rest:=ps.map λp=>(p.1,a.eval p.2)) (by rw [hlen];simpa using hpi) (by omega);have ht:cells.toList.take q++(a.eval x).cells.toList++cells.toList.drop (q+(a.eval x).cells.size)=p1++(a.eval x).cells.toList++p3:=by rw [he];rw [AI p1 p2 p3,acI h1,<-AI p1 p2 p3,aco (by rw [IS];omega)]
      rw [ht] at Us;obtain ⟨out,h4,h5⟩:=ih (cells:=(p1++(a.eval x).cells.toList++p3).toArray) (by simpa using h3) hb;exact ⟨out,by rw [IT,Us];exact h4,h5⟩
  ·simp at hb
theorem Sp {parts:List (Nat×Operand)}(h:cF c Z e st a w): ∀{x:lR} {K':lR->Option R},HP c st parts x K'=some r-> ∃y,ade (λi=>some (i *1,1)) (bR x).toArray (parts.map λp=>(p.1,a.eval p.2))=some (bR y).toArray/\K' y=some r:=by
 induction parts with
 |nil=>intro x K' hb;exact ⟨x,rfl,hb⟩
 |cons p ps ih=>
  intro x K' hb;obtain ⟨i,y⟩:=p;simp only [HP] at hb;split at hb
  ·rename_i m hm;cases hi:abq 32 i with
   |true=>simp [hi] at hb
   |false=>
    simp only [hi,cond_false] at hb;have Sh:i<32:=by
     by_cases dY:i<32
     ·exact dY
     ·have:abq 32 i=true:=aeg (by omega);simp_all
    unfold gI at hb;split at hb
    ·rename_i k n;by_cases hk:k= .u8
     ·subst hk;simp only [decide_true,cond_true] at hb;obtain ⟨Dd,hb⟩:=gk hb;unfold isByte at Dd;have Dd:=of_decide_eq_true Dd;obtain ⟨out,h1,h2⟩:=ih hb;have hv:=pS (by have:=(h.eval y).1;rw [hm] at this;exact this);refine ⟨out,?_,h2⟩;rw [<-h1,IT];have Sn:(a.eval y).cells= #[.int .u8 n]:=by rw [hv];simp [aas]
      have Us:=LD (place:=λi=>some (i *1,1)) (cells:=(bR x).toArray) (i:=i) (off:=i *1) (v:=a.eval y) (rest:=ps.map λp=>(p.1,a.eval p.2)) (by rw [Sn];rfl) (by rw [Sn];have:=dL x;simp;omega);rw [Us,H9 x i _ Sh,<-Dd,Sn];simp
     ·simp [hk] at hb
    ·simp at hb
  ·simp at hb
theorem V2 (P:Program)(l:List Field):(∀f∈l,∃i,P.info? f.type=some i)-> ∃places,l.mapM (λf=>(P.info? f.type).map λi=>(f.offset,i.size))=some places/\ ∀(k:Nat)(f:Field),l[k]? =some f-> ∃i,P.info? f.type=some i/\places[k]? =some (f.offset,i.size):=by
 induction l with
 |nil=>intro _;exact ⟨[],by simp,by simp⟩
 |cons f fs ih=>
  intro h;obtain ⟨i,hi⟩:=h f (by simp);obtain ⟨ps,h1,h2⟩:=ih (λg hg=>h g (by simp [hg]));refine ⟨(f.offset,i.size)::ps,by simp [List.mapM_cons,hi,h1],?_⟩;intro k g hg;cases k with
  |zero=>simp at hg;subst hg;exact ⟨i,hi,rfl⟩
  |succ k=>simp at hg;simpa using h2 k g hg
theorem YT {t:TypeId}{parts:Array (Nat×Operand)}{I:TI}(ho:o.op= .build t parts)(hI:c.tv t=some I)(hT:lW P c.ti)(h:cF c Z e st a w)(hK:(bif I.st then (match Ci c st I parts.toList I.zero with|some cs=>bV c st o.dst (.ag cs) K|none=>none)
  else (match I.lay with|[.h]=>HP c st parts.toList lR.zero λx=>bV c st o.dst (.sc (.hs x)) K|_=>none))=some r):Rd P c Z K r e a w o (λ_=>True):=by
 obtain ⟨uB,hc⟩:=b8 hI;obtain ⟨d,i,h1,h2,h3,h4⟩:=hT t I uB;have XZ:(parts.map λ(i,x)=>(i,a.eval x)).toList=parts.toList.map λp=>(p.1,a.eval p.2):=by simp
 have run: ∀out,P.built t (parts.toList.map λp=>(p.1,a.eval p.2))=some out-> ∀w:World,(execOp a.eval o).run P w= .ok (.value (.agg out)) w:=by intro out hb w;have:=run_build (P:=P) w t (parts.map λ(i,x)=>(i,a.eval x)) out (by rw [XZ];exact hb);simp [execOp,ho] at this⊢;simp [this]
 cases eR:I.st with
 |true=>
  simp only [eR,cond_true] at hK;cases d<;>simp only [uA] at h4;case struct fs=>
   obtain ⟨_,_,_,ho1,dh,XV,zc,hz,hzl,_⟩:=h4;cases hb:Ci c st I parts.toList I.zero with
   |none=>simp [hb] at hK
   |some cs=>
    simp only [hb] at hK;have anV: ∃places,fs.toList.mapM (λf=>(P.info? f.type).map λi=>(f.offset,i.size))=some places/\ (∀(i q y:Nat) (J:TI),I.zf[i]? =some q->I.VL[i]? =some y->c.tv y=some J->places[i]? =some (q,J.size)/\0<J.size):=by
     obtain ⟨places,hp1,RT⟩:=V2 P fs.toList (by intro f hf;obtain ⟨k,hk,rfl⟩:=aei.1 hf;obtain ⟨J,hJ,hJc,_⟩:=XV k fs.toList[k] (by simp at hk⊢);obtain ⟨i,hi,_⟩:=(hT _ J hJ).info hJc;exact ⟨i,hi⟩);refine ⟨places,hp1,?_⟩;intro i q y J hq hy hJ;rw [<-ho1,ab9] at hq;rw [<-dh,ab9] at hy;cases hf:fs.toList[i]? with
     |none=>simp [hf] at hq
     |some f=>simp [hf] at hq hy;subst hq;subst hy;obtain ⟨J2,hJ2,anW,fm⟩:=XV i f (by simpa using hf);obtain ⟨hJt,_⟩:=b8 hJ;rw [hJ2] at hJt;cases hJt;obtain ⟨i2,X0,anX⟩:=RT i f hf;obtain ⟨i3,hi3,hs3,_⟩:=(hT _ J hJ2).info anW;rw [X0] at hi3;cases hi3;exact ⟨by rw [anX,hs3],fm⟩
    obtain ⟨places,Lx,Sq⟩:=anV;obtain ⟨out,h5,h6⟩:=So h Sq (cells:=zc) (qY hzl) hb;refine ku (v:= .agg out) (s:= .ag cs) h (run out ?_) ?_ trivial hK
    ·unfold Program.built;simp only [h2,h1,hz,Lx];exact h5
    ·simp only [af];exact ⟨out,rfl,h6⟩
  all_goals (exfalso;simp_all)
 |false=>
  simp only [eR,cond_false] at hK;split at hK
  ·rename_i hl;cases d<;>simp only [uA,hl,eR] at h4<;>first|(exfalso;simp_all;done)|skip
   obtain ⟨_,_,_,rfl,rfl,⟨ie,hu,oP,yP⟩,_,_,hz⟩:=h4;obtain ⟨y,h5,h6⟩:=Sp h hK;refine ku (v:= .agg (bR y).toArray) (s:= .sc (.hs y)) h (run _ ?_) ?_ trivial h6
   ·unfold Program.built;simp only [h2,h1,hz,oP,yP];exact h5
   ·simp only [af]
  ·simp at hK
end
end Dn
/-
  A family comes to have other content. Conditions: none.
-/
namespace Dn
open Go
section
variable {P:Program}{c:Ctx}{Z:b7} {e e':Env}{st:St}{a:Act} {w w':World}{R:Type}{K:St->Option R}{r:R}{Q:Exit->Act->World->Prop}{o:Oper}
def Env.BI (e:Env)(f:Nat)(v:Value)(fo:oR):Env:={e with E:=λg=>if g=f then v else e.E g,m:=cq e.m f fo}
def St.BI (st:St)(f:Nat)(fo:oR):St:={st with fr:=lO f st.fr,bh:=cq st.bh f fo}
theorem E4 (f:Nat)(s:Slot):dx (B0 f s)=dx s:=by cases s<;>simp only [B0,dx];rename_i g _ _ _ _;cases c9 g f<;>rfl
theorem uR {f:Nat}{s:Slot}{cs:List aR}(h:B0 f s= .box cs): ∃GO,s= .box GO/\cs=GO.map (OZ f):=by
 cases s<;>simp only [B0] at h<;>first|(simp at h;done)|(rename_i g _ _ _ _;cases hb:c9 g f<;>simp [hb] at h;done)|skip
 rename_i GO;simp at h;exact ⟨GO,rfl,h.symm⟩
theorem cF.lS {f:Nat}{fo:oR} {v':Value}(h:cF c Z e st a w)(Cr:f∉Z.cZ)(iM:dI c Z.nc e w' v' fo)(aqz:w.heap.size<=w'.heap.size)(dB: ∀b,b<w.heap.size->(∀o,aU st.bh f=some o->(e.E f).ownBlock≠some b)->w'.heap[b]? =w.heap[b]?)(ki: ∀b o v,e.φ b o=some v->w'.cell? ⟨b,o,none⟩=some v)(lP: ∀b,v'.ownBlock=some b->w.heap.size<=b\/ ∃o,aU st.bh f=some o/\(e.E f).ownBlock=some b): cF c Z (e.BI f v' fo) (st.BI f fo) a w':=by
 have vE:lB (· ≠f) (λ_=>True) e (e.BI f v' fo):=by refine ⟨rfl,.refl _,λ_ _=>rfl,λf2 o2 dh dG=> ?_⟩;have dh:aU (cq e.m f fo) f2=some o2:=dh;rw [bI] at dh;simp only [dG,if_false] at dh;exact ⟨o2,dh,by simp [Env.BI,dG],rfl⟩
 have YU: ∀t cs,au st.fr t= .box cs->e.B t<w.heap.size:=by intro t cs ht;have hs:=h.slot t;rw [ht] at hs;obtain ⟨o2,h1,_⟩:=hs.2.obj;exact bW h1
 have vD: ∀t cs,au st.fr t= .box cs->w'.heap[e.B t]? =w.heap[e.B t]? :=by intro t cs ht;exact dB _ (YU t cs ht) (λo ho=>h.bf t cs f o ht ho)
 refine ⟨h.defers,h.size,by show cq e.m f _=cq st.bh f _;rw [h.m],h.key,?_,?_,?_,?_,?_,?_,?_,ki,λb hb=>h.dn b (by omega)⟩
 ·show (a7 (lO f st.fr)).Nodup;have:a7 (lO f st.fr)=a7 st.fr:=by simp [a7,lO]
  rw [this];exact h.nodup
 ·intro t;show cu Z _ _ t _ (au (lO f st.fr) t);rw [iJ];have hs:=h.slot t;have E5:=vD t;generalize au st.fr t=s at hs E5;by_cases E0: ∃cs,s= .box cs
  ·obtain ⟨cs,rfl⟩:=E0;simp only [cu,B0] at hs⊢;refine ⟨hs.1.mB (Sd f _),hs.2.dn,?_,hs.2.free⟩;obtain ⟨o2,h1,h2⟩:=hs.2.obj;refine ⟨o2,by show w'.heap[e.B t]? =_;rw [E5 cs rfl];exact h1,?_⟩;refine (h2.map (λ_ _=>bp.kill f) (λ_ _=>rfl)).on vE ?_;intro l hl;obtain ⟨x,_,rfl⟩:=adU.1 hl;exact H3 f x
  ·have A4:af e (a.tmps.getD t undef) s:=by cases s<;>simp only [cu] at hs<;>first|exact hs|exact absurd ⟨_,rfl⟩ E0
   have h2:=(A4.kill f).on vE (Yx f _ s (ez s));generalize hks:B0 f s=s2 at h2;cases s2<;>first|exact h2|(exfalso;simp [af] at h2)
 ·intro t;show c8 (lO f st.fr) (au (lO f st.fr) t);rw [iJ];have qG:=h.root t;generalize au st.fr t=s at qG;have hk: ∀q,dx (au (lO f st.fr) q)=dx (au st.fr q):=λq=>by rw [iJ,E4]
  cases s with
  |ptr q o=>show dx (au (lO f st.fr) q)=true;rw [hk];exact qG
  |hp q o i=>show dx (au (lO f st.fr) q)=true;rw [hk];exact qG
  |zA q=>show dx (au (lO f st.fr) q)=true;rw [hk];exact qG
  |ep g' _ _ _ _=>simp only [B0];cases c9 g' f<;>trivial
  |_=>trivial
 ·intro f2 o2 dh;have dh:aU (cq st.bh f fo) f2=some o2:=dh;rw [bI] at dh;by_cases fJ:f2=f
  ·subst fJ;simp at dh;subst dh;have:=(iM.to Cr).env (e':=e.BI f2 v' fo) rfl rfl;simpa [Env.BI] using this
  ·simp only [fJ,if_false] at dh;obtain ⟨I2,xy,h1,h2,h3,h4,h5⟩:=(h.jO f2 o2 dh).row;refine ⟨I2,xy,h1,h2,?_,h4,?_⟩
   ·show w'.ownsRow 0 o2.ty I2.size (if f2=f then v' else e.E f2) o2.xs.length xy;rw [if_neg fJ];refine ⟨h3.1,?_⟩;rcases h3.2 with h6|⟨g,cap,dM,g1,g2,g3,g4⟩
    ·exact .inl h6
    ·refine .inr ⟨g,cap,dM,g1,g2,?_,g4⟩;rw [dB g (bW g3) (λo ho hk=>fJ (h.ff f2 f o2 o g dh ho (by rw [g1];rfl) hk))];exact g3
   ·intro bG hb;have hb:(if f2=f then v' else e.E f2).ownBlock=some bG:=hb;rw [if_neg fJ] at hb;exact h5 bG hb
 ·intro t t' c1 c2 h1 h2 dG;have h1:au (lO f st.fr) t= .box c1:=h1;have h2:au (lO f st.fr) t'= .box c2:=h2;rw [iJ] at h1 h2;obtain ⟨d1,g1,_⟩:=uR h1;obtain ⟨d2,g2,_⟩:=uR h2;exact h.bb t t' d1 d2 g1 g2 dG
 ·intro t c1 f2 o2 h1 h2;have h1:au (lO f st.fr) t= .box c1:=h1;have h2:aU (cq st.bh f fo) f2=some o2:=h2;rw [iJ] at h1;rw [bI] at h2;obtain ⟨d1,g1,_⟩:=uR h1;show (if f2=f then v' else e.E f2).ownBlock≠some (e.B t);by_cases fJ:f2=f
  ·rw [if_pos fJ];intro hb;rcases lP _ hb with h3|⟨o,h3,h4⟩
   ·have:=YU t d1 g1;omega
   ·exact h.bf t d1 f o g1 h3 h4
  ·rw [if_neg fJ];simp only [fJ,if_false] at h2;exact h.bf t d1 f2 o2 g1 h2
 ·intro f1 f2 o1 o2 k h1 h2 h3 h4;have h1:aU (cq st.bh f fo) f1=some o1:=h1;have h2:aU (cq st.bh f fo) f2=some o2:=h2;have h3:(if f1=f then v' else e.E f1).ownBlock=some k:=h3;have h4:(if f2=f then v' else e.E f2).ownBlock=some k:=h4;rw [bI] at h1 h2;have A0: ∀g og,aU st.bh g=some og->(e.E g).ownBlock=some k->k<w.heap.size:=by
   intro g og hg hk;obtain ⟨I2,xy,_,_,g3,_⟩:=(h.jO g og hg).row;rcases g3.2 with ⟨g5,_⟩|⟨b,cap,dM,g5,_,g6,_⟩
   ·rw [g5] at hk;simp [BY] at hk
   ·rw [g5] at hk;simp only [BY,AT] at hk;subst hk;exact bW g6
  by_cases Sr:f1=f
  ·by_cases B5:f2=f
   ·rw [Sr,B5]
   ·rw [if_pos Sr] at h3;rw [if_neg B5] at h4;simp only [B5,if_false] at h2;rcases lP k h3 with h5|⟨o,h5,h6⟩
    ·have:=A0 f2 o2 h2 h4;omega
    ·exact Sr.trans (h.ff f f2 o o2 k h5 h2 h6 h4)
  ·rw [if_neg Sr] at h3;simp only [Sr,if_false] at h1;by_cases B5:f2=f
   ·rw [if_pos B5] at h4;rcases lP k h4 with h5|⟨o,h5,h6⟩
    ·have:=A0 f1 o1 h1 h3;omega
    ·exact (h.ff f1 f o1 o k h1 h5 h3 h6).trans B5.symm
   ·rw [if_neg B5] at h4;simp only [B5,if_false] at h2;exact h.ff f1 f2 o1 o2 k h1 h2 h3 h4
theorem wi {f:Nat}{fo:oR}(hK:lS st f fo K=some r):K (st.BI f fo)=some r:=by
 unfold Dn.lS at hK;cases hn:bU st.cZ f with
 |true=>simp [hn] at hK
 |false=>simpa [hn,Yu,oU,St.BI] using hK
theorem cF.npf {f:Nat}{fo:oR}(h:cF c Z e st a w)(hK:Dn.lS st f fo K=some r):f∉Z.cZ:=by intro hm;rw [<-h.defers.2.2.1,<-b4] at hm;simp [Dn.lS,hm] at hK
theorem De {f:Nat}{fo:oR}{v:Value}(h1:v.oneCell'=true):af (e.BI f v fo) v (.sc (.own f)):=by simp only [af];exact ⟨v,rfl,h1,λo ho=>by simp [Env.BI]⟩
end
end Dn
/-
  What is appended. Conditions: none.
-/
namespace Dn
open Go
section
variable {P:Program}{c:Ctx}{Z:b7} {e e':Env}{st:St}{a:Act} {w w':World}{R:Type}{K:St->Option R}{r:R}{Q:Exit->Act->World->Prop}{o:Oper}
theorem sY {t:TypeId}{I:TI}(hr:om c.ti P t I)(hc:I.dw=[]): ∃i z,P.info? t=some i/\i.size=I.size/\i.bytes=I.bytes/\i.zero=some z/\z.cells.size=I.size:=by
 obtain ⟨d,i,h1,h2,h3,h4⟩:=hr;obtain ⟨h5,h6⟩:=h3 hc;cases d<;>simp only [uA] at h4;case struct fs=>obtain ⟨_,_,_,_,_,_,cs,hz,_,hs⟩:=h4;exact ⟨i,_,h2,h5,h6,hz,by simpa [aas] using hs⟩
 case tuple ts=>exact absurd hc h4.2.1
 case slice el=>obtain ⟨_,_,hs,_,_,hz,_⟩:=h4;exact ⟨i,_,h2,h5,h6,hz,by rw [hs];rfl⟩
 case array n el=>obtain ⟨_,_,hs,_,_,_,_,_,hz⟩:=h4;exact ⟨i,_,h2,h5,h6,hz,by rw [hs];simp [aas,dL]⟩
 case bool=>obtain ⟨_,_,hs,_,_,hz⟩:=h4;exact ⟨i,_,h2,h5,h6,hz,by rw [hs];rfl⟩
 case int k=>obtain ⟨_,_,hs,_,_,hz⟩:=h4;exact ⟨i,_,h2,h5,h6,hz,by rw [hs];rfl⟩
 case string=>obtain ⟨_,_,hs,_,_,b,hz,_⟩:=h4;exact ⟨i,_,h2,h5,h6,hz,by rw [hs];rfl⟩
 all_goals
  obtain ⟨_,_,hs,_,v,hz,hv,_⟩:=h4;refine ⟨i,v,h2,h5,h6,hz,?_⟩;rw [hs];cases v<;>simp_all [aas,aaq]
structure Src (e:Env) (w:World) (size:Nat) (v:Value) (ys:List MV) (news:List Value):Prop where
 els:bx e.key e.φ size news ys
 val: ∃ad cap,v= .slice ad ys.length cap/\(ad=none->ys=[])/\ ∀x,ad=some x-> ∀(j:Nat) (u:Value),news[j]? =some u->w.cell? (x.add j)=some u
theorem bx.Cs {key:Nat->Nat} {φ:Ph}{size:Nat}{xs:List MV}: ∀{cs:List Value},bx key φ size cs xs-> ∀u∈cs,u.oneCell'=true:=by
 induction xs with
 |nil=>intro cs h;cases h;simp
 |cons x xs ih=>
  intro cs h u hu;obtain ⟨v,q,rfl,_,h2,h3⟩:=h;rcases aed.1 hu with hu|hu
  ·exact h2.cells u hu
  ·exact ih h3 u hu
theorem bx.append {key:Nat->Nat} {φ:Ph}{size:Nat}{xs ys:List MV}: ∀{cs ds:List Value},bx key φ size cs xs->bx key φ size ds ys->bx key φ size (cs++ds) (xs++ys):=by
 induction xs with
 |nil=>intro cs ds h h';cases h;simpa using h'
 |cons x xs ih=>intro cs ds h h';obtain ⟨v,q,rfl,h1,h2,h3⟩:=h;exact ⟨v,q++ds,by simp,h1,h2,ih h3 h'⟩
theorem Ia {key:Nat->Nat} {φ:Ph}{size:Nat}{xs:List MV}: ∀{f:Nat->List Value},(∀i,i<xs.length->(f i).length=size)->(∀(i:Nat)(h:i<xs.length),ni key φ (f i) xs[i])-> ∃cs,bx key φ size cs xs/\ ∀(i j:Nat),i<xs.length->j<size->cs[i *size+j]? =(f i)[j]? :=by
 induction xs with
 |nil=>intro f _ _;exact ⟨[],rfl,λi j hi=>by simp at hi⟩
 |cons x xs ih=>
  intro f h1 h2;obtain ⟨cs,h3,h4⟩:=ih (f:=λi=>f (i+1)) (λi hi=>h1 (i+1) (by simpa using hi)) (λi hi=>h2 (i+1) (by simpa using hi));have hl:=h1 0 (by simp);refine ⟨f 0++cs,⟨f 0,cs,rfl,hl,h2 0 (by simp),h3⟩,?_⟩;intro i j hi hj;cases i with
  |zero=>rw [aep,aaL,OF (by omega)]
  |succ i=>rw [acj,No (by omega),show i *size+size+j-(f 0).length=i *size+j by omega];exact h4 i j (by simpa using hi) hj
theorem PC {I E:TI}{x:Slot}{v:Value} {K':List MV->Option R}(h:cF c Z e st a w)(hE:c.ti I.elem=some E)(fm:0<E.size)(hx:af e v x)(hK:M1 I E st x K'=some r): ∃ys news,Src e w E.size v ys news/\K' ys=some r:=by
 unfold M1 at hK;split at hK
 ·rename_i xs;obtain ⟨hw,hK⟩:=gk hK;simp only [af,bp] at hx;obtain ⟨_,hx⟩:=hx;generalize hv:[v]=vs at hx;cases hx with
  |list ad cap _ bG off OY f g1 g2 g3 g4 g5=>
  simp at hv;have hes: ∀i,i<xs.length->(f i).length=E.size:=by intro i hi;rw [(g5 i hi).width];exact Dc hw _ (aeU hi)
  obtain ⟨cs,h1,h2⟩:=Ia hes g5;refine ⟨xs,cs,⟨h1,ad,cap,hv,?_,?_⟩,hK⟩
  ·intro hn;cases xs with
   |nil=>rfl
   |cons y ys=>have:=g2 (by simp);rw [hn] at this;cases this
  ·intro x hx j u hj;have KC:j<cs.length:=(AS.1 hj).1;rw [h1.length] at KC;have Ib:0<xs.length:=by
    cases xs with
    |nil=>simp at KC
    |cons y ys=>simp
   have PD:=g2 Ib;rw [hx] at PD;cases PD;have hq:j/E.size<xs.length:=(Nat.div_lt_iff_lt_mul fm).2 KC;have hm:=Nat.mod_lt j fm;have Ly:j=j/E.size *E.size+j%E.size:=by rw [Nat.mul_comm];exact (Nat.div_add_mod j E.size).symm
   have e1:=h2 (j/E.size) (j%E.size) hq hm;rw [<-Ly,hj] at e1;have YV:OY=E.size:=by rw [<-g3 0 Ib,hes 0 Ib]
   have e2:=g4 (j/E.size) (j%E.size) hq (by rw [YV];exact hm);rw [<-e1,YV,acD,<-Ly] at e2;have:=h.qe _ _ _ e2;rw [acn];exact this
 ·simp only [af] at hx;have hx:[v]=[aci none 0 0]:=hx;simp at hx;exact ⟨[],[],⟨rfl,none,0,hx,λ_=>rfl,by simp⟩,hK⟩
 ·rename_i f;cases hf:aU st.bh f with
  |none=>simp [hf] at hK
  |some fo=>
   simp only [hf] at hK;cases hb:c9 fo.ty I.elem with
   |false=>simp [hb] at hK
   |true=>
    simp only [hb,cond_true] at hK;have kS:=sh hb;obtain ⟨hv,_⟩:=sH h hx hf;obtain ⟨J,cells,hJ,_,eS,kw,_⟩:=(h.jO f fo hf).row;rw [kS,hE] at hJ;cases hJ;refine ⟨fo.xs,cells,⟨kw,?_⟩,hK⟩;rcases eS.2 with ⟨h1,h2⟩|⟨g,cap,dM,h1,_⟩
    ·exact ⟨none,0,by rw [hv,h1,h2],λ_=>IN h2,by simp⟩
    ·refine ⟨some ⟨g,0,none⟩,cap,by rw [hv,h1],by simp,?_⟩;intro x hx j u hj;cases hx;exact eS.cells (g:=g) (by rw [h1];rfl) j u hj
 ·simp at hK
end
end Dn
/-
  Appends. Conditions: none.
-/
namespace Dn
open Go
section
variable {P:Program}{c:Ctx}{Z:b7} {e e':Env}{st:St}{a:Act} {w w':World}{R:Type}{K:St->Option R}{r:R}{Q:Exit->Act->World->Prop}{o:Oper}
structure aj1 (w w':World) (el:TypeId) (size:Nat) (v v':Value) (n m:Nat) (cells news:List Value):Prop where
 own:w'.ownsRow 0 el size v' (n+m) (cells++news)
 size:w.heap.size<=w'.heap.size
 A0: ∀k,k<w.heap.size->some k≠v.ownBlock->w'.heap[k]? =w.heap[k]?
 cell: ∀(k off:Nat) (u:Value),v.ownBlock=some k->off<cells.length->w.cell? ⟨k,off,none⟩=some u->w'.cell? ⟨k,off,none⟩=some u
 place:v'.ownBlock=v.ownBlock\/v'.ownBlock=some w.heap.size
 rest:Rest w w'
structure Apx (P:Program) (w:World) (u el:TypeId) (size:Nat) (x:Value) (m:Nat) (news:List Value):Prop where
 ty:P.underlying u=some (.slice el)\/P.underlying u=some .string
 len:Builtin.lenOf x=pure m
 now:(acp size m x).run P w= .ok news.toArray w
 drew:(acp size m x).run P w.drew= .ok news.toArray w.drew
 one: ∀y∈news,y.oneCell'=true
 nl:news.length=m *size
theorem Src.apx {ys:List MV}{news:List Value}{x:Value}{u el:TypeId}{size:Nat}(hu:P.underlying u=some (.slice el))(h:Src e w size x ys news):Apx P w u el size x ys.length news:=by
 obtain ⟨ad,cap,hx,Ut,afC⟩:=h.val;have Hl:=h.els.length;subst hx;cases ad with
 |none=>have hys:=Ut rfl;subst hys;have:news=[]:=IN (by simpa using Hl);subst this;exact ⟨.inl hu,rfl,run_firstCells_none w _ _ _ _,run_firstCells_none w.drew _ _ _ _,h.els.Cs,Hl⟩
 |some ad=>exact ⟨.inl hu,rfl,run_firstCells_some w _ _ _ _ _ _ Hl (afC ad rfl),run_firstCells_some w.drew _ _ _ _ _ _ Hl (by simpa using afC ad rfl),h.els.Cs,Hl⟩
theorem Apx.str {u el:TypeId}(hu:P.underlying u=some .string)(b:ByteArray):Apx P w u el 1 (.string b) b.size (b.data.toList.map λx=> .int .u8 (x.toNat:Int)):=by
 have hf: ∀w',(acp 1 b.size (.string b)).run P w'= .ok (b.data.toList.map λx=>aer .u8 (x.toNat:Int)).toArray w':=by
  intro w';have he:b.extract 0 b.size=b:=by apply ByteArray.ext;rw [adX];exact Array.extract_eq_self_of_le (aar _)
  simp only [acp,he,Sem.run_pure];congr 1;apply Array.ext';simp
 exact ⟨.inr hu,rfl,hf w,hf w.drew,by simp [aaq],by simp⟩
section
variable {t u ty el:TypeId}{i:TypeInfo}{z x:Value}{m:Nat}{news:List Value}(ht:P.underlying t=some (.slice el))(hi:P.info? el=some i)(hz:i.zero=some z)(hx:Apx P w u el i.size x m news)
include ht hi hx
theorem acP (h0:m=0):(aaS #[t,u] ty #[.slice none 0 0,x]).run P w= .ok (.slice none 0 0) w:=by subst h0;have hn:=hx.now;have hl:=hx.len;rcases hx.ty with hu|hu<;>simp [aaS,run_underlying ht,run_underlying hu,acd,typeInfo,hi,hl,hn]
theorem acQ {g qf zL:Nat}{dM:Array Value}(hg:w.heap[g]? =some (.cells dM el (0,0)))(uS:qf+m<=zL)(zg:qf *i.size+news.length<=dM.size): (aaS #[t,u] ty #[.slice (some ⟨g,0,none⟩) qf zL,x]).run P w= .ok (.slice (some ⟨g,0,none⟩) (qf+m) zL) (w.setRow g (dM.toList.take (qf *i.size)++news++dM.toList.drop (qf *i.size+news.length)).toArray):=by have eR:=run_storeCells_at P g (qf *i.size) el news 0 dM w hg (by simpa using zg) hx.one;simp only [acO] at eR;have hn:=hx.now;have hl:=hx.len;rcases hx.ty with hu|hu<;>simp [aaS,run_underlying ht,run_underlying hu,acd,typeInfo,hi,hl,uS,hn,Addr.add_lit,eR]
include hz
theorem ag9 (h0:0<m)(h63:(m:Int)<=9223372036854775807)(h48:m *i.bytes<=281474976710656): (aaS #[t,u] ty #[.slice none 0 0,x]).run P w= .ok (.slice (some ⟨w.heap.size,0,none⟩) m (grownCap w m 0 el)) (w.drew.alloc (.cells (news.toArray++adm z.cells (grownCap w m 0 el-m)) el)):=by
 have dG:m≠0:=by omega
 have aha: ¬(9223372036854775807<(m:Int)):=by omega
 have ahb: ¬(281474976710656<acG m 0 *i.bytes):=by rw [nextslicecap_zero h0];omega
 have hn:=hx.drew;have hl:=hx.len;rcases hx.ty with hu|hu<;>simp [aaS,run_underlying ht,run_underlying hu,acd,typeInfo,zeroValue,hi,hz,hl,dG,aha,ahb,Question.forced,run_firstCells_none,hn,newRow,grownCap]
theorem acR {b:Addr}{qf zL:Nat}{acS:List Value}(hlo:acS.length=qf *i.size)(holds: ∀j v,acS[j]? =some v->w.cell? (b.add j)=some v)(hg:zL<qf+m)(h63:((qf+m:Nat):Int)<=9223372036854775807)(zg:acG (qf+m) zL *i.bytes<=281474976710656): (aaS #[t,u] ty #[.slice (some b) qf zL,x]).run P w= .ok (.slice (some ⟨w.heap.size,0,none⟩) (qf+m) (grownCap w (qf+m) zL el)) (w.drew.alloc (.cells (acS.toArray++news.toArray++adm z.cells (grownCap w (qf+m) zL el-(qf+m))) el)):=by
 have dG: ¬(qf+m<=zL):=by omega
 have aha: ¬(9223372036854775807<((qf:Int)+(m:Int))):=by omega
 have ahb: ¬(281474976710656<acG (qf+m) zL *i.bytes):=by omega
 have hfo:=run_firstCells_some (P:=P) w.drew i.size qf b qf zL acS hlo (by simpa using holds);have hn:=hx.drew;have hl:=hx.len;rcases hx.ty with hu|hu<;>(simp [aaS,run_underlying ht,run_underlying hu,acd,typeInfo,zeroValue,hi,hz,hl,dG,aha,ahb,Question.forced,hn,hfo,newRow,grownCap];congr 2;apply Array.ext';simp [AI])
end
theorem Ct {t u ty:TypeId}{I E:TI}{v x:Value}{n m:Nat}{cells news:List Value}(hu:P.underlying t=some (.slice I.elem))(hE:c.ti I.elem=some E)(rU:E.dw=[])(fm:0<E.size)(hT:lW P c.ti)(vZ:1<=E.bytes)(eS:w.ownsRow 0 I.elem E.size v n cells)(hx:Apx P w u I.elem E.size x m news)(oN:(n+m) *E.bytes<=2^46): ∃v' w',(aaS #[t,u] ty #[v,x]).run P w= .ok v' w'/\aj1 w w' I.elem E.size v v' n m cells news:=by
 obtain ⟨i,z,hi,hs,hby,hz,Ss⟩:=sY (hT _ E hE) rU;rw [<-hs] at hx eS Ss fm⊢;rw [<-hby] at oN vZ;have hle:n+m<=2^46:=adV (adB _ vZ) oN;have hml:n+m<=afO:=by unfold afO;omega
 have Hl:=hx.nl;have hlen:(cells++news).length=(n+m) *i.size:=by rw [IS,eS.1,Hl,ael]
 have grown: ∀(A0:Nat),A0<n+m-> (w.drew.alloc (.cells (cells.toArray++news.toArray++adm z.cells (grownCap w (n+m) A0 I.elem-(n+m))) I.elem)).ownsRow 0 I.elem i.size (.slice (some ⟨w.heap.size,0,none⟩) (n+m) (grownCap w (n+m) A0 I.elem)) (n+m) (cells++news):=by
  intro A0 ho;refine ⟨hlen,.inr ⟨w.heap.size,_,_,rfl,afs _,nF w.drew _,grownCap_ge w (n+m) A0 I.elem,grownCap_le_maxLen w (n+m) A0 I.elem hml,?_,?_⟩⟩
  ·have hge:=grownCap_ge w (n+m) A0 I.elem;simp only [Array.size_append,acq,size_zeroCells,Ss,eS.1,Hl,<-ael];congr 1;omega
  ·simp only [Array.toList_append,AI];rw [<-AI,<-hlen];exact ac5
 have rest: ∀cs:Array Value,Rest w (w.drew.alloc (.cells cs I.elem)):=λcs=>⟨rfl,rfl,rfl,λp=>(Rest.alloc w.drew cs I.elem).2.2.2 p⟩
 rcases eS.2 with ⟨rfl,rfl⟩|⟨g,cap,dM,rfl,_,hg,PE,Hj,xn,RS⟩
 ·have hcn:cells=[]:=IN (by simpa using eS.1);subst hcn;by_cases hm:m=0
  ·have hnn:news=[]:=IN (by rw [Hl,hm,aep]);subst hnn;refine ⟨_,_,acP hu hi hx hm,⟨?_,aar _,λ_ _ _=>rfl,(λ_ _ _ hk=>by cases hk),.inl rfl,.refl _⟩⟩;rw [hm];exact aeq w 0 I.elem i.size
  ·simp only [aaL] at oN hle hml;have hr:=ag9 (ty:=ty) hu hi hz hx (by omega) (by omega) (by omega);have hgr:=grown 0 (by omega);simp only [aaL,afw,Array.empty_append] at hgr⊢;exact ⟨_,_,hr,⟨by simpa using hgr,by simp,λk hk _=>AX w.drew _ k hk,(λ_ _ _ hk=>by cases hk),.inr rfl,rest _⟩⟩
 ·by_cases uS:n+m<=cap
  ·have zg:n *i.size+news.length<=dM.size:=by rw [Hl,xn,<-ael];exact aaF _ uS
   have hr:=acQ (ty:=ty) hu hi hx hg uS zg;have Su:=setRow_heap w g dM (dM.toList.take (n *i.size)++news++dM.toList.drop (n *i.size+news.length)).toArray I.elem _ hg;refine ⟨_,_,hr,⟨⟨hlen,.inr ⟨g,cap,_,rfl,afs _,Su,uS,Hj,?_,?_⟩⟩,by simp,λk _ hk=>setRow_other w g k _ (λhe=>hk (by simp [BY,he])),?_,.inl rfl,Rest.setRow w g _⟩⟩
   ·simp only [acq,IS,acx,adA,acg];omega
   ·rw [RS,<-hlen];exact ac5
   ·intro k off y hk H7 hc;have hkg:k=g:=by simp [BY] at hk;exact hk.symm
    subst hkg;rw [cell_of hg] at hc;rw [cell_of Su];have aj2:off<(dM.toList.take (n *i.size)).length:=by rw [RS];exact H7
    rw [List.getElem?_toArray,AI,OF aj2,aca];have:off<n *i.size:=by rw [<-eS.1];exact H7
    rw [if_pos this];simpa using hc
  ·have holds: ∀j y,cells[j]? =some y->w.cell? ((⟨g,0,none⟩:Addr).add j)=some y:=eS.cells (g:=g) rfl;have hr:=acR (ty:=ty) (zL:=cap) hu hi hz hx eS.1 holds (by omega) (by omega) (growslice_fits (by omega) (by omega));refine ⟨_,_,hr,⟨grown cap (by omega),by simp,λk hk _=>AX w.drew _ k hk,?_,.inr rfl,rest _⟩⟩;intro k off y hk H7 hc;have hkg:k=g:=by simp [BY] at hk;exact hk.symm
   subst hkg;rw [ace (AX w.drew _ k (bW hg))];exact hc
end
end Dn
/-
  Appends, the operation. Conditions: none.
-/
namespace Dn
open Go
section
variable {P:Program}{c:Ctx}{Z:b7} {e e':Env}{st:St}{a:Act} {w w':World}{R:Type}{K:St->Option R}{r:R}{Q:Exit->Act->World->Prop}{o:Oper}
theorem PF {base:Nat}{t:TypeId}{size n:Nat}{v:Value}{xs:List Value}(h:w.ownsRow base t size v n xs):v.oneCell'=true:=by rcases h.2 with ⟨rfl,_⟩|⟨g,cap,dM,rfl,_⟩<;>rfl
theorem Uu {E:TI}{t:TypeId}(hr:om c.ti P t E)(h:VM E=true):P.underlying t=some (.int .u8)/\E.size=1:=by
 unfold VM at h;split at h
 ·rename_i k eR hl;have:=of_decide_eq_true h;subst this;obtain ⟨d,i,h1,h2,h3,h4⟩:=hr;cases d<;>simp only [uA,hl,eR] at h4<;>first|(exfalso;simp_all;done)|skip
  obtain ⟨_,_,h5,h6,_⟩:=h4;simp only [List.cons.injEq,Kd.i.injEq,and_true] at h6;subst h6;exact ⟨h1,h5⟩
 ·cases h
theorem Uv {key:Nat->Nat} {φ:Ph}: ∀l:List UInt8,bx key φ 1 (l.map λx=>aer .u8 (x.toNat:Int)) (Pe l)
 |[]=>rfl
 |b::l=>⟨[.int .u8 (b.toNat:Int)],_,rfl,rfl,.i .u8 _,Uv l⟩
theorem PG {cl:Call}{s x:Operand}{t u:TypeId}{I E:TI}{ys:List MV}{news:List Value}(ho:o.op= .call cl)(hb:cl.callee= .builtin .append)(ha:cl.args.toList=[s,x])(EY:cl.argTypes.toList=[t,u])(hI:c.tv t=some I)(hL:I.CW=true)(hE:c.tv I.elem=some E)(hT:lW P c.ti)(h:cF c Z e st a w)(BJ:Apx P w u I.elem E.size (a.eval x) ys.length news)(lP:bx e.key e.φ E.size news ys)(hK:VN (o.dst.getD 0) st I E (bw c st s) ys (λsl st=>bV c st o.dst sl K)=some r):o.wp P a w (Out c Z K r e.φ w) Q:=by
 obtain ⟨uB,hc⟩:=b8 hI;obtain ⟨oQ,rU⟩:=b8 hE;obtain ⟨hu,E2,zv,_,fm⟩:=TI.nU (hT t I uB) hL;rw [oQ] at zv;cases zv;have ha':cl.args= #[s,x]:=by rw [<-ach,ha]
 have an3:cl.argTypes= #[t,u]:=by rw [<-ach,EY]
 obtain ⟨hs,_⟩:=h.eval s;have go: ∀(f:Nat) (eU:Bool) (xs:List MV) (cells:List Value),1<=E.bytes->(xs.length+ys.length) *E.bytes<=2^46->w.ownsRow 0 I.elem E.size (a.eval s) xs.length cells->bx e.key e.φ E.size cells xs-> (∀bG,(a.eval s).ownBlock=some bG->((f∈Z.cZ/\Z.Pr bG)\/Z.In bG)/\(∃o,aU st.bh f=some o/\(e.E f).ownBlock=some bG)/\ ∀off u,e.φ bG off=some u->eU=true/\off<xs.length *E.size)-> lS st f ⟨I.elem,eU,xs++ys⟩ (λst=>bV c st o.dst (.sc (.own f)) K)=some r->o.wp P a w (Out c Z K r e.φ w) Q:=by
  intro f eU xs cells vZ oN eS kw EV hK;obtain ⟨v',w',cB,wj⟩:=Ct (P:=P) (ty:=o.type) hu oQ rU fm hT vZ eS BJ oN;have hlen:cells.length=xs.length *E.size:=kw.length;have Cr:=h.npf hK;have hK:=wi hK;have iM:dI c Z.nc e w' v' ⟨I.elem,eU,xs++ys⟩:=by
   refine ⟨E,cells++news,oQ,rU,by simpa using wj.own,kw.append lP,?_⟩;intro bG mD;rcases wj.place with h1|h1
   ·rw [h1] at mD;obtain ⟨h2,_,h3⟩:=EV bG mD;refine ⟨Pp h2 Cr,λoff u hu=> ?_,λhc=>afD hc⟩;obtain ⟨h4,h5⟩:=h3 off u hu;refine ⟨h4,aem h5 ?_⟩;simp only [IS];exact aaF _ (Nat.le_add_right _ _)
   ·rw [h1] at mD;cases mD;refine ⟨h.dn _ (aar _),λoff u hu=> ?_,λhc=>afD hc⟩;have:=ab4 w _ (h.qe _ _ _ hu);simp at this
  have tf:=h.lS (f:=f) Cr iM wj.size (λb Sv dG=>wj.A0 b Sv (λhk=>by obtain ⟨_,⟨o2,h1,h2⟩,_⟩:=EV b hk.symm;exact dG o2 h1 h2)) (λb off u hu=>by
    have hc0:=h.qe b off u hu;by_cases hk:(a.eval s).ownBlock=some b
    ·obtain ⟨_,_,h3⟩:=EV b hk;exact wj.cell b off u hk (by rw [hlen];exact (h3 off u hu).2) hc0
    ·rw [ace (wj.A0 b (ab4 w _ hc0) (λEN=>hk EN.symm))];exact hc0)
   (λb mD=>by
    rcases wj.place with h1|h1
    ·rw [h1] at mD;exact .inr (EV b mD).2.1
    ·rw [h1] at mD;cases mD;exact .inl (aar _))
  refine fin (v:=v') (s:= .sc (.own f)) ?_ tf ?_ (.of (De (PF wj.own)) trivial) hK
  ·simp [execOp,ho,resolve,hb,invoke,builtin,ha',an3,cB]
  ·exact ⟨.refl _,λb hz Sv=>wj.A0 b Sv (λhk=>hz (Pp (EV b hk.symm).1 Cr)),λ_ _ _=>rfl,wj.size,wj.rest⟩
 generalize bw c st s=ss at hs hK;unfold VN at hK;cases vZ:abq 1 E.bytes with
 |false=>simp [vZ] at hK
 |true=>
  simp only [vZ,cond_true] at hK;have vZ:=acb vZ;split at hK
  ·obtain ⟨oN,hK⟩:=gk hK;have oN:=of_decide_eq_true oN;simp only [af] at hs;have hs:[a.eval s]=[aci none 0 0]:=hs;simp at hs;refine go (o.dst.getD 0) false [] [] vZ (by simpa using oN) (by rw [hs];exact aeq w 0 I.elem E.size) rfl ?_ (by simpa using hK);intro bG mD;rw [hs] at mD;simp [BY] at mD
  ·rename_i f;cases hf:aU st.bh f with
   |none=>simp [hf] at hK
   |some fo=>
    simp only [hf] at hK;obtain ⟨oN,hK⟩:=gk hK;have oN:=of_decide_eq_true oN;cases kS:c9 fo.ty I.elem with
    |false=>simp [kS] at hK
    |true=>simp only [kS,cond_true] at hK;have kS:=sh kS;obtain ⟨hv,_⟩:=sH h hs hf;obtain ⟨J,cells,hJ,_,eS,kw,h5⟩:=(h.jO f fo hf).row;rw [kS,oQ] at hJ;cases hJ;refine go f fo.eU fo.xs cells vZ oN (by rw [hv,<-kS];exact eS) kw ?_ (by rw [<-kS];exact hK);intro bG mD;rw [hv] at mD;exact ⟨(h5 bG mD).1,⟨fo,hf,mD⟩,(h5 bG mD).2.1⟩
  ·simp at hK
theorem V3 {cl:Call}{s x:Operand}{t u:TypeId}{I E:TI}(ho:o.op= .call cl)(hb:cl.callee= .builtin .append)(ha:cl.args.toList=[s,x])(EY:cl.argTypes.toList=[t,u])(hI:c.tv t=some I)(hL:I.CW=true)(hE:c.tv I.elem=some E)(hT:lW P c.ti)(h:cF c Z e st a w)(hK:(bif c9 t u then M1 I E st (bw c st x) λys=>VN (o.dst.getD 0) st I E (bw c st s) ys (λsl st=>bV c st o.dst sl K)
  else RZ c u E (bw c st x) λys=>VN (o.dst.getD 0) st I E (bw c st s) ys (λsl st=>bV c st o.dst sl K))=some r):o.wp P a w (Out c Z K r e.φ w) Q:=by
 obtain ⟨uB,_⟩:=b8 hI;obtain ⟨oQ,_⟩:=b8 hE;obtain ⟨hu,E2,zv,_,fm⟩:=TI.nU (hT t I uB) hL;rw [oQ] at zv;cases zv;obtain ⟨hx,_⟩:=h.eval x;cases vF:c9 t u with
 |true=>simp only [vF,cond_true] at hK;obtain rfl:=sh vF;obtain ⟨ys,news,BJ,hK⟩:=PC h oQ fm hx hK;exact PG ho hb ha EY hI hL hE hT h (BJ.apx hu) BJ.els hK
 |false=>
  simp only [vF,cond_false] at hK;unfold RZ at hK;split at hK
  ·rename_i T l hTu hxl;cases YW:T.XS&&VM E with
   |false=>simp [YW] at hK
   |true=>
    simp only [YW,cond_true] at hK;simp only [aaJ] at YW;obtain ⟨hTi,_⟩:=b8 hTu;have hd:=TI.H8 (hT u T hTi) YW.1;obtain ⟨he,we⟩:=Uu (hT _ E oQ) YW.2;rw [hxl] at hx;obtain ⟨b,hb3,rfl⟩:=FR hx;refine PG ho hb ha EY hI hL hE hT h (news:=b.data.toList.map λx=> .int .u8 (x.toNat:Int)) ?_ ?_ hK
    ·rw [we,hb3];have:=Apx.str (w:=w) (el:=I.elem) hd b;rwa [show (Pe b.data.toList).length=b.size by unfold Pe;rw [List.length_map];rfl]
    ·rw [we];exact Uv _
  ·cases hK
end
end Dn
/-
  Slices that are written out. Conditions: none.
-/
namespace Dn
open Go
section
variable {P:Program}{c:Ctx}{Z:b7} {e e':Env}{st:St}{a:Act} {w w':World}{R:Type}{K:St->Option R}{r:R}{Q:Exit->Act->World->Prop}{o:Oper}
theorem cF.aj4 {φ':Ph}(h:cF c Z e st a w)(hle:sD e.φ φ')(ki: ∀b o v,φ' b o=some v->w.cell? ⟨b,o,none⟩=some v)(vD: ∀t cs,au st.fr t= .box cs-> ∀off,φ' (e.B t) off=e.φ (e.B t) off)(iM: ∀f o b,aU st.bh f=some o->(e.E f).ownBlock=some b-> ∀off,φ' b off=e.φ b off): cF c Z {e with φ:=φ'} st a w:=by
 have vE:lB (λ_=>True) (λ_=>True) e {e with φ:=φ'}:=⟨rfl,hle,λ_ _=>rfl,λf o ho _=>⟨o,ho,rfl,rfl⟩⟩
 refine ⟨h.defers,h.size,h.m,h.key,h.nodup,?_,h.root,?_,h.bb,h.bf,h.ff,ki,h.dn⟩
 ·intro t;have hs:=h.slot t;have hb:=vD t;show cu Z _ w t _ (au st.fr t);generalize au st.fr t=s at hs hb;cases s<;>simp only [cu] at hs⊢ <;>try exact hs.on vE (ez _)
  rename_i cs;refine ⟨hs.1,hs.2.dn,?_,λoff=>by show φ' (e.B t) off=none;rw [hb cs rfl];exact hs.2.free off⟩;obtain ⟨o2,h1,h2⟩:=hs.2.obj;exact ⟨o2,h1,h2.on vE (λl _ f _=>trivial)⟩
 ·intro f o ho;obtain ⟨I,cells,h1,h2,h3,h4,h5⟩:=(h.jO f o ho).row;refine ⟨I,cells,h1,h2,h3,h4.mono hle,λbG hb=>⟨(h5 bG hb).1,λoff u hu=>(h5 bG hb).2.1 off u ?_,λg1 g2 j hj=>hle.AY ((h5 bG hb).2.2 g1 g2 j hj) hj⟩⟩;have hu:φ' bG off=some u:=hu;rw [iM f o bG ho hb] at hu;exact hu
theorem gf.cells {key:Nat->Nat} {φ:Ph}{v:Value}{m:MV}(h:gf key φ v m):ni key φ v.cells.toList m:=by
 have one:m.one=true->ni key φ [v] m->ni key φ v.cells.toList m:=by
  intro h1 h2;have:=h2.cells v (by simp);have hv:v.cells.toList=[v]:=by cases v<;>simp_all [aas,aaq]
  rw [hv];exact h2
 cases m<;>simp only [gf] at h<;>first|exact one h.1 h.2|skip
 ·rw [h];simpa [aas] using ni.h _
 ·obtain ⟨arr,rfl,h⟩:=h;exact .agg _ _ (by simpa [aas] using h)
theorem V4 {parts:List (Nat×Operand)}: ∀{e:Env}{st:St}{n:Nat} {K':List MV->St->Option R},cF c Z e st a w->Yb c st parts n K'=some r-> ∃e' cP ms,cF c Z e' cP a w/\Ext Z e e'/\cN e'.key e'.φ (parts.map λp=>a.eval p.2) ms/\K' ms cP=some r/\parts.map (λp=>(p.1,a.eval p.2))=((parts.map λp=>a.eval p.2).zipIdx n).map (λx=>(x.2,x.1)):=by
 induction parts with
 |nil=>intro e st n K' h hK;exact ⟨e,st,[],h,.refl _ _,rfl,hK,rfl⟩
 |cons p ps ih=>
  intro e st n K' h hK;obtain ⟨i,x⟩:=p;simp only [Yb] at hK;cases hi:c9 i n with
  |false=>simp [hi] at hK
  |true=>
   simp only [hi,cond_true] at hK;have vG:=sh hi;subst vG;obtain ⟨e1,dH,m,q1,q2,q3,q4,q5⟩:=oo h (h.eval x).1 hK;obtain ⟨e2,eP,ms,p1,p2,p4,p5,p6⟩:=ih q1 q5;refine ⟨e2,eP,m::ms,p1,q2.trans p2,⟨_,_,rfl,?_,p4⟩,p5,?_⟩
   ·have:=q4.mono p2.on.φ;rw [<-p2.on.key] at this;exact this
   ·simp only [IT,List.zipIdx_cons,p6]
theorem KI {key:Nat->Nat} {φ:Ph}{size:Nat}{ms:List MV}: ∀{vs:List Value},cN key φ vs ms->nS size ms=true->bx key φ size (vs.flatMap λv=>v.cells.toList) ms/\vs.length=ms.length/\ ∀v∈vs,v.cells.size=size:=by
 induction ms with
 |nil=>intro vs h _;cases h;exact ⟨rfl,rfl,by simp⟩
 |cons m ms ih=>
  intro vs h hw;obtain ⟨v,u,rfl,h1,h2⟩:=h;have hm:=Dc hw m (by simp);have hw2:nS size ms=true:=by unfold nS at hw⊢;simp only [List.all_cons,aaJ] at hw;exact hw.2
  obtain ⟨h3,h4,h5⟩:=ih h2 hw2;have hl:v.cells.toList.length=size:=by rw [h1.cells.width,hm]
  refine ⟨⟨v.cells.toList,_,rfl,hl,h1.cells,h3⟩,by simp [h4],?_⟩;intro x hx;rcases aaK.1 hx with rfl|hx
  ·simpa using hl
  ·exact h5 x hx
end
end Dn
/-
  Slices that are written out, the operation. Conditions: none.
-/
namespace Dn
open Go
section
variable {P:Program}{c:Ctx}{Z:b7} {e e':Env}{st:St}{a:Act} {w w':World}{R:Type}{K:St->Option R}{r:R}{Q:Exit->Act->World->Prop}{o:Oper}
theorem Uw {t:TypeId}{I E:TI}{vs:List Value}{parts:Array (Nat×Value)}(hu:P.underlying t=some (.slice I.elem))(hE:c.ti I.elem=some E)(rU:E.dw=[])(fm:0<E.size)(hT:lW P c.ti)(oN:vs.length *E.size<=16777216)(hv: ∀v∈vs,v.cells.size=E.size)(hp:parts.toList=(vs.zipIdx 0).map λx=>(x.2,x.1)): (Instr.buildSlice t vs.length parts).run P w= .ok (.slice (some ⟨w.heap.size,0,none⟩) vs.length vs.length) (w.alloc (.cells (vs.flatMap λv=>v.cells.toList).toArray I.elem)):=by
 obtain ⟨i,z,hi,hs,hby,hz,Ss⟩:=sY (hT _ E hE) rU;by_cases h0:vs.length=0
 ·have B1:=IN h0;subst B1;have Nf:parts= #[]:=by rw [<-ach,hp];rfl
  simp [Instr.buildSlice,run_underlying hu,acd,typeInfo,hi,Nf,ade,newRow,Sem.run];congr 2;apply Array.ext_getElem?;intro k;simp
 ·have dG: ¬vs.length *i.size=0:=by rw [hs];exact Nat.mul_ne_zero h0 (by omega)
  refine run_buildSlice w t I.elem vs.length parts _ i z hu hi hz (by rw [hs];omega) dG ?_;rw [hp,hs];exact Go.Great.fill_whole fm vs _ hv (by simp)
theorem acU {key:Nat->Nat} {φ:Ph}{size cap bG:Nat}{xs:List MV}{cells:List Value}(h:bx key φ size cells xs)(EZ:xs.length<=cap)(hp: ∀off,off<cells.length->φ bG off=cells[off]?): ni key φ [.slice (some ⟨bG,0,none⟩) xs.length cap] (.list xs):=by
 have hlen:=h.length;have Nc: ∀i (hi:i<xs.length),∃v1,v1.length=size/\ni key φ v1 xs[i]/\(cells.drop (i *size)).take size=v1:=by intro i hi;obtain ⟨p1,v1,p2,he,A3,sE,gl⟩:=h.at (By hi);refine ⟨v1,sE,gl,?_⟩;rw [he,AI,<-A3,aej,<-sE,ac5]
 refine .list (some ⟨bG,0,none⟩) cap xs bG 0 size (λi=>(cells.drop (i *size)).take size) EZ (λ_=>rfl) ?_ ?_ ?_
 ·intro i hi;obtain ⟨v1,h1,_,h3⟩:=Nc i hi;rw [h3,h1]
 ·intro i j hi hj;have H7:i *size+j<cells.length:=by
   rw [hlen];calc i *size+j<i *size+size:=by omega
    _=(i+1) *size:=by rw [acj]
    _<=xs.length *size:=aaF _ hi
  rw [aaL,hp _ H7,aca];simp only [hj,if_true,ac9]
 ·intro i hi;obtain ⟨v1,_,h2,h3⟩:=Nc i hi;rw [h3];exact h2
theorem KJ {t:TypeId}{n:Nat}{parts:Array (Nat×Operand)}{I E:TI}(ho:o.op= .buildSlice t n parts)(hI:c.tv t=some I)(hL:I.CW=true)(hE:c.tv I.elem=some E)(hT:lW P c.ti)(h:cF c Z e st a w)(oN:abq (n *E.size) 16777216=true)(hK:Yb c st parts.toList 0 (λms st=>bif c9 ms.length n then bP (nS E.size ms) (bif bU c.bs (o.dst.getD 0) then bV c st o.dst (.sc (.p (.list ms))) K else lS st (o.dst.getD 0) ⟨I.elem,false,ms⟩ λst=>bV c st o.dst (.sc (.own (o.dst.getD 0))) K) else none)=some r): o.wp P a w (λa' w'=>eI w w'/\Out c Z K r e.φ w a' w') Q:=by
 obtain ⟨uB,hc⟩:=b8 hI;obtain ⟨oQ,rU⟩:=b8 hE;obtain ⟨hu,E2,zv,_,fm⟩:=TI.nU (hT t I uB) hL;rw [oQ] at zv;cases zv;obtain ⟨e1,dH,ms,yP,CX,gm,hK,YX⟩:=V4 h hK;cases hn:c9 ms.length n with
 |false=>simp [hn] at hK
 |true=>
  simp only [hn,cond_true] at hK;have hn:=sh hn;obtain ⟨hw,hK⟩:=gk hK;obtain ⟨kw,hlen,xn⟩:=KI gm hw;generalize B1:parts.toList.map (λp=>a.eval p.2)=vs at gm YX kw hlen xn;have oN:=acb oN;have cB:=Uw (P:=P) (c:=c) (w:=w) (t:=t) (I:=I) (vs:=vs) (parts:=parts.map λ(i,x)=>(i,a.eval x)) hu oQ rU fm hT (by rw [hlen,hn];exact oN) xn (by rw [<-YX];simp);have afF:(execOp a.eval o).run P w= .ok (.value (.slice (some ⟨w.heap.size,0,none⟩) vs.length vs.length)) (w.alloc (.cells (vs.flatMap λv=>v.cells.toList).toArray I.elem)):=by rw [hlen,hn] at cB⊢;simp [execOp,ho] at cB⊢;simp [cB]
  have hg:eI w (w.alloc (.cells (vs.flatMap λv=>v.cells.toList).toArray I.elem)):= .alloc w _ _;have Ut: ∀off,e1.φ w.heap.size off=none:=by
   intro off;cases hp:e1.φ w.heap.size off with
   |none=>rfl
   |some u=>have:=ab4 w _ (yP.qe _ _ _ hp);simp at this
  have afG:(vs.flatMap λv=>v.cells.toList).length=ms.length *E.size:=kw.length;have EZ:ms.length<=16777216:=adV (adB _ fm) (by rw [hn];exact oN);cases hb:bU c.bs (o.dst.getD 0) with
  |false=>
   simp only [hb,cond_false] at hK;have Cr:=yP.npf hK;have hK:=wi hK;have iM:dI c Z.nc e1 (w.alloc (.cells (vs.flatMap λv=>v.cells.toList).toArray I.elem)) (.slice (some ⟨w.heap.size,0,none⟩) vs.length vs.length) ⟨I.elem,false,ms⟩:=by
    refine ⟨E,_,oQ,rU,⟨afG,.inr ⟨w.heap.size,vs.length,_,by rw [hlen],afs _,nF w _,by rw [hlen];exact aar _,by rw [hlen];unfold afO;omega,?_,?_⟩⟩,kw,?_⟩
    ·rw [acq,afG,hlen]
    ·show List.take (ms.length *E.size) _=_;rw [ack (by simp only [List.toList_toArray];omega)]
    ·intro bG mD;simp [BY] at mD;subst mD;refine ⟨yP.dn _ (aar _),λoff u hu=>(by rw [Ut] at hu;cases hu),λhc=>afD hc⟩
   have tf:=yP.lS (f:=o.dst.getD 0) Cr iM hg.size (λb Sv _=>hg.A0 b Sv) (λb off u hu=>hg.cell (yP.qe b off u hu)) (λb mD=>by simp [BY] at mD;exact .inl (by omega));exact YA (s:= .sc (.own (o.dst.getD 0))) hg afF tf (CX.tr.trans (hg.trans yP.dn _)) (.of (De rfl) trivial) hK
  |true=>
   simp only [hb,cond_true] at hK;generalize hfl:(vs.flatMap λv=>v.cells.toList)=flat at *;have hle:sD e1.φ (λb off=>if b=w.heap.size/\off<flat.length then flat[off]? else e1.φ b off):=by
    intro b off u hu;by_cases YY:b=w.heap.size
    ·subst YY;rw [Ut] at hu;cases hu
    ·simp only [YY,false_and,if_false];exact hu
   have ki: ∀b off u,(λb off=>if b=w.heap.size/\off<flat.length then flat[off]? else e1.φ b off) b off=some u->(w.alloc (.cells flat.toArray I.elem)).cell? ⟨b,off,none⟩=some u:=by
    intro b off u hu;by_cases YY:b=w.heap.size/\off<flat.length
    ·simp only [YY,and_self,if_true] at hu;obtain ⟨rfl,_⟩:=YY;rw [cell_of (nF w _)];simpa using hu
    ·simp only [YY,if_false] at hu;exact hg.cell (yP.qe b off u hu)
   have tf:=(yP.grow hg).aj4 hle ki (by
     intro t2 mQ ht off;have Nd:=yP.slot t2;rw [ht] at Nd;obtain ⟨o2,h1,_⟩:=Nd.2.obj;have:=bW h1;have dG: ¬e1.B t2=w.heap.size:=by omega
     simp [dG])
    (by
     intro f o2 b dh vF off;obtain ⟨J,xy,_,_,h3,_⟩:=(yP.jO f o2 dh).row;rcases h3.2 with ⟨h1,_⟩|⟨g,cap,dM,h1,_,h4,_⟩
     ·rw [h1] at vF;simp [BY] at vF
     ·rw [h1] at vF;simp [BY] at vF;subst vF;have:=bW h4;have dG: ¬g=w.heap.size:=by omega
      simp [dG])
   refine YA (s:= .sc (.p (.list ms))) hg afF tf ?_ (.of ?_ trivial) hK
   ·refine CX.tr.trans ⟨hle,λb hz Sv=>hg.A0 b Sv,λb off hz=> ?_,hg.size,hg.rest⟩;have dG: ¬b=w.heap.size:=by intro hbe;subst hbe;exact hz (yP.dn _ (aar _))
    simp [dG]
   ·simp only [af,bp];rw [hlen];exact ⟨rfl,acU (kw.mono hle) (aar _) (λoff H7=>by simp [H7])⟩
end
end Dn
/-
  Variables that no one changes any more. Conditions: none.
-/
namespace Dn
open Go
section
variable {P:Program}{c:Ctx}{Z:b7} {e e':Env}{st:St}{a:Act} {w w':World}{R:Type}{K:St->Option R}{r:R}{Q:Exit->Act->World->Prop}{o:Oper}
theorem cF.V5 {root:Nat}{cs gO:List aR}{arr:Array Value}{T:TypeId}(h:cF c Z e st a w)(hf:au st.fr root= .box cs)(dB:w.heap[e.B root]? =some (.cells arr T (0,0)))(hl:aJ e arr.toList gO)(hp:jS gO=true)(Ic:root∉Z.dg)(Db:BF root=false): ∃φ',sD e.φ φ'/\(∀b off,¬Z b->φ' b off=e.φ b off)/\(∀j,j<arr.toList.length->φ' (e.B root) j=arr.toList[j]?)/\ cF c Z {e with φ:=φ'} {st with fr:=cM st.fr root (.zz gO)} a w:=by
 have kl:=h.slot root;rw [hf] at kl;have si:=kl.2.free;have C9:fR cs=false:=by obtain ⟨o,h1,h2⟩:=kl.2.obj;rw [dB] at h1;cases h1;exact h2.2.B2
 simp only [cu] at kl;refine ⟨λb off=>if b=e.B root/\off<arr.toList.length then arr.toList[off]? else e.φ b off,?_,?_,?_,?_⟩
 ·intro b off v hv;by_cases hb:b=e.B root
  ·subst hb;rw [si] at hv;cases hv
  ·simp only [hb,false_and,if_false];exact hv
 ·intro b off hz;have hb: ¬b=e.B root:=by intro hb;subst hb;exact hz (Pp kl.2.dn Ic)
  simp [hb]
 ·intro j hj;have hj':j<arr.size:=by simpa using hj
  simp [hj']
 ·have hle:sD e.φ (λb off=>if b=e.B root/\off<arr.toList.length then arr.toList[off]? else e.φ b off):=by
   intro b off v hv;by_cases hb:b=e.B root
   ·subst hb;rw [si] at hv;cases hv
   ·simp only [hb,false_and,if_false];exact hv
  have vE:lB (λ_=>True) (λ_=>True) e {e with φ:=λb off=>if b=e.B root/\off<arr.toList.length then arr.toList[off]? else e.φ b off}:=⟨rfl,hle,λ_ _=>rfl,λf o ho _=>⟨o,ho,rfl,rfl⟩⟩
  have YZ: ∀q,dx (au st.fr q)=true->dx (au (cM st.fr root (.zz gO)) q)=true:=by
   intro q hq;rw [ck];by_cases hqr:q=root
   ·simp [hqr,dx]
   ·simp only [hqr,if_false];exact hq
  refine ⟨h.defers,h.size,h.m,h.key,fG h.nodup,?_,?_,?_,?_,?_,h.ff,?_,h.dn⟩
  ·intro t;show cu Z _ w t _ (au (cM st.fr root (.zz gO)) t);rw [ck];by_cases ht:t=root
   ·subst ht;simp only [if_true,cu,af];refine ⟨e.B t,0,arr.toList,by have:=kl.1.1 Db;rwa [vC C9] at this,hl.on vE (λl _ f _=>trivial),hp,?_⟩;intro j hj;have hj':j<arr.size:=by simpa using hj
    rw [aaL];simp [hj']
   ·simp only [ht,if_false];have hs:=h.slot t;have EM:=h.bb t root;generalize au st.fr t=s at hs EM;cases s<;>simp only [cu] at hs⊢ <;>try exact hs.on vE (ez _)
    rename_i mQ;refine ⟨hs.1,hs.2.dn,?_,?_⟩
    ·obtain ⟨o2,h1,h2⟩:=hs.2.obj;exact ⟨o2,h1,h2.on vE (λl _ f _=>trivial)⟩
    ·intro off;have dG: ¬e.B t=e.B root:=EM mQ cs rfl hf ht;show (if e.B t=e.B root/\off<arr.toList.length then arr.toList[off]? else e.φ (e.B t) off)=none;simp only [dG,false_and,if_false];exact hs.2.free off
  ·intro t;show c8 (cM st.fr root (.zz gO)) (au (cM st.fr root (.zz gO)) t);rw [ck];by_cases ht:t=root
   ·simp [ht,c8]
   ·simp only [ht,if_false];have qG:=h.root t;generalize au st.fr t=s at qG;cases s with
    |ptr q o=>exact YZ q qG
    |hp q o i=>exact YZ q qG
    |zA q=>exact YZ q qG
    |_=>trivial
  ·intro f o ho;obtain ⟨I,cells,h1,h2,h3,h4,h5⟩:=(h.jO f o ho).row;refine ⟨I,cells,h1,h2,h3,h4.mono hle,λbG hb=>⟨(h5 bG hb).1,λoff u hu=>(h5 bG hb).2.1 off u ?_,λg1 g2 j hj=>hle.AY ((h5 bG hb).2.2 g1 g2 j hj) hj⟩⟩;have dG: ¬bG=e.B root:=by intro hbe;exact h.bf root cs f o hf ho (by rw [hb,hbe])
   have hu:(if bG=e.B root/\off<arr.toList.length then arr.toList[off]? else e.φ bG off)=some u:=hu;simpa [dG] using hu
  ·intro t t' c1 c2 h1 h2 dG;have h1:au (cM st.fr root (.zz gO)) t= .box c1:=h1;have h2:au (cM st.fr root (.zz gO)) t'= .box c2:=h2;rw [ck] at h1 h2;by_cases ht:t=root
   ·simp [ht] at h1
   ·by_cases Cp:t'=root
    ·simp [Cp] at h2
    ·simp only [ht,Cp,if_false] at h1 h2;exact h.bb t t' c1 c2 h1 h2 dG
  ·intro t c1 f o h1 h2;have h1:au (cM st.fr root (.zz gO)) t= .box c1:=h1;rw [ck] at h1;by_cases ht:t=root
   ·simp [ht] at h1
   ·simp only [ht,if_false] at h1;exact h.bf t c1 f o h1 h2
  ·intro b off v hv;have hv:(if b=e.B root/\off<arr.toList.length then arr.toList[off]? else e.φ b off)=some v:=hv;by_cases hb:b=e.B root/\off<arr.toList.length
   ·simp only [hb,and_self,if_true] at hv;rw [hb.1,cell_of dB];simpa using hv
   ·simp only [hb,if_false] at hv;exact h.qe b off v hv
end
end Dn
/-
  Functions with captured variables. Conditions: none.
-/
namespace Dn
open Go
section
variable {P:Program}{c:Ctx}{Z:b7} {e e':Env}{st:St}{a:Act} {w w':World}{R:Type}{K:St->Option R}{r:R}{Q:Exit->Act->World->Prop}{o:Oper}
theorem xB {os:List Operand}: ∀{e:Env}{st:St} {K':List MV->St->Option R},cF c Z e st a w->C1 c st os K'=some r-> ∃e' cP ms,cF c Z e' cP a w/\Ext Z e e'/\jk e'.key e'.φ (os.map a.eval) ms/\K' ms cP=some r/\(∀m∈ms,m.one=true):=by
 induction os with
 |nil=>intro e st K' h hK;exact ⟨e,st,[],h,.refl _ _,.nil,hK,by simp⟩
 |cons x xs ih=>
  intro e st K' h hK;simp only [C1] at hK;obtain ⟨hx,_⟩:=h.eval x;generalize bw c st x=s at hx hK;split at hK
  ·rename_i root;simp only [af] at hx;split at hK
   ·rename_i cs xn;cases hup:wb cs||BF root with
    |true=>simp [hup] at hK
    |false=>
     simp only [hup,cond_false] at hK;obtain ⟨hu,an7⟩:=abr.1 hup;have pO:=h.slot root;rw [xn] at pO;have C9:fR cs=false:=by
      cases hm:fR cs with
      |false=>rfl
      |true=>obtain ⟨s,ms,rfl⟩:=M8 hm;simp [wb,Pd] at hu
     obtain ⟨arr,T,dB,rT⟩:=pO.2.cells C9;obtain ⟨e1,dH,ms,yP,CX,EX,Lz,hK,_,Db⟩:=nn h rT hK;cases Lx:rV cs ms with
     |none=>simp [Lx] at hK
     |some gO=>
      simp only [Lx] at hK;obtain ⟨BH,Nf⟩:=Db gO Lx;have hB:e1.B root=e.B root:=CX.on.B root trivial;unfold wr at hK;cases hn:bU dH.dg root with
      |true=>simp [hn] at hK
      |false=>
       obtain ⟨φ',g1,g2,g3,g4⟩:=yP.V5 (root:=root) (cs:=cs) (by rw [EX];exact xn) (by rw [hB];exact dB) BH Nf (by rw [<-yP.defers.2.1,<-b4,hn];simp) an7;simp only [hn,cond_false,force_eq,nG] at hK;have XW:Ext Z e1 {e1 with φ:=φ'}:=⟨⟨rfl,g1,λ_ _=>rfl,λf o ho _=>⟨o,ho,rfl,rfl⟩⟩,g2⟩
       obtain ⟨e3,oO,ns,hs3,Y0,hr3,hK,jP⟩:=ih g4 hK;refine ⟨e3,oO,.rp ms::ns,hs3,(CX.trans XW).trans Y0,?_,hK,by intro m hm;rcases aaK.1 hm with rfl|hm<;>first|rfl|exact jP m hm⟩;have gl:ni e1.key φ' [a.eval x] (.rp ms):=by rw [hx,<-hB];refine .rp (e1.B root) 0 arr.toList ms (Lz.mono g1) ?_;intro j hj;rw [aaL];exact g3 j hj
       have gl:=gl.mono Y0.on.φ;have hk3:e3.key=e1.key:=Y0.on.key;rw [<-hk3] at gl;exact .cons [a.eval x] _ _ _ gl hr3
   ·simp at hK
  ·rename_i cs;simp only [af] at hx;obtain ⟨bG,q,vs,hv,rT,hp,EV⟩:=hx;obtain ⟨e1,dH,ms,yP,CX,EX,Lz,zJ,h6,_⟩:=nn h rT hK;clear hK;obtain ⟨rfl,rfl⟩:=h6 hp;obtain ⟨e3,oO,ns,hs3,Y0,hr3,Ie,jP⟩:=ih yP zJ;refine ⟨e3,oO,.rp ms::ns,hs3,CX.trans Y0,?_,Ie,by intro m hm;rcases aaK.1 hm with rfl|hm<;>first|rfl|exact jP m hm⟩;have gl:ni e1.key e1.φ [a.eval x] (.rp ms):=by rw [hv];exact .rp bG (q+0) vs ms Lz (by simpa using EV)
   have gl:=gl.mono Y0.on.φ;rw [<-Y0.on.key] at gl;exact .cons [a.eval x] _ _ _ gl hr3
  ·simp at hK
theorem PH {f:Nat}{cE:Array Operand}(ho:o.op= .makeFunc (.func f) #[] cE)(h:cF c Z e st a w)(hK:C1 c st cE.toList (λms st=>bV c st o.dst (.sc (.p (.func (c.key f) ms))) K)=some r):Rd P c Z K r e a w o (λ_=>True):=by
 obtain ⟨e1,dH,ms,yP,CX,Lz,hK,jP⟩:=xB h hK;refine VT (v:= .func (.func f) #[] (cE.map a.eval)) (s:= .sc (.p (.func (c.key f) ms))) (λw _=> ?_) yP CX.tr (.of ?_ trivial) hK
 ·simp [execOp,ho,Instr.makeFunc]
 ·simp only [af,bp];exact ⟨rfl,.func f _ _ ms (by rw [yP.key]) (by simpa using Lz) jP⟩
end
end Dn
