import GoSem.Dispatch
import Derived.Orders
import Derived.Calls
import Derived.Laws.AppendOwn
import Derived.Laws.AppendOwnNone
import Derived.Deep.MidRow
import Derived.Laws.Strings
import Derived.Laws.Tables
import Derived.Great.FillDense
import Derived.Maps.AppendAt
import Derived.Great.BuildSlice
/-
  An abstract run of Go functions over values that no one changes: definitions. Conditions: none.
-/
set_option linter.unusedVariables false
namespace Dn
open Go
structure kD where
 l:List UInt8
 h:l.length=32
theorem kD.ext' {a b:kD} (e:a.l=b.l):a=b:=by cases a;cases b;cases e;rfl
instance:DecidableEq kD:=fun a b=>if e:a.l=b.l then .isTrue (kD.ext' e) else .isFalse (fun h=>e (by rw [h]))
def kD.zero:kD:=⟨[0,0,0,0,0,0,0,0,0,0,0,0,0,0,0,0,0,0,0,0,0,0,0,0,0,0,0,0,0,0,0,0],rfl⟩
def kD.put (x:kD) (i:Nat) (b:UInt8):kD:=⟨x.l.set i b,by simp [x.h]⟩
inductive MV where
 |b (x:Bool)
 |i (k:IntKind) (n:Int)
 |s (l:List UInt8)
 |h (x:kD)
 |raw (v:Value)
 |list (xs:List MV)
 |agg (cs:List MV)
 |cK (vs:List MV)
 |func (f:Nat) (cap:List MV)
 |rp (cs:List MV)
 |fresh (xs:List MV)
 |cell (m:MV)
 |ej (r:MV) (outs:List MV)
instance:Inhabited MV:=⟨.b false⟩
mutual
def MV.w:MV→Nat
 | .h _=>32
 | .agg cs=>MV.wl cs
 |_=>1
def MV.wl:List MV→Nat
 |[]=>0
 |m::r=>m.w+MV.wl r
end
def ta (n:Nat) (l:List MV):Bool:=l.all fun m=>Nat.beq m.w n
inductive Kd where
 |b|i (k:IntKind)|s|l|h|raw
structure MS where
 st:Bool
 lay:List Kd
 b:Bool
def MS.it:MS:=⟨true,[],true⟩
def Di (s:MS):Bool:=match s.lay with
 |[]=>s.st
 |_=>false
inductive aI where
 |un
 |p (m:MV)
 |hs (x:kD)
 |nil
 |own (iT:Nat)
 |mp (s:MS) (es:List MV)
def aI.w:aI→Nat
 | .hs _=>32
 |_=>1
inductive Slot where
 |skip
 |sc (l:aI)
 |ag (cs:List aI)
 |cK (vs:List Slot)
 |box (cs:List aI)
 |wN (cs:List aI)
 |ptr (root off:Nat)
 |wO (root:Nat)
 |rp (cs:List aI) (off:Nat)
 |hp (root off:Nat) (i:Nat)
 |ep (iT:Nat) (i:Nat) (off:Nat) (st:Bool) (cs:List aI)
abbrev Fr:=List (Nat×Slot)
structure TI where
 st:Bool
 size:Nat
 bytes:Nat
 lay:List Kd
 zero:List aI
 wu:List Nat
 Qy:List Nat
 elem:Nat
 cL:List Nat
section
variable {R:Type}
def gB (m:MV) (K:Bool→Option R):Option R:=match m with| .b x=>K x|_=>none
def gI (k:IntKind) (m:MV) (K:Int→Option R):Option R:=match m with| .i k' n=>bif decide (k'=k) then K n else none|_=>none
def gS (m:MV) (K:List UInt8→Option R):Option R:=match m with| .s l=>K l|_=>none
def gL (m:MV) (K:List MV→Option R):Option R:=match m with| .list l=>K l|_=>none
def gH (m:MV) (K:kD→Option R):Option R:=match m with| .h l=>K l|_=>none
def gA (m:MV) (K:List MV→Option R):Option R:=match m with| .agg l=>K l|_=>none
def gT (m:MV) (K:List MV→Option R):Option R:=match m with| .cK l=>K l|_=>none
def gF (m:MV) (K:List MV→Option R):Option R:=match m with| .fresh l=>K l|_=>none
def Na (m:MV) (K:Nat→List MV→Option R):Option R:=match m with| .func f c=>K f c|_=>none
def gW (m:MV) (K:MV→List MV→Option R):Option R:=match m with| .ej r outs=>K r outs|_=>none
def gP (m:MV) (K:List MV→Option R):Option R:=match m with| .rp c=>K c|_=>none
def gCx (m:MV) (K:Nat→Nat→Option R):Option R:=match m with| .raw (.complex .f64 a b)=>K a b|_=>none
def gR (m:MV) (K:MV→Option R):Option R:=match m with| .raw v=>K (.raw v)| .func f c=>K (.func f c)| .rp c=>K (.rp c)|_=>none
def gC (l:List MV) (K:MV→List MV→Option R):Option R:=match l with|m::r=>K m r|[]=>none
def gN (l:List MV) (K:Option R):Option R:=match l with|[]=>K|_=>none
def bd {α:Type} (x:Option α) (K:α→Option R):Option R:=match x with|some a=>K a|none=>none
def aaD (l:List MV) (i:Int):Option MV:=if 0≤i then l[i.toNat]? else none
def idx (l:List MV) (i:Int) (K:MV→Option R):Option R:=
 match aaD l i with|some x=>K x|none=>none
def cR (c:Bool) (K:Option R):Option R:=match c with|true=>K|false=>none
def a8 (c:Bool) (x y:Option R):Option R:=match c with|true=>x|false=>y
def G0:List Nat→Nat→(Nat→Option R)→Option R
 |[],_,_=>none
 |[p],e,K=>bif Nat.beq e p then K p else none
 |p::q::r,e,K=>bif Nat.beq e p then K p else G0 (q::r) e K
def jM (k:Kd) (m:MV) (K:aI→Option R):Option R:=
 match k with
 | .b=>gB m fun x=>K (.p (.b x))
 | .i k=>gI k m fun x=>K (.p (.i k x))
 | .s=>gS m fun x=>K (.p (.s x))
 | .l=>gL m fun x=>K (.p (.list x))
 | .h=>gH m fun x=>K (.hs x)
 | .raw=>gR m fun m=>K (.p m)
def se:List Kd→List MV→(List aI→Option R)→Option R
 |[],l,K=>gN l (K [])
 |k::ks,l,K=>gC l fun m r=>jM k m fun x=>se ks r fun xs=>K (x::xs)
end
def iter {σ R:Type} (body:σ→Option (Sum σ R)):Nat→σ→Option R
 |0,_=>none
 |n+1,s=>match body s with
  |some (.inl s')=>iter body n s'
  |some (.inr r)=>some r
  |none=>none
open Classical in
noncomputable def Loop {σ R:Type} (body:σ→Option (Sum σ R)) (s:σ):Option R:=
 if h: ∃r n,iter body n s=some r then some (Classical.choose h) else none
def ao:Fr→Nat→Slot
 |[],_=> .sc .un
 |(k,s)::r,t=>bif Nat.beq k t then s else ao r t
def G3 {R:Type}:Fr→Nat→Slot→(Fr→Option R)→Option R
 |[],t,v,K=>K [(t,v)]
 |(k,s)::r,t,v,K=>bif Nat.beq k t then K ((k,v)::r) else G3 r t v fun r=>K ((k,s)::r)
def force {R:Type} (s:Slot) (K:Slot→Option R):Option R:=match s with
 | .skip=>K .skip
 | .sc l=>K (.sc l)
 | .ag cs=>K (.ag cs)
 | .cK vs=>K (.cK vs)
 | .box cs=>K (.box cs)
 | .wN cs=>K (.wN cs)
 | .ptr r o=>K (.ptr r o)
 | .wO r=>K (.wO r)
 | .rp cs o=>K (.rp cs o)
 | .hp r o i=>K (.hp r o i)
 | .ep f i o b cs=>K (.ep f i o b cs)
def bE:List Nat→Nat→Bool
 |[],_=>false
 |k::r,t=>bif Nat.beq k t then true else bE r t
def yZ (t:Nat):Bool:=Nat.ble 1000000 t
def posOf (t:Nat):Nat:=(t-1000000)%1000
def KP (t:Nat):Nat:=(t-1000000)/1000
def plk:List (Nat×Nat)→Nat→Option Nat
 |[],_=>none
 |(k,x)::r,t=>bif Nat.beq k t then some x else plk r t
def dj:Slot→Bool
 | .ptr _ _| .hp _ _ _| .ep _ _ _ _ _| .rp _ _| .wO _=>true
 |_=>false
def tH {R:Type} (ds:List Nat):Fr→(Fr→Option R)→Option R
 |[],K=>K []
 |(k,s)::r,K=>bif dj s||bE ds k then tH ds r K else tH ds r fun r=>K ((k,s)::r)
def cM:Slot→Bool
 | .box _| .wN _=>true
 |_=>false
def pick {R:Type} (ks:List Nat):Fr→(Fr→Option R)→Option R
 |[],K=>K []
 |(k,s)::r,K=>bif bE ks k&&!dj s then pick ks r fun r=>K ((k,s)::r) else pick ks r K
structure nm where
 ty:Nat
 ee:Bool
 xs:List MV
structure St where
 cq:List Nat
 cr:List Nat
 fr:Fr
 aV:List (Nat×nm)
def aO:List (Nat×nm)→Nat→Option nm
 |[],_=>none
 |(k,s)::r,t=>bif Nat.beq k t then some s else aO r t
def Nb {R:Type}:List (Nat×nm)→Nat→nm→(List (Nat×nm)→Option R)→Option R
 |[],t,v,K=>K [(t,v)]
 |(k,s)::r,t,v,K=>bif Nat.beq k t then K ((k,v)::r) else Nb r t v fun r=>K ((k,s)::r)
def kB (a b:IntKind):Bool:=decide (a=b)
def ZB:Kd→Kd→Bool
 | .b,.b=>true
 | .i k,.i k'=>kB k k'
 | .s,.s=>true
 | .l,.l=>true
 | .h,.h=>true
 | .raw,.raw=>true
 |_,_=>false
def Dj:List Kd→List Kd→Bool
 |[],[]=>true
 |x::xs,y::ys=>ZB x y&&Dj xs ys
 |_,_=>false
def msB (s t:MS):Bool:=(s.st==t.st)&&(Dj s.lay t.lay&&(s.b==t.b))
def uH {R:Type} (f:Nat):List aI→(List aI→Option R)→Option R
 |[],K=>K []
 |l::r,K=>(match l with
  | .own g=>bif Nat.beq g f then uH f r fun r=>K (.un::r) else uH f r fun r=>K (.own g::r)
  |l=>uH f r fun r=>K (l::r))
def HN {R:Type} (f:Nat) (s:Slot) (K:Slot→Option R):Option R:=match s with
 | .sc (.own g)=>bif Nat.beq g f then K (.sc .un) else K (.sc (.own g))
 | .ag cs=>uH f cs fun cs=>K (.ag cs)
 | .box cs=>uH f cs fun cs=>K (.box cs)
 | .ep g i o b cs=>bif Nat.beq g f then K (.sc .un) else K (.ep g i o b cs)
 |s=>K s
def kFr {R:Type} (f:Nat):Fr→(Fr→Option R)→Option R
 |[],K=>K []
 |(k,s)::r,K=>HN f s fun s=>kFr f r fun r=>K ((k,s)::r)
section
variable {R:Type}
def qL (st:St) (l:aI) (K:MV→St→Option R):Option R:=
 match l with
 | .un=>none
 | .p m=>K m st
 | .hs x=>K (.h x) st
 | .nil=>K (.list []) st
 | .mp _ _=>none
 | .own f=>match aO st.aV f with
  |some o=>bif o.ee then K (.list o.xs) st else bif bE st.cr f then none else (match st with|⟨p,q,r,m⟩=>Nb m f ⟨o.ty,true,o.xs⟩ fun m=>K (.list o.xs) ⟨p,q,r,m⟩)
  |none=>none
def o6 (st:St):List aI→(List MV→St→Option R)→Option R
 |[],K=>K [] st
 |l::r,K=>qL st l fun m st=>o6 st r fun ms st=>K (m::ms) st
def lO (st:St) (s:Slot) (K:MV→St→Option R):Option R:=
 match s with
 | .sc l=>qL st l K
 | .ag cs=>o6 st cs fun ms st=>K (.agg ms) st
 | .rp cs off=>bif Nat.beq off 0 then o6 st cs fun ms st=>K (.rp ms) st else none
 |_=>none
def uI (st:St):List Slot→(List MV→St→Option R)→Option R
 |[],K=>K [] st
 |l::r,K=>lO st l fun m st=>uI st r fun ms st=>K (m::ms) st
end
def wP:List aI→Nat
 |[]=>0
 |k::r=>k.w+wP r
def cut:List aI→Nat→Option (List aI)
 |cs,0=>some cs
 |c::cs,n+1=>bif Nat.ble c.w (n+1) then cut cs (n+1-c.w) else none
 |_,_=>none
def KQ:List aI→Nat→Option (List aI)
 |_,0=>some []
 |c::cs,n+1=>bif Nat.ble c.w (n+1) then (match KQ cs (n+1-c.w) with|some b=>some (c::b)|none=>none) else none
 |_,_=>none
def part (cs:List aI) (off n:Nat):Option (List aI):=
 match cut cs off with
 |some a=>KQ a n
 |none=>none
def over:List aI→List aI→Option (List aI)
 |[],cs=>some cs
 |v::vs,c::cs=>bif Nat.beq v.w c.w then (match over vs cs with|some r=>some (v::r)|none=>none) else none
 |_,[]=>none
def putAt:List aI→Nat→List aI→Option (List aI)
 |cs,0,vs=>over vs cs
 |c::cs,n+1,vs=>bif Nat.ble c.w (n+1) then (match putAt cs (n+1-c.w) vs with|some r=>some (c::r)|none=>none) else none
 |_,_,_=>none
def app {α:Type}:List α→List α→Option (List α)
 |[],l=>some l
 |x::r,l=>(match app r l with|some q=>some (x::q)|none=>none)
def KR:aI→Bool
 | .un=>true
 | .mp _ _=>true
 |_=>false
def eP:List aI→Bool
 |[.mp _ _]=>true
 |_=>false
def BE:Slot→Bool
 | .box cs=>!eP cs
 |_=>false
def D5 {R:Type} (ok:Nat→Bool) (r0:Fr):Fr→Fr→(Fr→Option R)→Option R
 |[],fr,K=>K fr
 |(t,s)::r,fr,K=>match s with
  | .ptr root off=>bif ok t&&(!yZ root&&(BE (ao r0 root)&&(BE (ao fr root)&&!cM (ao fr t)))) then G3 fr t (.ptr root off) fun fr=>D5 ok r0 r fr K else D5 ok r0 r fr K
  |_=>D5 ok r0 r fr K
def kH:List aI→Bool
 |[.mp s _]=>!Di s
 |_=>false
def tI:List aI→Bool
 |[]=>false
 |l::r=>bif KR l then true else tI r
def kEp {R:Type} (f:Nat):Fr→(Fr→Option R)→Option R
 |[],K=>K []
 |(k,s)::r,K=>(match s with
  | .ep g i o b cs=>bif Nat.beq g f then kEp f r fun r=>K ((k,.sc .un)::r) else kEp f r fun r=>K ((k,.ep g i o b cs)::r)
  |s=>kEp f r fun r=>K ((k,s)::r))
inductive LK where
 |k (x:Kd)
 |own (f:Nat) (ty:Nat) (ee:Bool)
inductive OK where
 |sc (l:LK)
 |ag (ls:List LK)
 |box (ls:List LK)
 |mp (s:MS)
 |pt (root off:Nat)
structure qM where
 cq:List Nat
 cr:List Nat
 outs:List (Nat×OK)
 exo:List (Nat×List (Nat×OK))
 ee:List Nat
instance:Inhabited qM:=⟨⟨[],[],[],[],[]⟩⟩
def SW:List (Nat×List (Nat×OK))→Nat→List (Nat×OK)
 |[],_=>[]
 |(k,l)::r,e=>bif Nat.beq k e then l else SW r e
def qM.ex (h:qM) (e:Nat):List (Nat×OK):=SW h.exo e
def Pf:List (Nat×List (Nat×OK))→List (Nat×OK)
 |[]=>[]
 |(_,l)::r=>l++Pf r
def qM.all (h:qM):List (Nat×OK):=h.outs++Pf h.exo
structure Ctx where
 ti:Nat→Option TI
 key:Nat→Nat
 g:Nat→List MV→Option MV
 eo:Nat→Bool
 fresh:Nat→Bool
 rW:Nat→Nat
 sig:Nat→Option (Nat×List LK)
 par:List (Nat×Nat)
 n:Nat
 bs:List Nat
 fl:List Nat
 fz:Nat→List Nat
 fk:Nat→Option FloatKind
 mt:Nat→Option (Nat×Bool)
 ord:Nat→List Nat
 KI:Nat→qM
 Jk:Nat→qM
 G4:Nat→qM
 Jl:Nat→Bool
 dyn:List Nat
def Ctx.tv (c:Ctx) (t:Nat):Option TI:=match c.ti t with|some I=>(match I.cL with|[]=>some I|_=>none)|none=>none
def xM:Value→Slot
 | .bool b=> .sc (.p (.b b))
 | .int k n=> .sc (.p (.i k n))
 | .string s=> .sc (.p (.s s.data.toList))
 | .slice none 0 0=> .sc .nil
 | .float k b=> .sc (.p (.raw (.float k b)))
 | .complex k a b=> .sc (.p (.raw (.complex k a b)))
 | .pointer none=> .sc (.p (.raw (.pointer none)))
 | .nilFunc=> .sc (.p (.raw .nilFunc))
 | .nilIface=> .sc (.p (.raw .nilIface))
 |_=> .sc .un
def aS (c:Ctx) (st:St):Operand→Slot
 | .tmp t=>match plk c.par t with
  |some q=>bif yZ q&&Nat.beq (posOf q) t then (match ao st.fr q with| .box cs=>bif eP cs then .sc .un else .ptr q (KP q)|_=> .sc .un) else .sc .un
  |none=>match ao st.fr t with
   | .box cs=>bif yZ t then .sc .un else bif kH cs then .wO t else .ptr t 0
   | .wN cs=> .rp cs 0
   |s=>s
 | .const v=>xM v
 | .func f=> .sc (.p (.func (c.key f) []))
 | .global _=> .sc .un
def iW (c:Ctx) (st:St):List Operand→List Slot
 |[]=>[]
 |o::r=>aS c st o::iW c st r
section
variable {R:Type}
def wr (st:St) (d:Nat) (s:Slot) (K:St→Option R):Option R:=
 bif bE st.cq d then none else (match st with|⟨p,q,r,m⟩=>force s fun s=>G3 r d s fun r=>K ⟨p,q,r,m⟩)
def bu (c:Ctx) (st:St) (d:Option Nat) (s:Slot) (K:St→Option R):Option R:=
 match d with
 |some d=>bif yZ d||(Nat.ble c.n d||cM (ao st.fr d)) then none else wr st d s K
 |none=>K st
def ju (st:St) (f:Nat) (o:nm) (K:St→Option R):Option R:=
 bif bE st.cr f then none else (match st with|⟨p,q,r,m⟩=>kFr f r fun r=>Nb m f o fun m=>K ⟨p,q,r,m⟩)
def jN (I:TI) (cs:List aI) (off:Nat) (K:Slot→Option R):Option R:=
 bif I.st then (match part cs off I.size with|some a=>K (.ag a)|none=>none)
 else (match cut cs off with|some (l::_)=>bif Nat.beq l.w I.size then K (.sc l) else none|_=>none)
def ldK (st:St) (I:TI) (a:Slot) (K:Slot→Option R):Option R:=
 match a with
 | .ptr root off=>match ao st.fr root with
  | .box cs=>bif eP cs then none else jN I cs off K
  |_=>none
 | .rp cs off=>jN I cs off K
 | .ep f _ off _ cs=>(match aO st.aV f with|some _=>jN I cs off K|none=>none)
 | .hp root off i=>bif I.st||!Nat.beq I.size 1 then none else (match ao st.fr root with
  | .box cs=>bif eP cs then none else (match cut cs off with|some (.hs x::_)=>K (.sc (.p (.i .u8 (x.l.getD i 0).toNat)))|_=>none)
  |_=>none)
 |_=>none
def aP:Slot→List aI
 | .sc l=>[l]
 | .ag cs=>cs
 |_=>[]
def bH:List aI→Option (List MV)
 |[]=>some []
 |l::r=>match l,bH r with
  | .p m,some q=>some (m::q)
  | .hs x,some q=>some (.h x::q)
  |_,_=>none
def pL:List aI→List MV→Option (List aI)
 |[],[]=>some []
 | .hs x::r,_::ms=>(match pL r ms with|some q=>some (.hs x::q)|none=>none)
 |_::r,m::ms=>(match pL r ms with|some q=>some (.p m::q)|none=>none)
 |_,_=>none
def tc (b:Bool) (cs:List MV):Option MV:=match b,cs with
 |false,[m]=>some m
 |true,cs=>some (.agg cs)
 |_,_=>none
def isByte (n:Int):Bool:=decide (n=((UInt8.ofNat n.toNat).toNat:Int))
def stK (st:St) (I:TI) (a v:Slot) (K:St→Option R):Option R:=
 bif tI (aP v)||!Nat.beq (wP (aP v)) I.size then none else
 match a with
 | .ptr root off=>match ao st.fr root with
  | .box cs=>bif eP cs then none else (match putAt cs off (aP v) with|some fI=>wr st root (.box fI) K|none=>none)
  |_=>none
 | .hp root off i=>match ao st.fr root,v with
  | .box cs,.sc (.p n)=>bif eP cs then none else (match cut cs off with
   |some (.hs x::_)=>gI .u8 n fun n=>cR (isByte n) (match putAt cs off [.hs (x.put i (UInt8.ofNat n.toNat))] with|some fI=>wr st root (.box fI) K|none=>none)
   |_=>none)
  |_,_=>none
 | .ep f i off b cs=>o6 st (aP v) fun ms st=>match aO st.aV f with
  |some o=>bif o.ee then none else
   (match pL (aP v) ms with
   |some vs=>(match putAt cs off vs with
    |some fI=>(match bH fI with
     |some ms'=>(match tc b ms' with
      |some x=>bif bE st.cr f then none else
       (match st with|⟨p,q,r,m⟩=>kEp f r fun r=>Nb m f ⟨o.ty,false,o.xs.set i x⟩ fun m=>K ⟨p,q,r,m⟩)
      |none=>none)
     |none=>none)
    |none=>none)
   |none=>none)
  |none=>none
 |_=>none
def Jm (I:TI) (x:MV) (K:List aI→Option R):Option R:=
 bif I.st then gA x fun cs=>se I.lay cs K
 else match I.lay with
  |[k]=>jM k x fun x=>K [x]
  |_=>none
def Cz (I:TI) (x:MV) (K:Slot→Option R):Option R:=
 bif I.st then gA x fun cs=>se I.lay cs fun cs=>K (.ag cs)
 else match I.lay with
  |[k]=>jM k x fun x=>K (.sc x)
  |_=>none
def D6 (c:Ctx):List Nat→List MV→(List Slot→Option R)→Option R
 |[],l,K=>gN l (K [])
 |t::ts,l,K=>match c.tv t with
  |some I=>gC l fun m r=>Cz I m fun s=>D6 c ts r fun ss=>K (s::ss)
  |none=>none
def qg (c:Ctx) (I:TI) (x:MV) (K:Slot→Option R):Option R:=
 match I.cL with
 |[]=>Cz I x K
 |ts=>gT x fun vs=>D6 c ts vs fun ss=>K (.cK ss)
def BF:aI→aI→Option Bool
 | .p (.b x),.p (.b y)=>some (decide (x=y))
 | .p (.i k x),.p (.i k' y)=>bif decide (k=k') then some (decide (x=y)) else none
 | .p (.s x),.p (.s y)=>some (decide (x=y))
 | .hs x,.hs y=>some (decide (x=y))
 |_,_=>none
def iX:List aI→List aI→Option Bool
 |[],[]=>some true
 |[x],[y]=>BF x y
 |x::xs,y::ys=>match BF x y,iX xs ys with
  |some a,some b=>some (a&&b)
  |_,_=>none
 |_,_=>none
def Jn (op:BinOp) (x y:List UInt8):Option MV:=
 match op with
 | .eql=>some (.b (decide (x=y)))
 | .neq=>some (.b (!decide (x=y)))
 | .lss=>some (.b (Op.bytesLess x y))
 | .gtr=>some (.b (!(Op.bytesLess x y||decide (x=y))))
 | .leq=>some (.b (Op.bytesLess x y||decide (x=y)))
 | .geq=>some (.b (!Op.bytesLess x y))
 |_=>none
def Pg (op:BinOp) (k:IntKind) (x y:Int):Option MV:=
 match op with
 | .add=>some (.i k (k.wrap (x+y)))
 | .sub=>some (.i k (k.wrap (x-y)))
 | .mul=>some (.i k (k.wrap (x *y)))
 | .eql=>some (.b (decide (x=y)))
 | .neq=>some (.b (!decide (x=y)))
 | .lss=>some (.b (decide (x<y)))
 | .leq=>some (.b (decide (x≤y)))
 | .gtr=>some (.b (decide (y<x)))
 | .geq=>some (.b (decide (y≤x)))
 |_=>none
def mJ:Kd→aI→Bool
 | .b,.p (.b _)=>true
 | .i k,.p (.i k' _)=>decide (k'=k)
 | .s,.p (.s _)=>true
 | .h,.hs _=>true
 |_,_=>false
def eL:List Kd→List aI→Bool
 |[],[]=>true
 |k::ks,l::ls=>bif mJ k l then eL ks ls else false
 |_,_=>false
def lP (st:Bool):Slot→Bool
 | .ag _=>st
 | .sc _=>!st
 |_=>false
def adx (op:BinOp) (a b:Nat):Option Nat:=match op with
 | .add=>FloatKind.f64.format.add a b
 | .sub=>FloatKind.f64.format.sub a b
 | .mul=>FloatKind.f64.format.mul a b
 |_=>none
def aaE (oI:Option TI) (op:BinOp) (x y:Slot) (K:Slot→Option R):Option R:=
 match x,y with
 | .sc (.p (.i k a)),.sc (.p (.i k' b))=>
  (match op with
   | .quo=>bif decide (k=k') then cR (!decide (b=0)) (K (.sc (.p (.i k (k.wrap (a.tdiv b)))))) else none
   | .rem=>bif decide (k=k') then cR (!decide (b=0)) (K (.sc (.p (.i k (a.tmod b))))) else none
   | .shr=>cR (decide (0≤b)) (K (.sc (.p (.i k (a.fdiv (2^min b.toNat k.bits))))))
   | .shl=>cR (decide (0≤b)) (K (.sc (.p (.i k (k.wrap (a *2^min b.toNat k.bits))))))
   |_=>bif decide (k=k') then (match Pg op k a b with|some m=>K (.sc (.p m))|none=>none) else none)
 | .sc (.p (.s a)),.sc (.p (.s b))=>(match op with
  | .add=>cR (decide (a.length+b.length≤2^46)) (K (.sc (.p (.s (a++b)))))
  |_=>(match Jn op a b with|some m=>K (.sc (.p m))|none=>none))
 | .sc (.p (.raw (.float .f64 a))),.sc (.p (.raw (.float .f64 b)))=>bd (adx op a b) fun r=>K (.sc (.p (.raw (.float .f64 r))))
 |x,y=>match oI with
  |some I=>bif eL I.lay (aP x)&&eL I.lay (aP y)&&(lP I.st x&&lP I.st y) then (match op with
   | .eql=>(match iX (aP x) (aP y) with|some b=>K (.sc (.p (.b b)))|none=>none)
   | .neq=>(match iX (aP x) (aP y) with|some b=>K (.sc (.p (.b (!b))))|none=>none)
   |_=>none) else none
  |none=>none
def sliceB (lo hi:Option Slot) (len:Nat) (K:Nat→Nat→Option R):Option R:=
 match lo,hi with
 |none,none=>K 0 len
 |some (.sc (.p (.i _ l))),none=>cR (decide (0≤l∧l≤(len:Int)∧(len:Int)≤(len:Int))) (K l.toNat (Int.toNat (len:Int)))
 |none,some (.sc (.p (.i _ h)))=>cR (decide (0≤(0:Int)∧(0:Int)≤h∧h≤(len:Int))) (K (Int.toNat 0) h.toNat)
 |some (.sc (.p (.i _ l))),some (.sc (.p (.i _ h)))=>cR (decide (0≤l∧l≤h∧h≤(len:Int))) (K l.toNat h.toNat)
 |_,_=>none
def lk (c:Ctx) (st:St):Option Operand→Option Slot
 |some o=>some (aS c st o)
 |none=>none
def wQ:List aI→Option (List MV)
 |[]=>some []
 |l::r=>match l,wQ r with
  | .p m,some q=>some (m::q)
  | .hs x,some q=>some (.h x::q)
  | .nil,some q=>some (.list []::q)
  |_,_=>none
def SX (d:Nat) (st:St) (I E:TI) (x y:Slot) (K:Slot→St→Option R):Option R:=match x,y with
 | .sc (.p (.i _ n)),.sc (.p (.i _ m))=>bif Nat.ble 1 E.bytes then cR (decide ((0:Int)≤n∧n=m∧n *E.bytes≤2^46)) (match wQ E.zero with
  |some zs=>(match tc E.st zs with
   |some z=>ju st d ⟨I.elem,false,List.replicate n.toNat z⟩ fun st=>K (.sc (.own d)) st
   |none=>none)
  |none=>none) else none
 |_,_=>none
def Jo (I E:TI) (st:St) (x:Slot) (K:List MV→Option R):Option R:=match x with
 | .sc (.p (.list xs))=>cR (ta E.size xs) (K xs)
 | .sc .nil=>K []
 | .sc (.own f)=>(match aO st.aV f with|some o=>bif Nat.beq o.ty I.elem then K o.xs else none|none=>none)
 |_=>none
def zw (c:Ctx) (st:St) (I:TI):List (Nat×Operand)→List aI→Option (List aI)
 |[],cs=>some cs
 |(i,o)::r,cs=>match I.wu[i]?,I.Qy[i]? with
  |some q,some y=>(match c.tv y with
   |some J=>bif tI (aP (aS c st o))||!Nat.beq (wP (aP (aS c st o))) J.size then none else
    (match putAt cs q (aP (aS c st o)) with|some fI=>zw c st I r fI|none=>none)
   |none=>none)
  |_,_=>none
def D7 (c:Ctx) (st:St):List (Nat×Operand)→kD→(kD→Option R)→Option R
 |[],x,K=>K x
 |(i,o)::r,x,K=>match aS c st o with
  | .sc (.p m)=>bif Nat.ble 32 i then none else gI .u8 m fun n=>cR (isByte n) (D7 c st r (x.put i (UInt8.ofNat n.toNat)) K)
  |_=>none
def SY (c:Ctx) (st:St):List (Nat×Operand)→Nat→(List MV→St→Option R)→Option R
 |[],_,K=>K [] st
 |(i,o)::r,n,K=>bif Nat.beq i n then lO st (aS c st o) fun m st=>SY c st r (n+1) fun ms st=>K (m::ms) st else none
def Ae (c:Ctx) (st:St):List Operand→(List MV→St→Option R)→Option R
 |[],K=>K [] st
 |o::r,K=>match aS c st o with
  | .ptr root 0=>(match ao st.fr root with
   | .box cs=>bif tI cs||yZ root then none else o6 st cs fun ms st=>(match pL cs ms with|some fI=>wr st root (.wN fI) fun st=>Ae c st r fun xs st=>K (.rp ms::xs) st|none=>none)
   |_=>none)
  | .rp cs 0=>o6 st cs fun ms st=>Ae c st r fun xs st=>K (.rp ms::xs) st
  |_=>none
def Af (c:Ctx) (k:Nat) (st:St) (s:Slot) (K:MV→St→Option R):Option R:=match s with
 | .sc (.own f)=>(match aO st.aV f with
  |some o=>bif o.ee||!Nat.beq o.ty (c.rW k) then none else ju st f ⟨o.ty,true,[]⟩ fun st=>K (.fresh o.xs) st
  |none=>none)
 | .sc .nil=>(match c.tv (c.rW k) with|some _=>K (.fresh []) st|none=>none)
 |_=>none
def Pj (c:Ctx) (k:Nat) (st:St) (ss:List Slot) (K:List MV→St→Option R):Option R:=
 bif c.eo k then (match ss with
  |[s0,s1,s2]=>(match s2 with
   | .sc (.p m2)=>lO st s1 fun m1 st=>Af c k st s0 fun m0 st=>K [m0,m1,m2] st
   |s2=>lO st s1 fun m1 st=>Af c k st s0 fun m0 st=>Af c k st s2 fun m2 st=>K [m0,m1,m2] st)
  |_=>none)
 else uI st ss K
def ady (x y:Int):Int:=if y<x then y else x
def imax (x y:Int):Int:=if y>x then y else x
def SZ (mx:Bool) (k:IntKind):Int→List Slot→Option MV
 |x,[]=>some (.i k x)
 |x,.sc (.p (.i k' y))::r=>bif decide (k'=k) then SZ mx k (bif mx then imax x y else ady x y) r else none
 |_,_=>none
def Nc (mx:Bool):List Slot→Option MV
 | .sc (.p (.i k n))::r=>SZ mx k n r
 |_=>none
def S0 (c:Ctx) (d:Nat) (st:St) (f:Nat) (ms:List MV) (I:TI) (K:Slot→St→Option R):Option R:=
 bd (c.g f ms) fun r=>bif c.fresh f then gF r fun xs=>bif !Nat.beq I.elem (c.rW f) then none else ju st d ⟨I.elem,false,xs⟩ fun st=>K (.sc (.own d)) st else qg c I r fun s=>K s st
def aaF (s:Slot) (K:Slot→Option R):Option R:=match s with
 | .ptr r o=>K (.ptr r o)
 | .rp cs o=>K (.rp cs o)
 |_=>none
def S1 (x y z:Slot) (K:Slot→Option R):Option R:=match x with
 | .sc (.p (.b v))=>(match y,z with
  | .sc (.p (.b p)),.sc (.p (.b q))=>K (.sc (.p (.b (bif v then p else q))))
  |p,q=>match v with|true=>K p|false=>K q)
 |_=>none
def aaG (I:TI) (s:Slot) (K:Slot→Option R):Option R:=match s with
 | .sc l=>bif I.st||KR l||!Nat.beq l.w I.size then none else K (.box [l])
 | .ag cs=>bif I.st&&!tI cs&&Nat.beq (wP cs) I.size then K (.box cs) else none
 |_=>none
def unK (op:UnOp) (s:Slot) (K:Slot→Option R):Option R:=match op,s with
 | .not,.sc (.p (.b v))=>K (.sc (.p (.b (!v))))
 | .neg,.sc (.p (.i k n))=>K (.sc (.p (.i k (k.wrap (0-n)))))
 |_,_=>none
def S2 (I:TI) (fk:Option FloatKind) (s:Slot) (K:Slot→Option R):Option R:=match I.st,I.cL,I.lay,s with
 |false,[],[.i k],.sc (.p (.i _ n))=>K (.sc (.p (.i k (k.wrap n))))
 |false,[],[.s],.sc (.p (.s l))=>K (.sc (.p (.s l)))
 |false,[],[.i k],.sc (.p (.raw (.float .f64 a)))=>bd ((FloatKind.decode .f64 a).toInt .zero) fun n=>cR (decide (k.min≤n∧n≤k.max)) (K (.sc (.p (.i k n))))
 |false,[],[.raw],.sc (.p (.i _ n))=>(match fk with
  |some .f64=>K (.sc (.p (.raw (.float .f64 (FloatKind.nearest .f64 n)))))
  |_=>none)
 |_,_,_,_=>none
def TI.za (I:TI):Bool:=match I.st,I.lay with|false,[.l]=>true|_,_=>false
def TI.WL (I:TI):Bool:=match I.st,I.lay with|false,[.s]=>true|_,_=>false
def Nd (c:Ctx) (I:TI) (st:St) (s:Slot) (lo hi:Option Slot) (K:Slot→St→Option R):Option R:=match s with
 | .sc (.p (.s l))=>bif I.WL then sliceB lo hi l.length fun a b=>K (.sc (.p (.s ((l.take b).drop a)))) st else none
 | .sc (.p (.list l))=>bif I.za then (match c.tv I.elem with
  |some E=>(match lo with
   |none=>sliceB none hi l.length fun a b=>K (.sc (.p (.list ((l.take b).drop a)))) st
   |some lo=>cR (ta E.size l) (sliceB (some lo) hi l.length fun a b=>K (.sc (.p (.list ((l.take b).drop a)))) st))
  |none=>none) else none
 | .sc (.own f)=>(match aO st.aV f with
  |some o=>bif I.za&&Nat.beq o.ty I.elem then qL st (.own f) fun _ st=>sliceB lo hi o.xs.length fun a b=>K (.sc (.p (.list ((o.xs.take b).drop a)))) st else none
  |none=>none)
 | .sc .nil=>bif I.za then sliceB lo hi 0 fun _ _=>K (.sc .nil) st else none
 |_=>none
def S3 (st:St) (I:TI) (f:Nat) (s:Slot) (K:Slot→Option R):Option R:=match I.st,I.wu[f]?,s with
 |true,some q,.ptr r o=>K (.ptr r (o+q))
 |true,some q,.rp cs o=>K (.rp cs (o+q))
 |true,some q,.ep g i o b cs=>(match aO st.aV g with|some _=>K (.ep g i (o+q) b cs)|none=>none)
 |_,_,_=>none
def aaH (c:Ctx) (I:TI) (f:Nat) (s:Slot) (K:Slot→Option R):Option R:=match I.st,I.wu[f]?,I.Qy[f]?,s with
 |true,some q,some y,.ag cs=>(match c.tv y with|some J=>jN J cs q K|none=>none)
 |_,_,_,_=>none
def aaI (c:Ctx) (st:St) (I E:TI) (x i:Slot) (K:Slot→Option R):Option R:=match x,i with
 | .sc (.p (.list xs)),.sc (.p (.i _ n))=>bif I.za then idx xs n fun x=>Jm E x fun cs=>K (.rp cs 0) else none
 | .sc (.own f),.sc (.p (.i _ n))=>(match aO st.aV f with
  |some o=>bif I.za then idx o.xs n fun x=>Jm E x fun cs=>K (.ep f n.toNat 0 E.st cs) else none
  |none=>none)
 | .ptr r o,.sc (.p (.i _ n))=>bif I.st then none else (match I.lay with|[.h]=>cR (decide ((0:Int)≤n∧n<32)) (K (.hp r o n.toNat))|_=>none)
 |_,_=>none
def ixK (I:TI) (x i:Slot) (K:Slot→Option R):Option R:=match I.st,I.lay,x,i with
 |false,[.s],.sc (.p (.s l)),.sc (.p (.i _ n))=>cR (decide ((0:Int)≤n∧n<(l.length:Int))) (K (.sc (.p (.i .u8 (l.getD n.toNat 0).toNat))))
 |false,[.h],.sc (.hs x),.sc (.p (.i _ n))=>cR (decide ((0:Int)≤n∧n<32)) (K (.sc (.p (.i .u8 (x.l.getD n.toNat 0).toNat))))
 |_,_,_,_=>none
def aaJ (s:Slot) (k:Nat) (K:Slot→Option R):Option R:=match s with
 | .cK vs=>(match vs[k]? with|some s=>K s|none=>none)
 |_=>none
def S4 (I:TI) (st:St) (ss:List Slot) (K:Slot→Option R):Option R:=match ss with
 |[.sc (.p (.s l))]=>bif I.WL then K (.sc (.p (.i .i64 l.length))) else none
 |[.sc (.p (.list l))]=>bif I.za then K (.sc (.p (.i .i64 l.length))) else none
 |[.sc .nil]=>bif I.za then K (.sc (.p (.i .i64 0))) else none
 |[.sc (.own f)]=>bif I.za then (match aO st.aV f with|some o=>K (.sc (.p (.i .i64 o.xs.length)))|none=>none) else none
 |_=>none
def aaK (d:Nat) (st:St) (I E:TI) (s:Slot) (ys:List MV) (K:Slot→St→Option R):Option R:=bif Nat.ble 1 E.bytes then (match s with
 | .sc .nil=>cR (decide (ys.length *E.bytes≤2^46)) (ju st d ⟨I.elem,false,ys⟩ fun st=>K (.sc (.own d)) st)
 | .sc (.own f)=>(match aO st.aV f with
  |some w=>cR (decide ((w.xs.length+ys.length) *E.bytes≤2^46)) (bif Nat.beq w.ty I.elem then ju st f ⟨w.ty,w.ee,w.xs++ys⟩ fun st=>K (.sc (.own f)) st else none)
  |none=>none)
 |_=>none) else none
def Jp (c:Ctx) (st:St) (I:TI) (f:Slot) (ss:List Slot) (K:Slot→St→Option R):Option R:=match f with
 | .sc (.p m)=>Na m fun f b6=>cR (!c.eo f)<|uI st ss fun ms st=>bd (c.g f (ms++b6)) fun r=>qg c I r fun s=>K s st
 |_=>none
def G5:MV→MV→Bool
 | .b x,.b y=>decide (x=y)
 | .i k x,.i k' y=>decide (k=k')&&decide (x=y)
 | .s x,.s y=>decide (x=y)
 | .h x,.h y=>decide (x=y)
 |_,_=>false
def iM:List MV→List MV→Bool
 |[],[]=>true
 |x::xs,y::ys=>G5 x y&&iM xs ys
 |_,_=>false
def qN:MV→List MV
 | .cK (.agg k::_)=>k
 |_=>[]
def aaL:MV→MV
 | .cK [_,v]=>v
 |_=> .b false
def ig:List MV→List MV→Nat
 |[],_=>0
 |e::r,ks=>bif iM (qN e) ks then 0 else ig r ks+1
def asI:MV→Int
 | .i _ n=>n
 |_=>0
def asB:MV→Bool
 | .b x=>x
 |_=>false
def ZC (es:List MV) (ks:List MV):Int:=match es[ig es ks]? with|some e=>asI (aaL e)|none=>0
def ZD (es:List MV) (ks:List MV):Bool:=match es[ig es ks]? with|some e=>asB (aaL e)|none=>false
def BG (es ks:List MV) (z:MV):List MV:=bif Nat.beq (ig es ks) es.length then es++[.cK [.agg ks,z]] else es
def G6 (es:List MV) (i:Nat) (v:MV):List MV:=match es[i]? with|some e=>es.set i (.cK [.agg (qN e),v])|none=>es
def iN (b:Bool):MV:=bif b then .b false else .i .i64 0
def uJ (c:Ctx) (t:Nat):Option MS:=match c.mt t with
 |some (kt,b)=>(match c.tv kt with|some I=>bif Di ⟨I.st,I.lay,b⟩ then none else some ⟨I.st,I.lay,b⟩|none=>none)
 |none=>none
def KS (s:MS) (k:Slot) (K:List MV→Option R):Option R:=
 bif eL s.lay (aP k)&&lP s.st k then (match bH (aP k) with|some ks=>K ks|none=>none) else none
def G7 (st:St) (s:MS) (m:Slot) (K:Nat→List MV→Option R):Option R:=match m with
 | .wO r=>(match ao st.fr r with| .box [.mp s' es]=>bif msB s s'&&!Di s' then K r es else none|_=>none)
 |_=>none
def Qz (b:Bool) (s:Slot) (K:MV→Option R):Option R:=match b,s with
 |true,.sc (.p (.b x))=>K (.b x)
 |false,.sc (.p (.i .i64 n))=>K (.i .i64 n)
 |_,_=>none
def CA (st:St) (r:Nat) (s:MS) (es:List MV) (K:St→Option R):Option R:=wr st r (.box [.mp s es]) K
def isLT (c:Ctx) (y:Nat):Bool:=match c.tv y with|some Y=>Y.za|none=>false
def lQ (c:Ctx) (o:Oper):Bool:=match o.op with
 | .assign (.tmp _)=>(match c.mt o.type with|some _=>true|none=>false)
 |_=>false
def DM (c:Ctx) (o:Oper) (st:St) (x:Operand) (K:Slot→St→Option R):Option R:=match x,c.mt o.type with
 | .tmp t,some _=>(match ao st.fr t with
  | .box cs=>bif eP cs then bif bE st.cq t||yZ t then none else (match st with|⟨p,q,r,m⟩=>tH [t] r fun r=>K (.box cs) ⟨p,q,r,m⟩) else K (aS c st x) st
  |_=>K (aS c st x) st)
 |_,_=>K (aS c st x) st
def BH (s:MS) (es ks:List MV):Slot:=bif s.b then .sc (.p (.b (ZD es ks))) else .sc (.p (.i .i64 (ZC es ks)))
def ZE (c:Ctx) (st:St) (t:Nat) (m k:Slot) (K:Slot→Option R):Option R:=match uJ c t with
 |some s=>G7 st s m fun _ es=>KS s k fun ks=>K (BH s es ks)
 |none=>none
def ZF (c:Ctx) (st:St) (t:Nat) (m k v:Slot) (K:St→Option R):Option R:=match uJ c t with
 |some s=>G7 st s m fun r es=>KS s k fun ks=>Qz s.b v fun v=>CA st r s (G6 (BG es ks (iN s.b)) (ig es ks) v) K
 |none=>none
def S5 (c:Ctx) (st:St) (t:Nat) (m k:Slot) (K:Slot→St→Option R):Option R:=match uJ c t with
 |some s=>G7 st s m fun r es=>KS s k fun ks=>CA st r s (BG es ks (iN s.b)) fun st=>K (.cK [BH s es ks,.sc (.p (.i .i64 (ig es ks)))]) st
 |none=>none
def adz (c:Ctx) (st:St) (t:Nat) (m i v:Slot) (K:St→Option R):Option R:=match uJ c t with
 |some s=>G7 st s m fun r es=>(match i with
  | .sc (.p (.i .i64 n))=>cR (decide (0≤n∧n.toNat<es.length)) (Qz s.b v fun v=>CA st r s (G6 es n.toNat v) K)
  |_=>none)
 |none=>none
def SF (es:List MV):List UInt8:=match es with|[.s l,.i .i64 _]=>l|_=>[]
def qc (es:List MV):Int:=match es with|[.s _,.i .i64 n]=>n|_=>0
def G8 (es:List MV):Bool:=decide (qc es<((SF es).length:Int))
def wR (es:List MV):Int:=(Utf8.decode ⟨(SF es).toArray⟩ (qc es).toNat).1
def zx (es:List MV):List MV:=[.s (SF es),.i .i64 (qc es+(Utf8.decode ⟨(SF es).toArray⟩ (qc es).toNat).2)]
def itK (st:St) (x:Slot) (K:Slot→St→Option R):Option R:=match x with
 | .ptr t 0=>(match ao st.fr t with
  | .box [.mp s es]=>bif Di s then
   a8 (G8 es) (wr st t (.box [.mp s (zx es)]) fun st=>K (.cK [.sc (.p (.b true)),.sc (.p (.i .i64 (qc es))),.sc (.p (.i .i32 (wR es)))]) st)
    (K (.cK [.sc (.p (.b false))]) st)
   else none
  |_=>none)
 |_=>none
def byK (m:MV) (K:UInt8→Option R):Option R:=gI .u8 m fun n=>cR (isByte n) (K (UInt8.ofNat n.toNat))
def Jq:List MV→(List UInt8→Option R)→Option R
 |[],K=>K []
 |m::r,K=>byK m fun b=>Jq r fun l=>K (b::l)
def Nf (I:TI) (x:Slot) (K:Slot→Option R):Option R:=match x with
 | .sc (.p (.s l))=>bif I.WL then K (.box [.mp MS.it [.s l,.i .i64 0]]) else none
 |_=>none
def W8 (E:TI):Bool:=match E.st,E.lay with
 |false,[.i k]=>decide (k= .u8)
 |_,_=>false
def S6 (c:Ctx) (st:St) (Y I:TI) (x:Slot) (K:Slot→Option R):Option R:=match c.tv Y.elem with
 |some E=>bif I.WL&&W8 E then (match x with
  | .sc (.p (.list xs))=>Jq xs fun l=>K (.sc (.p (.s l)))
  | .sc .nil=>K (.sc (.p (.s [])))
  | .sc (.own f)=>(match aO st.aV f with
   |some o=>bif Nat.beq o.ty Y.elem then Jq o.xs fun l=>K (.sc (.p (.s l))) else none
   |none=>none)
  |_=>none) else none
 |none=>none
def still (c:Ctx) (o:Oper):Bool:=match o.op,o.dst with
 | .load _ _,some d=>bE c.fl d
 |_,_=>false
def bn:List LK→List Nat
 |[]=>[]
 | .own f _ _::r=>f::bn r
 |_::r=>bn r
def meets:List Nat→List Nat→Bool
 |[],_=>false
 |k::r,l=>bif bE l k then true else meets r l
def gU (c:Ctx):List LK→Bool
 |[]=>true
 | .own _ ty _::r=>(match c.tv ty with|some _=>gU c r|none=>false)
 |_::r=>gU c r
def lR (ps:List (Nat×Nat)) (f g:Nat):Bool:=match ps with
 |[]=>true
 |(a,b)::r=>(bif Nat.beq a f then Nat.beq b g&&!Nat.beq g 0 else (bif Nat.beq b g then Nat.beq g 0 else true))&&lR r f g
def Jr (st:St) (ps:List (Nat×Nat)) (k:LK) (l:aI) (K:MV→List (Nat×Nat)→Option R):Option R:=
 match k,l with
 | .k .l,.nil=>K (.list []) ps
 | .k .h,.hs x=>K (.h x) ps
 | .k x,.p m=>jM x m fun _=>K m ps
 | .own f ty ee,.own g=>match aO st.aV g with
  |some o=>bif !Nat.beq o.ty ty||(o.ee&&!ee)||bE st.cr g||!lR ps f (g+1) then none else K (.list o.xs) ((f,g+1)::ps)
  |none=>none
 | .own f _ _,.nil=>bif lR ps f 0 then K (.list []) ((f,0)::ps) else none
 |_,_=>none
def jv (st:St):List (Nat×Nat)→List LK→List aI→(List MV→List (Nat×Nat)→Option R)→Option R
 |ps,[],[],K=>K [] ps
 |ps,k::ks,l::ls,K=>Jr st ps k l fun m ps=>jv st ps ks ls fun ms ps=>K (m::ms) ps
 |_,_,_,_=>none
def kI (st:St) (k:LK) (m:MV) (K:aI→St→Option R):Option R:=
 match k with
 | .k x=>jM x m fun l=>K l st
 | .own f ty ee=>gL m fun xs=>(match st with|⟨p,q,r,n⟩=>Nb n f ⟨ty,ee,xs⟩ fun n=>K (.own f) ⟨p,q,r,n⟩)
def cN (st:St):List LK→List MV→(List aI→List MV→St→Option R)→Option R
 |[],ms,K=>K [] ms st
 |k::ks,ms,K=>gC ms fun m r=>kI st k m fun l st=>cN st ks r fun ls ms st=>K (l::ls) ms st
def KT (gs:List Nat):List (Nat×nm)→(List (Nat×nm)→Option R)→Option R
 |[],K=>K []
 |(k,o)::r,K=>bif bE gs k then KT gs r K else KT gs r fun r=>K ((k,o)::r)
def W9:List Nat→Fr→(Fr→Option R)→Option R
 |[],r,K=>K r
 |f::fs,r,K=>kFr f r fun r=>W9 fs r K
def eg:List (Nat×Nat)→List Nat
 |[]=>[]
 |(_,0)::r=>eg r
 |(_,g+1)::r=>g::eg r
def HO:List Nat→List (Nat×nm)→Bool
 |[],_=>false
 |f::r,m=>(match aO m f with|some _=>true|none=>HO r m)
def HP (st:St) (root:Nat) (ks:List LK) (ps:List (Nat×Nat)) (outs:List MV) (K:St→Option R):Option R:=
 cN ⟨[],[],[],[]⟩ ks outs fun cs rest xN=>gN rest<|KT (eg ps) st.aV fun m=>
  bif HO (bn ks) m||meets (bn ks) st.cr then none else
   W9 (bn ks) st.fr fun r=>G3 r root (.box cs) fun r=>(match app xN.aV m with|some m=>K ⟨st.cq,st.cr,r,m⟩|none=>none)
def Pk (c:Ctx) (gv:Bool) (g:List MV→Option MV) (pos:Nat) (ks:List LK) (st:St) (ss:List Slot) (I:Option TI) (K:Slot→St→Option R):Option R:=
 match ss[pos]? with
 |some (.ptr root off)=>uI st (ss.take pos) fun m1 st=>uI st (ss.drop (pos+1)) fun m2 st=>
  (match ao st.fr root with
  | .box cs=>bif eP cs||bE st.cq root||!gU c ks||!gv then none else jv st [] ks cs fun ls ps=>
   (match app m1 (.cell (.func off ls)::m2) with
   |some ms=>bd (g ms) fun x=>gW x fun r outs=>HP st root ks ps outs fun st=>(match I with
    |some I=>qg c I r fun s=>K s st
    |none=>K (.sc .un) st)
   |none=>none)
  |_=>none)
 |_=>none
def ZG (c:Ctx) (key pos:Nat) (ks:List LK) (st:St) (ss:List Slot) (I:Option TI) (K:Slot→St→Option R):Option R:=
 Pk c (c.eo key) (c.g key) pos ks st ss I K
def S7:List LK→List LK→Bool
 |[],[]=>true
 | .k k1::r,.k k2::q=>ZB k1 k2&&S7 r q
 | .own f t z::r,.own f' t' z'::q=>Nat.beq f f'&&(Nat.beq t t'&&(z==z'&&S7 r q))
 |_,_=>false
def KU (c:Ctx) (pos:Nat) (ks:List LK):List Nat→Bool
 |[]=>true
 |k::r=>(match c.sig k with|some sg=>Nat.beq sg.1 pos&&S7 sg.2 ks|none=>false)&&(c.eo k&&KU c pos ks r)
def S8 (c:Ctx) (QA:List Nat) (st:St) (f:Slot) (ss:List Slot) (I:Option TI) (K:Slot→St→Option R):Option R:=match f,QA with
 | .sc (.p m),k0::_=>(match c.sig k0 with
  |some sg=>bif KU c sg.1 sg.2 QA then Na m fun k b6=>gN b6<|Pk c true (fun ms=>G0 QA k fun k=>c.g k ms) sg.1 sg.2 st ss I K else none
  |none=>none)
 |_,_=>none
def opK (c:Ctx) (o:Oper) (st:St) (K:Slot→St→Option R):Option R:=
 match o.op with
 | .move x=>K (aS c st x) st
 | .assign x=>DM c o st x K
 | .makeMap t none=>(match uJ c t with|some s=>K (.box [.mp s []]) st|none=>none)
 | .lookup t m k false=>ZE c st t (aS c st m) (aS c st k) fun s=>K s st
 | .mapUpdate t m k v=>ZF c st t (aS c st m) (aS c st k) (aS c st v) fun st=>K (.sc .un) st
 | .mapEntry t m k=>S5 c st t (aS c st m) (aS c st k) K
 | .entryStore t m i v=>adz c st t (aS c st m) (aS c st i) (aS c st v) fun st=>K (.sc .un) st
 | .nilCheck x=>aaF (aS c st x) fun s=>K s st
 | .pick x a b=>S1 (aS c st x) (aS c st a) (aS c st b) fun s=>K s st
 | .alloc t=>(match c.tv t with|some I=>K (.box I.zero) st|none=>none)
 | .box t x=>(match c.tv t with|some I=>aaG I (aS c st x) fun s=>K s st|none=>none)
 | .build t parts=>(match c.tv t with
  |some I=>bif I.st then (match zw c st I parts.toList I.zero with|some cs=>K (.ag cs) st|none=>none)
   else (match I.lay with|[.h]=>D7 c st parts.toList kD.zero fun x=>K (.sc (.hs x)) st|_=>none)
  |none=>none)
 | .buildSlice t n parts=>(match c.tv t with
  |some I=>bif I.za then (match c.tv I.elem with
   |some E=>bif Nat.ble (n *E.size) 16777216 then SY c st parts.toList 0 fun ms st=>bif Nat.beq ms.length n then cR (ta E.size ms)
    (bif bE c.bs (o.dst.getD 0) then K (.sc (.p (.list ms))) st else ju st (o.dst.getD 0) ⟨I.elem,false,ms⟩ fun st=>K (.sc (.own (o.dst.getD 0))) st) else none else none
   |none=>none) else none
  |none=>none)
 | .makeSlice t x y=>(match c.tv t with
  |some I=>bif I.za then (match c.tv I.elem with|some E=>SX (o.dst.getD 0) st I E (aS c st x) (aS c st y) K|none=>none) else none
  |none=>none)
 | .load t a=>(match c.tv t with
  |some I=>bif still c o then (match aS c st a with| .rp cs off=>jN I cs off fun s=>K s st|_=>none) else ldK st I (aS c st a) fun s=>K s st
  |none=>none)
 | .store t a v=>(match c.tv t with|some I=>stK st I (aS c st a) (aS c st v) fun st=>K (.sc .un) st|none=>none)
 | .binOp op t x y _=>aaE (c.tv t) op (aS c st x) (aS c st y) fun s=>K s st
 | .unOp op _ x=>unK op (aS c st x) fun s=>K s st
 | .convert y t x=>bif isLT c y then (match c.tv y,c.tv t with|some Y,some I=>S6 c st Y I (aS c st x) fun s=>K s st|_,_=>none)
  else (match c.ti y,c.tv t with|some _,some I=>S2 I (c.fk t) (aS c st x) fun s=>K s st|_,_=>none)
 | .range t x=>(match c.tv t with|some I=>Nf I (aS c st x) fun s=>K s st|none=>none)
 | .next x true=>itK st (aS c st x) K
 | .makeFunc (.func f) first b6=>(match first.toList with
  |[]=>Ae c st b6.toList fun ms st=>K (.sc (.p (.func (c.key f) ms))) st
  |_=>none)
 | .slice t x lo hi none=>(match c.tv t with|some I=>Nd c I st (aS c st x) (lk c st lo) (lk c st hi) K|none=>none)
 | .fieldAddr t x f=>(match c.tv t with|some I=>S3 st I f (aS c st x) fun s=>K s st|none=>none)
 | .field t x f=>(match c.tv t with|some I=>aaH c I f (aS c st x) fun s=>K s st|none=>none)
 | .indexAddr t x i=>(match c.tv t with
  |some I=>(match c.tv I.elem with|some E=>aaI c st I E (aS c st x) (aS c st i) fun s=>K s st|none=>none)
  |none=>none)
 | .index t x i=>(match c.tv t with|some I=>ixK I (aS c st x) (aS c st i) fun s=>K s st|none=>none)
 | .extract x k=>aaJ (aS c st x) k fun s=>K s st
 | .call cl=>(match cl.callee with
  | .value (.func f)=>(match c.sig (c.key f) with
   |some sg=>ZG c (c.key f) sg.1 sg.2 st (iW c st cl.args.toList) (c.ti o.type) K
   |none=>match c.ti o.type with
   |some I=>Pj c (c.key f) st (iW c st cl.args.toList) fun ms st=>S0 c (o.dst.getD 0) st (c.key f) ms I K
   |none=>none)
  | .value x=>(match c.dyn with
   |_::_=>S8 c c.dyn st (aS c st x) (iW c st cl.args.toList) (c.ti o.type) K
   |[]=>match c.ti o.type with
   |some I=>Jp c st I (aS c st x) (iW c st cl.args.toList) K
   |none=>none)
  | .builtin .len=>(match cl.argTypes.toList with
   |[t]=>(match c.tv t with|some I=>S4 I st (iW c st cl.args.toList) fun s=>K s st|none=>none)
   |_=>none)
  | .builtin .append=>(match iW c st cl.args.toList,cl.argTypes.toList with
   |[s,x],[t,t']=>bif Nat.beq t t' then (match c.tv t with
    |some I=>bif I.za then (match c.tv I.elem with|some E=>Jo I E st x fun ys=>aaK (o.dst.getD 0) st I E s ys K|none=>none) else none
    |none=>none) else none
   |_,_=>none)
  | .builtin .real=>(match iW c st cl.args.toList with|[.sc (.p m)]=>gCx m fun x _=>K (.sc (.p (.raw (.float .f64 x)))) st|_=>none)
  | .builtin .imag=>(match iW c st cl.args.toList with|[.sc (.p m)]=>gCx m fun _ y=>K (.sc (.p (.raw (.float .f64 y)))) st|_=>none)
  | .builtin .complex=>(match iW c st cl.args.toList with|[.sc (.p (.raw (.float .f64 x))),.sc (.p (.raw (.float .f64 y)))]=>K (.sc (.p (.raw (.complex .f64 x y)))) st|_=>none)
  | .builtin .min=>(match Nc false (iW c st cl.args.toList) with|some m=>K (.sc (.p m)) st|none=>none)
  | .builtin .max=>(match Nc true (iW c st cl.args.toList) with|some m=>K (.sc (.p m)) st|none=>none)
  |_=>none)
 |_=>none
def Ng (all:List Oper) (o:Oper) (st:St) (K:Bool→St→Option R):Option R:=
 match o.guard with
 |none=>K true st
 |some (j,want)=>match all[j]? with
  |some p=>(match p.dst with
   |some t=>(match ao st.fr t with
    | .sc (.p (.b v))=>(match v with
     |true=>(match st with|⟨p,q,r,m⟩=>G3 r t (.sc (.p (.b true))) fun r=>K want ⟨p,q,r,m⟩)
     |false=>(match st with|⟨p,q,r,m⟩=>G3 r t (.sc (.p (.b false))) fun r=>K (!want) ⟨p,q,r,m⟩))
    | .skip=>K false st
    |_=>none)
   |none=>none)
  |none=>none
def Pl (c:Ctx) (all:List Oper) (o:Oper) (st:St) (K:St→Option R):Option R:=
 Ng all o st fun go st=>
  bif go then opK c o st fun s st=>bu c st o.dst s K
  else bu c st o.dst .skip K
def uK (c:Ctx) (all:List Oper):List Oper→St→(St→Option R)→Option R
 |[],st,K=>K st
 |o::r,st,K=>Pl c all o st fun st=>uK c all r st K
end
section
variable {R:Type}
def mV (st:St):List (Nat×Nat)→List (Nat×OK)→(List MV→Option R)→Option R
 |_,[],K=>K []
 |ps,(t,k)::r,K=>match k,ao st.fr t with
  | .sc k,.sc l=>jv st ps [k] [l] fun ms ps=>mV st ps r fun ns=>(match app ms ns with|some l=>K l|none=>none)
  | .ag ks,.ag ls=>jv st ps ks ls fun ms ps=>mV st ps r fun ns=>(match app ms ns with|some l=>K l|none=>none)
  | .box ks,.box ls=>jv st ps ks ls fun ms ps=>mV st ps r fun ns=>(match app ms ns with|some l=>K l|none=>none)
  | .mp s,.box [.mp s' es]=>bif msB s s' then mV st ps r fun ns=>K (.list es::ns) else none
  | .pt root off,.ptr S9 QB=>bif Nat.beq root S9&&(Nat.beq off QB&&(!yZ root&&BE (ao st.fr root))) then mV st ps r K else none
  |_,_=>none
def KV (st:St) (t:Nat) (s:Slot) (K:St→Option R):Option R:=match st with|⟨p,q,r,m⟩=>G3 r t s fun r=>K ⟨p,q,r,m⟩
def Ta:List (Nat×OK)→List MV→St→(St→Option R)→Option R
 |[],ms,st,K=>gN ms (K st)
 |(t,k)::r,ms,st,K=>match k,st with
  | .pt root off,⟨p,q,fr,m⟩=>bif !yZ root&&(BE (ao fr root)&&!cM (ao fr t)) then G3 fr t (.ptr root off) fun fr=>Ta r ms ⟨p,q,fr,m⟩ K else none
  |_,_=>none
def mW (st:St):List (Nat×OK)→List MV→(St→Option R)→Option R
 |[],ms,K=>gN ms (K st)
 |(t,k)::r,ms,K=>match k with
  | .sc k=>cN st [k] ms fun ls ms st=>(match ls with|[l]=>KV st t (.sc l) fun st=>mW st r ms K|_=>none)
  | .ag ks=>cN st ks ms fun ls ms st=>KV st t (.ag ls) fun st=>mW st r ms K
  | .box ks=>bif yZ t&&!bE st.cq (posOf t) then none else cN st ks ms fun ls ms st=>KV st t (.box ls) fun st=>mW st r ms K
  | .mp s=>bif yZ t then none else gC ms fun m ms=>gL m fun es=>KV st t (.box [.mp s es]) fun st=>mW st r ms K
  | .pt root off=>Ta ((t,.pt root off)::r) ms st K
end
def dm:List (Nat×OK)→List Nat
 |[]=>[]
 |(t,_)::r=>t::dm r
def b5:List (Nat×OK)→List Nat
 |[]=>[]
 |(_,.sc k)::r=>bn [k]++b5 r
 |(_,.ag ks)::r=>bn ks++b5 r
 |(_,.box ks)::r=>bn ks++b5 r
 |(_,.mp _)::r=>b5 r
 |(_,.pt _ _)::r=>b5 r
def minus:List Nat→List Nat→List Nat
 |[],_=>[]
 |k::r,l=>bif bE l k then minus r l else k::minus r l
def uL {R:Type} (ps:List Nat):List aI→(List aI→Option R)→Option R
 |[],K=>K []
 |l::r,K=>(match l with
  | .own g=>bif bE ps g then uL ps r fun r=>K (.own g::r) else uL ps r fun r=>K (.un::r)
  |l=>uL ps r fun r=>K (l::r))
def KW {R:Type} (ps:List Nat) (s:Slot) (K:Slot→Option R):Option R:=match s with
 | .sc (.own g)=>bif bE ps g then K (.sc (.own g)) else K (.sc .un)
 | .ag cs=>uL ps cs fun cs=>K (.ag cs)
 | .box cs=>uL ps cs fun cs=>K (.box cs)
 |s=>K s
def nFr {R:Type} (ps:List Nat):Fr→(Fr→Option R)→Option R
 |[],K=>K []
 |(k,s)::r,K=>KW ps s fun s=>nFr ps r fun r=>K ((k,s)::r)
def HQ {R:Type} (ks fs qs:List Nat):List (Nat×nm)→(List (Nat×nm)→Option R)→Option R
 |[],K=>K []
 |(k,o)::r,K=>bif bE ks k then HQ ks fs qs r fun r=>(bif bE fs k&&!bE qs k then K ((k,⟨o.ty,true,o.xs⟩)::r) else K ((k,o)::r)) else HQ ks fs qs r K
def eh (c:Ctx):List (Nat×OK)→Bool
 |[]=>true
 |(_,.sc k)::r=>bif gU c [k] then eh c r else false
 |(_,.ag ks)::r=>bif gU c ks then eh c r else false
 |(_,.box ks)::r=>bif gU c ks then eh c r else false
 |(_,.mp _)::r=>eh c r
 |(_,.pt _ _)::r=>eh c r
def Nh {R:Type} (c:Ctx) (h:qM) (st:St) (K:St→St→Option R):Option R:=
 match st with
 |⟨p,q,r,m⟩=>
  bif !eh c h.all||meets (dm h.all) p||meets (b5 h.all) q||meets (dm h.all) h.cq||meets (b5 h.all) h.cr then none else
  match app h.cq p,app h.cr q with
  |some p',some q'=>
   pick h.cq r fun rp=>nFr h.cr rp fun rp=>pick (dm h.all) r fun ro=>
   HQ h.cr h.ee q m fun mp=>HQ (b5 h.all) h.ee q m fun mo=>
   (match app rp ro,app mp mo with
    |some r1,some m1=>K ⟨p',q',r1,m1⟩ ⟨p',q',rp,mp⟩
    |_,_=>none)
  |_,_=>none
def D8 {R:Type} (c:Ctx) (h:qM) (st:St) (K:St→St→Option R):Option R:=
 Nh c h st fun dV dH=>D5 (fun t=>bE h.cq t||bE (dm h.all) t) st.fr st.fr dV.fr fun fr=>K ⟨dV.cq,dV.cr,fr,dV.aV⟩ dH
def BI (st dH:St):St:=match st,dH with|⟨p,q,_,_⟩,⟨_,_,r,m⟩=>⟨p,q,r,m⟩
def guarded:List Oper→Bool
 |[]=>false
 |o::r=>match o.guard with|some _=>true|none=>guarded r
def qh:List Oper→List Nat
 |[]=>[]
 |o::r=>match o.op,o.dst with
  | .alloc _,some d=>d::qh r
  | .box _ _,some d=>d::qh r
  | .makeMap _ _,some d=>d::qh r
  | .range _ _,some d=>d::qh r
  |_,_=>qh r
def BJ {R:Type} (ds:List Nat) (st:St) (K:St→Option R):Option R:=match st with|⟨p,q,r,m⟩=>tH ds r fun r1=>D5 (fun t=>!bE ds t) r r r1 fun r=>K ⟨p,q,r,m⟩
def fb:Code→Option Nat
 | .region id _ _=>some id
 | .seq a b=>match fb a with|some n=>some n|none=>fb b
 | .cond _ a b=>match fb a with|some n=>some n|none=>fb b
 | .block _ b| .loop b| .scope b=>fb b
 |_=>none
def uni:List Nat→List Nat→List Nat
 |[],l=>l
 |k::r,l=>bif bE l k then uni r l else k::uni r l
def kJ:Code→List Nat
 | .skip| .region _ _ _=>[0]
 | .seq a b=>bif bE (kJ a) 0 then uni (minus (kJ a) [0]) (kJ b) else kJ a
 | .cond _ a b=>uni (kJ a) (kJ b)
 | .block id b=>bif bE (kJ b) (id+2) then uni (minus (kJ b) [0,id+2]) [0] else kJ b
 | .loop b=>minus (kJ b) [0]
 | .exit id=>[id+2]
 | .ret=>[1]
 |_=>[]
def o7 (o:Oper):Bool:=match o.op with
 | .load _ _=>true
 | .lookup _ _ _ false=>true
 |_=>false
def ll (c:Ctx) (o:Oper):Bool:=o7 o||(match o.op with
 | .convert y _ _=>isLT c y
 |_=>false)
def Tb (o:Oper):Option Nat:=match o.op with
 | .lookup t _ _ false=>some t
 |_=>none
def Xa (o:Oper):Option Nat:=match o.op with
 | .mapEntry t _ _=>some t
 |_=>none
def zb (o p:Oper):Bool:=match Tb o,Xa p with
 |some t,some t'=>Nat.beq t t'
 |_,_=>false
def n4 (o:Oper):Bool:=match o.op with
 | .move _| .assign _| .nilCheck _| .pick _ _ _| .build _ _| .load _ _| .binOp _ _ _ _ _| .unOp _ _ _| .convert _ _ _| .makeFunc _ _ _| .slice _ _ _ _ _| .fieldAddr _ _ _| .field _ _ _| .indexAddr _ _ _| .index _ _ _| .extract _ _| .lookup _ _ _ false=>true
 | .call cl=>(match cl.callee with| .builtin .len| .builtin .min| .builtin .max| .builtin .real| .builtin .imag| .builtin .complex=>true|_=>false)
 |_=>false
def yG (c:Ctx) (o:Oper):Bool:=match o.op with
 | .alloc _| .box _ _| .buildSlice _ _ _| .makeSlice _ _ _=>true
 | .call cl=>(match cl.callee with| .value (.func f)=>!c.eo (c.key f)| .value _=>(match c.dyn with|[]=>true|_::_=>false)|_=>false)
 |_=>false
def Ni:Op→List Operand
 | .build _ ps=>ps.toList.map (·.2)
 | .buildSlice _ _ ps=>ps.toList.map (·.2)
 | .makeFunc _ first captured=>first.toList++captured.toList
 | .slice _ x l h m=>x::(l.toList++(h.toList++m.toList))
 | .call c=>(match c.callee with| .value f=>[f]| .invoke r _=>[r]| .builtin _=>[])++c.args.toList
 |op=>op.operands.toList
def KX:List Operand→List Nat
 |[]=>[]
 | .tmp t::r=>t::KX r
 |_::r=>KX r
def Js (ops:List Oper) (o:Oper):List Nat:=
 KX (Ni o.op)++(match o.guard with|some (g,_)=>(match ops[g]? with|some p=>p.dst.toList|none=>[])|none=>[])
def Jt (ops:List Oper) (x y:Oper):Bool:=
 (match x.dst with|some d=>!bE (Js ops y) d&&(match y.dst with|some d'=>!Nat.beq d' d|none=>true)|none=>true)&&
 (match y.dst with|some d=>!bE (Js ops x) d|none=>true)
def D9 (e:Edge):Bool:=match e.ground with
 | .textOnly _=>false
 | .gcOnly _=>false
 |_=>true
def zy (o:Oper) (p:Nat→Bool):Bool:=o.after.toList.any fun e=>D9 e&&p e.on
def adA (ops:List Oper):Bool:=ops.all fun o=>match o.op with| .select _ _=>false|_=>true
def Tc (c:Ctx) (o:Oper):Bool:=n4 o||yG c o
def qO (c:Ctx) (ops:List Oper) (o:Oper):List Nat→List Nat→Bool
 |_,[]=>true
 |D,y::r=>match ops[y]? with
  |some p=>bif zy p (bE D) then qO c ops o (y::D) r else Jt ops o p&&(!ll c o||Tc c p||still c o||zb o p)&&qO c ops o D r
  |none=>false
def KY (o:Oper):Bool:=match o.op,o.dst,o.guard with
 | .alloc _,some _,none=>o.after.toList.all fun e=>!D9 e
 |_,_,_=>false
def adB (c:Ctx) (o:Oper):Bool:=match o.op with
 | .alloc t=>(match c.tv t with|some _=>true|none=>false)
 |_=>false
def adC (ops:List Oper) (i:Nat):Bool:=match ops[i]? with
 |some o=>KY o
 |none=>false
def tJ (c:Ctx) (ops:List Oper):List Nat→List Nat→Bool
 |_,[]=>true
 |pre,x::rest=>(match ops[x]? with
  |some o=>(o.after.toList.all fun e=>!D9 e||bE pre e.on)&&!bE pre x&&!bE rest x&&
   (bif n4 o&&!lQ c o then qO c ops o [x] rest
    else (rest.all fun y=>match ops[y]? with
     |some p=>bif KY p then Jt ops p o&&adB c p else zy p (fun i=>Nat.beq i x||(bE rest i&&!adC ops i))
     |none=>false))&&tJ c ops (x::pre) rest
  |none=>false)
def qP (c:Ctx) (ops:Array Oper) (ord:List Nat):Bool:=
 adA ops.toList&&Nat.beq ord.length ops.toList.length&&(List.range ops.toList.length).all (bE ord)&&tJ c ops.toList [] ord
def DN {R:Type} (c:Ctx) (id:Nat) (ops l:List Oper) (st:St) (K:St→Option R):Option R:=
 bif guarded ops then
  D8 c (c.KI id) st fun dV dH=>bd (BJ (qh ops) dV fun dV=>uK c ops l dV fun st=>mV st [] ((c.KI id).ex 0) some) fun vs=>mW (BI st dH) ((c.KI id).ex 0) vs K
 else BJ (qh ops) st fun st=>uK c ops l st K
def lm (ops:List Oper):List Nat→Option (List Oper)
 |[]=>some []
 |i::r=>match ops[i]?,lm ops r with
  |some o,some l=>some (o::l)
  |_,_=>none
def ma {S:Type} (step:S→MV→Option (Bool×S)):S→List MV→Option (List MV×S)
 |s,[]=>some ([],s)
 |s,x::xs=>match step s x with
  |some (b,s1)=>(match ma step s1 xs with|some (ys,s2)=>some (bif b then ys else x::ys,s2)|none=>none)
  |none=>none
def Td (g:Nat→List MV→Option MV) (k:Nat) (b6:List MV):Unit→MV→Option (Bool×Unit):=fun _ x=>match g k (x::b6) with
 |some (.b b)=>some (b,())
 |_=>none
def HR (g:Nat→List MV→Option MV) (k:Nat) (b6:List MV):List MV→MV→Option (Bool×List MV):=fun ls x=>match g k (x::(b6++[.cell (.func 0 ls)])) with
 |some (.ej (.b b) outs)=>some (b,outs)
 |_=>none
def Nj:MV→Bool
 | .agg _=>true
 |_=>false
def Te {R:Type} (c:Ctx) (h f:Nat) (b6:List Operand) (x:Operand) (o1 o2:Oper) (st:St) (K:St→Option R):Option R:=
 let fin (ys:List MV) (st:St):Option R:=ju st (o2.dst.getD 0) ⟨c.rW (c.key h),false,ys⟩ fun st=>bu c st o2.dst (.sc (.own (o2.dst.getD 0))) fun st=>bu c st o1.dst (.sc .un) K
 match c.sig (c.key f) with
 |none=>bif c.eo (c.key f) then none else Ae c st b6 fun ms st=>Af c (c.key h) st (aS c st x) fun m st=>gF m fun xs=>cR (xs.all Nj)<|bd (ma (Td c.g (c.key f) ms) () xs) fun p=>fin p.1 st
 |some sg=>Ae c st b6.dropLast fun ms st=>Af c (c.key h) st (aS c st x) fun m st=>gF m fun xs=>cR (xs.all Nj)<|
  (match b6.getLast? with
  |some y=>(match aS c st y with
   | .ptr root 0=>(match ao st.fr root with
    | .box cs=>bif eP cs||bE st.cq root||!gU c sg.2||!Nat.beq sg.1 (ms.length+1)||!c.eo (c.key f) then none else
     jv st [] sg.2 cs fun ls ps=>bd (ma (HR c.g (c.key f) ms) ls xs) fun p=>HP st root sg.2 ps p.2 fun st=>fin p.1 st
    |_=>none)
   |_=>none)
  |none=>none)
def Ag (c:Ctx):List Oper→List Oper→Option (List Oper×Nat×List Operand×Nat×Operand×Oper×Oper×List Oper)
 |pre,o1::o2::r=>match o1.op,o2.op with
  | .makeFunc (.func f) first b6,.call cl=>(match cl.callee,cl.args.toList,first.toList,o1.dst with
   | .value (.func h),[.tmp x,.tmp y],[],some d=>bif c.Jl h&&Nat.beq y d&&!Nat.beq x d&&!Nat.ble c.n d&&!Nat.beq (o2.dst.getD d) d then some (pre.reverse,f,b6.toList,h,.tmp x,o1,o2,r) else Ag c (o1::pre) (o2::r)
   |_,_,_,_=>Ag c (o1::pre) (o2::r))
  |_,_=>Ag c (o1::pre) (o2::r)
 |_,_=>none
def Ea:List Oper→Bool
 |[]=>true
 |o::r=>(match o.guard with|none=>Ea r|some _=>false)
def Tf {R:Type} (c:Ctx) (id:Nat) (ops:List Oper) (st:St) (K:St→Option R):Option R:=
 match Ag c [] ops with
 |some (pre,f,b6,h,x,o1,o2,post)=>bif Ea ops then BJ (qh ops) st fun st=>uK c ops pre st fun st=>Te c h f b6 x o1 o2 st fun st=>uK c ops post st K else none
 |none=>DN c id ops ops st K
def fzK {R:Type} (c:Ctx) (ts:List Nat) (st:St) (K:St→Option R):Option R:=match ts with
 |[]=>K st
 |ts=>Ae c st (ts.map .tmp) fun _ st=>K st
def n5 (ops:Array Oper) (A B:Nat):Array Oper:=ops.modify B fun o=>{o with after:=o.after.push ⟨A,.data⟩}
open Classical in
noncomputable def both {R:Type} (x y:Option R):Option R:=if x=y then x else none
def Tg (n:Nat) (l:List Nat):Option (List Nat×List Nat×Nat×Nat):=match l.drop (n+n) with
 |[A,B]=>bif Nat.beq A B||(Nat.ble n A||Nat.ble n B) then none else some (l.take n,(l.drop n).take n,A,B)
 |_=>none
noncomputable def adD {R:Type} (c:Ctx) (ops:Array Oper) (ord:List Nat) (st:St) (K:St→Option R):Option R:=
 match Tg ops.toList.length ord with
 |some (o1,o2,A,B)=>bif !guarded ops.toList&&(qP c (n5 ops A B) o1&&qP c (n5 ops B A) o2) then
  (match lm (n5 ops A B).toList o1,lm (n5 ops B A).toList o2 with
  |some l1,some l2=>BJ (qh ops.toList) st fun st=>both (uK c (n5 ops A B).toList l1 st K) (uK c (n5 ops B A).toList l2 st K)
  |_,_=>none) else none
 |none=>none
noncomputable def Pm {R:Type} (c:Ctx) (id:Nat) (ops:Array Oper) (draw:Bool) (st:St) (K:St→Option R):Option R:=
 fzK c (c.fz id) st fun st=>bif draw then (bif !Nat.beq (c.ord id).length ops.toList.length then adD c ops (c.ord id) st K else bif qP c ops (c.ord id) then (match lm ops.toList (c.ord id) with|some l=>DN c id ops.toList l st K|none=>none) else none)
 else Tf c id ops.toList st K
noncomputable def nX (c:Ctx):Code→(R:Type)→St→(Nat→St→Option R)→Option R
 | .skip,_,st,K=>K 0 st
 | .region id ops d,_,st,K=>Pm c id ops d st fun st=>K 0 st
 | .seq a b,R,st,K=>nX c a R st fun e st=>bif Nat.beq e 0 then nX c b R st K else K e st
 | .cond x a b,R,st,K=>(match aS c st x with
  | .sc (.p (.b v))=>
   bif bE (kJ a) 0&&bE (kJ b) 0 then
    D8 c (c.Jk ((fb (.seq a b)).getD 0)) st fun dV dH=>
    bd (a8 v (nX c a (Nat×List MV) dV fun e st=>mV st [] ((c.Jk ((fb (.seq a b)).getD 0)).ex e) fun vs=>some (e,vs))
     (nX c b (Nat×List MV) dV fun e st=>mV st [] ((c.Jk ((fb (.seq a b)).getD 0)).ex e) fun vs=>some (e,vs)))
     fun r=>G0 (uni (kJ a) (kJ b)) r.1 fun e=>mW (BI st dH) ((c.Jk ((fb (.seq a b)).getD 0)).ex e) r.2 fun st=>K e st
   else a8 v (nX c a R st K) (nX c b R st K)
  |_=>none)
 | .block id b,R,st,K=>nX c b R st fun e st=>bif Nat.beq e (id+2) then K 0 st else K e st
 | .loop b,_,st,K=>
  D8 c (c.G4 ((fb b).getD 0)) st fun dV dH=>mV dV [] (c.G4 ((fb b).getD 0)).outs fun vs=>
   bd (Loop (fun ms=>mW dH (c.G4 ((fb b).getD 0)).outs ms fun st=>nX c b (Sum (List MV) (Nat×List MV)) st fun e st=>
    bif Nat.beq e 0 then mV st [] (c.G4 ((fb b).getD 0)).outs fun vs=>some (.inl vs) else mV st [] ((c.G4 ((fb b).getD 0)).ex e) fun vs=>some (.inr (e,vs))) vs)
    fun r=>G0 (minus (kJ b) [0]) r.1 fun e=>mW (BI st dH) ((c.G4 ((fb b).getD 0)).ex e) r.2 fun st=>K e st
 | .exit id,_,st,K=>K (id+2) st
 | .ret,_,st,K=>K 1 st
 |_,_,_,_=>none
def Eb {R:Type} (c:Ctx):List Nat→Nat→List MV→(Fr→List MV→Option R)→Option R
 |[],_,ms,K=>K [] ms
 |t::ts,n,ms,K=>match c.tv t with
  |some I=>gC ms fun m r=>Cz I m fun s=>Eb c ts (n+1) r fun fr ms=>K ((n,s)::fr) ms
  |none=>none
def Nk {R:Type}:List (List Kd)→Nat→List MV→(Fr→Option R)→Option R
 |[],_,ms,K=>gN ms (K [])
 |ks::r,n,ms,K=>gC ms fun m ms=>gP m fun cs=>se ks cs fun cs=>Nk r (n+1) ms fun fr=>K ((n,.wN cs)::fr)
def Nl {R:Type} (c:Ctx) (st:St) (fresh:Option Nat):List ResultVar→(List MV→Option R)→Option R
 |[],K=>K []
 |r::rs,K=>
  let go (s:Slot):Option R:=match fresh with
   |some ty=>(match s with
    | .sc (.own f)=>(match aO st.aV f with|some o=>bif o.ee||!Nat.beq o.ty ty then none else Nl c st fresh rs fun ms=>K (.fresh o.xs::ms)|none=>none)
    | .sc .nil=>Nl c st fresh rs fun ms=>K (.fresh []::ms)
    |_=>none)
   |none=>lO st s fun m st=>Nl c st fresh rs fun ms=>K (m::ms)
  match r with
  | .tmp t=>go (ao st.fr t)
  | .cell a t=>match c.tv t,ao st.fr a with
   |some I,.box cs=>bif eP cs||yZ a then none else jN I cs 0 fun s=>go s
   |_,_=>none
def QC {R:Type} (c:Ctx) (st:St):List ResultVar→(List MV→St→Option R)→Option R
 |[],K=>K [] st
 |r::rs,K=>(match r with
  | .tmp t=>lO st (ao st.fr t) fun m st=>QC c st rs fun ms st=>K (m::ms) st
  | .cell a t=>(match c.tv t,ao st.fr a with
   |some I,.box cs=>bif eP cs||yZ a then none else jN I cs 0 fun s=>lO st s fun m st=>QC c st rs fun ms st=>K (m::ms) st
   |_,_=>none))
def adE:List MV→MV
 |[m]=>m
 |ms=> .cK ms
noncomputable def HS (c:Ctx) (b6:List (List Kd)) (pos:Nat) (ks:List LK) (f:Func) (args:List MV):Option MV:=
 match f.body,args[pos]? with
 |some b,some (.cell (.func off ls))=>bif !gU c ks||!Nat.ble pos 999 then none else
  Eb c f.params.toList 0 (args.set pos (.rp [])) fun fr ms=>Nk b6 f.params.size ms fun n6=>
   (match app fr n6 with
   |some fr=>cN ⟨[],[],[],[]⟩ ks ls fun cs rest xN=>gN rest<|
    nX c b MV ⟨[pos],[],(1000000+off *1000+pos,.box cs)::fr,xN.aV⟩ fun e st=>
     bif Nat.ble e 1 then QC c st f.results.toList fun ms st=>(match ao st.fr (1000000+off *1000+pos) with
      | .box cs=>bif eP cs then none else jv st [] ks cs fun outs _=>some (.ej (adE ms) outs)
      |_=>none) else none
   |none=>none)
 |_,_=>none
noncomputable def HT (c:Ctx) (b6:List (List Kd)) (fresh:Option Nat) (f:Func) (args:List MV):Option MV:=
 match f.body with
 |some b=>Eb c f.params.toList 0 args fun fr ms=>Nk b6 f.params.size ms fun n6=>
  match app fr n6 with
  |some fr=>nX c b MV ⟨[],[],fr,[]⟩ fun e st=>
   bif Nat.ble e 1 then Nl c st fresh f.results.toList fun ms=>(match ms with|[m]=>some m|ms=>some (.cK ms)) else none
  |none=>none
 |none=>none
end Dn
/-
  What abstract values and slots say of Go's memory. Conditions: none.
-/
namespace Dn
open Go
theorem kl (w:World) (o:Obj):(w.alloc o).heap[w.heap.size]? =some o:=by
 show (w.heap.push o)[w.heap.size]? =some o
 simp
theorem Ah (w:World) (o:Obj) (i:Nat) (h:i<w.heap.size):(w.alloc o).heap[i]? =w.heap[i]? :=by
 show (w.heap.push o)[i]? =w.heap[i]?
 rw [Array.getElem?_push,if_neg (Nat.ne_of_lt h)]
def MV.one:MV→Bool
 | .h _| .agg _| .cK _| .fresh _| .cell _| .ej _ _=>false
 |_=>true
abbrev Ph:=Nat→Nat→Option Value
section
variable (key:Nat→Nat) (φ:Ph)
mutual
inductive ln:List Value→MV→Prop
 |b (x:Bool):ln [.bool x] (.b x)
 |i (k:IntKind) (n:Int):ln [.int k n] (.i k n)
 |s (bs:ByteArray):ln [.string bs] (.s bs.data.toList)
 |h (x:kD):ln (x.l.map fun b=> .int .u8 (b.toNat:Int)) (.h x)
 |raw (v:Value):v.oneCell'=true→ln [v] (.raw v)
 |list (a:Option Addr) (cap:Nat) (xs:List MV) (bg off KJ:Nat) (f:Nat→List Value):
  xs.length≤cap→(0<xs.length→a=some ⟨bg,off,none⟩)→(∀i,i<xs.length→(f i).length=KJ)→
  (∀i j,i<xs.length→j<KJ→φ bg (off+i *KJ+j)=(f i)[j]?)→
  (∀(i:Nat) (h:i<xs.length),ln (f i) xs[i])→ln [.slice a xs.length cap] (.list xs)
 |agg (vs:List Value) (ms:List MV):gQ vs ms→ln vs (.agg ms)
 |func (f k:Nat) (cap:Array Value) (ms:List MV):key f=k→gQ cap.toList ms→(∀m∈ms,m.one=true)→ln [.func (.func f) #[] cap] (.func k ms)
 |rp (bg off:Nat) (vs:List Value) (ms:List MV):gQ vs ms→(∀j,j<vs.length→φ bg (off+j)=vs[j]?)→ln [.pointer (some ⟨bg,off,none⟩)] (.rp ms)
inductive gQ:List Value→List MV→Prop
 |nil:gQ [] []
 |cons (v:List Value) (m:MV) (vs:List Value) (ms:List MV):ln v m→gQ vs ms→gQ (v++vs) (m::ms)
end
end
def qi (φ φ':Ph):Prop:= ∀b o v,φ b o=some v→φ' b o=some v
theorem qi.refl (φ:Ph):qi φ φ:=fun _ _ _ h=>h
theorem qi.xO {φ φ':Ph} (h:qi φ φ') {b j:Nat} {cs:List Value} (e:φ b j=cs[j]?) (hj:j<cs.length):φ' b j=cs[j]? :=by
 rw [List.getElem?_eq_getElem hj] at e⊢
 exact h _ _ _ e
theorem qi.trans {φ φ' φ'':Ph} (h:qi φ φ') (h':qi φ' φ''):qi φ φ'':=fun b o v e=>h' b o v (h b o v e)
section
set_option linter.unusedSectionVars false
variable {key:Nat→Nat} {φ φ':Ph} (hle:qi φ φ')
include hle
theorem Ju {b o:Nat} {vs:List Value} {j:Nat} (hj:j<vs.length) (h:φ b o=vs[j]?):φ' b o=vs[j]? :=by
 rw [List.getElem?_eq_getElem hj] at h⊢
 exact hle _ _ _ h
mutual
theorem ln.mono {vs:List Value} {m:MV}:ln key φ vs m→ln key φ' vs m
 | .b x=> .b x
 | .i k n=> .i k n
 | .s bs=> .s bs
 | .h x=> .h x
 | .raw v h=> .raw v h
 | .list a cap xs bg off KJ f h1 h2 h3 h4 h5=> .list a cap xs bg off KJ f h1 h2 h3
  (fun i j hi hj=>Ju hle (by rw [h3 i hi];exact hj) (h4 i j hi hj)) (fun i hi=>(h5 i hi).mono)
 | .agg vs ms h=> .agg vs ms h.mono
 | .func f k cap ms h1 h2 h3=> .func f k cap ms h1 h2.mono h3
 | .rp bg off vs ms h1 h2=> .rp bg off vs ms h1.mono (fun j hj=>Ju hle hj (h2 j hj))
theorem gQ.mono {vs:List Value} {ms:List MV}:gQ key φ vs ms→gQ key φ' vs ms
 | .nil=> .nil
 | .cons v m vs ms h1 h2=> .cons v m vs ms h1.mono h2.mono
end
end
section
variable {key:Nat→Nat} {φ:Ph}
mutual
theorem ln.cells {vs:List Value} {m:MV}:ln key φ vs m→ ∀v∈vs,v.oneCell'=true
 | .b x=>by simp [Value.oneCell']
 | .i k n=>by simp [Value.oneCell']
 | .s bs=>by simp [Value.oneCell']
 | .h x=>by
  intro v hv
  obtain ⟨b,_,rfl⟩:=List.mem_map.1 hv
  rfl
 | .raw v h=>by simpa using h
 | .list .. =>by simp [Value.oneCell']
 | .agg vs ms h=>h.cells
 | .func .. =>by simp [Value.oneCell']
 | .rp .. =>by simp [Value.oneCell']
theorem gQ.cells {vs:List Value} {ms:List MV}:gQ key φ vs ms→ ∀v∈vs,v.oneCell'=true
 | .nil=>by simp
 | .cons v m vs ms h1 h2=>by
  intro x hx
  rcases List.mem_append.1 hx with hx|hx
  ·exact h1.cells x hx
  ·exact h2.cells x hx
end
end
section
variable {key:Nat→Nat} {φ:Ph}
mutual
theorem ln.width {vs:List Value} {m:MV}:ln key φ vs m→vs.length=m.w
 | .b x=>by simp [MV.w]
 | .i k n=>by simp [MV.w]
 | .s bs=>by simp [MV.w]
 | .h x=>by simp [MV.w,x.h]
 | .raw v h=>by simp [MV.w]
 | .list .. =>by simp [MV.w]
 | .agg vs ms h=>by rw [h.width];simp [MV.w]
 | .func .. =>by simp [MV.w]
 | .rp .. =>by simp [MV.w]
theorem gQ.width {vs:List Value} {ms:List MV}:gQ key φ vs ms→vs.length=MV.wl ms
 | .nil=>by simp [MV.wl]
 | .cons v m vs ms h1 h2=>by simp [MV.wl,h1.width,h2.width]
end
end
theorem ln.one {key:Nat→Nat} {φ:Ph} {vs:List Value} {m:MV} (h:ln key φ vs m) (hm:m.one=true): ∃v,vs=[v]∧v.oneCell'=true:=by
 have hc:=h.cells
 cases h<;>simp [MV.one] at hm<;>exact ⟨_,rfl,hc _ (by simp)⟩
def fc (key:Nat→Nat) (φ:Ph) (v:Value):MV→Prop
 | .h x=>v= .agg (x.l.map fun b=>Value.int .u8 (b.toNat:Int)).toArray
 | .agg ms=> ∃arr,v= .agg arr∧gQ key φ arr.toList ms
 |m=>m.one=true∧ln key φ [v] m
set_option linter.unusedSectionVars false
theorem fc.mono {key:Nat→Nat} {φ φ':Ph} (hle:qi φ φ') {v:Value} {m:MV} (h:fc key φ v m):fc key φ' v m:=by
 cases m<;>simp only [fc] at h⊢ <;>first|exact h|exact ⟨h.1,h.2.mono hle⟩|(obtain ⟨arr,h1,h2⟩:=h;exact ⟨arr,h1,h2.mono hle⟩)
structure Env where
 key:Nat→Nat
 φ:Ph
 E:Nat→Value
 B:Nat→Nat
 m:List (Nat×nm)
def br (x:kD):List Value:=x.l.map fun b=>Value.int .u8 (b.toNat:Int)
theorem cO (x:kD):(br x).length=32:=by simp [br,x.h]
def aZ (e:Env) (vs:List Value):aI→Prop
 | .un=> ∃v,vs=[v]∧v.oneCell'=true
 | .p x=>x.one=true∧ln e.key e.φ vs x
 | .hs x=>vs=br x
 | .nil=>vs=[.slice none 0 0]
 | .mp _ _=>False
 | .own f=> ∃v,vs=[v]∧v.oneCell'=true∧(∀o,aO e.m f=some o→v=e.E f)
def ax (e:Env):List Value→List aI→Prop
 |vs,[]=>vs=[]
 |vs,l::ls=> ∃v r,vs=v++r∧aZ e v l∧ax e r ls
def sf:aI→Bool
 | .p _| .hs _=>true
 |_=>false
def iU:List aI→Bool
 |[]=>true
 |l::r=>sf l&&iU r
def Ec (st:Bool) (x:MV) (cs:List aI):Prop:=(∃ms,bH cs=some ms∧tc st ms=some x)∧ ∀m,aI.p m∈cs→m.one=true
def zd:Slot→Bool
 | .sc l=>sf l
 | .ag cs=>iU cs
 |_=>false
mutual
def ab (e:Env) (v:Value):Slot→Prop
 | .skip=>v=undef
 | .sc l=>match l with
  | .un=>True
  | .hs x=>v= .agg (br x).toArray
  |l=>aZ e [v] l
 | .ag cs=> ∃arr,v= .agg arr∧ax e arr.toList cs
 | .cK vs=> ∃arr,v= .tuple arr∧jO e arr.toList vs
 | .box _=>False
 | .wN cs=> ∃bg o vs,v= .pointer (some ⟨bg,o,none⟩)∧ax e vs cs∧iU cs=true∧(∀j,j<vs.length→e.φ bg (o+j)=vs[j]?)
 | .ptr r o=>v= .pointer (some ⟨e.B r,o,none⟩)
 | .wO r=>v= .map (some (e.B r))
 | .rp cs off=> ∃bg o vs,v= .pointer (some ⟨bg,o+off,none⟩)∧ax e vs cs∧iU cs=true∧(∀j,j<vs.length→e.φ bg (o+j)=vs[j]?)
 | .hp r o i=>v= .pointer (some ⟨e.B r,o+i,none⟩)∧i<32
 | .ep f i off st cs=> ∀o,aO e.m f=some o→ ∃bg cap,e.E f= .slice (some ⟨bg,0,none⟩) o.xs.length cap∧(∃x,o.xs[i]? =some x∧Ec st x cs)∧
  v= .pointer (some ⟨bg,i *wP cs+off,none⟩)
def jO (e:Env):List Value→List Slot→Prop
 |vs,[]=>vs=[]
 |vs,s::ss=> ∃v r,vs=v::r∧ab e v s∧zd s=true∧jO e r ss
end
def Th:aI→List Value→Bool
 | .p (.b x),[.bool y]=>x==y
 | .p (.i k n),[.int k' n']=>decide (k=k')&&decide (n=n')
 | .p (.s l),[.string s]=>decide (l=s.data.toList)
 | .p (.raw v),[w]=>match v,w with
  | .nilFunc,.nilFunc=>true
  | .nilIface,.nilIface=>true
  | .pointer none,.pointer none=>true
  |_,_=>false
 | .nil,[.slice none 0 0]=>true
 | .un,[v]=>v.oneCell'
 | .hs x,vs=>(vs.length==32)&&(vs.zip x.l).all fun p=>match p.1 with| .int .u8 n=>decide (n=(p.2.toNat:Int))|_=>false
 |_,_=>false
def si:List aI→List Value→Bool
 |[],vs=>vs.isEmpty
 |l::ls,vs=>Th l (vs.take l.w)&&si ls (vs.drop l.w)&&decide (l.w≤vs.length)
end Dn
/-
  How an abstract state stands to a frame and a memory; laws of frames and leaves. Conditions: none.
-/
set_option linter.unusedSimpArgs false
set_option linter.unusedVariables false
namespace Dn
open Go
def cb:Fr→Nat→Slot→Fr
 |[],t,v=>[(t,v)]
 |(k,s)::r,t,v=>bif Nat.beq k t then (k,v)::r else (k,s)::cb r t v
def dn (ds:List Nat):Fr→Fr
 |[]=>[]
 |(k,s)::r=>bif dj s||bE ds k then dn ds r else (k,s)::dn ds r
def nn (ks:List Nat):Fr→Fr
 |[]=>[]
 |(k,s)::r=>bif bE ks k&&!dj s then (k,s)::nn ks r else nn ks r
def bS:List (Nat×nm)→Nat→nm→List (Nat×nm)
 |[],t,v=>[(t,v)]
 |(k,s)::r,t,v=>bif Nat.beq k t then (k,v)::r else (k,s)::bS r t v
def KK (f:Nat):aI→aI
 | .own g=>bif Nat.beq g f then .un else .own g
 |l=>l
def ze (f:Nat):Slot→Slot
 | .sc l=> .sc (KK f l)
 | .ag cs=> .ag (cs.map (KK f))
 | .box cs=> .box (cs.map (KK f))
 | .ep g i o b cs=>bif Nat.beq g f then .sc .un else .ep g i o b cs
 |s=>s
def kE (f:Nat) (r:Fr):Fr:=r.map fun p=>(p.1,ze f p.2)
def wS (f:Nat) (r:Fr):Fr:=r.map fun p=>(p.1,match p.2 with
 | .ep g i o b cs=>bif Nat.beq g f then .sc .un else .ep g i o b cs
 |s=>s)
def Nn (ps:List Nat):aI→aI
 | .own g=>bif bE ps g then .own g else .un
 |l=>l
def GV (ps:List Nat):Slot→Slot
 | .sc l=> .sc (Nn ps l)
 | .ag cs=> .ag (cs.map (Nn ps))
 | .box cs=> .box (cs.map (Nn ps))
 |s=>s
def Np (ps:List Nat) (r:Fr):Fr:=r.map fun p=>(p.1,GV ps p.2)
def qQ (ks fs qs:List Nat):List (Nat×nm)→List (Nat×nm)
 |[]=>[]
 |(k,o)::r=>bif bE ks k then (bif bE fs k&&!bE qs k then (k,⟨o.ty,true,o.xs⟩) else (k,o))::qQ ks fs qs r else qQ ks fs qs r
section
variable {R:Type}
theorem force_eq (s:Slot) (K:Slot→Option R):force s K=K s:=by cases s<;>rfl
theorem lp (r:Fr) (t:Nat) (s:Slot) (K:Fr→Option R):G3 r t s K=K (cb r t s):=by
 induction r generalizing K with
 |nil=>rfl
 |cons p r ih=>obtain ⟨k,x⟩:=p;simp only [G3,cb];cases Nat.beq k t<;>simp [ih]
theorem CB (ds:List Nat) (r:Fr) (K:Fr→Option R):tH ds r K=K (dn ds r):=by
 induction r generalizing K with
 |nil=>rfl
 |cons p r ih=>obtain ⟨k,x⟩:=p;simp only [tH,dn];cases dj x||bE ds k<;>simp [ih]
theorem Xb (ks:List Nat) (r:Fr) (K:Fr→Option R):pick ks r K=K (nn ks r):=by
 induction r generalizing K with
 |nil=>rfl
 |cons p r ih=>obtain ⟨k,x⟩:=p;simp only [pick,nn];cases bE ks k&&!dj x<;>simp [ih]
theorem np (r:List (Nat×nm)) (t:Nat) (s:nm) (K:List (Nat×nm)→Option R):Nb r t s K=K (bS r t s):=by
 induction r generalizing K with
 |nil=>rfl
 |cons p r ih=>obtain ⟨k,x⟩:=p;simp only [Nb,bS];cases Nat.beq k t<;>simp [ih]
theorem Ed (f:Nat) (cs:List aI) (K:List aI→Option R):uH f cs K=K (cs.map (KK f)):=by
 induction cs generalizing K with
 |nil=>rfl
 |cons l r ih=>cases l<;>simp only [uH,List.map_cons,KK,ih];rename_i g;cases Nat.beq g f<;>rfl
theorem Ti (f:Nat) (s:Slot) (K:Slot→Option R):HN f s K=K (ze f s):=by
 cases s with
 |sc l=>cases l<;>simp only [HN,ze,KK];rename_i g;cases Nat.beq g f<;>rfl
 |ag cs=>simp only [HN,ze,Ed]
 |box cs=>simp only [HN,ze,Ed]
 |ep g i o b cs=>simp only [HN,ze];cases Nat.beq g f<;>rfl
 |_=>rfl
theorem Tj (f:Nat) (r:Fr) (K:Fr→Option R):kFr f r K=K (kE f r):=by
 induction r generalizing K with
 |nil=>rfl
 |cons p r ih=>obtain ⟨k,x⟩:=p;simp only [kFr,Ti,ih,kE,List.map_cons]
theorem aaM (f:Nat) (r:Fr) (K:Fr→Option R):kEp f r K=K (wS f r):=by
 induction r generalizing K with
 |nil=>rfl
 |cons p r ih=>
  obtain ⟨k,x⟩:=p
  cases x<;>simp only [kEp,ih,wS,List.map_cons]
  rename_i g i o b cs
  cases Nat.beq g f<;>rfl
theorem Ee (f:List Nat) (cs:List aI) (K:List aI→Option R):uL f cs K=K (cs.map (Nn f)):=by
 induction cs generalizing K with
 |nil=>rfl
 |cons l r ih=>cases l<;>simp only [uL,List.map_cons,Nn,ih];rename_i g;cases bE f g<;>rfl
theorem Tk (f:List Nat) (s:Slot) (K:Slot→Option R):KW f s K=K (GV f s):=by
 cases s with
 |sc l=>cases l<;>simp only [KW,GV,Nn];rename_i g;cases bE f g<;>rfl
 |ag cs=>simp only [KW,GV,Ee]
 |box cs=>simp only [KW,GV,Ee]
 |_=>rfl
theorem aaN (f:List Nat) (r:Fr) (K:Fr→Option R):nFr f r K=K (Np f r):=by
 induction r generalizing K with
 |nil=>rfl
 |cons p r ih=>obtain ⟨k,x⟩:=p;simp only [nFr,Tk,ih,Np,List.map_cons]
theorem Tl (ks fs qs:List Nat) (r:List (Nat×nm)) (K:List (Nat×nm)→Option R):HQ ks fs qs r K=K (qQ ks fs qs r):=by
 induction r generalizing K with
 |nil=>rfl
 |cons p r ih=>
  obtain ⟨k,x⟩:=p
  simp only [HQ,qQ]
  cases bE ks k
  ·simp [ih]
  ·simp only [cond_true,ih]
   cases bE fs k&&!bE qs k<;>rfl
theorem uM {α:Type} (x y:List α):app x y=some (x++y):=by
 induction x with
 |nil=>rfl
 |cons a r ih=>simp [app,ih]
end
theorem fe (a b:Nat):Nat.beq a b=decide (a=b):=by
 by_cases h:a=b
 ·subst h;simp
 ·simp only [h,decide_false];exact Bool.eq_false_iff.2 (fun e=>h (Nat.eq_of_beq_eq_true e))
theorem bF (l:List Nat) (t:Nat):bE l t=true↔t∈l:=by
 induction l with
 |nil=>simp [bE]
 |cons k r ih=>
  simp only [bE,fe,List.mem_cons]
  by_cases h:k=t
  ·simp [h]
  ·simp only [h,decide_false,cond_false,ih]
   exact ⟨.inr,fun h'=>h'.resolve_left (fun e=>h e.symm)⟩
theorem bN (r:Fr) (d t:Nat) (s:Slot):ao (cb r d s) t=if t=d then s else ao r t:=by
 induction r with
 |nil=>simp only [cb,ao,fe];by_cases h:t=d<;>simp [h,Ne.symm]<;>(intro e;exact absurd e.symm h)
 |cons p r ih=>
  obtain ⟨k,x⟩:=p
  simp only [cb,fe]
  by_cases hk:k=d
  ·subst hk
   simp only [decide_true,cond_true,ao,fe]
   by_cases h:k=t
   ·simp [h]
   ·have h': ¬t=k:=fun e=>h e.symm
    simp [h,h']
  ·simp only [hk,decide_false,cond_false,ao,fe,ih]
   by_cases h:k=t
   ·subst h;simp [hk]
   ·simp [h]
theorem bj (r:List (Nat×nm)) (d t:Nat) (s:nm):aO (bS r d s) t=if t=d then some s else aO r t:=by
 induction r with
 |nil=>simp only [bS,aO,fe];by_cases h:t=d<;>simp [h,Ne.symm]<;>(intro e;exact absurd e.symm h)
 |cons p r ih=>
  obtain ⟨k,x⟩:=p
  simp only [bS,fe]
  by_cases hk:k=d
  ·subst hk
   simp only [decide_true,cond_true,aO,fe]
   by_cases h:k=t
   ·simp [h]
   ·have h': ¬t=k:=fun e=>h e.symm
    simp [h,h']
  ·simp only [hk,decide_false,cond_false,aO,fe,ih]
   by_cases h:k=t
   ·subst h;simp [hk]
   ·simp [h]
theorem Ef (g:Slot→Slot) (hg:g (.sc .un)= .sc .un) (r:Fr) (t:Nat):ao (r.map fun p=>(p.1,g p.2)) t=g (ao r t):=by
 induction r with
 |nil=>simp [ao,hg]
 |cons p r ih=>
  obtain ⟨k,x⟩:=p
  simp only [List.map_cons,ao,fe]
  by_cases h:k=t<;>simp [h,ih]
theorem gl (f:Nat) (r:Fr) (t:Nat):ao (kE f r) t=ze f (ao r t):=Ef (ze f) rfl r t
theorem HU (f:List Nat) (r:Fr) (t:Nat):ao (Np f r) t=GV f (ao r t):=Ef (GV f) rfl r t
def aT (r:Fr):List Nat:=r.map Prod.fst
theorem qD (r:Fr) (t:Nat) (h:t∉aT r):ao r t= .sc .un:=by
 induction r with
 |nil=>rfl
 |cons p r ih=>
  obtain ⟨k,x⟩:=p
  simp only [aT,List.map_cons,List.mem_cons,not_or] at h
  have h': ¬k=t:=fun e=>h.1 e.symm
  simp only [ao,fe,h',decide_false,cond_false]
  exact ih h.2
theorem Ai (ds:List Nat) (r:Fr):List.Sublist (aT (dn ds r)) (aT r):=by
 induction r with
 |nil=>simp [aT,dn]
 |cons p r ih=>
  obtain ⟨k,x⟩:=p
  simp only [dn]
  cases dj x||bE ds k
  ·simpa [aT] using ih
  ·exact (List.Sublist.cons _ ih)
theorem uN (ds:List Nat) (r:Fr):List.Sublist (aT (nn ds r)) (aT r):=by
 induction r with
 |nil=>simp [aT,nn]
 |cons p r ih=>
  obtain ⟨k,x⟩:=p
  simp only [nn]
  cases bE ds k&&!dj x
  ·exact (List.Sublist.cons _ ih)
  ·simpa [aT] using ih
theorem Eg (ds:List Nat) (r:Fr) (hn:(aT r).Nodup) (t:Nat):ao (dn ds r) t=if dj (ao r t)||bE ds t then .sc .un else ao r t:=by
 induction r with
 |nil=>simp [ao,dn]
 |cons p r ih=>
  obtain ⟨k,x⟩:=p
  simp only [aT,List.map_cons,List.nodup_cons] at hn
  have ih:=ih hn.2
  simp only [dn]
  by_cases hk:k=t
  ·subst hk
   cases hb:dj x||bE ds k
   ·simp [ao,fe,hb]
   ·simp only [cond_true,ao,fe,decide_true,hb,if_true]
    refine qD _ _ (fun hm=>hn.1 ((Ai ds r).subset hm))
  ·cases hb:dj x||bE ds k
   ·simp [ao,fe,hk,ih]
   ·simp [ao,fe,hk,ih]
theorem zz (ds:List Nat) (r:Fr) (hn:(aT r).Nodup) (t:Nat):ao (nn ds r) t=if bE ds t&&!dj (ao r t) then ao r t else .sc .un:=by
 induction r with
 |nil=>simp [ao,nn]
 |cons p r ih=>
  obtain ⟨k,x⟩:=p
  simp only [aT,List.map_cons,List.nodup_cons] at hn
  have ih:=ih hn.2
  simp only [nn]
  by_cases hk:k=t
  ·subst hk
   cases hb:bE ds k&&!dj x
   ·simp only [cond_false,ao,fe,decide_true,cond_true,hb]
    exact qD _ _ (fun hm=>hn.1 ((uN ds r).subset hm))
   ·simp [ao,fe,hb]
  ·cases hb:bE ds k&&!dj x<;>simp [ao,fe,hk,ih]
theorem wT (r s:Fr) (t:Nat):ao (r++s) t=if t∈aT r then ao r t else ao s t:=by
 induction r with
 |nil=>simp [aT]
 |cons p r ih=>
  obtain ⟨k,x⟩:=p
  simp only [List.cons_append,ao,fe,aT,List.map_cons,List.mem_cons]
  by_cases h:k=t
  ·simp [h]
  ·have h': ¬t=k:=fun e=>h e.symm
   simp only [h,h',decide_false,cond_false,ih,false_or]
   rfl
end Dn
/-
  Laws of leaves and slots: offsets, and what changes elsewhere. Conditions: none.
-/
set_option linter.unusedSimpArgs false
set_option linter.unusedVariables false
namespace Dn
open Go
section
variable {e e':Env}
theorem aZ.width {vs:List Value} {l:aI} (h:aZ e vs l):vs.length=l.w:=by
 cases l with
 |un=>obtain ⟨v,rfl,_⟩:=h;rfl
 |p m=>obtain ⟨v,rfl,_⟩:=h.2.one h.1;rfl
 |hs x=>cases h;simp [br,x.h,aI.w]
 |nil=>cases h;rfl
 |mp s es=>exact h.elim
 |own f=>obtain ⟨v,rfl,_⟩:=h;rfl
theorem aZ.cells {vs:List Value} {l:aI} (h:aZ e vs l): ∀v∈vs,v.oneCell'=true:=by
 cases l with
 |un=>obtain ⟨v,rfl,hv⟩:=h;simpa using hv
 |p m=>exact h.2.cells
 |hs x=>
  cases h
  intro v hv
  obtain ⟨b,_,rfl⟩:=List.mem_map.1 hv
  rfl
 |nil=>cases h;simp [Value.oneCell']
 |mp s es=>exact h.elim
 |own f=>obtain ⟨v,rfl,hv,_⟩:=h;simpa using hv
theorem ax.width {cs:List aI}: ∀{vs:List Value},ax e vs cs→vs.length=wP cs:=by
 induction cs with
 |nil=>intro vs h;cases h;rfl
 |cons l r ih=>intro vs h;obtain ⟨v,w,rfl,h1,h2⟩:=h;simp [wP,h1.width,ih h2]
theorem ax.cells {cs:List aI}: ∀{vs:List Value},ax e vs cs→ ∀v∈vs,v.oneCell'=true:=by
 induction cs with
 |nil=>intro vs h;cases h;simp
 |cons l r ih=>
  intro vs h v hv
  obtain ⟨a,w,rfl,h1,h2⟩:=h
  rcases List.mem_append.1 hv with hv|hv
  ·exact h1.cells v hv
  ·exact ih h2 v hv
theorem ax.append {cs ds:List aI}: ∀{vs ws:List Value},ax e vs cs→ax e ws ds→ax e (vs++ws) (cs++ds):=by
 induction cs with
 |nil=>intro vs ws h h';cases h;simpa using h'
 |cons l r ih=>intro vs ws h h';obtain ⟨v,w,rfl,h1,h2⟩:=h;exact ⟨v,w++ws,by simp,h1,ih h2 h'⟩
theorem wU {cs:List aI}: ∀{off:Nat} {ds:List aI} {vs:List Value},cut cs off=some ds→ax e vs cs→
 ∃v1 v2,vs=v1++v2∧v1.length=off∧ax e v2 ds:=by
 induction cs with
 |nil=>
  intro off ds vs h hr
  cases off with
  |zero=>simp only [cut,Option.some.injEq] at h;subst h;exact ⟨[],vs,rfl,rfl,hr⟩
  |succ n=>simp [cut] at h
 |cons l r ih=>
  intro off ds vs h hr
  cases off with
  |zero=>simp only [cut,Option.some.injEq] at h;subst h;exact ⟨[],vs,rfl,rfl,hr⟩
  |succ n=>
   simp only [cut] at h
   cases hb:Nat.ble l.w (n+1) with
   |false=>simp [hb] at h
   |true=>
    simp only [hb,cond_true] at h
    have hle:=Nat.le_of_ble_eq_true hb
    obtain ⟨v,w,rfl,h1,h2⟩:=hr
    obtain ⟨v1,v2,rfl,hl,h3⟩:=ih h h2
    exact ⟨v++v1,v2,by simp,by simp [h1.width,hl];omega,h3⟩
theorem QD {cs:List aI}: ∀{n:Nat} {ds:List aI} {vs:List Value},KQ cs n=some ds→ax e vs cs→
 ∃v1 v2,vs=v1++v2∧v1.length=n∧ax e v1 ds:=by
 induction cs with
 |nil=>
  intro n ds vs h hr
  cases n with
  |zero=>simp only [KQ,Option.some.injEq] at h;subst h;exact ⟨[],vs,rfl,rfl,rfl⟩
  |succ n=>simp [KQ] at h
 |cons l r ih=>
  intro n ds vs h hr
  cases n with
  |zero=>simp only [KQ,Option.some.injEq] at h;subst h;exact ⟨[],vs,rfl,rfl,rfl⟩
  |succ n=>
   simp only [KQ] at h
   cases hb:Nat.ble l.w (n+1) with
   |false=>simp [hb] at h
   |true=>
    simp only [hb,cond_true] at h
    have hle:=Nat.le_of_ble_eq_true hb
    obtain ⟨v,w,rfl,h1,h2⟩:=hr
    cases hu:KQ r (n+1-l.w) with
    |none=>simp [hu] at h
    |some b=>
     simp only [hu,Option.some.injEq] at h
     subst h
     obtain ⟨v1,v2,rfl,hl,h3⟩:=ih hu h2
     exact ⟨v++v1,v2,by simp,by simp [h1.width,hl];omega,v,v1,rfl,h1,h3⟩
theorem HV {cs:List aI} {off n:Nat} {ds:List aI} {vs:List Value} (h:part cs off n=some ds) (hr:ax e vs cs):
 ∃v1 v2 v3,vs=v1++v2++v3∧v1.length=off∧v2.length=n∧ax e v2 ds:=by
 unfold part at h
 cases hc:cut cs off with
 |none=>simp [hc] at h
 |some a=>
  simp only [hc] at h
  obtain ⟨v1,v2,rfl,h1,h2⟩:=wU hc hr
  obtain ⟨v3,v4,rfl,h3,h4⟩:=QD h h2
  exact ⟨v1,v3,v4,by simp,h1,h3,h4⟩
theorem HW {ls:List aI}: ∀{cs ds:List aI} {vs ws:List Value},over ls cs=some ds→ax e vs cs→ax e ws ls→
 ∃v1 v2,vs=v1++v2∧v1.length=ws.length∧ax e (ws++v2) ds:=by
 induction ls with
 |nil=>intro cs ds vs ws h hr hw;simp only [over,Option.some.injEq] at h;subst h;cases hw;exact ⟨[],vs,rfl,rfl,hr⟩
 |cons l r ih=>
  intro cs ds vs ws h hr hw
  cases cs with
  |nil=>simp [over] at h
  |cons c cs=>
   simp only [over] at h
   cases hb:Nat.beq l.w c.w with
   |false=>simp [hb] at h
   |true=>
    simp only [hb,cond_true] at h
    have hww:=Nat.eq_of_beq_eq_true hb
    cases ho:over r cs with
    |none=>simp [ho] at h
    |some q=>
     simp only [ho,Option.some.injEq] at h
     subst h
     obtain ⟨v,w,rfl,h1,h2⟩:=hr
     obtain ⟨a,b,rfl,h3,h4⟩:=hw
     obtain ⟨v1,v2,rfl,hl,h5⟩:=ih ho h2 h4
     exact ⟨v++v1,v2,by simp,by simp [h1.width,h3.width,hl,hww],a,b++v2,by simp,h3,h5⟩
theorem uO {cs:List aI}: ∀{off:Nat} {ls ds:List aI} {vs ws:List Value},putAt cs off ls=some ds→ax e vs cs→ax e ws ls→
 ∃v1 v2 v3,vs=v1++v2++v3∧v1.length=off∧v2.length=ws.length∧ax e (v1++ws++v3) ds:=by
 induction cs with
 |nil=>
  intro off ls ds vs ws h hr hw
  cases off with
  |zero=>
   simp only [putAt] at h
   obtain ⟨v1,v2,rfl,h1,h2⟩:=HW h hr hw
   exact ⟨[],v1,v2,by simp,rfl,h1,by simpa using h2⟩
  |succ n=>simp [putAt] at h
 |cons l r ih=>
  intro off ls ds vs ws h hr hw
  cases off with
  |zero=>
   simp only [putAt] at h
   obtain ⟨v1,v2,rfl,h1,h2⟩:=HW h hr hw
   exact ⟨[],v1,v2,by simp,rfl,h1,by simpa using h2⟩
  |succ n=>
   simp only [putAt] at h
   cases hb:Nat.ble l.w (n+1) with
   |false=>simp [hb] at h
   |true=>
    simp only [hb,cond_true] at h
    have hle:=Nat.le_of_ble_eq_true hb
    obtain ⟨v,w,rfl,h1,h2⟩:=hr
    cases hu:putAt r (n+1-l.w) ls with
    |none=>simp [hu] at h
    |some b=>
     simp only [hu,Option.some.injEq] at h
     subst h
     obtain ⟨v1,v2,v3,rfl,hl,wK,h3⟩:=ih hu h2 hw
     exact ⟨v++v1,v2,v3,by simp,by simp [h1.width,hl];omega,wK,v,v1++ws++v3,by simp,h1,h3⟩
structure km (S T:Nat→Prop) (e e':Env):Prop where
 key:e'.key=e.key
 φ:qi e.φ e'.φ
 B: ∀r,T r→e'.B r=e.B r
 iT: ∀f o',aO e'.m f=some o'→S f→ ∃o,aO e.m f=some o∧e'.E f=e.E f∧o'.xs=o.xs
def iY (S:Nat→Prop) (l:aI):Prop:= ∀f,l= .own f→S f
def fg (S T:Nat→Prop):Slot→Prop
 | .ptr r _=>T r
 | .wO r=>T r
 | .hp r _ _=>T r
 | .sc l=>iY S l
 | .ag cs=> ∀l∈cs,iY S l
 | .ep g _ _ _ _=>S g
 |_=>True
theorem aZ.on {S T:Nat→Prop} (h:km S T e e') {vs:List Value} {l:aI} (hl:iY S l) (hr:aZ e vs l):aZ e' vs l:=by
 cases l with
 |un=>exact hr
 |p m=>exact ⟨hr.1,by have:=hr.2.mono h.φ;rw [←h.key] at this;exact this⟩
 |hs x=>exact hr
 |nil=>exact hr
 |mp s es=>exact hr
 |own f=>
  obtain ⟨v,rfl,hv,hf⟩:=hr
  refine ⟨v,rfl,hv,fun o' zA=> ?_⟩
  obtain ⟨o,ho,hE,_⟩:=h.iT f o' zA (hl f rfl)
  rw [hE];exact hf o ho
theorem ax.on {S T:Nat→Prop} (h:km S T e e') {cs:List aI}: ∀{vs:List Value},(∀l∈cs,iY S l)→ax e vs cs→ax e' vs cs:=by
 induction cs with
 |nil=>intro vs _ hr;exact hr
 |cons l r ih=>
  intro vs hl hr
  obtain ⟨v,w,rfl,h1,h2⟩:=hr
  exact ⟨v,w,rfl,h1.on h (hl l (by simp)),ih (fun x hx=>hl x (by simp [hx])) h2⟩
theorem Eh {S:Nat→Prop} {l:aI} (h:sf l=true):iY S l:=by
 intro f hf;subst hf;simp [sf] at h
theorem zB {S:Nat→Prop} {cs:List aI} (h:iU cs=true): ∀l∈cs,iY S l:=by
 induction cs with
 |nil=>simp
 |cons l r ih=>
  simp only [iU,Bool.and_eq_true] at h
  intro x hx
  rcases List.mem_cons.1 hx with rfl|hx
  ·exact Eh h.1
  ·exact ih h.2 x hx
mutual
theorem ab.on {S T:Nat→Prop} (h:km S T e e') {v:Value}: ∀{s:Slot},fg S T s→ab e v s→ab e' v s
 | .skip,_,hr=>by simpa [ab] using hr
 | .sc l,hs,hr=>by
  cases l with
  |un=>simp [ab]
  |hs x=>simpa [ab] using hr
  |p m=>simp only [ab] at hr⊢;exact hr.on h hs
  |nil=>simp only [ab] at hr⊢;exact hr.on h hs
  |mp s es=>simp only [ab] at hr⊢;exact hr
  |own f=>simp only [ab] at hr⊢;exact hr.on h hs
 | .ag cs,hs,hr=>by
  simp only [ab] at hr⊢
  obtain ⟨arr,h1,h2⟩:=hr
  exact ⟨arr,h1,h2.on h hs⟩
 | .cK vs,_,hr=>by
  simp only [ab] at hr⊢
  obtain ⟨arr,h1,h2⟩:=hr
  exact ⟨arr,h1,jO.on h h2⟩
 | .box _,_,hr=>by simp [ab] at hr
 | .wN cs,_,hr=>by
  simp only [ab] at hr⊢
  obtain ⟨bg,o,vs,h1,h2,h3,h4⟩:=hr
  exact ⟨bg,o,vs,h1,h2.on h (zB h3),h3,fun j hj=>Ju h.φ hj (h4 j hj)⟩
 | .ptr r o,hs,hr=>by simp only [ab] at hr⊢;rw [h.B r hs];exact hr
 | .wO r,hs,hr=>by simp only [ab] at hr⊢;rw [h.B r hs];exact hr
 | .rp cs off,_,hr=>by
  simp only [ab] at hr⊢
  obtain ⟨bg,o,vs,h1,h2,h3,h4⟩:=hr
  exact ⟨bg,o,vs,h1,h2.on h (zB h3),h3,fun j hj=>Ju h.φ hj (h4 j hj)⟩
 | .hp r o i,hs,hr=>by simp only [ab] at hr⊢;rw [h.B r hs];exact hr
 | .ep f i off st cs,hs,hr=>by
  simp only [ab] at hr⊢
  intro o' zA
  obtain ⟨o,ho,hE,hx⟩:=h.iT f o' zA hs
  obtain ⟨bg,cap,h1,h2,h3⟩:=hr o ho
  exact ⟨bg,cap,by rw [hE,hx];exact h1,by rw [hx];exact h2,h3⟩
theorem jO.on {S T:Nat→Prop} (h:km S T e e'): ∀{vs:List Value} {ss:List Slot},jO e vs ss→jO e' vs ss
 |vs,[],hr=>hr
 |vs,s::ss,hr=>by
  simp only [jO] at hr⊢
  obtain ⟨v,r,h1,h2,h3,h4⟩:=hr
  refine ⟨v,r,h1,ab.on h ?_ h2,h3,jO.on h h4⟩
  cases s<;>simp [zd] at h3<;>simp only [fg]
  ·exact Eh h3
  ·exact zB h3
end
end
end Dn
/-
  The relation between an abstract state and a running frame; operations that change no memory. Conditions: none.
-/
set_option linter.unusedSimpArgs false
set_option linter.unusedVariables false
namespace Dn
open Go
section
variable {e e':Env}
theorem aZ.kill {vs:List Value} {l:aI} (f:Nat) (h:aZ e vs l):aZ e vs (KK f l):=by
 cases l with
 |own g=>
  simp only [KK]
  cases Nat.beq g f
  ·exact h
  ·obtain ⟨v,rfl,hv,_⟩:=h;exact ⟨v,rfl,hv⟩
 |_=>exact h
theorem Ei (f:Nat) (l:aI):iY (· ≠f) (KK f l):=by
 intro g hg
 cases l<;>simp [KK] at hg
 rename_i g'
 cases hb:Nat.beq g' f<;>simp [hb] at hg
 subst hg
 intro e;subst e;simp [fe] at hb
theorem aZ.Pn {vs:List Value} {l:aI} (f:List Nat) (h:aZ e vs l):aZ e vs (Nn f l):=by
 cases l with
 |own g=>
  simp only [Nn]
  cases bE f g
  ·obtain ⟨v,rfl,hv,_⟩:=h;exact ⟨v,rfl,hv⟩
  ·exact h
 |_=>exact h
theorem Nq (f:List Nat) (l:aI):iY (· ∈f) (Nn f l):=by
 intro g hg
 cases l<;>simp [Nn] at hg
 rename_i g'
 cases hb:bE f g'<;>simp [hb] at hg
 subst hg
 exact (bF _ _).1 hb
theorem ax.map {g:aI→aI} (hg: ∀vs l,aZ e vs l→aZ e vs (g l)) {cs:List aI}: ∀{vs:List Value},ax e vs cs→ax e vs (cs.map g):=by
 induction cs with
 |nil=>intro vs h;exact h
 |cons l r ih=>intro vs h;obtain ⟨v,w,rfl,h1,h2⟩:=h;exact ⟨v,w,rfl,hg _ _ h1,ih h2⟩
theorem ab.aaO {v:Value} {l:aI} (hl: ∀x,l≠ .hs x) (hu:l≠ .un):ab e v (.sc l)↔aZ e [v] l:=by
 cases l<;>simp_all [ab]
theorem ab.kill {v:Value} {s:Slot} (f:Nat) (h:ab e v s):ab e v (ze f s):=by
 cases s with
 |sc l=>
  cases l with
  |own g=>
   simp only [ze,KK]
   cases Nat.beq g f
   ·exact h
   ·simp [ab]
  |_=>exact h
 |ag cs=>simp only [ze,ab] at h⊢;obtain ⟨arr,h1,h2⟩:=h;exact ⟨arr,h1,h2.map (fun _ _=>aZ.kill f)⟩
 |box cs=>simp [ab] at h
 |ep g i o b cs=>
  simp only [ze]
  cases Nat.beq g f
  ·exact h
  ·simp [ab]
 |_=>exact h
theorem Tn (f:Nat) (T:Nat→Prop) (s:Slot) (hT:fg (fun _=>True) T s):fg (· ≠f) T (ze f s):=by
 cases s with
 |sc l=>exact Ei f l
 |ag cs=>intro l hl;obtain ⟨x,_,rfl⟩:=List.mem_map.1 hl;exact Ei f x
 |ep g i o b cs=>
  simp only [ze]
  cases hb:Nat.beq g f
  ·simp only [cond_false,fg];intro e;subst e;simp [fe] at hb
  ·simp [fg,iY]
 |ptr r o=>exact hT
 |hp r o i=>exact hT
 |_=>trivial
theorem ab.Pn {v:Value} {s:Slot} (f:List Nat) (h:ab e v s):ab e v (GV f s):=by
 cases s with
 |sc l=>
  cases l with
  |own g=>
   simp only [GV,Nn]
   cases bE f g
   ·simp [ab]
   ·exact h
  |_=>exact h
 |ag cs=>simp only [GV,ab] at h⊢;obtain ⟨arr,h1,h2⟩:=h;exact ⟨arr,h1,h2.map (fun _ _=>aZ.Pn f)⟩
 |box cs=>simp [ab] at h
 |_=>exact h
end
def ba (key:Nat→Nat) (φ:Ph) (size:Nat):List Value→List MV→Prop
 |vs,[]=>vs=[]
 |vs,x::xs=> ∃v r,vs=v++r∧v.length=size∧ln key φ v x∧ba key φ size r xs
structure bM where
 In:Nat→Prop
 cq:List Nat
 cr:List Nat
 T:Nat→Value
 cov:Prop
 Pr:Nat→Prop
instance:CoeFun bM (fun _=>Nat→Prop):=⟨bM.In⟩
instance:Coe bM (Nat→Prop):=⟨bM.In⟩
theorem KZ {a b c:Prop} (h:(a∧b)∨c) (hn: ¬a):c:=h.resolve_left fun h=>hn h.1
def bM.nc (Z:bM):bM:={Z with cov:=False}
def bM.plain (I:Nat→Prop):bM:=⟨I,[],[],fun _=>undef,False,fun _=>True⟩
def bM.bz (Z:bM) (t:Nat):bM:={Z with In:=fun b=>(t∈Z.cq∧Z.Pr b)∨Z.In b}
def bM.fz (Z:bM) (f:Nat):bM:={Z with In:=fun b=>(f∈Z.cr∧Z.Pr b)∨Z.In b,cov:=f∈Z.cr}
def BK:Kd→MV→Bool
 | .b,.b _=>true
 | .i k,.i k' _=>decide (k'=k)
 | .s,.s _=>true
 | .h,.h _=>true
 |_,_=>false
def dk:List Kd→List MV→Bool
 |[],[]=>true
 |k::ks,m::ms=>BK k m&&dk ks ms
 |_,_=>false
def BA:MV→List Value
 | .b x=>[.bool x]
 | .i k n=>[.int k n]
 | .s l=>[.string ⟨l.toArray⟩]
 | .h x=>br x
 |_=>[]
def fF (st:Bool) (ks:List MV):Value:=match st,ks with
 |false,[.h x]=> .agg (br x).toArray
 |false,[.b x]=> .bool x
 |false,[.i k n]=> .int k n
 |false,[.s l]=> .string ⟨l.toArray⟩
 |_,ks=> .agg (ks.flatMap BA).toArray
def yH (b:Bool) (m:MV):Value:=match b,m with
 |true,.b x=> .bool x
 |false,.i .i64 n=> .int .i64 n
 |_,_=>undef
def Nr (b:Bool) (m:MV):Bool:=match b,m with
 |true,.b x=>true
 |false,.i .i64 n=>true
 |_,_=>false
def ZH (s:MS) (x:MapEntry) (m:MV) (i:Nat):Prop:=
 x.born=i∧ ∃ks v,m= .cK [.agg ks,v]∧dk s.lay ks=true∧x.key=fF s.st ks∧Nr s.b v=true∧x.val=yH s.b v
structure qR (s:MS) (es:Array MapEntry) (clock:Nat) (ms:List MV):Prop where
 size:es.size=ms.length
 clock:clock=ms.length
 Xc: ∀(i:Nat) x m,es[i]? =some x→ms[i]? =some m→ZH s x m i
def jx (e:Env) (o:Obj) (cs:List aI):Prop:=match o with
 | .cells arr _ z=>z=(0,0)∧ax e arr.toList cs
 | .map es clock=> ∃s ms,cs=[.mp s ms]∧Di s=false∧qR s es clock ms
 | .stringIter x pos=>cs=[.mp MS.it [.s x.data.toList,.i .i64 pos]]
 |_=>False
def Jv (cs:List aI) (b:Nat):Value:=bif kH cs then .map (some b) else .pointer (some ⟨b,0,none⟩)
structure sm (Z:bM) (e:Env) (w:World) (bg:Nat) (cs:List aI):Prop where
 cn:Z.In bg
 obj: ∃o,w.heap[bg]? =some o∧jx e o cs
 free: ∀off,e.φ bg off=none
theorem jx.on {S T:Nat→Prop} {e e':Env} (h:km S T e e') {o:Obj} {cs:List aI} (hl: ∀l∈cs,iY S l) (hr:jx e o cs):jx e' o cs:=by
 cases o with
 |cells arr T z=>exact ⟨hr.1,hr.2.on h hl⟩
 |map es clock=>exact hr
 |stringIter x pos=>exact hr
 |_=>exact hr.elim
theorem Jw {cs:List aI} (h:eP cs=true): ∃s ms,cs=[.mp s ms]:=by
 unfold eP at h
 split at h
 ·exact ⟨_,_,rfl⟩
 ·cases h
theorem jx.cells {e:Env} {o:Obj} {cs:List aI} (hr:jx e o cs) (hm:eP cs=false): ∃arr T,o= .cells arr T (0,0)∧ax e arr.toList cs:=by
 cases o with
 |cells arr T z=>obtain ⟨rfl,h⟩:=hr;exact ⟨arr,T,rfl,h⟩
 |map es clock=>obtain ⟨s,ms,rfl,_⟩:=hr;simp [eP] at hm
 |stringIter x pos=>rw [show cs=_ from hr] at hm;simp [eP] at hm
 |_=>exact hr.elim
theorem uP {cs:List aI} (h:eP cs=false):kH cs=false:=by
 unfold kH
 split
 ·simp [eP] at h
 ·rfl
theorem K0 (g:aI→aI) (h1: ∀s es,g (.mp s es)= .mp s es) (h2: ∀l,(∀s es,l≠ .mp s es)→ ∀s es,g l≠ .mp s es) (cs:List aI):kH (cs.map g)=kH cs:=by
 cases cs with
 |nil=>rfl
 |cons l r=>
  cases r with
  |nil=>
   by_cases hl: ∃s es,l= .mp s es
   ·obtain ⟨s,es,rfl⟩:=hl;simp [h1,kH]
   ·have BL: ∀s es,l≠ .mp s es:=fun s es e=>hl ⟨s,es,e⟩
    have hg:=h2 l BL
    simp only [List.map_cons,List.map_nil]
    have a:kH [l]=false:=by cases l<;>simp_all [kH]
    have b:kH [g l]=false:=by cases hq:g l<;>simp_all [kH]
    rw [a,b]
  |cons x y=>cases hl:l<;>simp [kH]
theorem sm.cells {Z:bM} {e:Env} {w:World} {bg:Nat} {cs:List aI} (h:sm Z e w bg cs) (hm:eP cs=false): ∃arr T,w.heap[bg]? =some (.cells arr T (0,0))∧ax e arr.toList cs:=by
 obtain ⟨o,h1,h2⟩:=h.obj
 obtain ⟨arr,T,rfl,h3⟩:=h2.cells hm
 exact ⟨arr,T,h1,h3⟩
theorem Ns {cs:List aI} (hm:kH cs=false) (b:Nat):Jv cs b= .pointer (some ⟨b,0,none⟩):=by simp [Jv,hm]
theorem uQ {cs:List aI} (hm:eP cs=false) (b:Nat):Jv cs b= .pointer (some ⟨b,0,none⟩):=Ns (uP hm) b
theorem To {cs:List aI} (hm:kH cs=true) (b:Nat):Jv cs b= .map (some b):=by simp [Jv,hm]
theorem jx.map {e:Env} {g:aI→aI} (hg: ∀vs l,aZ e vs l→aZ e vs (g l)) (hm: ∀s es,g (.mp s es)= .mp s es) {o:Obj} {cs:List aI} (hr:jx e o cs):jx e o (cs.map g):=by
 cases o with
 |cells arr T z=>exact ⟨hr.1,hr.2.map hg⟩
 |map es clock=>obtain ⟨s,ms,rfl,h2⟩:=hr;exact ⟨s,ms,by simp [hm],h2⟩
 |stringIter x pos=>rw [show cs=_ from hr];show List.map g _=_;simp [hm]
 |_=>exact hr.elim
theorem Nt (f:Nat) (cs:List aI):kH (cs.map (KK f))=kH cs:=
 K0 _ (fun _ _=>rfl) (fun l hl s es=>by cases l<;>simp_all [KK];rename_i g;cases Nat.beq g f<;>simp) cs
theorem aaP (f:List Nat) (cs:List aI):kH (cs.map (Nn f))=kH cs:=
 K0 _ (fun _ _=>rfl) (fun l hl s es=>by cases l<;>simp_all [Nn];rename_i g;cases bE f g<;>simp) cs
structure db (c:Ctx) (Z:bM) (e:Env) (w:World) (v:Value) (o:nm):Prop where
 row: ∃I cells,c.ti o.ty=some I∧I.cL=[]∧w.ownsRow 0 o.ty I.size v o.xs.length cells∧ba e.key e.φ I.size cells o.xs∧
  ∀bg,v.ownBlock=some bg→Z.In bg∧(∀off u,e.φ bg off=some u→o.ee=true∧off<o.xs.length *I.size)∧(Z.cov→o.ee=true→ ∀j,j<cells.length→e.φ bg j=cells[j]?)
def tied (Z:bM) (t:Nat) (v:Value) (cs:List aI) (b:Nat):Prop:=
 (yZ t=false→v=Jv cs b)∧(yZ t=true→posOf t∈Z.cq∧Z.T (posOf t)= .pointer (some ⟨b,KP t,none⟩))
theorem tied.kH {Z:bM} {t:Nat} {v:Value} {cs fI:List aI} {b:Nat} (h:tied Z t v cs b) (hm:kH fI=kH cs):tied Z t v fI b:=⟨fun hp=>by rw [h.1 hp];simp [Jv,hm],h.2⟩
theorem tied.own {Z:bM} {t:Nat} {v:Value} {cs:List aI} {b:Nat} (hp:yZ t=false) (h:v=Jv cs b):tied Z t v cs b:=⟨fun _=>h,fun hq=>by rw [hp] at hq;cases hq⟩
def bW (Z:bM) (e:Env) (w:World) (t:Nat) (v:Value):Slot→Prop
 | .box cs=>tied Z t v cs (e.B t)∧sm (Z.bz t) e w (e.B t) cs
 |s=>ab e v s
def ct (fr:Fr):Slot→Prop
 | .ptr r _=>cM (ao fr r)=true
 | .hp r _ _=>cM (ao fr r)=true
 | .wO r=>cM (ao fr r)=true
 |_=>True
structure bX (c:Ctx) (Z:bM) (e:Env) (st:St) (a:Act) (w:World):Prop where
 defers:a.defers=[]∧st.cq=Z.cq∧st.cr=Z.cr∧ ∀t∈Z.cq,a.tmps.getD t undef=Z.T t
 size:a.tmps.size=c.n
 m:e.m=st.aV
 key:e.key=c.key
 nodup:(aT st.fr).Nodup
 slot: ∀t,bW Z e w t (a.tmps.getD t undef) (ao st.fr t)
 root: ∀t,ct st.fr (ao st.fr t)
 iT: ∀f o,aO st.aV f=some o→db c (Z.fz f) e w (e.E f) o
 bb: ∀t t' cs fI,ao st.fr t= .box cs→ao st.fr t'= .box fI→t≠t'→e.B t≠e.B t'
 bf: ∀t cs f o,ao st.fr t= .box cs→aO st.aV f=some o→(e.E f).ownBlock≠some (e.B t)
 ff: ∀f f' o o' k,aO st.aV f=some o→aO st.aV f'=some o'→(e.E f).ownBlock=some k→(e.E f').ownBlock=some k→f=f'
 nT: ∀b o v,e.φ b o=some v→w.cell? ⟨b,o,none⟩=some v
 cn: ∀b,w.heap.size≤b→Z.In b
def Rest (w w':World):Prop:=w'.os=w.os∧w'.tape=w.tape∧w'.output=w.output∧ ∀a,w'.frozen? a=w.frozen? a
theorem Rest.refl (w:World):Rest w w:=⟨rfl,rfl,rfl,fun _=>rfl⟩
theorem Rest.trans {w w' xP:World} (h:Rest w w') (h':Rest w' xP):Rest w xP:=⟨h'.1.trans h.1,h'.2.1.trans h.2.1,h'.2.2.1.trans h.2.2.1,fun a=>(h'.2.2.2 a).trans (h.2.2.2 a)⟩
theorem Rest.alloc (w:World) (cs:Array Value) (t:TypeId):Rest w (w.alloc (.cells cs t)):=by
 refine ⟨rfl,rfl,rfl,fun a=> ?_⟩
 by_cases h:a.block=w.heap.size
 ·have e1:(w.alloc (.cells cs t)).heap[a.block]? =some (.cells cs t (0,0)):=by rw [h];exact kl w _
  have e2:w.heap[a.block]? =none:=by rw [h];simp
  simp [World.frozen?,e1,e2]
 ·exact World.frozen?_alloc_old _ _ _ h
theorem Rest.setRow (w:World) (g:Nat) (cs:Array Value):Rest w (w.setRow g cs):=by
 refine ⟨rfl,rfl,rfl,fun a=> ?_⟩
 by_cases h:a.block=g
 ·unfold World.frozen? World.setRow
  simp only [Array.getElem?_modify,h,if_true]
  cases hg:w.heap[g]? with
  |none=>rfl
  |some o=>cases o<;>rfl
 ·exact World.frozen?_of_block (setRow_other _ _ _ _ h)
structure dv (w w':World):Prop where
 size:w.heap.size≤w'.heap.size
 BB: ∀b,b<w.heap.size→w'.heap[b]? =w.heap[b]?
 rest:Rest w w'
theorem bA {w:World} {b:Nat} {x:Obj} (h:w.heap[b]? =some x):b<w.heap.size:=(Array.getElem?_eq_some_iff.1 h).1
theorem dv.cell {w w':World} (g:dv w w') {ad:Addr} {v:Value} (h:w.cell? ad=some v):w'.cell? ad=some v:=by
 have hl:=World.block_lt_of_cell? w ad h
 rw [World.cell?_of_block (g.BB ad.block hl)];exact h
structure Trans (Z:Nat→Prop) (φ:Ph) (w:World) (φ':Ph) (w':World):Prop where
 ph:qi φ φ'
 heap: ∀b,¬Z b→b<w.heap.size→w'.heap[b]? =w.heap[b]?
 free: ∀b o,¬Z b→φ' b o=φ b o
 size:w.heap.size≤w'.heap.size
 rest:Rest w w'
theorem Trans.refl (Z:Nat→Prop) (φ:Ph) (w:World):Trans Z φ w φ w:=⟨.refl φ,fun _ _ _=>rfl,fun _ _ _=>rfl,Nat.le_refl _,.refl _⟩
theorem Trans.trans {Z:Nat→Prop} {φ φ' φ'':Ph} {w w' xP:World} (h:Trans Z φ w φ' w') (h':Trans Z φ' w' φ'' xP):Trans Z φ w φ'' xP:=
 ⟨h.ph.trans h'.ph,fun b hb hl=>(h'.heap b hb (Nat.lt_of_lt_of_le hl h.size)).trans (h.heap b hb hl),fun b o hb=>(h'.free b o hb).trans (h.free b o hb),Nat.le_trans h.size h'.size,h.rest.trans h'.rest⟩
def pM (Z:bM) (e:Env) (w:World) (st:St) (v:Value):Slot→Prop
 | .box cs=> ∃bg,v=Jv cs bg∧sm Z e w bg cs∧(∀t fI,ao st.fr t= .box fI→e.B t≠bg)∧(∀f o,aO st.aV f=some o→(e.E f).ownBlock≠some bg)
 |s=>ab e v s∧ct st.fr s
section
variable {c:Ctx} {Z:bM} {e:Env} {st:St} {a:Act} {w:World}
theorem ab.const {v:Value}:ab e v (xM v):=by
 unfold xM
 split<;>simp only [ab,aZ,MV.one]<;>
  first
   |exact ⟨trivial,.b _⟩
   |exact ⟨trivial,.i _ _⟩
   |exact ⟨trivial,.s _⟩
   |exact ⟨trivial,.raw _ rfl⟩
theorem bX.eval (h:bX c Z e st a w) (x:Operand):ab e (a.eval x) (aS c st x)∧ct st.fr (aS c st x):=by
 cases x with
 |tmp t=>
  have hs:=h.slot t
  have hr:=h.root t
  simp only [Act.eval,aS]
  cases M1:plk c.par t with
  |some q=>
   simp only
   cases hq:yZ q&&Nat.beq (posOf q) t with
   |false=>exact ⟨by simp [ab],trivial⟩
   |true=>
    simp only [cond_true]
    simp only [Bool.and_eq_true] at hq
    have hqt:=Nat.eq_of_beq_eq_true hq.2
    have hsq:=h.slot q
    split
    ·rename_i cs hfq
     rw [hfq] at hsq
     cases hm:eP cs with
     |true=>exact ⟨by simp [ab],trivial⟩
     |false=>
      obtain ⟨k1,k2⟩:=hsq.1.2 hq.1
      refine ⟨?_,by simp [ct,hfq,cM]⟩
      show a.tmps.getD t undef=_
      rw [←hqt,h.defers.2.2.2 _ k1,k2]
    ·exact ⟨by simp [ab],trivial⟩
  |none=>
  simp only
  generalize hf:ao st.fr t=s at hs hr
  cases s<;>simp only [bW] at hs<;>try exact ⟨hs,hr⟩
  ·rename_i cs
   cases hpt:yZ t with
   |true=>simp only [cond_true];exact ⟨by simp [ab],trivial⟩
   |false=>
   simp only [cond_false]
   cases hm:kH cs with
   |true=>simp only [hm,cond_true,ab,ct,hf,cM];exact ⟨by rw [hs.1.1 hpt,To hm],trivial⟩
   |false=>simp only [hm,cond_false,ab,ct,hf,cM];exact ⟨by rw [hs.1.1 hpt,Ns hm],trivial⟩
 |const v=>
  refine ⟨ab.const,?_⟩
  simp only [aS]
  unfold xM
  split<;>trivial
 |func f=>
  simp only [Act.eval,aS,ab,aZ,MV.one,ct,and_true,true_and]
  exact .func f _ #[] [] (by rw [h.key]) (by simpa using gQ.nil) (by simp)
 |global g=>simp [aS,ab,ct]
end
theorem Act.wV {a:Act} {d t:Nat} {v:Value} (hd:d<a.tmps.size):(a.put (some d) v).tmps.getD t undef=if t=d then v else a.tmps.getD t undef:=by
 simp only [Act.put,Array.getD_eq_getD_getElem?,Array.getElem?_setIfInBounds]
 by_cases h:d=t
 ·subst h;simp [hd]
 ·have h': ¬t=d:=fun e=>h e.symm
  simp [h,h']
theorem Tp {fr:Fr} {s:Slot} (h:ct fr s):fg (fun _=>True) (fun r=>cM (ao fr r)=true) s:=by
 cases s<;>simp_all [ct,fg,iY]
theorem Jx (r:Fr) (d:Nat) (s:Slot):aT (cb r d s)=if d∈aT r then aT r else aT r++[d]:=by
 induction r with
 |nil=>simp [cb,aT]
 |cons p r ih=>
  obtain ⟨k,x⟩:=p
  simp only [cb,fe]
  by_cases h:k=d
  ·simp [h,aT]
  ·have h': ¬d=k:=fun e=>h e.symm
   have ih':List.map Prod.fst (cb r d s)=if d∈aT r then aT r else aT r++[d]:=ih
   simp only [h,h',decide_false,cond_false,aT,List.map_cons,List.mem_cons,false_or,ih']
   by_cases hm:d∈aT r
   ·have ZI:d∈List.map Prod.fst r:=hm
    simp [hm,ZI,aT]
   ·have ZI:d∉List.map Prod.fst r:=hm
    simp [hm,ZI,aT]
theorem dW {r:Fr} {d:Nat} {s:Slot} (h:(aT r).Nodup):(aT (cb r d s)).Nodup:=by
 rw [Jx]
 by_cases hm:d∈aT r
 ·simpa [hm] using h
 ·simp only [hm,if_false]
  exact List.nodup_append.2 ⟨h,by simp,by intro x hx y hy;simp at hy;subst hy;intro e;subst e;exact hm hx⟩
section
variable {c:Ctx} {Z:bM} {e:Env} {st:St} {a:Act} {w:World} {R:Type} {K:St→Option R} {r:R}
def Env.Aj (e:Env) (d bg:Nat):Env:={e with B:=fun t=>if t=d then bg else e.B t}
theorem sm.env {e e':Env} {bg:Nat} {cs:List aI} (h:sm Z e w bg cs) (hk:e'.key=e.key) (hp:e'.φ=e.φ) (hE:e'.E=e.E) (hm:e'.m=e.m):sm Z e' w bg cs:=by
 refine ⟨h.cn,?_,fun off=>by rw [hp];exact h.free off⟩
 obtain ⟨o,h1,h2⟩:=h.obj
 refine ⟨o,h1,h2.on (S:=fun _=>True) (T:=fun _=>False) ⟨hk,by rw [hp];exact .refl _,by simp,?_⟩ (by intro l _ f _;trivial)⟩
 intro f o ho _
 exact ⟨o,by rw [←hm];exact ho,by rw [hE],rfl⟩
theorem db.env {e e':Env} {v:Value} {o:nm} (h:db c Z e w v o) (hk:e'.key=e.key) (hp:e'.φ=e.φ):db c Z e' w v o:=by
 obtain ⟨I,cells,h1,h2,h3,h4,h5⟩:=h.row
 exact ⟨I,cells,h1,h2,h3,by rw [hk,hp];exact h4,by rw [hp];exact h5⟩
theorem sm.to {bg:Nat} {cs:List aI} (h:sm Z e w bg cs) (t:Nat):sm (Z.bz t) e w bg cs:=⟨.inr h.cn,h.obj,h.free⟩
theorem db.to {v:Value} {o:nm} {f:Nat} (h:db c Z.nc e w v o) (hf:f∉Z.cr):db c (Z.fz f) e w v o:=by
 obtain ⟨I,cells,h1,h2,h3,h4,h5⟩:=h.row
 exact ⟨I,cells,h1,h2,h3,h4,fun bg hb=>⟨.inr (h5 bg hb).1,(h5 bg hb).2.1,fun hc=>absurd hc hf⟩⟩
theorem dA {d:Option Nat} {s:Slot} {v:Value} (h:bX c Z e st a w) (hv:pM Z e w st v s) (hK:bu c st d s K=some r):
 ∃e' bZ,bX c Z e' bZ (a.put d v) w∧K bZ=some r∧e'.φ=e.φ:=by
 cases d with
 |none=>exact ⟨e,st,h,hK,rfl⟩
 |some d=>
  simp only [bu] at hK
  cases BC:yZ d||(Nat.ble c.n d||cM (ao st.fr d)) with
  |true=>simp [BC] at hK
  |false=>
   obtain ⟨aiD,hb⟩:=Bool.or_eq_false_iff.1 BC
   simp only [BC,cond_false,wr] at hK
   cases hp:bE st.cq d with
   |true=>simp [hp] at hK
   |false=>
    simp only [hp,cond_false,force_eq,lp] at hK
    simp only [Bool.or_eq_false_iff] at hb
    have hdn:d<a.tmps.size:=by
     rw [h.size]
     have:=hb.1
     by_cases da:d<c.n
     ·exact da
     ·have:Nat.ble c.n d=true:=Nat.ble_eq_true_of_le (by omega)
      simp_all
    have hdp:d∉Z.cq:=by
     intro hm
     rw [←h.defers.2.1,←bF,hp] at hm;cases hm
    have adI: ∀fr:Fr,(a.put (some d) v).defers=[]∧({st with fr:=fr}:St).cq=Z.cq∧({st with fr:=fr}:St).cr=Z.cr∧ ∀t∈Z.cq,(a.put (some d) v).tmps.getD t undef=Z.T t:=by
     intro fr
     refine ⟨h.defers.1,h.defers.2.1,h.defers.2.2.1,fun t ht=> ?_⟩
     rw [Act.wV hdn,if_neg (by intro e;subst e;exact hdp ht)]
     exact h.defers.2.2.2 t ht
    have kn: ∀t,fg (fun _=>True) (fun r=>r≠d) (ao st.fr t):=by
     intro t
     have:=Tp (h.root t)
     generalize ao st.fr t=x at this
     cases x<;>simp_all [fg,iY]<;>(intro e;subst e;simp_all)
    by_cases hs: ∃cs,s= .box cs
    ·obtain ⟨cs,rfl⟩:=hs
     obtain ⟨bg,rfl,td,Xd,hnf⟩:=hv
     have te:km (fun _=>True) (fun r=>r≠d) e (e.Aj d bg):=⟨rfl,.refl _,fun r hr=>by simp [Env.Aj,hr],fun f o ho _=>⟨o,ho,rfl,rfl⟩⟩
     refine ⟨e.Aj d bg,_,?_,hK,rfl⟩
     refine ⟨adI _,by simpa [Act.put] using h.size,h.m,h.key,dW h.nodup,?_,?_,?_,?_,?_,?_,h.nT,h.cn⟩
     ·intro t
      rw [Act.wV hdn,bN]
      by_cases ht:t=d
      ·subst ht
       simp only [if_true,bW,Env.Aj]
       exact ⟨.own aiD rfl,(td.to t).env rfl rfl rfl rfl⟩
      ·simp only [ht,if_false]
       have mb:=h.slot t
       have oL:=kn t
       generalize ao st.fr t=x at mb oL
       cases x<;>simp only [bW] at mb⊢ <;>try exact mb.on te oL
       simp only [Env.Aj,ht,if_false]
       exact ⟨mb.1,mb.2.env rfl rfl rfl rfl⟩
     ·intro t
      simp only [bN]
      by_cases ht:t=d
      ·simp [ht,ct]
      ·simp only [ht,if_false]
       have oL:=h.root t
       have Tq:=kn t
       generalize ao st.fr t=x at oL Tq
       cases x<;>simp_all [ct,bN,fg]
     ·intro f o ho;exact (h.iT f o ho).env rfl rfl
     ·intro t t' fU qE h1 h2 cT
      simp only [bN] at h1 h2
      simp only [Env.Aj]
      by_cases ht:t=d
      ·by_cases zC:t'=d
       ·exact absurd (ht.trans zC.symm) cT
       ·simp only [zC,if_false] at h2
        simp only [ht,zC,if_true,if_false]
        exact fun e=>Xd t' qE h2 e.symm
      ·simp only [ht,if_false] at h1
       by_cases zC:t'=d
       ·simp only [ht,zC,if_true,if_false]
        exact Xd t fU h1
       ·simp only [zC,if_false] at h2
        simp only [ht,zC,if_false]
        exact h.bb t t' fU qE h1 h2 cT
     ·intro t fU f o h1 h2
      simp only [bN] at h1
      simp only [Env.Aj]
      by_cases ht:t=d
      ·simp only [ht,if_true];exact hnf f o h2
      ·simp only [ht,if_false] at h1⊢;exact h.bf t fU f o h1 h2
     ·exact h.ff
    ·have SG:ab e v s∧ct st.fr s:=by
      cases s<;>simp_all [pM]
     refine ⟨e,_,?_,hK,rfl⟩
     refine ⟨adI _,by simpa [Act.put] using h.size,h.m,h.key,dW h.nodup,?_,?_,h.iT,?_,?_,h.ff,h.nT,h.cn⟩
     ·intro t
      rw [Act.wV hdn,bN]
      by_cases ht:t=d
      ·simp only [ht,if_true]
       cases s<;>simp only [bW]<;>first|exact SG.1|exact absurd ⟨_,rfl⟩ hs
      ·simp only [ht,if_false];exact h.slot t
     ·intro t
      simp only [bN]
      by_cases ht:t=d
      ·simp only [ht,if_true]
       have hr:=SG.2
       cases s<;>simp only [ct,bN] at hr⊢
       ·rename_i r o
        by_cases K1:r=d
        ·subst K1;simp_all
        ·simp only [K1,if_false];exact hr
       ·rename_i r
        by_cases K1:r=d
        ·subst K1;simp_all
        ·simp only [K1,if_false];exact hr
       ·rename_i r o i
        by_cases K1:r=d
        ·subst K1;simp_all
        ·simp only [K1,if_false];exact hr
      ·simp only [ht,if_false]
       have oL:=h.root t
       have Tq:=kn t
       generalize ao st.fr t=x at oL Tq
       cases x<;>simp_all [ct,bN,fg]
     ·intro t t' fU qE h1 h2 cT
      simp only [bN] at h1 h2
      by_cases ht:t=d
      ·simp only [ht,if_true] at h1;exact absurd ⟨_,h1⟩ hs
      ·by_cases zC:t'=d
       ·simp only [zC,if_true] at h2;exact absurd ⟨_,h2⟩ hs
       ·simp only [ht,zC,if_false] at h1 h2
        exact h.bb t t' fU qE h1 h2 cT
     ·intro t fU f o h1 h2
      simp only [bN] at h1
      by_cases ht:t=d
      ·simp only [ht,if_true] at h1;exact absurd ⟨_,h1⟩ hs
      ·simp only [ht,if_false] at h1;exact h.bf t fU f o h1 h2
end
end Dn
/-
  Operations that change no memory: moves, numbers, texts, places. Conditions: none.
-/
set_option linter.unusedSimpArgs false
set_option linter.unusedVariables false
namespace Dn
open Go
def Out (c:Ctx) (Z:bM) {R:Type} (K:St→Option R) (r:R) (φ:Ph) (w:World) (a':Act) (w':World):Prop:=
 ∃e' bZ,bX c Z e' bZ a' w'∧Trans Z φ w e'.φ w'∧K bZ=some r
section
variable {P:Program} {c:Ctx} {Z:bM} {e:Env} {st:St} {a:Act} {w:World} {R:Type} {K:St→Option R} {r:R} {Q:Exit→Act→World→Prop} {o:Oper}
theorem pM.of {s:Slot} {v:Value} (h:ab e v s) (hr:ct st.fr s):pM Z e w st v s:=by
 cases s<;>first|exact ⟨h,hr⟩|(simp [ab] at h)
theorem fin {e':Env} {bZ:St} {w':World} {s:Slot} {v:Value} (bT:(execOp a.eval o).run P w= .ok (.value v) w') (hs:bX c Z e' bZ a w')
 (ht:Trans Z e.φ w e'.φ w') (hv:pM Z e' w' bZ v s) (hK:bu c bZ o.dst s K=some r):o.wp P a w (Out c Z K r e.φ w) Q:=by
 unfold Oper.wp
 rw [bT,Oper.upon_value]
 obtain ⟨e2,dH,h1,h2,h3⟩:=dA hs hv hK
 exact ⟨e2,dH,h1,by rw [h3];exact ht,h2⟩
theorem Ak {e':Env} {bZ:St} {w':World} (bT:(execOp a.eval o).run P w= .ok .skip w') (hs:bX c Z e' bZ a w')
 (ht:Trans Z e.φ w e'.φ w') (hK:bu c bZ o.dst (.sc .un) K=some r):o.wp P a w (Out c Z K r e.φ w) Q:=by
 unfold Oper.wp
 rw [bT,Oper.upon_skip]
 obtain ⟨e2,dH,h1,h2,h3⟩:=dA (v:=undef) hs (by simp [pM,ab,ct]) hK
 exact ⟨e2,dH,h1,by rw [h3];exact ht,h2⟩
theorem QE {e':Env} {bZ:St} {w':World} {s:Slot} {v:Value} (hg:dv w w') (bT:(execOp a.eval o).run P w= .ok (.value v) w') (hs:bX c Z e' bZ a w')
 (ht:Trans Z e.φ w e'.φ w') (hv:pM Z e' w' bZ v s) (hK:bu c bZ o.dst s K=some r):o.wp P a w (fun a' w'=>dv w w'∧Out c Z K r e.φ w a' w') Q:=by
 unfold Oper.wp
 rw [bT,Oper.upon_value]
 obtain ⟨e2,dH,h1,h2,h3⟩:=dA hs hv hK
 exact ⟨hg,e2,dH,h1,by rw [h3];exact ht,h2⟩
def Rd (P:Program) (c:Ctx) (Z:bM) {R:Type} (K:St→Option R) (r:R) (e:Env) (a:Act) (w:World) (o:Oper) (G:World→Prop):Prop:=
 ∃v,(∀w',G w'→(execOp a.eval o).run P w'= .ok (.value v) w')∧Out c Z K r e.φ w (a.put o.dst v) w
theorem Rd.wp {G:World→Prop} (h:Rd P c Z K r e a w o G) (hg:G w):o.wp P a w (Out c Z K r e.φ w) Q:=by
 obtain ⟨v,h1,h2⟩:=h
 unfold Oper.wp
 rw [h1 w hg,Oper.upon_value];exact h2
theorem Nu {G:World→Prop} {e':Env} {bZ:St} {s:Slot} {v:Value} (bT: ∀w':World,G w'→(execOp a.eval o).run P w'= .ok (.value v) w') (hs:bX c Z e' bZ a w)
 (ht:Trans Z e.φ w e'.φ w) (hv:pM Z e' w bZ v s) (hK:bu c bZ o.dst s K=some r):Rd P c Z K r e a w o G:=by
 obtain ⟨e2,dH,h1,h2,h3⟩:=dA hs hv hK
 exact ⟨v,bT,e2,dH,h1,by rw [h3];exact ht,h2⟩
theorem iO {s:Slot} {v:Value} (h:bX c Z e st a w) (bT: ∀w':World,(execOp a.eval o).run P w'= .ok (.value v) w') (hv:ab e v s) (hr:ct st.fr s)
 (hK:bu c st o.dst s K=some r):Rd P c Z K r e a w o (fun _=>True):=
 Nu (fun w' _=>bT w') h (.refl _ _ _) (.of hv hr) hK
theorem CC {v:Value} {x:Bool} (h:ab e v (.sc (.p (.b x)))):v= .bool x:=by
 simp only [ab,aZ] at h
 obtain ⟨_,h⟩:=h
 generalize hv:[v]=vs at h
 cases h;simpa using hv
theorem lK {v:Value} {k:IntKind} {n:Int} (h:ab e v (.sc (.p (.i k n)))):v= .int k n:=by
 simp only [ab,aZ] at h
 obtain ⟨_,h⟩:=h
 generalize hv:[v]=vs at h
 cases h;simpa using hv
theorem Ej {v:Value} {l:List UInt8} (h:ab e v (.sc (.p (.s l)))): ∃b:ByteArray,v= .string b∧l=b.data.toList:=by
 simp only [ab,aZ] at h
 obtain ⟨_,h⟩:=h
 generalize hv:[v]=vs at h
 cases h
 exact ⟨_,by simpa using hv,rfl⟩
theorem yI (x:Bool):ab e (.bool x) (.sc (.p (.b x))):=by simp only [ab,aZ];exact ⟨rfl,.b x⟩
theorem tK (k:IntKind) (n:Int):ab e (.int k n) (.sc (.p (.i k n))):=by simp only [ab,aZ];exact ⟨rfl,.i k n⟩
theorem Xe (b:ByteArray):ab e (.string b) (.sc (.p (.s b.data.toList))):=by simp only [ab,aZ];exact ⟨rfl,.s b⟩
theorem uR {v u:Value} (h:ab e v (.sc (.p (.raw u)))):v=u:=by
 simp only [ab,aZ] at h
 obtain ⟨_,h⟩:=h
 generalize hv:[v]=vs at h
 cases h;simpa using hv
theorem Ek (u:Value) (h:u.oneCell'=true):ab e u (.sc (.p (.raw u))):=by simp only [ab,aZ];exact ⟨rfl,.raw u h⟩
theorem Jy {x:Operand} (ho:o.op= .move x∨o.op= .assign x) (h:bX c Z e st a w) (hK:bu c st o.dst (aS c st x) K=some r):
 Rd P c Z K r e a w o (fun _=>True):=by
 obtain ⟨h1,h2⟩:=h.eval x
 refine iO h ?_ h1 h2 hK
 rcases ho with ho|ho<;>simp [execOp,ho]
theorem K3 {x:Operand} (ho:o.op= .nilCheck x) (h:bX c Z e st a w)
 (hK:aaF (aS c st x) (fun s=>bu c st o.dst s K)=some r):Rd P c Z K r e a w o (fun _=>True):=by
 obtain ⟨h1,h2⟩:=h.eval x
 unfold aaF at hK
 split at hK
 ·rename_i iV
  rw [iV] at h1 h2
  refine iO h ?_ (v:=a.eval x) h1 h2 hK
  simp only [ab] at h1
  simp [execOp,ho,h1]
 ·rename_i iV
  rw [iV] at h1 h2
  refine iO h ?_ (v:=a.eval x) h1 h2 hK
  simp only [ab] at h1
  obtain ⟨bg,q,vs,GW,h3⟩:=h1
  simp [execOp,ho,GW]
 ·simp at hK
theorem Xf {x y z:Operand} (ho:o.op= .pick x y z) (h:bX c Z e st a w)
 (hK:S1 (aS c st x) (aS c st y) (aS c st z) (fun s=>bu c st o.dst s K)=some r):Rd P c Z K r e a w o (fun _=>True):=by
 obtain ⟨hx,_⟩:=h.eval x
 obtain ⟨hy,hy2⟩:=h.eval y
 obtain ⟨hz,Tr⟩:=h.eval z
 have bT: ∀v,a.eval x= .bool v→ ∀w:World,(execOp a.eval o).run P w= .ok (.value (if v then a.eval y else a.eval z)) w:=by
  intro v hv w;simp [execOp,ho,hv,asBool]
 unfold S1 at hK
 split at hK
 ·rename_i v hv
  have hxv:=CC (by rw [hv] at hx;exact hx)
  have hr:=bT v hxv
  split at hK
  ·rename_i p q hp hq
   rw [hp] at hy;rw [hq] at hz
   simp only [CC hy,CC hz] at hr
   refine iO h hr ?_ (s:= .sc (.p (.b (bif v then p else q)))) trivial hK
   cases v
   ·exact yI q
   ·exact yI p
  ·cases v
   ·exact iO h hr hz Tr hK
   ·exact iO h hr hy hy2 hK
 ·simp at hK
theorem Xg {op:UnOp} {ty:TypeId} {x:Operand} (ho:o.op= .unOp op ty x) (h:bX c Z e st a w)
 (hK:unK op (aS c st x) (fun s=>bu c st o.dst s K)=some r):Rd P c Z K r e a w o (fun _=>True):=by
 obtain ⟨hx,_⟩:=h.eval x
 generalize aS c st x=s at hx hK
 unfold unK at hK
 split at hK
 ·refine iO h ?_ (yI _) trivial hK
  simp [execOp,ho,CC hx,Op.unary]
 ·refine iO h ?_ (tK _ _) trivial hK
  simp [execOp,ho,lK hx,Op.unary,Op.intArith]
 ·simp at hK
end
end Dn
/-
  The type table; numbers, texts, places, loads. Conditions: none.
-/
set_option linter.unusedSimpArgs false
set_option linter.unusedVariables false
namespace Dn
open Go
def Dk:List Kd→Nat
 |[]=>0
 | .h::r=>32+Dk r
 |_::r=>1+Dk r
def qS (ti:Nat→Option TI) (P:Program) (I:TI) (z:Option Value):TypeDesc→Prop
 | .struct fs=>I.st=true∧I.cL=[]∧(0<I.size∧Dk I.lay=I.size)∧fs.toList.map (·.offset)=I.wu∧fs.toList.map (·.type)=I.Qy∧
  (∀(k:Nat) (f:Field),fs[k]? =some f→ ∃J,ti f.type=some J∧J.cL=[]∧0<J.size)∧
  ∃cs,z=some (.agg cs)∧si I.zero cs.toList=true∧cs.size=I.size
 | .tuple ts=>I.cL=ts.toList∧I.cL≠[]∧I.lay=[]∧I.st=false
 | .slice el=>I.st=false∧I.cL=[]∧I.size=1∧I.elem=el∧(∃E,ti el=some E∧E.cL=[]∧0<E.size)∧z=some (.slice none 0 0)∧I.zero=[.nil]∧(∃k,I.lay=[k]∧k= .l)
 | .array n el=>I.st=false∧I.cL=[]∧I.size=32∧n=32∧I.elem=el∧(∃i,P.underlying el=some (.int .u8)∧P.info? el=some i∧i.size=1)∧I.lay=[.h]∧I.zero=[.hs kD.zero]∧z=some (.agg (br kD.zero).toArray)
 | .bool=>I.st=false∧I.cL=[]∧I.size=1∧I.lay=[.b]∧I.zero=[.p (.b false)]∧z=some (.bool false)
 | .int k=>I.st=false∧I.cL=[]∧I.size=1∧I.lay=[.i k]∧I.zero=[.p (.i k 0)]∧z=some (.int k 0)
 | .string=>I.st=false∧I.cL=[]∧I.size=1∧I.lay=[.s]∧I.zero=[.p (.s [])]∧ ∃b:ByteArray,z=some (.string b)∧b.data.toList=[]
 |_=>I.st=false∧I.cL=[]∧I.size=1∧I.lay=[.raw]∧ ∃v,z=some v∧v.oneCell'=true∧si I.zero [v]=true
def mX (ti:Nat→Option TI) (P:Program) (t:Nat) (I:TI):Prop:=
 ∃d i,P.underlying t=some d∧P.info? t=some i∧(I.cL=[]→i.size=I.size∧i.bytes=I.bytes)∧qS ti P I i.zero d
def kK (P:Program) (ti:Nat→Option TI):Prop:= ∀t I,ti t=some I→mX ti P t I
section
variable {P:Program} {c:Ctx} {Z:bM} {e:Env} {st:St} {a:Act} {w:World} {R:Type} {K:St→Option R} {r:R} {Q:Exit→Act→World→Prop} {o:Oper}
theorem et {x:Bool} {k:Option R} (h:cR x k=some r):x=true∧k=some r:=by
 cases x
 ·simp [cR] at h
 ·exact ⟨rfl,h⟩
theorem oM {α:Type} {x:Option α} {k:α→Option R} (h:bd x k=some r): ∃y,x=some y∧k y=some r:=by
 cases x with
 |none=>simp [bd] at h
 |some y=>exact ⟨y,rfl,h⟩
theorem K4 {l:List MV} {i:Int} {k:MV→Option R} (h:idx l i k=some r):0≤i∧ ∃y,l[i.toNat]? =some y∧k y=some r:=by
 unfold idx aaD at h
 by_cases hi:0≤i
 ·simp only [hi,if_true] at h
  cases hl:l[i.toNat]? with
  |none=>simp [hl] at h
  |some y=>exact ⟨hi,y,rfl,by simpa [hl] using h⟩
 ·simp [hi] at h
theorem mX.agg {ti:Nat→Option TI} {t:Nat} {I:TI} (h:mX ti P t I) (hc:I.cL=[]):
 (∃d,P.underlying t=some d∧d.isRow=true∧(I.st=true∨I.st=false∧I.size=32))∨(∃d,P.underlying t=some d∧d.isRow=false∧I.st=false∧I.size=1):=by
 obtain ⟨d,i,h1,h2,h3,h4⟩:=h
 cases d<;>simp only [qS] at h4<;>first
  |exact .inl ⟨_,h1,rfl,.inl h4.1⟩
  |exact .inl ⟨_,h1,rfl,.inr ⟨h4.1,h4.2.2.1⟩⟩
  |exact .inr ⟨_,h1,rfl,h4.1,h4.2.2.1⟩
  |exact absurd hc h4.2.1
theorem mX.info {ti:Nat→Option TI} {t:Nat} {I:TI} (h:mX ti P t I) (hc:I.cL=[]):
 ∃i,P.info? t=some i∧i.size=I.size∧i.bytes=I.bytes:=by
 obtain ⟨d,i,h1,h2,h3,h4⟩:=h
 exact ⟨i,h2,h3 hc⟩
theorem bO {t:Nat} {I:TI} (h:c.tv t=some I):c.ti t=some I∧I.cL=[]:=by
 unfold Ctx.tv at h
 cases hc:c.ti t with
 |none=>simp [hc] at h
 |some J=>
  cases hj:J.cL with
  |nil=>simp [hc,hj] at h;subst h;exact ⟨rfl,hj⟩
  |cons x y=>simp [hc,hj] at h
theorem Nv {s t:TypeId} {x:Operand} {I:TI} (ho:o.op= .convert s t x) (hI:c.ti t=some I) (hT:kK P c.ti) (hs: ∃d,P.underlying s=some d) {fk:Option FloatKind} (Jz: ∀k,fk=some k→P.underlying t=some (.float k)) (h:bX c Z e st a w)
 (hK:S2 I fk (aS c st x) (fun s=>bu c st o.dst s K)=some r):Rd P c Z K r e a w o (fun _=>True):=by
 obtain ⟨hx,_⟩:=h.eval x
 obtain ⟨ds,hds⟩:=hs
 obtain ⟨d,i,h1,h2,h3,h4⟩:=hT t I hI
 generalize aS c st x=s' at hx hK
 unfold S2 at hK
 split at hK
 ·rename_i k k' n ek DO hl
  have hd:d= .int k:=by
   cases d<;>simp only [qS,hl,ek,DO] at h4<;>simp_all
  subst hd
  refine iO h ?_ (tK _ _) trivial hK
  simp [execOp,ho,lK hx,convert,run_underlying hds,run_underlying h1,Conv.intToInt]
 ·rename_i l ek DO hl
  have hd:d= .string:=by
   cases d<;>simp only [qS,hl,ek,DO] at h4<;>simp_all
  subst hd
  obtain ⟨b,hb,rfl⟩:=Ej hx
  refine iO h ?_ (Xe b) trivial hK
  simp [execOp,ho,hb,convert,run_underlying hds,run_underlying h1]
 ·rename_i k x ek DO hl
  have hd:d= .int k:=by
   cases d<;>simp only [qS,hl,ek,DO] at h4<;>simp_all
  subst hd
  obtain ⟨n,hn,hK⟩:=oM hK
  obtain ⟨hr,hK⟩:=et hK
  have hr:=of_decide_eq_true hr
  refine iO h ?_ (tK _ _) trivial hK
  simp [execOp,ho,uR hx,convert,run_underlying hds,run_underlying h1,Conv.floatToInt,hn,hr]
 ·rename_i k n ek DO hl
  split at hK
  ·have GW:=Jz _ rfl
   refine iO h ?_ (Ek _ rfl) trivial hK
   simp [execOp,ho,lK hx,convert,run_underlying hds,run_underlying GW,Conv.intToFloat]
  ·simp at hK
 ·simp at hK
theorem Xh {op:BinOp} {k:IntKind} {x y:Int} {m:MV} {t:TypeId} (hm:Pg op k x y=some m):
 ∃v,(∀w:World,(binOp op t (.int k x) (.int k y)).run P w= .ok v w)∧ab e v (.sc (.p m)):=by
 cases op<;>simp only [Pg,Option.some.injEq,reduceCtorEq] at hm<;>subst hm
 ·exact ⟨_,by simp [binOp,Op.intArith],tK _ _⟩
 ·exact ⟨_,by simp [binOp,Op.intArith],tK _ _⟩
 ·exact ⟨_,by simp [binOp,Op.intArith],tK _ _⟩
 ·refine ⟨.bool (decide (x=y)),fun w=> ?_,yI _⟩;simp [binOp,Op.intCmp];rfl
 ·refine ⟨.bool (!decide (x=y)),fun w=> ?_,yI _⟩;simp [binOp,Op.intCmp];rfl
 ·exact ⟨.bool (decide (x<y)),by simp [binOp,Op.intCmp],yI _⟩
 ·exact ⟨.bool (decide (x≤y)),by simp [binOp,Op.intCmp],yI _⟩
 ·exact ⟨.bool (decide (y<x)),by simp [binOp,Op.intCmp],yI _⟩
 ·exact ⟨.bool (decide (y≤x)),by simp [binOp,Op.intCmp],yI _⟩
theorem toList_data (b:ByteArray):b.toList=b.data.toList:=by
 exact ByteArray.toList_eq b
theorem Xi {op:BinOp} {x y:ByteArray} {m:MV} {t:TypeId} (hm:Jn op x.data.toList y.data.toList=some m):
 ∃v,(∀w:World,(binOp op t (.string x) (.string y)).run P w= .ok v w)∧ab e v (.sc (.p m)):=by
 have aiF:(x.data.toList==y.data.toList)=decide (x.data.toList=y.data.toList):=by
  rw [Bool.eq_iff_iff];simp
 cases op<;>simp only [Jn,Option.some.injEq,reduceCtorEq] at hm<;>subst hm<;>
  exact ⟨_,fun w=>by simp only [binOp,Op.stringOp,toList_data,aiF];rfl,yI _⟩
theorem QF (b:ByteArray) (n:Nat):b[n]? =b.data.toList[n]? :=by
 by_cases h:n<b.size
 ·have h2:n<b.data.toList.length:=by simpa using h
  rw [getElem?_pos b n h,List.getElem?_eq_getElem h2]
  rfl
 ·have h2: ¬n<b.data.toList.length:=by simpa using h
  rw [getElem?_neg b n h,List.getElem?_eq_none (by omega)]
theorem zD (x:kD) (n:Nat) (h:n<32):(br x)[n]? =some (.int .u8 ((x.l.getD n 0).toNat:Int)):=by
 have hl:n<x.l.length:=by rw [x.h];exact h
 simp [br,List.getElem?_map,List.getD,List.getElem?_eq_getElem hl]
theorem adJ {t:TypeId} {x y:Operand} {I:TI} (ho:o.op= .index t x y) (hI:c.ti t=some I) (hT:kK P c.ti) (h:bX c Z e st a w)
 (hK:ixK I (aS c st x) (aS c st y) (fun s=>bu c st o.dst s K)=some r):Rd P c Z K r e a w o (fun _=>True):=by
 obtain ⟨hx,_⟩:=h.eval x
 obtain ⟨hy,_⟩:=h.eval y
 obtain ⟨d,i,h1,h2,h3,h4⟩:=hT t I hI
 generalize aS c st x=sx at hx hK
 generalize aS c st y=sy at hy hK
 unfold ixK at hK
 split at hK
 ·rename_i l k n ek hl
  have hd:d= .string:=by
   cases d<;>simp only [qS,hl,ek] at h4<;>simp_all
  subst hd
  cases hc:decide ((0:Int)≤n∧n<(l.length:Int)) with
  |false=>simp [cR,hc] at hK
  |true=>
   simp only [cR,hc] at hK
   obtain ⟨Xj,JA⟩:=of_decide_eq_true hc
   obtain ⟨b,hb,rfl⟩:=Ej hx
   have da:n.toNat<b.data.toList.length:=by omega
   refine iO h ?_ (tK .u8 ((b.data.toList.getD n.toNat 0).toNat:Int)) trivial hK
   have hg:b[n.toNat]? =some (b.data.toList.getD n.toNat 0):=by
    rw [QF,List.getElem?_eq_getElem da];simp [List.getD,List.getElem?_eq_getElem da]
   simp [execOp,ho,hb,lK hy,Instr.index,run_underlying h1,asIntOf,Xj,hg]
 ·rename_i b k n ek hl
  cases d<;>simp only [qS,hl,ek] at h4<;>first|(exfalso;simp_all;done)|skip
  rename_i len el
  cases hc:decide ((0:Int)≤n∧n<32) with
  |false=>simp [cR,hc] at hK
  |true=>
   simp only [cR,hc] at hK
   obtain ⟨Xj,JA⟩:=of_decide_eq_true hc
   simp only [ab] at hx
   obtain ⟨_,_,_,rfl,_,⟨ie,hu,nU,wL⟩,_⟩:=h4
   refine iO h ?_ (tK .u8 ((b.l.getD n.toNat 0).toNat:Int)) trivial hK
   have hg:=zD b n.toNat (by omega)
   have hg':(br b).toArray[n.toNat]? =some (.int .u8 ((b.l.getD n.toNat 0).toNat:Int)):=by simpa using hg
   simp [execOp,ho,hx,lK hy,Instr.index,run_underlying h1,asIntOf,Xj,JA,Go.part,isAgg,run_underlying hu,Go.sizeOf,typeInfo,nU,wL,hg,hg']
 ·simp at hK
def Nw (P:Program) (ti:Nat→Option TI):Prop:= ∀t I,ti t=some I→I.cL=[]→ ∀(e:Env) (w:World) (vx vy:Value) (sx sy:Slot) (b:Bool),ab e vx sx→ab e vy sy→
 eL I.lay (aP sx)=true→eL I.lay (aP sy)=true→lP I.st sx=true→lP I.st sy=true→iX (aP sx) (aP sy)=some b→
 (∀k n k' n',sx= .sc (.p (.i k n))→sy= .sc (.p (.i k' n'))→False)→(∀l l',sx= .sc (.p (.s l))→sy= .sc (.p (.s l'))→False)→
 (Op.equal t vx vy).run P w= .ok b w∧ ∀(x y:Operand) (op:BinOp),(eqGuard op t x y vx vy).run P w= .ok () w∧(op= .eql→binOp op t vx vy=(do pure (.bool (←Op.equal t vx vy))))∧(op= .neq→binOp op t vx vy=(do pure (.bool (!(←Op.equal t vx vy)))))
theorem Ts {op:BinOp} {t t':TypeId} {x y:Operand} (ho:o.op= .binOp op t x y t') (h:bX c Z e st a w)
 (hE:Nw P c.ti)
 (hK:aaE (c.tv t) op (aS c st x) (aS c st y) (fun s=>bu c st o.dst s K)=some r):Rd P c Z K r e a w o (fun _=>True):=by
 obtain ⟨hx,_⟩:=h.eval x
 obtain ⟨hy,_⟩:=h.eval y
 generalize hsx:aS c st x=sx at hx hK
 generalize hsy:aS c st y=sy at hy hK
 have bT: ∀v,(∀w:World,(binOp op t (a.eval x) (a.eval y)).run P w= .ok v w)→(∀cs,a.eval x≠ .agg cs)→a.eval x≠ .nilIface→ ∀w:World,(execOp a.eval o).run P w= .ok (.value v) w:=by
  intro v hv hna hni w
  have hg:(eqGuard op t x y (a.eval x) (a.eval y)).run P w= .ok () w:=by
   generalize a.eval x=va at hna hni
   generalize a.eval y=vb
   have hm: ∀(u v:Value),u=va→(∀cs,u≠ .agg cs)→u≠ .nilIface→(eqGuard op t x y u v).run P w= .ok () w:=by
    intro u v _ h1 h2
    cases u<;>first
     |exact absurd rfl h2
     |exact absurd rfl (h1 _)
     |(cases op<;>rfl)
   exact hm va vb rfl hna hni
  simp [execOp,ho,hg,hv]
 unfold aaE at hK
 split at hK
 ·rename_i k n k' n'
  have e1:=lK hx
  have e2:=lK hy
  split at hK
  ·cases hk:decide (k=k') with
   |false=>simp [hk] at hK
   |true=>
    have hk:=of_decide_eq_true hk
    subst hk
    simp only [decide_true,cond_true] at hK
    cases hz:decide (n'=0) with
    |true=>simp [cR,hz] at hK
    |false=>
     simp only [cR,hz,Bool.not_false] at hK
     have hz:=of_decide_eq_false hz
     refine iO h (bT _ ?_ (by simp [e1]) (by simp [e1])) (tK _ _) trivial hK
     simp [binOp,e1,e2,Op.intDiv,hz]
  ·cases hk:decide (k=k') with
   |false=>simp [hk] at hK
   |true=>
    have hk:=of_decide_eq_true hk
    subst hk
    simp only [decide_true,cond_true] at hK
    cases hz:decide (n'=0) with
    |true=>simp [cR,hz] at hK
    |false=>
     simp only [cR,hz,Bool.not_false] at hK
     have hz:=of_decide_eq_false hz
     refine iO h (bT _ ?_ (by simp [e1]) (by simp [e1])) (tK _ _) trivial hK
     simp [binOp,e1,e2,Op.intDiv,hz]
  ·cases hz:decide ((0:Int)≤n') with
   |false=>simp [cR,hz] at hK
   |true=>
    simp only [cR,hz] at hK
    have hz:=of_decide_eq_true hz
    refine iO h (bT _ ?_ (by simp [e1]) (by simp [e1])) (tK _ _) trivial hK
    have: ¬n'<0:=by omega
    simp [binOp,e1,e2,Op.shift,this]
  ·cases hz:decide ((0:Int)≤n') with
   |false=>simp [cR,hz] at hK
   |true=>
    simp only [cR,hz] at hK
    have hz:=of_decide_eq_true hz
    refine iO h (bT _ ?_ (by simp [e1]) (by simp [e1])) (tK _ _) trivial hK
    have: ¬n'<0:=by omega
    simp [binOp,e1,e2,Op.shift,this]
  ·cases hk:decide (k=k') with
   |false=>simp [hk] at hK
   |true=>
    have hk:=of_decide_eq_true hk
    subst hk
    simp only [decide_true,cond_true] at hK
    cases hm:Pg op k n n' with
    |none=>simp [hm] at hK
    |some m=>
     simp only [hm] at hK
     obtain ⟨v,hv,hr⟩:=Xh (P:=P) (e:=e) (t:=t) hm
     exact iO h (bT v (by rw [e1,e2];exact hv) (by simp [e1]) (by simp [e1])) hr trivial hK
 ·rename_i l l'
  obtain ⟨b,hb,rfl⟩:=Ej hx
  obtain ⟨b',BM,rfl⟩:=Ej hy
  split at hK
  ·obtain ⟨hz,hK⟩:=et hK
   ·have hz:=of_decide_eq_true hz
    have hr:ab e (.string (b++b')) (.sc (.p (.s (b.data.toList++b'.data.toList)))):=by
     have:=Xe (e:=e) (b++b')
     simpa [ByteArray.data_append] using this
    refine iO h (bT _ ?_ (by simp [hb]) (by simp [hb])) hr trivial hK
    have hs: ¬(((b.size+b'.size:Nat):Int)>IntKind.i64.max):=by
     have h1:b.size=b.data.toList.length:=by simp
     have h2:b'.size=b'.data.toList.length:=by simp
     have:IntKind.i64.max=9223372036854775807:=by decide
     rw [this];omega
    intro w
    simp only [binOp,hb,BM,Op.stringOp,hs,if_false]
    rfl
  ·cases hm:Jn op b.data.toList b'.data.toList with
   |none=>simp [hm] at hK
   |some m=>
    simp only [hm] at hK
    obtain ⟨v,hv,hr⟩:=Xi (P:=P) (e:=e) (t:=t) hm
    exact iO h (bT v (by rw [hb,BM];exact hv) (by simp [hb]) (by simp [hb])) hr trivial hK
 ·have e1:=uR hx
  have e2:=uR hy
  obtain ⟨r',Xk,hK⟩:=oM hK
  refine iO h (bT _ ?_ (by simp [e1]) (by simp [e1])) (Ek (.float .f64 r') rfl) trivial hK
  intro w
  cases op<;>simp only [adx,reduceCtorEq] at Xk<;>simp [binOp,e1,e2,Op.floatArith,Xk]
 ·rename_i JA El hn3
  split at hK
  ·rename_i I hI
   obtain ⟨M2,Po⟩:=bO hI
   cases hf:eL I.lay (aP sx)&&eL I.lay (aP sy)&&(lP I.st sx&&lP I.st sy) with
   |false=>simp [hf] at hK
   |true=>
    simp only [hf,cond_true] at hK
    simp only [Bool.and_eq_true] at hf
    obtain ⟨hf,Ny⟩:=hf
    split at hK
    ·cases hm:iX (aP sx) (aP sy) with
     |none=>simp [hm] at hK
     |some b=>
      simp only [hm] at hK
      refine iO h ?_ (yI b) trivial hK
      intro w
      obtain ⟨h1,h2⟩:=hE t I M2 Po e w _ _ sx sy b hx hy hf.1 hf.2 Ny.1 Ny.2 hm JA El
      have:=(h2 x y .eql).1
      simp [execOp,ho,this,(h2 x y .eql).2.1 rfl,h1]
    ·cases hm:iX (aP sx) (aP sy) with
     |none=>simp [hm] at hK
     |some b=>
      simp only [hm] at hK
      refine iO h ?_ (yI (!b)) trivial hK
      intro w
      obtain ⟨h1,h2⟩:=hE t I M2 Po e w _ _ sx sy b hx hy hf.1 hf.2 Ny.1 Ny.2 hm JA El
      have:=(h2 x y .neq).1
      simp [execOp,ho,this,(h2 x y .neq).2.2 rfl,h1]
    ·simp at hK
  ·simp at hK
end
end Dn
/-
  Lengths, parts, places, loads. Conditions: none.
-/
set_option linter.unusedSimpArgs false
set_option linter.unusedVariables false
namespace Dn
open Go
section
variable {P:Program} {c:Ctx} {Z:bM} {e:Env} {st:St} {a:Act} {w:World} {R:Type} {K:St→Option R} {r:R} {Q:Exit→Act→World→Prop} {o:Oper}
theorem cell_of {bg:Nat} {arr:Array Value} {T:TypeId} {fr:Nat×Nat} (h:w.heap[bg]? =some (.cells arr T fr)) (j:Nat):w.cell? ⟨bg,j,none⟩=arr[j]? :=by
 simp [World.cell?,h]
theorem nq {t:TypeId} {I:TI} {bg off:Nat} {vs:List Value} (hr:mX c.ti P t I) (hc:I.cL=[]) (hl:vs.length=I.size) (hm:w.rangeAt bg off vs):
 ((I.st=true∨I.size=32)∧ ∀w:World,w.rangeAt bg off vs→(Instr.loadAt t (.pointer (some ⟨bg,off,none⟩))).run P w= .ok (.agg vs.toArray) w)∨
 (I.st=false∧ ∃v,vs=[v]∧ ∀w:World,w.rangeAt bg off vs→(Instr.loadAt t (.pointer (some ⟨bg,off,none⟩))).run P w= .ok v w):=by
 obtain ⟨i,hi,hs,_⟩:=hr.info hc
 rcases hr.agg hc with ⟨d,hu,hd,hh⟩|⟨d,hu,hd,h1,h2⟩
 ·refine .inl ⟨hh.imp id (·.2),fun w hm=> ?_⟩
  exact run_loadAt_mid w bg off t vs d hm hu hd (by simp [hi,hs,hl])
 ·refine .inr ⟨h1,?_⟩
  rw [h2] at hl
  obtain ⟨v,rfl⟩:=List.length_eq_one_iff.1 hl
  refine ⟨v,rfl,fun w hm=> ?_⟩
  have qd:w.cell? ⟨bg,off,none⟩=some v:=hm 0 v rfl
  have hag:(isAgg t).run P w= .ok false w:=by
   unfold isAgg
   rw [Sem.run_bind,run_underlying hu w]
   cases d<;>simp_all
  simp [Instr.loadAt,Instr.sureAddr,loadVar,hag,qd]
theorem aZ.slot {vs:List Value} {l:aI} {v:Value} (h:aZ e vs l) (hv:(vs=[v]∧l.w=1)∨(v= .agg vs.toArray∧l.w=32)):ab e v (.sc l):=by
 rcases hv with ⟨rfl,hw⟩|⟨rfl,hw⟩
 ·cases l<;>simp [ab,aI.w] at hw⊢ <;>exact h
 ·cases l<;>simp [aI.w] at hw
  simp only [ab]
  have:vs=br _:=h
  rw [this]
theorem lq {t:TypeId} {I:TI} {cs:List aI} {bg base off:Nat} {vs:List Value} {s:Slot} {K':Slot→Option R} (hr:mX c.ti P t I) (hc:I.cL=[])
 (hv:ax e vs cs) (hm:w.rangeAt bg base vs) (hK:jN I cs off K'=some r):
 ∃v s,(∀w:World,w.rangeAt bg base vs→(Instr.loadAt t (.pointer (some ⟨bg,base+off,none⟩))).run P w= .ok v w)∧ab e v s∧ct st.fr s∧K' s=some r:=by
 unfold jN at hK
 cases ek:I.st with
 |true=>
  simp only [ek,cond_true] at hK
  cases hp:Dn.part cs off I.size with
  |none=>simp [hp] at hK
  |some ds=>
   simp only [hp] at hK
   obtain ⟨v1,v2,v3,rfl,h1,h2,h3⟩:=HV hp hv
   have Pp: ∀w:World,w.rangeAt bg base (v1++v2++v3)→w.rangeAt bg (base+off) v2:=by
    intro w hm j v hj
    have SH:j<v2.length:=(List.getElem?_eq_some_iff.1 hj).1
    have:=hm (off+j) v (by rw [List.append_assoc,List.getElem?_append_right (by omega),List.getElem?_append_left (by omega)];rw [show off+j-v1.length=j by omega];exact hj)
    rwa [←Nat.add_assoc] at this
   rcases nq hr hc h2 (Pp w hm) with ⟨_,bT⟩|⟨hf,_⟩
   ·refine ⟨_,.ag ds,fun w hm=>bT w (Pp w hm),?_,trivial,hK⟩
    simp only [ab]
    exact ⟨_,rfl,by simpa using h3⟩
   ·rw [ek] at hf;cases hf
 |false=>
  simp only [ek,cond_false] at hK
  cases hp:cut cs off with
  |none=>simp [hp] at hK
  |some ds=>
   cases ds with
   |nil=>simp [hp] at hK
   |cons l ls=>
    simp only [hp] at hK
    cases hb:Nat.beq l.w I.size with
    |false=>simp [hb] at hK
    |true=>
     simp only [hb,cond_true] at hK
     have hw:=Nat.eq_of_beq_eq_true hb
     obtain ⟨v1,v2,rfl,h1,h2⟩:=wU hp hv
     obtain ⟨u,u2,rfl,h3,h4⟩:=h2
     have Pp: ∀w:World,w.rangeAt bg base (v1++(u++u2))→w.rangeAt bg (base+off) u:=by
      intro w hm j v hj
      have SH:j<u.length:=(List.getElem?_eq_some_iff.1 hj).1
      have:=hm (off+j) v (by rw [List.getElem?_append_right (by omega),List.getElem?_append_left (by omega)];rw [show off+j-v1.length=j by omega];exact hj)
      rwa [←Nat.add_assoc] at this
     rcases nq hr hc (by rw [h3.width,hw]) (Pp w hm) with ⟨hh,bT⟩|⟨_,v,QG,bT⟩
     ·refine ⟨_,.sc l,fun w hm=>bT w (Pp w hm),h3.slot (.inr ⟨rfl,?_⟩),trivial,hK⟩
      rcases hh with hh|hh
      ·rw [ek] at hh;cases hh
      ·rw [hw,hh]
     ·refine ⟨_,.sc l,fun w hm=>bT w (Pp w hm),h3.slot (.inl ⟨QG,?_⟩),trivial,hK⟩
      rw [←h3.width,QG];rfl
theorem ba.at {key:Nat→Nat} {φ:Ph} {size:Nat} {xs:List MV}: ∀{cs:List Value} {i:Nat} {x:MV},ba key φ size cs xs→xs[i]? =some x→
 ∃a v b,cs=a++v++b∧a.length=i *size∧v.length=size∧ln key φ v x:=by
 induction xs with
 |nil=>intro cs i x _ hx;simp at hx
 |cons y ys ih=>
  intro cs i x h hx
  obtain ⟨v,q,rfl,hl,hr,he⟩:=h
  cases i with
  |zero=>simp at hx;subst hx;exact ⟨[],v,q,by simp,by simp,hl,hr⟩
  |succ i=>
   obtain ⟨a,u,b,rfl,h1,h2,h3⟩:=ih he (by simpa using hx)
   exact ⟨v++a,u,b,by simp,by simp [hl,h1,Nat.succ_mul,Nat.add_comm],h2,h3⟩
theorem gQ.leaves {ms:List MV}: ∀{vs:List Value} {cs:List aI},gQ e.key e.φ vs ms→bH cs=some ms→(∀m,aI.p m∈cs→m.one=true)→ax e vs cs:=by
 induction ms with
 |nil=>
  intro vs cs h hc _
  cases h
  cases cs with
  |nil=>rfl
  |cons l r=>
   cases hr:bH r<;>cases l<;>simp [bH,hr] at hc
 |cons m ms ih=>
  intro vs cs h hc ho
  cases cs with
  |nil=>simp [bH] at hc
  |cons l r=>
   generalize yJ:vs=M3 at h
   cases h with
   |cons v _ vs _ h1 h2=>
   subst yJ
   cases hr:bH r with
   |none=>cases l<;>simp [bH,hr] at hc
   |some q=>
    have cA: ∀m,aI.p m∈r→m.one=true:=fun m hm=>ho m (by simp [hm])
    cases l<;>simp [bH,hr] at hc
    ·obtain ⟨rfl,rfl⟩:=hc
     exact ⟨v,vs,rfl,⟨ho _ (by simp),h1⟩,ih h2 hr cA⟩
    ·obtain ⟨rfl,rfl⟩:=hc
     refine ⟨v,vs,rfl,?_,ih h2 hr cA⟩
     generalize hv:v=v' at h1
     cases h1
     exact rfl
theorem ln.Em {vs:List Value} {x:MV} {b:Bool} {cs:List aI} (h:ln e.key e.φ vs x) (hc:Ec b x cs):ax e vs cs:=by
 obtain ⟨⟨ms,h1,h2⟩,h3⟩:=hc
 cases b with
 |true=>
  cases ms<;>simp [tc] at h2<;>subst h2<;>(generalize hv:vs=v' at h;cases h;subst hv;rename_i hh;exact hh.leaves h1 h3)
 |false=>
  cases ms with
  |nil=>simp [tc] at h2
  |cons m ms=>
   cases ms with
   |cons y ys=>simp [tc] at h2
   |nil=>
    simp [tc] at h2
    subst h2
    have:gQ e.key e.φ (vs++[]) [m]:= .cons vs m [] [] h .nil
    rw [List.append_nil] at this
    exact this.leaves h1 h3
theorem Tt {t:TypeId} {x:Operand} {I:TI} {cs:List aI} {off:Nat} (ho:o.op= .load t x) (hI:c.tv t=some I) (hT:kK P c.ti) (h:bX c Z e st a w) (DP:aS c st x= .rp cs off)
 (hK:jN I cs off (fun s=>bu c st o.dst s K)=some r):Rd P c Z K r e a w o (fun w'=> ∀b q v,e.φ b q=some v→w'.cell? ⟨b,q,none⟩=some v):=by
 obtain ⟨hx,oL⟩:=h.eval x
 obtain ⟨rX,hc⟩:=bO hI
 have hr:=hT t I rX
 rw [DP] at hx
 simp only [ab] at hx
 obtain ⟨bg,q,vs,hx,qe,_,BN⟩:=hx
 have hm: ∀w':World,(∀b q v,e.φ b q=some v→w'.cell? ⟨b,q,none⟩=some v)→w'.rangeAt bg q vs:=by
  intro w' hi j v hj
  have SH:j<vs.length:=(List.getElem?_eq_some_iff.1 hj).1
  exact hi _ _ _ (by rw [BN j SH];exact hj)
 obtain ⟨v,s,h1,h2,h3,h4⟩:=lq (st:=st) (s:= .skip) hr hc qe (hm w h.nT) hK
 refine Nu (fun w' hi=> ?_) h (.refl _ _ _) (.of h2 h3) h4
 simp [execOp,ho,hx,h1 w' (hm w' hi)]
theorem Xl {t:TypeId} {x:Operand} {I:TI} (ho:o.op= .load t x) (hI:c.tv t=some I) (hT:kK P c.ti) (h:bX c Z e st a w)
 (hK:ldK st I (aS c st x) (fun s=>bu c st o.dst s K)=some r):Rd P c Z K r e a w o (dv w):=by
 obtain ⟨hx,oL⟩:=h.eval x
 obtain ⟨rX,hc⟩:=bO hI
 have hr:=hT t I rX
 have Xm: ∀v s,(∀w':World,dv w w'→(Instr.loadAt t (a.eval x)).run P w'= .ok v w')→ab e v s→ct st.fr s→bu c st o.dst s K=some r→Rd P c Z K r e a w o (dv w):=by
  intro v s h1 h2 h3 h4
  refine Nu (fun w' hg=> ?_) h (.refl _ _ _) (.of h2 h3) h4
  simp [execOp,ho,h1 w' hg]
 have keep: ∀{w':World} {bg off:Nat} {vs:List Value},dv w w'→w.rangeAt bg off vs→w'.rangeAt bg off vs:=by
  intro w' bg off vs hg hm j v hj
  exact hg.cell (hm j v hj)
 generalize aS c st x=s at hx hK oL
 unfold ldK at hK
 split at hK
 ·rename_i root off
  simp only [ab] at hx
  have mb:=h.slot root
  split at hK
  ·rename_i cs rY
   rw [rY] at mb
   have vS:eP cs=false:=by cases hq:eP cs<;>simp_all
   simp only [vS,cond_false] at hK
   obtain ⟨_,td⟩:=mb
   obtain ⟨arr,T,cW,qe⟩:=td.cells vS
   have hm:w.rangeAt (e.B root) 0 arr.toList:=by
    intro j v hj
    rw [Nat.zero_add,cell_of cW];simpa using hj
   obtain ⟨v,s,h1,h2,h3,h4⟩:=lq (st:=st) (s:= .skip) hr hc qe hm hK
   rw [Nat.zero_add] at h1
   exact Xm v s (fun w' hg=>by rw [hx];exact h1 w' (keep hg hm)) h2 h3 h4
  ·simp at hK
 ·rename_i cs off
  simp only [ab] at hx
  obtain ⟨bg,q,vs,hx,qe,_,BN⟩:=hx
  have hm:w.rangeAt bg q vs:=by
   intro j v hj
   have SH:j<vs.length:=(List.getElem?_eq_some_iff.1 hj).1
   exact h.nT _ _ _ (by rw [BN j SH];exact hj)
  obtain ⟨v,s,h1,h2,h3,h4⟩:=lq (st:=st) (s:= .skip) hr hc qe hm hK
  exact Xm v s (fun w' hg=>by rw [hx];exact h1 w' (keep hg hm)) h2 h3 h4
 ·rename_i f i off b cs
  cases hf:aO st.aV f with
  |none=>simp [hf] at hK
  |some o'=>
   simp only [hf] at hK
   simp only [ab] at hx
   obtain ⟨bg,cap,hE,⟨x,hxi,WM⟩,hx⟩:=hx o' (by rw [h.m];exact hf)
   obtain ⟨J,cells,hJ,ZJ,dK,iP,_⟩:=(h.iT f o' hf).row
   obtain ⟨p1,v1,p2,rfl,DQ,wK,eQ⟩:=iP.at hxi
   have qe:=eQ.Em WM
   rw [hE] at dK
   have qd:=dK.cells (g:=bg) rfl
   have hm:w.rangeAt bg (i *wP cs) v1:=by
    intro j v hj
    have SH:j<v1.length:=(List.getElem?_eq_some_iff.1 hj).1
    have:=qd (i *J.size+j) v (by rw [List.append_assoc,List.getElem?_append_right (by omega),List.getElem?_append_left (by omega)];rw [show i *J.size+j-p1.length=j by omega];exact hj)
    rw [Addr.add_mid,Nat.zero_add] at this
    rw [←qe.width,wK];exact this
   obtain ⟨v,s,h1,h2,h3,h4⟩:=lq (st:=st) (s:= .skip) hr hc qe hm hK
   exact Xm v s (fun w' hg=>by rw [hx];exact h1 w' (keep hg hm)) h2 h3 h4
 ·rename_i root off i
  simp only [ab] at hx
  obtain ⟨hx,Nz⟩:=hx
  have mb:=h.slot root
  cases hb:I.st||!Nat.beq I.size 1 with
  |true=>simp [hb] at hK
  |false=>
   simp only [hb,cond_false] at hK
   simp only [Bool.or_eq_false_iff,Bool.not_eq_false'] at hb
   have qT:=Nat.eq_of_beq_eq_true hb.2
   split at hK
   ·rename_i cs rY
    rw [rY] at mb
    have vS:eP cs=false:=by cases hq:eP cs<;>simp_all
    simp only [vS,cond_false] at hK
    obtain ⟨_,td⟩:=mb
    obtain ⟨arr,T,cW,qe⟩:=td.cells vS
    split at hK
    ·rename_i b ls aaU
     obtain ⟨v1,v2,aiG,h1,h2⟩:=wU aaU qe
     obtain ⟨u,u2,rfl,h3,h4⟩:=h2
     have h3:u=br b:=h3
     subst h3
     have hg:=zD b i Nz
     have hlen:=cO b
     have hm:w.rangeAt (e.B root) (off+i) [.int .u8 ((b.l.getD i 0).toNat:Int)]:=by
      intro j v hj
      cases j with
      |succ j=>simp at hj
      |zero=>
       simp at hj
       rw [Nat.add_zero,cell_of cW]
       have:arr[off+i]? =arr.toList[off+i]? :=by simp
       rw [this,aiG,List.getElem?_append_right (by omega),List.getElem?_append_left (by omega),show off+i-v1.length=i by omega,hg,←hj]
       simp [List.getD]
     rcases nq hr hc (by simp [qT]) hm with ⟨hh,_⟩|⟨_,v,QG,bT⟩
     ·rcases hh with hh|hh
      ·rw [hb.1] at hh;cases hh
      ·omega
     ·simp at QG
      subst QG
      exact Xm _ _ (fun w' hg=>by rw [hx];exact bT w' (keep hg hm)) (tK _ _) trivial hK
    ·simp at hK
   ·simp at hK
 ·simp at hK
theorem QH {t:TypeId} {x:Operand} {f:Nat} {I:TI} (ho:o.op= .fieldAddr t x f) (hI:c.tv t=some I) (hT:kK P c.ti) (h:bX c Z e st a w)
 (hK:S3 st I f (aS c st x) (fun s=>bu c st o.dst s K)=some r):Rd P c Z K r e a w o (fun _=>True):=by
 obtain ⟨hx,oL⟩:=h.eval x
 obtain ⟨rX,hc⟩:=bO hI
 obtain ⟨d,i,h1,h2,h3,h4⟩:=hT t I rX
 have key: ∀q bg off,I.st=true→I.wu[f]? =some q→a.eval x= .pointer (some ⟨bg,off,none⟩)→
  ∀w:World,(execOp a.eval o).run P w= .ok (.value (.pointer (some ⟨bg,off+q,none⟩))) w:=by
  intro q bg off ek hq hv w
  cases d<;>simp only [qS] at h4
  case struct fs=>
   obtain ⟨_,_,_,ZK,cA,SI,_⟩:=h4
   rw [←ZK,List.getElem?_map] at hq
   cases hf:fs.toList[f]? with
   |none=>simp [hf] at hq
   |some fl=>
    simp [hf] at hq
    subst hq
    have Pq:fs[f]? =some fl:=by simpa using hf
    obtain ⟨J,hJ,ZJ,hJs⟩:=SI f fl Pq
    obtain ⟨ij,NA,hs,_⟩:=(hT _ _ hJ).info ZJ
    have hz:ij.size≠0:=by omega
    simp [execOp,ho,hv,Instr.fieldAt,run_underlying h1,Pq,Instr.sureAddr,fieldPlace,Go.sizeOf,typeInfo,NA,hz,Addr.add_mid]
  all_goals (exfalso;simp_all)
 generalize aS c st x=s at hx hK oL
 unfold S3 at hK
 split at hK
 ·rename_i q r' o' ek hq
  simp only [ab] at hx
  refine iO (s:= .ptr r' (o'+q)) h (key q _ _ ek hq hx) ?_ oL hK
  simp only [ab]
 ·rename_i q cs o' ek hq
  simp only [ab] at hx
  obtain ⟨bg,b,vs,hx,hh⟩:=hx
  refine iO (s:= .rp cs (o'+q)) h (key q _ _ ek hq hx) ?_ trivial hK
  simp only [ab]
  exact ⟨bg,b,vs,by rw [Nat.add_assoc],hh⟩
 ·rename_i q g i' o' b cs ek hq
  cases hf:aO st.aV g with
  |none=>simp [hf] at hK
  |some w'=>
   simp only [hf] at hK
   simp only [ab] at hx
   obtain ⟨bg,cap,h5,h6,h7⟩:=hx w' (by rw [h.m];exact hf)
   refine iO (s:= .ep g i' (o'+q) b cs) h (key q _ _ ek hq h7) ?_ trivial hK
   simp only [ab]
   intro o2 cA
   rw [h.m,hf] at cA
   cases cA
   exact ⟨bg,cap,h5,h6,by rw [Nat.add_assoc]⟩
 ·simp at hK
theorem aaV {x:Operand} {k:Nat} (ho:o.op= .extract x k) (h:bX c Z e st a w)
 (hK:aaJ (aS c st x) k (fun s=>bu c st o.dst s K)=some r):Rd P c Z K r e a w o (fun _=>True):=by
 obtain ⟨hx,oL⟩:=h.eval x
 generalize aS c st x=s at hx hK
 unfold aaJ at hK
 split at hK
 ·rename_i vs
  simp only [ab] at hx
  obtain ⟨arr,hv,hs⟩:=hx
  cases hk:vs[k]? with
  |none=>simp [hk] at hK
  |some s=>
   simp only [hk] at hK
   have: ∀(k:Nat) (vs:List Slot) (l:List Value),jO e l vs→vs[k]? =some s→ ∃v,l[k]? =some v∧ab e v s∧zd s=true:=by
    intro k
    induction k with
    |zero=>
     intro vs l hl hk
     cases vs with
     |nil=>simp at hk
     |cons y ys=>
      simp at hk
      subst hk
      simp only [jO] at hl
      obtain ⟨v,q,rfl,h1,h2,_⟩:=hl
      exact ⟨v,rfl,h1,h2⟩
    |succ k ih=>
     intro vs l hl hk
     cases vs with
     |nil=>simp at hk
     |cons y ys=>
      simp only [jO] at hl
      obtain ⟨v,q,rfl,_,_,h3⟩:=hl
      obtain ⟨u,h4,h5⟩:=ih ys q h3 (by simpa using hk)
      exact ⟨u,by simpa using h4,h5⟩
   obtain ⟨v,WN,h1,h2⟩:=this k vs arr.toList hs hk
   have hv3:arr[k]? =some v:=by simpa using WN
   refine iO h ?_ h1 ?_ hK
   ·simp [execOp,ho,hv,Instr.extract,hv3]
   ·cases s<;>simp [zd] at h2<;>trivial
 ·simp at hK
end
end Dn
/-
  Operations that make memory: variables. Conditions: none.
-/
set_option linter.unusedSimpArgs false
set_option linter.unusedVariables false
namespace Dn
open Go
section
variable {P:Program} {c:Ctx} {Z:bM} {e:Env} {st:St} {a:Act} {w w':World} {R:Type} {K:St→Option R} {r:R} {Q:Exit→Act→World→Prop} {o:Oper}
theorem dv.refl (w:World):dv w w:=⟨Nat.le_refl _,fun _ _=>rfl,.refl _⟩
theorem dv.alloc (w:World) (cs:Array Value) (t:TypeId):dv w (w.alloc (.cells cs t)):=⟨by simp,fun b hb=>Ah w _ b hb,.alloc w cs t⟩
theorem dv.aiH (g:dv w w') {base:Nat} {t:TypeId} {size:Nat} {v:Value} {n:Nat} {xs:List Value} (h:w.ownsRow base t size v n xs):w'.ownsRow base t size v n xs:=by
 refine ⟨h.1,?_⟩
 rcases h.2 with h|⟨b,cap,di,h1,h2,h3,h4⟩
 ·exact .inl h
 ·exact .inr ⟨b,cap,di,h1,h2,by rw [g.BB b (bA h3)];exact h3,h4⟩
theorem sm.grow (g:dv w w') {bg:Nat} {cs:List aI} (h:sm Z e w bg cs):sm Z e w' bg cs:=by
 obtain ⟨o,h1,h2⟩:=h.obj
 exact ⟨h.cn,⟨o,by rw [g.BB _ (bA h1)];exact h1,h2⟩,h.free⟩
theorem db.grow (g:dv w w') {v:Value} {f:nm} (h:db c Z e w v f):db c Z e w' v f:=by
 obtain ⟨I,cells,h1,h2,h3,h4,h5⟩:=h.row
 exact ⟨I,cells,h1,h2,g.aiH h3,h4,h5⟩
theorem bX.grow (g:dv w w') (h:bX c Z e st a w):bX c Z e st a w':=by
 refine ⟨h.defers,h.size,h.m,h.key,h.nodup,?_,h.root,fun f o ho=>(h.iT f o ho).grow g,h.bb,h.bf,h.ff,fun b o v hv=>g.cell (h.nT b o v hv),fun b hb=>h.cn b (Nat.le_trans g.size hb)⟩
 intro t
 have hs:=h.slot t
 generalize ao st.fr t=s at hs
 cases s<;>simp only [bW] at hs⊢ <;>first|exact hs|exact ⟨hs.1,hs.2.grow g⟩
theorem dv.trans (g:dv w w') (hz: ∀b,w.heap.size≤b→Z b) (φ:Ph):Trans Z φ w φ w':=
 ⟨.refl φ,fun b _ hl=>g.BB b hl,fun _ _ _=>rfl,g.size,g.rest⟩
theorem QI {l:aI} {vs:List Value} (h:Th l vs=true):aZ e vs l:=by
 unfold Th at h
 split at h
 ·simp at h;subst h;exact ⟨rfl,.b _⟩
 ·simp at h;obtain ⟨rfl,rfl⟩:=h;exact ⟨rfl,.i _ _⟩
 ·simp at h;subst h;exact ⟨rfl,.s _⟩
 ·split at h
  ·exact ⟨rfl,.raw _ rfl⟩
  ·exact ⟨rfl,.raw _ rfl⟩
  ·exact ⟨rfl,.raw _ rfl⟩
  ·simp at h
 ·rfl
 ·exact ⟨_,rfl,h⟩
 ·rename_i x
  simp only [Bool.and_eq_true,beq_iff_eq] at h
  obtain ⟨h1,h2⟩:=h
  show vs=br x
  apply List.ext_getElem?
  intro j
  by_cases hj:j<32
  ·rw [zD x j hj]
   have hjv:j<vs.length:=by omega
   have GX:j<x.l.length:=by rw [x.h];exact hj
   rw [List.all_eq_true] at h2
   have hm:(vs[j],x.l[j])∈vs.zip x.l:=List.mem_iff_getElem.2 ⟨j,by simp;omega,by simp⟩
   have:=h2 _ hm
   rw [List.getElem?_eq_getElem hjv]
   dsimp only at this
   split at this
   ·rename_i n hn
    rw [hn,of_decide_eq_true this]
    simp [List.getD,List.getElem?_eq_getElem GX]
   ·simp at this
  ·rw [List.getElem?_eq_none (by omega),List.getElem?_eq_none (by rw [cO];omega)]
 ·simp at h
theorem kL {ls:List aI}: ∀{vs:List Value},si ls vs=true→ax e vs ls:=by
 induction ls with
 |nil=>intro vs h;simpa [si,ax] using h
 |cons l r ih=>
  intro vs h
  simp only [si,Bool.and_eq_true] at h
  exact ⟨vs.take l.w,vs.drop l.w,by simp,QI h.1.1,ih h.1.2⟩
theorem ax.wW {cs:List aI} {vs:List Value} (h:ax e vs cs):eP cs=false:=by
 cases hm:eP cs with
 |false=>rfl
 |true=>obtain ⟨s,ms,rfl⟩:=Jw hm;obtain ⟨_,_,_,h1,_⟩:=h;exact h1.elim
theorem En (h:bX c Z e st a w) (off:Nat):e.φ w.heap.size off=none:=by
 cases hp:e.φ w.heap.size off with
 |none=>rfl
 |some v=>
  have:=World.block_lt_of_cell? w _ (h.nT _ _ _ hp)
  simp at this
theorem xQ (h:bX c Z e st a w):(∀t fI,ao st.fr t= .box fI→e.B t≠w.heap.size)∧(∀f o,aO st.aV f=some o→(e.E f).ownBlock≠some w.heap.size):=by
 refine ⟨?_,?_⟩
 ·intro t fI ht
  have hs:=h.slot t
  rw [ht] at hs
  obtain ⟨o,h1,_⟩:=hs.2.obj
  have:=bA h1
  omega
 ·intro f o ho hk
  obtain ⟨I,cells,h1,h2,h3,h4,h5⟩:=(h.iT f o ho).row
  rcases h3.2 with ⟨hv,_⟩|⟨g,cap,di,hv,_,hg,_⟩
  ·rw [hv] at hk;simp [Value.ownBlock] at hk
  ·rw [hv] at hk
   simp only [Value.ownBlock,Option.some.injEq] at hk
   have:=bA hg
   omega
theorem Ps {cells:Array Value} {T:TypeId} {cs:List aI} (h:bX c Z e st a w) (hl:ax e cells.toList cs):
 pM Z e (w.alloc (.cells cells T)) st (.pointer (some ⟨w.heap.size,0,none⟩)) (.box cs):=by
 exact ⟨w.heap.size,by rw [uQ hl.wW],⟨h.cn _ (Nat.le_refl _),⟨_,kl w _,rfl,hl⟩,En h⟩,(xQ h).1,(xQ h).2⟩
theorem Tu {t:TypeId} {I:TI} (ho:o.op= .alloc t) (hI:c.tv t=some I) (hT:kK P c.ti) (h:bX c Z e st a w)
 (hK:bu c st o.dst (.box I.zero) K=some r):o.wp P a w (fun a' w'=>dv w w'∧Out c Z K r e.φ w a' w') Q:=by
 obtain ⟨rX,hc⟩:=bO hI
 obtain ⟨d,i,h1,h2,h3,h4⟩:=hT t I rX
 have hz: ∃z,i.zero=some z∧ax e z.cells.toList I.zero:=by
  cases d<;>simp only [qS] at h4
  case struct fs=>obtain ⟨_,_,_,_,_,_,cs,hz,hl,_⟩:=h4;exact ⟨_,hz,by simpa [Value.cells] using kL hl⟩
  case tuple ts=>exact absurd hc h4.2.1
  case slice el=>obtain ⟨_,_,_,_,_,hz,hl,_⟩:=h4;exact ⟨_,hz,by rw [hl];exact ⟨[.slice none 0 0],[],rfl,rfl,rfl⟩⟩
  case array n el=>obtain ⟨_,_,_,_,_,_,_,hl,hz⟩:=h4;exact ⟨_,hz,by rw [hl];exact ⟨br kD.zero,[],by simp [Value.cells],rfl,rfl⟩⟩
  case bool=>obtain ⟨_,_,_,_,hl,hz⟩:=h4;exact ⟨_,hz,by rw [hl];exact ⟨[.bool false],[],rfl,⟨rfl,.b _⟩,rfl⟩⟩
  case int k=>obtain ⟨_,_,_,_,hl,hz⟩:=h4;exact ⟨_,hz,by rw [hl];exact ⟨[.int k 0],[],rfl,⟨rfl,.i _ _⟩,rfl⟩⟩
  case string=>
   obtain ⟨_,_,_,_,hl,b,hz,hb⟩:=h4
   refine ⟨_,hz,by rw [hl];refine ⟨[.string b],[],rfl,⟨rfl,?_⟩,rfl⟩;rw [←hb];exact .s b⟩
  all_goals
   obtain ⟨_,_,_,_,v,hz,hv,hl⟩:=h4
   refine ⟨v,hz,?_⟩
   have:v.cells.toList=[v]:=by cases v<;>simp_all [Value.cells,Value.oneCell']
   rw [this];exact kL hl
 obtain ⟨z,hz,hl⟩:=hz
 have bT:(execOp a.eval o).run P w= .ok (.value (.pointer (some ⟨w.heap.size,0,none⟩))) (w.alloc (.cells z.cells t)):=by
  simp [execOp,ho,Instr.alloc,zeroValue,typeInfo,h2,hz,newVar,newRow,newObj,Sem.run]
 exact QE (.alloc w _ _) bT (h.grow (.alloc w _ _)) ((dv.alloc w _ _).trans h.cn _) (Ps h hl) hK
theorem aaW {t:TypeId} {x:Operand} {I:TI} (ho:o.op= .box t x) (h:bX c Z e st a w)
 (hK:aaG I (aS c st x) (fun s=>bu c st o.dst s K)=some r):o.wp P a w (fun a' w'=>dv w w'∧Out c Z K r e.φ w a' w') Q:=by
 obtain ⟨hx,oL⟩:=h.eval x
 have bT:(execOp a.eval o).run P w= .ok (.value (.pointer (some ⟨w.heap.size,0,none⟩))) (w.alloc (.cells (a.eval x).cells t)):=by
  simp [execOp,ho,Instr.box,newVar,newRow,newObj,Sem.run]
 have go: ∀cs,ax e (a.eval x).cells.toList cs→bu c st o.dst (.box cs) K=some r→o.wp P a w (fun a' w'=>dv w w'∧Out c Z K r e.φ w a' w') Q:=
  fun cs h1 h2=>QE (.alloc w _ _) bT (h.grow (.alloc w _ _)) ((dv.alloc w _ _).trans h.cn _) (Ps h h1) h2
 generalize aS c st x=s at hx hK oL
 unfold aaG at hK
 split at hK
 ·rename_i l
  cases hb:I.st||KR l||!Nat.beq l.w I.size with
  |true=>simp [hb] at hK
  |false=>
   simp only [hb,cond_false] at hK
   refine go [l] ?_ hK
   cases l with
   |un=>simp [KR] at hb
   |hs y=>
    simp only [ab] at hx
    rw [hx]
    exact ⟨br y,[],by simp [Value.cells],rfl,rfl⟩
   |p m=>
    simp only [ab] at hx
    have:(a.eval x).cells.toList=[a.eval x]:=by
     have:=hx.cells (a.eval x) (by simp)
     generalize a.eval x=v at this
     cases v<;>simp_all [Value.cells,Value.oneCell']
    rw [this];exact ⟨_,[],rfl,hx,rfl⟩
   |nil=>
    simp only [ab] at hx
    have NB:[a.eval x]=[Value.slice none 0 0]:=hx
    simp at NB
    rw [NB];exact ⟨[.slice none 0 0],[],rfl,rfl,rfl⟩
   |mp s es=>simp [KR] at hb
   |own f=>
    simp only [ab] at hx
    have:(a.eval x).cells.toList=[a.eval x]:=by
     have:=hx.cells (a.eval x) (by simp)
     generalize a.eval x=v at this
     cases v<;>simp_all [Value.cells,Value.oneCell']
    rw [this];exact ⟨_,[],rfl,hx,rfl⟩
 ·rename_i cs
  cases hb:I.st&&!tI cs&&Nat.beq (wP cs) I.size with
  |false=>simp [hb] at hK
  |true=>
   simp only [hb,cond_true] at hK
   simp only [ab] at hx
   obtain ⟨arr,hx,hl⟩:=hx
   exact go cs (by rw [hx];exact hl) hK
 ·simp at hK
end
end Dn
/-
  Stores into variables. Conditions: none.
-/
set_option linter.unusedSimpArgs false
set_option linter.unusedVariables false
namespace Dn
open Go
section
variable {P:Program} {c:Ctx} {Z:bM} {e:Env} {st:St} {a:Act} {w w':World} {R:Type} {K:St→Option R} {r:R} {Q:Exit→Act→World→Prop} {o:Oper}
theorem setRow_size (w:World) (g:Nat) (cs:Array Value):(w.setRow g cs).heap.size=w.heap.size:=by simp [World.setRow]
structure SJ (g:Nat) (w w':World):Prop where
 size:w'.heap.size=w.heap.size
 other: ∀b,b≠g→w'.heap[b]? =w.heap[b]?
 rest:Rest w w'
theorem SJ.setRow (w:World) (g:Nat) (cs:Array Value):SJ g w (w.setRow g cs):=⟨setRow_size _ _ _,fun b hb=>setRow_other _ _ _ _ hb,.setRow _ _ _⟩
theorem K5 {g:Nat} (hc:SJ g w w') {base:Nat} {t:TypeId} {size:Nat} {v:Value} {n:Nat} {xs:List Value} (cT:v.ownBlock≠some g)
 (h:w.ownsRow base t size v n xs):w'.ownsRow base t size v n xs:=by
 refine ⟨h.1,?_⟩
 rcases h.2 with h|⟨b,cap,di,h1,h2,h3,h4⟩
 ·exact .inl h
 ·refine .inr ⟨b,cap,di,h1,h2,?_,h4⟩
  rw [hc.other _ (by intro e;subst e;subst h1;exact cT rfl)];exact h3
theorem NC {g:Nat} {cs:Array Value} {base:Nat} {t:TypeId} {size:Nat} {v:Value} {n:Nat} {xs:List Value} (cT:v.ownBlock≠some g)
 (h:w.ownsRow base t size v n xs):(w.setRow g cs).ownsRow base t size v n xs:=K5 (.setRow w g cs) cT h
theorem bX.setObj {root:Nat} {cs fI:List aI} {o':Obj} {n6:Fr} (h:bX c Z e st a w) (hf:ao st.fr root= .box cs)
 (KL:SJ (e.B root) w w') (kF:w'.heap[e.B root]? =some o') (hl:jx e o' fI) (hmm:kH fI=kH cs) (K6: ∀t,ao n6 t=if t=root then .box fI else ao st.fr t)
 (hnd:(aT n6).Nodup):bX c Z e {st with fr:=n6} a w':=by
 have qT:=KL.size
 have kn:=h.slot root
 rw [hf] at kn
 refine ⟨h.defers,h.size,h.m,h.key,hnd,?_,?_,?_,?_,?_,h.ff,?_,fun b hb=>h.cn b (by omega)⟩
 ·intro t
  show bW Z e _ t _ (ao n6 t)
  rw [K6]
  by_cases ht:t=root
  ·subst ht
   simp only [if_true,bW]
   exact ⟨kn.1.kH hmm,⟨kn.2.cn,⟨o',kF,hl⟩,kn.2.free⟩⟩
  ·simp only [ht,if_false]
   have hs:=h.slot t
   have BC:=h.bb t root
   generalize hg:ao st.fr t=s at hs BC
   cases s<;>simp only [bW] at hs⊢ <;>try exact hs
   rename_i qE
   refine ⟨hs.1,hs.2.cn,?_,hs.2.free⟩
   obtain ⟨o2,h1,h2⟩:=hs.2.obj
   exact ⟨o2,by rw [KL.other _ (BC qE cs rfl hf ht)];exact h1,h2⟩
 ·intro t
  show ct n6 (ao n6 t)
  rw [K6]
  by_cases ht:t=root
  ·simp [ht,ct]
  ·simp only [ht,if_false]
   have hr:=h.root t
   generalize ao st.fr t=s at hr
   cases s<;>simp only [ct] at hr⊢ <;>(rw [K6];split<;>simp_all [cM])
 ·intro f o ho
  obtain ⟨I,cells,h1,h2,h3,h4,h5⟩:=(h.iT f o ho).row
  exact ⟨I,cells,h1,h2,K5 KL (h.bf root cs f o hf ho) h3,h4,h5⟩
 ·intro t t' c1 c2 h1 h2 cT
  have h1:ao n6 t= .box c1:=h1
  have h2:ao n6 t'= .box c2:=h2
  rw [K6] at h1 h2
  by_cases ht:t=root
  ·by_cases zC:t'=root
   ·exact absurd (ht.trans zC.symm) cT
   ·simp only [zC,if_false] at h2;rw [ht];exact h.bb root t' cs c2 hf h2 (by rw [←ht];exact cT)
  ·simp only [ht,if_false] at h1
   by_cases zC:t'=root
   ·rw [zC];exact h.bb t root c1 cs h1 hf ht
   ·simp only [zC,if_false] at h2;exact h.bb t t' c1 c2 h1 h2 cT
 ·intro t c1 f o h1 h2
  have h1:ao n6 t= .box c1:=h1
  rw [K6] at h1
  by_cases ht:t=root
  ·rw [ht];exact h.bf root cs f o hf h2
  ·simp only [ht,if_false] at h1;exact h.bf t c1 f o h1 h2
 ·intro b o v hv
  have cT:b≠e.B root:=by intro eb;subst eb;rw [kn.2.free] at hv;cases hv
  have:=h.nT b o v hv
  rw [World.cell?_of_block (KL.other _ cT)];exact this
theorem bX.Tv {root:Nat} {cs fI:List aI} {arr G9:Array Value} {T:TypeId} {n6:Fr} (h:bX c Z e st a w) (hf:ao st.fr root= .box cs)
 (cW:w.heap[e.B root]? =some (.cells arr T (0,0))) (hl:ax e G9.toList fI) (K6: ∀t,ao n6 t=if t=root then .box fI else ao st.fr t)
 (hnd:(aT n6).Nodup):bX c Z e {st with fr:=n6} a (w.setRow (e.B root) G9):=by
 have kn:=h.slot root
 rw [hf] at kn
 have hm:eP cs=false:=by
  obtain ⟨o,h1,h2⟩:=kn.2.obj
  rw [cW] at h1;cases h1
  exact h2.2.wW
 exact h.setObj hf (.setRow _ _ _) (setRow_heap _ _ _ _ _ _ cW) ⟨rfl,hl⟩ (by rw [uP hm,uP hl.wW]) K6 hnd
theorem Trans.chg {g:Nat} (φ:Ph) (KL:SJ g w w') (hz:Z g):Trans Z φ w φ w':=
 ⟨.refl φ,fun b hb _=>KL.other _ (by intro e;subst e;exact hb hz),fun _ _ _=>rfl,by rw [KL.size];exact Nat.le_refl _,KL.rest⟩
theorem Trans.setRow {g:Nat} {G9:Array Value} (φ:Ph) (hz:Z g):Trans Z φ w φ (w.setRow g G9):=
 ⟨.refl φ,fun b hb _=>setRow_other _ _ _ _ (by intro e;subst e;exact hb hz),fun _ _ _=>rfl,by rw [setRow_size];exact Nat.le_refl _,.setRow _ _ _⟩
theorem zf {v:Value} {s:Slot} (h:ab e v s) (hu:tI (aP s)=false) (cT:aP s≠[]):ax e v.cells.toList (aP s):=by
 cases s with
 |sc l=>
  simp only [aP] at hu⊢
  have iQ: ∀l,aZ e [v] l→ax e v.cells.toList [l]:=by
   intro l hl
   have hc:=hl.cells v (by simp)
   have:v.cells.toList=[v]:=by cases v<;>simp_all [Value.cells,Value.oneCell']
   rw [this];exact ⟨[v],[],rfl,hl,rfl⟩
  cases l with
  |un=>simp [tI,KR] at hu
  |hs x=>simp only [ab] at h;rw [h];exact ⟨br x,[],by simp [Value.cells],rfl,rfl⟩
  |p m=>simp only [ab] at h;exact iQ _ h
  |nil=>simp only [ab] at h;exact iQ _ h
  |mp s es=>simp [tI,KR] at hu
  |own f=>simp only [ab] at h;exact iQ _ h
 |ag cs=>simp only [ab] at h;obtain ⟨arr,rfl,hl⟩:=h;exact hl
 |_=>exact absurd rfl cT
theorem mz {t:TypeId} {I:TI} {bg off:Nat} {v:Value} {arr:Array Value} {T:TypeId} (hr:mX c.ti P t I) (hc:I.cL=[]) (hs:v.cells.toList.length=I.size)
 (iQ: ∀u∈v.cells.toList,u.oneCell'=true) (cW:w.heap[bg]? =some (.cells arr T (0,0))) (wX:off+I.size≤arr.size):
 (Instr.storeAt t (.pointer (some ⟨bg,off,none⟩)) v).run P w= .ok () (w.setRow bg (arr.toList.take off++v.cells.toList++arr.toList.drop (off+I.size)).toArray):=by
 obtain ⟨i,hi,qT,_⟩:=hr.info hc
 have h1:=run_storeCells_at P bg off T v.cells.toList 0 arr w cW (by omega) iQ
 rw [Nat.add_zero,hs] at h1
 have h2:v.cells.size=i.size:=by rw [qT,←hs];simp
 simp [Instr.storeAt,Instr.sureAddr,storeVar,Go.sizeOf,typeInfo,hi,h2,h1]
theorem QJ {t:TypeId} {I:TI} {root off:Nat} {v:Value} {cs ls fI:List aI} {K':St→Option R} (vS:eP cs=false) (hr:mX c.ti P t I) (hc:I.cL=[]) (h:bX c Z e st a w)
 (hf:ao st.fr root= .box cs) (hv:ax e v.cells.toList ls) (Dl:wP ls=I.size) (hp:putAt cs off ls=some fI) (hK:wr st root (.box fI) K'=some r):
 ∃w' bZ,(Instr.storeAt t (.pointer (some ⟨e.B root,off,none⟩)) v).run P w= .ok () w'∧bX c Z e bZ a w'∧Trans Z e.φ w e.φ w'∧K' bZ=some r:=by
 have mb:=h.slot root
 rw [hf] at mb
 obtain ⟨arr,T,cW,qe⟩:=mb.2.cells vS
 obtain ⟨v1,v2,v3,he,h1,h2,h3⟩:=uO hp qe hv
 have hlen:=hv.width
 have qT:arr.size=v1.length+v2.length+v3.length:=by
  have:arr.toList.length=(v1++v2++v3).length:=by rw [he]
  simp at this
  omega
 have bT:=mz (P:=P) (w:=w) (bg:=e.B root) (off:=off) hr hc (by rw [hlen,Dl]) hv.cells cW (by omega)
 have adL:arr.toList.take off=v1:=by rw [he,List.append_assoc,List.take_left' h1]
 have adM:arr.toList.drop (off+I.size)=v3:=by
  rw [he];exact List.drop_left' (by rw [List.length_append];omega)
 rw [adL,adM] at bT
 unfold wr at hK
 cases hn:bE st.cq root with
 |true=>simp [hn] at hK
 |false=>
  simp only [hn,cond_false,force_eq,lp] at hK
  refine ⟨_,_,bT,?_,.setRow _ (KZ mb.2.cn (by rw [←h.defers.2.1,←bF,hn];simp)),hK⟩
  exact h.Tv hf cW (by simpa using h3) (fun t=>by rw [bN]) (dW h.nodup)
end
end Dn
/-
  Owned slices that are shared from now on; what is handed to a callee. Conditions: none.
-/
set_option linter.unusedSimpArgs false
set_option linter.unusedVariables false
namespace Dn
open Go
section
variable {P:Program} {c:Ctx} {Z:bM} {e:Env} {st:St} {a:Act} {w w':World} {R:Type} {K:St→Option R} {r:R} {Q:Exit→Act→World→Prop} {o:Oper}
theorem ba.mono {key:Nat→Nat} {φ φ':Ph} (h:qi φ φ') {size:Nat} {xs:List MV}: ∀{cs:List Value},ba key φ size cs xs→ba key φ' size cs xs:=by
 induction xs with
 |nil=>intro cs hh;exact hh
 |cons x xs ih=>intro cs hh;obtain ⟨v,q,rfl,h1,h2,h3⟩:=hh;exact ⟨v,q,rfl,h1,h2.mono h,ih h3⟩
theorem ba.length {key:Nat→Nat} {φ:Ph} {size:Nat} {xs:List MV}: ∀{cs:List Value},ba key φ size cs xs→cs.length=xs.length *size:=by
 induction xs with
 |nil=>intro cs hh;cases hh;simp
 |cons x xs ih=>intro cs hh;obtain ⟨v,q,rfl,h1,h2,h3⟩:=hh;simp [h1,ih h3,Nat.succ_mul,Nat.add_comm]
theorem ND {m:List (Nat×nm)} {f:Nat} {o:nm} (h:aO m f=some o):bS m f o=m:=by
 induction m with
 |nil=>simp [aO] at h
 |cons p r ih=>
  obtain ⟨k,x⟩:=p
  simp only [aO,bS,fe] at h⊢
  by_cases hk:k=f
  ·subst hk;simp at h;subst h;simp
  ·simp only [hk,decide_false,cond_false] at h⊢;rw [ih h]
def nr (φ:Ph) (v:Value) (cells:List Value):Ph:=fun b off=>if v.ownBlock=some b∧off<cells.length then cells[off]? else φ b off
theorem CD {base:Nat} {t:TypeId} {size n:Nat} {v:Value} {xs ys:List Value} (h:w.ownsRow base t size v n xs) (h':w.ownsRow base t size v n ys) {b:Nat} (hb:v.ownBlock=some b):xs=ys:=by
 rcases h.2 with ⟨h1,_⟩|⟨g,cap,di,h1,_,h2,_,_,_,h3⟩
 ·rw [h1] at hb;simp [Value.ownBlock] at hb
 ·rcases h'.2 with ⟨GW,_⟩|⟨g',aaX,lS,GW,_,K7,_,_,_,ZL⟩
  ·rw [GW] at hb;simp [Value.ownBlock] at hb
  ·rw [h1] at GW
   simp at GW
   obtain ⟨rfl,rfl⟩:=GW
   rw [h2] at K7
   simp at K7
   subst K7
   rw [←h3,←ZL]
theorem freeze {f:Nat} {o:nm} (h:bX c Z e st a w) (hf:aO st.aV f=some o) (hp:f∉Z.cr∨o.ee=true):
 ∃φ',qi e.φ φ'∧(∀b off,¬Z b→φ' b off=e.φ b off)∧bX c Z {e with φ:=φ',m:=bS e.m f ⟨o.ty,true,o.xs⟩} {st with aV:=bS st.aV f ⟨o.ty,true,o.xs⟩} a w∧
  ln e.key φ' [e.E f] (.list o.xs)∧
  (∀I cells,c.ti o.ty=some I→w.ownsRow 0 o.ty I.size (e.E f) o.xs.length cells→ ∀bg,(e.E f).ownBlock=some bg→ ∀j,j<cells.length→φ' bg j=cells[j]?):=by
 obtain ⟨I,cells,hI,Tw,dK,iP,hz⟩:=(h.iT f o hf).row
 have hlen:=iP.length
 have hle:qi e.φ (nr e.φ (e.E f) cells):=by
  intro b off v hv
  unfold nr
  by_cases hc:(e.E f).ownBlock=some b∧off<cells.length
  ·simp only [hc,and_self,if_true]
   obtain ⟨hb,ho⟩:=hc
   rcases dK.2 with ⟨hE,_⟩|⟨g,cap,di,hE,_,hg,hn,DO,rY,NE⟩
   ·rw [hE] at hb;simp [Value.ownBlock] at hb
   ·rw [hE] at hb
    simp only [Value.ownBlock,Option.some.injEq] at hb
    subst hb
    have:=h.nT _ _ _ hv
    rw [cell_of hg] at this
    rw [←NE,List.getElem?_take]
    have cA:off<o.xs.length *I.size:=by omega
    simp only [cA,if_true]
    simpa using this
  ·simp only [hc,if_false];exact hv
 have jk: ∀b off v,nr e.φ (e.E f) cells b off=some v→w.cell? ⟨b,off,none⟩=some v:=by
  intro b off v hv
  unfold nr at hv
  by_cases hc:(e.E f).ownBlock=some b∧off<cells.length
  ·simp only [hc,and_self,if_true] at hv
   rcases dK.2 with ⟨hE,_⟩|⟨g,cap,di,hE,_,hg,hn,DO,rY,NE⟩
   ·rw [hE] at hc;simp [Value.ownBlock] at hc
   ·rw [hE] at hc
    simp only [Value.ownBlock,Option.some.injEq] at hc
    obtain ⟨hb,ho⟩:=hc
    subst hb
    rw [cell_of hg]
    rw [←NE,List.getElem?_take] at hv
    have cA:off<o.xs.length *I.size:=by omega
    simp only [cA,if_true] at hv
    simpa using hv
  ·simp only [hc,if_false] at hv;exact h.nT _ _ _ hv
 have adN: ∀b off,¬Z b→nr e.φ (e.E f) cells b off=e.φ b off:=by
  intro b off hb
  unfold nr
  by_cases hc:(e.E f).ownBlock=some b∧off<cells.length
  ·by_cases zE:f∈Z.cr
   ·simp only [hc,and_self,if_true]
    exact (((hz b hc.1).2.2 zE (hp.resolve_left (fun hn=>hn zE))) off hc.2).symm
   ·exact absurd (KZ (hz b hc.1).1 zE) hb
  ·simp [hc]
 have NF: ∀b off,(e.E f).ownBlock≠some b→nr e.φ (e.E f) cells b off=e.φ b off:=by
  intro b off hb;unfold nr;simp [hb]
 have te:km (fun _=>True) (fun _=>True) e {e with φ:=nr e.φ (e.E f) cells,m:=bS e.m f ⟨o.ty,true,o.xs⟩}:=by
  refine ⟨rfl,hle,fun _ _=>rfl,?_⟩
  intro f2 o2 cA _
  have cA:aO (bS e.m f ⟨o.ty,true,o.xs⟩) f2=some o2:=cA
  rw [bj] at cA
  by_cases eH:f2=f
  ·subst eH;simp at cA;subst cA;exact ⟨o,by rw [h.m];exact hf,rfl,rfl⟩
  ·simp only [eH,if_false] at cA;exact ⟨o2,cA,rfl,rfl⟩
 have ni: ∀s:Slot,fg (fun _=>True) (fun _=>True) s:=by
  intro s;cases s<;>simp [fg,iY]
 refine ⟨_,hle,adN,?_,?_,?_⟩
 rotate_right
 ·intro I' Tx hI' adO bg hb j hj
  rw [hI] at hI'
  cases hI'
  have hcc:=CD dK adO hb
  subst hcc
  unfold nr
  simp [hb,hj]
 ·refine ⟨h.defers,h.size,by show bS e.m f _=bS st.aV f _;rw [h.m],h.key,h.nodup,?_,h.root,?_,h.bb,?_,?_,jk,h.cn⟩
  ·intro t
   have hs:=h.slot t
   have Xn:=h.bf t
   show bW Z _ w t _ (ao st.fr t)
   generalize ao st.fr t=s at hs Xn
   cases s<;>simp only [bW] at hs⊢ <;>try exact hs.on te (ni _)
   rename_i cs
   refine ⟨hs.1,hs.2.cn,?_,?_⟩
   ·obtain ⟨o2,h1,h2⟩:=hs.2.obj
    exact ⟨o2,h1,h2.on te (fun l _ f _=>trivial)⟩
   ·intro off
    show nr e.φ (e.E f) cells (e.B t) off=none
    rw [NF _ _ (Xn cs f o rfl hf)];exact hs.2.free off
  ·intro f2 o2 cA
   have cA:aO (bS st.aV f ⟨o.ty,true,o.xs⟩) f2=some o2:=cA
   rw [bj] at cA
   by_cases eH:f2=f
   ·subst eH
    simp at cA
    subst cA
    refine ⟨I,cells,hI,Tw,dK,iP.mono hle,?_⟩
    intro bg hb
    refine ⟨(hz bg hb).1,?_,?_⟩
    rotate_left
    ·intro _ _ j hj
     show nr e.φ (e.E f2) cells bg j=_
     have hb:(e.E f2).ownBlock=some bg:=hb
     unfold nr
     simp [hb,hj]
    intro off u hu
    refine ⟨rfl,?_⟩
    have hu:nr e.φ (e.E f2) cells bg off=some u:=hu
    unfold nr at hu
    by_cases hc:(e.E f2).ownBlock=some bg∧off<cells.length
    ·show off<o.xs.length *I.size;rw [←hlen];exact hc.2
    ·simp only [hc,if_false] at hu;exact ((hz bg hb).2.1 off u hu).2
   ·simp only [eH,if_false] at cA
    obtain ⟨I2,uS,h1,h2,h3,h4,h5⟩:=(h.iT f2 o2 cA).row
    refine ⟨I2,uS,h1,h2,h3,h4.mono hle,?_⟩
    intro bg hb
    refine ⟨(h5 bg hb).1,?_,?_⟩
    rotate_left
    ·intro g1 g2 j hj
     show nr e.φ (e.E f) cells bg j=_
     rw [NF _ _ (fun Xn=>eH (h.ff f2 f o2 o bg cA hf hb Xn))]
     exact (h5 bg hb).2.2 g1 g2 j hj
    intro off u hu
    have hu:nr e.φ (e.E f) cells bg off=some u:=hu
    rw [NF _ _ (fun Xn=>eH (h.ff f2 f o2 o bg cA hf hb Xn))] at hu
    exact (h5 bg hb).2.1 off u hu
  ·intro t cs f2 o2 h1 h2
   have h2:aO (bS st.aV f ⟨o.ty,true,o.xs⟩) f2=some o2:=h2
   rw [bj] at h2
   by_cases eH:f2=f
   ·subst eH;exact h.bf t cs f2 o h1 hf
   ·simp only [eH,if_false] at h2;exact h.bf t cs f2 o2 h1 h2
  ·intro f1 f2 o1 o2 k h1 h2 h3 h4
   have h1:aO (bS st.aV f ⟨o.ty,true,o.xs⟩) f1=some o1:=h1
   have h2:aO (bS st.aV f ⟨o.ty,true,o.xs⟩) f2=some o2:=h2
   rw [bj] at h1 h2
   have g1: ∃o',aO st.aV f1=some o':=by
    by_cases eH:f1=f
    ·subst eH;exact ⟨o,hf⟩
    ·simp only [eH,if_false] at h1;exact ⟨o1,h1⟩
   have g2: ∃o',aO st.aV f2=some o':=by
    by_cases eH:f2=f
    ·subst eH;exact ⟨o,hf⟩
    ·simp only [eH,if_false] at h2;exact ⟨o2,h2⟩
   obtain ⟨q1,g1⟩:=g1
   obtain ⟨q2,g2⟩:=g2
   exact h.ff f1 f2 q1 q2 k g1 g2 h3 h4
 ·have Al:=iP.mono hle
  rcases dK.2 with ⟨hE,hn⟩|⟨g,cap,di,hE,_,hg,hn,DO,rY,NE⟩
  ·have hx:o.xs=[]:=List.eq_nil_of_length_eq_zero hn
   have hv:[e.E f]=[Value.slice none 0 0]:=by rw [hE]
   rw [hv,hx]
   exact .list none 0 [] 0 0 0 (fun _=>[]) (by simp) (by simp) (by simp) (by simp) (by simp)
  ·have hv:[e.E f]=[Value.slice (some ⟨g,0,none⟩) o.xs.length cap]:=by rw [hE]
   rw [hv]
   have JB: ∀i (hi:i<o.xs.length),∃v1,v1.length=I.size∧ln e.key (nr e.φ (e.E f) cells) v1 o.xs[i]∧(cells.drop (i *I.size)).take I.size=v1:=by
    intro i hi
    obtain ⟨p1,v1,p2,he,DQ,wK,eQ⟩:=Al.at (List.getElem?_eq_getElem hi)
    refine ⟨v1,wK,eQ,?_⟩
    rw [he,List.append_assoc,←DQ,List.drop_left,←wK,List.take_left]
   refine .list (some ⟨g,0,none⟩) cap o.xs g 0 I.size (fun i=>(cells.drop (i *I.size)).take I.size) hn (fun _=>rfl) ?_ ?_ ?_
   ·intro i hi
    obtain ⟨v1,h1,_,h3⟩:=JB i hi
    rw [h3,h1]
   ·intro i j hi hj
    have hb:(e.E f).ownBlock=some g:=by rw [hE];rfl
    have Ha:i *I.size+j<cells.length:=by
     rw [hlen]
     calc i *I.size+j<i *I.size+I.size:=by omega
      _=(i+1) *I.size:=by rw [Nat.succ_mul]
      _≤o.xs.length *I.size:=Nat.mul_le_mul_right _ hi
    rw [Nat.zero_add]
    unfold nr
    simp only [hb,Ha,and_self,if_true]
    rw [List.getElem?_take]
    simp only [hj,if_true,List.getElem?_drop]
   ·intro i hi
    obtain ⟨v1,_,h2,h3⟩:=JB i hi
    rw [h3];exact h2
end
end Dn
/-
  Arguments and results. Conditions: none.
-/
set_option linter.unusedSimpArgs false
set_option linter.unusedVariables false
namespace Dn
open Go
structure Ext (Z:Nat→Prop) (e e':Env):Prop where
 on:km (fun _=>True) (fun _=>True) e e'
 cn: ∀b off,¬Z b→e'.φ b off=e.φ b off
theorem Ext.refl (Z:Nat→Prop) (e:Env):Ext Z e e:=⟨⟨rfl,.refl _,fun _ _=>rfl,fun f o h _=>⟨o,h,rfl,rfl⟩⟩,fun _ _ _=>rfl⟩
theorem Ext.trans {Z:Nat→Prop} {e e' e'':Env} (h:Ext Z e e') (h':Ext Z e' e''):Ext Z e e'':=by
 refine ⟨⟨h'.on.key.trans h.on.key,h.on.φ.trans h'.on.φ,fun r hr=>(h'.on.B r hr).trans (h.on.B r hr),?_⟩,fun b off hb=>(h'.cn b off hb).trans (h.cn b off hb)⟩
 intro f o ho _
 obtain ⟨o1,h1,h2,h3⟩:=h'.on.iT f o ho trivial
 obtain ⟨o2,h4,h5,h6⟩:=h.on.iT f o1 h1 trivial
 exact ⟨o2,h4,h2.trans h5,h3.trans h6⟩
theorem Ext.tr {Z:Nat→Prop} {e e':Env} {w:World} (h:Ext Z e e'):Trans Z e.φ w e'.φ w:=⟨h.on.φ,fun _ _ _=>rfl,h.cn,Nat.le_refl _,.refl _⟩
theorem dB (s:Slot):fg (fun _=>True) (fun _=>True) s:=by cases s<;>simp [fg,iY]
def cc (key:Nat→Nat) (φ:Ph):List Value→List MV→Prop
 |vs,[]=>vs=[]
 |vs,m::ms=> ∃v r,vs=v::r∧fc key φ v m∧cc key φ r ms
theorem cc.mono {key:Nat→Nat} {φ φ':Ph} (h:qi φ φ') {ms:List MV}: ∀{vs:List Value},cc key φ vs ms→cc key φ' vs ms:=by
 induction ms with
 |nil=>intro vs hh;exact hh
 |cons m ms ih=>intro vs hh;obtain ⟨v,r,rfl,h1,h2⟩:=hh;exact ⟨v,r,rfl,h1.mono h,ih h2⟩
theorem cc.append {key:Nat→Nat} {φ:Ph} {ms ns:List MV}: ∀{vs us:List Value},cc key φ vs ms→cc key φ us ns→cc key φ (vs++us) (ms++ns):=by
 induction ms with
 |nil=>intro vs us h h';cases h;simpa using h'
 |cons m ms ih=>intro vs us h h';obtain ⟨v,r,rfl,h1,h2⟩:=h;exact ⟨v,r++us,rfl,h1,ih h2 h'⟩
section
variable {P:Program} {c:Ctx} {Z:bM} {e:Env} {st:St} {a:Act} {w w':World} {R:Type} {r:R} {Q:Exit→Act→World→Prop} {o:Oper}
theorem sn {l:aI} {vs:List Value} {K:MV→St→Option R} (h:bX c Z e st a w) (hl:aZ e vs l) (hK:qL st l K=some r):
 ∃e' bZ m,bX c Z e' bZ a w∧Ext Z e e'∧bZ.fr=st.fr∧ln e'.key e'.φ vs m∧K m bZ=some r∧(sf l=true→e'=e∧bZ=st)∧(∀f,l= .own f→ ∃o,aO st.aV f=some o∧m= .list o.xs)∧((∀x,l≠ .hs x)→m.one=true):=by
 cases l with
 |un=>simp [qL] at hK
 |p m=>exact ⟨e,st,m,h,.refl _ _,rfl,hl.2,hK,fun _=>⟨rfl,rfl⟩,by simp,fun _=>hl.1⟩
 |hs x=>have hl:vs=br x:=hl;subst hl;exact ⟨e,st,.h x,h,.refl _ _,rfl,.h x,hK,fun _=>⟨rfl,rfl⟩,by simp,fun hx=>absurd rfl (hx x)⟩
 |nil=>
  have hl:vs=[.slice none 0 0]:=hl
  subst hl
  exact ⟨e,st,.list [],h,.refl _ _,rfl,.list none 0 [] 0 0 0 (fun _=>[]) (by simp) (by simp) (by simp) (by simp) (by simp),hK,fun hp=>by simp [sf] at hp,fun _ he=>(by cases he),fun _=>rfl⟩
 |mp s es=>simp [qL] at hK
 |own f=>
  simp only [qL] at hK
  cases hf:aO st.aV f with
  |none=>simp [hf] at hK
  |some o=>
   simp only [hf] at hK
   have zE:f∉Z.cr∨o.ee=true:=by
    cases hz:o.ee with
    |true=>exact .inr rfl
    |false=>
     refine .inl (fun hm=> ?_)
     rw [←h.defers.2.2.1,←bF] at hm
     simp [hz,hm] at hK
   obtain ⟨φ',h1,h2,h3,h4,_⟩:=freeze h hf zE
   obtain ⟨v,rfl,hv,hE⟩:=hl
   have hE:=hE o (by rw [h.m];exact hf)
   subst hE
   have Xo:Ext Z e {e with φ:=φ',m:=bS e.m f ⟨o.ty,true,o.xs⟩}:=by
    refine ⟨⟨rfl,h1,fun _ _=>rfl,?_⟩,h2⟩
    intro f2 o2 cA _
    have cA:aO (bS e.m f ⟨o.ty,true,o.xs⟩) f2=some o2:=cA
    rw [bj] at cA
    by_cases eH:f2=f
    ·subst eH;simp at cA;subst cA;exact ⟨o,by rw [h.m];exact hf,rfl,rfl⟩
    ·simp only [eH,if_false] at cA;exact ⟨o2,cA,rfl,rfl⟩
   cases hz:o.ee with
   |true=>
    simp only [hz,cond_true] at hK
    have adQ:bS st.aV f ⟨o.ty,true,o.xs⟩=st.aV:=by
     rw [←hz];exact ND hf
    rw [adQ] at h3
    exact ⟨_,st,.list o.xs,h3,Xo,rfl,h4,hK,fun hp=>by simp [sf] at hp,fun _ he=>by cases he;exact ⟨o,hf,rfl⟩,fun _=>rfl⟩
   |false=>
    simp only [hz,cond_false] at hK
    cases hn:bE st.cr f with
    |true=>simp [hn] at hK
    |false=>
     simp only [hn,cond_false,np] at hK
     exact ⟨_,_,.list o.xs,h3,Xo,rfl,h4,hK,fun hp=>by simp [sf] at hp,fun _ he=>by cases he;exact ⟨o,hf,rfl⟩,fun _=>rfl⟩
theorem mc {ls:List aI}: ∀{e:Env} {st:St} {vs:List Value} {K:List MV→St→Option R},bX c Z e st a w→ax e vs ls→o6 st ls K=some r→
 ∃e' bZ ms,bX c Z e' bZ a w∧Ext Z e e'∧bZ.fr=st.fr∧gQ e'.key e'.φ vs ms∧K ms bZ=some r∧(iU ls=true→e'=e∧bZ=st)∧(∀ps,pL ls ms=some ps→ax e' vs ps∧iU ps=true):=by
 induction ls with
 |nil=>intro e st vs K h hl hK;cases hl;exact ⟨e,st,[],h,.refl _ _,rfl,.nil,hK,fun _=>⟨rfl,rfl⟩,fun ps hp=>by simp [pL] at hp;subst hp;exact ⟨rfl,rfl⟩⟩
 |cons l ls ih=>
  intro e st vs K h hl hK
  obtain ⟨v,u,rfl,h1,h2⟩:=hl
  simp only [o6] at hK
  obtain ⟨e1,dV,m,wL,Dm,BO,GY,pN,Ty,_,iQ⟩:=sn h h1 hK
  obtain ⟨e2,dH,ms,K8,SK,Xp,Tq,wv,HX,Am⟩:=ih wL (h2.on Dm.on (fun l _ f _=>trivial)) pN
  have hrm:ln e2.key e2.φ v m:=by
   have:=GY.mono SK.on.φ
   rw [←SK.on.key] at this;exact this
  refine ⟨e2,dH,m::ms,K8,Dm.trans SK,Xp.trans BO,.cons v m u ms ?_ Tq,wv,?_,?_⟩
  ·have:=GY.mono SK.on.φ
   rw [←SK.on.key] at this;exact this
  ·intro hp
   simp only [iU,Bool.and_eq_true] at hp
   obtain ⟨q1,q2⟩:=Ty hp.1
   obtain ⟨q3,q4⟩:=HX hp.2
   exact ⟨q3.trans q1,q4.trans q2⟩
  ·intro ps hp
   cases hq:pL ls ms with
   |none=>cases l<;>simp [pL,hq] at hp
   |some q=>
    obtain ⟨g1,g2⟩:=Am q hq
    by_cases hh: ∃x,l= .hs x
    ·obtain ⟨x,rfl⟩:=hh
     simp [pL,hq] at hp
     subst hp
     exact ⟨⟨v,u,rfl,h1,g1⟩,by simp [iU,sf,g2]⟩
    ·have iQ:=iQ (fun x hx=>hh ⟨x,hx⟩)
     have JC:ps= .p m::q:=by cases l<;>simp [pL,hq] at hp<;>first|exact hp.symm|exact absurd ⟨_,rfl⟩ hh
     subst JC
     exact ⟨⟨v,u,rfl,⟨iQ,hrm⟩,g1⟩,by simp [iU,sf,g2]⟩
theorem mY {s:Slot} {v:Value} {K:MV→St→Option R} (h:bX c Z e st a w) (hl:ab e v s) (hK:lO st s K=some r):
 ∃e' bZ m,bX c Z e' bZ a w∧Ext Z e e'∧bZ.fr=st.fr∧fc e'.key e'.φ v m∧K m bZ=some r:=by
 cases s with
 |sc l=>
  simp only [lO] at hK
  cases l with
  |un=>simp [qL] at hK
  |hs x=>
   simp only [ab] at hl
   exact ⟨e,st,.h x,h,.refl _ _,rfl,by simpa [fc,br] using hl,hK⟩
  |p m=>
   simp only [ab] at hl
   refine ⟨e,st,m,h,.refl _ _,rfl,?_,hK⟩
   obtain ⟨h1,h2⟩:=hl
   cases m<;>simp [MV.one] at h1<;>exact ⟨rfl,h2⟩
  |nil=>
   simp only [ab] at hl
   obtain ⟨e',bZ,m,q1,q2,q3,q4,q5,q6,_⟩:=sn h hl hK
   have hl:[v]=[Value.slice none 0 0]:=hl
   refine ⟨e,st,.list [],h,.refl _ _,rfl,⟨rfl,?_⟩,hK⟩
   rw [hl]
   exact .list none 0 [] 0 0 0 (fun _=>[]) (by simp) (by simp) (by simp) (by simp) (by simp)
  |mp s es=>simp [qL] at hK
  |own f=>
   simp only [ab] at hl
   simp only [qL] at hK
   cases hf:aO st.aV f with
   |none=>simp [hf] at hK
   |some o=>
    obtain ⟨e',bZ,m,q1,q2,q3,q4,q5,q6,q7⟩:=sn (l:= .own f) h hl (by simpa only [qL,hf] using hK)
    obtain ⟨o2,_,rfl⟩:=q7.1 f rfl
    exact ⟨e',bZ,.list o2.xs,q1,q2,q3,⟨rfl,q4⟩,q5⟩
 |ag cs=>
  simp only [ab] at hl
  obtain ⟨arr,hv,hl⟩:=hl
  simp only [lO] at hK
  obtain ⟨e',bZ,ms,q1,q2,q3,q4,q5,_⟩:=mc h hl hK
  exact ⟨e',bZ,.agg ms,q1,q2,q3,⟨arr,hv,q4⟩,q5⟩
 |rp cs off=>
  simp only [ab] at hl
  obtain ⟨bg,q,vs,hv,qe,hp,BN⟩:=hl
  simp only [lO] at hK
  cases hb:Nat.beq off 0 with
  |false=>simp [hb] at hK
  |true=>
   simp only [hb,cond_true] at hK
   have h0:=Nat.eq_of_beq_eq_true hb
   subst h0
   obtain ⟨e',bZ,ms,q1,q2,q3,q4,q5,q6⟩:=mc h qe hK
   obtain ⟨rfl,rfl⟩:=q6.1 hp
   refine ⟨e',bZ,.rp ms,q1,q2,q3,⟨rfl,?_⟩,q5⟩
   rw [hv]
   exact .rp bg (q+0) vs ms q4 (by simpa using BN)
 |_=>simp [lO] at hK
theorem qj {ss:List Slot}: ∀{e:Env} {st:St} {vs:List Value} {K:List MV→St→Option R},bX c Z e st a w→(∃f:Unit→List Value,f ()=vs∧vs.length=ss.length∧ ∀(i:Nat) (v:Value) (s:Slot),vs[i]? =some v→ss[i]? =some s→ab e v s)→
 uI st ss K=some r→ ∃e' bZ ms,bX c Z e' bZ a w∧Ext Z e e'∧bZ.fr=st.fr∧cc e'.key e'.φ vs ms∧K ms bZ=some r:=by
 induction ss with
 |nil=>intro e st vs K h hl hK;obtain ⟨f,_,hlen,_⟩:=hl;have:=List.eq_nil_of_length_eq_zero hlen;subst this;exact ⟨e,st,[],h,.refl _ _,rfl,rfl,hK⟩
 |cons s ss ih=>
  intro e st vs K h hl hK
  obtain ⟨f,_,hlen,eQ⟩:=hl
  cases vs with
  |nil=>simp at hlen
  |cons v vs=>
   simp only [uI] at hK
   obtain ⟨e1,dV,m,q1,q2,q3,q4,q5⟩:=mY h (eQ 0 v s rfl rfl) hK
   obtain ⟨e2,dH,ms,p1,p2,p3,p4,p5⟩:=ih (vs:=vs) q1 ⟨fun _=>vs,rfl,by simpa using hlen,fun i v s h1 h2=>(eQ (i+1) v s (by simpa using h1) (by simpa using h2)).on q2.on (dB s)⟩ q5
   refine ⟨e2,dH,m::ms,p1,q2.trans p2,p3.trans q3,⟨v,vs,rfl,?_,p4⟩,p5⟩
   have:=q4.mono p2.on.φ
   rw [←p2.on.key] at this;exact this
end
end Dn
/-
  Parts of structs, lengths, the least and the greatest, places of elements. Conditions: none.
-/
set_option linter.unusedSimpArgs false
set_option linter.unusedVariables false
namespace Dn
open Go
section
variable {P:Program} {c:Ctx} {Z:bM} {e:Env} {st:St} {a:Act} {w w':World} {R:Type} {K:St→Option R} {r:R} {Q:Exit→Act→World→Prop} {o:Oper}
theorem HY {t:TypeId} {I:TI} (hr:mX c.ti P t I) (hc:I.cL=[]):
 ((I.st=true∨I.size=32)∧ ∀w:World,(isAgg t).run P w= .ok true w)∨(I.st=false∧I.size=1∧ ∀w:World,(isAgg t).run P w= .ok false w):=by
 rcases hr.agg hc with ⟨d,hu,hd,hh⟩|⟨d,hu,hd,h1,h2⟩
 ·refine .inl ⟨hh.imp id (·.2),fun w=> ?_⟩
  unfold isAgg;rw [Sem.run_bind,run_underlying hu w];cases d<;>simp_all [TypeDesc.isRow]
 ·refine .inr ⟨h1,h2,fun w=> ?_⟩
  unfold isAgg;rw [Sem.run_bind,run_underlying hu w];cases d<;>simp_all [TypeDesc.isRow]
theorem Tz {t:TypeId} {I:TI} {cs:List aI} {off:Nat} {arr:Array Value} {K':Slot→Option R} (hr:mX c.ti P t I) (hc:I.cL=[])
 (hv:ax e arr.toList cs) (hK:jN I cs off K'=some r):
 ∃v s,(∀w:World,(Go.part t arr off).run P w= .ok v w)∧ab e v s∧ct st.fr s∧K' s=some r:=by
 obtain ⟨i,hi,hs,_⟩:=hr.info hc
 have ext: ∀v1 v2 v3:List Value,arr.toList=v1++v2++v3→v1.length=off→(arr.extract off (off+v2.length))=v2.toArray:=by
  intro v1 v2 v3 h1 h2
  apply Array.toList_inj.1
  rw [Array.toList_extract,h1,List.extract_eq_take_drop,List.append_assoc,←h2,List.drop_left]
  simp
 unfold jN at hK
 cases ek:I.st with
 |true=>
  simp only [ek,cond_true] at hK
  cases hp:Dn.part cs off I.size with
  |none=>simp [hp] at hK
  |some ds=>
   simp only [hp] at hK
   obtain ⟨v1,v2,v3,h0,h1,h2,h3⟩:=HV hp hv
   rcases HY (P:=P) hr hc with ⟨_,hag⟩|⟨hf,_⟩
   ·refine ⟨.agg v2.toArray,.ag ds,?_,?_,trivial,hK⟩
    ·have hx:=ext v1 v2 v3 h0 h1
     rw [h2] at hx
     simp [Go.part,hag,Go.sizeOf,typeInfo,hi,hs,hx]
    ·simp only [ab];exact ⟨_,rfl,by simpa using h3⟩
   ·rw [ek] at hf;cases hf
 |false=>
  simp only [ek,cond_false] at hK
  cases hp:cut cs off with
  |none=>simp [hp] at hK
  |some ds=>
   cases ds with
   |nil=>simp [hp] at hK
   |cons l ls=>
    simp only [hp] at hK
    cases hb:Nat.beq l.w I.size with
    |false=>simp [hb] at hK
    |true=>
     simp only [hb,cond_true] at hK
     have hw:=Nat.eq_of_beq_eq_true hb
     obtain ⟨v1,v2,h0,h1,h2⟩:=wU hp hv
     obtain ⟨u,u2,rfl,h3,h4⟩:=h2
     have hlu:u.length=I.size:=by rw [h3.width,hw]
     rcases HY (P:=P) hr hc with ⟨hh,hag⟩|⟨_,h1s,hag⟩
     ·refine ⟨.agg u.toArray,.sc l,?_,h3.slot (.inr ⟨rfl,?_⟩),trivial,hK⟩
      ·have hx:=ext v1 u u2 (by rw [h0,List.append_assoc]) h1
       rw [hlu] at hx
       simp [Go.part,hag,Go.sizeOf,typeInfo,hi,hs,hx]
      ·rcases hh with hh|hh
       ·rw [ek] at hh;cases hh
       ·rw [hw,hh]
     ·obtain ⟨v,rfl⟩:=List.length_eq_one_iff.1 (by rw [hlu,h1s])
      refine ⟨v,.sc l,?_,h3.slot (.inl ⟨rfl,?_⟩),trivial,hK⟩
      ·have:arr[off]? =some v:=by
        have:arr[off]? =arr.toList[off]? :=by simp
        rw [this,h0,List.getElem?_append_right (by omega),h1];simp
       simp [Go.part,hag,this]
      ·rw [hw,h1s]
theorem aaY {t:TypeId} {x:Operand} {f:Nat} {I:TI} (ho:o.op= .field t x f) (hI:c.tv t=some I) (hT:kK P c.ti) (h:bX c Z e st a w)
 (hK:aaH c I f (aS c st x) (fun s=>bu c st o.dst s K)=some r):Rd P c Z K r e a w o (fun _=>True):=by
 obtain ⟨hx,oL⟩:=h.eval x
 obtain ⟨rX,hc⟩:=bO hI
 obtain ⟨d,i,h1,h2,h3,h4⟩:=hT t I rX
 generalize aS c st x=s at hx hK oL
 unfold aaH at hK
 split at hK
 ·rename_i q y cs ek hq hy
  simp only [ab] at hx
  obtain ⟨arr,hx,qe⟩:=hx
  cases hJ:c.tv y with
  |none=>simp [hJ] at hK
  |some J=>
   simp only [hJ] at hK
   obtain ⟨hJt,ZJ⟩:=bO hJ
   obtain ⟨v,s,bT,h5,h6,h7⟩:=Tz (P:=P) (st:=st) (hT y J hJt) ZJ qe hK
   refine iO (v:=v) h ?_ h5 h6 h7
   cases d<;>simp only [qS] at h4
   case struct fs=>
    obtain ⟨_,_,_,ZK,cA,_⟩:=h4
    rw [←ZK,List.getElem?_map] at hq
    rw [←cA,List.getElem?_map] at hy
    cases hf:fs.toList[f]? with
    |none=>simp [hf] at hq
    |some fl=>
     simp [hf] at hq hy
     subst hq;subst hy
     have Pq:fs[f]? =some fl:=by simpa using hf
     simp [execOp,ho,hx,Instr.field,run_underlying h1,Pq,asAgg,bT]
   all_goals (exfalso;simp_all)
 ·simp at hK
theorem TI.mK {I:TI} {t:TypeId} (hr:mX c.ti P t I) (h:I.za=true):P.underlying t=some (.slice I.elem)∧ ∃E,c.ti I.elem=some E∧E.cL=[]∧0<E.size:=by
 unfold TI.za at h
 split at h
 ·rename_i ek hl
  obtain ⟨d,i,h1,h2,h3,h4⟩:=hr
  cases d<;>simp only [qS,hl,ek] at h4<;>first|(exfalso;simp_all;done)|skip
  obtain ⟨_,_,_,rfl,hE,_⟩:=h4
  exact ⟨h1,hE⟩
 ·cases h
theorem TI.JD {I:TI} {t:TypeId} (hr:mX c.ti P t I) (h:I.WL=true):P.underlying t=some .string:=by
 unfold TI.WL at h
 split at h
 ·rename_i ek hl
  obtain ⟨d,i,h1,h2,h3,h4⟩:=hr
  cases d<;>simp only [qS,hl,ek] at h4<;>first|(exfalso;simp_all;done)|skip
  exact h1
 ·cases h
theorem K9 {v:Value} {xs:List MV} (h:ab e v (.sc (.p (.list xs)))): ∃ad cap,v= .slice ad xs.length cap∧xs.length≤cap:=by
 simp only [ab,aZ] at h
 obtain ⟨_,h⟩:=h
 generalize hv:[v]=vs at h
 cases h
 exact ⟨_,_,by simpa using hv,by assumption⟩
theorem sr {f:Nat} {w':nm} {v:Value} (h:bX c Z e st a w) (hv:ab e v (.sc (.own f))) (hf:aO st.aV f=some w'):v=e.E f∧ ∃ad cap,v= .slice ad w'.xs.length cap∧w'.xs.length≤cap:=by
 simp only [ab] at hv
 obtain ⟨u,hu,_,hE⟩:=hv
 simp at hu;subst hu
 have hE:=hE w' (by rw [h.m];exact hf)
 refine ⟨hE,?_⟩
 obtain ⟨I,cells,_,_,dK,_⟩:=(h.iT f w' hf).row
 rcases dK.2 with ⟨h1,h2⟩|⟨g,cap,di,h1,_,_,h2,_⟩
 ·exact ⟨none,0,by rw [hE,h1,h2],by omega⟩
 ·exact ⟨_,cap,by rw [hE,h1],h2⟩
theorem iH {l:List Operand}:iW c st l=l.map (aS c st):=by
 induction l with
 |nil=>rfl
 |cons x r ih=>simp [iW,ih]
theorem aaZ {cl:Call} {t:TypeId} {I:TI} (ho:o.op= .call cl) (hb:cl.callee= .builtin .len) (ha:cl.argTypes.toList=[t]) (hI:c.tv t=some I) (hT:kK P c.ti) (h:bX c Z e st a w)
 (hK:S4 I st (iW c st cl.args.toList) (fun s=>bu c st o.dst s K)=some r):Rd P c Z K r e a w o (fun _=>True):=by
 obtain ⟨rX,hc⟩:=bO hI
 have hr:=hT t I rX
 have Eo:cl.argTypes= #[t]:=by rw [←Array.toList_inj,ha]
 rw [iH] at hK
 have go: ∀x,cl.args.toList=[x]→ ∀n:Nat,(∃b:ByteArray,a.eval x= .string b∧b.size=n∧P.underlying t=some .string)∨(∃ad cap,a.eval x= .slice ad n cap∧ ∃el,P.underlying t=some (.slice el))→
  bu c st o.dst (.sc (.p (.i .i64 n))) K=some r→Rd P c Z K r e a w o (fun _=>True):=by
  intro x hx n La hK
  have NB:cl.args= #[x]:=by rw [←Array.toList_inj,hx]
  refine iO h ?_ (tK .i64 (n:Int)) trivial hK
  rcases La with ⟨b,h1,h2,h3⟩|⟨ad,cap,h1,el,h3⟩
  ·simp [execOp,ho,resolve,hb,invoke,builtin,Builtin.len_,Eo,NB,run_underlying h3,h1,goInt,h2]
  ·simp [execOp,ho,resolve,hb,invoke,builtin,Builtin.len_,Eo,NB,run_underlying h3,h1,goInt]
 cases hl:cl.args.toList with
 |nil=>rw [hl] at hK;simp [S4] at hK
 |cons x ys=>
  rw [hl] at hK
  cases ys with
  |cons y zs=>simp only [List.map_cons] at hK;unfold S4 at hK;split at hK<;>simp_all
  |nil=>
   simp only [List.map_cons,List.map_nil] at hK
   obtain ⟨hx,_⟩:=h.eval x
   generalize aS c st x=s at hx hK
   unfold S4 at hK
   split at hK
   ·rename_i l hs
    simp at hs;subst hs
    cases hS:I.WL with
    |false=>simp [hS] at hK
    |true=>
     simp only [hS,cond_true] at hK
     obtain ⟨b,BM,rfl⟩:=Ej hx
     exact go x hl _ (.inl ⟨b,BM,by show b.data.size=_;exact (Array.length_toList).symm,TI.JD hr hS⟩) hK
   ·rename_i l hs
    simp at hs;subst hs
    cases hS:I.za with
    |false=>simp [hS] at hK
    |true=>
     simp only [hS,cond_true] at hK
     obtain ⟨ad,cap,hv,_⟩:=K9 hx
     exact go x hl _ (.inr ⟨ad,cap,hv,_,(TI.mK hr hS).1⟩) hK
   ·rename_i hs
    simp at hs;subst hs
    cases hS:I.za with
    |false=>simp [hS] at hK
    |true=>
     simp only [hS,cond_true] at hK
     simp only [ab] at hx
     have hx:[a.eval x]=[Value.slice none 0 0]:=hx
     simp at hx
     exact go x hl 0 (.inr ⟨none,0,hx,_,(TI.mK hr hS).1⟩) hK
   ·rename_i f hs
    simp at hs;subst hs
    cases hS:I.za with
    |false=>simp [hS] at hK
    |true=>
     simp only [hS,cond_true] at hK
     cases hf:aO st.aV f with
     |none=>simp [hf] at hK
     |some w'=>
      simp only [hf] at hK
      obtain ⟨_,ad,cap,hv,_⟩:=sr h hx hf
      exact go x hl _ (.inr ⟨ad,cap,hv,_,(TI.mK hr hS).1⟩) hK
   ·simp at hK
end
end Dn
/-
  Values as leaves; places of elements; the least and the greatest; parts of slices. Conditions: none.
-/
set_option linter.unusedSimpArgs false
set_option linter.unusedVariables false
namespace Dn
open Go
section
variable {P:Program} {c:Ctx} {Z:bM} {e:Env} {st:St} {a:Act} {w w':World} {R:Type} {K:St→Option R} {r:R} {Q:Exit→Act→World→Prop} {o:Oper}
structure ZM (e:Env) (k:Kd) (vs:List Value) (m:MV) (l:aI):Prop where
 rep:ln e.key e.φ vs m→aZ e vs l
 SL:sf l=true
 mv:bH [l]=some [m]
 one: ∀m',l= .p m'→m'.one=true
 wid:l.w=Dk [k]
theorem mL {k:Kd} {m:MV} {vs:List Value} {K':aI→Option R} (hK:jM k m K'=some r): ∃l,ZM e k vs m l∧K' l=some r:=by
 have mk: ∀m:MV,m.one=true→(Dk [k]=1)→K' (.p m)=some r→ ∃l,ZM e k vs m l∧K' l=some r:=
  fun m h1 h2 h3=>⟨.p m,⟨fun h=>⟨h1,h⟩,rfl,rfl,fun m' e=>by cases e;exact h1,h2.symm⟩,h3⟩
 cases k with
 |b=>unfold jM gB at hK;cases m<;>simp at hK;exact mk _ rfl rfl hK
 |s=>unfold jM gS at hK;cases m<;>simp at hK;exact mk _ rfl rfl hK
 |l=>unfold jM gL at hK;cases m<;>simp at hK;exact mk _ rfl rfl hK
 |i k=>
  unfold jM gI at hK;cases m<;>simp at hK
  rename_i k' n
  by_cases hk:k'=k
  ·subst hk;simp at hK;exact mk _ rfl rfl hK
  ·simp [hk] at hK
 |h=>
  unfold jM gH at hK;cases m<;>simp at hK
  rename_i x
  refine ⟨.hs x,⟨?_,rfl,rfl,by simp,rfl⟩,hK⟩
  intro h;cases h;rfl
 |raw=>unfold jM gR at hK;cases m<;>simp at hK<;>exact mk _ rfl rfl hK
theorem zg {l:aI} {ls:List aI} {m:MV} {ms:List MV} (h1:bH [l]=some [m]) (h2:bH ls=some ms):bH (l::ls)=some (m::ms):=by
 cases l<;>simp [bH] at h1⊢ <;>simp [h2,h1]
structure Xq (e:Env) (ks:List Kd) (vs:List Value) (ms:List MV) (ls:List aI):Prop where
 rep:gQ e.key e.φ vs ms→ax e vs ls
 SL:iU ls=true
 mv:bH ls=some ms
 one: ∀m',aI.p m'∈ls→m'.one=true
 wid:wP ls=Dk ks
theorem QK (k:Kd) (ks:List Kd):Dk (k::ks)=Dk [k]+Dk ks:=by cases k<;>simp [Dk]
theorem uT {ks:List Kd}: ∀{ms:List MV} {vs:List Value} {K':List aI→Option R},se ks ms K'=some r→ ∃ls,Xq e ks vs ms ls∧K' ls=some r:=by
 induction ks with
 |nil=>
  intro ms vs K' hK
  cases ms with
  |nil=>exact ⟨[],⟨fun h=>by cases h;rfl,rfl,rfl,by simp,rfl⟩,hK⟩
  |cons m ms=>simp [se,gN] at hK
 |cons k ks ih=>
  intro ms vs K' hK
  cases ms with
  |nil=>simp [se,gC] at hK
  |cons m ms=>
   simp only [se,gC] at hK
   have h1:=fun vs=>mL (e:=e) (vs:=vs) hK
   obtain ⟨l,hl,pN⟩:=h1 []
   obtain ⟨ls,Lb,wv⟩:=ih (vs:=[]) pN
   refine ⟨l::ls,⟨?_,?_,zg hl.mv Lb.mv,?_,?_⟩,wv⟩
   ·intro h
    have g:ax e vs (l::ls):=by
     apply h.leaves (zg hl.mv Lb.mv)
     intro m' hm
     rcases List.mem_cons.1 hm with hm|hm
     ·exact hl.one m' hm.symm
     ·exact Lb.one m' hm
    exact g
   ·simp [iU,hl.SL,Lb.SL]
   ·intro m' hm
    rcases List.mem_cons.1 hm with hm|hm
    ·exact hl.one m' hm.symm
    ·exact Lb.one m' hm
   ·rw [QK,←hl.wid,←Lb.wid];rfl
theorem Xr {t:TypeId} {I:TI} (hr:mX c.ti P t I) (hc:I.cL=[]):Dk I.lay=I.size:=by
 obtain ⟨d,i,h1,h2,h3,h4⟩:=hr
 cases d<;>simp only [qS] at h4
 case struct fs=>exact h4.2.2.1.2
 case tuple ts=>exact absurd hc h4.2.1
 case slice el=>obtain ⟨_,_,hs,_,_,_,_,k,hl,rfl⟩:=h4;rw [hl,hs];rfl
 case array n el=>obtain ⟨_,_,hs,_,_,_,hl,_⟩:=h4;rw [hl,hs];rfl
 all_goals (obtain ⟨_,_,hs,hl,_⟩:=h4;rw [hl,hs];rfl)
theorem CE {E:TI} {t:TypeId} {x:MV} {K':List aI→Option R} (hr:mX c.ti P t E) (hc:E.cL=[]) (hK:Jm E x K'=some r):
 ∃cs,Ec E.st x cs∧iU cs=true∧wP cs=E.size∧K' cs=some r:=by
 have hlw:=Xr hr hc
 unfold Jm at hK
 cases ek:E.st with
 |true=>
  simp only [ek,cond_true] at hK
  unfold gA at hK
  split at hK
  ·rename_i ms
   obtain ⟨ls,Lb,pN⟩:=uT (e:=⟨fun n=>n,fun _ _=>none,fun _=>undef,fun _=>0,[]⟩) (vs:=[]) hK
   exact ⟨ls,⟨⟨ms,Lb.mv,by simp [tc]⟩,Lb.one⟩,Lb.SL,by rw [Lb.wid,hlw],pN⟩
  ·simp at hK
 |false=>
  simp only [ek,cond_false] at hK
  split at hK
  ·rename_i k hl
   obtain ⟨l,wK,pN⟩:=mL (e:=⟨fun n=>n,fun _ _=>none,fun _=>undef,fun _=>0,[]⟩) (vs:=[]) hK
   refine ⟨[l],⟨⟨[x],wK.mv,by simp [tc]⟩,?_⟩,by simp [iU,wK.SL],?_,pN⟩
   ·intro m hm;simp at hm;exact wK.one m hm.symm
   ·rw [←hlw,hl,←wK.wid];rfl
  ·simp at hK
theorem aa0 {t:TypeId} {x y:Operand} {I E:TI} (ho:o.op= .indexAddr t x y) (hI:c.tv t=some I) (hE:c.tv I.elem=some E) (hT:kK P c.ti) (h:bX c Z e st a w)
 (hK:aaI c st I E (aS c st x) (aS c st y) (fun s=>bu c st o.dst s K)=some r):Rd P c Z K r e a w o (fun _=>True):=by
 obtain ⟨hx,oL⟩:=h.eval x
 obtain ⟨hy,_⟩:=h.eval y
 obtain ⟨rX,hc⟩:=bO hI
 obtain ⟨nj,n7⟩:=bO hE
 have hr:=hT t I rX
 have hrE:=hT _ E nj
 obtain ⟨iE,hiE,hsE,_⟩:=hrE.info n7
 have run: ∀k n bg off len cap,P.underlying t=some (.slice I.elem)→a.eval y= .int k n→a.eval x= .slice (some ⟨bg,off,none⟩) len cap→0≤n→n.toNat<len→
  ∀w:World,(execOp a.eval o).run P w= .ok (.value (.pointer (some ⟨bg,off+n.toNat *E.size,none⟩))) w:=by
  intro k n bg off len cap hu hy hx h0 h1 w
  have h2:n<(len:Int):=by omega
  simp [execOp,ho,hx,hy,Instr.indexAt,asIntOf,run_underlying hu,h0,h2,Go.sizeOf,typeInfo,hiE,hsE,Addr.add_mid]
 generalize aS c st x=sx at hx hK oL
 generalize aS c st y=sy at hy hK
 unfold aaI at hK
 split at hK
 ·rename_i xs k n
  cases hL:I.za with
  |false=>simp [hL] at hK
  |true=>
   simp only [hL,cond_true] at hK
   obtain ⟨h0,m,hm,hK⟩:=K4 hK
   obtain ⟨cs,h1,h2,h3,hK⟩:=CE hrE n7 hK
   have da:n.toNat<xs.length:=(List.getElem?_eq_some_iff.1 hm).1
   simp only [ab,aZ] at hx
   obtain ⟨_,hx⟩:=hx
   generalize hv:[a.eval x]=vs at hx
   cases hx with
   |list ad cap _ bg off KJ f g1 g2 g3 g4 g5=>
   simp at hv
   have eQ:=g5 n.toNat da
   rw [(List.getElem?_eq_some_iff.1 hm).2] at eQ
   have qe:=eQ.Em h1
   have Xs:KJ=E.size:=by rw [←h3,←qe.width,g3 _ da]
   rw [g2 (by omega)] at hv
   refine iO (s:= .rp cs 0) h (run k n bg off _ cap (TI.mK hr hL).1 (lK hy) hv h0 da) ?_ trivial hK
   simp only [ab]
   refine ⟨bg,off+n.toNat *E.size,f n.toNat,rfl,qe,h2,?_⟩
   intro j hj
   rw [g3 _ da] at hj
   rw [←Xs];exact g4 n.toNat j da hj
 ·rename_i f k n
  cases hf:aO st.aV f with
  |none=>simp [hf] at hK
  |some fo=>
   simp only [hf] at hK
   cases hL:I.za with
   |false=>simp [hL] at hK
   |true=>
    simp only [hL,cond_true] at hK
    obtain ⟨h0,m,hm,hK⟩:=K4 hK
    obtain ⟨cs,h1,h2,h3,hK⟩:=CE hrE n7 hK
    have da:n.toNat<fo.xs.length:=(List.getElem?_eq_some_iff.1 hm).1
    obtain ⟨hv,_⟩:=sr h hx hf
    obtain ⟨J,cells,_,_,dK,_⟩:=(h.iT f fo hf).row
    rcases dK.2 with ⟨h5,h6⟩|⟨g,cap,di,h5,_⟩
    ·omega
    ·rw [h5] at hv
     refine iO (s:= .ep f n.toNat 0 E.st cs) h (run k n g 0 _ cap (TI.mK hr hL).1 (lK hy) hv h0 da) ?_ trivial hK
     simp only [ab]
     intro o2 cA
     rw [h.m,hf] at cA
     cases cA
     exact ⟨g,cap,h5,⟨m,hm,h1⟩,by rw [h3,Nat.zero_add,Nat.add_zero]⟩
 ·rename_i r' o' k n
  cases ek:I.st with
  |true=>simp [ek] at hK
  |false=>
   simp only [ek,cond_false] at hK
   split at hK
   ·rename_i hl
    obtain ⟨M4,hK⟩:=et hK
    obtain ⟨h0,h1⟩:=of_decide_eq_true M4
    obtain ⟨d,i,hu,h2,h3,h4⟩:=hr
    cases d<;>simp only [qS,hl,ek] at h4<;>first|(exfalso;simp_all;done)|skip
    obtain ⟨_,_,_,rfl,_,⟨ie,ZN,nU,wL⟩,_⟩:=h4
    simp only [ab] at hx
    refine iO (s:= .hp r' o' n.toNat) (v:= .pointer (some ⟨e.B r',o'+n.toNat,none⟩)) h ?_ ?_ oL hK
    ·simp [execOp,ho,hx,lK hy,Instr.indexAt,asIntOf,run_underlying hu,h0,h1,Go.sizeOf,typeInfo,nU,wL,Instr.sureAddr,Addr.add_mid]
    ·simp only [ab];exact ⟨trivial,by omega⟩
   ·simp at hK
 ·simp at hK
theorem QL {mx:Bool} {k:IntKind} {ss:List Slot}: ∀{vs:List Value} {n:Int} {m:MV},SZ mx k n ss=some m→vs.length=ss.length→
 (∀(i:Nat) (v:Value) (s:Slot),vs[i]? =some v→ss[i]? =some s→ab e v s)→
 ∃v,(∀w:World,(vs.foldlM (if mx then Builtin.max2 else Builtin.min2) (.int k n)).run P w= .ok v w)∧ab e v (.sc (.p m)):=by
 induction ss with
 |nil=>
  intro vs n m hm hl hs
  have:=List.eq_nil_of_length_eq_zero hl
  subst this
  simp [SZ] at hm
  subst hm
  exact ⟨.int k n,by simp,tK k n⟩
 |cons s ss ih=>
  intro vs n m hm hl hs
  cases vs with
  |nil=>simp at hl
  |cons v vs=>
   have h0:=hs 0 v s rfl rfl
   unfold SZ at hm
   split at hm
   ·rename_i iV;simp at iV
   ·rename_i k' y r' iV
    simp at iV
    obtain ⟨rfl,rfl⟩:=iV
    by_cases hk:k'=k
    ·subst hk
     simp only [decide_true,cond_true] at hm
     obtain ⟨u,h1,h2⟩:=ih hm (by simpa using hl) (fun i v s h1 h2=>hs (i+1) v s (by simpa using h1) (by simpa using h2))
     refine ⟨u,fun w=> ?_,h2⟩
     have h1:=h1 w
     rw [lK h0]
     cases mx
     ·simp only [cond_false,ady] at h1
      simp [Builtin.min2] at h1⊢
      exact h1
     ·simp only [cond_true,imax] at h1
      simp [Builtin.max2] at h1⊢
      exact h1
    ·simp [hk] at hm
   ·simp at hm
theorem HZ {cl:Call} {mx:Bool} {m:MV} (ho:o.op= .call cl) (hb:cl.callee= .builtin (if mx then .max else .min)) (h:bX c Z e st a w)
 (hm:Nc mx (iW c st cl.args.toList)=some m) (hK:bu c st o.dst (.sc (.p m)) K=some r):Rd P c Z K r e a w o (fun _=>True):=by
 rw [iH] at hm
 cases hl:cl.args.toList with
 |nil=>rw [hl] at hm;simp [Nc] at hm
 |cons x xs=>
  rw [hl] at hm
  simp only [List.map_cons] at hm
  obtain ⟨hx,_⟩:=h.eval x
  generalize aS c st x=s at hx hm
  unfold Nc at hm
  split at hm
  ·rename_i k n ss iV
   simp at iV
   obtain ⟨rfl,rfl⟩:=iV
   obtain ⟨v,h1,h2⟩:=QL (e:=e) (P:=P) (vs:=xs.map a.eval) hm (by simp) (by
    intro i v s h1 h2
    simp only [List.getElem?_map,Option.map_eq_some_iff] at h1 h2
    obtain ⟨y,h3,rfl⟩:=h1
    obtain ⟨y',h4,rfl⟩:=h2
    rw [h3] at h4;cases h4
    exact (h.eval y).1)
   have fh:(cl.args.map a.eval).toList= .int k n::xs.map a.eval:=by simp [hl,lK hx]
   refine iO (v:=v) h ?_ h2 trivial hK
   intro w
   have h1:=h1 w
   cases mx
   ·simp at hb h1
    have TA: ∀ts t,(Builtin.min_ ts t (cl.args.map a.eval)).run P w= .ok v w:=by intro ts t;unfold Builtin.min_;rw [fh];exact h1
    simp [execOp,ho,resolve,hb,invoke,builtin,TA]
   ·simp at hb h1
    have TA: ∀ts t,(Builtin.max_ ts t (cl.args.map a.eval)).run P w= .ok v w:=by intro ts t;unfold Builtin.max_;rw [fh];exact h1
    simp [execOp,ho,resolve,hb,invoke,builtin,TA]
  ·simp at hm
end
end Dn
/-
  Parts of slices and texts. Conditions: none.
-/
set_option linter.unusedSimpArgs false
set_option linter.unusedVariables false
namespace Dn
open Go
section
variable {P:Program} {c:Ctx} {Z:bM} {e:Env} {st:St} {a:Act} {w w':World} {R:Type} {K:St→Option R} {r:R} {Q:Exit→Act→World→Prop} {o:Oper}
theorem uU {b:Bool} {lo hi:Option Operand} {len cap:Nat} {K':Nat→Nat→Option R} (h:bX c Z e st a w) (BP:len≤cap) (hK:sliceB (lk c st lo) (lk c st hi) len K'=some r):
 ∃l h',l≤h'∧h'≤len∧(lo=none→l=0)∧(∀w:World,(Instr.sliceBounds b len cap (lo.map a.eval) (hi.map a.eval) none).run P w= .ok (l,h',cap) w)∧K' l h'=some r:=by
 have bnd: ∀(k:IntKind) (n:Int) (y:Nat) (cd:BoundsCode),0≤n→n≤(y:Int)→ ∀w:World,(Instr.sliceBound (.int k n) y cd).run P w= .ok n.toNat w:=by
  intro k n y cd h1 h2 w
  simp [Instr.sliceBound,asIntOf,h1,h2]
 unfold sliceB at hK
 cases lo with
 |none=>
  cases hi with
  |none=>
   simp only [lk] at hK
   exact ⟨0,len,by omega,by omega,fun _=>rfl,by simp [Instr.sliceBounds],hK⟩
  |some y=>
   obtain ⟨hy,_⟩:=h.eval y
   simp only [lk] at hK
   generalize aS c st y=sy at hy hK
   split at hK<;>first|(simp_all;done)|skip
   ·rename_i k n h1 h2
    simp at h2;subst h2
    obtain ⟨M4,hK⟩:=et hK
    obtain ⟨h3,h4,h5⟩:=of_decide_eq_true M4
    refine ⟨0,n.toNat,by omega,by omega,fun _=>rfl,?_,hK⟩
    have:=bnd k n cap (if b then .sliceAcap else .sliceAlen) h4 (by omega)
    cases b<;>simp at this<;>simp [Instr.sliceBounds,lK hy,this]
 |some x=>
  obtain ⟨hx,_⟩:=h.eval x
  cases hi with
  |none=>
   simp only [lk] at hK
   generalize aS c st x=sx at hx hK
   split at hK<;>first|(simp_all;done)|skip
   ·rename_i k n h1 h2
    simp at h1;subst h1
    obtain ⟨M4,hK⟩:=et hK
    obtain ⟨h3,h4,h5⟩:=of_decide_eq_true M4
    refine ⟨n.toNat,len,by omega,by omega,by simp,?_,by simpa using hK⟩
    have:=bnd k n len .sliceB h3 h4
    simp [Instr.sliceBounds,lK hx,this]
  |some y=>
   obtain ⟨hy,_⟩:=h.eval y
   simp only [lk] at hK
   generalize aS c st x=sx at hx hK
   generalize aS c st y=sy at hy hK
   split at hK<;>first|(simp_all;done)|skip
   ·rename_i k n k' n' h1 h2
    simp at h1 h2;subst h1;subst h2
    obtain ⟨M4,hK⟩:=et hK
    obtain ⟨h3,h4,h5⟩:=of_decide_eq_true M4
    refine ⟨n.toNat,n'.toNat,by omega,by omega,by simp,?_,hK⟩
    have t1:=bnd k' n' cap (if b then .sliceAcap else .sliceAlen) (by omega) (by omega)
    have t2:=bnd k n n'.toNat .sliceB h3 (by omega)
    cases b<;>simp at t1<;>simp [Instr.sliceBounds,lK hx,lK hy,t1,t2]
theorem ln.sub {key:Nat→Nat} {φ:Ph} {ad:Option Addr} {len cap:Nat} {xs:List MV} {l h' size:Nat} (hv:ln key φ [.slice ad len cap] (.list xs)) (hl:l≤h') (hh:h'≤xs.length)
 (hw:l≠0→ ∀x∈xs,x.w=size):len=xs.length∧len≤cap∧ln key φ [.slice (if cap=l then ad else ad.map (·.add (l *size))) (h'-l) (cap-l)] (.list ((xs.take h').drop l)):=by
 generalize yJ:[Value.slice ad len cap]=vs at hv
 cases hv with
 |list ad' aaX _ bg off KJ f g1 g2 g3 g4 g5=>
 simp at yJ
 obtain ⟨rfl,rfl,rfl⟩:=yJ
 refine ⟨rfl,g1,?_⟩
 have hlen:((xs.take h').drop l).length=h'-l:=by simp;omega
 have adS:ln key φ [.slice (if cap=l then ad else ad.map (·.add (l *size))) ((xs.take h').drop l).length (cap-l)] (.list ((xs.take h').drop l)):=by
  have mf: ∀i,i<((xs.take h').drop l).length→i+l<xs.length:=by intro i hi;omega
  have WM: ∀(i:Nat) (hi:i<((xs.take h').drop l).length),((xs.take h').drop l)[i]=xs[i+l]'(mf i hi):=by
   intro i hi
   simp [Nat.add_comm]
  refine .list _ _ _ bg (off+l *KJ) KJ (fun i=>f (i+l)) (by rw [hlen];omega) ?_ ?_ ?_ ?_
  ·intro h0
   have cT:cap≠l:=by omega
   have Xt:0<xs.length:=by omega
   rw [g2 Xt]
   simp only [cT,if_false,Option.map_some,Option.some.injEq]
   by_cases hl0:l=0
   ·subst hl0;simp [Addr.add_mid]
   ·have Xs:KJ=size:=by
     have h3:=g5 0 Xt
     rw [←g3 0 Xt,h3.width]
     exact hw hl0 _ (List.getElem_mem Xt)
    rw [Xs,Addr.add_mid]
  ·intro i hi;exact g3 _ (mf i hi)
  ·intro i j hi hj
   have:=g4 (i+l) j (mf i hi) hj
   rw [←this]
   congr 1
   rw [Nat.add_mul];omega
  ·intro i hi
   rw [WM i hi]
   exact g5 (i+l) (mf i hi)
 rw [hlen] at adS
 exact adS
theorem An {n:Nat} {l:List MV} (h:ta n l=true): ∀x∈l,x.w=n:=by
 intro x hx
 unfold ta at h
 rw [List.all_eq_true] at h
 exact Nat.eq_of_beq_eq_true (h x hx)
theorem ba.ta {key:Nat→Nat} {φ:Ph} {size:Nat} {xs:List MV}: ∀{cs:List Value},ba key φ size cs xs→ ∀x∈xs,x.w=size:=by
 induction xs with
 |nil=>intro cs _ x hx;simp at hx
 |cons y ys ih=>
  intro cs h x hx
  obtain ⟨v,q,rfl,h1,h2,h3⟩:=h
  rcases List.mem_cons.1 hx with rfl|hx
  ·rw [←h2.width,h1]
  ·exact ih h3 x hx
theorem TB {t:TypeId} {x:Operand} {lo hi:Option Operand} {I:TI} (ho:o.op= .slice t x lo hi none) (hI:c.tv t=some I) (hT:kK P c.ti) (h:bX c Z e st a w)
 (hK:Nd c I st (aS c st x) (lk c st lo) (lk c st hi) (fun s st=>bu c st o.dst s K)=some r):Rd P c Z K r e a w o (fun _=>True):=by
 obtain ⟨hx,oL⟩:=h.eval x
 obtain ⟨rX,hc⟩:=bO hI
 have hr:=hT t I rX
 have run: ∀{el E},P.underlying t=some (.slice el)→c.ti el=some E→E.cL=[]→ ∀ad len cap l h',a.eval x= .slice ad len cap→(∀w:World,(Instr.sliceBounds true len cap (lo.map a.eval) (hi.map a.eval) none).run P w= .ok (l,h',cap) w)→
  ∀w:World,(execOp a.eval o).run P w= .ok (.value (.slice (if cap=l then ad else ad.map (·.add (l *E.size))) (h'-l) (cap-l))) w:=by
  intro el E hu hE n7 ad len cap l h' hv hb w
  obtain ⟨iE,hiE,hsE,_⟩:=(hT _ E hE).info n7
  simp [execOp,ho,Instr.sliceAt,Instr.slice,run_underlying hu,hv,hb,Go.sizeOf,typeInfo,hiE,hsE]
 generalize hs:aS c st x=s at hx hK oL
 unfold Nd at hK
 split at hK
 ·rename_i bs
  cases hS:I.WL with
  |false=>simp [hS] at hK
  |true=>
   simp only [hS,cond_true] at hK
   have hu:=TI.JD hr hS
   obtain ⟨b,hb,rfl⟩:=Ej hx
   have qT:b.data.toList.length=b.size:=by rw [Array.length_toList];rfl
   rw [qT] at hK
   obtain ⟨l,h',h1,h2,_,h3,hK⟩:=uU (P:=P) (b:=false) (cap:=b.size) h (Nat.le_refl _) hK
   refine iO (s:= .sc (.p (.s ((b.data.toList.take h').drop l)))) (v:= .string (b.extract l h')) h ?_ ?_ trivial hK
   ·simp [execOp,ho,Instr.sliceAt,Instr.slice,run_underlying hu,hb,h3]
   ·have:=Xe (e:=e) (b.extract l h')
    have h5:(b.extract l h').data.toList=(b.data.toList.take h').drop l:=by
     rw [ByteArray.data_extract,Array.toList_extract,List.extract_eq_take_drop,List.drop_take]
    rwa [h5] at this
 ·rename_i xs
  cases hS:I.za with
  |false=>simp [hS] at hK
  |true=>
   simp only [hS,cond_true] at hK
   obtain ⟨hu,_⟩:=TI.mK hr hS
   cases hE:c.tv I.elem with
   |none=>simp [hE] at hK
   |some E=>
    simp only [hE] at hK
    obtain ⟨nj,n7⟩:=bO hE
    have wv:(lo≠none→ta E.size xs=true)∧sliceB (lk c st lo) (lk c st hi) xs.length (fun l h'=>bu c st o.dst (.sc (.p (.list ((xs.take h').drop l)))) K)=some r:=by
     cases lo with
     |none=>exact ⟨by simp,hK⟩
     |some y=>simp only [lk] at hK⊢;obtain ⟨h1,h2⟩:=et hK;exact ⟨fun _=>h1,h2⟩
    obtain ⟨hw,hK⟩:=wv
    obtain ⟨ad,cap,hv,BP⟩:=K9 hx
    obtain ⟨l,h',h1,h2,h0,h3,hK⟩:=uU (P:=P) (b:=true) (cap:=cap) h BP hK
    simp only [ab,aZ] at hx
    rw [hv] at hx
    obtain ⟨_,_,eQ⟩:=ln.sub (size:=E.size) hx.2 h1 h2 (fun hl=>An (hw (fun hn=>hl (h0 hn))))
    refine iO (s:= .sc (.p (.list ((xs.take h').drop l)))) h (run hu nj n7 ad _ cap l h' hv h3) ?_ trivial hK
    simp only [ab,aZ]
    exact ⟨rfl,eQ⟩
 ·rename_i f
  cases hf:aO st.aV f with
  |none=>simp [hf] at hK
  |some fo=>
   simp only [hf] at hK
   cases hS:I.za&&Nat.beq fo.ty I.elem with
   |false=>simp [hS] at hK
   |true=>
    simp only [hS,cond_true] at hK
    simp only [Bool.and_eq_true] at hS
    obtain ⟨hu,E,nj,n7,_⟩:=TI.mK hr hS.1
    have jn:=Nat.eq_of_beq_eq_true hS.2
    obtain ⟨hvE,ad,cap,hv,BP⟩:=sr h hx hf
    simp only [ab] at hx
    obtain ⟨J,cells,hJ,_,_,iP,_⟩:=(h.iT f fo hf).row
    rw [jn,nj] at hJ
    cases hJ
    have hwx:=iP.ta
    obtain ⟨e',bZ,m,xR,Xo,K6,eQ,hK,_,hm⟩:=sn h hx hK
    obtain ⟨o2,cA,rfl⟩:=hm.1 f rfl
    rw [hf] at cA
    cases cA
    obtain ⟨l,h',h1,h2,h0,h3,hK⟩:=uU (P:=P) (b:=true) (cap:=cap) h BP hK
    rw [hv] at eQ
    obtain ⟨_,_,eQ⟩:=ln.sub (size:=E.size) eQ h1 h2 (fun _=>hwx)
    refine Nu (s:= .sc (.p (.list ((fo.xs.take h').drop l)))) (fun w _=>run hu nj n7 ad _ cap l h' hv h3 w) xR Xo.tr (.of ?_ trivial) hK
    simp only [ab,aZ]
    exact ⟨rfl,eQ⟩
 ·cases hS:I.za with
  |false=>simp [hS] at hK
  |true=>
   simp only [hS,cond_true] at hK
   obtain ⟨hu,E,nj,n7,_⟩:=TI.mK hr hS
   simp only [ab] at hx
   have hx:[a.eval x]=[Value.slice none 0 0]:=hx
   simp at hx
   obtain ⟨l,h',h1,h2,_,h3,hK⟩:=uU (P:=P) (b:=true) (cap:=0) h (Nat.le_refl _) hK
   have h4:h'=0:=by omega
   have h5:l=0:=by omega
   subst h4;subst h5
   refine iO (s:= .sc .nil) h (run hu nj n7 none 0 0 0 0 hx h3) ?_ trivial hK
   simp only [ab,if_true]
   rfl
 ·simp at hK
end
end Dn
/-
  Stores. Conditions: none.
-/
set_option linter.unusedSimpArgs false
set_option linter.unusedVariables false
namespace Dn
open Go
section
variable {P:Program} {c:Ctx} {Z:bM} {e e':Env} {st:St} {a:Act} {w w':World} {R:Type} {K:St→Option R} {r:R} {Q:Exit→Act→World→Prop} {o:Oper}
theorem Ep (x:kD) (i:Nat) (b:UInt8) (hi:i<32):br (x.put i b)=(br x).take i++[.int .u8 (b.toNat:Int)]++(br x).drop (i+1):=by
 have:br (x.put i b)=(br x).set i (.int .u8 (b.toNat:Int)):=by simp [br,kD.put,List.map_set]
 have hl:=cO x
 rw [this,List.set_eq_take_append_cons_drop,if_pos (by omega)]
 simp
structure TD (e e':Env):Prop where
 key:e'.key=e.key
 φ:qi e.φ e'.φ
 iT: ∀f o',aO e'.m f=some o'→(∃o,aO e.m f=some o)∧e'.E f=e.E f
theorem aZ.TE (h:TD e e') {vs:List Value} {l:aI} (hr:aZ e vs l):aZ e' vs l:=by
 cases l with
 |p m=>exact ⟨hr.1,by have:=hr.2.mono h.φ;rw [←h.key] at this;exact this⟩
 |own f=>
  obtain ⟨v,rfl,hv,hf⟩:=hr
  refine ⟨v,rfl,hv,fun o' zA=> ?_⟩
  obtain ⟨⟨o,ho⟩,hE⟩:=h.iT f o' zA
  rw [hE];exact hf o ho
 |_=>exact hr
theorem ax.TE (h:TD e e') {cs:List aI}: ∀{vs:List Value},ax e vs cs→ax e' vs cs:=by
 induction cs with
 |nil=>intro vs hr;exact hr
 |cons l r ih=>intro vs hr;obtain ⟨v,w,rfl,h1,h2⟩:=hr;exact ⟨v,w,rfl,h1.TE h,ih h2⟩
def Pt (f:Nat) (s:Slot):Slot:=match s with
 | .ep g i o b cs=>bif Nat.beq g f then .sc .un else .ep g i o b cs
 |s=>s
theorem tL (f:Nat) (r:Fr) (t:Nat):ao (wS f r) t=Pt f (ao r t):=Ef (Pt f) rfl r t
theorem QM (f:Nat) (s:Slot):cM (Pt f s)=cM s:=by
 cases s<;>simp only [Pt]
 rename_i g _ _ _ _
 cases Nat.beq g f<;>rfl
theorem ab.TE {f:Nat} {T:Nat→Prop} (h:TD e e') (te:km (· ≠f) T e e') {v:Value} {s:Slot} (hT:fg (fun _=>True) T s) (hr:ab e v s):ab e' v (Pt f s):=by
 cases s with
 |sc l=>
  simp only [Pt]
  cases l with
  |un=>simp [ab]
  |hs x=>simpa [ab] using hr
  |p m=>simp only [ab] at hr⊢;exact hr.TE h
  |nil=>simp only [ab] at hr⊢;exact hr.TE h
  |mp s es=>simp only [ab] at hr⊢;exact hr
  |own f=>simp only [ab] at hr⊢;exact hr.TE h
 |ag cs=>simp only [Pt,ab] at hr⊢;obtain ⟨arr,h1,h2⟩:=hr;exact ⟨arr,h1,h2.TE h⟩
 |ep g i o b cs=>
  simp only [Pt]
  cases hb:Nat.beq g f
  ·simp only [cond_false]
   refine hr.on te ?_
   simp only [fg];intro e;subst e;simp [fe] at hb
  ·simp [ab]
 |_=>exact hr.on te hT
theorem jx.TE (h:TD e e') (hk:e'.key=e.key) (hp:qi e.φ e'.φ) {o:Obj} {cs:List aI} (hr:jx e o cs):jx e' o cs:=by
 cases o with
 |cells arr T z=>exact ⟨hr.1,hr.2.TE h⟩
 |map es clock=>exact hr
 |stringIter x pos=>exact hr
 |_=>exact hr.elim
theorem ba.set {key:Nat→Nat} {φ:Ph} {size:Nat} {xs:List MV}: ∀{cs:List Value} {i:Nat} {x:MV} {v':List Value},ba key φ size cs xs→i<xs.length→v'.length=size→ln key φ v' x→
 ba key φ size (cs.take (i *size)++v'++cs.drop (i *size+size)) (xs.set i x):=by
 induction xs with
 |nil=>intro cs i x v' _ hi;simp at hi
 |cons y ys ih=>
  intro cs i x v' h hi hl hr
  obtain ⟨v,q,rfl,h1,h2,h3⟩:=h
  cases i with
  |zero=>simp only [Nat.zero_mul,List.take_zero,List.nil_append,Nat.zero_add,List.set_cons_zero];exact ⟨v',q,by rw [List.drop_left' h1],hl,hr,h3⟩
  |succ i=>
   have:=ih h3 (by simpa using hi) hl hr
   rw [List.set_cons_succ]
   refine ⟨v,_,?_,h1,h2,this⟩
   rw [Nat.succ_mul,List.take_append,List.drop_append,List.take_of_length_le (by omega),List.drop_of_length_le (by omega)]
   rw [show i *size+size-v.length=i *size by omega,show i *size+size+size-v.length=i *size+size by omega]
   simp
theorem bX.aa1 {f:Nat} {fo:nm} {I:TI} {g i:Nat} {cap:Nat} {di:Array Value} {v' cells:List Value} {x:MV} (h:bX c Z e st a w) (hf:aO st.aV f=some fo) (hz:fo.ee=false)
 (hI:c.ti fo.ty=some I) (Tw:I.cL=[]) (hE:e.E f= .slice (some ⟨g,0,none⟩) fo.xs.length cap) (dK:w.ownsRow 0 fo.ty I.size (e.E f) fo.xs.length cells) (hg:w.heap[g]? =some (.cells di fo.ty (0,0)))
 (iP:ba e.key e.φ I.size cells fo.xs)
 (hi:i<fo.xs.length) (hl:v'.length=I.size) (hr:ln e.key e.φ v' x) (zE:f∉Z.cr):
 bX c Z {e with m:=bS e.m f ⟨fo.ty,false,fo.xs.set i x⟩} {st with fr:=wS f st.fr,aV:=bS st.aV f ⟨fo.ty,false,fo.xs.set i x⟩} a
  (w.setRow g (di.toList.take (i *I.size)++v'++di.toList.drop (i *I.size+I.size)).toArray)∧Z g:=by
 have hb:(e.E f).ownBlock=some g:=by rw [hE];rfl
 have hZ:Z g∧ ∀off,e.φ g off=none:=by
  obtain ⟨J,uS,_,_,_,_,h5⟩:=(h.iT f fo hf).row
  obtain ⟨h6,h7⟩:=h5 g hb
  refine ⟨KZ h6 zE,fun off=> ?_⟩
  cases hp:e.φ g off with
  |none=>rfl
  |some u=>have:=(h7.1 off u hp).1;rw [hz] at this;cases this
 have qT:=setRow_size w g (di.toList.take (i *I.size)++v'++di.toList.drop (i *I.size+I.size)).toArray
 have hE1:TD e {e with m:=bS e.m f ⟨fo.ty,false,fo.xs.set i x⟩}:=by
  refine ⟨rfl,.refl _,fun f2 o2 cA=>⟨?_,rfl⟩⟩
  have cA:aO (bS e.m f ⟨fo.ty,false,fo.xs.set i x⟩) f2=some o2:=cA
  rw [bj] at cA
  by_cases eH:f2=f
  ·exact ⟨fo,by rw [eH,h.m];exact hf⟩
  ·simp only [eH,if_false] at cA;exact ⟨o2,cA⟩
 have te:km (· ≠f) (fun _=>True) e {e with m:=bS e.m f ⟨fo.ty,false,fo.xs.set i x⟩}:=by
  refine ⟨rfl,.refl _,fun _ _=>rfl,fun f2 o2 cA cT=> ?_⟩
  have cA:aO (bS e.m f ⟨fo.ty,false,fo.xs.set i x⟩) f2=some o2:=cA
  rw [bj] at cA
  simp only [cT,if_false] at cA;exact ⟨o2,cA,rfl,rfl⟩
 have mf: ∀f2 o2,aO (bS st.aV f ⟨fo.ty,false,fo.xs.set i x⟩) f2=some o2→ ∃o3,aO st.aV f2=some o3:=by
  intro f2 o2 cA
  rw [bj] at cA
  by_cases eH:f2=f
  ·exact ⟨fo,by rw [eH];exact hf⟩
  ·simp only [eH,if_false] at cA;exact ⟨o2,cA⟩
 refine ⟨⟨h.defers,h.size,by show bS e.m f _=bS st.aV f _;rw [h.m],h.key,?_,?_,?_,?_,?_,?_,?_,?_,fun b hb=>h.cn b (by omega)⟩,hZ.1⟩
 ·show (aT (wS f st.fr)).Nodup
  have:aT (wS f st.fr)=aT st.fr:=by simp [aT,wS]
  rw [this];exact h.nodup
 ·intro t
  show bW Z _ _ t _ (ao (wS f st.fr) t)
  rw [tL]
  have hs:=h.slot t
  have Xn:=h.bf t
  generalize ao st.fr t=s at hs Xn
  by_cases BQ: ∃cs,s= .box cs
  ·obtain ⟨cs,rfl⟩:=BQ
   simp only [bW,Pt] at hs⊢
   refine ⟨hs.1,hs.2.cn,?_,hs.2.free⟩
   obtain ⟨o2,h1,h2⟩:=hs.2.obj
   refine ⟨o2,?_,h2.TE hE1 rfl (.refl _)⟩
   rw [setRow_other _ _ _ _ (by intro eb;exact Xn cs f fo rfl hf (by rw [hb,←eb]))];exact h1
  ·have xR:ab e (a.tmps.getD t undef) s:=by cases s<;>simp only [bW] at hs<;>first|exact hs|exact absurd ⟨_,rfl⟩ BQ
   have h2:=xR.TE (f:=f) hE1 te (dB s)
   generalize QN:Pt f s=s2 at h2
   cases s2<;>first|exact h2|(exfalso;simp [ab] at h2)
 ·intro t
  show ct (wS f st.fr) (ao (wS f st.fr) t)
  rw [tL]
  have oL:=h.root t
  generalize ao st.fr t=s at oL
  have hk: ∀q,cM (ao (wS f st.fr) q)=cM (ao st.fr q):=fun q=>by rw [tL,QM]
  cases s with
  |ptr q o=>show cM (ao (wS f st.fr) q)=true;rw [hk];exact oL
  |hp q o i=>show cM (ao (wS f st.fr) q)=true;rw [hk];exact oL
  |wO q=>show cM (ao (wS f st.fr) q)=true;rw [hk];exact oL
  |ep g' _ _ _ _=>simp only [Pt];cases Nat.beq g' f<;>trivial
  |_=>trivial
 ·intro f2 o2 cA
  have cA:aO (bS st.aV f ⟨fo.ty,false,fo.xs.set i x⟩) f2=some o2:=cA
  rw [bj] at cA
  by_cases eH:f2=f
  ·subst eH
   simp at cA
   subst cA
   obtain ⟨hlen,La⟩:=dK
   refine ⟨I,cells.take (i *I.size)++v'++cells.drop (i *I.size+I.size),hI,Tw,⟨?_,?_⟩,?_,?_⟩
   ·have hle:i *I.size+I.size≤fo.xs.length *I.size:=by rw [←Nat.succ_mul];exact Nat.mul_le_mul_right _ hi
    simp only [List.length_append,List.length_take,List.length_drop,List.length_set];omega
   ·have hle:i *I.size+I.size≤fo.xs.length *I.size:=by rw [←Nat.succ_mul];exact Nat.mul_le_mul_right _ hi
    rcases La with ⟨h1,_⟩|⟨g2,n8,tM,h1,_,h3,h4,h5,h6,h7⟩
    ·rw [hE] at h1;simp at h1
    ·rw [hE] at h1
     simp at h1
     obtain ⟨rfl,rfl⟩:=h1
     rw [hg] at h3
     simp at h3
     subst h3
     refine .inr ⟨g,cap,(di.toList.take (i *I.size)++v'++di.toList.drop (i *I.size+I.size)).toArray,by rw [hE];simp,by omega,setRow_heap _ _ _ _ _ _ hg,by simpa using h4,h5,?_,?_⟩
     ·have n9:di.toList.length=di.size:=by simp
      have hcz:fo.xs.length *I.size≤cap *I.size:=Nat.mul_le_mul_right _ h4
      simp only [List.size_toArray,List.length_append,List.length_take,List.length_drop,n9];omega
     ·have n9:di.toList.length=di.size:=by simp
      have hcz:fo.xs.length *I.size≤cap *I.size:=Nat.mul_le_mul_right _ h4
      simp only [List.length_set]
      rw [←h7]
      have e1:(di.toList.take (fo.xs.length *I.size)).take (i *I.size)=di.toList.take (i *I.size):=by rw [List.take_take,Nat.min_eq_left (by omega)]
      have e2:(di.toList.take (fo.xs.length *I.size)).drop (i *I.size+I.size)=(di.toList.drop (i *I.size+I.size)).take (fo.xs.length *I.size-(i *I.size+I.size)):=by rw [List.drop_take]
      rw [e1,e2]
      have e3:(di.toList.take (i *I.size)++v').length=i *I.size+I.size:=by simp only [List.length_append,List.length_take,n9];omega
      show List.take _ (di.toList.take (i *I.size)++v'++di.toList.drop (i *I.size+I.size))=_
      rw [List.take_append,e3,List.take_of_length_le (by omega)]
   ·exact iP.set hi hl hr
   ·intro bg jy
    rw [hb] at jy
    cases jy
    exact ⟨.inr hZ.1,fun off u hu=>(by have hu:e.φ g off=some u:=hu;rw [hZ.2] at hu;cases hu),fun _ hf=>Bool.noConfusion hf⟩
  ·simp only [eH,if_false] at cA
   obtain ⟨I2,uS,h1,h2,h3,h4,h5⟩:=(h.iT f2 o2 cA).row
   exact ⟨I2,uS,h1,h2,NC (fun hk=>eH (h.ff f2 f o2 fo g cA hf hk hb)) h3,h4,h5⟩
 ·intro t t' c1 c2 h1 h2 cT
  have h1:ao (wS f st.fr) t= .box c1:=h1
  have h2:ao (wS f st.fr) t'= .box c2:=h2
  rw [tL] at h1 h2
  have g1:ao st.fr t= .box c1:=by
   generalize ao st.fr t=s at h1
   cases s<;>simp only [Pt] at h1<;>first|exact h1|(simp at h1;done)|(rename_i g' _ _ _ _;cases BC:Nat.beq g' f<;>simp [BC] at h1)
  have g2:ao st.fr t'= .box c2:=by
   generalize ao st.fr t'=s at h2
   cases s<;>simp only [Pt] at h2<;>first|exact h2|(simp at h2;done)|(rename_i g' _ _ _ _;cases BC:Nat.beq g' f<;>simp [BC] at h2)
  exact h.bb t t' c1 c2 g1 g2 cT
 ·intro t c1 f2 o2 h1 h2
  have h1:ao (wS f st.fr) t= .box c1:=h1
  rw [tL] at h1
  have g1:ao st.fr t= .box c1:=by
   generalize ao st.fr t=s at h1
   cases s<;>simp only [Pt] at h1<;>first|exact h1|(simp at h1;done)|(rename_i g' _ _ _ _;cases BC:Nat.beq g' f<;>simp [BC] at h1)
  obtain ⟨o3,SI⟩:=mf f2 o2 h2
  exact h.bf t c1 f2 o3 g1 SI
 ·intro f1 f2 o1 o2 k h1 h2 h3 h4
  obtain ⟨q1,g1⟩:=mf f1 o1 h1
  obtain ⟨q2,g2⟩:=mf f2 o2 h2
  exact h.ff f1 f2 q1 q2 k g1 g2 h3 h4
 ·intro b off v hv
  have hv:e.φ b off=some v:=hv
  have cT:b≠g:=by intro eb;subst eb;rw [hZ.2] at hv;cases hv
  rw [World.cell?_of_block (setRow_other _ _ _ _ cT)];exact h.nT b off v hv
theorem ax.aiL {cs:List aI}: ∀{vs:List Value} {ms:List MV},ax e vs cs→bH cs=some ms→gQ e.key e.φ vs ms:=by
 induction cs with
 |nil=>intro vs ms h hm;cases h;simp [bH] at hm;subst hm;exact .nil
 |cons l r ih=>
  intro vs ms h hm
  obtain ⟨v,u,rfl,h1,h2⟩:=h
  cases hr:bH r with
  |none=>cases l<;>simp [bH,hr] at hm
  |some q=>
   cases l<;>simp [bH,hr] at hm
   ·subst hm;exact .cons v _ u q h1.2 (ih h2 hr)
   ·subst hm
    have h1:v=br _:=h1
    subst h1
    exact .cons _ _ u q (.h _) (ih h2 hr)
theorem TF {b:Bool} {ms:List MV} {x:MV} {vs:List Value} (h:gQ e.key e.φ vs ms) (hx:tc b ms=some x):ln e.key e.φ vs x:=by
 cases b with
 |true=>cases ms<;>simp [tc] at hx<;>subst hx<;>exact .agg _ _ h
 |false=>
  cases ms with
  |nil=>simp [tc] at hx
  |cons m ms=>
   cases ms with
   |cons y ys=>simp [tc] at hx
   |nil=>
    simp [tc] at hx
    subst hx
    generalize yJ:vs=M3 at h
    cases h with
    |cons v _ u _ h1 h2=>cases h2;simpa using h1
theorem TG {t:TypeId} {x y:Operand} {I:TI} (ho:o.op= .store t x y) (hI:c.tv t=some I) (hT:kK P c.ti) (h:bX c Z e st a w)
 (hK:stK st I (aS c st x) (aS c st y) (fun st=>bu c st o.dst (.sc .un) K)=some r):o.wp P a w (Out c Z K r e.φ w) Q:=by
 obtain ⟨hx,oL⟩:=h.eval x
 obtain ⟨hy,_⟩:=h.eval y
 obtain ⟨rX,hc⟩:=bO hI
 have hr:=hT t I rX
 have go: ∀w' bZ,(Instr.storeAt t (a.eval x) (a.eval y)).run P w= .ok () w'→bX c Z e bZ a w'→Trans Z e.φ w e.φ w'→bu c bZ o.dst (.sc .un) K=some r→o.wp P a w (Out c Z K r e.φ w) Q:=by
  intro w' bZ h1 h2 h3 h4
  refine Ak ?_ h2 h3 h4
  simp [execOp,ho,h1]
 generalize aS c st x=sx at hx hK oL
 generalize aS c st y=sy at hy hK
 unfold stK at hK
 cases hb:tI (aP sy)||!Nat.beq (wP (aP sy)) I.size with
 |true=>simp [hb] at hK
 |false=>
  simp only [hb,cond_false] at hK
  simp only [Bool.or_eq_false_iff,Bool.not_eq_false'] at hb
  have Dl:=Nat.eq_of_beq_eq_true hb.2
  have eu:0<I.size:=by
   rcases hr.agg hc with ⟨d,hu,hd,hh⟩|⟨_,_,_,_,hh⟩
   ·obtain ⟨d',i',h1,h2,h3,h4⟩:=hr
    cases d'<;>simp only [qS] at h4<;>first|omega|exact h4.2.2.1|exact absurd hc h4.2.1
   ·omega
  have cT:aP sy≠[]:=by intro e0;rw [e0] at Dl;simp [wP] at Dl;omega
  have hcv:=zf hy hb.1 cT
  split at hK
  ·rename_i root off
   simp only [ab] at hx
   split at hK
   ·rename_i cs rY
    have vS:eP cs=false:=by cases hq:eP cs<;>simp_all
    simp only [vS,cond_false] at hK
    cases hp:putAt cs off (aP sy) with
    |none=>simp [hp] at hK
    |some fI=>
     simp only [hp] at hK
     obtain ⟨w',bZ,h1,h2,h3,h4⟩:=QJ (P:=P) vS hr hc h rY hcv Dl hp hK
     exact go w' bZ (by rw [hx];exact h1) h2 h3 h4
   ·simp at hK
  ·rename_i root off i
   simp only [ab] at hx
   obtain ⟨hx,Nz⟩:=hx
   split at hK
   ·rename_i cs n rY
    have vS:eP cs=false:=by cases hq:eP cs<;>simp_all
    simp only [vS,cond_false] at hK
    split at hK
    ·rename_i x ls aaU
     unfold gI at hK
     split at hK
     ·rename_i k n
      by_cases hk:k= .u8
      ·subst hk
       simp only [decide_true,cond_true] at hK
       obtain ⟨Ao,hK⟩:=et hK
       unfold isByte at Ao
       have Ao:=of_decide_eq_true Ao
       have hyv:=lK hy
       cases hp:putAt cs off [.hs (x.put i (UInt8.ofNat n.toNat))] with
       |none=>simp [hp] at hK
       |some fI=>
        simp only [hp] at hK
        have mb:=h.slot root
        rw [rY] at mb
        obtain ⟨arr,T,cW,qe⟩:=mb.2.cells vS
        obtain ⟨p1,p2,p3,he,h1,h2,h3⟩:=uO (ws:=br (x.put i (UInt8.ofNat n.toNat))) hp qe ⟨_,[],by simp,rfl,rfl⟩
        obtain ⟨u1,u2,hu,h4,h5⟩:=wU aaU qe
        obtain ⟨u3,u4,rfl,h6,_⟩:=h5
        have h6:u3=br x:=h6
        subst h6
        have hlx:=cO x
        have hly:=cO (x.put i (UInt8.ofNat n.toNat))
        have hpu:p1=u1∧p2++p3=br x++u4:=List.append_inj (by rw [←List.append_assoc,←he,hu]) (by omega)
        obtain ⟨rfl,hpu⟩:=hpu
        obtain ⟨rfl,rfl⟩:=List.append_inj hpu (by omega)
        have qT:arr.size=p1.length+32+p3.length:=by
         have:arr.toList.length=(p1++br x++p3).length:=by rw [he]
         simp at this
         omega
        have JE:(a.eval y).cells.toList=[.int .u8 n]:=by rw [hyv];simp [Value.cells]
        have M2:I.size=1:=by rw [←Dl];rfl
        have bT:=mz (P:=P) (w:=w) (bg:=e.B root) (off:=off+i) (v:=a.eval y) hr hc (by rw [JE,M2];rfl) (by rw [JE];simp [Value.oneCell']) cW (by omega)
        have kF:arr.toList.take (off+i)++(a.eval y).cells.toList++arr.toList.drop (off+i+I.size)=p1++br (x.put i (UInt8.ofNat n.toNat))++p3:=by
         rw [JE,M2,he,Ep x i _ Nz,←Ao,List.append_assoc p1,List.take_append,List.drop_append,List.take_append,List.drop_append]
         rw [List.take_of_length_le (by omega),List.drop_of_length_le (by omega)]
         rw [show off+i-p1.length=i by omega,show off+i+1-p1.length=i+1 by omega,show i-(br x).length=0 by omega,show i+1-(br x).length=0 by omega]
         simp
        rw [kF] at bT
        unfold wr at hK
        cases hn:bE st.cq root with
        |true=>simp [hn] at hK
        |false=>
         simp only [hn,cond_false,force_eq,lp] at hK
         exact go _ _ (by rw [hx];exact bT) (h.Tv rY cW (by simpa using h3) (fun t=>by rw [bN]) (dW h.nodup)) (.setRow _ (KZ mb.2.cn (by rw [←h.defers.2.1,←bF,hn];simp))) hK
      ·simp [hk] at hK
     ·simp at hK
    ·simp at hK
   ·simp at hK
  ·rename_i f i off b cs
   obtain ⟨e1,dV,ms,wL,Dm,BO,GY,hK,Ty,Am⟩:=mc h hcv hK
   have hx:=hx.on Dm.on (dB _)
   cases hf:aO dV.aV f with
   |none=>simp [hf] at hK
   |some fo=>
    simp only [hf] at hK
    cases hz:fo.ee with
    |true=>simp [hz] at hK
    |false=>
     simp only [hz,cond_false] at hK
     cases M1:pL (aP sy) ms with
     |none=>simp [M1] at hK
     |some vs=>
      simp only [M1] at hK
      obtain ⟨yJ,_⟩:=Am vs M1
      cases hp:putAt cs off vs with
      |none=>simp [hp] at hK
      |some fI=>
       simp only [hp] at hK
       cases hm:bH fI with
       |none=>simp [hm] at hK
       |some ms'=>
        simp only [hm] at hK
        cases hre:tc b ms' with
        |none=>simp [hre] at hK
        |some x'=>
         simp only [hre] at hK
         cases hn:bE dV.cr f with
         |true=>simp [hn] at hK
         |false=>
          simp only [hn,cond_false,aaM,np] at hK
          simp only [ab] at hx
          obtain ⟨bg,cap,hE,⟨x0,Xt,WM⟩,TH⟩:=hx fo (by rw [wL.m];exact hf)
          obtain ⟨J,cells,hJ,ZJ,dK,iP,_⟩:=(wL.iT f fo hf).row
          have hi:i<fo.xs.length:=(List.getElem?_eq_some_iff.1 Xt).1
          obtain ⟨p1,v1,p2,hce,DQ,wK,eQ⟩:=iP.at Xt
          have qe:=eQ.Em WM
          have hw1:=qe.width
          obtain ⟨q1,q2,q3,QG,hq1,hq2,kF⟩:=uO hp qe yJ
          have adU:(a.eval y).cells.toList.length=I.size:=by rw [hcv.width,Dl]
          have adV:=TF (kF.aiL hm) hre
          obtain ⟨hlen,La⟩:=dK
          rcases La with ⟨g1,_⟩|⟨g2,n8,di,g1,g0,g3,g4,g5,g6,g7⟩
          ·rw [hE] at g1;simp at g1
          ·have H0:w.ownsRow 0 fo.ty J.size (e1.E f) fo.xs.length cells:=⟨hlen,.inr ⟨g2,n8,di,g1,g0,g3,g4,g5,g6,g7⟩⟩
           rw [hE] at g1
           simp at g1
           obtain ⟨rfl,rfl⟩:=g1
           have hvl:(q1++(a.eval y).cells.toList++q3).length=J.size:=by
            have:v1.length=(q1++q2++q3).length:=by rw [QG]
            simp only [List.length_append] at this⊢;omega
           obtain ⟨pO,hZ⟩:=wL.aa1 hf hz hJ ZJ hE H0 g3 iP hi hvl adV (by rw [←wL.defers.2.2.1,←bF,hn];simp)
           have TJ:di.toList=p1++q1++q2++(q3++p2++di.toList.drop (fo.xs.length *J.size)):=by
            have:=List.take_append_drop (fo.xs.length *J.size) di.toList
            rw [g7,hce,QG] at this
            refine this.symm.trans ?_
            simp
           have ann:q2.length=I.size:=by rw [hq2,adU]
           have Ha:(p1++q1).length=i *J.size+off:=by simp [DQ,hq1]
           have ano:di.size=(p1++q1).length+I.size+(q3++p2++di.toList.drop (fo.xs.length *J.size)).length:=by
            have:di.toList.length=(p1++q1++q2++(q3++p2++di.toList.drop (fo.xs.length *J.size))).length:=by rw [←TJ]
            rw [List.length_append,List.length_append] at this
            rw [Array.length_toList] at this
            omega
           have bT:=mz (P:=P) (w:=w) (bg:=bg) (off:=i *J.size+off) (v:=a.eval y) hr hc adU hcv.cells g3 (by omega)
           have tN:di.toList.take (i *J.size+off)++(a.eval y).cells.toList++di.toList.drop (i *J.size+off+I.size)=
            di.toList.take (i *J.size)++(q1++(a.eval y).cells.toList++q3)++di.toList.drop (i *J.size+J.size):=by
            have t1:di.toList.take (i *J.size+off)=p1++q1:=by
             conv=>lhs;rw [TJ,List.append_assoc (p1++q1)]
             exact List.take_left' Ha
            have t2:di.toList.drop (i *J.size+off+I.size)=q3++p2++di.toList.drop (fo.xs.length *J.size):=by
             conv=>lhs;rw [TJ]
             exact List.drop_left' (by rw [List.length_append];omega)
            have t3:di.toList.take (i *J.size)=p1:=by
             conv=>lhs;rw [TJ]
             simp only [List.append_assoc]
             exact List.take_left' DQ
            have t4:di.toList.drop (i *J.size+J.size)=p2++di.toList.drop (fo.xs.length *J.size):=by
             have Lc:di.toList=(p1++(q1++q2++q3))++(p2++di.toList.drop (fo.xs.length *J.size)):=by
              conv=>lhs;rw [TJ]
              simp
             conv=>lhs;rw [Lc]
             exact List.drop_left' (by rw [List.length_append,←QG];omega)
            rw [t1,t2,t3,t4]
            simp
           rw [tN] at bT
           have aiO:i *wP cs+off=i *J.size+off:=by rw [←hw1,wK]
           refine Ak (w':=w.setRow bg (di.toList.take (i *J.size)++(q1++(a.eval y).cells.toList++q3)++di.toList.drop (i *J.size+J.size)).toArray) ?_ pO ?_ hK
           ·rw [aiO] at TH
            simp [execOp,ho,TH,bT]
           ·exact Dm.tr.trans (.setRow _ hZ)
  ·simp at hK
end
end Dn
/-
  Structs and sums that are put together. Conditions: none.
-/
set_option linter.unusedSimpArgs false
set_option linter.unusedVariables false
namespace Dn
open Go
section
variable {P:Program} {c:Ctx} {Z:bM} {e e':Env} {st:St} {a:Act} {w w':World} {R:Type} {K:St→Option R} {r:R} {Q:Exit→Act→World→Prop} {o:Oper}
theorem H2 {place:Nat→Option (Nat×Nat)} {cells:Array Value} {i off:Nat} {v:Value} {rest:List (Nat×Value)} (hp:place i=some (off,v.cells.size)) (hle:off+v.cells.size≤cells.size):
 Instr.fill place cells ((i,v)::rest)=Instr.fill place (cells.toList.take off++v.cells.toList++cells.toList.drop (off+v.cells.size)).toArray rest:=by
 conv=>lhs;unfold Instr.fill
 simp only [hp]
 rw [if_neg (by simp;omega)]
 congr 1
 rw [←Array.foldl_toList,Array.toList_zipIdx]
 obtain ⟨h1,h2⟩:=Go.Great.foldl_set off v.cells.toList 0 cells
 apply Array.ext_getElem?
 intro k
 have hl:(cells.toList.take off).length=off:=by simp;omega
 have e0:=h2 k
 simp only [Nat.add_zero,Array.length_toList] at e0
 refine Eq.trans e0 ?_
 have e1:(cells.toList.take off++v.cells.toList++cells.toList.drop (off+v.cells.size)).toArray[k]? =(cells.toList.take off++v.cells.toList++cells.toList.drop (off+v.cells.size))[k]? :=by simp
 rw [e1,List.append_assoc]
 have e2:cells[k]? =cells.toList[k]? :=by simp
 by_cases h3:k<off
 ·rw [if_neg (by omega),List.getElem?_append_left (by omega),List.getElem?_take,if_pos h3,e2]
 ·rw [List.getElem?_append_right (by omega),hl]
  by_cases h4:k<off+v.cells.size
  ·rw [if_pos ⟨by omega,h4,by omega⟩,List.getElem?_append_left (by simp;omega)]
  ·rw [if_neg (by omega),List.getElem?_append_right (by simp;omega),List.getElem?_drop,e2]
   congr 1
   simp;omega
theorem NG {I:TI} {places:List (Nat×Nat)} (h:bX c Z e st a w) (M1: ∀(i q y:Nat) (J:TI),I.wu[i]? =some q→I.Qy[i]? =some y→c.tv y=some J→places[i]? =some (q,J.size)∧0<J.size) {parts:List (Nat×Operand)}:
 ∀{cs ds:List aI} {cells:Array Value},ax e cells.toList cs→zw c st I parts cs=some ds→
 ∃out,Instr.fill (places.toArray[·]?) cells (parts.map fun p=>(p.1,a.eval p.2))=some out∧ax e out.toList ds:=by
 induction parts with
 |nil=>intro cs ds cells hl hb;simp [zw] at hb;subst hb;exact ⟨cells,rfl,hl⟩
 |cons p ps ih=>
  intro cs ds cells hl hb
  obtain ⟨i,x⟩:=p
  simp only [zw] at hb
  split at hb
  ·rename_i q y hq hy
   cases hJ:c.tv y with
   |none=>simp [hJ] at hb
   |some J=>
    simp only [hJ] at hb
    obtain ⟨hpi,eu⟩:=M1 i q y J hq hy hJ
    cases hu:tI (aP (aS c st x))||!Nat.beq (wP (aP (aS c st x))) J.size with
    |true=>simp [hu] at hb
    |false=>
     simp only [hu,cond_false] at hb
     simp only [Bool.or_eq_false_iff,Bool.not_eq_false'] at hu
     have Dl:=Nat.eq_of_beq_eq_true hu.2
     cases hp:putAt cs q (aP (aS c st x)) with
     |none=>simp [hp] at hb
     |some fI=>
      simp only [hp] at hb
      have cT:aP (aS c st x)≠[]:=by intro e0;rw [e0] at Dl;simp [wP] at Dl;omega
      have hv:=zf (h.eval x).1 hu.1 cT
      obtain ⟨p1,p2,p3,he,h1,h2,h3⟩:=uO hp hl hv
      have hlen:(a.eval x).cells.size=J.size:=by rw [←Dl,←hv.width];simp
      have qT:cells.size=p1.length+p2.length+p3.length:=by
       have:cells.toList.length=(p1++p2++p3).length:=by rw [he]
       simp at this;omega
      have K7:p2.length=(a.eval x).cells.size:=by rw [h2];simp
      have Pu:=H2 (place:=(places.toArray[·]?)) (cells:=cells) (i:=i) (off:=q) (v:=a.eval x) (rest:=ps.map fun p=>(p.1,a.eval p.2)) (by rw [hlen];simpa using hpi) (by omega)
      have ht:cells.toList.take q++(a.eval x).cells.toList++cells.toList.drop (q+(a.eval x).cells.size)=p1++(a.eval x).cells.toList++p3:=by
       rw [he]
       rw [List.append_assoc p1 p2 p3,List.take_left' h1,←List.append_assoc p1 p2 p3,List.drop_left' (by rw [List.length_append];omega)]
      rw [ht] at Pu
      obtain ⟨out,h4,h5⟩:=ih (cells:=(p1++(a.eval x).cells.toList++p3).toArray) (by simpa using h3) hb
      exact ⟨out,by rw [List.map_cons,Pu];exact h4,h5⟩
  ·simp at hb
theorem NH {parts:List (Nat×Operand)} (h:bX c Z e st a w): ∀{x:kD} {K':kD→Option R},D7 c st parts x K'=some r→
 ∃y,Instr.fill (fun i=>some (i *1,1)) (br x).toArray (parts.map fun p=>(p.1,a.eval p.2))=some (br y).toArray∧K' y=some r:=by
 induction parts with
 |nil=>intro x K' hb;exact ⟨x,rfl,hb⟩
 |cons p ps ih=>
  intro x K' hb
  obtain ⟨i,y⟩:=p
  simp only [D7] at hb
  split at hb
  ·rename_i m hm
   cases hi:Nat.ble 32 i with
   |true=>simp [hi] at hb
   |false=>
    simp only [hi,cond_false] at hb
    have Nz:i<32:=by
     by_cases da:i<32
     ·exact da
     ·have:Nat.ble 32 i=true:=Nat.ble_eq_true_of_le (by omega)
      simp_all
    unfold gI at hb
    split at hb
    ·rename_i k n
     by_cases hk:k= .u8
     ·subst hk
      simp only [decide_true,cond_true] at hb
      obtain ⟨Ao,hb⟩:=et hb
      unfold isByte at Ao
      have Ao:=of_decide_eq_true Ao
      obtain ⟨out,h1,h2⟩:=ih hb
      have hv:=lK (by have:=(h.eval y).1;rw [hm] at this;exact this)
      refine ⟨out,?_,h2⟩
      rw [←h1,List.map_cons]
      have M4:(a.eval y).cells= #[.int .u8 n]:=by rw [hv];simp [Value.cells]
      have Pu:=H2 (place:=fun i=>some (i *1,1)) (cells:=(br x).toArray) (i:=i) (off:=i *1) (v:=a.eval y) (rest:=ps.map fun p=>(p.1,a.eval p.2)) (by rw [M4];rfl) (by rw [M4];have:=cO x;simp;omega)
      rw [Pu,Ep x i _ Nz,←Ao,M4]
      simp
     ·simp [hk] at hb
    ·simp at hb
  ·simp at hb
theorem QO (P:Program) (l:List Field):(∀f∈l,∃i,P.info? f.type=some i)→
 ∃places,l.mapM (fun f=>(P.info? f.type).map fun i=>(f.offset,i.size))=some places∧ ∀(k:Nat) (f:Field),l[k]? =some f→ ∃i,P.info? f.type=some i∧places[k]? =some (f.offset,i.size):=by
 induction l with
 |nil=>intro _;exact ⟨[],by simp,by simp⟩
 |cons f fs ih=>
  intro h
  obtain ⟨i,hi⟩:=h f (by simp)
  obtain ⟨ps,h1,h2⟩:=ih (fun g hg=>h g (by simp [hg]))
  refine ⟨(f.offset,i.size)::ps,by simp [List.mapM_cons,hi,h1],?_⟩
  intro k g hg
  cases k with
  |zero=>simp at hg;subst hg;exact ⟨i,hi,rfl⟩
  |succ k=>simp at hg;simpa using h2 k g hg
theorem TL {t:TypeId} {parts:Array (Nat×Operand)} {I:TI} (ho:o.op= .build t parts) (hI:c.tv t=some I) (hT:kK P c.ti) (h:bX c Z e st a w)
 (hK:(bif I.st then (match zw c st I parts.toList I.zero with|some cs=>bu c st o.dst (.ag cs) K|none=>none)
  else (match I.lay with|[.h]=>D7 c st parts.toList kD.zero fun x=>bu c st o.dst (.sc (.hs x)) K|_=>none))=some r):Rd P c Z K r e a w o (fun _=>True):=by
 obtain ⟨rX,hc⟩:=bO hI
 obtain ⟨d,i,h1,h2,h3,h4⟩:=hT t I rX
 have SM:(parts.map fun (i,x)=>(i,a.eval x)).toList=parts.toList.map fun p=>(p.1,a.eval p.2):=by simp
 have run: ∀out,P.built t (parts.toList.map fun p=>(p.1,a.eval p.2))=some out→ ∀w:World,(execOp a.eval o).run P w= .ok (.value (.agg out)) w:=by
  intro out hb w
  have:=run_build (P:=P) w t (parts.map fun (i,x)=>(i,a.eval x)) out (by rw [SM];exact hb)
  simp [execOp,ho] at this⊢
  simp [this]
 cases ek:I.st with
 |true=>
  simp only [ek,cond_true] at hK
  cases d<;>simp only [qS] at h4
  case struct fs=>
   obtain ⟨_,_,_,ZK,cA,SI,zc,hz,hzl,_⟩:=h4
   cases hb:zw c st I parts.toList I.zero with
   |none=>simp [hb] at hK
   |some cs=>
    simp only [hb] at hK
    have aiP: ∃places,fs.toList.mapM (fun f=>(P.info? f.type).map fun i=>(f.offset,i.size))=some places∧
     (∀(i q y:Nat) (J:TI),I.wu[i]? =some q→I.Qy[i]? =some y→c.tv y=some J→places[i]? =some (q,J.size)∧0<J.size):=by
     obtain ⟨places,Ty,HX⟩:=QO P fs.toList (by
      intro f hf
      obtain ⟨k,hk,rfl⟩:=List.mem_iff_getElem.1 hf
      obtain ⟨J,hJ,ZJ,_⟩:=SI k fs.toList[k] (by simp at hk⊢)
      obtain ⟨i,hi,_⟩:=(hT _ J hJ).info ZJ
      exact ⟨i,hi⟩)
     refine ⟨places,Ty,?_⟩
     intro i q y J hq hy hJ
     rw [←ZK,List.getElem?_map] at hq
     rw [←cA,List.getElem?_map] at hy
     cases hf:fs.toList[i]? with
     |none=>simp [hf] at hq
     |some f=>
      simp [hf] at hq hy
      subst hq;subst hy
      obtain ⟨J2,hJ2,aiQ,eu⟩:=SI i f (by simpa using hf)
      obtain ⟨hJt,_⟩:=bO hJ
      rw [hJ2] at hJt
      cases hJt
      obtain ⟨i2,SN,aiR⟩:=HX i f hf
      obtain ⟨i3,hi3,hs3,_⟩:=(hT _ J hJ2).info aiQ
      rw [SN] at hi3
      cases hi3
      exact ⟨by rw [aiR,hs3],eu⟩
    obtain ⟨places,M1,NI⟩:=aiP
    obtain ⟨out,h5,h6⟩:=NG h NI (cells:=zc) (kL hzl) hb
    refine iO (v:= .agg out) (s:= .ag cs) h (run out ?_) ?_ trivial hK
    ·unfold Program.built
     simp only [h2,h1,hz,M1]
     exact h5
    ·simp only [ab];exact ⟨out,rfl,h6⟩
  all_goals (exfalso;simp_all)
 |false=>
  simp only [ek,cond_false] at hK
  split at hK
  ·rename_i hl
   cases d<;>simp only [qS,hl,ek] at h4<;>first|(exfalso;simp_all;done)|skip
   obtain ⟨_,_,_,rfl,rfl,⟨ie,hu,nU,wL⟩,_,_,hz⟩:=h4
   obtain ⟨y,h5,h6⟩:=NH h hK
   refine iO (v:= .agg (br y).toArray) (s:= .sc (.hs y)) h (run _ ?_) ?_ trivial h6
   ·unfold Program.built
    simp only [h2,h1,hz,nU,wL]
    exact h5
   ·simp only [ab]
  ·simp at hK
end
end Dn
/-
  A family comes to have other content. Conditions: none.
-/
set_option linter.unusedSimpArgs false
set_option linter.unusedVariables false
namespace Dn
open Go
section
variable {P:Program} {c:Ctx} {Z:bM} {e e':Env} {st:St} {a:Act} {w w':World} {R:Type} {K:St→Option R} {r:R} {Q:Exit→Act→World→Prop} {o:Oper}
def Env.zF (e:Env) (f:Nat) (v:Value) (fo:nm):Env:={e with E:=fun g=>if g=f then v else e.E g,m:=bS e.m f fo}
def St.zF (st:St) (f:Nat) (fo:nm):St:={st with fr:=kE f st.fr,aV:=bS st.aV f fo}
theorem BR (f:Nat) (s:Slot):cM (ze f s)=cM s:=by
 cases s<;>simp only [ze,cM]
 rename_i g _ _ _ _
 cases Nat.beq g f<;>rfl
theorem su {f:Nat} {s:Slot} {cs:List aI} (h:ze f s= .box cs): ∃Dp,s= .box Dp∧cs=Dp.map (KK f):=by
 cases s<;>simp only [ze] at h<;>first|(simp at h;done)|(rename_i g _ _ _ _;cases hb:Nat.beq g f<;>simp [hb] at h;done)|skip
 rename_i Dp
 simp at h
 exact ⟨Dp,rfl,h.symm⟩
theorem bX.ju {f:Nat} {fo:nm} {v':Value} (h:bX c Z e st a w) (zE:f∉Z.cr) (fV:db c Z.nc e w' v' fo) (alw:w.heap.size≤w'.heap.size)
 (cW: ∀b,b<w.heap.size→(∀o,aO st.aV f=some o→(e.E f).ownBlock≠some b)→w'.heap[b]? =w.heap[b]?)
 (jk: ∀b o v,e.φ b o=some v→w'.cell? ⟨b,o,none⟩=some v)
 (kF: ∀b,v'.ownBlock=some b→w.heap.size≤b∨ ∃o,aO st.aV f=some o∧(e.E f).ownBlock=some b):
 bX c Z (e.zF f v' fo) (st.zF f fo) a w':=by
 have te:km (· ≠f) (fun _=>True) e (e.zF f v' fo):=by
  refine ⟨rfl,.refl _,fun _ _=>rfl,fun f2 o2 cA cT=> ?_⟩
  have cA:aO (bS e.m f fo) f2=some o2:=cA
  rw [bj] at cA
  simp only [cT,if_false] at cA
  exact ⟨o2,cA,by simp [Env.zF,cT],rfl⟩
 have TM: ∀t cs,ao st.fr t= .box cs→e.B t<w.heap.size:=by
  intro t cs ht
  have hs:=h.slot t
  rw [ht] at hs
  obtain ⟨o2,h1,_⟩:=hs.2.obj
  exact bA h1
 have td: ∀t cs,ao st.fr t= .box cs→w'.heap[e.B t]? =w.heap[e.B t]? :=by
  intro t cs ht
  exact cW _ (TM t cs ht) (fun o ho=>h.bf t cs f o ht ho)
 refine ⟨h.defers,h.size,by show bS e.m f _=bS st.aV f _;rw [h.m],h.key,?_,?_,?_,?_,?_,?_,?_,jk,fun b hb=>h.cn b (by omega)⟩
 ·show (aT (kE f st.fr)).Nodup
  have:aT (kE f st.fr)=aT st.fr:=by simp [aT,kE]
  rw [this];exact h.nodup
 ·intro t
  show bW Z _ _ t _ (ao (kE f st.fr) t)
  rw [gl]
  have hs:=h.slot t
  have Dq:=td t
  generalize ao st.fr t=s at hs Dq
  by_cases BQ: ∃cs,s= .box cs
  ·obtain ⟨cs,rfl⟩:=BQ
   simp only [bW,ze] at hs⊢
   refine ⟨hs.1.kH (Nt f _),hs.2.cn,?_,hs.2.free⟩
   obtain ⟨o2,h1,h2⟩:=hs.2.obj
   refine ⟨o2,by show w'.heap[e.B t]? =_;rw [Dq cs rfl];exact h1,?_⟩
   refine (h2.map (fun _ _=>aZ.kill f) (fun _ _=>rfl)).on te ?_
   intro l hl
   obtain ⟨x,_,rfl⟩:=List.mem_map.1 hl
   exact Ei f x
  ·have xR:ab e (a.tmps.getD t undef) s:=by cases s<;>simp only [bW] at hs<;>first|exact hs|exact absurd ⟨_,rfl⟩ BQ
   have h2:=(xR.kill f).on te (Tn f _ s (dB s))
   generalize QN:ze f s=s2 at h2
   cases s2<;>first|exact h2|(exfalso;simp [ab] at h2)
 ·intro t
  show ct (kE f st.fr) (ao (kE f st.fr) t)
  rw [gl]
  have oL:=h.root t
  generalize ao st.fr t=s at oL
  have hk: ∀q,cM (ao (kE f st.fr) q)=cM (ao st.fr q):=fun q=>by rw [gl,BR]
  cases s with
  |ptr q o=>show cM (ao (kE f st.fr) q)=true;rw [hk];exact oL
  |hp q o i=>show cM (ao (kE f st.fr) q)=true;rw [hk];exact oL
  |wO q=>show cM (ao (kE f st.fr) q)=true;rw [hk];exact oL
  |ep g' _ _ _ _=>simp only [ze];cases Nat.beq g' f<;>trivial
  |_=>trivial
 ·intro f2 o2 cA
  have cA:aO (bS st.aV f fo) f2=some o2:=cA
  rw [bj] at cA
  by_cases eH:f2=f
  ·subst eH
   simp at cA
   subst cA
   have:=(fV.to zE).env (e':=e.zF f2 v' fo) rfl rfl
   simpa [Env.zF] using this
  ·simp only [eH,if_false] at cA
   obtain ⟨I2,uS,h1,h2,h3,h4,h5⟩:=(h.iT f2 o2 cA).row
   refine ⟨I2,uS,h1,h2,?_,h4,?_⟩
   ·show w'.ownsRow 0 o2.ty I2.size (if f2=f then v' else e.E f2) o2.xs.length uS
    rw [if_neg eH]
    refine ⟨h3.1,?_⟩
    rcases h3.2 with h6|⟨g,cap,di,g1,g2,g3,g4⟩
    ·exact .inl h6
    ·refine .inr ⟨g,cap,di,g1,g2,?_,g4⟩
     rw [cW g (bA g3) (fun o ho hk=>eH (h.ff f2 f o2 o g cA ho (by rw [g1];rfl) hk))];exact g3
   ·intro bg hb
    have hb:(if f2=f then v' else e.E f2).ownBlock=some bg:=hb
    rw [if_neg eH] at hb
    exact h5 bg hb
 ·intro t t' c1 c2 h1 h2 cT
  have h1:ao (kE f st.fr) t= .box c1:=h1
  have h2:ao (kE f st.fr) t'= .box c2:=h2
  rw [gl] at h1 h2
  obtain ⟨d1,g1,_⟩:=su h1
  obtain ⟨d2,g2,_⟩:=su h2
  exact h.bb t t' d1 d2 g1 g2 cT
 ·intro t c1 f2 o2 h1 h2
  have h1:ao (kE f st.fr) t= .box c1:=h1
  have h2:aO (bS st.aV f fo) f2=some o2:=h2
  rw [gl] at h1
  rw [bj] at h2
  obtain ⟨d1,g1,_⟩:=su h1
  show (if f2=f then v' else e.E f2).ownBlock≠some (e.B t)
  by_cases eH:f2=f
  ·rw [if_pos eH]
   intro hb
   rcases kF _ hb with h3|⟨o,h3,h4⟩
   ·have:=TM t d1 g1;omega
   ·exact h.bf t d1 f o g1 h3 h4
  ·rw [if_neg eH]
   simp only [eH,if_false] at h2
   exact h.bf t d1 f2 o2 g1 h2
 ·intro f1 f2 o1 o2 k h1 h2 h3 h4
  have h1:aO (bS st.aV f fo) f1=some o1:=h1
  have h2:aO (bS st.aV f fo) f2=some o2:=h2
  have h3:(if f1=f then v' else e.E f1).ownBlock=some k:=h3
  have h4:(if f2=f then v' else e.E f2).ownBlock=some k:=h4
  rw [bj] at h1 h2
  have BB: ∀g og,aO st.aV g=some og→(e.E g).ownBlock=some k→k<w.heap.size:=by
   intro g og hg hk
   obtain ⟨I2,uS,_,_,g3,_⟩:=(h.iT g og hg).row
   rcases g3.2 with ⟨g5,_⟩|⟨b,cap,di,g5,_,g6,_⟩
   ·rw [g5] at hk;simp [Value.ownBlock] at hk
   ·rw [g5] at hk;simp only [Value.ownBlock,Option.some.injEq] at hk;subst hk;exact bA g6
  by_cases Hb:f1=f
  ·by_cases xS:f2=f
   ·rw [Hb,xS]
   ·rw [if_pos Hb] at h3
    rw [if_neg xS] at h4
    simp only [xS,if_false] at h2
    rcases kF k h3 with h5|⟨o,h5,h6⟩
    ·have:=BB f2 o2 h2 h4;omega
    ·exact Hb.trans (h.ff f f2 o o2 k h5 h2 h6 h4)
  ·rw [if_neg Hb] at h3
   simp only [Hb,if_false] at h1
   by_cases xS:f2=f
   ·rw [if_pos xS] at h4
    rcases kF k h4 with h5|⟨o,h5,h6⟩
    ·have:=BB f1 o1 h1 h3;omega
    ·exact (h.ff f1 f o1 o k h1 h5 h3 h6).trans xS.symm
   ·rw [if_neg xS] at h4
    simp only [xS,if_false] at h2
    exact h.ff f1 f2 o1 o2 k h1 h2 h3 h4
theorem qF {f:Nat} {fo:nm} (hK:ju st f fo K=some r):K (st.zF f fo)=some r:=by
 unfold Dn.ju at hK
 cases hn:bE st.cr f with
 |true=>simp [hn] at hK
 |false=>simpa [hn,Tj,np,St.zF] using hK
theorem bX.npf {f:Nat} {fo:nm} (h:bX c Z e st a w) (hK:Dn.ju st f fo K=some r):f∉Z.cr:=by
 intro hm
 rw [←h.defers.2.2.1,←bF] at hm
 simp [Dn.ju,hm] at hK
theorem wY {f:Nat} {fo:nm} {v:Value} (h1:v.oneCell'=true):ab (e.zF f v fo) v (.sc (.own f)):=by
 simp only [ab]
 exact ⟨v,rfl,h1,fun o ho=>by simp [Env.zF]⟩
end
end Dn
/-
  What is appended. Conditions: none.
-/
set_option linter.unusedSimpArgs false
set_option linter.unusedVariables false
namespace Dn
open Go
section
variable {P:Program} {c:Ctx} {Z:bM} {e e':Env} {st:St} {a:Act} {w w':World} {R:Type} {K:St→Option R} {r:R} {Q:Exit→Act→World→Prop} {o:Oper}
theorem oa {t:TypeId} {I:TI} (hr:mX c.ti P t I) (hc:I.cL=[]): ∃i z,P.info? t=some i∧i.size=I.size∧i.bytes=I.bytes∧i.zero=some z∧z.cells.size=I.size:=by
 obtain ⟨d,i,h1,h2,h3,h4⟩:=hr
 obtain ⟨h5,h6⟩:=h3 hc
 cases d<;>simp only [qS] at h4
 case struct fs=>obtain ⟨_,_,_,_,_,_,cs,hz,_,hs⟩:=h4;exact ⟨i,_,h2,h5,h6,hz,by simpa [Value.cells] using hs⟩
 case tuple ts=>exact absurd hc h4.2.1
 case slice el=>obtain ⟨_,_,hs,_,_,hz,_⟩:=h4;exact ⟨i,_,h2,h5,h6,hz,by rw [hs];rfl⟩
 case array n el=>obtain ⟨_,_,hs,_,_,_,_,_,hz⟩:=h4;exact ⟨i,_,h2,h5,h6,hz,by rw [hs];simp [Value.cells,cO]⟩
 case bool=>obtain ⟨_,_,hs,_,_,hz⟩:=h4;exact ⟨i,_,h2,h5,h6,hz,by rw [hs];rfl⟩
 case int k=>obtain ⟨_,_,hs,_,_,hz⟩:=h4;exact ⟨i,_,h2,h5,h6,hz,by rw [hs];rfl⟩
 case string=>obtain ⟨_,_,hs,_,_,b,hz,_⟩:=h4;exact ⟨i,_,h2,h5,h6,hz,by rw [hs];rfl⟩
 all_goals
  obtain ⟨_,_,hs,_,v,hz,hv,_⟩:=h4
  refine ⟨i,v,h2,h5,h6,hz,?_⟩
  rw [hs]
  cases v<;>simp_all [Value.cells,Value.oneCell']
structure Src (e:Env) (w:World) (size:Nat) (v:Value) (ys:List MV) (news:List Value):Prop where
 els:ba e.key e.φ size news ys
 val: ∃ad cap,v= .slice ad ys.length cap∧(ad=none→ys=[])∧ ∀x,ad=some x→ ∀(j:Nat) (u:Value),news[j]? =some u→w.cell? (x.add j)=some u
theorem ba.wZ {key:Nat→Nat} {φ:Ph} {size:Nat} {xs:List MV}: ∀{cs:List Value},ba key φ size cs xs→ ∀u∈cs,u.oneCell'=true:=by
 induction xs with
 |nil=>intro cs h;cases h;simp
 |cons x xs ih=>
  intro cs h u hu
  obtain ⟨v,q,rfl,_,h2,h3⟩:=h
  rcases List.mem_append.1 hu with hu|hu
  ·exact h2.cells u hu
  ·exact ih h3 u hu
theorem ba.append {key:Nat→Nat} {φ:Ph} {size:Nat} {xs ys:List MV}: ∀{cs ds:List Value},ba key φ size cs xs→ba key φ size ds ys→ba key φ size (cs++ds) (xs++ys):=by
 induction xs with
 |nil=>intro cs ds h h';cases h;simpa using h'
 |cons x xs ih=>intro cs ds h h';obtain ⟨v,q,rfl,h1,h2,h3⟩:=h;exact ⟨v,q++ds,by simp,h1,h2,ih h3 h'⟩
theorem Er {key:Nat→Nat} {φ:Ph} {size:Nat} {xs:List MV}: ∀{f:Nat→List Value},(∀i,i<xs.length→(f i).length=size)→(∀(i:Nat) (h:i<xs.length),ln key φ (f i) xs[i])→
 ∃cs,ba key φ size cs xs∧ ∀(i j:Nat),i<xs.length→j<size→cs[i *size+j]? =(f i)[j]? :=by
 induction xs with
 |nil=>intro f _ _;exact ⟨[],rfl,fun i j hi=>by simp at hi⟩
 |cons x xs ih=>
  intro f h1 h2
  obtain ⟨cs,h3,h4⟩:=ih (f:=fun i=>f (i+1)) (fun i hi=>h1 (i+1) (by simpa using hi)) (fun i hi=>h2 (i+1) (by simpa using hi))
  have hl:=h1 0 (by simp)
  refine ⟨f 0++cs,⟨f 0,cs,rfl,hl,h2 0 (by simp),h3⟩,?_⟩
  intro i j hi hj
  cases i with
  |zero=>rw [Nat.zero_mul,Nat.zero_add,List.getElem?_append_left (by omega)]
  |succ i=>
   rw [Nat.succ_mul,List.getElem?_append_right (by omega),show i *size+size+j-(f 0).length=i *size+j by omega]
   exact h4 i j (by simpa using hi) hj
theorem Ld {I E:TI} {x:Slot} {v:Value} {K':List MV→Option R} (h:bX c Z e st a w) (hE:c.ti I.elem=some E) (eu:0<E.size) (hx:ab e v x) (hK:Jo I E st x K'=some r):
 ∃ys news,Src e w E.size v ys news∧K' ys=some r:=by
 unfold Jo at hK
 split at hK
 ·rename_i xs
  obtain ⟨hw,hK⟩:=et hK
  simp only [ab,aZ] at hx
  obtain ⟨_,hx⟩:=hx
  generalize hv:[v]=vs at hx
  cases hx with
  |list ad cap _ bg off KJ f g1 g2 g3 g4 g5=>
  simp at hv
  have Xs: ∀i,i<xs.length→(f i).length=E.size:=by
   intro i hi
   rw [(g5 i hi).width]
   exact An hw _ (List.getElem_mem hi)
  obtain ⟨cs,h1,h2⟩:=Er Xs g5
  refine ⟨xs,cs,⟨h1,ad,cap,hv,?_,?_⟩,hK⟩
  ·intro hn
   cases xs with
   |nil=>rfl
   |cons y ys=>have:=g2 (by simp);rw [hn] at this;cases this
  ·intro x hx j u hj
   have GX:j<cs.length:=(List.getElem?_eq_some_iff.1 hj).1
   rw [h1.length] at GX
   have Es:0<xs.length:=by
    cases xs with
    |nil=>simp at GX
    |cons y ys=>simp
   have Le:=g2 Es
   rw [hx] at Le
   cases Le
   have hq:j/E.size<xs.length:=(Nat.div_lt_iff_lt_mul eu).2 GX
   have hm:=Nat.mod_lt j eu
   have SH:j=j/E.size *E.size+j%E.size:=by rw [Nat.mul_comm];exact (Nat.div_add_mod j E.size).symm
   have e1:=h2 (j/E.size) (j%E.size) hq hm
   rw [←SH,hj] at e1
   have TN:KJ=E.size:=by rw [←g3 0 Es,Xs 0 Es]
   have e2:=g4 (j/E.size) (j%E.size) hq (by rw [TN];exact hm)
   rw [←e1,TN,Nat.add_assoc,←SH] at e2
   have:=h.nT _ _ _ e2
   rw [Addr.add_mid];exact this
 ·simp only [ab] at hx
  have hx:[v]=[Value.slice none 0 0]:=hx
  simp at hx
  exact ⟨[],[],⟨rfl,none,0,hx,fun _=>rfl,by simp⟩,hK⟩
 ·rename_i f
  cases hf:aO st.aV f with
  |none=>simp [hf] at hK
  |some fo=>
   simp only [hf] at hK
   cases hb:Nat.beq fo.ty I.elem with
   |false=>simp [hb] at hK
   |true=>
    simp only [hb,cond_true] at hK
    have jn:=Nat.eq_of_beq_eq_true hb
    obtain ⟨hv,_⟩:=sr h hx hf
    obtain ⟨J,cells,hJ,_,dK,iP,_⟩:=(h.iT f fo hf).row
    rw [jn,hE] at hJ
    cases hJ
    refine ⟨fo.xs,cells,⟨iP,?_⟩,hK⟩
    rcases dK.2 with ⟨h1,h2⟩|⟨g,cap,di,h1,_⟩
    ·exact ⟨none,0,by rw [hv,h1,h2],fun _=>List.eq_nil_of_length_eq_zero h2,by simp⟩
    ·refine ⟨some ⟨g,0,none⟩,cap,by rw [hv,h1],by simp,?_⟩
     intro x hx j u hj
     cases hx
     exact dK.cells (g:=g) (by rw [h1];rfl) j u hj
 ·simp at hK
end
end Dn
/-
  Appends. Conditions: none.
-/
set_option linter.unusedSimpArgs false
set_option linter.unusedVariables false
namespace Dn
open Go
section
variable {P:Program} {c:Ctx} {Z:bM} {e e':Env} {st:St} {a:Act} {w w':World} {R:Type} {K:St→Option R} {r:R} {Q:Exit→Act→World→Prop} {o:Oper}
structure adX (w w':World) (el:TypeId) (size:Nat) (v v':Value) (n m:Nat) (cells news:List Value):Prop where
 own:w'.ownsRow 0 el size v' (n+m) (cells++news)
 size:w.heap.size≤w'.heap.size
 BB: ∀k,k<w.heap.size→some k≠v.ownBlock→w'.heap[k]? =w.heap[k]?
 cell: ∀(k off:Nat) (u:Value),v.ownBlock=some k→off<cells.length→w.cell? ⟨k,off,none⟩=some u→w'.cell? ⟨k,off,none⟩=some u
 place:v'.ownBlock=v.ownBlock∨v'.ownBlock=some w.heap.size
 rest:Rest w w'
theorem zG {t ty:TypeId} {I E:TI} {v x:Value} {n:Nat} {cells news:List Value} {ys:List MV} (hu:P.underlying t=some (.slice I.elem)) (hE:c.ti I.elem=some E) (n7:E.cL=[]) (eu:0<E.size)
 (hT:kK P c.ti) (uV:1≤E.bytes) (dK:w.ownsRow 0 I.elem E.size v n cells) (tO:Src e w E.size x ys news) (nk:(n+ys.length) *E.bytes≤2^46):
 ∃v' w',(Builtin.append_ #[t,t] ty #[v,x]).run P w= .ok v' w'∧adX w w' I.elem E.size v v' n ys.length cells news:=by
 obtain ⟨i,z,hi,hs,QP,hz,KM⟩:=oa (hT _ E hE) n7
 obtain ⟨ad,cap,hx,H3,H4⟩:=tO.val
 have DR:=tO.els.length
 cases ad with
 |none=>
  have hys:=H3 rfl
  subst hys
  have CF:news=[]:=List.eq_nil_of_length_eq_zero (by simpa using DR)
  subst CF
  refine ⟨v,w,?_,⟨by simpa using dK,Nat.le_refl _,fun _ _ _=>rfl,fun _ _ _ _ _ h=>h,.inl rfl,.refl _⟩⟩
  rw [hx]
  rcases dK.2 with ⟨rfl,rfl⟩|⟨g,n8,di,rfl,_,_,H5,_⟩
  ·simp [Builtin.append_,run_underlying hu,Go.sizeOf,typeInfo,hi,Builtin.lenOf,Builtin.firstCells]
  ·simp [Builtin.append_,run_underlying hu,Go.sizeOf,typeInfo,hi,Builtin.lenOf,Builtin.firstCells,H5,storeCells]
 |some ad=>
  have hle:n+ys.length≤2^46:=Nat.le_trans (Nat.le_mul_of_pos_right _ uV) nk
  obtain ⟨v',w',hr,h1,h2,h3,h4⟩:=run_append_own_at (P:=P) (w:=w) 0 t ty I.elem i z E.size E.bytes hu hi hz hs QP KM eu v n cells dK ad ys.length cap news DR
   (fun j u hj=>H4 ad rfl j u hj) tO.els.wZ (by unfold Go.maxLen;omega) (by omega) (Nat.zero_le _)
  rw [hx]
  refine ⟨v',w',hr,⟨h1,h2.size,fun k hk cT=>h2.block k hk cT,?_,h4,?_⟩⟩
  rotate_left
  ·refine ⟨h2.os,h2.tape,h2.output,fun p=> ?_⟩
   have ZO: ∀(cs:Array Value) (p:Addr),(w.drew.alloc (.cells cs I.elem)).frozen? p=w.frozen? p:=fun cs p=>(Rest.alloc w.drew cs I.elem).2.2.2 p
   rcases dK.2 with ⟨hv,Xj⟩|⟨g,n8,di,hv,_,hg,H5,DO,rY,NE⟩
   ·subst hv;subst Xj
    by_cases hm:ys.length=0
    ·have CF:news=[]:=List.eq_nil_of_length_eq_zero (by rw [DR,hm];simp)
     have hys:ys=[]:=List.eq_nil_of_length_eq_zero hm
     subst CF;subst hys
     have:(Builtin.append_ #[t,t] ty #[.slice none 0 0,.slice (some ad) 0 cap]).run P w= .ok (.slice none 0 0) w:=by
      simp [Builtin.append_,run_underlying hu,Go.sizeOf,typeInfo,hi,Builtin.lenOf,Builtin.firstCells,loadCells,loadCellsFrom]
     rw [show ([]:List MV).length=0 from rfl] at hr
     rw [hr] at this
     cases this
     rfl
    ·have:=run_append_nil (P:=P) w t ty I.elem i z hu hi hz ad ys.length cap news (by rw [hs];exact DR) (fun j u hj=>H4 ad rfl j u hj) (by omega) (by omega) (by rw [QP];simp only [Nat.zero_add] at nk;omega)
     rw [hr] at this
     cases this
     exact ZO _ p
   ·subst hv
    by_cases sv:n+ys.length≤n8
    ·have wX:n *i.size+news.length≤di.size:=by rw [DR,hs,rY,←Nat.add_mul];exact Nat.mul_le_mul_right _ sv
     have:=run_append_room (P:=P) (w:=w) t ty I.elem i hu hi g n n8 di hg ad ys.length cap news (by rw [hs];exact DR) (fun j u hj=>H4 ad rfl j u hj) tO.els.wZ sv wX
     rw [hr] at this
     cases this
     exact (Rest.setRow w g _).2.2.2 p
    ·have holds: ∀j u,cells[j]? =some u→w.cell? ((⟨g,0,none⟩:Addr).add j)=some u:=dK.cells (g:=g) rfl
     have hlen:cells.length=n *i.size:=by rw [hs];exact dK.1
     have vT:(n+ys.length) *i.bytes≤140737488355328:=by rw [QP];omega
     have:=run_append_grow (P:=P) (w:=w) t ty I.elem i z hu hi hz ⟨g,0,none⟩ n n8 cells hlen holds ad ys.length cap news (by rw [hs];exact DR) (fun j u hj=>H4 ad rfl j u hj) (by omega) (by omega) (growslice_fits (by omega) vT)
     rw [hr] at this
     cases this
     exact ZO _ p
  intro k off u hk Ha hc
  rcases h4 with h4|h4
  ·have qd:=dK.cells (g:=k) hk off
   have hj:cells[off]? =some cells[off]:=List.getElem?_eq_getElem Ha
   have e1:=qd _ hj
   rw [Addr.add_mid,Nat.zero_add] at e1
   rw [hc] at e1
   cases e1
   have e2:=h1.cells (g:=k) (by rw [h4,hk]) off cells[off] (by rw [List.getElem?_append_left Ha];exact hj)
   rw [Addr.add_mid,Nat.zero_add] at e2
   exact e2
  ·rcases dK.2 with ⟨hv,_⟩|⟨g,n8,di,hv,_,hg,H5,DO,rY,NE⟩
   ·rw [hv] at hk;simp [Value.ownBlock] at hk
   ·have hkg:k=g:=by rw [hv] at hk;simp [Value.ownBlock] at hk;exact hk.symm
    subst hkg
    have da:=bA hg
    subst hv
    by_cases sv:n+ys.length≤n8
    ·exfalso
     have wX:n *i.size+news.length≤di.size:=by rw [DR,hs,rY,←Nat.add_mul];exact Nat.mul_le_mul_right _ sv
     have:=run_append_room (P:=P) (w:=w) t ty I.elem i hu hi k n n8 di hg ad ys.length cap news (by rw [hs];exact DR) (fun j u hj=>H4 ad rfl j u hj) tO.els.wZ sv wX
     rw [hr] at this
     cases this
     simp [Value.ownBlock] at h4
     omega
    ·have holds: ∀j u,cells[j]? =some u→w.cell? ((⟨k,0,none⟩:Addr).add j)=some u:=dK.cells (g:=k) rfl
     have hlen:cells.length=n *i.size:=by rw [hs];exact dK.1
     have vT:(n+ys.length) *i.bytes≤140737488355328:=by rw [QP];omega
     have:=run_append_grow (P:=P) (w:=w) t ty I.elem i z hu hi hz ⟨k,0,none⟩ n n8 cells hlen holds ad ys.length cap news (by rw [hs];exact DR) (fun j u hj=>H4 ad rfl j u hj) (by omega) (by omega) (growslice_fits (by omega) vT)
     rw [hr] at this
     cases this
     rw [World.cell?_of_block (Ah w.drew _ k da)]
     exact hc
end
end Dn
/-
  Appends, the operation. Conditions: none.
-/
set_option linter.unusedSimpArgs false
set_option linter.unusedVariables false
namespace Dn
open Go
section
variable {P:Program} {c:Ctx} {Z:bM} {e e':Env} {st:St} {a:Act} {w w':World} {R:Type} {K:St→Option R} {r:R} {Q:Exit→Act→World→Prop} {o:Oper}
theorem Lf {base:Nat} {t:TypeId} {size n:Nat} {v:Value} {xs:List Value} (h:w.ownsRow base t size v n xs):v.oneCell'=true:=by
 rcases h.2 with ⟨rfl,_⟩|⟨g,cap,di,rfl,_⟩<;>rfl
theorem QQ {cl:Call} {s x:Operand} {t:TypeId} {I E:TI} (ho:o.op= .call cl) (hb:cl.callee= .builtin .append) (ha:cl.args.toList=[s,x]) (Eo:cl.argTypes.toList=[t,t])
 (hI:c.tv t=some I) (hL:I.za=true) (hE:c.tv I.elem=some E) (hT:kK P c.ti) (h:bX c Z e st a w)
 (hK:Jo I E st (aS c st x) (fun ys=>aaK (o.dst.getD 0) st I E (aS c st s) ys (fun sl st=>bu c st o.dst sl K))=some r):o.wp P a w (Out c Z K r e.φ w) Q:=by
 obtain ⟨rX,hc⟩:=bO hI
 obtain ⟨nj,n7⟩:=bO hE
 obtain ⟨hu,E2,wM,_,eu⟩:=TI.mK (hT t I rX) hL
 rw [nj] at wM
 cases wM
 have ha':cl.args= #[s,x]:=by rw [←Array.toList_inj,ha]
 have aiS:cl.argTypes= #[t,t]:=by rw [←Array.toList_inj,Eo]
 obtain ⟨hs,_⟩:=h.eval s
 obtain ⟨hx,_⟩:=h.eval x
 obtain ⟨ys,news,tO,hK⟩:=Ld h nj eu hx hK
 have go: ∀(f:Nat) (ee:Bool) (xs:List MV) (cells:List Value),1≤E.bytes→(xs.length+ys.length) *E.bytes≤2^46→w.ownsRow 0 I.elem E.size (a.eval s) xs.length cells→ba e.key e.φ E.size cells xs→
  (∀bg,(a.eval s).ownBlock=some bg→((f∈Z.cr∧Z.Pr bg)∨Z.In bg)∧(∃o,aO st.aV f=some o∧(e.E f).ownBlock=some bg)∧ ∀off u,e.φ bg off=some u→ee=true∧off<xs.length *E.size)→
  ju st f ⟨I.elem,ee,xs++ys⟩ (fun st=>bu c st o.dst (.sc (.own f)) K)=some r→o.wp P a w (Out c Z K r e.φ w) Q:=by
  intro f ee xs cells uV nk dK iP BN hK
  obtain ⟨v',w',bT,tP⟩:=zG (P:=P) (ty:=o.type) hu nj n7 eu hT uV dK tO nk
  have hlen:cells.length=xs.length *E.size:=iP.length
  have zE:=h.npf hK
  have hK:=qF hK
  have fV:db c Z.nc e w' v' ⟨I.elem,ee,xs++ys⟩:=by
   refine ⟨E,cells++news,nj,n7,by simpa using tP.own,iP.append tO.els,?_⟩
   intro bg jy
   rcases tP.place with h1|h1
   ·rw [h1] at jy
    obtain ⟨h2,_,h3⟩:=BN bg jy
    refine ⟨KZ h2 zE,fun off u hu=> ?_,fun hc=>False.elim hc⟩
    obtain ⟨h4,h5⟩:=h3 off u hu
    refine ⟨h4,Nat.lt_of_lt_of_le h5 ?_⟩
    simp only [List.length_append]
    exact Nat.mul_le_mul_right _ (Nat.le_add_right _ _)
   ·rw [h1] at jy
    cases jy
    refine ⟨h.cn _ (Nat.le_refl _),fun off u hu=> ?_,fun hc=>False.elim hc⟩
    have:=World.block_lt_of_cell? w _ (h.nT _ _ _ hu)
    simp at this
  have pO:=h.ju (f:=f) zE fV tP.size
   (fun b NJ cT=>tP.BB b NJ (fun hk=>by obtain ⟨_,⟨o2,h1,h2⟩,_⟩:=BN b hk.symm;exact cT o2 h1 h2))
   (fun b off u hu=>by
    have hc0:=h.nT b off u hu
    by_cases hk:(a.eval s).ownBlock=some b
    ·obtain ⟨_,_,h3⟩:=BN b hk
     exact tP.cell b off u hk (by rw [hlen];exact (h3 off u hu).2) hc0
    ·rw [World.cell?_of_block (tP.BB b (World.block_lt_of_cell? w _ hc0) (fun JF=>hk JF.symm))];exact hc0)
   (fun b jy=>by
    rcases tP.place with h1|h1
    ·rw [h1] at jy;exact .inr (BN b jy).2.1
    ·rw [h1] at jy;cases jy;exact .inl (Nat.le_refl _))
  refine fin (v:=v') (s:= .sc (.own f)) ?_ pO ?_ (.of (wY (Lf tP.own)) trivial) hK
  ·simp [execOp,ho,resolve,hb,invoke,builtin,ha',aiS,bT]
  ·exact ⟨.refl _,fun b hz NJ=>tP.BB b NJ (fun hk=>hz (KZ (BN b hk.symm).1 zE)),fun _ _ _=>rfl,tP.size,tP.rest⟩
 generalize aS c st s=ss at hs hK
 unfold aaK at hK
 cases uV:Nat.ble 1 E.bytes with
 |false=>simp [uV] at hK
 |true=>
  simp only [uV,cond_true] at hK
  have uV:=Nat.le_of_ble_eq_true uV
  split at hK
  ·obtain ⟨nk,hK⟩:=et hK
   have nk:=of_decide_eq_true nk
   simp only [ab] at hs
   have hs:[a.eval s]=[Value.slice none 0 0]:=hs
   simp at hs
   refine go (o.dst.getD 0) false [] [] uV (by simpa using nk) (by rw [hs];exact World.ownsRow_nil w 0 I.elem E.size) rfl ?_ (by simpa using hK)
   intro bg jy
   rw [hs] at jy
   simp [Value.ownBlock] at jy
  ·rename_i f
   cases hf:aO st.aV f with
   |none=>simp [hf] at hK
   |some fo=>
    simp only [hf] at hK
    obtain ⟨nk,hK⟩:=et hK
    have nk:=of_decide_eq_true nk
    cases jn:Nat.beq fo.ty I.elem with
    |false=>simp [jn] at hK
    |true=>
     simp only [jn,cond_true] at hK
     have jn:=Nat.eq_of_beq_eq_true jn
     obtain ⟨hv,_⟩:=sr h hs hf
     obtain ⟨J,cells,hJ,_,dK,iP,h5⟩:=(h.iT f fo hf).row
     rw [jn,nj] at hJ
     cases hJ
     refine go f fo.ee fo.xs cells uV nk (by rw [hv,←jn];exact dK) iP ?_ (by rw [←jn];exact hK)
     intro bg jy
     rw [hv] at jy
     exact ⟨(h5 bg jy).1,⟨fo,hf,jy⟩,(h5 bg jy).2.1⟩
  ·simp at hK
end
end Dn
/-
  Slices that are written out. Conditions: none.
-/
set_option linter.unusedSimpArgs false
set_option linter.unusedVariables false
namespace Dn
open Go
section
variable {P:Program} {c:Ctx} {Z:bM} {e e':Env} {st:St} {a:Act} {w w':World} {R:Type} {K:St→Option R} {r:R} {Q:Exit→Act→World→Prop} {o:Oper}
theorem bX.ad0 {φ':Ph} (h:bX c Z e st a w) (hle:qi e.φ φ') (jk: ∀b o v,φ' b o=some v→w.cell? ⟨b,o,none⟩=some v)
 (td: ∀t cs,ao st.fr t= .box cs→ ∀off,φ' (e.B t) off=e.φ (e.B t) off) (fV: ∀f o b,aO st.aV f=some o→(e.E f).ownBlock=some b→ ∀off,φ' b off=e.φ b off):
 bX c Z {e with φ:=φ'} st a w:=by
 have te:km (fun _=>True) (fun _=>True) e {e with φ:=φ'}:=⟨rfl,hle,fun _ _=>rfl,fun f o ho _=>⟨o,ho,rfl,rfl⟩⟩
 refine ⟨h.defers,h.size,h.m,h.key,h.nodup,?_,h.root,?_,h.bb,h.bf,h.ff,jk,h.cn⟩
 ·intro t
  have hs:=h.slot t
  have hb:=td t
  show bW Z _ w t _ (ao st.fr t)
  generalize ao st.fr t=s at hs hb
  cases s<;>simp only [bW] at hs⊢ <;>try exact hs.on te (dB _)
  rename_i cs
  refine ⟨hs.1,hs.2.cn,?_,fun off=>by show φ' (e.B t) off=none;rw [hb cs rfl];exact hs.2.free off⟩
  obtain ⟨o2,h1,h2⟩:=hs.2.obj
  exact ⟨o2,h1,h2.on te (fun l _ f _=>trivial)⟩
 ·intro f o ho
  obtain ⟨I,cells,h1,h2,h3,h4,h5⟩:=(h.iT f o ho).row
  refine ⟨I,cells,h1,h2,h3,h4.mono hle,fun bg hb=>⟨(h5 bg hb).1,fun off u hu=>(h5 bg hb).2.1 off u ?_,fun g1 g2 j hj=>hle.xO ((h5 bg hb).2.2 g1 g2 j hj) hj⟩⟩
  have hu:φ' bg off=some u:=hu
  rw [fV f o bg ho hb] at hu
  exact hu
theorem fc.cells {key:Nat→Nat} {φ:Ph} {v:Value} {m:MV} (h:fc key φ v m):ln key φ v.cells.toList m:=by
 have one:m.one=true→ln key φ [v] m→ln key φ v.cells.toList m:=by
  intro h1 h2
  have:=h2.cells v (by simp)
  have hv:v.cells.toList=[v]:=by cases v<;>simp_all [Value.cells,Value.oneCell']
  rw [hv];exact h2
 cases m<;>simp only [fc] at h<;>first|exact one h.1 h.2|skip
 ·rw [h];simpa [Value.cells] using ln.h _
 ·obtain ⟨arr,rfl,h⟩:=h;exact .agg _ _ (by simpa [Value.cells] using h)
theorem QR {parts:List (Nat×Operand)}: ∀{e:Env} {st:St} {n:Nat} {K':List MV→St→Option R},bX c Z e st a w→SY c st parts n K'=some r→
 ∃e' bZ ms,bX c Z e' bZ a w∧Ext Z e e'∧cc e'.key e'.φ (parts.map fun p=>a.eval p.2) ms∧K' ms bZ=some r∧parts.map (fun p=>(p.1,a.eval p.2))=((parts.map fun p=>a.eval p.2).zipIdx n).map (fun x=>(x.2,x.1)):=by
 induction parts with
 |nil=>intro e st n K' h hK;exact ⟨e,st,[],h,.refl _ _,rfl,hK,rfl⟩
 |cons p ps ih=>
  intro e st n K' h hK
  obtain ⟨i,x⟩:=p
  simp only [SY] at hK
  cases hi:Nat.beq i n with
  |false=>simp [hi] at hK
  |true=>
   simp only [hi,cond_true] at hK
   have tf:=Nat.eq_of_beq_eq_true hi
   subst tf
   obtain ⟨e1,dV,m,q1,q2,q3,q4,q5⟩:=mY h (h.eval x).1 hK
   obtain ⟨e2,dH,ms,p1,p2,p4,p5,p6⟩:=ih q1 q5
   refine ⟨e2,dH,m::ms,p1,q2.trans p2,⟨_,_,rfl,?_,p4⟩,p5,?_⟩
   ·have:=q4.mono p2.on.φ
    rw [←p2.on.key] at this;exact this
   ·simp only [List.map_cons,List.zipIdx_cons,p6]
theorem Hc {key:Nat→Nat} {φ:Ph} {size:Nat} {ms:List MV}: ∀{vs:List Value},cc key φ vs ms→ta size ms=true→ba key φ size (vs.flatMap fun v=>v.cells.toList) ms∧vs.length=ms.length∧ ∀v∈vs,v.cells.size=size:=by
 induction ms with
 |nil=>intro vs h _;cases h;exact ⟨rfl,rfl,by simp⟩
 |cons m ms ih=>
  intro vs h hw
  obtain ⟨v,u,rfl,h1,h2⟩:=h
  have hm:=An hw m (by simp)
  have hw2:ta size ms=true:=by
   unfold ta at hw⊢
   simp only [List.all_cons,Bool.and_eq_true] at hw;exact hw.2
  obtain ⟨h3,h4,h5⟩:=ih h2 hw2
  have hl:v.cells.toList.length=size:=by rw [h1.cells.width,hm]
  refine ⟨⟨v.cells.toList,_,rfl,hl,h1.cells,h3⟩,by simp [h4],?_⟩
  intro x hx
  rcases List.mem_cons.1 hx with rfl|hx
  ·simpa using hl
  ·exact h5 x hx
end
end Dn
/-
  Slices that are written out, the operation. Conditions: none.
-/
set_option linter.unusedSimpArgs false
set_option linter.unusedVariables false
namespace Dn
open Go
section
variable {P:Program} {c:Ctx} {Z:bM} {e e':Env} {st:St} {a:Act} {w w':World} {R:Type} {K:St→Option R} {r:R} {Q:Exit→Act→World→Prop} {o:Oper}
theorem Pv {t:TypeId} {I E:TI} {vs:List Value} {parts:Array (Nat×Value)} (hu:P.underlying t=some (.slice I.elem)) (hE:c.ti I.elem=some E) (n7:E.cL=[]) (eu:0<E.size) (hT:kK P c.ti)
 (nk:vs.length *E.size≤16777216) (hv: ∀v∈vs,v.cells.size=E.size) (hp:parts.toList=(vs.zipIdx 0).map fun x=>(x.2,x.1)):
 (Instr.buildSlice t vs.length parts).run P w= .ok (.slice (some ⟨w.heap.size,0,none⟩) vs.length vs.length) (w.alloc (.cells (vs.flatMap fun v=>v.cells.toList).toArray I.elem)):=by
 obtain ⟨i,z,hi,hs,QP,hz,KM⟩:=oa (hT _ E hE) n7
 by_cases h0:vs.length=0
 ·have yJ:=List.eq_nil_of_length_eq_zero h0
  subst yJ
  have JC:parts= #[]:=by rw [←Array.toList_inj,hp];rfl
  simp [Instr.buildSlice,run_underlying hu,Go.sizeOf,typeInfo,hi,JC,Instr.fill,newRow,Sem.run]
  congr 2
  apply Array.ext_getElem?
  intro k
  simp
 ·have cT: ¬vs.length *i.size=0:=by rw [hs];exact Nat.mul_ne_zero h0 (by omega)
  refine run_buildSlice w t I.elem vs.length parts _ i z hu hi hz (by rw [hs];omega) cT ?_
  rw [hp,hs]
  exact Go.Great.fill_whole eu vs _ hv (by simp)
theorem Xu {key:Nat→Nat} {φ:Ph} {size cap bg:Nat} {xs:List MV} {cells:List Value} (h:ba key φ size cells xs) (BP:xs.length≤cap) (hp: ∀off,off<cells.length→φ bg off=cells[off]?):
 ln key φ [.slice (some ⟨bg,0,none⟩) xs.length cap] (.list xs):=by
 have hlen:=h.length
 have JB: ∀i (hi:i<xs.length),∃v1,v1.length=size∧ln key φ v1 xs[i]∧(cells.drop (i *size)).take size=v1:=by
  intro i hi
  obtain ⟨p1,v1,p2,he,DQ,wK,eQ⟩:=h.at (List.getElem?_eq_getElem hi)
  refine ⟨v1,wK,eQ,?_⟩
  rw [he,List.append_assoc,←DQ,List.drop_left,←wK,List.take_left]
 refine .list (some ⟨bg,0,none⟩) cap xs bg 0 size (fun i=>(cells.drop (i *size)).take size) BP (fun _=>rfl) ?_ ?_ ?_
 ·intro i hi
  obtain ⟨v1,h1,_,h3⟩:=JB i hi
  rw [h3,h1]
 ·intro i j hi hj
  have Ha:i *size+j<cells.length:=by
   rw [hlen]
   calc i *size+j<i *size+size:=by omega
    _=(i+1) *size:=by rw [Nat.succ_mul]
    _≤xs.length *size:=Nat.mul_le_mul_right _ hi
  rw [Nat.zero_add,hp _ Ha,List.getElem?_take]
  simp only [hj,if_true,List.getElem?_drop]
 ·intro i hi
  obtain ⟨v1,_,h2,h3⟩:=JB i hi
  rw [h3];exact h2
theorem Hd {t:TypeId} {n:Nat} {parts:Array (Nat×Operand)} {I E:TI} (ho:o.op= .buildSlice t n parts) (hI:c.tv t=some I) (hL:I.za=true) (hE:c.tv I.elem=some E) (hT:kK P c.ti) (h:bX c Z e st a w)
 (nk:Nat.ble (n *E.size) 16777216=true)
 (hK:SY c st parts.toList 0 (fun ms st=>bif Nat.beq ms.length n then cR (ta E.size ms)
  (bif bE c.bs (o.dst.getD 0) then bu c st o.dst (.sc (.p (.list ms))) K else ju st (o.dst.getD 0) ⟨I.elem,false,ms⟩ fun st=>bu c st o.dst (.sc (.own (o.dst.getD 0))) K) else none)=some r):
 o.wp P a w (fun a' w'=>dv w w'∧Out c Z K r e.φ w a' w') Q:=by
 obtain ⟨rX,hc⟩:=bO hI
 obtain ⟨nj,n7⟩:=bO hE
 obtain ⟨hu,E2,wM,_,eu⟩:=TI.mK (hT t I rX) hL
 rw [nj] at wM
 cases wM
 obtain ⟨e1,dV,ms,wL,Dm,fh,hK,TP⟩:=QR h hK
 cases hn:Nat.beq ms.length n with
 |false=>simp [hn] at hK
 |true=>
  simp only [hn,cond_true] at hK
  have hn:=Nat.eq_of_beq_eq_true hn
  obtain ⟨hw,hK⟩:=et hK
  obtain ⟨iP,hlen,rY⟩:=Hc fh hw
  generalize yJ:parts.toList.map (fun p=>a.eval p.2)=vs at fh TP iP hlen rY
  have nk:=Nat.le_of_ble_eq_true nk
  have bT:=Pv (P:=P) (c:=c) (w:=w) (t:=t) (I:=I) (vs:=vs) (parts:=parts.map fun (i,x)=>(i,a.eval x)) hu nj n7 eu hT (by rw [hlen,hn];exact nk) rY (by rw [←TP];simp)
  have ZP:(execOp a.eval o).run P w= .ok (.value (.slice (some ⟨w.heap.size,0,none⟩) vs.length vs.length)) (w.alloc (.cells (vs.flatMap fun v=>v.cells.toList).toArray I.elem)):=by
   rw [hlen,hn] at bT⊢
   simp [execOp,ho] at bT⊢
   simp [bT]
  have hg:dv w (w.alloc (.cells (vs.flatMap fun v=>v.cells.toList).toArray I.elem)):= .alloc w _ _
  have H3: ∀off,e1.φ w.heap.size off=none:=by
   intro off
   cases hp:e1.φ w.heap.size off with
   |none=>rfl
   |some u=>
    have:=World.block_lt_of_cell? w _ (wL.nT _ _ _ hp)
    simp at this
  have Pw:(vs.flatMap fun v=>v.cells.toList).length=ms.length *E.size:=iP.length
  have BP:ms.length≤16777216:=Nat.le_trans (Nat.le_mul_of_pos_right _ eu) (by rw [hn];exact nk)
  cases hb:bE c.bs (o.dst.getD 0) with
  |false=>
   simp only [hb,cond_false] at hK
   have zE:=wL.npf hK
   have hK:=qF hK
   have fV:db c Z.nc e1 (w.alloc (.cells (vs.flatMap fun v=>v.cells.toList).toArray I.elem)) (.slice (some ⟨w.heap.size,0,none⟩) vs.length vs.length) ⟨I.elem,false,ms⟩:=by
    refine ⟨E,_,nj,n7,⟨Pw,.inr ⟨w.heap.size,vs.length,_,by rw [hlen],Nat.zero_le _,kl w _,by rw [hlen];exact Nat.le_refl _,by rw [hlen];unfold Go.maxLen;omega,?_,?_⟩⟩,iP,?_⟩
    ·rw [List.size_toArray,Pw,hlen]
    ·show List.take (ms.length *E.size) _=_
     rw [List.take_of_length_le (by simp only [List.toList_toArray];omega)]
    ·intro bg jy
     simp [Value.ownBlock] at jy
     subst jy
     refine ⟨wL.cn _ (Nat.le_refl _),fun off u hu=>(by rw [H3] at hu;cases hu),fun hc=>False.elim hc⟩
   have pO:=wL.ju (f:=o.dst.getD 0) zE fV hg.size (fun b NJ _=>hg.BB b NJ) (fun b off u hu=>hg.cell (wL.nT b off u hu)) (fun b jy=>by simp [Value.ownBlock] at jy;exact .inl (by omega))
   exact QE (s:= .sc (.own (o.dst.getD 0))) hg ZP pO (Dm.tr.trans (hg.trans wL.cn _)) (.of (wY rfl) trivial) hK
  |true=>
   simp only [hb,cond_true] at hK
   generalize hfl:(vs.flatMap fun v=>v.cells.toList)=flat at *
   have hle:qi e1.φ (fun b off=>if b=w.heap.size∧off<flat.length then flat[off]? else e1.φ b off):=by
    intro b off u hu
    by_cases ZQ:b=w.heap.size
    ·subst ZQ;rw [H3] at hu;cases hu
    ·simp only [ZQ,false_and,if_false];exact hu
   have jk: ∀b off u,(fun b off=>if b=w.heap.size∧off<flat.length then flat[off]? else e1.φ b off) b off=some u→(w.alloc (.cells flat.toArray I.elem)).cell? ⟨b,off,none⟩=some u:=by
    intro b off u hu
    by_cases ZQ:b=w.heap.size∧off<flat.length
    ·simp only [ZQ,and_self,if_true] at hu
     obtain ⟨rfl,_⟩:=ZQ
     rw [cell_of (kl w _)];simpa using hu
    ·simp only [ZQ,if_false] at hu
     exact hg.cell (wL.nT b off u hu)
   have pO:=(wL.grow hg).ad0 hle jk
    (by
     intro t2 qE ht off
     have K8:=wL.slot t2
     rw [ht] at K8
     obtain ⟨o2,h1,_⟩:=K8.2.obj
     have:=bA h1
     have cT: ¬e1.B t2=w.heap.size:=by omega
     simp [cT])
    (by
     intro f o2 b cA vT off
     obtain ⟨J,uS,_,_,h3,_⟩:=(wL.iT f o2 cA).row
     rcases h3.2 with ⟨h1,_⟩|⟨g,cap,di,h1,_,h4,_⟩
     ·rw [h1] at vT;simp [Value.ownBlock] at vT
     ·rw [h1] at vT
      simp [Value.ownBlock] at vT
      subst vT
      have:=bA h4
      have cT: ¬g=w.heap.size:=by omega
      simp [cT])
   refine QE (s:= .sc (.p (.list ms))) hg ZP pO ?_ (.of ?_ trivial) hK
   ·refine Dm.tr.trans ⟨hle,fun b hz NJ=>hg.BB b NJ,fun b off hz=> ?_,hg.size,hg.rest⟩
    have cT: ¬b=w.heap.size:=by intro QS;subst QS;exact hz (wL.cn _ (Nat.le_refl _))
    simp [cT]
   ·simp only [ab,aZ]
    rw [hlen]
    exact ⟨rfl,Xu (iP.mono hle) (Nat.le_refl _) (fun off Ha=>by simp [Ha])⟩
end
end Dn
