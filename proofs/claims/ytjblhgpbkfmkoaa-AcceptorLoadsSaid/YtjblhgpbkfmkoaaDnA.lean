import GoSem.Dispatch
import Derived.Orders
import Derived.Calls
import Derived.Laws.AppendOwn
import Derived.Laws.AppendOwnNone
import Derived.Deep.MidRow
import Derived.Laws.Strings
import Derived.Laws.Tables
import Derived.Great.FillDense
import Derived.Maps.AppendAt
/-
  An abstract run of Go functions over values that no one changes: definitions. Conditions: none.
-/
set_option linter.unusedVariables false
namespace Dn
open Go
structure ez where
 l:List UInt8
 h:l.length=32
theorem ez.ext' {a b:ez} (e:a.l=b.l):a=b:=by cases a;cases b;cases e;rfl
instance:DecidableEq ez:=fun a b=>if e:a.l=b.l then .isTrue (ez.ext' e) else .isFalse (fun h=>e (by rw [h]))
def ez.zero:ez:=⟨[0,0,0,0,0,0,0,0,0,0,0,0,0,0,0,0,0,0,0,0,0,0,0,0,0,0,0,0,0,0,0,0],rfl⟩
def ez.put (x:ez) (i:Nat) (b:UInt8):ez:=⟨x.l.set i b,by simp [x.h]⟩
inductive MV where
 |b (x:Bool)
 |i (k:IntKind) (n:Int)
 |s (l:List UInt8)
 |h (x:ez)
 |raw (v:Value)
 |list (xs:List MV)
 |agg (cs:List MV)
 |cN (vs:List MV)
 |func (f:Nat) (cap:List MV)
 |rp (cs:List MV)
 |fresh (xs:List MV)
 |cell (m:MV)
 |kD (r:MV) (outs:List MV)
 |clip (xs:List MV)
instance:Inhabited MV:=⟨.b false⟩
mutual
def MV.w:MV→Nat
 | .h _=>32
 | .agg cs=>MV.wl cs
 |_=>1
def MV.wl:List MV→Nat
 |[]=>0
 |m::r=>m.w+MV.wl r
end
def kE (n:Nat) (l:List MV):Bool:=l.all fun m=>Nat.beq m.w n
inductive Kd where
 |b|i (k:IntKind)|s|l|h|raw
structure MS where
 st:Bool
 lay:List Kd
 b:Bool
def MS.it:MS:=⟨true,[],true⟩
def sm (s:MS):Bool:=match s.lay with
 |[]=>s.st
 |_=>false
inductive ap where
 |un
 |p (m:MV)
 |hs (x:ez)
 |nil
 |own (dn:Nat)
 |mp (s:MS) (es:List MV)
def ap.w:ap→Nat
 | .hs _=>32
 |_=>1
inductive Slot where
 |skip
 |sc (l:ap)
 |ag (cs:List ap)
 |cN (vs:List Slot)
 |box (cs:List ap)
 |pi (cs:List ap)
 |ptr (root off:Nat)
 |oX (root:Nat)
 |rp (cs:List ap) (off:Nat)
 |hp (root off:Nat) (i:Nat)
 |ep (dn:Nat) (i:Nat) (off:Nat) (st:Bool) (cs:List ap)
abbrev Fr:=List (Nat×Slot)
structure TI where
 st:Bool
 size:Nat
 bytes:Nat
 lay:List Kd
 zero:List ap
 Cc:List Nat
 G7:List Nat
 elem:Nat
 bO:List Nat
section
variable {R:Type}
def gB (m:MV) (K:Bool→Option R):Option R:=match m with| .b x=>K x|_=>none
def gI (k:IntKind) (m:MV) (K:Int→Option R):Option R:=match m with| .i k' n=>bif decide (k'=k) then K n else none|_=>none
def gS (m:MV) (K:List UInt8→Option R):Option R:=match m with| .s l=>K l|_=>none
def gL (m:MV) (K:List MV→Option R):Option R:=match m with| .list l=>K l|_=>none
def gH (m:MV) (K:ez→Option R):Option R:=match m with| .h l=>K l|_=>none
def gA (m:MV) (K:List MV→Option R):Option R:=match m with| .agg l=>K l|_=>none
def gT (m:MV) (K:List MV→Option R):Option R:=match m with| .cN l=>K l|_=>none
def gF (m:MV) (K:List MV→Option R):Option R:=match m with| .fresh l=>K l|_=>none
def Q8 (m:MV) (K:List MV→Option R):Option R:=match m with| .clip l=>K l|_=>none
def RB (m:MV) (K:Nat→List MV→Option R):Option R:=match m with| .func f c=>K f c|_=>none
def gW (m:MV) (K:MV→List MV→Option R):Option R:=match m with| .kD r outs=>K r outs|_=>none
def gP (m:MV) (K:List MV→Option R):Option R:=match m with| .rp c=>K c|_=>none
def Ms (m:MV) (K:Nat→Nat→Option R):Option R:=match m with| .raw (.complex .f64 a b)=>K a b|_=>none
def gR (m:MV) (K:MV→Option R):Option R:=match m with| .raw v=>K (.raw v)| .func f c=>K (.func f c)| .rp c=>K (.rp c)|_=>none
def gC (l:List MV) (K:MV→List MV→Option R):Option R:=match l with|m::r=>K m r|[]=>none
def gN (l:List MV) (K:Option R):Option R:=match l with|[]=>K|_=>none
def bd {α:Type} (x:Option α) (K:α→Option R):Option R:=match x with|some a=>K a|none=>none
def O7 (l:List MV) (i:Int):Option MV:=if 0≤i then l[i.toNat]? else none
def idx (l:List MV) (i:Int) (K:MV→Option R):Option R:=
 match O7 l i with|some x=>K x|none=>none
def b9 (c:Bool) (K:Option R):Option R:=match c with|true=>K|false=>none
def ba (c:Bool) (x y:Option R):Option R:=match c with|true=>x|false=>y
def G8:List Nat→Nat→(Nat→Option R)→Option R
 |[],_,_=>none
 |[p],e,K=>bif Nat.beq e p then K p else none
 |p::q::r,e,K=>bif Nat.beq e p then K p else G8 (q::r) e K
def eB (k:Kd) (m:MV) (K:ap→Option R):Option R:=
 match k with
 | .b=>gB m fun x=>K (.p (.b x))
 | .i k=>gI k m fun x=>K (.p (.i k x))
 | .s=>gS m fun x=>K (.p (.s x))
 | .l=>gL m fun x=>K (.p (.list x))
 | .h=>gH m fun x=>K (.hs x)
 | .raw=>gR m fun m=>K (.p m)
def lE:List Kd→List MV→(List ap→Option R)→Option R
 |[],l,K=>gN l (K [])
 |k::ks,l,K=>gC l fun m r=>eB k m fun x=>lE ks r fun xs=>K (x::xs)
end
def iter {σ R:Type} (body:σ→Option (Sum σ R)):Nat→σ→Option R
 |0,_=>none
 |n+1,s=>match body s with
  |some (.inl s')=>iter body n s'
  |some (.inr r)=>some r
  |none=>none
open Classical in
noncomputable def Loop {σ R:Type} (body:σ→Option (Sum σ R)) (s:σ):Option R:=
 if h: ∃r n,iter body n s=some r then some (Classical.choose h) else none
def ah:Fr→Nat→Slot
 |[],_=> .sc .un
 |(k,s)::r,t=>bif Nat.beq k t then s else ah r t
def yH {R:Type}:Fr→Nat→Slot→(Fr→Option R)→Option R
 |[],t,v,K=>K [(t,v)]
 |(k,s)::r,t,v,K=>bif Nat.beq k t then K ((k,v)::r) else yH r t v fun r=>K ((k,s)::r)
def force {R:Type} (s:Slot) (K:Slot→Option R):Option R:=match s with
 | .skip=>K .skip
 | .sc l=>K (.sc l)
 | .ag cs=>K (.ag cs)
 | .cN vs=>K (.cN vs)
 | .box cs=>K (.box cs)
 | .pi cs=>K (.pi cs)
 | .ptr r o=>K (.ptr r o)
 | .oX r=>K (.oX r)
 | .rp cs o=>K (.rp cs o)
 | .hp r o i=>K (.hp r o i)
 | .ep f i o b cs=>K (.ep f i o b cs)
def aT:List Nat→Nat→Bool
 |[],_=>false
 |k::r,t=>bif Nat.beq k t then true else aT r t
def pc (t:Nat):Bool:=Nat.ble 1000000 t
def posOf (t:Nat):Nat:=(t-1000000)%1000
def Cd (t:Nat):Nat:=(t-1000000)/1000
def UG:List (Nat×Nat)→Nat→Option Nat
 |[],_=>none
 |(k,x)::r,t=>bif Nat.beq k t then some x else UG r t
def bV:Slot→Bool
 | .ptr _ _| .hp _ _ _| .ep _ _ _ _ _| .rp _ _| .oX _=>true
 |_=>false
def mP {R:Type} (ds:List Nat):Fr→(Fr→Option R)→Option R
 |[],K=>K []
 |(k,s)::r,K=>bif bV s||aT ds k then mP ds r K else mP ds r fun r=>K ((k,s)::r)
def bI:Slot→Bool
 | .box _| .pi _=>true
 |_=>false
def pick {R:Type} (ks:List Nat):Fr→(Fr→Option R)→Option R
 |[],K=>K []
 |(k,s)::r,K=>bif aT ks k&&!bV s then pick ks r fun r=>K ((k,s)::r) else pick ks r K
structure hH where
 ty:Nat
 ck:Bool
 xs:List MV
structure St where
 bt:List Nat
 bF:List Nat
 fr:Fr
 az:List (Nat×hH)
def ar:List (Nat×hH)→Nat→Option hH
 |[],_=>none
 |(k,s)::r,t=>bif Nat.beq k t then some s else ar r t
def Ec {R:Type}:List (Nat×hH)→Nat→hH→(List (Nat×hH)→Option R)→Option R
 |[],t,v,K=>K [(t,v)]
 |(k,s)::r,t,v,K=>bif Nat.beq k t then K ((k,v)::r) else Ec r t v fun r=>K ((k,s)::r)
def kB (a b:IntKind):Bool:=decide (a=b)
def N9:Kd→Kd→Bool
 | .b,.b=>true
 | .i k,.i k'=>kB k k'
 | .s,.s=>true
 | .l,.l=>true
 | .h,.h=>true
 | .raw,.raw=>true
 |_,_=>false
def sn:List Kd→List Kd→Bool
 |[],[]=>true
 |x::xs,y::ys=>N9 x y&&sn xs ys
 |_,_=>false
def Oa (s t:MS):Bool:=(s.st==t.st)&&(sn s.lay t.lay&&(s.b==t.b))
def nL {R:Type} (f:Nat):List ap→(List ap→Option R)→Option R
 |[],K=>K []
 |l::r,K=>(match l with
  | .own g=>bif Nat.beq g f then nL f r fun r=>K (.un::r) else nL f r fun r=>K (.own g::r)
  |l=>nL f r fun r=>K (l::r))
def zw {R:Type} (f:Nat) (s:Slot) (K:Slot→Option R):Option R:=match s with
 | .sc (.own g)=>bif Nat.beq g f then K (.sc .un) else K (.sc (.own g))
 | .ag cs=>nL f cs fun cs=>K (.ag cs)
 | .box cs=>nL f cs fun cs=>K (.box cs)
 | .ep g i o b cs=>bif Nat.beq g f then K (.sc .un) else K (.ep g i o b cs)
 |s=>K s
def RC {R:Type} (f:Nat):Fr→(Fr→Option R)→Option R
 |[],K=>K []
 |(k,s)::r,K=>zw f s fun s=>RC f r fun r=>K ((k,s)::r)
section
variable {R:Type}
def iQ (st:St) (l:ap) (K:MV→St→Option R):Option R:=
 match l with
 | .un=>none
 | .p m=>K m st
 | .hs x=>K (.h x) st
 | .nil=>K (.list []) st
 | .mp _ _=>none
 | .own f=>match ar st.az f with
  |some o=>bif o.ck then K (.list o.xs) st else bif aT st.bF f then none else (match st with|⟨p,q,r,m⟩=>Ec m f ⟨o.ty,true,o.xs⟩ fun m=>K (.list o.xs) ⟨p,q,r,m⟩)
  |none=>none
def jB (st:St):List ap→(List MV→St→Option R)→Option R
 |[],K=>K [] st
 |l::r,K=>iQ st l fun m st=>jB st r fun ms st=>K (m::ms) st
def fM (st:St) (s:Slot) (K:MV→St→Option R):Option R:=
 match s with
 | .sc l=>iQ st l K
 | .ag cs=>jB st cs fun ms st=>K (.agg ms) st
 | .rp cs off=>bif Nat.beq off 0 then jB st cs fun ms st=>K (.rp ms) st else none
 |_=>none
def nM (st:St):List Slot→(List MV→St→Option R)→Option R
 |[],K=>K [] st
 |l::r,K=>fM st l fun m st=>nM st r fun ms st=>K (m::ms) st
end
def pj:List ap→Nat
 |[]=>0
 |k::r=>k.w+pj r
def cut:List ap→Nat→Option (List ap)
 |cs,0=>some cs
 |c::cs,n+1=>bif Nat.ble c.w (n+1) then cut cs (n+1-c.w) else none
 |_,_=>none
def Ce:List ap→Nat→Option (List ap)
 |_,0=>some []
 |c::cs,n+1=>bif Nat.ble c.w (n+1) then (match Ce cs (n+1-c.w) with|some b=>some (c::b)|none=>none) else none
 |_,_=>none
def part (cs:List ap) (off n:Nat):Option (List ap):=
 match cut cs off with
 |some a=>Ce a n
 |none=>none
def over:List ap→List ap→Option (List ap)
 |[],cs=>some cs
 |v::vs,c::cs=>bif Nat.beq v.w c.w then (match over vs cs with|some r=>some (v::r)|none=>none) else none
 |_,[]=>none
def putAt:List ap→Nat→List ap→Option (List ap)
 |cs,0,vs=>over vs cs
 |c::cs,n+1,vs=>bif Nat.ble c.w (n+1) then (match putAt cs (n+1-c.w) vs with|some r=>some (c::r)|none=>none) else none
 |_,_,_=>none
def app {α:Type}:List α→List α→Option (List α)
 |[],l=>some l
 |x::r,l=>(match app r l with|some q=>some (x::q)|none=>none)
def Cf:ap→Bool
 | .un=>true
 | .mp _ _=>true
 |_=>false
def cE:List ap→Bool
 |[.mp _ _]=>true
 |_=>false
def tK:Slot→Bool
 | .box cs=>!cE cs
 |_=>false
def vX {R:Type} (ok:Nat→Bool) (r0:Fr):Fr→Fr→(Fr→Option R)→Option R
 |[],fr,K=>K fr
 |(t,s)::r,fr,K=>match s with
  | .ptr root off=>bif ok t&&(!pc root&&(tK (ah r0 root)&&(tK (ah fr root)&&!bI (ah fr t)))) then yH fr t (.ptr root off) fun fr=>vX ok r0 r fr K else vX ok r0 r fr K
  |_=>vX ok r0 r fr K
def eL:List ap→Bool
 |[.mp s _]=>!sm s
 |_=>false
def mQ:List ap→Bool
 |[]=>false
 |l::r=>bif Cf l then true else mQ r
def Q9 {R:Type} (f:Nat):Fr→(Fr→Option R)→Option R
 |[],K=>K []
 |(k,s)::r,K=>(match s with
  | .ep g i o b cs=>bif Nat.beq g f then Q9 f r fun r=>K ((k,.sc .un)::r) else Q9 f r fun r=>K ((k,.ep g i o b cs)::r)
  |s=>Q9 f r fun r=>K ((k,s)::r))
inductive LK where
 |k (x:Kd)
 |own (f:Nat) (ty:Nat) (ck:Bool)
inductive OK where
 |sc (l:LK)
 |ag (ls:List LK)
 |box (ls:List LK)
 |mp (s:MS)
 |pt (root off:Nat)
structure iR where
 bt:List Nat
 bF:List Nat
 outs:List (Nat×OK)
 Xf:List (Nat×List (Nat×OK))
 ck:List Nat
instance:Inhabited iR:=⟨⟨[],[],[],[],[]⟩⟩
def I3:List (Nat×List (Nat×OK))→Nat→List (Nat×OK)
 |[],_=>[]
 |(k,l)::r,e=>bif Nat.beq k e then l else I3 r e
def iR.ex (h:iR) (e:Nat):List (Nat×OK):=I3 h.Xf e
def F0:List (Nat×List (Nat×OK))→List (Nat×OK)
 |[]=>[]
 |(_,l)::r=>l++F0 r
def iR.all (h:iR):List (Nat×OK):=h.outs++F0 h.Xf
structure Ctx where
 ti:Nat→Option TI
 key:Nat→Nat
 g:Nat→List MV→Option MV
 df:Nat→Bool
 fresh:Nat→Bool
 lF:Nat→Nat
 sig:Nat→Option (Nat×List LK)
 par:List (Nat×Nat)
 n:Nat
 bs:List Nat
 fl:List Nat
 fz:Nat→List Nat
 fk:Nat→Option FloatKind
 mt:Nat→Option (Nat×Bool)
 ord:Nat→List Nat
 tL:Nat→iR
 tH:Nat→iR
 pe:Nat→iR
 AS:Nat→Bool
 dyn:List Nat
def Ctx.tv (c:Ctx) (t:Nat):Option TI:=match c.ti t with|some I=>(match I.bO with|[]=>some I|_=>none)|none=>none
def qi:Value→Slot
 | .bool b=> .sc (.p (.b b))
 | .int k n=> .sc (.p (.i k n))
 | .string s=> .sc (.p (.s s.data.toList))
 | .slice none 0 0=> .sc .nil
 | .float k b=> .sc (.p (.raw (.float k b)))
 | .complex k a b=> .sc (.p (.raw (.complex k a b)))
 | .pointer none=> .sc (.p (.raw (.pointer none)))
 | .nilFunc=> .sc (.p (.raw .nilFunc))
 | .nilIface=> .sc (.p (.raw .nilIface))
 |_=> .sc .un
def aq (c:Ctx) (st:St):Operand→Slot
 | .tmp t=>match UG c.par t with
  |some q=>bif pc q&&Nat.beq (posOf q) t then (match ah st.fr q with| .box cs=>bif cE cs then .sc .un else .ptr q (Cd q)|_=> .sc .un) else .sc .un
  |none=>match ah st.fr t with
   | .box cs=>bif pc t then .sc .un else bif eL cs then .oX t else .ptr t 0
   | .pi cs=> .rp cs 0
   |s=>s
 | .const v=>qi v
 | .func f=> .sc (.p (.func (c.key f) []))
 | .global _=> .sc .un
def dO (c:Ctx) (st:St):List Operand→List Slot
 |[]=>[]
 |o::r=>aq c st o::dO c st r
section
variable {R:Type}
def wr (st:St) (d:Nat) (s:Slot) (K:St→Option R):Option R:=
 bif aT st.bt d then none else (match st with|⟨p,q,r,m⟩=>force s fun s=>yH r d s fun r=>K ⟨p,q,r,m⟩)
def aH (c:Ctx) (st:St) (d:Option Nat) (s:Slot) (K:St→Option R):Option R:=
 match d with
 |some d=>bif pc d||(Nat.ble c.n d||bI (ah st.fr d)) then none else wr st d s K
 |none=>K st
def dD (st:St) (f:Nat) (o:hH) (K:St→Option R):Option R:=
 bif aT st.bF f then none else (match st with|⟨p,q,r,m⟩=>RC f r fun r=>Ec m f o fun m=>K ⟨p,q,r,m⟩)
def eC (I:TI) (cs:List ap) (off:Nat) (K:Slot→Option R):Option R:=
 bif I.st then (match part cs off I.size with|some a=>K (.ag a)|none=>none)
 else (match cut cs off with|some (l::_)=>bif Nat.beq l.w I.size then K (.sc l) else none|_=>none)
def UH (st:St) (I:TI) (a:Slot) (K:Slot→Option R):Option R:=
 match a with
 | .ptr root off=>match ah st.fr root with
  | .box cs=>bif cE cs then none else eC I cs off K
  |_=>none
 | .rp cs off=>eC I cs off K
 | .ep f _ off _ cs=>(match ar st.az f with|some _=>eC I cs off K|none=>none)
 | .hp root off i=>bif I.st||!Nat.beq I.size 1 then none else (match ah st.fr root with
  | .box cs=>bif cE cs then none else (match cut cs off with|some (.hs x::_)=>K (.sc (.p (.i .u8 (x.l.getD i 0).toNat)))|_=>none)
  |_=>none)
 |_=>none
def av:Slot→List ap
 | .sc l=>[l]
 | .ag cs=>cs
 |_=>[]
def aY:List ap→Option (List MV)
 |[]=>some []
 |l::r=>match l,aY r with
  | .p m,some q=>some (m::q)
  | .hs x,some q=>some (.h x::q)
  |_,_=>none
def jN:List ap→List MV→Option (List ap)
 |[],[]=>some []
 | .hs x::r,_::ms=>(match jN r ms with|some q=>some (.hs x::q)|none=>none)
 |_::r,m::ms=>(match jN r ms with|some q=>some (.p m::q)|none=>none)
 |_,_=>none
def mr (b:Bool) (cs:List MV):Option MV:=match b,cs with
 |false,[m]=>some m
 |true,cs=>some (.agg cs)
 |_,_=>none
def isByte (n:Int):Bool:=decide (n=((UInt8.ofNat n.toNat).toNat:Int))
def UI (st:St) (I:TI) (a v:Slot) (K:St→Option R):Option R:=
 bif mQ (av v)||!Nat.beq (pj (av v)) I.size then none else
 match a with
 | .ptr root off=>match ah st.fr root with
  | .box cs=>bif cE cs then none else (match putAt cs off (av v) with|some cT=>wr st root (.box cT) K|none=>none)
  |_=>none
 | .hp root off i=>match ah st.fr root,v with
  | .box cs,.sc (.p n)=>bif cE cs then none else (match cut cs off with
   |some (.hs x::_)=>gI .u8 n fun n=>b9 (isByte n) (match putAt cs off [.hs (x.put i (UInt8.ofNat n.toNat))] with|some cT=>wr st root (.box cT) K|none=>none)
   |_=>none)
  |_,_=>none
 | .ep f i off b cs=>jB st (av v) fun ms st=>match ar st.az f with
  |some o=>bif o.ck then none else
   (match jN (av v) ms with
   |some vs=>(match putAt cs off vs with
    |some cT=>(match aY cT with
     |some UJ=>(match mr b UJ with
      |some x=>bif aT st.bF f then none else
       (match st with|⟨p,q,r,m⟩=>Q9 f r fun r=>Ec m f ⟨o.ty,false,o.xs.set i x⟩ fun m=>K ⟨p,q,r,m⟩)
      |none=>none)
     |none=>none)
    |none=>none)
   |none=>none)
  |none=>none
 |_=>none
def AU (I:TI) (x:MV) (K:List ap→Option R):Option R:=
 bif I.st then gA x fun cs=>lE I.lay cs K
 else match I.lay with
  |[k]=>eB k x fun x=>K [x]
  |_=>none
def uJ (I:TI) (x:MV) (K:Slot→Option R):Option R:=
 bif I.st then gA x fun cs=>lE I.lay cs fun cs=>K (.ag cs)
 else match I.lay with
  |[k]=>eB k x fun x=>K (.sc x)
  |_=>none
def vY (c:Ctx):List Nat→List MV→(List Slot→Option R)→Option R
 |[],l,K=>gN l (K [])
 |t::ts,l,K=>match c.tv t with
  |some I=>gC l fun m r=>uJ I m fun s=>vY c ts r fun ss=>K (s::ss)
  |none=>none
def jY (c:Ctx) (I:TI) (x:MV) (K:Slot→Option R):Option R:=
 match I.bO with
 |[]=>uJ I x K
 |ts=>gT x fun vs=>vY c ts vs fun ss=>K (.cN ss)
def tM:ap→ap→Option Bool
 | .p (.b x),.p (.b y)=>some (decide (x=y))
 | .p (.i k x),.p (.i k' y)=>bif decide (k=k') then some (decide (x=y)) else none
 | .p (.s x),.p (.s y)=>some (decide (x=y))
 | .hs x,.hs y=>some (decide (x=y))
 |_,_=>none
def dP:List ap→List ap→Option Bool
 |[],[]=>some true
 |[x],[y]=>tM x y
 |x::xs,y::ys=>match tM x y,dP xs ys with
  |some a,some b=>some (a&&b)
  |_,_=>none
 |_,_=>none
def AV (op:BinOp) (x y:List UInt8):Option MV:=
 match op with
 | .eql=>some (.b (decide (x=y)))
 | .neq=>some (.b (!decide (x=y)))
 | .lss=>some (.b (Op.bytesLess x y))
 | .gtr=>some (.b (!(Op.bytesLess x y||decide (x=y))))
 | .leq=>some (.b (Op.bytesLess x y||decide (x=y)))
 | .geq=>some (.b (!Op.bytesLess x y))
 |_=>none
def Ed (k:IntKind) (x y:Int):Int:=k.wrap ((BitVec.ofInt k.bits x&&&BitVec.ofInt k.bits y).toNat:Int)
def O8 (k:IntKind) (x y:Int):Int:=k.wrap ((BitVec.ofInt k.bits x|||BitVec.ofInt k.bits y).toNat:Int)
def tN (k:IntKind) (x y:Int):Int:=k.wrap ((BitVec.ofInt k.bits x^^^BitVec.ofInt k.bits y).toNat:Int)
def F1 (op:BinOp) (k:IntKind) (x y:Int):Option MV:=
 match op with
 | .add=>some (.i k (k.wrap (x+y)))
 | .sub=>some (.i k (k.wrap (x-y)))
 | .mul=>some (.i k (k.wrap (x *y)))
 | .and=>some (.i k (Ed k x y))
 | .or=>some (.i k (O8 k x y))
 | .xor=>some (.i k (tN k x y))
 | .eql=>some (.b (decide (x=y)))
 | .neq=>some (.b (!decide (x=y)))
 | .lss=>some (.b (decide (x<y)))
 | .leq=>some (.b (decide (x≤y)))
 | .gtr=>some (.b (decide (y<x)))
 | .geq=>some (.b (decide (y≤x)))
 |_=>none
def gp:Kd→ap→Bool
 | .b,.p (.b _)=>true
 | .i k,.p (.i k' _)=>decide (k'=k)
 | .s,.p (.s _)=>true
 | .h,.hs _=>true
 |_,_=>false
def cJ:List Kd→List ap→Bool
 |[],[]=>true
 |k::ks,l::ls=>bif gp k l then cJ ks ls else false
 |_,_=>false
def fN (st:Bool):Slot→Bool
 | .ag _=>st
 | .sc _=>!st
 |_=>false
def RD (op:BinOp) (a b:Nat):Option Nat:=match op with
 | .add=>FloatKind.f64.format.add a b
 | .sub=>FloatKind.f64.format.sub a b
 | .mul=>FloatKind.f64.format.mul a b
 |_=>none
def O9 (oI:Option TI) (op:BinOp) (x y:Slot) (K:Slot→Option R):Option R:=
 match x,y with
 | .sc (.p (.i k a)),.sc (.p (.i k' b))=>
  (match op with
   | .quo=>bif decide (k=k') then b9 (!decide (b=0)) (K (.sc (.p (.i k (k.wrap (a.tdiv b)))))) else none
   | .rem=>bif decide (k=k') then b9 (!decide (b=0)) (K (.sc (.p (.i k (a.tmod b))))) else none
   | .shr=>b9 (decide (0≤b)) (K (.sc (.p (.i k (a.fdiv (2^min b.toNat k.bits))))))
   | .shl=>b9 (decide (0≤b)) (K (.sc (.p (.i k (k.wrap (a *2^min b.toNat k.bits))))))
   |_=>bif decide (k=k') then (match F1 op k a b with|some m=>K (.sc (.p m))|none=>none) else none)
 | .sc (.p (.s a)),.sc (.p (.s b))=>(match op with
  | .add=>b9 (decide (a.length+b.length≤2^46)) (K (.sc (.p (.s (a++b)))))
  |_=>(match AV op a b with|some m=>K (.sc (.p m))|none=>none))
 | .sc (.p (.raw (.float .f64 a))),.sc (.p (.raw (.float .f64 b)))=>bd (RD op a b) fun r=>K (.sc (.p (.raw (.float .f64 r))))
 |x,y=>match oI with
  |some I=>bif cJ I.lay (av x)&&cJ I.lay (av y)&&(fN I.st x&&fN I.st y) then (match op with
   | .eql=>(match dP (av x) (av y) with|some b=>K (.sc (.p (.b b)))|none=>none)
   | .neq=>(match dP (av x) (av y) with|some b=>K (.sc (.p (.b (!b))))|none=>none)
   |_=>none) else none
  |none=>none
def sliceB (lo hi:Option Slot) (len:Nat) (K:Nat→Nat→Option R):Option R:=
 match lo,hi with
 |none,none=>K 0 len
 |some (.sc (.p (.i _ l))),none=>b9 (decide (0≤l∧l≤(len:Int)∧(len:Int)≤(len:Int))) (K l.toNat (Int.toNat (len:Int)))
 |none,some (.sc (.p (.i _ h)))=>b9 (decide (0≤(0:Int)∧(0:Int)≤h∧h≤(len:Int))) (K (Int.toNat 0) h.toNat)
 |some (.sc (.p (.i _ l))),some (.sc (.p (.i _ h)))=>b9 (decide (0≤l∧l≤h∧h≤(len:Int))) (K l.toNat h.toNat)
 |_,_=>none
def fC (c:Ctx) (st:St):Option Operand→Option Slot
 |some o=>some (aq c st o)
 |none=>none
def pk:List ap→Option (List MV)
 |[]=>some []
 |l::r=>match l,pk r with
  | .p m,some q=>some (m::q)
  | .hs x,some q=>some (.h x::q)
  | .nil,some q=>some (.list []::q)
  |_,_=>none
def I4 (d:Nat) (st:St) (I E:TI) (x y:Slot) (K:Slot→St→Option R):Option R:=match x,y with
 | .sc (.p (.i _ n)),.sc (.p (.i _ m))=>bif Nat.ble 1 E.bytes then b9 (decide ((0:Int)≤n∧n=m∧n *E.bytes≤2^46)) (match pk E.zero with
  |some zs=>(match mr E.st zs with
   |some z=>dD st d ⟨I.elem,false,List.replicate n.toNat z⟩ fun st=>K (.sc (.own d)) st
   |none=>none)
  |none=>none) else none
 |_,_=>none
def TI.qS (I:TI):Bool:=match I.st,I.lay with|false,[.l]=>true|_,_=>false
def TI.IF (I:TI):Bool:=match I.st,I.lay with|false,[.s]=>true|_,_=>false
def G9 (E:TI):Bool:=match E.st,E.lay with
 |false,[.i k]=>decide (k= .u8)
 |_,_=>false
def yI (l:List UInt8):List MV:=l.map fun b=> .i .u8 (b.toNat:Int)
def Ee (c:Ctx) (u:Nat) (E:TI) (x:Slot) (K:List MV→Option R):Option R:=match c.tv u,x with
 |some T,.sc (.p (.s l))=>bif T.IF&&G9 E then K (yI l) else none
 |_,_=>none
def AW (I E:TI) (st:St) (x:Slot) (K:List MV→Option R):Option R:=match x with
 | .sc (.p (.list xs))=>b9 (kE E.size xs) (K xs)
 | .sc .nil=>K []
 | .sc (.own f)=>(match ar st.az f with|some o=>bif Nat.beq o.ty I.elem then K o.xs else none|none=>none)
 |_=>none
def rE (c:Ctx) (st:St) (I:TI):List (Nat×Operand)→List ap→Option (List ap)
 |[],cs=>some cs
 |(i,o)::r,cs=>match I.Cc[i]?,I.G7[i]? with
  |some q,some y=>(match c.tv y with
   |some J=>bif mQ (av (aq c st o))||!Nat.beq (pj (av (aq c st o))) J.size then none else
    (match putAt cs q (av (aq c st o)) with|some cT=>rE c st I r cT|none=>none)
   |none=>none)
  |_,_=>none
def vZ (c:Ctx) (st:St):List (Nat×Operand)→ez→(ez→Option R)→Option R
 |[],x,K=>K x
 |(i,o)::r,x,K=>match aq c st o with
  | .sc (.p m)=>bif Nat.ble 32 i then none else gI .u8 m fun n=>b9 (isByte n) (vZ c st r (x.put i (UInt8.ofNat n.toNat)) K)
  |_=>none
def I5 (c:Ctx) (st:St):List (Nat×Operand)→Nat→(List MV→St→Option R)→Option R
 |[],_,K=>K [] st
 |(i,o)::r,n,K=>bif Nat.beq i n then fM st (aq c st o) fun m st=>I5 c st r (n+1) fun ms st=>K (m::ms) st else none
def sq (c:Ctx) (st:St):List Operand→(List MV→St→Option R)→Option R
 |[],K=>K [] st
 |o::r,K=>match aq c st o with
  | .ptr root 0=>(match ah st.fr root with
   | .box cs=>bif mQ cs||pc root then none else jB st cs fun ms st=>(match jN cs ms with|some cT=>wr st root (.pi cT) fun st=>sq c st r fun xs st=>K (.rp ms::xs) st|none=>none)
   |_=>none)
  | .rp cs 0=>jB st cs fun ms st=>sq c st r fun xs st=>K (.rp ms::xs) st
  |_=>none
def sr (c:Ctx) (k:Nat) (st:St) (s:Slot) (K:MV→St→Option R):Option R:=match s with
 | .sc (.own f)=>(match ar st.az f with
  |some o=>bif o.ck||!Nat.beq o.ty (c.lF k) then none else dD st f ⟨o.ty,true,[]⟩ fun st=>K (.fresh o.xs) st
  |none=>none)
 | .sc .nil=>(match c.tv (c.lF k) with|some _=>K (.fresh []) st|none=>none)
 |_=>none
def F2 (c:Ctx) (k:Nat) (st:St) (ss:List Slot) (K:List MV→St→Option R):Option R:=
 bif c.df k then (match ss with
  |[s0,s1,s2]=>(match s2 with
   | .sc (.p m2)=>fM st s1 fun m1 st=>sr c k st s0 fun m0 st=>K [m0,m1,m2] st
   |s2=>fM st s1 fun m1 st=>sr c k st s0 fun m0 st=>sr c k st s2 fun m2 st=>K [m0,m1,m2] st)
  |_=>none)
 else nM st ss K
def RE (x y:Int):Int:=if y<x then y else x
def imax (x y:Int):Int:=if y>x then y else x
def I6 (mx:Bool) (k:IntKind):Int→List Slot→Option MV
 |x,[]=>some (.i k x)
 |x,.sc (.p (.i k' y))::r=>bif decide (k'=k) then I6 mx k (bif mx then imax x y else RE x y) r else none
 |_,_=>none
def Ef (mx:Bool):List Slot→Option MV
 | .sc (.p (.i k n))::r=>I6 mx k n r
 |_=>none
def I7 (c:Ctx) (d:Nat) (st:St) (f:Nat) (ms:List MV) (I:TI) (K:Slot→St→Option R):Option R:=
 bd (c.g f ms) fun r=>bif c.fresh f then bif Nat.beq (c.lF f) 0 then Q8 r fun xs=>K (.sc (.p (.clip xs))) st else gF r fun xs=>bif !Nat.beq I.elem (c.lF f) then none else dD st d ⟨I.elem,false,xs⟩ fun st=>(bif aT c.bs d then iQ st (.own d) fun m st=>K (.sc (.p m)) st else K (.sc (.own d)) st) else jY c I r fun s=>K s st
def Pa (s:Slot) (K:Slot→Option R):Option R:=match s with
 | .ptr r o=>K (.ptr r o)
 | .rp cs o=>K (.rp cs o)
 |_=>none
def I8 (x y z:Slot) (K:Slot→Option R):Option R:=match x with
 | .sc (.p (.b v))=>(match y,z with
  | .sc (.p (.b p)),.sc (.p (.b q))=>K (.sc (.p (.b (bif v then p else q))))
  |p,q=>match v with|true=>K p|false=>K q)
 |_=>none
def Pb (I:TI) (s:Slot) (K:Slot→Option R):Option R:=match s with
 | .sc l=>bif I.st||Cf l||!Nat.beq l.w I.size then none else K (.box [l])
 | .ag cs=>bif I.st&&!mQ cs&&Nat.beq (pj cs) I.size then K (.box cs) else none
 |_=>none
def UK (op:UnOp) (s:Slot) (K:Slot→Option R):Option R:=match op,s with
 | .not,.sc (.p (.b v))=>K (.sc (.p (.b (!v))))
 | .neg,.sc (.p (.i k n))=>K (.sc (.p (.i k (k.wrap (0-n)))))
 |_,_=>none
def I9 (I:TI) (fk:Option FloatKind) (s:Slot) (K:Slot→Option R):Option R:=match I.st,I.bO,I.lay,s with
 |false,[],[.i k],.sc (.p (.i _ n))=>K (.sc (.p (.i k (k.wrap n))))
 |false,[],[.s],.sc (.p (.s l))=>K (.sc (.p (.s l)))
 |false,[],[.i k],.sc (.p (.raw (.float .f64 a)))=>bd ((FloatKind.decode .f64 a).toInt .zero) fun n=>b9 (decide (k.min≤n∧n≤k.max)) (K (.sc (.p (.i k n))))
 |false,[],[.raw],.sc (.p (.i _ n))=>(match fk with
  |some .f64=>K (.sc (.p (.raw (.float .f64 (FloatKind.nearest .f64 n)))))
  |_=>none)
 |_,_,_,_=>none
def Eg (c:Ctx) (I:TI) (st:St) (s:Slot) (lo hi:Option Slot) (K:Slot→St→Option R):Option R:=match s with
 | .sc (.p (.s l))=>bif I.IF then sliceB lo hi l.length fun a b=>K (.sc (.p (.s ((l.take b).drop a)))) st else none
 | .sc (.p (.list l))=>bif I.qS then (match c.tv I.elem with
  |some E=>(match lo with
   |none=>sliceB none hi l.length fun a b=>K (.sc (.p (.list ((l.take b).drop a)))) st
   |some lo=>b9 (kE E.size l) (sliceB (some lo) hi l.length fun a b=>K (.sc (.p (.list ((l.take b).drop a)))) st))
  |none=>none) else none
 | .sc (.own f)=>(match ar st.az f with
  |some o=>bif I.qS&&Nat.beq o.ty I.elem then iQ st (.own f) fun _ st=>sliceB lo hi o.xs.length fun a b=>K (.sc (.p (.list ((o.xs.take b).drop a)))) st else none
  |none=>none)
 | .sc .nil=>bif I.qS then sliceB lo hi 0 fun _ _=>K (.sc .nil) st else none
 |_=>none
def Ja (I:TI) (s h m:Slot) (K:Slot→Option R):Option R:=match s,h,m with
 | .sc (.p (.list l)),.sc (.p (.i .i64 n)),.sc (.p (.i .i64 n'))=>bif I.qS then b9 (decide (n=(l.length:Int)∧n'=(l.length:Int))) (K (.sc (.p (.clip l)))) else none
 |_,_,_=>none
def Jb (st:St) (I:TI) (f:Nat) (s:Slot) (K:Slot→Option R):Option R:=match I.st,I.Cc[f]?,s with
 |true,some q,.ptr r o=>K (.ptr r (o+q))
 |true,some q,.rp cs o=>K (.rp cs (o+q))
 |true,some q,.ep g i o b cs=>(match ar st.az g with|some _=>K (.ep g i (o+q) b cs)|none=>none)
 |_,_,_=>none
def Pc (c:Ctx) (I:TI) (f:Nat) (s:Slot) (K:Slot→Option R):Option R:=match I.st,I.Cc[f]?,I.G7[f]?,s with
 |true,some q,some y,.ag cs=>(match c.tv y with|some J=>eC J cs q K|none=>none)
 |_,_,_,_=>none
def Pd (c:Ctx) (st:St) (I E:TI) (x i:Slot) (K:Slot→Option R):Option R:=match x,i with
 | .sc (.p (.list xs)),.sc (.p (.i _ n))=>bif I.qS then idx xs n fun x=>AU E x fun cs=>K (.rp cs 0) else none
 | .sc (.own f),.sc (.p (.i _ n))=>(match ar st.az f with
  |some o=>bif I.qS then idx o.xs n fun x=>AU E x fun cs=>K (.ep f n.toNat 0 E.st cs) else none
  |none=>none)
 | .ptr r o,.sc (.p (.i _ n))=>bif I.st then none else (match I.lay with|[.h]=>b9 (decide ((0:Int)≤n∧n<32)) (K (.hp r o n.toNat))|_=>none)
 |_,_=>none
def UL (I:TI) (x i:Slot) (K:Slot→Option R):Option R:=match I.st,I.lay,x,i with
 |false,[.s],.sc (.p (.s l)),.sc (.p (.i _ n))=>b9 (decide ((0:Int)≤n∧n<(l.length:Int))) (K (.sc (.p (.i .u8 (l.getD n.toNat 0).toNat))))
 |false,[.h],.sc (.hs x),.sc (.p (.i _ n))=>b9 (decide ((0:Int)≤n∧n<32)) (K (.sc (.p (.i .u8 (x.l.getD n.toNat 0).toNat))))
 |_,_,_,_=>none
def Pe (s:Slot) (k:Nat) (K:Slot→Option R):Option R:=match s with
 | .cN vs=>(match vs[k]? with|some s=>K s|none=>none)
 |_=>none
def Jc (I:TI) (st:St) (ss:List Slot) (K:Slot→Option R):Option R:=match ss with
 |[.sc (.p (.s l))]=>bif I.IF then K (.sc (.p (.i .i64 l.length))) else none
 |[.sc (.p (.list l))]=>bif I.qS then K (.sc (.p (.i .i64 l.length))) else none
 |[.sc .nil]=>bif I.qS then K (.sc (.p (.i .i64 0))) else none
 |[.sc (.own f)]=>bif I.qS then (match ar st.az f with|some o=>K (.sc (.p (.i .i64 o.xs.length)))|none=>none) else none
 |_=>none
def Ha (d:Nat) (st:St) (I E:TI) (s:Slot) (ys:List MV) (K:Slot→St→Option R):Option R:=bif Nat.ble 1 E.bytes then (match s with
 | .sc .nil=>b9 (decide (ys.length *E.bytes≤2^46)) (dD st d ⟨I.elem,false,ys⟩ fun st=>K (.sc (.own d)) st)
 | .sc (.own f)=>(match ar st.az f with
  |some w=>b9 (decide ((w.xs.length+ys.length) *E.bytes≤2^46)) (bif Nat.beq w.ty I.elem then dD st f ⟨w.ty,w.ck,w.xs++ys⟩ fun st=>K (.sc (.own f)) st else none)
  |none=>none)
 | .sc (.p (.clip xs))=>b9 (kE E.size xs) (b9 (decide (0<ys.length∧(xs.length+ys.length) *E.bytes≤2^46)) (dD st d ⟨I.elem,false,xs++ys⟩ fun st=>K (.sc (.own d)) st))
 |_=>none) else none
def AX (c:Ctx) (st:St) (I:TI) (f:Slot) (ss:List Slot) (K:Slot→St→Option R):Option R:=match f with
 | .sc (.p m)=>RB m fun f bk=>b9 (!c.df f)<|nM st ss fun ms st=>bd (c.g f (ms++bk)) fun r=>jY c I r fun s=>K s st
 |_=>none
def v7:MV→MV→Bool
 | .b x,.b y=>decide (x=y)
 | .i k x,.i k' y=>decide (k=k')&&decide (x=y)
 | .s x,.s y=>decide (x=y)
 | .h x,.h y=>decide (x=y)
 |_,_=>false
def dr:List MV→List MV→Bool
 |[],[]=>true
 |x::xs,y::ys=>v7 x y&&dr xs ys
 |_,_=>false
def jO:MV→List MV
 | .cN (.agg k::_)=>k
 |_=>[]
def Pf:MV→MV
 | .cN [_,v]=>v
 |_=> .b false
def cF:List MV→List MV→Nat
 |[],_=>0
 |e::r,ks=>bif dr (jO e) ks then 0 else cF r ks+1
def Xg:MV→Int
 | .i _ n=>n
 |_=>0
def Xh:MV→Bool
 | .b x=>x
 |_=>false
def oN (es:List MV) (ks:List MV):Int:=match es[cF es ks]? with|some e=>Xg (Pf e)|none=>0
def Ob (es:List MV) (ks:List MV):Bool:=match es[cF es ks]? with|some e=>Xh (Pf e)|none=>false
def jZ (es ks:List MV) (z:MV):List MV:=bif Nat.beq (cF es ks) es.length then es++[.cN [.agg ks,z]] else es
def rF (es:List MV) (i:Nat) (v:MV):List MV:=match es[i]? with|some e=>es.set i (.cN [.agg (jO e),v])|none=>es
def dL (b:Bool):MV:=bif b then .b false else .i .i64 0
def mu (c:Ctx) (t:Nat):Option MS:=match c.mt t with
 |some (kt,b)=>(match c.tv kt with|some I=>bif sm ⟨I.st,I.lay,b⟩ then none else some ⟨I.st,I.lay,b⟩|none=>none)
 |none=>none
def Cg (s:MS) (k:Slot) (K:List MV→Option R):Option R:=
 bif cJ s.lay (av k)&&fN s.st k then (match aY (av k) with|some ks=>K ks|none=>none) else none
def yJ (st:St) (s:MS) (m:Slot) (K:Nat→List MV→Option R):Option R:=match m with
 | .oX r=>(match ah st.fr r with| .box [.mp s' es]=>bif Oa s s'&&!sm s' then K r es else none|_=>none)
 |_=>none
def Hb (b:Bool) (s:Slot) (K:MV→Option R):Option R:=match b,s with
 |true,.sc (.p (.b x))=>K (.b x)
 |false,.sc (.p (.i .i64 n))=>K (.i .i64 n)
 |_,_=>none
def uK (st:St) (r:Nat) (s:MS) (es:List MV) (K:St→Option R):Option R:=wr st r (.box [.mp s es]) K
def isLT (c:Ctx) (y:Nat):Bool:=match c.tv y with|some Y=>Y.qS|none=>false
def fD (c:Ctx) (o:Oper):Bool:=match o.op with
 | .assign (.tmp _)=>(match c.mt o.type with|some _=>true|none=>false)
 |_=>false
def vO (c:Ctx) (o:Oper) (st:St) (x:Operand) (K:Slot→St→Option R):Option R:=match x,c.mt o.type with
 | .tmp t,some _=>(match ah st.fr t with
  | .box cs=>bif cE cs then bif aT st.bt t||pc t then none else (match st with|⟨p,q,r,m⟩=>mP [t] r fun r=>K (.box cs) ⟨p,q,r,m⟩) else K (aq c st x) st
  |_=>K (aq c st x) st)
 |_,_=>K (aq c st x) st
def tO (s:MS) (es ks:List MV):Slot:=bif s.b then .sc (.p (.b (Ob es ks))) else .sc (.p (.i .i64 (oN es ks)))
def Oc (c:Ctx) (st:St) (t:Nat) (m k:Slot) (K:Slot→Option R):Option R:=match mu c t with
 |some s=>yJ st s m fun _ es=>Cg s k fun ks=>K (tO s es ks)
 |none=>none
def Od (c:Ctx) (st:St) (t:Nat) (m k v:Slot) (K:St→Option R):Option R:=match mu c t with
 |some s=>yJ st s m fun r es=>Cg s k fun ks=>Hb s.b v fun v=>uK st r s (rF (jZ es ks (dL s.b)) (cF es ks) v) K
 |none=>none
def Jd (c:Ctx) (st:St) (t:Nat) (m k:Slot) (K:Slot→St→Option R):Option R:=match mu c t with
 |some s=>yJ st s m fun r es=>Cg s k fun ks=>uK st r s (jZ es ks (dL s.b)) fun st=>K (.cN [tO s es ks,.sc (.p (.i .i64 (cF es ks)))]) st
 |none=>none
def RF (c:Ctx) (st:St) (t:Nat) (m i v:Slot) (K:St→Option R):Option R:=match mu c t with
 |some s=>yJ st s m fun r es=>(match i with
  | .sc (.p (.i .i64 n))=>b9 (decide (0≤n∧n.toNat<es.length)) (Hb s.b v fun v=>uK st r s (rF es n.toNat v) K)
  |_=>none)
 |none=>none
def Oe (es:List MV):List UInt8:=match es with|[.s l,.i .i64 _]=>l|_=>[]
def qT (es:List MV):Int:=match es with|[.s _,.i .i64 n]=>n|_=>0
def Mt (es:List MV):Bool:=decide (qT es<((Oe es).length:Int))
def Eh (es:List MV):Int:=(Utf8.decode ⟨(Oe es).toArray⟩ (qT es).toNat).1
def Ei (es:List MV):List MV:=[.s (Oe es),.i .i64 (qT es+(Utf8.decode ⟨(Oe es).toArray⟩ (qT es).toNat).2)]
def UM (st:St) (x:Slot) (K:Slot→St→Option R):Option R:=match x with
 | .ptr t 0=>(match ah st.fr t with
  | .box [.mp s es]=>bif sm s then
   ba (Mt es) (wr st t (.box [.mp s (Ei es)]) fun st=>K (.cN [.sc (.p (.b true)),.sc (.p (.i .i64 (qT es))),.sc (.p (.i .i32 (Eh es)))]) st)
    (K (.cN [.sc (.p (.b false))]) st)
   else none
  |_=>none)
 |_=>none
def UN (m:MV) (K:UInt8→Option R):Option R:=gI .u8 m fun n=>b9 (isByte n) (K (UInt8.ofNat n.toNat))
def su:List MV→(List UInt8→Option R)→Option R
 |[],K=>K []
 |m::r,K=>UN m fun b=>su r fun l=>K (b::l)
def Ej (I:TI) (x:Slot) (K:Slot→Option R):Option R:=match x with
 | .sc (.p (.s l))=>bif I.IF then K (.box [.mp MS.it [.s l,.i .i64 0]]) else none
 |_=>none
def Je (c:Ctx) (st:St) (Y I:TI) (x:Slot) (K:Slot→Option R):Option R:=match c.tv Y.elem with
 |some E=>bif I.IF&&G9 E then (match x with
  | .sc (.p (.list xs))=>su xs fun l=>K (.sc (.p (.s l)))
  | .sc .nil=>K (.sc (.p (.s [])))
  | .sc (.own f)=>(match ar st.az f with
   |some o=>bif Nat.beq o.ty Y.elem then su o.xs fun l=>K (.sc (.p (.s l))) else none
   |none=>none)
  |_=>none) else none
 |none=>none
def still (c:Ctx) (o:Oper):Bool:=match o.op,o.dst with
 | .load _ _,some d=>aT c.fl d
 |_,_=>false
def aR:List LK→List Nat
 |[]=>[]
 | .own f _ _::r=>f::aR r
 |_::r=>aR r
def meets:List Nat→List Nat→Bool
 |[],_=>false
 |k::r,l=>bif aT l k then true else meets r l
def dt (c:Ctx):List LK→Bool
 |[]=>true
 | .own _ ty _::r=>(match c.tv ty with|some _=>dt c r|none=>false)
 |_::r=>dt c r
def fO (ps:List (Nat×Nat)) (f g:Nat):Bool:=match ps with
 |[]=>true
 |(a,b)::r=>(bif Nat.beq a f then Nat.beq b g&&!Nat.beq g 0 else (bif Nat.beq b g then Nat.beq g 0 else true))&&fO r f g
def AY (st:St) (ps:List (Nat×Nat)) (k:LK) (l:ap) (K:MV→List (Nat×Nat)→Option R):Option R:=
 match k,l with
 | .k .l,.nil=>K (.list []) ps
 | .k .h,.hs x=>K (.h x) ps
 | .k x,.p m=>eB x m fun _=>K m ps
 | .own f ty ck,.own g=>match ar st.az g with
  |some o=>bif !Nat.beq o.ty ty||(o.ck&&!ck)||aT st.bF g||!fO ps f (g+1) then none else K (.list o.xs) ((f,g+1)::ps)
  |none=>none
 | .own f _ _,.nil=>bif fO ps f 0 then K (.list []) ((f,0)::ps) else none
 |_,_=>none
def eh (st:St):List (Nat×Nat)→List LK→List ap→(List MV→List (Nat×Nat)→Option R)→Option R
 |ps,[],[],K=>K [] ps
 |ps,k::ks,l::ls,K=>AY st ps k l fun m ps=>eh st ps ks ls fun ms ps=>K (m::ms) ps
 |_,_,_,_=>none
def fa (st:St) (k:LK) (m:MV) (K:ap→St→Option R):Option R:=
 match k with
 | .k x=>eB x m fun l=>K l st
 | .own f ty ck=>gL m fun xs=>(match st with|⟨p,q,r,n⟩=>Ec n f ⟨ty,ck,xs⟩ fun n=>K (.own f) ⟨p,q,r,n⟩)
def bM (st:St):List LK→List MV→(List ap→List MV→St→Option R)→Option R
 |[],ms,K=>K [] ms st
 |k::ks,ms,K=>gC ms fun m r=>fa st k m fun l st=>bM st ks r fun ls ms st=>K (l::ls) ms st
def Ch (gs:List Nat):List (Nat×hH)→(List (Nat×hH)→Option R)→Option R
 |[],K=>K []
 |(k,o)::r,K=>bif aT gs k then Ch gs r K else Ch gs r fun r=>K ((k,o)::r)
def Mu:List Nat→Fr→(Fr→Option R)→Option R
 |[],r,K=>K r
 |f::fs,r,K=>RC f r fun r=>Mu fs r K
def cw:List (Nat×Nat)→List Nat
 |[]=>[]
 |(_,0)::r=>cw r
 |(_,g+1)::r=>g::cw r
def zx:List Nat→List (Nat×hH)→Bool
 |[],_=>false
 |f::r,m=>(match ar m f with|some _=>true|none=>zx r m)
def zy (st:St) (root:Nat) (ks:List LK) (ps:List (Nat×Nat)) (outs:List MV) (K:St→Option R):Option R:=
 bM ⟨[],[],[],[]⟩ ks outs fun cs rest qj=>gN rest<|Ch (cw ps) st.az fun m=>
  bif zx (aR ks) m||meets (aR ks) st.bF then none else
   Mu (aR ks) st.fr fun r=>yH r root (.box cs) fun r=>(match app qj.az m with|some m=>K ⟨st.bt,st.bF,r,m⟩|none=>none)
def F3 (c:Ctx) (gv:Bool) (g:List MV→Option MV) (pos:Nat) (ks:List LK) (st:St) (ss:List Slot) (I:Option TI) (K:Slot→St→Option R):Option R:=
 match ss[pos]? with
 |some (.ptr root off)=>nM st (ss.take pos) fun m1 st=>nM st (ss.drop (pos+1)) fun m2 st=>
  (match ah st.fr root with
  | .box cs=>bif cE cs||aT st.bt root||!dt c ks||!gv then none else eh st [] ks cs fun ls ps=>
   (match app m1 (.cell (.func off ls)::m2) with
   |some ms=>bd (g ms) fun x=>gW x fun r outs=>zy st root ks ps outs fun st=>(match I with
    |some I=>jY c I r fun s=>K s st
    |none=>K (.sc .un) st)
   |none=>none)
  |_=>none)
 |_=>none
def Of (c:Ctx) (key pos:Nat) (ks:List LK) (st:St) (ss:List Slot) (I:Option TI) (K:Slot→St→Option R):Option R:=
 F3 c (c.df key) (c.g key) pos ks st ss I K
def Jf:List LK→List LK→Bool
 |[],[]=>true
 | .k k1::r,.k k2::q=>N9 k1 k2&&Jf r q
 | .own f t z::r,.own f' t' z'::q=>Nat.beq f f'&&(Nat.beq t t'&&(z==z'&&Jf r q))
 |_,_=>false
def Ci (c:Ctx) (pos:Nat) (ks:List LK):List Nat→Bool
 |[]=>true
 |k::r=>(match c.sig k with|some sg=>Nat.beq sg.1 pos&&Jf sg.2 ks|none=>false)&&(c.df k&&Ci c pos ks r)
def Jg (c:Ctx) (Hc:List Nat) (st:St) (f:Slot) (ss:List Slot) (I:Option TI) (K:Slot→St→Option R):Option R:=match f,Hc with
 | .sc (.p m),k0::_=>(match c.sig k0 with
  |some sg=>bif Ci c sg.1 sg.2 Hc then RB m fun k bk=>gN bk<|F3 c true (fun ms=>G8 Hc k fun k=>c.g k ms) sg.1 sg.2 st ss I K else none
  |none=>none)
 |_,_=>none
def Ra (c:Ctx) (o:Oper) (st:St) (K:Slot→St→Option R):Option R:=
 match o.op with
 | .move x=>K (aq c st x) st
 | .assign x=>vO c o st x K
 | .makeMap t none=>(match mu c t with|some s=>K (.box [.mp s []]) st|none=>none)
 | .lookup t m k false=>Oc c st t (aq c st m) (aq c st k) fun s=>K s st
 | .mapUpdate t m k v=>Od c st t (aq c st m) (aq c st k) (aq c st v) fun st=>K (.sc .un) st
 | .mapEntry t m k=>Jd c st t (aq c st m) (aq c st k) K
 | .entryStore t m i v=>RF c st t (aq c st m) (aq c st i) (aq c st v) fun st=>K (.sc .un) st
 | .nilCheck x=>Pa (aq c st x) fun s=>K s st
 | .pick x a b=>I8 (aq c st x) (aq c st a) (aq c st b) fun s=>K s st
 | .alloc t=>(match c.tv t with|some I=>K (.box I.zero) st|none=>none)
 | .box t x=>(match c.tv t with|some I=>Pb I (aq c st x) fun s=>K s st|none=>none)
 | .build t parts=>(match c.tv t with
  |some I=>bif I.st then (match rE c st I parts.toList I.zero with|some cs=>K (.ag cs) st|none=>none)
   else (match I.lay with|[.h]=>vZ c st parts.toList ez.zero fun x=>K (.sc (.hs x)) st|_=>none)
  |none=>none)
 | .buildSlice t n parts=>(match c.tv t with
  |some I=>bif I.qS then (match c.tv I.elem with
   |some E=>bif Nat.ble (n *E.size) 16777216 then I5 c st parts.toList 0 fun ms st=>bif Nat.beq ms.length n then b9 (kE E.size ms)
    (bif aT c.bs (o.dst.getD 0) then K (.sc (.p (.list ms))) st else dD st (o.dst.getD 0) ⟨I.elem,false,ms⟩ fun st=>K (.sc (.own (o.dst.getD 0))) st) else none else none
   |none=>none) else none
  |none=>none)
 | .makeSlice t x y=>(match c.tv t with
  |some I=>bif I.qS then (match c.tv I.elem with|some E=>I4 (o.dst.getD 0) st I E (aq c st x) (aq c st y) K|none=>none) else none
  |none=>none)
 | .load t a=>(match c.tv t with
  |some I=>bif still c o then (match aq c st a with| .rp cs off=>eC I cs off fun s=>K s st|_=>none) else UH st I (aq c st a) fun s=>K s st
  |none=>none)
 | .store t a v=>(match c.tv t with|some I=>UI st I (aq c st a) (aq c st v) fun st=>K (.sc .un) st|none=>none)
 | .binOp op t x y _=>O9 (c.tv t) op (aq c st x) (aq c st y) fun s=>K s st
 | .unOp op _ x=>UK op (aq c st x) fun s=>K s st
 | .convert y t x=>bif isLT c y then (match c.tv y,c.tv t with|some Y,some I=>Je c st Y I (aq c st x) fun s=>K s st|_,_=>none)
  else (match c.ti y,c.tv t with|some _,some I=>I9 I (c.fk t) (aq c st x) fun s=>K s st|_,_=>none)
 | .range t x=>(match c.tv t with|some I=>Ej I (aq c st x) fun s=>K s st|none=>none)
 | .next x true=>UM st (aq c st x) K
 | .makeFunc (.func f) first bk=>(match first.toList with
  |[]=>sq c st bk.toList fun ms st=>K (.sc (.p (.func (c.key f) ms))) st
  |_=>none)
 | .slice t x lo hi none=>(match c.tv t with|some I=>Eg c I st (aq c st x) (fC c st lo) (fC c st hi) K|none=>none)
 | .slice t x none (some h) (some m)=>(match c.tv t with|some I=>Ja I (aq c st x) (aq c st h) (aq c st m) fun s=>K s st|none=>none)
 | .fieldAddr t x f=>(match c.tv t with|some I=>Jb st I f (aq c st x) fun s=>K s st|none=>none)
 | .field t x f=>(match c.tv t with|some I=>Pc c I f (aq c st x) fun s=>K s st|none=>none)
 | .indexAddr t x i=>(match c.tv t with
  |some I=>(match c.tv I.elem with|some E=>Pd c st I E (aq c st x) (aq c st i) fun s=>K s st|none=>none)
  |none=>none)
 | .index t x i=>(match c.tv t with|some I=>UL I (aq c st x) (aq c st i) fun s=>K s st|none=>none)
 | .extract x k=>Pe (aq c st x) k fun s=>K s st
 | .call cl=>(match cl.callee with
  | .value (.func f)=>(match c.sig (c.key f) with
   |some sg=>Of c (c.key f) sg.1 sg.2 st (dO c st cl.args.toList) (c.ti o.type) K
   |none=>match c.ti o.type with
   |some I=>F2 c (c.key f) st (dO c st cl.args.toList) fun ms st=>I7 c (o.dst.getD 0) st (c.key f) ms I K
   |none=>none)
  | .value x=>(match c.dyn with
   |_::_=>Jg c c.dyn st (aq c st x) (dO c st cl.args.toList) (c.ti o.type) K
   |[]=>match c.ti o.type with
   |some I=>AX c st I (aq c st x) (dO c st cl.args.toList) K
   |none=>none)
  | .builtin .len=>(match cl.argTypes.toList with
   |[t]=>(match c.tv t with|some I=>Jc I st (dO c st cl.args.toList) fun s=>K s st|none=>none)
   |_=>none)
  | .builtin .append=>(match dO c st cl.args.toList,cl.argTypes.toList with
   |[s,x],[t,t']=>(match c.tv t with
    |some I=>bif I.qS then (match c.tv I.elem with
     |some E=>bif Nat.beq t t' then AW I E st x fun ys=>Ha (o.dst.getD 0) st I E s ys K else Ee c t' E x fun ys=>Ha (o.dst.getD 0) st I E s ys K
     |none=>none) else none
    |none=>none)
   |_,_=>none)
  | .builtin .real=>(match dO c st cl.args.toList with|[.sc (.p m)]=>Ms m fun x _=>K (.sc (.p (.raw (.float .f64 x)))) st|_=>none)
  | .builtin .imag=>(match dO c st cl.args.toList with|[.sc (.p m)]=>Ms m fun _ y=>K (.sc (.p (.raw (.float .f64 y)))) st|_=>none)
  | .builtin .complex=>(match dO c st cl.args.toList with|[.sc (.p (.raw (.float .f64 x))),.sc (.p (.raw (.float .f64 y)))]=>K (.sc (.p (.raw (.complex .f64 x y)))) st|_=>none)
  | .builtin .min=>(match Ef false (dO c st cl.args.toList) with|some m=>K (.sc (.p m)) st|none=>none)
  | .builtin .max=>(match Ef true (dO c st cl.args.toList) with|some m=>K (.sc (.p m)) st|none=>none)
  |_=>none)
 |_=>none
def Ek (all:List Oper) (o:Oper) (st:St) (K:Bool→St→Option R):Option R:=
 match o.guard with
 |none=>K true st
 |some (j,want)=>match all[j]? with
  |some p=>(match p.dst with
   |some t=>(match ah st.fr t with
    | .sc (.p (.b v))=>(match v with
     |true=>(match st with|⟨p,q,r,m⟩=>yH r t (.sc (.p (.b true))) fun r=>K want ⟨p,q,r,m⟩)
     |false=>(match st with|⟨p,q,r,m⟩=>yH r t (.sc (.p (.b false))) fun r=>K (!want) ⟨p,q,r,m⟩))
    | .skip=>K false st
    |_=>none)
   |none=>none)
  |none=>none
def F4 (c:Ctx) (all:List Oper) (o:Oper) (st:St) (K:St→Option R):Option R:=
 Ek all o st fun go st=>
  bif go then Ra c o st fun s st=>aH c st o.dst s K
  else aH c st o.dst .skip K
def nN (c:Ctx) (all:List Oper):List Oper→St→(St→Option R)→Option R
 |[],st,K=>K st
 |o::r,st,K=>F4 c all o st fun st=>nN c all r st K
end
section
variable {R:Type}
def fJ (st:St):List (Nat×Nat)→List (Nat×OK)→(List MV→Option R)→Option R
 |_,[],K=>K []
 |ps,(t,k)::r,K=>match k,ah st.fr t with
  | .sc k,.sc l=>eh st ps [k] [l] fun ms ps=>fJ st ps r fun ns=>(match app ms ns with|some l=>K l|none=>none)
  | .ag ks,.ag ls=>eh st ps ks ls fun ms ps=>fJ st ps r fun ns=>(match app ms ns with|some l=>K l|none=>none)
  | .box ks,.box ls=>eh st ps ks ls fun ms ps=>fJ st ps r fun ns=>(match app ms ns with|some l=>K l|none=>none)
  | .mp s,.box [.mp s' es]=>bif Oa s s' then fJ st ps r fun ns=>K (.list es::ns) else none
  | .pt root off,.ptr Jh Hd=>bif Nat.beq root Jh&&(Nat.beq off Hd&&(!pc root&&tK (ah st.fr root))) then fJ st ps r K else none
  |_,_=>none
def Cj (st:St) (t:Nat) (s:Slot) (K:St→Option R):Option R:=match st with|⟨p,q,r,m⟩=>yH r t s fun r=>K ⟨p,q,r,m⟩
def Ji:List (Nat×OK)→List MV→St→(St→Option R)→Option R
 |[],ms,st,K=>gN ms (K st)
 |(t,k)::r,ms,st,K=>match k,st with
  | .pt root off,⟨p,q,fr,m⟩=>bif !pc root&&(tK (ah fr root)&&!bI (ah fr t)) then yH fr t (.ptr root off) fun fr=>Ji r ms ⟨p,q,fr,m⟩ K else none
  |_,_=>none
def fT (st:St):List (Nat×OK)→List MV→(St→Option R)→Option R
 |[],ms,K=>gN ms (K st)
 |(t,k)::r,ms,K=>match k with
  | .sc k=>bM st [k] ms fun ls ms st=>(match ls with|[l]=>Cj st t (.sc l) fun st=>fT st r ms K|_=>none)
  | .ag ks=>bM st ks ms fun ls ms st=>Cj st t (.ag ls) fun st=>fT st r ms K
  | .box ks=>bif pc t&&!aT st.bt (posOf t) then none else bM st ks ms fun ls ms st=>Cj st t (.box ls) fun st=>fT st r ms K
  | .mp s=>bif pc t then none else gC ms fun m ms=>gL m fun es=>Cj st t (.box [.mp s es]) fun st=>fT st r ms K
  | .pt root off=>Ji ((t,.pt root off)::r) ms st K
end
def bY:List (Nat×OK)→List Nat
 |[]=>[]
 |(t,_)::r=>t::bY r
def bu:List (Nat×OK)→List Nat
 |[]=>[]
 |(_,.sc k)::r=>aR [k]++bu r
 |(_,.ag ks)::r=>aR ks++bu r
 |(_,.box ks)::r=>aR ks++bu r
 |(_,.mp _)::r=>bu r
 |(_,.pt _ _)::r=>bu r
def minus:List Nat→List Nat→List Nat
 |[],_=>[]
 |k::r,l=>bif aT l k then minus r l else k::minus r l
def nO {R:Type} (ps:List Nat):List ap→(List ap→Option R)→Option R
 |[],K=>K []
 |l::r,K=>(match l with
  | .own g=>bif aT ps g then nO ps r fun r=>K (.own g::r) else nO ps r fun r=>K (.un::r)
  |l=>nO ps r fun r=>K (l::r))
def Ck {R:Type} (ps:List Nat) (s:Slot) (K:Slot→Option R):Option R:=match s with
 | .sc (.own g)=>bif aT ps g then K (.sc (.own g)) else K (.sc .un)
 | .ag cs=>nO ps cs fun cs=>K (.ag cs)
 | .box cs=>nO ps cs fun cs=>K (.box cs)
 |s=>K s
def Ua {R:Type} (ps:List Nat):Fr→(Fr→Option R)→Option R
 |[],K=>K []
 |(k,s)::r,K=>Ck ps s fun s=>Ua ps r fun r=>K ((k,s)::r)
def zB {R:Type} (ks fs qs:List Nat):List (Nat×hH)→(List (Nat×hH)→Option R)→Option R
 |[],K=>K []
 |(k,o)::r,K=>bif aT ks k then zB ks fs qs r fun r=>(bif aT fs k&&!aT qs k then K ((k,⟨o.ty,true,o.xs⟩)::r) else K ((k,o)::r)) else zB ks fs qs r K
def cy (c:Ctx):List (Nat×OK)→Bool
 |[]=>true
 |(_,.sc k)::r=>bif dt c [k] then cy c r else false
 |(_,.ag ks)::r=>bif dt c ks then cy c r else false
 |(_,.box ks)::r=>bif dt c ks then cy c r else false
 |(_,.mp _)::r=>cy c r
 |(_,.pt _ _)::r=>cy c r
def El {R:Type} (c:Ctx) (h:iR) (st:St) (K:St→St→Option R):Option R:=
 match st with
 |⟨p,q,r,m⟩=>
  bif !cy c h.all||meets (bY h.all) p||meets (bu h.all) q||meets (bY h.all) h.bt||meets (bu h.all) h.bF then none else
  match app h.bt p,app h.bF q with
  |some p',some q'=>
   pick h.bt r fun rp=>Ua h.bF rp fun rp=>pick (bY h.all) r fun ro=>
   zB h.bF h.ck q m fun mp=>zB (bu h.all) h.ck q m fun mo=>
   (match app rp ro,app mp mo with
    |some r1,some m1=>K ⟨p',q',r1,m1⟩ ⟨p',q',rp,mp⟩
    |_,_=>none)
  |_,_=>none
def tP {R:Type} (c:Ctx) (h:iR) (st:St) (K:St→St→Option R):Option R:=
 El c h st fun ca ch=>vX (fun t=>aT h.bt t||aT (bY h.all) t) st.fr st.fr ca.fr fun fr=>K ⟨ca.bt,ca.bF,fr,ca.az⟩ ch
def nP (st ch:St):St:=match st,ch with|⟨p,q,_,_⟩,⟨_,_,r,m⟩=>⟨p,q,r,m⟩
def guarded:List Oper→Bool
 |[]=>false
 |o::r=>match o.guard with|some _=>true|none=>guarded r
def j0:List Oper→List Nat
 |[]=>[]
 |o::r=>match o.op,o.dst with
  | .alloc _,some d=>d::j0 r
  | .box _ _,some d=>d::j0 r
  | .makeMap _ _,some d=>d::j0 r
  | .range _ _,some d=>d::j0 r
  |_,_=>j0 r
def tQ {R:Type} (ds:List Nat) (st:St) (K:St→Option R):Option R:=match st with|⟨p,q,r,m⟩=>mP ds r fun r1=>vX (fun t=>!aT ds t) r r r1 fun r=>K ⟨p,q,r,m⟩
def cO:Code→Option Nat
 | .region id _ _=>some id
 | .seq a b=>match cO a with|some n=>some n|none=>cO b
 | .cond _ a b=>match cO a with|some n=>some n|none=>cO b
 | .block _ b| .loop b| .scope b=>cO b
 |_=>none
def Rb:List Nat→List Nat→List Nat
 |[],l=>l
 |k::r,l=>bif aT l k then Rb r l else k::Rb r l
def eM:Code→List Nat
 | .skip| .region _ _ _=>[0]
 | .seq a b=>bif aT (eM a) 0 then Rb (minus (eM a) [0]) (eM b) else eM a
 | .cond _ a b=>Rb (eM a) (eM b)
 | .block id b=>bif aT (eM b) (id+2) then Rb (minus (eM b) [0,id+2]) [0] else eM b
 | .loop b=>minus (eM b) [0]
 | .exit id=>[id+2]
 | .ret=>[1]
 |_=>[]
def iS (o:Oper):Bool:=match o.op with
 | .load _ _=>true
 | .lookup _ _ _ false=>true
 |_=>false
def fb (c:Ctx) (o:Oper):Bool:=iS o||(match o.op with
 | .convert y _ _=>isLT c y
 |_=>false)
def Jj (o:Oper):Option Nat:=match o.op with
 | .lookup t _ _ false=>some t
 |_=>none
def Mv (o:Oper):Option Nat:=match o.op with
 | .mapEntry t _ _=>some t
 |_=>none
def qU (o p:Oper):Bool:=match Jj o,Mv p with
 |some t,some t'=>Nat.beq t t'
 |_,_=>false
def iT (o:Oper):Bool:=match o.op with
 | .move _| .assign _| .nilCheck _| .pick _ _ _| .build _ _| .load _ _| .binOp _ _ _ _ _| .unOp _ _ _| .convert _ _ _| .makeFunc _ _ _| .slice _ _ _ _ _| .fieldAddr _ _ _| .field _ _ _| .indexAddr _ _ _| .index _ _ _| .extract _ _| .lookup _ _ _ false=>true
 | .call cl=>(match cl.callee with| .builtin .len| .builtin .min| .builtin .max| .builtin .real| .builtin .imag| .builtin .complex=>true|_=>false)
 |_=>false
def qL (c:Ctx) (o:Oper):Bool:=match o.op with
 | .alloc _| .box _ _| .buildSlice _ _ _| .makeSlice _ _ _=>true
 | .call cl=>(match cl.callee with| .value (.func f)=>!c.df (c.key f)| .value _=>(match c.dyn with|[]=>true|_::_=>false)|_=>false)
 |_=>false
def Em:Op→List Operand
 | .build _ ps=>ps.toList.map (·.2)
 | .buildSlice _ _ ps=>ps.toList.map (·.2)
 | .makeFunc _ first captured=>first.toList++captured.toList
 | .slice _ x l h m=>x::(l.toList++(h.toList++m.toList))
 | .call c=>(match c.callee with| .value f=>[f]| .invoke r _=>[r]| .builtin _=>[])++c.args.toList
 |op=>op.operands.toList
def Cl:List Operand→List Nat
 |[]=>[]
 | .tmp t::r=>t::Cl r
 |_::r=>Cl r
def AZ (ops:List Oper) (o:Oper):List Nat:=
 Cl (Em o.op)++(match o.guard with|some (g,_)=>(match ops[g]? with|some p=>p.dst.toList|none=>[])|none=>[])
def A0 (ops:List Oper) (x y:Oper):Bool:=
 (match x.dst with|some d=>!aT (AZ ops y) d&&(match y.dst with|some d'=>!Nat.beq d' d|none=>true)|none=>true)&&
 (match y.dst with|some d=>!aT (AZ ops x) d|none=>true)
def tR (e:Edge):Bool:=match e.ground with
 | .textOnly _=>false
 | .gcOnly _=>false
 |_=>true
def rG (o:Oper) (p:Nat→Bool):Bool:=o.after.toList.any fun e=>tR e&&p e.on
def RG (ops:List Oper):Bool:=ops.all fun o=>match o.op with| .select _ _=>false|_=>true
def Jk (c:Ctx) (o:Oper):Bool:=iT o||qL c o
def kF (c:Ctx) (ops:List Oper) (o:Oper):List Nat→List Nat→Bool
 |_,[]=>true
 |D,y::r=>match ops[y]? with
  |some p=>bif rG p (aT D) then kF c ops o (y::D) r else A0 ops o p&&(!fb c o||Jk c p||still c o||qU o p)&&kF c ops o D r
  |none=>false
def Cm (o:Oper):Bool:=match o.op,o.dst,o.guard with
 | .alloc _,some _,none=>o.after.toList.all fun e=>!tR e
 |_,_,_=>false
def RH (c:Ctx) (o:Oper):Bool:=match o.op with
 | .alloc t=>(match c.tv t with|some _=>true|none=>false)
 |_=>false
def RI (ops:List Oper) (i:Nat):Bool:=match ops[i]? with
 |some o=>Cm o
 |none=>false
def mR (c:Ctx) (ops:List Oper):List Nat→List Nat→Bool
 |_,[]=>true
 |pre,x::rest=>(match ops[x]? with
  |some o=>(o.after.toList.all fun e=>!tR e||aT pre e.on)&&!aT pre x&&!aT rest x&&
   (bif iT o&&!fD c o then kF c ops o [x] rest
    else (rest.all fun y=>match ops[y]? with
     |some p=>bif Cm p then A0 ops p o&&RH c p else rG p (fun i=>Nat.beq i x||(aT rest i&&!RI ops i))
     |none=>false))&&mR c ops (x::pre) rest
  |none=>false)
def rH (c:Ctx) (ops:Array Oper) (ord:List Nat):Bool:=
 RG ops.toList&&Nat.beq ord.length ops.toList.length&&(List.range ops.toList.length).all (aT ord)&&mR c ops.toList [] ord
def vP {R:Type} (c:Ctx) (id:Nat) (ops l:List Oper) (st:St) (K:St→Option R):Option R:=
 bif guarded ops then
  tP c (c.tL id) st fun ca ch=>bd (tQ (j0 ops) ca fun ca=>nN c ops l ca fun st=>fJ st [] ((c.tL id).ex 0) some) fun vs=>fT (nP st ch) ((c.tL id).ex 0) vs K
 else tQ (j0 ops) st fun st=>nN c ops l st K
def jq (ops:List Oper):List Nat→Option (List Oper)
 |[]=>some []
 |i::r=>match ops[i]?,jq ops r with
  |some o,some l=>some (o::l)
  |_,_=>none
def Mw {S:Type} (step:S→MV→Option (Bool×S)):S→List MV→Option (List MV×S)
 |s,[]=>some ([],s)
 |s,x::xs=>match step s x with
  |some (b,s1)=>(match Mw step s1 xs with|some (ys,s2)=>some (bif b then ys else x::ys,s2)|none=>none)
  |none=>none
def Jl (g:Nat→List MV→Option MV) (k:Nat) (bk:List MV):Unit→MV→Option (Bool×Unit):=fun _ x=>match g k (x::bk) with
 |some (.b b)=>some (b,())
 |_=>none
def Jm (g:Nat→List MV→Option MV) (k:Nat) (bk:List MV):List MV→MV→Option (Bool×List MV):=fun ls x=>match g k (x::(bk++[.cell (.func 0 ls)])) with
 |some (.kD (.b b) outs)=>some (b,outs)
 |_=>none
def Mx:MV→Bool
 | .agg _=>true
 |_=>false
def Jn {R:Type} (c:Ctx) (h f:Nat) (bk:List Operand) (x:Operand) (o1 o2:Oper) (st:St) (K:St→Option R):Option R:=
 let fin (ys:List MV) (st:St):Option R:=dD st (o2.dst.getD 0) ⟨c.lF (c.key h),false,ys⟩ fun st=>aH c st o2.dst (.sc (.own (o2.dst.getD 0))) fun st=>aH c st o1.dst (.sc .un) K
 match c.sig (c.key f) with
 |none=>bif c.df (c.key f) then none else sq c st bk fun ms st=>sr c (c.key h) st (aq c st x) fun m st=>gF m fun xs=>b9 (xs.all Mx)<|bd (Mw (Jl c.g (c.key f) ms) () xs) fun p=>fin p.1 st
 |some sg=>sq c st bk.dropLast fun ms st=>sr c (c.key h) st (aq c st x) fun m st=>gF m fun xs=>b9 (xs.all Mx)<|
  (match bk.getLast? with
  |some y=>(match aq c st y with
   | .ptr root 0=>(match ah st.fr root with
    | .box cs=>bif cE cs||aT st.bt root||!dt c sg.2||!Nat.beq sg.1 (ms.length+1)||!c.df (c.key f) then none else
     eh st [] sg.2 cs fun ls ps=>bd (Mw (Jm c.g (c.key f) ms) ls xs) fun p=>zy st root sg.2 ps p.2 fun st=>fin p.1 st
    |_=>none)
   |_=>none)
  |none=>none)
def sv (c:Ctx):List Oper→List Oper→Option (List Oper×Nat×List Operand×Nat×Operand×Oper×Oper×List Oper)
 |pre,o1::o2::r=>match o1.op,o2.op with
  | .makeFunc (.func f) first bk,.call cl=>(match cl.callee,cl.args.toList,first.toList,o1.dst with
   | .value (.func h),[.tmp x,.tmp y],[],some d=>bif c.AS h&&Nat.beq y d&&!Nat.beq x d&&!Nat.ble c.n d&&!Nat.beq (o2.dst.getD d) d then some (pre.reverse,f,bk.toList,h,.tmp x,o1,o2,r) else sv c (o1::pre) (o2::r)
   |_,_,_,_=>sv c (o1::pre) (o2::r))
  |_,_=>sv c (o1::pre) (o2::r)
 |_,_=>none
def v8:List Oper→Bool
 |[]=>true
 |o::r=>(match o.guard with|none=>v8 r|some _=>false)
def Jo {R:Type} (c:Ctx) (id:Nat) (ops:List Oper) (st:St) (K:St→Option R):Option R:=
 match sv c [] ops with
 |some (pre,f,bk,h,x,o1,o2,post)=>bif v8 ops then tQ (j0 ops) st fun st=>nN c ops pre st fun st=>Jn c h f bk x o1 o2 st fun st=>nN c ops post st K else none
 |none=>vP c id ops ops st K
def UO {R:Type} (c:Ctx) (ts:List Nat) (st:St) (K:St→Option R):Option R:=match ts with
 |[]=>K st
 |ts=>sq c st (ts.map .tmp) fun _ st=>K st
def yK (ops:Array Oper) (A B:Nat):Array Oper:=ops.modify B fun o=>{o with after:=o.after.push ⟨A,.data⟩}
open Classical in
noncomputable def both {R:Type} (x y:Option R):Option R:=if x=y then x else none
def Jp (n:Nat) (l:List Nat):Option (List Nat×List Nat×Nat×Nat):=match l.drop (l.length-2) with
 |[A,B]=>bif Nat.beq A B||(Nat.ble n A||Nat.ble n B) then none else some (l.take n,(l.drop n).take (l.length-2-n),A,B)
 |_=>none
def F5 {R:Type} (c:Ctx) (ops:Array Oper) (l:List Nat) (st:St) (K:St→Option R):Option R:=bif rH c ops l then (match jq ops.toList l with
 |some l=>nN c ops.toList l st K
 |none=>none) else none
noncomputable def Cn {R:Type} (c:Ctx) (st:St) (K:St→Option R):Nat→Array Oper→List Nat→Option R
 |0,_,_=>none
 |k+1,ops,l=>bif Nat.beq l.length ops.toList.length then F5 c ops l st K else (match Jp ops.toList.length l with
  |some (o1,o2,A,B)=>both (F5 c (yK ops A B) o1 st K) (Cn c st K k (yK ops B A) o2)
  |none=>none)
noncomputable def RJ {R:Type} (c:Ctx) (ops:Array Oper) (ord:List Nat) (st:St) (K:St→Option R):Option R:=
 bif guarded ops.toList then none else tQ (j0 ops.toList) st fun st=>Cn c st K ord.length ops ord
noncomputable def F6 {R:Type} (c:Ctx) (id:Nat) (ops:Array Oper) (draw:Bool) (st:St) (K:St→Option R):Option R:=
 UO c (c.fz id) st fun st=>bif draw then (bif !Nat.beq (c.ord id).length ops.toList.length then RJ c ops (c.ord id) st K else bif rH c ops (c.ord id) then (match jq ops.toList (c.ord id) with|some l=>vP c id ops.toList l st K|none=>none) else none)
 else Jo c id ops.toList st K
noncomputable def eD (c:Ctx):Code→(R:Type)→St→(Nat→St→Option R)→Option R
 | .skip,_,st,K=>K 0 st
 | .region id ops d,_,st,K=>F6 c id ops d st fun st=>K 0 st
 | .seq a b,R,st,K=>eD c a R st fun e st=>bif Nat.beq e 0 then eD c b R st K else K e st
 | .cond x a b,R,st,K=>(match aq c st x with
  | .sc (.p (.b v))=>
   bif aT (eM a) 0&&aT (eM b) 0 then
    tP c (c.tH ((cO (.seq a b)).getD 0)) st fun ca ch=>
    bd (ba v (eD c a (Nat×List MV) ca fun e st=>fJ st [] ((c.tH ((cO (.seq a b)).getD 0)).ex e) fun vs=>some (e,vs))
     (eD c b (Nat×List MV) ca fun e st=>fJ st [] ((c.tH ((cO (.seq a b)).getD 0)).ex e) fun vs=>some (e,vs)))
     fun r=>G8 (Rb (eM a) (eM b)) r.1 fun e=>fT (nP st ch) ((c.tH ((cO (.seq a b)).getD 0)).ex e) r.2 fun st=>K e st
   else ba v (eD c a R st K) (eD c b R st K)
  |_=>none)
 | .block id b,R,st,K=>eD c b R st fun e st=>bif Nat.beq e (id+2) then K 0 st else K e st
 | .loop b,_,st,K=>
  tP c (c.pe ((cO b).getD 0)) st fun ca ch=>fJ ca [] (c.pe ((cO b).getD 0)).outs fun vs=>
   bd (Loop (fun ms=>fT ch (c.pe ((cO b).getD 0)).outs ms fun st=>eD c b (Sum (List MV) (Nat×List MV)) st fun e st=>
    bif Nat.beq e 0 then fJ st [] (c.pe ((cO b).getD 0)).outs fun vs=>some (.inl vs) else fJ st [] ((c.pe ((cO b).getD 0)).ex e) fun vs=>some (.inr (e,vs))) vs)
    fun r=>G8 (minus (eM b) [0]) r.1 fun e=>fT (nP st ch) ((c.pe ((cO b).getD 0)).ex e) r.2 fun st=>K e st
 | .exit id,_,st,K=>K (id+2) st
 | .ret,_,st,K=>K 1 st
 |_,_,_,_=>none
def wa {R:Type} (c:Ctx):List Nat→Nat→List MV→(Fr→List MV→Option R)→Option R
 |[],_,ms,K=>K [] ms
 |t::ts,n,ms,K=>match c.tv t with
  |some I=>gC ms fun m r=>uJ I m fun s=>wa c ts (n+1) r fun fr ms=>K ((n,s)::fr) ms
  |none=>none
def En {R:Type}:List (List Kd)→Nat→List MV→(Fr→Option R)→Option R
 |[],_,ms,K=>gN ms (K [])
 |ks::r,n,ms,K=>gC ms fun m ms=>gP m fun cs=>lE ks cs fun cs=>En r (n+1) ms fun fr=>K ((n,.pi cs)::fr)
def tS {R:Type} (c:Ctx) (st:St) (fresh:Option Nat):List ResultVar→(List MV→Option R)→Option R
 |[],K=>K []
 |r::rs,K=>
  let go (s:Slot):Option R:=match fresh with
   |some ty=>(match s with
    | .sc (.own f)=>(match ar st.az f with|some o=>bif o.ck||!Nat.beq o.ty ty then none else tS c st fresh rs fun ms=>K (.fresh o.xs::ms)|none=>none)
    | .sc .nil=>tS c st fresh rs fun ms=>K (.fresh []::ms)
    |_=>none)
   |none=>fM st s fun m st=>tS c st fresh rs fun ms=>K (m::ms)
  match r with
  | .tmp t=>go (ah st.fr t)
  | .cell a t=>match c.tv t,ah st.fr a with
   |some I,.box cs=>bif cE cs||pc a then none else eC I cs 0 fun s=>go s
   |_,_=>none
def He {R:Type} (c:Ctx) (st:St):List ResultVar→(List MV→St→Option R)→Option R
 |[],K=>K [] st
 |r::rs,K=>(match r with
  | .tmp t=>fM st (ah st.fr t) fun m st=>He c st rs fun ms st=>K (m::ms) st
  | .cell a t=>(match c.tv t,ah st.fr a with
   |some I,.box cs=>bif cE cs||pc a then none else eC I cs 0 fun s=>fM st s fun m st=>He c st rs fun ms st=>K (m::ms) st
   |_,_=>none))
def RL:List MV→MV
 |[m]=>m
 |ms=> .cN ms
noncomputable def F7 (c:Ctx) (bk:List (List Kd)) (pos:Nat) (ks:List LK) (f:Func) (args:List MV):Option MV:=
 match f.body,args[pos]? with
 |some b,some (.cell (.func off ls))=>bif !dt c ks||!Nat.ble pos 999 then none else
  wa c f.params.toList 0 (args.set pos (.rp [])) fun fr ms=>En bk f.params.size ms fun iU=>
   (match app fr iU with
   |some fr=>bM ⟨[],[],[],[]⟩ ks ls fun cs rest qj=>gN rest<|
    eD c b MV ⟨[pos],[],(1000000+off *1000+pos,.box cs)::fr,qj.az⟩ fun e st=>
     bif Nat.ble e 1 then He c st f.results.toList fun ms st=>(match ah st.fr (1000000+off *1000+pos) with
      | .box cs=>bif cE cs then none else eh st [] ks cs fun outs _=>some (.kD (RL ms) outs)
      |_=>none) else none
   |none=>none)
 |_,_=>none
noncomputable def F8 (X:Code→St→(Nat→St→Option MV)→Option MV) (c:Ctx) (bk:List (List Kd)) (fresh:Option Nat) (f:Func) (args:List MV):Option MV:=
 match f.body with
 |some b=>wa c f.params.toList 0 args fun fr ms=>En bk f.params.size ms fun iU=>
  match app fr iU with
  |some fr=>X b ⟨[],[],fr,[]⟩ fun e st=>
   bif Nat.ble e 1 then tS c st fresh f.results.toList fun ms=>(match ms with|[m]=>some m|ms=>some (.cN ms)) else none
  |none=>none
 |none=>none
noncomputable def zC (c:Ctx) (bk:List (List Kd)) (fresh:Option Nat) (f:Func) (args:List MV):Option MV:=F8 (fun b st K=>eD c b MV st K) c bk fresh f args
end Dn
/-
  What abstract values and slots say of Go's memory. Conditions: none.
-/
namespace Dn
open Go
theorem eR (w:World) (o:Obj):(w.alloc o).heap[w.heap.size]? =some o:=by
 show (w.heap.push o)[w.heap.size]? =some o
 simp
theorem j6 (w:World) (o:Obj) (i:Nat) (h:i<w.heap.size):(w.alloc o).heap[i]? =w.heap[i]? :=by
 show (w.heap.push o)[i]? =w.heap[i]?
 rw [Array.getElem?_push,if_neg (Nat.ne_of_lt h)]
def MV.one:MV→Bool
 | .h _| .agg _| .cN _| .fresh _| .cell _| .kD _ _=>false
 |_=>true
abbrev Ph:=Nat→Nat→Option Value
section
variable (key:Nat→Nat) (φ:Ph)
mutual
inductive fK:List Value→MV→Prop
 |b (x:Bool):fK [.bool x] (.b x)
 |i (k:IntKind) (n:Int):fK [.int k n] (.i k n)
 |s (bs:ByteArray):fK [.string bs] (.s bs.data.toList)
 |h (x:ez):fK (x.l.map fun b=> .int .u8 (b.toNat:Int)) (.h x)
 |raw (v:Value):v.oneCell'=true→fK [v] (.raw v)
 |list (a:Option Addr) (cap:Nat) (xs:List MV) (aN off Co:Nat) (f:Nat→List Value):
  xs.length≤cap→(0<xs.length→a=some ⟨aN,off,none⟩)→(∀i,i<xs.length→(f i).length=Co)→
  (∀i j,i<xs.length→j<Co→φ aN (off+i *Co+j)=(f i)[j]?)→
  (∀(i:Nat) (h:i<xs.length),fK (f i) xs[i])→fK [.slice a xs.length cap] (.list xs)
 |agg (vs:List Value) (ms:List MV):dp vs ms→fK vs (.agg ms)
 |func (f k:Nat) (cap:Array Value) (ms:List MV):key f=k→dp cap.toList ms→(∀m∈ms,m.one=true)→fK [.func (.func f) #[] cap] (.func k ms)
 |rp (aN off:Nat) (vs:List Value) (ms:List MV):dp vs ms→(∀j,j<vs.length→φ aN (off+j)=vs[j]?)→fK [.pointer (some ⟨aN,off,none⟩)] (.rp ms)
 |clip (a:Option Addr) (xs:List MV):fK [.slice a xs.length xs.length] (.list xs)→fK [.slice a xs.length xs.length] (.clip xs)
inductive dp:List Value→List MV→Prop
 |nil:dp [] []
 |cons (v:List Value) (m:MV) (vs:List Value) (ms:List MV):fK v m→dp vs ms→dp (v++vs) (m::ms)
end
end
def j7 (φ φ':Ph):Prop:= ∀b o v,φ b o=some v→φ' b o=some v
theorem j7.refl (φ:Ph):j7 φ φ:=fun _ _ _ h=>h
theorem j7.qk {φ φ':Ph} (h:j7 φ φ') {b j:Nat} {cs:List Value} (e:φ b j=cs[j]?) (hj:j<cs.length):φ' b j=cs[j]? :=by
 rw [List.getElem?_eq_getElem hj] at e⊢
 exact h _ _ _ e
theorem j7.trans {φ φ' RM:Ph} (h:j7 φ φ') (h':j7 φ' RM):j7 φ RM:=fun b o v e=>h' b o v (h b o v e)
section
set_option linter.unusedSectionVars false
variable {key:Nat→Nat} {φ φ':Ph} (hle:j7 φ φ')
include hle
theorem A1 {b o:Nat} {vs:List Value} {j:Nat} (hj:j<vs.length) (h:φ b o=vs[j]?):φ' b o=vs[j]? :=by
 rw [List.getElem?_eq_getElem hj] at h⊢
 exact hle _ _ _ h
mutual
theorem fK.mono {vs:List Value} {m:MV}:fK key φ vs m→fK key φ' vs m
 | .b x=> .b x
 | .i k n=> .i k n
 | .s bs=> .s bs
 | .h x=> .h x
 | .raw v h=> .raw v h
 | .list a cap xs aN off Co f h1 h2 h3 h4 h5=> .list a cap xs aN off Co f h1 h2 h3
  (fun i j hi hj=>A1 hle (by rw [h3 i hi];exact hj) (h4 i j hi hj)) (fun i hi=>(h5 i hi).mono)
 | .agg vs ms h=> .agg vs ms h.mono
 | .func f k cap ms h1 h2 h3=> .func f k cap ms h1 h2.mono h3
 | .rp aN off vs ms h1 h2=> .rp aN off vs ms h1.mono (fun j hj=>A1 hle hj (h2 j hj))
 | .clip a xs h=> .clip a xs h.mono
theorem dp.mono {vs:List Value} {ms:List MV}:dp key φ vs ms→dp key φ' vs ms
 | .nil=> .nil
 | .cons v m vs ms h1 h2=> .cons v m vs ms h1.mono h2.mono
end
end
section
variable {key:Nat→Nat} {φ:Ph}
mutual
theorem fK.cells {vs:List Value} {m:MV}:fK key φ vs m→ ∀v∈vs,v.oneCell'=true
 | .b x=>by simp [Value.oneCell']
 | .i k n=>by simp [Value.oneCell']
 | .s bs=>by simp [Value.oneCell']
 | .h x=>by
  intro v hv
  obtain ⟨b,_,rfl⟩:=List.mem_map.1 hv
  rfl
 | .raw v h=>by simpa using h
 | .list .. =>by simp [Value.oneCell']
 | .agg vs ms h=>h.cells
 | .func .. =>by simp [Value.oneCell']
 | .rp .. =>by simp [Value.oneCell']
 | .clip .. =>by simp [Value.oneCell']
theorem dp.cells {vs:List Value} {ms:List MV}:dp key φ vs ms→ ∀v∈vs,v.oneCell'=true
 | .nil=>by simp
 | .cons v m vs ms h1 h2=>by
  intro x hx
  rcases List.mem_append.1 hx with hx|hx
  ·exact h1.cells x hx
  ·exact h2.cells x hx
end
end
section
variable {key:Nat→Nat} {φ:Ph}
mutual
theorem fK.width {vs:List Value} {m:MV}:fK key φ vs m→vs.length=m.w
 | .b x=>by simp [MV.w]
 | .i k n=>by simp [MV.w]
 | .s bs=>by simp [MV.w]
 | .h x=>by simp [MV.w,x.h]
 | .raw v h=>by simp [MV.w]
 | .list .. =>by simp [MV.w]
 | .agg vs ms h=>by rw [h.width];simp [MV.w]
 | .func .. =>by simp [MV.w]
 | .rp .. =>by simp [MV.w]
 | .clip .. =>by simp [MV.w]
theorem dp.width {vs:List Value} {ms:List MV}:dp key φ vs ms→vs.length=MV.wl ms
 | .nil=>by simp [MV.wl]
 | .cons v m vs ms h1 h2=>by simp [MV.wl,h1.width,h2.width]
end
end
theorem fK.one {key:Nat→Nat} {φ:Ph} {vs:List Value} {m:MV} (h:fK key φ vs m) (hm:m.one=true): ∃v,vs=[v]∧v.oneCell'=true:=by
 have hc:=h.cells
 cases h<;>simp [MV.one] at hm<;>exact ⟨_,rfl,hc _ (by simp)⟩
def dv (key:Nat→Nat) (φ:Ph) (v:Value):MV→Prop
 | .h x=>v= .agg (x.l.map fun b=>Value.int .u8 (b.toNat:Int)).toArray
 | .agg ms=> ∃arr,v= .agg arr∧dp key φ arr.toList ms
 |m=>m.one=true∧fK key φ [v] m
set_option linter.unusedSectionVars false
theorem dv.mono {key:Nat→Nat} {φ φ':Ph} (hle:j7 φ φ') {v:Value} {m:MV} (h:dv key φ v m):dv key φ' v m:=by
 cases m<;>simp only [dv] at h⊢ <;>first|exact h|exact ⟨h.1,h.2.mono hle⟩|(obtain ⟨arr,h1,h2⟩:=h;exact ⟨arr,h1,h2.mono hle⟩)
structure Env where
 key:Nat→Nat
 φ:Ph
 E:Nat→Value
 B:Nat→Nat
 m:List (Nat×hH)
def aV (x:ez):List Value:=x.l.map fun b=>Value.int .u8 (b.toNat:Int)
theorem bN (x:ez):(aV x).length=32:=by simp [aV,x.h]
def aB (e:Env) (vs:List Value):ap→Prop
 | .un=> ∃v,vs=[v]∧v.oneCell'=true
 | .p x=>x.one=true∧fK e.key e.φ vs x
 | .hs x=>vs=aV x
 | .nil=>vs=[.slice none 0 0]
 | .mp _ _=>False
 | .own f=> ∃v,vs=[v]∧v.oneCell'=true∧(∀o,ar e.m f=some o→v=e.E f)
def al (e:Env):List Value→List ap→Prop
 |vs,[]=>vs=[]
 |vs,l::ls=> ∃v r,vs=v++r∧aB e v l∧al e r ls
def lG:ap→Bool
 | .p _| .hs _=>true
 |_=>false
def dM:List ap→Bool
 |[]=>true
 |l::r=>lG l&&dM r
def wb (st:Bool) (x:MV) (cs:List ap):Prop:=(∃ms,aY cs=some ms∧mr st ms=some x)∧ ∀m,ap.p m∈cs→m.one=true
def qV:Slot→Bool
 | .sc l=>lG l
 | .ag cs=>dM cs
 |_=>false
mutual
def ae (e:Env) (v:Value):Slot→Prop
 | .skip=>v=undef
 | .sc l=>match l with
  | .un=>True
  | .hs x=>v= .agg (aV x).toArray
  |l=>aB e [v] l
 | .ag cs=> ∃arr,v= .agg arr∧al e arr.toList cs
 | .cN vs=> ∃arr,v= .tuple arr∧eE e arr.toList vs
 | .box _=>False
 | .pi cs=> ∃aN o vs,v= .pointer (some ⟨aN,o,none⟩)∧al e vs cs∧dM cs=true∧(∀j,j<vs.length→e.φ aN (o+j)=vs[j]?)
 | .ptr r o=>v= .pointer (some ⟨e.B r,o,none⟩)
 | .oX r=>v= .map (some (e.B r))
 | .rp cs off=> ∃aN o vs,v= .pointer (some ⟨aN,o+off,none⟩)∧al e vs cs∧dM cs=true∧(∀j,j<vs.length→e.φ aN (o+j)=vs[j]?)
 | .hp r o i=>v= .pointer (some ⟨e.B r,o+i,none⟩)∧i<32
 | .ep f i off st cs=> ∀o,ar e.m f=some o→ ∃aN cap,e.E f= .slice (some ⟨aN,0,none⟩) o.xs.length cap∧(∃x,o.xs[i]? =some x∧wb st x cs)∧
  v= .pointer (some ⟨aN,i *pj cs+off,none⟩)
def eE (e:Env):List Value→List Slot→Prop
 |vs,[]=>vs=[]
 |vs,s::ss=> ∃v r,vs=v::r∧ae e v s∧qV s=true∧eE e r ss
end
def Jq:ap→List Value→Bool
 | .p (.b x),[.bool y]=>x==y
 | .p (.i k n),[.int k' n']=>decide (k=k')&&decide (n=n')
 | .p (.s l),[.string s]=>decide (l=s.data.toList)
 | .p (.raw v),[w]=>match v,w with
  | .nilFunc,.nilFunc=>true
  | .nilIface,.nilIface=>true
  | .pointer none,.pointer none=>true
  |_,_=>false
 | .nil,[.slice none 0 0]=>true
 | .un,[v]=>v.oneCell'
 | .hs x,vs=>(vs.length==32)&&(vs.zip x.l).all fun p=>match p.1 with| .int .u8 n=>decide (n=(p.2.toNat:Int))|_=>false
 |_,_=>false
def lH:List ap→List Value→Bool
 |[],vs=>vs.isEmpty
 |l::ls,vs=>Jq l (vs.take l.w)&&lH ls (vs.drop l.w)&&decide (l.w≤vs.length)
end Dn
/-
  How an abstract state stands to a frame and a memory; laws of frames and leaves. Conditions: none.
-/
set_option linter.unusedSimpArgs false
set_option linter.unusedVariables false
namespace Dn
open Go
def bA:Fr→Nat→Slot→Fr
 |[],t,v=>[(t,v)]
 |(k,s)::r,t,v=>bif Nat.beq k t then (k,v)::r else (k,s)::bA r t v
def gD (ds:List Nat):Fr→Fr
 |[]=>[]
 |(k,s)::r=>bif bV s||aT ds k then gD ds r else (k,s)::gD ds r
def hM (ks:List Nat):Fr→Fr
 |[]=>[]
 |(k,s)::r=>bif aT ks k&&!bV s then (k,s)::hM ks r else hM ks r
def bo:List (Nat×hH)→Nat→hH→List (Nat×hH)
 |[],t,v=>[(t,v)]
 |(k,s)::r,t,v=>bif Nat.beq k t then (k,v)::r else (k,s)::bo r t v
def B5 (f:Nat):ap→ap
 | .own g=>bif Nat.beq g f then .un else .own g
 |l=>l
def qW (f:Nat):Slot→Slot
 | .sc l=> .sc (B5 f l)
 | .ag cs=> .ag (cs.map (B5 f))
 | .box cs=> .box (cs.map (B5 f))
 | .ep g i o b cs=>bif Nat.beq g f then .sc .un else .ep g i o b cs
 |s=>s
def eW (f:Nat) (r:Fr):Fr:=r.map fun p=>(p.1,qW f p.2)
def pn (f:Nat) (r:Fr):Fr:=r.map fun p=>(p.1,match p.2 with
 | .ep g i o b cs=>bif Nat.beq g f then .sc .un else .ep g i o b cs
 |s=>s)
def Eo (ps:List Nat):ap→ap
 | .own g=>bif aT ps g then .own g else .un
 |l=>l
def yC (ps:List Nat):Slot→Slot
 | .sc l=> .sc (Eo ps l)
 | .ag cs=> .ag (cs.map (Eo ps))
 | .box cs=> .box (cs.map (Eo ps))
 |s=>s
def Ep (ps:List Nat) (r:Fr):Fr:=r.map fun p=>(p.1,yC ps p.2)
def kG (ks fs qs:List Nat):List (Nat×hH)→List (Nat×hH)
 |[]=>[]
 |(k,o)::r=>bif aT ks k then (bif aT fs k&&!aT qs k then (k,⟨o.ty,true,o.xs⟩) else (k,o))::kG ks fs qs r else kG ks fs qs r
section
variable {R:Type}
theorem force_eq (s:Slot) (K:Slot→Option R):force s K=K s:=by cases s<;>rfl
theorem fE (r:Fr) (t:Nat) (s:Slot) (K:Fr→Option R):yH r t s K=K (bA r t s):=by
 induction r generalizing K with
 |nil=>rfl
 |cons p r ih=>obtain ⟨k,x⟩:=p;simp only [yH,bA];cases Nat.beq k t<;>simp [ih]
theorem uL (ds:List Nat) (r:Fr) (K:Fr→Option R):mP ds r K=K (gD ds r):=by
 induction r generalizing K with
 |nil=>rfl
 |cons p r ih=>obtain ⟨k,x⟩:=p;simp only [mP,gD];cases bV x||aT ds k<;>simp [ih]
theorem My (ks:List Nat) (r:Fr) (K:Fr→Option R):pick ks r K=K (hM ks r):=by
 induction r generalizing K with
 |nil=>rfl
 |cons p r ih=>obtain ⟨k,x⟩:=p;simp only [pick,hM];cases aT ks k&&!bV x<;>simp [ih]
theorem hO (r:List (Nat×hH)) (t:Nat) (s:hH) (K:List (Nat×hH)→Option R):Ec r t s K=K (bo r t s):=by
 induction r generalizing K with
 |nil=>rfl
 |cons p r ih=>obtain ⟨k,x⟩:=p;simp only [Ec,bo];cases Nat.beq k t<;>simp [ih]
theorem wc (f:Nat) (cs:List ap) (K:List ap→Option R):nL f cs K=K (cs.map (B5 f)):=by
 induction cs generalizing K with
 |nil=>rfl
 |cons l r ih=>cases l<;>simp only [nL,List.map_cons,B5,ih];rename_i g;cases Nat.beq g f<;>rfl
theorem Jr (f:Nat) (s:Slot) (K:Slot→Option R):zw f s K=K (qW f s):=by
 cases s with
 |sc l=>cases l<;>simp only [zw,qW,B5];rename_i g;cases Nat.beq g f<;>rfl
 |ag cs=>simp only [zw,qW,wc]
 |box cs=>simp only [zw,qW,wc]
 |ep g i o b cs=>simp only [zw,qW];cases Nat.beq g f<;>rfl
 |_=>rfl
theorem Js (f:Nat) (r:Fr) (K:Fr→Option R):RC f r K=K (eW f r):=by
 induction r generalizing K with
 |nil=>rfl
 |cons p r ih=>obtain ⟨k,x⟩:=p;simp only [RC,Jr,ih,eW,List.map_cons]
theorem Pg (f:Nat) (r:Fr) (K:Fr→Option R):Q9 f r K=K (pn f r):=by
 induction r generalizing K with
 |nil=>rfl
 |cons p r ih=>
  obtain ⟨k,x⟩:=p
  cases x<;>simp only [Q9,ih,pn,List.map_cons]
  rename_i g i o b cs
  cases Nat.beq g f<;>rfl
theorem we (f:List Nat) (cs:List ap) (K:List ap→Option R):nO f cs K=K (cs.map (Eo f)):=by
 induction cs generalizing K with
 |nil=>rfl
 |cons l r ih=>cases l<;>simp only [nO,List.map_cons,Eo,ih];rename_i g;cases aT f g<;>rfl
theorem Jt (f:List Nat) (s:Slot) (K:Slot→Option R):Ck f s K=K (yC f s):=by
 cases s with
 |sc l=>cases l<;>simp only [Ck,yC,Eo];rename_i g;cases aT f g<;>rfl
 |ag cs=>simp only [Ck,yC,we]
 |box cs=>simp only [Ck,yC,we]
 |_=>rfl
theorem Pj (f:List Nat) (r:Fr) (K:Fr→Option R):Ua f r K=K (Ep f r):=by
 induction r generalizing K with
 |nil=>rfl
 |cons p r ih=>obtain ⟨k,x⟩:=p;simp only [Ua,Jt,ih,Ep,List.map_cons]
theorem Ju (ks fs qs:List Nat) (r:List (Nat×hH)) (K:List (Nat×hH)→Option R):zB ks fs qs r K=K (kG ks fs qs r):=by
 induction r generalizing K with
 |nil=>rfl
 |cons p r ih=>
  obtain ⟨k,x⟩:=p
  simp only [zB,kG]
  cases aT ks k
  ·simp [ih]
  ·simp only [cond_true,ih]
   cases aT fs k&&!aT qs k<;>rfl
theorem nQ {α:Type} (x y:List α):app x y=some (x++y):=by
 induction x with
 |nil=>rfl
 |cons a r ih=>simp [app,ih]
end
theorem cm (a b:Nat):Nat.beq a b=decide (a=b):=by
 by_cases h:a=b
 ·subst h;simp
 ·simp only [h,decide_false];exact Bool.eq_false_iff.2 (fun e=>h (Nat.eq_of_beq_eq_true e))
theorem aU (l:List Nat) (t:Nat):aT l t=true↔t∈l:=by
 induction l with
 |nil=>simp [aT]
 |cons k r ih=>
  simp only [aT,cm,List.mem_cons]
  by_cases h:k=t
  ·simp [h]
  ·simp only [h,decide_false,cond_false,ih]
   exact ⟨.inr,fun h'=>h'.resolve_left (fun e=>h e.symm)⟩
theorem bg (r:Fr) (d t:Nat) (s:Slot):ah (bA r d s) t=if t=d then s else ah r t:=by
 induction r with
 |nil=>simp only [bA,ah,cm];by_cases h:t=d<;>simp [h,Ne.symm]<;>(intro e;exact absurd e.symm h)
 |cons p r ih=>
  obtain ⟨k,x⟩:=p
  simp only [bA,cm]
  by_cases hk:k=d
  ·subst hk
   simp only [decide_true,cond_true,ah,cm]
   by_cases h:k=t
   ·simp [h]
   ·have h': ¬t=k:=fun e=>h e.symm
    simp [h,h']
  ·simp only [hk,decide_false,cond_false,ah,cm,ih]
   by_cases h:k=t
   ·subst h;simp [hk]
   ·simp [h]
theorem aL (r:List (Nat×hH)) (d t:Nat) (s:hH):ar (bo r d s) t=if t=d then some s else ar r t:=by
 induction r with
 |nil=>simp only [bo,ar,cm];by_cases h:t=d<;>simp [h,Ne.symm]<;>(intro e;exact absurd e.symm h)
 |cons p r ih=>
  obtain ⟨k,x⟩:=p
  simp only [bo,cm]
  by_cases hk:k=d
  ·subst hk
   simp only [decide_true,cond_true,ar,cm]
   by_cases h:k=t
   ·simp [h]
   ·have h': ¬t=k:=fun e=>h e.symm
    simp [h,h']
  ·simp only [hk,decide_false,cond_false,ar,cm,ih]
   by_cases h:k=t
   ·subst h;simp [hk]
   ·simp [h]
theorem wg (g:Slot→Slot) (hg:g (.sc .un)= .sc .un) (r:Fr) (t:Nat):ah (r.map fun p=>(p.1,g p.2)) t=g (ah r t):=by
 induction r with
 |nil=>simp [ah,hg]
 |cons p r ih=>
  obtain ⟨k,x⟩:=p
  simp only [List.map_cons,ah,cm]
  by_cases h:k=t<;>simp [h,ih]
theorem dh (f:Nat) (r:Fr) (t:Nat):ah (eW f r) t=qW f (ah r t):=wg (qW f) rfl r t
theorem zD (f:List Nat) (r:Fr) (t:Nat):ah (Ep f r) t=yC f (ah r t):=wg (yC f) rfl r t
def ay (r:Fr):List Nat:=r.map Prod.fst
theorem km (r:Fr) (t:Nat) (h:t∉ay r):ah r t= .sc .un:=by
 induction r with
 |nil=>rfl
 |cons p r ih=>
  obtain ⟨k,x⟩:=p
  simp only [ay,List.map_cons,List.mem_cons,not_or] at h
  have h': ¬k=t:=fun e=>h.1 e.symm
  simp only [ah,cm,h',decide_false,cond_false]
  exact ih h.2
theorem sw (ds:List Nat) (r:Fr):List.Sublist (ay (gD ds r)) (ay r):=by
 induction r with
 |nil=>simp [ay,gD]
 |cons p r ih=>
  obtain ⟨k,x⟩:=p
  simp only [gD]
  cases bV x||aT ds k
  ·simpa [ay] using ih
  ·exact (List.Sublist.cons _ ih)
theorem nR (ds:List Nat) (r:Fr):List.Sublist (ay (hM ds r)) (ay r):=by
 induction r with
 |nil=>simp [ay,hM]
 |cons p r ih=>
  obtain ⟨k,x⟩:=p
  simp only [hM]
  cases aT ds k&&!bV x
  ·exact (List.Sublist.cons _ ih)
  ·simpa [ay] using ih
theorem wh (ds:List Nat) (r:Fr) (hn:(ay r).Nodup) (t:Nat):ah (gD ds r) t=if bV (ah r t)||aT ds t then .sc .un else ah r t:=by
 induction r with
 |nil=>simp [ah,gD]
 |cons p r ih=>
  obtain ⟨k,x⟩:=p
  simp only [ay,List.map_cons,List.nodup_cons] at hn
  have ih:=ih hn.2
  simp only [gD]
  by_cases hk:k=t
  ·subst hk
   cases hb:bV x||aT ds k
   ·simp [ah,cm,hb]
   ·simp only [cond_true,ah,cm,decide_true,hb,if_true]
    refine km _ _ (fun hm=>hn.1 ((sw ds r).subset hm))
  ·cases hb:bV x||aT ds k
   ·simp [ah,cm,hk,ih]
   ·simp [ah,cm,hk,ih]
theorem rI (ds:List Nat) (r:Fr) (hn:(ay r).Nodup) (t:Nat):ah (hM ds r) t=if aT ds t&&!bV (ah r t) then ah r t else .sc .un:=by
 induction r with
 |nil=>simp [ah,hM]
 |cons p r ih=>
  obtain ⟨k,x⟩:=p
  simp only [ay,List.map_cons,List.nodup_cons] at hn
  have ih:=ih hn.2
  simp only [hM]
  by_cases hk:k=t
  ·subst hk
   cases hb:aT ds k&&!bV x
   ·simp only [cond_false,ah,cm,decide_true,cond_true,hb]
    exact km _ _ (fun hm=>hn.1 ((nR ds r).subset hm))
   ·simp [ah,cm,hb]
  ·cases hb:aT ds k&&!bV x<;>simp [ah,cm,hk,ih]
theorem po (r s:Fr) (t:Nat):ah (r++s) t=if t∈ay r then ah r t else ah s t:=by
 induction r with
 |nil=>simp [ay]
 |cons p r ih=>
  obtain ⟨k,x⟩:=p
  simp only [List.cons_append,ah,cm,ay,List.map_cons,List.mem_cons]
  by_cases h:k=t
  ·simp [h]
  ·have h': ¬t=k:=fun e=>h e.symm
   simp only [h,h',decide_false,cond_false,ih,false_or]
   rfl
end Dn
/-
  Laws of leaves and slots: offsets, and what changes elsewhere. Conditions: none.
-/
set_option linter.unusedSimpArgs false
set_option linter.unusedVariables false
namespace Dn
open Go
section
variable {e e':Env}
theorem aB.width {vs:List Value} {l:ap} (h:aB e vs l):vs.length=l.w:=by
 cases l with
 |un=>obtain ⟨v,rfl,_⟩:=h;rfl
 |p m=>obtain ⟨v,rfl,_⟩:=h.2.one h.1;rfl
 |hs x=>cases h;simp [aV,x.h,ap.w]
 |nil=>cases h;rfl
 |mp s es=>exact h.elim
 |own f=>obtain ⟨v,rfl,_⟩:=h;rfl
theorem aB.cells {vs:List Value} {l:ap} (h:aB e vs l): ∀v∈vs,v.oneCell'=true:=by
 cases l with
 |un=>obtain ⟨v,rfl,hv⟩:=h;simpa using hv
 |p m=>exact h.2.cells
 |hs x=>
  cases h
  intro v hv
  obtain ⟨b,_,rfl⟩:=List.mem_map.1 hv
  rfl
 |nil=>cases h;simp [Value.oneCell']
 |mp s es=>exact h.elim
 |own f=>obtain ⟨v,rfl,hv,_⟩:=h;simpa using hv
theorem al.width {cs:List ap}: ∀{vs:List Value},al e vs cs→vs.length=pj cs:=by
 induction cs with
 |nil=>intro vs h;cases h;rfl
 |cons l r ih=>intro vs h;obtain ⟨v,w,rfl,h1,h2⟩:=h;simp [pj,h1.width,ih h2]
theorem al.cells {cs:List ap}: ∀{vs:List Value},al e vs cs→ ∀v∈vs,v.oneCell'=true:=by
 induction cs with
 |nil=>intro vs h;cases h;simp
 |cons l r ih=>
  intro vs h v hv
  obtain ⟨a,w,rfl,h1,h2⟩:=h
  rcases List.mem_append.1 hv with hv|hv
  ·exact h1.cells v hv
  ·exact ih h2 v hv
theorem al.append {cs ds:List ap}: ∀{vs ws:List Value},al e vs cs→al e ws ds→al e (vs++ws) (cs++ds):=by
 induction cs with
 |nil=>intro vs ws h h';cases h;simpa using h'
 |cons l r ih=>intro vs ws h h';obtain ⟨v,w,rfl,h1,h2⟩:=h;exact ⟨v,w++ws,by simp,h1,ih h2 h'⟩
theorem pq {cs:List ap}: ∀{off:Nat} {ds:List ap} {vs:List Value},cut cs off=some ds→al e vs cs→
 ∃v1 v2,vs=v1++v2∧v1.length=off∧al e v2 ds:=by
 induction cs with
 |nil=>
  intro off ds vs h hr
  cases off with
  |zero=>simp only [cut,Option.some.injEq] at h;subst h;exact ⟨[],vs,rfl,rfl,hr⟩
  |succ n=>simp [cut] at h
 |cons l r ih=>
  intro off ds vs h hr
  cases off with
  |zero=>simp only [cut,Option.some.injEq] at h;subst h;exact ⟨[],vs,rfl,rfl,hr⟩
  |succ n=>
   simp only [cut] at h
   cases hb:Nat.ble l.w (n+1) with
   |false=>simp [hb] at h
   |true=>
    simp only [hb,cond_true] at h
    have hle:=Nat.le_of_ble_eq_true hb
    obtain ⟨v,w,rfl,h1,h2⟩:=hr
    obtain ⟨v1,v2,rfl,hl,h3⟩:=ih h h2
    exact ⟨v++v1,v2,by simp,by simp [h1.width,hl];omega,h3⟩
theorem Hf {cs:List ap}: ∀{n:Nat} {ds:List ap} {vs:List Value},Ce cs n=some ds→al e vs cs→
 ∃v1 v2,vs=v1++v2∧v1.length=n∧al e v1 ds:=by
 induction cs with
 |nil=>
  intro n ds vs h hr
  cases n with
  |zero=>simp only [Ce,Option.some.injEq] at h;subst h;exact ⟨[],vs,rfl,rfl,rfl⟩
  |succ n=>simp [Ce] at h
 |cons l r ih=>
  intro n ds vs h hr
  cases n with
  |zero=>simp only [Ce,Option.some.injEq] at h;subst h;exact ⟨[],vs,rfl,rfl,rfl⟩
  |succ n=>
   simp only [Ce] at h
   cases hb:Nat.ble l.w (n+1) with
   |false=>simp [hb] at h
   |true=>
    simp only [hb,cond_true] at h
    have hle:=Nat.le_of_ble_eq_true hb
    obtain ⟨v,w,rfl,h1,h2⟩:=hr
    cases hu:Ce r (n+1-l.w) with
    |none=>simp [hu] at h
    |some b=>
     simp only [hu,Option.some.injEq] at h
     subst h
     obtain ⟨v1,v2,rfl,hl,h3⟩:=ih hu h2
     exact ⟨v++v1,v2,by simp,by simp [h1.width,hl];omega,v,v1,rfl,h1,h3⟩
theorem zE {cs:List ap} {off n:Nat} {ds:List ap} {vs:List Value} (h:part cs off n=some ds) (hr:al e vs cs):
 ∃v1 v2 v3,vs=v1++v2++v3∧v1.length=off∧v2.length=n∧al e v2 ds:=by
 unfold part at h
 cases hc:cut cs off with
 |none=>simp [hc] at h
 |some a=>
  simp only [hc] at h
  obtain ⟨v1,v2,rfl,h1,h2⟩:=pq hc hr
  obtain ⟨v3,v4,rfl,h3,h4⟩:=Hf h h2
  exact ⟨v1,v3,v4,by simp,h1,h3,h4⟩
theorem zF {ls:List ap}: ∀{cs ds:List ap} {vs ws:List Value},over ls cs=some ds→al e vs cs→al e ws ls→
 ∃v1 v2,vs=v1++v2∧v1.length=ws.length∧al e (ws++v2) ds:=by
 induction ls with
 |nil=>intro cs ds vs ws h hr hw;simp only [over,Option.some.injEq] at h;subst h;cases hw;exact ⟨[],vs,rfl,rfl,hr⟩
 |cons l r ih=>
  intro cs ds vs ws h hr hw
  cases cs with
  |nil=>simp [over] at h
  |cons c cs=>
   simp only [over] at h
   cases hb:Nat.beq l.w c.w with
   |false=>simp [hb] at h
   |true=>
    simp only [hb,cond_true] at h
    have YA:=Nat.eq_of_beq_eq_true hb
    cases ho:over r cs with
    |none=>simp [ho] at h
    |some q=>
     simp only [ho,Option.some.injEq] at h
     subst h
     obtain ⟨v,w,rfl,h1,h2⟩:=hr
     obtain ⟨a,b,rfl,h3,h4⟩:=hw
     obtain ⟨v1,v2,rfl,hl,h5⟩:=ih ho h2 h4
     exact ⟨v++v1,v2,by simp,by simp [h1.width,h3.width,hl,YA],a,b++v2,by simp,h3,h5⟩
theorem nS {cs:List ap}: ∀{off:Nat} {ls ds:List ap} {vs ws:List Value},putAt cs off ls=some ds→al e vs cs→al e ws ls→
 ∃v1 v2 v3,vs=v1++v2++v3∧v1.length=off∧v2.length=ws.length∧al e (v1++ws++v3) ds:=by
 induction cs with
 |nil=>
  intro off ls ds vs ws h hr hw
  cases off with
  |zero=>
   simp only [putAt] at h
   obtain ⟨v1,v2,rfl,h1,h2⟩:=zF h hr hw
   exact ⟨[],v1,v2,by simp,rfl,h1,by simpa using h2⟩
  |succ n=>simp [putAt] at h
 |cons l r ih=>
  intro off ls ds vs ws h hr hw
  cases off with
  |zero=>
   simp only [putAt] at h
   obtain ⟨v1,v2,rfl,h1,h2⟩:=zF h hr hw
   exact ⟨[],v1,v2,by simp,rfl,h1,by simpa using h2⟩
  |succ n=>
   simp only [putAt] at h
   cases hb:Nat.ble l.w (n+1) with
   |false=>simp [hb] at h
   |true=>
    simp only [hb,cond_true] at h
    have hle:=Nat.le_of_ble_eq_true hb
    obtain ⟨v,w,rfl,h1,h2⟩:=hr
    cases hu:putAt r (n+1-l.w) ls with
    |none=>simp [hu] at h
    |some b=>
     simp only [hu,Option.some.injEq] at h
     subst h
     obtain ⟨v1,v2,v3,rfl,hl,tT,h3⟩:=ih hu h2 hw
     exact ⟨v++v1,v2,v3,by simp,by simp [h1.width,hl];omega,tT,v,v1++ws++v3,by simp,h1,h3⟩
structure eS (S T:Nat→Prop) (e e':Env):Prop where
 key:e'.key=e.key
 φ:j7 e.φ e'.φ
 B: ∀r,T r→e'.B r=e.B r
 dn: ∀f o',ar e'.m f=some o'→S f→ ∃o,ar e.m f=some o∧e'.E f=e.E f∧o'.xs=o.xs
def dQ (S:Nat→Prop) (l:ap):Prop:= ∀f,l= .own f→S f
def cP (S T:Nat→Prop):Slot→Prop
 | .ptr r _=>T r
 | .oX r=>T r
 | .hp r _ _=>T r
 | .sc l=>dQ S l
 | .ag cs=> ∀l∈cs,dQ S l
 | .ep g _ _ _ _=>S g
 |_=>True
theorem aB.on {S T:Nat→Prop} (h:eS S T e e') {vs:List Value} {l:ap} (hl:dQ S l) (hr:aB e vs l):aB e' vs l:=by
 cases l with
 |un=>exact hr
 |p m=>exact ⟨hr.1,by have:=hr.2.mono h.φ;rw [←h.key] at this;exact this⟩
 |hs x=>exact hr
 |nil=>exact hr
 |mp s es=>exact hr
 |own f=>
  obtain ⟨v,rfl,hv,hf⟩:=hr
  refine ⟨v,rfl,hv,fun o' rJ=> ?_⟩
  obtain ⟨o,ho,hE,_⟩:=h.dn f o' rJ (hl f rfl)
  rw [hE];exact hf o ho
theorem al.on {S T:Nat→Prop} (h:eS S T e e') {cs:List ap}: ∀{vs:List Value},(∀l∈cs,dQ S l)→al e vs cs→al e' vs cs:=by
 induction cs with
 |nil=>intro vs _ hr;exact hr
 |cons l r ih=>
  intro vs hl hr
  obtain ⟨v,w,rfl,h1,h2⟩:=hr
  exact ⟨v,w,rfl,h1.on h (hl l (by simp)),ih (fun x hx=>hl x (by simp [hx])) h2⟩
theorem wi {S:Nat→Prop} {l:ap} (h:lG l=true):dQ S l:=by
 intro f hf;subst hf;simp [lG] at h
theorem rK {S:Nat→Prop} {cs:List ap} (h:dM cs=true): ∀l∈cs,dQ S l:=by
 induction cs with
 |nil=>simp
 |cons l r ih=>
  simp only [dM,Bool.and_eq_true] at h
  intro x hx
  rcases List.mem_cons.1 hx with rfl|hx
  ·exact wi h.1
  ·exact ih h.2 x hx
mutual
theorem ae.on {S T:Nat→Prop} (h:eS S T e e') {v:Value}: ∀{s:Slot},cP S T s→ae e v s→ae e' v s
 | .skip,_,hr=>by simpa [ae] using hr
 | .sc l,hs,hr=>by
  cases l with
  |un=>simp [ae]
  |hs x=>simpa [ae] using hr
  |p m=>simp only [ae] at hr⊢;exact hr.on h hs
  |nil=>simp only [ae] at hr⊢;exact hr.on h hs
  |mp s es=>simp only [ae] at hr⊢;exact hr
  |own f=>simp only [ae] at hr⊢;exact hr.on h hs
 | .ag cs,hs,hr=>by
  simp only [ae] at hr⊢
  obtain ⟨arr,h1,h2⟩:=hr
  exact ⟨arr,h1,h2.on h hs⟩
 | .cN vs,_,hr=>by
  simp only [ae] at hr⊢
  obtain ⟨arr,h1,h2⟩:=hr
  exact ⟨arr,h1,eE.on h h2⟩
 | .box _,_,hr=>by simp [ae] at hr
 | .pi cs,_,hr=>by
  simp only [ae] at hr⊢
  obtain ⟨aN,o,vs,h1,h2,h3,h4⟩:=hr
  exact ⟨aN,o,vs,h1,h2.on h (rK h3),h3,fun j hj=>A1 h.φ hj (h4 j hj)⟩
 | .ptr r o,hs,hr=>by simp only [ae] at hr⊢;rw [h.B r hs];exact hr
 | .oX r,hs,hr=>by simp only [ae] at hr⊢;rw [h.B r hs];exact hr
 | .rp cs off,_,hr=>by
  simp only [ae] at hr⊢
  obtain ⟨aN,o,vs,h1,h2,h3,h4⟩:=hr
  exact ⟨aN,o,vs,h1,h2.on h (rK h3),h3,fun j hj=>A1 h.φ hj (h4 j hj)⟩
 | .hp r o i,hs,hr=>by simp only [ae] at hr⊢;rw [h.B r hs];exact hr
 | .ep f i off st cs,hs,hr=>by
  simp only [ae] at hr⊢
  intro o' rJ
  obtain ⟨o,ho,hE,hx⟩:=h.dn f o' rJ hs
  obtain ⟨aN,cap,h1,h2,h3⟩:=hr o ho
  exact ⟨aN,cap,by rw [hE,hx];exact h1,by rw [hx];exact h2,h3⟩
theorem eE.on {S T:Nat→Prop} (h:eS S T e e'): ∀{vs:List Value} {ss:List Slot},eE e vs ss→eE e' vs ss
 |vs,[],hr=>hr
 |vs,s::ss,hr=>by
  simp only [eE] at hr⊢
  obtain ⟨v,r,h1,h2,h3,h4⟩:=hr
  refine ⟨v,r,h1,ae.on h ?_ h2,h3,eE.on h h4⟩
  cases s<;>simp [qV] at h3<;>simp only [cP]
  ·exact wi h3
  ·exact rK h3
end
end
end Dn
/-
  The relation between an abstract state and a running frame; operations that change no memory. Conditions: none.
-/
set_option linter.unusedSimpArgs false
set_option linter.unusedVariables false
namespace Dn
open Go
section
variable {e e':Env}
theorem aB.kill {vs:List Value} {l:ap} (f:Nat) (h:aB e vs l):aB e vs (B5 f l):=by
 cases l with
 |own g=>
  simp only [B5]
  cases Nat.beq g f
  ·exact h
  ·obtain ⟨v,rfl,hv,_⟩:=h;exact ⟨v,rfl,hv⟩
 |_=>exact h
theorem wj (f:Nat) (l:ap):dQ (· ≠f) (B5 f l):=by
 intro g hg
 cases l<;>simp [B5] at hg
 rename_i g'
 cases hb:Nat.beq g' f<;>simp [hb] at hg
 subst hg
 intro e;subst e;simp [cm] at hb
theorem aB.F9 {vs:List Value} {l:ap} (f:List Nat) (h:aB e vs l):aB e vs (Eo f l):=by
 cases l with
 |own g=>
  simp only [Eo]
  cases aT f g
  ·obtain ⟨v,rfl,hv,_⟩:=h;exact ⟨v,rfl,hv⟩
  ·exact h
 |_=>exact h
theorem Er (f:List Nat) (l:ap):dQ (· ∈f) (Eo f l):=by
 intro g hg
 cases l<;>simp [Eo] at hg
 rename_i g'
 cases hb:aT f g'<;>simp [hb] at hg
 subst hg
 exact (aU _ _).1 hb
theorem al.map {g:ap→ap} (hg: ∀vs l,aB e vs l→aB e vs (g l)) {cs:List ap}: ∀{vs:List Value},al e vs cs→al e vs (cs.map g):=by
 induction cs with
 |nil=>intro vs h;exact h
 |cons l r ih=>intro vs h;obtain ⟨v,w,rfl,h1,h2⟩:=h;exact ⟨v,w,rfl,hg _ _ h1,ih h2⟩
theorem ae.Pk {v:Value} {l:ap} (hl: ∀x,l≠ .hs x) (hu:l≠ .un):ae e v (.sc l)↔aB e [v] l:=by
 cases l<;>simp_all [ae]
theorem ae.kill {v:Value} {s:Slot} (f:Nat) (h:ae e v s):ae e v (qW f s):=by
 cases s with
 |sc l=>
  cases l with
  |own g=>
   simp only [qW,B5]
   cases Nat.beq g f
   ·exact h
   ·simp [ae]
  |_=>exact h
 |ag cs=>simp only [qW,ae] at h⊢;obtain ⟨arr,h1,h2⟩:=h;exact ⟨arr,h1,h2.map (fun _ _=>aB.kill f)⟩
 |box cs=>simp [ae] at h
 |ep g i o b cs=>
  simp only [qW]
  cases Nat.beq g f
  ·exact h
  ·simp [ae]
 |_=>exact h
theorem Jv (f:Nat) (T:Nat→Prop) (s:Slot) (hT:cP (fun _=>True) T s):cP (· ≠f) T (qW f s):=by
 cases s with
 |sc l=>exact wj f l
 |ag cs=>intro l hl;obtain ⟨x,_,rfl⟩:=List.mem_map.1 hl;exact wj f x
 |ep g i o b cs=>
  simp only [qW]
  cases hb:Nat.beq g f
  ·simp only [cond_false,cP];intro e;subst e;simp [cm] at hb
  ·simp [cP,dQ]
 |ptr r o=>exact hT
 |hp r o i=>exact hT
 |_=>trivial
theorem ae.F9 {v:Value} {s:Slot} (f:List Nat) (h:ae e v s):ae e v (yC f s):=by
 cases s with
 |sc l=>
  cases l with
  |own g=>
   simp only [yC,Eo]
   cases aT f g
   ·simp [ae]
   ·exact h
  |_=>exact h
 |ag cs=>simp only [yC,ae] at h⊢;obtain ⟨arr,h1,h2⟩:=h;exact ⟨arr,h1,h2.map (fun _ _=>aB.F9 f)⟩
 |box cs=>simp [ae] at h
 |_=>exact h
end
def aS (key:Nat→Nat) (φ:Ph) (size:Nat):List Value→List MV→Prop
 |vs,[]=>vs=[]
 |vs,x::xs=> ∃v r,vs=v++r∧v.length=size∧fK key φ v x∧aS key φ size r xs
structure aW where
 In:Nat→Prop
 bt:List Nat
 bF:List Nat
 T:Nat→Value
 RN:Prop
 Pr:Nat→Prop
instance:CoeFun aW (fun _=>Nat→Prop):=⟨aW.In⟩
instance:Coe aW (Nat→Prop):=⟨aW.In⟩
theorem B6 {a b c:Prop} (h:(a∧b)∨c) (hn: ¬a):c:=h.resolve_left fun h=>hn h.1
def aW.nc (Z:aW):aW:={Z with RN:=False}
def aW.plain (I:Nat→Prop):aW:=⟨I,[],[],fun _=>undef,False,fun _=>True⟩
def aW.bz (Z:aW) (t:Nat):aW:={Z with In:=fun b=>(t∈Z.bt∧Z.Pr b)∨Z.In b}
def aW.fz (Z:aW) (f:Nat):aW:={Z with In:=fun b=>(f∈Z.bF∧Z.Pr b)∨Z.In b,RN:=f∈Z.bF}
def tU:Kd→MV→Bool
 | .b,.b _=>true
 | .i k,.i k' _=>decide (k'=k)
 | .s,.s _=>true
 | .h,.h _=>true
 |_,_=>false
def bW:List Kd→List MV→Bool
 |[],[]=>true
 |k::ks,m::ms=>tU k m&&bW ks ms
 |_,_=>false
def tI:MV→List Value
 | .b x=>[.bool x]
 | .i k n=>[.int k n]
 | .s l=>[.string ⟨l.toArray⟩]
 | .h x=>aV x
 |_=>[]
def cQ (st:Bool) (ks:List MV):Value:=match st,ks with
 |false,[.h x]=> .agg (aV x).toArray
 |false,[.b x]=> .bool x
 |false,[.i k n]=> .int k n
 |false,[.s l]=> .string ⟨l.toArray⟩
 |_,ks=> .agg (ks.flatMap tI).toArray
def qM (b:Bool) (m:MV):Value:=match b,m with
 |true,.b x=> .bool x
 |false,.i .i64 n=> .int .i64 n
 |_,_=>undef
def Es (b:Bool) (m:MV):Bool:=match b,m with
 |true,.b x=>true
 |false,.i .i64 n=>true
 |_,_=>false
def Jw (s:MS) (x:MapEntry) (m:MV) (i:Nat):Prop:=
 x.born=i∧ ∃ks v,m= .cN [.agg ks,v]∧bW s.lay ks=true∧x.key=cQ s.st ks∧Es s.b v=true∧x.val=qM s.b v
structure jC (s:MS) (es:Array MapEntry) (clock:Nat) (ms:List MV):Prop where
 size:es.size=ms.length
 clock:clock=ms.length
 Mg: ∀(i:Nat) x m,es[i]? =some x→ms[i]? =some m→Jw s x m i
def ei (e:Env) (o:Obj) (cs:List ap):Prop:=match o with
 | .cells arr _ z=>z=(0,0)∧al e arr.toList cs
 | .map es clock=> ∃s ms,cs=[.mp s ms]∧sm s=false∧jC s es clock ms
 | .stringIter x pos=>cs=[.mp MS.it [.s x.data.toList,.i .i64 pos]]
 |_=>False
def wk (cs:List ap) (b:Nat):Value:=bif eL cs then .map (some b) else .pointer (some ⟨b,0,none⟩)
structure lI (Z:aW) (e:Env) (w:World) (aN:Nat) (cs:List ap):Prop where
 bC:Z.In aN
 obj: ∃o,w.heap[aN]? =some o∧ei e o cs
 free: ∀off,e.φ aN off=none
theorem ei.on {S T:Nat→Prop} {e e':Env} (h:eS S T e e') {o:Obj} {cs:List ap} (hl: ∀l∈cs,dQ S l) (hr:ei e o cs):ei e' o cs:=by
 cases o with
 |cells arr T z=>exact ⟨hr.1,hr.2.on h hl⟩
 |map es clock=>exact hr
 |stringIter x pos=>exact hr
 |_=>exact hr.elim
theorem A2 {cs:List ap} (h:cE cs=true): ∃s ms,cs=[.mp s ms]:=by
 unfold cE at h
 split at h
 ·exact ⟨_,_,rfl⟩
 ·cases h
theorem ei.cells {e:Env} {o:Obj} {cs:List ap} (hr:ei e o cs) (hm:cE cs=false): ∃arr T,o= .cells arr T (0,0)∧al e arr.toList cs:=by
 cases o with
 |cells arr T z=>obtain ⟨rfl,h⟩:=hr;exact ⟨arr,T,rfl,h⟩
 |map es clock=>obtain ⟨s,ms,rfl,_⟩:=hr;simp [cE] at hm
 |stringIter x pos=>rw [show cs=_ from hr] at hm;simp [cE] at hm
 |_=>exact hr.elim
theorem nT {cs:List ap} (h:cE cs=false):eL cs=false:=by
 unfold eL
 split
 ·simp [cE] at h
 ·rfl
theorem Cp (g:ap→ap) (h1: ∀s es,g (.mp s es)= .mp s es) (h2: ∀l,(∀s es,l≠ .mp s es)→ ∀s es,g l≠ .mp s es) (cs:List ap):eL (cs.map g)=eL cs:=by
 cases cs with
 |nil=>rfl
 |cons l r=>
  cases r with
  |nil=>
   by_cases hl: ∃s es,l= .mp s es
   ·obtain ⟨s,es,rfl⟩:=hl;simp [h1,eL]
   ·have tV: ∀s es,l≠ .mp s es:=fun s es e=>hl ⟨s,es,e⟩
    have hg:=h2 l tV
    simp only [List.map_cons,List.map_nil]
    have a:eL [l]=false:=by cases l<;>simp_all [eL]
    have b:eL [g l]=false:=by cases hq:g l<;>simp_all [eL]
    rw [a,b]
  |cons x y=>cases hl:l<;>simp [eL]
theorem lI.cells {Z:aW} {e:Env} {w:World} {aN:Nat} {cs:List ap} (h:lI Z e w aN cs) (hm:cE cs=false): ∃arr T,w.heap[aN]? =some (.cells arr T (0,0))∧al e arr.toList cs:=by
 obtain ⟨o,h1,h2⟩:=h.obj
 obtain ⟨arr,T,rfl,h3⟩:=h2.cells hm
 exact ⟨arr,T,h1,h3⟩
theorem Et {cs:List ap} (hm:eL cs=false) (b:Nat):wk cs b= .pointer (some ⟨b,0,none⟩):=by simp [wk,hm]
theorem mw {cs:List ap} (hm:cE cs=false) (b:Nat):wk cs b= .pointer (some ⟨b,0,none⟩):=Et (nT hm) b
theorem Jx {cs:List ap} (hm:eL cs=true) (b:Nat):wk cs b= .map (some b):=by simp [wk,hm]
theorem ei.map {e:Env} {g:ap→ap} (hg: ∀vs l,aB e vs l→aB e vs (g l)) (hm: ∀s es,g (.mp s es)= .mp s es) {o:Obj} {cs:List ap} (hr:ei e o cs):ei e o (cs.map g):=by
 cases o with
 |cells arr T z=>exact ⟨hr.1,hr.2.map hg⟩
 |map es clock=>obtain ⟨s,ms,rfl,h2⟩:=hr;exact ⟨s,ms,by simp [hm],h2⟩
 |stringIter x pos=>rw [show cs=_ from hr];show List.map g _=_;simp [hm]
 |_=>exact hr.elim
theorem Eu (f:Nat) (cs:List ap):eL (cs.map (B5 f))=eL cs:=
 Cp _ (fun _ _=>rfl) (fun l hl s es=>by cases l<;>simp_all [B5];rename_i g;cases Nat.beq g f<;>simp) cs
theorem Pl (f:List Nat) (cs:List ap):eL (cs.map (Eo f))=eL cs:=
 Cp _ (fun _ _=>rfl) (fun l hl s es=>by cases l<;>simp_all [Eo];rename_i g;cases aT f g<;>simp) cs
structure bX (c:Ctx) (Z:aW) (e:Env) (w:World) (v:Value) (o:hH):Prop where
 row: ∃I cells,c.ti o.ty=some I∧I.bO=[]∧w.ownsRow 0 o.ty I.size v o.xs.length cells∧aS e.key e.φ I.size cells o.xs∧
  ∀aN,v.ownBlock=some aN→Z.In aN∧(∀off u,e.φ aN off=some u→o.ck=true∧off<o.xs.length *I.size)∧(Z.RN→o.ck=true→ ∀j,j<cells.length→e.φ aN j=cells[j]?)
def tied (Z:aW) (t:Nat) (v:Value) (cs:List ap) (b:Nat):Prop:=
 (pc t=false→v=wk cs b)∧(pc t=true→posOf t∈Z.bt∧Z.T (posOf t)= .pointer (some ⟨b,Cd t,none⟩))
theorem tied.eL {Z:aW} {t:Nat} {v:Value} {cs cT:List ap} {b:Nat} (h:tied Z t v cs b) (hm:eL cT=eL cs):tied Z t v cT b:=⟨fun hp=>by rw [h.1 hp];simp [wk,hm],h.2⟩
theorem tied.own {Z:aW} {t:Nat} {v:Value} {cs:List ap} {b:Nat} (hp:pc t=false) (h:v=wk cs b):tied Z t v cs b:=⟨fun _=>h,fun hq=>by rw [hp] at hq;cases hq⟩
def bp (Z:aW) (e:Env) (w:World) (t:Nat) (v:Value):Slot→Prop
 | .box cs=>tied Z t v cs (e.B t)∧lI (Z.bz t) e w (e.B t) cs
 |s=>ae e v s
def bD (fr:Fr):Slot→Prop
 | .ptr r _=>bI (ah fr r)=true
 | .hp r _ _=>bI (ah fr r)=true
 | .oX r=>bI (ah fr r)=true
 |_=>True
structure bj (c:Ctx) (Z:aW) (e:Env) (st:St) (a:Act) (w:World):Prop where
 defers:a.defers=[]∧st.bt=Z.bt∧st.bF=Z.bF∧ ∀t∈Z.bt,a.tmps.getD t undef=Z.T t
 size:a.tmps.size=c.n
 m:e.m=st.az
 key:e.key=c.key
 nodup:(ay st.fr).Nodup
 slot: ∀t,bp Z e w t (a.tmps.getD t undef) (ah st.fr t)
 root: ∀t,bD st.fr (ah st.fr t)
 dn: ∀f o,ar st.az f=some o→bX c (Z.fz f) e w (e.E f) o
 bb: ∀t t' cs cT,ah st.fr t= .box cs→ah st.fr t'= .box cT→t≠t'→e.B t≠e.B t'
 bf: ∀t cs f o,ah st.fr t= .box cs→ar st.az f=some o→(e.E f).ownBlock≠some (e.B t)
 ff: ∀f f' o o' k,ar st.az f=some o→ar st.az f'=some o'→(e.E f).ownBlock=some k→(e.E f').ownBlock=some k→f=f'
 gE: ∀b o v,e.φ b o=some v→w.cell? ⟨b,o,none⟩=some v
 bC: ∀b,w.heap.size≤b→Z.In b
def Rest (w w':World):Prop:=w'.os=w.os∧w'.tape=w.tape∧w'.output=w.output∧ ∀a,w'.frozen? a=w.frozen? a
theorem Rest.refl (w:World):Rest w w:=⟨rfl,rfl,rfl,fun _=>rfl⟩
theorem Rest.trans {w w' tX:World} (h:Rest w w') (h':Rest w' tX):Rest w tX:=⟨h'.1.trans h.1,h'.2.1.trans h.2.1,h'.2.2.1.trans h.2.2.1,fun a=>(h'.2.2.2 a).trans (h.2.2.2 a)⟩
theorem Rest.alloc (w:World) (cs:Array Value) (t:TypeId):Rest w (w.alloc (.cells cs t)):=by
 refine ⟨rfl,rfl,rfl,fun a=> ?_⟩
 by_cases h:a.block=w.heap.size
 ·have e1:(w.alloc (.cells cs t)).heap[a.block]? =some (.cells cs t (0,0)):=by rw [h];exact eR w _
  have e2:w.heap[a.block]? =none:=by rw [h];simp
  simp [World.frozen?,e1,e2]
 ·exact World.frozen?_alloc_old _ _ _ h
theorem Rest.setRow (w:World) (g:Nat) (cs:Array Value):Rest w (w.setRow g cs):=by
 refine ⟨rfl,rfl,rfl,fun a=> ?_⟩
 by_cases h:a.block=g
 ·unfold World.frozen? World.setRow
  simp only [Array.getElem?_modify,h,if_true]
  cases hg:w.heap[g]? with
  |none=>rfl
  |some o=>cases o<;>rfl
 ·exact World.frozen?_of_block (setRow_other _ _ _ _ h)
structure cb (w w':World):Prop where
 size:w.heap.size≤w'.heap.size
 nJ: ∀b,b<w.heap.size→w'.heap[b]? =w.heap[b]?
 rest:Rest w w'
theorem aO {w:World} {b:Nat} {x:Obj} (h:w.heap[b]? =some x):b<w.heap.size:=(Array.getElem?_eq_some_iff.1 h).1
theorem cb.cell {w w':World} (g:cb w w') {ad:Addr} {v:Value} (h:w.cell? ad=some v):w'.cell? ad=some v:=by
 have hl:=World.block_lt_of_cell? w ad h
 rw [World.cell?_of_block (g.nJ ad.block hl)];exact h
structure Trans (Z:Nat→Prop) (φ:Ph) (w:World) (φ':Ph) (w':World):Prop where
 ph:j7 φ φ'
 heap: ∀b,¬Z b→b<w.heap.size→w'.heap[b]? =w.heap[b]?
 free: ∀b o,¬Z b→φ' b o=φ b o
 size:w.heap.size≤w'.heap.size
 rest:Rest w w'
theorem Trans.refl (Z:Nat→Prop) (φ:Ph) (w:World):Trans Z φ w φ w:=⟨.refl φ,fun _ _ _=>rfl,fun _ _ _=>rfl,Nat.le_refl _,.refl _⟩
theorem Trans.trans {Z:Nat→Prop} {φ φ' RM:Ph} {w w' tX:World} (h:Trans Z φ w φ' w') (h':Trans Z φ' w' RM tX):Trans Z φ w RM tX:=
 ⟨h.ph.trans h'.ph,fun b hb hl=>(h'.heap b hb (Nat.lt_of_lt_of_le hl h.size)).trans (h.heap b hb hl),fun b o hb=>(h'.free b o hb).trans (h.free b o hb),Nat.le_trans h.size h'.size,h.rest.trans h'.rest⟩
def iV (Z:aW) (e:Env) (w:World) (st:St) (v:Value):Slot→Prop
 | .box cs=> ∃aN,v=wk cs aN∧lI Z e w aN cs∧(∀t cT,ah st.fr t= .box cT→e.B t≠aN)∧(∀f o,ar st.az f=some o→(e.E f).ownBlock≠some aN)
 |s=>ae e v s∧bD st.fr s
section
variable {c:Ctx} {Z:aW} {e:Env} {st:St} {a:Act} {w:World}
theorem ae.const {v:Value}:ae e v (qi v):=by
 unfold qi
 split<;>simp only [ae,aB,MV.one]<;>
  first
   |exact ⟨trivial,.b _⟩
   |exact ⟨trivial,.i _ _⟩
   |exact ⟨trivial,.s _⟩
   |exact ⟨trivial,.raw _ rfl⟩
theorem bj.eval (h:bj c Z e st a w) (x:Operand):ae e (a.eval x) (aq c st x)∧bD st.fr (aq c st x):=by
 cases x with
 |tmp t=>
  have hs:=h.slot t
  have hr:=h.root t
  simp only [Act.eval,aq]
  cases zG:UG c.par t with
  |some q=>
   simp only
   cases hq:pc q&&Nat.beq (posOf q) t with
   |false=>exact ⟨by simp [ae],trivial⟩
   |true=>
    simp only [cond_true]
    simp only [Bool.and_eq_true] at hq
    have YB:=Nat.eq_of_beq_eq_true hq.2
    have Xi:=h.slot q
    split
    ·rename_i cs Xj
     rw [Xj] at Xi
     cases hm:cE cs with
     |true=>exact ⟨by simp [ae],trivial⟩
     |false=>
      obtain ⟨k1,k2⟩:=Xi.1.2 hq.1
      refine ⟨?_,by simp [bD,Xj,bI]⟩
      show a.tmps.getD t undef=_
      rw [←YB,h.defers.2.2.2 _ k1,k2]
    ·exact ⟨by simp [ae],trivial⟩
  |none=>
  simp only
  generalize hf:ah st.fr t=s at hs hr
  cases s<;>simp only [bp] at hs<;>try exact ⟨hs,hr⟩
  ·rename_i cs
   cases Pm:pc t with
   |true=>simp only [cond_true];exact ⟨by simp [ae],trivial⟩
   |false=>
   simp only [cond_false]
   cases hm:eL cs with
   |true=>simp only [hm,cond_true,ae,bD,hf,bI];exact ⟨by rw [hs.1.1 Pm,Jx hm],trivial⟩
   |false=>simp only [hm,cond_false,ae,bD,hf,bI];exact ⟨by rw [hs.1.1 Pm,Et hm],trivial⟩
 |const v=>
  refine ⟨ae.const,?_⟩
  simp only [aq]
  unfold qi
  split<;>trivial
 |func f=>
  simp only [Act.eval,aq,ae,aB,MV.one,bD,and_true,true_and]
  exact .func f _ #[] [] (by rw [h.key]) (by simpa using dp.nil) (by simp)
 |global g=>simp [aq,ae,bD]
end
theorem Act.kH {a:Act} {d t:Nat} {v:Value} (hd:d<a.tmps.size):(a.put (some d) v).tmps.getD t undef=if t=d then v else a.tmps.getD t undef:=by
 simp only [Act.put,Array.getD_eq_getD_getElem?,Array.getElem?_setIfInBounds]
 by_cases h:d=t
 ·subst h;simp [hd]
 ·have h': ¬t=d:=fun e=>h e.symm
  simp [h,h']
theorem Jy {fr:Fr} {s:Slot} (h:bD fr s):cP (fun _=>True) (fun r=>bI (ah fr r)=true) s:=by
 cases s<;>simp_all [bD,cP,dQ]
theorem A3 (r:Fr) (d:Nat) (s:Slot):ay (bA r d s)=if d∈ay r then ay r else ay r++[d]:=by
 induction r with
 |nil=>simp [bA,ay]
 |cons p r ih=>
  obtain ⟨k,x⟩:=p
  simp only [bA,cm]
  by_cases h:k=d
  ·simp [h,ay]
  ·have h': ¬d=k:=fun e=>h e.symm
   have YC:List.map Prod.fst (bA r d s)=if d∈ay r then ay r else ay r++[d]:=ih
   simp only [h,h',decide_false,cond_false,ay,List.map_cons,List.mem_cons,false_or,YC]
   by_cases hm:d∈ay r
   ·have Og:d∈List.map Prod.fst r:=hm
    simp [hm,Og,ay]
   ·have Og:d∉List.map Prod.fst r:=hm
    simp [hm,Og,ay]
theorem cn {r:Fr} {d:Nat} {s:Slot} (h:(ay r).Nodup):(ay (bA r d s)).Nodup:=by
 rw [A3]
 by_cases hm:d∈ay r
 ·simpa [hm] using h
 ·simp only [hm,if_false]
  exact List.nodup_append.2 ⟨h,by simp,by intro x hx y hy;simp at hy;subst hy;intro e;subst e;exact hm hx⟩
section
variable {c:Ctx} {Z:aW} {e:Env} {st:St} {a:Act} {w:World} {R:Type} {K:St→Option R} {r:R}
def Env.sB (e:Env) (d aN:Nat):Env:={e with B:=fun t=>if t=d then aN else e.B t}
theorem lI.env {e e':Env} {aN:Nat} {cs:List ap} (h:lI Z e w aN cs) (hk:e'.key=e.key) (hp:e'.φ=e.φ) (hE:e'.E=e.E) (hm:e'.m=e.m):lI Z e' w aN cs:=by
 refine ⟨h.bC,?_,fun off=>by rw [hp];exact h.free off⟩
 obtain ⟨o,h1,h2⟩:=h.obj
 refine ⟨o,h1,h2.on (S:=fun _=>True) (T:=fun _=>False) ⟨hk,by rw [hp];exact .refl _,by simp,?_⟩ (by intro l _ f _;trivial)⟩
 intro f o ho _
 exact ⟨o,by rw [←hm];exact ho,by rw [hE],rfl⟩
theorem bX.env {e e':Env} {v:Value} {o:hH} (h:bX c Z e w v o) (hk:e'.key=e.key) (hp:e'.φ=e.φ):bX c Z e' w v o:=by
 obtain ⟨I,cells,h1,h2,h3,h4,h5⟩:=h.row
 exact ⟨I,cells,h1,h2,h3,by rw [hk,hp];exact h4,by rw [hp];exact h5⟩
theorem lI.to {aN:Nat} {cs:List ap} (h:lI Z e w aN cs) (t:Nat):lI (Z.bz t) e w aN cs:=⟨.inr h.bC,h.obj,h.free⟩
theorem bX.to {v:Value} {o:hH} {f:Nat} (h:bX c Z.nc e w v o) (hf:f∉Z.bF):bX c (Z.fz f) e w v o:=by
 obtain ⟨I,cells,h1,h2,h3,h4,h5⟩:=h.row
 exact ⟨I,cells,h1,h2,h3,h4,fun aN hb=>⟨.inr (h5 aN hb).1,(h5 aN hb).2.1,fun hc=>absurd hc hf⟩⟩
theorem bK {d:Option Nat} {s:Slot} {v:Value} (h:bj c Z e st a w) (hv:iV Z e w st v s) (hK:aH c st d s K=some r):
 ∃e' bc,bj c Z e' bc (a.put d v) w∧K bc=some r∧e'.φ=e.φ:=by
 cases d with
 |none=>exact ⟨e,st,h,hK,rfl⟩
 |some d=>
  simp only [aH] at hK
  cases qX:pc d||(Nat.ble c.n d||bI (ah st.fr d)) with
  |true=>simp [qX] at hK
  |false=>
   obtain ⟨UP,hb⟩:=Bool.or_eq_false_iff.1 qX
   simp only [qX,cond_false,wr] at hK
   cases hp:aT st.bt d with
   |true=>simp [hp] at hK
   |false=>
    simp only [hp,cond_false,force_eq,fE] at hK
    simp only [Bool.or_eq_false_iff] at hb
    have RO:d<a.tmps.size:=by
     rw [h.size]
     have:=hb.1
     by_cases dE:d<c.n
     ·exact dE
     ·have:Nat.ble c.n d=true:=Nat.ble_eq_true_of_le (by omega)
      simp_all
    have YD:d∉Z.bt:=by
     intro hm
     rw [←h.defers.2.1,←aU,hp] at hm;cases hm
    have RP: ∀fr:Fr,(a.put (some d) v).defers=[]∧({st with fr:=fr}:St).bt=Z.bt∧({st with fr:=fr}:St).bF=Z.bF∧ ∀t∈Z.bt,(a.put (some d) v).tmps.getD t undef=Z.T t:=by
     intro fr
     refine ⟨h.defers.1,h.defers.2.1,h.defers.2.2.1,fun t ht=> ?_⟩
     rw [Act.kH RO,if_neg (by intro e;subst e;exact YD ht)]
     exact h.defers.2.2.2 t ht
    have hU: ∀t,cP (fun _=>True) (fun r=>r≠d) (ah st.fr t):=by
     intro t
     have:=Jy (h.root t)
     generalize ah st.fr t=x at this
     cases x<;>simp_all [cP,dQ]<;>(intro e;subst e;simp_all)
    by_cases hs: ∃cs,s= .box cs
    ·obtain ⟨cs,rfl⟩:=hs
     obtain ⟨aN,rfl,j8,IG,Pn⟩:=hv
     have my:eS (fun _=>True) (fun r=>r≠d) e (e.sB d aN):=⟨rfl,.refl _,fun r hr=>by simp [Env.sB,hr],fun f o ho _=>⟨o,ho,rfl,rfl⟩⟩
     refine ⟨e.sB d aN,_,?_,hK,rfl⟩
     refine ⟨RP _,by simpa [Act.put] using h.size,h.m,h.key,cn h.nodup,?_,?_,?_,?_,?_,?_,h.gE,h.bC⟩
     ·intro t
      rw [Act.kH RO,bg]
      by_cases ht:t=d
      ·subst ht
       simp only [if_true,bp,Env.sB]
       exact ⟨.own UP rfl,(j8.to t).env rfl rfl rfl rfl⟩
      ·simp only [ht,if_false]
       have fF:=h.slot t
       have iO:=hU t
       generalize ah st.fr t=x at fF iO
       cases x<;>simp only [bp] at fF⊢ <;>try exact fF.on my iO
       simp only [Env.sB,ht,if_false]
       exact ⟨fF.1,fF.2.env rfl rfl rfl rfl⟩
     ·intro t
      simp only [bg]
      by_cases ht:t=d
      ·simp [ht,bD]
      ·simp only [ht,if_false]
       have iO:=h.root t
       have yD:=hU t
       generalize ah st.fr t=x at iO yD
       cases x<;>simp_all [bD,bg,cP]
     ·intro f o ho;exact (h.dn f o ho).env rfl rfl
     ·intro t t' jD nK h1 h2 cz
      simp only [bg] at h1 h2
      simp only [Env.sB]
      by_cases ht:t=d
      ·by_cases rL:t'=d
       ·exact absurd (ht.trans rL.symm) cz
       ·simp only [rL,if_false] at h2
        simp only [ht,rL,if_true,if_false]
        exact fun e=>IG t' nK h2 e.symm
      ·simp only [ht,if_false] at h1
       by_cases rL:t'=d
       ·simp only [ht,rL,if_true,if_false]
        exact IG t jD h1
       ·simp only [rL,if_false] at h2
        simp only [ht,rL,if_false]
        exact h.bb t t' jD nK h1 h2 cz
     ·intro t jD f o h1 h2
      simp only [bg] at h1
      simp only [Env.sB]
      by_cases ht:t=d
      ·simp only [ht,if_true];exact Pn f o h2
      ·simp only [ht,if_false] at h1⊢;exact h.bf t jD f o h1 h2
     ·exact h.ff
    ·have IH:ae e v s∧bD st.fr s:=by
      cases s<;>simp_all [iV]
     refine ⟨e,_,?_,hK,rfl⟩
     refine ⟨RP _,by simpa [Act.put] using h.size,h.m,h.key,cn h.nodup,?_,?_,h.dn,?_,?_,h.ff,h.gE,h.bC⟩
     ·intro t
      rw [Act.kH RO,bg]
      by_cases ht:t=d
      ·simp only [ht,if_true]
       cases s<;>simp only [bp]<;>first|exact IH.1|exact absurd ⟨_,rfl⟩ hs
      ·simp only [ht,if_false];exact h.slot t
     ·intro t
      simp only [bg]
      by_cases ht:t=d
      ·simp only [ht,if_true]
       have hr:=IH.2
       cases s<;>simp only [bD,bg] at hr⊢
       ·rename_i r o
        by_cases Cq:r=d
        ·subst Cq;simp_all
        ·simp only [Cq,if_false];exact hr
       ·rename_i r
        by_cases Cq:r=d
        ·subst Cq;simp_all
        ·simp only [Cq,if_false];exact hr
       ·rename_i r o i
        by_cases Cq:r=d
        ·subst Cq;simp_all
        ·simp only [Cq,if_false];exact hr
      ·simp only [ht,if_false]
       have iO:=h.root t
       have yD:=hU t
       generalize ah st.fr t=x at iO yD
       cases x<;>simp_all [bD,bg,cP]
     ·intro t t' jD nK h1 h2 cz
      simp only [bg] at h1 h2
      by_cases ht:t=d
      ·simp only [ht,if_true] at h1;exact absurd ⟨_,h1⟩ hs
      ·by_cases rL:t'=d
       ·simp only [rL,if_true] at h2;exact absurd ⟨_,h2⟩ hs
       ·simp only [ht,rL,if_false] at h1 h2
        exact h.bb t t' jD nK h1 h2 cz
     ·intro t jD f o h1 h2
      simp only [bg] at h1
      by_cases ht:t=d
      ·simp only [ht,if_true] at h1;exact absurd ⟨_,h1⟩ hs
      ·simp only [ht,if_false] at h1;exact h.bf t jD f o h1 h2
end
end Dn
/-
  Operations that change no memory: moves, numbers, texts, places. Conditions: none.
-/
set_option linter.unusedSimpArgs false
set_option linter.unusedVariables false
namespace Dn
open Go
def Out (c:Ctx) (Z:aW) {R:Type} (K:St→Option R) (r:R) (φ:Ph) (w:World) (a':Act) (w':World):Prop:=
 ∃e' bc,bj c Z e' bc a' w'∧Trans Z φ w e'.φ w'∧K bc=some r
section
variable {P:Program} {c:Ctx} {Z:aW} {e:Env} {st:St} {a:Act} {w:World} {R:Type} {K:St→Option R} {r:R} {Q:Exit→Act→World→Prop} {o:Oper}
theorem iV.of {s:Slot} {v:Value} (h:ae e v s) (hr:bD st.fr s):iV Z e w st v s:=by
 cases s<;>first|exact ⟨h,hr⟩|(simp [ae] at h)
theorem fin {e':Env} {bc:St} {w':World} {s:Slot} {v:Value} (bx:(execOp a.eval o).run P w= .ok (.value v) w') (hs:bj c Z e' bc a w')
 (ht:Trans Z e.φ w e'.φ w') (hv:iV Z e' w' bc v s) (hK:aH c bc o.dst s K=some r):o.wp P a w (Out c Z K r e.φ w) Q:=by
 unfold Oper.wp
 rw [bx,Oper.upon_value]
 obtain ⟨e2,ch,h1,h2,h3⟩:=bK hs hv hK
 exact ⟨e2,ch,h1,by rw [h3];exact ht,h2⟩
theorem sC {e':Env} {bc:St} {w':World} (bx:(execOp a.eval o).run P w= .ok .skip w') (hs:bj c Z e' bc a w')
 (ht:Trans Z e.φ w e'.φ w') (hK:aH c bc o.dst (.sc .un) K=some r):o.wp P a w (Out c Z K r e.φ w) Q:=by
 unfold Oper.wp
 rw [bx,Oper.upon_skip]
 obtain ⟨e2,ch,h1,h2,h3⟩:=bK (v:=undef) hs (by simp [iV,ae,bD]) hK
 exact ⟨e2,ch,h1,by rw [h3];exact ht,h2⟩
theorem Hg {e':Env} {bc:St} {w':World} {s:Slot} {v:Value} (hg:cb w w') (bx:(execOp a.eval o).run P w= .ok (.value v) w') (hs:bj c Z e' bc a w')
 (ht:Trans Z e.φ w e'.φ w') (hv:iV Z e' w' bc v s) (hK:aH c bc o.dst s K=some r):o.wp P a w (fun a' w'=>cb w w'∧Out c Z K r e.φ w a' w') Q:=by
 unfold Oper.wp
 rw [bx,Oper.upon_value]
 obtain ⟨e2,ch,h1,h2,h3⟩:=bK hs hv hK
 exact ⟨hg,e2,ch,h1,by rw [h3];exact ht,h2⟩
def Rd (P:Program) (c:Ctx) (Z:aW) {R:Type} (K:St→Option R) (r:R) (e:Env) (a:Act) (w:World) (o:Oper) (G:World→Prop):Prop:=
 ∃v,(∀w',G w'→(execOp a.eval o).run P w'= .ok (.value v) w')∧Out c Z K r e.φ w (a.put o.dst v) w
theorem Rd.wp {G:World→Prop} (h:Rd P c Z K r e a w o G) (hg:G w):o.wp P a w (Out c Z K r e.φ w) Q:=by
 obtain ⟨v,h1,h2⟩:=h
 unfold Oper.wp
 rw [h1 w hg,Oper.upon_value];exact h2
theorem Ew {G:World→Prop} {e':Env} {bc:St} {s:Slot} {v:Value} (bx: ∀w':World,G w'→(execOp a.eval o).run P w'= .ok (.value v) w') (hs:bj c Z e' bc a w)
 (ht:Trans Z e.φ w e'.φ w) (hv:iV Z e' w bc v s) (hK:aH c bc o.dst s K=some r):Rd P c Z K r e a w o G:=by
 obtain ⟨e2,ch,h1,h2,h3⟩:=bK hs hv hK
 exact ⟨v,bx,e2,ch,h1,by rw [h3];exact ht,h2⟩
theorem dF {s:Slot} {v:Value} (h:bj c Z e st a w) (bx: ∀w':World,(execOp a.eval o).run P w'= .ok (.value v) w') (hv:ae e v s) (hr:bD st.fr s)
 (hK:aH c st o.dst s K=some r):Rd P c Z K r e a w o (fun _=>True):=
 Ew (fun w' _=>bx w') h (.refl _ _ _) (.of hv hr) hK
theorem pu {v:Value} {x:Bool} (h:ae e v (.sc (.p (.b x)))):v= .bool x:=by
 simp only [ae,aB] at h
 obtain ⟨_,h⟩:=h
 generalize hv:[v]=vs at h
 cases h;simpa using hv
theorem eT {v:Value} {k:IntKind} {n:Int} (h:ae e v (.sc (.p (.i k n)))):v= .int k n:=by
 simp only [ae,aB] at h
 obtain ⟨_,h⟩:=h
 generalize hv:[v]=vs at h
 cases h;simpa using hv
theorem uM {v:Value} {l:List UInt8} (h:ae e v (.sc (.p (.s l)))): ∃b:ByteArray,v= .string b∧l=b.data.toList:=by
 simp only [ae,aB] at h
 obtain ⟨_,h⟩:=h
 generalize hv:[v]=vs at h
 cases h
 exact ⟨_,by simpa using hv,rfl⟩
theorem oY (x:Bool):ae e (.bool x) (.sc (.p (.b x))):=by simp only [ae,aB];exact ⟨rfl,.b x⟩
theorem j9 (k:IntKind) (n:Int):ae e (.int k n) (.sc (.p (.i k n))):=by simp only [ae,aB];exact ⟨rfl,.i k n⟩
theorem Jz (b:ByteArray):ae e (.string b) (.sc (.p (.s b.data.toList))):=by simp only [ae,aB];exact ⟨rfl,.s b⟩
theorem nU {v u:Value} (h:ae e v (.sc (.p (.raw u)))):v=u:=by
 simp only [ae,aB] at h
 obtain ⟨_,h⟩:=h
 generalize hv:[v]=vs at h
 cases h;simpa using hv
theorem wm (u:Value) (h:u.oneCell'=true):ae e u (.sc (.p (.raw u))):=by simp only [ae,aB];exact ⟨rfl,.raw u h⟩
theorem A4 {x:Operand} (ho:o.op= .move x∨o.op= .assign x) (h:bj c Z e st a w) (hK:aH c st o.dst (aq c st x) K=some r):
 Rd P c Z K r e a w o (fun _=>True):=by
 obtain ⟨h1,h2⟩:=h.eval x
 refine dF h ?_ h1 h2 hK
 rcases ho with ho|ho<;>simp [execOp,ho]
theorem Cr {x:Operand} (ho:o.op= .nilCheck x) (h:bj c Z e st a w)
 (hK:Pa (aq c st x) (fun s=>aH c st o.dst s K)=some r):Rd P c Z K r e a w o (fun _=>True):=by
 obtain ⟨h1,h2⟩:=h.eval x
 unfold Pa at hK
 split at hK
 ·rename_i dq
  rw [dq] at h1 h2
  refine dF h ?_ (v:=a.eval x) h1 h2 hK
  simp only [ae] at h1
  simp [execOp,ho,h1]
 ·rename_i dq
  rw [dq] at h1 h2
  refine dF h ?_ (v:=a.eval x) h1 h2 hK
  simp only [ae] at h1
  obtain ⟨aN,q,vs,yE,h3⟩:=h1
  simp [execOp,ho,yE]
 ·simp at hK
theorem Mz {x y z:Operand} (ho:o.op= .pick x y z) (h:bj c Z e st a w)
 (hK:I8 (aq c st x) (aq c st y) (aq c st z) (fun s=>aH c st o.dst s K)=some r):Rd P c Z K r e a w o (fun _=>True):=by
 obtain ⟨hx,_⟩:=h.eval x
 obtain ⟨hy,YE⟩:=h.eval y
 obtain ⟨hz,RQ⟩:=h.eval z
 have bx: ∀v,a.eval x= .bool v→ ∀w:World,(execOp a.eval o).run P w= .ok (.value (if v then a.eval y else a.eval z)) w:=by
  intro v hv w;simp [execOp,ho,hv,asBool]
 unfold I8 at hK
 split at hK
 ·rename_i v hv
  have Po:=pu (by rw [hv] at hx;exact hx)
  have hr:=bx v Po
  split at hK
  ·rename_i p q hp hq
   rw [hp] at hy;rw [hq] at hz
   simp only [pu hy,pu hz] at hr
   refine dF h hr ?_ (s:= .sc (.p (.b (bif v then p else q)))) trivial hK
   cases v
   ·exact oY q
   ·exact oY p
  ·cases v
   ·exact dF h hr hz RQ hK
   ·exact dF h hr hy YE hK
 ·simp at hK
theorem MA {op:UnOp} {ty:TypeId} {x:Operand} (ho:o.op= .unOp op ty x) (h:bj c Z e st a w)
 (hK:UK op (aq c st x) (fun s=>aH c st o.dst s K)=some r):Rd P c Z K r e a w o (fun _=>True):=by
 obtain ⟨hx,_⟩:=h.eval x
 generalize aq c st x=s at hx hK
 unfold UK at hK
 split at hK
 ·refine dF h ?_ (oY _) trivial hK
  simp [execOp,ho,pu hx,Op.unary]
 ·refine dF h ?_ (j9 _ _) trivial hK
  simp [execOp,ho,eT hx,Op.unary,Op.intArith]
 ·simp at hK
end
end Dn
/-
  The type table; numbers, texts, places, loads. Conditions: none.
-/
set_option linter.unusedSimpArgs false
set_option linter.unusedVariables false
namespace Dn
open Go
def vp:List Kd→Nat
 |[]=>0
 | .h::r=>32+vp r
 |_::r=>1+vp r
def kI (ti:Nat→Option TI) (P:Program) (I:TI) (z:Option Value):TypeDesc→Prop
 | .struct fs=>I.st=true∧I.bO=[]∧(0<I.size∧vp I.lay=I.size)∧fs.toList.map (·.offset)=I.Cc∧fs.toList.map (·.type)=I.G7∧
  (∀(k:Nat) (f:Field),fs[k]? =some f→ ∃J,ti f.type=some J∧J.bO=[]∧0<J.size)∧
  ∃cs,z=some (.agg cs)∧lH I.zero cs.toList=true∧cs.size=I.size
 | .tuple ts=>I.bO=ts.toList∧I.bO≠[]∧I.lay=[]∧I.st=false
 | .slice el=>I.st=false∧I.bO=[]∧I.size=1∧I.elem=el∧(∃E,ti el=some E∧E.bO=[]∧0<E.size)∧z=some (.slice none 0 0)∧I.zero=[.nil]∧(∃k,I.lay=[k]∧k= .l)
 | .array n el=>I.st=false∧I.bO=[]∧I.size=32∧n=32∧I.elem=el∧(∃i,P.underlying el=some (.int .u8)∧P.info? el=some i∧i.size=1)∧I.lay=[.h]∧I.zero=[.hs ez.zero]∧z=some (.agg (aV ez.zero).toArray)
 | .bool=>I.st=false∧I.bO=[]∧I.size=1∧I.lay=[.b]∧I.zero=[.p (.b false)]∧z=some (.bool false)
 | .int k=>I.st=false∧I.bO=[]∧I.size=1∧I.lay=[.i k]∧I.zero=[.p (.i k 0)]∧z=some (.int k 0)
 | .string=>I.st=false∧I.bO=[]∧I.size=1∧I.lay=[.s]∧I.zero=[.p (.s [])]∧ ∃b:ByteArray,z=some (.string b)∧b.data.toList=[]
 |_=>I.st=false∧I.bO=[]∧I.size=1∧I.lay=[.raw]∧ ∃v,z=some v∧v.oneCell'=true∧lH I.zero [v]=true
def iP (ti:Nat→Option TI) (P:Program) (t:Nat) (I:TI):Prop:=
 ∃d i,P.underlying t=some d∧P.info? t=some i∧(I.bO=[]→i.size=I.size∧i.bytes=I.bytes)∧kI ti P I i.zero d
def fc (P:Program) (ti:Nat→Option TI):Prop:= ∀t I,ti t=some I→iP ti P t I
section
variable {P:Program} {c:Ctx} {Z:aW} {e:Env} {st:St} {a:Act} {w:World} {R:Type} {K:St→Option R} {r:R} {Q:Exit→Act→World→Prop} {o:Oper}
theorem b7 {x:Bool} {k:Option R} (h:b9 x k=some r):x=true∧k=some r:=by
 cases x
 ·simp [b9] at h
 ·exact ⟨rfl,h⟩
theorem ia {α:Type} {x:Option α} {k:α→Option R} (h:bd x k=some r): ∃y,x=some y∧k y=some r:=by
 cases x with
 |none=>simp [bd] at h
 |some y=>exact ⟨y,rfl,h⟩
theorem Cs {l:List MV} {i:Int} {k:MV→Option R} (h:idx l i k=some r):0≤i∧ ∃y,l[i.toNat]? =some y∧k y=some r:=by
 unfold idx O7 at h
 by_cases hi:0≤i
 ·simp only [hi,if_true] at h
  cases hl:l[i.toNat]? with
  |none=>simp [hl] at h
  |some y=>exact ⟨hi,y,rfl,by simpa [hl] using h⟩
 ·simp [hi] at h
theorem iP.agg {ti:Nat→Option TI} {t:Nat} {I:TI} (h:iP ti P t I) (hc:I.bO=[]):
 (∃d,P.underlying t=some d∧d.isRow=true∧(I.st=true∨I.st=false∧I.size=32))∨(∃d,P.underlying t=some d∧d.isRow=false∧I.st=false∧I.size=1):=by
 obtain ⟨d,i,h1,h2,h3,h4⟩:=h
 cases d<;>simp only [kI] at h4<;>first
  |exact .inl ⟨_,h1,rfl,.inl h4.1⟩
  |exact .inl ⟨_,h1,rfl,.inr ⟨h4.1,h4.2.2.1⟩⟩
  |exact .inr ⟨_,h1,rfl,h4.1,h4.2.2.1⟩
  |exact absurd hc h4.2.1
theorem iP.info {ti:Nat→Option TI} {t:Nat} {I:TI} (h:iP ti P t I) (hc:I.bO=[]):
 ∃i,P.info? t=some i∧i.size=I.size∧i.bytes=I.bytes:=by
 obtain ⟨d,i,h1,h2,h3,h4⟩:=h
 exact ⟨i,h2,h3 hc⟩
theorem bq {t:Nat} {I:TI} (h:c.tv t=some I):c.ti t=some I∧I.bO=[]:=by
 unfold Ctx.tv at h
 cases hc:c.ti t with
 |none=>simp [hc] at h
 |some J=>
  cases hj:J.bO with
  |nil=>simp [hc,hj] at h;subst h;exact ⟨rfl,hj⟩
  |cons x y=>simp [hc,hj] at h
theorem Ex {s t:TypeId} {x:Operand} {I:TI} (ho:o.op= .convert s t x) (hI:c.ti t=some I) (hT:fc P c.ti) (hs: ∃d,P.underlying s=some d) {fk:Option FloatKind} (wo: ∀k,fk=some k→P.underlying t=some (.float k)) (h:bj c Z e st a w)
 (hK:I9 I fk (aq c st x) (fun s=>aH c st o.dst s K)=some r):Rd P c Z K r e a w o (fun _=>True):=by
 obtain ⟨hx,_⟩:=h.eval x
 obtain ⟨ds,Ub⟩:=hs
 obtain ⟨d,i,h1,h2,h3,h4⟩:=hT t I hI
 generalize aq c st x=s' at hx hK
 unfold I9 at hK
 split at hK
 ·rename_i k k' n cY II hl
  have hd:d= .int k:=by
   cases d<;>simp only [kI,hl,cY,II] at h4<;>simp_all
  subst hd
  refine dF h ?_ (j9 _ _) trivial hK
  simp [execOp,ho,eT hx,convert,run_underlying Ub,run_underlying h1,Conv.intToInt]
 ·rename_i l cY II hl
  have hd:d= .string:=by
   cases d<;>simp only [kI,hl,cY,II] at h4<;>simp_all
  subst hd
  obtain ⟨b,hb,rfl⟩:=uM hx
  refine dF h ?_ (Jz b) trivial hK
  simp [execOp,ho,hb,convert,run_underlying Ub,run_underlying h1]
 ·rename_i k x cY II hl
  have hd:d= .int k:=by
   cases d<;>simp only [kI,hl,cY,II] at h4<;>simp_all
  subst hd
  obtain ⟨n,hn,hK⟩:=ia hK
  obtain ⟨hr,hK⟩:=b7 hK
  have hr:=of_decide_eq_true hr
  refine dF h ?_ (j9 _ _) trivial hK
  simp [execOp,ho,nU hx,convert,run_underlying Ub,run_underlying h1,Conv.floatToInt,hn,hr]
 ·rename_i k n cY II hl
  split at hK
  ·have yE:=wo _ rfl
   refine dF h ?_ (wm _ rfl) trivial hK
   simp [execOp,ho,eT hx,convert,run_underlying Ub,run_underlying yE,Conv.intToFloat]
  ·simp at hK
 ·simp at hK
theorem MB {op:BinOp} {k:IntKind} {x y:Int} {m:MV} {t:TypeId} (hm:F1 op k x y=some m):
 ∃v,(∀w:World,(binOp op t (.int k x) (.int k y)).run P w= .ok v w)∧ae e v (.sc (.p m)):=by
 cases op<;>simp only [F1,Option.some.injEq,reduceCtorEq] at hm<;>subst hm
 ·exact ⟨_,by simp [binOp,Op.intArith],j9 _ _⟩
 ·exact ⟨_,by simp [binOp,Op.intArith],j9 _ _⟩
 ·exact ⟨_,by simp [binOp,Op.intArith],j9 _ _⟩
 ·exact ⟨.int k (Ed k x y),fun w=>by simp [binOp];rfl,j9 _ _⟩
 ·exact ⟨.int k (O8 k x y),fun w=>by simp [binOp];rfl,j9 _ _⟩
 ·exact ⟨.int k (tN k x y),fun w=>by simp [binOp];rfl,j9 _ _⟩
 ·refine ⟨.bool (decide (x=y)),fun w=> ?_,oY _⟩;simp [binOp,Op.intCmp];rfl
 ·refine ⟨.bool (!decide (x=y)),fun w=> ?_,oY _⟩;simp [binOp,Op.intCmp];rfl
 ·exact ⟨.bool (decide (x<y)),by simp [binOp,Op.intCmp],oY _⟩
 ·exact ⟨.bool (decide (x≤y)),by simp [binOp,Op.intCmp],oY _⟩
 ·exact ⟨.bool (decide (y<x)),by simp [binOp,Op.intCmp],oY _⟩
 ·exact ⟨.bool (decide (y≤x)),by simp [binOp,Op.intCmp],oY _⟩
theorem toList_data (b:ByteArray):b.toList=b.data.toList:=by
 exact ByteArray.toList_eq b
theorem MC {op:BinOp} {x y:ByteArray} {m:MV} {t:TypeId} (hm:AV op x.data.toList y.data.toList=some m):
 ∃v,(∀w:World,(binOp op t (.string x) (.string y)).run P w= .ok v w)∧ae e v (.sc (.p m)):=by
 have UQ:(x.data.toList==y.data.toList)=decide (x.data.toList=y.data.toList):=by
  rw [Bool.eq_iff_iff];simp
 cases op<;>simp only [AV,Option.some.injEq,reduceCtorEq] at hm<;>subst hm<;>
  exact ⟨_,fun w=>by simp only [binOp,Op.stringOp,toList_data,UQ];rfl,oY _⟩
theorem Hh (b:ByteArray) (n:Nat):b[n]? =b.data.toList[n]? :=by
 by_cases h:n<b.size
 ·have h2:n<b.data.toList.length:=by simpa using h
  rw [getElem?_pos b n h,List.getElem?_eq_getElem h2]
  rfl
 ·have h2: ¬n<b.data.toList.length:=by simpa using h
  rw [getElem?_neg b n h,List.getElem?_eq_none (by omega)]
theorem rM (x:ez) (n:Nat) (h:n<32):(aV x)[n]? =some (.int .u8 ((x.l.getD n 0).toNat:Int)):=by
 have hl:n<x.l.length:=by rw [x.h];exact h
 simp [aV,List.getElem?_map,List.getD,List.getElem?_eq_getElem hl]
theorem RR {t:TypeId} {x y:Operand} {I:TI} (ho:o.op= .index t x y) (hI:c.ti t=some I) (hT:fc P c.ti) (h:bj c Z e st a w)
 (hK:UL I (aq c st x) (aq c st y) (fun s=>aH c st o.dst s K)=some r):Rd P c Z K r e a w o (fun _=>True):=by
 obtain ⟨hx,_⟩:=h.eval x
 obtain ⟨hy,_⟩:=h.eval y
 obtain ⟨d,i,h1,h2,h3,h4⟩:=hT t I hI
 generalize aq c st x=sx at hx hK
 generalize aq c st y=sy at hy hK
 unfold UL at hK
 split at hK
 ·rename_i l k n cY hl
  have hd:d= .string:=by
   cases d<;>simp only [kI,hl,cY] at h4<;>simp_all
  subst hd
  cases hc:decide ((0:Int)≤n∧n<(l.length:Int)) with
  |false=>simp [b9,hc] at hK
  |true=>
   simp only [b9,hc] at hK
   obtain ⟨IJ,B7⟩:=of_decide_eq_true hc
   obtain ⟨b,hb,rfl⟩:=uM hx
   have dE:n.toNat<b.data.toList.length:=by omega
   refine dF h ?_ (j9 .u8 ((b.data.toList.getD n.toNat 0).toNat:Int)) trivial hK
   have hg:b[n.toNat]? =some (b.data.toList.getD n.toNat 0):=by
    rw [Hh,List.getElem?_eq_getElem dE];simp [List.getD,List.getElem?_eq_getElem dE]
   simp [execOp,ho,hb,eT hy,Instr.index,run_underlying h1,asIntOf,IJ,hg]
 ·rename_i b k n cY hl
  cases d<;>simp only [kI,hl,cY] at h4<;>first|(exfalso;simp_all;done)|skip
  rename_i len el
  cases hc:decide ((0:Int)≤n∧n<32) with
  |false=>simp [b9,hc] at hK
  |true=>
   simp only [b9,hc] at hK
   obtain ⟨IJ,B7⟩:=of_decide_eq_true hc
   simp only [ae] at hx
   obtain ⟨_,_,_,rfl,_,⟨ie,hu,RS,pf⟩,_⟩:=h4
   refine dF h ?_ (j9 .u8 ((b.l.getD n.toNat 0).toNat:Int)) trivial hK
   have hg:=rM b n.toNat (by omega)
   have Pp:(aV b).toArray[n.toNat]? =some (.int .u8 ((b.l.getD n.toNat 0).toNat:Int)):=by simpa using hg
   simp [execOp,ho,hx,eT hy,Instr.index,run_underlying h1,asIntOf,IJ,B7,Go.part,isAgg,run_underlying hu,Go.sizeOf,typeInfo,RS,pf,hg,Pp]
 ·simp at hK
def A5 (P:Program) (ti:Nat→Option TI):Prop:= ∀t I,ti t=some I→I.bO=[]→ ∀(e:Env) (w:World) (vx vy:Value) (sx sy:Slot) (b:Bool),ae e vx sx→ae e vy sy→
 cJ I.lay (av sx)=true→cJ I.lay (av sy)=true→fN I.st sx=true→fN I.st sy=true→dP (av sx) (av sy)=some b→
 (∀k n k' n',sx= .sc (.p (.i k n))→sy= .sc (.p (.i k' n'))→False)→(∀l l',sx= .sc (.p (.s l))→sy= .sc (.p (.s l'))→False)→
 (Op.equal t vx vy).run P w= .ok b w∧ ∀(x y:Operand) (op:BinOp),(eqGuard op t x y vx vy).run P w= .ok () w∧(op= .eql→binOp op t vx vy=(do pure (.bool (←Op.equal t vx vy))))∧(op= .neq→binOp op t vx vy=(do pure (.bool (!(←Op.equal t vx vy)))))
theorem JA {op:BinOp} {t t':TypeId} {x y:Operand} (ho:o.op= .binOp op t x y t') (h:bj c Z e st a w)
 (hE:A5 P c.ti)
 (hK:O9 (c.tv t) op (aq c st x) (aq c st y) (fun s=>aH c st o.dst s K)=some r):Rd P c Z K r e a w o (fun _=>True):=by
 obtain ⟨hx,_⟩:=h.eval x
 obtain ⟨hy,_⟩:=h.eval y
 generalize hsx:aq c st x=sx at hx hK
 generalize hsy:aq c st y=sy at hy hK
 have bx: ∀v,(∀w:World,(binOp op t (a.eval x) (a.eval y)).run P w= .ok v w)→(∀cs,a.eval x≠ .agg cs)→a.eval x≠ .nilIface→ ∀w:World,(execOp a.eval o).run P w= .ok (.value v) w:=by
  intro v hv Xk Xl w
  have hg:(eqGuard op t x y (a.eval x) (a.eval y)).run P w= .ok () w:=by
   generalize a.eval x=va at Xk Xl
   generalize a.eval y=vb
   have hm: ∀(u v:Value),u=va→(∀cs,u≠ .agg cs)→u≠ .nilIface→(eqGuard op t x y u v).run P w= .ok () w:=by
    intro u v _ h1 h2
    cases u<;>first
     |exact absurd rfl h2
     |exact absurd rfl (h1 _)
     |(cases op<;>rfl)
   exact hm va vb rfl Xk Xl
  simp [execOp,ho,hg,hv]
 unfold O9 at hK
 split at hK
 ·rename_i k n k' n'
  have e1:=eT hx
  have e2:=eT hy
  split at hK
  ·cases hk:decide (k=k') with
   |false=>simp [hk] at hK
   |true=>
    have hk:=of_decide_eq_true hk
    subst hk
    simp only [decide_true,cond_true] at hK
    cases hz:decide (n'=0) with
    |true=>simp [b9,hz] at hK
    |false=>
     simp only [b9,hz,Bool.not_false] at hK
     have hz:=of_decide_eq_false hz
     refine dF h (bx _ ?_ (by simp [e1]) (by simp [e1])) (j9 _ _) trivial hK
     simp [binOp,e1,e2,Op.intDiv,hz]
  ·cases hk:decide (k=k') with
   |false=>simp [hk] at hK
   |true=>
    have hk:=of_decide_eq_true hk
    subst hk
    simp only [decide_true,cond_true] at hK
    cases hz:decide (n'=0) with
    |true=>simp [b9,hz] at hK
    |false=>
     simp only [b9,hz,Bool.not_false] at hK
     have hz:=of_decide_eq_false hz
     refine dF h (bx _ ?_ (by simp [e1]) (by simp [e1])) (j9 _ _) trivial hK
     simp [binOp,e1,e2,Op.intDiv,hz]
  ·cases hz:decide ((0:Int)≤n') with
   |false=>simp [b9,hz] at hK
   |true=>
    simp only [b9,hz] at hK
    have hz:=of_decide_eq_true hz
    refine dF h (bx _ ?_ (by simp [e1]) (by simp [e1])) (j9 _ _) trivial hK
    have: ¬n'<0:=by omega
    simp [binOp,e1,e2,Op.shift,this]
  ·cases hz:decide ((0:Int)≤n') with
   |false=>simp [b9,hz] at hK
   |true=>
    simp only [b9,hz] at hK
    have hz:=of_decide_eq_true hz
    refine dF h (bx _ ?_ (by simp [e1]) (by simp [e1])) (j9 _ _) trivial hK
    have: ¬n'<0:=by omega
    simp [binOp,e1,e2,Op.shift,this]
  ·cases hk:decide (k=k') with
   |false=>simp [hk] at hK
   |true=>
    have hk:=of_decide_eq_true hk
    subst hk
    simp only [decide_true,cond_true] at hK
    cases hm:F1 op k n n' with
    |none=>simp [hm] at hK
    |some m=>
     simp only [hm] at hK
     obtain ⟨v,hv,hr⟩:=MB (P:=P) (e:=e) (t:=t) hm
     exact dF h (bx v (by rw [e1,e2];exact hv) (by simp [e1]) (by simp [e1])) hr trivial hK
 ·rename_i l l'
  obtain ⟨b,hb,rfl⟩:=uM hx
  obtain ⟨b',vq,rfl⟩:=uM hy
  split at hK
  ·obtain ⟨hz,hK⟩:=b7 hK
   ·have hz:=of_decide_eq_true hz
    have hr:ae e (.string (b++b')) (.sc (.p (.s (b.data.toList++b'.data.toList)))):=by
     have:=Jz (e:=e) (b++b')
     simpa [ByteArray.data_append] using this
    refine dF h (bx _ ?_ (by simp [hb]) (by simp [hb])) hr trivial hK
    have hs: ¬(((b.size+b'.size:Nat):Int)>IntKind.i64.max):=by
     have h1:b.size=b.data.toList.length:=by simp
     have h2:b'.size=b'.data.toList.length:=by simp
     have:IntKind.i64.max=9223372036854775807:=by decide
     rw [this];omega
    intro w
    simp only [binOp,hb,vq,Op.stringOp,hs,if_false]
    rfl
  ·cases hm:AV op b.data.toList b'.data.toList with
   |none=>simp [hm] at hK
   |some m=>
    simp only [hm] at hK
    obtain ⟨v,hv,hr⟩:=MC (P:=P) (e:=e) (t:=t) hm
    exact dF h (bx v (by rw [hb,vq];exact hv) (by simp [hb]) (by simp [hb])) hr trivial hK
 ·have e1:=nU hx
  have e2:=nU hy
  obtain ⟨r',Xm,hK⟩:=ia hK
  refine dF h (bx _ ?_ (by simp [e1]) (by simp [e1])) (wm (.float .f64 r') rfl) trivial hK
  intro w
  cases op<;>simp only [RD,reduceCtorEq] at Xm<;>simp [binOp,e1,e2,Op.floatArith,Xm]
 ·rename_i B7 Ey hn3
  split at hK
  ·rename_i I hI
   obtain ⟨Ez,JB⟩:=bq hI
   cases hf:cJ I.lay (av sx)&&cJ I.lay (av sy)&&(fN I.st sx&&fN I.st sy) with
   |false=>simp [hf] at hK
   |true=>
    simp only [hf,cond_true] at hK
    simp only [Bool.and_eq_true] at hf
    obtain ⟨hf,JC⟩:=hf
    split at hK
    ·cases hm:dP (av sx) (av sy) with
     |none=>simp [hm] at hK
     |some b=>
      simp only [hm] at hK
      refine dF h ?_ (oY b) trivial hK
      intro w
      obtain ⟨h1,h2⟩:=hE t I Ez JB e w _ _ sx sy b hx hy hf.1 hf.2 JC.1 JC.2 hm B7 Ey
      have:=(h2 x y .eql).1
      simp [execOp,ho,this,(h2 x y .eql).2.1 rfl,h1]
    ·cases hm:dP (av sx) (av sy) with
     |none=>simp [hm] at hK
     |some b=>
      simp only [hm] at hK
      refine dF h ?_ (oY (!b)) trivial hK
      intro w
      obtain ⟨h1,h2⟩:=hE t I Ez JB e w _ _ sx sy b hx hy hf.1 hf.2 JC.1 JC.2 hm B7 Ey
      have:=(h2 x y .neq).1
      simp [execOp,ho,this,(h2 x y .neq).2.2 rfl,h1]
    ·simp at hK
  ·simp at hK
end
end Dn
/-
  Lengths, parts, places, loads. Conditions: none.
-/
set_option linter.unusedSimpArgs false
set_option linter.unusedVariables false
namespace Dn
open Go
section
variable {P:Program} {c:Ctx} {Z:aW} {e:Env} {st:St} {a:Act} {w:World} {R:Type} {K:St→Option R} {r:R} {Q:Exit→Act→World→Prop} {o:Oper}
theorem cell_of {aN:Nat} {arr:Array Value} {T:TypeId} {fr:Nat×Nat} (h:w.heap[aN]? =some (.cells arr T fr)) (j:Nat):w.cell? ⟨aN,j,none⟩=arr[j]? :=by
 simp [World.cell?,h]
theorem kJ {t:TypeId} {I:TI} {aN off:Nat} {vs:List Value} (hr:iP c.ti P t I) (hc:I.bO=[]) (hl:vs.length=I.size) (hm:w.rangeAt aN off vs):
 ((I.st=true∨I.size=32)∧ ∀w:World,w.rangeAt aN off vs→(Instr.loadAt t (.pointer (some ⟨aN,off,none⟩))).run P w= .ok (.agg vs.toArray) w)∨
 (I.st=false∧ ∃v,vs=[v]∧ ∀w:World,w.rangeAt aN off vs→(Instr.loadAt t (.pointer (some ⟨aN,off,none⟩))).run P w= .ok v w):=by
 obtain ⟨i,hi,hs,_⟩:=hr.info hc
 rcases hr.agg hc with ⟨d,hu,hd,hh⟩|⟨d,hu,hd,h1,h2⟩
 ·refine .inl ⟨hh.imp id (·.2),fun w hm=> ?_⟩
  exact run_loadAt_mid w aN off t vs d hm hu hd (by simp [hi,hs,hl])
 ·refine .inr ⟨h1,?_⟩
  rw [h2] at hl
  obtain ⟨v,rfl⟩:=List.length_eq_one_iff.1 hl
  refine ⟨v,rfl,fun w hm=> ?_⟩
  have lJ:w.cell? ⟨aN,off,none⟩=some v:=hm 0 v rfl
  have Pq:(isAgg t).run P w= .ok false w:=by
   unfold isAgg
   rw [Sem.run_bind,run_underlying hu w]
   cases d<;>simp_all
  simp [Instr.loadAt,Instr.sureAddr,loadVar,Pq,lJ]
theorem aB.slot {vs:List Value} {l:ap} {v:Value} (h:aB e vs l) (hv:(vs=[v]∧l.w=1)∨(v= .agg vs.toArray∧l.w=32)):ae e v (.sc l):=by
 rcases hv with ⟨rfl,hw⟩|⟨rfl,hw⟩
 ·cases l<;>simp [ae,ap.w] at hw⊢ <;>exact h
 ·cases l<;>simp [ap.w] at hw
  simp only [ae]
  have:vs=aV _:=h
  rw [this]
theorem ej {t:TypeId} {I:TI} {cs:List ap} {aN base off:Nat} {vs:List Value} {s:Slot} {K':Slot→Option R} (hr:iP c.ti P t I) (hc:I.bO=[])
 (hv:al e vs cs) (hm:w.rangeAt aN base vs) (hK:eC I cs off K'=some r):
 ∃v s,(∀w:World,w.rangeAt aN base vs→(Instr.loadAt t (.pointer (some ⟨aN,base+off,none⟩))).run P w= .ok v w)∧ae e v s∧bD st.fr s∧K' s=some r:=by
 unfold eC at hK
 cases cY:I.st with
 |true=>
  simp only [cY,cond_true] at hK
  cases hp:Dn.part cs off I.size with
  |none=>simp [hp] at hK
  |some ds=>
   simp only [hp] at hK
   obtain ⟨v1,v2,v3,rfl,h1,h2,h3⟩:=zE hp hv
   have Ga: ∀w:World,w.rangeAt aN base (v1++v2++v3)→w.rangeAt aN (base+off) v2:=by
    intro w hm j v hj
    have MD:j<v2.length:=(List.getElem?_eq_some_iff.1 hj).1
    have:=hm (off+j) v (by rw [List.append_assoc,List.getElem?_append_right (by omega),List.getElem?_append_left (by omega)];rw [show off+j-v1.length=j by omega];exact hj)
    rwa [←Nat.add_assoc] at this
   rcases kJ hr hc h2 (Ga w hm) with ⟨_,bx⟩|⟨hf,_⟩
   ·refine ⟨_,.ag ds,fun w hm=>bx w (Ga w hm),?_,trivial,hK⟩
    simp only [ae]
    exact ⟨_,rfl,by simpa using h3⟩
   ·rw [cY] at hf;cases hf
 |false=>
  simp only [cY,cond_false] at hK
  cases hp:cut cs off with
  |none=>simp [hp] at hK
  |some ds=>
   cases ds with
   |nil=>simp [hp] at hK
   |cons l ls=>
    simp only [hp] at hK
    cases hb:Nat.beq l.w I.size with
    |false=>simp [hb] at hK
    |true=>
     simp only [hb,cond_true] at hK
     have hw:=Nat.eq_of_beq_eq_true hb
     obtain ⟨v1,v2,rfl,h1,h2⟩:=pq hp hv
     obtain ⟨u,u2,rfl,h3,h4⟩:=h2
     have Ga: ∀w:World,w.rangeAt aN base (v1++(u++u2))→w.rangeAt aN (base+off) u:=by
      intro w hm j v hj
      have MD:j<u.length:=(List.getElem?_eq_some_iff.1 hj).1
      have:=hm (off+j) v (by rw [List.getElem?_append_right (by omega),List.getElem?_append_left (by omega)];rw [show off+j-v1.length=j by omega];exact hj)
      rwa [←Nat.add_assoc] at this
     rcases kJ hr hc (by rw [h3.width,hw]) (Ga w hm) with ⟨hh,bx⟩|⟨_,v,Hi,bx⟩
     ·refine ⟨_,.sc l,fun w hm=>bx w (Ga w hm),h3.slot (.inr ⟨rfl,?_⟩),trivial,hK⟩
      rcases hh with hh|hh
      ·rw [cY] at hh;cases hh
      ·rw [hw,hh]
     ·refine ⟨_,.sc l,fun w hm=>bx w (Ga w hm),h3.slot (.inl ⟨Hi,?_⟩),trivial,hK⟩
      rw [←h3.width,Hi];rfl
theorem aS.at {key:Nat→Nat} {φ:Ph} {size:Nat} {xs:List MV}: ∀{cs:List Value} {i:Nat} {x:MV},aS key φ size cs xs→xs[i]? =some x→
 ∃a v b,cs=a++v++b∧a.length=i *size∧v.length=size∧fK key φ v x:=by
 induction xs with
 |nil=>intro cs i x _ hx;simp at hx
 |cons y ys ih=>
  intro cs i x h hx
  obtain ⟨v,q,rfl,hl,hr,he⟩:=h
  cases i with
  |zero=>simp at hx;subst hx;exact ⟨[],v,q,by simp,by simp,hl,hr⟩
  |succ i=>
   obtain ⟨a,u,b,rfl,h1,h2,h3⟩:=ih he (by simpa using hx)
   exact ⟨v++a,u,b,by simp,by simp [hl,h1,Nat.succ_mul,Nat.add_comm],h2,h3⟩
theorem dp.leaves {ms:List MV}: ∀{vs:List Value} {cs:List ap},dp e.key e.φ vs ms→aY cs=some ms→(∀m,ap.p m∈cs→m.one=true)→al e vs cs:=by
 induction ms with
 |nil=>
  intro vs cs h hc _
  cases h
  cases cs with
  |nil=>rfl
  |cons l r=>
   cases hr:aY r<;>cases l<;>simp [aY,hr] at hc
 |cons m ms ih=>
  intro vs cs h hc ho
  cases cs with
  |nil=>simp [aY] at hc
  |cons l r=>
   generalize si:vs=DY at h
   cases h with
   |cons v _ vs _ h1 h2=>
   subst si
   cases hr:aY r with
   |none=>cases l<;>simp [aY,hr] at hc
   |some q=>
    have bG: ∀m,ap.p m∈r→m.one=true:=fun m hm=>ho m (by simp [hm])
    cases l<;>simp [aY,hr] at hc
    ·obtain ⟨rfl,rfl⟩:=hc
     exact ⟨v,vs,rfl,⟨ho _ (by simp),h1⟩,ih h2 hr bG⟩
    ·obtain ⟨rfl,rfl⟩:=hc
     refine ⟨v,vs,rfl,?_,ih h2 hr bG⟩
     generalize hv:v=v' at h1
     cases h1
     exact rfl
theorem fK.wq {vs:List Value} {x:MV} {b:Bool} {cs:List ap} (h:fK e.key e.φ vs x) (hc:wb b x cs):al e vs cs:=by
 obtain ⟨⟨ms,h1,h2⟩,h3⟩:=hc
 cases b with
 |true=>
  cases ms<;>simp [mr] at h2<;>subst h2<;>(generalize hv:vs=v' at h;cases h;subst hv;rename_i hh;exact hh.leaves h1 h3)
 |false=>
  cases ms with
  |nil=>simp [mr] at h2
  |cons m ms=>
   cases ms with
   |cons y ys=>simp [mr] at h2
   |nil=>
    simp [mr] at h2
    subst h2
    have:dp e.key e.φ (vs++[]) [m]:= .cons vs m [] [] h .nil
    rw [List.append_nil] at this
    exact this.leaves h1 h3
theorem JD {t:TypeId} {x:Operand} {I:TI} {cs:List ap} {off:Nat} (ho:o.op= .load t x) (hI:c.tv t=some I) (hT:fc P c.ti) (h:bj c Z e st a w) (vQ:aq c st x= .rp cs off)
 (hK:eC I cs off (fun s=>aH c st o.dst s K)=some r):Rd P c Z K r e a w o (fun w'=> ∀b q v,e.φ b q=some v→w'.cell? ⟨b,q,none⟩=some v):=by
 obtain ⟨hx,iO⟩:=h.eval x
 obtain ⟨iN,hc⟩:=bq hI
 have hr:=hT t I iN
 rw [vQ] at hx
 simp only [ae] at hx
 obtain ⟨aN,q,vs,hx,jP,_,tY⟩:=hx
 have hm: ∀w':World,(∀b q v,e.φ b q=some v→w'.cell? ⟨b,q,none⟩=some v)→w'.rangeAt aN q vs:=by
  intro w' hi j v hj
  have MD:j<vs.length:=(List.getElem?_eq_some_iff.1 hj).1
  exact hi _ _ _ (by rw [tY j MD];exact hj)
 obtain ⟨v,s,h1,h2,h3,h4⟩:=ej (st:=st) (s:= .skip) hr hc jP (hm w h.gE) hK
 refine Ew (fun w' hi=> ?_) h (.refl _ _ _) (.of h2 h3) h4
 simp [execOp,ho,hx,h1 w' (hm w' hi)]
theorem MF {t:TypeId} {x:Operand} {I:TI} (ho:o.op= .load t x) (hI:c.tv t=some I) (hT:fc P c.ti) (h:bj c Z e st a w)
 (hK:UH st I (aq c st x) (fun s=>aH c st o.dst s K)=some r):Rd P c Z K r e a w o (cb w):=by
 obtain ⟨hx,iO⟩:=h.eval x
 obtain ⟨iN,hc⟩:=bq hI
 have hr:=hT t I iN
 have MG: ∀v s,(∀w':World,cb w w'→(Instr.loadAt t (a.eval x)).run P w'= .ok v w')→ae e v s→bD st.fr s→aH c st o.dst s K=some r→Rd P c Z K r e a w o (cb w):=by
  intro v s h1 h2 h3 h4
  refine Ew (fun w' hg=> ?_) h (.refl _ _ _) (.of h2 h3) h4
  simp [execOp,ho,h1 w' hg]
 have keep: ∀{w':World} {aN off:Nat} {vs:List Value},cb w w'→w.rangeAt aN off vs→w'.rangeAt aN off vs:=by
  intro w' aN off vs hg hm j v hj
  exact hg.cell (hm j v hj)
 generalize aq c st x=s at hx hK iO
 unfold UH at hK
 split at hK
 ·rename_i root off
  simp only [ae] at hx
  have fF:=h.slot root
  split at hK
  ·rename_i cs sD
   rw [sD] at fF
   have mO:cE cs=false:=by cases hq:cE cs<;>simp_all
   simp only [mO,cond_false] at hK
   obtain ⟨_,j8⟩:=fF
   obtain ⟨arr,T,cc,jP⟩:=j8.cells mO
   have hm:w.rangeAt (e.B root) 0 arr.toList:=by
    intro j v hj
    rw [Nat.zero_add,cell_of cc];simpa using hj
   obtain ⟨v,s,h1,h2,h3,h4⟩:=ej (st:=st) (s:= .skip) hr hc jP hm hK
   rw [Nat.zero_add] at h1
   exact MG v s (fun w' hg=>by rw [hx];exact h1 w' (keep hg hm)) h2 h3 h4
  ·simp at hK
 ·rename_i cs off
  simp only [ae] at hx
  obtain ⟨aN,q,vs,hx,jP,_,tY⟩:=hx
  have hm:w.rangeAt aN q vs:=by
   intro j v hj
   have MD:j<vs.length:=(List.getElem?_eq_some_iff.1 hj).1
   exact h.gE _ _ _ (by rw [tY j MD];exact hj)
  obtain ⟨v,s,h1,h2,h3,h4⟩:=ej (st:=st) (s:= .skip) hr hc jP hm hK
  exact MG v s (fun w' hg=>by rw [hx];exact h1 w' (keep hg hm)) h2 h3 h4
 ·rename_i f i off b cs
  cases hf:ar st.az f with
  |none=>simp [hf] at hK
  |some o'=>
   simp only [hf] at hK
   simp only [ae] at hx
   obtain ⟨aN,cap,hE,⟨x,YF,Rc⟩,hx⟩:=hx o' (by rw [h.m];exact hf)
   obtain ⟨J,cells,hJ,Oh,cq,iW,_⟩:=(h.dn f o' hf).row
   obtain ⟨p1,v1,p2,rfl,EA,tT,cW⟩:=iW.at YF
   have jP:=cW.wq Rc
   rw [hE] at cq
   have lJ:=cq.cells (g:=aN) rfl
   have hm:w.rangeAt aN (i *pj cs) v1:=by
    intro j v hj
    have MD:j<v1.length:=(List.getElem?_eq_some_iff.1 hj).1
    have:=lJ (i *J.size+j) v (by rw [List.append_assoc,List.getElem?_append_right (by omega),List.getElem?_append_left (by omega)];rw [show i *J.size+j-p1.length=j by omega];exact hj)
    rw [Addr.add_mid,Nat.zero_add] at this
    rw [←jP.width,tT];exact this
   obtain ⟨v,s,h1,h2,h3,h4⟩:=ej (st:=st) (s:= .skip) hr hc jP hm hK
   exact MG v s (fun w' hg=>by rw [hx];exact h1 w' (keep hg hm)) h2 h3 h4
 ·rename_i root off i
  simp only [ae] at hx
  obtain ⟨hx,EB⟩:=hx
  have fF:=h.slot root
  cases hb:I.st||!Nat.beq I.size 1 with
  |true=>simp [hb] at hK
  |false=>
   simp only [hb,cond_false] at hK
   simp only [Bool.or_eq_false_iff,Bool.not_eq_false'] at hb
   have kK:=Nat.eq_of_beq_eq_true hb.2
   split at hK
   ·rename_i cs sD
    rw [sD] at fF
    have mO:cE cs=false:=by cases hq:cE cs<;>simp_all
    simp only [mO,cond_false] at hK
    obtain ⟨_,j8⟩:=fF
    obtain ⟨arr,T,cc,jP⟩:=j8.cells mO
    split at hK
    ·rename_i b ls Ps
     obtain ⟨v1,v2,UR,h1,h2⟩:=pq Ps jP
     obtain ⟨u,u2,rfl,h3,h4⟩:=h2
     have h3:u=aV b:=h3
     subst h3
     have hg:=rM b i EB
     have hlen:=bN b
     have hm:w.rangeAt (e.B root) (off+i) [.int .u8 ((b.l.getD i 0).toNat:Int)]:=by
      intro j v hj
      cases j with
      |succ j=>simp at hj
      |zero=>
       simp at hj
       rw [Nat.add_zero,cell_of cc]
       have:arr[off+i]? =arr.toList[off+i]? :=by simp
       rw [this,UR,List.getElem?_append_right (by omega),List.getElem?_append_left (by omega),show off+i-v1.length=i by omega,hg,←hj]
       simp [List.getD]
     rcases kJ hr hc (by simp [kK]) hm with ⟨hh,_⟩|⟨_,v,Hi,bx⟩
     ·rcases hh with hh|hh
      ·rw [hb.1] at hh;cases hh
      ·omega
     ·simp at Hi
      subst Hi
      exact MG _ _ (fun w' hg=>by rw [hx];exact bx w' (keep hg hm)) (j9 _ _) trivial hK
    ·simp at hK
   ·simp at hK
 ·simp at hK
theorem Hj {t:TypeId} {x:Operand} {f:Nat} {I:TI} (ho:o.op= .fieldAddr t x f) (hI:c.tv t=some I) (hT:fc P c.ti) (h:bj c Z e st a w)
 (hK:Jb st I f (aq c st x) (fun s=>aH c st o.dst s K)=some r):Rd P c Z K r e a w o (fun _=>True):=by
 obtain ⟨hx,iO⟩:=h.eval x
 obtain ⟨iN,hc⟩:=bq hI
 obtain ⟨d,i,h1,h2,h3,h4⟩:=hT t I iN
 have key: ∀q aN off,I.st=true→I.Cc[f]? =some q→a.eval x= .pointer (some ⟨aN,off,none⟩)→
  ∀w:World,(execOp a.eval o).run P w= .ok (.value (.pointer (some ⟨aN,off+q,none⟩))) w:=by
  intro q aN off cY hq hv w
  cases d<;>simp only [kI] at h4
  case struct fs=>
   obtain ⟨_,_,_,Mh,bG,IK,_⟩:=h4
   rw [←Mh,List.getElem?_map] at hq
   cases hf:fs.toList[f]? with
   |none=>simp [hf] at hq
   |some fl=>
    simp [hf] at hq
    subst hq
    have Mi:fs[f]? =some fl:=by simpa using hf
    obtain ⟨J,hJ,Oh,hJs⟩:=IK f fl Mi
    obtain ⟨ij,Xn,hs,_⟩:=(hT _ _ hJ).info Oh
    have hz:ij.size≠0:=by omega
    simp [execOp,ho,hv,Instr.fieldAt,run_underlying h1,Mi,Instr.sureAddr,fieldPlace,Go.sizeOf,typeInfo,Xn,hz,Addr.add_mid]
  all_goals (exfalso;simp_all)
 generalize aq c st x=s at hx hK iO
 unfold Jb at hK
 split at hK
 ·rename_i q r' o' cY hq
  simp only [ae] at hx
  refine dF (s:= .ptr r' (o'+q)) h (key q _ _ cY hq hx) ?_ iO hK
  simp only [ae]
 ·rename_i q cs o' cY hq
  simp only [ae] at hx
  obtain ⟨aN,b,vs,hx,hh⟩:=hx
  refine dF (s:= .rp cs (o'+q)) h (key q _ _ cY hq hx) ?_ trivial hK
  simp only [ae]
  exact ⟨aN,b,vs,by rw [Nat.add_assoc],hh⟩
 ·rename_i q g i' o' b cs cY hq
  cases hf:ar st.az g with
  |none=>simp [hf] at hK
  |some w'=>
   simp only [hf] at hK
   simp only [ae] at hx
   obtain ⟨aN,cap,h5,h6,h7⟩:=hx w' (by rw [h.m];exact hf)
   refine dF (s:= .ep g i' (o'+q) b cs) h (key q _ _ cY hq h7) ?_ trivial hK
   simp only [ae]
   intro o2 bG
   rw [h.m,hf] at bG
   cases bG
   exact ⟨aN,cap,h5,h6,by rw [Nat.add_assoc]⟩
 ·simp at hK
theorem Pt {x:Operand} {k:Nat} (ho:o.op= .extract x k) (h:bj c Z e st a w)
 (hK:Pe (aq c st x) k (fun s=>aH c st o.dst s K)=some r):Rd P c Z K r e a w o (fun _=>True):=by
 obtain ⟨hx,iO⟩:=h.eval x
 generalize aq c st x=s at hx hK
 unfold Pe at hK
 split at hK
 ·rename_i vs
  simp only [ae] at hx
  obtain ⟨arr,hv,hs⟩:=hx
  cases hk:vs[k]? with
  |none=>simp [hk] at hK
  |some s=>
   simp only [hk] at hK
   have: ∀(k:Nat) (vs:List Slot) (l:List Value),eE e l vs→vs[k]? =some s→ ∃v,l[k]? =some v∧ae e v s∧qV s=true:=by
    intro k
    induction k with
    |zero=>
     intro vs l hl hk
     cases vs with
     |nil=>simp at hk
     |cons y ys=>
      simp at hk
      subst hk
      simp only [eE] at hl
      obtain ⟨v,q,rfl,h1,h2,_⟩:=hl
      exact ⟨v,rfl,h1,h2⟩
    |succ k ih=>
     intro vs l hl hk
     cases vs with
     |nil=>simp at hk
     |cons y ys=>
      simp only [eE] at hl
      obtain ⟨v,q,rfl,_,_,h3⟩:=hl
      obtain ⟨u,h4,h5⟩:=ih ys q h3 (by simpa using hk)
      exact ⟨u,by simpa using h4,h5⟩
   obtain ⟨v,IL,h1,h2⟩:=this k vs arr.toList hs hk
   have RT:arr[k]? =some v:=by simpa using IL
   refine dF h ?_ h1 ?_ hK
   ·simp [execOp,ho,hv,Instr.extract,RT]
   ·cases s<;>simp [qV] at h2<;>trivial
 ·simp at hK
end
end Dn
/-
  Operations that make memory: variables. Conditions: none.
-/
set_option linter.unusedSimpArgs false
set_option linter.unusedVariables false
namespace Dn
open Go
section
variable {P:Program} {c:Ctx} {Z:aW} {e:Env} {st:St} {a:Act} {w w':World} {R:Type} {K:St→Option R} {r:R} {Q:Exit→Act→World→Prop} {o:Oper}
theorem cb.refl (w:World):cb w w:=⟨Nat.le_refl _,fun _ _=>rfl,.refl _⟩
theorem cb.alloc (w:World) (cs:Array Value) (t:TypeId):cb w (w.alloc (.cells cs t)):=⟨by simp,fun b hb=>j6 w _ b hb,.alloc w cs t⟩
theorem cb.US (g:cb w w') {base:Nat} {t:TypeId} {size:Nat} {v:Value} {n:Nat} {xs:List Value} (h:w.ownsRow base t size v n xs):w'.ownsRow base t size v n xs:=by
 refine ⟨h.1,?_⟩
 rcases h.2 with h|⟨b,cap,dN,h1,h2,h3,h4⟩
 ·exact .inl h
 ·exact .inr ⟨b,cap,dN,h1,h2,by rw [g.nJ b (aO h3)];exact h3,h4⟩
theorem lI.grow (g:cb w w') {aN:Nat} {cs:List ap} (h:lI Z e w aN cs):lI Z e w' aN cs:=by
 obtain ⟨o,h1,h2⟩:=h.obj
 exact ⟨h.bC,⟨o,by rw [g.nJ _ (aO h1)];exact h1,h2⟩,h.free⟩
theorem bX.grow (g:cb w w') {v:Value} {f:hH} (h:bX c Z e w v f):bX c Z e w' v f:=by
 obtain ⟨I,cells,h1,h2,h3,h4,h5⟩:=h.row
 exact ⟨I,cells,h1,h2,g.US h3,h4,h5⟩
theorem bj.grow (g:cb w w') (h:bj c Z e st a w):bj c Z e st a w':=by
 refine ⟨h.defers,h.size,h.m,h.key,h.nodup,?_,h.root,fun f o ho=>(h.dn f o ho).grow g,h.bb,h.bf,h.ff,fun b o v hv=>g.cell (h.gE b o v hv),fun b hb=>h.bC b (Nat.le_trans g.size hb)⟩
 intro t
 have hs:=h.slot t
 generalize ah st.fr t=s at hs
 cases s<;>simp only [bp] at hs⊢ <;>first|exact hs|exact ⟨hs.1,hs.2.grow g⟩
theorem cb.trans (g:cb w w') (hz: ∀b,w.heap.size≤b→Z b) (φ:Ph):Trans Z φ w φ w':=
 ⟨.refl φ,fun b _ hl=>g.nJ b hl,fun _ _ _=>rfl,g.size,g.rest⟩
theorem Hk {l:ap} {vs:List Value} (h:Jq l vs=true):aB e vs l:=by
 unfold Jq at h
 split at h
 ·simp at h;subst h;exact ⟨rfl,.b _⟩
 ·simp at h;obtain ⟨rfl,rfl⟩:=h;exact ⟨rfl,.i _ _⟩
 ·simp at h;subst h;exact ⟨rfl,.s _⟩
 ·split at h
  ·exact ⟨rfl,.raw _ rfl⟩
  ·exact ⟨rfl,.raw _ rfl⟩
  ·exact ⟨rfl,.raw _ rfl⟩
  ·simp at h
 ·rfl
 ·exact ⟨_,rfl,h⟩
 ·rename_i x
  simp only [Bool.and_eq_true,beq_iff_eq] at h
  obtain ⟨h1,h2⟩:=h
  show vs=aV x
  apply List.ext_getElem?
  intro j
  by_cases hj:j<32
  ·rw [rM x j hj]
   have YG:j<vs.length:=by omega
   have IM:j<x.l.length:=by rw [x.h];exact hj
   rw [List.all_eq_true] at h2
   have hm:(vs[j],x.l[j])∈vs.zip x.l:=List.mem_iff_getElem.2 ⟨j,by simp;omega,by simp⟩
   have:=h2 _ hm
   rw [List.getElem?_eq_getElem YG]
   dsimp only at this
   split at this
   ·rename_i n hn
    rw [hn,of_decide_eq_true this]
    simp [List.getD,List.getElem?_eq_getElem IM]
   ·simp at this
  ·rw [List.getElem?_eq_none (by omega),List.getElem?_eq_none (by rw [bN];omega)]
 ·simp at h
theorem fe {ls:List ap}: ∀{vs:List Value},lH ls vs=true→al e vs ls:=by
 induction ls with
 |nil=>intro vs h;simpa [lH,al] using h
 |cons l r ih=>
  intro vs h
  simp only [lH,Bool.and_eq_true] at h
  exact ⟨vs.take l.w,vs.drop l.w,by simp,Hk h.1.1,ih h.1.2⟩
theorem al.oO {cs:List ap} {vs:List Value} (h:al e vs cs):cE cs=false:=by
 cases hm:cE cs with
 |false=>rfl
 |true=>obtain ⟨s,ms,rfl⟩:=A2 hm;obtain ⟨_,_,_,h1,_⟩:=h;exact h1.elim
theorem wu (h:bj c Z e st a w) (off:Nat):e.φ w.heap.size off=none:=by
 cases hp:e.φ w.heap.size off with
 |none=>rfl
 |some v=>
  have:=World.block_lt_of_cell? w _ (h.gE _ _ _ hp)
  simp at this
theorem ql (h:bj c Z e st a w):(∀t cT,ah st.fr t= .box cT→e.B t≠w.heap.size)∧(∀f o,ar st.az f=some o→(e.E f).ownBlock≠some w.heap.size):=by
 refine ⟨?_,?_⟩
 ·intro t cT ht
  have hs:=h.slot t
  rw [ht] at hs
  obtain ⟨o,h1,_⟩:=hs.2.obj
  have:=aO h1
  omega
 ·intro f o ho hk
  obtain ⟨I,cells,h1,h2,h3,h4,h5⟩:=(h.dn f o ho).row
  rcases h3.2 with ⟨hv,_⟩|⟨g,cap,dN,hv,_,hg,_⟩
  ·rw [hv] at hk;simp [Value.ownBlock] at hk
  ·rw [hv] at hk
   simp only [Value.ownBlock,Option.some.injEq] at hk
   have:=aO hg
   omega
theorem Gb {cells:Array Value} {T:TypeId} {cs:List ap} (h:bj c Z e st a w) (hl:al e cells.toList cs):
 iV Z e (w.alloc (.cells cells T)) st (.pointer (some ⟨w.heap.size,0,none⟩)) (.box cs):=by
 exact ⟨w.heap.size,by rw [mw hl.oO],⟨h.bC _ (Nat.le_refl _),⟨_,eR w _,rfl,hl⟩,wu h⟩,(ql h).1,(ql h).2⟩
theorem JE {t:TypeId} {I:TI} (ho:o.op= .alloc t) (hI:c.tv t=some I) (hT:fc P c.ti) (h:bj c Z e st a w)
 (hK:aH c st o.dst (.box I.zero) K=some r):o.wp P a w (fun a' w'=>cb w w'∧Out c Z K r e.φ w a' w') Q:=by
 obtain ⟨iN,hc⟩:=bq hI
 obtain ⟨d,i,h1,h2,h3,h4⟩:=hT t I iN
 have hz: ∃z,i.zero=some z∧al e z.cells.toList I.zero:=by
  cases d<;>simp only [kI] at h4
  case struct fs=>obtain ⟨_,_,_,_,_,_,cs,hz,hl,_⟩:=h4;exact ⟨_,hz,by simpa [Value.cells] using fe hl⟩
  case tuple ts=>exact absurd hc h4.2.1
  case slice el=>obtain ⟨_,_,_,_,_,hz,hl,_⟩:=h4;exact ⟨_,hz,by rw [hl];exact ⟨[.slice none 0 0],[],rfl,rfl,rfl⟩⟩
  case array n el=>obtain ⟨_,_,_,_,_,_,_,hl,hz⟩:=h4;exact ⟨_,hz,by rw [hl];exact ⟨aV ez.zero,[],by simp [Value.cells],rfl,rfl⟩⟩
  case bool=>obtain ⟨_,_,_,_,hl,hz⟩:=h4;exact ⟨_,hz,by rw [hl];exact ⟨[.bool false],[],rfl,⟨rfl,.b _⟩,rfl⟩⟩
  case int k=>obtain ⟨_,_,_,_,hl,hz⟩:=h4;exact ⟨_,hz,by rw [hl];exact ⟨[.int k 0],[],rfl,⟨rfl,.i _ _⟩,rfl⟩⟩
  case string=>
   obtain ⟨_,_,_,_,hl,b,hz,hb⟩:=h4
   refine ⟨_,hz,by rw [hl];refine ⟨[.string b],[],rfl,⟨rfl,?_⟩,rfl⟩;rw [←hb];exact .s b⟩
  all_goals
   obtain ⟨_,_,_,_,v,hz,hv,hl⟩:=h4
   refine ⟨v,hz,?_⟩
   have:v.cells.toList=[v]:=by cases v<;>simp_all [Value.cells,Value.oneCell']
   rw [this];exact fe hl
 obtain ⟨z,hz,hl⟩:=hz
 have bx:(execOp a.eval o).run P w= .ok (.value (.pointer (some ⟨w.heap.size,0,none⟩))) (w.alloc (.cells z.cells t)):=by
  simp [execOp,ho,Instr.alloc,zeroValue,typeInfo,h2,hz,newVar,newRow,newObj,Sem.run]
 exact Hg (.alloc w _ _) bx (h.grow (.alloc w _ _)) ((cb.alloc w _ _).trans h.bC _) (Gb h hl) hK
theorem Pu {t:TypeId} {x:Operand} {I:TI} (ho:o.op= .box t x) (h:bj c Z e st a w)
 (hK:Pb I (aq c st x) (fun s=>aH c st o.dst s K)=some r):o.wp P a w (fun a' w'=>cb w w'∧Out c Z K r e.φ w a' w') Q:=by
 obtain ⟨hx,iO⟩:=h.eval x
 have bx:(execOp a.eval o).run P w= .ok (.value (.pointer (some ⟨w.heap.size,0,none⟩))) (w.alloc (.cells (a.eval x).cells t)):=by
  simp [execOp,ho,Instr.box,newVar,newRow,newObj,Sem.run]
 have go: ∀cs,al e (a.eval x).cells.toList cs→aH c st o.dst (.box cs) K=some r→o.wp P a w (fun a' w'=>cb w w'∧Out c Z K r e.φ w a' w') Q:=
  fun cs h1 h2=>Hg (.alloc w _ _) bx (h.grow (.alloc w _ _)) ((cb.alloc w _ _).trans h.bC _) (Gb h h1) h2
 generalize aq c st x=s at hx hK iO
 unfold Pb at hK
 split at hK
 ·rename_i l
  cases hb:I.st||Cf l||!Nat.beq l.w I.size with
  |true=>simp [hb] at hK
  |false=>
   simp only [hb,cond_false] at hK
   refine go [l] ?_ hK
   cases l with
   |un=>simp [Cf] at hb
   |hs y=>
    simp only [ae] at hx
    rw [hx]
    exact ⟨aV y,[],by simp [Value.cells],rfl,rfl⟩
   |p m=>
    simp only [ae] at hx
    have:(a.eval x).cells.toList=[a.eval x]:=by
     have:=hx.cells (a.eval x) (by simp)
     generalize a.eval x=v at this
     cases v<;>simp_all [Value.cells,Value.oneCell']
    rw [this];exact ⟨_,[],rfl,hx,rfl⟩
   |nil=>
    simp only [ae] at hx
    have Hl:[a.eval x]=[Value.slice none 0 0]:=hx
    simp at Hl
    rw [Hl];exact ⟨[.slice none 0 0],[],rfl,rfl,rfl⟩
   |mp s es=>simp [Cf] at hb
   |own f=>
    simp only [ae] at hx
    have:(a.eval x).cells.toList=[a.eval x]:=by
     have:=hx.cells (a.eval x) (by simp)
     generalize a.eval x=v at this
     cases v<;>simp_all [Value.cells,Value.oneCell']
    rw [this];exact ⟨_,[],rfl,hx,rfl⟩
 ·rename_i cs
  cases hb:I.st&&!mQ cs&&Nat.beq (pj cs) I.size with
  |false=>simp [hb] at hK
  |true=>
   simp only [hb,cond_true] at hK
   simp only [ae] at hx
   obtain ⟨arr,hx,hl⟩:=hx
   exact go cs (by rw [hx];exact hl) hK
 ·simp at hK
end
end Dn
/-
  Stores into variables. Conditions: none.
-/
set_option linter.unusedSimpArgs false
set_option linter.unusedVariables false
namespace Dn
open Go
section
variable {P:Program} {c:Ctx} {Z:aW} {e:Env} {st:St} {a:Act} {w w':World} {R:Type} {K:St→Option R} {r:R} {Q:Exit→Act→World→Prop} {o:Oper}
theorem setRow_size (w:World) (g:Nat) (cs:Array Value):(w.setRow g cs).heap.size=w.heap.size:=by simp [World.setRow]
structure IP (g:Nat) (w w':World):Prop where
 size:w'.heap.size=w.heap.size
 other: ∀b,b≠g→w'.heap[b]? =w.heap[b]?
 rest:Rest w w'
theorem IP.setRow (w:World) (g:Nat) (cs:Array Value):IP g w (w.setRow g cs):=⟨setRow_size _ _ _,fun b hb=>setRow_other _ _ _ _ hb,.setRow _ _ _⟩
theorem Ct {g:Nat} (hc:IP g w w') {base:Nat} {t:TypeId} {size:Nat} {v:Value} {n:Nat} {xs:List Value} (cz:v.ownBlock≠some g)
 (h:w.ownsRow base t size v n xs):w'.ownsRow base t size v n xs:=by
 refine ⟨h.1,?_⟩
 rcases h.2 with h|⟨b,cap,dN,h1,h2,h3,h4⟩
 ·exact .inl h
 ·refine .inr ⟨b,cap,dN,h1,h2,?_,h4⟩
  rw [hc.other _ (by intro e;subst e;subst h1;exact cz rfl)];exact h3
theorem EC {g:Nat} {cs:Array Value} {base:Nat} {t:TypeId} {size:Nat} {v:Value} {n:Nat} {xs:List Value} (cz:v.ownBlock≠some g)
 (h:w.ownsRow base t size v n xs):(w.setRow g cs).ownsRow base t size v n xs:=Ct (.setRow w g cs) cz h
theorem bj.setObj {root:Nat} {cs cT:List ap} {o':Obj} {iU:Fr} (h:bj c Z e st a w) (hf:ah st.fr root= .box cs)
 (wv:IP (e.B root) w w') (kb:w'.heap[e.B root]? =some o') (hl:ei e o' cT) (Oi:eL cT=eL cs) (vt: ∀t,ah iU t=if t=root then .box cT else ah st.fr t)
 (Re:(ay iU).Nodup):bj c Z e {st with fr:=iU} a w':=by
 have kK:=wv.size
 have hU:=h.slot root
 rw [hf] at hU
 refine ⟨h.defers,h.size,h.m,h.key,Re,?_,?_,?_,?_,?_,h.ff,?_,fun b hb=>h.bC b (by omega)⟩
 ·intro t
  show bp Z e _ t _ (ah iU t)
  rw [vt]
  by_cases ht:t=root
  ·subst ht
   simp only [if_true,bp]
   exact ⟨hU.1.eL Oi,⟨hU.2.bC,⟨o',kb,hl⟩,hU.2.free⟩⟩
  ·simp only [ht,if_false]
   have hs:=h.slot t
   have qX:=h.bb t root
   generalize hg:ah st.fr t=s at hs qX
   cases s<;>simp only [bp] at hs⊢ <;>try exact hs
   rename_i nK
   refine ⟨hs.1,hs.2.bC,?_,hs.2.free⟩
   obtain ⟨o2,h1,h2⟩:=hs.2.obj
   exact ⟨o2,by rw [wv.other _ (qX nK cs rfl hf ht)];exact h1,h2⟩
 ·intro t
  show bD iU (ah iU t)
  rw [vt]
  by_cases ht:t=root
  ·simp [ht,bD]
  ·simp only [ht,if_false]
   have hr:=h.root t
   generalize ah st.fr t=s at hr
   cases s<;>simp only [bD] at hr⊢ <;>(rw [vt];split<;>simp_all [bI])
 ·intro f o ho
  obtain ⟨I,cells,h1,h2,h3,h4,h5⟩:=(h.dn f o ho).row
  exact ⟨I,cells,h1,h2,Ct wv (h.bf root cs f o hf ho) h3,h4,h5⟩
 ·intro t t' c1 c2 h1 h2 cz
  have h1:ah iU t= .box c1:=h1
  have h2:ah iU t'= .box c2:=h2
  rw [vt] at h1 h2
  by_cases ht:t=root
  ·by_cases rL:t'=root
   ·exact absurd (ht.trans rL.symm) cz
   ·simp only [rL,if_false] at h2;rw [ht];exact h.bb root t' cs c2 hf h2 (by rw [←ht];exact cz)
  ·simp only [ht,if_false] at h1
   by_cases rL:t'=root
   ·rw [rL];exact h.bb t root c1 cs h1 hf ht
   ·simp only [rL,if_false] at h2;exact h.bb t t' c1 c2 h1 h2 cz
 ·intro t c1 f o h1 h2
  have h1:ah iU t= .box c1:=h1
  rw [vt] at h1
  by_cases ht:t=root
  ·rw [ht];exact h.bf root cs f o hf h2
  ·simp only [ht,if_false] at h1;exact h.bf t c1 f o h1 h2
 ·intro b o v hv
  have cz:b≠e.B root:=by intro eb;subst eb;rw [hU.2.free] at hv;cases hv
  have:=h.gE b o v hv
  rw [World.cell?_of_block (wv.other _ cz)];exact this
theorem bj.JF {root:Nat} {cs cT:List ap} {arr pv:Array Value} {T:TypeId} {iU:Fr} (h:bj c Z e st a w) (hf:ah st.fr root= .box cs)
 (cc:w.heap[e.B root]? =some (.cells arr T (0,0))) (hl:al e pv.toList cT) (vt: ∀t,ah iU t=if t=root then .box cT else ah st.fr t)
 (Re:(ay iU).Nodup):bj c Z e {st with fr:=iU} a (w.setRow (e.B root) pv):=by
 have hU:=h.slot root
 rw [hf] at hU
 have hm:cE cs=false:=by
  obtain ⟨o,h1,h2⟩:=hU.2.obj
  rw [cc] at h1;cases h1
  exact h2.2.oO
 exact h.setObj hf (.setRow _ _ _) (setRow_heap _ _ _ _ _ _ cc) ⟨rfl,hl⟩ (by rw [nT hm,nT hl.oO]) vt Re
theorem Trans.Xo {g:Nat} (φ:Ph) (wv:IP g w w') (hz:Z g):Trans Z φ w φ w':=
 ⟨.refl φ,fun b hb _=>wv.other _ (by intro e;subst e;exact hb hz),fun _ _ _=>rfl,by rw [wv.size];exact Nat.le_refl _,wv.rest⟩
theorem Trans.setRow {g:Nat} {pv:Array Value} (φ:Ph) (hz:Z g):Trans Z φ w φ (w.setRow g pv):=
 ⟨.refl φ,fun b hb _=>setRow_other _ _ _ _ (by intro e;subst e;exact hb hz),fun _ _ _=>rfl,by rw [setRow_size];exact Nat.le_refl _,.setRow _ _ _⟩
theorem qY {v:Value} {s:Slot} (h:ae e v s) (hu:mQ (av s)=false) (cz:av s≠[]):al e v.cells.toList (av s):=by
 cases s with
 |sc l=>
  simp only [av] at hu⊢
  have eN: ∀l,aB e [v] l→al e v.cells.toList [l]:=by
   intro l hl
   have hc:=hl.cells v (by simp)
   have:v.cells.toList=[v]:=by cases v<;>simp_all [Value.cells,Value.oneCell']
   rw [this];exact ⟨[v],[],rfl,hl,rfl⟩
  cases l with
  |un=>simp [mQ,Cf] at hu
  |hs x=>simp only [ae] at h;rw [h];exact ⟨aV x,[],by simp [Value.cells],rfl,rfl⟩
  |p m=>simp only [ae] at h;exact eN _ h
  |nil=>simp only [ae] at h;exact eN _ h
  |mp s es=>simp [mQ,Cf] at hu
  |own f=>simp only [ae] at h;exact eN _ h
 |ag cs=>simp only [ae] at h;obtain ⟨arr,rfl,hl⟩:=h;exact hl
 |_=>exact absurd rfl cz
theorem jQ {t:TypeId} {I:TI} {aN off:Nat} {v:Value} {arr:Array Value} {T:TypeId} (hr:iP c.ti P t I) (hc:I.bO=[]) (hs:v.cells.toList.length=I.size)
 (eN: ∀u∈v.cells.toList,u.oneCell'=true) (cc:w.heap[aN]? =some (.cells arr T (0,0))) (JG:off+I.size≤arr.size):
 (Instr.storeAt t (.pointer (some ⟨aN,off,none⟩)) v).run P w= .ok () (w.setRow aN (arr.toList.take off++v.cells.toList++arr.toList.drop (off+I.size)).toArray):=by
 obtain ⟨i,hi,kK,_⟩:=hr.info hc
 have h1:=run_storeCells_at P aN off T v.cells.toList 0 arr w cc (by omega) eN
 rw [Nat.add_zero,hs] at h1
 have h2:v.cells.size=i.size:=by rw [kK,←hs];simp
 simp [Instr.storeAt,Instr.sureAddr,storeVar,Go.sizeOf,typeInfo,hi,h2,h1]
theorem Hm {t:TypeId} {I:TI} {root off:Nat} {v:Value} {cs ls cT:List ap} {K':St→Option R} (mO:cE cs=false) (hr:iP c.ti P t I) (hc:I.bO=[]) (h:bj c Z e st a w)
 (hf:ah st.fr root= .box cs) (hv:al e v.cells.toList ls) (wz:pj ls=I.size) (hp:putAt cs off ls=some cT) (hK:wr st root (.box cT) K'=some r):
 ∃w' bc,(Instr.storeAt t (.pointer (some ⟨e.B root,off,none⟩)) v).run P w= .ok () w'∧bj c Z e bc a w'∧Trans Z e.φ w e.φ w'∧K' bc=some r:=by
 have fF:=h.slot root
 rw [hf] at fF
 obtain ⟨arr,T,cc,jP⟩:=fF.2.cells mO
 obtain ⟨v1,v2,v3,he,h1,h2,h3⟩:=nS hp jP hv
 have hlen:=hv.width
 have kK:arr.size=v1.length+v2.length+v3.length:=by
  have:arr.toList.length=(v1++v2++v3).length:=by rw [he]
  simp at this
  omega
 have bx:=jQ (P:=P) (w:=w) (aN:=e.B root) (off:=off) hr hc (by rw [hlen,wz]) hv.cells cc (by omega)
 have RU:arr.toList.take off=v1:=by rw [he,List.append_assoc,List.take_left' h1]
 have RV:arr.toList.drop (off+I.size)=v3:=by
  rw [he];exact List.drop_left' (by rw [List.length_append];omega)
 rw [RU,RV] at bx
 unfold wr at hK
 cases hn:aT st.bt root with
 |true=>simp [hn] at hK
 |false=>
  simp only [hn,cond_false,force_eq,fE] at hK
  refine ⟨_,_,bx,?_,.setRow _ (B6 fF.2.bC (by rw [←h.defers.2.1,←aU,hn];simp)),hK⟩
  exact h.JF hf cc (by simpa using h3) (fun t=>by rw [bg]) (cn h.nodup)
end
end Dn
/-
  Owned slices that are shared from now on; what is handed to a callee. Conditions: none.
-/
set_option linter.unusedSimpArgs false
set_option linter.unusedVariables false
namespace Dn
open Go
section
variable {P:Program} {c:Ctx} {Z:aW} {e:Env} {st:St} {a:Act} {w w':World} {R:Type} {K:St→Option R} {r:R} {Q:Exit→Act→World→Prop} {o:Oper}
theorem aS.mono {key:Nat→Nat} {φ φ':Ph} (h:j7 φ φ') {size:Nat} {xs:List MV}: ∀{cs:List Value},aS key φ size cs xs→aS key φ' size cs xs:=by
 induction xs with
 |nil=>intro cs hh;exact hh
 |cons x xs ih=>intro cs hh;obtain ⟨v,q,rfl,h1,h2,h3⟩:=hh;exact ⟨v,q,rfl,h1,h2.mono h,ih h3⟩
theorem aS.length {key:Nat→Nat} {φ:Ph} {size:Nat} {xs:List MV}: ∀{cs:List Value},aS key φ size cs xs→cs.length=xs.length *size:=by
 induction xs with
 |nil=>intro cs hh;cases hh;simp
 |cons x xs ih=>intro cs hh;obtain ⟨v,q,rfl,h1,h2,h3⟩:=hh;simp [h1,ih h3,Nat.succ_mul,Nat.add_comm]
theorem ED {m:List (Nat×hH)} {f:Nat} {o:hH} (h:ar m f=some o):bo m f o=m:=by
 induction m with
 |nil=>simp [ar] at h
 |cons p r ih=>
  obtain ⟨k,x⟩:=p
  simp only [ar,bo,cm] at h⊢
  by_cases hk:k=f
  ·subst hk;simp at h;subst h;simp
  ·simp only [hk,decide_false,cond_false] at h⊢;rw [ih h]
def ic (φ:Ph) (v:Value) (cells:List Value):Ph:=fun b off=>if v.ownBlock=some b∧off<cells.length then cells[off]? else φ b off
theorem lK {base:Nat} {t:TypeId} {size n:Nat} {v:Value} {xs ys:List Value} (h:w.ownsRow base t size v n xs) (h':w.ownsRow base t size v n ys) {b:Nat} (hb:v.ownBlock=some b):xs=ys:=by
 rcases h.2 with ⟨h1,_⟩|⟨g,cap,dN,h1,_,h2,_,_,_,h3⟩
 ·rw [h1] at hb;simp [Value.ownBlock] at hb
 ·rcases h'.2 with ⟨yE,_⟩|⟨g',Pv,YH,yE,_,EE,_,_,_,Uc⟩
  ·rw [yE] at hb;simp [Value.ownBlock] at hb
  ·rw [h1] at yE
   simp at yE
   obtain ⟨rfl,rfl⟩:=yE
   rw [h2] at EE
   simp at EE
   subst EE
   rw [←h3,←Uc]
theorem freeze {f:Nat} {o:hH} (h:bj c Z e st a w) (hf:ar st.az f=some o) (hp:f∉Z.bF∨o.ck=true):
 ∃φ',j7 e.φ φ'∧(∀b off,¬Z b→φ' b off=e.φ b off)∧bj c Z {e with φ:=φ',m:=bo e.m f ⟨o.ty,true,o.xs⟩} {st with az:=bo st.az f ⟨o.ty,true,o.xs⟩} a w∧
  fK e.key φ' [e.E f] (.list o.xs)∧
  (∀I cells,c.ti o.ty=some I→w.ownsRow 0 o.ty I.size (e.E f) o.xs.length cells→ ∀aN,(e.E f).ownBlock=some aN→ ∀j,j<cells.length→φ' aN j=cells[j]?):=by
 obtain ⟨I,cells,hI,Pw,cq,iW,hz⟩:=(h.dn f o hf).row
 have hlen:=iW.length
 have hle:j7 e.φ (ic e.φ (e.E f) cells):=by
  intro b off v hv
  unfold ic
  by_cases hc:(e.E f).ownBlock=some b∧off<cells.length
  ·simp only [hc,and_self,if_true]
   obtain ⟨hb,ho⟩:=hc
   rcases cq.2 with ⟨hE,_⟩|⟨g,cap,dN,hE,_,hg,hn,II,sD,IQ⟩
   ·rw [hE] at hb;simp [Value.ownBlock] at hb
   ·rw [hE] at hb
    simp only [Value.ownBlock,Option.some.injEq] at hb
    subst hb
    have:=h.gE _ _ _ hv
    rw [cell_of hg] at this
    rw [←IQ,List.getElem?_take]
    have bG:off<o.xs.length *I.size:=by omega
    simp only [bG,if_true]
    simpa using this
  ·simp only [hc,if_false];exact hv
 have mS: ∀b off v,ic e.φ (e.E f) cells b off=some v→w.cell? ⟨b,off,none⟩=some v:=by
  intro b off v hv
  unfold ic at hv
  by_cases hc:(e.E f).ownBlock=some b∧off<cells.length
  ·simp only [hc,and_self,if_true] at hv
   rcases cq.2 with ⟨hE,_⟩|⟨g,cap,dN,hE,_,hg,hn,II,sD,IQ⟩
   ·rw [hE] at hc;simp [Value.ownBlock] at hc
   ·rw [hE] at hc
    simp only [Value.ownBlock,Option.some.injEq] at hc
    obtain ⟨hb,ho⟩:=hc
    subst hb
    rw [cell_of hg]
    rw [←IQ,List.getElem?_take] at hv
    have bG:off<o.xs.length *I.size:=by omega
    simp only [bG,if_true] at hv
    simpa using hv
  ·simp only [hc,if_false] at hv;exact h.gE _ _ _ hv
 have RW: ∀b off,¬Z b→ic e.φ (e.E f) cells b off=e.φ b off:=by
  intro b off hb
  unfold ic
  by_cases hc:(e.E f).ownBlock=some b∧off<cells.length
  ·by_cases pw:f∈Z.bF
   ·simp only [hc,and_self,if_true]
    exact (((hz b hc.1).2.2 pw (hp.resolve_left (fun hn=>hn pw))) off hc.2).symm
   ·exact absurd (B6 (hz b hc.1).1 pw) hb
  ·simp [hc]
 have EF: ∀b off,(e.E f).ownBlock≠some b→ic e.φ (e.E f) cells b off=e.φ b off:=by
  intro b off hb;unfold ic;simp [hb]
 have my:eS (fun _=>True) (fun _=>True) e {e with φ:=ic e.φ (e.E f) cells,m:=bo e.m f ⟨o.ty,true,o.xs⟩}:=by
  refine ⟨rfl,hle,fun _ _=>rfl,?_⟩
  intro f2 o2 bG _
  have bG:ar (bo e.m f ⟨o.ty,true,o.xs⟩) f2=some o2:=bG
  rw [aL] at bG
  by_cases cH:f2=f
  ·subst cH;simp at bG;subst bG;exact ⟨o,by rw [h.m];exact hf,rfl,rfl⟩
  ·simp only [cH,if_false] at bG;exact ⟨o2,bG,rfl,rfl⟩
 have kL: ∀s:Slot,cP (fun _=>True) (fun _=>True) s:=by
  intro s;cases s<;>simp [cP,dQ]
 refine ⟨_,hle,RW,?_,?_,?_⟩
 rotate_right
 ·intro I' A6 Xp RX aN hb j hj
  rw [hI] at Xp
  cases Xp
  have YI:=lK cq RX hb
  subst YI
  unfold ic
  simp [hb,hj]
 ·refine ⟨h.defers,h.size,by show bo e.m f _=bo st.az f _;rw [h.m],h.key,h.nodup,?_,h.root,?_,h.bb,?_,?_,mS,h.bC⟩
  ·intro t
   have hs:=h.slot t
   have MH:=h.bf t
   show bp Z _ w t _ (ah st.fr t)
   generalize ah st.fr t=s at hs MH
   cases s<;>simp only [bp] at hs⊢ <;>try exact hs.on my (kL _)
   rename_i cs
   refine ⟨hs.1,hs.2.bC,?_,?_⟩
   ·obtain ⟨o2,h1,h2⟩:=hs.2.obj
    exact ⟨o2,h1,h2.on my (fun l _ f _=>trivial)⟩
   ·intro off
    show ic e.φ (e.E f) cells (e.B t) off=none
    rw [EF _ _ (MH cs f o rfl hf)];exact hs.2.free off
  ·intro f2 o2 bG
   have bG:ar (bo st.az f ⟨o.ty,true,o.xs⟩) f2=some o2:=bG
   rw [aL] at bG
   by_cases cH:f2=f
   ·subst cH
    simp at bG
    subst bG
    refine ⟨I,cells,hI,Pw,cq,iW.mono hle,?_⟩
    intro aN hb
    refine ⟨(hz aN hb).1,?_,?_⟩
    rotate_left
    ·intro _ _ j hj
     show ic e.φ (e.E f2) cells aN j=_
     have hb:(e.E f2).ownBlock=some aN:=hb
     unfold ic
     simp [hb,hj]
    intro off u hu
    refine ⟨rfl,?_⟩
    have hu:ic e.φ (e.E f2) cells aN off=some u:=hu
    unfold ic at hu
    by_cases hc:(e.E f2).ownBlock=some aN∧off<cells.length
    ·show off<o.xs.length *I.size;rw [←hlen];exact hc.2
    ·simp only [hc,if_false] at hu;exact ((hz aN hb).2.1 off u hu).2
   ·simp only [cH,if_false] at bG
    obtain ⟨I2,nV,h1,h2,h3,h4,h5⟩:=(h.dn f2 o2 bG).row
    refine ⟨I2,nV,h1,h2,h3,h4.mono hle,?_⟩
    intro aN hb
    refine ⟨(h5 aN hb).1,?_,?_⟩
    rotate_left
    ·intro g1 g2 j hj
     show ic e.φ (e.E f) cells aN j=_
     rw [EF _ _ (fun MH=>cH (h.ff f2 f o2 o aN bG hf hb MH))]
     exact (h5 aN hb).2.2 g1 g2 j hj
    intro off u hu
    have hu:ic e.φ (e.E f) cells aN off=some u:=hu
    rw [EF _ _ (fun MH=>cH (h.ff f2 f o2 o aN bG hf hb MH))] at hu
    exact (h5 aN hb).2.1 off u hu
  ·intro t cs f2 o2 h1 h2
   have h2:ar (bo st.az f ⟨o.ty,true,o.xs⟩) f2=some o2:=h2
   rw [aL] at h2
   by_cases cH:f2=f
   ·subst cH;exact h.bf t cs f2 o h1 hf
   ·simp only [cH,if_false] at h2;exact h.bf t cs f2 o2 h1 h2
  ·intro f1 f2 o1 o2 k h1 h2 h3 h4
   have h1:ar (bo st.az f ⟨o.ty,true,o.xs⟩) f1=some o1:=h1
   have h2:ar (bo st.az f ⟨o.ty,true,o.xs⟩) f2=some o2:=h2
   rw [aL] at h1 h2
   have g1: ∃o',ar st.az f1=some o':=by
    by_cases cH:f1=f
    ·subst cH;exact ⟨o,hf⟩
    ·simp only [cH,if_false] at h1;exact ⟨o1,h1⟩
   have g2: ∃o',ar st.az f2=some o':=by
    by_cases cH:f2=f
    ·subst cH;exact ⟨o,hf⟩
    ·simp only [cH,if_false] at h2;exact ⟨o2,h2⟩
   obtain ⟨q1,g1⟩:=g1
   obtain ⟨q2,g2⟩:=g2
   exact h.ff f1 f2 q1 q2 k g1 g2 h3 h4
 ·have RY:=iW.mono hle
  rcases cq.2 with ⟨hE,hn⟩|⟨g,cap,dN,hE,_,hg,hn,II,sD,IQ⟩
  ·have hx:o.xs=[]:=List.eq_nil_of_length_eq_zero hn
   have hv:[e.E f]=[Value.slice none 0 0]:=by rw [hE]
   rw [hv,hx]
   exact .list none 0 [] 0 0 0 (fun _=>[]) (by simp) (by simp) (by simp) (by simp) (by simp)
  ·have hv:[e.E f]=[Value.slice (some ⟨g,0,none⟩) o.xs.length cap]:=by rw [hE]
   rw [hv]
   have JH: ∀i (hi:i<o.xs.length),∃v1,v1.length=I.size∧fK e.key (ic e.φ (e.E f) cells) v1 o.xs[i]∧(cells.drop (i *I.size)).take I.size=v1:=by
    intro i hi
    obtain ⟨p1,v1,p2,he,EA,tT,cW⟩:=RY.at (List.getElem?_eq_getElem hi)
    refine ⟨v1,tT,cW,?_⟩
    rw [he,List.append_assoc,←EA,List.drop_left,←tT,List.take_left]
   refine .list (some ⟨g,0,none⟩) cap o.xs g 0 I.size (fun i=>(cells.drop (i *I.size)).take I.size) hn (fun _=>rfl) ?_ ?_ ?_
   ·intro i hi
    obtain ⟨v1,h1,_,h3⟩:=JH i hi
    rw [h3,h1]
   ·intro i j hi hj
    have hb:(e.E f).ownBlock=some g:=by rw [hE];rfl
    have wA:i *I.size+j<cells.length:=by
     rw [hlen]
     calc i *I.size+j<i *I.size+I.size:=by omega
      _=(i+1) *I.size:=by rw [Nat.succ_mul]
      _≤o.xs.length *I.size:=Nat.mul_le_mul_right _ hi
    rw [Nat.zero_add]
    unfold ic
    simp only [hb,wA,and_self,if_true]
    rw [List.getElem?_take]
    simp only [hj,if_true,List.getElem?_drop]
   ·intro i hi
    obtain ⟨v1,_,h2,h3⟩:=JH i hi
    rw [h3];exact h2
end
end Dn
/-
  Arguments and results. Conditions: none.
-/
set_option linter.unusedSimpArgs false
set_option linter.unusedVariables false
namespace Dn
open Go
structure Ext (Z:Nat→Prop) (e e':Env):Prop where
 on:eS (fun _=>True) (fun _=>True) e e'
 bC: ∀b off,¬Z b→e'.φ b off=e.φ b off
theorem Ext.refl (Z:Nat→Prop) (e:Env):Ext Z e e:=⟨⟨rfl,.refl _,fun _ _=>rfl,fun f o h _=>⟨o,h,rfl,rfl⟩⟩,fun _ _ _=>rfl⟩
theorem Ext.trans {Z:Nat→Prop} {e e' RZ:Env} (h:Ext Z e e') (h':Ext Z e' RZ):Ext Z e RZ:=by
 refine ⟨⟨h'.on.key.trans h.on.key,h.on.φ.trans h'.on.φ,fun r hr=>(h'.on.B r hr).trans (h.on.B r hr),?_⟩,fun b off hb=>(h'.bC b off hb).trans (h.bC b off hb)⟩
 intro f o ho _
 obtain ⟨o1,h1,h2,h3⟩:=h'.on.dn f o ho trivial
 obtain ⟨o2,h4,h5,h6⟩:=h.on.dn f o1 h1 trivial
 exact ⟨o2,h4,h2.trans h5,h3.trans h6⟩
theorem Ext.tr {Z:Nat→Prop} {e e':Env} {w:World} (h:Ext Z e e'):Trans Z e.φ w e'.φ w:=⟨h.on.φ,fun _ _ _=>rfl,h.bC,Nat.le_refl _,.refl _⟩
theorem b8 (s:Slot):cP (fun _=>True) (fun _=>True) s:=by cases s<;>simp [cP,dQ]
def bB (key:Nat→Nat) (φ:Ph):List Value→List MV→Prop
 |vs,[]=>vs=[]
 |vs,m::ms=> ∃v r,vs=v::r∧dv key φ v m∧bB key φ r ms
theorem bB.mono {key:Nat→Nat} {φ φ':Ph} (h:j7 φ φ') {ms:List MV}: ∀{vs:List Value},bB key φ vs ms→bB key φ' vs ms:=by
 induction ms with
 |nil=>intro vs hh;exact hh
 |cons m ms ih=>intro vs hh;obtain ⟨v,r,rfl,h1,h2⟩:=hh;exact ⟨v,r,rfl,h1.mono h,ih h2⟩
theorem bB.append {key:Nat→Nat} {φ:Ph} {ms ns:List MV}: ∀{vs us:List Value},bB key φ vs ms→bB key φ us ns→bB key φ (vs++us) (ms++ns):=by
 induction ms with
 |nil=>intro vs us h h';cases h;simpa using h'
 |cons m ms ih=>intro vs us h h';obtain ⟨v,r,rfl,h1,h2⟩:=h;exact ⟨v,r++us,rfl,h1,ih h2 h'⟩
section
variable {P:Program} {c:Ctx} {Z:aW} {e:Env} {st:St} {a:Act} {w w':World} {R:Type} {r:R} {Q:Exit→Act→World→Prop} {o:Oper}
theorem jE {l:ap} {vs:List Value} {K:MV→St→Option R} (h:bj c Z e st a w) (hl:aB e vs l) (hK:iQ st l K=some r):
 ∃e' bc m,bj c Z e' bc a w∧Ext Z e e'∧bc.fr=st.fr∧fK e'.key e'.φ vs m∧K m bc=some r∧(lG l=true→e'=e∧bc=st)∧(∀f,l= .own f→ ∃o,ar st.az f=some o∧m= .list o.xs)∧((∀x,l≠ .hs x)→m.one=true):=by
 cases l with
 |un=>simp [iQ] at hK
 |p m=>exact ⟨e,st,m,h,.refl _ _,rfl,hl.2,hK,fun _=>⟨rfl,rfl⟩,by simp,fun _=>hl.1⟩
 |hs x=>have hl:vs=aV x:=hl;subst hl;exact ⟨e,st,.h x,h,.refl _ _,rfl,.h x,hK,fun _=>⟨rfl,rfl⟩,by simp,fun hx=>absurd rfl (hx x)⟩
 |nil=>
  have hl:vs=[.slice none 0 0]:=hl
  subst hl
  exact ⟨e,st,.list [],h,.refl _ _,rfl,.list none 0 [] 0 0 0 (fun _=>[]) (by simp) (by simp) (by simp) (by simp) (by simp),hK,fun hp=>by simp [lG] at hp,fun _ he=>(by cases he),fun _=>rfl⟩
 |mp s es=>simp [iQ] at hK
 |own f=>
  simp only [iQ] at hK
  cases hf:ar st.az f with
  |none=>simp [hf] at hK
  |some o=>
   simp only [hf] at hK
   have pw:f∉Z.bF∨o.ck=true:=by
    cases hz:o.ck with
    |true=>exact .inr rfl
    |false=>
     refine .inl (fun hm=> ?_)
     rw [←h.defers.2.2.1,←aU] at hm
     simp [hz,hm] at hK
   obtain ⟨φ',h1,h2,h3,h4,_⟩:=freeze h hf pw
   obtain ⟨v,rfl,hv,hE⟩:=hl
   have hE:=hE o (by rw [h.m];exact hf)
   subst hE
   have MI:Ext Z e {e with φ:=φ',m:=bo e.m f ⟨o.ty,true,o.xs⟩}:=by
    refine ⟨⟨rfl,h1,fun _ _=>rfl,?_⟩,h2⟩
    intro f2 o2 bG _
    have bG:ar (bo e.m f ⟨o.ty,true,o.xs⟩) f2=some o2:=bG
    rw [aL] at bG
    by_cases cH:f2=f
    ·subst cH;simp at bG;subst bG;exact ⟨o,by rw [h.m];exact hf,rfl,rfl⟩
    ·simp only [cH,if_false] at bG;exact ⟨o2,bG,rfl,rfl⟩
   cases hz:o.ck with
   |true=>
    simp only [hz,cond_true] at hK
    have R0:bo st.az f ⟨o.ty,true,o.xs⟩=st.az:=by
     rw [←hz];exact ED hf
    rw [R0] at h3
    exact ⟨_,st,.list o.xs,h3,MI,rfl,h4,hK,fun hp=>by simp [lG] at hp,fun _ he=>by cases he;exact ⟨o,hf,rfl⟩,fun _=>rfl⟩
   |false=>
    simp only [hz,cond_false] at hK
    cases hn:aT st.bF f with
    |true=>simp [hn] at hK
    |false=>
     simp only [hn,cond_false,hO] at hK
     exact ⟨_,_,.list o.xs,h3,MI,rfl,h4,hK,fun hp=>by simp [lG] at hp,fun _ he=>by cases he;exact ⟨o,hf,rfl⟩,fun _=>rfl⟩
theorem fU {ls:List ap}: ∀{e:Env} {st:St} {vs:List Value} {K:List MV→St→Option R},bj c Z e st a w→al e vs ls→jB st ls K=some r→
 ∃e' bc ms,bj c Z e' bc a w∧Ext Z e e'∧bc.fr=st.fr∧dp e'.key e'.φ vs ms∧K ms bc=some r∧(dM ls=true→e'=e∧bc=st)∧(∀ps,jN ls ms=some ps→al e' vs ps∧dM ps=true):=by
 induction ls with
 |nil=>intro e st vs K h hl hK;cases hl;exact ⟨e,st,[],h,.refl _ _,rfl,.nil,hK,fun _=>⟨rfl,rfl⟩,fun ps hp=>by simp [jN] at hp;subst hp;exact ⟨rfl,rfl⟩⟩
 |cons l ls ih=>
  intro e st vs K h hl hK
  obtain ⟨v,u,rfl,h1,h2⟩:=hl
  simp only [jB] at hK
  obtain ⟨e1,ca,m,pf,wB,tZ,pz,eX,Px,_,eN⟩:=jE h h1 hK
  obtain ⟨e2,ch,ms,EG,Cu,MJ,yD,lz,DZ,qZ⟩:=ih pf (h2.on wB.on (fun l _ f _=>trivial)) eX
  have YJ:fK e2.key e2.φ v m:=by
   have:=pz.mono Cu.on.φ
   rw [←Cu.on.key] at this;exact this
  refine ⟨e2,ch,m::ms,EG,wB.trans Cu,MJ.trans tZ,.cons v m u ms ?_ yD,lz,?_,?_⟩
  ·have:=pz.mono Cu.on.φ
   rw [←Cu.on.key] at this;exact this
  ·intro hp
   simp only [dM,Bool.and_eq_true] at hp
   obtain ⟨q1,q2⟩:=Px hp.1
   obtain ⟨q3,q4⟩:=DZ hp.2
   exact ⟨q3.trans q1,q4.trans q2⟩
  ·intro ps hp
   cases hq:jN ls ms with
   |none=>cases l<;>simp [jN,hq] at hp
   |some q=>
    obtain ⟨g1,g2⟩:=qZ q hq
    by_cases hh: ∃x,l= .hs x
    ·obtain ⟨x,rfl⟩:=hh
     simp [jN,hq] at hp
     subst hp
     exact ⟨⟨v,u,rfl,h1,g1⟩,by simp [dM,lG,g2]⟩
    ·have eN:=eN (fun x hx=>hh ⟨x,hx⟩)
     have A7:ps= .p m::q:=by cases l<;>simp [jN,hq] at hp<;>first|exact hp.symm|exact absurd ⟨_,rfl⟩ hh
     subst A7
     exact ⟨⟨v,u,rfl,⟨eN,YJ⟩,g1⟩,by simp [dM,lG,g2]⟩
theorem gG {s:Slot} {v:Value} {K:MV→St→Option R} (h:bj c Z e st a w) (hl:ae e v s) (hK:fM st s K=some r):
 ∃e' bc m,bj c Z e' bc a w∧Ext Z e e'∧bc.fr=st.fr∧dv e'.key e'.φ v m∧K m bc=some r:=by
 cases s with
 |sc l=>
  simp only [fM] at hK
  cases l with
  |un=>simp [iQ] at hK
  |hs x=>
   simp only [ae] at hl
   exact ⟨e,st,.h x,h,.refl _ _,rfl,by simpa [dv,aV] using hl,hK⟩
  |p m=>
   simp only [ae] at hl
   refine ⟨e,st,m,h,.refl _ _,rfl,?_,hK⟩
   obtain ⟨h1,h2⟩:=hl
   cases m<;>simp [MV.one] at h1<;>exact ⟨rfl,h2⟩
  |nil=>
   simp only [ae] at hl
   obtain ⟨e',bc,m,q1,q2,q3,q4,q5,q6,_⟩:=jE h hl hK
   have hl:[v]=[Value.slice none 0 0]:=hl
   refine ⟨e,st,.list [],h,.refl _ _,rfl,⟨rfl,?_⟩,hK⟩
   rw [hl]
   exact .list none 0 [] 0 0 0 (fun _=>[]) (by simp) (by simp) (by simp) (by simp) (by simp)
  |mp s es=>simp [iQ] at hK
  |own f=>
   simp only [ae] at hl
   simp only [iQ] at hK
   cases hf:ar st.az f with
   |none=>simp [hf] at hK
   |some o=>
    obtain ⟨e',bc,m,q1,q2,q3,q4,q5,q6,q7⟩:=jE (l:= .own f) h hl (by simpa only [iQ,hf] using hK)
    obtain ⟨o2,_,rfl⟩:=q7.1 f rfl
    exact ⟨e',bc,.list o2.xs,q1,q2,q3,⟨rfl,q4⟩,q5⟩
 |ag cs=>
  simp only [ae] at hl
  obtain ⟨arr,hv,hl⟩:=hl
  simp only [fM] at hK
  obtain ⟨e',bc,ms,q1,q2,q3,q4,q5,_⟩:=fU h hl hK
  exact ⟨e',bc,.agg ms,q1,q2,q3,⟨arr,hv,q4⟩,q5⟩
 |rp cs off=>
  simp only [ae] at hl
  obtain ⟨aN,q,vs,hv,jP,hp,tY⟩:=hl
  simp only [fM] at hK
  cases hb:Nat.beq off 0 with
  |false=>simp [hb] at hK
  |true=>
   simp only [hb,cond_true] at hK
   have h0:=Nat.eq_of_beq_eq_true hb
   subst h0
   obtain ⟨e',bc,ms,q1,q2,q3,q4,q5,q6⟩:=fU h jP hK
   obtain ⟨rfl,rfl⟩:=q6.1 hp
   refine ⟨e',bc,.rp ms,q1,q2,q3,⟨rfl,?_⟩,q5⟩
   rw [hv]
   exact .rp aN (q+0) vs ms q4 (by simpa using tY)
 |_=>simp [fM] at hK
theorem kc {ss:List Slot}: ∀{e:Env} {st:St} {vs:List Value} {K:List MV→St→Option R},bj c Z e st a w→(∃f:Unit→List Value,f ()=vs∧vs.length=ss.length∧ ∀(i:Nat) (v:Value) (s:Slot),vs[i]? =some v→ss[i]? =some s→ae e v s)→
 nM st ss K=some r→ ∃e' bc ms,bj c Z e' bc a w∧Ext Z e e'∧bc.fr=st.fr∧bB e'.key e'.φ vs ms∧K ms bc=some r:=by
 induction ss with
 |nil=>intro e st vs K h hl hK;obtain ⟨f,_,hlen,_⟩:=hl;have:=List.eq_nil_of_length_eq_zero hlen;subst this;exact ⟨e,st,[],h,.refl _ _,rfl,rfl,hK⟩
 |cons s ss ih=>
  intro e st vs K h hl hK
  obtain ⟨f,_,hlen,cW⟩:=hl
  cases vs with
  |nil=>simp at hlen
  |cons v vs=>
   simp only [nM] at hK
   obtain ⟨e1,ca,m,q1,q2,q3,q4,q5⟩:=gG h (cW 0 v s rfl rfl) hK
   obtain ⟨e2,ch,ms,p1,p2,p3,p4,p5⟩:=ih (vs:=vs) q1 ⟨fun _=>vs,rfl,by simpa using hlen,fun i v s h1 h2=>(cW (i+1) v s (by simpa using h1) (by simpa using h2)).on q2.on (b8 s)⟩ q5
   refine ⟨e2,ch,m::ms,p1,q2.trans p2,p3.trans q3,⟨v,vs,rfl,?_,p4⟩,p5⟩
   have:=q4.mono p2.on.φ
   rw [←p2.on.key] at this;exact this
end
end Dn
/-
  Parts of structs, lengths, the least and the greatest, places of elements. Conditions: none.
-/
set_option linter.unusedSimpArgs false
set_option linter.unusedVariables false
namespace Dn
open Go
section
variable {P:Program} {c:Ctx} {Z:aW} {e:Env} {st:St} {a:Act} {w w':World} {R:Type} {K:St→Option R} {r:R} {Q:Exit→Act→World→Prop} {o:Oper}
theorem zH {t:TypeId} {I:TI} (hr:iP c.ti P t I) (hc:I.bO=[]):
 ((I.st=true∨I.size=32)∧ ∀w:World,(isAgg t).run P w= .ok true w)∨(I.st=false∧I.size=1∧ ∀w:World,(isAgg t).run P w= .ok false w):=by
 rcases hr.agg hc with ⟨d,hu,hd,hh⟩|⟨d,hu,hd,h1,h2⟩
 ·refine .inl ⟨hh.imp id (·.2),fun w=> ?_⟩
  unfold isAgg;rw [Sem.run_bind,run_underlying hu w];cases d<;>simp_all [TypeDesc.isRow]
 ·refine .inr ⟨h1,h2,fun w=> ?_⟩
  unfold isAgg;rw [Sem.run_bind,run_underlying hu w];cases d<;>simp_all [TypeDesc.isRow]
theorem JI {t:TypeId} {I:TI} {cs:List ap} {off:Nat} {arr:Array Value} {K':Slot→Option R} (hr:iP c.ti P t I) (hc:I.bO=[])
 (hv:al e arr.toList cs) (hK:eC I cs off K'=some r):
 ∃v s,(∀w:World,(Go.part t arr off).run P w= .ok v w)∧ae e v s∧bD st.fr s∧K' s=some r:=by
 obtain ⟨i,hi,hs,_⟩:=hr.info hc
 have ext: ∀v1 v2 v3:List Value,arr.toList=v1++v2++v3→v1.length=off→(arr.extract off (off+v2.length))=v2.toArray:=by
  intro v1 v2 v3 h1 h2
  apply Array.toList_inj.1
  rw [Array.toList_extract,h1,List.extract_eq_take_drop,List.append_assoc,←h2,List.drop_left]
  simp
 unfold eC at hK
 cases cY:I.st with
 |true=>
  simp only [cY,cond_true] at hK
  cases hp:Dn.part cs off I.size with
  |none=>simp [hp] at hK
  |some ds=>
   simp only [hp] at hK
   obtain ⟨v1,v2,v3,h0,h1,h2,h3⟩:=zE hp hv
   rcases zH (P:=P) hr hc with ⟨_,Pq⟩|⟨hf,_⟩
   ·refine ⟨.agg v2.toArray,.ag ds,?_,?_,trivial,hK⟩
    ·have hx:=ext v1 v2 v3 h0 h1
     rw [h2] at hx
     simp [Go.part,Pq,Go.sizeOf,typeInfo,hi,hs,hx]
    ·simp only [ae];exact ⟨_,rfl,by simpa using h3⟩
   ·rw [cY] at hf;cases hf
 |false=>
  simp only [cY,cond_false] at hK
  cases hp:cut cs off with
  |none=>simp [hp] at hK
  |some ds=>
   cases ds with
   |nil=>simp [hp] at hK
   |cons l ls=>
    simp only [hp] at hK
    cases hb:Nat.beq l.w I.size with
    |false=>simp [hb] at hK
    |true=>
     simp only [hb,cond_true] at hK
     have hw:=Nat.eq_of_beq_eq_true hb
     obtain ⟨v1,v2,h0,h1,h2⟩:=pq hp hv
     obtain ⟨u,u2,rfl,h3,h4⟩:=h2
     have Xq:u.length=I.size:=by rw [h3.width,hw]
     rcases zH (P:=P) hr hc with ⟨hh,Pq⟩|⟨_,Xr,Pq⟩
     ·refine ⟨.agg u.toArray,.sc l,?_,h3.slot (.inr ⟨rfl,?_⟩),trivial,hK⟩
      ·have hx:=ext v1 u u2 (by rw [h0,List.append_assoc]) h1
       rw [Xq] at hx
       simp [Go.part,Pq,Go.sizeOf,typeInfo,hi,hs,hx]
      ·rcases hh with hh|hh
       ·rw [cY] at hh;cases hh
       ·rw [hw,hh]
     ·obtain ⟨v,rfl⟩:=List.length_eq_one_iff.1 (by rw [Xq,Xr])
      refine ⟨v,.sc l,?_,h3.slot (.inl ⟨rfl,?_⟩),trivial,hK⟩
      ·have:arr[off]? =some v:=by
        have:arr[off]? =arr.toList[off]? :=by simp
        rw [this,h0,List.getElem?_append_right (by omega),h1];simp
       simp [Go.part,Pq,this]
      ·rw [hw,Xr]
theorem Py {t:TypeId} {x:Operand} {f:Nat} {I:TI} (ho:o.op= .field t x f) (hI:c.tv t=some I) (hT:fc P c.ti) (h:bj c Z e st a w)
 (hK:Pc c I f (aq c st x) (fun s=>aH c st o.dst s K)=some r):Rd P c Z K r e a w o (fun _=>True):=by
 obtain ⟨hx,iO⟩:=h.eval x
 obtain ⟨iN,hc⟩:=bq hI
 obtain ⟨d,i,h1,h2,h3,h4⟩:=hT t I iN
 generalize aq c st x=s at hx hK iO
 unfold Pc at hK
 split at hK
 ·rename_i q y cs cY hq hy
  simp only [ae] at hx
  obtain ⟨arr,hx,jP⟩:=hx
  cases hJ:c.tv y with
  |none=>simp [hJ] at hK
  |some J=>
   simp only [hJ] at hK
   obtain ⟨Ud,Oh⟩:=bq hJ
   obtain ⟨v,s,bx,h5,h6,h7⟩:=JI (P:=P) (st:=st) (hT y J Ud) Oh jP hK
   refine dF (v:=v) h ?_ h5 h6 h7
   cases d<;>simp only [kI] at h4
   case struct fs=>
    obtain ⟨_,_,_,Mh,bG,_⟩:=h4
    rw [←Mh,List.getElem?_map] at hq
    rw [←bG,List.getElem?_map] at hy
    cases hf:fs.toList[f]? with
    |none=>simp [hf] at hq
    |some fl=>
     simp [hf] at hq hy
     subst hq;subst hy
     have Mi:fs[f]? =some fl:=by simpa using hf
     simp [execOp,ho,hx,Instr.field,run_underlying h1,Mi,asAgg,bx]
   all_goals (exfalso;simp_all)
 ·simp at hK
theorem TI.ig {I:TI} {t:TypeId} (hr:iP c.ti P t I) (h:I.qS=true):P.underlying t=some (.slice I.elem)∧ ∃E,c.ti I.elem=some E∧E.bO=[]∧0<E.size:=by
 unfold TI.qS at h
 split at h
 ·rename_i cY hl
  obtain ⟨d,i,h1,h2,h3,h4⟩:=hr
  cases d<;>simp only [kI,hl,cY] at h4<;>first|(exfalso;simp_all;done)|skip
  obtain ⟨_,_,_,rfl,hE,_⟩:=h4
  exact ⟨h1,hE⟩
 ·cases h
theorem TI.wC {I:TI} {t:TypeId} (hr:iP c.ti P t I) (h:I.IF=true):P.underlying t=some .string:=by
 unfold TI.IF at h
 split at h
 ·rename_i cY hl
  obtain ⟨d,i,h1,h2,h3,h4⟩:=hr
  cases d<;>simp only [kI,hl,cY] at h4<;>first|(exfalso;simp_all;done)|skip
  exact h1
 ·cases h
theorem wD {v:Value} {xs:List MV} (h:ae e v (.sc (.p (.list xs)))): ∃ad cap,v= .slice ad xs.length cap∧xs.length≤cap:=by
 simp only [ae,aB] at h
 obtain ⟨_,h⟩:=h
 generalize hv:[v]=vs at h
 cases h
 exact ⟨_,_,by simpa using hv,by assumption⟩
theorem ke {f:Nat} {w':hH} {v:Value} (h:bj c Z e st a w) (hv:ae e v (.sc (.own f))) (hf:ar st.az f=some w'):v=e.E f∧ ∃ad cap,v= .slice ad w'.xs.length cap∧w'.xs.length≤cap:=by
 simp only [ae] at hv
 obtain ⟨u,hu,_,hE⟩:=hv
 simp at hu;subst hu
 have hE:=hE w' (by rw [h.m];exact hf)
 refine ⟨hE,?_⟩
 obtain ⟨I,cells,_,_,cq,_⟩:=(h.dn f w' hf).row
 rcases cq.2 with ⟨h1,h2⟩|⟨g,cap,dN,h1,_,_,h2,_⟩
 ·exact ⟨none,0,by rw [hE,h1,h2],by omega⟩
 ·exact ⟨_,cap,by rw [hE,h1],h2⟩
theorem dG {l:List Operand}:dO c st l=l.map (aq c st):=by
 induction l with
 |nil=>rfl
 |cons x r ih=>simp [dO,ih]
theorem Pz {cl:Call} {t:TypeId} {I:TI} (ho:o.op= .call cl) (hb:cl.callee= .builtin .len) (ha:cl.argTypes.toList=[t]) (hI:c.tv t=some I) (hT:fc P c.ti) (h:bj c Z e st a w)
 (hK:Jc I st (dO c st cl.args.toList) (fun s=>aH c st o.dst s K)=some r):Rd P c Z K r e a w o (fun _=>True):=by
 obtain ⟨iN,hc⟩:=bq hI
 have hr:=hT t I iN
 have B8:cl.argTypes= #[t]:=by rw [←Array.toList_inj,ha]
 rw [dG] at hK
 have go: ∀x,cl.args.toList=[x]→ ∀n:Nat,(∃b:ByteArray,a.eval x= .string b∧b.size=n∧P.underlying t=some .string)∨(∃ad cap,a.eval x= .slice ad n cap∧ ∃el,P.underlying t=some (.slice el))→
  aH c st o.dst (.sc (.p (.i .i64 n))) K=some r→Rd P c Z K r e a w o (fun _=>True):=by
  intro x hx n wE hK
  have Hl:cl.args= #[x]:=by rw [←Array.toList_inj,hx]
  refine dF h ?_ (j9 .i64 (n:Int)) trivial hK
  rcases wE with ⟨b,h1,h2,h3⟩|⟨ad,cap,h1,el,h3⟩
  ·simp [execOp,ho,resolve,hb,invoke,builtin,Builtin.len_,B8,Hl,run_underlying h3,h1,goInt,h2]
  ·simp [execOp,ho,resolve,hb,invoke,builtin,Builtin.len_,B8,Hl,run_underlying h3,h1,goInt]
 cases hl:cl.args.toList with
 |nil=>rw [hl] at hK;simp [Jc] at hK
 |cons x ys=>
  rw [hl] at hK
  cases ys with
  |cons y zs=>simp only [List.map_cons] at hK;unfold Jc at hK;split at hK<;>simp_all
  |nil=>
   simp only [List.map_cons,List.map_nil] at hK
   obtain ⟨hx,_⟩:=h.eval x
   generalize aq c st x=s at hx hK
   unfold Jc at hK
   split at hK
   ·rename_i l hs
    simp at hs;subst hs
    cases hS:I.IF with
    |false=>simp [hS] at hK
    |true=>
     simp only [hS,cond_true] at hK
     obtain ⟨b,vq,rfl⟩:=uM hx
     exact go x hl _ (.inl ⟨b,vq,by show b.data.size=_;exact (Array.length_toList).symm,TI.wC hr hS⟩) hK
   ·rename_i l hs
    simp at hs;subst hs
    cases hS:I.qS with
    |false=>simp [hS] at hK
    |true=>
     simp only [hS,cond_true] at hK
     obtain ⟨ad,cap,hv,_⟩:=wD hx
     exact go x hl _ (.inr ⟨ad,cap,hv,_,(TI.ig hr hS).1⟩) hK
   ·rename_i hs
    simp at hs;subst hs
    cases hS:I.qS with
    |false=>simp [hS] at hK
    |true=>
     simp only [hS,cond_true] at hK
     simp only [ae] at hx
     have hx:[a.eval x]=[Value.slice none 0 0]:=hx
     simp at hx
     exact go x hl 0 (.inr ⟨none,0,hx,_,(TI.ig hr hS).1⟩) hK
   ·rename_i f hs
    simp at hs;subst hs
    cases hS:I.qS with
    |false=>simp [hS] at hK
    |true=>
     simp only [hS,cond_true] at hK
     cases hf:ar st.az f with
     |none=>simp [hf] at hK
     |some w'=>
      simp only [hf] at hK
      obtain ⟨_,ad,cap,hv,_⟩:=ke h hx hf
      exact go x hl _ (.inr ⟨ad,cap,hv,_,(TI.ig hr hS).1⟩) hK
   ·simp at hK
end
end Dn
/-
  Values as leaves; places of elements; the least and the greatest; parts of slices. Conditions: none.
-/
set_option linter.unusedSimpArgs false
set_option linter.unusedVariables false
namespace Dn
open Go
section
variable {P:Program} {c:Ctx} {Z:aW} {e:Env} {st:St} {a:Act} {w w':World} {R:Type} {K:St→Option R} {r:R} {Q:Exit→Act→World→Prop} {o:Oper}
structure Oj (e:Env) (k:Kd) (vs:List Value) (m:MV) (l:ap):Prop where
 R1:fK e.key e.φ vs m→aB e vs l
 IR:lG l=true
 mv:aY [l]=some [m]
 one: ∀m',l= .p m'→m'.one=true
 wid:l.w=vp [k]
theorem gq {k:Kd} {m:MV} {vs:List Value} {K':ap→Option R} (hK:eB k m K'=some r): ∃l,Oj e k vs m l∧K' l=some r:=by
 have mk: ∀m:MV,m.one=true→(vp [k]=1)→K' (.p m)=some r→ ∃l,Oj e k vs m l∧K' l=some r:=
  fun m h1 h2 h3=>⟨.p m,⟨fun h=>⟨h1,h⟩,rfl,rfl,fun m' e=>by cases e;exact h1,h2.symm⟩,h3⟩
 cases k with
 |b=>unfold eB gB at hK;cases m<;>simp at hK;exact mk _ rfl rfl hK
 |s=>unfold eB gS at hK;cases m<;>simp at hK;exact mk _ rfl rfl hK
 |l=>unfold eB gL at hK;cases m<;>simp at hK;exact mk _ rfl rfl hK
 |i k=>
  unfold eB gI at hK;cases m<;>simp at hK
  rename_i k' n
  by_cases hk:k'=k
  ·subst hk;simp at hK;exact mk _ rfl rfl hK
  ·simp [hk] at hK
 |h=>
  unfold eB gH at hK;cases m<;>simp at hK
  rename_i x
  refine ⟨.hs x,⟨?_,rfl,rfl,by simp,rfl⟩,hK⟩
  intro h;cases h;rfl
 |raw=>unfold eB gR at hK;cases m<;>simp at hK<;>exact mk _ rfl rfl hK
theorem q0 {l:ap} {ls:List ap} {m:MV} {ms:List MV} (h1:aY [l]=some [m]) (h2:aY ls=some ms):aY (l::ls)=some (m::ms):=by
 cases l<;>simp [aY] at h1⊢ <;>simp [h2,h1]
structure MK (e:Env) (ks:List Kd) (vs:List Value) (ms:List MV) (ls:List ap):Prop where
 R1:dp e.key e.φ vs ms→al e vs ls
 IR:dM ls=true
 mv:aY ls=some ms
 one: ∀m',ap.p m'∈ls→m'.one=true
 wid:pj ls=vp ks
theorem Hn (k:Kd) (ks:List Kd):vp (k::ks)=vp [k]+vp ks:=by cases k<;>simp [vp]
theorem nW {ks:List Kd}: ∀{ms:List MV} {vs:List Value} {K':List ap→Option R},lE ks ms K'=some r→ ∃ls,MK e ks vs ms ls∧K' ls=some r:=by
 induction ks with
 |nil=>
  intro ms vs K' hK
  cases ms with
  |nil=>exact ⟨[],⟨fun h=>by cases h;rfl,rfl,rfl,by simp,rfl⟩,hK⟩
  |cons m ms=>simp [lE,gN] at hK
 |cons k ks ih=>
  intro ms vs K' hK
  cases ms with
  |nil=>simp [lE,gC] at hK
  |cons m ms=>
   simp only [lE,gC] at hK
   have h1:=fun vs=>gq (e:=e) (vs:=vs) hK
   obtain ⟨l,hl,eX⟩:=h1 []
   obtain ⟨ls,Cv,lz⟩:=ih (vs:=[]) eX
   refine ⟨l::ls,⟨?_,?_,q0 hl.mv Cv.mv,?_,?_⟩,lz⟩
   ·intro h
    have g:al e vs (l::ls):=by
     apply h.leaves (q0 hl.mv Cv.mv)
     intro m' hm
     rcases List.mem_cons.1 hm with hm|hm
     ·exact hl.one m' hm.symm
     ·exact Cv.one m' hm
    exact g
   ·simp [dM,hl.IR,Cv.IR]
   ·intro m' hm
    rcases List.mem_cons.1 hm with hm|hm
    ·exact hl.one m' hm.symm
    ·exact Cv.one m' hm
   ·rw [Hn,←hl.wid,←Cv.wid];rfl
theorem ML {t:TypeId} {I:TI} (hr:iP c.ti P t I) (hc:I.bO=[]):vp I.lay=I.size:=by
 obtain ⟨d,i,h1,h2,h3,h4⟩:=hr
 cases d<;>simp only [kI] at h4
 case struct fs=>exact h4.2.2.1.2
 case tuple ts=>exact absurd hc h4.2.1
 case slice el=>obtain ⟨_,_,hs,_,_,_,_,k,hl,rfl⟩:=h4;rw [hl,hs];rfl
 case array n el=>obtain ⟨_,_,hs,_,_,_,hl,_⟩:=h4;rw [hl,hs];rfl
 all_goals (obtain ⟨_,_,hs,hl,_⟩:=h4;rw [hl,hs];rfl)
theorem uN {E:TI} {t:TypeId} {x:MV} {K':List ap→Option R} (hr:iP c.ti P t E) (hc:E.bO=[]) (hK:AU E x K'=some r):
 ∃cs,wb E.st x cs∧dM cs=true∧pj cs=E.size∧K' cs=some r:=by
 have Xs:=ML hr hc
 unfold AU at hK
 cases cY:E.st with
 |true=>
  simp only [cY,cond_true] at hK
  unfold gA at hK
  split at hK
  ·rename_i ms
   obtain ⟨ls,Cv,eX⟩:=nW (e:=⟨fun n=>n,fun _ _=>none,fun _=>undef,fun _=>0,[]⟩) (vs:=[]) hK
   exact ⟨ls,⟨⟨ms,Cv.mv,by simp [mr]⟩,Cv.one⟩,Cv.IR,by rw [Cv.wid,Xs],eX⟩
  ·simp at hK
 |false=>
  simp only [cY,cond_false] at hK
  split at hK
  ·rename_i k hl
   obtain ⟨l,tT,eX⟩:=gq (e:=⟨fun n=>n,fun _ _=>none,fun _=>undef,fun _=>0,[]⟩) (vs:=[]) hK
   refine ⟨[l],⟨⟨[x],tT.mv,by simp [mr]⟩,?_⟩,by simp [dM,tT.IR],?_,eX⟩
   ·intro m hm;simp at hm;exact tT.one m hm.symm
   ·rw [←Xs,hl,←tT.wid];rfl
  ·simp at hK
theorem PA {t:TypeId} {x y:Operand} {I E:TI} (ho:o.op= .indexAddr t x y) (hI:c.tv t=some I) (hE:c.tv I.elem=some E) (hT:fc P c.ti) (h:bj c Z e st a w)
 (hK:Pd c st I E (aq c st x) (aq c st y) (fun s=>aH c st o.dst s K)=some r):Rd P c Z K r e a w o (fun _=>True):=by
 obtain ⟨hx,iO⟩:=h.eval x
 obtain ⟨hy,_⟩:=h.eval y
 obtain ⟨iN,hc⟩:=bq hI
 obtain ⟨qN,sj⟩:=bq hE
 have hr:=hT t I iN
 have UT:=hT _ E qN
 obtain ⟨iE,R2,R3,_⟩:=UT.info sj
 have run: ∀k n aN off len cap,P.underlying t=some (.slice I.elem)→a.eval y= .int k n→a.eval x= .slice (some ⟨aN,off,none⟩) len cap→0≤n→n.toNat<len→
  ∀w:World,(execOp a.eval o).run P w= .ok (.value (.pointer (some ⟨aN,off+n.toNat *E.size,none⟩))) w:=by
  intro k n aN off len cap hu hy hx h0 h1 w
  have h2:n<(len:Int):=by omega
  simp [execOp,ho,hx,hy,Instr.indexAt,asIntOf,run_underlying hu,h0,h2,Go.sizeOf,typeInfo,R2,R3,Addr.add_mid]
 generalize aq c st x=sx at hx hK iO
 generalize aq c st y=sy at hy hK
 unfold Pd at hK
 split at hK
 ·rename_i xs k n
  cases hL:I.qS with
  |false=>simp [hL] at hK
  |true=>
   simp only [hL,cond_true] at hK
   obtain ⟨h0,m,hm,hK⟩:=Cs hK
   obtain ⟨cs,h1,h2,h3,hK⟩:=uN UT sj hK
   have dE:n.toNat<xs.length:=(List.getElem?_eq_some_iff.1 hm).1
   simp only [ae,aB] at hx
   obtain ⟨_,hx⟩:=hx
   generalize hv:[a.eval x]=vs at hx
   cases hx with
   |list ad cap _ aN off Co f g1 g2 g3 g4 g5=>
   simp at hv
   have cW:=g5 n.toNat dE
   rw [(List.getElem?_eq_some_iff.1 hm).2] at cW
   have jP:=cW.wq h1
   have Rf:Co=E.size:=by rw [←h3,←jP.width,g3 _ dE]
   rw [g2 (by omega)] at hv
   refine dF (s:= .rp cs 0) h (run k n aN off _ cap (TI.ig hr hL).1 (eT hy) hv h0 dE) ?_ trivial hK
   simp only [ae]
   refine ⟨aN,off+n.toNat *E.size,f n.toNat,rfl,jP,h2,?_⟩
   intro j hj
   rw [g3 _ dE] at hj
   rw [←Rf];exact g4 n.toNat j dE hj
 ·rename_i f k n
  cases hf:ar st.az f with
  |none=>simp [hf] at hK
  |some fo=>
   simp only [hf] at hK
   cases hL:I.qS with
   |false=>simp [hL] at hK
   |true=>
    simp only [hL,cond_true] at hK
    obtain ⟨h0,m,hm,hK⟩:=Cs hK
    obtain ⟨cs,h1,h2,h3,hK⟩:=uN UT sj hK
    have dE:n.toNat<fo.xs.length:=(List.getElem?_eq_some_iff.1 hm).1
    obtain ⟨hv,_⟩:=ke h hx hf
    obtain ⟨J,cells,_,_,cq,_⟩:=(h.dn f fo hf).row
    rcases cq.2 with ⟨h5,h6⟩|⟨g,cap,dN,h5,_⟩
    ·omega
    ·rw [h5] at hv
     refine dF (s:= .ep f n.toNat 0 E.st cs) h (run k n g 0 _ cap (TI.ig hr hL).1 (eT hy) hv h0 dE) ?_ trivial hK
     simp only [ae]
     intro o2 bG
     rw [h.m,hf] at bG
     cases bG
     exact ⟨g,cap,h5,⟨m,hm,h1⟩,by rw [h3,Nat.zero_add,Nat.add_zero]⟩
 ·rename_i r' o' k n
  cases cY:I.st with
  |true=>simp [cY] at hK
  |false=>
   simp only [cY,cond_false] at hK
   split at hK
   ·rename_i hl
    obtain ⟨D5,hK⟩:=b7 hK
    obtain ⟨h0,h1⟩:=of_decide_eq_true D5
    obtain ⟨d,i,hu,h2,h3,h4⟩:=hr
    cases d<;>simp only [kI,hl,cY] at h4<;>first|(exfalso;simp_all;done)|skip
    obtain ⟨_,_,_,rfl,_,⟨ie,Ok,RS,pf⟩,_⟩:=h4
    simp only [ae] at hx
    refine dF (s:= .hp r' o' n.toNat) (v:= .pointer (some ⟨e.B r',o'+n.toNat,none⟩)) h ?_ ?_ iO hK
    ·simp [execOp,ho,hx,eT hy,Instr.indexAt,asIntOf,run_underlying hu,h0,h1,Go.sizeOf,typeInfo,RS,pf,Instr.sureAddr,Addr.add_mid]
    ·simp only [ae];exact ⟨trivial,by omega⟩
   ·simp at hK
 ·simp at hK
theorem Ho {mx:Bool} {k:IntKind} {ss:List Slot}: ∀{vs:List Value} {n:Int} {m:MV},I6 mx k n ss=some m→vs.length=ss.length→
 (∀(i:Nat) (v:Value) (s:Slot),vs[i]? =some v→ss[i]? =some s→ae e v s)→
 ∃v,(∀w:World,(vs.foldlM (if mx then Builtin.max2 else Builtin.min2) (.int k n)).run P w= .ok v w)∧ae e v (.sc (.p m)):=by
 induction ss with
 |nil=>
  intro vs n m hm hl hs
  have:=List.eq_nil_of_length_eq_zero hl
  subst this
  simp [I6] at hm
  subst hm
  exact ⟨.int k n,by simp,j9 k n⟩
 |cons s ss ih=>
  intro vs n m hm hl hs
  cases vs with
  |nil=>simp at hl
  |cons v vs=>
   have h0:=hs 0 v s rfl rfl
   unfold I6 at hm
   split at hm
   ·rename_i dq;simp at dq
   ·rename_i k' y r' dq
    simp at dq
    obtain ⟨rfl,rfl⟩:=dq
    by_cases hk:k'=k
    ·subst hk
     simp only [decide_true,cond_true] at hm
     obtain ⟨u,h1,h2⟩:=ih hm (by simpa using hl) (fun i v s h1 h2=>hs (i+1) v s (by simpa using h1) (by simpa using h2))
     refine ⟨u,fun w=> ?_,h2⟩
     have h1:=h1 w
     rw [eT h0]
     cases mx
     ·simp only [cond_false,RE] at h1
      simp [Builtin.min2] at h1⊢
      exact h1
     ·simp only [cond_true,imax] at h1
      simp [Builtin.max2] at h1⊢
      exact h1
    ·simp [hk] at hm
   ·simp at hm
theorem zI {cl:Call} {mx:Bool} {m:MV} (ho:o.op= .call cl) (hb:cl.callee= .builtin (if mx then .max else .min)) (h:bj c Z e st a w)
 (hm:Ef mx (dO c st cl.args.toList)=some m) (hK:aH c st o.dst (.sc (.p m)) K=some r):Rd P c Z K r e a w o (fun _=>True):=by
 rw [dG] at hm
 cases hl:cl.args.toList with
 |nil=>rw [hl] at hm;simp [Ef] at hm
 |cons x xs=>
  rw [hl] at hm
  simp only [List.map_cons] at hm
  obtain ⟨hx,_⟩:=h.eval x
  generalize aq c st x=s at hx hm
  unfold Ef at hm
  split at hm
  ·rename_i k n ss dq
   simp at dq
   obtain ⟨rfl,rfl⟩:=dq
   obtain ⟨v,h1,h2⟩:=Ho (e:=e) (P:=P) (vs:=xs.map a.eval) hm (by simp) (by
    intro i v s h1 h2
    simp only [List.getElem?_map,Option.map_eq_some_iff] at h1 h2
    obtain ⟨y,h3,rfl⟩:=h1
    obtain ⟨y',h4,rfl⟩:=h2
    rw [h3] at h4;cases h4
    exact (h.eval y).1)
   have dZ:(cl.args.map a.eval).toList= .int k n::xs.map a.eval:=by simp [hl,eT hx]
   refine dF (v:=v) h ?_ h2 trivial hK
   intro w
   have h1:=h1 w
   cases mx
   ·simp at hb h1
    have JJ: ∀ts t,(Builtin.min_ ts t (cl.args.map a.eval)).run P w= .ok v w:=by intro ts t;unfold Builtin.min_;rw [dZ];exact h1
    simp [execOp,ho,resolve,hb,invoke,builtin,JJ]
   ·simp at hb h1
    have JJ: ∀ts t,(Builtin.max_ ts t (cl.args.map a.eval)).run P w= .ok v w:=by intro ts t;unfold Builtin.max_;rw [dZ];exact h1
    simp [execOp,ho,resolve,hb,invoke,builtin,JJ]
  ·simp at hm
end
end Dn
/-
  Parts of slices and texts. Conditions: none.
-/
set_option linter.unusedSimpArgs false
set_option linter.unusedVariables false
namespace Dn
open Go
section
variable {P:Program} {c:Ctx} {Z:aW} {e:Env} {st:St} {a:Act} {w w':World} {R:Type} {K:St→Option R} {r:R} {Q:Exit→Act→World→Prop} {o:Oper}
theorem nX {b:Bool} {lo hi:Option Operand} {len cap:Nat} {K':Nat→Nat→Option R} (h:bj c Z e st a w) (sE:len≤cap) (hK:sliceB (fC c st lo) (fC c st hi) len K'=some r):
 ∃l h',l≤h'∧h'≤len∧(lo=none→l=0)∧(∀w:World,(Instr.sliceBounds b len cap (lo.map a.eval) (hi.map a.eval) none).run P w= .ok (l,h',cap) w)∧K' l h'=some r:=by
 have PB: ∀(k:IntKind) (n:Int) (y:Nat) (cd:BoundsCode),0≤n→n≤(y:Int)→ ∀w:World,(Instr.sliceBound (.int k n) y cd).run P w= .ok n.toNat w:=by
  intro k n y cd h1 h2 w
  simp [Instr.sliceBound,asIntOf,h1,h2]
 unfold sliceB at hK
 cases lo with
 |none=>
  cases hi with
  |none=>
   simp only [fC] at hK
   exact ⟨0,len,by omega,by omega,fun _=>rfl,by simp [Instr.sliceBounds],hK⟩
  |some y=>
   obtain ⟨hy,_⟩:=h.eval y
   simp only [fC] at hK
   generalize aq c st y=sy at hy hK
   split at hK<;>first|(simp_all;done)|skip
   ·rename_i k n h1 h2
    simp at h2;subst h2
    obtain ⟨D5,hK⟩:=b7 hK
    obtain ⟨h3,h4,h5⟩:=of_decide_eq_true D5
    refine ⟨0,n.toNat,by omega,by omega,fun _=>rfl,?_,hK⟩
    have:=PB k n cap (if b then .sliceAcap else .sliceAlen) h4 (by omega)
    cases b<;>simp at this<;>simp [Instr.sliceBounds,eT hy,this]
 |some x=>
  obtain ⟨hx,_⟩:=h.eval x
  cases hi with
  |none=>
   simp only [fC] at hK
   generalize aq c st x=sx at hx hK
   split at hK<;>first|(simp_all;done)|skip
   ·rename_i k n h1 h2
    simp at h1;subst h1
    obtain ⟨D5,hK⟩:=b7 hK
    obtain ⟨h3,h4,h5⟩:=of_decide_eq_true D5
    refine ⟨n.toNat,len,by omega,by omega,by simp,?_,by simpa using hK⟩
    have:=PB k n len .sliceB h3 h4
    simp [Instr.sliceBounds,eT hx,this]
  |some y=>
   obtain ⟨hy,_⟩:=h.eval y
   simp only [fC] at hK
   generalize aq c st x=sx at hx hK
   generalize aq c st y=sy at hy hK
   split at hK<;>first|(simp_all;done)|skip
   ·rename_i k n k' n' h1 h2
    simp at h1 h2;subst h1;subst h2
    obtain ⟨D5,hK⟩:=b7 hK
    obtain ⟨h3,h4,h5⟩:=of_decide_eq_true D5
    refine ⟨n.toNat,n'.toNat,by omega,by omega,by simp,?_,hK⟩
    have t1:=PB k' n' cap (if b then .sliceAcap else .sliceAlen) (by omega) (by omega)
    have t2:=PB k n n'.toNat .sliceB h3 (by omega)
    cases b<;>simp at t1<;>simp [Instr.sliceBounds,eT hx,eT hy,t1,t2]
theorem fK.sub {key:Nat→Nat} {φ:Ph} {ad:Option Addr} {len cap:Nat} {xs:List MV} {l h' size:Nat} (hv:fK key φ [.slice ad len cap] (.list xs)) (hl:l≤h') (hh:h'≤xs.length)
 (hw:l≠0→ ∀x∈xs,x.w=size):len=xs.length∧len≤cap∧fK key φ [.slice (if cap=l then ad else ad.map (·.add (l *size))) (h'-l) (cap-l)] (.list ((xs.take h').drop l)):=by
 generalize si:[Value.slice ad len cap]=vs at hv
 cases hv with
 |list Xt Pv _ aN off Co f g1 g2 g3 g4 g5=>
 simp at si
 obtain ⟨rfl,rfl,rfl⟩:=si
 refine ⟨rfl,g1,?_⟩
 have hlen:((xs.take h').drop l).length=h'-l:=by simp;omega
 have R4:fK key φ [.slice (if cap=l then ad else ad.map (·.add (l *size))) ((xs.take h').drop l).length (cap-l)] (.list ((xs.take h').drop l)):=by
  have fP: ∀i,i<((xs.take h').drop l).length→i+l<xs.length:=by intro i hi;omega
  have Rc: ∀(i:Nat) (hi:i<((xs.take h').drop l).length),((xs.take h').drop l)[i]=xs[i+l]'(fP i hi):=by
   intro i hi
   simp [Nat.add_comm]
  refine .list _ _ _ aN (off+l *Co) Co (fun i=>f (i+l)) (by rw [hlen];omega) ?_ ?_ ?_ ?_
  ·intro h0
   have cz:cap≠l:=by omega
   have PC:0<xs.length:=by omega
   rw [g2 PC]
   simp only [cz,if_false,Option.map_some,Option.some.injEq]
   by_cases Ue:l=0
   ·subst Ue;simp [Addr.add_mid]
   ·have Rf:Co=size:=by
     have h3:=g5 0 PC
     rw [←g3 0 PC,h3.width]
     exact hw Ue _ (List.getElem_mem PC)
    rw [Rf,Addr.add_mid]
  ·intro i hi;exact g3 _ (fP i hi)
  ·intro i j hi hj
   have:=g4 (i+l) j (fP i hi) hj
   rw [←this]
   congr 1
   rw [Nat.add_mul];omega
  ·intro i hi
   rw [Rc i hi]
   exact g5 (i+l) (fP i hi)
 rw [hlen] at R4
 exact R4
theorem wF {n:Nat} {l:List MV} (h:kE n l=true): ∀x∈l,x.w=n:=by
 intro x hx
 unfold kE at h
 rw [List.all_eq_true] at h
 exact Nat.eq_of_beq_eq_true (h x hx)
theorem aS.kE {key:Nat→Nat} {φ:Ph} {size:Nat} {xs:List MV}: ∀{cs:List Value},aS key φ size cs xs→ ∀x∈xs,x.w=size:=by
 induction xs with
 |nil=>intro cs _ x hx;simp at hx
 |cons y ys ih=>
  intro cs h x hx
  obtain ⟨v,q,rfl,h1,h2,h3⟩:=h
  rcases List.mem_cons.1 hx with rfl|hx
  ·rw [←h2.width,h1]
  ·exact ih h3 x hx
theorem JK {t:TypeId} {x:Operand} {lo hi:Option Operand} {I:TI} (ho:o.op= .slice t x lo hi none) (hI:c.tv t=some I) (hT:fc P c.ti) (h:bj c Z e st a w)
 (hK:Eg c I st (aq c st x) (fC c st lo) (fC c st hi) (fun s st=>aH c st o.dst s K)=some r):Rd P c Z K r e a w o (fun _=>True):=by
 obtain ⟨hx,iO⟩:=h.eval x
 obtain ⟨iN,hc⟩:=bq hI
 have hr:=hT t I iN
 have run: ∀{el E},P.underlying t=some (.slice el)→c.ti el=some E→E.bO=[]→ ∀ad len cap l h',a.eval x= .slice ad len cap→(∀w:World,(Instr.sliceBounds true len cap (lo.map a.eval) (hi.map a.eval) none).run P w= .ok (l,h',cap) w)→
  ∀w:World,(execOp a.eval o).run P w= .ok (.value (.slice (if cap=l then ad else ad.map (·.add (l *E.size))) (h'-l) (cap-l))) w:=by
  intro el E hu hE sj ad len cap l h' hv hb w
  obtain ⟨iE,R2,R3,_⟩:=(hT _ E hE).info sj
  simp [execOp,ho,Instr.sliceAt,Instr.slice,run_underlying hu,hv,hb,Go.sizeOf,typeInfo,R2,R3]
 generalize hs:aq c st x=s at hx hK iO
 unfold Eg at hK
 split at hK
 ·rename_i bs
  cases hS:I.IF with
  |false=>simp [hS] at hK
  |true=>
   simp only [hS,cond_true] at hK
   have hu:=TI.wC hr hS
   obtain ⟨b,hb,rfl⟩:=uM hx
   have kK:b.data.toList.length=b.size:=by rw [Array.length_toList];rfl
   rw [kK] at hK
   obtain ⟨l,h',h1,h2,_,h3,hK⟩:=nX (P:=P) (b:=false) (cap:=b.size) h (Nat.le_refl _) hK
   refine dF (s:= .sc (.p (.s ((b.data.toList.take h').drop l)))) (v:= .string (b.extract l h')) h ?_ ?_ trivial hK
   ·simp [execOp,ho,Instr.sliceAt,Instr.slice,run_underlying hu,hb,h3]
   ·have:=Jz (e:=e) (b.extract l h')
    have h5:(b.extract l h').data.toList=(b.data.toList.take h').drop l:=by
     rw [ByteArray.data_extract,Array.toList_extract,List.extract_eq_take_drop,List.drop_take]
    rwa [h5] at this
 ·rename_i xs
  cases hS:I.qS with
  |false=>simp [hS] at hK
  |true=>
   simp only [hS,cond_true] at hK
   obtain ⟨hu,_⟩:=TI.ig hr hS
   cases hE:c.tv I.elem with
   |none=>simp [hE] at hK
   |some E=>
    simp only [hE] at hK
    obtain ⟨qN,sj⟩:=bq hE
    have lz:(lo≠none→kE E.size xs=true)∧sliceB (fC c st lo) (fC c st hi) xs.length (fun l h'=>aH c st o.dst (.sc (.p (.list ((xs.take h').drop l)))) K)=some r:=by
     cases lo with
     |none=>exact ⟨by simp,hK⟩
     |some y=>simp only [fC] at hK⊢;obtain ⟨h1,h2⟩:=b7 hK;exact ⟨fun _=>h1,h2⟩
    obtain ⟨hw,hK⟩:=lz
    obtain ⟨ad,cap,hv,sE⟩:=wD hx
    obtain ⟨l,h',h1,h2,h0,h3,hK⟩:=nX (P:=P) (b:=true) (cap:=cap) h sE hK
    simp only [ae,aB] at hx
    rw [hv] at hx
    obtain ⟨_,_,cW⟩:=fK.sub (size:=E.size) hx.2 h1 h2 (fun hl=>wF (hw (fun hn=>hl (h0 hn))))
    refine dF (s:= .sc (.p (.list ((xs.take h').drop l)))) h (run hu qN sj ad _ cap l h' hv h3) ?_ trivial hK
    simp only [ae,aB]
    exact ⟨rfl,cW⟩
 ·rename_i f
  cases hf:ar st.az f with
  |none=>simp [hf] at hK
  |some fo=>
   simp only [hf] at hK
   cases hS:I.qS&&Nat.beq fo.ty I.elem with
   |false=>simp [hS] at hK
   |true=>
    simp only [hS,cond_true] at hK
    simp only [Bool.and_eq_true] at hS
    obtain ⟨hu,E,qN,sj,_⟩:=TI.ig hr hS.1
    have dR:=Nat.eq_of_beq_eq_true hS.2
    obtain ⟨hvE,ad,cap,hv,sE⟩:=ke h hx hf
    simp only [ae] at hx
    obtain ⟨J,cells,hJ,_,_,iW,_⟩:=(h.dn f fo hf).row
    rw [dR,qN] at hJ
    cases hJ
    have YK:=iW.kE
    obtain ⟨e',bc,m,pg,MI,vt,cW,hK,_,hm⟩:=jE h hx hK
    obtain ⟨o2,bG,rfl⟩:=hm.1 f rfl
    rw [hf] at bG
    cases bG
    obtain ⟨l,h',h1,h2,h0,h3,hK⟩:=nX (P:=P) (b:=true) (cap:=cap) h sE hK
    rw [hv] at cW
    obtain ⟨_,_,cW⟩:=fK.sub (size:=E.size) cW h1 h2 (fun _=>YK)
    refine Ew (s:= .sc (.p (.list ((fo.xs.take h').drop l)))) (fun w _=>run hu qN sj ad _ cap l h' hv h3 w) pg MI.tr (.of ?_ trivial) hK
    simp only [ae,aB]
    exact ⟨rfl,cW⟩
 ·cases hS:I.qS with
  |false=>simp [hS] at hK
  |true=>
   simp only [hS,cond_true] at hK
   obtain ⟨hu,E,qN,sj,_⟩:=TI.ig hr hS
   simp only [ae] at hx
   have hx:[a.eval x]=[Value.slice none 0 0]:=hx
   simp at hx
   obtain ⟨l,h',h1,h2,_,h3,hK⟩:=nX (P:=P) (b:=true) (cap:=0) h (Nat.le_refl _) hK
   have h4:h'=0:=by omega
   have h5:l=0:=by omega
   subst h4;subst h5
   refine dF (s:= .sc .nil) h (run hu qN sj none 0 0 0 0 hx h3) ?_ trivial hK
   simp only [ae,if_true]
   rfl
 ·simp at hK
theorem MM {t:TypeId} {x y z:Operand} {I:TI} (ho:o.op= .slice t x none (some y) (some z)) (hI:c.tv t=some I) (hT:fc P c.ti) (h:bj c Z e st a w)
 (hK:Ja I (aq c st x) (aq c st y) (aq c st z) (fun s=>aH c st o.dst s K)=some r):Rd P c Z K r e a w o (fun _=>True):=by
 obtain ⟨hx,iO⟩:=h.eval x
 obtain ⟨hy,_⟩:=h.eval y
 obtain ⟨hz,_⟩:=h.eval z
 obtain ⟨iN,hc⟩:=bq hI
 have hr:=hT t I iN
 generalize aq c st x=s at hx hK iO
 generalize aq c st y=s2 at hy hK
 generalize aq c st z=s3 at hz hK
 unfold Ja at hK
 split at hK
 ·rename_i l n n'
  cases hS:I.qS with
  |false=>simp [hS] at hK
  |true=>
   simp only [hS,cond_true] at hK
   obtain ⟨D5,lz⟩:=b7 hK
   obtain ⟨rfl,rfl⟩:=of_decide_eq_true D5
   obtain ⟨hu,E,qN,sj,_⟩:=TI.ig hr hS
   obtain ⟨iE,R2,R3,_⟩:=(hT _ E qN).info sj
   obtain ⟨ad,cap,hv,sE⟩:=wD hx
   simp only [ae,aB] at hx
   rw [hv] at hx
   have PB: ∀(m:Nat) (cd:BoundsCode),l.length≤m→ ∀w:World,(Instr.sliceBound (.int .i64 (l.length:Int)) m cd).run P w= .ok l.length w:=by
    intro m cd hm w
    have:(l.length:Int)≤(m:Int):=by omega
    simp [Instr.sliceBound,asIntOf,this]
   have hb: ∀w:World,(Instr.sliceBounds true l.length cap none (some (.int .i64 (l.length:Int))) (some (.int .i64 (l.length:Int)))).run P w= .ok (0,l.length,l.length) w:=by
    intro w
    have b1:=PB cap .slice3Acap sE
    have b2:=PB l.length .slice3B (Nat.le_refl _)
    simp [Instr.sliceBounds,b1,b2]
   have cW:fK e.key e.φ [.slice ad l.length l.length] (.list l):=by
    have h2:=hx.2
    generalize si:[Value.slice ad l.length cap]=vs at h2
    cases h2 with
    |list Xt Pv _ aN off Co f g1 g2 g3 g4 g5=>
    simp at si
    obtain ⟨rfl,_⟩:=si
    exact .list _ _ _ aN off Co f (Nat.le_refl _) g2 g3 g4 g5
   refine dF (s:= .sc (.p (.clip l))) (v:= .slice ad l.length l.length) h (fun w=> ?_) ?_ trivial lz
   ·simp [execOp,ho,Instr.sliceAt,Instr.slice,run_underlying hu,hv,eT hy,eT hz,hb,Go.sizeOf,typeInfo,R2,R3]
    intro cz
    cases ad with
    |none=>rfl
    |some b=>simp [Addr.add]
   ·simp only [ae,aB]
    exact ⟨rfl,.clip _ _ cW⟩
 ·simp at hK
end
end Dn
/-
  Stores. Conditions: none.
-/
set_option linter.unusedSimpArgs false
set_option linter.unusedVariables false
namespace Dn
open Go
section
variable {P:Program} {c:Ctx} {Z:aW} {e e':Env} {st:St} {a:Act} {w w':World} {R:Type} {K:St→Option R} {r:R} {Q:Exit→Act→World→Prop} {o:Oper}
theorem wG (x:ez) (i:Nat) (b:UInt8) (hi:i<32):aV (x.put i b)=(aV x).take i++[.int .u8 (b.toNat:Int)]++(aV x).drop (i+1):=by
 have:aV (x.put i b)=(aV x).set i (.int .u8 (b.toNat:Int)):=by simp [aV,ez.put,List.map_set]
 have hl:=bN x
 rw [this,List.set_eq_take_append_cons_drop,if_pos (by omega)]
 simp
structure JL (e e':Env):Prop where
 key:e'.key=e.key
 φ:j7 e.φ e'.φ
 dn: ∀f o',ar e'.m f=some o'→(∃o,ar e.m f=some o)∧e'.E f=e.E f
theorem aB.JM (h:JL e e') {vs:List Value} {l:ap} (hr:aB e vs l):aB e' vs l:=by
 cases l with
 |p m=>exact ⟨hr.1,by have:=hr.2.mono h.φ;rw [←h.key] at this;exact this⟩
 |own f=>
  obtain ⟨v,rfl,hv,hf⟩:=hr
  refine ⟨v,rfl,hv,fun o' rJ=> ?_⟩
  obtain ⟨⟨o,ho⟩,hE⟩:=h.dn f o' rJ
  rw [hE];exact hf o ho
 |_=>exact hr
theorem al.JM (h:JL e e') {cs:List ap}: ∀{vs:List Value},al e vs cs→al e' vs cs:=by
 induction cs with
 |nil=>intro vs hr;exact hr
 |cons l r ih=>intro vs hr;obtain ⟨v,w,rfl,h1,h2⟩:=hr;exact ⟨v,w,rfl,h1.JM h,ih h2⟩
def Gc (f:Nat) (s:Slot):Slot:=match s with
 | .ep g i o b cs=>bif Nat.beq g f then .sc .un else .ep g i o b cs
 |s=>s
theorem mT (f:Nat) (r:Fr) (t:Nat):ah (pn f r) t=Gc f (ah r t):=wg (Gc f) rfl r t
theorem Hp (f:Nat) (s:Slot):bI (Gc f s)=bI s:=by
 cases s<;>simp only [Gc]
 rename_i g _ _ _ _
 cases Nat.beq g f<;>rfl
theorem ae.JM {f:Nat} {T:Nat→Prop} (h:JL e e') (my:eS (· ≠f) T e e') {v:Value} {s:Slot} (hT:cP (fun _=>True) T s) (hr:ae e v s):ae e' v (Gc f s):=by
 cases s with
 |sc l=>
  simp only [Gc]
  cases l with
  |un=>simp [ae]
  |hs x=>simpa [ae] using hr
  |p m=>simp only [ae] at hr⊢;exact hr.JM h
  |nil=>simp only [ae] at hr⊢;exact hr.JM h
  |mp s es=>simp only [ae] at hr⊢;exact hr
  |own f=>simp only [ae] at hr⊢;exact hr.JM h
 |ag cs=>simp only [Gc,ae] at hr⊢;obtain ⟨arr,h1,h2⟩:=hr;exact ⟨arr,h1,h2.JM h⟩
 |ep g i o b cs=>
  simp only [Gc]
  cases hb:Nat.beq g f
  ·simp only [cond_false]
   refine hr.on my ?_
   simp only [cP];intro e;subst e;simp [cm] at hb
  ·simp [ae]
 |_=>exact hr.on my hT
theorem ei.JM (h:JL e e') (hk:e'.key=e.key) (hp:j7 e.φ e'.φ) {o:Obj} {cs:List ap} (hr:ei e o cs):ei e' o cs:=by
 cases o with
 |cells arr T z=>exact ⟨hr.1,hr.2.JM h⟩
 |map es clock=>exact hr
 |stringIter x pos=>exact hr
 |_=>exact hr.elim
theorem aS.set {key:Nat→Nat} {φ:Ph} {size:Nat} {xs:List MV}: ∀{cs:List Value} {i:Nat} {x:MV} {v':List Value},aS key φ size cs xs→i<xs.length→v'.length=size→fK key φ v' x→
 aS key φ size (cs.take (i *size)++v'++cs.drop (i *size+size)) (xs.set i x):=by
 induction xs with
 |nil=>intro cs i x v' _ hi;simp at hi
 |cons y ys ih=>
  intro cs i x v' h hi hl hr
  obtain ⟨v,q,rfl,h1,h2,h3⟩:=h
  cases i with
  |zero=>simp only [Nat.zero_mul,List.take_zero,List.nil_append,Nat.zero_add,List.set_cons_zero];exact ⟨v',q,by rw [List.drop_left' h1],hl,hr,h3⟩
  |succ i=>
   have:=ih h3 (by simpa using hi) hl hr
   rw [List.set_cons_succ]
   refine ⟨v,_,?_,h1,h2,this⟩
   rw [Nat.succ_mul,List.take_append,List.drop_append,List.take_of_length_le (by omega),List.drop_of_length_le (by omega)]
   rw [show i *size+size-v.length=i *size by omega,show i *size+size+size-v.length=i *size+size by omega]
   simp
theorem bj.PD {f:Nat} {fo:hH} {I:TI} {g i:Nat} {cap:Nat} {dN:Array Value} {v' cells:List Value} {x:MV} (h:bj c Z e st a w) (hf:ar st.az f=some fo) (hz:fo.ck=false)
 (hI:c.ti fo.ty=some I) (Pw:I.bO=[]) (hE:e.E f= .slice (some ⟨g,0,none⟩) fo.xs.length cap) (cq:w.ownsRow 0 fo.ty I.size (e.E f) fo.xs.length cells) (hg:w.heap[g]? =some (.cells dN fo.ty (0,0)))
 (iW:aS e.key e.φ I.size cells fo.xs)
 (hi:i<fo.xs.length) (hl:v'.length=I.size) (hr:fK e.key e.φ v' x) (pw:f∉Z.bF):
 bj c Z {e with m:=bo e.m f ⟨fo.ty,false,fo.xs.set i x⟩} {st with fr:=pn f st.fr,az:=bo st.az f ⟨fo.ty,false,fo.xs.set i x⟩} a
  (w.setRow g (dN.toList.take (i *I.size)++v'++dN.toList.drop (i *I.size+I.size)).toArray)∧Z g:=by
 have hb:(e.E f).ownBlock=some g:=by rw [hE];rfl
 have hZ:Z g∧ ∀off,e.φ g off=none:=by
  obtain ⟨J,nV,_,_,_,_,h5⟩:=(h.dn f fo hf).row
  obtain ⟨h6,h7⟩:=h5 g hb
  refine ⟨B6 h6 pw,fun off=> ?_⟩
  cases hp:e.φ g off with
  |none=>rfl
  |some u=>have:=(h7.1 off u hp).1;rw [hz] at this;cases this
 have kK:=setRow_size w g (dN.toList.take (i *I.size)++v'++dN.toList.drop (i *I.size+I.size)).toArray
 have Xu:JL e {e with m:=bo e.m f ⟨fo.ty,false,fo.xs.set i x⟩}:=by
  refine ⟨rfl,.refl _,fun f2 o2 bG=>⟨?_,rfl⟩⟩
  have bG:ar (bo e.m f ⟨fo.ty,false,fo.xs.set i x⟩) f2=some o2:=bG
  rw [aL] at bG
  by_cases cH:f2=f
  ·exact ⟨fo,by rw [cH,h.m];exact hf⟩
  ·simp only [cH,if_false] at bG;exact ⟨o2,bG⟩
 have my:eS (· ≠f) (fun _=>True) e {e with m:=bo e.m f ⟨fo.ty,false,fo.xs.set i x⟩}:=by
  refine ⟨rfl,.refl _,fun _ _=>rfl,fun f2 o2 bG cz=> ?_⟩
  have bG:ar (bo e.m f ⟨fo.ty,false,fo.xs.set i x⟩) f2=some o2:=bG
  rw [aL] at bG
  simp only [cz,if_false] at bG;exact ⟨o2,bG,rfl,rfl⟩
 have fP: ∀f2 o2,ar (bo st.az f ⟨fo.ty,false,fo.xs.set i x⟩) f2=some o2→ ∃o3,ar st.az f2=some o3:=by
  intro f2 o2 bG
  rw [aL] at bG
  by_cases cH:f2=f
  ·exact ⟨fo,by rw [cH];exact hf⟩
  ·simp only [cH,if_false] at bG;exact ⟨o2,bG⟩
 refine ⟨⟨h.defers,h.size,by show bo e.m f _=bo st.az f _;rw [h.m],h.key,?_,?_,?_,?_,?_,?_,?_,?_,fun b hb=>h.bC b (by omega)⟩,hZ.1⟩
 ·show (ay (pn f st.fr)).Nodup
  have:ay (pn f st.fr)=ay st.fr:=by simp [ay,pn]
  rw [this];exact h.nodup
 ·intro t
  show bp Z _ _ t _ (ah (pn f st.fr) t)
  rw [mT]
  have hs:=h.slot t
  have MH:=h.bf t
  generalize ah st.fr t=s at hs MH
  by_cases ua: ∃cs,s= .box cs
  ·obtain ⟨cs,rfl⟩:=ua
   simp only [bp,Gc] at hs⊢
   refine ⟨hs.1,hs.2.bC,?_,hs.2.free⟩
   obtain ⟨o2,h1,h2⟩:=hs.2.obj
   refine ⟨o2,?_,h2.JM Xu rfl (.refl _)⟩
   rw [setRow_other _ _ _ _ (by intro eb;exact MH cs f fo rfl hf (by rw [hb,←eb]))];exact h1
  ·have pg:ae e (a.tmps.getD t undef) s:=by cases s<;>simp only [bp] at hs<;>first|exact hs|exact absurd ⟨_,rfl⟩ ua
   have h2:=pg.JM (f:=f) Xu my (b8 s)
   generalize D6:Gc f s=s2 at h2
   cases s2<;>first|exact h2|(exfalso;simp [ae] at h2)
 ·intro t
  show bD (pn f st.fr) (ah (pn f st.fr) t)
  rw [mT]
  have iO:=h.root t
  generalize ah st.fr t=s at iO
  have hk: ∀q,bI (ah (pn f st.fr) q)=bI (ah st.fr q):=fun q=>by rw [mT,Hp]
  cases s with
  |ptr q o=>show bI (ah (pn f st.fr) q)=true;rw [hk];exact iO
  |hp q o i=>show bI (ah (pn f st.fr) q)=true;rw [hk];exact iO
  |oX q=>show bI (ah (pn f st.fr) q)=true;rw [hk];exact iO
  |ep g' _ _ _ _=>simp only [Gc];cases Nat.beq g' f<;>trivial
  |_=>trivial
 ·intro f2 o2 bG
  have bG:ar (bo st.az f ⟨fo.ty,false,fo.xs.set i x⟩) f2=some o2:=bG
  rw [aL] at bG
  by_cases cH:f2=f
  ·subst cH
   simp at bG
   subst bG
   obtain ⟨hlen,wE⟩:=cq
   refine ⟨I,cells.take (i *I.size)++v'++cells.drop (i *I.size+I.size),hI,Pw,⟨?_,?_⟩,?_,?_⟩
   ·have hle:i *I.size+I.size≤fo.xs.length *I.size:=by rw [←Nat.succ_mul];exact Nat.mul_le_mul_right _ hi
    simp only [List.length_append,List.length_take,List.length_drop,List.length_set];omega
   ·have hle:i *I.size+I.size≤fo.xs.length *I.size:=by rw [←Nat.succ_mul];exact Nat.mul_le_mul_right _ hi
    rcases wE with ⟨h1,_⟩|⟨g2,R5,YL,h1,_,h3,h4,h5,h6,h7⟩
    ·rw [hE] at h1;simp at h1
    ·rw [hE] at h1
     simp at h1
     obtain ⟨rfl,rfl⟩:=h1
     rw [hg] at h3
     simp at h3
     subst h3
     refine .inr ⟨g,cap,(dN.toList.take (i *I.size)++v'++dN.toList.drop (i *I.size+I.size)).toArray,by rw [hE];simp,by omega,setRow_heap _ _ _ _ _ _ hg,by simpa using h4,h5,?_,?_⟩
     ·have lL:dN.toList.length=dN.size:=by simp
      have YM:fo.xs.length *I.size≤cap *I.size:=Nat.mul_le_mul_right _ h4
      simp only [List.size_toArray,List.length_append,List.length_take,List.length_drop,lL];omega
     ·have lL:dN.toList.length=dN.size:=by simp
      have YM:fo.xs.length *I.size≤cap *I.size:=Nat.mul_le_mul_right _ h4
      simp only [List.length_set]
      rw [←h7]
      have e1:(dN.toList.take (fo.xs.length *I.size)).take (i *I.size)=dN.toList.take (i *I.size):=by rw [List.take_take,Nat.min_eq_left (by omega)]
      have e2:(dN.toList.take (fo.xs.length *I.size)).drop (i *I.size+I.size)=(dN.toList.drop (i *I.size+I.size)).take (fo.xs.length *I.size-(i *I.size+I.size)):=by rw [List.drop_take]
      rw [e1,e2]
      have e3:(dN.toList.take (i *I.size)++v').length=i *I.size+I.size:=by simp only [List.length_append,List.length_take,lL];omega
      show List.take _ (dN.toList.take (i *I.size)++v'++dN.toList.drop (i *I.size+I.size))=_
      rw [List.take_append,e3,List.take_of_length_le (by omega)]
   ·exact iW.set hi hl hr
   ·intro aN fg
    rw [hb] at fg
    cases fg
    exact ⟨.inr hZ.1,fun off u hu=>(by have hu:e.φ g off=some u:=hu;rw [hZ.2] at hu;cases hu),fun _ hf=>Bool.noConfusion hf⟩
  ·simp only [cH,if_false] at bG
   obtain ⟨I2,nV,h1,h2,h3,h4,h5⟩:=(h.dn f2 o2 bG).row
   exact ⟨I2,nV,h1,h2,EC (fun hk=>cH (h.ff f2 f o2 fo g bG hf hk hb)) h3,h4,h5⟩
 ·intro t t' c1 c2 h1 h2 cz
  have h1:ah (pn f st.fr) t= .box c1:=h1
  have h2:ah (pn f st.fr) t'= .box c2:=h2
  rw [mT] at h1 h2
  have g1:ah st.fr t= .box c1:=by
   generalize ah st.fr t=s at h1
   cases s<;>simp only [Gc] at h1<;>first|exact h1|(simp at h1;done)|(rename_i g' _ _ _ _;cases qX:Nat.beq g' f<;>simp [qX] at h1)
  have g2:ah st.fr t'= .box c2:=by
   generalize ah st.fr t'=s at h2
   cases s<;>simp only [Gc] at h2<;>first|exact h2|(simp at h2;done)|(rename_i g' _ _ _ _;cases qX:Nat.beq g' f<;>simp [qX] at h2)
  exact h.bb t t' c1 c2 g1 g2 cz
 ·intro t c1 f2 o2 h1 h2
  have h1:ah (pn f st.fr) t= .box c1:=h1
  rw [mT] at h1
  have g1:ah st.fr t= .box c1:=by
   generalize ah st.fr t=s at h1
   cases s<;>simp only [Gc] at h1<;>first|exact h1|(simp at h1;done)|(rename_i g' _ _ _ _;cases qX:Nat.beq g' f<;>simp [qX] at h1)
  obtain ⟨o3,IK⟩:=fP f2 o2 h2
  exact h.bf t c1 f2 o3 g1 IK
 ·intro f1 f2 o1 o2 k h1 h2 h3 h4
  obtain ⟨q1,g1⟩:=fP f1 o1 h1
  obtain ⟨q2,g2⟩:=fP f2 o2 h2
  exact h.ff f1 f2 q1 q2 k g1 g2 h3 h4
 ·intro b off v hv
  have hv:e.φ b off=some v:=hv
  have cz:b≠g:=by intro eb;subst eb;rw [hZ.2] at hv;cases hv
  rw [World.cell?_of_block (setRow_other _ _ _ _ cz)];exact h.gE b off v hv
theorem al.UU {cs:List ap}: ∀{vs:List Value} {ms:List MV},al e vs cs→aY cs=some ms→dp e.key e.φ vs ms:=by
 induction cs with
 |nil=>intro vs ms h hm;cases h;simp [aY] at hm;subst hm;exact .nil
 |cons l r ih=>
  intro vs ms h hm
  obtain ⟨v,u,rfl,h1,h2⟩:=h
  cases hr:aY r with
  |none=>cases l<;>simp [aY,hr] at hm
  |some q=>
   cases l<;>simp [aY,hr] at hm
   ·subst hm;exact .cons v _ u q h1.2 (ih h2 hr)
   ·subst hm
    have h1:v=aV _:=h1
    subst h1
    exact .cons _ _ u q (.h _) (ih h2 hr)
theorem JN {b:Bool} {ms:List MV} {x:MV} {vs:List Value} (h:dp e.key e.φ vs ms) (hx:mr b ms=some x):fK e.key e.φ vs x:=by
 cases b with
 |true=>cases ms<;>simp [mr] at hx<;>subst hx<;>exact .agg _ _ h
 |false=>
  cases ms with
  |nil=>simp [mr] at hx
  |cons m ms=>
   cases ms with
   |cons y ys=>simp [mr] at hx
   |nil=>
    simp [mr] at hx
    subst hx
    generalize si:vs=DY at h
    cases h with
    |cons v _ u _ h1 h2=>cases h2;simpa using h1
theorem JO {t:TypeId} {x y:Operand} {I:TI} (ho:o.op= .store t x y) (hI:c.tv t=some I) (hT:fc P c.ti) (h:bj c Z e st a w)
 (hK:UI st I (aq c st x) (aq c st y) (fun st=>aH c st o.dst (.sc .un) K)=some r):o.wp P a w (Out c Z K r e.φ w) Q:=by
 obtain ⟨hx,iO⟩:=h.eval x
 obtain ⟨hy,_⟩:=h.eval y
 obtain ⟨iN,hc⟩:=bq hI
 have hr:=hT t I iN
 have go: ∀w' bc,(Instr.storeAt t (a.eval x) (a.eval y)).run P w= .ok () w'→bj c Z e bc a w'→Trans Z e.φ w e.φ w'→aH c bc o.dst (.sc .un) K=some r→o.wp P a w (Out c Z K r e.φ w) Q:=by
  intro w' bc h1 h2 h3 h4
  refine sC ?_ h2 h3 h4
  simp [execOp,ho,h1]
 generalize aq c st x=sx at hx hK iO
 generalize aq c st y=sy at hy hK
 unfold UI at hK
 cases hb:mQ (av sy)||!Nat.beq (pj (av sy)) I.size with
 |true=>simp [hb] at hK
 |false=>
  simp only [hb,cond_false] at hK
  simp only [Bool.or_eq_false_iff,Bool.not_eq_false'] at hb
  have wz:=Nat.eq_of_beq_eq_true hb.2
  have ek:0<I.size:=by
   rcases hr.agg hc with ⟨d,hu,hd,hh⟩|⟨_,_,_,_,hh⟩
   ·obtain ⟨d',i',h1,h2,h3,h4⟩:=hr
    cases d'<;>simp only [kI] at h4<;>first|omega|exact h4.2.2.1|exact absurd hc h4.2.1
   ·omega
  have cz:av sy≠[]:=by intro e0;rw [e0] at wz;simp [pj] at wz;omega
  have Uf:=qY hy hb.1 cz
  split at hK
  ·rename_i root off
   simp only [ae] at hx
   split at hK
   ·rename_i cs sD
    have mO:cE cs=false:=by cases hq:cE cs<;>simp_all
    simp only [mO,cond_false] at hK
    cases hp:putAt cs off (av sy) with
    |none=>simp [hp] at hK
    |some cT=>
     simp only [hp] at hK
     obtain ⟨w',bc,h1,h2,h3,h4⟩:=Hm (P:=P) mO hr hc h sD Uf wz hp hK
     exact go w' bc (by rw [hx];exact h1) h2 h3 h4
   ·simp at hK
  ·rename_i root off i
   simp only [ae] at hx
   obtain ⟨hx,EB⟩:=hx
   split at hK
   ·rename_i cs n sD
    have mO:cE cs=false:=by cases hq:cE cs<;>simp_all
    simp only [mO,cond_false] at hK
    split at hK
    ·rename_i x ls Ps
     unfold gI at hK
     split at hK
     ·rename_i k n
      by_cases hk:k= .u8
      ·subst hk
       simp only [decide_true,cond_true] at hK
       obtain ⟨sF,hK⟩:=b7 hK
       unfold isByte at sF
       have sF:=of_decide_eq_true sF
       have YN:=eT hy
       cases hp:putAt cs off [.hs (x.put i (UInt8.ofNat n.toNat))] with
       |none=>simp [hp] at hK
       |some cT=>
        simp only [hp] at hK
        have fF:=h.slot root
        rw [sD] at fF
        obtain ⟨arr,T,cc,jP⟩:=fF.2.cells mO
        obtain ⟨p1,p2,p3,he,h1,h2,h3⟩:=nS (ws:=aV (x.put i (UInt8.ofNat n.toNat))) hp jP ⟨_,[],by simp,rfl,rfl⟩
        obtain ⟨u1,u2,hu,h4,h5⟩:=pq Ps jP
        obtain ⟨u3,u4,rfl,h6,_⟩:=h5
        have h6:u3=aV x:=h6
        subst h6
        have hlx:=bN x
        have YO:=bN (x.put i (UInt8.ofNat n.toNat))
        have UW:p1=u1∧p2++p3=aV x++u4:=List.append_inj (by rw [←List.append_assoc,←he,hu]) (by omega)
        obtain ⟨rfl,UW⟩:=UW
        obtain ⟨rfl,rfl⟩:=List.append_inj UW (by omega)
        have kK:arr.size=p1.length+32+p3.length:=by
         have:arr.toList.length=(p1++aV x++p3).length:=by rw [he]
         simp at this
         omega
        have A8:(a.eval y).cells.toList=[.int .u8 n]:=by rw [YN];simp [Value.cells]
        have Ez:I.size=1:=by rw [←wz];rfl
        have bx:=jQ (P:=P) (w:=w) (aN:=e.B root) (off:=off+i) (v:=a.eval y) hr hc (by rw [A8,Ez];rfl) (by rw [A8];simp [Value.oneCell']) cc (by omega)
        have kb:arr.toList.take (off+i)++(a.eval y).cells.toList++arr.toList.drop (off+i+I.size)=p1++aV (x.put i (UInt8.ofNat n.toNat))++p3:=by
         rw [A8,Ez,he,wG x i _ EB,←sF,List.append_assoc p1,List.take_append,List.drop_append,List.take_append,List.drop_append]
         rw [List.take_of_length_le (by omega),List.drop_of_length_le (by omega)]
         rw [show off+i-p1.length=i by omega,show off+i+1-p1.length=i+1 by omega,show i-(aV x).length=0 by omega,show i+1-(aV x).length=0 by omega]
         simp
        rw [kb] at bx
        unfold wr at hK
        cases hn:aT st.bt root with
        |true=>simp [hn] at hK
        |false=>
         simp only [hn,cond_false,force_eq,fE] at hK
         exact go _ _ (by rw [hx];exact bx) (h.JF sD cc (by simpa using h3) (fun t=>by rw [bg]) (cn h.nodup)) (.setRow _ (B6 fF.2.bC (by rw [←h.defers.2.1,←aU,hn];simp))) hK
      ·simp [hk] at hK
     ·simp at hK
    ·simp at hK
   ·simp at hK
  ·rename_i f i off b cs
   obtain ⟨e1,ca,ms,pf,wB,tZ,pz,hK,Px,qZ⟩:=fU h Uf hK
   have hx:=hx.on wB.on (b8 _)
   cases hf:ar ca.az f with
   |none=>simp [hf] at hK
   |some fo=>
    simp only [hf] at hK
    cases hz:fo.ck with
    |true=>simp [hz] at hK
    |false=>
     simp only [hz,cond_false] at hK
     cases zG:jN (av sy) ms with
     |none=>simp [zG] at hK
     |some vs=>
      simp only [zG] at hK
      obtain ⟨si,_⟩:=qZ vs zG
      cases hp:putAt cs off vs with
      |none=>simp [hp] at hK
      |some cT=>
       simp only [hp] at hK
       cases hm:aY cT with
       |none=>simp [hm] at hK
       |some UJ=>
        simp only [hm] at hK
        cases PE:mr b UJ with
        |none=>simp [PE] at hK
        |some x'=>
         simp only [PE] at hK
         cases hn:aT ca.bF f with
         |true=>simp [hn] at hK
         |false=>
          simp only [hn,cond_false,Pg,hO] at hK
          simp only [ae] at hx
          obtain ⟨aN,cap,hE,⟨x0,PC,Rc⟩,JP⟩:=hx fo (by rw [pf.m];exact hf)
          obtain ⟨J,cells,hJ,Oh,cq,iW,_⟩:=(pf.dn f fo hf).row
          have hi:i<fo.xs.length:=(List.getElem?_eq_some_iff.1 PC).1
          obtain ⟨p1,v1,p2,UX,EA,tT,cW⟩:=iW.at PC
          have jP:=cW.wq Rc
          have Ug:=jP.width
          obtain ⟨q1,q2,q3,Hi,YP,YQ,kb⟩:=nS hp jP si
          have R6:(a.eval y).cells.toList.length=I.size:=by rw [Uf.width,wz]
          have R7:=JN (kb.UU hm) PE
          obtain ⟨hlen,wE⟩:=cq
          rcases wE with ⟨g1,_⟩|⟨g2,R5,dN,g1,g0,g3,g4,g5,g6,g7⟩
          ·rw [hE] at g1;simp at g1
          ·have R8:w.ownsRow 0 fo.ty J.size (e1.E f) fo.xs.length cells:=⟨hlen,.inr ⟨g2,R5,dN,g1,g0,g3,g4,g5,g6,g7⟩⟩
           rw [hE] at g1
           simp at g1
           obtain ⟨rfl,rfl⟩:=g1
           have YR:(q1++(a.eval y).cells.toList++q3).length=J.size:=by
            have:v1.length=(q1++q2++q3).length:=by rw [Hi]
            simp only [List.length_append] at this⊢;omega
           obtain ⟨iX,hZ⟩:=pf.PD hf hz hJ Oh hE R8 g3 iW hi YR R7 (by rw [←pf.defers.2.2.1,←aU,hn];simp)
           have JQ:dN.toList=p1++q1++q2++(q3++p2++dN.toList.drop (fo.xs.length *J.size)):=by
            have:=List.take_append_drop (fo.xs.length *J.size) dN.toList
            rw [g7,UX,Hi] at this
            refine this.symm.trans ?_
            simp
           have YS:q2.length=I.size:=by rw [YQ,R6]
           have wA:(p1++q1).length=i *J.size+off:=by simp [EA,YP]
           have YT:dN.size=(p1++q1).length+I.size+(q3++p2++dN.toList.drop (fo.xs.length *J.size)).length:=by
            have:dN.toList.length=(p1++q1++q2++(q3++p2++dN.toList.drop (fo.xs.length *J.size))).length:=by rw [←JQ]
            rw [List.length_append,List.length_append] at this
            rw [Array.length_toList] at this
            omega
           have bx:=jQ (P:=P) (w:=w) (aN:=aN) (off:=i *J.size+off) (v:=a.eval y) hr hc R6 Uf.cells g3 (by omega)
           have kM:dN.toList.take (i *J.size+off)++(a.eval y).cells.toList++dN.toList.drop (i *J.size+off+I.size)=
            dN.toList.take (i *J.size)++(q1++(a.eval y).cells.toList++q3)++dN.toList.drop (i *J.size+J.size):=by
            have t1:dN.toList.take (i *J.size+off)=p1++q1:=by
             conv=>lhs;rw [JQ,List.append_assoc (p1++q1)]
             exact List.take_left' wA
            have t2:dN.toList.drop (i *J.size+off+I.size)=q3++p2++dN.toList.drop (fo.xs.length *J.size):=by
             conv=>lhs;rw [JQ]
             exact List.drop_left' (by rw [List.length_append];omega)
            have t3:dN.toList.take (i *J.size)=p1:=by
             conv=>lhs;rw [JQ]
             simp only [List.append_assoc]
             exact List.take_left' EA
            have t4:dN.toList.drop (i *J.size+J.size)=p2++dN.toList.drop (fo.xs.length *J.size):=by
             have R9:dN.toList=(p1++(q1++q2++q3))++(p2++dN.toList.drop (fo.xs.length *J.size)):=by
              conv=>lhs;rw [JQ]
              simp
             conv=>lhs;rw [R9]
             exact List.drop_left' (by rw [List.length_append,←Hi];omega)
            rw [t1,t2,t3,t4]
            simp
           rw [kM] at bx
           have UY:i *pj cs+off=i *J.size+off:=by rw [←Ug,tT]
           refine sC (w':=w.setRow aN (dN.toList.take (i *J.size)++(q1++(a.eval y).cells.toList++q3)++dN.toList.drop (i *J.size+J.size)).toArray) ?_ iX ?_ hK
           ·rw [UY] at JP
            simp [execOp,ho,JP,bx]
           ·exact wB.tr.trans (.setRow _ hZ)
  ·simp at hK
end
end Dn
/-
  Structs and sums that are put together. Conditions: none.
-/
set_option linter.unusedSimpArgs false
set_option linter.unusedVariables false
namespace Dn
open Go
section
variable {P:Program} {c:Ctx} {Z:aW} {e e':Env} {st:St} {a:Act} {w w':World} {R:Type} {K:St→Option R} {r:R} {Q:Exit→Act→World→Prop} {o:Oper}
theorem zJ {place:Nat→Option (Nat×Nat)} {cells:Array Value} {i off:Nat} {v:Value} {rest:List (Nat×Value)} (hp:place i=some (off,v.cells.size)) (hle:off+v.cells.size≤cells.size):
 Instr.fill place cells ((i,v)::rest)=Instr.fill place (cells.toList.take off++v.cells.toList++cells.toList.drop (off+v.cells.size)).toArray rest:=by
 conv=>lhs;unfold Instr.fill
 simp only [hp]
 rw [if_neg (by simp;omega)]
 congr 1
 rw [←Array.foldl_toList,Array.toList_zipIdx]
 obtain ⟨h1,h2⟩:=Go.Great.foldl_set off v.cells.toList 0 cells
 apply Array.ext_getElem?
 intro k
 have hl:(cells.toList.take off).length=off:=by simp;omega
 have e0:=h2 k
 simp only [Nat.add_zero,Array.length_toList] at e0
 refine Eq.trans e0 ?_
 have e1:(cells.toList.take off++v.cells.toList++cells.toList.drop (off+v.cells.size)).toArray[k]? =(cells.toList.take off++v.cells.toList++cells.toList.drop (off+v.cells.size))[k]? :=by simp
 rw [e1,List.append_assoc]
 have e2:cells[k]? =cells.toList[k]? :=by simp
 by_cases h3:k<off
 ·rw [if_neg (by omega),List.getElem?_append_left (by omega),List.getElem?_take,if_pos h3,e2]
 ·rw [List.getElem?_append_right (by omega),hl]
  by_cases h4:k<off+v.cells.size
  ·rw [if_pos ⟨by omega,h4,by omega⟩,List.getElem?_append_left (by simp;omega)]
  ·rw [if_neg (by omega),List.getElem?_append_right (by simp;omega),List.getElem?_drop,e2]
   congr 1
   simp;omega
theorem EH {I:TI} {places:List (Nat×Nat)} (h:bj c Z e st a w) (zG: ∀(i q y:Nat) (J:TI),I.Cc[i]? =some q→I.G7[i]? =some y→c.tv y=some J→places[i]? =some (q,J.size)∧0<J.size) {parts:List (Nat×Operand)}:
 ∀{cs ds:List ap} {cells:Array Value},al e cells.toList cs→rE c st I parts cs=some ds→
 ∃out,Instr.fill (places.toArray[·]?) cells (parts.map fun p=>(p.1,a.eval p.2))=some out∧al e out.toList ds:=by
 induction parts with
 |nil=>intro cs ds cells hl hb;simp [rE] at hb;subst hb;exact ⟨cells,rfl,hl⟩
 |cons p ps ih=>
  intro cs ds cells hl hb
  obtain ⟨i,x⟩:=p
  simp only [rE] at hb
  split at hb
  ·rename_i q y hq hy
   cases hJ:c.tv y with
   |none=>simp [hJ] at hb
   |some J=>
    simp only [hJ] at hb
    obtain ⟨YU,ek⟩:=zG i q y J hq hy hJ
    cases hu:mQ (av (aq c st x))||!Nat.beq (pj (av (aq c st x))) J.size with
    |true=>simp [hu] at hb
    |false=>
     simp only [hu,cond_false] at hb
     simp only [Bool.or_eq_false_iff,Bool.not_eq_false'] at hu
     have wz:=Nat.eq_of_beq_eq_true hu.2
     cases hp:putAt cs q (av (aq c st x)) with
     |none=>simp [hp] at hb
     |some cT=>
      simp only [hp] at hb
      have cz:av (aq c st x)≠[]:=by intro e0;rw [e0] at wz;simp [pj] at wz;omega
      have hv:=qY (h.eval x).1 hu.1 cz
      obtain ⟨p1,p2,p3,he,h1,h2,h3⟩:=nS hp hl hv
      have hlen:(a.eval x).cells.size=J.size:=by rw [←wz,←hv.width];simp
      have kK:cells.size=p1.length+p2.length+p3.length:=by
       have:cells.toList.length=(p1++p2++p3).length:=by rw [he]
       simp at this;omega
      have EE:p2.length=(a.eval x).cells.size:=by rw [h2];simp
      have uO:=zJ (place:=(places.toArray[·]?)) (cells:=cells) (i:=i) (off:=q) (v:=a.eval x) (rest:=ps.map fun p=>(p.1,a.eval p.2)) (by rw [hlen];simpa using YU) (by omega)
      have ht:cells.toList.take q++(a.eval x).cells.toList++cells.toList.drop (q+(a.eval x).cells.size)=p1++(a.eval x).cells.toList++p3:=by
       rw [he]
       rw [List.append_assoc p1 p2 p3,List.take_left' h1,←List.append_assoc p1 p2 p3,List.drop_left' (by rw [List.length_append];omega)]
      rw [ht] at uO
      obtain ⟨out,h4,h5⟩:=ih (cells:=(p1++(a.eval x).cells.toList++p3).toArray) (by simpa using h3) hb
      exact ⟨out,by rw [List.map_cons,uO];exact h4,h5⟩
  ·simp at hb
theorem EI {parts:List (Nat×Operand)} (h:bj c Z e st a w): ∀{x:ez} {K':ez→Option R},vZ c st parts x K'=some r→
 ∃y,Instr.fill (fun i=>some (i *1,1)) (aV x).toArray (parts.map fun p=>(p.1,a.eval p.2))=some (aV y).toArray∧K' y=some r:=by
 induction parts with
 |nil=>intro x K' hb;exact ⟨x,rfl,hb⟩
 |cons p ps ih=>
  intro x K' hb
  obtain ⟨i,y⟩:=p
  simp only [vZ] at hb
  split at hb
  ·rename_i m hm
   cases hi:Nat.ble 32 i with
   |true=>simp [hi] at hb
   |false=>
    simp only [hi,cond_false] at hb
    have EB:i<32:=by
     by_cases dE:i<32
     ·exact dE
     ·have:Nat.ble 32 i=true:=Nat.ble_eq_true_of_le (by omega)
      simp_all
    unfold gI at hb
    split at hb
    ·rename_i k n
     by_cases hk:k= .u8
     ·subst hk
      simp only [decide_true,cond_true] at hb
      obtain ⟨sF,hb⟩:=b7 hb
      unfold isByte at sF
      have sF:=of_decide_eq_true sF
      obtain ⟨out,h1,h2⟩:=ih hb
      have hv:=eT (by have:=(h.eval y).1;rw [hm] at this;exact this)
      refine ⟨out,?_,h2⟩
      rw [←h1,List.map_cons]
      have D5:(a.eval y).cells= #[.int .u8 n]:=by rw [hv];simp [Value.cells]
      have uO:=zJ (place:=fun i=>some (i *1,1)) (cells:=(aV x).toArray) (i:=i) (off:=i *1) (v:=a.eval y) (rest:=ps.map fun p=>(p.1,a.eval p.2)) (by rw [D5];rfl) (by rw [D5];have:=bN x;simp;omega)
      rw [uO,wG x i _ EB,←sF,D5]
      simp
     ·simp [hk] at hb
    ·simp at hb
  ·simp at hb
theorem Hq (P:Program) (l:List Field):(∀f∈l,∃i,P.info? f.type=some i)→
 ∃places,l.mapM (fun f=>(P.info? f.type).map fun i=>(f.offset,i.size))=some places∧ ∀(k:Nat) (f:Field),l[k]? =some f→ ∃i,P.info? f.type=some i∧places[k]? =some (f.offset,i.size):=by
 induction l with
 |nil=>intro _;exact ⟨[],by simp,by simp⟩
 |cons f fs ih=>
  intro h
  obtain ⟨i,hi⟩:=h f (by simp)
  obtain ⟨ps,h1,h2⟩:=ih (fun g hg=>h g (by simp [hg]))
  refine ⟨(f.offset,i.size)::ps,by simp [List.mapM_cons,hi,h1],?_⟩
  intro k g hg
  cases k with
  |zero=>simp at hg;subst hg;exact ⟨i,hi,rfl⟩
  |succ k=>simp at hg;simpa using h2 k g hg
theorem JR {t:TypeId} {parts:Array (Nat×Operand)} {I:TI} (ho:o.op= .build t parts) (hI:c.tv t=some I) (hT:fc P c.ti) (h:bj c Z e st a w)
 (hK:(bif I.st then (match rE c st I parts.toList I.zero with|some cs=>aH c st o.dst (.ag cs) K|none=>none)
  else (match I.lay with|[.h]=>vZ c st parts.toList ez.zero fun x=>aH c st o.dst (.sc (.hs x)) K|_=>none))=some r):Rd P c Z K r e a w o (fun _=>True):=by
 obtain ⟨iN,hc⟩:=bq hI
 obtain ⟨d,i,h1,h2,h3,h4⟩:=hT t I iN
 have IU:(parts.map fun (i,x)=>(i,a.eval x)).toList=parts.toList.map fun p=>(p.1,a.eval p.2):=by simp
 have run: ∀out,P.built t (parts.toList.map fun p=>(p.1,a.eval p.2))=some out→ ∀w:World,(execOp a.eval o).run P w= .ok (.value (.agg out)) w:=by
  intro out hb w
  have:=run_build (P:=P) w t (parts.map fun (i,x)=>(i,a.eval x)) out (by rw [IU];exact hb)
  simp [execOp,ho] at this⊢
  simp [this]
 cases cY:I.st with
 |true=>
  simp only [cY,cond_true] at hK
  cases d<;>simp only [kI] at h4
  case struct fs=>
   obtain ⟨_,_,_,Mh,bG,IK,zc,hz,YV,_⟩:=h4
   cases hb:rE c st I parts.toList I.zero with
   |none=>simp [hb] at hK
   |some cs=>
    simp only [hb] at hK
    have UZ: ∃places,fs.toList.mapM (fun f=>(P.info? f.type).map fun i=>(f.offset,i.size))=some places∧
     (∀(i q y:Nat) (J:TI),I.Cc[i]? =some q→I.G7[i]? =some y→c.tv y=some J→places[i]? =some (q,J.size)∧0<J.size):=by
     obtain ⟨places,Px,DZ⟩:=Hq P fs.toList (by
      intro f hf
      obtain ⟨k,hk,rfl⟩:=List.mem_iff_getElem.1 hf
      obtain ⟨J,hJ,Oh,_⟩:=IK k fs.toList[k] (by simp at hk⊢)
      obtain ⟨i,hi,_⟩:=(hT _ J hJ).info Oh
      exact ⟨i,hi⟩)
     refine ⟨places,Px,?_⟩
     intro i q y J hq hy hJ
     rw [←Mh,List.getElem?_map] at hq
     rw [←bG,List.getElem?_map] at hy
     cases hf:fs.toList[i]? with
     |none=>simp [hf] at hq
     |some f=>
      simp [hf] at hq hy
      subst hq;subst hy
      obtain ⟨J2,Xv,U0,ek⟩:=IK i f (by simpa using hf)
      obtain ⟨Ud,_⟩:=bq hJ
      rw [Xv] at Ud
      cases Ud
      obtain ⟨i2,Mj,U1⟩:=DZ i f hf
      obtain ⟨i3,Xw,PF,_⟩:=(hT _ J Xv).info U0
      rw [Mj] at Xw
      cases Xw
      exact ⟨by rw [U1,PF],ek⟩
    obtain ⟨places,zG,PG⟩:=UZ
    obtain ⟨out,h5,h6⟩:=EH h PG (cells:=zc) (fe YV) hb
    refine dF (v:= .agg out) (s:= .ag cs) h (run out ?_) ?_ trivial hK
    ·unfold Program.built
     simp only [h2,h1,hz,zG]
     exact h5
    ·simp only [ae];exact ⟨out,rfl,h6⟩
  all_goals (exfalso;simp_all)
 |false=>
  simp only [cY,cond_false] at hK
  split at hK
  ·rename_i hl
   cases d<;>simp only [kI,hl,cY] at h4<;>first|(exfalso;simp_all;done)|skip
   obtain ⟨_,_,_,rfl,rfl,⟨ie,hu,RS,pf⟩,_,_,hz⟩:=h4
   obtain ⟨y,h5,h6⟩:=EI h hK
   refine dF (v:= .agg (aV y).toArray) (s:= .sc (.hs y)) h (run _ ?_) ?_ trivial h6
   ·unfold Program.built
    simp only [h2,h1,hz,RS,pf]
    exact h5
   ·simp only [ae]
  ·simp at hK
end
end Dn
/-
  A family comes to have other content. Conditions: none.
-/
set_option linter.unusedSimpArgs false
set_option linter.unusedVariables false
namespace Dn
open Go
section
variable {P:Program} {c:Ctx} {Z:aW} {e e':Env} {st:St} {a:Act} {w w':World} {R:Type} {K:St→Option R} {r:R} {Q:Exit→Act→World→Prop} {o:Oper}
def Env.qO (e:Env) (f:Nat) (v:Value) (fo:hH):Env:={e with E:=fun g=>if g=f then v else e.E g,m:=bo e.m f fo}
def St.qO (st:St) (f:Nat) (fo:hH):St:={st with fr:=eW f st.fr,az:=bo st.az f fo}
theorem ub (f:Nat) (s:Slot):bI (qW f s)=bI s:=by
 cases s<;>simp only [qW,bI]
 rename_i g _ _ _ _
 cases Nat.beq g f<;>rfl
theorem lM {f:Nat} {s:Slot} {cs:List ap} (h:qW f s= .box cs): ∃vu,s= .box vu∧cs=vu.map (B5 f):=by
 cases s<;>simp only [qW] at h<;>first|(simp at h;done)|(rename_i g _ _ _ _;cases hb:Nat.beq g f<;>simp [hb] at h;done)|skip
 rename_i vu
 simp at h
 exact ⟨vu,rfl,h.symm⟩
theorem bj.dD {f:Nat} {fo:hH} {v':Value} (h:bj c Z e st a w) (pw:f∉Z.bF) (db:bX c Z.nc e w' v' fo) (Xx:w.heap.size≤w'.heap.size)
 (cc: ∀b,b<w.heap.size→(∀o,ar st.az f=some o→(e.E f).ownBlock≠some b)→w'.heap[b]? =w.heap[b]?)
 (mS: ∀b o v,e.φ b o=some v→w'.cell? ⟨b,o,none⟩=some v)
 (kb: ∀b,v'.ownBlock=some b→w.heap.size≤b∨ ∃o,ar st.az f=some o∧(e.E f).ownBlock=some b):
 bj c Z (e.qO f v' fo) (st.qO f fo) a w':=by
 have my:eS (· ≠f) (fun _=>True) e (e.qO f v' fo):=by
  refine ⟨rfl,.refl _,fun _ _=>rfl,fun f2 o2 bG cz=> ?_⟩
  have bG:ar (bo e.m f fo) f2=some o2:=bG
  rw [aL] at bG
  simp only [cz,if_false] at bG
  exact ⟨o2,bG,by simp [Env.qO,cz],rfl⟩
 have JS: ∀t cs,ah st.fr t= .box cs→e.B t<w.heap.size:=by
  intro t cs ht
  have hs:=h.slot t
  rw [ht] at hs
  obtain ⟨o2,h1,_⟩:=hs.2.obj
  exact aO h1
 have j8: ∀t cs,ah st.fr t= .box cs→w'.heap[e.B t]? =w.heap[e.B t]? :=by
  intro t cs ht
  exact cc _ (JS t cs ht) (fun o ho=>h.bf t cs f o ht ho)
 refine ⟨h.defers,h.size,by show bo e.m f _=bo st.az f _;rw [h.m],h.key,?_,?_,?_,?_,?_,?_,?_,mS,fun b hb=>h.bC b (by omega)⟩
 ·show (ay (eW f st.fr)).Nodup
  have:ay (eW f st.fr)=ay st.fr:=by simp [ay,eW]
  rw [this];exact h.nodup
 ·intro t
  show bp Z _ _ t _ (ah (eW f st.fr) t)
  rw [dh]
  have hs:=h.slot t
  have sG:=j8 t
  generalize ah st.fr t=s at hs sG
  by_cases ua: ∃cs,s= .box cs
  ·obtain ⟨cs,rfl⟩:=ua
   simp only [bp,qW] at hs⊢
   refine ⟨hs.1.eL (Eu f _),hs.2.bC,?_,hs.2.free⟩
   obtain ⟨o2,h1,h2⟩:=hs.2.obj
   refine ⟨o2,by show w'.heap[e.B t]? =_;rw [sG cs rfl];exact h1,?_⟩
   refine (h2.map (fun _ _=>aB.kill f) (fun _ _=>rfl)).on my ?_
   intro l hl
   obtain ⟨x,_,rfl⟩:=List.mem_map.1 hl
   exact wj f x
  ·have pg:ae e (a.tmps.getD t undef) s:=by cases s<;>simp only [bp] at hs<;>first|exact hs|exact absurd ⟨_,rfl⟩ ua
   have h2:=(pg.kill f).on my (Jv f _ s (b8 s))
   generalize D6:qW f s=s2 at h2
   cases s2<;>first|exact h2|(exfalso;simp [ae] at h2)
 ·intro t
  show bD (eW f st.fr) (ah (eW f st.fr) t)
  rw [dh]
  have iO:=h.root t
  generalize ah st.fr t=s at iO
  have hk: ∀q,bI (ah (eW f st.fr) q)=bI (ah st.fr q):=fun q=>by rw [dh,ub]
  cases s with
  |ptr q o=>show bI (ah (eW f st.fr) q)=true;rw [hk];exact iO
  |hp q o i=>show bI (ah (eW f st.fr) q)=true;rw [hk];exact iO
  |oX q=>show bI (ah (eW f st.fr) q)=true;rw [hk];exact iO
  |ep g' _ _ _ _=>simp only [qW];cases Nat.beq g' f<;>trivial
  |_=>trivial
 ·intro f2 o2 bG
  have bG:ar (bo st.az f fo) f2=some o2:=bG
  rw [aL] at bG
  by_cases cH:f2=f
  ·subst cH
   simp at bG
   subst bG
   have:=(db.to pw).env (e':=e.qO f2 v' fo) rfl rfl
   simpa [Env.qO] using this
  ·simp only [cH,if_false] at bG
   obtain ⟨I2,nV,h1,h2,h3,h4,h5⟩:=(h.dn f2 o2 bG).row
   refine ⟨I2,nV,h1,h2,?_,h4,?_⟩
   ·show w'.ownsRow 0 o2.ty I2.size (if f2=f then v' else e.E f2) o2.xs.length nV
    rw [if_neg cH]
    refine ⟨h3.1,?_⟩
    rcases h3.2 with h6|⟨g,cap,dN,g1,g2,g3,g4⟩
    ·exact .inl h6
    ·refine .inr ⟨g,cap,dN,g1,g2,?_,g4⟩
     rw [cc g (aO g3) (fun o ho hk=>cH (h.ff f2 f o2 o g bG ho (by rw [g1];rfl) hk))];exact g3
   ·intro aN hb
    have hb:(if f2=f then v' else e.E f2).ownBlock=some aN:=hb
    rw [if_neg cH] at hb
    exact h5 aN hb
 ·intro t t' c1 c2 h1 h2 cz
  have h1:ah (eW f st.fr) t= .box c1:=h1
  have h2:ah (eW f st.fr) t'= .box c2:=h2
  rw [dh] at h1 h2
  obtain ⟨d1,g1,_⟩:=lM h1
  obtain ⟨d2,g2,_⟩:=lM h2
  exact h.bb t t' d1 d2 g1 g2 cz
 ·intro t c1 f2 o2 h1 h2
  have h1:ah (eW f st.fr) t= .box c1:=h1
  have h2:ar (bo st.az f fo) f2=some o2:=h2
  rw [dh] at h1
  rw [aL] at h2
  obtain ⟨d1,g1,_⟩:=lM h1
  show (if f2=f then v' else e.E f2).ownBlock≠some (e.B t)
  by_cases cH:f2=f
  ·rw [if_pos cH]
   intro hb
   rcases kb _ hb with h3|⟨o,h3,h4⟩
   ·have:=JS t d1 g1;omega
   ·exact h.bf t d1 f o g1 h3 h4
  ·rw [if_neg cH]
   simp only [cH,if_false] at h2
   exact h.bf t d1 f2 o2 g1 h2
 ·intro f1 f2 o1 o2 k h1 h2 h3 h4
  have h1:ar (bo st.az f fo) f1=some o1:=h1
  have h2:ar (bo st.az f fo) f2=some o2:=h2
  have h3:(if f1=f then v' else e.E f1).ownBlock=some k:=h3
  have h4:(if f2=f then v' else e.E f2).ownBlock=some k:=h4
  rw [aL] at h1 h2
  have nJ: ∀g og,ar st.az g=some og→(e.E g).ownBlock=some k→k<w.heap.size:=by
   intro g og hg hk
   obtain ⟨I2,nV,_,_,g3,_⟩:=(h.dn g og hg).row
   rcases g3.2 with ⟨g5,_⟩|⟨b,cap,dN,g5,_,g6,_⟩
   ·rw [g5] at hk;simp [Value.ownBlock] at hk
   ·rw [g5] at hk;simp only [Value.ownBlock,Option.some.injEq] at hk;subst hk;exact aO g6
  by_cases A9:f1=f
  ·by_cases q8:f2=f
   ·rw [A9,q8]
   ·rw [if_pos A9] at h3
    rw [if_neg q8] at h4
    simp only [q8,if_false] at h2
    rcases kb k h3 with h5|⟨o,h5,h6⟩
    ·have:=nJ f2 o2 h2 h4;omega
    ·exact A9.trans (h.ff f f2 o o2 k h5 h2 h6 h4)
  ·rw [if_neg A9] at h3
   simp only [A9,if_false] at h1
   by_cases q8:f2=f
   ·rw [if_pos q8] at h4
    rcases kb k h4 with h5|⟨o,h5,h6⟩
    ·have:=nJ f1 o1 h1 h3;omega
    ·exact (h.ff f1 f o1 o k h1 h5 h3 h6).trans q8.symm
   ·rw [if_neg q8] at h4
    simp only [q8,if_false] at h2
    exact h.ff f1 f2 o1 o2 k h1 h2 h3 h4
theorem iY {f:Nat} {fo:hH} (hK:dD st f fo K=some r):K (st.qO f fo)=some r:=by
 unfold Dn.dD at hK
 cases hn:aT st.bF f with
 |true=>simp [hn] at hK
 |false=>simpa [hn,Js,hO,St.qO] using hK
theorem bj.PH {f:Nat} {fo:hH} (h:bj c Z e st a w) (hK:Dn.dD st f fo K=some r):f∉Z.bF:=by
 intro hm
 rw [←h.defers.2.2.1,←aU] at hm
 simp [Dn.dD,hm] at hK
theorem mU {f:Nat} {fo:hH} {v:Value} (h1:v.oneCell'=true):ae (e.qO f v fo) v (.sc (.own f)):=by
 simp only [ae]
 exact ⟨v,rfl,h1,fun o ho=>by simp [Env.qO]⟩
end
end Dn
/-
  What is appended. Conditions: none.
-/
set_option linter.unusedSimpArgs false
set_option linter.unusedVariables false
namespace Dn
open Go
section
variable {P:Program} {c:Ctx} {Z:aW} {e e':Env} {st:St} {a:Act} {w w':World} {R:Type} {K:St→Option R} {r:R} {Q:Exit→Act→World→Prop} {o:Oper}
theorem qm {t:TypeId} {I:TI} (hr:iP c.ti P t I) (hc:I.bO=[]): ∃i z,P.info? t=some i∧i.size=I.size∧i.bytes=I.bytes∧i.zero=some z∧z.cells.size=I.size:=by
 obtain ⟨d,i,h1,h2,h3,h4⟩:=hr
 obtain ⟨h5,h6⟩:=h3 hc
 cases d<;>simp only [kI] at h4
 case struct fs=>obtain ⟨_,_,_,_,_,_,cs,hz,_,hs⟩:=h4;exact ⟨i,_,h2,h5,h6,hz,by simpa [Value.cells] using hs⟩
 case tuple ts=>exact absurd hc h4.2.1
 case slice el=>obtain ⟨_,_,hs,_,_,hz,_⟩:=h4;exact ⟨i,_,h2,h5,h6,hz,by rw [hs];rfl⟩
 case array n el=>obtain ⟨_,_,hs,_,_,_,_,_,hz⟩:=h4;exact ⟨i,_,h2,h5,h6,hz,by rw [hs];simp [Value.cells,bN]⟩
 case bool=>obtain ⟨_,_,hs,_,_,hz⟩:=h4;exact ⟨i,_,h2,h5,h6,hz,by rw [hs];rfl⟩
 case int k=>obtain ⟨_,_,hs,_,_,hz⟩:=h4;exact ⟨i,_,h2,h5,h6,hz,by rw [hs];rfl⟩
 case string=>obtain ⟨_,_,hs,_,_,b,hz,_⟩:=h4;exact ⟨i,_,h2,h5,h6,hz,by rw [hs];rfl⟩
 all_goals
  obtain ⟨_,_,hs,_,v,hz,hv,_⟩:=h4
  refine ⟨i,v,h2,h5,h6,hz,?_⟩
  rw [hs]
  cases v<;>simp_all [Value.cells,Value.oneCell']
structure Src (e:Env) (w:World) (size:Nat) (v:Value) (ys:List MV) (news:List Value):Prop where
 Rg:aS e.key e.φ size news ys
 val: ∃ad cap,v= .slice ad ys.length cap∧(ad=none→ys=[])∧ ∀x,ad=some x→ ∀(j:Nat) (u:Value),news[j]? =some u→w.cell? (x.add j)=some u
theorem aS.JT {key:Nat→Nat} {φ:Ph} {size:Nat} {xs:List MV}: ∀{cs:List Value},aS key φ size cs xs→ ∀u∈cs,u.oneCell'=true:=by
 induction xs with
 |nil=>intro cs h;cases h;simp
 |cons x xs ih=>
  intro cs h u hu
  obtain ⟨v,q,rfl,_,h2,h3⟩:=h
  rcases List.mem_append.1 hu with hu|hu
  ·exact h2.cells u hu
  ·exact ih h3 u hu
theorem aS.append {key:Nat→Nat} {φ:Ph} {size:Nat} {xs ys:List MV}: ∀{cs ds:List Value},aS key φ size cs xs→aS key φ size ds ys→aS key φ size (cs++ds) (xs++ys):=by
 induction xs with
 |nil=>intro cs ds h h';cases h;simpa using h'
 |cons x xs ih=>intro cs ds h h';obtain ⟨v,q,rfl,h1,h2,h3⟩:=h;exact ⟨v,q++ds,by simp,h1,h2,ih h3 h'⟩
theorem EJ {key:Nat→Nat} {φ:Ph} {size:Nat} {xs:List MV}: ∀{f:Nat→List Value},(∀i,i<xs.length→(f i).length=size)→(∀(i:Nat) (h:i<xs.length),fK key φ (f i) xs[i])→
 ∃cs,aS key φ size cs xs∧ ∀(i j:Nat),i<xs.length→j<size→cs[i *size+j]? =(f i)[j]? :=by
 induction xs with
 |nil=>intro f _ _;exact ⟨[],rfl,fun i j hi=>by simp at hi⟩
 |cons x xs ih=>
  intro f h1 h2
  obtain ⟨cs,h3,h4⟩:=ih (f:=fun i=>f (i+1)) (fun i hi=>h1 (i+1) (by simpa using hi)) (fun i hi=>h2 (i+1) (by simpa using hi))
  have hl:=h1 0 (by simp)
  refine ⟨f 0++cs,⟨f 0,cs,rfl,hl,h2 0 (by simp),h3⟩,?_⟩
  intro i j hi hj
  cases i with
  |zero=>rw [Nat.zero_mul,Nat.zero_add,List.getElem?_append_left (by omega)]
  |succ i=>
   rw [Nat.succ_mul,List.getElem?_append_right (by omega),show i *size+size+j-(f 0).length=i *size+j by omega]
   exact h4 i j (by simpa using hi) hj
theorem uP {I E:TI} {x:Slot} {v:Value} {K':List MV→Option R} (h:bj c Z e st a w) (hE:c.ti I.elem=some E) (ek:0<E.size) (hx:ae e v x) (hK:AW I E st x K'=some r):
 ∃ys news,Src e w E.size v ys news∧K' ys=some r:=by
 unfold AW at hK
 split at hK
 ·rename_i xs
  obtain ⟨hw,hK⟩:=b7 hK
  simp only [ae,aB] at hx
  obtain ⟨_,hx⟩:=hx
  generalize hv:[v]=vs at hx
  cases hx with
  |list ad cap _ aN off Co f g1 g2 g3 g4 g5=>
  simp at hv
  have Rf: ∀i,i<xs.length→(f i).length=E.size:=by
   intro i hi
   rw [(g5 i hi).width]
   exact wF hw _ (List.getElem_mem hi)
  obtain ⟨cs,h1,h2⟩:=EJ Rf g5
  refine ⟨xs,cs,⟨h1,ad,cap,hv,?_,?_⟩,hK⟩
  ·intro hn
   cases xs with
   |nil=>rfl
   |cons y ys=>have:=g2 (by simp);rw [hn] at this;cases this
  ·intro x hx j u hj
   have IM:j<cs.length:=(List.getElem?_eq_some_iff.1 hj).1
   rw [h1.length] at IM
   have JU:0<xs.length:=by
    cases xs with
    |nil=>simp at IM
    |cons y ys=>simp
   have Xy:=g2 JU
   rw [hx] at Xy
   cases Xy
   have hq:j/E.size<xs.length:=(Nat.div_lt_iff_lt_mul ek).2 IM
   have hm:=Nat.mod_lt j ek
   have MD:j=j/E.size *E.size+j%E.size:=by rw [Nat.mul_comm];exact (Nat.div_add_mod j E.size).symm
   have e1:=h2 (j/E.size) (j%E.size) hq hm
   rw [←MD,hj] at e1
   have Sa:Co=E.size:=by rw [←g3 0 JU,Rf 0 JU]
   have e2:=g4 (j/E.size) (j%E.size) hq (by rw [Sa];exact hm)
   rw [←e1,Sa,Nat.add_assoc,←MD] at e2
   have:=h.gE _ _ _ e2
   rw [Addr.add_mid];exact this
 ·simp only [ae] at hx
  have hx:[v]=[Value.slice none 0 0]:=hx
  simp at hx
  exact ⟨[],[],⟨rfl,none,0,hx,fun _=>rfl,by simp⟩,hK⟩
 ·rename_i f
  cases hf:ar st.az f with
  |none=>simp [hf] at hK
  |some fo=>
   simp only [hf] at hK
   cases hb:Nat.beq fo.ty I.elem with
   |false=>simp [hb] at hK
   |true=>
    simp only [hb,cond_true] at hK
    have dR:=Nat.eq_of_beq_eq_true hb
    obtain ⟨hv,_⟩:=ke h hx hf
    obtain ⟨J,cells,hJ,_,cq,iW,_⟩:=(h.dn f fo hf).row
    rw [dR,hE] at hJ
    cases hJ
    refine ⟨fo.xs,cells,⟨iW,?_⟩,hK⟩
    rcases cq.2 with ⟨h1,h2⟩|⟨g,cap,dN,h1,_⟩
    ·exact ⟨none,0,by rw [hv,h1,h2],fun _=>List.eq_nil_of_length_eq_zero h2,by simp⟩
    ·refine ⟨some ⟨g,0,none⟩,cap,by rw [hv,h1],by simp,?_⟩
     intro x hx j u hj
     cases hx
     exact cq.cells (g:=g) (by rw [h1];rfl) j u hj
 ·simp at hK
end
end Dn
/-
  Appends. Conditions: none.
-/
set_option linter.unusedSimpArgs false
set_option linter.unusedVariables false
namespace Dn
open Go
section
variable {P:Program} {c:Ctx} {Z:aW} {e e':Env} {st:St} {a:Act} {w w':World} {R:Type} {K:St→Option R} {r:R} {Q:Exit→Act→World→Prop} {o:Oper}
structure U2 (w w':World) (el:TypeId) (size:Nat) (v v':Value) (n m:Nat) (cells news:List Value):Prop where
 own:w'.ownsRow 0 el size v' (n+m) (cells++news)
 size:w.heap.size≤w'.heap.size
 nJ: ∀k,k<w.heap.size→some k≠v.ownBlock→w'.heap[k]? =w.heap[k]?
 cell: ∀(k off:Nat) (u:Value),v.ownBlock=some k→off<cells.length→w.cell? ⟨k,off,none⟩=some u→w'.cell? ⟨k,off,none⟩=some u
 place:v'.ownBlock=v.ownBlock∨v'.ownBlock=some w.heap.size
 rest:Rest w w'
structure Ol (P:Program) (w:World) (u el:TypeId) (size:Nat) (x:Value) (m:Nat) (news:List Value):Prop where
 ty:P.underlying u=some (.slice el)∨P.underlying u=some .string
 len:Builtin.lenOf x=pure m
 now:(Builtin.firstCells size m x).run P w= .ok news.toArray w
 drew:(Builtin.firstCells size m x).run P w.drew= .ok news.toArray w.drew
 one: ∀y∈news,y.oneCell'=true
 nl:news.length=m *size
theorem Src.YW {ys:List MV} {news:List Value} {x:Value} {u el:TypeId} {size:Nat} (hu:P.underlying u=some (.slice el)) (h:Src e w size x ys news):Ol P w u el size x ys.length news:=by
 obtain ⟨ad,cap,hx,zK,Gd⟩:=h.val
 have EK:=h.Rg.length
 subst hx
 cases ad with
 |none=>
  have YX:=zK rfl
  subst YX
  have:news=[]:=List.eq_nil_of_length_eq_zero (by simpa using EK)
  subst this
  exact ⟨.inl hu,rfl,run_firstCells_none w _ _ _ _,run_firstCells_none w.drew _ _ _ _,h.Rg.JT,EK⟩
 |some ad=>exact ⟨.inl hu,rfl,run_firstCells_some w _ _ _ _ _ _ EK (Gd ad rfl),run_firstCells_some w.drew _ _ _ _ _ _ EK (by simpa using Gd ad rfl),h.Rg.JT,EK⟩
theorem Ol.str {u el:TypeId} (hu:P.underlying u=some .string) (b:ByteArray):Ol P w u el 1 (.string b) b.size (b.data.toList.map fun x=> .int .u8 (x.toNat:Int)):=by
 have hf: ∀w',(Builtin.firstCells 1 b.size (.string b)).run P w'= .ok (b.data.toList.map fun x=>Value.int .u8 (x.toNat:Int)).toArray w':=by
  intro w'
  have he:b.extract 0 b.size=b:=by
   apply ByteArray.ext
   rw [ByteArray.data_extract]
   exact Array.extract_eq_self_of_le (Nat.le_refl _)
  simp only [Builtin.firstCells,he,Sem.run_pure]
  congr 1
  apply Array.ext'
  simp
 exact ⟨.inr hu,rfl,hf w,hf w.drew,by simp [Value.oneCell'],by simp⟩
section
variable {t u ty el:TypeId} {i:TypeInfo} {z x:Value} {m:Nat} {news:List Value} (ht:P.underlying t=some (.slice el)) (hi:P.info? el=some i) (hz:i.zero=some z) (hx:Ol P w u el i.size x m news)
include ht hi hx
theorem MN (h0:m=0):(Builtin.append_ #[t,u] ty #[.slice none 0 0,x]).run P w= .ok (.slice none 0 0) w:=by
 subst h0
 have hn:=hx.now
 have hl:=hx.len
 rcases hx.ty with hu|hu<;>simp [Builtin.append_,run_underlying ht,run_underlying hu,Go.sizeOf,typeInfo,hi,hl,hn]
theorem MO {g lB sH:Nat} {dN:Array Value} (hg:w.heap[g]? =some (.cells dN el (0,0))) (Cw:lB+m≤sH) (JG:lB *i.size+news.length≤dN.size):
 (Builtin.append_ #[t,u] ty #[.slice (some ⟨g,0,none⟩) lB sH,x]).run P w=
  .ok (.slice (some ⟨g,0,none⟩) (lB+m) sH) (w.setRow g (dN.toList.take (lB *i.size)++news++dN.toList.drop (lB *i.size+news.length)).toArray):=by
 have cY:=run_storeCells_at P g (lB *i.size) el news 0 dN w hg (by simpa using JG) hx.one
 simp only [Nat.add_zero] at cY
 have hn:=hx.now
 have hl:=hx.len
 rcases hx.ty with hu|hu<;>simp [Builtin.append_,run_underlying ht,run_underlying hu,Go.sizeOf,typeInfo,hi,hl,Cw,hn,Addr.add_lit,cY]
include hz
theorem JV (h0:0<m) (Xz:(m:Int)≤9223372036854775807) (YY:m *i.bytes≤281474976710656):
 (Builtin.append_ #[t,u] ty #[.slice none 0 0,x]).run P w= .ok (.slice (some ⟨w.heap.size,0,none⟩) m (grownCap w m 0 el)) (w.drew.alloc (.cells (news.toArray++Builtin.zeroCells z.cells (grownCap w m 0 el-m)) el)):=by
 have cz:m≠0:=by omega
 have PI: ¬(9223372036854775807<(m:Int)):=by omega
 have PJ: ¬(281474976710656<Builtin.nextslicecap m 0 *i.bytes):=by rw [nextslicecap_zero h0];omega
 have hn:=hx.drew
 have hl:=hx.len
 rcases hx.ty with hu|hu<;>simp [Builtin.append_,run_underlying ht,run_underlying hu,Go.sizeOf,typeInfo,zeroValue,hi,hz,hl,cz,PI,PJ,Question.forced,run_firstCells_none,hn,newRow,grownCap]
theorem Ge {b:Addr} {lB sH:Nat} {MP:List Value} (YZ:MP.length=lB *i.size) (holds: ∀j v,MP[j]? =some v→w.cell? (b.add j)=some v) (hg:sH<lB+m) (Xz:((lB+m:Nat):Int)≤9223372036854775807)
 (JG:Builtin.nextslicecap (lB+m) sH *i.bytes≤281474976710656):
 (Builtin.append_ #[t,u] ty #[.slice (some b) lB sH,x]).run P w=
  .ok (.slice (some ⟨w.heap.size,0,none⟩) (lB+m) (grownCap w (lB+m) sH el)) (w.drew.alloc (.cells (MP.toArray++news.toArray++Builtin.zeroCells z.cells (grownCap w (lB+m) sH el-(lB+m))) el)):=by
 have cz: ¬(lB+m≤sH):=by omega
 have PI: ¬(9223372036854775807<((lB:Int)+(m:Int))):=by omega
 have PJ: ¬(281474976710656<Builtin.nextslicecap (lB+m) sH *i.bytes):=by omega
 have Y0:=run_firstCells_some (P:=P) w.drew i.size lB b lB sH MP YZ (by simpa using holds)
 have hn:=hx.drew
 have hl:=hx.len
 rcases hx.ty with hu|hu<;>(simp [Builtin.append_,run_underlying ht,run_underlying hu,Go.sizeOf,typeInfo,zeroValue,hi,hz,hl,cz,PI,PJ,Question.forced,hn,Y0,newRow,grownCap];congr 2;apply Array.ext';simp [List.append_assoc])
end
theorem EL {t u ty:TypeId} {I E:TI} {v x:Value} {n m:Nat} {cells news:List Value} (hu:P.underlying t=some (.slice I.elem)) (hE:c.ti I.elem=some E) (sj:E.bO=[]) (ek:0<E.size)
 (hT:fc P c.ti) (qn:1≤E.bytes) (cq:w.ownsRow 0 I.elem E.size v n cells) (hx:Ol P w u I.elem E.size x m news) (fV:(n+m) *E.bytes≤2^46):
 ∃v' w',(Builtin.append_ #[t,u] ty #[v,x]).run P w= .ok v' w'∧U2 w w' I.elem E.size v v' n m cells news:=by
 obtain ⟨i,z,hi,hs,Om,hz,Mk⟩:=qm (hT _ E hE) sj
 rw [←hs] at hx cq Mk ek⊢
 rw [←Om] at fV qn
 have hle:n+m≤2^46:=Nat.le_trans (Nat.le_mul_of_pos_right _ qn) fV
 have Sb:n+m≤Go.maxLen:=by unfold Go.maxLen;omega
 have EK:=hx.nl
 have hlen:(cells++news).length=(n+m) *i.size:=by rw [List.length_append,cq.1,EK,Nat.add_mul]
 have grown: ∀(nJ:Nat),nJ<n+m→
  (w.drew.alloc (.cells (cells.toArray++news.toArray++Builtin.zeroCells z.cells (grownCap w (n+m) nJ I.elem-(n+m))) I.elem)).ownsRow 0 I.elem i.size
   (.slice (some ⟨w.heap.size,0,none⟩) (n+m) (grownCap w (n+m) nJ I.elem)) (n+m) (cells++news):=by
  intro nJ ho
  refine ⟨hlen,.inr ⟨w.heap.size,_,_,rfl,Nat.zero_le _,eR w.drew _,grownCap_ge w (n+m) nJ I.elem,grownCap_le_maxLen w (n+m) nJ I.elem Sb,?_,?_⟩⟩
  ·have JW:=grownCap_ge w (n+m) nJ I.elem
   simp only [Array.size_append,List.size_toArray,size_zeroCells,Mk,cq.1,EK,←Nat.add_mul]
   congr 1
   omega
  ·simp only [Array.toList_append,List.append_assoc]
   rw [←List.append_assoc,←hlen]
   exact List.take_left
 have rest: ∀cs:Array Value,Rest w (w.drew.alloc (.cells cs I.elem)):=fun cs=>⟨rfl,rfl,rfl,fun p=>(Rest.alloc w.drew cs I.elem).2.2.2 p⟩
 rcases cq.2 with ⟨rfl,rfl⟩|⟨g,cap,dN,rfl,_,hg,hnc,II,sD,IQ⟩
 ·have U3:cells=[]:=List.eq_nil_of_length_eq_zero (by simpa using cq.1)
  subst U3
  by_cases hm:m=0
  ·have Y1:news=[]:=List.eq_nil_of_length_eq_zero (by rw [EK,hm,Nat.zero_mul])
   subst Y1
   refine ⟨_,_,MN hu hi hx hm,⟨?_,Nat.le_refl _,fun _ _ _=>rfl,(fun _ _ _ hk=>by cases hk),.inl rfl,.refl _⟩⟩
   rw [hm];exact World.ownsRow_nil w 0 I.elem i.size
  ·simp only [Nat.zero_add] at fV hle Sb
   have hr:=JV (ty:=ty) hu hi hz hx (by omega) (by omega) (by omega)
   have D7:=grown 0 (by omega)
   simp only [Nat.zero_add,List.nil_append,Array.empty_append] at D7⊢
   exact ⟨_,_,hr,⟨by simpa using D7,by simp,fun k hk _=>j6 w.drew _ k hk,(fun _ _ _ hk=>by cases hk),.inr rfl,rest _⟩⟩
 ·by_cases Cw:n+m≤cap
  ·have JG:n *i.size+news.length≤dN.size:=by rw [EK,sD,←Nat.add_mul];exact Nat.mul_le_mul_right _ Cw
   have hr:=MO (ty:=ty) hu hi hx hg Cw JG
   have EM:=setRow_heap w g dN (dN.toList.take (n *i.size)++news++dN.toList.drop (n *i.size+news.length)).toArray I.elem _ hg
   refine ⟨_,_,hr,⟨⟨hlen,.inr ⟨g,cap,_,rfl,Nat.zero_le _,EM,Cw,II,?_,?_⟩⟩,by simp,fun k _ hk=>setRow_other w g k _ (fun he=>hk (by simp [Value.ownBlock,he])),?_,.inl rfl,Rest.setRow w g _⟩⟩
   ·simp only [List.size_toArray,List.length_append,List.length_take,List.length_drop,Array.length_toList]
    omega
   ·rw [IQ,←hlen]
    exact List.take_left
   ·intro k off y hk wA hc
    have U4:k=g:=by simp [Value.ownBlock] at hk;exact hk.symm
    subst U4
    rw [cell_of hg] at hc
    rw [cell_of EM]
    have Sc:off<(dN.toList.take (n *i.size)).length:=by rw [IQ];exact wA
    rw [List.getElem?_toArray,List.append_assoc,List.getElem?_append_left Sc,List.getElem?_take]
    have:off<n *i.size:=by rw [←cq.1];exact wA
    rw [if_pos this];simpa using hc
  ·have holds: ∀j y,cells[j]? =some y→w.cell? ((⟨g,0,none⟩:Addr).add j)=some y:=cq.cells (g:=g) rfl
   have hr:=Ge (ty:=ty) (sH:=cap) hu hi hz hx cq.1 holds (by omega) (by omega) (growslice_fits (by omega) (by omega))
   refine ⟨_,_,hr,⟨grown cap (by omega),by simp,fun k hk _=>j6 w.drew _ k hk,?_,.inr rfl,rest _⟩⟩
   intro k off y hk wA hc
   have U4:k=g:=by simp [Value.ownBlock] at hk;exact hk.symm
   subst U4
   rw [World.cell?_of_block (j6 w.drew _ k (aO hg))]
   exact hc
theorem Cx {t u ty:TypeId} {I E:TI} {ad:Option Addr} {x:Value} {n m:Nat} {cells news:List Value} (hu:P.underlying t=some (.slice I.elem)) (hE:c.ti I.elem=some E) (sj:E.bO=[])
 (hT:fc P c.ti) (qn:1≤E.bytes) (lL:cells.length=n *E.size) (JX:ad=none→n=0) (aV: ∀y,ad=some y→ ∀(j:Nat) (v:Value),cells[j]? =some v→w.cell? (y.add j)=some v)
 (hx:Ol P w u I.elem E.size x m news) (hm:0<m) (fV:(n+m) *E.bytes≤2^46):
 ∃v' w',(Builtin.append_ #[t,u] ty #[.slice ad n n,x]).run P w= .ok v' w'∧w'.ownsRow 0 I.elem E.size v' (n+m) (cells++news)∧v'.ownBlock=some w.heap.size∧cb w w':=by
 obtain ⟨i,z,hi,hs,Om,hz,Mk⟩:=qm (hT _ E hE) sj
 rw [←hs] at hx lL Mk⊢
 rw [←Om] at fV qn
 have hle:n+m≤2^46:=Nat.le_trans (Nat.le_mul_of_pos_right _ qn) fV
 have Sb:n+m≤Go.maxLen:=by unfold Go.maxLen;omega
 have EK:=hx.nl
 have hlen:(cells++news).length=(n+m) *i.size:=by rw [List.length_append,lL,EK,Nat.add_mul]
 have grown: ∀(nJ:Nat),nJ<n+m→
  (w.drew.alloc (.cells (cells.toArray++news.toArray++Builtin.zeroCells z.cells (grownCap w (n+m) nJ I.elem-(n+m))) I.elem)).ownsRow 0 I.elem i.size
   (.slice (some ⟨w.heap.size,0,none⟩) (n+m) (grownCap w (n+m) nJ I.elem)) (n+m) (cells++news):=by
  intro nJ ho
  refine ⟨hlen,.inr ⟨w.heap.size,_,_,rfl,Nat.zero_le _,eR w.drew _,grownCap_ge w (n+m) nJ I.elem,grownCap_le_maxLen w (n+m) nJ I.elem Sb,?_,?_⟩⟩
  ·have JW:=grownCap_ge w (n+m) nJ I.elem
   simp only [Array.size_append,List.size_toArray,size_zeroCells,Mk,lL,EK,←Nat.add_mul]
   congr 1
   omega
  ·simp only [Array.toList_append,List.append_assoc]
   rw [←List.append_assoc,←hlen]
   exact List.take_left
 have rest: ∀cs:Array Value,Rest w (w.drew.alloc (.cells cs I.elem)):=fun cs=>⟨rfl,rfl,rfl,fun p=>(Rest.alloc w.drew cs I.elem).2.2.2 p⟩
 have D7: ∀cs:Array Value,cb w (w.drew.alloc (.cells cs I.elem)):=fun cs=>⟨by simp,fun k hk=>j6 w.drew _ k hk,rest cs⟩
 cases ad with
 |none=>
  have hn:=JX rfl
  subst hn
  have U3:cells=[]:=List.eq_nil_of_length_eq_zero (by simpa using lL)
  subst U3
  simp only [Nat.zero_add] at fV hle Sb
  have hr:=JV (ty:=ty) hu hi hz hx (by omega) (by omega) (by omega)
  have PK:=grown 0 (by omega)
  simp only [Nat.zero_add,List.nil_append,Array.empty_append] at PK⊢
  exact ⟨_,_,hr,by simpa using PK,rfl,D7 _⟩
 |some b=>
  have hr:=Ge (ty:=ty) (sH:=n) hu hi hz hx lL (fun j v hj=>aV b rfl j v hj) (by omega) (by omega) (growslice_fits (by omega) (by omega))
  exact ⟨_,_,hr,grown n (by omega),rfl,D7 _⟩
end
end Dn
/-
  Appends, the operation. Conditions: none.
-/
set_option linter.unusedSimpArgs false
set_option linter.unusedVariables false
namespace Dn
open Go
section
variable {P:Program} {c:Ctx} {Z:aW} {e e':Env} {st:St} {a:Act} {w w':World} {R:Type} {K:St→Option R} {r:R} {Q:Exit→Act→World→Prop} {o:Oper}
theorem wH {base:Nat} {t:TypeId} {size n:Nat} {v:Value} {xs:List Value} (h:w.ownsRow base t size v n xs):v.oneCell'=true:=by
 rcases h.2 with ⟨rfl,_⟩|⟨g,cap,dN,rfl,_⟩<;>rfl
theorem Gf {E:TI} {t:TypeId} (hr:iP c.ti P t E) (h:G9 E=true):P.underlying t=some (.int .u8)∧E.size=1:=by
 unfold G9 at h
 split at h
 ·rename_i k cY hl
  have:=of_decide_eq_true h;subst this
  obtain ⟨d,i,h1,h2,h3,h4⟩:=hr
  cases d<;>simp only [kI,hl,cY] at h4<;>first|(exfalso;simp_all;done)|skip
  obtain ⟨_,_,h5,h6,_⟩:=h4
  simp only [List.cons.injEq,Kd.i.injEq,and_true] at h6
  subst h6
  exact ⟨h1,h5⟩
 ·cases h
theorem Gg {key:Nat→Nat} {φ:Ph}: ∀l:List UInt8,aS key φ 1 (l.map fun x=>Value.int .u8 (x.toNat:Int)) (yI l)
 |[]=>rfl
 |b::l=>⟨[.int .u8 (b.toNat:Int)],_,rfl,rfl,.i .u8 _,Gg l⟩
theorem Cy {cl:Call} {s x:Operand} {t u:TypeId} {I E:TI} {ys:List MV} {news:List Value} (ho:o.op= .call cl) (hb:cl.callee= .builtin .append) (ha:cl.args.toList=[s,x]) (B8:cl.argTypes.toList=[t,u])
 (hI:c.tv t=some I) (hL:I.qS=true) (hE:c.tv I.elem=some E) (hT:fc P c.ti) (h:bj c Z e st a w) (Ba:Ol P w u I.elem E.size (a.eval x) ys.length news) (kb:aS e.key e.φ E.size news ys)
 (hK:Ha (o.dst.getD 0) st I E (aq c st s) ys (fun sl st=>aH c st o.dst sl K)=some r):o.wp P a w (Out c Z K r e.φ w) Q:=by
 obtain ⟨iN,hc⟩:=bq hI
 obtain ⟨qN,sj⟩:=bq hE
 obtain ⟨hu,E2,sk,_,ek⟩:=TI.ig (hT t I iN) hL
 rw [qN] at sk
 cases sk
 have XA:cl.args= #[s,x]:=by rw [←Array.toList_inj,ha]
 have Sd:cl.argTypes= #[t,u]:=by rw [←Array.toList_inj,B8]
 obtain ⟨hs,_⟩:=h.eval s
 have go: ∀(f:Nat) (ck:Bool) (xs:List MV) (cells:List Value),1≤E.bytes→(xs.length+ys.length) *E.bytes≤2^46→w.ownsRow 0 I.elem E.size (a.eval s) xs.length cells→aS e.key e.φ E.size cells xs→
  (∀aN,(a.eval s).ownBlock=some aN→((f∈Z.bF∧Z.Pr aN)∨Z.In aN)∧(∃o,ar st.az f=some o∧(e.E f).ownBlock=some aN)∧ ∀off u,e.φ aN off=some u→ck=true∧off<xs.length *E.size)→
  dD st f ⟨I.elem,ck,xs++ys⟩ (fun st=>aH c st o.dst (.sc (.own f)) K)=some r→o.wp P a w (Out c Z K r e.φ w) Q:=by
  intro f ck xs cells qn fV cq iW tY hK
  obtain ⟨v',w',bx,uc⟩:=EL (P:=P) (ty:=o.type) hu qN sj ek hT qn cq Ba fV
  have hlen:cells.length=xs.length *E.size:=iW.length
  have pw:=h.PH hK
  have hK:=iY hK
  have db:bX c Z.nc e w' v' ⟨I.elem,ck,xs++ys⟩:=by
   refine ⟨E,cells++news,qN,sj,by simpa using uc.own,iW.append kb,?_⟩
   intro aN fg
   rcases uc.place with h1|h1
   ·rw [h1] at fg
    obtain ⟨h2,_,h3⟩:=tY aN fg
    refine ⟨B6 h2 pw,fun off u hu=> ?_,fun hc=>False.elim hc⟩
    obtain ⟨h4,h5⟩:=h3 off u hu
    refine ⟨h4,Nat.lt_of_lt_of_le h5 ?_⟩
    simp only [List.length_append]
    exact Nat.mul_le_mul_right _ (Nat.le_add_right _ _)
   ·rw [h1] at fg
    cases fg
    refine ⟨h.bC _ (Nat.le_refl _),fun off u hu=> ?_,fun hc=>False.elim hc⟩
    have:=World.block_lt_of_cell? w _ (h.gE _ _ _ hu)
    simp at this
  have iX:=h.dD (f:=f) pw db uc.size
   (fun b Bb cz=>uc.nJ b Bb (fun hk=>by obtain ⟨_,⟨o2,h1,h2⟩,_⟩:=tY b hk.symm;exact cz o2 h1 h2))
   (fun b off u hu=>by
    have Uh:=h.gE b off u hu
    by_cases hk:(a.eval s).ownBlock=some b
    ·obtain ⟨_,_,h3⟩:=tY b hk
     exact uc.cell b off u hk (by rw [hlen];exact (h3 off u hu).2) Uh
    ·rw [World.cell?_of_block (uc.nJ b (World.block_lt_of_cell? w _ Uh) (fun D8=>hk D8.symm))];exact Uh)
   (fun b fg=>by
    rcases uc.place with h1|h1
    ·rw [h1] at fg;exact .inr (tY b fg).2.1
    ·rw [h1] at fg;cases fg;exact .inl (Nat.le_refl _))
  refine fin (v:=v') (s:= .sc (.own f)) ?_ iX ?_ (.of (mU (wH uc.own)) trivial) hK
  ·simp [execOp,ho,resolve,hb,invoke,builtin,XA,Sd,bx]
  ·exact ⟨.refl _,fun b hz Bb=>uc.nJ b Bb (fun hk=>hz (B6 (tY b hk.symm).1 pw)),fun _ _ _=>rfl,uc.size,uc.rest⟩
 generalize aq c st s=ss at hs hK
 unfold Ha at hK
 cases qn:Nat.ble 1 E.bytes with
 |false=>simp [qn] at hK
 |true=>
  simp only [qn,cond_true] at hK
  have qn:=Nat.le_of_ble_eq_true qn
  split at hK
  ·obtain ⟨fV,hK⟩:=b7 hK
   have fV:=of_decide_eq_true fV
   simp only [ae] at hs
   have hs:[a.eval s]=[Value.slice none 0 0]:=hs
   simp at hs
   refine go (o.dst.getD 0) false [] [] qn (by simpa using fV) (by rw [hs];exact World.ownsRow_nil w 0 I.elem E.size) rfl ?_ (by simpa using hK)
   intro aN fg
   rw [hs] at fg
   simp [Value.ownBlock] at fg
  ·rename_i f
   cases hf:ar st.az f with
   |none=>simp [hf] at hK
   |some fo=>
    simp only [hf] at hK
    obtain ⟨fV,hK⟩:=b7 hK
    have fV:=of_decide_eq_true fV
    cases dR:Nat.beq fo.ty I.elem with
    |false=>simp [dR] at hK
    |true=>
     simp only [dR,cond_true] at hK
     have dR:=Nat.eq_of_beq_eq_true dR
     obtain ⟨hv,_⟩:=ke h hs hf
     obtain ⟨J,cells,hJ,_,cq,iW,h5⟩:=(h.dn f fo hf).row
     rw [dR,qN] at hJ
     cases hJ
     refine go f fo.ck fo.xs cells qn fV (by rw [hv,←dR];exact cq) iW ?_ (by rw [←dR];exact hK)
     intro aN fg
     rw [hv] at fg
     exact ⟨(h5 aN fg).1,⟨fo,hf,fg⟩,(h5 aN fg).2.1⟩
  ·rename_i xs
   obtain ⟨hw,hK⟩:=b7 hK
   obtain ⟨fV,hK⟩:=b7 hK
   obtain ⟨hm,fV⟩:=of_decide_eq_true fV
   simp only [ae,aB] at hs
   obtain ⟨_,hs⟩:=hs
   generalize hv:[a.eval s]=vs at hs
   cases hs with
   |clip ad _ hl=>
   simp at hv
   have fF:ae e (a.eval s) (.sc (.p (.list xs))):=by simp only [ae,aB];rw [hv];exact ⟨rfl,hl⟩
   obtain ⟨ys',cells,U5,hy⟩:=uP (I:=I) (K':=some) (r:=xs) h qN ek fF (by show b9 (kE E.size xs) (some xs)=some xs;rw [hw];rfl)
   cases hy
   obtain ⟨Xt,Pv,IL,B7,D5⟩:=U5.val
   rw [hv] at IL
   simp only [Value.slice.injEq] at IL
   obtain ⟨rfl,_,_⟩:=IL
   obtain ⟨v',w',bx,cq,fg,hg⟩:=Cx (P:=P) (ty:=o.type) hu qN sj hT qn U5.Rg.length (fun hn=>by rw [B7 hn];rfl) D5 Ba hm fV
   have pw:=h.PH hK
   have hK:=iY hK
   have db:bX c Z.nc e w' v' ⟨I.elem,false,xs++ys⟩:=by
    refine ⟨E,cells++news,qN,sj,by simpa using cq,U5.Rg.append kb,?_⟩
    intro aN nY
    rw [fg] at nY
    cases nY
    refine ⟨h.bC _ (Nat.le_refl _),fun off u hu=> ?_,fun hc=>False.elim hc⟩
    have:=World.block_lt_of_cell? w _ (h.gE _ _ _ hu)
    simp at this
   have iX:=h.dD (f:=o.dst.getD 0) pw db hg.size (fun b Bb _=>hg.nJ b Bb) (fun b off u hu=>hg.cell (h.gE b off u hu))
    (fun b nY=>by rw [fg] at nY;cases nY;exact .inl (Nat.le_refl _))
   refine fin (v:=v') (s:= .sc (.own (o.dst.getD 0))) ?_ iX (hg.trans h.bC _) (.of (mU (wH cq)) trivial) hK
   simp [execOp,ho,resolve,hb,invoke,builtin,XA,Sd,hv,bx]
  ·simp at hK
theorem Hr {cl:Call} {s x:Operand} {t u:TypeId} {I E:TI} (ho:o.op= .call cl) (hb:cl.callee= .builtin .append) (ha:cl.args.toList=[s,x]) (B8:cl.argTypes.toList=[t,u])
 (hI:c.tv t=some I) (hL:I.qS=true) (hE:c.tv I.elem=some E) (hT:fc P c.ti) (h:bj c Z e st a w)
 (hK:(bif Nat.beq t u then AW I E st (aq c st x) fun ys=>Ha (o.dst.getD 0) st I E (aq c st s) ys (fun sl st=>aH c st o.dst sl K)
  else Ee c u E (aq c st x) fun ys=>Ha (o.dst.getD 0) st I E (aq c st s) ys (fun sl st=>aH c st o.dst sl K))=some r):o.wp P a w (Out c Z K r e.φ w) Q:=by
 obtain ⟨iN,_⟩:=bq hI
 obtain ⟨qN,_⟩:=bq hE
 obtain ⟨hu,E2,sk,_,ek⟩:=TI.ig (hT t I iN) hL
 rw [qN] at sk
 cases sk
 obtain ⟨hx,_⟩:=h.eval x
 cases nY:Nat.beq t u with
 |true=>
  simp only [nY,cond_true] at hK
  obtain rfl:=Nat.eq_of_beq_eq_true nY
  obtain ⟨ys,news,Ba,hK⟩:=uP h qN ek hx hK
  exact Cy ho hb ha B8 hI hL hE hT h (Ba.YW hu) Ba.Rg hK
 |false=>
  simp only [nY,cond_false] at hK
  unfold Ee at hK
  split at hK
  ·rename_i T l Y2 MQ
   cases JY:T.IF&&G9 E with
   |false=>simp [JY] at hK
   |true=>
    simp only [JY,cond_true] at hK
    simp only [Bool.and_eq_true] at JY
    obtain ⟨Y3,_⟩:=bq Y2
    have hd:=TI.wC (hT u T Y3) JY.1
    obtain ⟨he,kK⟩:=Gf (hT _ E qN) JY.2
    rw [MQ] at hx
    obtain ⟨b,PL,rfl⟩:=uM hx
    refine Cy ho hb ha B8 hI hL hE hT h (news:=b.data.toList.map fun x=> .int .u8 (x.toNat:Int)) ?_ ?_ hK
    ·rw [kK,PL]
     have:=Ol.str (w:=w) (el:=I.elem) hd b
     rwa [show (yI b.data.toList).length=b.size by unfold yI;rw [List.length_map];rfl]
    ·rw [kK];exact Gg _
  ·cases hK
end
end Dn
