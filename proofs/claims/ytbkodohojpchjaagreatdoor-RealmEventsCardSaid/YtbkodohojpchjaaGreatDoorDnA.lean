import GoSem.Dispatch
import Derived.Orders
import Derived.Calls
import Derived.Laws.AppendOwn
import Derived.Laws.AppendOwnNone
import Derived.Deep.MidRow
import Derived.Laws.Strings
import Derived.Laws.Tables
import Derived.Great.FillDense
import Derived.Maps.AppendAt
import Derived.Great.BuildSlice
/-
  An abstract run of Go functions over values that no one changes: definitions. Conditions: none.
-/
set_option linter.unusedVariables false
namespace Dn
open Go
structure jV where
 l:List UInt8
 h:l.length=32
theorem jV.ext' {a b:jV} (e:a.l=b.l):a=b:=by cases a;cases b;cases e;rfl
instance:DecidableEq jV:=fun a b=>if e:a.l=b.l then .isTrue (jV.ext' e) else .isFalse (fun h=>e (by rw [h]))
def jV.zero:jV:=⟨[0,0,0,0,0,0,0,0,0,0,0,0,0,0,0,0,0,0,0,0,0,0,0,0,0,0,0,0,0,0,0,0],rfl⟩
def jV.put (x:jV) (i:Nat) (b:UInt8):jV:=⟨x.l.set i b,by simp [x.h]⟩
inductive MV where
 |b (x:Bool)
 |i (k:IntKind) (n:Int)
 |s (l:List UInt8)
 |h (x:jV)
 |raw (v:Value)
 |list (xs:List MV)
 |agg (cs:List MV)
 |cC (vs:List MV)
 |func (f:Nat) (cap:List MV)
 |rp (cs:List MV)
 |fresh (xs:List MV)
 |cell (m:MV)
 |dG (r:MV) (outs:List MV)
instance:Inhabited MV:=⟨.b false⟩
mutual
def MV.w:MV→Nat
 | .h _=>32
 | .agg cs=>MV.wl cs
 |_=>1
def MV.wl:List MV→Nat
 |[]=>0
 |m::r=>m.w+MV.wl r
end
def rZ (n:Nat) (l:List MV):Bool:=l.all fun m=>Nat.beq m.w n
inductive Kd where
 |b|i (k:IntKind)|s|l|h|raw
structure MS where
 st:Bool
 lay:List Kd
 b:Bool
def MS.it:MS:=⟨true,[],true⟩
def Be (s:MS):Bool:=match s.lay with
 |[]=>s.st
 |_=>false
inductive aC where
 |un
 |p (m:MV)
 |hs (x:jV)
 |nil
 |own (gY:Nat)
 |mp (s:MS) (es:List MV)
def aC.w:aC→Nat
 | .hs _=>32
 |_=>1
inductive Slot where
 |skip
 |sc (l:aC)
 |ag (cs:List aC)
 |cC (vs:List Slot)
 |box (cs:List aC)
 |uX (cs:List aC)
 |ptr (root off:Nat)
 |uY (root:Nat)
 |rp (cs:List aC) (off:Nat)
 |hp (root off:Nat) (i:Nat)
 |ep (gY:Nat) (i:Nat) (off:Nat) (st:Bool) (cs:List aC)
abbrev Fr:=List (Nat×Slot)
structure TI where
 st:Bool
 size:Nat
 bytes:Nat
 lay:List Kd
 zero:List aC
 xv:List Nat
 M8:List Nat
 elem:Nat
 cq:List Nat
section
variable {R:Type}
def gB (m:MV) (K:Bool→Option R):Option R:=match m with| .b x=>K x|_=>none
def gI (k:IntKind) (m:MV) (K:Int→Option R):Option R:=match m with| .i k' n=>bif decide (k'=k) then K n else none|_=>none
def gS (m:MV) (K:List UInt8→Option R):Option R:=match m with| .s l=>K l|_=>none
def gL (m:MV) (K:List MV→Option R):Option R:=match m with| .list l=>K l|_=>none
def gH (m:MV) (K:jV→Option R):Option R:=match m with| .h l=>K l|_=>none
def gA (m:MV) (K:List MV→Option R):Option R:=match m with| .agg l=>K l|_=>none
def gT (m:MV) (K:List MV→Option R):Option R:=match m with| .cC l=>K l|_=>none
def gF (m:MV) (K:List MV→Option R):Option R:=match m with| .fresh l=>K l|_=>none
def J5 (m:MV) (K:Nat→List MV→Option R):Option R:=match m with| .func f c=>K f c|_=>none
def gW (m:MV) (K:MV→List MV→Option R):Option R:=match m with| .dG r outs=>K r outs|_=>none
def gP (m:MV) (K:List MV→Option R):Option R:=match m with| .rp c=>K c|_=>none
def gCx (m:MV) (K:Nat→Nat→Option R):Option R:=match m with| .raw (.complex .f64 a b)=>K a b|_=>none
def gR (m:MV) (K:MV→Option R):Option R:=match m with| .raw v=>K (.raw v)| .func f c=>K (.func f c)| .rp c=>K (.rp c)|_=>none
def gC (l:List MV) (K:MV→List MV→Option R):Option R:=match l with|m::r=>K m r|[]=>none
def gN (l:List MV) (K:Option R):Option R:=match l with|[]=>K|_=>none
def bd {α:Type} (x:Option α) (K:α→Option R):Option R:=match x with|some a=>K a|none=>none
def WA (l:List MV) (i:Int):Option MV:=if 0≤i then l[i.toNat]? else none
def idx (l:List MV) (i:Int) (K:MV→Option R):Option R:=
 match WA l i with|some x=>K x|none=>none
def dv (c:Bool) (K:Option R):Option R:=match c with|true=>K|false=>none
def bC (c:Bool) (x y:Option R):Option R:=match c with|true=>x|false=>y
def Ej:List Nat→Nat→(Nat→Option R)→Option R
 |[],_,_=>none
 |[p],e,K=>bif Nat.beq e p then K p else none
 |p::q::r,e,K=>bif Nat.beq e p then K p else Ej (q::r) e K
def jc (k:Kd) (m:MV) (K:aC→Option R):Option R:=
 match k with
 | .b=>gB m fun x=>K (.p (.b x))
 | .i k=>gI k m fun x=>K (.p (.i k x))
 | .s=>gS m fun x=>K (.p (.s x))
 | .l=>gL m fun x=>K (.p (.list x))
 | .h=>gH m fun x=>K (.hs x)
 | .raw=>gR m fun m=>K (.p m)
def qI:List Kd→List MV→(List aC→Option R)→Option R
 |[],l,K=>gN l (K [])
 |k::ks,l,K=>gC l fun m r=>jc k m fun x=>qI ks r fun xs=>K (x::xs)
end
def iter {σ R:Type} (body:σ→Option (Sum σ R)):Nat→σ→Option R
 |0,_=>none
 |n+1,s=>match body s with
  |some (.inl s')=>iter body n s'
  |some (.inr r)=>some r
  |none=>none
open Classical in
noncomputable def Loop {σ R:Type} (body:σ→Option (Sum σ R)) (s:σ):Option R:=
 if h: ∃r n,iter body n s=some r then some (Classical.choose h) else none
def aj:Fr→Nat→Slot
 |[],_=> .sc .un
 |(k,s)::r,t=>bif Nat.beq k t then s else aj r t
def Ek {R:Type}:Fr→Nat→Slot→(Fr→Option R)→Option R
 |[],t,v,K=>K [(t,v)]
 |(k,s)::r,t,v,K=>bif Nat.beq k t then K ((k,v)::r) else Ek r t v fun r=>K ((k,s)::r)
def force {R:Type} (s:Slot) (K:Slot→Option R):Option R:=match s with
 | .skip=>K .skip
 | .sc l=>K (.sc l)
 | .ag cs=>K (.ag cs)
 | .cC vs=>K (.cC vs)
 | .box cs=>K (.box cs)
 | .uX cs=>K (.uX cs)
 | .ptr r o=>K (.ptr r o)
 | .uY r=>K (.uY r)
 | .rp cs o=>K (.rp cs o)
 | .hp r o i=>K (.hp r o i)
 | .ep f i o b cs=>K (.ep f i o b cs)
def bp:List Nat→Nat→Bool
 |[],_=>false
 |k::r,t=>bif Nat.beq k t then true else bp r t
def wZ (t:Nat):Bool:=Nat.ble 1000000 t
def posOf (t:Nat):Nat:=(t-1000000)%1000
def HU (t:Nat):Nat:=(t-1000000)/1000
def plk:List (Nat×Nat)→Nat→Option Nat
 |[],_=>none
 |(k,x)::r,t=>bif Nat.beq k t then some x else plk r t
def cN:Slot→Bool
 | .ptr _ _| .hp _ _ _| .ep _ _ _ _ _| .rp _ _| .uY _=>true
 |_=>false
def r5 {R:Type} (ds:List Nat):Fr→(Fr→Option R)→Option R
 |[],K=>K []
 |(k,s)::r,K=>bif cN s||bp ds k then r5 ds r K else r5 ds r fun r=>K ((k,s)::r)
def cr:Slot→Bool
 | .box _| .uX _=>true
 |_=>false
def pick {R:Type} (ks:List Nat):Fr→(Fr→Option R)→Option R
 |[],K=>K []
 |(k,s)::r,K=>bif bp ks k&&!cN s then pick ks r fun r=>K ((k,s)::r) else pick ks r K
structure mr where
 ty:Nat
 dD:Bool
 xs:List MV
structure St where
 b4:List Nat
 b5:List Nat
 fr:Fr
 aL:List (Nat×mr)
def aE:List (Nat×mr)→Nat→Option mr
 |[],_=>none
 |(k,s)::r,t=>bif Nat.beq k t then some s else aE r t
def J6 {R:Type}:List (Nat×mr)→Nat→mr→(List (Nat×mr)→Option R)→Option R
 |[],t,v,K=>K [(t,v)]
 |(k,s)::r,t,v,K=>bif Nat.beq k t then K ((k,v)::r) else J6 r t v fun r=>K ((k,s)::r)
def kB (a b:IntKind):Bool:=decide (a=b)
def VA:Kd→Kd→Bool
 | .b,.b=>true
 | .i k,.i k'=>kB k k'
 | .s,.s=>true
 | .l,.l=>true
 | .h,.h=>true
 | .raw,.raw=>true
 |_,_=>false
def Bf:List Kd→List Kd→Bool
 |[],[]=>true
 |x::xs,y::ys=>VA x y&&Bf xs ys
 |_,_=>false
def YH (s t:MS):Bool:=(s.st==t.st)&&(Bf s.lay t.lay&&(s.b==t.b))
def s6 {R:Type} (f:Nat):List aC→(List aC→Option R)→Option R
 |[],K=>K []
 |l::r,K=>(match l with
  | .own g=>bif Nat.beq g f then s6 f r fun r=>K (.un::r) else s6 f r fun r=>K (.own g::r)
  |l=>s6 f r fun r=>K (l::r))
def EY {R:Type} (f:Nat) (s:Slot) (K:Slot→Option R):Option R:=match s with
 | .sc (.own g)=>bif Nat.beq g f then K (.sc .un) else K (.sc (.own g))
 | .ag cs=>s6 f cs fun cs=>K (.ag cs)
 | .box cs=>s6 f cs fun cs=>K (.box cs)
 | .ep g i o b cs=>bif Nat.beq g f then K (.sc .un) else K (.ep g i o b cs)
 |s=>K s
def Y8 {R:Type} (f:Nat):Fr→(Fr→Option R)→Option R
 |[],K=>K []
 |(k,s)::r,K=>EY f s fun s=>Y8 f r fun r=>K ((k,s)::r)
section
variable {R:Type}
def pA (st:St) (l:aC) (K:MV→St→Option R):Option R:=
 match l with
 | .un=>none
 | .p m=>K m st
 | .hs x=>K (.h x) st
 | .nil=>K (.list []) st
 | .mp _ _=>none
 | .own f=>match aE st.aL f with
  |some o=>bif o.dD then K (.list o.xs) st else bif bp st.b5 f then none else (match st with|⟨p,q,r,m⟩=>J6 m f ⟨o.ty,true,o.xs⟩ fun m=>K (.list o.xs) ⟨p,q,r,m⟩)
  |none=>none
def nW (st:St):List aC→(List MV→St→Option R)→Option R
 |[],K=>K [] st
 |l::r,K=>pA st l fun m st=>nW st r fun ms st=>K (m::ms) st
def kU (st:St) (s:Slot) (K:MV→St→Option R):Option R:=
 match s with
 | .sc l=>pA st l K
 | .ag cs=>nW st cs fun ms st=>K (.agg ms) st
 | .rp cs off=>bif Nat.beq off 0 then nW st cs fun ms st=>K (.rp ms) st else none
 |_=>none
def s7 (st:St):List Slot→(List MV→St→Option R)→Option R
 |[],K=>K [] st
 |l::r,K=>kU st l fun m st=>s7 st r fun ms st=>K (m::ms) st
end
def uZ:List aC→Nat
 |[]=>0
 |k::r=>k.w+uZ r
def cut:List aC→Nat→Option (List aC)
 |cs,0=>some cs
 |c::cs,n+1=>bif Nat.ble c.w (n+1) then cut cs (n+1-c.w) else none
 |_,_=>none
def HV:List aC→Nat→Option (List aC)
 |_,0=>some []
 |c::cs,n+1=>bif Nat.ble c.w (n+1) then (match HV cs (n+1-c.w) with|some b=>some (c::b)|none=>none) else none
 |_,_=>none
def part (cs:List aC) (off n:Nat):Option (List aC):=
 match cut cs off with
 |some a=>HV a n
 |none=>none
def over:List aC→List aC→Option (List aC)
 |[],cs=>some cs
 |v::vs,c::cs=>bif Nat.beq v.w c.w then (match over vs cs with|some r=>some (v::r)|none=>none) else none
 |_,[]=>none
def putAt:List aC→Nat→List aC→Option (List aC)
 |cs,0,vs=>over vs cs
 |c::cs,n+1,vs=>bif Nat.ble c.w (n+1) then (match putAt cs (n+1-c.w) vs with|some r=>some (c::r)|none=>none) else none
 |_,_,_=>none
def app {α:Type}:List α→List α→Option (List α)
 |[],l=>some l
 |x::r,l=>(match app r l with|some q=>some (x::q)|none=>none)
def HW:aC→Bool
 | .un=>true
 | .mp _ _=>true
 |_=>false
def ee:List aC→Bool
 |[.mp _ _]=>true
 |_=>false
def zx:Slot→Bool
 | .box cs=>!ee cs
 |_=>false
def BS {R:Type} (ok:Nat→Bool) (r0:Fr):Fr→Fr→(Fr→Option R)→Option R
 |[],fr,K=>K fr
 |(t,s)::r,fr,K=>match s with
  | .ptr root off=>bif ok t&&(!wZ root&&(zx (aj r0 root)&&(zx (aj fr root)&&!cr (aj fr t)))) then Ek fr t (.ptr root off) fun fr=>BS ok r0 r fr K else BS ok r0 r fr K
  |_=>BS ok r0 r fr K
def jY:List aC→Bool
 |[.mp s _]=>!Be s
 |_=>false
def r6:List aC→Bool
 |[]=>false
 |l::r=>bif HW l then true else r6 r
def YI {R:Type} (f:Nat):Fr→(Fr→Option R)→Option R
 |[],K=>K []
 |(k,s)::r,K=>(match s with
  | .ep g i o b cs=>bif Nat.beq g f then YI f r fun r=>K ((k,.sc .un)::r) else YI f r fun r=>K ((k,.ep g i o b cs)::r)
  |s=>YI f r fun r=>K ((k,s)::r))
inductive LK where
 |k (x:Kd)
 |own (f:Nat) (ty:Nat) (dD:Bool)
inductive OK where
 |sc (l:LK)
 |ag (ls:List LK)
 |box (ls:List LK)
 |mp (s:MS)
 |pt (root off:Nat)
structure pB where
 b4:List Nat
 b5:List Nat
 outs:List (Nat×OK)
 exo:List (Nat×List (Nat×OK))
 dD:List Nat
instance:Inhabited pB:=⟨⟨[],[],[],[],[]⟩⟩
def Pl:List (Nat×List (Nat×OK))→Nat→List (Nat×OK)
 |[],_=>[]
 |(k,l)::r,e=>bif Nat.beq k e then l else Pl r e
def pB.ex (h:pB) (e:Nat):List (Nat×OK):=Pl h.exo e
def LN:List (Nat×List (Nat×OK))→List (Nat×OK)
 |[]=>[]
 |(_,l)::r=>l++LN r
def pB.all (h:pB):List (Nat×OK):=h.outs++LN h.exo
structure Ctx where
 ti:Nat→Option TI
 key:Nat→Nat
 g:Nat→List MV→Option MV
 dJ:Nat→Bool
 fresh:Nat→Bool
 qv:Nat→Nat
 sig:Nat→Option (Nat×List LK)
 par:List (Nat×Nat)
 n:Nat
 bs:List Nat
 fl:List Nat
 fz:Nat→List Nat
 fk:Nat→Option FloatKind
 mt:Nat→Option (Nat×Bool)
 ord:Nat→List Nat
 HL:Nat→pB
 Gp:Nat→pB
 El:Nat→pB
 Gq:Nat→Bool
 dyn:List Nat
def Ctx.tv (c:Ctx) (t:Nat):Option TI:=match c.ti t with|some I=>(match I.cq with|[]=>some I|_=>none)|none=>none
def vT:Value→Slot
 | .bool b=> .sc (.p (.b b))
 | .int k n=> .sc (.p (.i k n))
 | .string s=> .sc (.p (.s s.data.toList))
 | .slice none 0 0=> .sc .nil
 | .float k b=> .sc (.p (.raw (.float k b)))
 | .complex k a b=> .sc (.p (.raw (.complex k a b)))
 | .pointer none=> .sc (.p (.raw (.pointer none)))
 | .nilFunc=> .sc (.p (.raw .nilFunc))
 | .nilIface=> .sc (.p (.raw .nilIface))
 |_=> .sc .un
def aJ (c:Ctx) (st:St):Operand→Slot
 | .tmp t=>match plk c.par t with
  |some q=>bif wZ q&&Nat.beq (posOf q) t then (match aj st.fr q with| .box cs=>bif ee cs then .sc .un else .ptr q (HU q)|_=> .sc .un) else .sc .un
  |none=>match aj st.fr t with
   | .box cs=>bif wZ t then .sc .un else bif jY cs then .uY t else .ptr t 0
   | .uX cs=> .rp cs 0
   |s=>s
 | .const v=>vT v
 | .func f=> .sc (.p (.func (c.key f) []))
 | .global _=> .sc .un
def hU (c:Ctx) (st:St):List Operand→List Slot
 |[]=>[]
 |o::r=>aJ c st o::hU c st r
section
variable {R:Type}
def wr (st:St) (d:Nat) (s:Slot) (K:St→Option R):Option R:=
 bif bp st.b4 d then none else (match st with|⟨p,q,r,m⟩=>force s fun s=>Ek r d s fun r=>K ⟨p,q,r,m⟩)
def bj (c:Ctx) (st:St) (d:Option Nat) (s:Slot) (K:St→Option R):Option R:=
 match d with
 |some d=>bif wZ d||(Nat.ble c.n d||cr (aj st.fr d)) then none else wr st d s K
 |none=>K st
def iI (st:St) (f:Nat) (o:mr) (K:St→Option R):Option R:=
 bif bp st.b5 f then none else (match st with|⟨p,q,r,m⟩=>Y8 f r fun r=>J6 m f o fun m=>K ⟨p,q,r,m⟩)
def jd (I:TI) (cs:List aC) (off:Nat) (K:Slot→Option R):Option R:=
 bif I.st then (match part cs off I.size with|some a=>K (.ag a)|none=>none)
 else (match cut cs off with|some (l::_)=>bif Nat.beq l.w I.size then K (.sc l) else none|_=>none)
def ldK (st:St) (I:TI) (a:Slot) (K:Slot→Option R):Option R:=
 match a with
 | .ptr root off=>match aj st.fr root with
  | .box cs=>bif ee cs then none else jd I cs off K
  |_=>none
 | .rp cs off=>jd I cs off K
 | .ep f _ off _ cs=>(match aE st.aL f with|some _=>jd I cs off K|none=>none)
 | .hp root off i=>bif I.st||!Nat.beq I.size 1 then none else (match aj st.fr root with
  | .box cs=>bif ee cs then none else (match cut cs off with|some (.hs x::_)=>K (.sc (.p (.i .u8 (x.l.getD i 0).toNat)))|_=>none)
  |_=>none)
 |_=>none
def aF:Slot→List aC
 | .sc l=>[l]
 | .ag cs=>cs
 |_=>[]
def bt:List aC→Option (List MV)
 |[]=>some []
 |l::r=>match l,bt r with
  | .p m,some q=>some (m::q)
  | .hs x,some q=>some (.h x::q)
  |_,_=>none
def oo:List aC→List MV→Option (List aC)
 |[],[]=>some []
 | .hs x::r,_::ms=>(match oo r ms with|some q=>some (.hs x::q)|none=>none)
 |_::r,m::ms=>(match oo r ms with|some q=>some (.p m::q)|none=>none)
 |_,_=>none
def rv (b:Bool) (cs:List MV):Option MV:=match b,cs with
 |false,[m]=>some m
 |true,cs=>some (.agg cs)
 |_,_=>none
def isByte (n:Int):Bool:=decide (n=((UInt8.ofNat n.toNat).toNat:Int))
def stK (st:St) (I:TI) (a v:Slot) (K:St→Option R):Option R:=
 bif r6 (aF v)||!Nat.beq (uZ (aF v)) I.size then none else
 match a with
 | .ptr root off=>match aj st.fr root with
  | .box cs=>bif ee cs then none else (match putAt cs off (aF v) with|some eR=>wr st root (.box eR) K|none=>none)
  |_=>none
 | .hp root off i=>match aj st.fr root,v with
  | .box cs,.sc (.p n)=>bif ee cs then none else (match cut cs off with
   |some (.hs x::_)=>gI .u8 n fun n=>dv (isByte n) (match putAt cs off [.hs (x.put i (UInt8.ofNat n.toNat))] with|some eR=>wr st root (.box eR) K|none=>none)
   |_=>none)
  |_,_=>none
 | .ep f i off b cs=>nW st (aF v) fun ms st=>match aE st.aL f with
  |some o=>bif o.dD then none else
   (match oo (aF v) ms with
   |some vs=>(match putAt cs off vs with
    |some eR=>(match bt eR with
     |some ms'=>(match rv b ms' with
      |some x=>bif bp st.b5 f then none else
       (match st with|⟨p,q,r,m⟩=>YI f r fun r=>J6 m f ⟨o.ty,false,o.xs.set i x⟩ fun m=>K ⟨p,q,r,m⟩)
      |none=>none)
     |none=>none)
    |none=>none)
   |none=>none)
  |none=>none
 |_=>none
def Gr (I:TI) (x:MV) (K:List aC→Option R):Option R:=
 bif I.st then gA x fun cs=>qI I.lay cs K
 else match I.lay with
  |[k]=>jc k x fun x=>K [x]
  |_=>none
def Au (I:TI) (x:MV) (K:Slot→Option R):Option R:=
 bif I.st then gA x fun cs=>qI I.lay cs fun cs=>K (.ag cs)
 else match I.lay with
  |[k]=>jc k x fun x=>K (.sc x)
  |_=>none
def BT (c:Ctx):List Nat→List MV→(List Slot→Option R)→Option R
 |[],l,K=>gN l (K [])
 |t::ts,l,K=>match c.tv t with
  |some I=>gC l fun m r=>Au I m fun s=>BT c ts r fun ss=>K (s::ss)
  |none=>none
def oZ (c:Ctx) (I:TI) (x:MV) (K:Slot→Option R):Option R:=
 match I.cq with
 |[]=>Au I x K
 |ts=>gT x fun vs=>BT c ts vs fun ss=>K (.cC ss)
def zy:aC→aC→Option Bool
 | .p (.b x),.p (.b y)=>some (decide (x=y))
 | .p (.i k x),.p (.i k' y)=>bif decide (k=k') then some (decide (x=y)) else none
 | .p (.s x),.p (.s y)=>some (decide (x=y))
 | .hs x,.hs y=>some (decide (x=y))
 |_,_=>none
def ia:List aC→List aC→Option Bool
 |[],[]=>some true
 |[x],[y]=>zy x y
 |x::xs,y::ys=>match zy x y,ia xs ys with
  |some a,some b=>some (a&&b)
  |_,_=>none
 |_,_=>none
def Gs (op:BinOp) (x y:List UInt8):Option MV:=
 match op with
 | .eql=>some (.b (decide (x=y)))
 | .neq=>some (.b (!decide (x=y)))
 | .lss=>some (.b (Op.bytesLess x y))
 | .gtr=>some (.b (!(Op.bytesLess x y||decide (x=y))))
 | .leq=>some (.b (Op.bytesLess x y||decide (x=y)))
 | .geq=>some (.b (!Op.bytesLess x y))
 |_=>none
def LO (op:BinOp) (k:IntKind) (x y:Int):Option MV:=
 match op with
 | .add=>some (.i k (k.wrap (x+y)))
 | .sub=>some (.i k (k.wrap (x-y)))
 | .mul=>some (.i k (k.wrap (x *y)))
 | .eql=>some (.b (decide (x=y)))
 | .neq=>some (.b (!decide (x=y)))
 | .lss=>some (.b (decide (x<y)))
 | .leq=>some (.b (decide (x≤y)))
 | .gtr=>some (.b (decide (y<x)))
 | .geq=>some (.b (decide (y≤x)))
 |_=>none
def lN:Kd→aC→Bool
 | .b,.p (.b _)=>true
 | .i k,.p (.i k' _)=>decide (k'=k)
 | .s,.p (.s _)=>true
 | .h,.hs _=>true
 |_,_=>false
def dX:List Kd→List aC→Bool
 |[],[]=>true
 |k::ks,l::ls=>bif lN k l then dX ks ls else false
 |_,_=>false
def kV (st:Bool):Slot→Bool
 | .ag _=>st
 | .sc _=>!st
 |_=>false
def Y9 (op:BinOp) (a b:Nat):Option Nat:=match op with
 | .add=>FloatKind.f64.format.add a b
 | .sub=>FloatKind.f64.format.sub a b
 | .mul=>FloatKind.f64.format.mul a b
 |_=>none
def WB (oI:Option TI) (op:BinOp) (x y:Slot) (K:Slot→Option R):Option R:=
 match x,y with
 | .sc (.p (.i k a)),.sc (.p (.i k' b))=>
  (match op with
   | .quo=>bif decide (k=k') then dv (!decide (b=0)) (K (.sc (.p (.i k (k.wrap (a.tdiv b)))))) else none
   | .rem=>bif decide (k=k') then dv (!decide (b=0)) (K (.sc (.p (.i k (a.tmod b))))) else none
   | .shr=>dv (decide (0≤b)) (K (.sc (.p (.i k (a.fdiv (2^min b.toNat k.bits))))))
   | .shl=>dv (decide (0≤b)) (K (.sc (.p (.i k (k.wrap (a *2^min b.toNat k.bits))))))
   |_=>bif decide (k=k') then (match LO op k a b with|some m=>K (.sc (.p m))|none=>none) else none)
 | .sc (.p (.s a)),.sc (.p (.s b))=>(match op with
  | .add=>dv (decide (a.length+b.length≤2^46)) (K (.sc (.p (.s (a++b)))))
  |_=>(match Gs op a b with|some m=>K (.sc (.p m))|none=>none))
 | .sc (.p (.raw (.float .f64 a))),.sc (.p (.raw (.float .f64 b)))=>bd (Y9 op a b) fun r=>K (.sc (.p (.raw (.float .f64 r))))
 |x,y=>match oI with
  |some I=>bif dX I.lay (aF x)&&dX I.lay (aF y)&&(kV I.st x&&kV I.st y) then (match op with
   | .eql=>(match ia (aF x) (aF y) with|some b=>K (.sc (.p (.b b)))|none=>none)
   | .neq=>(match ia (aF x) (aF y) with|some b=>K (.sc (.p (.b (!b))))|none=>none)
   |_=>none) else none
  |none=>none
def sliceB (lo hi:Option Slot) (len:Nat) (K:Nat→Nat→Option R):Option R:=
 match lo,hi with
 |none,none=>K 0 len
 |some (.sc (.p (.i _ l))),none=>dv (decide (0≤l∧l≤(len:Int)∧(len:Int)≤(len:Int))) (K l.toNat (Int.toNat (len:Int)))
 |none,some (.sc (.p (.i _ h)))=>dv (decide (0≤(0:Int)∧(0:Int)≤h∧h≤(len:Int))) (K (Int.toNat 0) h.toNat)
 |some (.sc (.p (.i _ l))),some (.sc (.p (.i _ h)))=>dv (decide (0≤l∧l≤h∧h≤(len:Int))) (K l.toNat h.toNat)
 |_,_=>none
def kz (c:Ctx) (st:St):Option Operand→Option Slot
 |some o=>some (aJ c st o)
 |none=>none
def u5:List aC→Option (List MV)
 |[]=>some []
 |l::r=>match l,u5 r with
  | .p m,some q=>some (m::q)
  | .hs x,some q=>some (.h x::q)
  | .nil,some q=>some (.list []::q)
  |_,_=>none
def Pm (d:Nat) (st:St) (I E:TI) (x y:Slot) (K:Slot→St→Option R):Option R:=match x,y with
 | .sc (.p (.i _ n)),.sc (.p (.i _ m))=>bif Nat.ble 1 E.bytes then dv (decide ((0:Int)≤n∧n=m∧n *E.bytes≤2^46)) (match u5 E.zero with
  |some zs=>(match rv E.st zs with
   |some z=>iI st d ⟨I.elem,false,List.replicate n.toNat z⟩ fun st=>K (.sc (.own d)) st
   |none=>none)
  |none=>none) else none
 |_,_=>none
def Gt (I E:TI) (st:St) (x:Slot) (K:List MV→Option R):Option R:=match x with
 | .sc (.p (.list xs))=>dv (rZ E.size xs) (K xs)
 | .sc .nil=>K []
 | .sc (.own f)=>(match aE st.aL f with|some o=>bif Nat.beq o.ty I.elem then K o.xs else none|none=>none)
 |_=>none
def xw (c:Ctx) (st:St) (I:TI):List (Nat×Operand)→List aC→Option (List aC)
 |[],cs=>some cs
 |(i,o)::r,cs=>match I.xv[i]?,I.M8[i]? with
  |some q,some y=>(match c.tv y with
   |some J=>bif r6 (aF (aJ c st o))||!Nat.beq (uZ (aF (aJ c st o))) J.size then none else
    (match putAt cs q (aF (aJ c st o)) with|some eR=>xw c st I r eR|none=>none)
   |none=>none)
  |_,_=>none
def BU (c:Ctx) (st:St):List (Nat×Operand)→jV→(jV→Option R)→Option R
 |[],x,K=>K x
 |(i,o)::r,x,K=>match aJ c st o with
  | .sc (.p m)=>bif Nat.ble 32 i then none else gI .u8 m fun n=>dv (isByte n) (BU c st r (x.put i (UInt8.ofNat n.toNat)) K)
  |_=>none
def Pn (c:Ctx) (st:St):List (Nat×Operand)→Nat→(List MV→St→Option R)→Option R
 |[],_,K=>K [] st
 |(i,o)::r,n,K=>bif Nat.beq i n then kU st (aJ c st o) fun m st=>Pn c st r (n+1) fun ms st=>K (m::ms) st else none
def yh (c:Ctx) (st:St):List Operand→(List MV→St→Option R)→Option R
 |[],K=>K [] st
 |o::r,K=>match aJ c st o with
  | .ptr root 0=>(match aj st.fr root with
   | .box cs=>bif r6 cs||wZ root then none else nW st cs fun ms st=>(match oo cs ms with|some eR=>wr st root (.uX eR) fun st=>yh c st r fun xs st=>K (.rp ms::xs) st|none=>none)
   |_=>none)
  | .rp cs 0=>nW st cs fun ms st=>yh c st r fun xs st=>K (.rp ms::xs) st
  |_=>none
def yi (c:Ctx) (k:Nat) (st:St) (s:Slot) (K:MV→St→Option R):Option R:=match s with
 | .sc (.own f)=>(match aE st.aL f with
  |some o=>bif o.dD||!Nat.beq o.ty (c.qv k) then none else iI st f ⟨o.ty,true,[]⟩ fun st=>K (.fresh o.xs) st
  |none=>none)
 | .sc .nil=>(match c.tv (c.qv k) with|some _=>K (.fresh []) st|none=>none)
 |_=>none
def LP (c:Ctx) (k:Nat) (st:St) (ss:List Slot) (K:List MV→St→Option R):Option R:=
 bif c.dJ k then (match ss with
  |[s0,s1,s2]=>(match s2 with
   | .sc (.p m2)=>kU st s1 fun m1 st=>yi c k st s0 fun m0 st=>K [m0,m1,m2] st
   |s2=>kU st s1 fun m1 st=>yi c k st s0 fun m0 st=>yi c k st s2 fun m2 st=>K [m0,m1,m2] st)
  |_=>none)
 else s7 st ss K
def Za (x y:Int):Int:=if y<x then y else x
def imax (x y:Int):Int:=if y>x then y else x
def Po (mx:Bool) (k:IntKind):Int→List Slot→Option MV
 |x,[]=>some (.i k x)
 |x,.sc (.p (.i k' y))::r=>bif decide (k'=k) then Po mx k (bif mx then imax x y else Za x y) r else none
 |_,_=>none
def J7 (mx:Bool):List Slot→Option MV
 | .sc (.p (.i k n))::r=>Po mx k n r
 |_=>none
def Pp (c:Ctx) (d:Nat) (st:St) (f:Nat) (ms:List MV) (I:TI) (K:Slot→St→Option R):Option R:=
 bd (c.g f ms) fun r=>bif c.fresh f then gF r fun xs=>bif !Nat.beq I.elem (c.qv f) then none else iI st d ⟨I.elem,false,xs⟩ fun st=>K (.sc (.own d)) st else oZ c I r fun s=>K s st
def WC (s:Slot) (K:Slot→Option R):Option R:=match s with
 | .ptr r o=>K (.ptr r o)
 | .rp cs o=>K (.rp cs o)
 |_=>none
def Pq (x y z:Slot) (K:Slot→Option R):Option R:=match x with
 | .sc (.p (.b v))=>(match y,z with
  | .sc (.p (.b p)),.sc (.p (.b q))=>K (.sc (.p (.b (bif v then p else q))))
  |p,q=>match v with|true=>K p|false=>K q)
 |_=>none
def WD (I:TI) (s:Slot) (K:Slot→Option R):Option R:=match s with
 | .sc l=>bif I.st||HW l||!Nat.beq l.w I.size then none else K (.box [l])
 | .ag cs=>bif I.st&&!r6 cs&&Nat.beq (uZ cs) I.size then K (.box cs) else none
 |_=>none
def unK (op:UnOp) (s:Slot) (K:Slot→Option R):Option R:=match op,s with
 | .not,.sc (.p (.b v))=>K (.sc (.p (.b (!v))))
 | .neg,.sc (.p (.i k n))=>K (.sc (.p (.i k (k.wrap (0-n)))))
 |_,_=>none
def Ps (I:TI) (fk:Option FloatKind) (s:Slot) (K:Slot→Option R):Option R:=match I.st,I.cq,I.lay,s with
 |false,[],[.i k],.sc (.p (.i _ n))=>K (.sc (.p (.i k (k.wrap n))))
 |false,[],[.s],.sc (.p (.s l))=>K (.sc (.p (.s l)))
 |false,[],[.i k],.sc (.p (.raw (.float .f64 a)))=>bd ((FloatKind.decode .f64 a).toInt .zero) fun n=>dv (decide (k.min≤n∧n≤k.max)) (K (.sc (.p (.i k n))))
 |false,[],[.raw],.sc (.p (.i _ n))=>(match fk with
  |some .f64=>K (.sc (.p (.raw (.float .f64 (FloatKind.nearest .f64 n)))))
  |_=>none)
 |_,_,_,_=>none
def TI.w8 (I:TI):Bool:=match I.st,I.lay with|false,[.l]=>true|_,_=>false
def TI.SW (I:TI):Bool:=match I.st,I.lay with|false,[.s]=>true|_,_=>false
def J8 (c:Ctx) (I:TI) (st:St) (s:Slot) (lo hi:Option Slot) (K:Slot→St→Option R):Option R:=match s with
 | .sc (.p (.s l))=>bif I.SW then sliceB lo hi l.length fun a b=>K (.sc (.p (.s ((l.take b).drop a)))) st else none
 | .sc (.p (.list l))=>bif I.w8 then (match c.tv I.elem with
  |some E=>(match lo with
   |none=>sliceB none hi l.length fun a b=>K (.sc (.p (.list ((l.take b).drop a)))) st
   |some lo=>dv (rZ E.size l) (sliceB (some lo) hi l.length fun a b=>K (.sc (.p (.list ((l.take b).drop a)))) st))
  |none=>none) else none
 | .sc (.own f)=>(match aE st.aL f with
  |some o=>bif I.w8&&Nat.beq o.ty I.elem then pA st (.own f) fun _ st=>sliceB lo hi o.xs.length fun a b=>K (.sc (.p (.list ((o.xs.take b).drop a)))) st else none
  |none=>none)
 | .sc .nil=>bif I.w8 then sliceB lo hi 0 fun _ _=>K (.sc .nil) st else none
 |_=>none
def Pt (st:St) (I:TI) (f:Nat) (s:Slot) (K:Slot→Option R):Option R:=match I.st,I.xv[f]?,s with
 |true,some q,.ptr r o=>K (.ptr r (o+q))
 |true,some q,.rp cs o=>K (.rp cs (o+q))
 |true,some q,.ep g i o b cs=>(match aE st.aL g with|some _=>K (.ep g i (o+q) b cs)|none=>none)
 |_,_,_=>none
def WE (c:Ctx) (I:TI) (f:Nat) (s:Slot) (K:Slot→Option R):Option R:=match I.st,I.xv[f]?,I.M8[f]?,s with
 |true,some q,some y,.ag cs=>(match c.tv y with|some J=>jd J cs q K|none=>none)
 |_,_,_,_=>none
def WG (c:Ctx) (st:St) (I E:TI) (x i:Slot) (K:Slot→Option R):Option R:=match x,i with
 | .sc (.p (.list xs)),.sc (.p (.i _ n))=>bif I.w8 then idx xs n fun x=>Gr E x fun cs=>K (.rp cs 0) else none
 | .sc (.own f),.sc (.p (.i _ n))=>(match aE st.aL f with
  |some o=>bif I.w8 then idx o.xs n fun x=>Gr E x fun cs=>K (.ep f n.toNat 0 E.st cs) else none
  |none=>none)
 | .ptr r o,.sc (.p (.i _ n))=>bif I.st then none else (match I.lay with|[.h]=>dv (decide ((0:Int)≤n∧n<32)) (K (.hp r o n.toNat))|_=>none)
 |_,_=>none
def ixK (I:TI) (x i:Slot) (K:Slot→Option R):Option R:=match I.st,I.lay,x,i with
 |false,[.s],.sc (.p (.s l)),.sc (.p (.i _ n))=>dv (decide ((0:Int)≤n∧n<(l.length:Int))) (K (.sc (.p (.i .u8 (l.getD n.toNat 0).toNat))))
 |false,[.h],.sc (.hs x),.sc (.p (.i _ n))=>dv (decide ((0:Int)≤n∧n<32)) (K (.sc (.p (.i .u8 (x.l.getD n.toNat 0).toNat))))
 |_,_,_,_=>none
def WH (s:Slot) (k:Nat) (K:Slot→Option R):Option R:=match s with
 | .cC vs=>(match vs[k]? with|some s=>K s|none=>none)
 |_=>none
def Pu (I:TI) (st:St) (ss:List Slot) (K:Slot→Option R):Option R:=match ss with
 |[.sc (.p (.s l))]=>bif I.SW then K (.sc (.p (.i .i64 l.length))) else none
 |[.sc (.p (.list l))]=>bif I.w8 then K (.sc (.p (.i .i64 l.length))) else none
 |[.sc .nil]=>bif I.w8 then K (.sc (.p (.i .i64 0))) else none
 |[.sc (.own f)]=>bif I.w8 then (match aE st.aL f with|some o=>K (.sc (.p (.i .i64 o.xs.length)))|none=>none) else none
 |_=>none
def WI (d:Nat) (st:St) (I E:TI) (s:Slot) (ys:List MV) (K:Slot→St→Option R):Option R:=bif Nat.ble 1 E.bytes then (match s with
 | .sc .nil=>dv (decide (ys.length *E.bytes≤2^46)) (iI st d ⟨I.elem,false,ys⟩ fun st=>K (.sc (.own d)) st)
 | .sc (.own f)=>(match aE st.aL f with
  |some w=>dv (decide ((w.xs.length+ys.length) *E.bytes≤2^46)) (bif Nat.beq w.ty I.elem then iI st f ⟨w.ty,w.dD,w.xs++ys⟩ fun st=>K (.sc (.own f)) st else none)
  |none=>none)
 |_=>none) else none
def Gu (c:Ctx) (st:St) (I:TI) (f:Slot) (ss:List Slot) (K:Slot→St→Option R):Option R:=match f with
 | .sc (.p m)=>J5 m fun f bQ=>dv (!c.dJ f)<|s7 st ss fun ms st=>bd (c.g f (ms++bQ)) fun r=>oZ c I r fun s=>K s st
 |_=>none
def Em:MV→MV→Bool
 | .b x,.b y=>decide (x=y)
 | .i k x,.i k' y=>decide (k=k')&&decide (x=y)
 | .s x,.s y=>decide (x=y)
 | .h x,.h y=>decide (x=y)
 |_,_=>false
def gK:List MV→List MV→Bool
 |[],[]=>true
 |x::xs,y::ys=>Em x y&&gK xs ys
 |_,_=>false
def pC:MV→List MV
 | .cC (.agg k::_)=>k
 |_=>[]
def WJ:MV→MV
 | .cC [_,v]=>v
 |_=> .b false
def fV:List MV→List MV→Nat
 |[],_=>0
 |e::r,ks=>bif gK (pC e) ks then 0 else fV r ks+1
def asI:MV→Int
 | .i _ n=>n
 |_=>0
def asB:MV→Bool
 | .b x=>x
 |_=>false
def VB (es:List MV) (ks:List MV):Int:=match es[fV es ks]? with|some e=>asI (WJ e)|none=>0
def VC (es:List MV) (ks:List MV):Bool:=match es[fV es ks]? with|some e=>asB (WJ e)|none=>false
def zz (es ks:List MV) (z:MV):List MV:=bif Nat.beq (fV es ks) es.length then es++[.cC [.agg ks,z]] else es
def En (es:List MV) (i:Nat) (v:MV):List MV:=match es[i]? with|some e=>es.set i (.cC [.agg (pC e),v])|none=>es
def gM (b:Bool):MV:=bif b then .b false else .i .i64 0
def s8 (c:Ctx) (t:Nat):Option MS:=match c.mt t with
 |some (kt,b)=>(match c.tv kt with|some I=>bif Be ⟨I.st,I.lay,b⟩ then none else some ⟨I.st,I.lay,b⟩|none=>none)
 |none=>none
def HX (s:MS) (k:Slot) (K:List MV→Option R):Option R:=
 bif dX s.lay (aF k)&&kV s.st k then (match bt (aF k) with|some ks=>K ks|none=>none) else none
def Eo (st:St) (s:MS) (m:Slot) (K:Nat→List MV→Option R):Option R:=match m with
 | .uY r=>(match aj st.fr r with| .box [.mp s' es]=>bif YH s s'&&!Be s' then K r es else none|_=>none)
 |_=>none
def M9 (b:Bool) (s:Slot) (K:MV→Option R):Option R:=match b,s with
 |true,.sc (.p (.b x))=>K (.b x)
 |false,.sc (.p (.i .i64 n))=>K (.i .i64 n)
 |_,_=>none
def Av (st:St) (r:Nat) (s:MS) (es:List MV) (K:St→Option R):Option R:=wr st r (.box [.mp s es]) K
def isLT (c:Ctx) (y:Nat):Bool:=match c.tv y with|some Y=>Y.w8|none=>false
def kW (c:Ctx) (o:Oper):Bool:=match o.op with
 | .assign (.tmp _)=>(match c.mt o.type with|some _=>true|none=>false)
 |_=>false
def BH (c:Ctx) (o:Oper) (st:St) (x:Operand) (K:Slot→St→Option R):Option R:=match x,c.mt o.type with
 | .tmp t,some _=>(match aj st.fr t with
  | .box cs=>bif ee cs then bif bp st.b4 t||wZ t then none else (match st with|⟨p,q,r,m⟩=>r5 [t] r fun r=>K (.box cs) ⟨p,q,r,m⟩) else K (aJ c st x) st
  |_=>K (aJ c st x) st)
 |_,_=>K (aJ c st x) st
def zA (s:MS) (es ks:List MV):Slot:=bif s.b then .sc (.p (.b (VC es ks))) else .sc (.p (.i .i64 (VB es ks)))
def VD (c:Ctx) (st:St) (t:Nat) (m k:Slot) (K:Slot→Option R):Option R:=match s8 c t with
 |some s=>Eo st s m fun _ es=>HX s k fun ks=>K (zA s es ks)
 |none=>none
def VE (c:Ctx) (st:St) (t:Nat) (m k v:Slot) (K:St→Option R):Option R:=match s8 c t with
 |some s=>Eo st s m fun r es=>HX s k fun ks=>M9 s.b v fun v=>Av st r s (En (zz es ks (gM s.b)) (fV es ks) v) K
 |none=>none
def Pv (c:Ctx) (st:St) (t:Nat) (m k:Slot) (K:Slot→St→Option R):Option R:=match s8 c t with
 |some s=>Eo st s m fun r es=>HX s k fun ks=>Av st r s (zz es ks (gM s.b)) fun st=>K (.cC [zA s es ks,.sc (.p (.i .i64 (fV es ks)))]) st
 |none=>none
def Zd (c:Ctx) (st:St) (t:Nat) (m i v:Slot) (K:St→Option R):Option R:=match s8 c t with
 |some s=>Eo st s m fun r es=>(match i with
  | .sc (.p (.i .i64 n))=>dv (decide (0≤n∧n.toNat<es.length)) (M9 s.b v fun v=>Av st r s (En es n.toNat v) K)
  |_=>none)
 |none=>none
def O5 (es:List MV):List UInt8:=match es with|[.s l,.i .i64 _]=>l|_=>[]
def oU (es:List MV):Int:=match es with|[.s _,.i .i64 n]=>n|_=>0
def Ep (es:List MV):Bool:=decide (oU es<((O5 es).length:Int))
def u6 (es:List MV):Int:=(Utf8.decode ⟨(O5 es).toArray⟩ (oU es).toNat).1
def xx (es:List MV):List MV:=[.s (O5 es),.i .i64 (oU es+(Utf8.decode ⟨(O5 es).toArray⟩ (oU es).toNat).2)]
def itK (st:St) (x:Slot) (K:Slot→St→Option R):Option R:=match x with
 | .ptr t 0=>(match aj st.fr t with
  | .box [.mp s es]=>bif Be s then
   bC (Ep es) (wr st t (.box [.mp s (xx es)]) fun st=>K (.cC [.sc (.p (.b true)),.sc (.p (.i .i64 (oU es))),.sc (.p (.i .i32 (u6 es)))]) st)
    (K (.cC [.sc (.p (.b false))]) st)
   else none
  |_=>none)
 |_=>none
def byK (m:MV) (K:UInt8→Option R):Option R:=gI .u8 m fun n=>dv (isByte n) (K (UInt8.ofNat n.toNat))
def Pw:List MV→(List UInt8→Option R)→Option R
 |[],K=>K []
 |m::r,K=>byK m fun b=>Pw r fun l=>K (b::l)
def J9 (I:TI) (x:Slot) (K:Slot→Option R):Option R:=match x with
 | .sc (.p (.s l))=>bif I.SW then K (.box [.mp MS.it [.s l,.i .i64 0]]) else none
 |_=>none
def Tg (E:TI):Bool:=match E.st,E.lay with
 |false,[.i k]=>decide (k= .u8)
 |_,_=>false
def Px (c:Ctx) (st:St) (Y I:TI) (x:Slot) (K:Slot→Option R):Option R:=match c.tv Y.elem with
 |some E=>bif I.SW&&Tg E then (match x with
  | .sc (.p (.list xs))=>Pw xs fun l=>K (.sc (.p (.s l)))
  | .sc .nil=>K (.sc (.p (.s [])))
  | .sc (.own f)=>(match aE st.aL f with
   |some o=>bif Nat.beq o.ty Y.elem then Pw o.xs fun l=>K (.sc (.p (.s l))) else none
   |none=>none)
  |_=>none) else none
 |none=>none
def still (c:Ctx) (o:Oper):Bool:=match o.op,o.dst with
 | .load _ _,some d=>bp c.fl d
 |_,_=>false
def bc:List LK→List Nat
 |[]=>[]
 | .own f _ _::r=>f::bc r
 |_::r=>bc r
def meets:List Nat→List Nat→Bool
 |[],_=>false
 |k::r,l=>bif bp l k then true else meets r l
def fR (c:Ctx):List LK→Bool
 |[]=>true
 | .own _ ty _::r=>(match c.tv ty with|some _=>fR c r|none=>false)
 |_::r=>fR c r
def kX (ps:List (Nat×Nat)) (f g:Nat):Bool:=match ps with
 |[]=>true
 |(a,b)::r=>(bif Nat.beq a f then Nat.beq b g&&!Nat.beq g 0 else (bif Nat.beq b g then Nat.beq g 0 else true))&&kX r f g
def Gv (st:St) (ps:List (Nat×Nat)) (k:LK) (l:aC) (K:MV→List (Nat×Nat)→Option R):Option R:=
 match k,l with
 | .k .l,.nil=>K (.list []) ps
 | .k .h,.hs x=>K (.h x) ps
 | .k x,.p m=>jc x m fun _=>K m ps
 | .own f ty dD,.own g=>match aE st.aL g with
  |some o=>bif !Nat.beq o.ty ty||(o.dD&&!dD)||bp st.b5 g||!kX ps f (g+1) then none else K (.list o.xs) ((f,g+1)::ps)
  |none=>none
 | .own f _ _,.nil=>bif kX ps f 0 then K (.list []) ((f,0)::ps) else none
 |_,_=>none
def iJ (st:St):List (Nat×Nat)→List LK→List aC→(List MV→List (Nat×Nat)→Option R)→Option R
 |ps,[],[],K=>K [] ps
 |ps,k::ks,l::ls,K=>Gv st ps k l fun m ps=>iJ st ps ks ls fun ms ps=>K (m::ms) ps
 |_,_,_,_=>none
def jZ (st:St) (k:LK) (m:MV) (K:aC→St→Option R):Option R:=
 match k with
 | .k x=>jc x m fun l=>K l st
 | .own f ty dD=>gL m fun xs=>(match st with|⟨p,q,r,n⟩=>J6 n f ⟨ty,dD,xs⟩ fun n=>K (.own f) ⟨p,q,r,n⟩)
def ct (st:St):List LK→List MV→(List aC→List MV→St→Option R)→Option R
 |[],ms,K=>K [] ms st
 |k::ks,ms,K=>gC ms fun m r=>jZ st k m fun l st=>ct st ks r fun ls ms st=>K (l::ls) ms st
def HY (gs:List Nat):List (Nat×mr)→(List (Nat×mr)→Option R)→Option R
 |[],K=>K []
 |(k,o)::r,K=>bif bp gs k then HY gs r K else HY gs r fun r=>K ((k,o)::r)
def Th:List Nat→Fr→(Fr→Option R)→Option R
 |[],r,K=>K r
 |f::fs,r,K=>Y8 f r fun r=>Th fs r K
def dE:List (Nat×Nat)→List Nat
 |[]=>[]
 |(_,0)::r=>dE r
 |(_,g+1)::r=>g::dE r
def EZ:List Nat→List (Nat×mr)→Bool
 |[],_=>false
 |f::r,m=>(match aE m f with|some _=>true|none=>EZ r m)
def E0 (st:St) (root:Nat) (ks:List LK) (ps:List (Nat×Nat)) (outs:List MV) (K:St→Option R):Option R:=
 ct ⟨[],[],[],[]⟩ ks outs fun cs rest vU=>gN rest<|HY (dE ps) st.aL fun m=>
  bif EZ (bc ks) m||meets (bc ks) st.b5 then none else
   Th (bc ks) st.fr fun r=>Ek r root (.box cs) fun r=>(match app vU.aL m with|some m=>K ⟨st.b4,st.b5,r,m⟩|none=>none)
def LQ (c:Ctx) (gv:Bool) (g:List MV→Option MV) (pos:Nat) (ks:List LK) (st:St) (ss:List Slot) (I:Option TI) (K:Slot→St→Option R):Option R:=
 match ss[pos]? with
 |some (.ptr root off)=>s7 st (ss.take pos) fun m1 st=>s7 st (ss.drop (pos+1)) fun m2 st=>
  (match aj st.fr root with
  | .box cs=>bif ee cs||bp st.b4 root||!fR c ks||!gv then none else iJ st [] ks cs fun ls ps=>
   (match app m1 (.cell (.func off ls)::m2) with
   |some ms=>bd (g ms) fun x=>gW x fun r outs=>E0 st root ks ps outs fun st=>(match I with
    |some I=>oZ c I r fun s=>K s st
    |none=>K (.sc .un) st)
   |none=>none)
  |_=>none)
 |_=>none
def VF (c:Ctx) (key pos:Nat) (ks:List LK) (st:St) (ss:List Slot) (I:Option TI) (K:Slot→St→Option R):Option R:=
 LQ c (c.dJ key) (c.g key) pos ks st ss I K
def Py:List LK→List LK→Bool
 |[],[]=>true
 | .k k1::r,.k k2::q=>VA k1 k2&&Py r q
 | .own f t z::r,.own f' t' z'::q=>Nat.beq f f'&&(Nat.beq t t'&&(z==z'&&Py r q))
 |_,_=>false
def HZ (c:Ctx) (pos:Nat) (ks:List LK):List Nat→Bool
 |[]=>true
 |k::r=>(match c.sig k with|some sg=>Nat.beq sg.1 pos&&Py sg.2 ks|none=>false)&&(c.dJ k&&HZ c pos ks r)
def Pz (c:Ctx) (Na:List Nat) (st:St) (f:Slot) (ss:List Slot) (I:Option TI) (K:Slot→St→Option R):Option R:=match f,Na with
 | .sc (.p m),k0::_=>(match c.sig k0 with
  |some sg=>bif HZ c sg.1 sg.2 Na then J5 m fun k bQ=>gN bQ<|LQ c true (fun ms=>Ej Na k fun k=>c.g k ms) sg.1 sg.2 st ss I K else none
  |none=>none)
 |_,_=>none
def YJ (c:Ctx) (o:Oper) (st:St) (K:Slot→St→Option R):Option R:=
 match o.op with
 | .move x=>K (aJ c st x) st
 | .assign x=>BH c o st x K
 | .makeMap t none=>(match s8 c t with|some s=>K (.box [.mp s []]) st|none=>none)
 | .lookup t m k false=>VD c st t (aJ c st m) (aJ c st k) fun s=>K s st
 | .mapUpdate t m k v=>VE c st t (aJ c st m) (aJ c st k) (aJ c st v) fun st=>K (.sc .un) st
 | .mapEntry t m k=>Pv c st t (aJ c st m) (aJ c st k) K
 | .entryStore t m i v=>Zd c st t (aJ c st m) (aJ c st i) (aJ c st v) fun st=>K (.sc .un) st
 | .nilCheck x=>WC (aJ c st x) fun s=>K s st
 | .pick x a b=>Pq (aJ c st x) (aJ c st a) (aJ c st b) fun s=>K s st
 | .alloc t=>(match c.tv t with|some I=>K (.box I.zero) st|none=>none)
 | .box t x=>(match c.tv t with|some I=>WD I (aJ c st x) fun s=>K s st|none=>none)
 | .build t parts=>(match c.tv t with
  |some I=>bif I.st then (match xw c st I parts.toList I.zero with|some cs=>K (.ag cs) st|none=>none)
   else (match I.lay with|[.h]=>BU c st parts.toList jV.zero fun x=>K (.sc (.hs x)) st|_=>none)
  |none=>none)
 | .buildSlice t n parts=>(match c.tv t with
  |some I=>bif I.w8 then (match c.tv I.elem with
   |some E=>bif Nat.ble (n *E.size) 16777216 then Pn c st parts.toList 0 fun ms st=>bif Nat.beq ms.length n then dv (rZ E.size ms)
    (bif bp c.bs (o.dst.getD 0) then K (.sc (.p (.list ms))) st else iI st (o.dst.getD 0) ⟨I.elem,false,ms⟩ fun st=>K (.sc (.own (o.dst.getD 0))) st) else none else none
   |none=>none) else none
  |none=>none)
 | .makeSlice t x y=>(match c.tv t with
  |some I=>bif I.w8 then (match c.tv I.elem with|some E=>Pm (o.dst.getD 0) st I E (aJ c st x) (aJ c st y) K|none=>none) else none
  |none=>none)
 | .load t a=>(match c.tv t with
  |some I=>bif still c o then (match aJ c st a with| .rp cs off=>jd I cs off fun s=>K s st|_=>none) else ldK st I (aJ c st a) fun s=>K s st
  |none=>none)
 | .store t a v=>(match c.tv t with|some I=>stK st I (aJ c st a) (aJ c st v) fun st=>K (.sc .un) st|none=>none)
 | .binOp op t x y _=>WB (c.tv t) op (aJ c st x) (aJ c st y) fun s=>K s st
 | .unOp op _ x=>unK op (aJ c st x) fun s=>K s st
 | .convert y t x=>bif isLT c y then (match c.tv y,c.tv t with|some Y,some I=>Px c st Y I (aJ c st x) fun s=>K s st|_,_=>none)
  else (match c.ti y,c.tv t with|some _,some I=>Ps I (c.fk t) (aJ c st x) fun s=>K s st|_,_=>none)
 | .range t x=>(match c.tv t with|some I=>J9 I (aJ c st x) fun s=>K s st|none=>none)
 | .next x true=>itK st (aJ c st x) K
 | .makeFunc (.func f) first bQ=>(match first.toList with
  |[]=>yh c st bQ.toList fun ms st=>K (.sc (.p (.func (c.key f) ms))) st
  |_=>none)
 | .slice t x lo hi none=>(match c.tv t with|some I=>J8 c I st (aJ c st x) (kz c st lo) (kz c st hi) K|none=>none)
 | .fieldAddr t x f=>(match c.tv t with|some I=>Pt st I f (aJ c st x) fun s=>K s st|none=>none)
 | .field t x f=>(match c.tv t with|some I=>WE c I f (aJ c st x) fun s=>K s st|none=>none)
 | .indexAddr t x i=>(match c.tv t with
  |some I=>(match c.tv I.elem with|some E=>WG c st I E (aJ c st x) (aJ c st i) fun s=>K s st|none=>none)
  |none=>none)
 | .index t x i=>(match c.tv t with|some I=>ixK I (aJ c st x) (aJ c st i) fun s=>K s st|none=>none)
 | .extract x k=>WH (aJ c st x) k fun s=>K s st
 | .call cl=>(match cl.callee with
  | .value (.func f)=>(match c.sig (c.key f) with
   |some sg=>VF c (c.key f) sg.1 sg.2 st (hU c st cl.args.toList) (c.ti o.type) K
   |none=>match c.ti o.type with
   |some I=>LP c (c.key f) st (hU c st cl.args.toList) fun ms st=>Pp c (o.dst.getD 0) st (c.key f) ms I K
   |none=>none)
  | .value x=>(match c.dyn with
   |_::_=>Pz c c.dyn st (aJ c st x) (hU c st cl.args.toList) (c.ti o.type) K
   |[]=>match c.ti o.type with
   |some I=>Gu c st I (aJ c st x) (hU c st cl.args.toList) K
   |none=>none)
  | .builtin .len=>(match cl.argTypes.toList with
   |[t]=>(match c.tv t with|some I=>Pu I st (hU c st cl.args.toList) fun s=>K s st|none=>none)
   |_=>none)
  | .builtin .append=>(match hU c st cl.args.toList,cl.argTypes.toList with
   |[s,x],[t,t']=>bif Nat.beq t t' then (match c.tv t with
    |some I=>bif I.w8 then (match c.tv I.elem with|some E=>Gt I E st x fun ys=>WI (o.dst.getD 0) st I E s ys K|none=>none) else none
    |none=>none) else none
   |_,_=>none)
  | .builtin .real=>(match hU c st cl.args.toList with|[.sc (.p m)]=>gCx m fun x _=>K (.sc (.p (.raw (.float .f64 x)))) st|_=>none)
  | .builtin .imag=>(match hU c st cl.args.toList with|[.sc (.p m)]=>gCx m fun _ y=>K (.sc (.p (.raw (.float .f64 y)))) st|_=>none)
  | .builtin .complex=>(match hU c st cl.args.toList with|[.sc (.p (.raw (.float .f64 x))),.sc (.p (.raw (.float .f64 y)))]=>K (.sc (.p (.raw (.complex .f64 x y)))) st|_=>none)
  | .builtin .min=>(match J7 false (hU c st cl.args.toList) with|some m=>K (.sc (.p m)) st|none=>none)
  | .builtin .max=>(match J7 true (hU c st cl.args.toList) with|some m=>K (.sc (.p m)) st|none=>none)
  |_=>none)
 |_=>none
def Ka (all:List Oper) (o:Oper) (st:St) (K:Bool→St→Option R):Option R:=
 match o.guard with
 |none=>K true st
 |some (j,want)=>match all[j]? with
  |some p=>(match p.dst with
   |some t=>(match aj st.fr t with
    | .sc (.p (.b v))=>(match v with
     |true=>(match st with|⟨p,q,r,m⟩=>Ek r t (.sc (.p (.b true))) fun r=>K want ⟨p,q,r,m⟩)
     |false=>(match st with|⟨p,q,r,m⟩=>Ek r t (.sc (.p (.b false))) fun r=>K (!want) ⟨p,q,r,m⟩))
    | .skip=>K false st
    |_=>none)
   |none=>none)
  |none=>none
def LR (c:Ctx) (all:List Oper) (o:Oper) (st:St) (K:St→Option R):Option R:=
 Ka all o st fun go st=>
  bif go then YJ c o st fun s st=>bj c st o.dst s K
  else bj c st o.dst .skip K
def s9 (c:Ctx) (all:List Oper):List Oper→St→(St→Option R)→Option R
 |[],st,K=>K st
 |o::r,st,K=>LR c all o st fun st=>s9 c all r st K
end
section
variable {R:Type}
def mb (st:St):List (Nat×Nat)→List (Nat×OK)→(List MV→Option R)→Option R
 |_,[],K=>K []
 |ps,(t,k)::r,K=>match k,aj st.fr t with
  | .sc k,.sc l=>iJ st ps [k] [l] fun ms ps=>mb st ps r fun ns=>(match app ms ns with|some l=>K l|none=>none)
  | .ag ks,.ag ls=>iJ st ps ks ls fun ms ps=>mb st ps r fun ns=>(match app ms ns with|some l=>K l|none=>none)
  | .box ks,.box ls=>iJ st ps ks ls fun ms ps=>mb st ps r fun ns=>(match app ms ns with|some l=>K l|none=>none)
  | .mp s,.box [.mp s' es]=>bif YH s s' then mb st ps r fun ns=>K (.list es::ns) else none
  | .pt root off,.ptr PA Nb=>bif Nat.beq root PA&&(Nat.beq off Nb&&(!wZ root&&zx (aj st.fr root))) then mb st ps r K else none
  |_,_=>none
def H0 (st:St) (t:Nat) (s:Slot) (K:St→Option R):Option R:=match st with|⟨p,q,r,m⟩=>Ek r t s fun r=>K ⟨p,q,r,m⟩
def PB:List (Nat×OK)→List MV→St→(St→Option R)→Option R
 |[],ms,st,K=>gN ms (K st)
 |(t,k)::r,ms,st,K=>match k,st with
  | .pt root off,⟨p,q,fr,m⟩=>bif !wZ root&&(zx (aj fr root)&&!cr (aj fr t)) then Ek fr t (.ptr root off) fun fr=>PB r ms ⟨p,q,fr,m⟩ K else none
  |_,_=>none
def mc (st:St):List (Nat×OK)→List MV→(St→Option R)→Option R
 |[],ms,K=>gN ms (K st)
 |(t,k)::r,ms,K=>match k with
  | .sc k=>ct st [k] ms fun ls ms st=>(match ls with|[l]=>H0 st t (.sc l) fun st=>mc st r ms K|_=>none)
  | .ag ks=>ct st ks ms fun ls ms st=>H0 st t (.ag ls) fun st=>mc st r ms K
  | .box ks=>bif wZ t&&!bp st.b4 (posOf t) then none else ct st ks ms fun ls ms st=>H0 st t (.box ls) fun st=>mc st r ms K
  | .mp s=>bif wZ t then none else gC ms fun m ms=>gL m fun es=>H0 st t (.box [.mp s es]) fun st=>mc st r ms K
  | .pt root off=>PB ((t,.pt root off)::r) ms st K
end
def cP:List (Nat×OK)→List Nat
 |[]=>[]
 |(t,_)::r=>t::cP r
def bP:List (Nat×OK)→List Nat
 |[]=>[]
 |(_,.sc k)::r=>bc [k]++bP r
 |(_,.ag ks)::r=>bc ks++bP r
 |(_,.box ks)::r=>bc ks++bP r
 |(_,.mp _)::r=>bP r
 |(_,.pt _ _)::r=>bP r
def minus:List Nat→List Nat→List Nat
 |[],_=>[]
 |k::r,l=>bif bp l k then minus r l else k::minus r l
def ta {R:Type} (ps:List Nat):List aC→(List aC→Option R)→Option R
 |[],K=>K []
 |l::r,K=>(match l with
  | .own g=>bif bp ps g then ta ps r fun r=>K (.own g::r) else ta ps r fun r=>K (.un::r)
  |l=>ta ps r fun r=>K (l::r))
def H2 {R:Type} (ps:List Nat) (s:Slot) (K:Slot→Option R):Option R:=match s with
 | .sc (.own g)=>bif bp ps g then K (.sc (.own g)) else K (.sc .un)
 | .ag cs=>ta ps cs fun cs=>K (.ag cs)
 | .box cs=>ta ps cs fun cs=>K (.box cs)
 |s=>K s
def nFr {R:Type} (ps:List Nat):Fr→(Fr→Option R)→Option R
 |[],K=>K []
 |(k,s)::r,K=>H2 ps s fun s=>nFr ps r fun r=>K ((k,s)::r)
def E3 {R:Type} (ks fs qs:List Nat):List (Nat×mr)→(List (Nat×mr)→Option R)→Option R
 |[],K=>K []
 |(k,o)::r,K=>bif bp ks k then E3 ks fs qs r fun r=>(bif bp fs k&&!bp qs k then K ((k,⟨o.ty,true,o.xs⟩)::r) else K ((k,o)::r)) else E3 ks fs qs r K
def dF (c:Ctx):List (Nat×OK)→Bool
 |[]=>true
 |(_,.sc k)::r=>bif fR c [k] then dF c r else false
 |(_,.ag ks)::r=>bif fR c ks then dF c r else false
 |(_,.box ks)::r=>bif fR c ks then dF c r else false
 |(_,.mp _)::r=>dF c r
 |(_,.pt _ _)::r=>dF c r
def Kb {R:Type} (c:Ctx) (h:pB) (st:St) (K:St→St→Option R):Option R:=
 match st with
 |⟨p,q,r,m⟩=>
  bif !dF c h.all||meets (cP h.all) p||meets (bP h.all) q||meets (cP h.all) h.b4||meets (bP h.all) h.b5 then none else
  match app h.b4 p,app h.b5 q with
  |some p',some q'=>
   pick h.b4 r fun rp=>nFr h.b5 rp fun rp=>pick (cP h.all) r fun ro=>
   E3 h.b5 h.dD q m fun mp=>E3 (bP h.all) h.dD q m fun mo=>
   (match app rp ro,app mp mo with
    |some r1,some m1=>K ⟨p',q',r1,m1⟩ ⟨p',q',rp,mp⟩
    |_,_=>none)
  |_,_=>none
def BV {R:Type} (c:Ctx) (h:pB) (st:St) (K:St→St→Option R):Option R:=
 Kb c h st fun dR dY=>BS (fun t=>bp h.b4 t||bp (cP h.all) t) st.fr st.fr dR.fr fun fr=>K ⟨dR.b4,dR.b5,fr,dR.aL⟩ dY
def zB (st dY:St):St:=match st,dY with|⟨p,q,_,_⟩,⟨_,_,r,m⟩=>⟨p,q,r,m⟩
def guarded:List Oper→Bool
 |[]=>false
 |o::r=>match o.guard with|some _=>true|none=>guarded r
def o4:List Oper→List Nat
 |[]=>[]
 |o::r=>match o.op,o.dst with
  | .alloc _,some d=>d::o4 r
  | .box _ _,some d=>d::o4 r
  | .makeMap _ _,some d=>d::o4 r
  | .range _ _,some d=>d::o4 r
  |_,_=>o4 r
def zC {R:Type} (ds:List Nat) (st:St) (K:St→Option R):Option R:=match st with|⟨p,q,r,m⟩=>r5 ds r fun r1=>BS (fun t=>!bp ds t) r r r1 fun r=>K ⟨p,q,r,m⟩
def eA:Code→Option Nat
 | .region id _ _=>some id
 | .seq a b=>match eA a with|some n=>some n|none=>eA b
 | .cond _ a b=>match eA a with|some n=>some n|none=>eA b
 | .block _ b| .loop b| .scope b=>eA b
 |_=>none
def YK:List Nat→List Nat→List Nat
 |[],l=>l
 |k::r,l=>bif bp l k then YK r l else k::YK r l
def j0:Code→List Nat
 | .skip| .region _ _ _=>[0]
 | .seq a b=>bif bp (j0 a) 0 then YK (minus (j0 a) [0]) (j0 b) else j0 a
 | .cond _ a b=>YK (j0 a) (j0 b)
 | .block id b=>bif bp (j0 b) (id+2) then YK (minus (j0 b) [0,id+2]) [0] else j0 b
 | .loop b=>minus (j0 b) [0]
 | .exit id=>[id+2]
 | .ret=>[1]
 |_=>[]
def nX (o:Oper):Bool:=match o.op with
 | .load _ _=>true
 | .lookup _ _ _ false=>true
 |_=>false
def kA (c:Ctx) (o:Oper):Bool:=nX o||(match o.op with
 | .convert y _ _=>isLT c y
 |_=>false)
def PC (o:Oper):Option Nat:=match o.op with
 | .lookup t _ _ false=>some t
 |_=>none
def Ti (o:Oper):Option Nat:=match o.op with
 | .mapEntry t _ _=>some t
 |_=>none
def w9 (o p:Oper):Bool:=match PC o,Ti p with
 |some t,some t'=>Nat.beq t t'
 |_,_=>false
def nm (o:Oper):Bool:=match o.op with
 | .move _| .assign _| .nilCheck _| .pick _ _ _| .build _ _| .load _ _| .binOp _ _ _ _ _| .unOp _ _ _| .convert _ _ _| .makeFunc _ _ _| .slice _ _ _ _ _| .fieldAddr _ _ _| .field _ _ _| .indexAddr _ _ _| .index _ _ _| .extract _ _| .lookup _ _ _ false=>true
 | .call cl=>(match cl.callee with| .builtin .len| .builtin .min| .builtin .max| .builtin .real| .builtin .imag| .builtin .complex=>true|_=>false)
 |_=>false
def wH (c:Ctx) (o:Oper):Bool:=match o.op with
 | .alloc _| .box _ _| .buildSlice _ _ _| .makeSlice _ _ _=>true
 | .call cl=>(match cl.callee with| .value (.func f)=>!c.dJ (c.key f)| .value _=>(match c.dyn with|[]=>true|_::_=>false)|_=>false)
 |_=>false
def Kc:Op→List Operand
 | .build _ ps=>ps.toList.map (·.2)
 | .buildSlice _ _ ps=>ps.toList.map (·.2)
 | .makeFunc _ first captured=>first.toList++captured.toList
 | .slice _ x l h m=>x::(l.toList++(h.toList++m.toList))
 | .call c=>(match c.callee with| .value f=>[f]| .invoke r _=>[r]| .builtin _=>[])++c.args.toList
 |op=>op.operands.toList
def H3:List Operand→List Nat
 |[]=>[]
 | .tmp t::r=>t::H3 r
 |_::r=>H3 r
def Gw (ops:List Oper) (o:Oper):List Nat:=
 H3 (Kc o.op)++(match o.guard with|some (g,_)=>(match ops[g]? with|some p=>p.dst.toList|none=>[])|none=>[])
def Gx (ops:List Oper) (x y:Oper):Bool:=
 (match x.dst with|some d=>!bp (Gw ops y) d&&(match y.dst with|some d'=>!Nat.beq d' d|none=>true)|none=>true)&&
 (match y.dst with|some d=>!bp (Gw ops x) d|none=>true)
def BW (e:Edge):Bool:=match e.ground with
 | .textOnly _=>false
 | .gcOnly _=>false
 |_=>true
def xy (o:Oper) (p:Nat→Bool):Bool:=o.after.toList.any fun e=>BW e&&p e.on
def Ze (ops:List Oper):Bool:=ops.all fun o=>match o.op with| .select _ _=>false|_=>true
def PD (c:Ctx) (o:Oper):Bool:=nm o||wH c o
def pD (c:Ctx) (ops:List Oper) (o:Oper):List Nat→List Nat→Bool
 |_,[]=>true
 |D,y::r=>match ops[y]? with
  |some p=>bif xy p (bp D) then pD c ops o (y::D) r else Gx ops o p&&(!kA c o||PD c p||still c o||w9 o p)&&pD c ops o D r
  |none=>false
def H4 (o:Oper):Bool:=match o.op,o.dst,o.guard with
 | .alloc _,some _,none=>o.after.toList.all fun e=>!BW e
 |_,_,_=>false
def Zf (c:Ctx) (o:Oper):Bool:=match o.op with
 | .alloc t=>(match c.tv t with|some _=>true|none=>false)
 |_=>false
def Zg (ops:List Oper) (i:Nat):Bool:=match ops[i]? with
 |some o=>H4 o
 |none=>false
def r7 (c:Ctx) (ops:List Oper):List Nat→List Nat→Bool
 |_,[]=>true
 |pre,x::rest=>(match ops[x]? with
  |some o=>(o.after.toList.all fun e=>!BW e||bp pre e.on)&&!bp pre x&&!bp rest x&&
   (bif nm o&&!kW c o then pD c ops o [x] rest
    else (rest.all fun y=>match ops[y]? with
     |some p=>bif H4 p then Gx ops p o&&Zf c p else xy p (fun i=>Nat.beq i x||(bp rest i&&!Zg ops i))
     |none=>false))&&r7 c ops (x::pre) rest
  |none=>false)
def pE (c:Ctx) (ops:Array Oper) (ord:List Nat):Bool:=
 Ze ops.toList&&Nat.beq ord.length ops.toList.length&&(List.range ops.toList.length).all (bp ord)&&r7 c ops.toList [] ord
def BI {R:Type} (c:Ctx) (id:Nat) (ops l:List Oper) (st:St) (K:St→Option R):Option R:=
 bif guarded ops then
  BV c (c.HL id) st fun dR dY=>bd (zC (o4 ops) dR fun dR=>s9 c ops l dR fun st=>mb st [] ((c.HL id).ex 0) some) fun vs=>mc (zB st dY) ((c.HL id).ex 0) vs K
 else zC (o4 ops) st fun st=>s9 c ops l st K
def kC (ops:List Oper):List Nat→Option (List Oper)
 |[]=>some []
 |i::r=>match ops[i]?,kC ops r with
  |some o,some l=>some (o::l)
  |_,_=>none
def lj {S:Type} (step:S→MV→Option (Bool×S)):S→List MV→Option (List MV×S)
 |s,[]=>some ([],s)
 |s,x::xs=>match step s x with
  |some (b,s1)=>(match lj step s1 xs with|some (ys,s2)=>some (bif b then ys else x::ys,s2)|none=>none)
  |none=>none
def PE (g:Nat→List MV→Option MV) (k:Nat) (bQ:List MV):Unit→MV→Option (Bool×Unit):=fun _ x=>match g k (x::bQ) with
 |some (.b b)=>some (b,())
 |_=>none
def E4 (g:Nat→List MV→Option MV) (k:Nat) (bQ:List MV):List MV→MV→Option (Bool×List MV):=fun ls x=>match g k (x::(bQ++[.cell (.func 0 ls)])) with
 |some (.dG (.b b) outs)=>some (b,outs)
 |_=>none
def Ke:MV→Bool
 | .agg _=>true
 |_=>false
def PF {R:Type} (c:Ctx) (h f:Nat) (bQ:List Operand) (x:Operand) (o1 o2:Oper) (st:St) (K:St→Option R):Option R:=
 let fin (ys:List MV) (st:St):Option R:=iI st (o2.dst.getD 0) ⟨c.qv (c.key h),false,ys⟩ fun st=>bj c st o2.dst (.sc (.own (o2.dst.getD 0))) fun st=>bj c st o1.dst (.sc .un) K
 match c.sig (c.key f) with
 |none=>bif c.dJ (c.key f) then none else yh c st bQ fun ms st=>yi c (c.key h) st (aJ c st x) fun m st=>gF m fun xs=>dv (xs.all Ke)<|bd (lj (PE c.g (c.key f) ms) () xs) fun p=>fin p.1 st
 |some sg=>yh c st bQ.dropLast fun ms st=>yi c (c.key h) st (aJ c st x) fun m st=>gF m fun xs=>dv (xs.all Ke)<|
  (match bQ.getLast? with
  |some y=>(match aJ c st y with
   | .ptr root 0=>(match aj st.fr root with
    | .box cs=>bif ee cs||bp st.b4 root||!fR c sg.2||!Nat.beq sg.1 (ms.length+1)||!c.dJ (c.key f) then none else
     iJ st [] sg.2 cs fun ls ps=>bd (lj (E4 c.g (c.key f) ms) ls xs) fun p=>E0 st root sg.2 ps p.2 fun st=>fin p.1 st
    |_=>none)
   |_=>none)
  |none=>none)
def yl (c:Ctx):List Oper→List Oper→Option (List Oper×Nat×List Operand×Nat×Operand×Oper×Oper×List Oper)
 |pre,o1::o2::r=>match o1.op,o2.op with
  | .makeFunc (.func f) first bQ,.call cl=>(match cl.callee,cl.args.toList,first.toList,o1.dst with
   | .value (.func h),[.tmp x,.tmp y],[],some d=>bif c.Gq h&&Nat.beq y d&&!Nat.beq x d&&!Nat.ble c.n d&&!Nat.beq (o2.dst.getD d) d then some (pre.reverse,f,bQ.toList,h,.tmp x,o1,o2,r) else yl c (o1::pre) (o2::r)
   |_,_,_,_=>yl c (o1::pre) (o2::r))
  |_,_=>yl c (o1::pre) (o2::r)
 |_,_=>none
def BX:List Oper→Bool
 |[]=>true
 |o::r=>(match o.guard with|none=>BX r|some _=>false)
def PG {R:Type} (c:Ctx) (id:Nat) (ops:List Oper) (st:St) (K:St→Option R):Option R:=
 match yl c [] ops with
 |some (pre,f,bQ,h,x,o1,o2,post)=>bif BX ops then zC (o4 ops) st fun st=>s9 c ops pre st fun st=>PF c h f bQ x o1 o2 st fun st=>s9 c ops post st K else none
 |none=>BI c id ops ops st K
def fzK {R:Type} (c:Ctx) (ts:List Nat) (st:St) (K:St→Option R):Option R:=match ts with
 |[]=>K st
 |ts=>yh c st (ts.map .tmp) fun _ st=>K st
def nn (ops:Array Oper) (A B:Nat):Array Oper:=ops.modify B fun o=>{o with after:=o.after.push ⟨A,.data⟩}
open Classical in
noncomputable def both {R:Type} (x y:Option R):Option R:=if x=y then x else none
def PH (n:Nat) (l:List Nat):Option (List Nat×List Nat×Nat×Nat):=match l.drop (n+n) with
 |[A,B]=>bif Nat.beq A B||(Nat.ble n A||Nat.ble n B) then none else some (l.take n,(l.drop n).take n,A,B)
 |_=>none
noncomputable def Zh {R:Type} (c:Ctx) (ops:Array Oper) (ord:List Nat) (st:St) (K:St→Option R):Option R:=
 match PH ops.toList.length ord with
 |some (o1,o2,A,B)=>bif !guarded ops.toList&&(pE c (nn ops A B) o1&&pE c (nn ops B A) o2) then
  (match kC (nn ops A B).toList o1,kC (nn ops B A).toList o2 with
  |some l1,some l2=>zC (o4 ops.toList) st fun st=>both (s9 c (nn ops A B).toList l1 st K) (s9 c (nn ops B A).toList l2 st K)
  |_,_=>none) else none
 |none=>none
noncomputable def LS {R:Type} (c:Ctx) (id:Nat) (ops:Array Oper) (draw:Bool) (st:St) (K:St→Option R):Option R:=
 fzK c (c.fz id) st fun st=>bif draw then (bif !Nat.beq (c.ord id).length ops.toList.length then Zh c ops (c.ord id) st K else bif pE c ops (c.ord id) then (match kC ops.toList (c.ord id) with|some l=>BI c id ops.toList l st K|none=>none) else none)
 else PG c id ops.toList st K
noncomputable def nh (c:Ctx):Code→(R:Type)→St→(Nat→St→Option R)→Option R
 | .skip,_,st,K=>K 0 st
 | .region id ops d,_,st,K=>LS c id ops d st fun st=>K 0 st
 | .seq a b,R,st,K=>nh c a R st fun e st=>bif Nat.beq e 0 then nh c b R st K else K e st
 | .cond x a b,R,st,K=>(match aJ c st x with
  | .sc (.p (.b v))=>
   bif bp (j0 a) 0&&bp (j0 b) 0 then
    BV c (c.Gp ((eA (.seq a b)).getD 0)) st fun dR dY=>
    bd (bC v (nh c a (Nat×List MV) dR fun e st=>mb st [] ((c.Gp ((eA (.seq a b)).getD 0)).ex e) fun vs=>some (e,vs))
     (nh c b (Nat×List MV) dR fun e st=>mb st [] ((c.Gp ((eA (.seq a b)).getD 0)).ex e) fun vs=>some (e,vs)))
     fun r=>Ej (YK (j0 a) (j0 b)) r.1 fun e=>mc (zB st dY) ((c.Gp ((eA (.seq a b)).getD 0)).ex e) r.2 fun st=>K e st
   else bC v (nh c a R st K) (nh c b R st K)
  |_=>none)
 | .block id b,R,st,K=>nh c b R st fun e st=>bif Nat.beq e (id+2) then K 0 st else K e st
 | .loop b,_,st,K=>
  BV c (c.El ((eA b).getD 0)) st fun dR dY=>mb dR [] (c.El ((eA b).getD 0)).outs fun vs=>
   bd (Loop (fun ms=>mc dY (c.El ((eA b).getD 0)).outs ms fun st=>nh c b (Sum (List MV) (Nat×List MV)) st fun e st=>
    bif Nat.beq e 0 then mb st [] (c.El ((eA b).getD 0)).outs fun vs=>some (.inl vs) else mb st [] ((c.El ((eA b).getD 0)).ex e) fun vs=>some (.inr (e,vs))) vs)
    fun r=>Ej (minus (j0 b) [0]) r.1 fun e=>mc (zB st dY) ((c.El ((eA b).getD 0)).ex e) r.2 fun st=>K e st
 | .exit id,_,st,K=>K (id+2) st
 | .ret,_,st,K=>K 1 st
 |_,_,_,_=>none
def BZ {R:Type} (c:Ctx):List Nat→Nat→List MV→(Fr→List MV→Option R)→Option R
 |[],_,ms,K=>K [] ms
 |t::ts,n,ms,K=>match c.tv t with
  |some I=>gC ms fun m r=>Au I m fun s=>BZ c ts (n+1) r fun fr ms=>K ((n,s)::fr) ms
  |none=>none
def Kf {R:Type}:List (List Kd)→Nat→List MV→(Fr→Option R)→Option R
 |[],_,ms,K=>gN ms (K [])
 |ks::r,n,ms,K=>gC ms fun m ms=>gP m fun cs=>qI ks cs fun cs=>Kf r (n+1) ms fun fr=>K ((n,.uX cs)::fr)
def Kg {R:Type} (c:Ctx) (st:St) (fresh:Option Nat):List ResultVar→(List MV→Option R)→Option R
 |[],K=>K []
 |r::rs,K=>
  let go (s:Slot):Option R:=match fresh with
   |some ty=>(match s with
    | .sc (.own f)=>(match aE st.aL f with|some o=>bif o.dD||!Nat.beq o.ty ty then none else Kg c st fresh rs fun ms=>K (.fresh o.xs::ms)|none=>none)
    | .sc .nil=>Kg c st fresh rs fun ms=>K (.fresh []::ms)
    |_=>none)
   |none=>kU st s fun m st=>Kg c st fresh rs fun ms=>K (m::ms)
  match r with
  | .tmp t=>go (aj st.fr t)
  | .cell a t=>match c.tv t,aj st.fr a with
   |some I,.box cs=>bif ee cs||wZ a then none else jd I cs 0 fun s=>go s
   |_,_=>none
def Nc {R:Type} (c:Ctx) (st:St):List ResultVar→(List MV→St→Option R)→Option R
 |[],K=>K [] st
 |r::rs,K=>(match r with
  | .tmp t=>kU st (aj st.fr t) fun m st=>Nc c st rs fun ms st=>K (m::ms) st
  | .cell a t=>(match c.tv t,aj st.fr a with
   |some I,.box cs=>bif ee cs||wZ a then none else jd I cs 0 fun s=>kU st s fun m st=>Nc c st rs fun ms st=>K (m::ms) st
   |_,_=>none))
def Zj:List MV→MV
 |[m]=>m
 |ms=> .cC ms
noncomputable def E5 (c:Ctx) (bQ:List (List Kd)) (pos:Nat) (ks:List LK) (f:Func) (args:List MV):Option MV:=
 match f.body,args[pos]? with
 |some b,some (.cell (.func off ls))=>bif !fR c ks||!Nat.ble pos 999 then none else
  BZ c f.params.toList 0 (args.set pos (.rp [])) fun fr ms=>Kf bQ f.params.size ms fun np=>
   (match app fr np with
   |some fr=>ct ⟨[],[],[],[]⟩ ks ls fun cs rest vU=>gN rest<|
    nh c b MV ⟨[pos],[],(1000000+off *1000+pos,.box cs)::fr,vU.aL⟩ fun e st=>
     bif Nat.ble e 1 then Nc c st f.results.toList fun ms st=>(match aj st.fr (1000000+off *1000+pos) with
      | .box cs=>bif ee cs then none else iJ st [] ks cs fun outs _=>some (.dG (Zj ms) outs)
      |_=>none) else none
   |none=>none)
 |_,_=>none
noncomputable def E6 (c:Ctx) (bQ:List (List Kd)) (fresh:Option Nat) (f:Func) (args:List MV):Option MV:=
 match f.body with
 |some b=>BZ c f.params.toList 0 args fun fr ms=>Kf bQ f.params.size ms fun np=>
  match app fr np with
  |some fr=>nh c b MV ⟨[],[],fr,[]⟩ fun e st=>
   bif Nat.ble e 1 then Kg c st fresh f.results.toList fun ms=>(match ms with|[m]=>some m|ms=>some (.cC ms)) else none
  |none=>none
 |none=>none
end Dn
/-
  What abstract values and slots say of Go's memory. Conditions: none.
-/
namespace Dn
open Go
theorem jF (w:World) (o:Obj):(w.alloc o).heap[w.heap.size]? =some o:=by
 show (w.heap.push o)[w.heap.size]? =some o
 simp
theorem ym (w:World) (o:Obj) (i:Nat) (h:i<w.heap.size):(w.alloc o).heap[i]? =w.heap[i]? :=by
 show (w.heap.push o)[i]? =w.heap[i]?
 rw [Array.getElem?_push,if_neg (Nat.ne_of_lt h)]
def MV.one:MV→Bool
 | .h _| .agg _| .cC _| .fresh _| .cell _| .dG _ _=>false
 |_=>true
abbrev Ph:=Nat→Nat→Option Value
section
variable (key:Nat→Nat) (φ:Ph)
mutual
inductive kD:List Value→MV→Prop
 |b (x:Bool):kD [.bool x] (.b x)
 |i (k:IntKind) (n:Int):kD [.int k n] (.i k n)
 |s (bs:ByteArray):kD [.string bs] (.s bs.data.toList)
 |h (x:jV):kD (x.l.map fun b=> .int .u8 (b.toNat:Int)) (.h x)
 |raw (v:Value):v.oneCell'=true→kD [v] (.raw v)
 |list (a:Option Addr) (cap:Nat) (xs:List MV) (aX off HM:Nat) (f:Nat→List Value):
  xs.length≤cap→(0<xs.length→a=some ⟨aX,off,none⟩)→(∀i,i<xs.length→(f i).length=HM)→
  (∀i j,i<xs.length→j<HM→φ aX (off+i *HM+j)=(f i)[j]?)→
  (∀(i:Nat) (h:i<xs.length),kD (f i) xs[i])→kD [.slice a xs.length cap] (.list xs)
 |agg (vs:List Value) (ms:List MV):fP vs ms→kD vs (.agg ms)
 |func (f k:Nat) (cap:Array Value) (ms:List MV):key f=k→fP cap.toList ms→(∀m∈ms,m.one=true)→kD [.func (.func f) #[] cap] (.func k ms)
 |rp (aX off:Nat) (vs:List Value) (ms:List MV):fP vs ms→(∀j,j<vs.length→φ aX (off+j)=vs[j]?)→kD [.pointer (some ⟨aX,off,none⟩)] (.rp ms)
inductive fP:List Value→List MV→Prop
 |nil:fP [] []
 |cons (v:List Value) (m:MV) (vs:List Value) (ms:List MV):kD v m→fP vs ms→fP (v++vs) (m::ms)
end
end
def o6 (φ φ':Ph):Prop:= ∀b o v,φ b o=some v→φ' b o=some v
theorem o6.refl (φ:Ph):o6 φ φ:=fun _ _ _ h=>h
theorem o6.vV {φ φ':Ph} (h:o6 φ φ') {b j:Nat} {cs:List Value} (e:φ b j=cs[j]?) (hj:j<cs.length):φ' b j=cs[j]? :=by
 rw [List.getElem?_eq_getElem hj] at e⊢
 exact h _ _ _ e
theorem o6.trans {φ φ' Zk:Ph} (h:o6 φ φ') (h':o6 φ' Zk):o6 φ Zk:=fun b o v e=>h' b o v (h b o v e)
section
set_option linter.unusedSectionVars false
variable {key:Nat→Nat} {φ φ':Ph} (hle:o6 φ φ')
include hle
theorem Gy {b o:Nat} {vs:List Value} {j:Nat} (hj:j<vs.length) (h:φ b o=vs[j]?):φ' b o=vs[j]? :=by
 rw [List.getElem?_eq_getElem hj] at h⊢
 exact hle _ _ _ h
mutual
theorem kD.mono {vs:List Value} {m:MV}:kD key φ vs m→kD key φ' vs m
 | .b x=> .b x
 | .i k n=> .i k n
 | .s bs=> .s bs
 | .h x=> .h x
 | .raw v h=> .raw v h
 | .list a cap xs aX off HM f h1 h2 h3 h4 h5=> .list a cap xs aX off HM f h1 h2 h3
  (fun i j hi hj=>Gy hle (by rw [h3 i hi];exact hj) (h4 i j hi hj)) (fun i hi=>(h5 i hi).mono)
 | .agg vs ms h=> .agg vs ms h.mono
 | .func f k cap ms h1 h2 h3=> .func f k cap ms h1 h2.mono h3
 | .rp aX off vs ms h1 h2=> .rp aX off vs ms h1.mono (fun j hj=>Gy hle hj (h2 j hj))
theorem fP.mono {vs:List Value} {ms:List MV}:fP key φ vs ms→fP key φ' vs ms
 | .nil=> .nil
 | .cons v m vs ms h1 h2=> .cons v m vs ms h1.mono h2.mono
end
end
section
variable {key:Nat→Nat} {φ:Ph}
mutual
theorem kD.cells {vs:List Value} {m:MV}:kD key φ vs m→ ∀v∈vs,v.oneCell'=true
 | .b x=>by simp [Value.oneCell']
 | .i k n=>by simp [Value.oneCell']
 | .s bs=>by simp [Value.oneCell']
 | .h x=>by
  intro v hv
  obtain ⟨b,_,rfl⟩:=List.mem_map.1 hv
  rfl
 | .raw v h=>by simpa using h
 | .list .. =>by simp [Value.oneCell']
 | .agg vs ms h=>h.cells
 | .func .. =>by simp [Value.oneCell']
 | .rp .. =>by simp [Value.oneCell']
theorem fP.cells {vs:List Value} {ms:List MV}:fP key φ vs ms→ ∀v∈vs,v.oneCell'=true
 | .nil=>by simp
 | .cons v m vs ms h1 h2=>by
  intro x hx
  rcases List.mem_append.1 hx with hx|hx
  ·exact h1.cells x hx
  ·exact h2.cells x hx
end
end
section
variable {key:Nat→Nat} {φ:Ph}
mutual
theorem kD.width {vs:List Value} {m:MV}:kD key φ vs m→vs.length=m.w
 | .b x=>by simp [MV.w]
 | .i k n=>by simp [MV.w]
 | .s bs=>by simp [MV.w]
 | .h x=>by simp [MV.w,x.h]
 | .raw v h=>by simp [MV.w]
 | .list .. =>by simp [MV.w]
 | .agg vs ms h=>by rw [h.width];simp [MV.w]
 | .func .. =>by simp [MV.w]
 | .rp .. =>by simp [MV.w]
theorem fP.width {vs:List Value} {ms:List MV}:fP key φ vs ms→vs.length=MV.wl ms
 | .nil=>by simp [MV.wl]
 | .cons v m vs ms h1 h2=>by simp [MV.wl,h1.width,h2.width]
end
end
theorem kD.one {key:Nat→Nat} {φ:Ph} {vs:List Value} {m:MV} (h:kD key φ vs m) (hm:m.one=true): ∃v,vs=[v]∧v.oneCell'=true:=by
 have hc:=h.cells
 cases h<;>simp [MV.one] at hm<;>exact ⟨_,rfl,hc _ (by simp)⟩
def eB (key:Nat→Nat) (φ:Ph) (v:Value):MV→Prop
 | .h x=>v= .agg (x.l.map fun b=>Value.int .u8 (b.toNat:Int)).toArray
 | .agg ms=> ∃arr,v= .agg arr∧fP key φ arr.toList ms
 |m=>m.one=true∧kD key φ [v] m
set_option linter.unusedSectionVars false
theorem eB.mono {key:Nat→Nat} {φ φ':Ph} (hle:o6 φ φ') {v:Value} {m:MV} (h:eB key φ v m):eB key φ' v m:=by
 cases m<;>simp only [eB] at h⊢ <;>first|exact h|exact ⟨h.1,h.2.mono hle⟩|(obtain ⟨arr,h1,h2⟩:=h;exact ⟨arr,h1,h2.mono hle⟩)
structure Env where
 key:Nat→Nat
 φ:Ph
 E:Nat→Value
 B:Nat→Nat
 m:List (Nat×mr)
def bh (x:jV):List Value:=x.l.map fun b=>Value.int .u8 (b.toNat:Int)
theorem cu (x:jV):(bh x).length=32:=by simp [bh,x.h]
def aN (e:Env) (vs:List Value):aC→Prop
 | .un=> ∃v,vs=[v]∧v.oneCell'=true
 | .p x=>x.one=true∧kD e.key e.φ vs x
 | .hs x=>vs=bh x
 | .nil=>vs=[.slice none 0 0]
 | .mp _ _=>False
 | .own f=> ∃v,vs=[v]∧v.oneCell'=true∧(∀o,aE e.m f=some o→v=e.E f)
def aq (e:Env):List Value→List aC→Prop
 |vs,[]=>vs=[]
 |vs,l::ls=> ∃v r,vs=v++r∧aN e v l∧aq e r ls
def qJ:aC→Bool
 | .p _| .hs _=>true
 |_=>false
def gZ:List aC→Bool
 |[]=>true
 |l::r=>qJ l&&gZ r
def B0 (st:Bool) (x:MV) (cs:List aC):Prop:=(∃ms,bt cs=some ms∧rv st ms=some x)∧ ∀m,aC.p m∈cs→m.one=true
def xa:Slot→Bool
 | .sc l=>qJ l
 | .ag cs=>gZ cs
 |_=>false
mutual
def ab (e:Env) (v:Value):Slot→Prop
 | .skip=>v=undef
 | .sc l=>match l with
  | .un=>True
  | .hs x=>v= .agg (bh x).toArray
  |l=>aN e [v] l
 | .ag cs=> ∃arr,v= .agg arr∧aq e arr.toList cs
 | .cC vs=> ∃arr,v= .tuple arr∧je e arr.toList vs
 | .box _=>False
 | .uX cs=> ∃aX o vs,v= .pointer (some ⟨aX,o,none⟩)∧aq e vs cs∧gZ cs=true∧(∀j,j<vs.length→e.φ aX (o+j)=vs[j]?)
 | .ptr r o=>v= .pointer (some ⟨e.B r,o,none⟩)
 | .uY r=>v= .map (some (e.B r))
 | .rp cs off=> ∃aX o vs,v= .pointer (some ⟨aX,o+off,none⟩)∧aq e vs cs∧gZ cs=true∧(∀j,j<vs.length→e.φ aX (o+j)=vs[j]?)
 | .hp r o i=>v= .pointer (some ⟨e.B r,o+i,none⟩)∧i<32
 | .ep f i off st cs=> ∀o,aE e.m f=some o→ ∃aX cap,e.E f= .slice (some ⟨aX,0,none⟩) o.xs.length cap∧(∃x,o.xs[i]? =some x∧B0 st x cs)∧
  v= .pointer (some ⟨aX,i *uZ cs+off,none⟩)
def je (e:Env):List Value→List Slot→Prop
 |vs,[]=>vs=[]
 |vs,s::ss=> ∃v r,vs=v::r∧ab e v s∧xa s=true∧je e r ss
end
def PI:aC→List Value→Bool
 | .p (.b x),[.bool y]=>x==y
 | .p (.i k n),[.int k' n']=>decide (k=k')&&decide (n=n')
 | .p (.s l),[.string s]=>decide (l=s.data.toList)
 | .p (.raw v),[w]=>match v,w with
  | .nilFunc,.nilFunc=>true
  | .nilIface,.nilIface=>true
  | .pointer none,.pointer none=>true
  |_,_=>false
 | .nil,[.slice none 0 0]=>true
 | .un,[v]=>v.oneCell'
 | .hs x,vs=>(vs.length==32)&&(vs.zip x.l).all fun p=>match p.1 with| .int .u8 n=>decide (n=(p.2.toNat:Int))|_=>false
 |_,_=>false
def qK:List aC→List Value→Bool
 |[],vs=>vs.isEmpty
 |l::ls,vs=>PI l (vs.take l.w)&&qK ls (vs.drop l.w)&&decide (l.w≤vs.length)
end Dn
/-
  How an abstract state stands to a frame and a memory; laws of frames and leaves. Conditions: none.
-/
set_option linter.unusedSimpArgs false
set_option linter.unusedVariables false
namespace Dn
open Go
def bT:Fr→Nat→Slot→Fr
 |[],t,v=>[(t,v)]
 |(k,s)::r,t,v=>bif Nat.beq k t then (k,v)::r else (k,s)::bT r t v
def cR (ds:List Nat):Fr→Fr
 |[]=>[]
 |(k,s)::r=>bif cN s||bp ds k then cR ds r else (k,s)::cR ds r
def mu (ks:List Nat):Fr→Fr
 |[]=>[]
 |(k,s)::r=>bif bp ks k&&!cN s then (k,s)::mu ks r else mu ks r
def bF:List (Nat×mr)→Nat→mr→List (Nat×mr)
 |[],t,v=>[(t,v)]
 |(k,s)::r,t,v=>bif Nat.beq k t then (k,v)::r else (k,s)::bF r t v
def HN (f:Nat):aC→aC
 | .own g=>bif Nat.beq g f then .un else .own g
 |l=>l
def xb (f:Nat):Slot→Slot
 | .sc l=> .sc (HN f l)
 | .ag cs=> .ag (cs.map (HN f))
 | .box cs=> .box (cs.map (HN f))
 | .ep g i o b cs=>bif Nat.beq g f then .sc .un else .ep g i o b cs
 |s=>s
def jW (f:Nat) (r:Fr):Fr:=r.map fun p=>(p.1,xb f p.2)
def u7 (f:Nat) (r:Fr):Fr:=r.map fun p=>(p.1,match p.2 with
 | .ep g i o b cs=>bif Nat.beq g f then .sc .un else .ep g i o b cs
 |s=>s)
def Kh (ps:List Nat):aC→aC
 | .own g=>bif bp ps g then .own g else .un
 |l=>l
def Ee (ps:List Nat):Slot→Slot
 | .sc l=> .sc (Kh ps l)
 | .ag cs=> .ag (cs.map (Kh ps))
 | .box cs=> .box (cs.map (Kh ps))
 |s=>s
def Ki (ps:List Nat) (r:Fr):Fr:=r.map fun p=>(p.1,Ee ps p.2)
def pF (ks fs qs:List Nat):List (Nat×mr)→List (Nat×mr)
 |[]=>[]
 |(k,o)::r=>bif bp ks k then (bif bp fs k&&!bp qs k then (k,⟨o.ty,true,o.xs⟩) else (k,o))::pF ks fs qs r else pF ks fs qs r
section
variable {R:Type}
theorem force_eq (s:Slot) (K:Slot→Option R):force s K=K s:=by cases s<;>rfl
theorem kE (r:Fr) (t:Nat) (s:Slot) (K:Fr→Option R):Ek r t s K=K (bT r t s):=by
 induction r generalizing K with
 |nil=>rfl
 |cons p r ih=>obtain ⟨k,x⟩:=p;simp only [Ek,bT];cases Nat.beq k t<;>simp [ih]
theorem Aw (ds:List Nat) (r:Fr) (K:Fr→Option R):r5 ds r K=K (cR ds r):=by
 induction r generalizing K with
 |nil=>rfl
 |cons p r ih=>obtain ⟨k,x⟩:=p;simp only [r5,cR];cases cN x||bp ds k<;>simp [ih]
theorem Tj (ks:List Nat) (r:Fr) (K:Fr→Option R):pick ks r K=K (mu ks r):=by
 induction r generalizing K with
 |nil=>rfl
 |cons p r ih=>obtain ⟨k,x⟩:=p;simp only [pick,mu];cases bp ks k&&!cN x<;>simp [ih]
theorem mw (r:List (Nat×mr)) (t:Nat) (s:mr) (K:List (Nat×mr)→Option R):J6 r t s K=K (bF r t s):=by
 induction r generalizing K with
 |nil=>rfl
 |cons p r ih=>obtain ⟨k,x⟩:=p;simp only [J6,bF];cases Nat.beq k t<;>simp [ih]
theorem B1 (f:Nat) (cs:List aC) (K:List aC→Option R):s6 f cs K=K (cs.map (HN f)):=by
 induction cs generalizing K with
 |nil=>rfl
 |cons l r ih=>cases l<;>simp only [s6,List.map_cons,HN,ih];rename_i g;cases Nat.beq g f<;>rfl
theorem PJ (f:Nat) (s:Slot) (K:Slot→Option R):EY f s K=K (xb f s):=by
 cases s with
 |sc l=>cases l<;>simp only [EY,xb,HN];rename_i g;cases Nat.beq g f<;>rfl
 |ag cs=>simp only [EY,xb,B1]
 |box cs=>simp only [EY,xb,B1]
 |ep g i o b cs=>simp only [EY,xb];cases Nat.beq g f<;>rfl
 |_=>rfl
theorem PK (f:Nat) (r:Fr) (K:Fr→Option R):Y8 f r K=K (jW f r):=by
 induction r generalizing K with
 |nil=>rfl
 |cons p r ih=>obtain ⟨k,x⟩:=p;simp only [Y8,PJ,ih,jW,List.map_cons]
theorem WK (f:Nat) (r:Fr) (K:Fr→Option R):YI f r K=K (u7 f r):=by
 induction r generalizing K with
 |nil=>rfl
 |cons p r ih=>
  obtain ⟨k,x⟩:=p
  cases x<;>simp only [YI,ih,u7,List.map_cons]
  rename_i g i o b cs
  cases Nat.beq g f<;>rfl
theorem B2 (f:List Nat) (cs:List aC) (K:List aC→Option R):ta f cs K=K (cs.map (Kh f)):=by
 induction cs generalizing K with
 |nil=>rfl
 |cons l r ih=>cases l<;>simp only [ta,List.map_cons,Kh,ih];rename_i g;cases bp f g<;>rfl
theorem PL (f:List Nat) (s:Slot) (K:Slot→Option R):H2 f s K=K (Ee f s):=by
 cases s with
 |sc l=>cases l<;>simp only [H2,Ee,Kh];rename_i g;cases bp f g<;>rfl
 |ag cs=>simp only [H2,Ee,B2]
 |box cs=>simp only [H2,Ee,B2]
 |_=>rfl
theorem WL (f:List Nat) (r:Fr) (K:Fr→Option R):nFr f r K=K (Ki f r):=by
 induction r generalizing K with
 |nil=>rfl
 |cons p r ih=>obtain ⟨k,x⟩:=p;simp only [nFr,PL,ih,Ki,List.map_cons]
theorem PM (ks fs qs:List Nat) (r:List (Nat×mr)) (K:List (Nat×mr)→Option R):E3 ks fs qs r K=K (pF ks fs qs r):=by
 induction r generalizing K with
 |nil=>rfl
 |cons p r ih=>
  obtain ⟨k,x⟩:=p
  simp only [E3,pF]
  cases bp ks k
  ·simp [ih]
  ·simp only [cond_true,ih]
   cases bp fs k&&!bp qs k<;>rfl
theorem tc {α:Type} (x y:List α):app x y=some (x++y):=by
 induction x with
 |nil=>rfl
 |cons a r ih=>simp [app,ih]
end
theorem eC (a b:Nat):Nat.beq a b=decide (a=b):=by
 by_cases h:a=b
 ·subst h;simp
 ·simp only [h,decide_false];exact Bool.eq_false_iff.2 (fun e=>h (Nat.eq_of_beq_eq_true e))
theorem bq (l:List Nat) (t:Nat):bp l t=true↔t∈l:=by
 induction l with
 |nil=>simp [bp]
 |cons k r ih=>
  simp only [bp,eC,List.mem_cons]
  by_cases h:k=t
  ·simp [h]
  ·simp only [h,decide_false,cond_false,ih]
   exact ⟨.inr,fun h'=>h'.resolve_left (fun e=>h e.symm)⟩
theorem bA (r:Fr) (d t:Nat) (s:Slot):aj (bT r d s) t=if t=d then s else aj r t:=by
 induction r with
 |nil=>simp only [bT,aj,eC];by_cases h:t=d<;>simp [h,Ne.symm]<;>(intro e;exact absurd e.symm h)
 |cons p r ih=>
  obtain ⟨k,x⟩:=p
  simp only [bT,eC]
  by_cases hk:k=d
  ·subst hk
   simp only [decide_true,cond_true,aj,eC]
   by_cases h:k=t
   ·simp [h]
   ·have h': ¬t=k:=fun e=>h e.symm
    simp [h,h']
  ·simp only [hk,decide_false,cond_false,aj,eC,ih]
   by_cases h:k=t
   ·subst h;simp [hk]
   ·simp [h]
theorem a8 (r:List (Nat×mr)) (d t:Nat) (s:mr):aE (bF r d s) t=if t=d then some s else aE r t:=by
 induction r with
 |nil=>simp only [bF,aE,eC];by_cases h:t=d<;>simp [h,Ne.symm]<;>(intro e;exact absurd e.symm h)
 |cons p r ih=>
  obtain ⟨k,x⟩:=p
  simp only [bF,eC]
  by_cases hk:k=d
  ·subst hk
   simp only [decide_true,cond_true,aE,eC]
   by_cases h:k=t
   ·simp [h]
   ·have h': ¬t=k:=fun e=>h e.symm
    simp [h,h']
  ·simp only [hk,decide_false,cond_false,aE,eC,ih]
   by_cases h:k=t
   ·subst h;simp [hk]
   ·simp [h]
theorem B3 (g:Slot→Slot) (hg:g (.sc .un)= .sc .un) (r:Fr) (t:Nat):aj (r.map fun p=>(p.1,g p.2)) t=g (aj r t):=by
 induction r with
 |nil=>simp [aj,hg]
 |cons p r ih=>
  obtain ⟨k,x⟩:=p
  simp only [List.map_cons,aj,eC]
  by_cases h:k=t<;>simp [h,ih]
theorem ft (f:Nat) (r:Fr) (t:Nat):aj (jW f r) t=xb f (aj r t):=B3 (xb f) rfl r t
theorem E7 (f:List Nat) (r:Fr) (t:Nat):aj (Ki f r) t=Ee f (aj r t):=B3 (Ee f) rfl r t
def aK (r:Fr):List Nat:=r.map Prod.fst
theorem pq (r:Fr) (t:Nat) (h:t∉aK r):aj r t= .sc .un:=by
 induction r with
 |nil=>rfl
 |cons p r ih=>
  obtain ⟨k,x⟩:=p
  simp only [aK,List.map_cons,List.mem_cons,not_or] at h
  have h': ¬k=t:=fun e=>h.1 e.symm
  simp only [aj,eC,h',decide_false,cond_false]
  exact ih h.2
theorem yn (ds:List Nat) (r:Fr):List.Sublist (aK (cR ds r)) (aK r):=by
 induction r with
 |nil=>simp [aK,cR]
 |cons p r ih=>
  obtain ⟨k,x⟩:=p
  simp only [cR]
  cases cN x||bp ds k
  ·simpa [aK] using ih
  ·exact (List.Sublist.cons _ ih)
theorem td (ds:List Nat) (r:Fr):List.Sublist (aK (mu ds r)) (aK r):=by
 induction r with
 |nil=>simp [aK,mu]
 |cons p r ih=>
  obtain ⟨k,x⟩:=p
  simp only [mu]
  cases bp ds k&&!cN x
  ·exact (List.Sublist.cons _ ih)
  ·simpa [aK] using ih
theorem B4 (ds:List Nat) (r:Fr) (hn:(aK r).Nodup) (t:Nat):aj (cR ds r) t=if cN (aj r t)||bp ds t then .sc .un else aj r t:=by
 induction r with
 |nil=>simp [aj,cR]
 |cons p r ih=>
  obtain ⟨k,x⟩:=p
  simp only [aK,List.map_cons,List.nodup_cons] at hn
  have ih:=ih hn.2
  simp only [cR]
  by_cases hk:k=t
  ·subst hk
   cases hb:cN x||bp ds k
   ·simp [aj,eC,hb]
   ·simp only [cond_true,aj,eC,decide_true,hb,if_true]
    refine pq _ _ (fun hm=>hn.1 ((yn ds r).subset hm))
  ·cases hb:cN x||bp ds k
   ·simp [aj,eC,hk,ih]
   ·simp [aj,eC,hk,ih]
theorem xz (ds:List Nat) (r:Fr) (hn:(aK r).Nodup) (t:Nat):aj (mu ds r) t=if bp ds t&&!cN (aj r t) then aj r t else .sc .un:=by
 induction r with
 |nil=>simp [aj,mu]
 |cons p r ih=>
  obtain ⟨k,x⟩:=p
  simp only [aK,List.map_cons,List.nodup_cons] at hn
  have ih:=ih hn.2
  simp only [mu]
  by_cases hk:k=t
  ·subst hk
   cases hb:bp ds k&&!cN x
   ·simp only [cond_false,aj,eC,decide_true,cond_true,hb]
    exact pq _ _ (fun hm=>hn.1 ((td ds r).subset hm))
   ·simp [aj,eC,hb]
  ·cases hb:bp ds k&&!cN x<;>simp [aj,eC,hk,ih]
theorem u9 (r s:Fr) (t:Nat):aj (r++s) t=if t∈aK r then aj r t else aj s t:=by
 induction r with
 |nil=>simp [aK]
 |cons p r ih=>
  obtain ⟨k,x⟩:=p
  simp only [List.cons_append,aj,eC,aK,List.map_cons,List.mem_cons]
  by_cases h:k=t
  ·simp [h]
  ·have h': ¬t=k:=fun e=>h e.symm
   simp only [h,h',decide_false,cond_false,ih,false_or]
   rfl
end Dn
/-
  Laws of leaves and slots: offsets, and what changes elsewhere. Conditions: none.
-/
set_option linter.unusedSimpArgs false
set_option linter.unusedVariables false
namespace Dn
open Go
section
variable {e e':Env}
theorem aN.width {vs:List Value} {l:aC} (h:aN e vs l):vs.length=l.w:=by
 cases l with
 |un=>obtain ⟨v,rfl,_⟩:=h;rfl
 |p m=>obtain ⟨v,rfl,_⟩:=h.2.one h.1;rfl
 |hs x=>cases h;simp [bh,x.h,aC.w]
 |nil=>cases h;rfl
 |mp s es=>exact h.elim
 |own f=>obtain ⟨v,rfl,_⟩:=h;rfl
theorem aN.cells {vs:List Value} {l:aC} (h:aN e vs l): ∀v∈vs,v.oneCell'=true:=by
 cases l with
 |un=>obtain ⟨v,rfl,hv⟩:=h;simpa using hv
 |p m=>exact h.2.cells
 |hs x=>
  cases h
  intro v hv
  obtain ⟨b,_,rfl⟩:=List.mem_map.1 hv
  rfl
 |nil=>cases h;simp [Value.oneCell']
 |mp s es=>exact h.elim
 |own f=>obtain ⟨v,rfl,hv,_⟩:=h;simpa using hv
theorem aq.width {cs:List aC}: ∀{vs:List Value},aq e vs cs→vs.length=uZ cs:=by
 induction cs with
 |nil=>intro vs h;cases h;rfl
 |cons l r ih=>intro vs h;obtain ⟨v,w,rfl,h1,h2⟩:=h;simp [uZ,h1.width,ih h2]
theorem aq.cells {cs:List aC}: ∀{vs:List Value},aq e vs cs→ ∀v∈vs,v.oneCell'=true:=by
 induction cs with
 |nil=>intro vs h;cases h;simp
 |cons l r ih=>
  intro vs h v hv
  obtain ⟨a,w,rfl,h1,h2⟩:=h
  rcases List.mem_append.1 hv with hv|hv
  ·exact h1.cells v hv
  ·exact ih h2 v hv
theorem aq.append {cs ds:List aC}: ∀{vs ws:List Value},aq e vs cs→aq e ws ds→aq e (vs++ws) (cs++ds):=by
 induction cs with
 |nil=>intro vs ws h h';cases h;simpa using h'
 |cons l r ih=>intro vs ws h h';obtain ⟨v,w,rfl,h1,h2⟩:=h;exact ⟨v,w++ws,by simp,h1,ih h2 h'⟩
theorem vc {cs:List aC}: ∀{off:Nat} {ds:List aC} {vs:List Value},cut cs off=some ds→aq e vs cs→
 ∃v1 v2,vs=v1++v2∧v1.length=off∧aq e v2 ds:=by
 induction cs with
 |nil=>
  intro off ds vs h hr
  cases off with
  |zero=>simp only [cut,Option.some.injEq] at h;subst h;exact ⟨[],vs,rfl,rfl,hr⟩
  |succ n=>simp [cut] at h
 |cons l r ih=>
  intro off ds vs h hr
  cases off with
  |zero=>simp only [cut,Option.some.injEq] at h;subst h;exact ⟨[],vs,rfl,rfl,hr⟩
  |succ n=>
   simp only [cut] at h
   cases hb:Nat.ble l.w (n+1) with
   |false=>simp [hb] at h
   |true=>
    simp only [hb,cond_true] at h
    have hle:=Nat.le_of_ble_eq_true hb
    obtain ⟨v,w,rfl,h1,h2⟩:=hr
    obtain ⟨v1,v2,rfl,hl,h3⟩:=ih h h2
    exact ⟨v++v1,v2,by simp,by simp [h1.width,hl];omega,h3⟩
theorem Nd {cs:List aC}: ∀{n:Nat} {ds:List aC} {vs:List Value},HV cs n=some ds→aq e vs cs→
 ∃v1 v2,vs=v1++v2∧v1.length=n∧aq e v1 ds:=by
 induction cs with
 |nil=>
  intro n ds vs h hr
  cases n with
  |zero=>simp only [HV,Option.some.injEq] at h;subst h;exact ⟨[],vs,rfl,rfl,rfl⟩
  |succ n=>simp [HV] at h
 |cons l r ih=>
  intro n ds vs h hr
  cases n with
  |zero=>simp only [HV,Option.some.injEq] at h;subst h;exact ⟨[],vs,rfl,rfl,rfl⟩
  |succ n=>
   simp only [HV] at h
   cases hb:Nat.ble l.w (n+1) with
   |false=>simp [hb] at h
   |true=>
    simp only [hb,cond_true] at h
    have hle:=Nat.le_of_ble_eq_true hb
    obtain ⟨v,w,rfl,h1,h2⟩:=hr
    cases hu:HV r (n+1-l.w) with
    |none=>simp [hu] at h
    |some b=>
     simp only [hu,Option.some.injEq] at h
     subst h
     obtain ⟨v1,v2,rfl,hl,h3⟩:=ih hu h2
     exact ⟨v++v1,v2,by simp,by simp [h1.width,hl];omega,v,v1,rfl,h1,h3⟩
theorem E8 {cs:List aC} {off n:Nat} {ds:List aC} {vs:List Value} (h:part cs off n=some ds) (hr:aq e vs cs):
 ∃v1 v2 v3,vs=v1++v2++v3∧v1.length=off∧v2.length=n∧aq e v2 ds:=by
 unfold part at h
 cases hc:cut cs off with
 |none=>simp [hc] at h
 |some a=>
  simp only [hc] at h
  obtain ⟨v1,v2,rfl,h1,h2⟩:=vc hc hr
  obtain ⟨v3,v4,rfl,h3,h4⟩:=Nd h h2
  exact ⟨v1,v3,v4,by simp,h1,h3,h4⟩
theorem E9 {ls:List aC}: ∀{cs ds:List aC} {vs ws:List Value},over ls cs=some ds→aq e vs cs→aq e ws ls→
 ∃v1 v2,vs=v1++v2∧v1.length=ws.length∧aq e (ws++v2) ds:=by
 induction ls with
 |nil=>intro cs ds vs ws h hr hw;simp only [over,Option.some.injEq] at h;subst h;cases hw;exact ⟨[],vs,rfl,rfl,hr⟩
 |cons l r ih=>
  intro cs ds vs ws h hr hw
  cases cs with
  |nil=>simp [over] at h
  |cons c cs=>
   simp only [over] at h
   cases hb:Nat.beq l.w c.w with
   |false=>simp [hb] at h
   |true=>
    simp only [hb,cond_true] at h
    have hww:=Nat.eq_of_beq_eq_true hb
    cases ho:over r cs with
    |none=>simp [ho] at h
    |some q=>
     simp only [ho,Option.some.injEq] at h
     subst h
     obtain ⟨v,w,rfl,h1,h2⟩:=hr
     obtain ⟨a,b,rfl,h3,h4⟩:=hw
     obtain ⟨v1,v2,rfl,hl,h5⟩:=ih ho h2 h4
     exact ⟨v++v1,v2,by simp,by simp [h1.width,h3.width,hl,hww],a,b++v2,by simp,h3,h5⟩
theorem te {cs:List aC}: ∀{off:Nat} {ls ds:List aC} {vs ws:List Value},putAt cs off ls=some ds→aq e vs cs→aq e ws ls→
 ∃v1 v2 v3,vs=v1++v2++v3∧v1.length=off∧v2.length=ws.length∧aq e (v1++ws++v3) ds:=by
 induction cs with
 |nil=>
  intro off ls ds vs ws h hr hw
  cases off with
  |zero=>
   simp only [putAt] at h
   obtain ⟨v1,v2,rfl,h1,h2⟩:=E9 h hr hw
   exact ⟨[],v1,v2,by simp,rfl,h1,by simpa using h2⟩
  |succ n=>simp [putAt] at h
 |cons l r ih=>
  intro off ls ds vs ws h hr hw
  cases off with
  |zero=>
   simp only [putAt] at h
   obtain ⟨v1,v2,rfl,h1,h2⟩:=E9 h hr hw
   exact ⟨[],v1,v2,by simp,rfl,h1,by simpa using h2⟩
  |succ n=>
   simp only [putAt] at h
   cases hb:Nat.ble l.w (n+1) with
   |false=>simp [hb] at h
   |true=>
    simp only [hb,cond_true] at h
    have hle:=Nat.le_of_ble_eq_true hb
    obtain ⟨v,w,rfl,h1,h2⟩:=hr
    cases hu:putAt r (n+1-l.w) ls with
    |none=>simp [hu] at h
    |some b=>
     simp only [hu,Option.some.injEq] at h
     subst h
     obtain ⟨v1,v2,v3,rfl,hl,uU,h3⟩:=ih hu h2 hw
     exact ⟨v++v1,v2,v3,by simp,by simp [h1.width,hl];omega,uU,v,v1++ws++v3,by simp,h1,h3⟩
structure jG (S T:Nat→Prop) (e e':Env):Prop where
 key:e'.key=e.key
 φ:o6 e.φ e'.φ
 B: ∀r,T r→e'.B r=e.B r
 gY: ∀f o',aE e'.m f=some o'→S f→ ∃o,aE e.m f=some o∧e'.E f=e.E f∧o'.xs=o.xs
def ib (S:Nat→Prop) (l:aC):Prop:= ∀f,l= .own f→S f
def eD (S T:Nat→Prop):Slot→Prop
 | .ptr r _=>T r
 | .uY r=>T r
 | .hp r _ _=>T r
 | .sc l=>ib S l
 | .ag cs=> ∀l∈cs,ib S l
 | .ep g _ _ _ _=>S g
 |_=>True
theorem aN.on {S T:Nat→Prop} (h:jG S T e e') {vs:List Value} {l:aC} (hl:ib S l) (hr:aN e vs l):aN e' vs l:=by
 cases l with
 |un=>exact hr
 |p m=>exact ⟨hr.1,by have:=hr.2.mono h.φ;rw [←h.key] at this;exact this⟩
 |hs x=>exact hr
 |nil=>exact hr
 |mp s es=>exact hr
 |own f=>
  obtain ⟨v,rfl,hv,hf⟩:=hr
  refine ⟨v,rfl,hv,fun o' xA=> ?_⟩
  obtain ⟨o,ho,hE,_⟩:=h.gY f o' xA (hl f rfl)
  rw [hE];exact hf o ho
theorem aq.on {S T:Nat→Prop} (h:jG S T e e') {cs:List aC}: ∀{vs:List Value},(∀l∈cs,ib S l)→aq e vs cs→aq e' vs cs:=by
 induction cs with
 |nil=>intro vs _ hr;exact hr
 |cons l r ih=>
  intro vs hl hr
  obtain ⟨v,w,rfl,h1,h2⟩:=hr
  exact ⟨v,w,rfl,h1.on h (hl l (by simp)),ih (fun x hx=>hl x (by simp [hx])) h2⟩
theorem B5 {S:Nat→Prop} {l:aC} (h:qJ l=true):ib S l:=by
 intro f hf;subst hf;simp [qJ] at h
theorem xB {S:Nat→Prop} {cs:List aC} (h:gZ cs=true): ∀l∈cs,ib S l:=by
 induction cs with
 |nil=>simp
 |cons l r ih=>
  simp only [gZ,Bool.and_eq_true] at h
  intro x hx
  rcases List.mem_cons.1 hx with rfl|hx
  ·exact B5 h.1
  ·exact ih h.2 x hx
mutual
theorem ab.on {S T:Nat→Prop} (h:jG S T e e') {v:Value}: ∀{s:Slot},eD S T s→ab e v s→ab e' v s
 | .skip,_,hr=>by simpa [ab] using hr
 | .sc l,hs,hr=>by
  cases l with
  |un=>simp [ab]
  |hs x=>simpa [ab] using hr
  |p m=>simp only [ab] at hr⊢;exact hr.on h hs
  |nil=>simp only [ab] at hr⊢;exact hr.on h hs
  |mp s es=>simp only [ab] at hr⊢;exact hr
  |own f=>simp only [ab] at hr⊢;exact hr.on h hs
 | .ag cs,hs,hr=>by
  simp only [ab] at hr⊢
  obtain ⟨arr,h1,h2⟩:=hr
  exact ⟨arr,h1,h2.on h hs⟩
 | .cC vs,_,hr=>by
  simp only [ab] at hr⊢
  obtain ⟨arr,h1,h2⟩:=hr
  exact ⟨arr,h1,je.on h h2⟩
 | .box _,_,hr=>by simp [ab] at hr
 | .uX cs,_,hr=>by
  simp only [ab] at hr⊢
  obtain ⟨aX,o,vs,h1,h2,h3,h4⟩:=hr
  exact ⟨aX,o,vs,h1,h2.on h (xB h3),h3,fun j hj=>Gy h.φ hj (h4 j hj)⟩
 | .ptr r o,hs,hr=>by simp only [ab] at hr⊢;rw [h.B r hs];exact hr
 | .uY r,hs,hr=>by simp only [ab] at hr⊢;rw [h.B r hs];exact hr
 | .rp cs off,_,hr=>by
  simp only [ab] at hr⊢
  obtain ⟨aX,o,vs,h1,h2,h3,h4⟩:=hr
  exact ⟨aX,o,vs,h1,h2.on h (xB h3),h3,fun j hj=>Gy h.φ hj (h4 j hj)⟩
 | .hp r o i,hs,hr=>by simp only [ab] at hr⊢;rw [h.B r hs];exact hr
 | .ep f i off st cs,hs,hr=>by
  simp only [ab] at hr⊢
  intro o' xA
  obtain ⟨o,ho,hE,hx⟩:=h.gY f o' xA hs
  obtain ⟨aX,cap,h1,h2,h3⟩:=hr o ho
  exact ⟨aX,cap,by rw [hE,hx];exact h1,by rw [hx];exact h2,h3⟩
theorem je.on {S T:Nat→Prop} (h:jG S T e e'): ∀{vs:List Value} {ss:List Slot},je e vs ss→je e' vs ss
 |vs,[],hr=>hr
 |vs,s::ss,hr=>by
  simp only [je] at hr⊢
  obtain ⟨v,r,h1,h2,h3,h4⟩:=hr
  refine ⟨v,r,h1,ab.on h ?_ h2,h3,je.on h h4⟩
  cases s<;>simp [xa] at h3<;>simp only [eD]
  ·exact B5 h3
  ·exact xB h3
end
end
end Dn
/-
  The relation between an abstract state and a running frame; operations that change no memory. Conditions: none.
-/
set_option linter.unusedSimpArgs false
set_option linter.unusedVariables false
namespace Dn
open Go
section
variable {e e':Env}
theorem aN.kill {vs:List Value} {l:aC} (f:Nat) (h:aN e vs l):aN e vs (HN f l):=by
 cases l with
 |own g=>
  simp only [HN]
  cases Nat.beq g f
  ·exact h
  ·obtain ⟨v,rfl,hv,_⟩:=h;exact ⟨v,rfl,hv⟩
 |_=>exact h
theorem B6 (f:Nat) (l:aC):ib (· ≠f) (HN f l):=by
 intro g hg
 cases l<;>simp [HN] at hg
 rename_i g'
 cases hb:Nat.beq g' f<;>simp [hb] at hg
 subst hg
 intro e;subst e;simp [eC] at hb
theorem aN.LU {vs:List Value} {l:aC} (f:List Nat) (h:aN e vs l):aN e vs (Kh f l):=by
 cases l with
 |own g=>
  simp only [Kh]
  cases bp f g
  ·obtain ⟨v,rfl,hv,_⟩:=h;exact ⟨v,rfl,hv⟩
  ·exact h
 |_=>exact h
theorem Kj (f:List Nat) (l:aC):ib (· ∈f) (Kh f l):=by
 intro g hg
 cases l<;>simp [Kh] at hg
 rename_i g'
 cases hb:bp f g'<;>simp [hb] at hg
 subst hg
 exact (bq _ _).1 hb
theorem aq.map {g:aC→aC} (hg: ∀vs l,aN e vs l→aN e vs (g l)) {cs:List aC}: ∀{vs:List Value},aq e vs cs→aq e vs (cs.map g):=by
 induction cs with
 |nil=>intro vs h;exact h
 |cons l r ih=>intro vs h;obtain ⟨v,w,rfl,h1,h2⟩:=h;exact ⟨v,w,rfl,hg _ _ h1,ih h2⟩
theorem ab.WM {v:Value} {l:aC} (hl: ∀x,l≠ .hs x) (hu:l≠ .un):ab e v (.sc l)↔aN e [v] l:=by
 cases l<;>simp_all [ab]
theorem ab.kill {v:Value} {s:Slot} (f:Nat) (h:ab e v s):ab e v (xb f s):=by
 cases s with
 |sc l=>
  cases l with
  |own g=>
   simp only [xb,HN]
   cases Nat.beq g f
   ·exact h
   ·simp [ab]
  |_=>exact h
 |ag cs=>simp only [xb,ab] at h⊢;obtain ⟨arr,h1,h2⟩:=h;exact ⟨arr,h1,h2.map (fun _ _=>aN.kill f)⟩
 |box cs=>simp [ab] at h
 |ep g i o b cs=>
  simp only [xb]
  cases Nat.beq g f
  ·exact h
  ·simp [ab]
 |_=>exact h
theorem PN (f:Nat) (T:Nat→Prop) (s:Slot) (hT:eD (fun _=>True) T s):eD (· ≠f) T (xb f s):=by
 cases s with
 |sc l=>exact B6 f l
 |ag cs=>intro l hl;obtain ⟨x,_,rfl⟩:=List.mem_map.1 hl;exact B6 f x
 |ep g i o b cs=>
  simp only [xb]
  cases hb:Nat.beq g f
  ·simp only [cond_false,eD];intro e;subst e;simp [eC] at hb
  ·simp [eD,ib]
 |ptr r o=>exact hT
 |hp r o i=>exact hT
 |_=>trivial
theorem ab.LU {v:Value} {s:Slot} (f:List Nat) (h:ab e v s):ab e v (Ee f s):=by
 cases s with
 |sc l=>
  cases l with
  |own g=>
   simp only [Ee,Kh]
   cases bp f g
   ·simp [ab]
   ·exact h
  |_=>exact h
 |ag cs=>simp only [Ee,ab] at h⊢;obtain ⟨arr,h1,h2⟩:=h;exact ⟨arr,h1,h2.map (fun _ _=>aN.LU f)⟩
 |box cs=>simp [ab] at h
 |_=>exact h
end
def aS (key:Nat→Nat) (φ:Ph) (size:Nat):List Value→List MV→Prop
 |vs,[]=>vs=[]
 |vs,x::xs=> ∃v r,vs=v++r∧v.length=size∧kD key φ v x∧aS key φ size r xs
structure bw where
 In:Nat→Prop
 b4:List Nat
 b5:List Nat
 T:Nat→Value
 Zl:Prop
 Pr:Nat→Prop
instance:CoeFun bw (fun _=>Nat→Prop):=⟨bw.In⟩
instance:Coe bw (Nat→Prop):=⟨bw.In⟩
theorem H5 {a b c:Prop} (h:(a∧b)∨c) (hn: ¬a):c:=h.resolve_left fun h=>hn h.1
def bw.nc (Z:bw):bw:={Z with Zl:=False}
def bw.plain (I:Nat→Prop):bw:=⟨I,[],[],fun _=>undef,False,fun _=>True⟩
def bw.bz (Z:bw) (t:Nat):bw:={Z with In:=fun b=>(t∈Z.b4∧Z.Pr b)∨Z.In b}
def bw.fz (Z:bw) (f:Nat):bw:={Z with In:=fun b=>(f∈Z.b5∧Z.Pr b)∨Z.In b,Zl:=f∈Z.b5}
def zD:Kd→MV→Bool
 | .b,.b _=>true
 | .i k,.i k' _=>decide (k'=k)
 | .s,.s _=>true
 | .h,.h _=>true
 |_,_=>false
def cO:List Kd→List MV→Bool
 |[],[]=>true
 |k::ks,m::ms=>zD k m&&cO ks ms
 |_,_=>false
def zu:MV→List Value
 | .b x=>[.bool x]
 | .i k n=>[.int k n]
 | .s l=>[.string ⟨l.toArray⟩]
 | .h x=>bh x
 |_=>[]
def eP (st:Bool) (ks:List MV):Value:=match st,ks with
 |false,[.h x]=> .agg (bh x).toArray
 |false,[.b x]=> .bool x
 |false,[.i k n]=> .int k n
 |false,[.s l]=> .string ⟨l.toArray⟩
 |_,ks=> .agg (ks.flatMap zu).toArray
def wI (b:Bool) (m:MV):Value:=match b,m with
 |true,.b x=> .bool x
 |false,.i .i64 n=> .int .i64 n
 |_,_=>undef
def Kk (b:Bool) (m:MV):Bool:=match b,m with
 |true,.b x=>true
 |false,.i .i64 n=>true
 |_,_=>false
def VG (s:MS) (x:MapEntry) (m:MV) (i:Nat):Prop:=
 x.born=i∧ ∃ks v,m= .cC [.agg ks,v]∧cO s.lay ks=true∧x.key=eP s.st ks∧Kk s.b v=true∧x.val=wI s.b v
structure pG (s:MS) (es:Array MapEntry) (clock:Nat) (ms:List MV):Prop where
 size:es.size=ms.length
 clock:clock=ms.length
 Tk: ∀(i:Nat) x m,es[i]? =some x→ms[i]? =some m→VG s x m i
def iK (e:Env) (o:Obj) (cs:List aC):Prop:=match o with
 | .cells arr _ z=>z=(0,0)∧aq e arr.toList cs
 | .map es clock=> ∃s ms,cs=[.mp s ms]∧Be s=false∧pG s es clock ms
 | .stringIter x pos=>cs=[.mp MS.it [.s x.data.toList,.i .i64 pos]]
 |_=>False
def Gz (cs:List aC) (b:Nat):Value:=bif jY cs then .map (some b) else .pointer (some ⟨b,0,none⟩)
structure qL (Z:bw) (e:Env) (w:World) (aX:Nat) (cs:List aC):Prop where
 b3:Z.In aX
 obj: ∃o,w.heap[aX]? =some o∧iK e o cs
 free: ∀off,e.φ aX off=none
theorem iK.on {S T:Nat→Prop} {e e':Env} (h:jG S T e e') {o:Obj} {cs:List aC} (hl: ∀l∈cs,ib S l) (hr:iK e o cs):iK e' o cs:=by
 cases o with
 |cells arr T z=>exact ⟨hr.1,hr.2.on h hl⟩
 |map es clock=>exact hr
 |stringIter x pos=>exact hr
 |_=>exact hr.elim
theorem GA {cs:List aC} (h:ee cs=true): ∃s ms,cs=[.mp s ms]:=by
 unfold ee at h
 split at h
 ·exact ⟨_,_,rfl⟩
 ·cases h
theorem iK.cells {e:Env} {o:Obj} {cs:List aC} (hr:iK e o cs) (hm:ee cs=false): ∃arr T,o= .cells arr T (0,0)∧aq e arr.toList cs:=by
 cases o with
 |cells arr T z=>obtain ⟨rfl,h⟩:=hr;exact ⟨arr,T,rfl,h⟩
 |map es clock=>obtain ⟨s,ms,rfl,_⟩:=hr;simp [ee] at hm
 |stringIter x pos=>rw [show cs=_ from hr] at hm;simp [ee] at hm
 |_=>exact hr.elim
theorem tf {cs:List aC} (h:ee cs=false):jY cs=false:=by
 unfold jY
 split
 ·simp [ee] at h
 ·rfl
theorem H6 (g:aC→aC) (h1: ∀s es,g (.mp s es)= .mp s es) (h2: ∀l,(∀s es,l≠ .mp s es)→ ∀s es,g l≠ .mp s es) (cs:List aC):jY (cs.map g)=jY cs:=by
 cases cs with
 |nil=>rfl
 |cons l r=>
  cases r with
  |nil=>
   by_cases hl: ∃s es,l= .mp s es
   ·obtain ⟨s,es,rfl⟩:=hl;simp [h1,jY]
   ·have Ax: ∀s es,l≠ .mp s es:=fun s es e=>hl ⟨s,es,e⟩
    have hg:=h2 l Ax
    simp only [List.map_cons,List.map_nil]
    have a:jY [l]=false:=by cases l<;>simp_all [jY]
    have b:jY [g l]=false:=by cases hq:g l<;>simp_all [jY]
    rw [a,b]
  |cons x y=>cases hl:l<;>simp [jY]
theorem qL.cells {Z:bw} {e:Env} {w:World} {aX:Nat} {cs:List aC} (h:qL Z e w aX cs) (hm:ee cs=false): ∃arr T,w.heap[aX]? =some (.cells arr T (0,0))∧aq e arr.toList cs:=by
 obtain ⟨o,h1,h2⟩:=h.obj
 obtain ⟨arr,T,rfl,h3⟩:=h2.cells hm
 exact ⟨arr,T,h1,h3⟩
theorem Kl {cs:List aC} (hm:jY cs=false) (b:Nat):Gz cs b= .pointer (some ⟨b,0,none⟩):=by simp [Gz,hm]
theorem tg {cs:List aC} (hm:ee cs=false) (b:Nat):Gz cs b= .pointer (some ⟨b,0,none⟩):=Kl (tf hm) b
theorem PO {cs:List aC} (hm:jY cs=true) (b:Nat):Gz cs b= .map (some b):=by simp [Gz,hm]
theorem iK.map {e:Env} {g:aC→aC} (hg: ∀vs l,aN e vs l→aN e vs (g l)) (hm: ∀s es,g (.mp s es)= .mp s es) {o:Obj} {cs:List aC} (hr:iK e o cs):iK e o (cs.map g):=by
 cases o with
 |cells arr T z=>exact ⟨hr.1,hr.2.map hg⟩
 |map es clock=>obtain ⟨s,ms,rfl,h2⟩:=hr;exact ⟨s,ms,by simp [hm],h2⟩
 |stringIter x pos=>rw [show cs=_ from hr];show List.map g _=_;simp [hm]
 |_=>exact hr.elim
theorem Km (f:Nat) (cs:List aC):jY (cs.map (HN f))=jY cs:=
 H6 _ (fun _ _=>rfl) (fun l hl s es=>by cases l<;>simp_all [HN];rename_i g;cases Nat.beq g f<;>simp) cs
theorem WN (f:List Nat) (cs:List aC):jY (cs.map (Kh f))=jY cs:=
 H6 _ (fun _ _=>rfl) (fun l hl s es=>by cases l<;>simp_all [Kh];rename_i g;cases bp f g<;>simp) cs
structure cF (c:Ctx) (Z:bw) (e:Env) (w:World) (v:Value) (o:mr):Prop where
 row: ∃I cells,c.ti o.ty=some I∧I.cq=[]∧w.ownsRow 0 o.ty I.size v o.xs.length cells∧aS e.key e.φ I.size cells o.xs∧
  ∀aX,v.ownBlock=some aX→Z.In aX∧(∀off u,e.φ aX off=some u→o.dD=true∧off<o.xs.length *I.size)∧(Z.Zl→o.dD=true→ ∀j,j<cells.length→e.φ aX j=cells[j]?)
def tied (Z:bw) (t:Nat) (v:Value) (cs:List aC) (b:Nat):Prop:=
 (wZ t=false→v=Gz cs b)∧(wZ t=true→posOf t∈Z.b4∧Z.T (posOf t)= .pointer (some ⟨b,HU t,none⟩))
theorem tied.jY {Z:bw} {t:Nat} {v:Value} {cs eR:List aC} {b:Nat} (h:tied Z t v cs b) (hm:jY eR=jY cs):tied Z t v eR b:=⟨fun hp=>by rw [h.1 hp];simp [Gz,hm],h.2⟩
theorem tied.own {Z:bw} {t:Nat} {v:Value} {cs:List aC} {b:Nat} (hp:wZ t=false) (h:v=Gz cs b):tied Z t v cs b:=⟨fun _=>h,fun hq=>by rw [hp] at hq;cases hq⟩
def bI (Z:bw) (e:Env) (w:World) (t:Nat) (v:Value):Slot→Prop
 | .box cs=>tied Z t v cs (e.B t)∧qL (Z.bz t) e w (e.B t) cs
 |s=>ab e v s
def b6 (fr:Fr):Slot→Prop
 | .ptr r _=>cr (aj fr r)=true
 | .hp r _ _=>cr (aj fr r)=true
 | .uY r=>cr (aj fr r)=true
 |_=>True
structure bK (c:Ctx) (Z:bw) (e:Env) (st:St) (a:Act) (w:World):Prop where
 defers:a.defers=[]∧st.b4=Z.b4∧st.b5=Z.b5∧ ∀t∈Z.b4,a.tmps.getD t undef=Z.T t
 size:a.tmps.size=c.n
 m:e.m=st.aL
 key:e.key=c.key
 nodup:(aK st.fr).Nodup
 slot: ∀t,bI Z e w t (a.tmps.getD t undef) (aj st.fr t)
 root: ∀t,b6 st.fr (aj st.fr t)
 gY: ∀f o,aE st.aL f=some o→cF c (Z.fz f) e w (e.E f) o
 bb: ∀t t' cs eR,aj st.fr t= .box cs→aj st.fr t'= .box eR→t≠t'→e.B t≠e.B t'
 bf: ∀t cs f o,aj st.fr t= .box cs→aE st.aL f=some o→(e.E f).ownBlock≠some (e.B t)
 ff: ∀f f' o o' k,aE st.aL f=some o→aE st.aL f'=some o'→(e.E f).ownBlock=some k→(e.E f').ownBlock=some k→f=f'
 mZ: ∀b o v,e.φ b o=some v→w.cell? ⟨b,o,none⟩=some v
 b3: ∀b,w.heap.size≤b→Z.In b
def Rest (w w':World):Prop:=w'.os=w.os∧w'.tape=w.tape∧w'.output=w.output∧ ∀a,w'.frozen? a=w.frozen? a
theorem Rest.refl (w:World):Rest w w:=⟨rfl,rfl,rfl,fun _=>rfl⟩
theorem Rest.trans {w w' vW:World} (h:Rest w w') (h':Rest w' vW):Rest w vW:=⟨h'.1.trans h.1,h'.2.1.trans h.2.1,h'.2.2.1.trans h.2.2.1,fun a=>(h'.2.2.2 a).trans (h.2.2.2 a)⟩
theorem Rest.alloc (w:World) (cs:Array Value) (t:TypeId):Rest w (w.alloc (.cells cs t)):=by
 refine ⟨rfl,rfl,rfl,fun a=> ?_⟩
 by_cases h:a.block=w.heap.size
 ·have e1:(w.alloc (.cells cs t)).heap[a.block]? =some (.cells cs t (0,0)):=by rw [h];exact jF w _
  have e2:w.heap[a.block]? =none:=by rw [h];simp
  simp [World.frozen?,e1,e2]
 ·exact World.frozen?_alloc_old _ _ _ h
theorem Rest.setRow (w:World) (g:Nat) (cs:Array Value):Rest w (w.setRow g cs):=by
 refine ⟨rfl,rfl,rfl,fun a=> ?_⟩
 by_cases h:a.block=g
 ·unfold World.frozen? World.setRow
  simp only [Array.getElem?_modify,h,if_true]
  cases hg:w.heap[g]? with
  |none=>rfl
  |some o=>cases o<;>rfl
 ·exact World.frozen?_of_block (setRow_other _ _ _ _ h)
structure cZ (w w':World):Prop where
 size:w.heap.size≤w'.heap.size
 zv: ∀b,b<w.heap.size→w'.heap[b]? =w.heap[b]?
 rest:Rest w w'
theorem bm {w:World} {b:Nat} {x:Obj} (h:w.heap[b]? =some x):b<w.heap.size:=(Array.getElem?_eq_some_iff.1 h).1
theorem cZ.cell {w w':World} (g:cZ w w') {ad:Addr} {v:Value} (h:w.cell? ad=some v):w'.cell? ad=some v:=by
 have hl:=World.block_lt_of_cell? w ad h
 rw [World.cell?_of_block (g.zv ad.block hl)];exact h
structure Trans (Z:Nat→Prop) (φ:Ph) (w:World) (φ':Ph) (w':World):Prop where
 ph:o6 φ φ'
 heap: ∀b,¬Z b→b<w.heap.size→w'.heap[b]? =w.heap[b]?
 free: ∀b o,¬Z b→φ' b o=φ b o
 size:w.heap.size≤w'.heap.size
 rest:Rest w w'
theorem Trans.refl (Z:Nat→Prop) (φ:Ph) (w:World):Trans Z φ w φ w:=⟨.refl φ,fun _ _ _=>rfl,fun _ _ _=>rfl,Nat.le_refl _,.refl _⟩
theorem Trans.trans {Z:Nat→Prop} {φ φ' Zk:Ph} {w w' vW:World} (h:Trans Z φ w φ' w') (h':Trans Z φ' w' Zk vW):Trans Z φ w Zk vW:=
 ⟨h.ph.trans h'.ph,fun b hb hl=>(h'.heap b hb (Nat.lt_of_lt_of_le hl h.size)).trans (h.heap b hb hl),fun b o hb=>(h'.free b o hb).trans (h.free b o hb),Nat.le_trans h.size h'.size,h.rest.trans h'.rest⟩
def oq (Z:bw) (e:Env) (w:World) (st:St) (v:Value):Slot→Prop
 | .box cs=> ∃aX,v=Gz cs aX∧qL Z e w aX cs∧(∀t eR,aj st.fr t= .box eR→e.B t≠aX)∧(∀f o,aE st.aL f=some o→(e.E f).ownBlock≠some aX)
 |s=>ab e v s∧b6 st.fr s
section
variable {c:Ctx} {Z:bw} {e:Env} {st:St} {a:Act} {w:World}
theorem ab.const {v:Value}:ab e v (vT v):=by
 unfold vT
 split<;>simp only [ab,aN,MV.one]<;>
  first
   |exact ⟨trivial,.b _⟩
   |exact ⟨trivial,.i _ _⟩
   |exact ⟨trivial,.s _⟩
   |exact ⟨trivial,.raw _ rfl⟩
theorem bK.eval (h:bK c Z e st a w) (x:Operand):ab e (a.eval x) (aJ c st x)∧b6 st.fr (aJ c st x):=by
 cases x with
 |tmp t=>
  have hs:=h.slot t
  have hr:=h.root t
  simp only [Act.eval,aJ]
  cases H7:plk c.par t with
  |some q=>
   simp only
   cases hq:wZ q&&Nat.beq (posOf q) t with
   |false=>exact ⟨by simp [ab],trivial⟩
   |true=>
    simp only [cond_true]
    simp only [Bool.and_eq_true] at hq
    have hqt:=Nat.eq_of_beq_eq_true hq.2
    have hsq:=h.slot q
    split
    ·rename_i cs hfq
     rw [hfq] at hsq
     cases hm:ee cs with
     |true=>exact ⟨by simp [ab],trivial⟩
     |false=>
      obtain ⟨k1,k2⟩:=hsq.1.2 hq.1
      refine ⟨?_,by simp [b6,hfq,cr]⟩
      show a.tmps.getD t undef=_
      rw [←hqt,h.defers.2.2.2 _ k1,k2]
    ·exact ⟨by simp [ab],trivial⟩
  |none=>
  simp only
  generalize hf:aj st.fr t=s at hs hr
  cases s<;>simp only [bI] at hs<;>try exact ⟨hs,hr⟩
  ·rename_i cs
   cases WO:wZ t with
   |true=>simp only [cond_true];exact ⟨by simp [ab],trivial⟩
   |false=>
   simp only [cond_false]
   cases hm:jY cs with
   |true=>simp only [hm,cond_true,ab,b6,hf,cr];exact ⟨by rw [hs.1.1 WO,PO hm],trivial⟩
   |false=>simp only [hm,cond_false,ab,b6,hf,cr];exact ⟨by rw [hs.1.1 WO,Kl hm],trivial⟩
 |const v=>
  refine ⟨ab.const,?_⟩
  simp only [aJ]
  unfold vT
  split<;>trivial
 |func f=>
  simp only [Act.eval,aJ,ab,aN,MV.one,b6,and_true,true_and]
  exact .func f _ #[] [] (by rw [h.key]) (by simpa using fP.nil) (by simp)
 |global g=>simp [aJ,ab,b6]
end
theorem Act.vd {a:Act} {d t:Nat} {v:Value} (hd:d<a.tmps.size):(a.put (some d) v).tmps.getD t undef=if t=d then v else a.tmps.getD t undef:=by
 simp only [Act.put,Array.getD_eq_getD_getElem?,Array.getElem?_setIfInBounds]
 by_cases h:d=t
 ·subst h;simp [hd]
 ·have h': ¬t=d:=fun e=>h e.symm
  simp [h,h']
theorem PP {fr:Fr} {s:Slot} (h:b6 fr s):eD (fun _=>True) (fun r=>cr (aj fr r)=true) s:=by
 cases s<;>simp_all [b6,eD,ib]
theorem GB (r:Fr) (d:Nat) (s:Slot):aK (bT r d s)=if d∈aK r then aK r else aK r++[d]:=by
 induction r with
 |nil=>simp [bT,aK]
 |cons p r ih=>
  obtain ⟨k,x⟩:=p
  simp only [bT,eC]
  by_cases h:k=d
  ·simp [h,aK]
  ·have h': ¬d=k:=fun e=>h e.symm
   have ih':List.map Prod.fst (bT r d s)=if d∈aK r then aK r else aK r++[d]:=ih
   simp only [h,h',decide_false,cond_false,aK,List.map_cons,List.mem_cons,false_or,ih']
   by_cases hm:d∈aK r
   ·have VH:d∈List.map Prod.fst r:=hm
    simp [hm,VH,aK]
   ·have VH:d∉List.map Prod.fst r:=hm
    simp [hm,VH,aK]
theorem dw {r:Fr} {d:Nat} {s:Slot} (h:(aK r).Nodup):(aK (bT r d s)).Nodup:=by
 rw [GB]
 by_cases hm:d∈aK r
 ·simpa [hm] using h
 ·simp only [hm,if_false]
  exact List.nodup_append.2 ⟨h,by simp,by intro x hx y hy;simp at hy;subst hy;intro e;subst e;exact hm hx⟩
section
variable {c:Ctx} {Z:bw} {e:Env} {st:St} {a:Act} {w:World} {R:Type} {K:St→Option R} {r:R}
def Env.yo (e:Env) (d aX:Nat):Env:={e with B:=fun t=>if t=d then aX else e.B t}
theorem qL.env {e e':Env} {aX:Nat} {cs:List aC} (h:qL Z e w aX cs) (hk:e'.key=e.key) (hp:e'.φ=e.φ) (hE:e'.E=e.E) (hm:e'.m=e.m):qL Z e' w aX cs:=by
 refine ⟨h.b3,?_,fun off=>by rw [hp];exact h.free off⟩
 obtain ⟨o,h1,h2⟩:=h.obj
 refine ⟨o,h1,h2.on (S:=fun _=>True) (T:=fun _=>False) ⟨hk,by rw [hp];exact .refl _,by simp,?_⟩ (by intro l _ f _;trivial)⟩
 intro f o ho _
 exact ⟨o,by rw [←hm];exact ho,by rw [hE],rfl⟩
theorem cF.env {e e':Env} {v:Value} {o:mr} (h:cF c Z e w v o) (hk:e'.key=e.key) (hp:e'.φ=e.φ):cF c Z e' w v o:=by
 obtain ⟨I,cells,h1,h2,h3,h4,h5⟩:=h.row
 exact ⟨I,cells,h1,h2,h3,by rw [hk,hp];exact h4,by rw [hp];exact h5⟩
theorem qL.to {aX:Nat} {cs:List aC} (h:qL Z e w aX cs) (t:Nat):qL (Z.bz t) e w aX cs:=⟨.inr h.b3,h.obj,h.free⟩
theorem cF.to {v:Value} {o:mr} {f:Nat} (h:cF c Z.nc e w v o) (hf:f∉Z.b5):cF c (Z.fz f) e w v o:=by
 obtain ⟨I,cells,h1,h2,h3,h4,h5⟩:=h.row
 exact ⟨I,cells,h1,h2,h3,h4,fun aX hb=>⟨.inr (h5 aX hb).1,(h5 aX hb).2.1,fun hc=>absurd hc hf⟩⟩
theorem dc {d:Option Nat} {s:Slot} {v:Value} (h:bK c Z e st a w) (hv:oq Z e w st v s) (hK:bj c st d s K=some r):
 ∃e' bN,bK c Z e' bN (a.put d v) w∧K bN=some r∧e'.φ=e.φ:=by
 cases d with
 |none=>exact ⟨e,st,h,hK,rfl⟩
 |some d=>
  simp only [bj] at hK
  cases zw:wZ d||(Nat.ble c.n d||cr (aj st.fr d)) with
  |true=>simp [zw] at hK
  |false=>
   obtain ⟨adC,hb⟩:=Bool.or_eq_false_iff.1 zw
   simp only [zw,cond_false,wr] at hK
   cases hp:bp st.b4 d with
   |true=>simp [hp] at hK
   |false=>
    simp only [hp,cond_false,force_eq,kE] at hK
    simp only [Bool.or_eq_false_iff] at hb
    have Zm:d<a.tmps.size:=by
     rw [h.size]
     have:=hb.1
     by_cases dx:d<c.n
     ·exact dx
     ·have:Nat.ble c.n d=true:=Nat.ble_eq_true_of_le (by omega)
      simp_all
    have hdp:d∉Z.b4:=by
     intro hm
     rw [←h.defers.2.1,←bq,hp] at hm;cases hm
    have Zn: ∀fr:Fr,(a.put (some d) v).defers=[]∧({st with fr:=fr}:St).b4=Z.b4∧({st with fr:=fr}:St).b5=Z.b5∧ ∀t∈Z.b4,(a.put (some d) v).tmps.getD t undef=Z.T t:=by
     intro fr
     refine ⟨h.defers.1,h.defers.2.1,h.defers.2.2.1,fun t ht=> ?_⟩
     rw [Act.vd Zm,if_neg (by intro e;subst e;exact hdp ht)]
     exact h.defers.2.2.2 t ht
    have jH: ∀t,eD (fun _=>True) (fun r=>r≠d) (aj st.fr t):=by
     intro t
     have:=PP (h.root t)
     generalize aj st.fr t=x at this
     cases x<;>simp_all [eD,ib]<;>(intro e;subst e;simp_all)
    by_cases hs: ∃cs,s= .box cs
    ·obtain ⟨cs,rfl⟩:=hs
     obtain ⟨aX,rfl,rz,Tl,WQ⟩:=hv
     have rB:jG (fun _=>True) (fun r=>r≠d) e (e.yo d aX):=⟨rfl,.refl _,fun r hr=>by simp [Env.yo,hr],fun f o ho _=>⟨o,ho,rfl,rfl⟩⟩
     refine ⟨e.yo d aX,_,?_,hK,rfl⟩
     refine ⟨Zn _,by simpa [Act.put] using h.size,h.m,h.key,dw h.nodup,?_,?_,?_,?_,?_,?_,h.mZ,h.b3⟩
     ·intro t
      rw [Act.vd Zm,bA]
      by_cases ht:t=d
      ·subst ht
       simp only [if_true,bI,Env.yo]
       exact ⟨.own adC rfl,(rz.to t).env rfl rfl rfl rfl⟩
      ·simp only [ht,if_false]
       have lO:=h.slot t
       have nI:=jH t
       generalize aj st.fr t=x at lO nI
       cases x<;>simp only [bI] at lO⊢ <;>try exact lO.on rB nI
       simp only [Env.yo,ht,if_false]
       exact ⟨lO.1,lO.2.env rfl rfl rfl rfl⟩
     ·intro t
      simp only [bA]
      by_cases ht:t=d
      ·simp [ht,b6]
      ·simp only [ht,if_false]
       have nI:=h.root t
       have Tn:=jH t
       generalize aj st.fr t=x at nI Tn
       cases x<;>simp_all [b6,bA,eD]
     ·intro f o ho;exact (h.gY f o ho).env rfl rfl
     ·intro t t' iL vX h1 h2 cG
      simp only [bA] at h1 h2
      simp only [Env.yo]
      by_cases ht:t=d
      ·by_cases xC:t'=d
       ·exact absurd (ht.trans xC.symm) cG
       ·simp only [xC,if_false] at h2
        simp only [ht,xC,if_true,if_false]
        exact fun e=>Tl t' vX h2 e.symm
      ·simp only [ht,if_false] at h1
       by_cases xC:t'=d
       ·simp only [ht,xC,if_true,if_false]
        exact Tl t iL h1
       ·simp only [xC,if_false] at h2
        simp only [ht,xC,if_false]
        exact h.bb t t' iL vX h1 h2 cG
     ·intro t iL f o h1 h2
      simp only [bA] at h1
      simp only [Env.yo]
      by_cases ht:t=d
      ·simp only [ht,if_true];exact WQ f o h2
      ·simp only [ht,if_false] at h1⊢;exact h.bf t iL f o h1 h2
     ·exact h.ff
    ·have O6:ab e v s∧b6 st.fr s:=by
      cases s<;>simp_all [oq]
     refine ⟨e,_,?_,hK,rfl⟩
     refine ⟨Zn _,by simpa [Act.put] using h.size,h.m,h.key,dw h.nodup,?_,?_,h.gY,?_,?_,h.ff,h.mZ,h.b3⟩
     ·intro t
      rw [Act.vd Zm,bA]
      by_cases ht:t=d
      ·simp only [ht,if_true]
       cases s<;>simp only [bI]<;>first|exact O6.1|exact absurd ⟨_,rfl⟩ hs
      ·simp only [ht,if_false];exact h.slot t
     ·intro t
      simp only [bA]
      by_cases ht:t=d
      ·simp only [ht,if_true]
       have hr:=O6.2
       cases s<;>simp only [b6,bA] at hr⊢
       ·rename_i r o
        by_cases H8:r=d
        ·subst H8;simp_all
        ·simp only [H8,if_false];exact hr
       ·rename_i r
        by_cases H8:r=d
        ·subst H8;simp_all
        ·simp only [H8,if_false];exact hr
       ·rename_i r o i
        by_cases H8:r=d
        ·subst H8;simp_all
        ·simp only [H8,if_false];exact hr
      ·simp only [ht,if_false]
       have nI:=h.root t
       have Tn:=jH t
       generalize aj st.fr t=x at nI Tn
       cases x<;>simp_all [b6,bA,eD]
     ·intro t t' iL vX h1 h2 cG
      simp only [bA] at h1 h2
      by_cases ht:t=d
      ·simp only [ht,if_true] at h1;exact absurd ⟨_,h1⟩ hs
      ·by_cases xC:t'=d
       ·simp only [xC,if_true] at h2;exact absurd ⟨_,h2⟩ hs
       ·simp only [ht,xC,if_false] at h1 h2
        exact h.bb t t' iL vX h1 h2 cG
     ·intro t iL f o h1 h2
      simp only [bA] at h1
      by_cases ht:t=d
      ·simp only [ht,if_true] at h1;exact absurd ⟨_,h1⟩ hs
      ·simp only [ht,if_false] at h1;exact h.bf t iL f o h1 h2
end
end Dn
/-
  Operations that change no memory: moves, numbers, texts, places. Conditions: none.
-/
set_option linter.unusedSimpArgs false
set_option linter.unusedVariables false
namespace Dn
open Go
def Out (c:Ctx) (Z:bw) {R:Type} (K:St→Option R) (r:R) (φ:Ph) (w:World) (a':Act) (w':World):Prop:=
 ∃e' bN,bK c Z e' bN a' w'∧Trans Z φ w e'.φ w'∧K bN=some r
section
variable {P:Program} {c:Ctx} {Z:bw} {e:Env} {st:St} {a:Act} {w:World} {R:Type} {K:St→Option R} {r:R} {Q:Exit→Act→World→Prop} {o:Oper}
theorem oq.of {s:Slot} {v:Value} (h:ab e v s) (hr:b6 st.fr s):oq Z e w st v s:=by
 cases s<;>first|exact ⟨h,hr⟩|(simp [ab] at h)
theorem fin {e':Env} {bN:St} {w':World} {s:Slot} {v:Value} (bH:(execOp a.eval o).run P w= .ok (.value v) w') (hs:bK c Z e' bN a w')
 (ht:Trans Z e.φ w e'.φ w') (hv:oq Z e' w' bN v s) (hK:bj c bN o.dst s K=some r):o.wp P a w (Out c Z K r e.φ w) Q:=by
 unfold Oper.wp
 rw [bH,Oper.upon_value]
 obtain ⟨e2,dY,h1,h2,h3⟩:=dc hs hv hK
 exact ⟨e2,dY,h1,by rw [h3];exact ht,h2⟩
theorem yp {e':Env} {bN:St} {w':World} (bH:(execOp a.eval o).run P w= .ok .skip w') (hs:bK c Z e' bN a w')
 (ht:Trans Z e.φ w e'.φ w') (hK:bj c bN o.dst (.sc .un) K=some r):o.wp P a w (Out c Z K r e.φ w) Q:=by
 unfold Oper.wp
 rw [bH,Oper.upon_skip]
 obtain ⟨e2,dY,h1,h2,h3⟩:=dc (v:=undef) hs (by simp [oq,ab,b6]) hK
 exact ⟨e2,dY,h1,by rw [h3];exact ht,h2⟩
theorem Nf {e':Env} {bN:St} {w':World} {s:Slot} {v:Value} (hg:cZ w w') (bH:(execOp a.eval o).run P w= .ok (.value v) w') (hs:bK c Z e' bN a w')
 (ht:Trans Z e.φ w e'.φ w') (hv:oq Z e' w' bN v s) (hK:bj c bN o.dst s K=some r):o.wp P a w (fun a' w'=>cZ w w'∧Out c Z K r e.φ w a' w') Q:=by
 unfold Oper.wp
 rw [bH,Oper.upon_value]
 obtain ⟨e2,dY,h1,h2,h3⟩:=dc hs hv hK
 exact ⟨hg,e2,dY,h1,by rw [h3];exact ht,h2⟩
def Rd (P:Program) (c:Ctx) (Z:bw) {R:Type} (K:St→Option R) (r:R) (e:Env) (a:Act) (w:World) (o:Oper) (G:World→Prop):Prop:=
 ∃v,(∀w',G w'→(execOp a.eval o).run P w'= .ok (.value v) w')∧Out c Z K r e.φ w (a.put o.dst v) w
theorem Rd.wp {G:World→Prop} (h:Rd P c Z K r e a w o G) (hg:G w):o.wp P a w (Out c Z K r e.φ w) Q:=by
 obtain ⟨v,h1,h2⟩:=h
 unfold Oper.wp
 rw [h1 w hg,Oper.upon_value];exact h2
theorem Kn {G:World→Prop} {e':Env} {bN:St} {s:Slot} {v:Value} (bH: ∀w':World,G w'→(execOp a.eval o).run P w'= .ok (.value v) w') (hs:bK c Z e' bN a w)
 (ht:Trans Z e.φ w e'.φ w) (hv:oq Z e' w bN v s) (hK:bj c bN o.dst s K=some r):Rd P c Z K r e a w o G:=by
 obtain ⟨e2,dY,h1,h2,h3⟩:=dc hs hv hK
 exact ⟨v,bH,e2,dY,h1,by rw [h3];exact ht,h2⟩
theorem gO {s:Slot} {v:Value} (h:bK c Z e st a w) (bH: ∀w':World,(execOp a.eval o).run P w'= .ok (.value v) w') (hv:ab e v s) (hr:b6 st.fr s)
 (hK:bj c st o.dst s K=some r):Rd P c Z K r e a w o (fun _=>True):=
 Kn (fun w' _=>bH w') h (.refl _ _ _) (.of hv hr) hK
theorem Ay {v:Value} {x:Bool} (h:ab e v (.sc (.p (.b x)))):v= .bool x:=by
 simp only [ab,aN] at h
 obtain ⟨_,h⟩:=h
 generalize hv:[v]=vs at h
 cases h;simpa using hv
theorem kQ {v:Value} {k:IntKind} {n:Int} (h:ab e v (.sc (.p (.i k n)))):v= .int k n:=by
 simp only [ab,aN] at h
 obtain ⟨_,h⟩:=h
 generalize hv:[v]=vs at h
 cases h;simpa using hv
theorem B7 {v:Value} {l:List UInt8} (h:ab e v (.sc (.p (.s l)))): ∃b:ByteArray,v= .string b∧l=b.data.toList:=by
 simp only [ab,aN] at h
 obtain ⟨_,h⟩:=h
 generalize hv:[v]=vs at h
 cases h
 exact ⟨_,by simpa using hv,rfl⟩
theorem wJ (x:Bool):ab e (.bool x) (.sc (.p (.b x))):=by simp only [ab,aN];exact ⟨rfl,.b x⟩
theorem r8 (k:IntKind) (n:Int):ab e (.int k n) (.sc (.p (.i k n))):=by simp only [ab,aN];exact ⟨rfl,.i k n⟩
theorem To (b:ByteArray):ab e (.string b) (.sc (.p (.s b.data.toList))):=by simp only [ab,aN];exact ⟨rfl,.s b⟩
theorem th {v u:Value} (h:ab e v (.sc (.p (.raw u)))):v=u:=by
 simp only [ab,aN] at h
 obtain ⟨_,h⟩:=h
 generalize hv:[v]=vs at h
 cases h;simpa using hv
theorem B8 (u:Value) (h:u.oneCell'=true):ab e u (.sc (.p (.raw u))):=by simp only [ab,aN];exact ⟨rfl,.raw u h⟩
theorem GC {x:Operand} (ho:o.op= .move x∨o.op= .assign x) (h:bK c Z e st a w) (hK:bj c st o.dst (aJ c st x) K=some r):
 Rd P c Z K r e a w o (fun _=>True):=by
 obtain ⟨h1,h2⟩:=h.eval x
 refine gO h ?_ h1 h2 hK
 rcases ho with ho|ho<;>simp [execOp,ho]
theorem H9 {x:Operand} (ho:o.op= .nilCheck x) (h:bK c Z e st a w)
 (hK:WC (aJ c st x) (fun s=>bj c st o.dst s K)=some r):Rd P c Z K r e a w o (fun _=>True):=by
 obtain ⟨h1,h2⟩:=h.eval x
 unfold WC at hK
 split at hK
 ·rename_i iB
  rw [iB] at h1 h2
  refine gO h ?_ (v:=a.eval x) h1 h2 hK
  simp only [ab] at h1
  simp [execOp,ho,h1]
 ·rename_i iB
  rw [iB] at h1 h2
  refine gO h ?_ (v:=a.eval x) h1 h2 hK
  simp only [ab] at h1
  obtain ⟨aX,q,vs,Ef,h3⟩:=h1
  simp [execOp,ho,Ef]
 ·simp at hK
theorem Tp {x y z:Operand} (ho:o.op= .pick x y z) (h:bK c Z e st a w)
 (hK:Pq (aJ c st x) (aJ c st y) (aJ c st z) (fun s=>bj c st o.dst s K)=some r):Rd P c Z K r e a w o (fun _=>True):=by
 obtain ⟨hx,_⟩:=h.eval x
 obtain ⟨hy,hy2⟩:=h.eval y
 obtain ⟨hz,PQ⟩:=h.eval z
 have bH: ∀v,a.eval x= .bool v→ ∀w:World,(execOp a.eval o).run P w= .ok (.value (if v then a.eval y else a.eval z)) w:=by
  intro v hv w;simp [execOp,ho,hv,asBool]
 unfold Pq at hK
 split at hK
 ·rename_i v hv
  have hxv:=Ay (by rw [hv] at hx;exact hx)
  have hr:=bH v hxv
  split at hK
  ·rename_i p q hp hq
   rw [hp] at hy;rw [hq] at hz
   simp only [Ay hy,Ay hz] at hr
   refine gO h hr ?_ (s:= .sc (.p (.b (bif v then p else q)))) trivial hK
   cases v
   ·exact wJ q
   ·exact wJ p
  ·cases v
   ·exact gO h hr hz PQ hK
   ·exact gO h hr hy hy2 hK
 ·simp at hK
theorem Tq {op:UnOp} {ty:TypeId} {x:Operand} (ho:o.op= .unOp op ty x) (h:bK c Z e st a w)
 (hK:unK op (aJ c st x) (fun s=>bj c st o.dst s K)=some r):Rd P c Z K r e a w o (fun _=>True):=by
 obtain ⟨hx,_⟩:=h.eval x
 generalize aJ c st x=s at hx hK
 unfold unK at hK
 split at hK
 ·refine gO h ?_ (wJ _) trivial hK
  simp [execOp,ho,Ay hx,Op.unary]
 ·refine gO h ?_ (r8 _ _) trivial hK
  simp [execOp,ho,kQ hx,Op.unary,Op.intArith]
 ·simp at hK
end
end Dn
/-
  The type table; numbers, texts, places, loads. Conditions: none.
-/
set_option linter.unusedSimpArgs false
set_option linter.unusedVariables false
namespace Dn
open Go
def Bg:List Kd→Nat
 |[]=>0
 | .h::r=>32+Bg r
 |_::r=>1+Bg r
def pH (ti:Nat→Option TI) (P:Program) (I:TI) (z:Option Value):TypeDesc→Prop
 | .struct fs=>I.st=true∧I.cq=[]∧(0<I.size∧Bg I.lay=I.size)∧fs.toList.map (·.offset)=I.xv∧fs.toList.map (·.type)=I.M8∧
  (∀(k:Nat) (f:Field),fs[k]? =some f→ ∃J,ti f.type=some J∧J.cq=[]∧0<J.size)∧
  ∃cs,z=some (.agg cs)∧qK I.zero cs.toList=true∧cs.size=I.size
 | .tuple ts=>I.cq=ts.toList∧I.cq≠[]∧I.lay=[]∧I.st=false
 | .slice el=>I.st=false∧I.cq=[]∧I.size=1∧I.elem=el∧(∃E,ti el=some E∧E.cq=[]∧0<E.size)∧z=some (.slice none 0 0)∧I.zero=[.nil]∧(∃k,I.lay=[k]∧k= .l)
 | .array n el=>I.st=false∧I.cq=[]∧I.size=32∧n=32∧I.elem=el∧(∃i,P.underlying el=some (.int .u8)∧P.info? el=some i∧i.size=1)∧I.lay=[.h]∧I.zero=[.hs jV.zero]∧z=some (.agg (bh jV.zero).toArray)
 | .bool=>I.st=false∧I.cq=[]∧I.size=1∧I.lay=[.b]∧I.zero=[.p (.b false)]∧z=some (.bool false)
 | .int k=>I.st=false∧I.cq=[]∧I.size=1∧I.lay=[.i k]∧I.zero=[.p (.i k 0)]∧z=some (.int k 0)
 | .string=>I.st=false∧I.cq=[]∧I.size=1∧I.lay=[.s]∧I.zero=[.p (.s [])]∧ ∃b:ByteArray,z=some (.string b)∧b.data.toList=[]
 |_=>I.st=false∧I.cq=[]∧I.size=1∧I.lay=[.raw]∧ ∃v,z=some v∧v.oneCell'=true∧qK I.zero [v]=true
def mf (ti:Nat→Option TI) (P:Program) (t:Nat) (I:TI):Prop:=
 ∃d i,P.underlying t=some d∧P.info? t=some i∧(I.cq=[]→i.size=I.size∧i.bytes=I.bytes)∧pH ti P I i.zero d
def j6 (P:Program) (ti:Nat→Option TI):Prop:= ∀t I,ti t=some I→mf ti P t I
section
variable {P:Program} {c:Ctx} {Z:bw} {e:Env} {st:St} {a:Act} {w:World} {R:Type} {K:St→Option R} {r:R} {Q:Exit→Act→World→Prop} {o:Oper}
theorem dK {x:Bool} {k:Option R} (h:dv x k=some r):x=true∧k=some r:=by
 cases x
 ·simp [dv] at h
 ·exact ⟨rfl,h⟩
theorem nJ {α:Type} {x:Option α} {k:α→Option R} (h:bd x k=some r): ∃y,x=some y∧k y=some r:=by
 cases x with
 |none=>simp [bd] at h
 |some y=>exact ⟨y,rfl,h⟩
theorem Ia {l:List MV} {i:Int} {k:MV→Option R} (h:idx l i k=some r):0≤i∧ ∃y,l[i.toNat]? =some y∧k y=some r:=by
 unfold idx WA at h
 by_cases hi:0≤i
 ·simp only [hi,if_true] at h
  cases hl:l[i.toNat]? with
  |none=>simp [hl] at h
  |some y=>exact ⟨hi,y,rfl,by simpa [hl] using h⟩
 ·simp [hi] at h
theorem mf.agg {ti:Nat→Option TI} {t:Nat} {I:TI} (h:mf ti P t I) (hc:I.cq=[]):
 (∃d,P.underlying t=some d∧d.isRow=true∧(I.st=true∨I.st=false∧I.size=32))∨(∃d,P.underlying t=some d∧d.isRow=false∧I.st=false∧I.size=1):=by
 obtain ⟨d,i,h1,h2,h3,h4⟩:=h
 cases d<;>simp only [pH] at h4<;>first
  |exact .inl ⟨_,h1,rfl,.inl h4.1⟩
  |exact .inl ⟨_,h1,rfl,.inr ⟨h4.1,h4.2.2.1⟩⟩
  |exact .inr ⟨_,h1,rfl,h4.1,h4.2.2.1⟩
  |exact absurd hc h4.2.1
theorem mf.info {ti:Nat→Option TI} {t:Nat} {I:TI} (h:mf ti P t I) (hc:I.cq=[]):
 ∃i,P.info? t=some i∧i.size=I.size∧i.bytes=I.bytes:=by
 obtain ⟨d,i,h1,h2,h3,h4⟩:=h
 exact ⟨i,h2,h3 hc⟩
theorem bD {t:Nat} {I:TI} (h:c.tv t=some I):c.ti t=some I∧I.cq=[]:=by
 unfold Ctx.tv at h
 cases hc:c.ti t with
 |none=>simp [hc] at h
 |some J=>
  cases hj:J.cq with
  |nil=>simp [hc,hj] at h;subst h;exact ⟨rfl,hj⟩
  |cons x y=>simp [hc,hj] at h
theorem Ko {s t:TypeId} {x:Operand} {I:TI} (ho:o.op= .convert s t x) (hI:c.ti t=some I) (hT:j6 P c.ti) (hs: ∃d,P.underlying s=some d) {fk:Option FloatKind} (GD: ∀k,fk=some k→P.underlying t=some (.float k)) (h:bK c Z e st a w)
 (hK:Ps I fk (aJ c st x) (fun s=>bj c st o.dst s K)=some r):Rd P c Z K r e a w o (fun _=>True):=by
 obtain ⟨hx,_⟩:=h.eval x
 obtain ⟨ds,hds⟩:=hs
 obtain ⟨d,i,h1,h2,h3,h4⟩:=hT t I hI
 generalize aJ c st x=s' at hx hK
 unfold Ps at hK
 split at hK
 ·rename_i k k' n dH BJ hl
  have hd:d= .int k:=by
   cases d<;>simp only [pH,hl,dH,BJ] at h4<;>simp_all
  subst hd
  refine gO h ?_ (r8 _ _) trivial hK
  simp [execOp,ho,kQ hx,convert,run_underlying hds,run_underlying h1,Conv.intToInt]
 ·rename_i l dH BJ hl
  have hd:d= .string:=by
   cases d<;>simp only [pH,hl,dH,BJ] at h4<;>simp_all
  subst hd
  obtain ⟨b,hb,rfl⟩:=B7 hx
  refine gO h ?_ (To b) trivial hK
  simp [execOp,ho,hb,convert,run_underlying hds,run_underlying h1]
 ·rename_i k x dH BJ hl
  have hd:d= .int k:=by
   cases d<;>simp only [pH,hl,dH,BJ] at h4<;>simp_all
  subst hd
  obtain ⟨n,hn,hK⟩:=nJ hK
  obtain ⟨hr,hK⟩:=dK hK
  have hr:=of_decide_eq_true hr
  refine gO h ?_ (r8 _ _) trivial hK
  simp [execOp,ho,th hx,convert,run_underlying hds,run_underlying h1,Conv.floatToInt,hn,hr]
 ·rename_i k n dH BJ hl
  split at hK
  ·have Ef:=GD _ rfl
   refine gO h ?_ (B8 _ rfl) trivial hK
   simp [execOp,ho,kQ hx,convert,run_underlying hds,run_underlying Ef,Conv.intToFloat]
  ·simp at hK
 ·simp at hK
theorem Tr {op:BinOp} {k:IntKind} {x y:Int} {m:MV} {t:TypeId} (hm:LO op k x y=some m):
 ∃v,(∀w:World,(binOp op t (.int k x) (.int k y)).run P w= .ok v w)∧ab e v (.sc (.p m)):=by
 cases op<;>simp only [LO,Option.some.injEq,reduceCtorEq] at hm<;>subst hm
 ·exact ⟨_,by simp [binOp,Op.intArith],r8 _ _⟩
 ·exact ⟨_,by simp [binOp,Op.intArith],r8 _ _⟩
 ·exact ⟨_,by simp [binOp,Op.intArith],r8 _ _⟩
 ·refine ⟨.bool (decide (x=y)),fun w=> ?_,wJ _⟩;simp [binOp,Op.intCmp];rfl
 ·refine ⟨.bool (!decide (x=y)),fun w=> ?_,wJ _⟩;simp [binOp,Op.intCmp];rfl
 ·exact ⟨.bool (decide (x<y)),by simp [binOp,Op.intCmp],wJ _⟩
 ·exact ⟨.bool (decide (x≤y)),by simp [binOp,Op.intCmp],wJ _⟩
 ·exact ⟨.bool (decide (y<x)),by simp [binOp,Op.intCmp],wJ _⟩
 ·exact ⟨.bool (decide (y≤x)),by simp [binOp,Op.intCmp],wJ _⟩
theorem toList_data (b:ByteArray):b.toList=b.data.toList:=by
 exact ByteArray.toList_eq b
theorem Ts {op:BinOp} {x y:ByteArray} {m:MV} {t:TypeId} (hm:Gs op x.data.toList y.data.toList=some m):
 ∃v,(∀w:World,(binOp op t (.string x) (.string y)).run P w= .ok v w)∧ab e v (.sc (.p m)):=by
 have adE:(x.data.toList==y.data.toList)=decide (x.data.toList=y.data.toList):=by
  rw [Bool.eq_iff_iff];simp
 cases op<;>simp only [Gs,Option.some.injEq,reduceCtorEq] at hm<;>subst hm<;>
  exact ⟨_,fun w=>by simp only [binOp,Op.stringOp,toList_data,adE];rfl,wJ _⟩
theorem Ng (b:ByteArray) (n:Nat):b[n]? =b.data.toList[n]? :=by
 by_cases h:n<b.size
 ·have h2:n<b.data.toList.length:=by simpa using h
  rw [getElem?_pos b n h,List.getElem?_eq_getElem h2]
  rfl
 ·have h2: ¬n<b.data.toList.length:=by simpa using h
  rw [getElem?_neg b n h,List.getElem?_eq_none (by omega)]
theorem xD (x:jV) (n:Nat) (h:n<32):(bh x)[n]? =some (.int .u8 ((x.l.getD n 0).toNat:Int)):=by
 have hl:n<x.l.length:=by rw [x.h];exact h
 simp [bh,List.getElem?_map,List.getD,List.getElem?_eq_getElem hl]
theorem Zo {t:TypeId} {x y:Operand} {I:TI} (ho:o.op= .index t x y) (hI:c.ti t=some I) (hT:j6 P c.ti) (h:bK c Z e st a w)
 (hK:ixK I (aJ c st x) (aJ c st y) (fun s=>bj c st o.dst s K)=some r):Rd P c Z K r e a w o (fun _=>True):=by
 obtain ⟨hx,_⟩:=h.eval x
 obtain ⟨hy,_⟩:=h.eval y
 obtain ⟨d,i,h1,h2,h3,h4⟩:=hT t I hI
 generalize aJ c st x=sx at hx hK
 generalize aJ c st y=sy at hy hK
 unfold ixK at hK
 split at hK
 ·rename_i l k n dH hl
  have hd:d= .string:=by
   cases d<;>simp only [pH,hl,dH] at h4<;>simp_all
  subst hd
  cases hc:decide ((0:Int)≤n∧n<(l.length:Int)) with
  |false=>simp [dv,hc] at hK
  |true=>
   simp only [dv,hc] at hK
   obtain ⟨Tt,GF⟩:=of_decide_eq_true hc
   obtain ⟨b,hb,rfl⟩:=B7 hx
   have dx:n.toNat<b.data.toList.length:=by omega
   refine gO h ?_ (r8 .u8 ((b.data.toList.getD n.toNat 0).toNat:Int)) trivial hK
   have hg:b[n.toNat]? =some (b.data.toList.getD n.toNat 0):=by
    rw [Ng,List.getElem?_eq_getElem dx];simp [List.getD,List.getElem?_eq_getElem dx]
   simp [execOp,ho,hb,kQ hy,Instr.index,run_underlying h1,asIntOf,Tt,hg]
 ·rename_i b k n dH hl
  cases d<;>simp only [pH,hl,dH] at h4<;>first|(exfalso;simp_all;done)|skip
  rename_i len el
  cases hc:decide ((0:Int)≤n∧n<32) with
  |false=>simp [dv,hc] at hK
  |true=>
   simp only [dv,hc] at hK
   obtain ⟨Tt,GF⟩:=of_decide_eq_true hc
   simp only [ab] at hx
   obtain ⟨_,_,_,rfl,_,⟨ie,hu,na,uV⟩,_⟩:=h4
   refine gO h ?_ (r8 .u8 ((b.l.getD n.toNat 0).toNat:Int)) trivial hK
   have hg:=xD b n.toNat (by omega)
   have WR:(bh b).toArray[n.toNat]? =some (.int .u8 ((b.l.getD n.toNat 0).toNat:Int)):=by simpa using hg
   simp [execOp,ho,hx,kQ hy,Instr.index,run_underlying h1,asIntOf,Tt,GF,Go.part,isAgg,run_underlying hu,Go.sizeOf,typeInfo,na,uV,hg,WR]
 ·simp at hK
def Kp (P:Program) (ti:Nat→Option TI):Prop:= ∀t I,ti t=some I→I.cq=[]→ ∀(e:Env) (w:World) (vx vy:Value) (sx sy:Slot) (b:Bool),ab e vx sx→ab e vy sy→
 dX I.lay (aF sx)=true→dX I.lay (aF sy)=true→kV I.st sx=true→kV I.st sy=true→ia (aF sx) (aF sy)=some b→
 (∀k n k' n',sx= .sc (.p (.i k n))→sy= .sc (.p (.i k' n'))→False)→(∀l l',sx= .sc (.p (.s l))→sy= .sc (.p (.s l'))→False)→
 (Op.equal t vx vy).run P w= .ok b w∧ ∀(x y:Operand) (op:BinOp),(eqGuard op t x y vx vy).run P w= .ok () w∧(op= .eql→binOp op t vx vy=(do pure (.bool (←Op.equal t vx vy))))∧(op= .neq→binOp op t vx vy=(do pure (.bool (!(←Op.equal t vx vy)))))
theorem PR {op:BinOp} {t t':TypeId} {x y:Operand} (ho:o.op= .binOp op t x y t') (h:bK c Z e st a w)
 (hE:Kp P c.ti)
 (hK:WB (c.tv t) op (aJ c st x) (aJ c st y) (fun s=>bj c st o.dst s K)=some r):Rd P c Z K r e a w o (fun _=>True):=by
 obtain ⟨hx,_⟩:=h.eval x
 obtain ⟨hy,_⟩:=h.eval y
 generalize hsx:aJ c st x=sx at hx hK
 generalize hsy:aJ c st y=sy at hy hK
 have bH: ∀v,(∀w:World,(binOp op t (a.eval x) (a.eval y)).run P w= .ok v w)→(∀cs,a.eval x≠ .agg cs)→a.eval x≠ .nilIface→ ∀w:World,(execOp a.eval o).run P w= .ok (.value v) w:=by
  intro v hv hna hni w
  have hg:(eqGuard op t x y (a.eval x) (a.eval y)).run P w= .ok () w:=by
   generalize a.eval x=va at hna hni
   generalize a.eval y=vb
   have hm: ∀(u v:Value),u=va→(∀cs,u≠ .agg cs)→u≠ .nilIface→(eqGuard op t x y u v).run P w= .ok () w:=by
    intro u v _ h1 h2
    cases u<;>first
     |exact absurd rfl h2
     |exact absurd rfl (h1 _)
     |(cases op<;>rfl)
   exact hm va vb rfl hna hni
  simp [execOp,ho,hg,hv]
 unfold WB at hK
 split at hK
 ·rename_i k n k' n'
  have e1:=kQ hx
  have e2:=kQ hy
  split at hK
  ·cases hk:decide (k=k') with
   |false=>simp [hk] at hK
   |true=>
    have hk:=of_decide_eq_true hk
    subst hk
    simp only [decide_true,cond_true] at hK
    cases hz:decide (n'=0) with
    |true=>simp [dv,hz] at hK
    |false=>
     simp only [dv,hz,Bool.not_false] at hK
     have hz:=of_decide_eq_false hz
     refine gO h (bH _ ?_ (by simp [e1]) (by simp [e1])) (r8 _ _) trivial hK
     simp [binOp,e1,e2,Op.intDiv,hz]
  ·cases hk:decide (k=k') with
   |false=>simp [hk] at hK
   |true=>
    have hk:=of_decide_eq_true hk
    subst hk
    simp only [decide_true,cond_true] at hK
    cases hz:decide (n'=0) with
    |true=>simp [dv,hz] at hK
    |false=>
     simp only [dv,hz,Bool.not_false] at hK
     have hz:=of_decide_eq_false hz
     refine gO h (bH _ ?_ (by simp [e1]) (by simp [e1])) (r8 _ _) trivial hK
     simp [binOp,e1,e2,Op.intDiv,hz]
  ·cases hz:decide ((0:Int)≤n') with
   |false=>simp [dv,hz] at hK
   |true=>
    simp only [dv,hz] at hK
    have hz:=of_decide_eq_true hz
    refine gO h (bH _ ?_ (by simp [e1]) (by simp [e1])) (r8 _ _) trivial hK
    have: ¬n'<0:=by omega
    simp [binOp,e1,e2,Op.shift,this]
  ·cases hz:decide ((0:Int)≤n') with
   |false=>simp [dv,hz] at hK
   |true=>
    simp only [dv,hz] at hK
    have hz:=of_decide_eq_true hz
    refine gO h (bH _ ?_ (by simp [e1]) (by simp [e1])) (r8 _ _) trivial hK
    have: ¬n'<0:=by omega
    simp [binOp,e1,e2,Op.shift,this]
  ·cases hk:decide (k=k') with
   |false=>simp [hk] at hK
   |true=>
    have hk:=of_decide_eq_true hk
    subst hk
    simp only [decide_true,cond_true] at hK
    cases hm:LO op k n n' with
    |none=>simp [hm] at hK
    |some m=>
     simp only [hm] at hK
     obtain ⟨v,hv,hr⟩:=Tr (P:=P) (e:=e) (t:=t) hm
     exact gO h (bH v (by rw [e1,e2];exact hv) (by simp [e1]) (by simp [e1])) hr trivial hK
 ·rename_i l l'
  obtain ⟨b,hb,rfl⟩:=B7 hx
  obtain ⟨b',zE,rfl⟩:=B7 hy
  split at hK
  ·obtain ⟨hz,hK⟩:=dK hK
   ·have hz:=of_decide_eq_true hz
    have hr:ab e (.string (b++b')) (.sc (.p (.s (b.data.toList++b'.data.toList)))):=by
     have:=To (e:=e) (b++b')
     simpa [ByteArray.data_append] using this
    refine gO h (bH _ ?_ (by simp [hb]) (by simp [hb])) hr trivial hK
    have hs: ¬(((b.size+b'.size:Nat):Int)>IntKind.i64.max):=by
     have h1:b.size=b.data.toList.length:=by simp
     have h2:b'.size=b'.data.toList.length:=by simp
     have:IntKind.i64.max=9223372036854775807:=by decide
     rw [this];omega
    intro w
    simp only [binOp,hb,zE,Op.stringOp,hs,if_false]
    rfl
  ·cases hm:Gs op b.data.toList b'.data.toList with
   |none=>simp [hm] at hK
   |some m=>
    simp only [hm] at hK
    obtain ⟨v,hv,hr⟩:=Ts (P:=P) (e:=e) (t:=t) hm
    exact gO h (bH v (by rw [hb,zE];exact hv) (by simp [hb]) (by simp [hb])) hr trivial hK
 ·have e1:=th hx
  have e2:=th hy
  obtain ⟨r',YL,hK⟩:=nJ hK
  refine gO h (bH _ ?_ (by simp [e1]) (by simp [e1])) (B8 (.float .f64 r') rfl) trivial hK
  intro w
  cases op<;>simp only [Y9,reduceCtorEq] at YL<;>simp [binOp,e1,e2,Op.floatArith,YL]
 ·rename_i GF B9 hn3
  split at hK
  ·rename_i I hI
   obtain ⟨JV,LV⟩:=bD hI
   cases hf:dX I.lay (aF sx)&&dX I.lay (aF sy)&&(kV I.st sx&&kV I.st sy) with
   |false=>simp [hf] at hK
   |true=>
    simp only [hf,cond_true] at hK
    simp only [Bool.and_eq_true] at hf
    obtain ⟨hf,PS⟩:=hf
    split at hK
    ·cases hm:ia (aF sx) (aF sy) with
     |none=>simp [hm] at hK
     |some b=>
      simp only [hm] at hK
      refine gO h ?_ (wJ b) trivial hK
      intro w
      obtain ⟨h1,h2⟩:=hE t I JV LV e w _ _ sx sy b hx hy hf.1 hf.2 PS.1 PS.2 hm GF B9
      have:=(h2 x y .eql).1
      simp [execOp,ho,this,(h2 x y .eql).2.1 rfl,h1]
    ·cases hm:ia (aF sx) (aF sy) with
     |none=>simp [hm] at hK
     |some b=>
      simp only [hm] at hK
      refine gO h ?_ (wJ (!b)) trivial hK
      intro w
      obtain ⟨h1,h2⟩:=hE t I JV LV e w _ _ sx sy b hx hy hf.1 hf.2 PS.1 PS.2 hm GF B9
      have:=(h2 x y .neq).1
      simp [execOp,ho,this,(h2 x y .neq).2.2 rfl,h1]
    ·simp at hK
  ·simp at hK
end
end Dn
/-
  Lengths, parts, places, loads. Conditions: none.
-/
set_option linter.unusedSimpArgs false
set_option linter.unusedVariables false
namespace Dn
open Go
section
variable {P:Program} {c:Ctx} {Z:bw} {e:Env} {st:St} {a:Act} {w:World} {R:Type} {K:St→Option R} {r:R} {Q:Exit→Act→World→Prop} {o:Oper}
theorem cell_of {aX:Nat} {arr:Array Value} {T:TypeId} {fr:Nat×Nat} (h:w.heap[aX]? =some (.cells arr T fr)) (j:Nat):w.cell? ⟨aX,j,none⟩=arr[j]? :=by
 simp [World.cell?,h]
theorem my {t:TypeId} {I:TI} {aX off:Nat} {vs:List Value} (hr:mf c.ti P t I) (hc:I.cq=[]) (hl:vs.length=I.size) (hm:w.rangeAt aX off vs):
 ((I.st=true∨I.size=32)∧ ∀w:World,w.rangeAt aX off vs→(Instr.loadAt t (.pointer (some ⟨aX,off,none⟩))).run P w= .ok (.agg vs.toArray) w)∨
 (I.st=false∧ ∃v,vs=[v]∧ ∀w:World,w.rangeAt aX off vs→(Instr.loadAt t (.pointer (some ⟨aX,off,none⟩))).run P w= .ok v w):=by
 obtain ⟨i,hi,hs,_⟩:=hr.info hc
 rcases hr.agg hc with ⟨d,hu,hd,hh⟩|⟨d,hu,hd,h1,h2⟩
 ·refine .inl ⟨hh.imp id (·.2),fun w hm=> ?_⟩
  exact run_loadAt_mid w aX off t vs d hm hu hd (by simp [hi,hs,hl])
 ·refine .inr ⟨h1,?_⟩
  rw [h2] at hl
  obtain ⟨v,rfl⟩:=List.length_eq_one_iff.1 hl
  refine ⟨v,rfl,fun w hm=> ?_⟩
  have oV:w.cell? ⟨aX,off,none⟩=some v:=hm 0 v rfl
  have WS:(isAgg t).run P w= .ok false w:=by
   unfold isAgg
   rw [Sem.run_bind,run_underlying hu w]
   cases d<;>simp_all
  simp [Instr.loadAt,Instr.sureAddr,loadVar,WS,oV]
theorem aN.slot {vs:List Value} {l:aC} {v:Value} (h:aN e vs l) (hv:(vs=[v]∧l.w=1)∨(v= .agg vs.toArray∧l.w=32)):ab e v (.sc l):=by
 rcases hv with ⟨rfl,hw⟩|⟨rfl,hw⟩
 ·cases l<;>simp [ab,aC.w] at hw⊢ <;>exact h
 ·cases l<;>simp [aC.w] at hw
  simp only [ab]
  have:vs=bh _:=h
  rw [this]
theorem kF {t:TypeId} {I:TI} {cs:List aC} {aX base off:Nat} {vs:List Value} {s:Slot} {K':Slot→Option R} (hr:mf c.ti P t I) (hc:I.cq=[])
 (hv:aq e vs cs) (hm:w.rangeAt aX base vs) (hK:jd I cs off K'=some r):
 ∃v s,(∀w:World,w.rangeAt aX base vs→(Instr.loadAt t (.pointer (some ⟨aX,base+off,none⟩))).run P w= .ok v w)∧ab e v s∧b6 st.fr s∧K' s=some r:=by
 unfold jd at hK
 cases dH:I.st with
 |true=>
  simp only [dH,cond_true] at hK
  cases hp:Dn.part cs off I.size with
  |none=>simp [hp] at hK
  |some ds=>
   simp only [hp] at hK
   obtain ⟨v1,v2,v3,rfl,h1,h2,h3⟩:=E8 hp hv
   have LW: ∀w:World,w.rangeAt aX base (v1++v2++v3)→w.rangeAt aX (base+off) v2:=by
    intro w hm j v hj
    have O7:j<v2.length:=(List.getElem?_eq_some_iff.1 hj).1
    have:=hm (off+j) v (by rw [List.append_assoc,List.getElem?_append_right (by omega),List.getElem?_append_left (by omega)];rw [show off+j-v1.length=j by omega];exact hj)
    rwa [←Nat.add_assoc] at this
   rcases my hr hc h2 (LW w hm) with ⟨_,bH⟩|⟨hf,_⟩
   ·refine ⟨_,.ag ds,fun w hm=>bH w (LW w hm),?_,trivial,hK⟩
    simp only [ab]
    exact ⟨_,rfl,by simpa using h3⟩
   ·rw [dH] at hf;cases hf
 |false=>
  simp only [dH,cond_false] at hK
  cases hp:cut cs off with
  |none=>simp [hp] at hK
  |some ds=>
   cases ds with
   |nil=>simp [hp] at hK
   |cons l ls=>
    simp only [hp] at hK
    cases hb:Nat.beq l.w I.size with
    |false=>simp [hb] at hK
    |true=>
     simp only [hb,cond_true] at hK
     have hw:=Nat.eq_of_beq_eq_true hb
     obtain ⟨v1,v2,rfl,h1,h2⟩:=vc hp hv
     obtain ⟨u,u2,rfl,h3,h4⟩:=h2
     have LW: ∀w:World,w.rangeAt aX base (v1++(u++u2))→w.rangeAt aX (base+off) u:=by
      intro w hm j v hj
      have O7:j<u.length:=(List.getElem?_eq_some_iff.1 hj).1
      have:=hm (off+j) v (by rw [List.getElem?_append_right (by omega),List.getElem?_append_left (by omega)];rw [show off+j-v1.length=j by omega];exact hj)
      rwa [←Nat.add_assoc] at this
     rcases my hr hc (by rw [h3.width,hw]) (LW w hm) with ⟨hh,bH⟩|⟨_,v,Nh,bH⟩
     ·refine ⟨_,.sc l,fun w hm=>bH w (LW w hm),h3.slot (.inr ⟨rfl,?_⟩),trivial,hK⟩
      rcases hh with hh|hh
      ·rw [dH] at hh;cases hh
      ·rw [hw,hh]
     ·refine ⟨_,.sc l,fun w hm=>bH w (LW w hm),h3.slot (.inl ⟨Nh,?_⟩),trivial,hK⟩
      rw [←h3.width,Nh];rfl
theorem aS.at {key:Nat→Nat} {φ:Ph} {size:Nat} {xs:List MV}: ∀{cs:List Value} {i:Nat} {x:MV},aS key φ size cs xs→xs[i]? =some x→
 ∃a v b,cs=a++v++b∧a.length=i *size∧v.length=size∧kD key φ v x:=by
 induction xs with
 |nil=>intro cs i x _ hx;simp at hx
 |cons y ys ih=>
  intro cs i x h hx
  obtain ⟨v,q,rfl,hl,hr,he⟩:=h
  cases i with
  |zero=>simp at hx;subst hx;exact ⟨[],v,q,by simp,by simp,hl,hr⟩
  |succ i=>
   obtain ⟨a,u,b,rfl,h1,h2,h3⟩:=ih he (by simpa using hx)
   exact ⟨v++a,u,b,by simp,by simp [hl,h1,Nat.succ_mul,Nat.add_comm],h2,h3⟩
theorem fP.leaves {ms:List MV}: ∀{vs:List Value} {cs:List aC},fP e.key e.φ vs ms→bt cs=some ms→(∀m,aC.p m∈cs→m.one=true)→aq e vs cs:=by
 induction ms with
 |nil=>
  intro vs cs h hc _
  cases h
  cases cs with
  |nil=>rfl
  |cons l r=>
   cases hr:bt r<;>cases l<;>simp [bt,hr] at hc
 |cons m ms ih=>
  intro vs cs h hc ho
  cases cs with
  |nil=>simp [bt] at hc
  |cons l r=>
   generalize wK:vs=JW at h
   cases h with
   |cons v _ vs _ h1 h2=>
   subst wK
   cases hr:bt r with
   |none=>cases l<;>simp [bt,hr] at hc
   |some q=>
    have cc: ∀m,aC.p m∈r→m.one=true:=fun m hm=>ho m (by simp [hm])
    cases l<;>simp [bt,hr] at hc
    ·obtain ⟨rfl,rfl⟩:=hc
     exact ⟨v,vs,rfl,⟨ho _ (by simp),h1⟩,ih h2 hr cc⟩
    ·obtain ⟨rfl,rfl⟩:=hc
     refine ⟨v,vs,rfl,?_,ih h2 hr cc⟩
     generalize hv:v=v' at h1
     cases h1
     exact rfl
theorem kD.Ca {vs:List Value} {x:MV} {b:Bool} {cs:List aC} (h:kD e.key e.φ vs x) (hc:B0 b x cs):aq e vs cs:=by
 obtain ⟨⟨ms,h1,h2⟩,h3⟩:=hc
 cases b with
 |true=>
  cases ms<;>simp [rv] at h2<;>subst h2<;>(generalize hv:vs=v' at h;cases h;subst hv;rename_i hh;exact hh.leaves h1 h3)
 |false=>
  cases ms with
  |nil=>simp [rv] at h2
  |cons m ms=>
   cases ms with
   |cons y ys=>simp [rv] at h2
   |nil=>
    simp [rv] at h2
    subst h2
    have:fP e.key e.φ (vs++[]) [m]:= .cons vs m [] [] h .nil
    rw [List.append_nil] at this
    exact this.leaves h1 h3
theorem PT {t:TypeId} {x:Operand} {I:TI} {cs:List aC} {off:Nat} (ho:o.op= .load t x) (hI:c.tv t=some I) (hT:j6 P c.ti) (h:bK c Z e st a w) (Eg:aJ c st x= .rp cs off)
 (hK:jd I cs off (fun s=>bj c st o.dst s K)=some r):Rd P c Z K r e a w o (fun w'=> ∀b q v,e.φ b q=some v→w'.cell? ⟨b,q,none⟩=some v):=by
 obtain ⟨hx,nI⟩:=h.eval x
 obtain ⟨qw,hc⟩:=bD hI
 have hr:=hT t I qw
 rw [Eg] at hx
 simp only [ab] at hx
 obtain ⟨aX,q,vs,hx,oW,_,zF⟩:=hx
 have hm: ∀w':World,(∀b q v,e.φ b q=some v→w'.cell? ⟨b,q,none⟩=some v)→w'.rangeAt aX q vs:=by
  intro w' hi j v hj
  have O7:j<vs.length:=(List.getElem?_eq_some_iff.1 hj).1
  exact hi _ _ _ (by rw [zF j O7];exact hj)
 obtain ⟨v,s,h1,h2,h3,h4⟩:=kF (st:=st) (s:= .skip) hr hc oW (hm w h.mZ) hK
 refine Kn (fun w' hi=> ?_) h (.refl _ _ _) (.of h2 h3) h4
 simp [execOp,ho,hx,h1 w' (hm w' hi)]
theorem Tu {t:TypeId} {x:Operand} {I:TI} (ho:o.op= .load t x) (hI:c.tv t=some I) (hT:j6 P c.ti) (h:bK c Z e st a w)
 (hK:ldK st I (aJ c st x) (fun s=>bj c st o.dst s K)=some r):Rd P c Z K r e a w o (cZ w):=by
 obtain ⟨hx,nI⟩:=h.eval x
 obtain ⟨qw,hc⟩:=bD hI
 have hr:=hT t I qw
 have Tv: ∀v s,(∀w':World,cZ w w'→(Instr.loadAt t (a.eval x)).run P w'= .ok v w')→ab e v s→b6 st.fr s→bj c st o.dst s K=some r→Rd P c Z K r e a w o (cZ w):=by
  intro v s h1 h2 h3 h4
  refine Kn (fun w' hg=> ?_) h (.refl _ _ _) (.of h2 h3) h4
  simp [execOp,ho,h1 w' hg]
 have keep: ∀{w':World} {aX off:Nat} {vs:List Value},cZ w w'→w.rangeAt aX off vs→w'.rangeAt aX off vs:=by
  intro w' aX off vs hg hm j v hj
  exact hg.cell (hm j v hj)
 generalize aJ c st x=s at hx hK nI
 unfold ldK at hK
 split at hK
 ·rename_i root off
  simp only [ab] at hx
  have lO:=h.slot root
  split at hK
  ·rename_i cs qx
   rw [qx] at lO
   have uh:ee cs=false:=by cases hq:ee cs<;>simp_all
   simp only [uh,cond_false] at hK
   obtain ⟨_,rz⟩:=lO
   obtain ⟨arr,T,cB,oW⟩:=rz.cells uh
   have hm:w.rangeAt (e.B root) 0 arr.toList:=by
    intro j v hj
    rw [Nat.zero_add,cell_of cB];simpa using hj
   obtain ⟨v,s,h1,h2,h3,h4⟩:=kF (st:=st) (s:= .skip) hr hc oW hm hK
   rw [Nat.zero_add] at h1
   exact Tv v s (fun w' hg=>by rw [hx];exact h1 w' (keep hg hm)) h2 h3 h4
  ·simp at hK
 ·rename_i cs off
  simp only [ab] at hx
  obtain ⟨aX,q,vs,hx,oW,_,zF⟩:=hx
  have hm:w.rangeAt aX q vs:=by
   intro j v hj
   have O7:j<vs.length:=(List.getElem?_eq_some_iff.1 hj).1
   exact h.mZ _ _ _ (by rw [zF j O7];exact hj)
  obtain ⟨v,s,h1,h2,h3,h4⟩:=kF (st:=st) (s:= .skip) hr hc oW hm hK
  exact Tv v s (fun w' hg=>by rw [hx];exact h1 w' (keep hg hm)) h2 h3 h4
 ·rename_i f i off b cs
  cases hf:aE st.aL f with
  |none=>simp [hf] at hK
  |some o'=>
   simp only [hf] at hK
   simp only [ab] at hx
   obtain ⟨aX,cap,hE,⟨x,hxi,SX⟩,hx⟩:=hx o' (by rw [h.m];exact hf)
   obtain ⟨J,cells,hJ,VI,dk,gQ,_⟩:=(h.gY f o' hf).row
   obtain ⟨p1,v1,p2,rfl,BK,uU,ef⟩:=gQ.at hxi
   have oW:=ef.Ca SX
   rw [hE] at dk
   have oV:=dk.cells (g:=aX) rfl
   have hm:w.rangeAt aX (i *uZ cs) v1:=by
    intro j v hj
    have O7:j<v1.length:=(List.getElem?_eq_some_iff.1 hj).1
    have:=oV (i *J.size+j) v (by rw [List.append_assoc,List.getElem?_append_right (by omega),List.getElem?_append_left (by omega)];rw [show i *J.size+j-p1.length=j by omega];exact hj)
    rw [Addr.add_mid,Nat.zero_add] at this
    rw [←oW.width,uU];exact this
   obtain ⟨v,s,h1,h2,h3,h4⟩:=kF (st:=st) (s:= .skip) hr hc oW hm hK
   exact Tv v s (fun w' hg=>by rw [hx];exact h1 w' (keep hg hm)) h2 h3 h4
 ·rename_i root off i
  simp only [ab] at hx
  obtain ⟨hx,Kq⟩:=hx
  have lO:=h.slot root
  cases hb:I.st||!Nat.beq I.size 1 with
  |true=>simp [hb] at hK
  |false=>
   simp only [hb,cond_false] at hK
   simp only [Bool.or_eq_false_iff,Bool.not_eq_false'] at hb
   have pI:=Nat.eq_of_beq_eq_true hb.2
   split at hK
   ·rename_i cs qx
    rw [qx] at lO
    have uh:ee cs=false:=by cases hq:ee cs<;>simp_all
    simp only [uh,cond_false] at hK
    obtain ⟨_,rz⟩:=lO
    obtain ⟨arr,T,cB,oW⟩:=rz.cells uh
    split at hK
    ·rename_i b ls WT
     obtain ⟨v1,v2,adF,h1,h2⟩:=vc WT oW
     obtain ⟨u,u2,rfl,h3,h4⟩:=h2
     have h3:u=bh b:=h3
     subst h3
     have hg:=xD b i Kq
     have hlen:=cu b
     have hm:w.rangeAt (e.B root) (off+i) [.int .u8 ((b.l.getD i 0).toNat:Int)]:=by
      intro j v hj
      cases j with
      |succ j=>simp at hj
      |zero=>
       simp at hj
       rw [Nat.add_zero,cell_of cB]
       have:arr[off+i]? =arr.toList[off+i]? :=by simp
       rw [this,adF,List.getElem?_append_right (by omega),List.getElem?_append_left (by omega),show off+i-v1.length=i by omega,hg,←hj]
       simp [List.getD]
     rcases my hr hc (by simp [pI]) hm with ⟨hh,_⟩|⟨_,v,Nh,bH⟩
     ·rcases hh with hh|hh
      ·rw [hb.1] at hh;cases hh
      ·omega
     ·simp at Nh
      subst Nh
      exact Tv _ _ (fun w' hg=>by rw [hx];exact bH w' (keep hg hm)) (r8 _ _) trivial hK
    ·simp at hK
   ·simp at hK
 ·simp at hK
theorem Ni {t:TypeId} {x:Operand} {f:Nat} {I:TI} (ho:o.op= .fieldAddr t x f) (hI:c.tv t=some I) (hT:j6 P c.ti) (h:bK c Z e st a w)
 (hK:Pt st I f (aJ c st x) (fun s=>bj c st o.dst s K)=some r):Rd P c Z K r e a w o (fun _=>True):=by
 obtain ⟨hx,nI⟩:=h.eval x
 obtain ⟨qw,hc⟩:=bD hI
 obtain ⟨d,i,h1,h2,h3,h4⟩:=hT t I qw
 have key: ∀q aX off,I.st=true→I.xv[f]? =some q→a.eval x= .pointer (some ⟨aX,off,none⟩)→
  ∀w:World,(execOp a.eval o).run P w= .ok (.value (.pointer (some ⟨aX,off+q,none⟩))) w:=by
  intro q aX off dH hq hv w
  cases d<;>simp only [pH] at h4
  case struct fs=>
   obtain ⟨_,_,_,VJ,cc,O8,_⟩:=h4
   rw [←VJ,List.getElem?_map] at hq
   cases hf:fs.toList[f]? with
   |none=>simp [hf] at hq
   |some fl=>
    simp [hf] at hq
    subst hq
    have LX:fs[f]? =some fl:=by simpa using hf
    obtain ⟨J,hJ,VI,hJs⟩:=O8 f fl LX
    obtain ⟨ij,O9,hs,_⟩:=(hT _ _ hJ).info VI
    have hz:ij.size≠0:=by omega
    simp [execOp,ho,hv,Instr.fieldAt,run_underlying h1,LX,Instr.sureAddr,fieldPlace,Go.sizeOf,typeInfo,O9,hz,Addr.add_mid]
  all_goals (exfalso;simp_all)
 generalize aJ c st x=s at hx hK nI
 unfold Pt at hK
 split at hK
 ·rename_i q r' o' dH hq
  simp only [ab] at hx
  refine gO (s:= .ptr r' (o'+q)) h (key q _ _ dH hq hx) ?_ nI hK
  simp only [ab]
 ·rename_i q cs o' dH hq
  simp only [ab] at hx
  obtain ⟨aX,b,vs,hx,hh⟩:=hx
  refine gO (s:= .rp cs (o'+q)) h (key q _ _ dH hq hx) ?_ trivial hK
  simp only [ab]
  exact ⟨aX,b,vs,by rw [Nat.add_assoc],hh⟩
 ·rename_i q g i' o' b cs dH hq
  cases hf:aE st.aL g with
  |none=>simp [hf] at hK
  |some w'=>
   simp only [hf] at hK
   simp only [ab] at hx
   obtain ⟨aX,cap,h5,h6,h7⟩:=hx w' (by rw [h.m];exact hf)
   refine gO (s:= .ep g i' (o'+q) b cs) h (key q _ _ dH hq h7) ?_ trivial hK
   simp only [ab]
   intro o2 cc
   rw [h.m,hf] at cc
   cases cc
   exact ⟨aX,cap,h5,h6,by rw [Nat.add_assoc]⟩
 ·simp at hK
theorem WU {x:Operand} {k:Nat} (ho:o.op= .extract x k) (h:bK c Z e st a w)
 (hK:WH (aJ c st x) k (fun s=>bj c st o.dst s K)=some r):Rd P c Z K r e a w o (fun _=>True):=by
 obtain ⟨hx,nI⟩:=h.eval x
 generalize aJ c st x=s at hx hK
 unfold WH at hK
 split at hK
 ·rename_i vs
  simp only [ab] at hx
  obtain ⟨arr,hv,hs⟩:=hx
  cases hk:vs[k]? with
  |none=>simp [hk] at hK
  |some s=>
   simp only [hk] at hK
   have: ∀(k:Nat) (vs:List Slot) (l:List Value),je e l vs→vs[k]? =some s→ ∃v,l[k]? =some v∧ab e v s∧xa s=true:=by
    intro k
    induction k with
    |zero=>
     intro vs l hl hk
     cases vs with
     |nil=>simp at hk
     |cons y ys=>
      simp at hk
      subst hk
      simp only [je] at hl
      obtain ⟨v,q,rfl,h1,h2,_⟩:=hl
      exact ⟨v,rfl,h1,h2⟩
    |succ k ih=>
     intro vs l hl hk
     cases vs with
     |nil=>simp at hk
     |cons y ys=>
      simp only [je] at hl
      obtain ⟨v,q,rfl,_,_,h3⟩:=hl
      obtain ⟨u,h4,h5⟩:=ih ys q h3 (by simpa using hk)
      exact ⟨u,by simpa using h4,h5⟩
   obtain ⟨v,SY,h1,h2⟩:=this k vs arr.toList hs hk
   have Zp:arr[k]? =some v:=by simpa using SY
   refine gO h ?_ h1 ?_ hK
   ·simp [execOp,ho,hv,Instr.extract,Zp]
   ·cases s<;>simp [xa] at h2<;>trivial
 ·simp at hK
end
end Dn
/-
  Operations that make memory: variables. Conditions: none.
-/
set_option linter.unusedSimpArgs false
set_option linter.unusedVariables false
namespace Dn
open Go
section
variable {P:Program} {c:Ctx} {Z:bw} {e:Env} {st:St} {a:Act} {w w':World} {R:Type} {K:St→Option R} {r:R} {Q:Exit→Act→World→Prop} {o:Oper}
theorem cZ.refl (w:World):cZ w w:=⟨Nat.le_refl _,fun _ _=>rfl,.refl _⟩
theorem cZ.alloc (w:World) (cs:Array Value) (t:TypeId):cZ w (w.alloc (.cells cs t)):=⟨by simp,fun b hb=>ym w _ b hb,.alloc w cs t⟩
theorem cZ.adG (g:cZ w w') {base:Nat} {t:TypeId} {size:Nat} {v:Value} {n:Nat} {xs:List Value} (h:w.ownsRow base t size v n xs):w'.ownsRow base t size v n xs:=by
 refine ⟨h.1,?_⟩
 rcases h.2 with h|⟨b,cap,cM,h1,h2,h3,h4⟩
 ·exact .inl h
 ·exact .inr ⟨b,cap,cM,h1,h2,by rw [g.zv b (bm h3)];exact h3,h4⟩
theorem qL.grow (g:cZ w w') {aX:Nat} {cs:List aC} (h:qL Z e w aX cs):qL Z e w' aX cs:=by
 obtain ⟨o,h1,h2⟩:=h.obj
 exact ⟨h.b3,⟨o,by rw [g.zv _ (bm h1)];exact h1,h2⟩,h.free⟩
theorem cF.grow (g:cZ w w') {v:Value} {f:mr} (h:cF c Z e w v f):cF c Z e w' v f:=by
 obtain ⟨I,cells,h1,h2,h3,h4,h5⟩:=h.row
 exact ⟨I,cells,h1,h2,g.adG h3,h4,h5⟩
theorem bK.grow (g:cZ w w') (h:bK c Z e st a w):bK c Z e st a w':=by
 refine ⟨h.defers,h.size,h.m,h.key,h.nodup,?_,h.root,fun f o ho=>(h.gY f o ho).grow g,h.bb,h.bf,h.ff,fun b o v hv=>g.cell (h.mZ b o v hv),fun b hb=>h.b3 b (Nat.le_trans g.size hb)⟩
 intro t
 have hs:=h.slot t
 generalize aj st.fr t=s at hs
 cases s<;>simp only [bI] at hs⊢ <;>first|exact hs|exact ⟨hs.1,hs.2.grow g⟩
theorem cZ.trans (g:cZ w w') (hz: ∀b,w.heap.size≤b→Z b) (φ:Ph):Trans Z φ w φ w':=
 ⟨.refl φ,fun b _ hl=>g.zv b hl,fun _ _ _=>rfl,g.size,g.rest⟩
theorem Nj {l:aC} {vs:List Value} (h:PI l vs=true):aN e vs l:=by
 unfold PI at h
 split at h
 ·simp at h;subst h;exact ⟨rfl,.b _⟩
 ·simp at h;obtain ⟨rfl,rfl⟩:=h;exact ⟨rfl,.i _ _⟩
 ·simp at h;subst h;exact ⟨rfl,.s _⟩
 ·split at h
  ·exact ⟨rfl,.raw _ rfl⟩
  ·exact ⟨rfl,.raw _ rfl⟩
  ·exact ⟨rfl,.raw _ rfl⟩
  ·simp at h
 ·rfl
 ·exact ⟨_,rfl,h⟩
 ·rename_i x
  simp only [Bool.and_eq_true,beq_iff_eq] at h
  obtain ⟨h1,h2⟩:=h
  show vs=bh x
  apply List.ext_getElem?
  intro j
  by_cases hj:j<32
  ·rw [xD x j hj]
   have hjv:j<vs.length:=by omega
   have Eh:j<x.l.length:=by rw [x.h];exact hj
   rw [List.all_eq_true] at h2
   have hm:(vs[j],x.l[j])∈vs.zip x.l:=List.mem_iff_getElem.2 ⟨j,by simp;omega,by simp⟩
   have:=h2 _ hm
   rw [List.getElem?_eq_getElem hjv]
   dsimp only at this
   split at this
   ·rename_i n hn
    rw [hn,of_decide_eq_true this]
    simp [List.getD,List.getElem?_eq_getElem Eh]
   ·simp at this
  ·rw [List.getElem?_eq_none (by omega),List.getElem?_eq_none (by rw [cu];omega)]
 ·simp at h
theorem j7 {ls:List aC}: ∀{vs:List Value},qK ls vs=true→aq e vs ls:=by
 induction ls with
 |nil=>intro vs h;simpa [qK,aq] using h
 |cons l r ih=>
  intro vs h
  simp only [qK,Bool.and_eq_true] at h
  exact ⟨vs.take l.w,vs.drop l.w,by simp,Nj h.1.1,ih h.1.2⟩
theorem aq.ve {cs:List aC} {vs:List Value} (h:aq e vs cs):ee cs=false:=by
 cases hm:ee cs with
 |false=>rfl
 |true=>obtain ⟨s,ms,rfl⟩:=GA hm;obtain ⟨_,_,_,h1,_⟩:=h;exact h1.elim
theorem Cb (h:bK c Z e st a w) (off:Nat):e.φ w.heap.size off=none:=by
 cases hp:e.φ w.heap.size off with
 |none=>rfl
 |some v=>
  have:=World.block_lt_of_cell? w _ (h.mZ _ _ _ hp)
  simp at this
theorem vY (h:bK c Z e st a w):(∀t eR,aj st.fr t= .box eR→e.B t≠w.heap.size)∧(∀f o,aE st.aL f=some o→(e.E f).ownBlock≠some w.heap.size):=by
 refine ⟨?_,?_⟩
 ·intro t eR ht
  have hs:=h.slot t
  rw [ht] at hs
  obtain ⟨o,h1,_⟩:=hs.2.obj
  have:=bm h1
  omega
 ·intro f o ho hk
  obtain ⟨I,cells,h1,h2,h3,h4,h5⟩:=(h.gY f o ho).row
  rcases h3.2 with ⟨hv,_⟩|⟨g,cap,cM,hv,_,hg,_⟩
  ·rw [hv] at hk;simp [Value.ownBlock] at hk
  ·rw [hv] at hk
   simp only [Value.ownBlock,Option.some.injEq] at hk
   have:=bm hg
   omega
theorem LY {cells:Array Value} {T:TypeId} {cs:List aC} (h:bK c Z e st a w) (hl:aq e cells.toList cs):
 oq Z e (w.alloc (.cells cells T)) st (.pointer (some ⟨w.heap.size,0,none⟩)) (.box cs):=by
 exact ⟨w.heap.size,by rw [tg hl.ve],⟨h.b3 _ (Nat.le_refl _),⟨_,jF w _,rfl,hl⟩,Cb h⟩,(vY h).1,(vY h).2⟩
theorem PU {t:TypeId} {I:TI} (ho:o.op= .alloc t) (hI:c.tv t=some I) (hT:j6 P c.ti) (h:bK c Z e st a w)
 (hK:bj c st o.dst (.box I.zero) K=some r):o.wp P a w (fun a' w'=>cZ w w'∧Out c Z K r e.φ w a' w') Q:=by
 obtain ⟨qw,hc⟩:=bD hI
 obtain ⟨d,i,h1,h2,h3,h4⟩:=hT t I qw
 have hz: ∃z,i.zero=some z∧aq e z.cells.toList I.zero:=by
  cases d<;>simp only [pH] at h4
  case struct fs=>obtain ⟨_,_,_,_,_,_,cs,hz,hl,_⟩:=h4;exact ⟨_,hz,by simpa [Value.cells] using j7 hl⟩
  case tuple ts=>exact absurd hc h4.2.1
  case slice el=>obtain ⟨_,_,_,_,_,hz,hl,_⟩:=h4;exact ⟨_,hz,by rw [hl];exact ⟨[.slice none 0 0],[],rfl,rfl,rfl⟩⟩
  case array n el=>obtain ⟨_,_,_,_,_,_,_,hl,hz⟩:=h4;exact ⟨_,hz,by rw [hl];exact ⟨bh jV.zero,[],by simp [Value.cells],rfl,rfl⟩⟩
  case bool=>obtain ⟨_,_,_,_,hl,hz⟩:=h4;exact ⟨_,hz,by rw [hl];exact ⟨[.bool false],[],rfl,⟨rfl,.b _⟩,rfl⟩⟩
  case int k=>obtain ⟨_,_,_,_,hl,hz⟩:=h4;exact ⟨_,hz,by rw [hl];exact ⟨[.int k 0],[],rfl,⟨rfl,.i _ _⟩,rfl⟩⟩
  case string=>
   obtain ⟨_,_,_,_,hl,b,hz,hb⟩:=h4
   refine ⟨_,hz,by rw [hl];refine ⟨[.string b],[],rfl,⟨rfl,?_⟩,rfl⟩;rw [←hb];exact .s b⟩
  all_goals
   obtain ⟨_,_,_,_,v,hz,hv,hl⟩:=h4
   refine ⟨v,hz,?_⟩
   have:v.cells.toList=[v]:=by cases v<;>simp_all [Value.cells,Value.oneCell']
   rw [this];exact j7 hl
 obtain ⟨z,hz,hl⟩:=hz
 have bH:(execOp a.eval o).run P w= .ok (.value (.pointer (some ⟨w.heap.size,0,none⟩))) (w.alloc (.cells z.cells t)):=by
  simp [execOp,ho,Instr.alloc,zeroValue,typeInfo,h2,hz,newVar,newRow,newObj,Sem.run]
 exact Nf (.alloc w _ _) bH (h.grow (.alloc w _ _)) ((cZ.alloc w _ _).trans h.b3 _) (LY h hl) hK
theorem WV {t:TypeId} {x:Operand} {I:TI} (ho:o.op= .box t x) (h:bK c Z e st a w)
 (hK:WD I (aJ c st x) (fun s=>bj c st o.dst s K)=some r):o.wp P a w (fun a' w'=>cZ w w'∧Out c Z K r e.φ w a' w') Q:=by
 obtain ⟨hx,nI⟩:=h.eval x
 have bH:(execOp a.eval o).run P w= .ok (.value (.pointer (some ⟨w.heap.size,0,none⟩))) (w.alloc (.cells (a.eval x).cells t)):=by
  simp [execOp,ho,Instr.box,newVar,newRow,newObj,Sem.run]
 have go: ∀cs,aq e (a.eval x).cells.toList cs→bj c st o.dst (.box cs) K=some r→o.wp P a w (fun a' w'=>cZ w w'∧Out c Z K r e.φ w a' w') Q:=
  fun cs h1 h2=>Nf (.alloc w _ _) bH (h.grow (.alloc w _ _)) ((cZ.alloc w _ _).trans h.b3 _) (LY h h1) h2
 generalize aJ c st x=s at hx hK nI
 unfold WD at hK
 split at hK
 ·rename_i l
  cases hb:I.st||HW l||!Nat.beq l.w I.size with
  |true=>simp [hb] at hK
  |false=>
   simp only [hb,cond_false] at hK
   refine go [l] ?_ hK
   cases l with
   |un=>simp [HW] at hb
   |hs y=>
    simp only [ab] at hx
    rw [hx]
    exact ⟨bh y,[],by simp [Value.cells],rfl,rfl⟩
   |p m=>
    simp only [ab] at hx
    have:(a.eval x).cells.toList=[a.eval x]:=by
     have:=hx.cells (a.eval x) (by simp)
     generalize a.eval x=v at this
     cases v<;>simp_all [Value.cells,Value.oneCell']
    rw [this];exact ⟨_,[],rfl,hx,rfl⟩
   |nil=>
    simp only [ab] at hx
    have Nk:[a.eval x]=[Value.slice none 0 0]:=hx
    simp at Nk
    rw [Nk];exact ⟨[.slice none 0 0],[],rfl,rfl,rfl⟩
   |mp s es=>simp [HW] at hb
   |own f=>
    simp only [ab] at hx
    have:(a.eval x).cells.toList=[a.eval x]:=by
     have:=hx.cells (a.eval x) (by simp)
     generalize a.eval x=v at this
     cases v<;>simp_all [Value.cells,Value.oneCell']
    rw [this];exact ⟨_,[],rfl,hx,rfl⟩
 ·rename_i cs
  cases hb:I.st&&!r6 cs&&Nat.beq (uZ cs) I.size with
  |false=>simp [hb] at hK
  |true=>
   simp only [hb,cond_true] at hK
   simp only [ab] at hx
   obtain ⟨arr,hx,hl⟩:=hx
   exact go cs (by rw [hx];exact hl) hK
 ·simp at hK
end
end Dn
/-
  Stores into variables. Conditions: none.
-/
set_option linter.unusedSimpArgs false
set_option linter.unusedVariables false
namespace Dn
open Go
section
variable {P:Program} {c:Ctx} {Z:bw} {e:Env} {st:St} {a:Act} {w w':World} {R:Type} {K:St→Option R} {r:R} {Q:Exit→Act→World→Prop} {o:Oper}
theorem setRow_size (w:World) (g:Nat) (cs:Array Value):(w.setRow g cs).heap.size=w.heap.size:=by simp [World.setRow]
structure Pa (g:Nat) (w w':World):Prop where
 size:w'.heap.size=w.heap.size
 other: ∀b,b≠g→w'.heap[b]? =w.heap[b]?
 rest:Rest w w'
theorem Pa.setRow (w:World) (g:Nat) (cs:Array Value):Pa g w (w.setRow g cs):=⟨setRow_size _ _ _,fun b hb=>setRow_other _ _ _ _ hb,.setRow _ _ _⟩
theorem Ib {g:Nat} (hc:Pa g w w') {base:Nat} {t:TypeId} {size:Nat} {v:Value} {n:Nat} {xs:List Value} (cG:v.ownBlock≠some g)
 (h:w.ownsRow base t size v n xs):w'.ownsRow base t size v n xs:=by
 refine ⟨h.1,?_⟩
 rcases h.2 with h|⟨b,cap,cM,h1,h2,h3,h4⟩
 ·exact .inl h
 ·refine .inr ⟨b,cap,cM,h1,h2,?_,h4⟩
  rw [hc.other _ (by intro e;subst e;subst h1;exact cG rfl)];exact h3
theorem Kr {g:Nat} {cs:Array Value} {base:Nat} {t:TypeId} {size:Nat} {v:Value} {n:Nat} {xs:List Value} (cG:v.ownBlock≠some g)
 (h:w.ownsRow base t size v n xs):(w.setRow g cs).ownsRow base t size v n xs:=Ib (.setRow w g cs) cG h
theorem bK.setObj {root:Nat} {cs eR:List aC} {o':Obj} {np:Fr} (h:bK c Z e st a w) (hf:aj st.fr root= .box cs)
 (HO:Pa (e.B root) w w') (jX:w'.heap[e.B root]? =some o') (hl:iK e o' eR) (YM:jY eR=jY cs) (Ic: ∀t,aj np t=if t=root then .box eR else aj st.fr t)
 (hnd:(aK np).Nodup):bK c Z e {st with fr:=np} a w':=by
 have pI:=HO.size
 have jH:=h.slot root
 rw [hf] at jH
 refine ⟨h.defers,h.size,h.m,h.key,hnd,?_,?_,?_,?_,?_,h.ff,?_,fun b hb=>h.b3 b (by omega)⟩
 ·intro t
  show bI Z e _ t _ (aj np t)
  rw [Ic]
  by_cases ht:t=root
  ·subst ht
   simp only [if_true,bI]
   exact ⟨jH.1.jY YM,⟨jH.2.b3,⟨o',jX,hl⟩,jH.2.free⟩⟩
  ·simp only [ht,if_false]
   have hs:=h.slot t
   have zw:=h.bb t root
   generalize hg:aj st.fr t=s at hs zw
   cases s<;>simp only [bI] at hs⊢ <;>try exact hs
   rename_i vX
   refine ⟨hs.1,hs.2.b3,?_,hs.2.free⟩
   obtain ⟨o2,h1,h2⟩:=hs.2.obj
   exact ⟨o2,by rw [HO.other _ (zw vX cs rfl hf ht)];exact h1,h2⟩
 ·intro t
  show b6 np (aj np t)
  rw [Ic]
  by_cases ht:t=root
  ·simp [ht,b6]
  ·simp only [ht,if_false]
   have hr:=h.root t
   generalize aj st.fr t=s at hr
   cases s<;>simp only [b6] at hr⊢ <;>(rw [Ic];split<;>simp_all [cr])
 ·intro f o ho
  obtain ⟨I,cells,h1,h2,h3,h4,h5⟩:=(h.gY f o ho).row
  exact ⟨I,cells,h1,h2,Ib HO (h.bf root cs f o hf ho) h3,h4,h5⟩
 ·intro t t' c1 c2 h1 h2 cG
  have h1:aj np t= .box c1:=h1
  have h2:aj np t'= .box c2:=h2
  rw [Ic] at h1 h2
  by_cases ht:t=root
  ·by_cases xC:t'=root
   ·exact absurd (ht.trans xC.symm) cG
   ·simp only [xC,if_false] at h2;rw [ht];exact h.bb root t' cs c2 hf h2 (by rw [←ht];exact cG)
  ·simp only [ht,if_false] at h1
   by_cases xC:t'=root
   ·rw [xC];exact h.bb t root c1 cs h1 hf ht
   ·simp only [xC,if_false] at h2;exact h.bb t t' c1 c2 h1 h2 cG
 ·intro t c1 f o h1 h2
  have h1:aj np t= .box c1:=h1
  rw [Ic] at h1
  by_cases ht:t=root
  ·rw [ht];exact h.bf root cs f o hf h2
  ·simp only [ht,if_false] at h1;exact h.bf t c1 f o h1 h2
 ·intro b o v hv
  have cG:b≠e.B root:=by intro eb;subst eb;rw [jH.2.free] at hv;cases hv
  have:=h.mZ b o v hv
  rw [World.cell?_of_block (HO.other _ cG)];exact this
theorem bK.PV {root:Nat} {cs eR:List aC} {arr Er:Array Value} {T:TypeId} {np:Fr} (h:bK c Z e st a w) (hf:aj st.fr root= .box cs)
 (cB:w.heap[e.B root]? =some (.cells arr T (0,0))) (hl:aq e Er.toList eR) (Ic: ∀t,aj np t=if t=root then .box eR else aj st.fr t)
 (hnd:(aK np).Nodup):bK c Z e {st with fr:=np} a (w.setRow (e.B root) Er):=by
 have jH:=h.slot root
 rw [hf] at jH
 have hm:ee cs=false:=by
  obtain ⟨o,h1,h2⟩:=jH.2.obj
  rw [cB] at h1;cases h1
  exact h2.2.ve
 exact h.setObj hf (.setRow _ _ _) (setRow_heap _ _ _ _ _ _ cB) ⟨rfl,hl⟩ (by rw [tf hm,tf hl.ve]) Ic hnd
theorem Trans.chg {g:Nat} (φ:Ph) (HO:Pa g w w') (hz:Z g):Trans Z φ w φ w':=
 ⟨.refl φ,fun b hb _=>HO.other _ (by intro e;subst e;exact hb hz),fun _ _ _=>rfl,by rw [HO.size];exact Nat.le_refl _,HO.rest⟩
theorem Trans.setRow {g:Nat} {Er:Array Value} (φ:Ph) (hz:Z g):Trans Z φ w φ (w.setRow g Er):=
 ⟨.refl φ,fun b hb _=>setRow_other _ _ _ _ (by intro e;subst e;exact hb hz),fun _ _ _=>rfl,by rw [setRow_size];exact Nat.le_refl _,.setRow _ _ _⟩
theorem xc {v:Value} {s:Slot} (h:ab e v s) (hu:r6 (aF s)=false) (cG:aF s≠[]):aq e v.cells.toList (aF s):=by
 cases s with
 |sc l=>
  simp only [aF] at hu⊢
  have gU: ∀l,aN e [v] l→aq e v.cells.toList [l]:=by
   intro l hl
   have hc:=hl.cells v (by simp)
   have:v.cells.toList=[v]:=by cases v<;>simp_all [Value.cells,Value.oneCell']
   rw [this];exact ⟨[v],[],rfl,hl,rfl⟩
  cases l with
  |un=>simp [r6,HW] at hu
  |hs x=>simp only [ab] at h;rw [h];exact ⟨bh x,[],by simp [Value.cells],rfl,rfl⟩
  |p m=>simp only [ab] at h;exact gU _ h
  |nil=>simp only [ab] at h;exact gU _ h
  |mp s es=>simp [r6,HW] at hu
  |own f=>simp only [ab] at h;exact gU _ h
 |ag cs=>simp only [ab] at h;obtain ⟨arr,rfl,hl⟩:=h;exact hl
 |_=>exact absurd rfl cG
theorem lC {t:TypeId} {I:TI} {aX off:Nat} {v:Value} {arr:Array Value} {T:TypeId} (hr:mf c.ti P t I) (hc:I.cq=[]) (hs:v.cells.toList.length=I.size)
 (gU: ∀u∈v.cells.toList,u.oneCell'=true) (cB:w.heap[aX]? =some (.cells arr T (0,0))) (vf:off+I.size≤arr.size):
 (Instr.storeAt t (.pointer (some ⟨aX,off,none⟩)) v).run P w= .ok () (w.setRow aX (arr.toList.take off++v.cells.toList++arr.toList.drop (off+I.size)).toArray):=by
 obtain ⟨i,hi,pI,_⟩:=hr.info hc
 have h1:=run_storeCells_at P aX off T v.cells.toList 0 arr w cB (by omega) gU
 rw [Nat.add_zero,hs] at h1
 have h2:v.cells.size=i.size:=by rw [pI,←hs];simp
 simp [Instr.storeAt,Instr.sureAddr,storeVar,Go.sizeOf,typeInfo,hi,h2,h1]
theorem Nl {t:TypeId} {I:TI} {root off:Nat} {v:Value} {cs ls eR:List aC} {K':St→Option R} (uh:ee cs=false) (hr:mf c.ti P t I) (hc:I.cq=[]) (h:bK c Z e st a w)
 (hf:aj st.fr root= .box cs) (hv:aq e v.cells.toList ls) (Bh:uZ ls=I.size) (hp:putAt cs off ls=some eR) (hK:wr st root (.box eR) K'=some r):
 ∃w' bN,(Instr.storeAt t (.pointer (some ⟨e.B root,off,none⟩)) v).run P w= .ok () w'∧bK c Z e bN a w'∧Trans Z e.φ w e.φ w'∧K' bN=some r:=by
 have lO:=h.slot root
 rw [hf] at lO
 obtain ⟨arr,T,cB,oW⟩:=lO.2.cells uh
 obtain ⟨v1,v2,v3,he,h1,h2,h3⟩:=te hp oW hv
 have hlen:=hv.width
 have pI:arr.size=v1.length+v2.length+v3.length:=by
  have:arr.toList.length=(v1++v2++v3).length:=by rw [he]
  simp at this
  omega
 have bH:=lC (P:=P) (w:=w) (aX:=e.B root) (off:=off) hr hc (by rw [hlen,Bh]) hv.cells cB (by omega)
 have Zq:arr.toList.take off=v1:=by rw [he,List.append_assoc,List.take_left' h1]
 have Zr:arr.toList.drop (off+I.size)=v3:=by
  rw [he];exact List.drop_left' (by rw [List.length_append];omega)
 rw [Zq,Zr] at bH
 unfold wr at hK
 cases hn:bp st.b4 root with
 |true=>simp [hn] at hK
 |false=>
  simp only [hn,cond_false,force_eq,kE] at hK
  refine ⟨_,_,bH,?_,.setRow _ (H5 lO.2.b3 (by rw [←h.defers.2.1,←bq,hn];simp)),hK⟩
  exact h.PV hf cB (by simpa using h3) (fun t=>by rw [bA]) (dw h.nodup)
end
end Dn
/-
  Owned slices that are shared from now on; what is handed to a callee. Conditions: none.
-/
set_option linter.unusedSimpArgs false
set_option linter.unusedVariables false
namespace Dn
open Go
section
variable {P:Program} {c:Ctx} {Z:bw} {e:Env} {st:St} {a:Act} {w w':World} {R:Type} {K:St→Option R} {r:R} {Q:Exit→Act→World→Prop} {o:Oper}
theorem aS.mono {key:Nat→Nat} {φ φ':Ph} (h:o6 φ φ') {size:Nat} {xs:List MV}: ∀{cs:List Value},aS key φ size cs xs→aS key φ' size cs xs:=by
 induction xs with
 |nil=>intro cs hh;exact hh
 |cons x xs ih=>intro cs hh;obtain ⟨v,q,rfl,h1,h2,h3⟩:=hh;exact ⟨v,q,rfl,h1,h2.mono h,ih h3⟩
theorem aS.length {key:Nat→Nat} {φ:Ph} {size:Nat} {xs:List MV}: ∀{cs:List Value},aS key φ size cs xs→cs.length=xs.length *size:=by
 induction xs with
 |nil=>intro cs hh;cases hh;simp
 |cons x xs ih=>intro cs hh;obtain ⟨v,q,rfl,h1,h2,h3⟩:=hh;simp [h1,ih h3,Nat.succ_mul,Nat.add_comm]
theorem Ks {m:List (Nat×mr)} {f:Nat} {o:mr} (h:aE m f=some o):bF m f o=m:=by
 induction m with
 |nil=>simp [aE] at h
 |cons p r ih=>
  obtain ⟨k,x⟩:=p
  simp only [aE,bF,eC] at h⊢
  by_cases hk:k=f
  ·subst hk;simp at h;subst h;simp
  ·simp only [hk,decide_false,cond_false] at h⊢;rw [ih h]
def mz (φ:Ph) (v:Value) (cells:List Value):Ph:=fun b off=>if v.ownBlock=some b∧off<cells.length then cells[off]? else φ b off
theorem Az {base:Nat} {t:TypeId} {size n:Nat} {v:Value} {xs ys:List Value} (h:w.ownsRow base t size v n xs) (h':w.ownsRow base t size v n ys) {b:Nat} (hb:v.ownBlock=some b):xs=ys:=by
 rcases h.2 with ⟨h1,_⟩|⟨g,cap,cM,h1,_,h2,_,_,_,h3⟩
 ·rw [h1] at hb;simp [Value.ownBlock] at hb
 ·rcases h'.2 with ⟨Ef,_⟩|⟨g',WW,kY,Ef,_,Ie,_,_,_,VK⟩
  ·rw [Ef] at hb;simp [Value.ownBlock] at hb
  ·rw [h1] at Ef
   simp at Ef
   obtain ⟨rfl,rfl⟩:=Ef
   rw [h2] at Ie
   simp at Ie
   subst Ie
   rw [←h3,←VK]
theorem freeze {f:Nat} {o:mr} (h:bK c Z e st a w) (hf:aE st.aL f=some o) (hp:f∉Z.b5∨o.dD=true):
 ∃φ',o6 e.φ φ'∧(∀b off,¬Z b→φ' b off=e.φ b off)∧bK c Z {e with φ:=φ',m:=bF e.m f ⟨o.ty,true,o.xs⟩} {st with aL:=bF st.aL f ⟨o.ty,true,o.xs⟩} a w∧
  kD e.key φ' [e.E f] (.list o.xs)∧
  (∀I cells,c.ti o.ty=some I→w.ownsRow 0 o.ty I.size (e.E f) o.xs.length cells→ ∀aX,(e.E f).ownBlock=some aX→ ∀j,j<cells.length→φ' aX j=cells[j]?):=by
 obtain ⟨I,cells,hI,PW,dk,gQ,hz⟩:=(h.gY f o hf).row
 have hlen:=gQ.length
 have hle:o6 e.φ (mz e.φ (e.E f) cells):=by
  intro b off v hv
  unfold mz
  by_cases hc:(e.E f).ownBlock=some b∧off<cells.length
  ·simp only [hc,and_self,if_true]
   obtain ⟨hb,ho⟩:=hc
   rcases dk.2 with ⟨hE,_⟩|⟨g,cap,cM,hE,_,hg,hn,BJ,qx,Kt⟩
   ·rw [hE] at hb;simp [Value.ownBlock] at hb
   ·rw [hE] at hb
    simp only [Value.ownBlock,Option.some.injEq] at hb
    subst hb
    have:=h.mZ _ _ _ hv
    rw [cell_of hg] at this
    rw [←Kt,List.getElem?_take]
    have cc:off<o.xs.length *I.size:=by omega
    simp only [cc,if_true]
    simpa using this
  ·simp only [hc,if_false];exact hv
 have iC: ∀b off v,mz e.φ (e.E f) cells b off=some v→w.cell? ⟨b,off,none⟩=some v:=by
  intro b off v hv
  unfold mz at hv
  by_cases hc:(e.E f).ownBlock=some b∧off<cells.length
  ·simp only [hc,and_self,if_true] at hv
   rcases dk.2 with ⟨hE,_⟩|⟨g,cap,cM,hE,_,hg,hn,BJ,qx,Kt⟩
   ·rw [hE] at hc;simp [Value.ownBlock] at hc
   ·rw [hE] at hc
    simp only [Value.ownBlock,Option.some.injEq] at hc
    obtain ⟨hb,ho⟩:=hc
    subst hb
    rw [cell_of hg]
    rw [←Kt,List.getElem?_take] at hv
    have cc:off<o.xs.length *I.size:=by omega
    simp only [cc,if_true] at hv
    simpa using hv
  ·simp only [hc,if_false] at hv;exact h.mZ _ _ _ hv
 have Zs: ∀b off,¬Z b→mz e.φ (e.E f) cells b off=e.φ b off:=by
  intro b off hb
  unfold mz
  by_cases hc:(e.E f).ownBlock=some b∧off<cells.length
  ·by_cases xF:f∈Z.b5
   ·simp only [hc,and_self,if_true]
    exact (((hz b hc.1).2.2 xF (hp.resolve_left (fun hn=>hn xF))) off hc.2).symm
   ·exact absurd (H5 (hz b hc.1).1 xF) hb
  ·simp [hc]
 have Ku: ∀b off,(e.E f).ownBlock≠some b→mz e.φ (e.E f) cells b off=e.φ b off:=by
  intro b off hb;unfold mz;simp [hb]
 have rB:jG (fun _=>True) (fun _=>True) e {e with φ:=mz e.φ (e.E f) cells,m:=bF e.m f ⟨o.ty,true,o.xs⟩}:=by
  refine ⟨rfl,hle,fun _ _=>rfl,?_⟩
  intro f2 o2 cc _
  have cc:aE (bF e.m f ⟨o.ty,true,o.xs⟩) f2=some o2:=cc
  rw [a8] at cc
  by_cases dU:f2=f
  ·subst dU;simp at cc;subst cc;exact ⟨o,by rw [h.m];exact hf,rfl,rfl⟩
  ·simp only [dU,if_false] at cc;exact ⟨o2,cc,rfl,rfl⟩
 have rC: ∀s:Slot,eD (fun _=>True) (fun _=>True) s:=by
  intro s;cases s<;>simp [eD,ib]
 refine ⟨_,hle,Zs,?_,?_,?_⟩
 rotate_right
 ·intro I' PX hI' Zt aX hb j hj
  rw [hI] at hI'
  cases hI'
  have hcc:=Az dk Zt hb
  subst hcc
  unfold mz
  simp [hb,hj]
 ·refine ⟨h.defers,h.size,by show bF e.m f _=bF st.aL f _;rw [h.m],h.key,h.nodup,?_,h.root,?_,h.bb,?_,?_,iC,h.b3⟩
  ·intro t
   have hs:=h.slot t
   have Tw:=h.bf t
   show bI Z _ w t _ (aj st.fr t)
   generalize aj st.fr t=s at hs Tw
   cases s<;>simp only [bI] at hs⊢ <;>try exact hs.on rB (rC _)
   rename_i cs
   refine ⟨hs.1,hs.2.b3,?_,?_⟩
   ·obtain ⟨o2,h1,h2⟩:=hs.2.obj
    exact ⟨o2,h1,h2.on rB (fun l _ f _=>trivial)⟩
   ·intro off
    show mz e.φ (e.E f) cells (e.B t) off=none
    rw [Ku _ _ (Tw cs f o rfl hf)];exact hs.2.free off
  ·intro f2 o2 cc
   have cc:aE (bF st.aL f ⟨o.ty,true,o.xs⟩) f2=some o2:=cc
   rw [a8] at cc
   by_cases dU:f2=f
   ·subst dU
    simp at cc
    subst cc
    refine ⟨I,cells,hI,PW,dk,gQ.mono hle,?_⟩
    intro aX hb
    refine ⟨(hz aX hb).1,?_,?_⟩
    rotate_left
    ·intro _ _ j hj
     show mz e.φ (e.E f2) cells aX j=_
     have hb:(e.E f2).ownBlock=some aX:=hb
     unfold mz
     simp [hb,hj]
    intro off u hu
    refine ⟨rfl,?_⟩
    have hu:mz e.φ (e.E f2) cells aX off=some u:=hu
    unfold mz at hu
    by_cases hc:(e.E f2).ownBlock=some aX∧off<cells.length
    ·show off<o.xs.length *I.size;rw [←hlen];exact hc.2
    ·simp only [hc,if_false] at hu;exact ((hz aX hb).2.1 off u hu).2
   ·simp only [dU,if_false] at cc
    obtain ⟨I2,tj,h1,h2,h3,h4,h5⟩:=(h.gY f2 o2 cc).row
    refine ⟨I2,tj,h1,h2,h3,h4.mono hle,?_⟩
    intro aX hb
    refine ⟨(h5 aX hb).1,?_,?_⟩
    rotate_left
    ·intro g1 g2 j hj
     show mz e.φ (e.E f) cells aX j=_
     rw [Ku _ _ (fun Tw=>dU (h.ff f2 f o2 o aX cc hf hb Tw))]
     exact (h5 aX hb).2.2 g1 g2 j hj
    intro off u hu
    have hu:mz e.φ (e.E f) cells aX off=some u:=hu
    rw [Ku _ _ (fun Tw=>dU (h.ff f2 f o2 o aX cc hf hb Tw))] at hu
    exact (h5 aX hb).2.1 off u hu
  ·intro t cs f2 o2 h1 h2
   have h2:aE (bF st.aL f ⟨o.ty,true,o.xs⟩) f2=some o2:=h2
   rw [a8] at h2
   by_cases dU:f2=f
   ·subst dU;exact h.bf t cs f2 o h1 hf
   ·simp only [dU,if_false] at h2;exact h.bf t cs f2 o2 h1 h2
  ·intro f1 f2 o1 o2 k h1 h2 h3 h4
   have h1:aE (bF st.aL f ⟨o.ty,true,o.xs⟩) f1=some o1:=h1
   have h2:aE (bF st.aL f ⟨o.ty,true,o.xs⟩) f2=some o2:=h2
   rw [a8] at h1 h2
   have g1: ∃o',aE st.aL f1=some o':=by
    by_cases dU:f1=f
    ·subst dU;exact ⟨o,hf⟩
    ·simp only [dU,if_false] at h1;exact ⟨o1,h1⟩
   have g2: ∃o',aE st.aL f2=some o':=by
    by_cases dU:f2=f
    ·subst dU;exact ⟨o,hf⟩
    ·simp only [dU,if_false] at h2;exact ⟨o2,h2⟩
   obtain ⟨q1,g1⟩:=g1
   obtain ⟨q2,g2⟩:=g2
   exact h.ff f1 f2 q1 q2 k g1 g2 h3 h4
 ·have yq:=gQ.mono hle
  rcases dk.2 with ⟨hE,hn⟩|⟨g,cap,cM,hE,_,hg,hn,BJ,qx,Kt⟩
  ·have hx:o.xs=[]:=List.eq_nil_of_length_eq_zero hn
   have hv:[e.E f]=[Value.slice none 0 0]:=by rw [hE]
   rw [hv,hx]
   exact .list none 0 [] 0 0 0 (fun _=>[]) (by simp) (by simp) (by simp) (by simp) (by simp)
  ·have hv:[e.E f]=[Value.slice (some ⟨g,0,none⟩) o.xs.length cap]:=by rw [hE]
   rw [hv]
   have GG: ∀i (hi:i<o.xs.length),∃v1,v1.length=I.size∧kD e.key (mz e.φ (e.E f) cells) v1 o.xs[i]∧(cells.drop (i *I.size)).take I.size=v1:=by
    intro i hi
    obtain ⟨p1,v1,p2,he,BK,uU,ef⟩:=yq.at (List.getElem?_eq_getElem hi)
    refine ⟨v1,uU,ef,?_⟩
    rw [he,List.append_assoc,←BK,List.drop_left,←uU,List.take_left]
   refine .list (some ⟨g,0,none⟩) cap o.xs g 0 I.size (fun i=>(cells.drop (i *I.size)).take I.size) hn (fun _=>rfl) ?_ ?_ ?_
   ·intro i hi
    obtain ⟨v1,h1,_,h3⟩:=GG i hi
    rw [h3,h1]
   ·intro i j hi hj
    have hb:(e.E f).ownBlock=some g:=by rw [hE];rfl
    have Es:i *I.size+j<cells.length:=by
     rw [hlen]
     calc i *I.size+j<i *I.size+I.size:=by omega
      _=(i+1) *I.size:=by rw [Nat.succ_mul]
      _≤o.xs.length *I.size:=Nat.mul_le_mul_right _ hi
    rw [Nat.zero_add]
    unfold mz
    simp only [hb,Es,and_self,if_true]
    rw [List.getElem?_take]
    simp only [hj,if_true,List.getElem?_drop]
   ·intro i hi
    obtain ⟨v1,_,h2,h3⟩:=GG i hi
    rw [h3];exact h2
end
end Dn
/-
  Arguments and results. Conditions: none.
-/
set_option linter.unusedSimpArgs false
set_option linter.unusedVariables false
namespace Dn
open Go
structure Ext (Z:Nat→Prop) (e e':Env):Prop where
 on:jG (fun _=>True) (fun _=>True) e e'
 b3: ∀b off,¬Z b→e'.φ b off=e.φ b off
theorem Ext.refl (Z:Nat→Prop) (e:Env):Ext Z e e:=⟨⟨rfl,.refl _,fun _ _=>rfl,fun f o h _=>⟨o,h,rfl,rfl⟩⟩,fun _ _ _=>rfl⟩
theorem Ext.trans {Z:Nat→Prop} {e e' Zu:Env} (h:Ext Z e e') (h':Ext Z e' Zu):Ext Z e Zu:=by
 refine ⟨⟨h'.on.key.trans h.on.key,h.on.φ.trans h'.on.φ,fun r hr=>(h'.on.B r hr).trans (h.on.B r hr),?_⟩,fun b off hb=>(h'.b3 b off hb).trans (h.b3 b off hb)⟩
 intro f o ho _
 obtain ⟨o1,h1,h2,h3⟩:=h'.on.gY f o ho trivial
 obtain ⟨o2,h4,h5,h6⟩:=h.on.gY f o1 h1 trivial
 exact ⟨o2,h4,h2.trans h5,h3.trans h6⟩
theorem Ext.tr {Z:Nat→Prop} {e e':Env} {w:World} (h:Ext Z e e'):Trans Z e.φ w e'.φ w:=⟨h.on.φ,fun _ _ _=>rfl,h.b3,Nat.le_refl _,.refl _⟩
theorem df (s:Slot):eD (fun _=>True) (fun _=>True) s:=by cases s<;>simp [eD,ib]
def bU (key:Nat→Nat) (φ:Ph):List Value→List MV→Prop
 |vs,[]=>vs=[]
 |vs,m::ms=> ∃v r,vs=v::r∧eB key φ v m∧bU key φ r ms
theorem bU.mono {key:Nat→Nat} {φ φ':Ph} (h:o6 φ φ') {ms:List MV}: ∀{vs:List Value},bU key φ vs ms→bU key φ' vs ms:=by
 induction ms with
 |nil=>intro vs hh;exact hh
 |cons m ms ih=>intro vs hh;obtain ⟨v,r,rfl,h1,h2⟩:=hh;exact ⟨v,r,rfl,h1.mono h,ih h2⟩
theorem bU.append {key:Nat→Nat} {φ:Ph} {ms ns:List MV}: ∀{vs us:List Value},bU key φ vs ms→bU key φ us ns→bU key φ (vs++us) (ms++ns):=by
 induction ms with
 |nil=>intro vs us h h';cases h;simpa using h'
 |cons m ms ih=>intro vs us h h';obtain ⟨v,r,rfl,h1,h2⟩:=h;exact ⟨v,r++us,rfl,h1,ih h2 h'⟩
section
variable {P:Program} {c:Ctx} {Z:bw} {e:Env} {st:St} {a:Act} {w w':World} {R:Type} {r:R} {Q:Exit→Act→World→Prop} {o:Oper}
theorem qM {l:aC} {vs:List Value} {K:MV→St→Option R} (h:bK c Z e st a w) (hl:aN e vs l) (hK:pA st l K=some r):
 ∃e' bN m,bK c Z e' bN a w∧Ext Z e e'∧bN.fr=st.fr∧kD e'.key e'.φ vs m∧K m bN=some r∧(qJ l=true→e'=e∧bN=st)∧(∀f,l= .own f→ ∃o,aE st.aL f=some o∧m= .list o.xs)∧((∀x,l≠ .hs x)→m.one=true):=by
 cases l with
 |un=>simp [pA] at hK
 |p m=>exact ⟨e,st,m,h,.refl _ _,rfl,hl.2,hK,fun _=>⟨rfl,rfl⟩,by simp,fun _=>hl.1⟩
 |hs x=>have hl:vs=bh x:=hl;subst hl;exact ⟨e,st,.h x,h,.refl _ _,rfl,.h x,hK,fun _=>⟨rfl,rfl⟩,by simp,fun hx=>absurd rfl (hx x)⟩
 |nil=>
  have hl:vs=[.slice none 0 0]:=hl
  subst hl
  exact ⟨e,st,.list [],h,.refl _ _,rfl,.list none 0 [] 0 0 0 (fun _=>[]) (by simp) (by simp) (by simp) (by simp) (by simp),hK,fun hp=>by simp [qJ] at hp,fun _ he=>(by cases he),fun _=>rfl⟩
 |mp s es=>simp [pA] at hK
 |own f=>
  simp only [pA] at hK
  cases hf:aE st.aL f with
  |none=>simp [hf] at hK
  |some o=>
   simp only [hf] at hK
   have xF:f∉Z.b5∨o.dD=true:=by
    cases hz:o.dD with
    |true=>exact .inr rfl
    |false=>
     refine .inl (fun hm=> ?_)
     rw [←h.defers.2.2.1,←bq] at hm
     simp [hz,hm] at hK
   obtain ⟨φ',h1,h2,h3,h4,_⟩:=freeze h hf xF
   obtain ⟨v,rfl,hv,hE⟩:=hl
   have hE:=hE o (by rw [h.m];exact hf)
   subst hE
   have Tx:Ext Z e {e with φ:=φ',m:=bF e.m f ⟨o.ty,true,o.xs⟩}:=by
    refine ⟨⟨rfl,h1,fun _ _=>rfl,?_⟩,h2⟩
    intro f2 o2 cc _
    have cc:aE (bF e.m f ⟨o.ty,true,o.xs⟩) f2=some o2:=cc
    rw [a8] at cc
    by_cases dU:f2=f
    ·subst dU;simp at cc;subst cc;exact ⟨o,by rw [h.m];exact hf,rfl,rfl⟩
    ·simp only [dU,if_false] at cc;exact ⟨o2,cc,rfl,rfl⟩
   cases hz:o.dD with
   |true=>
    simp only [hz,cond_true] at hK
    have Zv:bF st.aL f ⟨o.ty,true,o.xs⟩=st.aL:=by
     rw [←hz];exact Ks hf
    rw [Zv] at h3
    exact ⟨_,st,.list o.xs,h3,Tx,rfl,h4,hK,fun hp=>by simp [qJ] at hp,fun _ he=>by cases he;exact ⟨o,hf,rfl⟩,fun _=>rfl⟩
   |false=>
    simp only [hz,cond_false] at hK
    cases hn:bp st.b5 f with
    |true=>simp [hn] at hK
    |false=>
     simp only [hn,cond_false,mw] at hK
     exact ⟨_,_,.list o.xs,h3,Tx,rfl,h4,hK,fun hp=>by simp [qJ] at hp,fun _ he=>by cases he;exact ⟨o,hf,rfl⟩,fun _=>rfl⟩
theorem lk {ls:List aC}: ∀{e:Env} {st:St} {vs:List Value} {K:List MV→St→Option R},bK c Z e st a w→aq e vs ls→nW st ls K=some r→
 ∃e' bN ms,bK c Z e' bN a w∧Ext Z e e'∧bN.fr=st.fr∧fP e'.key e'.φ vs ms∧K ms bN=some r∧(gZ ls=true→e'=e∧bN=st)∧(∀ps,oo ls ms=some ps→aq e' vs ps∧gZ ps=true):=by
 induction ls with
 |nil=>intro e st vs K h hl hK;cases hl;exact ⟨e,st,[],h,.refl _ _,rfl,.nil,hK,fun _=>⟨rfl,rfl⟩,fun ps hp=>by simp [oo] at hp;subst hp;exact ⟨rfl,rfl⟩⟩
 |cons l ls ih=>
  intro e st vs K h hl hK
  obtain ⟨v,u,rfl,h1,h2⟩:=hl
  simp only [nW] at hK
  obtain ⟨e1,dR,m,uV,Bi,zG,Fa,ot,PY,_,gU⟩:=qM h h1 hK
  obtain ⟨e2,dY,ms,Ig,Pb,Ty,Tn,uG,Fb,yr⟩:=ih uV (h2.on Bi.on (fun l _ f _=>trivial)) ot
  have hrm:kD e2.key e2.φ v m:=by
   have:=Fa.mono Pb.on.φ
   rw [←Pb.on.key] at this;exact this
  refine ⟨e2,dY,m::ms,Ig,Bi.trans Pb,Ty.trans zG,.cons v m u ms ?_ Tn,uG,?_,?_⟩
  ·have:=Fa.mono Pb.on.φ
   rw [←Pb.on.key] at this;exact this
  ·intro hp
   simp only [gZ,Bool.and_eq_true] at hp
   obtain ⟨q1,q2⟩:=PY hp.1
   obtain ⟨q3,q4⟩:=Fb hp.2
   exact ⟨q3.trans q1,q4.trans q2⟩
  ·intro ps hp
   cases hq:oo ls ms with
   |none=>cases l<;>simp [oo,hq] at hp
   |some q=>
    obtain ⟨g1,g2⟩:=yr q hq
    by_cases hh: ∃x,l= .hs x
    ·obtain ⟨x,rfl⟩:=hh
     simp [oo,hq] at hp
     subst hp
     exact ⟨⟨v,u,rfl,h1,g1⟩,by simp [gZ,qJ,g2]⟩
    ·have gU:=gU (fun x hx=>hh ⟨x,hx⟩)
     have GH:ps= .p m::q:=by cases l<;>simp [oo,hq] at hp<;>first|exact hp.symm|exact absurd ⟨_,rfl⟩ hh
     subst GH
     exact ⟨⟨v,u,rfl,⟨gU,hrm⟩,g1⟩,by simp [gZ,qJ,g2]⟩
theorem mg {s:Slot} {v:Value} {K:MV→St→Option R} (h:bK c Z e st a w) (hl:ab e v s) (hK:kU st s K=some r):
 ∃e' bN m,bK c Z e' bN a w∧Ext Z e e'∧bN.fr=st.fr∧eB e'.key e'.φ v m∧K m bN=some r:=by
 cases s with
 |sc l=>
  simp only [kU] at hK
  cases l with
  |un=>simp [pA] at hK
  |hs x=>
   simp only [ab] at hl
   exact ⟨e,st,.h x,h,.refl _ _,rfl,by simpa [eB,bh] using hl,hK⟩
  |p m=>
   simp only [ab] at hl
   refine ⟨e,st,m,h,.refl _ _,rfl,?_,hK⟩
   obtain ⟨h1,h2⟩:=hl
   cases m<;>simp [MV.one] at h1<;>exact ⟨rfl,h2⟩
  |nil=>
   simp only [ab] at hl
   obtain ⟨e',bN,m,q1,q2,q3,q4,q5,q6,_⟩:=qM h hl hK
   have hl:[v]=[Value.slice none 0 0]:=hl
   refine ⟨e,st,.list [],h,.refl _ _,rfl,⟨rfl,?_⟩,hK⟩
   rw [hl]
   exact .list none 0 [] 0 0 0 (fun _=>[]) (by simp) (by simp) (by simp) (by simp) (by simp)
  |mp s es=>simp [pA] at hK
  |own f=>
   simp only [ab] at hl
   simp only [pA] at hK
   cases hf:aE st.aL f with
   |none=>simp [hf] at hK
   |some o=>
    obtain ⟨e',bN,m,q1,q2,q3,q4,q5,q6,q7⟩:=qM (l:= .own f) h hl (by simpa only [pA,hf] using hK)
    obtain ⟨o2,_,rfl⟩:=q7.1 f rfl
    exact ⟨e',bN,.list o2.xs,q1,q2,q3,⟨rfl,q4⟩,q5⟩
 |ag cs=>
  simp only [ab] at hl
  obtain ⟨arr,hv,hl⟩:=hl
  simp only [kU] at hK
  obtain ⟨e',bN,ms,q1,q2,q3,q4,q5,_⟩:=lk h hl hK
  exact ⟨e',bN,.agg ms,q1,q2,q3,⟨arr,hv,q4⟩,q5⟩
 |rp cs off=>
  simp only [ab] at hl
  obtain ⟨aX,q,vs,hv,oW,hp,zF⟩:=hl
  simp only [kU] at hK
  cases hb:Nat.beq off 0 with
  |false=>simp [hb] at hK
  |true=>
   simp only [hb,cond_true] at hK
   have h0:=Nat.eq_of_beq_eq_true hb
   subst h0
   obtain ⟨e',bN,ms,q1,q2,q3,q4,q5,q6⟩:=lk h oW hK
   obtain ⟨rfl,rfl⟩:=q6.1 hp
   refine ⟨e',bN,.rp ms,q1,q2,q3,⟨rfl,?_⟩,q5⟩
   rw [hv]
   exact .rp aX (q+0) vs ms q4 (by simpa using zF)
 |_=>simp [kU] at hK
theorem o7 {ss:List Slot}: ∀{e:Env} {st:St} {vs:List Value} {K:List MV→St→Option R},bK c Z e st a w→(∃f:Unit→List Value,f ()=vs∧vs.length=ss.length∧ ∀(i:Nat) (v:Value) (s:Slot),vs[i]? =some v→ss[i]? =some s→ab e v s)→
 s7 st ss K=some r→ ∃e' bN ms,bK c Z e' bN a w∧Ext Z e e'∧bN.fr=st.fr∧bU e'.key e'.φ vs ms∧K ms bN=some r:=by
 induction ss with
 |nil=>intro e st vs K h hl hK;obtain ⟨f,_,hlen,_⟩:=hl;have:=List.eq_nil_of_length_eq_zero hlen;subst this;exact ⟨e,st,[],h,.refl _ _,rfl,rfl,hK⟩
 |cons s ss ih=>
  intro e st vs K h hl hK
  obtain ⟨f,_,hlen,ef⟩:=hl
  cases vs with
  |nil=>simp at hlen
  |cons v vs=>
   simp only [s7] at hK
   obtain ⟨e1,dR,m,q1,q2,q3,q4,q5⟩:=mg h (ef 0 v s rfl rfl) hK
   obtain ⟨e2,dY,ms,p1,p2,p3,p4,p5⟩:=ih (vs:=vs) q1 ⟨fun _=>vs,rfl,by simpa using hlen,fun i v s h1 h2=>(ef (i+1) v s (by simpa using h1) (by simpa using h2)).on q2.on (df s)⟩ q5
   refine ⟨e2,dY,m::ms,p1,q2.trans p2,p3.trans q3,⟨v,vs,rfl,?_,p4⟩,p5⟩
   have:=q4.mono p2.on.φ
   rw [←p2.on.key] at this;exact this
end
end Dn
/-
  Parts of structs, lengths, the least and the greatest, places of elements. Conditions: none.
-/
set_option linter.unusedSimpArgs false
set_option linter.unusedVariables false
namespace Dn
open Go
section
variable {P:Program} {c:Ctx} {Z:bw} {e:Env} {st:St} {a:Act} {w w':World} {R:Type} {K:St→Option R} {r:R} {Q:Exit→Act→World→Prop} {o:Oper}
theorem Fc {t:TypeId} {I:TI} (hr:mf c.ti P t I) (hc:I.cq=[]):
 ((I.st=true∨I.size=32)∧ ∀w:World,(isAgg t).run P w= .ok true w)∨(I.st=false∧I.size=1∧ ∀w:World,(isAgg t).run P w= .ok false w):=by
 rcases hr.agg hc with ⟨d,hu,hd,hh⟩|⟨d,hu,hd,h1,h2⟩
 ·refine .inl ⟨hh.imp id (·.2),fun w=> ?_⟩
  unfold isAgg;rw [Sem.run_bind,run_underlying hu w];cases d<;>simp_all [TypeDesc.isRow]
 ·refine .inr ⟨h1,h2,fun w=> ?_⟩
  unfold isAgg;rw [Sem.run_bind,run_underlying hu w];cases d<;>simp_all [TypeDesc.isRow]
theorem PZ {t:TypeId} {I:TI} {cs:List aC} {off:Nat} {arr:Array Value} {K':Slot→Option R} (hr:mf c.ti P t I) (hc:I.cq=[])
 (hv:aq e arr.toList cs) (hK:jd I cs off K'=some r):
 ∃v s,(∀w:World,(Go.part t arr off).run P w= .ok v w)∧ab e v s∧b6 st.fr s∧K' s=some r:=by
 obtain ⟨i,hi,hs,_⟩:=hr.info hc
 have ext: ∀v1 v2 v3:List Value,arr.toList=v1++v2++v3→v1.length=off→(arr.extract off (off+v2.length))=v2.toArray:=by
  intro v1 v2 v3 h1 h2
  apply Array.toList_inj.1
  rw [Array.toList_extract,h1,List.extract_eq_take_drop,List.append_assoc,←h2,List.drop_left]
  simp
 unfold jd at hK
 cases dH:I.st with
 |true=>
  simp only [dH,cond_true] at hK
  cases hp:Dn.part cs off I.size with
  |none=>simp [hp] at hK
  |some ds=>
   simp only [hp] at hK
   obtain ⟨v1,v2,v3,h0,h1,h2,h3⟩:=E8 hp hv
   rcases Fc (P:=P) hr hc with ⟨_,WS⟩|⟨hf,_⟩
   ·refine ⟨.agg v2.toArray,.ag ds,?_,?_,trivial,hK⟩
    ·have hx:=ext v1 v2 v3 h0 h1
     rw [h2] at hx
     simp [Go.part,WS,Go.sizeOf,typeInfo,hi,hs,hx]
    ·simp only [ab];exact ⟨_,rfl,by simpa using h3⟩
   ·rw [dH] at hf;cases hf
 |false=>
  simp only [dH,cond_false] at hK
  cases hp:cut cs off with
  |none=>simp [hp] at hK
  |some ds=>
   cases ds with
   |nil=>simp [hp] at hK
   |cons l ls=>
    simp only [hp] at hK
    cases hb:Nat.beq l.w I.size with
    |false=>simp [hb] at hK
    |true=>
     simp only [hb,cond_true] at hK
     have hw:=Nat.eq_of_beq_eq_true hb
     obtain ⟨v1,v2,h0,h1,h2⟩:=vc hp hv
     obtain ⟨u,u2,rfl,h3,h4⟩:=h2
     have hlu:u.length=I.size:=by rw [h3.width,hw]
     rcases Fc (P:=P) hr hc with ⟨hh,WS⟩|⟨_,h1s,WS⟩
     ·refine ⟨.agg u.toArray,.sc l,?_,h3.slot (.inr ⟨rfl,?_⟩),trivial,hK⟩
      ·have hx:=ext v1 u u2 (by rw [h0,List.append_assoc]) h1
       rw [hlu] at hx
       simp [Go.part,WS,Go.sizeOf,typeInfo,hi,hs,hx]
      ·rcases hh with hh|hh
       ·rw [dH] at hh;cases hh
       ·rw [hw,hh]
     ·obtain ⟨v,rfl⟩:=List.length_eq_one_iff.1 (by rw [hlu,h1s])
      refine ⟨v,.sc l,?_,h3.slot (.inl ⟨rfl,?_⟩),trivial,hK⟩
      ·have:arr[off]? =some v:=by
        have:arr[off]? =arr.toList[off]? :=by simp
        rw [this,h0,List.getElem?_append_right (by omega),h1];simp
       simp [Go.part,WS,this]
      ·rw [hw,h1s]
theorem WX {t:TypeId} {x:Operand} {f:Nat} {I:TI} (ho:o.op= .field t x f) (hI:c.tv t=some I) (hT:j6 P c.ti) (h:bK c Z e st a w)
 (hK:WE c I f (aJ c st x) (fun s=>bj c st o.dst s K)=some r):Rd P c Z K r e a w o (fun _=>True):=by
 obtain ⟨hx,nI⟩:=h.eval x
 obtain ⟨qw,hc⟩:=bD hI
 obtain ⟨d,i,h1,h2,h3,h4⟩:=hT t I qw
 generalize aJ c st x=s at hx hK nI
 unfold WE at hK
 split at hK
 ·rename_i q y cs dH hq hy
  simp only [ab] at hx
  obtain ⟨arr,hx,oW⟩:=hx
  cases hJ:c.tv y with
  |none=>simp [hJ] at hK
  |some J=>
   simp only [hJ] at hK
   obtain ⟨hJt,VI⟩:=bD hJ
   obtain ⟨v,s,bH,h5,h6,h7⟩:=PZ (P:=P) (st:=st) (hT y J hJt) VI oW hK
   refine gO (v:=v) h ?_ h5 h6 h7
   cases d<;>simp only [pH] at h4
   case struct fs=>
    obtain ⟨_,_,_,VJ,cc,_⟩:=h4
    rw [←VJ,List.getElem?_map] at hq
    rw [←cc,List.getElem?_map] at hy
    cases hf:fs.toList[f]? with
    |none=>simp [hf] at hq
    |some fl=>
     simp [hf] at hq hy
     subst hq;subst hy
     have LX:fs[f]? =some fl:=by simpa using hf
     simp [execOp,ho,hx,Instr.field,run_underlying h1,LX,asAgg,bH]
   all_goals (exfalso;simp_all)
 ·simp at hK
theorem TI.lP {I:TI} {t:TypeId} (hr:mf c.ti P t I) (h:I.w8=true):P.underlying t=some (.slice I.elem)∧ ∃E,c.ti I.elem=some E∧E.cq=[]∧0<E.size:=by
 unfold TI.w8 at h
 split at h
 ·rename_i dH hl
  obtain ⟨d,i,h1,h2,h3,h4⟩:=hr
  cases d<;>simp only [pH,hl,dH] at h4<;>first|(exfalso;simp_all;done)|skip
  obtain ⟨_,_,_,rfl,hE,_⟩:=h4
  exact ⟨h1,hE⟩
 ·cases h
theorem TI.GI {I:TI} {t:TypeId} (hr:mf c.ti P t I) (h:I.SW=true):P.underlying t=some .string:=by
 unfold TI.SW at h
 split at h
 ·rename_i dH hl
  obtain ⟨d,i,h1,h2,h3,h4⟩:=hr
  cases d<;>simp only [pH,hl,dH] at h4<;>first|(exfalso;simp_all;done)|skip
  exact h1
 ·cases h
theorem Ih {v:Value} {xs:List MV} (h:ab e v (.sc (.p (.list xs)))): ∃ad cap,v= .slice ad xs.length cap∧xs.length≤cap:=by
 simp only [ab,aN] at h
 obtain ⟨_,h⟩:=h
 generalize hv:[v]=vs at h
 cases h
 exact ⟨_,_,by simpa using hv,by assumption⟩
theorem qN {f:Nat} {w':mr} {v:Value} (h:bK c Z e st a w) (hv:ab e v (.sc (.own f))) (hf:aE st.aL f=some w'):v=e.E f∧ ∃ad cap,v= .slice ad w'.xs.length cap∧w'.xs.length≤cap:=by
 simp only [ab] at hv
 obtain ⟨u,hu,_,hE⟩:=hv
 simp at hu;subst hu
 have hE:=hE w' (by rw [h.m];exact hf)
 refine ⟨hE,?_⟩
 obtain ⟨I,cells,_,_,dk,_⟩:=(h.gY f w' hf).row
 rcases dk.2 with ⟨h1,h2⟩|⟨g,cap,cM,h1,_,_,h2,_⟩
 ·exact ⟨none,0,by rw [hE,h1,h2],by omega⟩
 ·exact ⟨_,cap,by rw [hE,h1],h2⟩
theorem gz {l:List Operand}:hU c st l=l.map (aJ c st):=by
 induction l with
 |nil=>rfl
 |cons x r ih=>simp [hU,ih]
theorem WY {cl:Call} {t:TypeId} {I:TI} (ho:o.op= .call cl) (hb:cl.callee= .builtin .len) (ha:cl.argTypes.toList=[t]) (hI:c.tv t=some I) (hT:j6 P c.ti) (h:bK c Z e st a w)
 (hK:Pu I st (hU c st cl.args.toList) (fun s=>bj c st o.dst s K)=some r):Rd P c Z K r e a w o (fun _=>True):=by
 obtain ⟨qw,hc⟩:=bD hI
 have hr:=hT t I qw
 have HP:cl.argTypes= #[t]:=by rw [←Array.toList_inj,ha]
 rw [gz] at hK
 have go: ∀x,cl.args.toList=[x]→ ∀n:Nat,(∃b:ByteArray,a.eval x= .string b∧b.size=n∧P.underlying t=some .string)∨(∃ad cap,a.eval x= .slice ad n cap∧ ∃el,P.underlying t=some (.slice el))→
  bj c st o.dst (.sc (.p (.i .i64 n))) K=some r→Rd P c Z K r e a w o (fun _=>True):=by
  intro x hx n Ii hK
  have Nk:cl.args= #[x]:=by rw [←Array.toList_inj,hx]
  refine gO h ?_ (r8 .i64 (n:Int)) trivial hK
  rcases Ii with ⟨b,h1,h2,h3⟩|⟨ad,cap,h1,el,h3⟩
  ·simp [execOp,ho,resolve,hb,invoke,builtin,Builtin.len_,HP,Nk,run_underlying h3,h1,goInt,h2]
  ·simp [execOp,ho,resolve,hb,invoke,builtin,Builtin.len_,HP,Nk,run_underlying h3,h1,goInt]
 cases hl:cl.args.toList with
 |nil=>rw [hl] at hK;simp [Pu] at hK
 |cons x ys=>
  rw [hl] at hK
  cases ys with
  |cons y zs=>simp only [List.map_cons] at hK;unfold Pu at hK;split at hK<;>simp_all
  |nil=>
   simp only [List.map_cons,List.map_nil] at hK
   obtain ⟨hx,_⟩:=h.eval x
   generalize aJ c st x=s at hx hK
   unfold Pu at hK
   split at hK
   ·rename_i l hs
    simp at hs;subst hs
    cases hS:I.SW with
    |false=>simp [hS] at hK
    |true=>
     simp only [hS,cond_true] at hK
     obtain ⟨b,zE,rfl⟩:=B7 hx
     exact go x hl _ (.inl ⟨b,zE,by show b.data.size=_;exact (Array.length_toList).symm,TI.GI hr hS⟩) hK
   ·rename_i l hs
    simp at hs;subst hs
    cases hS:I.w8 with
    |false=>simp [hS] at hK
    |true=>
     simp only [hS,cond_true] at hK
     obtain ⟨ad,cap,hv,_⟩:=Ih hx
     exact go x hl _ (.inr ⟨ad,cap,hv,_,(TI.lP hr hS).1⟩) hK
   ·rename_i hs
    simp at hs;subst hs
    cases hS:I.w8 with
    |false=>simp [hS] at hK
    |true=>
     simp only [hS,cond_true] at hK
     simp only [ab] at hx
     have hx:[a.eval x]=[Value.slice none 0 0]:=hx
     simp at hx
     exact go x hl 0 (.inr ⟨none,0,hx,_,(TI.lP hr hS).1⟩) hK
   ·rename_i f hs
    simp at hs;subst hs
    cases hS:I.w8 with
    |false=>simp [hS] at hK
    |true=>
     simp only [hS,cond_true] at hK
     cases hf:aE st.aL f with
     |none=>simp [hf] at hK
     |some w'=>
      simp only [hf] at hK
      obtain ⟨_,ad,cap,hv,_⟩:=qN h hx hf
      exact go x hl _ (.inr ⟨ad,cap,hv,_,(TI.lP hr hS).1⟩) hK
   ·simp at hK
end
end Dn
/-
  Values as leaves; places of elements; the least and the greatest; parts of slices. Conditions: none.
-/
set_option linter.unusedSimpArgs false
set_option linter.unusedVariables false
namespace Dn
open Go
section
variable {P:Program} {c:Ctx} {Z:bw} {e:Env} {st:St} {a:Act} {w w':World} {R:Type} {K:St→Option R} {r:R} {Q:Exit→Act→World→Prop} {o:Oper}
structure VL (e:Env) (k:Kd) (vs:List Value) (m:MV) (l:aC):Prop where
 Zx:kD e.key e.φ vs m→aN e vs l
 Pc:qJ l=true
 mv:bt [l]=some [m]
 one: ∀m',l= .p m'→m'.one=true
 wid:l.w=Bg [k]
theorem lQ {k:Kd} {m:MV} {vs:List Value} {K':aC→Option R} (hK:jc k m K'=some r): ∃l,VL e k vs m l∧K' l=some r:=by
 have mk: ∀m:MV,m.one=true→(Bg [k]=1)→K' (.p m)=some r→ ∃l,VL e k vs m l∧K' l=some r:=
  fun m h1 h2 h3=>⟨.p m,⟨fun h=>⟨h1,h⟩,rfl,rfl,fun m' e=>by cases e;exact h1,h2.symm⟩,h3⟩
 cases k with
 |b=>unfold jc gB at hK;cases m<;>simp at hK;exact mk _ rfl rfl hK
 |s=>unfold jc gS at hK;cases m<;>simp at hK;exact mk _ rfl rfl hK
 |l=>unfold jc gL at hK;cases m<;>simp at hK;exact mk _ rfl rfl hK
 |i k=>
  unfold jc gI at hK;cases m<;>simp at hK
  rename_i k' n
  by_cases hk:k'=k
  ·subst hk;simp at hK;exact mk _ rfl rfl hK
  ·simp [hk] at hK
 |h=>
  unfold jc gH at hK;cases m<;>simp at hK
  rename_i x
  refine ⟨.hs x,⟨?_,rfl,rfl,by simp,rfl⟩,hK⟩
  intro h;cases h;rfl
 |raw=>unfold jc gR at hK;cases m<;>simp at hK<;>exact mk _ rfl rfl hK
theorem xd {l:aC} {ls:List aC} {m:MV} {ms:List MV} (h1:bt [l]=some [m]) (h2:bt ls=some ms):bt (l::ls)=some (m::ms):=by
 cases l<;>simp [bt] at h1⊢ <;>simp [h2,h1]
structure Tz (e:Env) (ks:List Kd) (vs:List Value) (ms:List MV) (ls:List aC):Prop where
 Zx:fP e.key e.φ vs ms→aq e vs ls
 Pc:gZ ls=true
 mv:bt ls=some ms
 one: ∀m',aC.p m'∈ls→m'.one=true
 wid:uZ ls=Bg ks
theorem Nn (k:Kd) (ks:List Kd):Bg (k::ks)=Bg [k]+Bg ks:=by cases k<;>simp [Bg]
theorem tk {ks:List Kd}: ∀{ms:List MV} {vs:List Value} {K':List aC→Option R},qI ks ms K'=some r→ ∃ls,Tz e ks vs ms ls∧K' ls=some r:=by
 induction ks with
 |nil=>
  intro ms vs K' hK
  cases ms with
  |nil=>exact ⟨[],⟨fun h=>by cases h;rfl,rfl,rfl,by simp,rfl⟩,hK⟩
  |cons m ms=>simp [qI,gN] at hK
 |cons k ks ih=>
  intro ms vs K' hK
  cases ms with
  |nil=>simp [qI,gC] at hK
  |cons m ms=>
   simp only [qI,gC] at hK
   have h1:=fun vs=>lQ (e:=e) (vs:=vs) hK
   obtain ⟨l,hl,ot⟩:=h1 []
   obtain ⟨ls,Ij,uG⟩:=ih (vs:=[]) ot
   refine ⟨l::ls,⟨?_,?_,xd hl.mv Ij.mv,?_,?_⟩,uG⟩
   ·intro h
    have g:aq e vs (l::ls):=by
     apply h.leaves (xd hl.mv Ij.mv)
     intro m' hm
     rcases List.mem_cons.1 hm with hm|hm
     ·exact hl.one m' hm.symm
     ·exact Ij.one m' hm
    exact g
   ·simp [gZ,hl.Pc,Ij.Pc]
   ·intro m' hm
    rcases List.mem_cons.1 hm with hm|hm
    ·exact hl.one m' hm.symm
    ·exact Ij.one m' hm
   ·rw [Nn,←hl.wid,←Ij.wid];rfl
theorem TA {t:TypeId} {I:TI} (hr:mf c.ti P t I) (hc:I.cq=[]):Bg I.lay=I.size:=by
 obtain ⟨d,i,h1,h2,h3,h4⟩:=hr
 cases d<;>simp only [pH] at h4
 case struct fs=>exact h4.2.2.1.2
 case tuple ts=>exact absurd hc h4.2.1
 case slice el=>obtain ⟨_,_,hs,_,_,_,_,k,hl,rfl⟩:=h4;rw [hl,hs];rfl
 case array n el=>obtain ⟨_,_,hs,_,_,_,hl,_⟩:=h4;rw [hl,hs];rfl
 all_goals (obtain ⟨_,_,hs,hl,_⟩:=h4;rw [hl,hs];rfl)
theorem AA {E:TI} {t:TypeId} {x:MV} {K':List aC→Option R} (hr:mf c.ti P t E) (hc:E.cq=[]) (hK:Gr E x K'=some r):
 ∃cs,B0 E.st x cs∧gZ cs=true∧uZ cs=E.size∧K' cs=some r:=by
 have hlw:=TA hr hc
 unfold Gr at hK
 cases dH:E.st with
 |true=>
  simp only [dH,cond_true] at hK
  unfold gA at hK
  split at hK
  ·rename_i ms
   obtain ⟨ls,Ij,ot⟩:=tk (e:=⟨fun n=>n,fun _ _=>none,fun _=>undef,fun _=>0,[]⟩) (vs:=[]) hK
   exact ⟨ls,⟨⟨ms,Ij.mv,by simp [rv]⟩,Ij.one⟩,Ij.Pc,by rw [Ij.wid,hlw],ot⟩
  ·simp at hK
 |false=>
  simp only [dH,cond_false] at hK
  split at hK
  ·rename_i k hl
   obtain ⟨l,uU,ot⟩:=lQ (e:=⟨fun n=>n,fun _ _=>none,fun _=>undef,fun _=>0,[]⟩) (vs:=[]) hK
   refine ⟨[l],⟨⟨[x],uU.mv,by simp [rv]⟩,?_⟩,by simp [gZ,uU.Pc],?_,ot⟩
   ·intro m hm;simp at hm;exact uU.one m hm.symm
   ·rw [←hlw,hl,←uU.wid];rfl
  ·simp at hK
theorem WZ {t:TypeId} {x y:Operand} {I E:TI} (ho:o.op= .indexAddr t x y) (hI:c.tv t=some I) (hE:c.tv I.elem=some E) (hT:j6 P c.ti) (h:bK c Z e st a w)
 (hK:WG c st I E (aJ c st x) (aJ c st y) (fun s=>bj c st o.dst s K)=some r):Rd P c Z K r e a w o (fun _=>True):=by
 obtain ⟨hx,nI⟩:=h.eval x
 obtain ⟨hy,_⟩:=h.eval y
 obtain ⟨qw,hc⟩:=bD hI
 obtain ⟨mn,nq⟩:=bD hE
 have hr:=hT t I qw
 have hrE:=hT _ E mn
 obtain ⟨iE,hiE,hsE,_⟩:=hrE.info nq
 have run: ∀k n aX off len cap,P.underlying t=some (.slice I.elem)→a.eval y= .int k n→a.eval x= .slice (some ⟨aX,off,none⟩) len cap→0≤n→n.toNat<len→
  ∀w:World,(execOp a.eval o).run P w= .ok (.value (.pointer (some ⟨aX,off+n.toNat *E.size,none⟩))) w:=by
  intro k n aX off len cap hu hy hx h0 h1 w
  have h2:n<(len:Int):=by omega
  simp [execOp,ho,hx,hy,Instr.indexAt,asIntOf,run_underlying hu,h0,h2,Go.sizeOf,typeInfo,hiE,hsE,Addr.add_mid]
 generalize aJ c st x=sx at hx hK nI
 generalize aJ c st y=sy at hy hK
 unfold WG at hK
 split at hK
 ·rename_i xs k n
  cases hL:I.w8 with
  |false=>simp [hL] at hK
  |true=>
   simp only [hL,cond_true] at hK
   obtain ⟨h0,m,hm,hK⟩:=Ia hK
   obtain ⟨cs,h1,h2,h3,hK⟩:=AA hrE nq hK
   have dx:n.toNat<xs.length:=(List.getElem?_eq_some_iff.1 hm).1
   simp only [ab,aN] at hx
   obtain ⟨_,hx⟩:=hx
   generalize hv:[a.eval x]=vs at hx
   cases hx with
   |list ad cap _ aX off HM f g1 g2 g3 g4 g5=>
   simp at hv
   have ef:=g5 n.toNat dx
   rw [(List.getElem?_eq_some_iff.1 hm).2] at ef
   have oW:=ef.Ca h1
   have TB:HM=E.size:=by rw [←h3,←oW.width,g3 _ dx]
   rw [g2 (by omega)] at hv
   refine gO (s:= .rp cs 0) h (run k n aX off _ cap (TI.lP hr hL).1 (kQ hy) hv h0 dx) ?_ trivial hK
   simp only [ab]
   refine ⟨aX,off+n.toNat *E.size,f n.toNat,rfl,oW,h2,?_⟩
   intro j hj
   rw [g3 _ dx] at hj
   rw [←TB];exact g4 n.toNat j dx hj
 ·rename_i f k n
  cases hf:aE st.aL f with
  |none=>simp [hf] at hK
  |some fo=>
   simp only [hf] at hK
   cases hL:I.w8 with
   |false=>simp [hL] at hK
   |true=>
    simp only [hL,cond_true] at hK
    obtain ⟨h0,m,hm,hK⟩:=Ia hK
    obtain ⟨cs,h1,h2,h3,hK⟩:=AA hrE nq hK
    have dx:n.toNat<fo.xs.length:=(List.getElem?_eq_some_iff.1 hm).1
    obtain ⟨hv,_⟩:=qN h hx hf
    obtain ⟨J,cells,_,_,dk,_⟩:=(h.gY f fo hf).row
    rcases dk.2 with ⟨h5,h6⟩|⟨g,cap,cM,h5,_⟩
    ·omega
    ·rw [h5] at hv
     refine gO (s:= .ep f n.toNat 0 E.st cs) h (run k n g 0 _ cap (TI.lP hr hL).1 (kQ hy) hv h0 dx) ?_ trivial hK
     simp only [ab]
     intro o2 cc
     rw [h.m,hf] at cc
     cases cc
     exact ⟨g,cap,h5,⟨m,hm,h1⟩,by rw [h3,Nat.zero_add,Nat.add_zero]⟩
 ·rename_i r' o' k n
  cases dH:I.st with
  |true=>simp [dH] at hK
  |false=>
   simp only [dH,cond_false] at hK
   split at hK
   ·rename_i hl
    obtain ⟨JX,hK⟩:=dK hK
    obtain ⟨h0,h1⟩:=of_decide_eq_true JX
    obtain ⟨d,i,hu,h2,h3,h4⟩:=hr
    cases d<;>simp only [pH,hl,dH] at h4<;>first|(exfalso;simp_all;done)|skip
    obtain ⟨_,_,_,rfl,_,⟨ie,VM,na,uV⟩,_⟩:=h4
    simp only [ab] at hx
    refine gO (s:= .hp r' o' n.toNat) (v:= .pointer (some ⟨e.B r',o'+n.toNat,none⟩)) h ?_ ?_ nI hK
    ·simp [execOp,ho,hx,kQ hy,Instr.indexAt,asIntOf,run_underlying hu,h0,h1,Go.sizeOf,typeInfo,na,uV,Instr.sureAddr,Addr.add_mid]
    ·simp only [ab];exact ⟨trivial,by omega⟩
   ·simp at hK
 ·simp at hK
theorem Np {mx:Bool} {k:IntKind} {ss:List Slot}: ∀{vs:List Value} {n:Int} {m:MV},Po mx k n ss=some m→vs.length=ss.length→
 (∀(i:Nat) (v:Value) (s:Slot),vs[i]? =some v→ss[i]? =some s→ab e v s)→
 ∃v,(∀w:World,(vs.foldlM (if mx then Builtin.max2 else Builtin.min2) (.int k n)).run P w= .ok v w)∧ab e v (.sc (.p m)):=by
 induction ss with
 |nil=>
  intro vs n m hm hl hs
  have:=List.eq_nil_of_length_eq_zero hl
  subst this
  simp [Po] at hm
  subst hm
  exact ⟨.int k n,by simp,r8 k n⟩
 |cons s ss ih=>
  intro vs n m hm hl hs
  cases vs with
  |nil=>simp at hl
  |cons v vs=>
   have h0:=hs 0 v s rfl rfl
   unfold Po at hm
   split at hm
   ·rename_i iB;simp at iB
   ·rename_i k' y r' iB
    simp at iB
    obtain ⟨rfl,rfl⟩:=iB
    by_cases hk:k'=k
    ·subst hk
     simp only [decide_true,cond_true] at hm
     obtain ⟨u,h1,h2⟩:=ih hm (by simpa using hl) (fun i v s h1 h2=>hs (i+1) v s (by simpa using h1) (by simpa using h2))
     refine ⟨u,fun w=> ?_,h2⟩
     have h1:=h1 w
     rw [kQ h0]
     cases mx
     ·simp only [cond_false,Za] at h1
      simp [Builtin.min2] at h1⊢
      exact h1
     ·simp only [cond_true,imax] at h1
      simp [Builtin.max2] at h1⊢
      exact h1
    ·simp [hk] at hm
   ·simp at hm
theorem Fe {cl:Call} {mx:Bool} {m:MV} (ho:o.op= .call cl) (hb:cl.callee= .builtin (if mx then .max else .min)) (h:bK c Z e st a w)
 (hm:J7 mx (hU c st cl.args.toList)=some m) (hK:bj c st o.dst (.sc (.p m)) K=some r):Rd P c Z K r e a w o (fun _=>True):=by
 rw [gz] at hm
 cases hl:cl.args.toList with
 |nil=>rw [hl] at hm;simp [J7] at hm
 |cons x xs=>
  rw [hl] at hm
  simp only [List.map_cons] at hm
  obtain ⟨hx,_⟩:=h.eval x
  generalize aJ c st x=s at hx hm
  unfold J7 at hm
  split at hm
  ·rename_i k n ss iB
   simp at iB
   obtain ⟨rfl,rfl⟩:=iB
   obtain ⟨v,h1,h2⟩:=Np (e:=e) (P:=P) (vs:=xs.map a.eval) hm (by simp) (by
    intro i v s h1 h2
    simp only [List.getElem?_map,Option.map_eq_some_iff] at h1 h2
    obtain ⟨y,h3,rfl⟩:=h1
    obtain ⟨y',h4,rfl⟩:=h2
    rw [h3] at h4;cases h4
    exact (h.eval y).1)
   have eE:(cl.args.map a.eval).toList= .int k n::xs.map a.eval:=by simp [hl,kQ hx]
   refine gO (v:=v) h ?_ h2 trivial hK
   intro w
   have h1:=h1 w
   cases mx
   ·simp at hb h1
    have P0: ∀ts t,(Builtin.min_ ts t (cl.args.map a.eval)).run P w= .ok v w:=by intro ts t;unfold Builtin.min_;rw [eE];exact h1
    simp [execOp,ho,resolve,hb,invoke,builtin,P0]
   ·simp at hb h1
    have P0: ∀ts t,(Builtin.max_ ts t (cl.args.map a.eval)).run P w= .ok v w:=by intro ts t;unfold Builtin.max_;rw [eE];exact h1
    simp [execOp,ho,resolve,hb,invoke,builtin,P0]
  ·simp at hm
end
end Dn
/-
  Parts of slices and texts. Conditions: none.
-/
set_option linter.unusedSimpArgs false
set_option linter.unusedVariables false
namespace Dn
open Go
section
variable {P:Program} {c:Ctx} {Z:bw} {e:Env} {st:St} {a:Act} {w w':World} {R:Type} {K:St→Option R} {r:R} {Q:Exit→Act→World→Prop} {o:Oper}
theorem tl {b:Bool} {lo hi:Option Operand} {len cap:Nat} {K':Nat→Nat→Option R} (h:bK c Z e st a w) (zH:len≤cap) (hK:sliceB (kz c st lo) (kz c st hi) len K'=some r):
 ∃l h',l≤h'∧h'≤len∧(lo=none→l=0)∧(∀w:World,(Instr.sliceBounds b len cap (lo.map a.eval) (hi.map a.eval) none).run P w= .ok (l,h',cap) w)∧K' l h'=some r:=by
 have bnd: ∀(k:IntKind) (n:Int) (y:Nat) (cd:BoundsCode),0≤n→n≤(y:Int)→ ∀w:World,(Instr.sliceBound (.int k n) y cd).run P w= .ok n.toNat w:=by
  intro k n y cd h1 h2 w
  simp [Instr.sliceBound,asIntOf,h1,h2]
 unfold sliceB at hK
 cases lo with
 |none=>
  cases hi with
  |none=>
   simp only [kz] at hK
   exact ⟨0,len,by omega,by omega,fun _=>rfl,by simp [Instr.sliceBounds],hK⟩
  |some y=>
   obtain ⟨hy,_⟩:=h.eval y
   simp only [kz] at hK
   generalize aJ c st y=sy at hy hK
   split at hK<;>first|(simp_all;done)|skip
   ·rename_i k n h1 h2
    simp at h2;subst h2
    obtain ⟨JX,hK⟩:=dK hK
    obtain ⟨h3,h4,h5⟩:=of_decide_eq_true JX
    refine ⟨0,n.toNat,by omega,by omega,fun _=>rfl,?_,hK⟩
    have:=bnd k n cap (if b then .sliceAcap else .sliceAlen) h4 (by omega)
    cases b<;>simp at this<;>simp [Instr.sliceBounds,kQ hy,this]
 |some x=>
  obtain ⟨hx,_⟩:=h.eval x
  cases hi with
  |none=>
   simp only [kz] at hK
   generalize aJ c st x=sx at hx hK
   split at hK<;>first|(simp_all;done)|skip
   ·rename_i k n h1 h2
    simp at h1;subst h1
    obtain ⟨JX,hK⟩:=dK hK
    obtain ⟨h3,h4,h5⟩:=of_decide_eq_true JX
    refine ⟨n.toNat,len,by omega,by omega,by simp,?_,by simpa using hK⟩
    have:=bnd k n len .sliceB h3 h4
    simp [Instr.sliceBounds,kQ hx,this]
  |some y=>
   obtain ⟨hy,_⟩:=h.eval y
   simp only [kz] at hK
   generalize aJ c st x=sx at hx hK
   generalize aJ c st y=sy at hy hK
   split at hK<;>first|(simp_all;done)|skip
   ·rename_i k n k' n' h1 h2
    simp at h1 h2;subst h1;subst h2
    obtain ⟨JX,hK⟩:=dK hK
    obtain ⟨h3,h4,h5⟩:=of_decide_eq_true JX
    refine ⟨n.toNat,n'.toNat,by omega,by omega,by simp,?_,hK⟩
    have t1:=bnd k' n' cap (if b then .sliceAcap else .sliceAlen) (by omega) (by omega)
    have t2:=bnd k n n'.toNat .sliceB h3 (by omega)
    cases b<;>simp at t1<;>simp [Instr.sliceBounds,kQ hx,kQ hy,t1,t2]
theorem kD.sub {key:Nat→Nat} {φ:Ph} {ad:Option Addr} {len cap:Nat} {xs:List MV} {l h' size:Nat} (hv:kD key φ [.slice ad len cap] (.list xs)) (hl:l≤h') (hh:h'≤xs.length)
 (hw:l≠0→ ∀x∈xs,x.w=size):len=xs.length∧len≤cap∧kD key φ [.slice (if cap=l then ad else ad.map (·.add (l *size))) (h'-l) (cap-l)] (.list ((xs.take h').drop l)):=by
 generalize wK:[Value.slice ad len cap]=vs at hv
 cases hv with
 |list ad' WW _ aX off HM f g1 g2 g3 g4 g5=>
 simp at wK
 obtain ⟨rfl,rfl,rfl⟩:=wK
 refine ⟨rfl,g1,?_⟩
 have hlen:((xs.take h').drop l).length=h'-l:=by simp;omega
 have Zy:kD key φ [.slice (if cap=l then ad else ad.map (·.add (l *size))) ((xs.take h').drop l).length (cap-l)] (.list ((xs.take h').drop l)):=by
  have nb: ∀i,i<((xs.take h').drop l).length→i+l<xs.length:=by intro i hi;omega
  have SX: ∀(i:Nat) (hi:i<((xs.take h').drop l).length),((xs.take h').drop l)[i]=xs[i+l]'(nb i hi):=by
   intro i hi
   simp [Nat.add_comm]
  refine .list _ _ _ aX (off+l *HM) HM (fun i=>f (i+l)) (by rw [hlen];omega) ?_ ?_ ?_ ?_
  ·intro h0
   have cG:cap≠l:=by omega
   have W0:0<xs.length:=by omega
   rw [g2 W0]
   simp only [cG,if_false,Option.map_some,Option.some.injEq]
   by_cases Zz:l=0
   ·subst Zz;simp [Addr.add_mid]
   ·have TB:HM=size:=by
     have h3:=g5 0 W0
     rw [←g3 0 W0,h3.width]
     exact hw Zz _ (List.getElem_mem W0)
    rw [TB,Addr.add_mid]
  ·intro i hi;exact g3 _ (nb i hi)
  ·intro i j hi hj
   have:=g4 (i+l) j (nb i hi) hj
   rw [←this]
   congr 1
   rw [Nat.add_mul];omega
  ·intro i hi
   rw [SX i hi]
   exact g5 (i+l) (nb i hi)
 rw [hlen] at Zy
 exact Zy
theorem yt {n:Nat} {l:List MV} (h:rZ n l=true): ∀x∈l,x.w=n:=by
 intro x hx
 unfold rZ at h
 rw [List.all_eq_true] at h
 exact Nat.eq_of_beq_eq_true (h x hx)
theorem aS.rZ {key:Nat→Nat} {φ:Ph} {size:Nat} {xs:List MV}: ∀{cs:List Value},aS key φ size cs xs→ ∀x∈xs,x.w=size:=by
 induction xs with
 |nil=>intro cs _ x hx;simp at hx
 |cons y ys ih=>
  intro cs h x hx
  obtain ⟨v,q,rfl,h1,h2,h3⟩:=h
  rcases List.mem_cons.1 hx with rfl|hx
  ·rw [←h2.width,h1]
  ·exact ih h3 x hx
theorem P1 {t:TypeId} {x:Operand} {lo hi:Option Operand} {I:TI} (ho:o.op= .slice t x lo hi none) (hI:c.tv t=some I) (hT:j6 P c.ti) (h:bK c Z e st a w)
 (hK:J8 c I st (aJ c st x) (kz c st lo) (kz c st hi) (fun s st=>bj c st o.dst s K)=some r):Rd P c Z K r e a w o (fun _=>True):=by
 obtain ⟨hx,nI⟩:=h.eval x
 obtain ⟨qw,hc⟩:=bD hI
 have hr:=hT t I qw
 have run: ∀{el E},P.underlying t=some (.slice el)→c.ti el=some E→E.cq=[]→ ∀ad len cap l h',a.eval x= .slice ad len cap→(∀w:World,(Instr.sliceBounds true len cap (lo.map a.eval) (hi.map a.eval) none).run P w= .ok (l,h',cap) w)→
  ∀w:World,(execOp a.eval o).run P w= .ok (.value (.slice (if cap=l then ad else ad.map (·.add (l *E.size))) (h'-l) (cap-l))) w:=by
  intro el E hu hE nq ad len cap l h' hv hb w
  obtain ⟨iE,hiE,hsE,_⟩:=(hT _ E hE).info nq
  simp [execOp,ho,Instr.sliceAt,Instr.slice,run_underlying hu,hv,hb,Go.sizeOf,typeInfo,hiE,hsE]
 generalize hs:aJ c st x=s at hx hK nI
 unfold J8 at hK
 split at hK
 ·rename_i bs
  cases hS:I.SW with
  |false=>simp [hS] at hK
  |true=>
   simp only [hS,cond_true] at hK
   have hu:=TI.GI hr hS
   obtain ⟨b,hb,rfl⟩:=B7 hx
   have pI:b.data.toList.length=b.size:=by rw [Array.length_toList];rfl
   rw [pI] at hK
   obtain ⟨l,h',h1,h2,_,h3,hK⟩:=tl (P:=P) (b:=false) (cap:=b.size) h (Nat.le_refl _) hK
   refine gO (s:= .sc (.p (.s ((b.data.toList.take h').drop l)))) (v:= .string (b.extract l h')) h ?_ ?_ trivial hK
   ·simp [execOp,ho,Instr.sliceAt,Instr.slice,run_underlying hu,hb,h3]
   ·have:=To (e:=e) (b.extract l h')
    have h5:(b.extract l h').data.toList=(b.data.toList.take h').drop l:=by
     rw [ByteArray.data_extract,Array.toList_extract,List.extract_eq_take_drop,List.drop_take]
    rwa [h5] at this
 ·rename_i xs
  cases hS:I.w8 with
  |false=>simp [hS] at hK
  |true=>
   simp only [hS,cond_true] at hK
   obtain ⟨hu,_⟩:=TI.lP hr hS
   cases hE:c.tv I.elem with
   |none=>simp [hE] at hK
   |some E=>
    simp only [hE] at hK
    obtain ⟨mn,nq⟩:=bD hE
    have uG:(lo≠none→rZ E.size xs=true)∧sliceB (kz c st lo) (kz c st hi) xs.length (fun l h'=>bj c st o.dst (.sc (.p (.list ((xs.take h').drop l)))) K)=some r:=by
     cases lo with
     |none=>exact ⟨by simp,hK⟩
     |some y=>simp only [kz] at hK⊢;obtain ⟨h1,h2⟩:=dK hK;exact ⟨fun _=>h1,h2⟩
    obtain ⟨hw,hK⟩:=uG
    obtain ⟨ad,cap,hv,zH⟩:=Ih hx
    obtain ⟨l,h',h1,h2,h0,h3,hK⟩:=tl (P:=P) (b:=true) (cap:=cap) h zH hK
    simp only [ab,aN] at hx
    rw [hv] at hx
    obtain ⟨_,_,ef⟩:=kD.sub (size:=E.size) hx.2 h1 h2 (fun hl=>yt (hw (fun hn=>hl (h0 hn))))
    refine gO (s:= .sc (.p (.list ((xs.take h').drop l)))) h (run hu mn nq ad _ cap l h' hv h3) ?_ trivial hK
    simp only [ab,aN]
    exact ⟨rfl,ef⟩
 ·rename_i f
  cases hf:aE st.aL f with
  |none=>simp [hf] at hK
  |some fo=>
   simp only [hf] at hK
   cases hS:I.w8&&Nat.beq fo.ty I.elem with
   |false=>simp [hS] at hK
   |true=>
    simp only [hS,cond_true] at hK
    simp only [Bool.and_eq_true] at hS
    obtain ⟨hu,E,mn,nq,_⟩:=TI.lP hr hS.1
    have iD:=Nat.eq_of_beq_eq_true hS.2
    obtain ⟨hvE,ad,cap,hv,zH⟩:=qN h hx hf
    simp only [ab] at hx
    obtain ⟨J,cells,hJ,_,_,gQ,_⟩:=(h.gY f fo hf).row
    rw [iD,mn] at hJ
    cases hJ
    have hwx:=gQ.rZ
    obtain ⟨e',bN,m,vZ,Tx,Ic,ef,hK,_,hm⟩:=qM h hx hK
    obtain ⟨o2,cc,rfl⟩:=hm.1 f rfl
    rw [hf] at cc
    cases cc
    obtain ⟨l,h',h1,h2,h0,h3,hK⟩:=tl (P:=P) (b:=true) (cap:=cap) h zH hK
    rw [hv] at ef
    obtain ⟨_,_,ef⟩:=kD.sub (size:=E.size) ef h1 h2 (fun _=>hwx)
    refine Kn (s:= .sc (.p (.list ((fo.xs.take h').drop l)))) (fun w _=>run hu mn nq ad _ cap l h' hv h3 w) vZ Tx.tr (.of ?_ trivial) hK
    simp only [ab,aN]
    exact ⟨rfl,ef⟩
 ·cases hS:I.w8 with
  |false=>simp [hS] at hK
  |true=>
   simp only [hS,cond_true] at hK
   obtain ⟨hu,E,mn,nq,_⟩:=TI.lP hr hS
   simp only [ab] at hx
   have hx:[a.eval x]=[Value.slice none 0 0]:=hx
   simp at hx
   obtain ⟨l,h',h1,h2,_,h3,hK⟩:=tl (P:=P) (b:=true) (cap:=0) h (Nat.le_refl _) hK
   have h4:h'=0:=by omega
   have h5:l=0:=by omega
   subst h4;subst h5
   refine gO (s:= .sc .nil) h (run hu mn nq none 0 0 0 0 hx h3) ?_ trivial hK
   simp only [ab,if_true]
   rfl
 ·simp at hK
end
end Dn
/-
  Stores. Conditions: none.
-/
set_option linter.unusedSimpArgs false
set_option linter.unusedVariables false
namespace Dn
open Go
section
variable {P:Program} {c:Ctx} {Z:bw} {e e':Env} {st:St} {a:Act} {w w':World} {R:Type} {K:St→Option R} {r:R} {Q:Exit→Act→World→Prop} {o:Oper}
theorem Cc (x:jV) (i:Nat) (b:UInt8) (hi:i<32):bh (x.put i b)=(bh x).take i++[.int .u8 (b.toNat:Int)]++(bh x).drop (i+1):=by
 have:bh (x.put i b)=(bh x).set i (.int .u8 (b.toNat:Int)):=by simp [bh,jV.put,List.map_set]
 have hl:=cu x
 rw [this,List.set_eq_take_append_cons_drop,if_pos (by omega)]
 simp
structure P2 (e e':Env):Prop where
 key:e'.key=e.key
 φ:o6 e.φ e'.φ
 gY: ∀f o',aE e'.m f=some o'→(∃o,aE e.m f=some o)∧e'.E f=e.E f
theorem aN.P3 (h:P2 e e') {vs:List Value} {l:aC} (hr:aN e vs l):aN e' vs l:=by
 cases l with
 |p m=>exact ⟨hr.1,by have:=hr.2.mono h.φ;rw [←h.key] at this;exact this⟩
 |own f=>
  obtain ⟨v,rfl,hv,hf⟩:=hr
  refine ⟨v,rfl,hv,fun o' xA=> ?_⟩
  obtain ⟨⟨o,ho⟩,hE⟩:=h.gY f o' xA
  rw [hE];exact hf o ho
 |_=>exact hr
theorem aq.P3 (h:P2 e e') {cs:List aC}: ∀{vs:List Value},aq e vs cs→aq e' vs cs:=by
 induction cs with
 |nil=>intro vs hr;exact hr
 |cons l r ih=>intro vs hr;obtain ⟨v,w,rfl,h1,h2⟩:=hr;exact ⟨v,w,rfl,h1.P3 h,ih h2⟩
def LZ (f:Nat) (s:Slot):Slot:=match s with
 | .ep g i o b cs=>bif Nat.beq g f then .sc .un else .ep g i o b cs
 |s=>s
theorem r9 (f:Nat) (r:Fr) (t:Nat):aj (u7 f r) t=LZ f (aj r t):=B3 (LZ f) rfl r t
theorem Nq (f:Nat) (s:Slot):cr (LZ f s)=cr s:=by
 cases s<;>simp only [LZ]
 rename_i g _ _ _ _
 cases Nat.beq g f<;>rfl
theorem ab.P3 {f:Nat} {T:Nat→Prop} (h:P2 e e') (rB:jG (· ≠f) T e e') {v:Value} {s:Slot} (hT:eD (fun _=>True) T s) (hr:ab e v s):ab e' v (LZ f s):=by
 cases s with
 |sc l=>
  simp only [LZ]
  cases l with
  |un=>simp [ab]
  |hs x=>simpa [ab] using hr
  |p m=>simp only [ab] at hr⊢;exact hr.P3 h
  |nil=>simp only [ab] at hr⊢;exact hr.P3 h
  |mp s es=>simp only [ab] at hr⊢;exact hr
  |own f=>simp only [ab] at hr⊢;exact hr.P3 h
 |ag cs=>simp only [LZ,ab] at hr⊢;obtain ⟨arr,h1,h2⟩:=hr;exact ⟨arr,h1,h2.P3 h⟩
 |ep g i o b cs=>
  simp only [LZ]
  cases hb:Nat.beq g f
  ·simp only [cond_false]
   refine hr.on rB ?_
   simp only [eD];intro e;subst e;simp [eC] at hb
  ·simp [ab]
 |_=>exact hr.on rB hT
theorem iK.P3 (h:P2 e e') (hk:e'.key=e.key) (hp:o6 e.φ e'.φ) {o:Obj} {cs:List aC} (hr:iK e o cs):iK e' o cs:=by
 cases o with
 |cells arr T z=>exact ⟨hr.1,hr.2.P3 h⟩
 |map es clock=>exact hr
 |stringIter x pos=>exact hr
 |_=>exact hr.elim
theorem aS.set {key:Nat→Nat} {φ:Ph} {size:Nat} {xs:List MV}: ∀{cs:List Value} {i:Nat} {x:MV} {v':List Value},aS key φ size cs xs→i<xs.length→v'.length=size→kD key φ v' x→
 aS key φ size (cs.take (i *size)++v'++cs.drop (i *size+size)) (xs.set i x):=by
 induction xs with
 |nil=>intro cs i x v' _ hi;simp at hi
 |cons y ys ih=>
  intro cs i x v' h hi hl hr
  obtain ⟨v,q,rfl,h1,h2,h3⟩:=h
  cases i with
  |zero=>simp only [Nat.zero_mul,List.take_zero,List.nil_append,Nat.zero_add,List.set_cons_zero];exact ⟨v',q,by rw [List.drop_left' h1],hl,hr,h3⟩
  |succ i=>
   have:=ih h3 (by simpa using hi) hl hr
   rw [List.set_cons_succ]
   refine ⟨v,_,?_,h1,h2,this⟩
   rw [Nat.succ_mul,List.take_append,List.drop_append,List.take_of_length_le (by omega),List.drop_of_length_le (by omega)]
   rw [show i *size+size-v.length=i *size by omega,show i *size+size+size-v.length=i *size+size by omega]
   simp
theorem bK.W5 {f:Nat} {fo:mr} {I:TI} {g i:Nat} {cap:Nat} {cM:Array Value} {v' cells:List Value} {x:MV} (h:bK c Z e st a w) (hf:aE st.aL f=some fo) (hz:fo.dD=false)
 (hI:c.ti fo.ty=some I) (PW:I.cq=[]) (hE:e.E f= .slice (some ⟨g,0,none⟩) fo.xs.length cap) (dk:w.ownsRow 0 fo.ty I.size (e.E f) fo.xs.length cells) (hg:w.heap[g]? =some (.cells cM fo.ty (0,0)))
 (gQ:aS e.key e.φ I.size cells fo.xs)
 (hi:i<fo.xs.length) (hl:v'.length=I.size) (hr:kD e.key e.φ v' x) (xF:f∉Z.b5):
 bK c Z {e with m:=bF e.m f ⟨fo.ty,false,fo.xs.set i x⟩} {st with fr:=u7 f st.fr,aL:=bF st.aL f ⟨fo.ty,false,fo.xs.set i x⟩} a
  (w.setRow g (cM.toList.take (i *I.size)++v'++cM.toList.drop (i *I.size+I.size)).toArray)∧Z g:=by
 have hb:(e.E f).ownBlock=some g:=by rw [hE];rfl
 have hZ:Z g∧ ∀off,e.φ g off=none:=by
  obtain ⟨J,tj,_,_,_,_,h5⟩:=(h.gY f fo hf).row
  obtain ⟨h6,h7⟩:=h5 g hb
  refine ⟨H5 h6 xF,fun off=> ?_⟩
  cases hp:e.φ g off with
  |none=>rfl
  |some u=>have:=(h7.1 off u hp).1;rw [hz] at this;cases this
 have pI:=setRow_size w g (cM.toList.take (i *I.size)++v'++cM.toList.drop (i *I.size+I.size)).toArray
 have hE1:P2 e {e with m:=bF e.m f ⟨fo.ty,false,fo.xs.set i x⟩}:=by
  refine ⟨rfl,.refl _,fun f2 o2 cc=>⟨?_,rfl⟩⟩
  have cc:aE (bF e.m f ⟨fo.ty,false,fo.xs.set i x⟩) f2=some o2:=cc
  rw [a8] at cc
  by_cases dU:f2=f
  ·exact ⟨fo,by rw [dU,h.m];exact hf⟩
  ·simp only [dU,if_false] at cc;exact ⟨o2,cc⟩
 have rB:jG (· ≠f) (fun _=>True) e {e with m:=bF e.m f ⟨fo.ty,false,fo.xs.set i x⟩}:=by
  refine ⟨rfl,.refl _,fun _ _=>rfl,fun f2 o2 cc cG=> ?_⟩
  have cc:aE (bF e.m f ⟨fo.ty,false,fo.xs.set i x⟩) f2=some o2:=cc
  rw [a8] at cc
  simp only [cG,if_false] at cc;exact ⟨o2,cc,rfl,rfl⟩
 have nb: ∀f2 o2,aE (bF st.aL f ⟨fo.ty,false,fo.xs.set i x⟩) f2=some o2→ ∃o3,aE st.aL f2=some o3:=by
  intro f2 o2 cc
  rw [a8] at cc
  by_cases dU:f2=f
  ·exact ⟨fo,by rw [dU];exact hf⟩
  ·simp only [dU,if_false] at cc;exact ⟨o2,cc⟩
 refine ⟨⟨h.defers,h.size,by show bF e.m f _=bF st.aL f _;rw [h.m],h.key,?_,?_,?_,?_,?_,?_,?_,?_,fun b hb=>h.b3 b (by omega)⟩,hZ.1⟩
 ·show (aK (u7 f st.fr)).Nodup
  have:aK (u7 f st.fr)=aK st.fr:=by simp [aK,u7]
  rw [this];exact h.nodup
 ·intro t
  show bI Z _ _ t _ (aj (u7 f st.fr) t)
  rw [r9]
  have hs:=h.slot t
  have Tw:=h.bf t
  generalize aj st.fr t=s at hs Tw
  by_cases zI: ∃cs,s= .box cs
  ·obtain ⟨cs,rfl⟩:=zI
   simp only [bI,LZ] at hs⊢
   refine ⟨hs.1,hs.2.b3,?_,hs.2.free⟩
   obtain ⟨o2,h1,h2⟩:=hs.2.obj
   refine ⟨o2,?_,h2.P3 hE1 rfl (.refl _)⟩
   rw [setRow_other _ _ _ _ (by intro eb;exact Tw cs f fo rfl hf (by rw [hb,←eb]))];exact h1
  ·have vZ:ab e (a.tmps.getD t undef) s:=by cases s<;>simp only [bI] at hs<;>first|exact hs|exact absurd ⟨_,rfl⟩ zI
   have h2:=vZ.P3 (f:=f) hE1 rB (df s)
   generalize Nr:LZ f s=s2 at h2
   cases s2<;>first|exact h2|(exfalso;simp [ab] at h2)
 ·intro t
  show b6 (u7 f st.fr) (aj (u7 f st.fr) t)
  rw [r9]
  have nI:=h.root t
  generalize aj st.fr t=s at nI
  have hk: ∀q,cr (aj (u7 f st.fr) q)=cr (aj st.fr q):=fun q=>by rw [r9,Nq]
  cases s with
  |ptr q o=>show cr (aj (u7 f st.fr) q)=true;rw [hk];exact nI
  |hp q o i=>show cr (aj (u7 f st.fr) q)=true;rw [hk];exact nI
  |uY q=>show cr (aj (u7 f st.fr) q)=true;rw [hk];exact nI
  |ep g' _ _ _ _=>simp only [LZ];cases Nat.beq g' f<;>trivial
  |_=>trivial
 ·intro f2 o2 cc
  have cc:aE (bF st.aL f ⟨fo.ty,false,fo.xs.set i x⟩) f2=some o2:=cc
  rw [a8] at cc
  by_cases dU:f2=f
  ·subst dU
   simp at cc
   subst cc
   obtain ⟨hlen,Ii⟩:=dk
   refine ⟨I,cells.take (i *I.size)++v'++cells.drop (i *I.size+I.size),hI,PW,⟨?_,?_⟩,?_,?_⟩
   ·have hle:i *I.size+I.size≤fo.xs.length *I.size:=by rw [←Nat.succ_mul];exact Nat.mul_le_mul_right _ hi
    simp only [List.length_append,List.length_take,List.length_drop,List.length_set];omega
   ·have hle:i *I.size+I.size≤fo.xs.length *I.size:=by rw [←Nat.succ_mul];exact Nat.mul_le_mul_right _ hi
    rcases Ii with ⟨h1,_⟩|⟨g2,nr,sa,h1,_,h3,h4,h5,h6,h7⟩
    ·rw [hE] at h1;simp at h1
    ·rw [hE] at h1
     simp at h1
     obtain ⟨rfl,rfl⟩:=h1
     rw [hg] at h3
     simp at h3
     subst h3
     refine .inr ⟨g,cap,(cM.toList.take (i *I.size)++v'++cM.toList.drop (i *I.size+I.size)).toArray,by rw [hE];simp,by omega,setRow_heap _ _ _ _ _ _ hg,by simpa using h4,h5,?_,?_⟩
     ·have nt:cM.toList.length=cM.size:=by simp
      have hcz:fo.xs.length *I.size≤cap *I.size:=Nat.mul_le_mul_right _ h4
      simp only [List.size_toArray,List.length_append,List.length_take,List.length_drop,nt];omega
     ·have nt:cM.toList.length=cM.size:=by simp
      have hcz:fo.xs.length *I.size≤cap *I.size:=Nat.mul_le_mul_right _ h4
      simp only [List.length_set]
      rw [←h7]
      have e1:(cM.toList.take (fo.xs.length *I.size)).take (i *I.size)=cM.toList.take (i *I.size):=by rw [List.take_take,Nat.min_eq_left (by omega)]
      have e2:(cM.toList.take (fo.xs.length *I.size)).drop (i *I.size+I.size)=(cM.toList.drop (i *I.size+I.size)).take (fo.xs.length *I.size-(i *I.size+I.size)):=by rw [List.drop_take]
      rw [e1,e2]
      have e3:(cM.toList.take (i *I.size)++v').length=i *I.size+I.size:=by simp only [List.length_append,List.length_take,nt];omega
      show List.take _ (cM.toList.take (i *I.size)++v'++cM.toList.drop (i *I.size+I.size))=_
      rw [List.take_append,e3,List.take_of_length_le (by omega)]
   ·exact gQ.set hi hl hr
   ·intro aX iM
    rw [hb] at iM
    cases iM
    exact ⟨.inr hZ.1,fun off u hu=>(by have hu:e.φ g off=some u:=hu;rw [hZ.2] at hu;cases hu),fun _ hf=>Bool.noConfusion hf⟩
  ·simp only [dU,if_false] at cc
   obtain ⟨I2,tj,h1,h2,h3,h4,h5⟩:=(h.gY f2 o2 cc).row
   exact ⟨I2,tj,h1,h2,Kr (fun hk=>dU (h.ff f2 f o2 fo g cc hf hk hb)) h3,h4,h5⟩
 ·intro t t' c1 c2 h1 h2 cG
  have h1:aj (u7 f st.fr) t= .box c1:=h1
  have h2:aj (u7 f st.fr) t'= .box c2:=h2
  rw [r9] at h1 h2
  have g1:aj st.fr t= .box c1:=by
   generalize aj st.fr t=s at h1
   cases s<;>simp only [LZ] at h1<;>first|exact h1|(simp at h1;done)|(rename_i g' _ _ _ _;cases zw:Nat.beq g' f<;>simp [zw] at h1)
  have g2:aj st.fr t'= .box c2:=by
   generalize aj st.fr t'=s at h2
   cases s<;>simp only [LZ] at h2<;>first|exact h2|(simp at h2;done)|(rename_i g' _ _ _ _;cases zw:Nat.beq g' f<;>simp [zw] at h2)
  exact h.bb t t' c1 c2 g1 g2 cG
 ·intro t c1 f2 o2 h1 h2
  have h1:aj (u7 f st.fr) t= .box c1:=h1
  rw [r9] at h1
  have g1:aj st.fr t= .box c1:=by
   generalize aj st.fr t=s at h1
   cases s<;>simp only [LZ] at h1<;>first|exact h1|(simp at h1;done)|(rename_i g' _ _ _ _;cases zw:Nat.beq g' f<;>simp [zw] at h1)
  obtain ⟨o3,O8⟩:=nb f2 o2 h2
  exact h.bf t c1 f2 o3 g1 O8
 ·intro f1 f2 o1 o2 k h1 h2 h3 h4
  obtain ⟨q1,g1⟩:=nb f1 o1 h1
  obtain ⟨q2,g2⟩:=nb f2 o2 h2
  exact h.ff f1 f2 q1 q2 k g1 g2 h3 h4
 ·intro b off v hv
  have hv:e.φ b off=some v:=hv
  have cG:b≠g:=by intro eb;subst eb;rw [hZ.2] at hv;cases hv
  rw [World.cell?_of_block (setRow_other _ _ _ _ cG)];exact h.mZ b off v hv
theorem aq.adK {cs:List aC}: ∀{vs:List Value} {ms:List MV},aq e vs cs→bt cs=some ms→fP e.key e.φ vs ms:=by
 induction cs with
 |nil=>intro vs ms h hm;cases h;simp [bt] at hm;subst hm;exact .nil
 |cons l r ih=>
  intro vs ms h hm
  obtain ⟨v,u,rfl,h1,h2⟩:=h
  cases hr:bt r with
  |none=>cases l<;>simp [bt,hr] at hm
  |some q=>
   cases l<;>simp [bt,hr] at hm
   ·subst hm;exact .cons v _ u q h1.2 (ih h2 hr)
   ·subst hm
    have h1:v=bh _:=h1
    subst h1
    exact .cons _ _ u q (.h _) (ih h2 hr)
theorem P4 {b:Bool} {ms:List MV} {x:MV} {vs:List Value} (h:fP e.key e.φ vs ms) (hx:rv b ms=some x):kD e.key e.φ vs x:=by
 cases b with
 |true=>cases ms<;>simp [rv] at hx<;>subst hx<;>exact .agg _ _ h
 |false=>
  cases ms with
  |nil=>simp [rv] at hx
  |cons m ms=>
   cases ms with
   |cons y ys=>simp [rv] at hx
   |nil=>
    simp [rv] at hx
    subst hx
    generalize wK:vs=JW at h
    cases h with
    |cons v _ u _ h1 h2=>cases h2;simpa using h1
theorem P5 {t:TypeId} {x y:Operand} {I:TI} (ho:o.op= .store t x y) (hI:c.tv t=some I) (hT:j6 P c.ti) (h:bK c Z e st a w)
 (hK:stK st I (aJ c st x) (aJ c st y) (fun st=>bj c st o.dst (.sc .un) K)=some r):o.wp P a w (Out c Z K r e.φ w) Q:=by
 obtain ⟨hx,nI⟩:=h.eval x
 obtain ⟨hy,_⟩:=h.eval y
 obtain ⟨qw,hc⟩:=bD hI
 have hr:=hT t I qw
 have go: ∀w' bN,(Instr.storeAt t (a.eval x) (a.eval y)).run P w= .ok () w'→bK c Z e bN a w'→Trans Z e.φ w e.φ w'→bj c bN o.dst (.sc .un) K=some r→o.wp P a w (Out c Z K r e.φ w) Q:=by
  intro w' bN h1 h2 h3 h4
  refine yp ?_ h2 h3 h4
  simp [execOp,ho,h1]
 generalize aJ c st x=sx at hx hK nI
 generalize aJ c st y=sy at hy hK
 unfold stK at hK
 cases hb:r6 (aF sy)||!Nat.beq (uZ (aF sy)) I.size with
 |true=>simp [hb] at hK
 |false=>
  simp only [hb,cond_false] at hK
  simp only [Bool.or_eq_false_iff,Bool.not_eq_false'] at hb
  have Bh:=Nat.eq_of_beq_eq_true hb.2
  have dS:0<I.size:=by
   rcases hr.agg hc with ⟨d,hu,hd,hh⟩|⟨_,_,_,_,hh⟩
   ·obtain ⟨d',i',h1,h2,h3,h4⟩:=hr
    cases d'<;>simp only [pH] at h4<;>first|omega|exact h4.2.2.1|exact absurd hc h4.2.1
   ·omega
  have cG:aF sy≠[]:=by intro e0;rw [e0] at Bh;simp [uZ] at Bh;omega
  have hcv:=xc hy hb.1 cG
  split at hK
  ·rename_i root off
   simp only [ab] at hx
   split at hK
   ·rename_i cs qx
    have uh:ee cs=false:=by cases hq:ee cs<;>simp_all
    simp only [uh,cond_false] at hK
    cases hp:putAt cs off (aF sy) with
    |none=>simp [hp] at hK
    |some eR=>
     simp only [hp] at hK
     obtain ⟨w',bN,h1,h2,h3,h4⟩:=Nl (P:=P) uh hr hc h qx hcv Bh hp hK
     exact go w' bN (by rw [hx];exact h1) h2 h3 h4
   ·simp at hK
  ·rename_i root off i
   simp only [ab] at hx
   obtain ⟨hx,Kq⟩:=hx
   split at hK
   ·rename_i cs n qx
    have uh:ee cs=false:=by cases hq:ee cs<;>simp_all
    simp only [uh,cond_false] at hK
    split at hK
    ·rename_i x ls WT
     unfold gI at hK
     split at hK
     ·rename_i k n
      by_cases hk:k= .u8
      ·subst hk
       simp only [decide_true,cond_true] at hK
       obtain ⟨yu,hK⟩:=dK hK
       unfold isByte at yu
       have yu:=of_decide_eq_true yu
       have hyv:=kQ hy
       cases hp:putAt cs off [.hs (x.put i (UInt8.ofNat n.toNat))] with
       |none=>simp [hp] at hK
       |some eR=>
        simp only [hp] at hK
        have lO:=h.slot root
        rw [qx] at lO
        obtain ⟨arr,T,cB,oW⟩:=lO.2.cells uh
        obtain ⟨p1,p2,p3,he,h1,h2,h3⟩:=te (ws:=bh (x.put i (UInt8.ofNat n.toNat))) hp oW ⟨_,[],by simp,rfl,rfl⟩
        obtain ⟨u1,u2,hu,h4,h5⟩:=vc WT oW
        obtain ⟨u3,u4,rfl,h6,_⟩:=h5
        have h6:u3=bh x:=h6
        subst h6
        have hlx:=cu x
        have hly:=cu (x.put i (UInt8.ofNat n.toNat))
        have hpu:p1=u1∧p2++p3=bh x++u4:=List.append_inj (by rw [←List.append_assoc,←he,hu]) (by omega)
        obtain ⟨rfl,hpu⟩:=hpu
        obtain ⟨rfl,rfl⟩:=List.append_inj hpu (by omega)
        have pI:arr.size=p1.length+32+p3.length:=by
         have:arr.toList.length=(p1++bh x++p3).length:=by rw [he]
         simp at this
         omega
        have GJ:(a.eval y).cells.toList=[.int .u8 n]:=by rw [hyv];simp [Value.cells]
        have JV:I.size=1:=by rw [←Bh];rfl
        have bH:=lC (P:=P) (w:=w) (aX:=e.B root) (off:=off+i) (v:=a.eval y) hr hc (by rw [GJ,JV];rfl) (by rw [GJ];simp [Value.oneCell']) cB (by omega)
        have jX:arr.toList.take (off+i)++(a.eval y).cells.toList++arr.toList.drop (off+i+I.size)=p1++bh (x.put i (UInt8.ofNat n.toNat))++p3:=by
         rw [GJ,JV,he,Cc x i _ Kq,←yu,List.append_assoc p1,List.take_append,List.drop_append,List.take_append,List.drop_append]
         rw [List.take_of_length_le (by omega),List.drop_of_length_le (by omega)]
         rw [show off+i-p1.length=i by omega,show off+i+1-p1.length=i+1 by omega,show i-(bh x).length=0 by omega,show i+1-(bh x).length=0 by omega]
         simp
        rw [jX] at bH
        unfold wr at hK
        cases hn:bp st.b4 root with
        |true=>simp [hn] at hK
        |false=>
         simp only [hn,cond_false,force_eq,kE] at hK
         exact go _ _ (by rw [hx];exact bH) (h.PV qx cB (by simpa using h3) (fun t=>by rw [bA]) (dw h.nodup)) (.setRow _ (H5 lO.2.b3 (by rw [←h.defers.2.1,←bq,hn];simp))) hK
      ·simp [hk] at hK
     ·simp at hK
    ·simp at hK
   ·simp at hK
  ·rename_i f i off b cs
   obtain ⟨e1,dR,ms,uV,Bi,zG,Fa,hK,PY,yr⟩:=lk h hcv hK
   have hx:=hx.on Bi.on (df _)
   cases hf:aE dR.aL f with
   |none=>simp [hf] at hK
   |some fo=>
    simp only [hf] at hK
    cases hz:fo.dD with
    |true=>simp [hz] at hK
    |false=>
     simp only [hz,cond_false] at hK
     cases H7:oo (aF sy) ms with
     |none=>simp [H7] at hK
     |some vs=>
      simp only [H7] at hK
      obtain ⟨wK,_⟩:=yr vs H7
      cases hp:putAt cs off vs with
      |none=>simp [hp] at hK
      |some eR=>
       simp only [hp] at hK
       cases hm:bt eR with
       |none=>simp [hm] at hK
       |some ms'=>
        simp only [hm] at hK
        cases W6:rv b ms' with
        |none=>simp [W6] at hK
        |some x'=>
         simp only [W6] at hK
         cases hn:bp dR.b5 f with
         |true=>simp [hn] at hK
         |false=>
          simp only [hn,cond_false,WK,mw] at hK
          simp only [ab] at hx
          obtain ⟨aX,cap,hE,⟨x0,W0,SX⟩,P6⟩:=hx fo (by rw [uV.m];exact hf)
          obtain ⟨J,cells,hJ,VI,dk,gQ,_⟩:=(uV.gY f fo hf).row
          have hi:i<fo.xs.length:=(List.getElem?_eq_some_iff.1 W0).1
          obtain ⟨p1,v1,p2,hce,BK,uU,ef⟩:=gQ.at W0
          have oW:=ef.Ca SX
          have hw1:=oW.width
          obtain ⟨q1,q2,q3,Nh,hq1,hq2,jX⟩:=te hp oW wK
          have ZA:(a.eval y).cells.toList.length=I.size:=by rw [hcv.width,Bh]
          have ZB:=P4 (jX.adK hm) W6
          obtain ⟨hlen,Ii⟩:=dk
          rcases Ii with ⟨g1,_⟩|⟨g2,nr,cM,g1,g0,g3,g4,g5,g6,g7⟩
          ·rw [hE] at g1;simp at g1
          ·have Ff:w.ownsRow 0 fo.ty J.size (e1.E f) fo.xs.length cells:=⟨hlen,.inr ⟨g2,nr,cM,g1,g0,g3,g4,g5,g6,g7⟩⟩
           rw [hE] at g1
           simp at g1
           obtain ⟨rfl,rfl⟩:=g1
           have hvl:(q1++(a.eval y).cells.toList++q3).length=J.size:=by
            have:v1.length=(q1++q2++q3).length:=by rw [Nh]
            simp only [List.length_append] at this⊢;omega
           obtain ⟨ou,hZ⟩:=uV.W5 hf hz hJ VI hE Ff g3 gQ hi hvl ZB (by rw [←uV.defers.2.2.1,←bq,hn];simp)
           have P7:cM.toList=p1++q1++q2++(q3++p2++cM.toList.drop (fo.xs.length *J.size)):=by
            have:=List.take_append_drop (fo.xs.length *J.size) cM.toList
            rw [g7,hce,Nh] at this
            refine this.symm.trans ?_
            simp
           have ahT:q2.length=I.size:=by rw [hq2,ZA]
           have Es:(p1++q1).length=i *J.size+off:=by simp [BK,hq1]
           have ahU:cM.size=(p1++q1).length+I.size+(q3++p2++cM.toList.drop (fo.xs.length *J.size)).length:=by
            have:cM.toList.length=(p1++q1++q2++(q3++p2++cM.toList.drop (fo.xs.length *J.size))).length:=by rw [←P7]
            rw [List.length_append,List.length_append] at this
            rw [Array.length_toList] at this
            omega
           have bH:=lC (P:=P) (w:=w) (aX:=aX) (off:=i *J.size+off) (v:=a.eval y) hr hc ZA hcv.cells g3 (by omega)
           have sb:cM.toList.take (i *J.size+off)++(a.eval y).cells.toList++cM.toList.drop (i *J.size+off+I.size)=
            cM.toList.take (i *J.size)++(q1++(a.eval y).cells.toList++q3)++cM.toList.drop (i *J.size+J.size):=by
            have t1:cM.toList.take (i *J.size+off)=p1++q1:=by
             conv=>lhs;rw [P7,List.append_assoc (p1++q1)]
             exact List.take_left' Es
            have t2:cM.toList.drop (i *J.size+off+I.size)=q3++p2++cM.toList.drop (fo.xs.length *J.size):=by
             conv=>lhs;rw [P7]
             exact List.drop_left' (by rw [List.length_append];omega)
            have t3:cM.toList.take (i *J.size)=p1:=by
             conv=>lhs;rw [P7]
             simp only [List.append_assoc]
             exact List.take_left' BK
            have t4:cM.toList.drop (i *J.size+J.size)=p2++cM.toList.drop (fo.xs.length *J.size):=by
             have Ik:cM.toList=(p1++(q1++q2++q3))++(p2++cM.toList.drop (fo.xs.length *J.size)):=by
              conv=>lhs;rw [P7]
              simp
             conv=>lhs;rw [Ik]
             exact List.drop_left' (by rw [List.length_append,←Nh];omega)
            rw [t1,t2,t3,t4]
            simp
           rw [sb] at bH
           have adN:i *uZ cs+off=i *J.size+off:=by rw [←hw1,uU]
           refine yp (w':=w.setRow aX (cM.toList.take (i *J.size)++(q1++(a.eval y).cells.toList++q3)++cM.toList.drop (i *J.size+J.size)).toArray) ?_ ou ?_ hK
           ·rw [adN] at P6
            simp [execOp,ho,P6,bH]
           ·exact Bi.tr.trans (.setRow _ hZ)
  ·simp at hK
end
end Dn
/-
  Structs and sums that are put together. Conditions: none.
-/
set_option linter.unusedSimpArgs false
set_option linter.unusedVariables false
namespace Dn
open Go
section
variable {P:Program} {c:Ctx} {Z:bw} {e e':Env} {st:St} {a:Act} {w w':World} {R:Type} {K:St→Option R} {r:R} {Q:Exit→Act→World→Prop} {o:Oper}
theorem Fg {place:Nat→Option (Nat×Nat)} {cells:Array Value} {i off:Nat} {v:Value} {rest:List (Nat×Value)} (hp:place i=some (off,v.cells.size)) (hle:off+v.cells.size≤cells.size):
 Instr.fill place cells ((i,v)::rest)=Instr.fill place (cells.toList.take off++v.cells.toList++cells.toList.drop (off+v.cells.size)).toArray rest:=by
 conv=>lhs;unfold Instr.fill
 simp only [hp]
 rw [if_neg (by simp;omega)]
 congr 1
 rw [←Array.foldl_toList,Array.toList_zipIdx]
 obtain ⟨h1,h2⟩:=Go.Great.foldl_set off v.cells.toList 0 cells
 apply Array.ext_getElem?
 intro k
 have hl:(cells.toList.take off).length=off:=by simp;omega
 have e0:=h2 k
 simp only [Nat.add_zero,Array.length_toList] at e0
 refine Eq.trans e0 ?_
 have e1:(cells.toList.take off++v.cells.toList++cells.toList.drop (off+v.cells.size)).toArray[k]? =(cells.toList.take off++v.cells.toList++cells.toList.drop (off+v.cells.size))[k]? :=by simp
 rw [e1,List.append_assoc]
 have e2:cells[k]? =cells.toList[k]? :=by simp
 by_cases h3:k<off
 ·rw [if_neg (by omega),List.getElem?_append_left (by omega),List.getElem?_take,if_pos h3,e2]
 ·rw [List.getElem?_append_right (by omega),hl]
  by_cases h4:k<off+v.cells.size
  ·rw [if_pos ⟨by omega,h4,by omega⟩,List.getElem?_append_left (by simp;omega)]
  ·rw [if_neg (by omega),List.getElem?_append_right (by simp;omega),List.getElem?_drop,e2]
   congr 1
   simp;omega
theorem Kv {I:TI} {places:List (Nat×Nat)} (h:bK c Z e st a w) (H7: ∀(i q y:Nat) (J:TI),I.xv[i]? =some q→I.M8[i]? =some y→c.tv y=some J→places[i]? =some (q,J.size)∧0<J.size) {parts:List (Nat×Operand)}:
 ∀{cs ds:List aC} {cells:Array Value},aq e cells.toList cs→xw c st I parts cs=some ds→
 ∃out,Instr.fill (places.toArray[·]?) cells (parts.map fun p=>(p.1,a.eval p.2))=some out∧aq e out.toList ds:=by
 induction parts with
 |nil=>intro cs ds cells hl hb;simp [xw] at hb;subst hb;exact ⟨cells,rfl,hl⟩
 |cons p ps ih=>
  intro cs ds cells hl hb
  obtain ⟨i,x⟩:=p
  simp only [xw] at hb
  split at hb
  ·rename_i q y hq hy
   cases hJ:c.tv y with
   |none=>simp [hJ] at hb
   |some J=>
    simp only [hJ] at hb
    obtain ⟨hpi,dS⟩:=H7 i q y J hq hy hJ
    cases hu:r6 (aF (aJ c st x))||!Nat.beq (uZ (aF (aJ c st x))) J.size with
    |true=>simp [hu] at hb
    |false=>
     simp only [hu,cond_false] at hb
     simp only [Bool.or_eq_false_iff,Bool.not_eq_false'] at hu
     have Bh:=Nat.eq_of_beq_eq_true hu.2
     cases hp:putAt cs q (aF (aJ c st x)) with
     |none=>simp [hp] at hb
     |some eR=>
      simp only [hp] at hb
      have cG:aF (aJ c st x)≠[]:=by intro e0;rw [e0] at Bh;simp [uZ] at Bh;omega
      have hv:=xc (h.eval x).1 hu.1 cG
      obtain ⟨p1,p2,p3,he,h1,h2,h3⟩:=te hp hl hv
      have hlen:(a.eval x).cells.size=J.size:=by rw [←Bh,←hv.width];simp
      have pI:cells.size=p1.length+p2.length+p3.length:=by
       have:cells.toList.length=(p1++p2++p3).length:=by rw [he]
       simp at this;omega
      have Ie:p2.length=(a.eval x).cells.size:=by rw [h2];simp
      have Fh:=Fg (place:=(places.toArray[·]?)) (cells:=cells) (i:=i) (off:=q) (v:=a.eval x) (rest:=ps.map fun p=>(p.1,a.eval p.2)) (by rw [hlen];simpa using hpi) (by omega)
      have ht:cells.toList.take q++(a.eval x).cells.toList++cells.toList.drop (q+(a.eval x).cells.size)=p1++(a.eval x).cells.toList++p3:=by
       rw [he]
       rw [List.append_assoc p1 p2 p3,List.take_left' h1,←List.append_assoc p1 p2 p3,List.drop_left' (by rw [List.length_append];omega)]
      rw [ht] at Fh
      obtain ⟨out,h4,h5⟩:=ih (cells:=(p1++(a.eval x).cells.toList++p3).toArray) (by simpa using h3) hb
      exact ⟨out,by rw [List.map_cons,Fh];exact h4,h5⟩
  ·simp at hb
theorem Kw {parts:List (Nat×Operand)} (h:bK c Z e st a w): ∀{x:jV} {K':jV→Option R},BU c st parts x K'=some r→
 ∃y,Instr.fill (fun i=>some (i *1,1)) (bh x).toArray (parts.map fun p=>(p.1,a.eval p.2))=some (bh y).toArray∧K' y=some r:=by
 induction parts with
 |nil=>intro x K' hb;exact ⟨x,rfl,hb⟩
 |cons p ps ih=>
  intro x K' hb
  obtain ⟨i,y⟩:=p
  simp only [BU] at hb
  split at hb
  ·rename_i m hm
   cases hi:Nat.ble 32 i with
   |true=>simp [hi] at hb
   |false=>
    simp only [hi,cond_false] at hb
    have Kq:i<32:=by
     by_cases dx:i<32
     ·exact dx
     ·have:Nat.ble 32 i=true:=Nat.ble_eq_true_of_le (by omega)
      simp_all
    unfold gI at hb
    split at hb
    ·rename_i k n
     by_cases hk:k= .u8
     ·subst hk
      simp only [decide_true,cond_true] at hb
      obtain ⟨yu,hb⟩:=dK hb
      unfold isByte at yu
      have yu:=of_decide_eq_true yu
      obtain ⟨out,h1,h2⟩:=ih hb
      have hv:=kQ (by have:=(h.eval y).1;rw [hm] at this;exact this)
      refine ⟨out,?_,h2⟩
      rw [←h1,List.map_cons]
      have JX:(a.eval y).cells= #[.int .u8 n]:=by rw [hv];simp [Value.cells]
      have Fh:=Fg (place:=fun i=>some (i *1,1)) (cells:=(bh x).toArray) (i:=i) (off:=i *1) (v:=a.eval y) (rest:=ps.map fun p=>(p.1,a.eval p.2)) (by rw [JX];rfl) (by rw [JX];have:=cu x;simp;omega)
      rw [Fh,Cc x i _ Kq,←yu,JX]
      simp
     ·simp [hk] at hb
    ·simp at hb
  ·simp at hb
theorem Ns (P:Program) (l:List Field):(∀f∈l,∃i,P.info? f.type=some i)→
 ∃places,l.mapM (fun f=>(P.info? f.type).map fun i=>(f.offset,i.size))=some places∧ ∀(k:Nat) (f:Field),l[k]? =some f→ ∃i,P.info? f.type=some i∧places[k]? =some (f.offset,i.size):=by
 induction l with
 |nil=>intro _;exact ⟨[],by simp,by simp⟩
 |cons f fs ih=>
  intro h
  obtain ⟨i,hi⟩:=h f (by simp)
  obtain ⟨ps,h1,h2⟩:=ih (fun g hg=>h g (by simp [hg]))
  refine ⟨(f.offset,i.size)::ps,by simp [List.mapM_cons,hi,h1],?_⟩
  intro k g hg
  cases k with
  |zero=>simp at hg;subst hg;exact ⟨i,hi,rfl⟩
  |succ k=>simp at hg;simpa using h2 k g hg
theorem P8 {t:TypeId} {parts:Array (Nat×Operand)} {I:TI} (ho:o.op= .build t parts) (hI:c.tv t=some I) (hT:j6 P c.ti) (h:bK c Z e st a w)
 (hK:(bif I.st then (match xw c st I parts.toList I.zero with|some cs=>bj c st o.dst (.ag cs) K|none=>none)
  else (match I.lay with|[.h]=>BU c st parts.toList jV.zero fun x=>bj c st o.dst (.sc (.hs x)) K|_=>none))=some r):Rd P c Z K r e a w o (fun _=>True):=by
 obtain ⟨qw,hc⟩:=bD hI
 obtain ⟨d,i,h1,h2,h3,h4⟩:=hT t I qw
 have Pd:(parts.map fun (i,x)=>(i,a.eval x)).toList=parts.toList.map fun p=>(p.1,a.eval p.2):=by simp
 have run: ∀out,P.built t (parts.toList.map fun p=>(p.1,a.eval p.2))=some out→ ∀w:World,(execOp a.eval o).run P w= .ok (.value (.agg out)) w:=by
  intro out hb w
  have:=run_build (P:=P) w t (parts.map fun (i,x)=>(i,a.eval x)) out (by rw [Pd];exact hb)
  simp [execOp,ho] at this⊢
  simp [this]
 cases dH:I.st with
 |true=>
  simp only [dH,cond_true] at hK
  cases d<;>simp only [pH] at h4
  case struct fs=>
   obtain ⟨_,_,_,VJ,cc,O8,zc,hz,ZC,_⟩:=h4
   cases hb:xw c st I parts.toList I.zero with
   |none=>simp [hb] at hK
   |some cs=>
    simp only [hb] at hK
    have adO: ∃places,fs.toList.mapM (fun f=>(P.info? f.type).map fun i=>(f.offset,i.size))=some places∧
     (∀(i q y:Nat) (J:TI),I.xv[i]? =some q→I.M8[i]? =some y→c.tv y=some J→places[i]? =some (q,J.size)∧0<J.size):=by
     obtain ⟨places,PY,Fb⟩:=Ns P fs.toList (by
      intro f hf
      obtain ⟨k,hk,rfl⟩:=List.mem_iff_getElem.1 hf
      obtain ⟨J,hJ,VI,_⟩:=O8 k fs.toList[k] (by simp at hk⊢)
      obtain ⟨i,hi,_⟩:=(hT _ J hJ).info VI
      exact ⟨i,hi⟩)
     refine ⟨places,PY,?_⟩
     intro i q y J hq hy hJ
     rw [←VJ,List.getElem?_map] at hq
     rw [←cc,List.getElem?_map] at hy
     cases hf:fs.toList[i]? with
     |none=>simp [hf] at hq
     |some f=>
      simp [hf] at hq hy
      subst hq;subst hy
      obtain ⟨J2,hJ2,adP,dS⟩:=O8 i f (by simpa using hf)
      obtain ⟨hJt,_⟩:=bD hJ
      rw [hJ2] at hJt
      cases hJt
      obtain ⟨i2,Pe,adQ⟩:=Fb i f hf
      obtain ⟨i3,hi3,W7,_⟩:=(hT _ J hJ2).info adP
      rw [Pe] at hi3
      cases hi3
      exact ⟨by rw [adQ,W7],dS⟩
    obtain ⟨places,H7,Kx⟩:=adO
    obtain ⟨out,h5,h6⟩:=Kv h Kx (cells:=zc) (j7 ZC) hb
    refine gO (v:= .agg out) (s:= .ag cs) h (run out ?_) ?_ trivial hK
    ·unfold Program.built
     simp only [h2,h1,hz,H7]
     exact h5
    ·simp only [ab];exact ⟨out,rfl,h6⟩
  all_goals (exfalso;simp_all)
 |false=>
  simp only [dH,cond_false] at hK
  split at hK
  ·rename_i hl
   cases d<;>simp only [pH,hl,dH] at h4<;>first|(exfalso;simp_all;done)|skip
   obtain ⟨_,_,_,rfl,rfl,⟨ie,hu,na,uV⟩,_,_,hz⟩:=h4
   obtain ⟨y,h5,h6⟩:=Kw h hK
   refine gO (v:= .agg (bh y).toArray) (s:= .sc (.hs y)) h (run _ ?_) ?_ trivial h6
   ·unfold Program.built
    simp only [h2,h1,hz,na,uV]
    exact h5
   ·simp only [ab]
  ·simp at hK
end
end Dn
/-
  A family comes to have other content. Conditions: none.
-/
set_option linter.unusedSimpArgs false
set_option linter.unusedVariables false
namespace Dn
open Go
section
variable {P:Program} {c:Ctx} {Z:bw} {e e':Env} {st:St} {a:Act} {w w':World} {R:Type} {K:St→Option R} {r:R} {Q:Exit→Act→World→Prop} {o:Oper}
def Env.xG (e:Env) (f:Nat) (v:Value) (fo:mr):Env:={e with E:=fun g=>if g=f then v else e.E g,m:=bF e.m f fo}
def St.xG (st:St) (f:Nat) (fo:mr):St:={st with fr:=jW f st.fr,aL:=bF st.aL f fo}
theorem zJ (f:Nat) (s:Slot):cr (xb f s)=cr s:=by
 cases s<;>simp only [xb,cr]
 rename_i g _ _ _ _
 cases Nat.beq g f<;>rfl
theorem qO {f:Nat} {s:Slot} {cs:List aC} (h:xb f s= .box cs): ∃Bj,s= .box Bj∧cs=Bj.map (HN f):=by
 cases s<;>simp only [xb] at h<;>first|(simp at h;done)|(rename_i g _ _ _ _;cases hb:Nat.beq g f<;>simp [hb] at h;done)|skip
 rename_i Bj
 simp at h
 exact ⟨Bj,rfl,h.symm⟩
theorem bK.iI {f:Nat} {fo:mr} {v':Value} (h:bK c Z e st a w) (xF:f∉Z.b5) (e9:cF c Z.nc e w' v' fo) (agf:w.heap.size≤w'.heap.size)
 (cB: ∀b,b<w.heap.size→(∀o,aE st.aL f=some o→(e.E f).ownBlock≠some b)→w'.heap[b]? =w.heap[b]?)
 (iC: ∀b o v,e.φ b o=some v→w'.cell? ⟨b,o,none⟩=some v)
 (jX: ∀b,v'.ownBlock=some b→w.heap.size≤b∨ ∃o,aE st.aL f=some o∧(e.E f).ownBlock=some b):
 bK c Z (e.xG f v' fo) (st.xG f fo) a w':=by
 have rB:jG (· ≠f) (fun _=>True) e (e.xG f v' fo):=by
  refine ⟨rfl,.refl _,fun _ _=>rfl,fun f2 o2 cc cG=> ?_⟩
  have cc:aE (bF e.m f fo) f2=some o2:=cc
  rw [a8] at cc
  simp only [cG,if_false] at cc
  exact ⟨o2,cc,by simp [Env.xG,cG],rfl⟩
 have P9: ∀t cs,aj st.fr t= .box cs→e.B t<w.heap.size:=by
  intro t cs ht
  have hs:=h.slot t
  rw [ht] at hs
  obtain ⟨o2,h1,_⟩:=hs.2.obj
  exact bm h1
 have rz: ∀t cs,aj st.fr t= .box cs→w'.heap[e.B t]? =w.heap[e.B t]? :=by
  intro t cs ht
  exact cB _ (P9 t cs ht) (fun o ho=>h.bf t cs f o ht ho)
 refine ⟨h.defers,h.size,by show bF e.m f _=bF st.aL f _;rw [h.m],h.key,?_,?_,?_,?_,?_,?_,?_,iC,fun b hb=>h.b3 b (by omega)⟩
 ·show (aK (jW f st.fr)).Nodup
  have:aK (jW f st.fr)=aK st.fr:=by simp [aK,jW]
  rw [this];exact h.nodup
 ·intro t
  show bI Z _ _ t _ (aj (jW f st.fr) t)
  rw [ft]
  have hs:=h.slot t
  have Bk:=rz t
  generalize aj st.fr t=s at hs Bk
  by_cases zI: ∃cs,s= .box cs
  ·obtain ⟨cs,rfl⟩:=zI
   simp only [bI,xb] at hs⊢
   refine ⟨hs.1.jY (Km f _),hs.2.b3,?_,hs.2.free⟩
   obtain ⟨o2,h1,h2⟩:=hs.2.obj
   refine ⟨o2,by show w'.heap[e.B t]? =_;rw [Bk cs rfl];exact h1,?_⟩
   refine (h2.map (fun _ _=>aN.kill f) (fun _ _=>rfl)).on rB ?_
   intro l hl
   obtain ⟨x,_,rfl⟩:=List.mem_map.1 hl
   exact B6 f x
  ·have vZ:ab e (a.tmps.getD t undef) s:=by cases s<;>simp only [bI] at hs<;>first|exact hs|exact absurd ⟨_,rfl⟩ zI
   have h2:=(vZ.kill f).on rB (PN f _ s (df s))
   generalize Nr:xb f s=s2 at h2
   cases s2<;>first|exact h2|(exfalso;simp [ab] at h2)
 ·intro t
  show b6 (jW f st.fr) (aj (jW f st.fr) t)
  rw [ft]
  have nI:=h.root t
  generalize aj st.fr t=s at nI
  have hk: ∀q,cr (aj (jW f st.fr) q)=cr (aj st.fr q):=fun q=>by rw [ft,zJ]
  cases s with
  |ptr q o=>show cr (aj (jW f st.fr) q)=true;rw [hk];exact nI
  |hp q o i=>show cr (aj (jW f st.fr) q)=true;rw [hk];exact nI
  |uY q=>show cr (aj (jW f st.fr) q)=true;rw [hk];exact nI
  |ep g' _ _ _ _=>simp only [xb];cases Nat.beq g' f<;>trivial
  |_=>trivial
 ·intro f2 o2 cc
  have cc:aE (bF st.aL f fo) f2=some o2:=cc
  rw [a8] at cc
  by_cases dU:f2=f
  ·subst dU
   simp at cc
   subst cc
   have:=(e9.to xF).env (e':=e.xG f2 v' fo) rfl rfl
   simpa [Env.xG] using this
  ·simp only [dU,if_false] at cc
   obtain ⟨I2,tj,h1,h2,h3,h4,h5⟩:=(h.gY f2 o2 cc).row
   refine ⟨I2,tj,h1,h2,?_,h4,?_⟩
   ·show w'.ownsRow 0 o2.ty I2.size (if f2=f then v' else e.E f2) o2.xs.length tj
    rw [if_neg dU]
    refine ⟨h3.1,?_⟩
    rcases h3.2 with h6|⟨g,cap,cM,g1,g2,g3,g4⟩
    ·exact .inl h6
    ·refine .inr ⟨g,cap,cM,g1,g2,?_,g4⟩
     rw [cB g (bm g3) (fun o ho hk=>dU (h.ff f2 f o2 o g cc ho (by rw [g1];rfl) hk))];exact g3
   ·intro aX hb
    have hb:(if f2=f then v' else e.E f2).ownBlock=some aX:=hb
    rw [if_neg dU] at hb
    exact h5 aX hb
 ·intro t t' c1 c2 h1 h2 cG
  have h1:aj (jW f st.fr) t= .box c1:=h1
  have h2:aj (jW f st.fr) t'= .box c2:=h2
  rw [ft] at h1 h2
  obtain ⟨d1,g1,_⟩:=qO h1
  obtain ⟨d2,g2,_⟩:=qO h2
  exact h.bb t t' d1 d2 g1 g2 cG
 ·intro t c1 f2 o2 h1 h2
  have h1:aj (jW f st.fr) t= .box c1:=h1
  have h2:aE (bF st.aL f fo) f2=some o2:=h2
  rw [ft] at h1
  rw [a8] at h2
  obtain ⟨d1,g1,_⟩:=qO h1
  show (if f2=f then v' else e.E f2).ownBlock≠some (e.B t)
  by_cases dU:f2=f
  ·rw [if_pos dU]
   intro hb
   rcases jX _ hb with h3|⟨o,h3,h4⟩
   ·have:=P9 t d1 g1;omega
   ·exact h.bf t d1 f o g1 h3 h4
  ·rw [if_neg dU]
   simp only [dU,if_false] at h2
   exact h.bf t d1 f2 o2 g1 h2
 ·intro f1 f2 o1 o2 k h1 h2 h3 h4
  have h1:aE (bF st.aL f fo) f1=some o1:=h1
  have h2:aE (bF st.aL f fo) f2=some o2:=h2
  have h3:(if f1=f then v' else e.E f1).ownBlock=some k:=h3
  have h4:(if f2=f then v' else e.E f2).ownBlock=some k:=h4
  rw [a8] at h1 h2
  have zv: ∀g og,aE st.aL g=some og→(e.E g).ownBlock=some k→k<w.heap.size:=by
   intro g og hg hk
   obtain ⟨I2,tj,_,_,g3,_⟩:=(h.gY g og hg).row
   rcases g3.2 with ⟨g5,_⟩|⟨b,cap,cM,g5,_,g6,_⟩
   ·rw [g5] at hk;simp [Value.ownBlock] at hk
   ·rw [g5] at hk;simp only [Value.ownBlock,Option.some.injEq] at hk;subst hk;exact bm g6
  by_cases GK:f1=f
  ·by_cases xe:f2=f
   ·rw [GK,xe]
   ·rw [if_pos GK] at h3
    rw [if_neg xe] at h4
    simp only [xe,if_false] at h2
    rcases jX k h3 with h5|⟨o,h5,h6⟩
    ·have:=zv f2 o2 h2 h4;omega
    ·exact GK.trans (h.ff f f2 o o2 k h5 h2 h6 h4)
  ·rw [if_neg GK] at h3
   simp only [GK,if_false] at h1
   by_cases xe:f2=f
   ·rw [if_pos xe] at h4
    rcases jX k h4 with h5|⟨o,h5,h6⟩
    ·have:=zv f1 o1 h1 h3;omega
    ·exact (h.ff f1 f o1 o k h1 h5 h3 h6).trans xe.symm
   ·rw [if_neg xe] at h4
    simp only [xe,if_false] at h2
    exact h.ff f1 f2 o1 o2 k h1 h2 h3 h4
theorem pu {f:Nat} {fo:mr} (hK:iI st f fo K=some r):K (st.xG f fo)=some r:=by
 unfold Dn.iI at hK
 cases hn:bp st.b5 f with
 |true=>simp [hn] at hK
 |false=>simpa [hn,PK,mw,St.xG] using hK
theorem bK.YN {f:Nat} {fo:mr} (h:bK c Z e st a w) (hK:Dn.iI st f fo K=some r):f∉Z.b5:=by
 intro hm
 rw [←h.defers.2.2.1,←bq] at hm
 simp [Dn.iI,hm] at hK
theorem vg {f:Nat} {fo:mr} {v:Value} (h1:v.oneCell'=true):ab (e.xG f v fo) v (.sc (.own f)):=by
 simp only [ab]
 exact ⟨v,rfl,h1,fun o ho=>by simp [Env.xG]⟩
end
end Dn
/-
  What is appended. Conditions: none.
-/
set_option linter.unusedSimpArgs false
set_option linter.unusedVariables false
namespace Dn
open Go
section
variable {P:Program} {c:Ctx} {Z:bw} {e e':Env} {st:St} {a:Act} {w w':World} {R:Type} {K:St→Option R} {r:R} {Q:Exit→Act→World→Prop} {o:Oper}
theorem nu {t:TypeId} {I:TI} (hr:mf c.ti P t I) (hc:I.cq=[]): ∃i z,P.info? t=some i∧i.size=I.size∧i.bytes=I.bytes∧i.zero=some z∧z.cells.size=I.size:=by
 obtain ⟨d,i,h1,h2,h3,h4⟩:=hr
 obtain ⟨h5,h6⟩:=h3 hc
 cases d<;>simp only [pH] at h4
 case struct fs=>obtain ⟨_,_,_,_,_,_,cs,hz,_,hs⟩:=h4;exact ⟨i,_,h2,h5,h6,hz,by simpa [Value.cells] using hs⟩
 case tuple ts=>exact absurd hc h4.2.1
 case slice el=>obtain ⟨_,_,hs,_,_,hz,_⟩:=h4;exact ⟨i,_,h2,h5,h6,hz,by rw [hs];rfl⟩
 case array n el=>obtain ⟨_,_,hs,_,_,_,_,_,hz⟩:=h4;exact ⟨i,_,h2,h5,h6,hz,by rw [hs];simp [Value.cells,cu]⟩
 case bool=>obtain ⟨_,_,hs,_,_,hz⟩:=h4;exact ⟨i,_,h2,h5,h6,hz,by rw [hs];rfl⟩
 case int k=>obtain ⟨_,_,hs,_,_,hz⟩:=h4;exact ⟨i,_,h2,h5,h6,hz,by rw [hs];rfl⟩
 case string=>obtain ⟨_,_,hs,_,_,b,hz,_⟩:=h4;exact ⟨i,_,h2,h5,h6,hz,by rw [hs];rfl⟩
 all_goals
  obtain ⟨_,_,hs,_,v,hz,hv,_⟩:=h4
  refine ⟨i,v,h2,h5,h6,hz,?_⟩
  rw [hs]
  cases v<;>simp_all [Value.cells,Value.oneCell']
structure Src (e:Env) (w:World) (size:Nat) (v:Value) (ys:List MV) (news:List Value):Prop where
 W8:aS e.key e.φ size news ys
 val: ∃ad cap,v= .slice ad ys.length cap∧(ad=none→ys=[])∧ ∀x,ad=some x→ ∀(j:Nat) (u:Value),news[j]? =some u→w.cell? (x.add j)=some u
theorem aS.vh {key:Nat→Nat} {φ:Ph} {size:Nat} {xs:List MV}: ∀{cs:List Value},aS key φ size cs xs→ ∀u∈cs,u.oneCell'=true:=by
 induction xs with
 |nil=>intro cs h;cases h;simp
 |cons x xs ih=>
  intro cs h u hu
  obtain ⟨v,q,rfl,_,h2,h3⟩:=h
  rcases List.mem_append.1 hu with hu|hu
  ·exact h2.cells u hu
  ·exact ih h3 u hu
theorem aS.append {key:Nat→Nat} {φ:Ph} {size:Nat} {xs ys:List MV}: ∀{cs ds:List Value},aS key φ size cs xs→aS key φ size ds ys→aS key φ size (cs++ds) (xs++ys):=by
 induction xs with
 |nil=>intro cs ds h h';cases h;simpa using h'
 |cons x xs ih=>intro cs ds h h';obtain ⟨v,q,rfl,h1,h2,h3⟩:=h;exact ⟨v,q++ds,by simp,h1,h2,ih h3 h'⟩
theorem Cd {key:Nat→Nat} {φ:Ph} {size:Nat} {xs:List MV}: ∀{f:Nat→List Value},(∀i,i<xs.length→(f i).length=size)→(∀(i:Nat) (h:i<xs.length),kD key φ (f i) xs[i])→
 ∃cs,aS key φ size cs xs∧ ∀(i j:Nat),i<xs.length→j<size→cs[i *size+j]? =(f i)[j]? :=by
 induction xs with
 |nil=>intro f _ _;exact ⟨[],rfl,fun i j hi=>by simp at hi⟩
 |cons x xs ih=>
  intro f h1 h2
  obtain ⟨cs,h3,h4⟩:=ih (f:=fun i=>f (i+1)) (fun i hi=>h1 (i+1) (by simpa using hi)) (fun i hi=>h2 (i+1) (by simpa using hi))
  have hl:=h1 0 (by simp)
  refine ⟨f 0++cs,⟨f 0,cs,rfl,hl,h2 0 (by simp),h3⟩,?_⟩
  intro i j hi hj
  cases i with
  |zero=>rw [Nat.zero_mul,Nat.zero_add,List.getElem?_append_left (by omega)]
  |succ i=>
   rw [Nat.succ_mul,List.getElem?_append_right (by omega),show i *size+size+j-(f 0).length=i *size+j by omega]
   exact h4 i j (by simpa using hi) hj
theorem Il {I E:TI} {x:Slot} {v:Value} {K':List MV→Option R} (h:bK c Z e st a w) (hE:c.ti I.elem=some E) (dS:0<E.size) (hx:ab e v x) (hK:Gt I E st x K'=some r):
 ∃ys news,Src e w E.size v ys news∧K' ys=some r:=by
 unfold Gt at hK
 split at hK
 ·rename_i xs
  obtain ⟨hw,hK⟩:=dK hK
  simp only [ab,aN] at hx
  obtain ⟨_,hx⟩:=hx
  generalize hv:[v]=vs at hx
  cases hx with
  |list ad cap _ aX off HM f g1 g2 g3 g4 g5=>
  simp at hv
  have TB: ∀i,i<xs.length→(f i).length=E.size:=by
   intro i hi
   rw [(g5 i hi).width]
   exact yt hw _ (List.getElem_mem hi)
  obtain ⟨cs,h1,h2⟩:=Cd TB g5
  refine ⟨xs,cs,⟨h1,ad,cap,hv,?_,?_⟩,hK⟩
  ·intro hn
   cases xs with
   |nil=>rfl
   |cons y ys=>have:=g2 (by simp);rw [hn] at this;cases this
  ·intro x hx j u hj
   have Eh:j<cs.length:=(List.getElem?_eq_some_iff.1 hj).1
   rw [h1.length] at Eh
   have Ce:0<xs.length:=by
    cases xs with
    |nil=>simp at Eh
    |cons y ys=>simp
   have Im:=g2 Ce
   rw [hx] at Im
   cases Im
   have hq:j/E.size<xs.length:=(Nat.div_lt_iff_lt_mul dS).2 Eh
   have hm:=Nat.mod_lt j dS
   have O7:j=j/E.size *E.size+j%E.size:=by rw [Nat.mul_comm];exact (Nat.div_add_mod j E.size).symm
   have e1:=h2 (j/E.size) (j%E.size) hq hm
   rw [←O7,hj] at e1
   have Qa:HM=E.size:=by rw [←g3 0 Ce,TB 0 Ce]
   have e2:=g4 (j/E.size) (j%E.size) hq (by rw [Qa];exact hm)
   rw [←e1,Qa,Nat.add_assoc,←O7] at e2
   have:=h.mZ _ _ _ e2
   rw [Addr.add_mid];exact this
 ·simp only [ab] at hx
  have hx:[v]=[Value.slice none 0 0]:=hx
  simp at hx
  exact ⟨[],[],⟨rfl,none,0,hx,fun _=>rfl,by simp⟩,hK⟩
 ·rename_i f
  cases hf:aE st.aL f with
  |none=>simp [hf] at hK
  |some fo=>
   simp only [hf] at hK
   cases hb:Nat.beq fo.ty I.elem with
   |false=>simp [hb] at hK
   |true=>
    simp only [hb,cond_true] at hK
    have iD:=Nat.eq_of_beq_eq_true hb
    obtain ⟨hv,_⟩:=qN h hx hf
    obtain ⟨J,cells,hJ,_,dk,gQ,_⟩:=(h.gY f fo hf).row
    rw [iD,hE] at hJ
    cases hJ
    refine ⟨fo.xs,cells,⟨gQ,?_⟩,hK⟩
    rcases dk.2 with ⟨h1,h2⟩|⟨g,cap,cM,h1,_⟩
    ·exact ⟨none,0,by rw [hv,h1,h2],fun _=>List.eq_nil_of_length_eq_zero h2,by simp⟩
    ·refine ⟨some ⟨g,0,none⟩,cap,by rw [hv,h1],by simp,?_⟩
     intro x hx j u hj
     cases hx
     exact dk.cells (g:=g) (by rw [h1];rfl) j u hj
 ·simp at hK
end
end Dn
/-
  Appends. Conditions: none.
-/
set_option linter.unusedSimpArgs false
set_option linter.unusedVariables false
namespace Dn
open Go
section
variable {P:Program} {c:Ctx} {Z:bw} {e e':Env} {st:St} {a:Act} {w w':World} {R:Type} {K:St→Option R} {r:R} {Q:Exit→Act→World→Prop} {o:Oper}
structure ZD (w w':World) (el:TypeId) (size:Nat) (v v':Value) (n m:Nat) (cells news:List Value):Prop where
 own:w'.ownsRow 0 el size v' (n+m) (cells++news)
 size:w.heap.size≤w'.heap.size
 zv: ∀k,k<w.heap.size→some k≠v.ownBlock→w'.heap[k]? =w.heap[k]?
 cell: ∀(k off:Nat) (u:Value),v.ownBlock=some k→off<cells.length→w.cell? ⟨k,off,none⟩=some u→w'.cell? ⟨k,off,none⟩=some u
 place:v'.ownBlock=v.ownBlock∨v'.ownBlock=some w.heap.size
 rest:Rest w w'
theorem xH {t ty:TypeId} {I E:TI} {v x:Value} {n:Nat} {cells news:List Value} {ys:List MV} (hu:P.underlying t=some (.slice I.elem)) (hE:c.ti I.elem=some E) (nq:E.cq=[]) (dS:0<E.size)
 (hT:j6 P c.ti) (vi:1≤E.bytes) (dk:w.ownsRow 0 I.elem E.size v n cells) (sd:Src e w E.size x ys news) (mq:(n+ys.length) *E.bytes≤2^46):
 ∃v' w',(Builtin.append_ #[t,t] ty #[v,x]).run P w= .ok v' w'∧ZD w w' I.elem E.size v v' n ys.length cells news:=by
 obtain ⟨i,z,hi,hs,Nt,hz,HQ⟩:=nu (hT _ E hE) nq
 obtain ⟨ad,cap,hx,Fi,Fj⟩:=sd.val
 have BL:=sd.W8.length
 cases ad with
 |none=>
  have ZE:=Fi rfl
  subst ZE
  have AB:news=[]:=List.eq_nil_of_length_eq_zero (by simpa using BL)
  subst AB
  refine ⟨v,w,?_,⟨by simpa using dk,Nat.le_refl _,fun _ _ _=>rfl,fun _ _ _ _ _ h=>h,.inl rfl,.refl _⟩⟩
  rw [hx]
  rcases dk.2 with ⟨rfl,rfl⟩|⟨g,nr,cM,rfl,_,_,Fk,_⟩
  ·simp [Builtin.append_,run_underlying hu,Go.sizeOf,typeInfo,hi,Builtin.lenOf,Builtin.firstCells]
  ·simp [Builtin.append_,run_underlying hu,Go.sizeOf,typeInfo,hi,Builtin.lenOf,Builtin.firstCells,Fk,storeCells]
 |some ad=>
  have hle:n+ys.length≤2^46:=Nat.le_trans (Nat.le_mul_of_pos_right _ vi) mq
  obtain ⟨v',w',hr,h1,h2,h3,h4⟩:=run_append_own_at (P:=P) (w:=w) 0 t ty I.elem i z E.size E.bytes hu hi hz hs Nt HQ dS v n cells dk ad ys.length cap news BL
   (fun j u hj=>Fj ad rfl j u hj) sd.W8.vh (by unfold Go.maxLen;omega) (by omega) (Nat.zero_le _)
  rw [hx]
  refine ⟨v',w',hr,⟨h1,h2.size,fun k hk cG=>h2.block k hk cG,?_,h4,?_⟩⟩
  rotate_left
  ·refine ⟨h2.os,h2.tape,h2.output,fun p=> ?_⟩
   have VN: ∀(cs:Array Value) (p:Addr),(w.drew.alloc (.cells cs I.elem)).frozen? p=w.frozen? p:=fun cs p=>(Rest.alloc w.drew cs I.elem).2.2.2 p
   rcases dk.2 with ⟨hv,Tt⟩|⟨g,nr,cM,hv,_,hg,Fk,BJ,qx,Kt⟩
   ·subst hv;subst Tt
    by_cases hm:ys.length=0
    ·have AB:news=[]:=List.eq_nil_of_length_eq_zero (by rw [BL,hm];simp)
     have ZE:ys=[]:=List.eq_nil_of_length_eq_zero hm
     subst AB;subst ZE
     have:(Builtin.append_ #[t,t] ty #[.slice none 0 0,.slice (some ad) 0 cap]).run P w= .ok (.slice none 0 0) w:=by
      simp [Builtin.append_,run_underlying hu,Go.sizeOf,typeInfo,hi,Builtin.lenOf,Builtin.firstCells,loadCells,loadCellsFrom]
     rw [show ([]:List MV).length=0 from rfl] at hr
     rw [hr] at this
     cases this
     rfl
    ·have:=run_append_nil (P:=P) w t ty I.elem i z hu hi hz ad ys.length cap news (by rw [hs];exact BL) (fun j u hj=>Fj ad rfl j u hj) (by omega) (by omega) (by rw [Nt];simp only [Nat.zero_add] at mq;omega)
     rw [hr] at this
     cases this
     exact VN _ p
   ·subst hv
    by_cases qP:n+ys.length≤nr
    ·have vf:n *i.size+news.length≤cM.size:=by rw [BL,hs,qx,←Nat.add_mul];exact Nat.mul_le_mul_right _ qP
     have:=run_append_room (P:=P) (w:=w) t ty I.elem i hu hi g n nr cM hg ad ys.length cap news (by rw [hs];exact BL) (fun j u hj=>Fj ad rfl j u hj) sd.W8.vh qP vf
     rw [hr] at this
     cases this
     exact (Rest.setRow w g _).2.2.2 p
    ·have holds: ∀j u,cells[j]? =some u→w.cell? ((⟨g,0,none⟩:Addr).add j)=some u:=dk.cells (g:=g) rfl
     have hlen:cells.length=n *i.size:=by rw [hs];exact dk.1
     have ui:(n+ys.length) *i.bytes≤140737488355328:=by rw [Nt];omega
     have:=run_append_grow (P:=P) (w:=w) t ty I.elem i z hu hi hz ⟨g,0,none⟩ n nr cells hlen holds ad ys.length cap news (by rw [hs];exact BL) (fun j u hj=>Fj ad rfl j u hj) (by omega) (by omega) (growslice_fits (by omega) ui)
     rw [hr] at this
     cases this
     exact VN _ p
  intro k off u hk Es hc
  rcases h4 with h4|h4
  ·have oV:=dk.cells (g:=k) hk off
   have hj:cells[off]? =some cells[off]:=List.getElem?_eq_getElem Es
   have e1:=oV _ hj
   rw [Addr.add_mid,Nat.zero_add] at e1
   rw [hc] at e1
   cases e1
   have e2:=h1.cells (g:=k) (by rw [h4,hk]) off cells[off] (by rw [List.getElem?_append_left Es];exact hj)
   rw [Addr.add_mid,Nat.zero_add] at e2
   exact e2
  ·rcases dk.2 with ⟨hv,_⟩|⟨g,nr,cM,hv,_,hg,Fk,BJ,qx,Kt⟩
   ·rw [hv] at hk;simp [Value.ownBlock] at hk
   ·have hkg:k=g:=by rw [hv] at hk;simp [Value.ownBlock] at hk;exact hk.symm
    subst hkg
    have dx:=bm hg
    subst hv
    by_cases qP:n+ys.length≤nr
    ·exfalso
     have vf:n *i.size+news.length≤cM.size:=by rw [BL,hs,qx,←Nat.add_mul];exact Nat.mul_le_mul_right _ qP
     have:=run_append_room (P:=P) (w:=w) t ty I.elem i hu hi k n nr cM hg ad ys.length cap news (by rw [hs];exact BL) (fun j u hj=>Fj ad rfl j u hj) sd.W8.vh qP vf
     rw [hr] at this
     cases this
     simp [Value.ownBlock] at h4
     omega
    ·have holds: ∀j u,cells[j]? =some u→w.cell? ((⟨k,0,none⟩:Addr).add j)=some u:=dk.cells (g:=k) rfl
     have hlen:cells.length=n *i.size:=by rw [hs];exact dk.1
     have ui:(n+ys.length) *i.bytes≤140737488355328:=by rw [Nt];omega
     have:=run_append_grow (P:=P) (w:=w) t ty I.elem i z hu hi hz ⟨k,0,none⟩ n nr cells hlen holds ad ys.length cap news (by rw [hs];exact BL) (fun j u hj=>Fj ad rfl j u hj) (by omega) (by omega) (growslice_fits (by omega) ui)
     rw [hr] at this
     cases this
     rw [World.cell?_of_block (ym w.drew _ k dx)]
     exact hc
end
end Dn
/-
  Appends, the operation. Conditions: none.
-/
set_option linter.unusedSimpArgs false
set_option linter.unusedVariables false
namespace Dn
open Go
section
variable {P:Program} {c:Ctx} {Z:bw} {e e':Env} {st:St} {a:Act} {w w':World} {R:Type} {K:St→Option R} {r:R} {Q:Exit→Act→World→Prop} {o:Oper}
theorem Io {base:Nat} {t:TypeId} {size n:Nat} {v:Value} {xs:List Value} (h:w.ownsRow base t size v n xs):v.oneCell'=true:=by
 rcases h.2 with ⟨rfl,_⟩|⟨g,cap,cM,rfl,_⟩<;>rfl
theorem Nu {cl:Call} {s x:Operand} {t:TypeId} {I E:TI} (ho:o.op= .call cl) (hb:cl.callee= .builtin .append) (ha:cl.args.toList=[s,x]) (HP:cl.argTypes.toList=[t,t])
 (hI:c.tv t=some I) (hL:I.w8=true) (hE:c.tv I.elem=some E) (hT:j6 P c.ti) (h:bK c Z e st a w)
 (hK:Gt I E st (aJ c st x) (fun ys=>WI (o.dst.getD 0) st I E (aJ c st s) ys (fun sl st=>bj c st o.dst sl K))=some r):o.wp P a w (Out c Z K r e.φ w) Q:=by
 obtain ⟨qw,hc⟩:=bD hI
 obtain ⟨mn,nq⟩:=bD hE
 obtain ⟨hu,E2,uW,_,dS⟩:=TI.lP (hT t I qw) hL
 rw [mn] at uW
 cases uW
 have ZF:cl.args= #[s,x]:=by rw [←Array.toList_inj,ha]
 have adR:cl.argTypes= #[t,t]:=by rw [←Array.toList_inj,HP]
 obtain ⟨hs,_⟩:=h.eval s
 obtain ⟨hx,_⟩:=h.eval x
 obtain ⟨ys,news,sd,hK⟩:=Il h mn dS hx hK
 have go: ∀(f:Nat) (dD:Bool) (xs:List MV) (cells:List Value),1≤E.bytes→(xs.length+ys.length) *E.bytes≤2^46→w.ownsRow 0 I.elem E.size (a.eval s) xs.length cells→aS e.key e.φ E.size cells xs→
  (∀aX,(a.eval s).ownBlock=some aX→((f∈Z.b5∧Z.Pr aX)∨Z.In aX)∧(∃o,aE st.aL f=some o∧(e.E f).ownBlock=some aX)∧ ∀off u,e.φ aX off=some u→dD=true∧off<xs.length *E.size)→
  iI st f ⟨I.elem,dD,xs++ys⟩ (fun st=>bj c st o.dst (.sc (.own f)) K)=some r→o.wp P a w (Out c Z K r e.φ w) Q:=by
  intro f dD xs cells vi mq dk gQ zF hK
  obtain ⟨v',w',bH,se⟩:=xH (P:=P) (ty:=o.type) hu mn nq dS hT vi dk sd mq
  have hlen:cells.length=xs.length *E.size:=gQ.length
  have xF:=h.YN hK
  have hK:=pu hK
  have e9:cF c Z.nc e w' v' ⟨I.elem,dD,xs++ys⟩:=by
   refine ⟨E,cells++news,mn,nq,by simpa using se.own,gQ.append sd.W8,?_⟩
   intro aX iM
   rcases se.place with h1|h1
   ·rw [h1] at iM
    obtain ⟨h2,_,h3⟩:=zF aX iM
    refine ⟨H5 h2 xF,fun off u hu=> ?_,fun hc=>False.elim hc⟩
    obtain ⟨h4,h5⟩:=h3 off u hu
    refine ⟨h4,Nat.lt_of_lt_of_le h5 ?_⟩
    simp only [List.length_append]
    exact Nat.mul_le_mul_right _ (Nat.le_add_right _ _)
   ·rw [h1] at iM
    cases iM
    refine ⟨h.b3 _ (Nat.le_refl _),fun off u hu=> ?_,fun hc=>False.elim hc⟩
    have:=World.block_lt_of_cell? w _ (h.mZ _ _ _ hu)
    simp at this
  have ou:=h.iI (f:=f) xF e9 se.size
   (fun b Ky cG=>se.zv b Ky (fun hk=>by obtain ⟨_,⟨o2,h1,h2⟩,_⟩:=zF b hk.symm;exact cG o2 h1 h2))
   (fun b off u hu=>by
    have hc0:=h.mZ b off u hu
    by_cases hk:(a.eval s).ownBlock=some b
    ·obtain ⟨_,_,h3⟩:=zF b hk
     exact se.cell b off u hk (by rw [hlen];exact (h3 off u hu).2) hc0
    ·rw [World.cell?_of_block (se.zv b (World.block_lt_of_cell? w _ hc0) (fun JY=>hk JY.symm))];exact hc0)
   (fun b iM=>by
    rcases se.place with h1|h1
    ·rw [h1] at iM;exact .inr (zF b iM).2.1
    ·rw [h1] at iM;cases iM;exact .inl (Nat.le_refl _))
  refine fin (v:=v') (s:= .sc (.own f)) ?_ ou ?_ (.of (vg (Io se.own)) trivial) hK
  ·simp [execOp,ho,resolve,hb,invoke,builtin,ZF,adR,bH]
  ·exact ⟨.refl _,fun b hz Ky=>se.zv b Ky (fun hk=>hz (H5 (zF b hk.symm).1 xF)),fun _ _ _=>rfl,se.size,se.rest⟩
 generalize aJ c st s=ss at hs hK
 unfold WI at hK
 cases vi:Nat.ble 1 E.bytes with
 |false=>simp [vi] at hK
 |true=>
  simp only [vi,cond_true] at hK
  have vi:=Nat.le_of_ble_eq_true vi
  split at hK
  ·obtain ⟨mq,hK⟩:=dK hK
   have mq:=of_decide_eq_true mq
   simp only [ab] at hs
   have hs:[a.eval s]=[Value.slice none 0 0]:=hs
   simp at hs
   refine go (o.dst.getD 0) false [] [] vi (by simpa using mq) (by rw [hs];exact World.ownsRow_nil w 0 I.elem E.size) rfl ?_ (by simpa using hK)
   intro aX iM
   rw [hs] at iM
   simp [Value.ownBlock] at iM
  ·rename_i f
   cases hf:aE st.aL f with
   |none=>simp [hf] at hK
   |some fo=>
    simp only [hf] at hK
    obtain ⟨mq,hK⟩:=dK hK
    have mq:=of_decide_eq_true mq
    cases iD:Nat.beq fo.ty I.elem with
    |false=>simp [iD] at hK
    |true=>
     simp only [iD,cond_true] at hK
     have iD:=Nat.eq_of_beq_eq_true iD
     obtain ⟨hv,_⟩:=qN h hs hf
     obtain ⟨J,cells,hJ,_,dk,gQ,h5⟩:=(h.gY f fo hf).row
     rw [iD,mn] at hJ
     cases hJ
     refine go f fo.dD fo.xs cells vi mq (by rw [hv,←iD];exact dk) gQ ?_ (by rw [←iD];exact hK)
     intro aX iM
     rw [hv] at iM
     exact ⟨(h5 aX iM).1,⟨fo,hf,iM⟩,(h5 aX iM).2.1⟩
  ·simp at hK
end
end Dn
/-
  Slices that are written out. Conditions: none.
-/
set_option linter.unusedSimpArgs false
set_option linter.unusedVariables false
namespace Dn
open Go
section
variable {P:Program} {c:Ctx} {Z:bw} {e e':Env} {st:St} {a:Act} {w w':World} {R:Type} {K:St→Option R} {r:R} {Q:Exit→Act→World→Prop} {o:Oper}
theorem bK.ZG {φ':Ph} (h:bK c Z e st a w) (hle:o6 e.φ φ') (iC: ∀b o v,φ' b o=some v→w.cell? ⟨b,o,none⟩=some v)
 (rz: ∀t cs,aj st.fr t= .box cs→ ∀off,φ' (e.B t) off=e.φ (e.B t) off) (e9: ∀f o b,aE st.aL f=some o→(e.E f).ownBlock=some b→ ∀off,φ' b off=e.φ b off):
 bK c Z {e with φ:=φ'} st a w:=by
 have rB:jG (fun _=>True) (fun _=>True) e {e with φ:=φ'}:=⟨rfl,hle,fun _ _=>rfl,fun f o ho _=>⟨o,ho,rfl,rfl⟩⟩
 refine ⟨h.defers,h.size,h.m,h.key,h.nodup,?_,h.root,?_,h.bb,h.bf,h.ff,iC,h.b3⟩
 ·intro t
  have hs:=h.slot t
  have hb:=rz t
  show bI Z _ w t _ (aj st.fr t)
  generalize aj st.fr t=s at hs hb
  cases s<;>simp only [bI] at hs⊢ <;>try exact hs.on rB (df _)
  rename_i cs
  refine ⟨hs.1,hs.2.b3,?_,fun off=>by show φ' (e.B t) off=none;rw [hb cs rfl];exact hs.2.free off⟩
  obtain ⟨o2,h1,h2⟩:=hs.2.obj
  exact ⟨o2,h1,h2.on rB (fun l _ f _=>trivial)⟩
 ·intro f o ho
  obtain ⟨I,cells,h1,h2,h3,h4,h5⟩:=(h.gY f o ho).row
  refine ⟨I,cells,h1,h2,h3,h4.mono hle,fun aX hb=>⟨(h5 aX hb).1,fun off u hu=>(h5 aX hb).2.1 off u ?_,fun g1 g2 j hj=>hle.vV ((h5 aX hb).2.2 g1 g2 j hj) hj⟩⟩
  have hu:φ' aX off=some u:=hu
  rw [e9 f o aX ho hb] at hu
  exact hu
theorem eB.cells {key:Nat→Nat} {φ:Ph} {v:Value} {m:MV} (h:eB key φ v m):kD key φ v.cells.toList m:=by
 have one:m.one=true→kD key φ [v] m→kD key φ v.cells.toList m:=by
  intro h1 h2
  have:=h2.cells v (by simp)
  have hv:v.cells.toList=[v]:=by cases v<;>simp_all [Value.cells,Value.oneCell']
  rw [hv];exact h2
 cases m<;>simp only [eB] at h<;>first|exact one h.1 h.2|skip
 ·rw [h];simpa [Value.cells] using kD.h _
 ·obtain ⟨arr,rfl,h⟩:=h;exact .agg _ _ (by simpa [Value.cells] using h)
theorem Nv {parts:List (Nat×Operand)}: ∀{e:Env} {st:St} {n:Nat} {K':List MV→St→Option R},bK c Z e st a w→Pn c st parts n K'=some r→
 ∃e' bN ms,bK c Z e' bN a w∧Ext Z e e'∧bU e'.key e'.φ (parts.map fun p=>a.eval p.2) ms∧K' ms bN=some r∧parts.map (fun p=>(p.1,a.eval p.2))=((parts.map fun p=>a.eval p.2).zipIdx n).map (fun x=>(x.2,x.1)):=by
 induction parts with
 |nil=>intro e st n K' h hK;exact ⟨e,st,[],h,.refl _ _,rfl,hK,rfl⟩
 |cons p ps ih=>
  intro e st n K' h hK
  obtain ⟨i,x⟩:=p
  simp only [Pn] at hK
  cases hi:Nat.beq i n with
  |false=>simp [hi] at hK
  |true=>
   simp only [hi,cond_true] at hK
   have sf:=Nat.eq_of_beq_eq_true hi
   subst sf
   obtain ⟨e1,dR,m,q1,q2,q3,q4,q5⟩:=mg h (h.eval x).1 hK
   obtain ⟨e2,dY,ms,p1,p2,p4,p5,p6⟩:=ih q1 q5
   refine ⟨e2,dY,m::ms,p1,q2.trans p2,⟨_,_,rfl,?_,p4⟩,p5,?_⟩
   ·have:=q4.mono p2.on.φ
    rw [←p2.on.key] at this;exact this
   ·simp only [List.map_cons,List.zipIdx_cons,p6]
theorem Et {key:Nat→Nat} {φ:Ph} {size:Nat} {ms:List MV}: ∀{vs:List Value},bU key φ vs ms→rZ size ms=true→aS key φ size (vs.flatMap fun v=>v.cells.toList) ms∧vs.length=ms.length∧ ∀v∈vs,v.cells.size=size:=by
 induction ms with
 |nil=>intro vs h _;cases h;exact ⟨rfl,rfl,by simp⟩
 |cons m ms ih=>
  intro vs h hw
  obtain ⟨v,u,rfl,h1,h2⟩:=h
  have hm:=yt hw m (by simp)
  have hw2:rZ size ms=true:=by
   unfold rZ at hw⊢
   simp only [List.all_cons,Bool.and_eq_true] at hw;exact hw.2
  obtain ⟨h3,h4,h5⟩:=ih h2 hw2
  have hl:v.cells.toList.length=size:=by rw [h1.cells.width,hm]
  refine ⟨⟨v.cells.toList,_,rfl,hl,h1.cells,h3⟩,by simp [h4],?_⟩
  intro x hx
  rcases List.mem_cons.1 hx with rfl|hx
  ·simpa using hl
  ·exact h5 x hx
end
end Dn
/-
  Slices that are written out, the operation. Conditions: none.
-/
set_option linter.unusedSimpArgs false
set_option linter.unusedVariables false
namespace Dn
open Go
section
variable {P:Program} {c:Ctx} {Z:bw} {e e':Env} {st:St} {a:Act} {w w':World} {R:Type} {K:St→Option R} {r:R} {Q:Exit→Act→World→Prop} {o:Oper}
theorem L0 {t:TypeId} {I E:TI} {vs:List Value} {parts:Array (Nat×Value)} (hu:P.underlying t=some (.slice I.elem)) (hE:c.ti I.elem=some E) (nq:E.cq=[]) (dS:0<E.size) (hT:j6 P c.ti)
 (mq:vs.length *E.size≤16777216) (hv: ∀v∈vs,v.cells.size=E.size) (hp:parts.toList=(vs.zipIdx 0).map fun x=>(x.2,x.1)):
 (Instr.buildSlice t vs.length parts).run P w= .ok (.slice (some ⟨w.heap.size,0,none⟩) vs.length vs.length) (w.alloc (.cells (vs.flatMap fun v=>v.cells.toList).toArray I.elem)):=by
 obtain ⟨i,z,hi,hs,Nt,hz,HQ⟩:=nu (hT _ E hE) nq
 by_cases h0:vs.length=0
 ·have wK:=List.eq_nil_of_length_eq_zero h0
  subst wK
  have GH:parts= #[]:=by rw [←Array.toList_inj,hp];rfl
  simp [Instr.buildSlice,run_underlying hu,Go.sizeOf,typeInfo,hi,GH,Instr.fill,newRow,Sem.run]
  congr 2
  apply Array.ext_getElem?
  intro k
  simp
 ·have cG: ¬vs.length *i.size=0:=by rw [hs];exact Nat.mul_ne_zero h0 (by omega)
  refine run_buildSlice w t I.elem vs.length parts _ i z hu hi hz (by rw [hs];omega) cG ?_
  rw [hp,hs]
  exact Go.Great.fill_whole dS vs _ hv (by simp)
theorem TD {key:Nat→Nat} {φ:Ph} {size cap aX:Nat} {xs:List MV} {cells:List Value} (h:aS key φ size cells xs) (zH:xs.length≤cap) (hp: ∀off,off<cells.length→φ aX off=cells[off]?):
 kD key φ [.slice (some ⟨aX,0,none⟩) xs.length cap] (.list xs):=by
 have hlen:=h.length
 have GG: ∀i (hi:i<xs.length),∃v1,v1.length=size∧kD key φ v1 xs[i]∧(cells.drop (i *size)).take size=v1:=by
  intro i hi
  obtain ⟨p1,v1,p2,he,BK,uU,ef⟩:=h.at (List.getElem?_eq_getElem hi)
  refine ⟨v1,uU,ef,?_⟩
  rw [he,List.append_assoc,←BK,List.drop_left,←uU,List.take_left]
 refine .list (some ⟨aX,0,none⟩) cap xs aX 0 size (fun i=>(cells.drop (i *size)).take size) zH (fun _=>rfl) ?_ ?_ ?_
 ·intro i hi
  obtain ⟨v1,h1,_,h3⟩:=GG i hi
  rw [h3,h1]
 ·intro i j hi hj
  have Es:i *size+j<cells.length:=by
   rw [hlen]
   calc i *size+j<i *size+size:=by omega
    _=(i+1) *size:=by rw [Nat.succ_mul]
    _≤xs.length *size:=Nat.mul_le_mul_right _ hi
  rw [Nat.zero_add,hp _ Es,List.getElem?_take]
  simp only [hj,if_true,List.getElem?_drop]
 ·intro i hi
  obtain ⟨v1,_,h2,h3⟩:=GG i hi
  rw [h3];exact h2
theorem Eu {t:TypeId} {n:Nat} {parts:Array (Nat×Operand)} {I E:TI} (ho:o.op= .buildSlice t n parts) (hI:c.tv t=some I) (hL:I.w8=true) (hE:c.tv I.elem=some E) (hT:j6 P c.ti) (h:bK c Z e st a w)
 (mq:Nat.ble (n *E.size) 16777216=true)
 (hK:Pn c st parts.toList 0 (fun ms st=>bif Nat.beq ms.length n then dv (rZ E.size ms)
  (bif bp c.bs (o.dst.getD 0) then bj c st o.dst (.sc (.p (.list ms))) K else iI st (o.dst.getD 0) ⟨I.elem,false,ms⟩ fun st=>bj c st o.dst (.sc (.own (o.dst.getD 0))) K) else none)=some r):
 o.wp P a w (fun a' w'=>cZ w w'∧Out c Z K r e.φ w a' w') Q:=by
 obtain ⟨qw,hc⟩:=bD hI
 obtain ⟨mn,nq⟩:=bD hE
 obtain ⟨hu,E2,uW,_,dS⟩:=TI.lP (hT t I qw) hL
 rw [mn] at uW
 cases uW
 obtain ⟨e1,dR,ms,uV,Bi,eE,hK,Qb⟩:=Nv h hK
 cases hn:Nat.beq ms.length n with
 |false=>simp [hn] at hK
 |true=>
  simp only [hn,cond_true] at hK
  have hn:=Nat.eq_of_beq_eq_true hn
  obtain ⟨hw,hK⟩:=dK hK
  obtain ⟨gQ,hlen,qx⟩:=Et eE hw
  generalize wK:parts.toList.map (fun p=>a.eval p.2)=vs at eE Qb gQ hlen qx
  have mq:=Nat.le_of_ble_eq_true mq
  have bH:=L0 (P:=P) (c:=c) (w:=w) (t:=t) (I:=I) (vs:=vs) (parts:=parts.map fun (i,x)=>(i,a.eval x)) hu mn nq dS hT (by rw [hlen,hn];exact mq) qx (by rw [←Qb];simp)
  have VO:(execOp a.eval o).run P w= .ok (.value (.slice (some ⟨w.heap.size,0,none⟩) vs.length vs.length)) (w.alloc (.cells (vs.flatMap fun v=>v.cells.toList).toArray I.elem)):=by
   rw [hlen,hn] at bH⊢
   simp [execOp,ho] at bH⊢
   simp [bH]
  have hg:cZ w (w.alloc (.cells (vs.flatMap fun v=>v.cells.toList).toArray I.elem)):= .alloc w _ _
  have Fi: ∀off,e1.φ w.heap.size off=none:=by
   intro off
   cases hp:e1.φ w.heap.size off with
   |none=>rfl
   |some u=>
    have:=World.block_lt_of_cell? w _ (uV.mZ _ _ _ hp)
    simp at this
  have L2:(vs.flatMap fun v=>v.cells.toList).length=ms.length *E.size:=gQ.length
  have zH:ms.length≤16777216:=Nat.le_trans (Nat.le_mul_of_pos_right _ dS) (by rw [hn];exact mq)
  cases hb:bp c.bs (o.dst.getD 0) with
  |false=>
   simp only [hb,cond_false] at hK
   have xF:=uV.YN hK
   have hK:=pu hK
   have e9:cF c Z.nc e1 (w.alloc (.cells (vs.flatMap fun v=>v.cells.toList).toArray I.elem)) (.slice (some ⟨w.heap.size,0,none⟩) vs.length vs.length) ⟨I.elem,false,ms⟩:=by
    refine ⟨E,_,mn,nq,⟨L2,.inr ⟨w.heap.size,vs.length,_,by rw [hlen],Nat.zero_le _,jF w _,by rw [hlen];exact Nat.le_refl _,by rw [hlen];unfold Go.maxLen;omega,?_,?_⟩⟩,gQ,?_⟩
    ·rw [List.size_toArray,L2,hlen]
    ·show List.take (ms.length *E.size) _=_
     rw [List.take_of_length_le (by simp only [List.toList_toArray];omega)]
    ·intro aX iM
     simp [Value.ownBlock] at iM
     subst iM
     refine ⟨uV.b3 _ (Nat.le_refl _),fun off u hu=>(by rw [Fi] at hu;cases hu),fun hc=>False.elim hc⟩
   have ou:=uV.iI (f:=o.dst.getD 0) xF e9 hg.size (fun b Ky _=>hg.zv b Ky) (fun b off u hu=>hg.cell (uV.mZ b off u hu)) (fun b iM=>by simp [Value.ownBlock] at iM;exact .inl (by omega))
   exact Nf (s:= .sc (.own (o.dst.getD 0))) hg VO ou (Bi.tr.trans (hg.trans uV.b3 _)) (.of (vg rfl) trivial) hK
  |true=>
   simp only [hb,cond_true] at hK
   generalize hfl:(vs.flatMap fun v=>v.cells.toList)=flat at *
   have hle:o6 e1.φ (fun b off=>if b=w.heap.size∧off<flat.length then flat[off]? else e1.φ b off):=by
    intro b off u hu
    by_cases VP:b=w.heap.size
    ·subst VP;rw [Fi] at hu;cases hu
    ·simp only [VP,false_and,if_false];exact hu
   have iC: ∀b off u,(fun b off=>if b=w.heap.size∧off<flat.length then flat[off]? else e1.φ b off) b off=some u→(w.alloc (.cells flat.toArray I.elem)).cell? ⟨b,off,none⟩=some u:=by
    intro b off u hu
    by_cases VP:b=w.heap.size∧off<flat.length
    ·simp only [VP,and_self,if_true] at hu
     obtain ⟨rfl,_⟩:=VP
     rw [cell_of (jF w _)];simpa using hu
    ·simp only [VP,if_false] at hu
     exact hg.cell (uV.mZ b off u hu)
   have ou:=(uV.grow hg).ZG hle iC
    (by
     intro t2 vX ht off
     have Ig:=uV.slot t2
     rw [ht] at Ig
     obtain ⟨o2,h1,_⟩:=Ig.2.obj
     have:=bm h1
     have cG: ¬e1.B t2=w.heap.size:=by omega
     simp [cG])
    (by
     intro f o2 b cc ui off
     obtain ⟨J,tj,_,_,h3,_⟩:=(uV.gY f o2 cc).row
     rcases h3.2 with ⟨h1,_⟩|⟨g,cap,cM,h1,_,h4,_⟩
     ·rw [h1] at ui;simp [Value.ownBlock] at ui
     ·rw [h1] at ui
      simp [Value.ownBlock] at ui
      subst ui
      have:=bm h4
      have cG: ¬g=w.heap.size:=by omega
      simp [cG])
   refine Nf (s:= .sc (.p (.list ms))) hg VO ou ?_ (.of ?_ trivial) hK
   ·refine Bi.tr.trans ⟨hle,fun b hz Ky=>hg.zv b Ky,fun b off hz=> ?_,hg.size,hg.rest⟩
    have cG: ¬b=w.heap.size:=by intro Nw;subst Nw;exact hz (uV.b3 _ (Nat.le_refl _))
    simp [cG]
   ·simp only [ab,aN]
    rw [hlen]
    exact ⟨rfl,TD (gQ.mono hle) (Nat.le_refl _) (fun off Es=>by simp [Es])⟩
end
end Dn
