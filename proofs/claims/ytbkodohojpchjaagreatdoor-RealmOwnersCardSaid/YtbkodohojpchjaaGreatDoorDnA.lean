import GoSem.Dispatch
import Derived.Orders
import Derived.Calls
import Derived.Laws.AppendOwn
import Derived.Laws.AppendOwnNone
import Derived.Deep.MidRow
import Derived.Laws.Strings
import Derived.Laws.Tables
import Derived.Great.FillDense
import Derived.Maps.AppendAt
import Derived.Great.BuildSlice
/-
  An abstract run of Go functions over values that no one changes: definitions. Conditions: none.
-/
set_option linter.unusedVariables false
namespace Dn
open Go
structure kg where
 l:List UInt8
 h:l.length=32
theorem kg.ext' {a b:kg} (e:a.l=b.l):a=b:=by cases a;cases b;cases e;rfl
instance:DecidableEq kg:=fun a b=>if e:a.l=b.l then .isTrue (kg.ext' e) else .isFalse (fun h=>e (by rw [h]))
def kg.zero:kg:=⟨[0,0,0,0,0,0,0,0,0,0,0,0,0,0,0,0,0,0,0,0,0,0,0,0,0,0,0,0,0,0,0,0],rfl⟩
def kg.put (x:kg) (i:Nat) (b:UInt8):kg:=⟨x.l.set i b,by simp [x.h]⟩
inductive MV where
 |b (x:Bool)
 |i (k:IntKind) (n:Int)
 |s (l:List UInt8)
 |h (x:kg)
 |raw (v:Value)
 |list (xs:List MV)
 |agg (cs:List MV)
 |cH (vs:List MV)
 |func (f:Nat) (cap:List MV)
 |rp (cs:List MV)
 |fresh (xs:List MV)
 |cell (m:MV)
 |dL (r:MV) (outs:List MV)
instance:Inhabited MV:=⟨.b false⟩
mutual
def MV.w:MV→Nat
 | .h _=>32
 | .agg cs=>MV.wl cs
 |_=>1
def MV.wl:List MV→Nat
 |[]=>0
 |m::r=>m.w+MV.wl r
end
def sP (n:Nat) (l:List MV):Bool:=l.all fun m=>Nat.beq m.w n
inductive Kd where
 |b|i (k:IntKind)|s|l|h|raw
structure MS where
 st:Bool
 lay:List Kd
 b:Bool
def MS.it:MS:=⟨true,[],true⟩
def BS (s:MS):Bool:=match s.lay with
 |[]=>s.st
 |_=>false
inductive aD where
 |un
 |p (m:MV)
 |hs (x:kg)
 |nil
 |own (iF:Nat)
 |mp (s:MS) (es:List MV)
def aD.w:aD→Nat
 | .hs _=>32
 |_=>1
inductive Slot where
 |skip
 |sc (l:aD)
 |ag (cs:List aD)
 |cH (vs:List Slot)
 |box (cs:List aD)
 |vJ (cs:List aD)
 |ptr (root off:Nat)
 |vK (root:Nat)
 |rp (cs:List aD) (off:Nat)
 |hp (root off:Nat) (i:Nat)
 |ep (iF:Nat) (i:Nat) (off:Nat) (st:Bool) (cs:List aD)
abbrev Fr:=List (Nat×Slot)
structure TI where
 st:Bool
 size:Nat
 bytes:Nat
 lay:List Kd
 zero:List aD
 vr:List Nat
 Oh:List Nat
 elem:Nat
 ct:List Nat
section
variable {R:Type}
def gB (m:MV) (K:Bool→Option R):Option R:=match m with| .b x=>K x|_=>none
def gI (k:IntKind) (m:MV) (K:Int→Option R):Option R:=match m with| .i k' n=>bif decide (k'=k) then K n else none|_=>none
def gS (m:MV) (K:List UInt8→Option R):Option R:=match m with| .s l=>K l|_=>none
def gL (m:MV) (K:List MV→Option R):Option R:=match m with| .list l=>K l|_=>none
def gH (m:MV) (K:kg→Option R):Option R:=match m with| .h l=>K l|_=>none
def gA (m:MV) (K:List MV→Option R):Option R:=match m with| .agg l=>K l|_=>none
def gT (m:MV) (K:List MV→Option R):Option R:=match m with| .cH l=>K l|_=>none
def gF (m:MV) (K:List MV→Option R):Option R:=match m with| .fresh l=>K l|_=>none
def K3 (m:MV) (K:Nat→List MV→Option R):Option R:=match m with| .func f c=>K f c|_=>none
def gW (m:MV) (K:MV→List MV→Option R):Option R:=match m with| .dL r outs=>K r outs|_=>none
def gP (m:MV) (K:List MV→Option R):Option R:=match m with| .rp c=>K c|_=>none
def gCx (m:MV) (K:Nat→Nat→Option R):Option R:=match m with| .raw (.complex .f64 a b)=>K a b|_=>none
def gR (m:MV) (K:MV→Option R):Option R:=match m with| .raw v=>K (.raw v)| .func f c=>K (.func f c)| .rp c=>K (.rp c)|_=>none
def gC (l:List MV) (K:MV→List MV→Option R):Option R:=match l with|m::r=>K m r|[]=>none
def gN (l:List MV) (K:Option R):Option R:=match l with|[]=>K|_=>none
def bd {α:Type} (x:Option α) (K:α→Option R):Option R:=match x with|some a=>K a|none=>none
def XQ (l:List MV) (i:Int):Option MV:=if 0≤i then l[i.toNat]? else none
def idx (l:List MV) (i:Int) (K:MV→Option R):Option R:=
 match XQ l i with|some x=>K x|none=>none
def dy (c:Bool) (K:Option R):Option R:=match c with|true=>K|false=>none
def bp (c:Bool) (x y:Option R):Option R:=match c with|true=>x|false=>y
def Fb:List Nat→Nat→(Nat→Option R)→Option R
 |[],_,_=>none
 |[p],e,K=>bif Nat.beq e p then K p else none
 |p::q::r,e,K=>bif Nat.beq e p then K p else Fb (q::r) e K
def jB (k:Kd) (m:MV) (K:aD→Option R):Option R:=
 match k with
 | .b=>gB m fun x=>K (.p (.b x))
 | .i k=>gI k m fun x=>K (.p (.i k x))
 | .s=>gS m fun x=>K (.p (.s x))
 | .l=>gL m fun x=>K (.p (.list x))
 | .h=>gH m fun x=>K (.hs x)
 | .raw=>gR m fun m=>K (.p m)
def rv:List Kd→List MV→(List aD→Option R)→Option R
 |[],l,K=>gN l (K [])
 |k::ks,l,K=>gC l fun m r=>jB k m fun x=>rv ks r fun xs=>K (x::xs)
end
def iter {σ R:Type} (body:σ→Option (Sum σ R)):Nat→σ→Option R
 |0,_=>none
 |n+1,s=>match body s with
  |some (.inl s')=>iter body n s'
  |some (.inr r)=>some r
  |none=>none
open Classical in
noncomputable def Loop {σ R:Type} (body:σ→Option (Sum σ R)) (s:σ):Option R:=
 if h: ∃r n,iter body n s=some r then some (Classical.choose h) else none
def aj:Fr→Nat→Slot
 |[],_=> .sc .un
 |(k,s)::r,t=>bif Nat.beq k t then s else aj r t
def Fc {R:Type}:Fr→Nat→Slot→(Fr→Option R)→Option R
 |[],t,v,K=>K [(t,v)]
 |(k,s)::r,t,v,K=>bif Nat.beq k t then K ((k,v)::r) else Fc r t v fun r=>K ((k,s)::r)
def force {R:Type} (s:Slot) (K:Slot→Option R):Option R:=match s with
 | .skip=>K .skip
 | .sc l=>K (.sc l)
 | .ag cs=>K (.ag cs)
 | .cH vs=>K (.cH vs)
 | .box cs=>K (.box cs)
 | .vJ cs=>K (.vJ cs)
 | .ptr r o=>K (.ptr r o)
 | .vK r=>K (.vK r)
 | .rp cs o=>K (.rp cs o)
 | .hp r o i=>K (.hp r o i)
 | .ep f i o b cs=>K (.ep f i o b cs)
def br:List Nat→Nat→Bool
 |[],_=>false
 |k::r,t=>bif Nat.beq k t then true else br r t
def xS (t:Nat):Bool:=Nat.ble 1000000 t
def posOf (t:Nat):Nat:=(t-1000000)%1000
def I3 (t:Nat):Nat:=(t-1000000)/1000
def plk:List (Nat×Nat)→Nat→Option Nat
 |[],_=>none
 |(k,x)::r,t=>bif Nat.beq k t then some x else plk r t
def cX:Slot→Bool
 | .ptr _ _| .hp _ _ _| .ep _ _ _ _ _| .rp _ _| .vK _=>true
 |_=>false
def sQ {R:Type} (ds:List Nat):Fr→(Fr→Option R)→Option R
 |[],K=>K []
 |(k,s)::r,K=>bif cX s||br ds k then sQ ds r K else sQ ds r fun r=>K ((k,s)::r)
def cu:Slot→Bool
 | .box _| .vJ _=>true
 |_=>false
def pick {R:Type} (ks:List Nat):Fr→(Fr→Option R)→Option R
 |[],K=>K []
 |(k,s)::r,K=>bif br ks k&&!cX s then pick ks r fun r=>K ((k,s)::r) else pick ks r K
structure mQ where
 ty:Nat
 dI:Bool
 xs:List MV
structure St where
 b4:List Nat
 b5:List Nat
 fr:Fr
 aO:List (Nat×mQ)
def aG:List (Nat×mQ)→Nat→Option mQ
 |[],_=>none
 |(k,s)::r,t=>bif Nat.beq k t then some s else aG r t
def Ld {R:Type}:List (Nat×mQ)→Nat→mQ→(List (Nat×mQ)→Option R)→Option R
 |[],t,v,K=>K [(t,v)]
 |(k,s)::r,t,v,K=>bif Nat.beq k t then K ((k,v)::r) else Ld r t v fun r=>K ((k,s)::r)
def kB (a b:IntKind):Bool:=decide (a=b)
def WJ:Kd→Kd→Bool
 | .b,.b=>true
 | .i k,.i k'=>kB k k'
 | .s,.s=>true
 | .l,.l=>true
 | .h,.h=>true
 | .raw,.raw=>true
 |_,_=>false
def BT:List Kd→List Kd→Bool
 |[],[]=>true
 |x::xs,y::ys=>WJ x y&&BT xs ys
 |_,_=>false
def ZM (s t:MS):Bool:=(s.st==t.st)&&(BT s.lay t.lay&&(s.b==t.b))
def tN {R:Type} (f:Nat):List aD→(List aD→Option R)→Option R
 |[],K=>K []
 |l::r,K=>(match l with
  | .own g=>bif Nat.beq g f then tN f r fun r=>K (.un::r) else tN f r fun r=>K (.own g::r)
  |l=>tN f r fun r=>K (l::r))
def F4 {R:Type} (f:Nat) (s:Slot) (K:Slot→Option R):Option R:=match s with
 | .sc (.own g)=>bif Nat.beq g f then K (.sc .un) else K (.sc (.own g))
 | .ag cs=>tN f cs fun cs=>K (.ag cs)
 | .box cs=>tN f cs fun cs=>K (.box cs)
 | .ep g i o b cs=>bif Nat.beq g f then K (.sc .un) else K (.ep g i o b cs)
 |s=>K s
def kFr {R:Type} (f:Nat):Fr→(Fr→Option R)→Option R
 |[],K=>K []
 |(k,s)::r,K=>F4 f s fun s=>kFr f r fun r=>K ((k,s)::r)
section
variable {R:Type}
def qd (st:St) (l:aD) (K:MV→St→Option R):Option R:=
 match l with
 | .un=>none
 | .p m=>K m st
 | .hs x=>K (.h x) st
 | .nil=>K (.list []) st
 | .mp _ _=>none
 | .own f=>match aG st.aO f with
  |some o=>bif o.dI then K (.list o.xs) st else bif br st.b5 f then none else (match st with|⟨p,q,r,m⟩=>Ld m f ⟨o.ty,true,o.xs⟩ fun m=>K (.list o.xs) ⟨p,q,r,m⟩)
  |none=>none
def ou (st:St):List aD→(List MV→St→Option R)→Option R
 |[],K=>K [] st
 |l::r,K=>qd st l fun m st=>ou st r fun ms st=>K (m::ms) st
def lq (st:St) (s:Slot) (K:MV→St→Option R):Option R:=
 match s with
 | .sc l=>qd st l K
 | .ag cs=>ou st cs fun ms st=>K (.agg ms) st
 | .rp cs off=>bif Nat.beq off 0 then ou st cs fun ms st=>K (.rp ms) st else none
 |_=>none
def tO (st:St):List Slot→(List MV→St→Option R)→Option R
 |[],K=>K [] st
 |l::r,K=>lq st l fun m st=>tO st r fun ms st=>K (m::ms) st
end
def vL:List aD→Nat
 |[]=>0
 |k::r=>k.w+vL r
def cut:List aD→Nat→Option (List aD)
 |cs,0=>some cs
 |c::cs,n+1=>bif Nat.ble c.w (n+1) then cut cs (n+1-c.w) else none
 |_,_=>none
def I4:List aD→Nat→Option (List aD)
 |_,0=>some []
 |c::cs,n+1=>bif Nat.ble c.w (n+1) then (match I4 cs (n+1-c.w) with|some b=>some (c::b)|none=>none) else none
 |_,_=>none
def part (cs:List aD) (off n:Nat):Option (List aD):=
 match cut cs off with
 |some a=>I4 a n
 |none=>none
def over:List aD→List aD→Option (List aD)
 |[],cs=>some cs
 |v::vs,c::cs=>bif Nat.beq v.w c.w then (match over vs cs with|some r=>some (v::r)|none=>none) else none
 |_,[]=>none
def putAt:List aD→Nat→List aD→Option (List aD)
 |cs,0,vs=>over vs cs
 |c::cs,n+1,vs=>bif Nat.ble c.w (n+1) then (match putAt cs (n+1-c.w) vs with|some r=>some (c::r)|none=>none) else none
 |_,_,_=>none
def app {α:Type}:List α→List α→Option (List α)
 |[],l=>some l
 |x::r,l=>(match app r l with|some q=>some (x::q)|none=>none)
def I5:aD→Bool
 | .un=>true
 | .mp _ _=>true
 |_=>false
def et:List aD→Bool
 |[.mp _ _]=>true
 |_=>false
def Ag:Slot→Bool
 | .box cs=>!et cs
 |_=>false
def Cy {R:Type} (ok:Nat→Bool) (r0:Fr):Fr→Fr→(Fr→Option R)→Option R
 |[],fr,K=>K fr
 |(t,s)::r,fr,K=>match s with
  | .ptr root off=>bif ok t&&(!xS root&&(Ag (aj r0 root)&&(Ag (aj fr root)&&!cu (aj fr t)))) then Fc fr t (.ptr root off) fun fr=>Cy ok r0 r fr K else Cy ok r0 r fr K
  |_=>Cy ok r0 r fr K
def kj:List aD→Bool
 |[.mp s _]=>!BS s
 |_=>false
def sR:List aD→Bool
 |[]=>false
 |l::r=>bif I5 l then true else sR r
def ZN {R:Type} (f:Nat):Fr→(Fr→Option R)→Option R
 |[],K=>K []
 |(k,s)::r,K=>(match s with
  | .ep g i o b cs=>bif Nat.beq g f then ZN f r fun r=>K ((k,.sc .un)::r) else ZN f r fun r=>K ((k,.ep g i o b cs)::r)
  |s=>ZN f r fun r=>K ((k,s)::r))
inductive LK where
 |k (x:Kd)
 |own (f:Nat) (ty:Nat) (dI:Bool)
inductive OK where
 |sc (l:LK)
 |ag (ls:List LK)
 |box (ls:List LK)
 |mp (s:MS)
 |pt (root off:Nat)
structure qe where
 b4:List Nat
 b5:List Nat
 outs:List (Nat×OK)
 exo:List (Nat×List (Nat×OK))
 dI:List Nat
instance:Inhabited qe:=⟨⟨[],[],[],[],[]⟩⟩
def Qy:List (Nat×List (Nat×OK))→Nat→List (Nat×OK)
 |[],_=>[]
 |(k,l)::r,e=>bif Nat.beq k e then l else Qy r e
def qe.ex (h:qe) (e:Nat):List (Nat×OK):=Qy h.exo e
def M0:List (Nat×List (Nat×OK))→List (Nat×OK)
 |[]=>[]
 |(_,l)::r=>l++M0 r
def qe.all (h:qe):List (Nat×OK):=h.outs++M0 h.exo
structure Ctx where
 ti:Nat→Option TI
 key:Nat→Nat
 g:Nat→List MV→Option MV
 dP:Nat→Bool
 fresh:Nat→Bool
 ra:Nat→Nat
 sig:Nat→Option (Nat×List LK)
 par:List (Nat×Nat)
 n:Nat
 bs:List Nat
 fl:List Nat
 fz:Nat→List Nat
 fk:Nat→Option FloatKind
 mt:Nat→Option (Nat×Bool)
 ord:Nat→List Nat
 IQ:Nat→qe
 Hp:Nat→qe
 Fe:Nat→qe
 Hq:Nat→Bool
 dyn:List Nat
def Ctx.tv (c:Ctx) (t:Nat):Option TI:=match c.ti t with|some I=>(match I.ct with|[]=>some I|_=>none)|none=>none
def wW:Value→Slot
 | .bool b=> .sc (.p (.b b))
 | .int k n=> .sc (.p (.i k n))
 | .string s=> .sc (.p (.s s.data.toList))
 | .slice none 0 0=> .sc .nil
 | .float k b=> .sc (.p (.raw (.float k b)))
 | .complex k a b=> .sc (.p (.raw (.complex k a b)))
 | .pointer none=> .sc (.p (.raw (.pointer none)))
 | .nilFunc=> .sc (.p (.raw .nilFunc))
 | .nilIface=> .sc (.p (.raw .nilIface))
 |_=> .sc .un
def aK (c:Ctx) (st:St):Operand→Slot
 | .tmp t=>match plk c.par t with
  |some q=>bif xS q&&Nat.beq (posOf q) t then (match aj st.fr q with| .box cs=>bif et cs then .sc .un else .ptr q (I3 q)|_=> .sc .un) else .sc .un
  |none=>match aj st.fr t with
   | .box cs=>bif xS t then .sc .un else bif kj cs then .vK t else .ptr t 0
   | .vJ cs=> .rp cs 0
   |s=>s
 | .const v=>wW v
 | .func f=> .sc (.p (.func (c.key f) []))
 | .global _=> .sc .un
def iI (c:Ctx) (st:St):List Operand→List Slot
 |[]=>[]
 |o::r=>aK c st o::iI c st r
section
variable {R:Type}
def wr (st:St) (d:Nat) (s:Slot) (K:St→Option R):Option R:=
 bif br st.b4 d then none else (match st with|⟨p,q,r,m⟩=>force s fun s=>Fc r d s fun r=>K ⟨p,q,r,m⟩)
def bk (c:Ctx) (st:St) (d:Option Nat) (s:Slot) (K:St→Option R):Option R:=
 match d with
 |some d=>bif xS d||(Nat.ble c.n d||cu (aj st.fr d)) then none else wr st d s K
 |none=>K st
def jg (st:St) (f:Nat) (o:mQ) (K:St→Option R):Option R:=
 bif br st.b5 f then none else (match st with|⟨p,q,r,m⟩=>kFr f r fun r=>Ld m f o fun m=>K ⟨p,q,r,m⟩)
def jC (I:TI) (cs:List aD) (off:Nat) (K:Slot→Option R):Option R:=
 bif I.st then (match part cs off I.size with|some a=>K (.ag a)|none=>none)
 else (match cut cs off with|some (l::_)=>bif Nat.beq l.w I.size then K (.sc l) else none|_=>none)
def ldK (st:St) (I:TI) (a:Slot) (K:Slot→Option R):Option R:=
 match a with
 | .ptr root off=>match aj st.fr root with
  | .box cs=>bif et cs then none else jC I cs off K
  |_=>none
 | .rp cs off=>jC I cs off K
 | .ep f _ off _ cs=>(match aG st.aO f with|some _=>jC I cs off K|none=>none)
 | .hp root off i=>bif I.st||!Nat.beq I.size 1 then none else (match aj st.fr root with
  | .box cs=>bif et cs then none else (match cut cs off with|some (.hs x::_)=>K (.sc (.p (.i .u8 (x.l.getD i 0).toNat)))|_=>none)
  |_=>none)
 |_=>none
def aH:Slot→List aD
 | .sc l=>[l]
 | .ag cs=>cs
 |_=>[]
def bx:List aD→Option (List MV)
 |[]=>some []
 |l::r=>match l,bx r with
  | .p m,some q=>some (m::q)
  | .hs x,some q=>some (.h x::q)
  |_,_=>none
def pc:List aD→List MV→Option (List aD)
 |[],[]=>some []
 | .hs x::r,_::ms=>(match pc r ms with|some q=>some (.hs x::q)|none=>none)
 |_::r,m::ms=>(match pc r ms with|some q=>some (.p m::q)|none=>none)
 |_,_=>none
def se (b:Bool) (cs:List MV):Option MV:=match b,cs with
 |false,[m]=>some m
 |true,cs=>some (.agg cs)
 |_,_=>none
def isByte (n:Int):Bool:=decide (n=((UInt8.ofNat n.toNat).toNat:Int))
def stK (st:St) (I:TI) (a v:Slot) (K:St→Option R):Option R:=
 bif sR (aH v)||!Nat.beq (vL (aH v)) I.size then none else
 match a with
 | .ptr root off=>match aj st.fr root with
  | .box cs=>bif et cs then none else (match putAt cs off (aH v) with|some fa=>wr st root (.box fa) K|none=>none)
  |_=>none
 | .hp root off i=>match aj st.fr root,v with
  | .box cs,.sc (.p n)=>bif et cs then none else (match cut cs off with
   |some (.hs x::_)=>gI .u8 n fun n=>dy (isByte n) (match putAt cs off [.hs (x.put i (UInt8.ofNat n.toNat))] with|some fa=>wr st root (.box fa) K|none=>none)
   |_=>none)
  |_,_=>none
 | .ep f i off b cs=>ou st (aH v) fun ms st=>match aG st.aO f with
  |some o=>bif o.dI then none else
   (match pc (aH v) ms with
   |some vs=>(match putAt cs off vs with
    |some fa=>(match bx fa with
     |some ms'=>(match se b ms' with
      |some x=>bif br st.b5 f then none else
       (match st with|⟨p,q,r,m⟩=>ZN f r fun r=>Ld m f ⟨o.ty,false,o.xs.set i x⟩ fun m=>K ⟨p,q,r,m⟩)
      |none=>none)
     |none=>none)
    |none=>none)
   |none=>none)
  |none=>none
 |_=>none
def Hr (I:TI) (x:MV) (K:List aD→Option R):Option R:=
 bif I.st then gA x fun cs=>rv I.lay cs K
 else match I.lay with
  |[k]=>jB k x fun x=>K [x]
  |_=>none
def Bb (I:TI) (x:MV) (K:Slot→Option R):Option R:=
 bif I.st then gA x fun cs=>rv I.lay cs fun cs=>K (.ag cs)
 else match I.lay with
  |[k]=>jB k x fun x=>K (.sc x)
  |_=>none
def Cz (c:Ctx):List Nat→List MV→(List Slot→Option R)→Option R
 |[],l,K=>gN l (K [])
 |t::ts,l,K=>match c.tv t with
  |some I=>gC l fun m r=>Bb I m fun s=>Cz c ts r fun ss=>K (s::ss)
  |none=>none
def pI (c:Ctx) (I:TI) (x:MV) (K:Slot→Option R):Option R:=
 match I.ct with
 |[]=>Bb I x K
 |ts=>gT x fun vs=>Cz c ts vs fun ss=>K (.cH ss)
def Ah:aD→aD→Option Bool
 | .p (.b x),.p (.b y)=>some (decide (x=y))
 | .p (.i k x),.p (.i k' y)=>bif decide (k=k') then some (decide (x=y)) else none
 | .p (.s x),.p (.s y)=>some (decide (x=y))
 | .hs x,.hs y=>some (decide (x=y))
 |_,_=>none
def iJ:List aD→List aD→Option Bool
 |[],[]=>some true
 |[x],[y]=>Ah x y
 |x::xs,y::ys=>match Ah x y,iJ xs ys with
  |some a,some b=>some (a&&b)
  |_,_=>none
 |_,_=>none
def Hs (op:BinOp) (x y:List UInt8):Option MV:=
 match op with
 | .eql=>some (.b (decide (x=y)))
 | .neq=>some (.b (!decide (x=y)))
 | .lss=>some (.b (Op.bytesLess x y))
 | .gtr=>some (.b (!(Op.bytesLess x y||decide (x=y))))
 | .leq=>some (.b (Op.bytesLess x y||decide (x=y)))
 | .geq=>some (.b (!Op.bytesLess x y))
 |_=>none
def M1 (op:BinOp) (k:IntKind) (x y:Int):Option MV:=
 match op with
 | .add=>some (.i k (k.wrap (x+y)))
 | .sub=>some (.i k (k.wrap (x-y)))
 | .mul=>some (.i k (k.wrap (x *y)))
 | .eql=>some (.b (decide (x=y)))
 | .neq=>some (.b (!decide (x=y)))
 | .lss=>some (.b (decide (x<y)))
 | .leq=>some (.b (decide (x≤y)))
 | .gtr=>some (.b (decide (y<x)))
 | .geq=>some (.b (decide (y≤x)))
 |_=>none
def ml:Kd→aD→Bool
 | .b,.p (.b _)=>true
 | .i k,.p (.i k' _)=>decide (k'=k)
 | .s,.p (.s _)=>true
 | .h,.hs _=>true
 |_,_=>false
def eg:List Kd→List aD→Bool
 |[],[]=>true
 |k::ks,l::ls=>bif ml k l then eg ks ls else false
 |_,_=>false
def lr (st:Bool):Slot→Bool
 | .ag _=>st
 | .sc _=>!st
 |_=>false
def aak (op:BinOp) (a b:Nat):Option Nat:=match op with
 | .add=>FloatKind.f64.format.add a b
 | .sub=>FloatKind.f64.format.sub a b
 | .mul=>FloatKind.f64.format.mul a b
 |_=>none
def XR (oI:Option TI) (op:BinOp) (x y:Slot) (K:Slot→Option R):Option R:=
 match x,y with
 | .sc (.p (.i k a)),.sc (.p (.i k' b))=>
  (match op with
   | .quo=>bif decide (k=k') then dy (!decide (b=0)) (K (.sc (.p (.i k (k.wrap (a.tdiv b)))))) else none
   | .rem=>bif decide (k=k') then dy (!decide (b=0)) (K (.sc (.p (.i k (a.tmod b))))) else none
   | .shr=>dy (decide (0≤b)) (K (.sc (.p (.i k (a.fdiv (2^min b.toNat k.bits))))))
   | .shl=>dy (decide (0≤b)) (K (.sc (.p (.i k (k.wrap (a *2^min b.toNat k.bits))))))
   |_=>bif decide (k=k') then (match M1 op k a b with|some m=>K (.sc (.p m))|none=>none) else none)
 | .sc (.p (.s a)),.sc (.p (.s b))=>(match op with
  | .add=>dy (decide (a.length+b.length≤2^46)) (K (.sc (.p (.s (a++b)))))
  |_=>(match Hs op a b with|some m=>K (.sc (.p m))|none=>none))
 | .sc (.p (.raw (.float .f64 a))),.sc (.p (.raw (.float .f64 b)))=>bd (aak op a b) fun r=>K (.sc (.p (.raw (.float .f64 r))))
 |x,y=>match oI with
  |some I=>bif eg I.lay (aH x)&&eg I.lay (aH y)&&(lr I.st x&&lr I.st y) then (match op with
   | .eql=>(match iJ (aH x) (aH y) with|some b=>K (.sc (.p (.b b)))|none=>none)
   | .neq=>(match iJ (aH x) (aH y) with|some b=>K (.sc (.p (.b (!b))))|none=>none)
   |_=>none) else none
  |none=>none
def sliceB (lo hi:Option Slot) (len:Nat) (K:Nat→Nat→Option R):Option R:=
 match lo,hi with
 |none,none=>K 0 len
 |some (.sc (.p (.i _ l))),none=>dy (decide (0≤l∧l≤(len:Int)∧(len:Int)≤(len:Int))) (K l.toNat (Int.toNat (len:Int)))
 |none,some (.sc (.p (.i _ h)))=>dy (decide (0≤(0:Int)∧(0:Int)≤h∧h≤(len:Int))) (K (Int.toNat 0) h.toNat)
 |some (.sc (.p (.i _ l))),some (.sc (.p (.i _ h)))=>dy (decide (0≤l∧l≤h∧h≤(len:Int))) (K l.toNat h.toNat)
 |_,_=>none
def kP (c:Ctx) (st:St):Option Operand→Option Slot
 |some o=>some (aK c st o)
 |none=>none
def vM:List aD→Option (List MV)
 |[]=>some []
 |l::r=>match l,vM r with
  | .p m,some q=>some (m::q)
  | .hs x,some q=>some (.h x::q)
  | .nil,some q=>some (.list []::q)
  |_,_=>none
def Qz (d:Nat) (st:St) (I E:TI) (x y:Slot) (K:Slot→St→Option R):Option R:=match x,y with
 | .sc (.p (.i _ n)),.sc (.p (.i _ m))=>bif Nat.ble 1 E.bytes then dy (decide ((0:Int)≤n∧n=m∧n *E.bytes≤2^46)) (match vM E.zero with
  |some zs=>(match se E.st zs with
   |some z=>jg st d ⟨I.elem,false,List.replicate n.toNat z⟩ fun st=>K (.sc (.own d)) st
   |none=>none)
  |none=>none) else none
 |_,_=>none
def Ht (I E:TI) (st:St) (x:Slot) (K:List MV→Option R):Option R:=match x with
 | .sc (.p (.list xs))=>dy (sP E.size xs) (K xs)
 | .sc .nil=>K []
 | .sc (.own f)=>(match aG st.aO f with|some o=>bif Nat.beq o.ty I.elem then K o.xs else none|none=>none)
 |_=>none
def yq (c:Ctx) (st:St) (I:TI):List (Nat×Operand)→List aD→Option (List aD)
 |[],cs=>some cs
 |(i,o)::r,cs=>match I.vr[i]?,I.Oh[i]? with
  |some q,some y=>(match c.tv y with
   |some J=>bif sR (aH (aK c st o))||!Nat.beq (vL (aH (aK c st o))) J.size then none else
    (match putAt cs q (aH (aK c st o)) with|some fa=>yq c st I r fa|none=>none)
   |none=>none)
  |_,_=>none
def CA (c:Ctx) (st:St):List (Nat×Operand)→kg→(kg→Option R)→Option R
 |[],x,K=>K x
 |(i,o)::r,x,K=>match aK c st o with
  | .sc (.p m)=>bif Nat.ble 32 i then none else gI .u8 m fun n=>dy (isByte n) (CA c st r (x.put i (UInt8.ofNat n.toNat)) K)
  |_=>none
def QA (c:Ctx) (st:St):List (Nat×Operand)→Nat→(List MV→St→Option R)→Option R
 |[],_,K=>K [] st
 |(i,o)::r,n,K=>bif Nat.beq i n then lq st (aK c st o) fun m st=>QA c st r (n+1) fun ms st=>K (m::ms) st else none
def y5 (c:Ctx) (st:St):List Operand→(List MV→St→Option R)→Option R
 |[],K=>K [] st
 |o::r,K=>match aK c st o with
  | .ptr root 0=>(match aj st.fr root with
   | .box cs=>bif sR cs||xS root then none else ou st cs fun ms st=>(match pc cs ms with|some fa=>wr st root (.vJ fa) fun st=>y5 c st r fun xs st=>K (.rp ms::xs) st|none=>none)
   |_=>none)
  | .rp cs 0=>ou st cs fun ms st=>y5 c st r fun xs st=>K (.rp ms::xs) st
  |_=>none
def y6 (c:Ctx) (k:Nat) (st:St) (s:Slot) (K:MV→St→Option R):Option R:=match s with
 | .sc (.own f)=>(match aG st.aO f with
  |some o=>bif o.dI||!Nat.beq o.ty (c.ra k) then none else jg st f ⟨o.ty,true,[]⟩ fun st=>K (.fresh o.xs) st
  |none=>none)
 | .sc .nil=>(match c.tv (c.ra k) with|some _=>K (.fresh []) st|none=>none)
 |_=>none
def M2 (c:Ctx) (k:Nat) (st:St) (ss:List Slot) (K:List MV→St→Option R):Option R:=
 bif c.dP k then (match ss with
  |[s0,s1,s2]=>(match s2 with
   | .sc (.p m2)=>lq st s1 fun m1 st=>y6 c k st s0 fun m0 st=>K [m0,m1,m2] st
   |s2=>lq st s1 fun m1 st=>y6 c k st s0 fun m0 st=>y6 c k st s2 fun m2 st=>K [m0,m1,m2] st)
  |_=>none)
 else tO st ss K
def aal (x y:Int):Int:=if y<x then y else x
def imax (x y:Int):Int:=if y>x then y else x
def QB (mx:Bool) (k:IntKind):Int→List Slot→Option MV
 |x,[]=>some (.i k x)
 |x,.sc (.p (.i k' y))::r=>bif decide (k'=k) then QB mx k (bif mx then imax x y else aal x y) r else none
 |_,_=>none
def Le (mx:Bool):List Slot→Option MV
 | .sc (.p (.i k n))::r=>QB mx k n r
 |_=>none
def QC (c:Ctx) (d:Nat) (st:St) (f:Nat) (ms:List MV) (I:TI) (K:Slot→St→Option R):Option R:=
 bd (c.g f ms) fun r=>bif c.fresh f then gF r fun xs=>bif !Nat.beq I.elem (c.ra f) then none else jg st d ⟨I.elem,false,xs⟩ fun st=>K (.sc (.own d)) st else pI c I r fun s=>K s st
def XS (s:Slot) (K:Slot→Option R):Option R:=match s with
 | .ptr r o=>K (.ptr r o)
 | .rp cs o=>K (.rp cs o)
 |_=>none
def QD (x y z:Slot) (K:Slot→Option R):Option R:=match x with
 | .sc (.p (.b v))=>(match y,z with
  | .sc (.p (.b p)),.sc (.p (.b q))=>K (.sc (.p (.b (bif v then p else q))))
  |p,q=>match v with|true=>K p|false=>K q)
 |_=>none
def XT (I:TI) (s:Slot) (K:Slot→Option R):Option R:=match s with
 | .sc l=>bif I.st||I5 l||!Nat.beq l.w I.size then none else K (.box [l])
 | .ag cs=>bif I.st&&!sR cs&&Nat.beq (vL cs) I.size then K (.box cs) else none
 |_=>none
def unK (op:UnOp) (s:Slot) (K:Slot→Option R):Option R:=match op,s with
 | .not,.sc (.p (.b v))=>K (.sc (.p (.b (!v))))
 | .neg,.sc (.p (.i k n))=>K (.sc (.p (.i k (k.wrap (0-n)))))
 |_,_=>none
def QE (I:TI) (fk:Option FloatKind) (s:Slot) (K:Slot→Option R):Option R:=match I.st,I.ct,I.lay,s with
 |false,[],[.i k],.sc (.p (.i _ n))=>K (.sc (.p (.i k (k.wrap n))))
 |false,[],[.s],.sc (.p (.s l))=>K (.sc (.p (.s l)))
 |false,[],[.i k],.sc (.p (.raw (.float .f64 a)))=>bd ((FloatKind.decode .f64 a).toInt .zero) fun n=>dy (decide (k.min≤n∧n≤k.max)) (K (.sc (.p (.i k n))))
 |false,[],[.raw],.sc (.p (.i _ n))=>(match fk with
  |some .f64=>K (.sc (.p (.raw (.float .f64 (FloatKind.nearest .f64 n)))))
  |_=>none)
 |_,_,_,_=>none
def TI.xT (I:TI):Bool:=match I.st,I.lay with|false,[.l]=>true|_,_=>false
def TI.T5 (I:TI):Bool:=match I.st,I.lay with|false,[.s]=>true|_,_=>false
def Lf (c:Ctx) (I:TI) (st:St) (s:Slot) (lo hi:Option Slot) (K:Slot→St→Option R):Option R:=match s with
 | .sc (.p (.s l))=>bif I.T5 then sliceB lo hi l.length fun a b=>K (.sc (.p (.s ((l.take b).drop a)))) st else none
 | .sc (.p (.list l))=>bif I.xT then (match c.tv I.elem with
  |some E=>(match lo with
   |none=>sliceB none hi l.length fun a b=>K (.sc (.p (.list ((l.take b).drop a)))) st
   |some lo=>dy (sP E.size l) (sliceB (some lo) hi l.length fun a b=>K (.sc (.p (.list ((l.take b).drop a)))) st))
  |none=>none) else none
 | .sc (.own f)=>(match aG st.aO f with
  |some o=>bif I.xT&&Nat.beq o.ty I.elem then qd st (.own f) fun _ st=>sliceB lo hi o.xs.length fun a b=>K (.sc (.p (.list ((o.xs.take b).drop a)))) st else none
  |none=>none)
 | .sc .nil=>bif I.xT then sliceB lo hi 0 fun _ _=>K (.sc .nil) st else none
 |_=>none
def QF (st:St) (I:TI) (f:Nat) (s:Slot) (K:Slot→Option R):Option R:=match I.st,I.vr[f]?,s with
 |true,some q,.ptr r o=>K (.ptr r (o+q))
 |true,some q,.rp cs o=>K (.rp cs (o+q))
 |true,some q,.ep g i o b cs=>(match aG st.aO g with|some _=>K (.ep g i (o+q) b cs)|none=>none)
 |_,_,_=>none
def XU (c:Ctx) (I:TI) (f:Nat) (s:Slot) (K:Slot→Option R):Option R:=match I.st,I.vr[f]?,I.Oh[f]?,s with
 |true,some q,some y,.ag cs=>(match c.tv y with|some J=>jC J cs q K|none=>none)
 |_,_,_,_=>none
def XV (c:Ctx) (st:St) (I E:TI) (x i:Slot) (K:Slot→Option R):Option R:=match x,i with
 | .sc (.p (.list xs)),.sc (.p (.i _ n))=>bif I.xT then idx xs n fun x=>Hr E x fun cs=>K (.rp cs 0) else none
 | .sc (.own f),.sc (.p (.i _ n))=>(match aG st.aO f with
  |some o=>bif I.xT then idx o.xs n fun x=>Hr E x fun cs=>K (.ep f n.toNat 0 E.st cs) else none
  |none=>none)
 | .ptr r o,.sc (.p (.i _ n))=>bif I.st then none else (match I.lay with|[.h]=>dy (decide ((0:Int)≤n∧n<32)) (K (.hp r o n.toNat))|_=>none)
 |_,_=>none
def ixK (I:TI) (x i:Slot) (K:Slot→Option R):Option R:=match I.st,I.lay,x,i with
 |false,[.s],.sc (.p (.s l)),.sc (.p (.i _ n))=>dy (decide ((0:Int)≤n∧n<(l.length:Int))) (K (.sc (.p (.i .u8 (l.getD n.toNat 0).toNat))))
 |false,[.h],.sc (.hs x),.sc (.p (.i _ n))=>dy (decide ((0:Int)≤n∧n<32)) (K (.sc (.p (.i .u8 (x.l.getD n.toNat 0).toNat))))
 |_,_,_,_=>none
def XW (s:Slot) (k:Nat) (K:Slot→Option R):Option R:=match s with
 | .cH vs=>(match vs[k]? with|some s=>K s|none=>none)
 |_=>none
def QG (I:TI) (st:St) (ss:List Slot) (K:Slot→Option R):Option R:=match ss with
 |[.sc (.p (.s l))]=>bif I.T5 then K (.sc (.p (.i .i64 l.length))) else none
 |[.sc (.p (.list l))]=>bif I.xT then K (.sc (.p (.i .i64 l.length))) else none
 |[.sc .nil]=>bif I.xT then K (.sc (.p (.i .i64 0))) else none
 |[.sc (.own f)]=>bif I.xT then (match aG st.aO f with|some o=>K (.sc (.p (.i .i64 o.xs.length)))|none=>none) else none
 |_=>none
def XX (d:Nat) (st:St) (I E:TI) (s:Slot) (ys:List MV) (K:Slot→St→Option R):Option R:=bif Nat.ble 1 E.bytes then (match s with
 | .sc .nil=>dy (decide (ys.length *E.bytes≤2^46)) (jg st d ⟨I.elem,false,ys⟩ fun st=>K (.sc (.own d)) st)
 | .sc (.own f)=>(match aG st.aO f with
  |some w=>dy (decide ((w.xs.length+ys.length) *E.bytes≤2^46)) (bif Nat.beq w.ty I.elem then jg st f ⟨w.ty,w.dI,w.xs++ys⟩ fun st=>K (.sc (.own f)) st else none)
  |none=>none)
 |_=>none) else none
def Hu (c:Ctx) (st:St) (I:TI) (f:Slot) (ss:List Slot) (K:Slot→St→Option R):Option R:=match f with
 | .sc (.p m)=>K3 m fun f bS=>dy (!c.dP f)<|tO st ss fun ms st=>bd (c.g f (ms++bS)) fun r=>pI c I r fun s=>K s st
 |_=>none
def CB:MV→MV→Bool
 | .b x,.b y=>decide (x=y)
 | .i k x,.i k' y=>decide (k=k')&&decide (x=y)
 | .s x,.s y=>decide (x=y)
 | .h x,.h y=>decide (x=y)
 |_,_=>false
def dQ:List MV→List MV→Bool
 |[],[]=>true
 |x::xs,y::ys=>CB x y&&dQ xs ys
 |_,_=>false
def jh:MV→List MV
 | .cH (.agg k::_)=>k
 |_=>[]
def Un:MV→MV
 | .cH [_,v]=>v
 |_=> .b false
def cJ:List MV→List MV→Nat
 |[],_=>0
 |e::r,ks=>bif dQ (jh e) ks then 0 else cJ r ks+1
def asI:MV→Int
 | .i _ n=>n
 |_=>0
def asB:MV→Bool
 | .b x=>x
 |_=>false
def WK (es:List MV) (ks:List MV):Int:=match es[cJ es ks]? with|some e=>asI (Un e)|none=>0
def vN (es:List MV) (ks:List MV):Bool:=match es[cJ es ks]? with|some e=>asB (Un e)|none=>false
def tP (es ks:List MV) (z:MV):List MV:=bif Nat.beq (cJ es ks) es.length then es++[.cH [.agg ks,z]] else es
def tQ (es:List MV) (i:Nat) (v:MV):List MV:=match es[i]? with|some e=>es.set i (.cH [.agg (jh e),v])|none=>es
def iy (b:Bool):MV:=bif b then .b false else .i .i64 0
def tR (c:Ctx) (t:Nat):Option MS:=match c.mt t with
 |some (kt,b)=>(match c.tv kt with|some I=>bif BS ⟨I.st,I.lay,b⟩ then none else some ⟨I.st,I.lay,b⟩|none=>none)
 |none=>none
def I6 (s:MS) (k:Slot) (K:List MV→Option R):Option R:=
 bif eg s.lay (aH k)&&lr s.st k then (match bx (aH k) with|some ks=>K ks|none=>none) else none
def Ff (st:St) (s:MS) (m:Slot) (K:Nat→List MV→Option R):Option R:=match m with
 | .vK r=>(match aj st.fr r with| .box [.mp s' es]=>bif ZM s s'&&!BS s' then K r es else none|_=>none)
 |_=>none
def Oi (b:Bool) (s:Slot) (K:MV→Option R):Option R:=match b,s with
 |true,.sc (.p (.b x))=>K (.b x)
 |false,.sc (.p (.i .i64 n))=>K (.i .i64 n)
 |_,_=>none
def Bc (st:St) (r:Nat) (s:MS) (es:List MV) (K:St→Option R):Option R:=wr st r (.box [.mp s es]) K
def isLT (c:Ctx) (y:Nat):Bool:=match c.tv y with|some Y=>Y.xT|none=>false
def lu (c:Ctx) (o:Oper):Bool:=match o.op with
 | .assign (.tmp _)=>(match c.mt o.type with|some _=>true|none=>false)
 |_=>false
def Cp (c:Ctx) (o:Oper) (st:St) (x:Operand) (K:Slot→St→Option R):Option R:=match x,c.mt o.type with
 | .tmp t,some _=>(match aj st.fr t with
  | .box cs=>bif et cs then bif br st.b4 t||xS t then none else (match st with|⟨p,q,r,m⟩=>sQ [t] r fun r=>K (.box cs) ⟨p,q,r,m⟩) else K (aK c st x) st
  |_=>K (aK c st x) st)
 |_,_=>K (aK c st x) st
def Ai (s:MS) (es ks:List MV):Slot:=bif s.b then .sc (.p (.b (vN es ks))) else .sc (.p (.i .i64 (WK es ks)))
def WL (c:Ctx) (st:St) (t:Nat) (m k:Slot) (K:Slot→Option R):Option R:=match tR c t with
 |some s=>Ff st s m fun _ es=>I6 s k fun ks=>K (Ai s es ks)
 |none=>none
def WM (c:Ctx) (st:St) (t:Nat) (m k v:Slot) (K:St→Option R):Option R:=match tR c t with
 |some s=>Ff st s m fun r es=>I6 s k fun ks=>Oi s.b v fun v=>Bc st r s (tQ (tP es ks (iy s.b)) (cJ es ks) v) K
 |none=>none
def QH (c:Ctx) (st:St) (t:Nat) (m k:Slot) (K:Slot→St→Option R):Option R:=match tR c t with
 |some s=>Ff st s m fun r es=>I6 s k fun ks=>Bc st r s (tP es ks (iy s.b)) fun st=>K (.cH [Ai s es ks,.sc (.p (.i .i64 (cJ es ks)))]) st
 |none=>none
def aam (c:Ctx) (st:St) (t:Nat) (m i v:Slot) (K:St→Option R):Option R:=match tR c t with
 |some s=>Ff st s m fun r es=>(match i with
  | .sc (.p (.i .i64 n))=>dy (decide (0≤n∧n.toNat<es.length)) (Oi s.b v fun v=>Bc st r s (tQ es n.toNat v) K)
  |_=>none)
 |none=>none
def Ql (es:List MV):List UInt8:=match es with|[.s l,.i .i64 _]=>l|_=>[]
def pD (es:List MV):Int:=match es with|[.s _,.i .i64 n]=>n|_=>0
def Fg (es:List MV):Bool:=decide (pD es<((Ql es).length:Int))
def vO (es:List MV):Int:=(Utf8.decode ⟨(Ql es).toArray⟩ (pD es).toNat).1
def yr (es:List MV):List MV:=[.s (Ql es),.i .i64 (pD es+(Utf8.decode ⟨(Ql es).toArray⟩ (pD es).toNat).2)]
def itK (st:St) (x:Slot) (K:Slot→St→Option R):Option R:=match x with
 | .ptr t 0=>(match aj st.fr t with
  | .box [.mp s es]=>bif BS s then
   bp (Fg es) (wr st t (.box [.mp s (yr es)]) fun st=>K (.cH [.sc (.p (.b true)),.sc (.p (.i .i64 (pD es))),.sc (.p (.i .i32 (vO es)))]) st)
    (K (.cH [.sc (.p (.b false))]) st)
   else none
  |_=>none)
 |_=>none
def byK (m:MV) (K:UInt8→Option R):Option R:=gI .u8 m fun n=>dy (isByte n) (K (UInt8.ofNat n.toNat))
def QI:List MV→(List UInt8→Option R)→Option R
 |[],K=>K []
 |m::r,K=>byK m fun b=>QI r fun l=>K (b::l)
def Lg (I:TI) (x:Slot) (K:Slot→Option R):Option R:=match x with
 | .sc (.p (.s l))=>bif I.T5 then K (.box [.mp MS.it [.s l,.i .i64 0]]) else none
 |_=>none
def Uo (E:TI):Bool:=match E.st,E.lay with
 |false,[.i k]=>decide (k= .u8)
 |_,_=>false
def QJ (c:Ctx) (st:St) (Y I:TI) (x:Slot) (K:Slot→Option R):Option R:=match c.tv Y.elem with
 |some E=>bif I.T5&&Uo E then (match x with
  | .sc (.p (.list xs))=>QI xs fun l=>K (.sc (.p (.s l)))
  | .sc .nil=>K (.sc (.p (.s [])))
  | .sc (.own f)=>(match aG st.aO f with
   |some o=>bif Nat.beq o.ty Y.elem then QI o.xs fun l=>K (.sc (.p (.s l))) else none
   |none=>none)
  |_=>none) else none
 |none=>none
def still (c:Ctx) (o:Oper):Bool:=match o.op,o.dst with
 | .load _ _,some d=>br c.fl d
 |_,_=>false
def bc:List LK→List Nat
 |[]=>[]
 | .own f _ _::r=>f::bc r
 |_::r=>bc r
def meets:List Nat→List Nat→Bool
 |[],_=>false
 |k::r,l=>bif br l k then true else meets r l
def gp (c:Ctx):List LK→Bool
 |[]=>true
 | .own _ ty _::r=>(match c.tv ty with|some _=>gp c r|none=>false)
 |_::r=>gp c r
def lz (ps:List (Nat×Nat)) (f g:Nat):Bool:=match ps with
 |[]=>true
 |(a,b)::r=>(bif Nat.beq a f then Nat.beq b g&&!Nat.beq g 0 else (bif Nat.beq b g then Nat.beq g 0 else true))&&lz r f g
def Hv (st:St) (ps:List (Nat×Nat)) (k:LK) (l:aD) (K:MV→List (Nat×Nat)→Option R):Option R:=
 match k,l with
 | .k .l,.nil=>K (.list []) ps
 | .k .h,.hs x=>K (.h x) ps
 | .k x,.p m=>jB x m fun _=>K m ps
 | .own f ty dI,.own g=>match aG st.aO g with
  |some o=>bif !Nat.beq o.ty ty||(o.dI&&!dI)||br st.b5 g||!lz ps f (g+1) then none else K (.list o.xs) ((f,g+1)::ps)
  |none=>none
 | .own f _ _,.nil=>bif lz ps f 0 then K (.list []) ((f,0)::ps) else none
 |_,_=>none
def ji (st:St):List (Nat×Nat)→List LK→List aD→(List MV→List (Nat×Nat)→Option R)→Option R
 |ps,[],[],K=>K [] ps
 |ps,k::ks,l::ls,K=>Hv st ps k l fun m ps=>ji st ps ks ls fun ms ps=>K (m::ms) ps
 |_,_,_,_=>none
def kl (st:St) (k:LK) (m:MV) (K:aD→St→Option R):Option R:=
 match k with
 | .k x=>jB x m fun l=>K l st
 | .own f ty dI=>gL m fun xs=>(match st with|⟨p,q,r,n⟩=>Ld n f ⟨ty,dI,xs⟩ fun n=>K (.own f) ⟨p,q,r,n⟩)
def cv (st:St):List LK→List MV→(List aD→List MV→St→Option R)→Option R
 |[],ms,K=>K [] ms st
 |k::ks,ms,K=>gC ms fun m r=>kl st k m fun l st=>cv st ks r fun ls ms st=>K (l::ls) ms st
def I7 (gs:List Nat):List (Nat×mQ)→(List (Nat×mQ)→Option R)→Option R
 |[],K=>K []
 |(k,o)::r,K=>bif br gs k then I7 gs r K else I7 gs r fun r=>K ((k,o)::r)
def Up:List Nat→Fr→(Fr→Option R)→Option R
 |[],r,K=>K r
 |f::fs,r,K=>kFr f r fun r=>Up fs r K
def dJ:List (Nat×Nat)→List Nat
 |[]=>[]
 |(_,0)::r=>dJ r
 |(_,g+1)::r=>g::dJ r
def F5:List Nat→List (Nat×mQ)→Bool
 |[],_=>false
 |f::r,m=>(match aG m f with|some _=>true|none=>F5 r m)
def F6 (st:St) (root:Nat) (ks:List LK) (ps:List (Nat×Nat)) (outs:List MV) (K:St→Option R):Option R:=
 cv ⟨[],[],[],[]⟩ ks outs fun cs rest wX=>gN rest<|I7 (dJ ps) st.aO fun m=>
  bif F5 (bc ks) m||meets (bc ks) st.b5 then none else
   Up (bc ks) st.fr fun r=>Fc r root (.box cs) fun r=>(match app wX.aO m with|some m=>K ⟨st.b4,st.b5,r,m⟩|none=>none)
def M3 (c:Ctx) (gv:Bool) (g:List MV→Option MV) (pos:Nat) (ks:List LK) (st:St) (ss:List Slot) (I:Option TI) (K:Slot→St→Option R):Option R:=
 match ss[pos]? with
 |some (.ptr root off)=>tO st (ss.take pos) fun m1 st=>tO st (ss.drop (pos+1)) fun m2 st=>
  (match aj st.fr root with
  | .box cs=>bif et cs||br st.b4 root||!gp c ks||!gv then none else ji st [] ks cs fun ls ps=>
   (match app m1 (.cell (.func off ls)::m2) with
   |some ms=>bd (g ms) fun x=>gW x fun r outs=>F6 st root ks ps outs fun st=>(match I with
    |some I=>pI c I r fun s=>K s st
    |none=>K (.sc .un) st)
   |none=>none)
  |_=>none)
 |_=>none
def WN (c:Ctx) (key pos:Nat) (ks:List LK) (st:St) (ss:List Slot) (I:Option TI) (K:Slot→St→Option R):Option R:=
 M3 c (c.dP key) (c.g key) pos ks st ss I K
def QK:List LK→List LK→Bool
 |[],[]=>true
 | .k k1::r,.k k2::q=>WJ k1 k2&&QK r q
 | .own f t z::r,.own f' t' z'::q=>Nat.beq f f'&&(Nat.beq t t'&&(z==z'&&QK r q))
 |_,_=>false
def I8 (c:Ctx) (pos:Nat) (ks:List LK):List Nat→Bool
 |[]=>true
 |k::r=>(match c.sig k with|some sg=>Nat.beq sg.1 pos&&QK sg.2 ks|none=>false)&&(c.dP k&&I8 c pos ks r)
def QL (c:Ctx) (Oj:List Nat) (st:St) (f:Slot) (ss:List Slot) (I:Option TI) (K:Slot→St→Option R):Option R:=match f,Oj with
 | .sc (.p m),k0::_=>(match c.sig k0 with
  |some sg=>bif I8 c sg.1 sg.2 Oj then K3 m fun k bS=>gN bS<|M3 c true (fun ms=>Fb Oj k fun k=>c.g k ms) sg.1 sg.2 st ss I K else none
  |none=>none)
 |_,_=>none
def ZO (c:Ctx) (o:Oper) (st:St) (K:Slot→St→Option R):Option R:=
 match o.op with
 | .move x=>K (aK c st x) st
 | .assign x=>Cp c o st x K
 | .makeMap t none=>(match tR c t with|some s=>K (.box [.mp s []]) st|none=>none)
 | .lookup t m k false=>WL c st t (aK c st m) (aK c st k) fun s=>K s st
 | .mapUpdate t m k v=>WM c st t (aK c st m) (aK c st k) (aK c st v) fun st=>K (.sc .un) st
 | .mapEntry t m k=>QH c st t (aK c st m) (aK c st k) K
 | .entryStore t m i v=>aam c st t (aK c st m) (aK c st i) (aK c st v) fun st=>K (.sc .un) st
 | .nilCheck x=>XS (aK c st x) fun s=>K s st
 | .pick x a b=>QD (aK c st x) (aK c st a) (aK c st b) fun s=>K s st
 | .alloc t=>(match c.tv t with|some I=>K (.box I.zero) st|none=>none)
 | .box t x=>(match c.tv t with|some I=>XT I (aK c st x) fun s=>K s st|none=>none)
 | .build t parts=>(match c.tv t with
  |some I=>bif I.st then (match yq c st I parts.toList I.zero with|some cs=>K (.ag cs) st|none=>none)
   else (match I.lay with|[.h]=>CA c st parts.toList kg.zero fun x=>K (.sc (.hs x)) st|_=>none)
  |none=>none)
 | .buildSlice t n parts=>(match c.tv t with
  |some I=>bif I.xT then (match c.tv I.elem with
   |some E=>bif Nat.ble (n *E.size) 16777216 then QA c st parts.toList 0 fun ms st=>bif Nat.beq ms.length n then dy (sP E.size ms)
    (bif br c.bs (o.dst.getD 0) then K (.sc (.p (.list ms))) st else jg st (o.dst.getD 0) ⟨I.elem,false,ms⟩ fun st=>K (.sc (.own (o.dst.getD 0))) st) else none else none
   |none=>none) else none
  |none=>none)
 | .makeSlice t x y=>(match c.tv t with
  |some I=>bif I.xT then (match c.tv I.elem with|some E=>Qz (o.dst.getD 0) st I E (aK c st x) (aK c st y) K|none=>none) else none
  |none=>none)
 | .load t a=>(match c.tv t with
  |some I=>bif still c o then (match aK c st a with| .rp cs off=>jC I cs off fun s=>K s st|_=>none) else ldK st I (aK c st a) fun s=>K s st
  |none=>none)
 | .store t a v=>(match c.tv t with|some I=>stK st I (aK c st a) (aK c st v) fun st=>K (.sc .un) st|none=>none)
 | .binOp op t x y _=>XR (c.tv t) op (aK c st x) (aK c st y) fun s=>K s st
 | .unOp op _ x=>unK op (aK c st x) fun s=>K s st
 | .convert y t x=>bif isLT c y then (match c.tv y,c.tv t with|some Y,some I=>QJ c st Y I (aK c st x) fun s=>K s st|_,_=>none)
  else (match c.ti y,c.tv t with|some _,some I=>QE I (c.fk t) (aK c st x) fun s=>K s st|_,_=>none)
 | .range t x=>(match c.tv t with|some I=>Lg I (aK c st x) fun s=>K s st|none=>none)
 | .next x true=>itK st (aK c st x) K
 | .makeFunc (.func f) first bS=>(match first.toList with
  |[]=>y5 c st bS.toList fun ms st=>K (.sc (.p (.func (c.key f) ms))) st
  |_=>none)
 | .slice t x lo hi none=>(match c.tv t with|some I=>Lf c I st (aK c st x) (kP c st lo) (kP c st hi) K|none=>none)
 | .fieldAddr t x f=>(match c.tv t with|some I=>QF st I f (aK c st x) fun s=>K s st|none=>none)
 | .field t x f=>(match c.tv t with|some I=>XU c I f (aK c st x) fun s=>K s st|none=>none)
 | .indexAddr t x i=>(match c.tv t with
  |some I=>(match c.tv I.elem with|some E=>XV c st I E (aK c st x) (aK c st i) fun s=>K s st|none=>none)
  |none=>none)
 | .index t x i=>(match c.tv t with|some I=>ixK I (aK c st x) (aK c st i) fun s=>K s st|none=>none)
 | .extract x k=>XW (aK c st x) k fun s=>K s st
 | .call cl=>(match cl.callee with
  | .value (.func f)=>(match c.sig (c.key f) with
   |some sg=>WN c (c.key f) sg.1 sg.2 st (iI c st cl.args.toList) (c.ti o.type) K
   |none=>match c.ti o.type with
   |some I=>M2 c (c.key f) st (iI c st cl.args.toList) fun ms st=>QC c (o.dst.getD 0) st (c.key f) ms I K
   |none=>none)
  | .value x=>(match c.dyn with
   |_::_=>QL c c.dyn st (aK c st x) (iI c st cl.args.toList) (c.ti o.type) K
   |[]=>match c.ti o.type with
   |some I=>Hu c st I (aK c st x) (iI c st cl.args.toList) K
   |none=>none)
  | .builtin .len=>(match cl.argTypes.toList with
   |[t]=>(match c.tv t with|some I=>QG I st (iI c st cl.args.toList) fun s=>K s st|none=>none)
   |_=>none)
  | .builtin .append=>(match iI c st cl.args.toList,cl.argTypes.toList with
   |[s,x],[t,t']=>bif Nat.beq t t' then (match c.tv t with
    |some I=>bif I.xT then (match c.tv I.elem with|some E=>Ht I E st x fun ys=>XX (o.dst.getD 0) st I E s ys K|none=>none) else none
    |none=>none) else none
   |_,_=>none)
  | .builtin .real=>(match iI c st cl.args.toList with|[.sc (.p m)]=>gCx m fun x _=>K (.sc (.p (.raw (.float .f64 x)))) st|_=>none)
  | .builtin .imag=>(match iI c st cl.args.toList with|[.sc (.p m)]=>gCx m fun _ y=>K (.sc (.p (.raw (.float .f64 y)))) st|_=>none)
  | .builtin .complex=>(match iI c st cl.args.toList with|[.sc (.p (.raw (.float .f64 x))),.sc (.p (.raw (.float .f64 y)))]=>K (.sc (.p (.raw (.complex .f64 x y)))) st|_=>none)
  | .builtin .min=>(match Le false (iI c st cl.args.toList) with|some m=>K (.sc (.p m)) st|none=>none)
  | .builtin .max=>(match Le true (iI c st cl.args.toList) with|some m=>K (.sc (.p m)) st|none=>none)
  |_=>none)
 |_=>none
def Lh (all:List Oper) (o:Oper) (st:St) (K:Bool→St→Option R):Option R:=
 match o.guard with
 |none=>K true st
 |some (j,want)=>match all[j]? with
  |some p=>(match p.dst with
   |some t=>(match aj st.fr t with
    | .sc (.p (.b v))=>(match v with
     |true=>(match st with|⟨p,q,r,m⟩=>Fc r t (.sc (.p (.b true))) fun r=>K want ⟨p,q,r,m⟩)
     |false=>(match st with|⟨p,q,r,m⟩=>Fc r t (.sc (.p (.b false))) fun r=>K (!want) ⟨p,q,r,m⟩))
    | .skip=>K false st
    |_=>none)
   |none=>none)
  |none=>none
def M4 (c:Ctx) (all:List Oper) (o:Oper) (st:St) (K:St→Option R):Option R:=
 Lh all o st fun go st=>
  bif go then ZO c o st fun s st=>bk c st o.dst s K
  else bk c st o.dst .skip K
def tS (c:Ctx) (all:List Oper):List Oper→St→(St→Option R)→Option R
 |[],st,K=>K st
 |o::r,st,K=>M4 c all o st fun st=>tS c all r st K
end
section
variable {R:Type}
def mG (st:St):List (Nat×Nat)→List (Nat×OK)→(List MV→Option R)→Option R
 |_,[],K=>K []
 |ps,(t,k)::r,K=>match k,aj st.fr t with
  | .sc k,.sc l=>ji st ps [k] [l] fun ms ps=>mG st ps r fun ns=>(match app ms ns with|some l=>K l|none=>none)
  | .ag ks,.ag ls=>ji st ps ks ls fun ms ps=>mG st ps r fun ns=>(match app ms ns with|some l=>K l|none=>none)
  | .box ks,.box ls=>ji st ps ks ls fun ms ps=>mG st ps r fun ns=>(match app ms ns with|some l=>K l|none=>none)
  | .mp s,.box [.mp s' es]=>bif ZM s s' then mG st ps r fun ns=>K (.list es::ns) else none
  | .pt root off,.ptr QM Ok=>bif Nat.beq root QM&&(Nat.beq off Ok&&(!xS root&&Ag (aj st.fr root))) then mG st ps r K else none
  |_,_=>none
def I9 (st:St) (t:Nat) (s:Slot) (K:St→Option R):Option R:=match st with|⟨p,q,r,m⟩=>Fc r t s fun r=>K ⟨p,q,r,m⟩
def QN:List (Nat×OK)→List MV→St→(St→Option R)→Option R
 |[],ms,st,K=>gN ms (K st)
 |(t,k)::r,ms,st,K=>match k,st with
  | .pt root off,⟨p,q,fr,m⟩=>bif !xS root&&(Ag (aj fr root)&&!cu (aj fr t)) then Fc fr t (.ptr root off) fun fr=>QN r ms ⟨p,q,fr,m⟩ K else none
  |_,_=>none
def mH (st:St):List (Nat×OK)→List MV→(St→Option R)→Option R
 |[],ms,K=>gN ms (K st)
 |(t,k)::r,ms,K=>match k with
  | .sc k=>cv st [k] ms fun ls ms st=>(match ls with|[l]=>I9 st t (.sc l) fun st=>mH st r ms K|_=>none)
  | .ag ks=>cv st ks ms fun ls ms st=>I9 st t (.ag ls) fun st=>mH st r ms K
  | .box ks=>bif xS t&&!br st.b4 (posOf t) then none else cv st ks ms fun ls ms st=>I9 st t (.box ls) fun st=>mH st r ms K
  | .mp s=>bif xS t then none else gC ms fun m ms=>gL m fun es=>I9 st t (.box [.mp s es]) fun st=>mH st r ms K
  | .pt root off=>QN ((t,.pt root off)::r) ms st K
end
def cZ:List (Nat×OK)→List Nat
 |[]=>[]
 |(t,_)::r=>t::cZ r
def bR:List (Nat×OK)→List Nat
 |[]=>[]
 |(_,.sc k)::r=>bc [k]++bR r
 |(_,.ag ks)::r=>bc ks++bR r
 |(_,.box ks)::r=>bc ks++bR r
 |(_,.mp _)::r=>bR r
 |(_,.pt _ _)::r=>bR r
def minus:List Nat→List Nat→List Nat
 |[],_=>[]
 |k::r,l=>bif br l k then minus r l else k::minus r l
def tT {R:Type} (ps:List Nat):List aD→(List aD→Option R)→Option R
 |[],K=>K []
 |l::r,K=>(match l with
  | .own g=>bif br ps g then tT ps r fun r=>K (.own g::r) else tT ps r fun r=>K (.un::r)
  |l=>tT ps r fun r=>K (l::r))
def Ja {R:Type} (ps:List Nat) (s:Slot) (K:Slot→Option R):Option R:=match s with
 | .sc (.own g)=>bif br ps g then K (.sc (.own g)) else K (.sc .un)
 | .ag cs=>tT ps cs fun cs=>K (.ag cs)
 | .box cs=>tT ps cs fun cs=>K (.box cs)
 |s=>K s
def nFr {R:Type} (ps:List Nat):Fr→(Fr→Option R)→Option R
 |[],K=>K []
 |(k,s)::r,K=>Ja ps s fun s=>nFr ps r fun r=>K ((k,s)::r)
def F7 {R:Type} (ks fs qs:List Nat):List (Nat×mQ)→(List (Nat×mQ)→Option R)→Option R
 |[],K=>K []
 |(k,o)::r,K=>bif br ks k then F7 ks fs qs r fun r=>(bif br fs k&&!br qs k then K ((k,⟨o.ty,true,o.xs⟩)::r) else K ((k,o)::r)) else F7 ks fs qs r K
def dK (c:Ctx):List (Nat×OK)→Bool
 |[]=>true
 |(_,.sc k)::r=>bif gp c [k] then dK c r else false
 |(_,.ag ks)::r=>bif gp c ks then dK c r else false
 |(_,.box ks)::r=>bif gp c ks then dK c r else false
 |(_,.mp _)::r=>dK c r
 |(_,.pt _ _)::r=>dK c r
def Li {R:Type} (c:Ctx) (h:qe) (st:St) (K:St→St→Option R):Option R:=
 match st with
 |⟨p,q,r,m⟩=>
  bif !dK c h.all||meets (cZ h.all) p||meets (bR h.all) q||meets (cZ h.all) h.b4||meets (bR h.all) h.b5 then none else
  match app h.b4 p,app h.b5 q with
  |some p',some q'=>
   pick h.b4 r fun rp=>nFr h.b5 rp fun rp=>pick (cZ h.all) r fun ro=>
   F7 h.b5 h.dI q m fun mp=>F7 (bR h.all) h.dI q m fun mo=>
   (match app rp ro,app mp mo with
    |some r1,some m1=>K ⟨p',q',r1,m1⟩ ⟨p',q',rp,mp⟩
    |_,_=>none)
  |_,_=>none
def CC {R:Type} (c:Ctx) (h:qe) (st:St) (K:St→St→Option R):Option R:=
 Li c h st fun eE eZ=>Cy (fun t=>br h.b4 t||br (cZ h.all) t) st.fr st.fr eE.fr fun fr=>K ⟨eE.b4,eE.b5,fr,eE.aO⟩ eZ
def Aj (st eZ:St):St:=match st,eZ with|⟨p,q,_,_⟩,⟨_,_,r,m⟩=>⟨p,q,r,m⟩
def guarded:List Oper→Bool
 |[]=>false
 |o::r=>match o.guard with|some _=>true|none=>guarded r
def pJ:List Oper→List Nat
 |[]=>[]
 |o::r=>match o.op,o.dst with
  | .alloc _,some d=>d::pJ r
  | .box _ _,some d=>d::pJ r
  | .makeMap _ _,some d=>d::pJ r
  | .range _ _,some d=>d::pJ r
  |_,_=>pJ r
def Ak {R:Type} (ds:List Nat) (st:St) (K:St→Option R):Option R:=match st with|⟨p,q,r,m⟩=>sQ ds r fun r1=>Cy (fun t=>!br ds t) r r r1 fun r=>K ⟨p,q,r,m⟩
def eM:Code→Option Nat
 | .region id _ _=>some id
 | .seq a b=>match eM a with|some n=>some n|none=>eM b
 | .cond _ a b=>match eM a with|some n=>some n|none=>eM b
 | .block _ b| .loop b| .scope b=>eM b
 |_=>none
def ZP:List Nat→List Nat→List Nat
 |[],l=>l
 |k::r,l=>bif br l k then ZP r l else k::ZP r l
def km:Code→List Nat
 | .skip| .region _ _ _=>[0]
 | .seq a b=>bif br (km a) 0 then ZP (minus (km a) [0]) (km b) else km a
 | .cond _ a b=>ZP (km a) (km b)
 | .block id b=>bif br (km b) (id+2) then ZP (minus (km b) [0,id+2]) [0] else km b
 | .loop b=>minus (km b) [0]
 | .exit id=>[id+2]
 | .ret=>[1]
 |_=>[]
def ov (o:Oper):Bool:=match o.op with
 | .load _ _=>true
 | .lookup _ _ _ false=>true
 |_=>false
def kQ (c:Ctx) (o:Oper):Bool:=ov o||(match o.op with
 | .convert y _ _=>isLT c y
 |_=>false)
def QO (o:Oper):Option Nat:=match o.op with
 | .lookup t _ _ false=>some t
 |_=>none
def Uq (o:Oper):Option Nat:=match o.op with
 | .mapEntry t _ _=>some t
 |_=>none
def xU (o p:Oper):Bool:=match QO o,Uq p with
 |some t,some t'=>Nat.beq t t'
 |_,_=>false
def nH (o:Oper):Bool:=match o.op with
 | .move _| .assign _| .nilCheck _| .pick _ _ _| .build _ _| .load _ _| .binOp _ _ _ _ _| .unOp _ _ _| .convert _ _ _| .makeFunc _ _ _| .slice _ _ _ _ _| .fieldAddr _ _ _| .field _ _ _| .indexAddr _ _ _| .index _ _ _| .extract _ _| .lookup _ _ _ false=>true
 | .call cl=>(match cl.callee with| .builtin .len| .builtin .min| .builtin .max| .builtin .real| .builtin .imag| .builtin .complex=>true|_=>false)
 |_=>false
def xx (c:Ctx) (o:Oper):Bool:=match o.op with
 | .alloc _| .box _ _| .buildSlice _ _ _| .makeSlice _ _ _=>true
 | .call cl=>(match cl.callee with| .value (.func f)=>!c.dP (c.key f)| .value _=>(match c.dyn with|[]=>true|_::_=>false)|_=>false)
 |_=>false
def Lj:Op→List Operand
 | .build _ ps=>ps.toList.map (·.2)
 | .buildSlice _ _ ps=>ps.toList.map (·.2)
 | .makeFunc _ first captured=>first.toList++captured.toList
 | .slice _ x l h m=>x::(l.toList++(h.toList++m.toList))
 | .call c=>(match c.callee with| .value f=>[f]| .invoke r _=>[r]| .builtin _=>[])++c.args.toList
 |op=>op.operands.toList
def Jb:List Operand→List Nat
 |[]=>[]
 | .tmp t::r=>t::Jb r
 |_::r=>Jb r
def Hw (ops:List Oper) (o:Oper):List Nat:=
 Jb (Lj o.op)++(match o.guard with|some (g,_)=>(match ops[g]? with|some p=>p.dst.toList|none=>[])|none=>[])
def Hx (ops:List Oper) (x y:Oper):Bool:=
 (match x.dst with|some d=>!br (Hw ops y) d&&(match y.dst with|some d'=>!Nat.beq d' d|none=>true)|none=>true)&&
 (match y.dst with|some d=>!br (Hw ops x) d|none=>true)
def CD (e:Edge):Bool:=match e.ground with
 | .textOnly _=>false
 | .gcOnly _=>false
 |_=>true
def yt (o:Oper) (p:Nat→Bool):Bool:=o.after.toList.any fun e=>CD e&&p e.on
def aan (ops:List Oper):Bool:=ops.all fun o=>match o.op with| .select _ _=>false|_=>true
def QP (c:Ctx) (o:Oper):Bool:=nH o||xx c o
def qf (c:Ctx) (ops:List Oper) (o:Oper):List Nat→List Nat→Bool
 |_,[]=>true
 |D,y::r=>match ops[y]? with
  |some p=>bif yt p (br D) then qf c ops o (y::D) r else Hx ops o p&&(!kQ c o||QP c p||still c o||xU o p)&&qf c ops o D r
  |none=>false
def Jc (o:Oper):Bool:=match o.op,o.dst,o.guard with
 | .alloc _,some _,none=>o.after.toList.all fun e=>!CD e
 |_,_,_=>false
def aao (c:Ctx) (o:Oper):Bool:=match o.op with
 | .alloc t=>(match c.tv t with|some _=>true|none=>false)
 |_=>false
def aap (ops:List Oper) (i:Nat):Bool:=match ops[i]? with
 |some o=>Jc o
 |none=>false
def sS (c:Ctx) (ops:List Oper):List Nat→List Nat→Bool
 |_,[]=>true
 |pre,x::rest=>(match ops[x]? with
  |some o=>(o.after.toList.all fun e=>!CD e||br pre e.on)&&!br pre x&&!br rest x&&
   (bif nH o&&!lu c o then qf c ops o [x] rest
    else (rest.all fun y=>match ops[y]? with
     |some p=>bif Jc p then Hx ops p o&&aao c p else yt p (fun i=>Nat.beq i x||(br rest i&&!aap ops i))
     |none=>false))&&sS c ops (x::pre) rest
  |none=>false)
def qg (c:Ctx) (ops:Array Oper) (ord:List Nat):Bool:=
 aan ops.toList&&Nat.beq ord.length ops.toList.length&&(List.range ops.toList.length).all (br ord)&&sS c ops.toList [] ord
def Cq {R:Type} (c:Ctx) (id:Nat) (ops l:List Oper) (st:St) (K:St→Option R):Option R:=
 bif guarded ops then
  CC c (c.IQ id) st fun eE eZ=>bd (Ak (pJ ops) eE fun eE=>tS c ops l eE fun st=>mG st [] ((c.IQ id).ex 0) some) fun vs=>mH (Aj st eZ) ((c.IQ id).ex 0) vs K
 else Ak (pJ ops) st fun st=>tS c ops l st K
def kR (ops:List Oper):List Nat→Option (List Oper)
 |[]=>some []
 |i::r=>match ops[i]?,kR ops r with
  |some o,some l=>some (o::l)
  |_,_=>none
def lF {S:Type} (step:S→MV→Option (Bool×S)):S→List MV→Option (List MV×S)
 |s,[]=>some ([],s)
 |s,x::xs=>match step s x with
  |some (b,s1)=>(match lF step s1 xs with|some (ys,s2)=>some (bif b then ys else x::ys,s2)|none=>none)
  |none=>none
def QQ (g:Nat→List MV→Option MV) (k:Nat) (bS:List MV):Unit→MV→Option (Bool×Unit):=fun _ x=>match g k (x::bS) with
 |some (.b b)=>some (b,())
 |_=>none
def F8 (g:Nat→List MV→Option MV) (k:Nat) (bS:List MV):List MV→MV→Option (Bool×List MV):=fun ls x=>match g k (x::(bS++[.cell (.func 0 ls)])) with
 |some (.dL (.b b) outs)=>some (b,outs)
 |_=>none
def Lk:MV→Bool
 | .agg _=>true
 |_=>false
def QR {R:Type} (c:Ctx) (h f:Nat) (bS:List Operand) (x:Operand) (o1 o2:Oper) (st:St) (K:St→Option R):Option R:=
 let fin (ys:List MV) (st:St):Option R:=jg st (o2.dst.getD 0) ⟨c.ra (c.key h),false,ys⟩ fun st=>bk c st o2.dst (.sc (.own (o2.dst.getD 0))) fun st=>bk c st o1.dst (.sc .un) K
 match c.sig (c.key f) with
 |none=>bif c.dP (c.key f) then none else y5 c st bS fun ms st=>y6 c (c.key h) st (aK c st x) fun m st=>gF m fun xs=>dy (xs.all Lk)<|bd (lF (QQ c.g (c.key f) ms) () xs) fun p=>fin p.1 st
 |some sg=>y5 c st bS.dropLast fun ms st=>y6 c (c.key h) st (aK c st x) fun m st=>gF m fun xs=>dy (xs.all Lk)<|
  (match bS.getLast? with
  |some y=>(match aK c st y with
   | .ptr root 0=>(match aj st.fr root with
    | .box cs=>bif et cs||br st.b4 root||!gp c sg.2||!Nat.beq sg.1 (ms.length+1)||!c.dP (c.key f) then none else
     ji st [] sg.2 cs fun ls ps=>bd (lF (F8 c.g (c.key f) ms) ls xs) fun p=>F6 st root sg.2 ps p.2 fun st=>fin p.1 st
    |_=>none)
   |_=>none)
  |none=>none)
def y7 (c:Ctx):List Oper→List Oper→Option (List Oper×Nat×List Operand×Nat×Operand×Oper×Oper×List Oper)
 |pre,o1::o2::r=>match o1.op,o2.op with
  | .makeFunc (.func f) first bS,.call cl=>(match cl.callee,cl.args.toList,first.toList,o1.dst with
   | .value (.func h),[.tmp x,.tmp y],[],some d=>bif c.Hq h&&Nat.beq y d&&!Nat.beq x d&&!Nat.ble c.n d&&!Nat.beq (o2.dst.getD d) d then some (pre.reverse,f,bS.toList,h,.tmp x,o1,o2,r) else y7 c (o1::pre) (o2::r)
   |_,_,_,_=>y7 c (o1::pre) (o2::r))
  |_,_=>y7 c (o1::pre) (o2::r)
 |_,_=>none
def CE:List Oper→Bool
 |[]=>true
 |o::r=>(match o.guard with|none=>CE r|some _=>false)
def QS {R:Type} (c:Ctx) (id:Nat) (ops:List Oper) (st:St) (K:St→Option R):Option R:=
 match y7 c [] ops with
 |some (pre,f,bS,h,x,o1,o2,post)=>bif CE ops then Ak (pJ ops) st fun st=>tS c ops pre st fun st=>QR c h f bS x o1 o2 st fun st=>tS c ops post st K else none
 |none=>Cq c id ops ops st K
def fzK {R:Type} (c:Ctx) (ts:List Nat) (st:St) (K:St→Option R):Option R:=match ts with
 |[]=>K st
 |ts=>y5 c st (ts.map .tmp) fun _ st=>K st
def nI (ops:Array Oper) (A B:Nat):Array Oper:=ops.modify B fun o=>{o with after:=o.after.push ⟨A,.data⟩}
open Classical in
noncomputable def both {R:Type} (x y:Option R):Option R:=if x=y then x else none
def QT (n:Nat) (l:List Nat):Option (List Nat×List Nat×Nat×Nat):=match l.drop (n+n) with
 |[A,B]=>bif Nat.beq A B||(Nat.ble n A||Nat.ble n B) then none else some (l.take n,(l.drop n).take n,A,B)
 |_=>none
noncomputable def aaq {R:Type} (c:Ctx) (ops:Array Oper) (ord:List Nat) (st:St) (K:St→Option R):Option R:=
 match QT ops.toList.length ord with
 |some (o1,o2,A,B)=>bif !guarded ops.toList&&(qg c (nI ops A B) o1&&qg c (nI ops B A) o2) then
  (match kR (nI ops A B).toList o1,kR (nI ops B A).toList o2 with
  |some l1,some l2=>Ak (pJ ops.toList) st fun st=>both (tS c (nI ops A B).toList l1 st K) (tS c (nI ops B A).toList l2 st K)
  |_,_=>none) else none
 |none=>none
noncomputable def M5 {R:Type} (c:Ctx) (id:Nat) (ops:Array Oper) (draw:Bool) (st:St) (K:St→Option R):Option R:=
 fzK c (c.fz id) st fun st=>bif draw then (bif !Nat.beq (c.ord id).length ops.toList.length then aaq c ops (c.ord id) st K else bif qg c ops (c.ord id) then (match kR ops.toList (c.ord id) with|some l=>Cq c id ops.toList l st K|none=>none) else none)
 else QS c id ops.toList st K
noncomputable def nC (c:Ctx):Code→(R:Type)→St→(Nat→St→Option R)→Option R
 | .skip,_,st,K=>K 0 st
 | .region id ops d,_,st,K=>M5 c id ops d st fun st=>K 0 st
 | .seq a b,R,st,K=>nC c a R st fun e st=>bif Nat.beq e 0 then nC c b R st K else K e st
 | .cond x a b,R,st,K=>(match aK c st x with
  | .sc (.p (.b v))=>
   bif br (km a) 0&&br (km b) 0 then
    CC c (c.Hp ((eM (.seq a b)).getD 0)) st fun eE eZ=>
    bd (bp v (nC c a (Nat×List MV) eE fun e st=>mG st [] ((c.Hp ((eM (.seq a b)).getD 0)).ex e) fun vs=>some (e,vs))
     (nC c b (Nat×List MV) eE fun e st=>mG st [] ((c.Hp ((eM (.seq a b)).getD 0)).ex e) fun vs=>some (e,vs)))
     fun r=>Fb (ZP (km a) (km b)) r.1 fun e=>mH (Aj st eZ) ((c.Hp ((eM (.seq a b)).getD 0)).ex e) r.2 fun st=>K e st
   else bp v (nC c a R st K) (nC c b R st K)
  |_=>none)
 | .block id b,R,st,K=>nC c b R st fun e st=>bif Nat.beq e (id+2) then K 0 st else K e st
 | .loop b,_,st,K=>
  CC c (c.Fe ((eM b).getD 0)) st fun eE eZ=>mG eE [] (c.Fe ((eM b).getD 0)).outs fun vs=>
   bd (Loop (fun ms=>mH eZ (c.Fe ((eM b).getD 0)).outs ms fun st=>nC c b (Sum (List MV) (Nat×List MV)) st fun e st=>
    bif Nat.beq e 0 then mG st [] (c.Fe ((eM b).getD 0)).outs fun vs=>some (.inl vs) else mG st [] ((c.Fe ((eM b).getD 0)).ex e) fun vs=>some (.inr (e,vs))) vs)
    fun r=>Fb (minus (km b) [0]) r.1 fun e=>mH (Aj st eZ) ((c.Fe ((eM b).getD 0)).ex e) r.2 fun st=>K e st
 | .exit id,_,st,K=>K (id+2) st
 | .ret,_,st,K=>K 1 st
 |_,_,_,_=>none
def CF {R:Type} (c:Ctx):List Nat→Nat→List MV→(Fr→List MV→Option R)→Option R
 |[],_,ms,K=>K [] ms
 |t::ts,n,ms,K=>match c.tv t with
  |some I=>gC ms fun m r=>Bb I m fun s=>CF c ts (n+1) r fun fr ms=>K ((n,s)::fr) ms
  |none=>none
def Ll {R:Type}:List (List Kd)→Nat→List MV→(Fr→Option R)→Option R
 |[],_,ms,K=>gN ms (K [])
 |ks::r,n,ms,K=>gC ms fun m ms=>gP m fun cs=>rv ks cs fun cs=>Ll r (n+1) ms fun fr=>K ((n,.vJ cs)::fr)
def Lm {R:Type} (c:Ctx) (st:St) (fresh:Option Nat):List ResultVar→(List MV→Option R)→Option R
 |[],K=>K []
 |r::rs,K=>
  let go (s:Slot):Option R:=match fresh with
   |some ty=>(match s with
    | .sc (.own f)=>(match aG st.aO f with|some o=>bif o.dI||!Nat.beq o.ty ty then none else Lm c st fresh rs fun ms=>K (.fresh o.xs::ms)|none=>none)
    | .sc .nil=>Lm c st fresh rs fun ms=>K (.fresh []::ms)
    |_=>none)
   |none=>lq st s fun m st=>Lm c st fresh rs fun ms=>K (m::ms)
  match r with
  | .tmp t=>go (aj st.fr t)
  | .cell a t=>match c.tv t,aj st.fr a with
   |some I,.box cs=>bif et cs||xS a then none else jC I cs 0 fun s=>go s
   |_,_=>none
def Ol {R:Type} (c:Ctx) (st:St):List ResultVar→(List MV→St→Option R)→Option R
 |[],K=>K [] st
 |r::rs,K=>(match r with
  | .tmp t=>lq st (aj st.fr t) fun m st=>Ol c st rs fun ms st=>K (m::ms) st
  | .cell a t=>(match c.tv t,aj st.fr a with
   |some I,.box cs=>bif et cs||xS a then none else jC I cs 0 fun s=>lq st s fun m st=>Ol c st rs fun ms st=>K (m::ms) st
   |_,_=>none))
def aar:List MV→MV
 |[m]=>m
 |ms=> .cH ms
noncomputable def F9 (c:Ctx) (bS:List (List Kd)) (pos:Nat) (ks:List LK) (f:Func) (args:List MV):Option MV:=
 match f.body,args[pos]? with
 |some b,some (.cell (.func off ls))=>bif !gp c ks||!Nat.ble pos 999 then none else
  CF c f.params.toList 0 (args.set pos (.rp [])) fun fr ms=>Ll bS f.params.size ms fun nJ=>
   (match app fr nJ with
   |some fr=>cv ⟨[],[],[],[]⟩ ks ls fun cs rest wX=>gN rest<|
    nC c b MV ⟨[pos],[],(1000000+off *1000+pos,.box cs)::fr,wX.aO⟩ fun e st=>
     bif Nat.ble e 1 then Ol c st f.results.toList fun ms st=>(match aj st.fr (1000000+off *1000+pos) with
      | .box cs=>bif et cs then none else ji st [] ks cs fun outs _=>some (.dL (aar ms) outs)
      |_=>none) else none
   |none=>none)
 |_,_=>none
noncomputable def Ga (c:Ctx) (bS:List (List Kd)) (fresh:Option Nat) (f:Func) (args:List MV):Option MV:=
 match f.body with
 |some b=>CF c f.params.toList 0 args fun fr ms=>Ll bS f.params.size ms fun nJ=>
  match app fr nJ with
  |some fr=>nC c b MV ⟨[],[],fr,[]⟩ fun e st=>
   bif Nat.ble e 1 then Lm c st fresh f.results.toList fun ms=>(match ms with|[m]=>some m|ms=>some (.cH ms)) else none
  |none=>none
 |none=>none
end Dn
/-
  What abstract values and slots say of Go's memory. Conditions: none.
-/
namespace Dn
open Go
theorem jW (w:World) (o:Obj):(w.alloc o).heap[w.heap.size]? =some o:=by
 show (w.heap.push o)[w.heap.size]? =some o
 simp
theorem y8 (w:World) (o:Obj) (i:Nat) (h:i<w.heap.size):(w.alloc o).heap[i]? =w.heap[i]? :=by
 show (w.heap.push o)[i]? =w.heap[i]?
 rw [Array.getElem?_push,if_neg (Nat.ne_of_lt h)]
def MV.one:MV→Bool
 | .h _| .agg _| .cH _| .fresh _| .cell _| .dL _ _=>false
 |_=>true
abbrev Ph:=Nat→Nat→Option Value
section
variable (key:Nat→Nat) (φ:Ph)
mutual
inductive kS:List Value→MV→Prop
 |b (x:Bool):kS [.bool x] (.b x)
 |i (k:IntKind) (n:Int):kS [.int k n] (.i k n)
 |s (bs:ByteArray):kS [.string bs] (.s bs.data.toList)
 |h (x:kg):kS (x.l.map fun b=> .int .u8 (b.toNat:Int)) (.h x)
 |raw (v:Value):v.oneCell'=true→kS [v] (.raw v)
 |list (a:Option Addr) (cap:Nat) (xs:List MV) (a7 off IR:Nat) (f:Nat→List Value):
  xs.length≤cap→(0<xs.length→a=some ⟨a7,off,none⟩)→(∀i,i<xs.length→(f i).length=IR)→
  (∀i j,i<xs.length→j<IR→φ a7 (off+i *IR+j)=(f i)[j]?)→
  (∀(i:Nat) (h:i<xs.length),kS (f i) xs[i])→kS [.slice a xs.length cap] (.list xs)
 |agg (vs:List Value) (ms:List MV):gn vs ms→kS vs (.agg ms)
 |func (f k:Nat) (cap:Array Value) (ms:List MV):key f=k→gn cap.toList ms→(∀m∈ms,m.one=true)→kS [.func (.func f) #[] cap] (.func k ms)
 |rp (a7 off:Nat) (vs:List Value) (ms:List MV):gn vs ms→(∀j,j<vs.length→φ a7 (off+j)=vs[j]?)→kS [.pointer (some ⟨a7,off,none⟩)] (.rp ms)
inductive gn:List Value→List MV→Prop
 |nil:gn [] []
 |cons (v:List Value) (m:MV) (vs:List Value) (ms:List MV):kS v m→gn vs ms→gn (v++vs) (m::ms)
end
end
def pK (φ φ':Ph):Prop:= ∀b o v,φ b o=some v→φ' b o=some v
theorem pK.refl (φ:Ph):pK φ φ:=fun _ _ _ h=>h
theorem pK.wY {φ φ':Ph} (h:pK φ φ') {b j:Nat} {cs:List Value} (e:φ b j=cs[j]?) (hj:j<cs.length):φ' b j=cs[j]? :=by
 rw [List.getElem?_eq_getElem hj] at e⊢
 exact h _ _ _ e
theorem pK.trans {φ φ' φ'':Ph} (h:pK φ φ') (h':pK φ' φ''):pK φ φ'':=fun b o v e=>h' b o v (h b o v e)
section
set_option linter.unusedSectionVars false
variable {key:Nat→Nat} {φ φ':Ph} (hle:pK φ φ')
include hle
theorem Hy {b o:Nat} {vs:List Value} {j:Nat} (hj:j<vs.length) (h:φ b o=vs[j]?):φ' b o=vs[j]? :=by
 rw [List.getElem?_eq_getElem hj] at h⊢
 exact hle _ _ _ h
mutual
theorem kS.mono {vs:List Value} {m:MV}:kS key φ vs m→kS key φ' vs m
 | .b x=> .b x
 | .i k n=> .i k n
 | .s bs=> .s bs
 | .h x=> .h x
 | .raw v h=> .raw v h
 | .list a cap xs a7 off IR f h1 h2 h3 h4 h5=> .list a cap xs a7 off IR f h1 h2 h3
  (fun i j hi hj=>Hy hle (by rw [h3 i hi];exact hj) (h4 i j hi hj)) (fun i hi=>(h5 i hi).mono)
 | .agg vs ms h=> .agg vs ms h.mono
 | .func f k cap ms h1 h2 h3=> .func f k cap ms h1 h2.mono h3
 | .rp a7 off vs ms h1 h2=> .rp a7 off vs ms h1.mono (fun j hj=>Hy hle hj (h2 j hj))
theorem gn.mono {vs:List Value} {ms:List MV}:gn key φ vs ms→gn key φ' vs ms
 | .nil=> .nil
 | .cons v m vs ms h1 h2=> .cons v m vs ms h1.mono h2.mono
end
end
section
variable {key:Nat→Nat} {φ:Ph}
mutual
theorem kS.cells {vs:List Value} {m:MV}:kS key φ vs m→ ∀v∈vs,v.oneCell'=true
 | .b x=>by simp [Value.oneCell']
 | .i k n=>by simp [Value.oneCell']
 | .s bs=>by simp [Value.oneCell']
 | .h x=>by
  intro v hv
  obtain ⟨b,_,rfl⟩:=List.mem_map.1 hv
  rfl
 | .raw v h=>by simpa using h
 | .list .. =>by simp [Value.oneCell']
 | .agg vs ms h=>h.cells
 | .func .. =>by simp [Value.oneCell']
 | .rp .. =>by simp [Value.oneCell']
theorem gn.cells {vs:List Value} {ms:List MV}:gn key φ vs ms→ ∀v∈vs,v.oneCell'=true
 | .nil=>by simp
 | .cons v m vs ms h1 h2=>by
  intro x hx
  rcases List.mem_append.1 hx with hx|hx
  ·exact h1.cells x hx
  ·exact h2.cells x hx
end
end
section
variable {key:Nat→Nat} {φ:Ph}
mutual
theorem kS.width {vs:List Value} {m:MV}:kS key φ vs m→vs.length=m.w
 | .b x=>by simp [MV.w]
 | .i k n=>by simp [MV.w]
 | .s bs=>by simp [MV.w]
 | .h x=>by simp [MV.w,x.h]
 | .raw v h=>by simp [MV.w]
 | .list .. =>by simp [MV.w]
 | .agg vs ms h=>by rw [h.width];simp [MV.w]
 | .func .. =>by simp [MV.w]
 | .rp .. =>by simp [MV.w]
theorem gn.width {vs:List Value} {ms:List MV}:gn key φ vs ms→vs.length=MV.wl ms
 | .nil=>by simp [MV.wl]
 | .cons v m vs ms h1 h2=>by simp [MV.wl,h1.width,h2.width]
end
end
theorem kS.one {key:Nat→Nat} {φ:Ph} {vs:List Value} {m:MV} (h:kS key φ vs m) (hm:m.one=true): ∃v,vs=[v]∧v.oneCell'=true:=by
 have hc:=h.cells
 cases h<;>simp [MV.one] at hm<;>exact ⟨_,rfl,hc _ (by simp)⟩
def eN (key:Nat→Nat) (φ:Ph) (v:Value):MV→Prop
 | .h x=>v= .agg (x.l.map fun b=>Value.int .u8 (b.toNat:Int)).toArray
 | .agg ms=> ∃arr,v= .agg arr∧gn key φ arr.toList ms
 |m=>m.one=true∧kS key φ [v] m
set_option linter.unusedSectionVars false
theorem eN.mono {key:Nat→Nat} {φ φ':Ph} (hle:pK φ φ') {v:Value} {m:MV} (h:eN key φ v m):eN key φ' v m:=by
 cases m<;>simp only [eN] at h⊢ <;>first|exact h|exact ⟨h.1,h.2.mono hle⟩|(obtain ⟨arr,h1,h2⟩:=h;exact ⟨arr,h1,h2.mono hle⟩)
structure Env where
 key:Nat→Nat
 φ:Ph
 E:Nat→Value
 B:Nat→Nat
 m:List (Nat×mQ)
def bh (x:kg):List Value:=x.l.map fun b=>Value.int .u8 (b.toNat:Int)
theorem cw (x:kg):(bh x).length=32:=by simp [bh,x.h]
def aS (e:Env) (vs:List Value):aD→Prop
 | .un=> ∃v,vs=[v]∧v.oneCell'=true
 | .p x=>x.one=true∧kS e.key e.φ vs x
 | .hs x=>vs=bh x
 | .nil=>vs=[.slice none 0 0]
 | .mp _ _=>False
 | .own f=> ∃v,vs=[v]∧v.oneCell'=true∧(∀o,aG e.m f=some o→v=e.E f)
def ar (e:Env):List Value→List aD→Prop
 |vs,[]=>vs=[]
 |vs,l::ls=> ∃v r,vs=v++r∧aS e v l∧ar e r ls
def rz:aD→Bool
 | .p _| .hs _=>true
 |_=>false
def iG:List aD→Bool
 |[]=>true
 |l::r=>rz l&&iG r
def CG (st:Bool) (x:MV) (cs:List aD):Prop:=(∃ms,bx cs=some ms∧se st ms=some x)∧ ∀m,aD.p m∈cs→m.one=true
def xV:Slot→Bool
 | .sc l=>rz l
 | .ag cs=>iG cs
 |_=>false
mutual
def ab (e:Env) (v:Value):Slot→Prop
 | .skip=>v=undef
 | .sc l=>match l with
  | .un=>True
  | .hs x=>v= .agg (bh x).toArray
  |l=>aS e [v] l
 | .ag cs=> ∃arr,v= .agg arr∧ar e arr.toList cs
 | .cH vs=> ∃arr,v= .tuple arr∧jD e arr.toList vs
 | .box _=>False
 | .vJ cs=> ∃a7 o vs,v= .pointer (some ⟨a7,o,none⟩)∧ar e vs cs∧iG cs=true∧(∀j,j<vs.length→e.φ a7 (o+j)=vs[j]?)
 | .ptr r o=>v= .pointer (some ⟨e.B r,o,none⟩)
 | .vK r=>v= .map (some (e.B r))
 | .rp cs off=> ∃a7 o vs,v= .pointer (some ⟨a7,o+off,none⟩)∧ar e vs cs∧iG cs=true∧(∀j,j<vs.length→e.φ a7 (o+j)=vs[j]?)
 | .hp r o i=>v= .pointer (some ⟨e.B r,o+i,none⟩)∧i<32
 | .ep f i off st cs=> ∀o,aG e.m f=some o→ ∃a7 cap,e.E f= .slice (some ⟨a7,0,none⟩) o.xs.length cap∧(∃x,o.xs[i]? =some x∧CG st x cs)∧
  v= .pointer (some ⟨a7,i *vL cs+off,none⟩)
def jD (e:Env):List Value→List Slot→Prop
 |vs,[]=>vs=[]
 |vs,s::ss=> ∃v r,vs=v::r∧ab e v s∧xV s=true∧jD e r ss
end
def QU:aD→List Value→Bool
 | .p (.b x),[.bool y]=>x==y
 | .p (.i k n),[.int k' n']=>decide (k=k')&&decide (n=n')
 | .p (.s l),[.string s]=>decide (l=s.data.toList)
 | .p (.raw v),[w]=>match v,w with
  | .nilFunc,.nilFunc=>true
  | .nilIface,.nilIface=>true
  | .pointer none,.pointer none=>true
  |_,_=>false
 | .nil,[.slice none 0 0]=>true
 | .un,[v]=>v.oneCell'
 | .hs x,vs=>(vs.length==32)&&(vs.zip x.l).all fun p=>match p.1 with| .int .u8 n=>decide (n=(p.2.toNat:Int))|_=>false
 |_,_=>false
def rB:List aD→List Value→Bool
 |[],vs=>vs.isEmpty
 |l::ls,vs=>QU l (vs.take l.w)&&rB ls (vs.drop l.w)&&decide (l.w≤vs.length)
end Dn
/-
  How an abstract state stands to a frame and a memory; laws of frames and leaves. Conditions: none.
-/
set_option linter.unusedSimpArgs false
set_option linter.unusedVariables false
namespace Dn
open Go
def bV:Fr→Nat→Slot→Fr
 |[],t,v=>[(t,v)]
 |(k,s)::r,t,v=>bif Nat.beq k t then (k,v)::r else (k,s)::bV r t v
def cN (ds:List Nat):Fr→Fr
 |[]=>[]
 |(k,s)::r=>bif cX s||br ds k then cN ds r else (k,s)::cN ds r
def mR (ks:List Nat):Fr→Fr
 |[]=>[]
 |(k,s)::r=>bif br ks k&&!cX s then (k,s)::mR ks r else mR ks r
def bH:List (Nat×mQ)→Nat→mQ→List (Nat×mQ)
 |[],t,v=>[(t,v)]
 |(k,s)::r,t,v=>bif Nat.beq k t then (k,v)::r else (k,s)::bH r t v
def IU (f:Nat):aD→aD
 | .own g=>bif Nat.beq g f then .un else .own g
 |l=>l
def xW (f:Nat):Slot→Slot
 | .sc l=> .sc (IU f l)
 | .ag cs=> .ag (cs.map (IU f))
 | .box cs=> .box (cs.map (IU f))
 | .ep g i o b cs=>bif Nat.beq g f then .sc .un else .ep g i o b cs
 |s=>s
def kh (f:Nat) (r:Fr):Fr:=r.map fun p=>(p.1,xW f p.2)
def vP (f:Nat) (r:Fr):Fr:=r.map fun p=>(p.1,match p.2 with
 | .ep g i o b cs=>bif Nat.beq g f then .sc .un else .ep g i o b cs
 |s=>s)
def Ln (ps:List Nat):aD→aD
 | .own g=>bif br ps g then .own g else .un
 |l=>l
def E7 (ps:List Nat):Slot→Slot
 | .sc l=> .sc (Ln ps l)
 | .ag cs=> .ag (cs.map (Ln ps))
 | .box cs=> .box (cs.map (Ln ps))
 |s=>s
def Lo (ps:List Nat) (r:Fr):Fr:=r.map fun p=>(p.1,E7 ps p.2)
def qh (ks fs qs:List Nat):List (Nat×mQ)→List (Nat×mQ)
 |[]=>[]
 |(k,o)::r=>bif br ks k then (bif br fs k&&!br qs k then (k,⟨o.ty,true,o.xs⟩) else (k,o))::qh ks fs qs r else qh ks fs qs r
section
variable {R:Type}
theorem force_eq (s:Slot) (K:Slot→Option R):force s K=K s:=by cases s<;>rfl
theorem kT (r:Fr) (t:Nat) (s:Slot) (K:Fr→Option R):Fc r t s K=K (bV r t s):=by
 induction r generalizing K with
 |nil=>rfl
 |cons p r ih=>obtain ⟨k,x⟩:=p;simp only [Fc,bV];cases Nat.beq k t<;>simp [ih]
theorem Bd (ds:List Nat) (r:Fr) (K:Fr→Option R):sQ ds r K=K (cN ds r):=by
 induction r generalizing K with
 |nil=>rfl
 |cons p r ih=>obtain ⟨k,x⟩:=p;simp only [sQ,cN];cases cX x||br ds k<;>simp [ih]
theorem Ur (ks:List Nat) (r:Fr) (K:Fr→Option R):pick ks r K=K (mR ks r):=by
 induction r generalizing K with
 |nil=>rfl
 |cons p r ih=>obtain ⟨k,x⟩:=p;simp only [pick,mR];cases br ks k&&!cX x<;>simp [ih]
theorem mS (r:List (Nat×mQ)) (t:Nat) (s:mQ) (K:List (Nat×mQ)→Option R):Ld r t s K=K (bH r t s):=by
 induction r generalizing K with
 |nil=>rfl
 |cons p r ih=>obtain ⟨k,x⟩:=p;simp only [Ld,bH];cases Nat.beq k t<;>simp [ih]
theorem CH (f:Nat) (cs:List aD) (K:List aD→Option R):tN f cs K=K (cs.map (IU f)):=by
 induction cs generalizing K with
 |nil=>rfl
 |cons l r ih=>cases l<;>simp only [tN,List.map_cons,IU,ih];rename_i g;cases Nat.beq g f<;>rfl
theorem QV (f:Nat) (s:Slot) (K:Slot→Option R):F4 f s K=K (xW f s):=by
 cases s with
 |sc l=>cases l<;>simp only [F4,xW,IU];rename_i g;cases Nat.beq g f<;>rfl
 |ag cs=>simp only [F4,xW,CH]
 |box cs=>simp only [F4,xW,CH]
 |ep g i o b cs=>simp only [F4,xW];cases Nat.beq g f<;>rfl
 |_=>rfl
theorem QW (f:Nat) (r:Fr) (K:Fr→Option R):kFr f r K=K (kh f r):=by
 induction r generalizing K with
 |nil=>rfl
 |cons p r ih=>obtain ⟨k,x⟩:=p;simp only [kFr,QV,ih,kh,List.map_cons]
theorem XY (f:Nat) (r:Fr) (K:Fr→Option R):ZN f r K=K (vP f r):=by
 induction r generalizing K with
 |nil=>rfl
 |cons p r ih=>
  obtain ⟨k,x⟩:=p
  cases x<;>simp only [ZN,ih,vP,List.map_cons]
  rename_i g i o b cs
  cases Nat.beq g f<;>rfl
theorem CI (f:List Nat) (cs:List aD) (K:List aD→Option R):tT f cs K=K (cs.map (Ln f)):=by
 induction cs generalizing K with
 |nil=>rfl
 |cons l r ih=>cases l<;>simp only [tT,List.map_cons,Ln,ih];rename_i g;cases br f g<;>rfl
theorem QX (f:List Nat) (s:Slot) (K:Slot→Option R):Ja f s K=K (E7 f s):=by
 cases s with
 |sc l=>cases l<;>simp only [Ja,E7,Ln];rename_i g;cases br f g<;>rfl
 |ag cs=>simp only [Ja,E7,CI]
 |box cs=>simp only [Ja,E7,CI]
 |_=>rfl
theorem XZ (f:List Nat) (r:Fr) (K:Fr→Option R):nFr f r K=K (Lo f r):=by
 induction r generalizing K with
 |nil=>rfl
 |cons p r ih=>obtain ⟨k,x⟩:=p;simp only [nFr,QX,ih,Lo,List.map_cons]
theorem QY (ks fs qs:List Nat) (r:List (Nat×mQ)) (K:List (Nat×mQ)→Option R):F7 ks fs qs r K=K (qh ks fs qs r):=by
 induction r generalizing K with
 |nil=>rfl
 |cons p r ih=>
  obtain ⟨k,x⟩:=p
  simp only [F7,qh]
  cases br ks k
  ·simp [ih]
  ·simp only [cond_true,ih]
   cases br fs k&&!br qs k<;>rfl
theorem tU {α:Type} (x y:List α):app x y=some (x++y):=by
 induction x with
 |nil=>rfl
 |cons a r ih=>simp [app,ih]
end
theorem eh (a b:Nat):Nat.beq a b=decide (a=b):=by
 by_cases h:a=b
 ·subst h;simp
 ·simp only [h,decide_false];exact Bool.eq_false_iff.2 (fun e=>h (Nat.eq_of_beq_eq_true e))
theorem bt (l:List Nat) (t:Nat):br l t=true↔t∈l:=by
 induction l with
 |nil=>simp [br]
 |cons k r ih=>
  simp only [br,eh,List.mem_cons]
  by_cases h:k=t
  ·simp [h]
  ·simp only [h,decide_false,cond_false,ih]
   exact ⟨.inr,fun h'=>h'.resolve_left (fun e=>h e.symm)⟩
theorem bD (r:Fr) (d t:Nat) (s:Slot):aj (bV r d s) t=if t=d then s else aj r t:=by
 induction r with
 |nil=>simp only [bV,aj,eh];by_cases h:t=d<;>simp [h,Ne.symm]<;>(intro e;exact absurd e.symm h)
 |cons p r ih=>
  obtain ⟨k,x⟩:=p
  simp only [bV,eh]
  by_cases hk:k=d
  ·subst hk
   simp only [decide_true,cond_true,aj,eh]
   by_cases h:k=t
   ·simp [h]
   ·have h': ¬t=k:=fun e=>h e.symm
    simp [h,h']
  ·simp only [hk,decide_false,cond_false,aj,eh,ih]
   by_cases h:k=t
   ·subst h;simp [hk]
   ·simp [h]
theorem ba (r:List (Nat×mQ)) (d t:Nat) (s:mQ):aG (bH r d s) t=if t=d then some s else aG r t:=by
 induction r with
 |nil=>simp only [bH,aG,eh];by_cases h:t=d<;>simp [h,Ne.symm]<;>(intro e;exact absurd e.symm h)
 |cons p r ih=>
  obtain ⟨k,x⟩:=p
  simp only [bH,eh]
  by_cases hk:k=d
  ·subst hk
   simp only [decide_true,cond_true,aG,eh]
   by_cases h:k=t
   ·simp [h]
   ·have h': ¬t=k:=fun e=>h e.symm
    simp [h,h']
  ·simp only [hk,decide_false,cond_false,aG,eh,ih]
   by_cases h:k=t
   ·subst h;simp [hk]
   ·simp [h]
theorem CJ (g:Slot→Slot) (hg:g (.sc .un)= .sc .un) (r:Fr) (t:Nat):aj (r.map fun p=>(p.1,g p.2)) t=g (aj r t):=by
 induction r with
 |nil=>simp [aj,hg]
 |cons p r ih=>
  obtain ⟨k,x⟩:=p
  simp only [List.map_cons,aj,eh]
  by_cases h:k=t<;>simp [h,ih]
theorem fO (f:Nat) (r:Fr) (t:Nat):aj (kh f r) t=xW f (aj r t):=CJ (xW f) rfl r t
theorem Gb (f:List Nat) (r:Fr) (t:Nat):aj (Lo f r) t=E7 f (aj r t):=CJ (E7 f) rfl r t
def aL (r:Fr):List Nat:=r.map Prod.fst
theorem p0 (r:Fr) (t:Nat) (h:t∉aL r):aj r t= .sc .un:=by
 induction r with
 |nil=>rfl
 |cons p r ih=>
  obtain ⟨k,x⟩:=p
  simp only [aL,List.map_cons,List.mem_cons,not_or] at h
  have h': ¬k=t:=fun e=>h.1 e.symm
  simp only [aj,eh,h',decide_false,cond_false]
  exact ih h.2
theorem y9 (ds:List Nat) (r:Fr):List.Sublist (aL (cN ds r)) (aL r):=by
 induction r with
 |nil=>simp [aL,cN]
 |cons p r ih=>
  obtain ⟨k,x⟩:=p
  simp only [cN]
  cases cX x||br ds k
  ·simpa [aL] using ih
  ·exact (List.Sublist.cons _ ih)
theorem tV (ds:List Nat) (r:Fr):List.Sublist (aL (mR ds r)) (aL r):=by
 induction r with
 |nil=>simp [aL,mR]
 |cons p r ih=>
  obtain ⟨k,x⟩:=p
  simp only [mR]
  cases br ds k&&!cX x
  ·exact (List.Sublist.cons _ ih)
  ·simpa [aL] using ih
theorem CK (ds:List Nat) (r:Fr) (hn:(aL r).Nodup) (t:Nat):aj (cN ds r) t=if cX (aj r t)||br ds t then .sc .un else aj r t:=by
 induction r with
 |nil=>simp [aj,cN]
 |cons p r ih=>
  obtain ⟨k,x⟩:=p
  simp only [aL,List.map_cons,List.nodup_cons] at hn
  have ih:=ih hn.2
  simp only [cN]
  by_cases hk:k=t
  ·subst hk
   cases hb:cX x||br ds k
   ·simp [aj,eh,hb]
   ·simp only [cond_true,aj,eh,decide_true,hb,if_true]
    refine p0 _ _ (fun hm=>hn.1 ((y9 ds r).subset hm))
  ·cases hb:cX x||br ds k
   ·simp [aj,eh,hk,ih]
   ·simp [aj,eh,hk,ih]
theorem yu (ds:List Nat) (r:Fr) (hn:(aL r).Nodup) (t:Nat):aj (mR ds r) t=if br ds t&&!cX (aj r t) then aj r t else .sc .un:=by
 induction r with
 |nil=>simp [aj,mR]
 |cons p r ih=>
  obtain ⟨k,x⟩:=p
  simp only [aL,List.map_cons,List.nodup_cons] at hn
  have ih:=ih hn.2
  simp only [mR]
  by_cases hk:k=t
  ·subst hk
   cases hb:br ds k&&!cX x
   ·simp only [cond_false,aj,eh,decide_true,cond_true,hb]
    exact p0 _ _ (fun hm=>hn.1 ((tV ds r).subset hm))
   ·simp [aj,eh,hb]
  ·cases hb:br ds k&&!cX x<;>simp [aj,eh,hk,ih]
theorem vQ (r s:Fr) (t:Nat):aj (r++s) t=if t∈aL r then aj r t else aj s t:=by
 induction r with
 |nil=>simp [aL]
 |cons p r ih=>
  obtain ⟨k,x⟩:=p
  simp only [List.cons_append,aj,eh,aL,List.map_cons,List.mem_cons]
  by_cases h:k=t
  ·simp [h]
  ·have h': ¬t=k:=fun e=>h e.symm
   simp only [h,h',decide_false,cond_false,ih,false_or]
   rfl
end Dn
/-
  Laws of leaves and slots: offsets, and what changes elsewhere. Conditions: none.
-/
set_option linter.unusedSimpArgs false
set_option linter.unusedVariables false
namespace Dn
open Go
section
variable {e e':Env}
theorem aS.width {vs:List Value} {l:aD} (h:aS e vs l):vs.length=l.w:=by
 cases l with
 |un=>obtain ⟨v,rfl,_⟩:=h;rfl
 |p m=>obtain ⟨v,rfl,_⟩:=h.2.one h.1;rfl
 |hs x=>cases h;simp [bh,x.h,aD.w]
 |nil=>cases h;rfl
 |mp s es=>exact h.elim
 |own f=>obtain ⟨v,rfl,_⟩:=h;rfl
theorem aS.cells {vs:List Value} {l:aD} (h:aS e vs l): ∀v∈vs,v.oneCell'=true:=by
 cases l with
 |un=>obtain ⟨v,rfl,hv⟩:=h;simpa using hv
 |p m=>exact h.2.cells
 |hs x=>
  cases h
  intro v hv
  obtain ⟨b,_,rfl⟩:=List.mem_map.1 hv
  rfl
 |nil=>cases h;simp [Value.oneCell']
 |mp s es=>exact h.elim
 |own f=>obtain ⟨v,rfl,hv,_⟩:=h;simpa using hv
theorem ar.width {cs:List aD}: ∀{vs:List Value},ar e vs cs→vs.length=vL cs:=by
 induction cs with
 |nil=>intro vs h;cases h;rfl
 |cons l r ih=>intro vs h;obtain ⟨v,w,rfl,h1,h2⟩:=h;simp [vL,h1.width,ih h2]
theorem ar.cells {cs:List aD}: ∀{vs:List Value},ar e vs cs→ ∀v∈vs,v.oneCell'=true:=by
 induction cs with
 |nil=>intro vs h;cases h;simp
 |cons l r ih=>
  intro vs h v hv
  obtain ⟨a,w,rfl,h1,h2⟩:=h
  rcases List.mem_append.1 hv with hv|hv
  ·exact h1.cells v hv
  ·exact ih h2 v hv
theorem ar.append {cs ds:List aD}: ∀{vs ws:List Value},ar e vs cs→ar e ws ds→ar e (vs++ws) (cs++ds):=by
 induction cs with
 |nil=>intro vs ws h h';cases h;simpa using h'
 |cons l r ih=>intro vs ws h h';obtain ⟨v,w,rfl,h1,h2⟩:=h;exact ⟨v,w++ws,by simp,h1,ih h2 h'⟩
theorem vR {cs:List aD}: ∀{off:Nat} {ds:List aD} {vs:List Value},cut cs off=some ds→ar e vs cs→
 ∃v1 v2,vs=v1++v2∧v1.length=off∧ar e v2 ds:=by
 induction cs with
 |nil=>
  intro off ds vs h hr
  cases off with
  |zero=>simp only [cut,Option.some.injEq] at h;subst h;exact ⟨[],vs,rfl,rfl,hr⟩
  |succ n=>simp [cut] at h
 |cons l r ih=>
  intro off ds vs h hr
  cases off with
  |zero=>simp only [cut,Option.some.injEq] at h;subst h;exact ⟨[],vs,rfl,rfl,hr⟩
  |succ n=>
   simp only [cut] at h
   cases hb:Nat.ble l.w (n+1) with
   |false=>simp [hb] at h
   |true=>
    simp only [hb,cond_true] at h
    have hle:=Nat.le_of_ble_eq_true hb
    obtain ⟨v,w,rfl,h1,h2⟩:=hr
    obtain ⟨v1,v2,rfl,hl,h3⟩:=ih h h2
    exact ⟨v++v1,v2,by simp,by simp [h1.width,hl];omega,h3⟩
theorem Om {cs:List aD}: ∀{n:Nat} {ds:List aD} {vs:List Value},I4 cs n=some ds→ar e vs cs→
 ∃v1 v2,vs=v1++v2∧v1.length=n∧ar e v1 ds:=by
 induction cs with
 |nil=>
  intro n ds vs h hr
  cases n with
  |zero=>simp only [I4,Option.some.injEq] at h;subst h;exact ⟨[],vs,rfl,rfl,rfl⟩
  |succ n=>simp [I4] at h
 |cons l r ih=>
  intro n ds vs h hr
  cases n with
  |zero=>simp only [I4,Option.some.injEq] at h;subst h;exact ⟨[],vs,rfl,rfl,rfl⟩
  |succ n=>
   simp only [I4] at h
   cases hb:Nat.ble l.w (n+1) with
   |false=>simp [hb] at h
   |true=>
    simp only [hb,cond_true] at h
    have hle:=Nat.le_of_ble_eq_true hb
    obtain ⟨v,w,rfl,h1,h2⟩:=hr
    cases hu:I4 r (n+1-l.w) with
    |none=>simp [hu] at h
    |some b=>
     simp only [hu,Option.some.injEq] at h
     subst h
     obtain ⟨v1,v2,rfl,hl,h3⟩:=ih hu h2
     exact ⟨v++v1,v2,by simp,by simp [h1.width,hl];omega,v,v1,rfl,h1,h3⟩
theorem Gc {cs:List aD} {off n:Nat} {ds:List aD} {vs:List Value} (h:part cs off n=some ds) (hr:ar e vs cs):
 ∃v1 v2 v3,vs=v1++v2++v3∧v1.length=off∧v2.length=n∧ar e v2 ds:=by
 unfold part at h
 cases hc:cut cs off with
 |none=>simp [hc] at h
 |some a=>
  simp only [hc] at h
  obtain ⟨v1,v2,rfl,h1,h2⟩:=vR hc hr
  obtain ⟨v3,v4,rfl,h3,h4⟩:=Om h h2
  exact ⟨v1,v3,v4,by simp,h1,h3,h4⟩
theorem Gd {ls:List aD}: ∀{cs ds:List aD} {vs ws:List Value},over ls cs=some ds→ar e vs cs→ar e ws ls→
 ∃v1 v2,vs=v1++v2∧v1.length=ws.length∧ar e (ws++v2) ds:=by
 induction ls with
 |nil=>intro cs ds vs ws h hr hw;simp only [over,Option.some.injEq] at h;subst h;cases hw;exact ⟨[],vs,rfl,rfl,hr⟩
 |cons l r ih=>
  intro cs ds vs ws h hr hw
  cases cs with
  |nil=>simp [over] at h
  |cons c cs=>
   simp only [over] at h
   cases hb:Nat.beq l.w c.w with
   |false=>simp [hb] at h
   |true=>
    simp only [hb,cond_true] at h
    have hww:=Nat.eq_of_beq_eq_true hb
    cases ho:over r cs with
    |none=>simp [ho] at h
    |some q=>
     simp only [ho,Option.some.injEq] at h
     subst h
     obtain ⟨v,w,rfl,h1,h2⟩:=hr
     obtain ⟨a,b,rfl,h3,h4⟩:=hw
     obtain ⟨v1,v2,rfl,hl,h5⟩:=ih ho h2 h4
     exact ⟨v++v1,v2,by simp,by simp [h1.width,h3.width,hl,hww],a,b++v2,by simp,h3,h5⟩
theorem tW {cs:List aD}: ∀{off:Nat} {ls ds:List aD} {vs ws:List Value},putAt cs off ls=some ds→ar e vs cs→ar e ws ls→
 ∃v1 v2 v3,vs=v1++v2++v3∧v1.length=off∧v2.length=ws.length∧ar e (v1++ws++v3) ds:=by
 induction cs with
 |nil=>
  intro off ls ds vs ws h hr hw
  cases off with
  |zero=>
   simp only [putAt] at h
   obtain ⟨v1,v2,rfl,h1,h2⟩:=Gd h hr hw
   exact ⟨[],v1,v2,by simp,rfl,h1,by simpa using h2⟩
  |succ n=>simp [putAt] at h
 |cons l r ih=>
  intro off ls ds vs ws h hr hw
  cases off with
  |zero=>
   simp only [putAt] at h
   obtain ⟨v1,v2,rfl,h1,h2⟩:=Gd h hr hw
   exact ⟨[],v1,v2,by simp,rfl,h1,by simpa using h2⟩
  |succ n=>
   simp only [putAt] at h
   cases hb:Nat.ble l.w (n+1) with
   |false=>simp [hb] at h
   |true=>
    simp only [hb,cond_true] at h
    have hle:=Nat.le_of_ble_eq_true hb
    obtain ⟨v,w,rfl,h1,h2⟩:=hr
    cases hu:putAt r (n+1-l.w) ls with
    |none=>simp [hu] at h
    |some b=>
     simp only [hu,Option.some.injEq] at h
     subst h
     obtain ⟨v1,v2,v3,rfl,hl,vS,h3⟩:=ih hu h2 hw
     exact ⟨v++v1,v2,v3,by simp,by simp [h1.width,hl];omega,vS,v,v1++ws++v3,by simp,h1,h3⟩
structure jX (S T:Nat→Prop) (e e':Env):Prop where
 key:e'.key=e.key
 φ:pK e.φ e'.φ
 B: ∀r,T r→e'.B r=e.B r
 iF: ∀f o',aG e'.m f=some o'→S f→ ∃o,aG e.m f=some o∧e'.E f=e.E f∧o'.xs=o.xs
def iK (S:Nat→Prop) (l:aD):Prop:= ∀f,l= .own f→S f
def eO (S T:Nat→Prop):Slot→Prop
 | .ptr r _=>T r
 | .vK r=>T r
 | .hp r _ _=>T r
 | .sc l=>iK S l
 | .ag cs=> ∀l∈cs,iK S l
 | .ep g _ _ _ _=>S g
 |_=>True
theorem aS.on {S T:Nat→Prop} (h:jX S T e e') {vs:List Value} {l:aD} (hl:iK S l) (hr:aS e vs l):aS e' vs l:=by
 cases l with
 |un=>exact hr
 |p m=>exact ⟨hr.1,by have:=hr.2.mono h.φ;rw [←h.key] at this;exact this⟩
 |hs x=>exact hr
 |nil=>exact hr
 |mp s es=>exact hr
 |own f=>
  obtain ⟨v,rfl,hv,hf⟩:=hr
  refine ⟨v,rfl,hv,fun o' yv=> ?_⟩
  obtain ⟨o,ho,hE,_⟩:=h.iF f o' yv (hl f rfl)
  rw [hE];exact hf o ho
theorem ar.on {S T:Nat→Prop} (h:jX S T e e') {cs:List aD}: ∀{vs:List Value},(∀l∈cs,iK S l)→ar e vs cs→ar e' vs cs:=by
 induction cs with
 |nil=>intro vs _ hr;exact hr
 |cons l r ih=>
  intro vs hl hr
  obtain ⟨v,w,rfl,h1,h2⟩:=hr
  exact ⟨v,w,rfl,h1.on h (hl l (by simp)),ih (fun x hx=>hl x (by simp [hx])) h2⟩
theorem CL {S:Nat→Prop} {l:aD} (h:rz l=true):iK S l:=by
 intro f hf;subst hf;simp [rz] at h
theorem yw {S:Nat→Prop} {cs:List aD} (h:iG cs=true): ∀l∈cs,iK S l:=by
 induction cs with
 |nil=>simp
 |cons l r ih=>
  simp only [iG,Bool.and_eq_true] at h
  intro x hx
  rcases List.mem_cons.1 hx with rfl|hx
  ·exact CL h.1
  ·exact ih h.2 x hx
mutual
theorem ab.on {S T:Nat→Prop} (h:jX S T e e') {v:Value}: ∀{s:Slot},eO S T s→ab e v s→ab e' v s
 | .skip,_,hr=>by simpa [ab] using hr
 | .sc l,hs,hr=>by
  cases l with
  |un=>simp [ab]
  |hs x=>simpa [ab] using hr
  |p m=>simp only [ab] at hr⊢;exact hr.on h hs
  |nil=>simp only [ab] at hr⊢;exact hr.on h hs
  |mp s es=>simp only [ab] at hr⊢;exact hr
  |own f=>simp only [ab] at hr⊢;exact hr.on h hs
 | .ag cs,hs,hr=>by
  simp only [ab] at hr⊢
  obtain ⟨arr,h1,h2⟩:=hr
  exact ⟨arr,h1,h2.on h hs⟩
 | .cH vs,_,hr=>by
  simp only [ab] at hr⊢
  obtain ⟨arr,h1,h2⟩:=hr
  exact ⟨arr,h1,jD.on h h2⟩
 | .box _,_,hr=>by simp [ab] at hr
 | .vJ cs,_,hr=>by
  simp only [ab] at hr⊢
  obtain ⟨a7,o,vs,h1,h2,h3,h4⟩:=hr
  exact ⟨a7,o,vs,h1,h2.on h (yw h3),h3,fun j hj=>Hy h.φ hj (h4 j hj)⟩
 | .ptr r o,hs,hr=>by simp only [ab] at hr⊢;rw [h.B r hs];exact hr
 | .vK r,hs,hr=>by simp only [ab] at hr⊢;rw [h.B r hs];exact hr
 | .rp cs off,_,hr=>by
  simp only [ab] at hr⊢
  obtain ⟨a7,o,vs,h1,h2,h3,h4⟩:=hr
  exact ⟨a7,o,vs,h1,h2.on h (yw h3),h3,fun j hj=>Hy h.φ hj (h4 j hj)⟩
 | .hp r o i,hs,hr=>by simp only [ab] at hr⊢;rw [h.B r hs];exact hr
 | .ep f i off st cs,hs,hr=>by
  simp only [ab] at hr⊢
  intro o' yv
  obtain ⟨o,ho,hE,hx⟩:=h.iF f o' yv hs
  obtain ⟨a7,cap,h1,h2,h3⟩:=hr o ho
  exact ⟨a7,cap,by rw [hE,hx];exact h1,by rw [hx];exact h2,h3⟩
theorem jD.on {S T:Nat→Prop} (h:jX S T e e'): ∀{vs:List Value} {ss:List Slot},jD e vs ss→jD e' vs ss
 |vs,[],hr=>hr
 |vs,s::ss,hr=>by
  simp only [jD] at hr⊢
  obtain ⟨v,r,h1,h2,h3,h4⟩:=hr
  refine ⟨v,r,h1,ab.on h ?_ h2,h3,jD.on h h4⟩
  cases s<;>simp [xV] at h3<;>simp only [eO]
  ·exact CL h3
  ·exact yw h3
end
end
end Dn
/-
  The relation between an abstract state and a running frame; operations that change no memory. Conditions: none.
-/
set_option linter.unusedSimpArgs false
set_option linter.unusedVariables false
namespace Dn
open Go
section
variable {e e':Env}
theorem aS.kill {vs:List Value} {l:aD} (f:Nat) (h:aS e vs l):aS e vs (IU f l):=by
 cases l with
 |own g=>
  simp only [IU]
  cases Nat.beq g f
  ·exact h
  ·obtain ⟨v,rfl,hv,_⟩:=h;exact ⟨v,rfl,hv⟩
 |_=>exact h
theorem CM (f:Nat) (l:aD):iK (· ≠f) (IU f l):=by
 intro g hg
 cases l<;>simp [IU] at hg
 rename_i g'
 cases hb:Nat.beq g' f<;>simp [hb] at hg
 subst hg
 intro e;subst e;simp [eh] at hb
theorem aS.M6 {vs:List Value} {l:aD} (f:List Nat) (h:aS e vs l):aS e vs (Ln f l):=by
 cases l with
 |own g=>
  simp only [Ln]
  cases br f g
  ·obtain ⟨v,rfl,hv,_⟩:=h;exact ⟨v,rfl,hv⟩
  ·exact h
 |_=>exact h
theorem Lp (f:List Nat) (l:aD):iK (· ∈f) (Ln f l):=by
 intro g hg
 cases l<;>simp [Ln] at hg
 rename_i g'
 cases hb:br f g'<;>simp [hb] at hg
 subst hg
 exact (bt _ _).1 hb
theorem ar.map {g:aD→aD} (hg: ∀vs l,aS e vs l→aS e vs (g l)) {cs:List aD}: ∀{vs:List Value},ar e vs cs→ar e vs (cs.map g):=by
 induction cs with
 |nil=>intro vs h;exact h
 |cons l r ih=>intro vs h;obtain ⟨v,w,rfl,h1,h2⟩:=h;exact ⟨v,w,rfl,hg _ _ h1,ih h2⟩
theorem ab.X0 {v:Value} {l:aD} (hl: ∀x,l≠ .hs x) (hu:l≠ .un):ab e v (.sc l)↔aS e [v] l:=by
 cases l<;>simp_all [ab]
theorem ab.kill {v:Value} {s:Slot} (f:Nat) (h:ab e v s):ab e v (xW f s):=by
 cases s with
 |sc l=>
  cases l with
  |own g=>
   simp only [xW,IU]
   cases Nat.beq g f
   ·exact h
   ·simp [ab]
  |_=>exact h
 |ag cs=>simp only [xW,ab] at h⊢;obtain ⟨arr,h1,h2⟩:=h;exact ⟨arr,h1,h2.map (fun _ _=>aS.kill f)⟩
 |box cs=>simp [ab] at h
 |ep g i o b cs=>
  simp only [xW]
  cases Nat.beq g f
  ·exact h
  ·simp [ab]
 |_=>exact h
theorem QZ (f:Nat) (T:Nat→Prop) (s:Slot) (hT:eO (fun _=>True) T s):eO (· ≠f) T (xW f s):=by
 cases s with
 |sc l=>exact CM f l
 |ag cs=>intro l hl;obtain ⟨x,_,rfl⟩:=List.mem_map.1 hl;exact CM f x
 |ep g i o b cs=>
  simp only [xW]
  cases hb:Nat.beq g f
  ·simp only [cond_false,eO];intro e;subst e;simp [eh] at hb
  ·simp [eO,iK]
 |ptr r o=>exact hT
 |hp r o i=>exact hT
 |_=>trivial
theorem ab.M6 {v:Value} {s:Slot} (f:List Nat) (h:ab e v s):ab e v (E7 f s):=by
 cases s with
 |sc l=>
  cases l with
  |own g=>
   simp only [E7,Ln]
   cases br f g
   ·simp [ab]
   ·exact h
  |_=>exact h
 |ag cs=>simp only [E7,ab] at h⊢;obtain ⟨arr,h1,h2⟩:=h;exact ⟨arr,h1,h2.map (fun _ _=>aS.M6 f)⟩
 |box cs=>simp [ab] at h
 |_=>exact h
end
def aW (key:Nat→Nat) (φ:Ph) (size:Nat):List Value→List MV→Prop
 |vs,[]=>vs=[]
 |vs,x::xs=> ∃v r,vs=v++r∧v.length=size∧kS key φ v x∧aW key φ size r xs
structure bC where
 In:Nat→Prop
 b4:List Nat
 b5:List Nat
 T:Nat→Value
 cov:Prop
 Pr:Nat→Prop
instance:CoeFun bC (fun _=>Nat→Prop):=⟨bC.In⟩
instance:Coe bC (Nat→Prop):=⟨bC.In⟩
theorem Jd {a b c:Prop} (h:(a∧b)∨c) (hn: ¬a):c:=h.resolve_left fun h=>hn h.1
def bC.nc (Z:bC):bC:={Z with cov:=False}
def bC.plain (I:Nat→Prop):bC:=⟨I,[],[],fun _=>undef,False,fun _=>True⟩
def bC.bz (Z:bC) (t:Nat):bC:={Z with In:=fun b=>(t∈Z.b4∧Z.Pr b)∨Z.In b}
def bC.fz (Z:bC) (f:Nat):bC:={Z with In:=fun b=>(f∈Z.b5∧Z.Pr b)∨Z.In b,cov:=f∈Z.b5}
def Al:Kd→MV→Bool
 | .b,.b _=>true
 | .i k,.i k' _=>decide (k'=k)
 | .s,.s _=>true
 | .h,.h _=>true
 |_,_=>false
def cY:List Kd→List MV→Bool
 |[],[]=>true
 |k::ks,m::ms=>Al k m&&cY ks ms
 |_,_=>false
def Ad:MV→List Value
 | .b x=>[.bool x]
 | .i k n=>[.int k n]
 | .s l=>[.string ⟨l.toArray⟩]
 | .h x=>bh x
 |_=>[]
def e8 (st:Bool) (ks:List MV):Value:=match st,ks with
 |false,[.h x]=> .agg (bh x).toArray
 |false,[.b x]=> .bool x
 |false,[.i k n]=> .int k n
 |false,[.s l]=> .string ⟨l.toArray⟩
 |_,ks=> .agg (ks.flatMap Ad).toArray
def xy (b:Bool) (m:MV):Value:=match b,m with
 |true,.b x=> .bool x
 |false,.i .i64 n=> .int .i64 n
 |_,_=>undef
def Lq (b:Bool) (m:MV):Bool:=match b,m with
 |true,.b x=>true
 |false,.i .i64 n=>true
 |_,_=>false
def WO (s:MS) (x:MapEntry) (m:MV) (i:Nat):Prop:=
 x.born=i∧ ∃ks v,m= .cH [.agg ks,v]∧cY s.lay ks=true∧x.key=e8 s.st ks∧Lq s.b v=true∧x.val=xy s.b v
structure qi (s:MS) (es:Array MapEntry) (clock:Nat) (ms:List MV):Prop where
 size:es.size=ms.length
 clock:clock=ms.length
 Us: ∀(i:Nat) x m,es[i]? =some x→ms[i]? =some m→WO s x m i
def jj (e:Env) (o:Obj) (cs:List aD):Prop:=match o with
 | .cells arr _ z=>z=(0,0)∧ar e arr.toList cs
 | .map es clock=> ∃s ms,cs=[.mp s ms]∧BS s=false∧qi s es clock ms
 | .stringIter x pos=>cs=[.mp MS.it [.s x.data.toList,.i .i64 pos]]
 |_=>False
def Hz (cs:List aD) (b:Nat):Value:=bif kj cs then .map (some b) else .pointer (some ⟨b,0,none⟩)
structure rC (Z:bC) (e:Env) (w:World) (a7:Nat) (cs:List aD):Prop where
 b3:Z.In a7
 obj: ∃o,w.heap[a7]? =some o∧jj e o cs
 free: ∀off,e.φ a7 off=none
theorem jj.on {S T:Nat→Prop} {e e':Env} (h:jX S T e e') {o:Obj} {cs:List aD} (hl: ∀l∈cs,iK S l) (hr:jj e o cs):jj e' o cs:=by
 cases o with
 |cells arr T z=>exact ⟨hr.1,hr.2.on h hl⟩
 |map es clock=>exact hr
 |stringIter x pos=>exact hr
 |_=>exact hr.elim
theorem HA {cs:List aD} (h:et cs=true): ∃s ms,cs=[.mp s ms]:=by
 unfold et at h
 split at h
 ·exact ⟨_,_,rfl⟩
 ·cases h
theorem jj.cells {e:Env} {o:Obj} {cs:List aD} (hr:jj e o cs) (hm:et cs=false): ∃arr T,o= .cells arr T (0,0)∧ar e arr.toList cs:=by
 cases o with
 |cells arr T z=>obtain ⟨rfl,h⟩:=hr;exact ⟨arr,T,rfl,h⟩
 |map es clock=>obtain ⟨s,ms,rfl,_⟩:=hr;simp [et] at hm
 |stringIter x pos=>rw [show cs=_ from hr] at hm;simp [et] at hm
 |_=>exact hr.elim
theorem tX {cs:List aD} (h:et cs=false):kj cs=false:=by
 unfold kj
 split
 ·simp [et] at h
 ·rfl
theorem Je (g:aD→aD) (h1: ∀s es,g (.mp s es)= .mp s es) (h2: ∀l,(∀s es,l≠ .mp s es)→ ∀s es,g l≠ .mp s es) (cs:List aD):kj (cs.map g)=kj cs:=by
 cases cs with
 |nil=>rfl
 |cons l r=>
  cases r with
  |nil=>
   by_cases hl: ∃s es,l= .mp s es
   ·obtain ⟨s,es,rfl⟩:=hl;simp [h1,kj]
   ·have Be: ∀s es,l≠ .mp s es:=fun s es e=>hl ⟨s,es,e⟩
    have hg:=h2 l Be
    simp only [List.map_cons,List.map_nil]
    have a:kj [l]=false:=by cases l<;>simp_all [kj]
    have b:kj [g l]=false:=by cases hq:g l<;>simp_all [kj]
    rw [a,b]
  |cons x y=>cases hl:l<;>simp [kj]
theorem rC.cells {Z:bC} {e:Env} {w:World} {a7:Nat} {cs:List aD} (h:rC Z e w a7 cs) (hm:et cs=false): ∃arr T,w.heap[a7]? =some (.cells arr T (0,0))∧ar e arr.toList cs:=by
 obtain ⟨o,h1,h2⟩:=h.obj
 obtain ⟨arr,T,rfl,h3⟩:=h2.cells hm
 exact ⟨arr,T,h1,h3⟩
theorem Lr {cs:List aD} (hm:kj cs=false) (b:Nat):Hz cs b= .pointer (some ⟨b,0,none⟩):=by simp [Hz,hm]
theorem tY {cs:List aD} (hm:et cs=false) (b:Nat):Hz cs b= .pointer (some ⟨b,0,none⟩):=Lr (tX hm) b
theorem Q0 {cs:List aD} (hm:kj cs=true) (b:Nat):Hz cs b= .map (some b):=by simp [Hz,hm]
theorem jj.map {e:Env} {g:aD→aD} (hg: ∀vs l,aS e vs l→aS e vs (g l)) (hm: ∀s es,g (.mp s es)= .mp s es) {o:Obj} {cs:List aD} (hr:jj e o cs):jj e o (cs.map g):=by
 cases o with
 |cells arr T z=>exact ⟨hr.1,hr.2.map hg⟩
 |map es clock=>obtain ⟨s,ms,rfl,h2⟩:=hr;exact ⟨s,ms,by simp [hm],h2⟩
 |stringIter x pos=>rw [show cs=_ from hr];show List.map g _=_;simp [hm]
 |_=>exact hr.elim
theorem Ls (f:Nat) (cs:List aD):kj (cs.map (IU f))=kj cs:=
 Je _ (fun _ _=>rfl) (fun l hl s es=>by cases l<;>simp_all [IU];rename_i g;cases Nat.beq g f<;>simp) cs
theorem X1 (f:List Nat) (cs:List aD):kj (cs.map (Ln f))=kj cs:=
 Je _ (fun _ _=>rfl) (fun l hl s es=>by cases l<;>simp_all [Ln];rename_i g;cases br f g<;>simp) cs
structure cQ (c:Ctx) (Z:bC) (e:Env) (w:World) (v:Value) (o:mQ):Prop where
 row: ∃I cells,c.ti o.ty=some I∧I.ct=[]∧w.ownsRow 0 o.ty I.size v o.xs.length cells∧aW e.key e.φ I.size cells o.xs∧
  ∀a7,v.ownBlock=some a7→Z.In a7∧(∀off u,e.φ a7 off=some u→o.dI=true∧off<o.xs.length *I.size)∧(Z.cov→o.dI=true→ ∀j,j<cells.length→e.φ a7 j=cells[j]?)
def tied (Z:bC) (t:Nat) (v:Value) (cs:List aD) (b:Nat):Prop:=
 (xS t=false→v=Hz cs b)∧(xS t=true→posOf t∈Z.b4∧Z.T (posOf t)= .pointer (some ⟨b,I3 t,none⟩))
theorem tied.kj {Z:bC} {t:Nat} {v:Value} {cs fa:List aD} {b:Nat} (h:tied Z t v cs b) (hm:kj fa=kj cs):tied Z t v fa b:=⟨fun hp=>by rw [h.1 hp];simp [Hz,hm],h.2⟩
theorem tied.own {Z:bC} {t:Nat} {v:Value} {cs:List aD} {b:Nat} (hp:xS t=false) (h:v=Hz cs b):tied Z t v cs b:=⟨fun _=>h,fun hq=>by rw [hp] at hq;cases hq⟩
def bL (Z:bC) (e:Env) (w:World) (t:Nat) (v:Value):Slot→Prop
 | .box cs=>tied Z t v cs (e.B t)∧rC (Z.bz t) e w (e.B t) cs
 |s=>ab e v s
def b6 (fr:Fr):Slot→Prop
 | .ptr r _=>cu (aj fr r)=true
 | .hp r _ _=>cu (aj fr r)=true
 | .vK r=>cu (aj fr r)=true
 |_=>True
structure bN (c:Ctx) (Z:bC) (e:Env) (st:St) (a:Act) (w:World):Prop where
 defers:a.defers=[]∧st.b4=Z.b4∧st.b5=Z.b5∧ ∀t∈Z.b4,a.tmps.getD t undef=Z.T t
 size:a.tmps.size=c.n
 m:e.m=st.aO
 key:e.key=c.key
 nodup:(aL st.fr).Nodup
 slot: ∀t,bL Z e w t (a.tmps.getD t undef) (aj st.fr t)
 root: ∀t,b6 st.fr (aj st.fr t)
 iF: ∀f o,aG st.aO f=some o→cQ c (Z.fz f) e w (e.E f) o
 bb: ∀t t' cs fa,aj st.fr t= .box cs→aj st.fr t'= .box fa→t≠t'→e.B t≠e.B t'
 bf: ∀t cs f o,aj st.fr t= .box cs→aG st.aO f=some o→(e.E f).ownBlock≠some (e.B t)
 ff: ∀f f' o o' k,aG st.aO f=some o→aG st.aO f'=some o'→(e.E f).ownBlock=some k→(e.E f').ownBlock=some k→f=f'
 nx: ∀b o v,e.φ b o=some v→w.cell? ⟨b,o,none⟩=some v
 b3: ∀b,w.heap.size≤b→Z.In b
def Rest (w w':World):Prop:=w'.os=w.os∧w'.tape=w.tape∧w'.output=w.output∧ ∀a,w'.frozen? a=w.frozen? a
theorem Rest.refl (w:World):Rest w w:=⟨rfl,rfl,rfl,fun _=>rfl⟩
theorem Rest.trans {w w' wZ:World} (h:Rest w w') (h':Rest w' wZ):Rest w wZ:=⟨h'.1.trans h.1,h'.2.1.trans h.2.1,h'.2.2.1.trans h.2.2.1,fun a=>(h'.2.2.2 a).trans (h.2.2.2 a)⟩
theorem Rest.alloc (w:World) (cs:Array Value) (t:TypeId):Rest w (w.alloc (.cells cs t)):=by
 refine ⟨rfl,rfl,rfl,fun a=> ?_⟩
 by_cases h:a.block=w.heap.size
 ·have e1:(w.alloc (.cells cs t)).heap[a.block]? =some (.cells cs t (0,0)):=by rw [h];exact jW w _
  have e2:w.heap[a.block]? =none:=by rw [h];simp
  simp [World.frozen?,e1,e2]
 ·exact World.frozen?_alloc_old _ _ _ h
theorem Rest.setRow (w:World) (g:Nat) (cs:Array Value):Rest w (w.setRow g cs):=by
 refine ⟨rfl,rfl,rfl,fun a=> ?_⟩
 by_cases h:a.block=g
 ·unfold World.frozen? World.setRow
  simp only [Array.getElem?_modify,h,if_true]
  cases hg:w.heap[g]? with
  |none=>rfl
  |some o=>cases o<;>rfl
 ·exact World.frozen?_of_block (setRow_other _ _ _ _ h)
structure dc (w w':World):Prop where
 size:w.heap.size≤w'.heap.size
 Ae: ∀b,b<w.heap.size→w'.heap[b]? =w.heap[b]?
 rest:Rest w w'
theorem bm {w:World} {b:Nat} {x:Obj} (h:w.heap[b]? =some x):b<w.heap.size:=(Array.getElem?_eq_some_iff.1 h).1
theorem dc.cell {w w':World} (g:dc w w') {ad:Addr} {v:Value} (h:w.cell? ad=some v):w'.cell? ad=some v:=by
 have hl:=World.block_lt_of_cell? w ad h
 rw [World.cell?_of_block (g.Ae ad.block hl)];exact h
structure Trans (Z:Nat→Prop) (φ:Ph) (w:World) (φ':Ph) (w':World):Prop where
 ph:pK φ φ'
 heap: ∀b,¬Z b→b<w.heap.size→w'.heap[b]? =w.heap[b]?
 free: ∀b o,¬Z b→φ' b o=φ b o
 size:w.heap.size≤w'.heap.size
 rest:Rest w w'
theorem Trans.refl (Z:Nat→Prop) (φ:Ph) (w:World):Trans Z φ w φ w:=⟨.refl φ,fun _ _ _=>rfl,fun _ _ _=>rfl,Nat.le_refl _,.refl _⟩
theorem Trans.trans {Z:Nat→Prop} {φ φ' φ'':Ph} {w w' wZ:World} (h:Trans Z φ w φ' w') (h':Trans Z φ' w' φ'' wZ):Trans Z φ w φ'' wZ:=
 ⟨h.ph.trans h'.ph,fun b hb hl=>(h'.heap b hb (Nat.lt_of_lt_of_le hl h.size)).trans (h.heap b hb hl),fun b o hb=>(h'.free b o hb).trans (h.free b o hb),Nat.le_trans h.size h'.size,h.rest.trans h'.rest⟩
def pe (Z:bC) (e:Env) (w:World) (st:St) (v:Value):Slot→Prop
 | .box cs=> ∃a7,v=Hz cs a7∧rC Z e w a7 cs∧(∀t fa,aj st.fr t= .box fa→e.B t≠a7)∧(∀f o,aG st.aO f=some o→(e.E f).ownBlock≠some a7)
 |s=>ab e v s∧b6 st.fr s
section
variable {c:Ctx} {Z:bC} {e:Env} {st:St} {a:Act} {w:World}
theorem ab.const {v:Value}:ab e v (wW v):=by
 unfold wW
 split<;>simp only [ab,aS,MV.one]<;>
  first
   |exact ⟨trivial,.b _⟩
   |exact ⟨trivial,.i _ _⟩
   |exact ⟨trivial,.s _⟩
   |exact ⟨trivial,.raw _ rfl⟩
theorem bN.eval (h:bN c Z e st a w) (x:Operand):ab e (a.eval x) (aK c st x)∧b6 st.fr (aK c st x):=by
 cases x with
 |tmp t=>
  have hs:=h.slot t
  have hr:=h.root t
  simp only [Act.eval,aK]
  cases K4:plk c.par t with
  |some q=>
   simp only
   cases hq:xS q&&Nat.beq (posOf q) t with
   |false=>exact ⟨by simp [ab],trivial⟩
   |true=>
    simp only [cond_true]
    simp only [Bool.and_eq_true] at hq
    have hqt:=Nat.eq_of_beq_eq_true hq.2
    have hsq:=h.slot q
    split
    ·rename_i cs hfq
     rw [hfq] at hsq
     cases hm:et cs with
     |true=>exact ⟨by simp [ab],trivial⟩
     |false=>
      obtain ⟨k1,k2⟩:=hsq.1.2 hq.1
      refine ⟨?_,by simp [b6,hfq,cu]⟩
      show a.tmps.getD t undef=_
      rw [←hqt,h.defers.2.2.2 _ k1,k2]
    ·exact ⟨by simp [ab],trivial⟩
  |none=>
  simp only
  generalize hf:aj st.fr t=s at hs hr
  cases s<;>simp only [bL] at hs<;>try exact ⟨hs,hr⟩
  ·rename_i cs
   cases X2:xS t with
   |true=>simp only [cond_true];exact ⟨by simp [ab],trivial⟩
   |false=>
   simp only [cond_false]
   cases hm:kj cs with
   |true=>simp only [hm,cond_true,ab,b6,hf,cu];exact ⟨by rw [hs.1.1 X2,Q0 hm],trivial⟩
   |false=>simp only [hm,cond_false,ab,b6,hf,cu];exact ⟨by rw [hs.1.1 X2,Lr hm],trivial⟩
 |const v=>
  refine ⟨ab.const,?_⟩
  simp only [aK]
  unfold wW
  split<;>trivial
 |func f=>
  simp only [Act.eval,aK,ab,aS,MV.one,b6,and_true,true_and]
  exact .func f _ #[] [] (by rw [h.key]) (by simpa using gn.nil) (by simp)
 |global g=>simp [aK,ab,b6]
end
theorem Act.vT {a:Act} {d t:Nat} {v:Value} (hd:d<a.tmps.size):(a.put (some d) v).tmps.getD t undef=if t=d then v else a.tmps.getD t undef:=by
 simp only [Act.put,Array.getD_eq_getD_getElem?,Array.getElem?_setIfInBounds]
 by_cases h:d=t
 ·subst h;simp [hd]
 ·have h': ¬t=d:=fun e=>h e.symm
  simp [h,h']
theorem Q1 {fr:Fr} {s:Slot} (h:b6 fr s):eO (fun _=>True) (fun r=>cu (aj fr r)=true) s:=by
 cases s<;>simp_all [b6,eO,iK]
theorem HB (r:Fr) (d:Nat) (s:Slot):aL (bV r d s)=if d∈aL r then aL r else aL r++[d]:=by
 induction r with
 |nil=>simp [bV,aL]
 |cons p r ih=>
  obtain ⟨k,x⟩:=p
  simp only [bV,eh]
  by_cases h:k=d
  ·simp [h,aL]
  ·have h': ¬d=k:=fun e=>h e.symm
   have ih':List.map Prod.fst (bV r d s)=if d∈aL r then aL r else aL r++[d]:=ih
   simp only [h,h',decide_false,cond_false,aL,List.map_cons,List.mem_cons,false_or,ih']
   by_cases hm:d∈aL r
   ·have WQ:d∈List.map Prod.fst r:=hm
    simp [hm,WQ,aL]
   ·have WQ:d∉List.map Prod.fst r:=hm
    simp [hm,WQ,aL]
theorem dB {r:Fr} {d:Nat} {s:Slot} (h:(aL r).Nodup):(aL (bV r d s)).Nodup:=by
 rw [HB]
 by_cases hm:d∈aL r
 ·simpa [hm] using h
 ·simp only [hm,if_false]
  exact List.nodup_append.2 ⟨h,by simp,by intro x hx y hy;simp at hy;subst hy;intro e;subst e;exact hm hx⟩
section
variable {c:Ctx} {Z:bC} {e:Env} {st:St} {a:Act} {w:World} {R:Type} {K:St→Option R} {r:R}
def Env.za (e:Env) (d a7:Nat):Env:={e with B:=fun t=>if t=d then a7 else e.B t}
theorem rC.env {e e':Env} {a7:Nat} {cs:List aD} (h:rC Z e w a7 cs) (hk:e'.key=e.key) (hp:e'.φ=e.φ) (hE:e'.E=e.E) (hm:e'.m=e.m):rC Z e' w a7 cs:=by
 refine ⟨h.b3,?_,fun off=>by rw [hp];exact h.free off⟩
 obtain ⟨o,h1,h2⟩:=h.obj
 refine ⟨o,h1,h2.on (S:=fun _=>True) (T:=fun _=>False) ⟨hk,by rw [hp];exact .refl _,by simp,?_⟩ (by intro l _ f _;trivial)⟩
 intro f o ho _
 exact ⟨o,by rw [←hm];exact ho,by rw [hE],rfl⟩
theorem cQ.env {e e':Env} {v:Value} {o:mQ} (h:cQ c Z e w v o) (hk:e'.key=e.key) (hp:e'.φ=e.φ):cQ c Z e' w v o:=by
 obtain ⟨I,cells,h1,h2,h3,h4,h5⟩:=h.row
 exact ⟨I,cells,h1,h2,h3,by rw [hk,hp];exact h4,by rw [hp];exact h5⟩
theorem rC.to {a7:Nat} {cs:List aD} (h:rC Z e w a7 cs) (t:Nat):rC (Z.bz t) e w a7 cs:=⟨.inr h.b3,h.obj,h.free⟩
theorem cQ.to {v:Value} {o:mQ} {f:Nat} (h:cQ c Z.nc e w v o) (hf:f∉Z.b5):cQ c (Z.fz f) e w v o:=by
 obtain ⟨I,cells,h1,h2,h3,h4,h5⟩:=h.row
 exact ⟨I,cells,h1,h2,h3,h4,fun a7 hb=>⟨.inr (h5 a7 hb).1,(h5 a7 hb).2.1,fun hc=>absurd hc hf⟩⟩
theorem dj {d:Option Nat} {s:Slot} {v:Value} (h:bN c Z e st a w) (hv:pe Z e w st v s) (hK:bk c st d s K=some r):
 ∃e' bQ,bN c Z e' bQ (a.put d v) w∧K bQ=some r∧e'.φ=e.φ:=by
 cases d with
 |none=>exact ⟨e,st,h,hK,rfl⟩
 |some d=>
  simp only [bk] at hK
  cases Af:xS d||(Nat.ble c.n d||cu (aj st.fr d)) with
  |true=>simp [Af] at hK
  |false=>
   obtain ⟨aer,hb⟩:=Bool.or_eq_false_iff.1 Af
   simp only [Af,cond_false,wr] at hK
   cases hp:br st.b4 d with
   |true=>simp [hp] at hK
   |false=>
    simp only [hp,cond_false,force_eq,kT] at hK
    simp only [Bool.or_eq_false_iff] at hb
    have hdn:d<a.tmps.size:=by
     rw [h.size]
     have:=hb.1
     by_cases cz:d<c.n
     ·exact cz
     ·have:Nat.ble c.n d=true:=Nat.ble_eq_true_of_le (by omega)
      simp_all
    have hdp:d∉Z.b4:=by
     intro hm
     rw [←h.defers.2.1,←bt,hp] at hm;cases hm
    have aav: ∀fr:Fr,(a.put (some d) v).defers=[]∧({st with fr:=fr}:St).b4=Z.b4∧({st with fr:=fr}:St).b5=Z.b5∧ ∀t∈Z.b4,(a.put (some d) v).tmps.getD t undef=Z.T t:=by
     intro fr
     refine ⟨h.defers.1,h.defers.2.1,h.defers.2.2.1,fun t ht=> ?_⟩
     rw [Act.vT hdn,if_neg (by intro e;subst e;exact hdp ht)]
     exact h.defers.2.2.2 t ht
    have jY: ∀t,eO (fun _=>True) (fun r=>r≠d) (aj st.fr t):=by
     intro t
     have:=Q1 (h.root t)
     generalize aj st.fr t=x at this
     cases x<;>simp_all [eO,iK]<;>(intro e;subst e;simp_all)
    by_cases hs: ∃cs,s= .box cs
    ·obtain ⟨cs,rfl⟩:=hs
     obtain ⟨a7,rfl,sf,Ut,X3⟩:=hv
     have si:jX (fun _=>True) (fun r=>r≠d) e (e.za d a7):=⟨rfl,.refl _,fun r hr=>by simp [Env.za,hr],fun f o ho _=>⟨o,ho,rfl,rfl⟩⟩
     refine ⟨e.za d a7,_,?_,hK,rfl⟩
     refine ⟨aav _,by simpa [Act.put] using h.size,h.m,h.key,dB h.nodup,?_,?_,?_,?_,?_,?_,h.nx,h.b3⟩
     ·intro t
      rw [Act.vT hdn,bD]
      by_cases ht:t=d
      ·subst ht
       simp only [if_true,bL,Env.za]
       exact ⟨.own aer rfl,(sf.to t).env rfl rfl rfl rfl⟩
      ·simp only [ht,if_false]
       have lU:=h.slot t
       have n4:=jY t
       generalize aj st.fr t=x at lU n4
       cases x<;>simp only [bL] at lU⊢ <;>try exact lU.on si n4
       simp only [Env.za,ht,if_false]
       exact ⟨lU.1,lU.2.env rfl rfl rfl rfl⟩
     ·intro t
      simp only [bD]
      by_cases ht:t=d
      ·simp [ht,b6]
      ·simp only [ht,if_false]
       have n4:=h.root t
       have Uu:=jY t
       generalize aj st.fr t=x at n4 Uu
       cases x<;>simp_all [b6,bD,eO]
     ·intro f o ho;exact (h.iF f o ho).env rfl rfl
     ·intro t t' gu tL h1 h2 cI
      simp only [bD] at h1 h2
      simp only [Env.za]
      by_cases ht:t=d
      ·by_cases yx:t'=d
       ·exact absurd (ht.trans yx.symm) cI
       ·simp only [yx,if_false] at h2
        simp only [ht,yx,if_true,if_false]
        exact fun e=>Ut t' tL h2 e.symm
      ·simp only [ht,if_false] at h1
       by_cases yx:t'=d
       ·simp only [ht,yx,if_true,if_false]
        exact Ut t gu h1
       ·simp only [yx,if_false] at h2
        simp only [ht,yx,if_false]
        exact h.bb t t' gu tL h1 h2 cI
     ·intro t gu f o h1 h2
      simp only [bD] at h1
      simp only [Env.za]
      by_cases ht:t=d
      ·simp only [ht,if_true];exact X3 f o h2
      ·simp only [ht,if_false] at h1⊢;exact h.bf t gu f o h1 h2
     ·exact h.ff
    ·have Qm:ab e v s∧b6 st.fr s:=by
      cases s<;>simp_all [pe]
     refine ⟨e,_,?_,hK,rfl⟩
     refine ⟨aav _,by simpa [Act.put] using h.size,h.m,h.key,dB h.nodup,?_,?_,h.iF,?_,?_,h.ff,h.nx,h.b3⟩
     ·intro t
      rw [Act.vT hdn,bD]
      by_cases ht:t=d
      ·simp only [ht,if_true]
       cases s<;>simp only [bL]<;>first|exact Qm.1|exact absurd ⟨_,rfl⟩ hs
      ·simp only [ht,if_false];exact h.slot t
     ·intro t
      simp only [bD]
      by_cases ht:t=d
      ·simp only [ht,if_true]
       have hr:=Qm.2
       cases s<;>simp only [b6,bD] at hr⊢
       ·rename_i r o
        by_cases Jf:r=d
        ·subst Jf;simp_all
        ·simp only [Jf,if_false];exact hr
       ·rename_i r
        by_cases Jf:r=d
        ·subst Jf;simp_all
        ·simp only [Jf,if_false];exact hr
       ·rename_i r o i
        by_cases Jf:r=d
        ·subst Jf;simp_all
        ·simp only [Jf,if_false];exact hr
      ·simp only [ht,if_false]
       have n4:=h.root t
       have Uu:=jY t
       generalize aj st.fr t=x at n4 Uu
       cases x<;>simp_all [b6,bD,eO]
     ·intro t t' gu tL h1 h2 cI
      simp only [bD] at h1 h2
      by_cases ht:t=d
      ·simp only [ht,if_true] at h1;exact absurd ⟨_,h1⟩ hs
      ·by_cases yx:t'=d
       ·simp only [yx,if_true] at h2;exact absurd ⟨_,h2⟩ hs
       ·simp only [ht,yx,if_false] at h1 h2
        exact h.bb t t' gu tL h1 h2 cI
     ·intro t gu f o h1 h2
      simp only [bD] at h1
      by_cases ht:t=d
      ·simp only [ht,if_true] at h1;exact absurd ⟨_,h1⟩ hs
      ·simp only [ht,if_false] at h1;exact h.bf t gu f o h1 h2
end
end Dn
/-
  Operations that change no memory: moves, numbers, texts, places. Conditions: none.
-/
set_option linter.unusedSimpArgs false
set_option linter.unusedVariables false
namespace Dn
open Go
def Out (c:Ctx) (Z:bC) {R:Type} (K:St→Option R) (r:R) (φ:Ph) (w:World) (a':Act) (w':World):Prop:=
 ∃e' bQ,bN c Z e' bQ a' w'∧Trans Z φ w e'.φ w'∧K bQ=some r
section
variable {P:Program} {c:Ctx} {Z:bC} {e:Env} {st:St} {a:Act} {w:World} {R:Type} {K:St→Option R} {r:R} {Q:Exit→Act→World→Prop} {o:Oper}
theorem pe.of {s:Slot} {v:Value} (h:ab e v s) (hr:b6 st.fr s):pe Z e w st v s:=by
 cases s<;>first|exact ⟨h,hr⟩|(simp [ab] at h)
theorem fin {e':Env} {bQ:St} {w':World} {s:Slot} {v:Value} (bJ:(execOp a.eval o).run P w= .ok (.value v) w') (hs:bN c Z e' bQ a w')
 (ht:Trans Z e.φ w e'.φ w') (hv:pe Z e' w' bQ v s) (hK:bk c bQ o.dst s K=some r):o.wp P a w (Out c Z K r e.φ w) Q:=by
 unfold Oper.wp
 rw [bJ,Oper.upon_value]
 obtain ⟨e2,eZ,h1,h2,h3⟩:=dj hs hv hK
 exact ⟨e2,eZ,h1,by rw [h3];exact ht,h2⟩
theorem zb {e':Env} {bQ:St} {w':World} (bJ:(execOp a.eval o).run P w= .ok .skip w') (hs:bN c Z e' bQ a w')
 (ht:Trans Z e.φ w e'.φ w') (hK:bk c bQ o.dst (.sc .un) K=some r):o.wp P a w (Out c Z K r e.φ w) Q:=by
 unfold Oper.wp
 rw [bJ,Oper.upon_skip]
 obtain ⟨e2,eZ,h1,h2,h3⟩:=dj (v:=undef) hs (by simp [pe,ab,b6]) hK
 exact ⟨e2,eZ,h1,by rw [h3];exact ht,h2⟩
theorem On {e':Env} {bQ:St} {w':World} {s:Slot} {v:Value} (hg:dc w w') (bJ:(execOp a.eval o).run P w= .ok (.value v) w') (hs:bN c Z e' bQ a w')
 (ht:Trans Z e.φ w e'.φ w') (hv:pe Z e' w' bQ v s) (hK:bk c bQ o.dst s K=some r):o.wp P a w (fun a' w'=>dc w w'∧Out c Z K r e.φ w a' w') Q:=by
 unfold Oper.wp
 rw [bJ,Oper.upon_value]
 obtain ⟨e2,eZ,h1,h2,h3⟩:=dj hs hv hK
 exact ⟨hg,e2,eZ,h1,by rw [h3];exact ht,h2⟩
def Rd (P:Program) (c:Ctx) (Z:bC) {R:Type} (K:St→Option R) (r:R) (e:Env) (a:Act) (w:World) (o:Oper) (G:World→Prop):Prop:=
 ∃v,(∀w',G w'→(execOp a.eval o).run P w'= .ok (.value v) w')∧Out c Z K r e.φ w (a.put o.dst v) w
theorem Rd.wp {G:World→Prop} (h:Rd P c Z K r e a w o G) (hg:G w):o.wp P a w (Out c Z K r e.φ w) Q:=by
 obtain ⟨v,h1,h2⟩:=h
 unfold Oper.wp
 rw [h1 w hg,Oper.upon_value];exact h2
theorem Lt {G:World→Prop} {e':Env} {bQ:St} {s:Slot} {v:Value} (bJ: ∀w':World,G w'→(execOp a.eval o).run P w'= .ok (.value v) w') (hs:bN c Z e' bQ a w)
 (ht:Trans Z e.φ w e'.φ w) (hv:pe Z e' w bQ v s) (hK:bk c bQ o.dst s K=some r):Rd P c Z K r e a w o G:=by
 obtain ⟨e2,eZ,h1,h2,h3⟩:=dj hs hv hK
 exact ⟨v,bJ,e2,eZ,h1,by rw [h3];exact ht,h2⟩
theorem iz {s:Slot} {v:Value} (h:bN c Z e st a w) (bJ: ∀w':World,(execOp a.eval o).run P w'= .ok (.value v) w') (hv:ab e v s) (hr:b6 st.fr s)
 (hK:bk c st o.dst s K=some r):Rd P c Z K r e a w o (fun _=>True):=
 Lt (fun w' _=>bJ w') h (.refl _ _ _) (.of hv hr) hK
theorem Bf {v:Value} {x:Bool} (h:ab e v (.sc (.p (.b x)))):v= .bool x:=by
 simp only [ab,aS] at h
 obtain ⟨_,h⟩:=h
 generalize hv:[v]=vs at h
 cases h;simpa using hv
theorem lk {v:Value} {k:IntKind} {n:Int} (h:ab e v (.sc (.p (.i k n)))):v= .int k n:=by
 simp only [ab,aS] at h
 obtain ⟨_,h⟩:=h
 generalize hv:[v]=vs at h
 cases h;simpa using hv
theorem CN {v:Value} {l:List UInt8} (h:ab e v (.sc (.p (.s l)))): ∃b:ByteArray,v= .string b∧l=b.data.toList:=by
 simp only [ab,aS] at h
 obtain ⟨_,h⟩:=h
 generalize hv:[v]=vs at h
 cases h
 exact ⟨_,by simpa using hv,rfl⟩
theorem xz (x:Bool):ab e (.bool x) (.sc (.p (.b x))):=by simp only [ab,aS];exact ⟨rfl,.b x⟩
theorem sU (k:IntKind) (n:Int):ab e (.int k n) (.sc (.p (.i k n))):=by simp only [ab,aS];exact ⟨rfl,.i k n⟩
theorem Uv (b:ByteArray):ab e (.string b) (.sc (.p (.s b.data.toList))):=by simp only [ab,aS];exact ⟨rfl,.s b⟩
theorem tZ {v u:Value} (h:ab e v (.sc (.p (.raw u)))):v=u:=by
 simp only [ab,aS] at h
 obtain ⟨_,h⟩:=h
 generalize hv:[v]=vs at h
 cases h;simpa using hv
theorem CO (u:Value) (h:u.oneCell'=true):ab e u (.sc (.p (.raw u))):=by simp only [ab,aS];exact ⟨rfl,.raw u h⟩
theorem HC {x:Operand} (ho:o.op= .move x∨o.op= .assign x) (h:bN c Z e st a w) (hK:bk c st o.dst (aK c st x) K=some r):
 Rd P c Z K r e a w o (fun _=>True):=by
 obtain ⟨h1,h2⟩:=h.eval x
 refine iz h ?_ h1 h2 hK
 rcases ho with ho|ho<;>simp [execOp,ho]
theorem Jg {x:Operand} (ho:o.op= .nilCheck x) (h:bN c Z e st a w)
 (hK:XS (aK c st x) (fun s=>bk c st o.dst s K)=some r):Rd P c Z K r e a w o (fun _=>True):=by
 obtain ⟨h1,h2⟩:=h.eval x
 unfold XS at hK
 split at hK
 ·rename_i iH
  rw [iH] at h1 h2
  refine iz h ?_ (v:=a.eval x) h1 h2 hK
  simp only [ab] at h1
  simp [execOp,ho,h1]
 ·rename_i iH
  rw [iH] at h1 h2
  refine iz h ?_ (v:=a.eval x) h1 h2 hK
  simp only [ab] at h1
  obtain ⟨a7,q,vs,E8,h3⟩:=h1
  simp [execOp,ho,E8]
 ·simp at hK
theorem Uw {x y z:Operand} (ho:o.op= .pick x y z) (h:bN c Z e st a w)
 (hK:QD (aK c st x) (aK c st y) (aK c st z) (fun s=>bk c st o.dst s K)=some r):Rd P c Z K r e a w o (fun _=>True):=by
 obtain ⟨hx,_⟩:=h.eval x
 obtain ⟨hy,hy2⟩:=h.eval y
 obtain ⟨hz,Q2⟩:=h.eval z
 have bJ: ∀v,a.eval x= .bool v→ ∀w:World,(execOp a.eval o).run P w= .ok (.value (if v then a.eval y else a.eval z)) w:=by
  intro v hv w;simp [execOp,ho,hv,asBool]
 unfold QD at hK
 split at hK
 ·rename_i v hv
  have hxv:=Bf (by rw [hv] at hx;exact hx)
  have hr:=bJ v hxv
  split at hK
  ·rename_i p q hp hq
   rw [hp] at hy;rw [hq] at hz
   simp only [Bf hy,Bf hz] at hr
   refine iz h hr ?_ (s:= .sc (.p (.b (bif v then p else q)))) trivial hK
   cases v
   ·exact xz q
   ·exact xz p
  ·cases v
   ·exact iz h hr hz Q2 hK
   ·exact iz h hr hy hy2 hK
 ·simp at hK
theorem Ux {op:UnOp} {ty:TypeId} {x:Operand} (ho:o.op= .unOp op ty x) (h:bN c Z e st a w)
 (hK:unK op (aK c st x) (fun s=>bk c st o.dst s K)=some r):Rd P c Z K r e a w o (fun _=>True):=by
 obtain ⟨hx,_⟩:=h.eval x
 generalize aK c st x=s at hx hK
 unfold unK at hK
 split at hK
 ·refine iz h ?_ (xz _) trivial hK
  simp [execOp,ho,Bf hx,Op.unary]
 ·refine iz h ?_ (sU _ _) trivial hK
  simp [execOp,ho,lk hx,Op.unary,Op.intArith]
 ·simp at hK
end
end Dn
/-
  The type table; numbers, texts, places, loads. Conditions: none.
-/
set_option linter.unusedSimpArgs false
set_option linter.unusedVariables false
namespace Dn
open Go
def BU:List Kd→Nat
 |[]=>0
 | .h::r=>32+BU r
 |_::r=>1+BU r
def qj (ti:Nat→Option TI) (P:Program) (I:TI) (z:Option Value):TypeDesc→Prop
 | .struct fs=>I.st=true∧I.ct=[]∧(0<I.size∧BU I.lay=I.size)∧fs.toList.map (·.offset)=I.vr∧fs.toList.map (·.type)=I.Oh∧
  (∀(k:Nat) (f:Field),fs[k]? =some f→ ∃J,ti f.type=some J∧J.ct=[]∧0<J.size)∧
  ∃cs,z=some (.agg cs)∧rB I.zero cs.toList=true∧cs.size=I.size
 | .tuple ts=>I.ct=ts.toList∧I.ct≠[]∧I.lay=[]∧I.st=false
 | .slice el=>I.st=false∧I.ct=[]∧I.size=1∧I.elem=el∧(∃E,ti el=some E∧E.ct=[]∧0<E.size)∧z=some (.slice none 0 0)∧I.zero=[.nil]∧(∃k,I.lay=[k]∧k= .l)
 | .array n el=>I.st=false∧I.ct=[]∧I.size=32∧n=32∧I.elem=el∧(∃i,P.underlying el=some (.int .u8)∧P.info? el=some i∧i.size=1)∧I.lay=[.h]∧I.zero=[.hs kg.zero]∧z=some (.agg (bh kg.zero).toArray)
 | .bool=>I.st=false∧I.ct=[]∧I.size=1∧I.lay=[.b]∧I.zero=[.p (.b false)]∧z=some (.bool false)
 | .int k=>I.st=false∧I.ct=[]∧I.size=1∧I.lay=[.i k]∧I.zero=[.p (.i k 0)]∧z=some (.int k 0)
 | .string=>I.st=false∧I.ct=[]∧I.size=1∧I.lay=[.s]∧I.zero=[.p (.s [])]∧ ∃b:ByteArray,z=some (.string b)∧b.data.toList=[]
 |_=>I.st=false∧I.ct=[]∧I.size=1∧I.lay=[.raw]∧ ∃v,z=some v∧v.oneCell'=true∧rB I.zero [v]=true
def mI (ti:Nat→Option TI) (P:Program) (t:Nat) (I:TI):Prop:=
 ∃d i,P.underlying t=some d∧P.info? t=some i∧(I.ct=[]→i.size=I.size∧i.bytes=I.bytes)∧qj ti P I i.zero d
def kn (P:Program) (ti:Nat→Option TI):Prop:= ∀t I,ti t=some I→mI ti P t I
section
variable {P:Program} {c:Ctx} {Z:bC} {e:Env} {st:St} {a:Act} {w:World} {R:Type} {K:St→Option R} {r:R} {Q:Exit→Act→World→Prop} {o:Oper}
theorem dR {x:Bool} {k:Option R} (h:dy x k=some r):x=true∧k=some r:=by
 cases x
 ·simp [dy] at h
 ·exact ⟨rfl,h⟩
theorem n5 {α:Type} {x:Option α} {k:α→Option R} (h:bd x k=some r): ∃y,x=some y∧k y=some r:=by
 cases x with
 |none=>simp [bd] at h
 |some y=>exact ⟨y,rfl,h⟩
theorem Jh {l:List MV} {i:Int} {k:MV→Option R} (h:idx l i k=some r):0≤i∧ ∃y,l[i.toNat]? =some y∧k y=some r:=by
 unfold idx XQ at h
 by_cases hi:0≤i
 ·simp only [hi,if_true] at h
  cases hl:l[i.toNat]? with
  |none=>simp [hl] at h
  |some y=>exact ⟨hi,y,rfl,by simpa [hl] using h⟩
 ·simp [hi] at h
theorem mI.agg {ti:Nat→Option TI} {t:Nat} {I:TI} (h:mI ti P t I) (hc:I.ct=[]):
 (∃d,P.underlying t=some d∧d.isRow=true∧(I.st=true∨I.st=false∧I.size=32))∨(∃d,P.underlying t=some d∧d.isRow=false∧I.st=false∧I.size=1):=by
 obtain ⟨d,i,h1,h2,h3,h4⟩:=h
 cases d<;>simp only [qj] at h4<;>first
  |exact .inl ⟨_,h1,rfl,.inl h4.1⟩
  |exact .inl ⟨_,h1,rfl,.inr ⟨h4.1,h4.2.2.1⟩⟩
  |exact .inr ⟨_,h1,rfl,h4.1,h4.2.2.1⟩
  |exact absurd hc h4.2.1
theorem mI.info {ti:Nat→Option TI} {t:Nat} {I:TI} (h:mI ti P t I) (hc:I.ct=[]):
 ∃i,P.info? t=some i∧i.size=I.size∧i.bytes=I.bytes:=by
 obtain ⟨d,i,h1,h2,h3,h4⟩:=h
 exact ⟨i,h2,h3 hc⟩
theorem bE {t:Nat} {I:TI} (h:c.tv t=some I):c.ti t=some I∧I.ct=[]:=by
 unfold Ctx.tv at h
 cases hc:c.ti t with
 |none=>simp [hc] at h
 |some J=>
  cases hj:J.ct with
  |nil=>simp [hc,hj] at h;subst h;exact ⟨rfl,hj⟩
  |cons x y=>simp [hc,hj] at h
theorem Lu {s t:TypeId} {x:Operand} {I:TI} (ho:o.op= .convert s t x) (hI:c.ti t=some I) (hT:kn P c.ti) (hs: ∃d,P.underlying s=some d) {fk:Option FloatKind} (HD: ∀k,fk=some k→P.underlying t=some (.float k)) (h:bN c Z e st a w)
 (hK:QE I fk (aK c st x) (fun s=>bk c st o.dst s K)=some r):Rd P c Z K r e a w o (fun _=>True):=by
 obtain ⟨hx,_⟩:=h.eval x
 obtain ⟨ds,hds⟩:=hs
 obtain ⟨d,i,h1,h2,h3,h4⟩:=hT t I hI
 generalize aK c st x=s' at hx hK
 unfold QE at hK
 split at hK
 ·rename_i k k' n dM Cr hl
  have hd:d= .int k:=by
   cases d<;>simp only [qj,hl,dM,Cr] at h4<;>simp_all
  subst hd
  refine iz h ?_ (sU _ _) trivial hK
  simp [execOp,ho,lk hx,convert,run_underlying hds,run_underlying h1,Conv.intToInt]
 ·rename_i l dM Cr hl
  have hd:d= .string:=by
   cases d<;>simp only [qj,hl,dM,Cr] at h4<;>simp_all
  subst hd
  obtain ⟨b,hb,rfl⟩:=CN hx
  refine iz h ?_ (Uv b) trivial hK
  simp [execOp,ho,hb,convert,run_underlying hds,run_underlying h1]
 ·rename_i k x dM Cr hl
  have hd:d= .int k:=by
   cases d<;>simp only [qj,hl,dM,Cr] at h4<;>simp_all
  subst hd
  obtain ⟨n,hn,hK⟩:=n5 hK
  obtain ⟨hr,hK⟩:=dR hK
  have hr:=of_decide_eq_true hr
  refine iz h ?_ (sU _ _) trivial hK
  simp [execOp,ho,tZ hx,convert,run_underlying hds,run_underlying h1,Conv.floatToInt,hn,hr]
 ·rename_i k n dM Cr hl
  split at hK
  ·have E8:=HD _ rfl
   refine iz h ?_ (CO _ rfl) trivial hK
   simp [execOp,ho,lk hx,convert,run_underlying hds,run_underlying E8,Conv.intToFloat]
  ·simp at hK
 ·simp at hK
theorem Uy {op:BinOp} {k:IntKind} {x y:Int} {m:MV} {t:TypeId} (hm:M1 op k x y=some m):
 ∃v,(∀w:World,(binOp op t (.int k x) (.int k y)).run P w= .ok v w)∧ab e v (.sc (.p m)):=by
 cases op<;>simp only [M1,Option.some.injEq,reduceCtorEq] at hm<;>subst hm
 ·exact ⟨_,by simp [binOp,Op.intArith],sU _ _⟩
 ·exact ⟨_,by simp [binOp,Op.intArith],sU _ _⟩
 ·exact ⟨_,by simp [binOp,Op.intArith],sU _ _⟩
 ·refine ⟨.bool (decide (x=y)),fun w=> ?_,xz _⟩;simp [binOp,Op.intCmp];rfl
 ·refine ⟨.bool (!decide (x=y)),fun w=> ?_,xz _⟩;simp [binOp,Op.intCmp];rfl
 ·exact ⟨.bool (decide (x<y)),by simp [binOp,Op.intCmp],xz _⟩
 ·exact ⟨.bool (decide (x≤y)),by simp [binOp,Op.intCmp],xz _⟩
 ·exact ⟨.bool (decide (y<x)),by simp [binOp,Op.intCmp],xz _⟩
 ·exact ⟨.bool (decide (y≤x)),by simp [binOp,Op.intCmp],xz _⟩
theorem toList_data (b:ByteArray):b.toList=b.data.toList:=by
 exact ByteArray.toList_eq b
theorem Uz {op:BinOp} {x y:ByteArray} {m:MV} {t:TypeId} (hm:Hs op x.data.toList y.data.toList=some m):
 ∃v,(∀w:World,(binOp op t (.string x) (.string y)).run P w= .ok v w)∧ab e v (.sc (.p m)):=by
 have aet:(x.data.toList==y.data.toList)=decide (x.data.toList=y.data.toList):=by
  rw [Bool.eq_iff_iff];simp
 cases op<;>simp only [Hs,Option.some.injEq,reduceCtorEq] at hm<;>subst hm<;>
  exact ⟨_,fun w=>by simp only [binOp,Op.stringOp,toList_data,aet];rfl,xz _⟩
theorem Oo (b:ByteArray) (n:Nat):b[n]? =b.data.toList[n]? :=by
 by_cases h:n<b.size
 ·have h2:n<b.data.toList.length:=by simpa using h
  rw [getElem?_pos b n h,List.getElem?_eq_getElem h2]
  rfl
 ·have h2: ¬n<b.data.toList.length:=by simpa using h
  rw [getElem?_neg b n h,List.getElem?_eq_none (by omega)]
theorem yy (x:kg) (n:Nat) (h:n<32):(bh x)[n]? =some (.int .u8 ((x.l.getD n 0).toNat:Int)):=by
 have hl:n<x.l.length:=by rw [x.h];exact h
 simp [bh,List.getElem?_map,List.getD,List.getElem?_eq_getElem hl]
theorem aaw {t:TypeId} {x y:Operand} {I:TI} (ho:o.op= .index t x y) (hI:c.ti t=some I) (hT:kn P c.ti) (h:bN c Z e st a w)
 (hK:ixK I (aK c st x) (aK c st y) (fun s=>bk c st o.dst s K)=some r):Rd P c Z K r e a w o (fun _=>True):=by
 obtain ⟨hx,_⟩:=h.eval x
 obtain ⟨hy,_⟩:=h.eval y
 obtain ⟨d,i,h1,h2,h3,h4⟩:=hT t I hI
 generalize aK c st x=sx at hx hK
 generalize aK c st y=sy at hy hK
 unfold ixK at hK
 split at hK
 ·rename_i l k n dM hl
  have hd:d= .string:=by
   cases d<;>simp only [qj,hl,dM] at h4<;>simp_all
  subst hd
  cases hc:decide ((0:Int)≤n∧n<(l.length:Int)) with
  |false=>simp [dy,hc] at hK
  |true=>
   simp only [dy,hc] at hK
   obtain ⟨UA,HE⟩:=of_decide_eq_true hc
   obtain ⟨b,hb,rfl⟩:=CN hx
   have cz:n.toNat<b.data.toList.length:=by omega
   refine iz h ?_ (sU .u8 ((b.data.toList.getD n.toNat 0).toNat:Int)) trivial hK
   have hg:b[n.toNat]? =some (b.data.toList.getD n.toNat 0):=by
    rw [Oo,List.getElem?_eq_getElem cz];simp [List.getD,List.getElem?_eq_getElem cz]
   simp [execOp,ho,hb,lk hy,Instr.index,run_underlying h1,asIntOf,UA,hg]
 ·rename_i b k n dM hl
  cases d<;>simp only [qj,hl,dM] at h4<;>first|(exfalso;simp_all;done)|skip
  rename_i len el
  cases hc:decide ((0:Int)≤n∧n<32) with
  |false=>simp [dy,hc] at hK
  |true=>
   simp only [dy,hc] at hK
   obtain ⟨UA,HE⟩:=of_decide_eq_true hc
   simp only [ab] at hx
   obtain ⟨_,_,_,rfl,_,⟨ie,hu,ny,vH⟩,_⟩:=h4
   refine iz h ?_ (sU .u8 ((b.l.getD n.toNat 0).toNat:Int)) trivial hK
   have hg:=yy b n.toNat (by omega)
   have X4:(bh b).toArray[n.toNat]? =some (.int .u8 ((b.l.getD n.toNat 0).toNat:Int)):=by simpa using hg
   simp [execOp,ho,hx,lk hy,Instr.index,run_underlying h1,asIntOf,UA,HE,Go.part,isAgg,run_underlying hu,Go.sizeOf,typeInfo,ny,vH,hg,X4]
 ·simp at hK
def Lv (P:Program) (ti:Nat→Option TI):Prop:= ∀t I,ti t=some I→I.ct=[]→ ∀(e:Env) (w:World) (vx vy:Value) (sx sy:Slot) (b:Bool),ab e vx sx→ab e vy sy→
 eg I.lay (aH sx)=true→eg I.lay (aH sy)=true→lr I.st sx=true→lr I.st sy=true→iJ (aH sx) (aH sy)=some b→
 (∀k n k' n',sx= .sc (.p (.i k n))→sy= .sc (.p (.i k' n'))→False)→(∀l l',sx= .sc (.p (.s l))→sy= .sc (.p (.s l'))→False)→
 (Op.equal t vx vy).run P w= .ok b w∧ ∀(x y:Operand) (op:BinOp),(eqGuard op t x y vx vy).run P w= .ok () w∧(op= .eql→binOp op t vx vy=(do pure (.bool (←Op.equal t vx vy))))∧(op= .neq→binOp op t vx vy=(do pure (.bool (!(←Op.equal t vx vy)))))
theorem Q3 {op:BinOp} {t t':TypeId} {x y:Operand} (ho:o.op= .binOp op t x y t') (h:bN c Z e st a w)
 (hE:Lv P c.ti)
 (hK:XR (c.tv t) op (aK c st x) (aK c st y) (fun s=>bk c st o.dst s K)=some r):Rd P c Z K r e a w o (fun _=>True):=by
 obtain ⟨hx,_⟩:=h.eval x
 obtain ⟨hy,_⟩:=h.eval y
 generalize hsx:aK c st x=sx at hx hK
 generalize hsy:aK c st y=sy at hy hK
 have bJ: ∀v,(∀w:World,(binOp op t (a.eval x) (a.eval y)).run P w= .ok v w)→(∀cs,a.eval x≠ .agg cs)→a.eval x≠ .nilIface→ ∀w:World,(execOp a.eval o).run P w= .ok (.value v) w:=by
  intro v hv hna hni w
  have hg:(eqGuard op t x y (a.eval x) (a.eval y)).run P w= .ok () w:=by
   generalize a.eval x=va at hna hni
   generalize a.eval y=vb
   have hm: ∀(u v:Value),u=va→(∀cs,u≠ .agg cs)→u≠ .nilIface→(eqGuard op t x y u v).run P w= .ok () w:=by
    intro u v _ h1 h2
    cases u<;>first
     |exact absurd rfl h2
     |exact absurd rfl (h1 _)
     |(cases op<;>rfl)
   exact hm va vb rfl hna hni
  simp [execOp,ho,hg,hv]
 unfold XR at hK
 split at hK
 ·rename_i k n k' n'
  have e1:=lk hx
  have e2:=lk hy
  split at hK
  ·cases hk:decide (k=k') with
   |false=>simp [hk] at hK
   |true=>
    have hk:=of_decide_eq_true hk
    subst hk
    simp only [decide_true,cond_true] at hK
    cases hz:decide (n'=0) with
    |true=>simp [dy,hz] at hK
    |false=>
     simp only [dy,hz,Bool.not_false] at hK
     have hz:=of_decide_eq_false hz
     refine iz h (bJ _ ?_ (by simp [e1]) (by simp [e1])) (sU _ _) trivial hK
     simp [binOp,e1,e2,Op.intDiv,hz]
  ·cases hk:decide (k=k') with
   |false=>simp [hk] at hK
   |true=>
    have hk:=of_decide_eq_true hk
    subst hk
    simp only [decide_true,cond_true] at hK
    cases hz:decide (n'=0) with
    |true=>simp [dy,hz] at hK
    |false=>
     simp only [dy,hz,Bool.not_false] at hK
     have hz:=of_decide_eq_false hz
     refine iz h (bJ _ ?_ (by simp [e1]) (by simp [e1])) (sU _ _) trivial hK
     simp [binOp,e1,e2,Op.intDiv,hz]
  ·cases hz:decide ((0:Int)≤n') with
   |false=>simp [dy,hz] at hK
   |true=>
    simp only [dy,hz] at hK
    have hz:=of_decide_eq_true hz
    refine iz h (bJ _ ?_ (by simp [e1]) (by simp [e1])) (sU _ _) trivial hK
    have: ¬n'<0:=by omega
    simp [binOp,e1,e2,Op.shift,this]
  ·cases hz:decide ((0:Int)≤n') with
   |false=>simp [dy,hz] at hK
   |true=>
    simp only [dy,hz] at hK
    have hz:=of_decide_eq_true hz
    refine iz h (bJ _ ?_ (by simp [e1]) (by simp [e1])) (sU _ _) trivial hK
    have: ¬n'<0:=by omega
    simp [binOp,e1,e2,Op.shift,this]
  ·cases hk:decide (k=k') with
   |false=>simp [hk] at hK
   |true=>
    have hk:=of_decide_eq_true hk
    subst hk
    simp only [decide_true,cond_true] at hK
    cases hm:M1 op k n n' with
    |none=>simp [hm] at hK
    |some m=>
     simp only [hm] at hK
     obtain ⟨v,hv,hr⟩:=Uy (P:=P) (e:=e) (t:=t) hm
     exact iz h (bJ v (by rw [e1,e2];exact hv) (by simp [e1]) (by simp [e1])) hr trivial hK
 ·rename_i l l'
  obtain ⟨b,hb,rfl⟩:=CN hx
  obtain ⟨b',Am,rfl⟩:=CN hy
  split at hK
  ·obtain ⟨hz,hK⟩:=dR hK
   ·have hz:=of_decide_eq_true hz
    have hr:ab e (.string (b++b')) (.sc (.p (.s (b.data.toList++b'.data.toList)))):=by
     have:=Uv (e:=e) (b++b')
     simpa [ByteArray.data_append] using this
    refine iz h (bJ _ ?_ (by simp [hb]) (by simp [hb])) hr trivial hK
    have hs: ¬(((b.size+b'.size:Nat):Int)>IntKind.i64.max):=by
     have h1:b.size=b.data.toList.length:=by simp
     have h2:b'.size=b'.data.toList.length:=by simp
     have:IntKind.i64.max=9223372036854775807:=by decide
     rw [this];omega
    intro w
    simp only [binOp,hb,Am,Op.stringOp,hs,if_false]
    rfl
  ·cases hm:Hs op b.data.toList b'.data.toList with
   |none=>simp [hm] at hK
   |some m=>
    simp only [hm] at hK
    obtain ⟨v,hv,hr⟩:=Uz (P:=P) (e:=e) (t:=t) hm
    exact iz h (bJ v (by rw [hb,Am];exact hv) (by simp [hb]) (by simp [hb])) hr trivial hK
 ·have e1:=tZ hx
  have e2:=tZ hy
  obtain ⟨r',ZQ,hK⟩:=n5 hK
  refine iz h (bJ _ ?_ (by simp [e1]) (by simp [e1])) (CO (.float .f64 r') rfl) trivial hK
  intro w
  cases op<;>simp only [aak,reduceCtorEq] at ZQ<;>simp [binOp,e1,e2,Op.floatArith,ZQ]
 ·rename_i HE CP hn3
  split at hK
  ·rename_i I hI
   obtain ⟨K5,M7⟩:=bE hI
   cases hf:eg I.lay (aH sx)&&eg I.lay (aH sy)&&(lr I.st sx&&lr I.st sy) with
   |false=>simp [hf] at hK
   |true=>
    simp only [hf,cond_true] at hK
    simp only [Bool.and_eq_true] at hf
    obtain ⟨hf,Q4⟩:=hf
    split at hK
    ·cases hm:iJ (aH sx) (aH sy) with
     |none=>simp [hm] at hK
     |some b=>
      simp only [hm] at hK
      refine iz h ?_ (xz b) trivial hK
      intro w
      obtain ⟨h1,h2⟩:=hE t I K5 M7 e w _ _ sx sy b hx hy hf.1 hf.2 Q4.1 Q4.2 hm HE CP
      have:=(h2 x y .eql).1
      simp [execOp,ho,this,(h2 x y .eql).2.1 rfl,h1]
    ·cases hm:iJ (aH sx) (aH sy) with
     |none=>simp [hm] at hK
     |some b=>
      simp only [hm] at hK
      refine iz h ?_ (xz (!b)) trivial hK
      intro w
      obtain ⟨h1,h2⟩:=hE t I K5 M7 e w _ _ sx sy b hx hy hf.1 hf.2 Q4.1 Q4.2 hm HE CP
      have:=(h2 x y .neq).1
      simp [execOp,ho,this,(h2 x y .neq).2.2 rfl,h1]
    ·simp at hK
  ·simp at hK
end
end Dn
/-
  Lengths, parts, places, loads. Conditions: none.
-/
set_option linter.unusedSimpArgs false
set_option linter.unusedVariables false
namespace Dn
open Go
section
variable {P:Program} {c:Ctx} {Z:bC} {e:Env} {st:St} {a:Act} {w:World} {R:Type} {K:St→Option R} {r:R} {Q:Exit→Act→World→Prop} {o:Oper}
theorem cell_of {a7:Nat} {arr:Array Value} {T:TypeId} {fr:Nat×Nat} (h:w.heap[a7]? =some (.cells arr T fr)) (j:Nat):w.cell? ⟨a7,j,none⟩=arr[j]? :=by
 simp [World.cell?,h]
theorem mT {t:TypeId} {I:TI} {a7 off:Nat} {vs:List Value} (hr:mI c.ti P t I) (hc:I.ct=[]) (hl:vs.length=I.size) (hm:w.rangeAt a7 off vs):
 ((I.st=true∨I.size=32)∧ ∀w:World,w.rangeAt a7 off vs→(Instr.loadAt t (.pointer (some ⟨a7,off,none⟩))).run P w= .ok (.agg vs.toArray) w)∨
 (I.st=false∧ ∃v,vs=[v]∧ ∀w:World,w.rangeAt a7 off vs→(Instr.loadAt t (.pointer (some ⟨a7,off,none⟩))).run P w= .ok v w):=by
 obtain ⟨i,hi,hs,_⟩:=hr.info hc
 rcases hr.agg hc with ⟨d,hu,hd,hh⟩|⟨d,hu,hd,h1,h2⟩
 ·refine .inl ⟨hh.imp id (·.2),fun w hm=> ?_⟩
  exact run_loadAt_mid w a7 off t vs d hm hu hd (by simp [hi,hs,hl])
 ·refine .inr ⟨h1,?_⟩
  rw [h2] at hl
  obtain ⟨v,rfl⟩:=List.length_eq_one_iff.1 hl
  refine ⟨v,rfl,fun w hm=> ?_⟩
  have pE:w.cell? ⟨a7,off,none⟩=some v:=hm 0 v rfl
  have X5:(isAgg t).run P w= .ok false w:=by
   unfold isAgg
   rw [Sem.run_bind,run_underlying hu w]
   cases d<;>simp_all
  simp [Instr.loadAt,Instr.sureAddr,loadVar,X5,pE]
theorem aS.slot {vs:List Value} {l:aD} {v:Value} (h:aS e vs l) (hv:(vs=[v]∧l.w=1)∨(v= .agg vs.toArray∧l.w=32)):ab e v (.sc l):=by
 rcases hv with ⟨rfl,hw⟩|⟨rfl,hw⟩
 ·cases l<;>simp [ab,aD.w] at hw⊢ <;>exact h
 ·cases l<;>simp [aD.w] at hw
  simp only [ab]
  have:vs=bh _:=h
  rw [this]
theorem kU {t:TypeId} {I:TI} {cs:List aD} {a7 base off:Nat} {vs:List Value} {s:Slot} {K':Slot→Option R} (hr:mI c.ti P t I) (hc:I.ct=[])
 (hv:ar e vs cs) (hm:w.rangeAt a7 base vs) (hK:jC I cs off K'=some r):
 ∃v s,(∀w:World,w.rangeAt a7 base vs→(Instr.loadAt t (.pointer (some ⟨a7,base+off,none⟩))).run P w= .ok v w)∧ab e v s∧b6 st.fr s∧K' s=some r:=by
 unfold jC at hK
 cases dM:I.st with
 |true=>
  simp only [dM,cond_true] at hK
  cases hp:Dn.part cs off I.size with
  |none=>simp [hp] at hK
  |some ds=>
   simp only [hp] at hK
   obtain ⟨v1,v2,v3,rfl,h1,h2,h3⟩:=Gc hp hv
   have M8: ∀w:World,w.rangeAt a7 base (v1++v2++v3)→w.rangeAt a7 (base+off) v2:=by
    intro w hm j v hj
    have Qn:j<v2.length:=(List.getElem?_eq_some_iff.1 hj).1
    have:=hm (off+j) v (by rw [List.append_assoc,List.getElem?_append_right (by omega),List.getElem?_append_left (by omega)];rw [show off+j-v1.length=j by omega];exact hj)
    rwa [←Nat.add_assoc] at this
   rcases mT hr hc h2 (M8 w hm) with ⟨_,bJ⟩|⟨hf,_⟩
   ·refine ⟨_,.ag ds,fun w hm=>bJ w (M8 w hm),?_,trivial,hK⟩
    simp only [ab]
    exact ⟨_,rfl,by simpa using h3⟩
   ·rw [dM] at hf;cases hf
 |false=>
  simp only [dM,cond_false] at hK
  cases hp:cut cs off with
  |none=>simp [hp] at hK
  |some ds=>
   cases ds with
   |nil=>simp [hp] at hK
   |cons l ls=>
    simp only [hp] at hK
    cases hb:Nat.beq l.w I.size with
    |false=>simp [hb] at hK
    |true=>
     simp only [hb,cond_true] at hK
     have hw:=Nat.eq_of_beq_eq_true hb
     obtain ⟨v1,v2,rfl,h1,h2⟩:=vR hp hv
     obtain ⟨u,u2,rfl,h3,h4⟩:=h2
     have M8: ∀w:World,w.rangeAt a7 base (v1++(u++u2))→w.rangeAt a7 (base+off) u:=by
      intro w hm j v hj
      have Qn:j<u.length:=(List.getElem?_eq_some_iff.1 hj).1
      have:=hm (off+j) v (by rw [List.getElem?_append_right (by omega),List.getElem?_append_left (by omega)];rw [show off+j-v1.length=j by omega];exact hj)
      rwa [←Nat.add_assoc] at this
     rcases mT hr hc (by rw [h3.width,hw]) (M8 w hm) with ⟨hh,bJ⟩|⟨_,v,Oq,bJ⟩
     ·refine ⟨_,.sc l,fun w hm=>bJ w (M8 w hm),h3.slot (.inr ⟨rfl,?_⟩),trivial,hK⟩
      rcases hh with hh|hh
      ·rw [dM] at hh;cases hh
      ·rw [hw,hh]
     ·refine ⟨_,.sc l,fun w hm=>bJ w (M8 w hm),h3.slot (.inl ⟨Oq,?_⟩),trivial,hK⟩
      rw [←h3.width,Oq];rfl
theorem aW.at {key:Nat→Nat} {φ:Ph} {size:Nat} {xs:List MV}: ∀{cs:List Value} {i:Nat} {x:MV},aW key φ size cs xs→xs[i]? =some x→
 ∃a v b,cs=a++v++b∧a.length=i *size∧v.length=size∧kS key φ v x:=by
 induction xs with
 |nil=>intro cs i x _ hx;simp at hx
 |cons y ys ih=>
  intro cs i x h hx
  obtain ⟨v,q,rfl,hl,hr,he⟩:=h
  cases i with
  |zero=>simp at hx;subst hx;exact ⟨[],v,q,by simp,by simp,hl,hr⟩
  |succ i=>
   obtain ⟨a,u,b,rfl,h1,h2,h3⟩:=ih he (by simpa using hx)
   exact ⟨v++a,u,b,by simp,by simp [hl,h1,Nat.succ_mul,Nat.add_comm],h2,h3⟩
theorem gn.leaves {ms:List MV}: ∀{vs:List Value} {cs:List aD},gn e.key e.φ vs ms→bx cs=some ms→(∀m,aD.p m∈cs→m.one=true)→ar e vs cs:=by
 induction ms with
 |nil=>
  intro vs cs h hc _
  cases h
  cases cs with
  |nil=>rfl
  |cons l r=>
   cases hr:bx r<;>cases l<;>simp [bx,hr] at hc
 |cons m ms ih=>
  intro vs cs h hc ho
  cases cs with
  |nil=>simp [bx] at hc
  |cons l r=>
   generalize xA:vs=K6 at h
   cases h with
   |cons v _ vs _ h1 h2=>
   subst xA
   cases hr:bx r with
   |none=>cases l<;>simp [bx,hr] at hc
   |some q=>
    have cf: ∀m,aD.p m∈r→m.one=true:=fun m hm=>ho m (by simp [hm])
    cases l<;>simp [bx,hr] at hc
    ·obtain ⟨rfl,rfl⟩:=hc
     exact ⟨v,vs,rfl,⟨ho _ (by simp),h1⟩,ih h2 hr cf⟩
    ·obtain ⟨rfl,rfl⟩:=hc
     refine ⟨v,vs,rfl,?_,ih h2 hr cf⟩
     generalize hv:v=v' at h1
     cases h1
     exact rfl
theorem kS.CQ {vs:List Value} {x:MV} {b:Bool} {cs:List aD} (h:kS e.key e.φ vs x) (hc:CG b x cs):ar e vs cs:=by
 obtain ⟨⟨ms,h1,h2⟩,h3⟩:=hc
 cases b with
 |true=>
  cases ms<;>simp [se] at h2<;>subst h2<;>(generalize hv:vs=v' at h;cases h;subst hv;rename_i hh;exact hh.leaves h1 h3)
 |false=>
  cases ms with
  |nil=>simp [se] at h2
  |cons m ms=>
   cases ms with
   |cons y ys=>simp [se] at h2
   |nil=>
    simp [se] at h2
    subst h2
    have:gn e.key e.φ (vs++[]) [m]:= .cons vs m [] [] h .nil
    rw [List.append_nil] at this
    exact this.leaves h1 h3
theorem Q5 {t:TypeId} {x:Operand} {I:TI} {cs:List aD} {off:Nat} (ho:o.op= .load t x) (hI:c.tv t=some I) (hT:kn P c.ti) (h:bN c Z e st a w) (E9:aK c st x= .rp cs off)
 (hK:jC I cs off (fun s=>bk c st o.dst s K)=some r):Rd P c Z K r e a w o (fun w'=> ∀b q v,e.φ b q=some v→w'.cell? ⟨b,q,none⟩=some v):=by
 obtain ⟨hx,n4⟩:=h.eval x
 obtain ⟨rc,hc⟩:=bE hI
 have hr:=hT t I rc
 rw [E9] at hx
 simp only [ab] at hx
 obtain ⟨a7,q,vs,hx,pF,_,An⟩:=hx
 have hm: ∀w':World,(∀b q v,e.φ b q=some v→w'.cell? ⟨b,q,none⟩=some v)→w'.rangeAt a7 q vs:=by
  intro w' hi j v hj
  have Qn:j<vs.length:=(List.getElem?_eq_some_iff.1 hj).1
  exact hi _ _ _ (by rw [An j Qn];exact hj)
 obtain ⟨v,s,h1,h2,h3,h4⟩:=kU (st:=st) (s:= .skip) hr hc pF (hm w h.nx) hK
 refine Lt (fun w' hi=> ?_) h (.refl _ _ _) (.of h2 h3) h4
 simp [execOp,ho,hx,h1 w' (hm w' hi)]
theorem UB {t:TypeId} {x:Operand} {I:TI} (ho:o.op= .load t x) (hI:c.tv t=some I) (hT:kn P c.ti) (h:bN c Z e st a w)
 (hK:ldK st I (aK c st x) (fun s=>bk c st o.dst s K)=some r):Rd P c Z K r e a w o (dc w):=by
 obtain ⟨hx,n4⟩:=h.eval x
 obtain ⟨rc,hc⟩:=bE hI
 have hr:=hT t I rc
 have UC: ∀v s,(∀w':World,dc w w'→(Instr.loadAt t (a.eval x)).run P w'= .ok v w')→ab e v s→b6 st.fr s→bk c st o.dst s K=some r→Rd P c Z K r e a w o (dc w):=by
  intro v s h1 h2 h3 h4
  refine Lt (fun w' hg=> ?_) h (.refl _ _ _) (.of h2 h3) h4
  simp [execOp,ho,h1 w' hg]
 have keep: ∀{w':World} {a7 off:Nat} {vs:List Value},dc w w'→w.rangeAt a7 off vs→w'.rangeAt a7 off vs:=by
  intro w' a7 off vs hg hm j v hj
  exact hg.cell (hm j v hj)
 generalize aK c st x=s at hx hK n4
 unfold ldK at hK
 split at hK
 ·rename_i root off
  simp only [ab] at hx
  have lU:=h.slot root
  split at hK
  ·rename_i cs re
   rw [re] at lU
   have uW:et cs=false:=by cases hq:et cs<;>simp_all
   simp only [uW,cond_false] at hK
   obtain ⟨_,sf⟩:=lU
   obtain ⟨arr,T,cF,pF⟩:=sf.cells uW
   have hm:w.rangeAt (e.B root) 0 arr.toList:=by
    intro j v hj
    rw [Nat.zero_add,cell_of cF];simpa using hj
   obtain ⟨v,s,h1,h2,h3,h4⟩:=kU (st:=st) (s:= .skip) hr hc pF hm hK
   rw [Nat.zero_add] at h1
   exact UC v s (fun w' hg=>by rw [hx];exact h1 w' (keep hg hm)) h2 h3 h4
  ·simp at hK
 ·rename_i cs off
  simp only [ab] at hx
  obtain ⟨a7,q,vs,hx,pF,_,An⟩:=hx
  have hm:w.rangeAt a7 q vs:=by
   intro j v hj
   have Qn:j<vs.length:=(List.getElem?_eq_some_iff.1 hj).1
   exact h.nx _ _ _ (by rw [An j Qn];exact hj)
  obtain ⟨v,s,h1,h2,h3,h4⟩:=kU (st:=st) (s:= .skip) hr hc pF hm hK
  exact UC v s (fun w' hg=>by rw [hx];exact h1 w' (keep hg hm)) h2 h3 h4
 ·rename_i f i off b cs
  cases hf:aG st.aO f with
  |none=>simp [hf] at hK
  |some o'=>
   simp only [hf] at hK
   simp only [ab] at hx
   obtain ⟨a7,cap,hE,⟨x,hxi,T6⟩,hx⟩:=hx o' (by rw [h.m];exact hf)
   obtain ⟨J,cells,hJ,WR,dg,iA,_⟩:=(h.iF f o' hf).row
   obtain ⟨p1,v1,p2,rfl,CR,vS,eu⟩:=iA.at hxi
   have pF:=eu.CQ T6
   rw [hE] at dg
   have pE:=dg.cells (g:=a7) rfl
   have hm:w.rangeAt a7 (i *vL cs) v1:=by
    intro j v hj
    have Qn:j<v1.length:=(List.getElem?_eq_some_iff.1 hj).1
    have:=pE (i *J.size+j) v (by rw [List.append_assoc,List.getElem?_append_right (by omega),List.getElem?_append_left (by omega)];rw [show i *J.size+j-p1.length=j by omega];exact hj)
    rw [Addr.add_mid,Nat.zero_add] at this
    rw [←pF.width,vS];exact this
   obtain ⟨v,s,h1,h2,h3,h4⟩:=kU (st:=st) (s:= .skip) hr hc pF hm hK
   exact UC v s (fun w' hg=>by rw [hx];exact h1 w' (keep hg hm)) h2 h3 h4
 ·rename_i root off i
  simp only [ab] at hx
  obtain ⟨hx,Lw⟩:=hx
  have lU:=h.slot root
  cases hb:I.st||!Nat.beq I.size 1 with
  |true=>simp [hb] at hK
  |false=>
   simp only [hb,cond_false] at hK
   simp only [Bool.or_eq_false_iff,Bool.not_eq_false'] at hb
   have qk:=Nat.eq_of_beq_eq_true hb.2
   split at hK
   ·rename_i cs re
    rw [re] at lU
    have uW:et cs=false:=by cases hq:et cs<;>simp_all
    simp only [uW,cond_false] at hK
    obtain ⟨_,sf⟩:=lU
    obtain ⟨arr,T,cF,pF⟩:=sf.cells uW
    split at hK
    ·rename_i b ls X6
     obtain ⟨v1,v2,aeu,h1,h2⟩:=vR X6 pF
     obtain ⟨u,u2,rfl,h3,h4⟩:=h2
     have h3:u=bh b:=h3
     subst h3
     have hg:=yy b i Lw
     have hlen:=cw b
     have hm:w.rangeAt (e.B root) (off+i) [.int .u8 ((b.l.getD i 0).toNat:Int)]:=by
      intro j v hj
      cases j with
      |succ j=>simp at hj
      |zero=>
       simp at hj
       rw [Nat.add_zero,cell_of cF]
       have:arr[off+i]? =arr.toList[off+i]? :=by simp
       rw [this,aeu,List.getElem?_append_right (by omega),List.getElem?_append_left (by omega),show off+i-v1.length=i by omega,hg,←hj]
       simp [List.getD]
     rcases mT hr hc (by simp [qk]) hm with ⟨hh,_⟩|⟨_,v,Oq,bJ⟩
     ·rcases hh with hh|hh
      ·rw [hb.1] at hh;cases hh
      ·omega
     ·simp at Oq
      subst Oq
      exact UC _ _ (fun w' hg=>by rw [hx];exact bJ w' (keep hg hm)) (sU _ _) trivial hK
    ·simp at hK
   ·simp at hK
 ·simp at hK
theorem Ot {t:TypeId} {x:Operand} {f:Nat} {I:TI} (ho:o.op= .fieldAddr t x f) (hI:c.tv t=some I) (hT:kn P c.ti) (h:bN c Z e st a w)
 (hK:QF st I f (aK c st x) (fun s=>bk c st o.dst s K)=some r):Rd P c Z K r e a w o (fun _=>True):=by
 obtain ⟨hx,n4⟩:=h.eval x
 obtain ⟨rc,hc⟩:=bE hI
 obtain ⟨d,i,h1,h2,h3,h4⟩:=hT t I rc
 have key: ∀q a7 off,I.st=true→I.vr[f]? =some q→a.eval x= .pointer (some ⟨a7,off,none⟩)→
  ∀w:World,(execOp a.eval o).run P w= .ok (.value (.pointer (some ⟨a7,off+q,none⟩))) w:=by
  intro q a7 off dM hq hv w
  cases d<;>simp only [qj] at h4
  case struct fs=>
   obtain ⟨_,_,_,WS,cf,Qo,_⟩:=h4
   rw [←WS,List.getElem?_map] at hq
   cases hf:fs.toList[f]? with
   |none=>simp [hf] at hq
   |some fl=>
    simp [hf] at hq
    subst hq
    have M9:fs[f]? =some fl:=by simpa using hf
    obtain ⟨J,hJ,WR,hJs⟩:=Qo f fl M9
    obtain ⟨ij,Na,hs,_⟩:=(hT _ _ hJ).info WR
    have hz:ij.size≠0:=by omega
    simp [execOp,ho,hv,Instr.fieldAt,run_underlying h1,M9,Instr.sureAddr,fieldPlace,Go.sizeOf,typeInfo,Na,hz,Addr.add_mid]
  all_goals (exfalso;simp_all)
 generalize aK c st x=s at hx hK n4
 unfold QF at hK
 split at hK
 ·rename_i q r' o' dM hq
  simp only [ab] at hx
  refine iz (s:= .ptr r' (o'+q)) h (key q _ _ dM hq hx) ?_ n4 hK
  simp only [ab]
 ·rename_i q cs o' dM hq
  simp only [ab] at hx
  obtain ⟨a7,b,vs,hx,hh⟩:=hx
  refine iz (s:= .rp cs (o'+q)) h (key q _ _ dM hq hx) ?_ trivial hK
  simp only [ab]
  exact ⟨a7,b,vs,by rw [Nat.add_assoc],hh⟩
 ·rename_i q g i' o' b cs dM hq
  cases hf:aG st.aO g with
  |none=>simp [hf] at hK
  |some w'=>
   simp only [hf] at hK
   simp only [ab] at hx
   obtain ⟨a7,cap,h5,h6,h7⟩:=hx w' (by rw [h.m];exact hf)
   refine iz (s:= .ep g i' (o'+q) b cs) h (key q _ _ dM hq h7) ?_ trivial hK
   simp only [ab]
   intro o2 cf
   rw [h.m,hf] at cf
   cases cf
   exact ⟨a7,cap,h5,h6,by rw [Nat.add_assoc]⟩
 ·simp at hK
theorem X7 {x:Operand} {k:Nat} (ho:o.op= .extract x k) (h:bN c Z e st a w)
 (hK:XW (aK c st x) k (fun s=>bk c st o.dst s K)=some r):Rd P c Z K r e a w o (fun _=>True):=by
 obtain ⟨hx,n4⟩:=h.eval x
 generalize aK c st x=s at hx hK
 unfold XW at hK
 split at hK
 ·rename_i vs
  simp only [ab] at hx
  obtain ⟨arr,hv,hs⟩:=hx
  cases hk:vs[k]? with
  |none=>simp [hk] at hK
  |some s=>
   simp only [hk] at hK
   have: ∀(k:Nat) (vs:List Slot) (l:List Value),jD e l vs→vs[k]? =some s→ ∃v,l[k]? =some v∧ab e v s∧xV s=true:=by
    intro k
    induction k with
    |zero=>
     intro vs l hl hk
     cases vs with
     |nil=>simp at hk
     |cons y ys=>
      simp at hk
      subst hk
      simp only [jD] at hl
      obtain ⟨v,q,rfl,h1,h2,_⟩:=hl
      exact ⟨v,rfl,h1,h2⟩
    |succ k ih=>
     intro vs l hl hk
     cases vs with
     |nil=>simp at hk
     |cons y ys=>
      simp only [jD] at hl
      obtain ⟨v,q,rfl,_,_,h3⟩:=hl
      obtain ⟨u,h4,h5⟩:=ih ys q h3 (by simpa using hk)
      exact ⟨u,by simpa using h4,h5⟩
   obtain ⟨v,T7,h1,h2⟩:=this k vs arr.toList hs hk
   have hv3:arr[k]? =some v:=by simpa using T7
   refine iz h ?_ h1 ?_ hK
   ·simp [execOp,ho,hv,Instr.extract,hv3]
   ·cases s<;>simp [xV] at h2<;>trivial
 ·simp at hK
end
end Dn
/-
  Operations that make memory: variables. Conditions: none.
-/
set_option linter.unusedSimpArgs false
set_option linter.unusedVariables false
namespace Dn
open Go
section
variable {P:Program} {c:Ctx} {Z:bC} {e:Env} {st:St} {a:Act} {w w':World} {R:Type} {K:St→Option R} {r:R} {Q:Exit→Act→World→Prop} {o:Oper}
theorem dc.refl (w:World):dc w w:=⟨Nat.le_refl _,fun _ _=>rfl,.refl _⟩
theorem dc.alloc (w:World) (cs:Array Value) (t:TypeId):dc w (w.alloc (.cells cs t)):=⟨by simp,fun b hb=>y8 w _ b hb,.alloc w cs t⟩
theorem dc.aev (g:dc w w') {base:Nat} {t:TypeId} {size:Nat} {v:Value} {n:Nat} {xs:List Value} (h:w.ownsRow base t size v n xs):w'.ownsRow base t size v n xs:=by
 refine ⟨h.1,?_⟩
 rcases h.2 with h|⟨b,cap,cW,h1,h2,h3,h4⟩
 ·exact .inl h
 ·exact .inr ⟨b,cap,cW,h1,h2,by rw [g.Ae b (bm h3)];exact h3,h4⟩
theorem rC.grow (g:dc w w') {a7:Nat} {cs:List aD} (h:rC Z e w a7 cs):rC Z e w' a7 cs:=by
 obtain ⟨o,h1,h2⟩:=h.obj
 exact ⟨h.b3,⟨o,by rw [g.Ae _ (bm h1)];exact h1,h2⟩,h.free⟩
theorem cQ.grow (g:dc w w') {v:Value} {f:mQ} (h:cQ c Z e w v f):cQ c Z e w' v f:=by
 obtain ⟨I,cells,h1,h2,h3,h4,h5⟩:=h.row
 exact ⟨I,cells,h1,h2,g.aev h3,h4,h5⟩
theorem bN.grow (g:dc w w') (h:bN c Z e st a w):bN c Z e st a w':=by
 refine ⟨h.defers,h.size,h.m,h.key,h.nodup,?_,h.root,fun f o ho=>(h.iF f o ho).grow g,h.bb,h.bf,h.ff,fun b o v hv=>g.cell (h.nx b o v hv),fun b hb=>h.b3 b (Nat.le_trans g.size hb)⟩
 intro t
 have hs:=h.slot t
 generalize aj st.fr t=s at hs
 cases s<;>simp only [bL] at hs⊢ <;>first|exact hs|exact ⟨hs.1,hs.2.grow g⟩
theorem dc.trans (g:dc w w') (hz: ∀b,w.heap.size≤b→Z b) (φ:Ph):Trans Z φ w φ w':=
 ⟨.refl φ,fun b _ hl=>g.Ae b hl,fun _ _ _=>rfl,g.size,g.rest⟩
theorem Ou {l:aD} {vs:List Value} (h:QU l vs=true):aS e vs l:=by
 unfold QU at h
 split at h
 ·simp at h;subst h;exact ⟨rfl,.b _⟩
 ·simp at h;obtain ⟨rfl,rfl⟩:=h;exact ⟨rfl,.i _ _⟩
 ·simp at h;subst h;exact ⟨rfl,.s _⟩
 ·split at h
  ·exact ⟨rfl,.raw _ rfl⟩
  ·exact ⟨rfl,.raw _ rfl⟩
  ·exact ⟨rfl,.raw _ rfl⟩
  ·simp at h
 ·rfl
 ·exact ⟨_,rfl,h⟩
 ·rename_i x
  simp only [Bool.and_eq_true,beq_iff_eq] at h
  obtain ⟨h1,h2⟩:=h
  show vs=bh x
  apply List.ext_getElem?
  intro j
  by_cases hj:j<32
  ·rw [yy x j hj]
   have hjv:j<vs.length:=by omega
   have Fa:j<x.l.length:=by rw [x.h];exact hj
   rw [List.all_eq_true] at h2
   have hm:(vs[j],x.l[j])∈vs.zip x.l:=List.mem_iff_getElem.2 ⟨j,by simp;omega,by simp⟩
   have:=h2 _ hm
   rw [List.getElem?_eq_getElem hjv]
   dsimp only at this
   split at this
   ·rename_i n hn
    rw [hn,of_decide_eq_true this]
    simp [List.getD,List.getElem?_eq_getElem Fa]
   ·simp at this
  ·rw [List.getElem?_eq_none (by omega),List.getElem?_eq_none (by rw [cw];omega)]
 ·simp at h
theorem ko {ls:List aD}: ∀{vs:List Value},rB ls vs=true→ar e vs ls:=by
 induction ls with
 |nil=>intro vs h;simpa [rB,ar] using h
 |cons l r ih=>
  intro vs h
  simp only [rB,Bool.and_eq_true] at h
  exact ⟨vs.take l.w,vs.drop l.w,by simp,Ou h.1.1,ih h.1.2⟩
theorem ar.vU {cs:List aD} {vs:List Value} (h:ar e vs cs):et cs=false:=by
 cases hm:et cs with
 |false=>rfl
 |true=>obtain ⟨s,ms,rfl⟩:=HA hm;obtain ⟨_,_,_,h1,_⟩:=h;exact h1.elim
theorem CS (h:bN c Z e st a w) (off:Nat):e.φ w.heap.size off=none:=by
 cases hp:e.φ w.heap.size off with
 |none=>rfl
 |some v=>
  have:=World.block_lt_of_cell? w _ (h.nx _ _ _ hp)
  simp at this
theorem w8 (h:bN c Z e st a w):(∀t fa,aj st.fr t= .box fa→e.B t≠w.heap.size)∧(∀f o,aG st.aO f=some o→(e.E f).ownBlock≠some w.heap.size):=by
 refine ⟨?_,?_⟩
 ·intro t fa ht
  have hs:=h.slot t
  rw [ht] at hs
  obtain ⟨o,h1,_⟩:=hs.2.obj
  have:=bm h1
  omega
 ·intro f o ho hk
  obtain ⟨I,cells,h1,h2,h3,h4,h5⟩:=(h.iF f o ho).row
  rcases h3.2 with ⟨hv,_⟩|⟨g,cap,cW,hv,_,hg,_⟩
  ·rw [hv] at hk;simp [Value.ownBlock] at hk
  ·rw [hv] at hk
   simp only [Value.ownBlock,Option.some.injEq] at hk
   have:=bm hg
   omega
theorem Nb {cells:Array Value} {T:TypeId} {cs:List aD} (h:bN c Z e st a w) (hl:ar e cells.toList cs):
 pe Z e (w.alloc (.cells cells T)) st (.pointer (some ⟨w.heap.size,0,none⟩)) (.box cs):=by
 exact ⟨w.heap.size,by rw [tY hl.vU],⟨h.b3 _ (Nat.le_refl _),⟨_,jW w _,rfl,hl⟩,CS h⟩,(w8 h).1,(w8 h).2⟩
theorem Q6 {t:TypeId} {I:TI} (ho:o.op= .alloc t) (hI:c.tv t=some I) (hT:kn P c.ti) (h:bN c Z e st a w)
 (hK:bk c st o.dst (.box I.zero) K=some r):o.wp P a w (fun a' w'=>dc w w'∧Out c Z K r e.φ w a' w') Q:=by
 obtain ⟨rc,hc⟩:=bE hI
 obtain ⟨d,i,h1,h2,h3,h4⟩:=hT t I rc
 have hz: ∃z,i.zero=some z∧ar e z.cells.toList I.zero:=by
  cases d<;>simp only [qj] at h4
  case struct fs=>obtain ⟨_,_,_,_,_,_,cs,hz,hl,_⟩:=h4;exact ⟨_,hz,by simpa [Value.cells] using ko hl⟩
  case tuple ts=>exact absurd hc h4.2.1
  case slice el=>obtain ⟨_,_,_,_,_,hz,hl,_⟩:=h4;exact ⟨_,hz,by rw [hl];exact ⟨[.slice none 0 0],[],rfl,rfl,rfl⟩⟩
  case array n el=>obtain ⟨_,_,_,_,_,_,_,hl,hz⟩:=h4;exact ⟨_,hz,by rw [hl];exact ⟨bh kg.zero,[],by simp [Value.cells],rfl,rfl⟩⟩
  case bool=>obtain ⟨_,_,_,_,hl,hz⟩:=h4;exact ⟨_,hz,by rw [hl];exact ⟨[.bool false],[],rfl,⟨rfl,.b _⟩,rfl⟩⟩
  case int k=>obtain ⟨_,_,_,_,hl,hz⟩:=h4;exact ⟨_,hz,by rw [hl];exact ⟨[.int k 0],[],rfl,⟨rfl,.i _ _⟩,rfl⟩⟩
  case string=>
   obtain ⟨_,_,_,_,hl,b,hz,hb⟩:=h4
   refine ⟨_,hz,by rw [hl];refine ⟨[.string b],[],rfl,⟨rfl,?_⟩,rfl⟩;rw [←hb];exact .s b⟩
  all_goals
   obtain ⟨_,_,_,_,v,hz,hv,hl⟩:=h4
   refine ⟨v,hz,?_⟩
   have:v.cells.toList=[v]:=by cases v<;>simp_all [Value.cells,Value.oneCell']
   rw [this];exact ko hl
 obtain ⟨z,hz,hl⟩:=hz
 have bJ:(execOp a.eval o).run P w= .ok (.value (.pointer (some ⟨w.heap.size,0,none⟩))) (w.alloc (.cells z.cells t)):=by
  simp [execOp,ho,Instr.alloc,zeroValue,typeInfo,h2,hz,newVar,newRow,newObj,Sem.run]
 exact On (.alloc w _ _) bJ (h.grow (.alloc w _ _)) ((dc.alloc w _ _).trans h.b3 _) (Nb h hl) hK
theorem X8 {t:TypeId} {x:Operand} {I:TI} (ho:o.op= .box t x) (h:bN c Z e st a w)
 (hK:XT I (aK c st x) (fun s=>bk c st o.dst s K)=some r):o.wp P a w (fun a' w'=>dc w w'∧Out c Z K r e.φ w a' w') Q:=by
 obtain ⟨hx,n4⟩:=h.eval x
 have bJ:(execOp a.eval o).run P w= .ok (.value (.pointer (some ⟨w.heap.size,0,none⟩))) (w.alloc (.cells (a.eval x).cells t)):=by
  simp [execOp,ho,Instr.box,newVar,newRow,newObj,Sem.run]
 have go: ∀cs,ar e (a.eval x).cells.toList cs→bk c st o.dst (.box cs) K=some r→o.wp P a w (fun a' w'=>dc w w'∧Out c Z K r e.φ w a' w') Q:=
  fun cs h1 h2=>On (.alloc w _ _) bJ (h.grow (.alloc w _ _)) ((dc.alloc w _ _).trans h.b3 _) (Nb h h1) h2
 generalize aK c st x=s at hx hK n4
 unfold XT at hK
 split at hK
 ·rename_i l
  cases hb:I.st||I5 l||!Nat.beq l.w I.size with
  |true=>simp [hb] at hK
  |false=>
   simp only [hb,cond_false] at hK
   refine go [l] ?_ hK
   cases l with
   |un=>simp [I5] at hb
   |hs y=>
    simp only [ab] at hx
    rw [hx]
    exact ⟨bh y,[],by simp [Value.cells],rfl,rfl⟩
   |p m=>
    simp only [ab] at hx
    have:(a.eval x).cells.toList=[a.eval x]:=by
     have:=hx.cells (a.eval x) (by simp)
     generalize a.eval x=v at this
     cases v<;>simp_all [Value.cells,Value.oneCell']
    rw [this];exact ⟨_,[],rfl,hx,rfl⟩
   |nil=>
    simp only [ab] at hx
    have Ov:[a.eval x]=[Value.slice none 0 0]:=hx
    simp at Ov
    rw [Ov];exact ⟨[.slice none 0 0],[],rfl,rfl,rfl⟩
   |mp s es=>simp [I5] at hb
   |own f=>
    simp only [ab] at hx
    have:(a.eval x).cells.toList=[a.eval x]:=by
     have:=hx.cells (a.eval x) (by simp)
     generalize a.eval x=v at this
     cases v<;>simp_all [Value.cells,Value.oneCell']
    rw [this];exact ⟨_,[],rfl,hx,rfl⟩
 ·rename_i cs
  cases hb:I.st&&!sR cs&&Nat.beq (vL cs) I.size with
  |false=>simp [hb] at hK
  |true=>
   simp only [hb,cond_true] at hK
   simp only [ab] at hx
   obtain ⟨arr,hx,hl⟩:=hx
   exact go cs (by rw [hx];exact hl) hK
 ·simp at hK
end
end Dn
/-
  Stores into variables. Conditions: none.
-/
set_option linter.unusedSimpArgs false
set_option linter.unusedVariables false
namespace Dn
open Go
section
variable {P:Program} {c:Ctx} {Z:bC} {e:Env} {st:St} {a:Act} {w w':World} {R:Type} {K:St→Option R} {r:R} {Q:Exit→Act→World→Prop} {o:Oper}
theorem setRow_size (w:World) (g:Nat) (cs:Array Value):(w.setRow g cs).heap.size=w.heap.size:=by simp [World.setRow]
structure Qp (g:Nat) (w w':World):Prop where
 size:w'.heap.size=w.heap.size
 other: ∀b,b≠g→w'.heap[b]? =w.heap[b]?
 rest:Rest w w'
theorem Qp.setRow (w:World) (g:Nat) (cs:Array Value):Qp g w (w.setRow g cs):=⟨setRow_size _ _ _,fun b hb=>setRow_other _ _ _ _ hb,.setRow _ _ _⟩
theorem Ji {g:Nat} (hc:Qp g w w') {base:Nat} {t:TypeId} {size:Nat} {v:Value} {n:Nat} {xs:List Value} (cI:v.ownBlock≠some g)
 (h:w.ownsRow base t size v n xs):w'.ownsRow base t size v n xs:=by
 refine ⟨h.1,?_⟩
 rcases h.2 with h|⟨b,cap,cW,h1,h2,h3,h4⟩
 ·exact .inl h
 ·refine .inr ⟨b,cap,cW,h1,h2,?_,h4⟩
  rw [hc.other _ (by intro e;subst e;subst h1;exact cI rfl)];exact h3
theorem Lx {g:Nat} {cs:Array Value} {base:Nat} {t:TypeId} {size:Nat} {v:Value} {n:Nat} {xs:List Value} (cI:v.ownBlock≠some g)
 (h:w.ownsRow base t size v n xs):(w.setRow g cs).ownsRow base t size v n xs:=Ji (.setRow w g cs) cI h
theorem bN.setObj {root:Nat} {cs fa:List aD} {o':Obj} {nJ:Fr} (h:bN c Z e st a w) (hf:aj st.fr root= .box cs)
 (IV:Qp (e.B root) w w') (ki:w'.heap[e.B root]? =some o') (hl:jj e o' fa) (ZR:kj fa=kj cs) (K7: ∀t,aj nJ t=if t=root then .box fa else aj st.fr t)
 (hnd:(aL nJ).Nodup):bN c Z e {st with fr:=nJ} a w':=by
 have qk:=IV.size
 have jY:=h.slot root
 rw [hf] at jY
 refine ⟨h.defers,h.size,h.m,h.key,hnd,?_,?_,?_,?_,?_,h.ff,?_,fun b hb=>h.b3 b (by omega)⟩
 ·intro t
  show bL Z e _ t _ (aj nJ t)
  rw [K7]
  by_cases ht:t=root
  ·subst ht
   simp only [if_true,bL]
   exact ⟨jY.1.kj ZR,⟨jY.2.b3,⟨o',ki,hl⟩,jY.2.free⟩⟩
  ·simp only [ht,if_false]
   have hs:=h.slot t
   have Af:=h.bb t root
   generalize hg:aj st.fr t=s at hs Af
   cases s<;>simp only [bL] at hs⊢ <;>try exact hs
   rename_i tL
   refine ⟨hs.1,hs.2.b3,?_,hs.2.free⟩
   obtain ⟨o2,h1,h2⟩:=hs.2.obj
   exact ⟨o2,by rw [IV.other _ (Af tL cs rfl hf ht)];exact h1,h2⟩
 ·intro t
  show b6 nJ (aj nJ t)
  rw [K7]
  by_cases ht:t=root
  ·simp [ht,b6]
  ·simp only [ht,if_false]
   have hr:=h.root t
   generalize aj st.fr t=s at hr
   cases s<;>simp only [b6] at hr⊢ <;>(rw [K7];split<;>simp_all [cu])
 ·intro f o ho
  obtain ⟨I,cells,h1,h2,h3,h4,h5⟩:=(h.iF f o ho).row
  exact ⟨I,cells,h1,h2,Ji IV (h.bf root cs f o hf ho) h3,h4,h5⟩
 ·intro t t' c1 c2 h1 h2 cI
  have h1:aj nJ t= .box c1:=h1
  have h2:aj nJ t'= .box c2:=h2
  rw [K7] at h1 h2
  by_cases ht:t=root
  ·by_cases yx:t'=root
   ·exact absurd (ht.trans yx.symm) cI
   ·simp only [yx,if_false] at h2;rw [ht];exact h.bb root t' cs c2 hf h2 (by rw [←ht];exact cI)
  ·simp only [ht,if_false] at h1
   by_cases yx:t'=root
   ·rw [yx];exact h.bb t root c1 cs h1 hf ht
   ·simp only [yx,if_false] at h2;exact h.bb t t' c1 c2 h1 h2 cI
 ·intro t c1 f o h1 h2
  have h1:aj nJ t= .box c1:=h1
  rw [K7] at h1
  by_cases ht:t=root
  ·rw [ht];exact h.bf root cs f o hf h2
  ·simp only [ht,if_false] at h1;exact h.bf t c1 f o h1 h2
 ·intro b o v hv
  have cI:b≠e.B root:=by intro eb;subst eb;rw [jY.2.free] at hv;cases hv
  have:=h.nx b o v hv
  rw [World.cell?_of_block (IV.other _ cI)];exact this
theorem bN.Q7 {root:Nat} {cs fa:List aD} {arr Fh:Array Value} {T:TypeId} {nJ:Fr} (h:bN c Z e st a w) (hf:aj st.fr root= .box cs)
 (cF:w.heap[e.B root]? =some (.cells arr T (0,0))) (hl:ar e Fh.toList fa) (K7: ∀t,aj nJ t=if t=root then .box fa else aj st.fr t)
 (hnd:(aL nJ).Nodup):bN c Z e {st with fr:=nJ} a (w.setRow (e.B root) Fh):=by
 have jY:=h.slot root
 rw [hf] at jY
 have hm:et cs=false:=by
  obtain ⟨o,h1,h2⟩:=jY.2.obj
  rw [cF] at h1;cases h1
  exact h2.2.vU
 exact h.setObj hf (.setRow _ _ _) (setRow_heap _ _ _ _ _ _ cF) ⟨rfl,hl⟩ (by rw [tX hm,tX hl.vU]) K7 hnd
theorem Trans.chg {g:Nat} (φ:Ph) (IV:Qp g w w') (hz:Z g):Trans Z φ w φ w':=
 ⟨.refl φ,fun b hb _=>IV.other _ (by intro e;subst e;exact hb hz),fun _ _ _=>rfl,by rw [IV.size];exact Nat.le_refl _,IV.rest⟩
theorem Trans.setRow {g:Nat} {Fh:Array Value} (φ:Ph) (hz:Z g):Trans Z φ w φ (w.setRow g Fh):=
 ⟨.refl φ,fun b hb _=>setRow_other _ _ _ _ (by intro e;subst e;exact hb hz),fun _ _ _=>rfl,by rw [setRow_size];exact Nat.le_refl _,.setRow _ _ _⟩
theorem xX {v:Value} {s:Slot} (h:ab e v s) (hu:sR (aH s)=false) (cI:aH s≠[]):ar e v.cells.toList (aH s):=by
 cases s with
 |sc l=>
  simp only [aH] at hu⊢
  have iB: ∀l,aS e [v] l→ar e v.cells.toList [l]:=by
   intro l hl
   have hc:=hl.cells v (by simp)
   have:v.cells.toList=[v]:=by cases v<;>simp_all [Value.cells,Value.oneCell']
   rw [this];exact ⟨[v],[],rfl,hl,rfl⟩
  cases l with
  |un=>simp [sR,I5] at hu
  |hs x=>simp only [ab] at h;rw [h];exact ⟨bh x,[],by simp [Value.cells],rfl,rfl⟩
  |p m=>simp only [ab] at h;exact iB _ h
  |nil=>simp only [ab] at h;exact iB _ h
  |mp s es=>simp [sR,I5] at hu
  |own f=>simp only [ab] at h;exact iB _ h
 |ag cs=>simp only [ab] at h;obtain ⟨arr,rfl,hl⟩:=h;exact hl
 |_=>exact absurd rfl cI
theorem lV {t:TypeId} {I:TI} {a7 off:Nat} {v:Value} {arr:Array Value} {T:TypeId} (hr:mI c.ti P t I) (hc:I.ct=[]) (hs:v.cells.toList.length=I.size)
 (iB: ∀u∈v.cells.toList,u.oneCell'=true) (cF:w.heap[a7]? =some (.cells arr T (0,0))) (vV:off+I.size≤arr.size):
 (Instr.storeAt t (.pointer (some ⟨a7,off,none⟩)) v).run P w= .ok () (w.setRow a7 (arr.toList.take off++v.cells.toList++arr.toList.drop (off+I.size)).toArray):=by
 obtain ⟨i,hi,qk,_⟩:=hr.info hc
 have h1:=run_storeCells_at P a7 off T v.cells.toList 0 arr w cF (by omega) iB
 rw [Nat.add_zero,hs] at h1
 have h2:v.cells.size=i.size:=by rw [qk,←hs];simp
 simp [Instr.storeAt,Instr.sureAddr,storeVar,Go.sizeOf,typeInfo,hi,h2,h1]
theorem Ow {t:TypeId} {I:TI} {root off:Nat} {v:Value} {cs ls fa:List aD} {K':St→Option R} (uW:et cs=false) (hr:mI c.ti P t I) (hc:I.ct=[]) (h:bN c Z e st a w)
 (hf:aj st.fr root= .box cs) (hv:ar e v.cells.toList ls) (BV:vL ls=I.size) (hp:putAt cs off ls=some fa) (hK:wr st root (.box fa) K'=some r):
 ∃w' bQ,(Instr.storeAt t (.pointer (some ⟨e.B root,off,none⟩)) v).run P w= .ok () w'∧bN c Z e bQ a w'∧Trans Z e.φ w e.φ w'∧K' bQ=some r:=by
 have lU:=h.slot root
 rw [hf] at lU
 obtain ⟨arr,T,cF,pF⟩:=lU.2.cells uW
 obtain ⟨v1,v2,v3,he,h1,h2,h3⟩:=tW hp pF hv
 have hlen:=hv.width
 have qk:arr.size=v1.length+v2.length+v3.length:=by
  have:arr.toList.length=(v1++v2++v3).length:=by rw [he]
  simp at this
  omega
 have bJ:=lV (P:=P) (w:=w) (a7:=e.B root) (off:=off) hr hc (by rw [hlen,BV]) hv.cells cF (by omega)
 have aay:arr.toList.take off=v1:=by rw [he,List.append_assoc,List.take_left' h1]
 have aaz:arr.toList.drop (off+I.size)=v3:=by
  rw [he];exact List.drop_left' (by rw [List.length_append];omega)
 rw [aay,aaz] at bJ
 unfold wr at hK
 cases hn:br st.b4 root with
 |true=>simp [hn] at hK
 |false=>
  simp only [hn,cond_false,force_eq,kT] at hK
  refine ⟨_,_,bJ,?_,.setRow _ (Jd lU.2.b3 (by rw [←h.defers.2.1,←bt,hn];simp)),hK⟩
  exact h.Q7 hf cF (by simpa using h3) (fun t=>by rw [bD]) (dB h.nodup)
end
end Dn
/-
  Owned slices that are shared from now on; what is handed to a callee. Conditions: none.
-/
set_option linter.unusedSimpArgs false
set_option linter.unusedVariables false
namespace Dn
open Go
section
variable {P:Program} {c:Ctx} {Z:bC} {e:Env} {st:St} {a:Act} {w w':World} {R:Type} {K:St→Option R} {r:R} {Q:Exit→Act→World→Prop} {o:Oper}
theorem aW.mono {key:Nat→Nat} {φ φ':Ph} (h:pK φ φ') {size:Nat} {xs:List MV}: ∀{cs:List Value},aW key φ size cs xs→aW key φ' size cs xs:=by
 induction xs with
 |nil=>intro cs hh;exact hh
 |cons x xs ih=>intro cs hh;obtain ⟨v,q,rfl,h1,h2,h3⟩:=hh;exact ⟨v,q,rfl,h1,h2.mono h,ih h3⟩
theorem aW.length {key:Nat→Nat} {φ:Ph} {size:Nat} {xs:List MV}: ∀{cs:List Value},aW key φ size cs xs→cs.length=xs.length *size:=by
 induction xs with
 |nil=>intro cs hh;cases hh;simp
 |cons x xs ih=>intro cs hh;obtain ⟨v,q,rfl,h1,h2,h3⟩:=hh;simp [h1,ih h3,Nat.succ_mul,Nat.add_comm]
theorem Ly {m:List (Nat×mQ)} {f:Nat} {o:mQ} (h:aG m f=some o):bH m f o=m:=by
 induction m with
 |nil=>simp [aG] at h
 |cons p r ih=>
  obtain ⟨k,x⟩:=p
  simp only [aG,bH,eh] at h⊢
  by_cases hk:k=f
  ·subst hk;simp at h;subst h;simp
  ·simp only [hk,decide_false,cond_false] at h⊢;rw [ih h]
def mU (φ:Ph) (v:Value) (cells:List Value):Ph:=fun b off=>if v.ownBlock=some b∧off<cells.length then cells[off]? else φ b off
theorem Bg {base:Nat} {t:TypeId} {size n:Nat} {v:Value} {xs ys:List Value} (h:w.ownsRow base t size v n xs) (h':w.ownsRow base t size v n ys) {b:Nat} (hb:v.ownBlock=some b):xs=ys:=by
 rcases h.2 with ⟨h1,_⟩|⟨g,cap,cW,h1,_,h2,_,_,_,h3⟩
 ·rw [h1] at hb;simp [Value.ownBlock] at hb
 ·rcases h'.2 with ⟨E8,_⟩|⟨g',X9,lB,E8,_,Jj,_,_,_,WT⟩
  ·rw [E8] at hb;simp [Value.ownBlock] at hb
  ·rw [h1] at E8
   simp at E8
   obtain ⟨rfl,rfl⟩:=E8
   rw [h2] at Jj
   simp at Jj
   subst Jj
   rw [←h3,←WT]
theorem freeze {f:Nat} {o:mQ} (h:bN c Z e st a w) (hf:aG st.aO f=some o) (hp:f∉Z.b5∨o.dI=true):
 ∃φ',pK e.φ φ'∧(∀b off,¬Z b→φ' b off=e.φ b off)∧bN c Z {e with φ:=φ',m:=bH e.m f ⟨o.ty,true,o.xs⟩} {st with aO:=bH st.aO f ⟨o.ty,true,o.xs⟩} a w∧
  kS e.key φ' [e.E f] (.list o.xs)∧
  (∀I cells,c.ti o.ty=some I→w.ownsRow 0 o.ty I.size (e.E f) o.xs.length cells→ ∀a7,(e.E f).ownBlock=some a7→ ∀j,j<cells.length→φ' a7 j=cells[j]?):=by
 obtain ⟨I,cells,hI,Q8,dg,iA,hz⟩:=(h.iF f o hf).row
 have hlen:=iA.length
 have hle:pK e.φ (mU e.φ (e.E f) cells):=by
  intro b off v hv
  unfold mU
  by_cases hc:(e.E f).ownBlock=some b∧off<cells.length
  ·simp only [hc,and_self,if_true]
   obtain ⟨hb,ho⟩:=hc
   rcases dg.2 with ⟨hE,_⟩|⟨g,cap,cW,hE,_,hg,hn,Cr,re,Lz⟩
   ·rw [hE] at hb;simp [Value.ownBlock] at hb
   ·rw [hE] at hb
    simp only [Value.ownBlock,Option.some.injEq] at hb
    subst hb
    have:=h.nx _ _ _ hv
    rw [cell_of hg] at this
    rw [←Lz,List.getElem?_take]
    have cf:off<o.xs.length *I.size:=by omega
    simp only [cf,if_true]
    simpa using this
  ·simp only [hc,if_false];exact hv
 have iZ: ∀b off v,mU e.φ (e.E f) cells b off=some v→w.cell? ⟨b,off,none⟩=some v:=by
  intro b off v hv
  unfold mU at hv
  by_cases hc:(e.E f).ownBlock=some b∧off<cells.length
  ·simp only [hc,and_self,if_true] at hv
   rcases dg.2 with ⟨hE,_⟩|⟨g,cap,cW,hE,_,hg,hn,Cr,re,Lz⟩
   ·rw [hE] at hc;simp [Value.ownBlock] at hc
   ·rw [hE] at hc
    simp only [Value.ownBlock,Option.some.injEq] at hc
    obtain ⟨hb,ho⟩:=hc
    subst hb
    rw [cell_of hg]
    rw [←Lz,List.getElem?_take] at hv
    have cf:off<o.xs.length *I.size:=by omega
    simp only [cf,if_true] at hv
    simpa using hv
  ·simp only [hc,if_false] at hv;exact h.nx _ _ _ hv
 have aaA: ∀b off,¬Z b→mU e.φ (e.E f) cells b off=e.φ b off:=by
  intro b off hb
  unfold mU
  by_cases hc:(e.E f).ownBlock=some b∧off<cells.length
  ·by_cases yz:f∈Z.b5
   ·simp only [hc,and_self,if_true]
    exact (((hz b hc.1).2.2 yz (hp.resolve_left (fun hn=>hn yz))) off hc.2).symm
   ·exact absurd (Jd (hz b hc.1).1 yz) hb
  ·simp [hc]
 have LA: ∀b off,(e.E f).ownBlock≠some b→mU e.φ (e.E f) cells b off=e.φ b off:=by
  intro b off hb;unfold mU;simp [hb]
 have si:jX (fun _=>True) (fun _=>True) e {e with φ:=mU e.φ (e.E f) cells,m:=bH e.m f ⟨o.ty,true,o.xs⟩}:=by
  refine ⟨rfl,hle,fun _ _=>rfl,?_⟩
  intro f2 o2 cf _
  have cf:aG (bH e.m f ⟨o.ty,true,o.xs⟩) f2=some o2:=cf
  rw [ba] at cf
  by_cases ea:f2=f
  ·subst ea;simp at cf;subst cf;exact ⟨o,by rw [h.m];exact hf,rfl,rfl⟩
  ·simp only [ea,if_false] at cf;exact ⟨o2,cf,rfl,rfl⟩
 have pL: ∀s:Slot,eO (fun _=>True) (fun _=>True) s:=by
  intro s;cases s<;>simp [eO,iK]
 refine ⟨_,hle,aaA,?_,?_,?_⟩
 rotate_right
 ·intro I' Q9 hI' aaB a7 hb j hj
  rw [hI] at hI'
  cases hI'
  have hcc:=Bg dg aaB hb
  subst hcc
  unfold mU
  simp [hb,hj]
 ·refine ⟨h.defers,h.size,by show bH e.m f _=bH st.aO f _;rw [h.m],h.key,h.nodup,?_,h.root,?_,h.bb,?_,?_,iZ,h.b3⟩
  ·intro t
   have hs:=h.slot t
   have UD:=h.bf t
   show bL Z _ w t _ (aj st.fr t)
   generalize aj st.fr t=s at hs UD
   cases s<;>simp only [bL] at hs⊢ <;>try exact hs.on si (pL _)
   rename_i cs
   refine ⟨hs.1,hs.2.b3,?_,?_⟩
   ·obtain ⟨o2,h1,h2⟩:=hs.2.obj
    exact ⟨o2,h1,h2.on si (fun l _ f _=>trivial)⟩
   ·intro off
    show mU e.φ (e.E f) cells (e.B t) off=none
    rw [LA _ _ (UD cs f o rfl hf)];exact hs.2.free off
  ·intro f2 o2 cf
   have cf:aG (bH st.aO f ⟨o.ty,true,o.xs⟩) f2=some o2:=cf
   rw [ba] at cf
   by_cases ea:f2=f
   ·subst ea
    simp at cf
    subst cf
    refine ⟨I,cells,hI,Q8,dg,iA.mono hle,?_⟩
    intro a7 hb
    refine ⟨(hz a7 hb).1,?_,?_⟩
    rotate_left
    ·intro _ _ j hj
     show mU e.φ (e.E f2) cells a7 j=_
     have hb:(e.E f2).ownBlock=some a7:=hb
     unfold mU
     simp [hb,hj]
    intro off u hu
    refine ⟨rfl,?_⟩
    have hu:mU e.φ (e.E f2) cells a7 off=some u:=hu
    unfold mU at hu
    by_cases hc:(e.E f2).ownBlock=some a7∧off<cells.length
    ·show off<o.xs.length *I.size;rw [←hlen];exact hc.2
    ·simp only [hc,if_false] at hu;exact ((hz a7 hb).2.1 off u hu).2
   ·simp only [ea,if_false] at cf
    obtain ⟨I2,ua,h1,h2,h3,h4,h5⟩:=(h.iF f2 o2 cf).row
    refine ⟨I2,ua,h1,h2,h3,h4.mono hle,?_⟩
    intro a7 hb
    refine ⟨(h5 a7 hb).1,?_,?_⟩
    rotate_left
    ·intro g1 g2 j hj
     show mU e.φ (e.E f) cells a7 j=_
     rw [LA _ _ (fun UD=>ea (h.ff f2 f o2 o a7 cf hf hb UD))]
     exact (h5 a7 hb).2.2 g1 g2 j hj
    intro off u hu
    have hu:mU e.φ (e.E f) cells a7 off=some u:=hu
    rw [LA _ _ (fun UD=>ea (h.ff f2 f o2 o a7 cf hf hb UD))] at hu
    exact (h5 a7 hb).2.1 off u hu
  ·intro t cs f2 o2 h1 h2
   have h2:aG (bH st.aO f ⟨o.ty,true,o.xs⟩) f2=some o2:=h2
   rw [ba] at h2
   by_cases ea:f2=f
   ·subst ea;exact h.bf t cs f2 o h1 hf
   ·simp only [ea,if_false] at h2;exact h.bf t cs f2 o2 h1 h2
  ·intro f1 f2 o1 o2 k h1 h2 h3 h4
   have h1:aG (bH st.aO f ⟨o.ty,true,o.xs⟩) f1=some o1:=h1
   have h2:aG (bH st.aO f ⟨o.ty,true,o.xs⟩) f2=some o2:=h2
   rw [ba] at h1 h2
   have g1: ∃o',aG st.aO f1=some o':=by
    by_cases ea:f1=f
    ·subst ea;exact ⟨o,hf⟩
    ·simp only [ea,if_false] at h1;exact ⟨o1,h1⟩
   have g2: ∃o',aG st.aO f2=some o':=by
    by_cases ea:f2=f
    ·subst ea;exact ⟨o,hf⟩
    ·simp only [ea,if_false] at h2;exact ⟨o2,h2⟩
   obtain ⟨q1,g1⟩:=g1
   obtain ⟨q2,g2⟩:=g2
   exact h.ff f1 f2 q1 q2 k g1 g2 h3 h4
 ·have zd:=iA.mono hle
  rcases dg.2 with ⟨hE,hn⟩|⟨g,cap,cW,hE,_,hg,hn,Cr,re,Lz⟩
  ·have hx:o.xs=[]:=List.eq_nil_of_length_eq_zero hn
   have hv:[e.E f]=[Value.slice none 0 0]:=by rw [hE]
   rw [hv,hx]
   exact .list none 0 [] 0 0 0 (fun _=>[]) (by simp) (by simp) (by simp) (by simp) (by simp)
  ·have hv:[e.E f]=[Value.slice (some ⟨g,0,none⟩) o.xs.length cap]:=by rw [hE]
   rw [hv]
   have HF: ∀i (hi:i<o.xs.length),∃v1,v1.length=I.size∧kS e.key (mU e.φ (e.E f) cells) v1 o.xs[i]∧(cells.drop (i *I.size)).take I.size=v1:=by
    intro i hi
    obtain ⟨p1,v1,p2,he,CR,vS,eu⟩:=zd.at (List.getElem?_eq_getElem hi)
    refine ⟨v1,vS,eu,?_⟩
    rw [he,List.append_assoc,←CR,List.drop_left,←vS,List.take_left]
   refine .list (some ⟨g,0,none⟩) cap o.xs g 0 I.size (fun i=>(cells.drop (i *I.size)).take I.size) hn (fun _=>rfl) ?_ ?_ ?_
   ·intro i hi
    obtain ⟨v1,h1,_,h3⟩:=HF i hi
    rw [h3,h1]
   ·intro i j hi hj
    have hb:(e.E f).ownBlock=some g:=by rw [hE];rfl
    have Fi:i *I.size+j<cells.length:=by
     rw [hlen]
     calc i *I.size+j<i *I.size+I.size:=by omega
      _=(i+1) *I.size:=by rw [Nat.succ_mul]
      _≤o.xs.length *I.size:=Nat.mul_le_mul_right _ hi
    rw [Nat.zero_add]
    unfold mU
    simp only [hb,Fi,and_self,if_true]
    rw [List.getElem?_take]
    simp only [hj,if_true,List.getElem?_drop]
   ·intro i hi
    obtain ⟨v1,_,h2,h3⟩:=HF i hi
    rw [h3];exact h2
end
end Dn
/-
  Arguments and results. Conditions: none.
-/
set_option linter.unusedSimpArgs false
set_option linter.unusedVariables false
namespace Dn
open Go
structure Ext (Z:Nat→Prop) (e e':Env):Prop where
 on:jX (fun _=>True) (fun _=>True) e e'
 b3: ∀b off,¬Z b→e'.φ b off=e.φ b off
theorem Ext.refl (Z:Nat→Prop) (e:Env):Ext Z e e:=⟨⟨rfl,.refl _,fun _ _=>rfl,fun f o h _=>⟨o,h,rfl,rfl⟩⟩,fun _ _ _=>rfl⟩
theorem Ext.trans {Z:Nat→Prop} {e e' e'':Env} (h:Ext Z e e') (h':Ext Z e' e''):Ext Z e e'':=by
 refine ⟨⟨h'.on.key.trans h.on.key,h.on.φ.trans h'.on.φ,fun r hr=>(h'.on.B r hr).trans (h.on.B r hr),?_⟩,fun b off hb=>(h'.b3 b off hb).trans (h.b3 b off hb)⟩
 intro f o ho _
 obtain ⟨o1,h1,h2,h3⟩:=h'.on.iF f o ho trivial
 obtain ⟨o2,h4,h5,h6⟩:=h.on.iF f o1 h1 trivial
 exact ⟨o2,h4,h2.trans h5,h3.trans h6⟩
theorem Ext.tr {Z:Nat→Prop} {e e':Env} {w:World} (h:Ext Z e e'):Trans Z e.φ w e'.φ w:=⟨h.on.φ,fun _ _ _=>rfl,h.b3,Nat.le_refl _,.refl _⟩
theorem dk (s:Slot):eO (fun _=>True) (fun _=>True) s:=by cases s<;>simp [eO,iK]
def bW (key:Nat→Nat) (φ:Ph):List Value→List MV→Prop
 |vs,[]=>vs=[]
 |vs,m::ms=> ∃v r,vs=v::r∧eN key φ v m∧bW key φ r ms
theorem bW.mono {key:Nat→Nat} {φ φ':Ph} (h:pK φ φ') {ms:List MV}: ∀{vs:List Value},bW key φ vs ms→bW key φ' vs ms:=by
 induction ms with
 |nil=>intro vs hh;exact hh
 |cons m ms ih=>intro vs hh;obtain ⟨v,r,rfl,h1,h2⟩:=hh;exact ⟨v,r,rfl,h1.mono h,ih h2⟩
theorem bW.append {key:Nat→Nat} {φ:Ph} {ms ns:List MV}: ∀{vs us:List Value},bW key φ vs ms→bW key φ us ns→bW key φ (vs++us) (ms++ns):=by
 induction ms with
 |nil=>intro vs us h h';cases h;simpa using h'
 |cons m ms ih=>intro vs us h h';obtain ⟨v,r,rfl,h1,h2⟩:=h;exact ⟨v,r++us,rfl,h1,ih h2 h'⟩
section
variable {P:Program} {c:Ctx} {Z:bC} {e:Env} {st:St} {a:Act} {w w':World} {R:Type} {r:R} {Q:Exit→Act→World→Prop} {o:Oper}
theorem rD {l:aD} {vs:List Value} {K:MV→St→Option R} (h:bN c Z e st a w) (hl:aS e vs l) (hK:qd st l K=some r):
 ∃e' bQ m,bN c Z e' bQ a w∧Ext Z e e'∧bQ.fr=st.fr∧kS e'.key e'.φ vs m∧K m bQ=some r∧(rz l=true→e'=e∧bQ=st)∧(∀f,l= .own f→ ∃o,aG st.aO f=some o∧m= .list o.xs)∧((∀x,l≠ .hs x)→m.one=true):=by
 cases l with
 |un=>simp [qd] at hK
 |p m=>exact ⟨e,st,m,h,.refl _ _,rfl,hl.2,hK,fun _=>⟨rfl,rfl⟩,by simp,fun _=>hl.1⟩
 |hs x=>have hl:vs=bh x:=hl;subst hl;exact ⟨e,st,.h x,h,.refl _ _,rfl,.h x,hK,fun _=>⟨rfl,rfl⟩,by simp,fun hx=>absurd rfl (hx x)⟩
 |nil=>
  have hl:vs=[.slice none 0 0]:=hl
  subst hl
  exact ⟨e,st,.list [],h,.refl _ _,rfl,.list none 0 [] 0 0 0 (fun _=>[]) (by simp) (by simp) (by simp) (by simp) (by simp),hK,fun hp=>by simp [rz] at hp,fun _ he=>(by cases he),fun _=>rfl⟩
 |mp s es=>simp [qd] at hK
 |own f=>
  simp only [qd] at hK
  cases hf:aG st.aO f with
  |none=>simp [hf] at hK
  |some o=>
   simp only [hf] at hK
   have yz:f∉Z.b5∨o.dI=true:=by
    cases hz:o.dI with
    |true=>exact .inr rfl
    |false=>
     refine .inl (fun hm=> ?_)
     rw [←h.defers.2.2.1,←bt] at hm
     simp [hz,hm] at hK
   obtain ⟨φ',h1,h2,h3,h4,_⟩:=freeze h hf yz
   obtain ⟨v,rfl,hv,hE⟩:=hl
   have hE:=hE o (by rw [h.m];exact hf)
   subst hE
   have UE:Ext Z e {e with φ:=φ',m:=bH e.m f ⟨o.ty,true,o.xs⟩}:=by
    refine ⟨⟨rfl,h1,fun _ _=>rfl,?_⟩,h2⟩
    intro f2 o2 cf _
    have cf:aG (bH e.m f ⟨o.ty,true,o.xs⟩) f2=some o2:=cf
    rw [ba] at cf
    by_cases ea:f2=f
    ·subst ea;simp at cf;subst cf;exact ⟨o,by rw [h.m];exact hf,rfl,rfl⟩
    ·simp only [ea,if_false] at cf;exact ⟨o2,cf,rfl,rfl⟩
   cases hz:o.dI with
   |true=>
    simp only [hz,cond_true] at hK
    have aaD:bH st.aO f ⟨o.ty,true,o.xs⟩=st.aO:=by
     rw [←hz];exact Ly hf
    rw [aaD] at h3
    exact ⟨_,st,.list o.xs,h3,UE,rfl,h4,hK,fun hp=>by simp [rz] at hp,fun _ he=>by cases he;exact ⟨o,hf,rfl⟩,fun _=>rfl⟩
   |false=>
    simp only [hz,cond_false] at hK
    cases hn:br st.b5 f with
    |true=>simp [hn] at hK
    |false=>
     simp only [hn,cond_false,mS] at hK
     exact ⟨_,_,.list o.xs,h3,UE,rfl,h4,hK,fun hp=>by simp [rz] at hp,fun _ he=>by cases he;exact ⟨o,hf,rfl⟩,fun _=>rfl⟩
theorem lG {ls:List aD}: ∀{e:Env} {st:St} {vs:List Value} {K:List MV→St→Option R},bN c Z e st a w→ar e vs ls→ou st ls K=some r→
 ∃e' bQ ms,bN c Z e' bQ a w∧Ext Z e e'∧bQ.fr=st.fr∧gn e'.key e'.φ vs ms∧K ms bQ=some r∧(iG ls=true→e'=e∧bQ=st)∧(∀ps,pc ls ms=some ps→ar e' vs ps∧iG ps=true):=by
 induction ls with
 |nil=>intro e st vs K h hl hK;cases hl;exact ⟨e,st,[],h,.refl _ _,rfl,.nil,hK,fun _=>⟨rfl,rfl⟩,fun ps hp=>by simp [pc] at hp;subst hp;exact ⟨rfl,rfl⟩⟩
 |cons l ls ih=>
  intro e st vs K h hl hK
  obtain ⟨v,u,rfl,h1,h2⟩:=hl
  simp only [ou] at hK
  obtain ⟨e1,eE,m,vH,BW,Ao,Ge,pf,Ra,_,iB⟩:=rD h h1 hK
  obtain ⟨e2,eZ,ms,Jk,Qq,UF,Uu,vt,Gf,ze⟩:=ih vH (h2.on BW.on (fun l _ f _=>trivial)) pf
  have hrm:kS e2.key e2.φ v m:=by
   have:=Ge.mono Qq.on.φ
   rw [←Qq.on.key] at this;exact this
  refine ⟨e2,eZ,m::ms,Jk,BW.trans Qq,UF.trans Ao,.cons v m u ms ?_ Uu,vt,?_,?_⟩
  ·have:=Ge.mono Qq.on.φ
   rw [←Qq.on.key] at this;exact this
  ·intro hp
   simp only [iG,Bool.and_eq_true] at hp
   obtain ⟨q1,q2⟩:=Ra hp.1
   obtain ⟨q3,q4⟩:=Gf hp.2
   exact ⟨q3.trans q1,q4.trans q2⟩
  ·intro ps hp
   cases hq:pc ls ms with
   |none=>cases l<;>simp [pc,hq] at hp
   |some q=>
    obtain ⟨g1,g2⟩:=ze q hq
    by_cases hh: ∃x,l= .hs x
    ·obtain ⟨x,rfl⟩:=hh
     simp [pc,hq] at hp
     subst hp
     exact ⟨⟨v,u,rfl,h1,g1⟩,by simp [iG,rz,g2]⟩
    ·have iB:=iB (fun x hx=>hh ⟨x,hx⟩)
     have HG:ps= .p m::q:=by cases l<;>simp [pc,hq] at hp<;>first|exact hp.symm|exact absurd ⟨_,rfl⟩ hh
     subst HG
     exact ⟨⟨v,u,rfl,⟨iB,hrm⟩,g1⟩,by simp [iG,rz,g2]⟩
theorem mJ {s:Slot} {v:Value} {K:MV→St→Option R} (h:bN c Z e st a w) (hl:ab e v s) (hK:lq st s K=some r):
 ∃e' bQ m,bN c Z e' bQ a w∧Ext Z e e'∧bQ.fr=st.fr∧eN e'.key e'.φ v m∧K m bQ=some r:=by
 cases s with
 |sc l=>
  simp only [lq] at hK
  cases l with
  |un=>simp [qd] at hK
  |hs x=>
   simp only [ab] at hl
   exact ⟨e,st,.h x,h,.refl _ _,rfl,by simpa [eN,bh] using hl,hK⟩
  |p m=>
   simp only [ab] at hl
   refine ⟨e,st,m,h,.refl _ _,rfl,?_,hK⟩
   obtain ⟨h1,h2⟩:=hl
   cases m<;>simp [MV.one] at h1<;>exact ⟨rfl,h2⟩
  |nil=>
   simp only [ab] at hl
   obtain ⟨e',bQ,m,q1,q2,q3,q4,q5,q6,_⟩:=rD h hl hK
   have hl:[v]=[Value.slice none 0 0]:=hl
   refine ⟨e,st,.list [],h,.refl _ _,rfl,⟨rfl,?_⟩,hK⟩
   rw [hl]
   exact .list none 0 [] 0 0 0 (fun _=>[]) (by simp) (by simp) (by simp) (by simp) (by simp)
  |mp s es=>simp [qd] at hK
  |own f=>
   simp only [ab] at hl
   simp only [qd] at hK
   cases hf:aG st.aO f with
   |none=>simp [hf] at hK
   |some o=>
    obtain ⟨e',bQ,m,q1,q2,q3,q4,q5,q6,q7⟩:=rD (l:= .own f) h hl (by simpa only [qd,hf] using hK)
    obtain ⟨o2,_,rfl⟩:=q7.1 f rfl
    exact ⟨e',bQ,.list o2.xs,q1,q2,q3,⟨rfl,q4⟩,q5⟩
 |ag cs=>
  simp only [ab] at hl
  obtain ⟨arr,hv,hl⟩:=hl
  simp only [lq] at hK
  obtain ⟨e',bQ,ms,q1,q2,q3,q4,q5,_⟩:=lG h hl hK
  exact ⟨e',bQ,.agg ms,q1,q2,q3,⟨arr,hv,q4⟩,q5⟩
 |rp cs off=>
  simp only [ab] at hl
  obtain ⟨a7,q,vs,hv,pF,hp,An⟩:=hl
  simp only [lq] at hK
  cases hb:Nat.beq off 0 with
  |false=>simp [hb] at hK
  |true=>
   simp only [hb,cond_true] at hK
   have h0:=Nat.eq_of_beq_eq_true hb
   subst h0
   obtain ⟨e',bQ,ms,q1,q2,q3,q4,q5,q6⟩:=lG h pF hK
   obtain ⟨rfl,rfl⟩:=q6.1 hp
   refine ⟨e',bQ,.rp ms,q1,q2,q3,⟨rfl,?_⟩,q5⟩
   rw [hv]
   exact .rp a7 (q+0) vs ms q4 (by simpa using An)
 |_=>simp [lq] at hK
theorem pM {ss:List Slot}: ∀{e:Env} {st:St} {vs:List Value} {K:List MV→St→Option R},bN c Z e st a w→(∃f:Unit→List Value,f ()=vs∧vs.length=ss.length∧ ∀(i:Nat) (v:Value) (s:Slot),vs[i]? =some v→ss[i]? =some s→ab e v s)→
 tO st ss K=some r→ ∃e' bQ ms,bN c Z e' bQ a w∧Ext Z e e'∧bQ.fr=st.fr∧bW e'.key e'.φ vs ms∧K ms bQ=some r:=by
 induction ss with
 |nil=>intro e st vs K h hl hK;obtain ⟨f,_,hlen,_⟩:=hl;have:=List.eq_nil_of_length_eq_zero hlen;subst this;exact ⟨e,st,[],h,.refl _ _,rfl,rfl,hK⟩
 |cons s ss ih=>
  intro e st vs K h hl hK
  obtain ⟨f,_,hlen,eu⟩:=hl
  cases vs with
  |nil=>simp at hlen
  |cons v vs=>
   simp only [tO] at hK
   obtain ⟨e1,eE,m,q1,q2,q3,q4,q5⟩:=mJ h (eu 0 v s rfl rfl) hK
   obtain ⟨e2,eZ,ms,p1,p2,p3,p4,p5⟩:=ih (vs:=vs) q1 ⟨fun _=>vs,rfl,by simpa using hlen,fun i v s h1 h2=>(eu (i+1) v s (by simpa using h1) (by simpa using h2)).on q2.on (dk s)⟩ q5
   refine ⟨e2,eZ,m::ms,p1,q2.trans p2,p3.trans q3,⟨v,vs,rfl,?_,p4⟩,p5⟩
   have:=q4.mono p2.on.φ
   rw [←p2.on.key] at this;exact this
end
end Dn
/-
  Parts of structs, lengths, the least and the greatest, places of elements. Conditions: none.
-/
set_option linter.unusedSimpArgs false
set_option linter.unusedVariables false
namespace Dn
open Go
section
variable {P:Program} {c:Ctx} {Z:bC} {e:Env} {st:St} {a:Act} {w w':World} {R:Type} {K:St→Option R} {r:R} {Q:Exit→Act→World→Prop} {o:Oper}
theorem Gg {t:TypeId} {I:TI} (hr:mI c.ti P t I) (hc:I.ct=[]):
 ((I.st=true∨I.size=32)∧ ∀w:World,(isAgg t).run P w= .ok true w)∨(I.st=false∧I.size=1∧ ∀w:World,(isAgg t).run P w= .ok false w):=by
 rcases hr.agg hc with ⟨d,hu,hd,hh⟩|⟨d,hu,hd,h1,h2⟩
 ·refine .inl ⟨hh.imp id (·.2),fun w=> ?_⟩
  unfold isAgg;rw [Sem.run_bind,run_underlying hu w];cases d<;>simp_all [TypeDesc.isRow]
 ·refine .inr ⟨h1,h2,fun w=> ?_⟩
  unfold isAgg;rw [Sem.run_bind,run_underlying hu w];cases d<;>simp_all [TypeDesc.isRow]
theorem Rb {t:TypeId} {I:TI} {cs:List aD} {off:Nat} {arr:Array Value} {K':Slot→Option R} (hr:mI c.ti P t I) (hc:I.ct=[])
 (hv:ar e arr.toList cs) (hK:jC I cs off K'=some r):
 ∃v s,(∀w:World,(Go.part t arr off).run P w= .ok v w)∧ab e v s∧b6 st.fr s∧K' s=some r:=by
 obtain ⟨i,hi,hs,_⟩:=hr.info hc
 have ext: ∀v1 v2 v3:List Value,arr.toList=v1++v2++v3→v1.length=off→(arr.extract off (off+v2.length))=v2.toArray:=by
  intro v1 v2 v3 h1 h2
  apply Array.toList_inj.1
  rw [Array.toList_extract,h1,List.extract_eq_take_drop,List.append_assoc,←h2,List.drop_left]
  simp
 unfold jC at hK
 cases dM:I.st with
 |true=>
  simp only [dM,cond_true] at hK
  cases hp:Dn.part cs off I.size with
  |none=>simp [hp] at hK
  |some ds=>
   simp only [hp] at hK
   obtain ⟨v1,v2,v3,h0,h1,h2,h3⟩:=Gc hp hv
   rcases Gg (P:=P) hr hc with ⟨_,X5⟩|⟨hf,_⟩
   ·refine ⟨.agg v2.toArray,.ag ds,?_,?_,trivial,hK⟩
    ·have hx:=ext v1 v2 v3 h0 h1
     rw [h2] at hx
     simp [Go.part,X5,Go.sizeOf,typeInfo,hi,hs,hx]
    ·simp only [ab];exact ⟨_,rfl,by simpa using h3⟩
   ·rw [dM] at hf;cases hf
 |false=>
  simp only [dM,cond_false] at hK
  cases hp:cut cs off with
  |none=>simp [hp] at hK
  |some ds=>
   cases ds with
   |nil=>simp [hp] at hK
   |cons l ls=>
    simp only [hp] at hK
    cases hb:Nat.beq l.w I.size with
    |false=>simp [hb] at hK
    |true=>
     simp only [hb,cond_true] at hK
     have hw:=Nat.eq_of_beq_eq_true hb
     obtain ⟨v1,v2,h0,h1,h2⟩:=vR hp hv
     obtain ⟨u,u2,rfl,h3,h4⟩:=h2
     have hlu:u.length=I.size:=by rw [h3.width,hw]
     rcases Gg (P:=P) hr hc with ⟨hh,X5⟩|⟨_,h1s,X5⟩
     ·refine ⟨.agg u.toArray,.sc l,?_,h3.slot (.inr ⟨rfl,?_⟩),trivial,hK⟩
      ·have hx:=ext v1 u u2 (by rw [h0,List.append_assoc]) h1
       rw [hlu] at hx
       simp [Go.part,X5,Go.sizeOf,typeInfo,hi,hs,hx]
      ·rcases hh with hh|hh
       ·rw [dM] at hh;cases hh
       ·rw [hw,hh]
     ·obtain ⟨v,rfl⟩:=List.length_eq_one_iff.1 (by rw [hlu,h1s])
      refine ⟨v,.sc l,?_,h3.slot (.inl ⟨rfl,?_⟩),trivial,hK⟩
      ·have:arr[off]? =some v:=by
        have:arr[off]? =arr.toList[off]? :=by simp
        rw [this,h0,List.getElem?_append_right (by omega),h1];simp
       simp [Go.part,X5,this]
      ·rw [hw,h1s]
theorem Ya {t:TypeId} {x:Operand} {f:Nat} {I:TI} (ho:o.op= .field t x f) (hI:c.tv t=some I) (hT:kn P c.ti) (h:bN c Z e st a w)
 (hK:XU c I f (aK c st x) (fun s=>bk c st o.dst s K)=some r):Rd P c Z K r e a w o (fun _=>True):=by
 obtain ⟨hx,n4⟩:=h.eval x
 obtain ⟨rc,hc⟩:=bE hI
 obtain ⟨d,i,h1,h2,h3,h4⟩:=hT t I rc
 generalize aK c st x=s at hx hK n4
 unfold XU at hK
 split at hK
 ·rename_i q y cs dM hq hy
  simp only [ab] at hx
  obtain ⟨arr,hx,pF⟩:=hx
  cases hJ:c.tv y with
  |none=>simp [hJ] at hK
  |some J=>
   simp only [hJ] at hK
   obtain ⟨hJt,WR⟩:=bE hJ
   obtain ⟨v,s,bJ,h5,h6,h7⟩:=Rb (P:=P) (st:=st) (hT y J hJt) WR pF hK
   refine iz (v:=v) h ?_ h5 h6 h7
   cases d<;>simp only [qj] at h4
   case struct fs=>
    obtain ⟨_,_,_,WS,cf,_⟩:=h4
    rw [←WS,List.getElem?_map] at hq
    rw [←cf,List.getElem?_map] at hy
    cases hf:fs.toList[f]? with
    |none=>simp [hf] at hq
    |some fl=>
     simp [hf] at hq hy
     subst hq;subst hy
     have M9:fs[f]? =some fl:=by simpa using hf
     simp [execOp,ho,hx,Instr.field,run_underlying h1,M9,asAgg,bJ]
   all_goals (exfalso;simp_all)
 ·simp at hK
theorem TI.mn {I:TI} {t:TypeId} (hr:mI c.ti P t I) (h:I.xT=true):P.underlying t=some (.slice I.elem)∧ ∃E,c.ti I.elem=some E∧E.ct=[]∧0<E.size:=by
 unfold TI.xT at h
 split at h
 ·rename_i dM hl
  obtain ⟨d,i,h1,h2,h3,h4⟩:=hr
  cases d<;>simp only [qj,hl,dM] at h4<;>first|(exfalso;simp_all;done)|skip
  obtain ⟨_,_,_,rfl,hE,_⟩:=h4
  exact ⟨h1,hE⟩
 ·cases h
theorem TI.HH {I:TI} {t:TypeId} (hr:mI c.ti P t I) (h:I.T5=true):P.underlying t=some .string:=by
 unfold TI.T5 at h
 split at h
 ·rename_i dM hl
  obtain ⟨d,i,h1,h2,h3,h4⟩:=hr
  cases d<;>simp only [qj,hl,dM] at h4<;>first|(exfalso;simp_all;done)|skip
  exact h1
 ·cases h
theorem Jl {v:Value} {xs:List MV} (h:ab e v (.sc (.p (.list xs)))): ∃ad cap,v= .slice ad xs.length cap∧xs.length≤cap:=by
 simp only [ab,aS] at h
 obtain ⟨_,h⟩:=h
 generalize hv:[v]=vs at h
 cases h
 exact ⟨_,_,by simpa using hv,by assumption⟩
theorem rE {f:Nat} {w':mQ} {v:Value} (h:bN c Z e st a w) (hv:ab e v (.sc (.own f))) (hf:aG st.aO f=some w'):v=e.E f∧ ∃ad cap,v= .slice ad w'.xs.length cap∧w'.xs.length≤cap:=by
 simp only [ab] at hv
 obtain ⟨u,hu,_,hE⟩:=hv
 simp at hu;subst hu
 have hE:=hE w' (by rw [h.m];exact hf)
 refine ⟨hE,?_⟩
 obtain ⟨I,cells,_,_,dg,_⟩:=(h.iF f w' hf).row
 rcases dg.2 with ⟨h1,h2⟩|⟨g,cap,cW,h1,_,_,h2,_⟩
 ·exact ⟨none,0,by rw [hE,h1,h2],by omega⟩
 ·exact ⟨_,cap,by rw [hE,h1],h2⟩
theorem il {l:List Operand}:iI c st l=l.map (aK c st):=by
 induction l with
 |nil=>rfl
 |cons x r ih=>simp [iI,ih]
theorem Yb {cl:Call} {t:TypeId} {I:TI} (ho:o.op= .call cl) (hb:cl.callee= .builtin .len) (ha:cl.argTypes.toList=[t]) (hI:c.tv t=some I) (hT:kn P c.ti) (h:bN c Z e st a w)
 (hK:QG I st (iI c st cl.args.toList) (fun s=>bk c st o.dst s K)=some r):Rd P c Z K r e a w o (fun _=>True):=by
 obtain ⟨rc,hc⟩:=bE hI
 have hr:=hT t I rc
 have Gh:cl.argTypes= #[t]:=by rw [←Array.toList_inj,ha]
 rw [il] at hK
 have go: ∀x,cl.args.toList=[x]→ ∀n:Nat,(∃b:ByteArray,a.eval x= .string b∧b.size=n∧P.underlying t=some .string)∨(∃ad cap,a.eval x= .slice ad n cap∧ ∃el,P.underlying t=some (.slice el))→
  bk c st o.dst (.sc (.p (.i .i64 n))) K=some r→Rd P c Z K r e a w o (fun _=>True):=by
  intro x hx n Jm hK
  have Ov:cl.args= #[x]:=by rw [←Array.toList_inj,hx]
  refine iz h ?_ (sU .i64 (n:Int)) trivial hK
  rcases Jm with ⟨b,h1,h2,h3⟩|⟨ad,cap,h1,el,h3⟩
  ·simp [execOp,ho,resolve,hb,invoke,builtin,Builtin.len_,Gh,Ov,run_underlying h3,h1,goInt,h2]
  ·simp [execOp,ho,resolve,hb,invoke,builtin,Builtin.len_,Gh,Ov,run_underlying h3,h1,goInt]
 cases hl:cl.args.toList with
 |nil=>rw [hl] at hK;simp [QG] at hK
 |cons x ys=>
  rw [hl] at hK
  cases ys with
  |cons y zs=>simp only [List.map_cons] at hK;unfold QG at hK;split at hK<;>simp_all
  |nil=>
   simp only [List.map_cons,List.map_nil] at hK
   obtain ⟨hx,_⟩:=h.eval x
   generalize aK c st x=s at hx hK
   unfold QG at hK
   split at hK
   ·rename_i l hs
    simp at hs;subst hs
    cases hS:I.T5 with
    |false=>simp [hS] at hK
    |true=>
     simp only [hS,cond_true] at hK
     obtain ⟨b,Am,rfl⟩:=CN hx
     exact go x hl _ (.inl ⟨b,Am,by show b.data.size=_;exact (Array.length_toList).symm,TI.HH hr hS⟩) hK
   ·rename_i l hs
    simp at hs;subst hs
    cases hS:I.xT with
    |false=>simp [hS] at hK
    |true=>
     simp only [hS,cond_true] at hK
     obtain ⟨ad,cap,hv,_⟩:=Jl hx
     exact go x hl _ (.inr ⟨ad,cap,hv,_,(TI.mn hr hS).1⟩) hK
   ·rename_i hs
    simp at hs;subst hs
    cases hS:I.xT with
    |false=>simp [hS] at hK
    |true=>
     simp only [hS,cond_true] at hK
     simp only [ab] at hx
     have hx:[a.eval x]=[Value.slice none 0 0]:=hx
     simp at hx
     exact go x hl 0 (.inr ⟨none,0,hx,_,(TI.mn hr hS).1⟩) hK
   ·rename_i f hs
    simp at hs;subst hs
    cases hS:I.xT with
    |false=>simp [hS] at hK
    |true=>
     simp only [hS,cond_true] at hK
     cases hf:aG st.aO f with
     |none=>simp [hf] at hK
     |some w'=>
      simp only [hf] at hK
      obtain ⟨_,ad,cap,hv,_⟩:=rE h hx hf
      exact go x hl _ (.inr ⟨ad,cap,hv,_,(TI.mn hr hS).1⟩) hK
   ·simp at hK
end
end Dn
/-
  Values as leaves; places of elements; the least and the greatest; parts of slices. Conditions: none.
-/
set_option linter.unusedSimpArgs false
set_option linter.unusedVariables false
namespace Dn
open Go
section
variable {P:Program} {c:Ctx} {Z:bC} {e:Env} {st:St} {a:Act} {w w':World} {R:Type} {K:St→Option R} {r:R} {Q:Exit→Act→World→Prop} {o:Oper}
structure WU (e:Env) (k:Kd) (vs:List Value) (m:MV) (l:aD):Prop where
 rep:kS e.key e.φ vs m→aS e vs l
 Qr:rz l=true
 mv:bx [l]=some [m]
 one: ∀m',l= .p m'→m'.one=true
 wid:l.w=BU [k]
theorem mq {k:Kd} {m:MV} {vs:List Value} {K':aD→Option R} (hK:jB k m K'=some r): ∃l,WU e k vs m l∧K' l=some r:=by
 have mk: ∀m:MV,m.one=true→(BU [k]=1)→K' (.p m)=some r→ ∃l,WU e k vs m l∧K' l=some r:=
  fun m h1 h2 h3=>⟨.p m,⟨fun h=>⟨h1,h⟩,rfl,rfl,fun m' e=>by cases e;exact h1,h2.symm⟩,h3⟩
 cases k with
 |b=>unfold jB gB at hK;cases m<;>simp at hK;exact mk _ rfl rfl hK
 |s=>unfold jB gS at hK;cases m<;>simp at hK;exact mk _ rfl rfl hK
 |l=>unfold jB gL at hK;cases m<;>simp at hK;exact mk _ rfl rfl hK
 |i k=>
  unfold jB gI at hK;cases m<;>simp at hK
  rename_i k' n
  by_cases hk:k'=k
  ·subst hk;simp at hK;exact mk _ rfl rfl hK
  ·simp [hk] at hK
 |h=>
  unfold jB gH at hK;cases m<;>simp at hK
  rename_i x
  refine ⟨.hs x,⟨?_,rfl,rfl,by simp,rfl⟩,hK⟩
  intro h;cases h;rfl
 |raw=>unfold jB gR at hK;cases m<;>simp at hK<;>exact mk _ rfl rfl hK
theorem xY {l:aD} {ls:List aD} {m:MV} {ms:List MV} (h1:bx [l]=some [m]) (h2:bx ls=some ms):bx (l::ls)=some (m::ms):=by
 cases l<;>simp [bx] at h1⊢ <;>simp [h2,h1]
structure UG (e:Env) (ks:List Kd) (vs:List Value) (ms:List MV) (ls:List aD):Prop where
 rep:gn e.key e.φ vs ms→ar e vs ls
 Qr:iG ls=true
 mv:bx ls=some ms
 one: ∀m',aD.p m'∈ls→m'.one=true
 wid:vL ls=BU ks
theorem Ox (k:Kd) (ks:List Kd):BU (k::ks)=BU [k]+BU ks:=by cases k<;>simp [BU]
theorem ub {ks:List Kd}: ∀{ms:List MV} {vs:List Value} {K':List aD→Option R},rv ks ms K'=some r→ ∃ls,UG e ks vs ms ls∧K' ls=some r:=by
 induction ks with
 |nil=>
  intro ms vs K' hK
  cases ms with
  |nil=>exact ⟨[],⟨fun h=>by cases h;rfl,rfl,rfl,by simp,rfl⟩,hK⟩
  |cons m ms=>simp [rv,gN] at hK
 |cons k ks ih=>
  intro ms vs K' hK
  cases ms with
  |nil=>simp [rv,gC] at hK
  |cons m ms=>
   simp only [rv,gC] at hK
   have h1:=fun vs=>mq (e:=e) (vs:=vs) hK
   obtain ⟨l,hl,pf⟩:=h1 []
   obtain ⟨ls,Jn,vt⟩:=ih (vs:=[]) pf
   refine ⟨l::ls,⟨?_,?_,xY hl.mv Jn.mv,?_,?_⟩,vt⟩
   ·intro h
    have g:ar e vs (l::ls):=by
     apply h.leaves (xY hl.mv Jn.mv)
     intro m' hm
     rcases List.mem_cons.1 hm with hm|hm
     ·exact hl.one m' hm.symm
     ·exact Jn.one m' hm
    exact g
   ·simp [iG,hl.Qr,Jn.Qr]
   ·intro m' hm
    rcases List.mem_cons.1 hm with hm|hm
    ·exact hl.one m' hm.symm
    ·exact Jn.one m' hm
   ·rw [Ox,←hl.wid,←Jn.wid];rfl
theorem UH {t:TypeId} {I:TI} (hr:mI c.ti P t I) (hc:I.ct=[]):BU I.lay=I.size:=by
 obtain ⟨d,i,h1,h2,h3,h4⟩:=hr
 cases d<;>simp only [qj] at h4
 case struct fs=>exact h4.2.2.1.2
 case tuple ts=>exact absurd hc h4.2.1
 case slice el=>obtain ⟨_,_,hs,_,_,_,_,k,hl,rfl⟩:=h4;rw [hl,hs];rfl
 case array n el=>obtain ⟨_,_,hs,_,_,_,hl,_⟩:=h4;rw [hl,hs];rfl
 all_goals (obtain ⟨_,_,hs,hl,_⟩:=h4;rw [hl,hs];rfl)
theorem Bh {E:TI} {t:TypeId} {x:MV} {K':List aD→Option R} (hr:mI c.ti P t E) (hc:E.ct=[]) (hK:Hr E x K'=some r):
 ∃cs,CG E.st x cs∧iG cs=true∧vL cs=E.size∧K' cs=some r:=by
 have hlw:=UH hr hc
 unfold Hr at hK
 cases dM:E.st with
 |true=>
  simp only [dM,cond_true] at hK
  unfold gA at hK
  split at hK
  ·rename_i ms
   obtain ⟨ls,Jn,pf⟩:=ub (e:=⟨fun n=>n,fun _ _=>none,fun _=>undef,fun _=>0,[]⟩) (vs:=[]) hK
   exact ⟨ls,⟨⟨ms,Jn.mv,by simp [se]⟩,Jn.one⟩,Jn.Qr,by rw [Jn.wid,hlw],pf⟩
  ·simp at hK
 |false=>
  simp only [dM,cond_false] at hK
  split at hK
  ·rename_i k hl
   obtain ⟨l,vS,pf⟩:=mq (e:=⟨fun n=>n,fun _ _=>none,fun _=>undef,fun _=>0,[]⟩) (vs:=[]) hK
   refine ⟨[l],⟨⟨[x],vS.mv,by simp [se]⟩,?_⟩,by simp [iG,vS.Qr],?_,pf⟩
   ·intro m hm;simp at hm;exact vS.one m hm.symm
   ·rw [←hlw,hl,←vS.wid];rfl
  ·simp at hK
theorem Yc {t:TypeId} {x y:Operand} {I E:TI} (ho:o.op= .indexAddr t x y) (hI:c.tv t=some I) (hE:c.tv I.elem=some E) (hT:kn P c.ti) (h:bN c Z e st a w)
 (hK:XV c st I E (aK c st x) (aK c st y) (fun s=>bk c st o.dst s K)=some r):Rd P c Z K r e a w o (fun _=>True):=by
 obtain ⟨hx,n4⟩:=h.eval x
 obtain ⟨hy,_⟩:=h.eval y
 obtain ⟨rc,hc⟩:=bE hI
 obtain ⟨mN,nK⟩:=bE hE
 have hr:=hT t I rc
 have hrE:=hT _ E mN
 obtain ⟨iE,hiE,hsE,_⟩:=hrE.info nK
 have run: ∀k n a7 off len cap,P.underlying t=some (.slice I.elem)→a.eval y= .int k n→a.eval x= .slice (some ⟨a7,off,none⟩) len cap→0≤n→n.toNat<len→
  ∀w:World,(execOp a.eval o).run P w= .ok (.value (.pointer (some ⟨a7,off+n.toNat *E.size,none⟩))) w:=by
  intro k n a7 off len cap hu hy hx h0 h1 w
  have h2:n<(len:Int):=by omega
  simp [execOp,ho,hx,hy,Instr.indexAt,asIntOf,run_underlying hu,h0,h2,Go.sizeOf,typeInfo,hiE,hsE,Addr.add_mid]
 generalize aK c st x=sx at hx hK n4
 generalize aK c st y=sy at hy hK
 unfold XV at hK
 split at hK
 ·rename_i xs k n
  cases hL:I.xT with
  |false=>simp [hL] at hK
  |true=>
   simp only [hL,cond_true] at hK
   obtain ⟨h0,m,hm,hK⟩:=Jh hK
   obtain ⟨cs,h1,h2,h3,hK⟩:=Bh hrE nK hK
   have cz:n.toNat<xs.length:=(List.getElem?_eq_some_iff.1 hm).1
   simp only [ab,aS] at hx
   obtain ⟨_,hx⟩:=hx
   generalize hv:[a.eval x]=vs at hx
   cases hx with
   |list ad cap _ a7 off IR f g1 g2 g3 g4 g5=>
   simp at hv
   have eu:=g5 n.toNat cz
   rw [(List.getElem?_eq_some_iff.1 hm).2] at eu
   have pF:=eu.CQ h1
   have UI:IR=E.size:=by rw [←h3,←pF.width,g3 _ cz]
   rw [g2 (by omega)] at hv
   refine iz (s:= .rp cs 0) h (run k n a7 off _ cap (TI.mn hr hL).1 (lk hy) hv h0 cz) ?_ trivial hK
   simp only [ab]
   refine ⟨a7,off+n.toNat *E.size,f n.toNat,rfl,pF,h2,?_⟩
   intro j hj
   rw [g3 _ cz] at hj
   rw [←UI];exact g4 n.toNat j cz hj
 ·rename_i f k n
  cases hf:aG st.aO f with
  |none=>simp [hf] at hK
  |some fo=>
   simp only [hf] at hK
   cases hL:I.xT with
   |false=>simp [hL] at hK
   |true=>
    simp only [hL,cond_true] at hK
    obtain ⟨h0,m,hm,hK⟩:=Jh hK
    obtain ⟨cs,h1,h2,h3,hK⟩:=Bh hrE nK hK
    have cz:n.toNat<fo.xs.length:=(List.getElem?_eq_some_iff.1 hm).1
    obtain ⟨hv,_⟩:=rE h hx hf
    obtain ⟨J,cells,_,_,dg,_⟩:=(h.iF f fo hf).row
    rcases dg.2 with ⟨h5,h6⟩|⟨g,cap,cW,h5,_⟩
    ·omega
    ·rw [h5] at hv
     refine iz (s:= .ep f n.toNat 0 E.st cs) h (run k n g 0 _ cap (TI.mn hr hL).1 (lk hy) hv h0 cz) ?_ trivial hK
     simp only [ab]
     intro o2 cf
     rw [h.m,hf] at cf
     cases cf
     exact ⟨g,cap,h5,⟨m,hm,h1⟩,by rw [h3,Nat.zero_add,Nat.add_zero]⟩
 ·rename_i r' o' k n
  cases dM:I.st with
  |true=>simp [dM] at hK
  |false=>
   simp only [dM,cond_false] at hK
   split at hK
   ·rename_i hl
    obtain ⟨K8,hK⟩:=dR hK
    obtain ⟨h0,h1⟩:=of_decide_eq_true K8
    obtain ⟨d,i,hu,h2,h3,h4⟩:=hr
    cases d<;>simp only [qj,hl,dM] at h4<;>first|(exfalso;simp_all;done)|skip
    obtain ⟨_,_,_,rfl,_,⟨ie,WV,ny,vH⟩,_⟩:=h4
    simp only [ab] at hx
    refine iz (s:= .hp r' o' n.toNat) (v:= .pointer (some ⟨e.B r',o'+n.toNat,none⟩)) h ?_ ?_ n4 hK
    ·simp [execOp,ho,hx,lk hy,Instr.indexAt,asIntOf,run_underlying hu,h0,h1,Go.sizeOf,typeInfo,ny,vH,Instr.sureAddr,Addr.add_mid]
    ·simp only [ab];exact ⟨trivial,by omega⟩
   ·simp at hK
 ·simp at hK
theorem Oy {mx:Bool} {k:IntKind} {ss:List Slot}: ∀{vs:List Value} {n:Int} {m:MV},QB mx k n ss=some m→vs.length=ss.length→
 (∀(i:Nat) (v:Value) (s:Slot),vs[i]? =some v→ss[i]? =some s→ab e v s)→
 ∃v,(∀w:World,(vs.foldlM (if mx then Builtin.max2 else Builtin.min2) (.int k n)).run P w= .ok v w)∧ab e v (.sc (.p m)):=by
 induction ss with
 |nil=>
  intro vs n m hm hl hs
  have:=List.eq_nil_of_length_eq_zero hl
  subst this
  simp [QB] at hm
  subst hm
  exact ⟨.int k n,by simp,sU k n⟩
 |cons s ss ih=>
  intro vs n m hm hl hs
  cases vs with
  |nil=>simp at hl
  |cons v vs=>
   have h0:=hs 0 v s rfl rfl
   unfold QB at hm
   split at hm
   ·rename_i iH;simp at iH
   ·rename_i k' y r' iH
    simp at iH
    obtain ⟨rfl,rfl⟩:=iH
    by_cases hk:k'=k
    ·subst hk
     simp only [decide_true,cond_true] at hm
     obtain ⟨u,h1,h2⟩:=ih hm (by simpa using hl) (fun i v s h1 h2=>hs (i+1) v s (by simpa using h1) (by simpa using h2))
     refine ⟨u,fun w=> ?_,h2⟩
     have h1:=h1 w
     rw [lk h0]
     cases mx
     ·simp only [cond_false,aal] at h1
      simp [Builtin.min2] at h1⊢
      exact h1
     ·simp only [cond_true,imax] at h1
      simp [Builtin.max2] at h1⊢
      exact h1
    ·simp [hk] at hm
   ·simp at hm
theorem Gi {cl:Call} {mx:Bool} {m:MV} (ho:o.op= .call cl) (hb:cl.callee= .builtin (if mx then .max else .min)) (h:bN c Z e st a w)
 (hm:Le mx (iI c st cl.args.toList)=some m) (hK:bk c st o.dst (.sc (.p m)) K=some r):Rd P c Z K r e a w o (fun _=>True):=by
 rw [il] at hm
 cases hl:cl.args.toList with
 |nil=>rw [hl] at hm;simp [Le] at hm
 |cons x xs=>
  rw [hl] at hm
  simp only [List.map_cons] at hm
  obtain ⟨hx,_⟩:=h.eval x
  generalize aK c st x=s at hx hm
  unfold Le at hm
  split at hm
  ·rename_i k n ss iH
   simp at iH
   obtain ⟨rfl,rfl⟩:=iH
   obtain ⟨v,h1,h2⟩:=Oy (e:=e) (P:=P) (vs:=xs.map a.eval) hm (by simp) (by
    intro i v s h1 h2
    simp only [List.getElem?_map,Option.map_eq_some_iff] at h1 h2
    obtain ⟨y,h3,rfl⟩:=h1
    obtain ⟨y',h4,rfl⟩:=h2
    rw [h3] at h4;cases h4
    exact (h.eval y).1)
   have eP:(cl.args.map a.eval).toList= .int k n::xs.map a.eval:=by simp [hl,lk hx]
   refine iz (v:=v) h ?_ h2 trivial hK
   intro w
   have h1:=h1 w
   cases mx
   ·simp at hb h1
    have Rc: ∀ts t,(Builtin.min_ ts t (cl.args.map a.eval)).run P w= .ok v w:=by intro ts t;unfold Builtin.min_;rw [eP];exact h1
    simp [execOp,ho,resolve,hb,invoke,builtin,Rc]
   ·simp at hb h1
    have Rc: ∀ts t,(Builtin.max_ ts t (cl.args.map a.eval)).run P w= .ok v w:=by intro ts t;unfold Builtin.max_;rw [eP];exact h1
    simp [execOp,ho,resolve,hb,invoke,builtin,Rc]
  ·simp at hm
end
end Dn
/-
  Parts of slices and texts. Conditions: none.
-/
set_option linter.unusedSimpArgs false
set_option linter.unusedVariables false
namespace Dn
open Go
section
variable {P:Program} {c:Ctx} {Z:bC} {e:Env} {st:St} {a:Act} {w w':World} {R:Type} {K:St→Option R} {r:R} {Q:Exit→Act→World→Prop} {o:Oper}
theorem uc {b:Bool} {lo hi:Option Operand} {len cap:Nat} {K':Nat→Nat→Option R} (h:bN c Z e st a w) (Ap:len≤cap) (hK:sliceB (kP c st lo) (kP c st hi) len K'=some r):
 ∃l h',l≤h'∧h'≤len∧(lo=none→l=0)∧(∀w:World,(Instr.sliceBounds b len cap (lo.map a.eval) (hi.map a.eval) none).run P w= .ok (l,h',cap) w)∧K' l h'=some r:=by
 have bnd: ∀(k:IntKind) (n:Int) (y:Nat) (cd:BoundsCode),0≤n→n≤(y:Int)→ ∀w:World,(Instr.sliceBound (.int k n) y cd).run P w= .ok n.toNat w:=by
  intro k n y cd h1 h2 w
  simp [Instr.sliceBound,asIntOf,h1,h2]
 unfold sliceB at hK
 cases lo with
 |none=>
  cases hi with
  |none=>
   simp only [kP] at hK
   exact ⟨0,len,by omega,by omega,fun _=>rfl,by simp [Instr.sliceBounds],hK⟩
  |some y=>
   obtain ⟨hy,_⟩:=h.eval y
   simp only [kP] at hK
   generalize aK c st y=sy at hy hK
   split at hK<;>first|(simp_all;done)|skip
   ·rename_i k n h1 h2
    simp at h2;subst h2
    obtain ⟨K8,hK⟩:=dR hK
    obtain ⟨h3,h4,h5⟩:=of_decide_eq_true K8
    refine ⟨0,n.toNat,by omega,by omega,fun _=>rfl,?_,hK⟩
    have:=bnd k n cap (if b then .sliceAcap else .sliceAlen) h4 (by omega)
    cases b<;>simp at this<;>simp [Instr.sliceBounds,lk hy,this]
 |some x=>
  obtain ⟨hx,_⟩:=h.eval x
  cases hi with
  |none=>
   simp only [kP] at hK
   generalize aK c st x=sx at hx hK
   split at hK<;>first|(simp_all;done)|skip
   ·rename_i k n h1 h2
    simp at h1;subst h1
    obtain ⟨K8,hK⟩:=dR hK
    obtain ⟨h3,h4,h5⟩:=of_decide_eq_true K8
    refine ⟨n.toNat,len,by omega,by omega,by simp,?_,by simpa using hK⟩
    have:=bnd k n len .sliceB h3 h4
    simp [Instr.sliceBounds,lk hx,this]
  |some y=>
   obtain ⟨hy,_⟩:=h.eval y
   simp only [kP] at hK
   generalize aK c st x=sx at hx hK
   generalize aK c st y=sy at hy hK
   split at hK<;>first|(simp_all;done)|skip
   ·rename_i k n k' n' h1 h2
    simp at h1 h2;subst h1;subst h2
    obtain ⟨K8,hK⟩:=dR hK
    obtain ⟨h3,h4,h5⟩:=of_decide_eq_true K8
    refine ⟨n.toNat,n'.toNat,by omega,by omega,by simp,?_,hK⟩
    have t1:=bnd k' n' cap (if b then .sliceAcap else .sliceAlen) (by omega) (by omega)
    have t2:=bnd k n n'.toNat .sliceB h3 (by omega)
    cases b<;>simp at t1<;>simp [Instr.sliceBounds,lk hx,lk hy,t1,t2]
theorem kS.sub {key:Nat→Nat} {φ:Ph} {ad:Option Addr} {len cap:Nat} {xs:List MV} {l h' size:Nat} (hv:kS key φ [.slice ad len cap] (.list xs)) (hl:l≤h') (hh:h'≤xs.length)
 (hw:l≠0→ ∀x∈xs,x.w=size):len=xs.length∧len≤cap∧kS key φ [.slice (if cap=l then ad else ad.map (·.add (l *size))) (h'-l) (cap-l)] (.list ((xs.take h').drop l)):=by
 generalize xA:[Value.slice ad len cap]=vs at hv
 cases hv with
 |list ad' X9 _ a7 off IR f g1 g2 g3 g4 g5=>
 simp at xA
 obtain ⟨rfl,rfl,rfl⟩:=xA
 refine ⟨rfl,g1,?_⟩
 have hlen:((xs.take h').drop l).length=h'-l:=by simp;omega
 have aaF:kS key φ [.slice (if cap=l then ad else ad.map (·.add (l *size))) ((xs.take h').drop l).length (cap-l)] (.list ((xs.take h').drop l)):=by
  have nz: ∀i,i<((xs.take h').drop l).length→i+l<xs.length:=by intro i hi;omega
  have T6: ∀(i:Nat) (hi:i<((xs.take h').drop l).length),((xs.take h').drop l)[i]=xs[i+l]'(nz i hi):=by
   intro i hi
   simp [Nat.add_comm]
  refine .list _ _ _ a7 (off+l *IR) IR (fun i=>f (i+l)) (by rw [hlen];omega) ?_ ?_ ?_ ?_
  ·intro h0
   have cI:cap≠l:=by omega
   have Yd:0<xs.length:=by omega
   rw [g2 Yd]
   simp only [cI,if_false,Option.map_some,Option.some.injEq]
   by_cases hl0:l=0
   ·subst hl0;simp [Addr.add_mid]
   ·have UI:IR=size:=by
     have h3:=g5 0 Yd
     rw [←g3 0 Yd,h3.width]
     exact hw hl0 _ (List.getElem_mem Yd)
    rw [UI,Addr.add_mid]
  ·intro i hi;exact g3 _ (nz i hi)
  ·intro i j hi hj
   have:=g4 (i+l) j (nz i hi) hj
   rw [←this]
   congr 1
   rw [Nat.add_mul];omega
  ·intro i hi
   rw [T6 i hi]
   exact g5 (i+l) (nz i hi)
 rw [hlen] at aaF
 exact aaF
theorem zf {n:Nat} {l:List MV} (h:sP n l=true): ∀x∈l,x.w=n:=by
 intro x hx
 unfold sP at h
 rw [List.all_eq_true] at h
 exact Nat.eq_of_beq_eq_true (h x hx)
theorem aW.sP {key:Nat→Nat} {φ:Ph} {size:Nat} {xs:List MV}: ∀{cs:List Value},aW key φ size cs xs→ ∀x∈xs,x.w=size:=by
 induction xs with
 |nil=>intro cs _ x hx;simp at hx
 |cons y ys ih=>
  intro cs h x hx
  obtain ⟨v,q,rfl,h1,h2,h3⟩:=h
  rcases List.mem_cons.1 hx with rfl|hx
  ·rw [←h2.width,h1]
  ·exact ih h3 x hx
theorem Re {t:TypeId} {x:Operand} {lo hi:Option Operand} {I:TI} (ho:o.op= .slice t x lo hi none) (hI:c.tv t=some I) (hT:kn P c.ti) (h:bN c Z e st a w)
 (hK:Lf c I st (aK c st x) (kP c st lo) (kP c st hi) (fun s st=>bk c st o.dst s K)=some r):Rd P c Z K r e a w o (fun _=>True):=by
 obtain ⟨hx,n4⟩:=h.eval x
 obtain ⟨rc,hc⟩:=bE hI
 have hr:=hT t I rc
 have run: ∀{el E},P.underlying t=some (.slice el)→c.ti el=some E→E.ct=[]→ ∀ad len cap l h',a.eval x= .slice ad len cap→(∀w:World,(Instr.sliceBounds true len cap (lo.map a.eval) (hi.map a.eval) none).run P w= .ok (l,h',cap) w)→
  ∀w:World,(execOp a.eval o).run P w= .ok (.value (.slice (if cap=l then ad else ad.map (·.add (l *E.size))) (h'-l) (cap-l))) w:=by
  intro el E hu hE nK ad len cap l h' hv hb w
  obtain ⟨iE,hiE,hsE,_⟩:=(hT _ E hE).info nK
  simp [execOp,ho,Instr.sliceAt,Instr.slice,run_underlying hu,hv,hb,Go.sizeOf,typeInfo,hiE,hsE]
 generalize hs:aK c st x=s at hx hK n4
 unfold Lf at hK
 split at hK
 ·rename_i bs
  cases hS:I.T5 with
  |false=>simp [hS] at hK
  |true=>
   simp only [hS,cond_true] at hK
   have hu:=TI.HH hr hS
   obtain ⟨b,hb,rfl⟩:=CN hx
   have qk:b.data.toList.length=b.size:=by rw [Array.length_toList];rfl
   rw [qk] at hK
   obtain ⟨l,h',h1,h2,_,h3,hK⟩:=uc (P:=P) (b:=false) (cap:=b.size) h (Nat.le_refl _) hK
   refine iz (s:= .sc (.p (.s ((b.data.toList.take h').drop l)))) (v:= .string (b.extract l h')) h ?_ ?_ trivial hK
   ·simp [execOp,ho,Instr.sliceAt,Instr.slice,run_underlying hu,hb,h3]
   ·have:=Uv (e:=e) (b.extract l h')
    have h5:(b.extract l h').data.toList=(b.data.toList.take h').drop l:=by
     rw [ByteArray.data_extract,Array.toList_extract,List.extract_eq_take_drop,List.drop_take]
    rwa [h5] at this
 ·rename_i xs
  cases hS:I.xT with
  |false=>simp [hS] at hK
  |true=>
   simp only [hS,cond_true] at hK
   obtain ⟨hu,_⟩:=TI.mn hr hS
   cases hE:c.tv I.elem with
   |none=>simp [hE] at hK
   |some E=>
    simp only [hE] at hK
    obtain ⟨mN,nK⟩:=bE hE
    have vt:(lo≠none→sP E.size xs=true)∧sliceB (kP c st lo) (kP c st hi) xs.length (fun l h'=>bk c st o.dst (.sc (.p (.list ((xs.take h').drop l)))) K)=some r:=by
     cases lo with
     |none=>exact ⟨by simp,hK⟩
     |some y=>simp only [kP] at hK⊢;obtain ⟨h1,h2⟩:=dR hK;exact ⟨fun _=>h1,h2⟩
    obtain ⟨hw,hK⟩:=vt
    obtain ⟨ad,cap,hv,Ap⟩:=Jl hx
    obtain ⟨l,h',h1,h2,h0,h3,hK⟩:=uc (P:=P) (b:=true) (cap:=cap) h Ap hK
    simp only [ab,aS] at hx
    rw [hv] at hx
    obtain ⟨_,_,eu⟩:=kS.sub (size:=E.size) hx.2 h1 h2 (fun hl=>zf (hw (fun hn=>hl (h0 hn))))
    refine iz (s:= .sc (.p (.list ((xs.take h').drop l)))) h (run hu mN nK ad _ cap l h' hv h3) ?_ trivial hK
    simp only [ab,aS]
    exact ⟨rfl,eu⟩
 ·rename_i f
  cases hf:aG st.aO f with
  |none=>simp [hf] at hK
  |some fo=>
   simp only [hf] at hK
   cases hS:I.xT&&Nat.beq fo.ty I.elem with
   |false=>simp [hS] at hK
   |true=>
    simp only [hS,cond_true] at hK
    simp only [Bool.and_eq_true] at hS
    obtain ⟨hu,E,mN,nK,_⟩:=TI.mn hr hS.1
    have jb:=Nat.eq_of_beq_eq_true hS.2
    obtain ⟨hvE,ad,cap,hv,Ap⟩:=rE h hx hf
    simp only [ab] at hx
    obtain ⟨J,cells,hJ,_,_,iA,_⟩:=(h.iF f fo hf).row
    rw [jb,mN] at hJ
    cases hJ
    have hwx:=iA.sP
    obtain ⟨e',bQ,m,w9,UE,K7,eu,hK,_,hm⟩:=rD h hx hK
    obtain ⟨o2,cf,rfl⟩:=hm.1 f rfl
    rw [hf] at cf
    cases cf
    obtain ⟨l,h',h1,h2,h0,h3,hK⟩:=uc (P:=P) (b:=true) (cap:=cap) h Ap hK
    rw [hv] at eu
    obtain ⟨_,_,eu⟩:=kS.sub (size:=E.size) eu h1 h2 (fun _=>hwx)
    refine Lt (s:= .sc (.p (.list ((fo.xs.take h').drop l)))) (fun w _=>run hu mN nK ad _ cap l h' hv h3 w) w9 UE.tr (.of ?_ trivial) hK
    simp only [ab,aS]
    exact ⟨rfl,eu⟩
 ·cases hS:I.xT with
  |false=>simp [hS] at hK
  |true=>
   simp only [hS,cond_true] at hK
   obtain ⟨hu,E,mN,nK,_⟩:=TI.mn hr hS
   simp only [ab] at hx
   have hx:[a.eval x]=[Value.slice none 0 0]:=hx
   simp at hx
   obtain ⟨l,h',h1,h2,_,h3,hK⟩:=uc (P:=P) (b:=true) (cap:=0) h (Nat.le_refl _) hK
   have h4:h'=0:=by omega
   have h5:l=0:=by omega
   subst h4;subst h5
   refine iz (s:= .sc .nil) h (run hu mN nK none 0 0 0 0 hx h3) ?_ trivial hK
   simp only [ab,if_true]
   rfl
 ·simp at hK
end
end Dn
/-
  Stores. Conditions: none.
-/
set_option linter.unusedSimpArgs false
set_option linter.unusedVariables false
namespace Dn
open Go
section
variable {P:Program} {c:Ctx} {Z:bC} {e e':Env} {st:St} {a:Act} {w w':World} {R:Type} {K:St→Option R} {r:R} {Q:Exit→Act→World→Prop} {o:Oper}
theorem CT (x:kg) (i:Nat) (b:UInt8) (hi:i<32):bh (x.put i b)=(bh x).take i++[.int .u8 (b.toNat:Int)]++(bh x).drop (i+1):=by
 have:bh (x.put i b)=(bh x).set i (.int .u8 (b.toNat:Int)):=by simp [bh,kg.put,List.map_set]
 have hl:=cw x
 rw [this,List.set_eq_take_append_cons_drop,if_pos (by omega)]
 simp
structure Rf (e e':Env):Prop where
 key:e'.key=e.key
 φ:pK e.φ e'.φ
 iF: ∀f o',aG e'.m f=some o'→(∃o,aG e.m f=some o)∧e'.E f=e.E f
theorem aS.Rg (h:Rf e e') {vs:List Value} {l:aD} (hr:aS e vs l):aS e' vs l:=by
 cases l with
 |p m=>exact ⟨hr.1,by have:=hr.2.mono h.φ;rw [←h.key] at this;exact this⟩
 |own f=>
  obtain ⟨v,rfl,hv,hf⟩:=hr
  refine ⟨v,rfl,hv,fun o' yv=> ?_⟩
  obtain ⟨⟨o,ho⟩,hE⟩:=h.iF f o' yv
  rw [hE];exact hf o ho
 |_=>exact hr
theorem ar.Rg (h:Rf e e') {cs:List aD}: ∀{vs:List Value},ar e vs cs→ar e' vs cs:=by
 induction cs with
 |nil=>intro vs hr;exact hr
 |cons l r ih=>intro vs hr;obtain ⟨v,w,rfl,h1,h2⟩:=hr;exact ⟨v,w,rfl,h1.Rg h,ih h2⟩
def Nc (f:Nat) (s:Slot):Slot:=match s with
 | .ep g i o b cs=>bif Nat.beq g f then .sc .un else .ep g i o b cs
 |s=>s
theorem sV (f:Nat) (r:Fr) (t:Nat):aj (vP f r) t=Nc f (aj r t):=CJ (Nc f) rfl r t
theorem Oz (f:Nat) (s:Slot):cu (Nc f s)=cu s:=by
 cases s<;>simp only [Nc]
 rename_i g _ _ _ _
 cases Nat.beq g f<;>rfl
theorem ab.Rg {f:Nat} {T:Nat→Prop} (h:Rf e e') (si:jX (· ≠f) T e e') {v:Value} {s:Slot} (hT:eO (fun _=>True) T s) (hr:ab e v s):ab e' v (Nc f s):=by
 cases s with
 |sc l=>
  simp only [Nc]
  cases l with
  |un=>simp [ab]
  |hs x=>simpa [ab] using hr
  |p m=>simp only [ab] at hr⊢;exact hr.Rg h
  |nil=>simp only [ab] at hr⊢;exact hr.Rg h
  |mp s es=>simp only [ab] at hr⊢;exact hr
  |own f=>simp only [ab] at hr⊢;exact hr.Rg h
 |ag cs=>simp only [Nc,ab] at hr⊢;obtain ⟨arr,h1,h2⟩:=hr;exact ⟨arr,h1,h2.Rg h⟩
 |ep g i o b cs=>
  simp only [Nc]
  cases hb:Nat.beq g f
  ·simp only [cond_false]
   refine hr.on si ?_
   simp only [eO];intro e;subst e;simp [eh] at hb
  ·simp [ab]
 |_=>exact hr.on si hT
theorem jj.Rg (h:Rf e e') (hk:e'.key=e.key) (hp:pK e.φ e'.φ) {o:Obj} {cs:List aD} (hr:jj e o cs):jj e' o cs:=by
 cases o with
 |cells arr T z=>exact ⟨hr.1,hr.2.Rg h⟩
 |map es clock=>exact hr
 |stringIter x pos=>exact hr
 |_=>exact hr.elim
theorem aW.set {key:Nat→Nat} {φ:Ph} {size:Nat} {xs:List MV}: ∀{cs:List Value} {i:Nat} {x:MV} {v':List Value},aW key φ size cs xs→i<xs.length→v'.length=size→kS key φ v' x→
 aW key φ size (cs.take (i *size)++v'++cs.drop (i *size+size)) (xs.set i x):=by
 induction xs with
 |nil=>intro cs i x v' _ hi;simp at hi
 |cons y ys ih=>
  intro cs i x v' h hi hl hr
  obtain ⟨v,q,rfl,h1,h2,h3⟩:=h
  cases i with
  |zero=>simp only [Nat.zero_mul,List.take_zero,List.nil_append,Nat.zero_add,List.set_cons_zero];exact ⟨v',q,by rw [List.drop_left' h1],hl,hr,h3⟩
  |succ i=>
   have:=ih h3 (by simpa using hi) hl hr
   rw [List.set_cons_succ]
   refine ⟨v,_,?_,h1,h2,this⟩
   rw [Nat.succ_mul,List.take_append,List.drop_append,List.take_of_length_le (by omega),List.drop_of_length_le (by omega)]
   rw [show i *size+size-v.length=i *size by omega,show i *size+size+size-v.length=i *size+size by omega]
   simp
theorem bN.Ye {f:Nat} {fo:mQ} {I:TI} {g i:Nat} {cap:Nat} {cW:Array Value} {v' cells:List Value} {x:MV} (h:bN c Z e st a w) (hf:aG st.aO f=some fo) (hz:fo.dI=false)
 (hI:c.ti fo.ty=some I) (Q8:I.ct=[]) (hE:e.E f= .slice (some ⟨g,0,none⟩) fo.xs.length cap) (dg:w.ownsRow 0 fo.ty I.size (e.E f) fo.xs.length cells) (hg:w.heap[g]? =some (.cells cW fo.ty (0,0)))
 (iA:aW e.key e.φ I.size cells fo.xs)
 (hi:i<fo.xs.length) (hl:v'.length=I.size) (hr:kS e.key e.φ v' x) (yz:f∉Z.b5):
 bN c Z {e with m:=bH e.m f ⟨fo.ty,false,fo.xs.set i x⟩} {st with fr:=vP f st.fr,aO:=bH st.aO f ⟨fo.ty,false,fo.xs.set i x⟩} a
  (w.setRow g (cW.toList.take (i *I.size)++v'++cW.toList.drop (i *I.size+I.size)).toArray)∧Z g:=by
 have hb:(e.E f).ownBlock=some g:=by rw [hE];rfl
 have hZ:Z g∧ ∀off,e.φ g off=none:=by
  obtain ⟨J,ua,_,_,_,_,h5⟩:=(h.iF f fo hf).row
  obtain ⟨h6,h7⟩:=h5 g hb
  refine ⟨Jd h6 yz,fun off=> ?_⟩
  cases hp:e.φ g off with
  |none=>rfl
  |some u=>have:=(h7.1 off u hp).1;rw [hz] at this;cases this
 have qk:=setRow_size w g (cW.toList.take (i *I.size)++v'++cW.toList.drop (i *I.size+I.size)).toArray
 have hE1:Rf e {e with m:=bH e.m f ⟨fo.ty,false,fo.xs.set i x⟩}:=by
  refine ⟨rfl,.refl _,fun f2 o2 cf=>⟨?_,rfl⟩⟩
  have cf:aG (bH e.m f ⟨fo.ty,false,fo.xs.set i x⟩) f2=some o2:=cf
  rw [ba] at cf
  by_cases ea:f2=f
  ·exact ⟨fo,by rw [ea,h.m];exact hf⟩
  ·simp only [ea,if_false] at cf;exact ⟨o2,cf⟩
 have si:jX (· ≠f) (fun _=>True) e {e with m:=bH e.m f ⟨fo.ty,false,fo.xs.set i x⟩}:=by
  refine ⟨rfl,.refl _,fun _ _=>rfl,fun f2 o2 cf cI=> ?_⟩
  have cf:aG (bH e.m f ⟨fo.ty,false,fo.xs.set i x⟩) f2=some o2:=cf
  rw [ba] at cf
  simp only [cI,if_false] at cf;exact ⟨o2,cf,rfl,rfl⟩
 have nz: ∀f2 o2,aG (bH st.aO f ⟨fo.ty,false,fo.xs.set i x⟩) f2=some o2→ ∃o3,aG st.aO f2=some o3:=by
  intro f2 o2 cf
  rw [ba] at cf
  by_cases ea:f2=f
  ·exact ⟨fo,by rw [ea];exact hf⟩
  ·simp only [ea,if_false] at cf;exact ⟨o2,cf⟩
 refine ⟨⟨h.defers,h.size,by show bH e.m f _=bH st.aO f _;rw [h.m],h.key,?_,?_,?_,?_,?_,?_,?_,?_,fun b hb=>h.b3 b (by omega)⟩,hZ.1⟩
 ·show (aL (vP f st.fr)).Nodup
  have:aL (vP f st.fr)=aL st.fr:=by simp [aL,vP]
  rw [this];exact h.nodup
 ·intro t
  show bL Z _ _ t _ (aj (vP f st.fr) t)
  rw [sV]
  have hs:=h.slot t
  have UD:=h.bf t
  generalize aj st.fr t=s at hs UD
  by_cases Aq: ∃cs,s= .box cs
  ·obtain ⟨cs,rfl⟩:=Aq
   simp only [bL,Nc] at hs⊢
   refine ⟨hs.1,hs.2.b3,?_,hs.2.free⟩
   obtain ⟨o2,h1,h2⟩:=hs.2.obj
   refine ⟨o2,?_,h2.Rg hE1 rfl (.refl _)⟩
   rw [setRow_other _ _ _ _ (by intro eb;exact UD cs f fo rfl hf (by rw [hb,←eb]))];exact h1
  ·have w9:ab e (a.tmps.getD t undef) s:=by cases s<;>simp only [bL] at hs<;>first|exact hs|exact absurd ⟨_,rfl⟩ Aq
   have h2:=w9.Rg (f:=f) hE1 si (dk s)
   generalize OA:Nc f s=s2 at h2
   cases s2<;>first|exact h2|(exfalso;simp [ab] at h2)
 ·intro t
  show b6 (vP f st.fr) (aj (vP f st.fr) t)
  rw [sV]
  have n4:=h.root t
  generalize aj st.fr t=s at n4
  have hk: ∀q,cu (aj (vP f st.fr) q)=cu (aj st.fr q):=fun q=>by rw [sV,Oz]
  cases s with
  |ptr q o=>show cu (aj (vP f st.fr) q)=true;rw [hk];exact n4
  |hp q o i=>show cu (aj (vP f st.fr) q)=true;rw [hk];exact n4
  |vK q=>show cu (aj (vP f st.fr) q)=true;rw [hk];exact n4
  |ep g' _ _ _ _=>simp only [Nc];cases Nat.beq g' f<;>trivial
  |_=>trivial
 ·intro f2 o2 cf
  have cf:aG (bH st.aO f ⟨fo.ty,false,fo.xs.set i x⟩) f2=some o2:=cf
  rw [ba] at cf
  by_cases ea:f2=f
  ·subst ea
   simp at cf
   subst cf
   obtain ⟨hlen,Jm⟩:=dg
   refine ⟨I,cells.take (i *I.size)++v'++cells.drop (i *I.size+I.size),hI,Q8,⟨?_,?_⟩,?_,?_⟩
   ·have hle:i *I.size+I.size≤fo.xs.length *I.size:=by rw [←Nat.succ_mul];exact Nat.mul_le_mul_right _ hi
    simp only [List.length_append,List.length_take,List.length_drop,List.length_set];omega
   ·have hle:i *I.size+I.size≤fo.xs.length *I.size:=by rw [←Nat.succ_mul];exact Nat.mul_le_mul_right _ hi
    rcases Jm with ⟨h1,_⟩|⟨g2,nL,sW,h1,_,h3,h4,h5,h6,h7⟩
    ·rw [hE] at h1;simp at h1
    ·rw [hE] at h1
     simp at h1
     obtain ⟨rfl,rfl⟩:=h1
     rw [hg] at h3
     simp at h3
     subst h3
     refine .inr ⟨g,cap,(cW.toList.take (i *I.size)++v'++cW.toList.drop (i *I.size+I.size)).toArray,by rw [hE];simp,by omega,setRow_heap _ _ _ _ _ _ hg,by simpa using h4,h5,?_,?_⟩
     ·have nM:cW.toList.length=cW.size:=by simp
      have hcz:fo.xs.length *I.size≤cap *I.size:=Nat.mul_le_mul_right _ h4
      simp only [List.size_toArray,List.length_append,List.length_take,List.length_drop,nM];omega
     ·have nM:cW.toList.length=cW.size:=by simp
      have hcz:fo.xs.length *I.size≤cap *I.size:=Nat.mul_le_mul_right _ h4
      simp only [List.length_set]
      rw [←h7]
      have e1:(cW.toList.take (fo.xs.length *I.size)).take (i *I.size)=cW.toList.take (i *I.size):=by rw [List.take_take,Nat.min_eq_left (by omega)]
      have e2:(cW.toList.take (fo.xs.length *I.size)).drop (i *I.size+I.size)=(cW.toList.drop (i *I.size+I.size)).take (fo.xs.length *I.size-(i *I.size+I.size)):=by rw [List.drop_take]
      rw [e1,e2]
      have e3:(cW.toList.take (i *I.size)++v').length=i *I.size+I.size:=by simp only [List.length_append,List.length_take,nM];omega
      show List.take _ (cW.toList.take (i *I.size)++v'++cW.toList.drop (i *I.size+I.size))=_
      rw [List.take_append,e3,List.take_of_length_le (by omega)]
   ·exact iA.set hi hl hr
   ·intro a7 jk
    rw [hb] at jk
    cases jk
    exact ⟨.inr hZ.1,fun off u hu=>(by have hu:e.φ g off=some u:=hu;rw [hZ.2] at hu;cases hu),fun _ hf=>Bool.noConfusion hf⟩
  ·simp only [ea,if_false] at cf
   obtain ⟨I2,ua,h1,h2,h3,h4,h5⟩:=(h.iF f2 o2 cf).row
   exact ⟨I2,ua,h1,h2,Lx (fun hk=>ea (h.ff f2 f o2 fo g cf hf hk hb)) h3,h4,h5⟩
 ·intro t t' c1 c2 h1 h2 cI
  have h1:aj (vP f st.fr) t= .box c1:=h1
  have h2:aj (vP f st.fr) t'= .box c2:=h2
  rw [sV] at h1 h2
  have g1:aj st.fr t= .box c1:=by
   generalize aj st.fr t=s at h1
   cases s<;>simp only [Nc] at h1<;>first|exact h1|(simp at h1;done)|(rename_i g' _ _ _ _;cases Af:Nat.beq g' f<;>simp [Af] at h1)
  have g2:aj st.fr t'= .box c2:=by
   generalize aj st.fr t'=s at h2
   cases s<;>simp only [Nc] at h2<;>first|exact h2|(simp at h2;done)|(rename_i g' _ _ _ _;cases Af:Nat.beq g' f<;>simp [Af] at h2)
  exact h.bb t t' c1 c2 g1 g2 cI
 ·intro t c1 f2 o2 h1 h2
  have h1:aj (vP f st.fr) t= .box c1:=h1
  rw [sV] at h1
  have g1:aj st.fr t= .box c1:=by
   generalize aj st.fr t=s at h1
   cases s<;>simp only [Nc] at h1<;>first|exact h1|(simp at h1;done)|(rename_i g' _ _ _ _;cases Af:Nat.beq g' f<;>simp [Af] at h1)
  obtain ⟨o3,Qo⟩:=nz f2 o2 h2
  exact h.bf t c1 f2 o3 g1 Qo
 ·intro f1 f2 o1 o2 k h1 h2 h3 h4
  obtain ⟨q1,g1⟩:=nz f1 o1 h1
  obtain ⟨q2,g2⟩:=nz f2 o2 h2
  exact h.ff f1 f2 q1 q2 k g1 g2 h3 h4
 ·intro b off v hv
  have hv:e.φ b off=some v:=hv
  have cI:b≠g:=by intro eb;subst eb;rw [hZ.2] at hv;cases hv
  rw [World.cell?_of_block (setRow_other _ _ _ _ cI)];exact h.nx b off v hv
theorem ar.aez {cs:List aD}: ∀{vs:List Value} {ms:List MV},ar e vs cs→bx cs=some ms→gn e.key e.φ vs ms:=by
 induction cs with
 |nil=>intro vs ms h hm;cases h;simp [bx] at hm;subst hm;exact .nil
 |cons l r ih=>
  intro vs ms h hm
  obtain ⟨v,u,rfl,h1,h2⟩:=h
  cases hr:bx r with
  |none=>cases l<;>simp [bx,hr] at hm
  |some q=>
   cases l<;>simp [bx,hr] at hm
   ·subst hm;exact .cons v _ u q h1.2 (ih h2 hr)
   ·subst hm
    have h1:v=bh _:=h1
    subst h1
    exact .cons _ _ u q (.h _) (ih h2 hr)
theorem Rh {b:Bool} {ms:List MV} {x:MV} {vs:List Value} (h:gn e.key e.φ vs ms) (hx:se b ms=some x):kS e.key e.φ vs x:=by
 cases b with
 |true=>cases ms<;>simp [se] at hx<;>subst hx<;>exact .agg _ _ h
 |false=>
  cases ms with
  |nil=>simp [se] at hx
  |cons m ms=>
   cases ms with
   |cons y ys=>simp [se] at hx
   |nil=>
    simp [se] at hx
    subst hx
    generalize xA:vs=K6 at h
    cases h with
    |cons v _ u _ h1 h2=>cases h2;simpa using h1
theorem Ri {t:TypeId} {x y:Operand} {I:TI} (ho:o.op= .store t x y) (hI:c.tv t=some I) (hT:kn P c.ti) (h:bN c Z e st a w)
 (hK:stK st I (aK c st x) (aK c st y) (fun st=>bk c st o.dst (.sc .un) K)=some r):o.wp P a w (Out c Z K r e.φ w) Q:=by
 obtain ⟨hx,n4⟩:=h.eval x
 obtain ⟨hy,_⟩:=h.eval y
 obtain ⟨rc,hc⟩:=bE hI
 have hr:=hT t I rc
 have go: ∀w' bQ,(Instr.storeAt t (a.eval x) (a.eval y)).run P w= .ok () w'→bN c Z e bQ a w'→Trans Z e.φ w e.φ w'→bk c bQ o.dst (.sc .un) K=some r→o.wp P a w (Out c Z K r e.φ w) Q:=by
  intro w' bQ h1 h2 h3 h4
  refine zb ?_ h2 h3 h4
  simp [execOp,ho,h1]
 generalize aK c st x=sx at hx hK n4
 generalize aK c st y=sy at hy hK
 unfold stK at hK
 cases hb:sR (aH sy)||!Nat.beq (vL (aH sy)) I.size with
 |true=>simp [hb] at hK
 |false=>
  simp only [hb,cond_false] at hK
  simp only [Bool.or_eq_false_iff,Bool.not_eq_false'] at hb
  have BV:=Nat.eq_of_beq_eq_true hb.2
  have dZ:0<I.size:=by
   rcases hr.agg hc with ⟨d,hu,hd,hh⟩|⟨_,_,_,_,hh⟩
   ·obtain ⟨d',i',h1,h2,h3,h4⟩:=hr
    cases d'<;>simp only [qj] at h4<;>first|omega|exact h4.2.2.1|exact absurd hc h4.2.1
   ·omega
  have cI:aH sy≠[]:=by intro e0;rw [e0] at BV;simp [vL] at BV;omega
  have hcv:=xX hy hb.1 cI
  split at hK
  ·rename_i root off
   simp only [ab] at hx
   split at hK
   ·rename_i cs re
    have uW:et cs=false:=by cases hq:et cs<;>simp_all
    simp only [uW,cond_false] at hK
    cases hp:putAt cs off (aH sy) with
    |none=>simp [hp] at hK
    |some fa=>
     simp only [hp] at hK
     obtain ⟨w',bQ,h1,h2,h3,h4⟩:=Ow (P:=P) uW hr hc h re hcv BV hp hK
     exact go w' bQ (by rw [hx];exact h1) h2 h3 h4
   ·simp at hK
  ·rename_i root off i
   simp only [ab] at hx
   obtain ⟨hx,Lw⟩:=hx
   split at hK
   ·rename_i cs n re
    have uW:et cs=false:=by cases hq:et cs<;>simp_all
    simp only [uW,cond_false] at hK
    split at hK
    ·rename_i x ls X6
     unfold gI at hK
     split at hK
     ·rename_i k n
      by_cases hk:k= .u8
      ·subst hk
       simp only [decide_true,cond_true] at hK
       obtain ⟨zg,hK⟩:=dR hK
       unfold isByte at zg
       have zg:=of_decide_eq_true zg
       have hyv:=lk hy
       cases hp:putAt cs off [.hs (x.put i (UInt8.ofNat n.toNat))] with
       |none=>simp [hp] at hK
       |some fa=>
        simp only [hp] at hK
        have lU:=h.slot root
        rw [re] at lU
        obtain ⟨arr,T,cF,pF⟩:=lU.2.cells uW
        obtain ⟨p1,p2,p3,he,h1,h2,h3⟩:=tW (ws:=bh (x.put i (UInt8.ofNat n.toNat))) hp pF ⟨_,[],by simp,rfl,rfl⟩
        obtain ⟨u1,u2,hu,h4,h5⟩:=vR X6 pF
        obtain ⟨u3,u4,rfl,h6,_⟩:=h5
        have h6:u3=bh x:=h6
        subst h6
        have hlx:=cw x
        have hly:=cw (x.put i (UInt8.ofNat n.toNat))
        have hpu:p1=u1∧p2++p3=bh x++u4:=List.append_inj (by rw [←List.append_assoc,←he,hu]) (by omega)
        obtain ⟨rfl,hpu⟩:=hpu
        obtain ⟨rfl,rfl⟩:=List.append_inj hpu (by omega)
        have qk:arr.size=p1.length+32+p3.length:=by
         have:arr.toList.length=(p1++bh x++p3).length:=by rw [he]
         simp at this
         omega
        have HI:(a.eval y).cells.toList=[.int .u8 n]:=by rw [hyv];simp [Value.cells]
        have K5:I.size=1:=by rw [←BV];rfl
        have bJ:=lV (P:=P) (w:=w) (a7:=e.B root) (off:=off+i) (v:=a.eval y) hr hc (by rw [HI,K5];rfl) (by rw [HI];simp [Value.oneCell']) cF (by omega)
        have ki:arr.toList.take (off+i)++(a.eval y).cells.toList++arr.toList.drop (off+i+I.size)=p1++bh (x.put i (UInt8.ofNat n.toNat))++p3:=by
         rw [HI,K5,he,CT x i _ Lw,←zg,List.append_assoc p1,List.take_append,List.drop_append,List.take_append,List.drop_append]
         rw [List.take_of_length_le (by omega),List.drop_of_length_le (by omega)]
         rw [show off+i-p1.length=i by omega,show off+i+1-p1.length=i+1 by omega,show i-(bh x).length=0 by omega,show i+1-(bh x).length=0 by omega]
         simp
        rw [ki] at bJ
        unfold wr at hK
        cases hn:br st.b4 root with
        |true=>simp [hn] at hK
        |false=>
         simp only [hn,cond_false,force_eq,kT] at hK
         exact go _ _ (by rw [hx];exact bJ) (h.Q7 re cF (by simpa using h3) (fun t=>by rw [bD]) (dB h.nodup)) (.setRow _ (Jd lU.2.b3 (by rw [←h.defers.2.1,←bt,hn];simp))) hK
      ·simp [hk] at hK
     ·simp at hK
    ·simp at hK
   ·simp at hK
  ·rename_i f i off b cs
   obtain ⟨e1,eE,ms,vH,BW,Ao,Ge,hK,Ra,ze⟩:=lG h hcv hK
   have hx:=hx.on BW.on (dk _)
   cases hf:aG eE.aO f with
   |none=>simp [hf] at hK
   |some fo=>
    simp only [hf] at hK
    cases hz:fo.dI with
    |true=>simp [hz] at hK
    |false=>
     simp only [hz,cond_false] at hK
     cases K4:pc (aH sy) ms with
     |none=>simp [K4] at hK
     |some vs=>
      simp only [K4] at hK
      obtain ⟨xA,_⟩:=ze vs K4
      cases hp:putAt cs off vs with
      |none=>simp [hp] at hK
      |some fa=>
       simp only [hp] at hK
       cases hm:bx fa with
       |none=>simp [hm] at hK
       |some ms'=>
        simp only [hm] at hK
        cases Yf:se b ms' with
        |none=>simp [Yf] at hK
        |some x'=>
         simp only [Yf] at hK
         cases hn:br eE.b5 f with
         |true=>simp [hn] at hK
         |false=>
          simp only [hn,cond_false,XY,mS] at hK
          simp only [ab] at hx
          obtain ⟨a7,cap,hE,⟨x0,Yd,T6⟩,Rj⟩:=hx fo (by rw [vH.m];exact hf)
          obtain ⟨J,cells,hJ,WR,dg,iA,_⟩:=(vH.iF f fo hf).row
          have hi:i<fo.xs.length:=(List.getElem?_eq_some_iff.1 Yd).1
          obtain ⟨p1,v1,p2,hce,CR,vS,eu⟩:=iA.at Yd
          have pF:=eu.CQ T6
          have hw1:=pF.width
          obtain ⟨q1,q2,q3,Oq,hq1,hq2,ki⟩:=tW hp pF xA
          have aaH:(a.eval y).cells.toList.length=I.size:=by rw [hcv.width,BV]
          have aaI:=Rh (ki.aez hm) Yf
          obtain ⟨hlen,Jm⟩:=dg
          rcases Jm with ⟨g1,_⟩|⟨g2,nL,cW,g1,g0,g3,g4,g5,g6,g7⟩
          ·rw [hE] at g1;simp at g1
          ·have Gj:w.ownsRow 0 fo.ty J.size (e1.E f) fo.xs.length cells:=⟨hlen,.inr ⟨g2,nL,cW,g1,g0,g3,g4,g5,g6,g7⟩⟩
           rw [hE] at g1
           simp at g1
           obtain ⟨rfl,rfl⟩:=g1
           have hvl:(q1++(a.eval y).cells.toList++q3).length=J.size:=by
            have:v1.length=(q1++q2++q3).length:=by rw [Oq]
            simp only [List.length_append] at this⊢;omega
           obtain ⟨pg,hZ⟩:=vH.Ye hf hz hJ WR hE Gj g3 iA hi hvl aaI (by rw [←vH.defers.2.2.1,←bt,hn];simp)
           have Rk:cW.toList=p1++q1++q2++(q3++p2++cW.toList.drop (fo.xs.length *J.size)):=by
            have:=List.take_append_drop (fo.xs.length *J.size) cW.toList
            rw [g7,hce,Oq] at this
            refine this.symm.trans ?_
            simp
           have aiq:q2.length=I.size:=by rw [hq2,aaH]
           have Fi:(p1++q1).length=i *J.size+off:=by simp [CR,hq1]
           have air:cW.size=(p1++q1).length+I.size+(q3++p2++cW.toList.drop (fo.xs.length *J.size)).length:=by
            have:cW.toList.length=(p1++q1++q2++(q3++p2++cW.toList.drop (fo.xs.length *J.size))).length:=by rw [←Rk]
            rw [List.length_append,List.length_append] at this
            rw [Array.length_toList] at this
            omega
           have bJ:=lV (P:=P) (w:=w) (a7:=a7) (off:=i *J.size+off) (v:=a.eval y) hr hc aaH hcv.cells g3 (by omega)
           have sX:cW.toList.take (i *J.size+off)++(a.eval y).cells.toList++cW.toList.drop (i *J.size+off+I.size)=
            cW.toList.take (i *J.size)++(q1++(a.eval y).cells.toList++q3)++cW.toList.drop (i *J.size+J.size):=by
            have t1:cW.toList.take (i *J.size+off)=p1++q1:=by
             conv=>lhs;rw [Rk,List.append_assoc (p1++q1)]
             exact List.take_left' Fi
            have t2:cW.toList.drop (i *J.size+off+I.size)=q3++p2++cW.toList.drop (fo.xs.length *J.size):=by
             conv=>lhs;rw [Rk]
             exact List.drop_left' (by rw [List.length_append];omega)
            have t3:cW.toList.take (i *J.size)=p1:=by
             conv=>lhs;rw [Rk]
             simp only [List.append_assoc]
             exact List.take_left' CR
            have t4:cW.toList.drop (i *J.size+J.size)=p2++cW.toList.drop (fo.xs.length *J.size):=by
             have Jo:cW.toList=(p1++(q1++q2++q3))++(p2++cW.toList.drop (fo.xs.length *J.size)):=by
              conv=>lhs;rw [Rk]
              simp
             conv=>lhs;rw [Jo]
             exact List.drop_left' (by rw [List.length_append,←Oq];omega)
            rw [t1,t2,t3,t4]
            simp
           rw [sX] at bJ
           have aeC:i *vL cs+off=i *J.size+off:=by rw [←hw1,vS]
           refine zb (w':=w.setRow a7 (cW.toList.take (i *J.size)++(q1++(a.eval y).cells.toList++q3)++cW.toList.drop (i *J.size+J.size)).toArray) ?_ pg ?_ hK
           ·rw [aeC] at Rj
            simp [execOp,ho,Rj,bJ]
           ·exact BW.tr.trans (.setRow _ hZ)
  ·simp at hK
end
end Dn
/-
  Structs and sums that are put together. Conditions: none.
-/
set_option linter.unusedSimpArgs false
set_option linter.unusedVariables false
namespace Dn
open Go
section
variable {P:Program} {c:Ctx} {Z:bC} {e e':Env} {st:St} {a:Act} {w w':World} {R:Type} {K:St→Option R} {r:R} {Q:Exit→Act→World→Prop} {o:Oper}
theorem Gk {place:Nat→Option (Nat×Nat)} {cells:Array Value} {i off:Nat} {v:Value} {rest:List (Nat×Value)} (hp:place i=some (off,v.cells.size)) (hle:off+v.cells.size≤cells.size):
 Instr.fill place cells ((i,v)::rest)=Instr.fill place (cells.toList.take off++v.cells.toList++cells.toList.drop (off+v.cells.size)).toArray rest:=by
 conv=>lhs;unfold Instr.fill
 simp only [hp]
 rw [if_neg (by simp;omega)]
 congr 1
 rw [←Array.foldl_toList,Array.toList_zipIdx]
 obtain ⟨h1,h2⟩:=Go.Great.foldl_set off v.cells.toList 0 cells
 apply Array.ext_getElem?
 intro k
 have hl:(cells.toList.take off).length=off:=by simp;omega
 have e0:=h2 k
 simp only [Nat.add_zero,Array.length_toList] at e0
 refine Eq.trans e0 ?_
 have e1:(cells.toList.take off++v.cells.toList++cells.toList.drop (off+v.cells.size)).toArray[k]? =(cells.toList.take off++v.cells.toList++cells.toList.drop (off+v.cells.size))[k]? :=by simp
 rw [e1,List.append_assoc]
 have e2:cells[k]? =cells.toList[k]? :=by simp
 by_cases h3:k<off
 ·rw [if_neg (by omega),List.getElem?_append_left (by omega),List.getElem?_take,if_pos h3,e2]
 ·rw [List.getElem?_append_right (by omega),hl]
  by_cases h4:k<off+v.cells.size
  ·rw [if_pos ⟨by omega,h4,by omega⟩,List.getElem?_append_left (by simp;omega)]
  ·rw [if_neg (by omega),List.getElem?_append_right (by simp;omega),List.getElem?_drop,e2]
   congr 1
   simp;omega
theorem LB {I:TI} {places:List (Nat×Nat)} (h:bN c Z e st a w) (K4: ∀(i q y:Nat) (J:TI),I.vr[i]? =some q→I.Oh[i]? =some y→c.tv y=some J→places[i]? =some (q,J.size)∧0<J.size) {parts:List (Nat×Operand)}:
 ∀{cs ds:List aD} {cells:Array Value},ar e cells.toList cs→yq c st I parts cs=some ds→
 ∃out,Instr.fill (places.toArray[·]?) cells (parts.map fun p=>(p.1,a.eval p.2))=some out∧ar e out.toList ds:=by
 induction parts with
 |nil=>intro cs ds cells hl hb;simp [yq] at hb;subst hb;exact ⟨cells,rfl,hl⟩
 |cons p ps ih=>
  intro cs ds cells hl hb
  obtain ⟨i,x⟩:=p
  simp only [yq] at hb
  split at hb
  ·rename_i q y hq hy
   cases hJ:c.tv y with
   |none=>simp [hJ] at hb
   |some J=>
    simp only [hJ] at hb
    obtain ⟨hpi,dZ⟩:=K4 i q y J hq hy hJ
    cases hu:sR (aH (aK c st x))||!Nat.beq (vL (aH (aK c st x))) J.size with
    |true=>simp [hu] at hb
    |false=>
     simp only [hu,cond_false] at hb
     simp only [Bool.or_eq_false_iff,Bool.not_eq_false'] at hu
     have BV:=Nat.eq_of_beq_eq_true hu.2
     cases hp:putAt cs q (aH (aK c st x)) with
     |none=>simp [hp] at hb
     |some fa=>
      simp only [hp] at hb
      have cI:aH (aK c st x)≠[]:=by intro e0;rw [e0] at BV;simp [vL] at BV;omega
      have hv:=xX (h.eval x).1 hu.1 cI
      obtain ⟨p1,p2,p3,he,h1,h2,h3⟩:=tW hp hl hv
      have hlen:(a.eval x).cells.size=J.size:=by rw [←BV,←hv.width];simp
      have qk:cells.size=p1.length+p2.length+p3.length:=by
       have:cells.toList.length=(p1++p2++p3).length:=by rw [he]
       simp at this;omega
      have Jj:p2.length=(a.eval x).cells.size:=by rw [h2];simp
      have Gl:=Gk (place:=(places.toArray[·]?)) (cells:=cells) (i:=i) (off:=q) (v:=a.eval x) (rest:=ps.map fun p=>(p.1,a.eval p.2)) (by rw [hlen];simpa using hpi) (by omega)
      have ht:cells.toList.take q++(a.eval x).cells.toList++cells.toList.drop (q+(a.eval x).cells.size)=p1++(a.eval x).cells.toList++p3:=by
       rw [he]
       rw [List.append_assoc p1 p2 p3,List.take_left' h1,←List.append_assoc p1 p2 p3,List.drop_left' (by rw [List.length_append];omega)]
      rw [ht] at Gl
      obtain ⟨out,h4,h5⟩:=ih (cells:=(p1++(a.eval x).cells.toList++p3).toArray) (by simpa using h3) hb
      exact ⟨out,by rw [List.map_cons,Gl];exact h4,h5⟩
  ·simp at hb
theorem LC {parts:List (Nat×Operand)} (h:bN c Z e st a w): ∀{x:kg} {K':kg→Option R},CA c st parts x K'=some r→
 ∃y,Instr.fill (fun i=>some (i *1,1)) (bh x).toArray (parts.map fun p=>(p.1,a.eval p.2))=some (bh y).toArray∧K' y=some r:=by
 induction parts with
 |nil=>intro x K' hb;exact ⟨x,rfl,hb⟩
 |cons p ps ih=>
  intro x K' hb
  obtain ⟨i,y⟩:=p
  simp only [CA] at hb
  split at hb
  ·rename_i m hm
   cases hi:Nat.ble 32 i with
   |true=>simp [hi] at hb
   |false=>
    simp only [hi,cond_false] at hb
    have Lw:i<32:=by
     by_cases cz:i<32
     ·exact cz
     ·have:Nat.ble 32 i=true:=Nat.ble_eq_true_of_le (by omega)
      simp_all
    unfold gI at hb
    split at hb
    ·rename_i k n
     by_cases hk:k= .u8
     ·subst hk
      simp only [decide_true,cond_true] at hb
      obtain ⟨zg,hb⟩:=dR hb
      unfold isByte at zg
      have zg:=of_decide_eq_true zg
      obtain ⟨out,h1,h2⟩:=ih hb
      have hv:=lk (by have:=(h.eval y).1;rw [hm] at this;exact this)
      refine ⟨out,?_,h2⟩
      rw [←h1,List.map_cons]
      have K8:(a.eval y).cells= #[.int .u8 n]:=by rw [hv];simp [Value.cells]
      have Gl:=Gk (place:=fun i=>some (i *1,1)) (cells:=(bh x).toArray) (i:=i) (off:=i *1) (v:=a.eval y) (rest:=ps.map fun p=>(p.1,a.eval p.2)) (by rw [K8];rfl) (by rw [K8];have:=cw x;simp;omega)
      rw [Gl,CT x i _ Lw,←zg,K8]
      simp
     ·simp [hk] at hb
    ·simp at hb
  ·simp at hb
theorem OB (P:Program) (l:List Field):(∀f∈l,∃i,P.info? f.type=some i)→
 ∃places,l.mapM (fun f=>(P.info? f.type).map fun i=>(f.offset,i.size))=some places∧ ∀(k:Nat) (f:Field),l[k]? =some f→ ∃i,P.info? f.type=some i∧places[k]? =some (f.offset,i.size):=by
 induction l with
 |nil=>intro _;exact ⟨[],by simp,by simp⟩
 |cons f fs ih=>
  intro h
  obtain ⟨i,hi⟩:=h f (by simp)
  obtain ⟨ps,h1,h2⟩:=ih (fun g hg=>h g (by simp [hg]))
  refine ⟨(f.offset,i.size)::ps,by simp [List.mapM_cons,hi,h1],?_⟩
  intro k g hg
  cases k with
  |zero=>simp at hg;subst hg;exact ⟨i,hi,rfl⟩
  |succ k=>simp at hg;simpa using h2 k g hg
theorem Rl {t:TypeId} {parts:Array (Nat×Operand)} {I:TI} (ho:o.op= .build t parts) (hI:c.tv t=some I) (hT:kn P c.ti) (h:bN c Z e st a w)
 (hK:(bif I.st then (match yq c st I parts.toList I.zero with|some cs=>bk c st o.dst (.ag cs) K|none=>none)
  else (match I.lay with|[.h]=>CA c st parts.toList kg.zero fun x=>bk c st o.dst (.sc (.hs x)) K|_=>none))=some r):Rd P c Z K r e a w o (fun _=>True):=by
 obtain ⟨rc,hc⟩:=bE hI
 obtain ⟨d,i,h1,h2,h3,h4⟩:=hT t I rc
 have Qs:(parts.map fun (i,x)=>(i,a.eval x)).toList=parts.toList.map fun p=>(p.1,a.eval p.2):=by simp
 have run: ∀out,P.built t (parts.toList.map fun p=>(p.1,a.eval p.2))=some out→ ∀w:World,(execOp a.eval o).run P w= .ok (.value (.agg out)) w:=by
  intro out hb w
  have:=run_build (P:=P) w t (parts.map fun (i,x)=>(i,a.eval x)) out (by rw [Qs];exact hb)
  simp [execOp,ho] at this⊢
  simp [this]
 cases dM:I.st with
 |true=>
  simp only [dM,cond_true] at hK
  cases d<;>simp only [qj] at h4
  case struct fs=>
   obtain ⟨_,_,_,WS,cf,Qo,zc,hz,hzl,_⟩:=h4
   cases hb:yq c st I parts.toList I.zero with
   |none=>simp [hb] at hK
   |some cs=>
    simp only [hb] at hK
    have aeD: ∃places,fs.toList.mapM (fun f=>(P.info? f.type).map fun i=>(f.offset,i.size))=some places∧
     (∀(i q y:Nat) (J:TI),I.vr[i]? =some q→I.Oh[i]? =some y→c.tv y=some J→places[i]? =some (q,J.size)∧0<J.size):=by
     obtain ⟨places,Ra,Gf⟩:=OB P fs.toList (by
      intro f hf
      obtain ⟨k,hk,rfl⟩:=List.mem_iff_getElem.1 hf
      obtain ⟨J,hJ,WR,_⟩:=Qo k fs.toList[k] (by simp at hk⊢)
      obtain ⟨i,hi,_⟩:=(hT _ J hJ).info WR
      exact ⟨i,hi⟩)
     refine ⟨places,Ra,?_⟩
     intro i q y J hq hy hJ
     rw [←WS,List.getElem?_map] at hq
     rw [←cf,List.getElem?_map] at hy
     cases hf:fs.toList[i]? with
     |none=>simp [hf] at hq
     |some f=>
      simp [hf] at hq hy
      subst hq;subst hy
      obtain ⟨J2,hJ2,aeE,dZ⟩:=Qo i f (by simpa using hf)
      obtain ⟨hJt,_⟩:=bE hJ
      rw [hJ2] at hJt
      cases hJt
      obtain ⟨i2,Qt,aeF⟩:=Gf i f hf
      obtain ⟨i3,hi3,Yg,_⟩:=(hT _ J hJ2).info aeE
      rw [Qt] at hi3
      cases hi3
      exact ⟨by rw [aeF,Yg],dZ⟩
    obtain ⟨places,K4,LD⟩:=aeD
    obtain ⟨out,h5,h6⟩:=LB h LD (cells:=zc) (ko hzl) hb
    refine iz (v:= .agg out) (s:= .ag cs) h (run out ?_) ?_ trivial hK
    ·unfold Program.built
     simp only [h2,h1,hz,K4]
     exact h5
    ·simp only [ab];exact ⟨out,rfl,h6⟩
  all_goals (exfalso;simp_all)
 |false=>
  simp only [dM,cond_false] at hK
  split at hK
  ·rename_i hl
   cases d<;>simp only [qj,hl,dM] at h4<;>first|(exfalso;simp_all;done)|skip
   obtain ⟨_,_,_,rfl,rfl,⟨ie,hu,ny,vH⟩,_,_,hz⟩:=h4
   obtain ⟨y,h5,h6⟩:=LC h hK
   refine iz (v:= .agg (bh y).toArray) (s:= .sc (.hs y)) h (run _ ?_) ?_ trivial h6
   ·unfold Program.built
    simp only [h2,h1,hz,ny,vH]
    exact h5
   ·simp only [ab]
  ·simp at hK
end
end Dn
/-
  A family comes to have other content. Conditions: none.
-/
set_option linter.unusedSimpArgs false
set_option linter.unusedVariables false
namespace Dn
open Go
section
variable {P:Program} {c:Ctx} {Z:bC} {e e':Env} {st:St} {a:Act} {w w':World} {R:Type} {K:St→Option R} {r:R} {Q:Exit→Act→World→Prop} {o:Oper}
def Env.yA (e:Env) (f:Nat) (v:Value) (fo:mQ):Env:={e with E:=fun g=>if g=f then v else e.E g,m:=bH e.m f fo}
def St.yA (st:St) (f:Nat) (fo:mQ):St:={st with fr:=kh f st.fr,aO:=bH st.aO f fo}
theorem Ar (f:Nat) (s:Slot):cu (xW f s)=cu s:=by
 cases s<;>simp only [xW,cu]
 rename_i g _ _ _ _
 cases Nat.beq g f<;>rfl
theorem rF {f:Nat} {s:Slot} {cs:List aD} (h:xW f s= .box cs): ∃BX,s= .box BX∧cs=BX.map (IU f):=by
 cases s<;>simp only [xW] at h<;>first|(simp at h;done)|(rename_i g _ _ _ _;cases hb:Nat.beq g f<;>simp [hb] at h;done)|skip
 rename_i BX
 simp at h
 exact ⟨BX,rfl,h.symm⟩
theorem bN.jg {f:Nat} {fo:mQ} {v':Value} (h:bN c Z e st a w) (yz:f∉Z.b5) (fB:cQ c Z.nc e w' v' fo) (agP:w.heap.size≤w'.heap.size)
 (cF: ∀b,b<w.heap.size→(∀o,aG st.aO f=some o→(e.E f).ownBlock≠some b)→w'.heap[b]? =w.heap[b]?)
 (iZ: ∀b o v,e.φ b o=some v→w'.cell? ⟨b,o,none⟩=some v)
 (ki: ∀b,v'.ownBlock=some b→w.heap.size≤b∨ ∃o,aG st.aO f=some o∧(e.E f).ownBlock=some b):
 bN c Z (e.yA f v' fo) (st.yA f fo) a w':=by
 have si:jX (· ≠f) (fun _=>True) e (e.yA f v' fo):=by
  refine ⟨rfl,.refl _,fun _ _=>rfl,fun f2 o2 cf cI=> ?_⟩
  have cf:aG (bH e.m f fo) f2=some o2:=cf
  rw [ba] at cf
  simp only [cI,if_false] at cf
  exact ⟨o2,cf,by simp [Env.yA,cI],rfl⟩
 have Rm: ∀t cs,aj st.fr t= .box cs→e.B t<w.heap.size:=by
  intro t cs ht
  have hs:=h.slot t
  rw [ht] at hs
  obtain ⟨o2,h1,_⟩:=hs.2.obj
  exact bm h1
 have sf: ∀t cs,aj st.fr t= .box cs→w'.heap[e.B t]? =w.heap[e.B t]? :=by
  intro t cs ht
  exact cF _ (Rm t cs ht) (fun o ho=>h.bf t cs f o ht ho)
 refine ⟨h.defers,h.size,by show bH e.m f _=bH st.aO f _;rw [h.m],h.key,?_,?_,?_,?_,?_,?_,?_,iZ,fun b hb=>h.b3 b (by omega)⟩
 ·show (aL (kh f st.fr)).Nodup
  have:aL (kh f st.fr)=aL st.fr:=by simp [aL,kh]
  rw [this];exact h.nodup
 ·intro t
  show bL Z _ _ t _ (aj (kh f st.fr) t)
  rw [fO]
  have hs:=h.slot t
  have BZ:=sf t
  generalize aj st.fr t=s at hs BZ
  by_cases Aq: ∃cs,s= .box cs
  ·obtain ⟨cs,rfl⟩:=Aq
   simp only [bL,xW] at hs⊢
   refine ⟨hs.1.kj (Ls f _),hs.2.b3,?_,hs.2.free⟩
   obtain ⟨o2,h1,h2⟩:=hs.2.obj
   refine ⟨o2,by show w'.heap[e.B t]? =_;rw [BZ cs rfl];exact h1,?_⟩
   refine (h2.map (fun _ _=>aS.kill f) (fun _ _=>rfl)).on si ?_
   intro l hl
   obtain ⟨x,_,rfl⟩:=List.mem_map.1 hl
   exact CM f x
  ·have w9:ab e (a.tmps.getD t undef) s:=by cases s<;>simp only [bL] at hs<;>first|exact hs|exact absurd ⟨_,rfl⟩ Aq
   have h2:=(w9.kill f).on si (QZ f _ s (dk s))
   generalize OA:xW f s=s2 at h2
   cases s2<;>first|exact h2|(exfalso;simp [ab] at h2)
 ·intro t
  show b6 (kh f st.fr) (aj (kh f st.fr) t)
  rw [fO]
  have n4:=h.root t
  generalize aj st.fr t=s at n4
  have hk: ∀q,cu (aj (kh f st.fr) q)=cu (aj st.fr q):=fun q=>by rw [fO,Ar]
  cases s with
  |ptr q o=>show cu (aj (kh f st.fr) q)=true;rw [hk];exact n4
  |hp q o i=>show cu (aj (kh f st.fr) q)=true;rw [hk];exact n4
  |vK q=>show cu (aj (kh f st.fr) q)=true;rw [hk];exact n4
  |ep g' _ _ _ _=>simp only [xW];cases Nat.beq g' f<;>trivial
  |_=>trivial
 ·intro f2 o2 cf
  have cf:aG (bH st.aO f fo) f2=some o2:=cf
  rw [ba] at cf
  by_cases ea:f2=f
  ·subst ea
   simp at cf
   subst cf
   have:=(fB.to yz).env (e':=e.yA f2 v' fo) rfl rfl
   simpa [Env.yA] using this
  ·simp only [ea,if_false] at cf
   obtain ⟨I2,ua,h1,h2,h3,h4,h5⟩:=(h.iF f2 o2 cf).row
   refine ⟨I2,ua,h1,h2,?_,h4,?_⟩
   ·show w'.ownsRow 0 o2.ty I2.size (if f2=f then v' else e.E f2) o2.xs.length ua
    rw [if_neg ea]
    refine ⟨h3.1,?_⟩
    rcases h3.2 with h6|⟨g,cap,cW,g1,g2,g3,g4⟩
    ·exact .inl h6
    ·refine .inr ⟨g,cap,cW,g1,g2,?_,g4⟩
     rw [cF g (bm g3) (fun o ho hk=>ea (h.ff f2 f o2 o g cf ho (by rw [g1];rfl) hk))];exact g3
   ·intro a7 hb
    have hb:(if f2=f then v' else e.E f2).ownBlock=some a7:=hb
    rw [if_neg ea] at hb
    exact h5 a7 hb
 ·intro t t' c1 c2 h1 h2 cI
  have h1:aj (kh f st.fr) t= .box c1:=h1
  have h2:aj (kh f st.fr) t'= .box c2:=h2
  rw [fO] at h1 h2
  obtain ⟨d1,g1,_⟩:=rF h1
  obtain ⟨d2,g2,_⟩:=rF h2
  exact h.bb t t' d1 d2 g1 g2 cI
 ·intro t c1 f2 o2 h1 h2
  have h1:aj (kh f st.fr) t= .box c1:=h1
  have h2:aG (bH st.aO f fo) f2=some o2:=h2
  rw [fO] at h1
  rw [ba] at h2
  obtain ⟨d1,g1,_⟩:=rF h1
  show (if f2=f then v' else e.E f2).ownBlock≠some (e.B t)
  by_cases ea:f2=f
  ·rw [if_pos ea]
   intro hb
   rcases ki _ hb with h3|⟨o,h3,h4⟩
   ·have:=Rm t d1 g1;omega
   ·exact h.bf t d1 f o g1 h3 h4
  ·rw [if_neg ea]
   simp only [ea,if_false] at h2
   exact h.bf t d1 f2 o2 g1 h2
 ·intro f1 f2 o1 o2 k h1 h2 h3 h4
  have h1:aG (bH st.aO f fo) f1=some o1:=h1
  have h2:aG (bH st.aO f fo) f2=some o2:=h2
  have h3:(if f1=f then v' else e.E f1).ownBlock=some k:=h3
  have h4:(if f2=f then v' else e.E f2).ownBlock=some k:=h4
  rw [ba] at h1 h2
  have Ae: ∀g og,aG st.aO g=some og→(e.E g).ownBlock=some k→k<w.heap.size:=by
   intro g og hg hk
   obtain ⟨I2,ua,_,_,g3,_⟩:=(h.iF g og hg).row
   rcases g3.2 with ⟨g5,_⟩|⟨b,cap,cW,g5,_,g6,_⟩
   ·rw [g5] at hk;simp [Value.ownBlock] at hk
   ·rw [g5] at hk;simp only [Value.ownBlock,Option.some.injEq] at hk;subst hk;exact bm g6
  by_cases HJ:f1=f
  ·by_cases xZ:f2=f
   ·rw [HJ,xZ]
   ·rw [if_pos HJ] at h3
    rw [if_neg xZ] at h4
    simp only [xZ,if_false] at h2
    rcases ki k h3 with h5|⟨o,h5,h6⟩
    ·have:=Ae f2 o2 h2 h4;omega
    ·exact HJ.trans (h.ff f f2 o o2 k h5 h2 h6 h4)
  ·rw [if_neg HJ] at h3
   simp only [HJ,if_false] at h1
   by_cases xZ:f2=f
   ·rw [if_pos xZ] at h4
    rcases ki k h4 with h5|⟨o,h5,h6⟩
    ·have:=Ae f1 o1 h1 h3;omega
    ·exact (h.ff f1 f o1 o k h1 h5 h3 h6).trans xZ.symm
   ·rw [if_neg xZ] at h4
    simp only [xZ,if_false] at h2
    exact h.ff f1 f2 o1 o2 k h1 h2 h3 h4
theorem p7 {f:Nat} {fo:mQ} (hK:jg st f fo K=some r):K (st.yA f fo)=some r:=by
 unfold Dn.jg at hK
 cases hn:br st.b5 f with
 |true=>simp [hn] at hK
 |false=>simpa [hn,QW,mS,St.yA] using hK
theorem bN.ZS {f:Nat} {fo:mQ} (h:bN c Z e st a w) (hK:Dn.jg st f fo K=some r):f∉Z.b5:=by
 intro hm
 rw [←h.defers.2.2.1,←bt] at hm
 simp [Dn.jg,hm] at hK
theorem vW {f:Nat} {fo:mQ} {v:Value} (h1:v.oneCell'=true):ab (e.yA f v fo) v (.sc (.own f)):=by
 simp only [ab]
 exact ⟨v,rfl,h1,fun o ho=>by simp [Env.yA]⟩
end
end Dn
/-
  What is appended. Conditions: none.
-/
set_option linter.unusedSimpArgs false
set_option linter.unusedVariables false
namespace Dn
open Go
section
variable {P:Program} {c:Ctx} {Z:bC} {e e':Env} {st:St} {a:Act} {w w':World} {R:Type} {K:St→Option R} {r:R} {Q:Exit→Act→World→Prop} {o:Oper}
theorem nN {t:TypeId} {I:TI} (hr:mI c.ti P t I) (hc:I.ct=[]): ∃i z,P.info? t=some i∧i.size=I.size∧i.bytes=I.bytes∧i.zero=some z∧z.cells.size=I.size:=by
 obtain ⟨d,i,h1,h2,h3,h4⟩:=hr
 obtain ⟨h5,h6⟩:=h3 hc
 cases d<;>simp only [qj] at h4
 case struct fs=>obtain ⟨_,_,_,_,_,_,cs,hz,_,hs⟩:=h4;exact ⟨i,_,h2,h5,h6,hz,by simpa [Value.cells] using hs⟩
 case tuple ts=>exact absurd hc h4.2.1
 case slice el=>obtain ⟨_,_,hs,_,_,hz,_⟩:=h4;exact ⟨i,_,h2,h5,h6,hz,by rw [hs];rfl⟩
 case array n el=>obtain ⟨_,_,hs,_,_,_,_,_,hz⟩:=h4;exact ⟨i,_,h2,h5,h6,hz,by rw [hs];simp [Value.cells,cw]⟩
 case bool=>obtain ⟨_,_,hs,_,_,hz⟩:=h4;exact ⟨i,_,h2,h5,h6,hz,by rw [hs];rfl⟩
 case int k=>obtain ⟨_,_,hs,_,_,hz⟩:=h4;exact ⟨i,_,h2,h5,h6,hz,by rw [hs];rfl⟩
 case string=>obtain ⟨_,_,hs,_,_,b,hz,_⟩:=h4;exact ⟨i,_,h2,h5,h6,hz,by rw [hs];rfl⟩
 all_goals
  obtain ⟨_,_,hs,_,v,hz,hv,_⟩:=h4
  refine ⟨i,v,h2,h5,h6,hz,?_⟩
  rw [hs]
  cases v<;>simp_all [Value.cells,Value.oneCell']
structure Src (e:Env) (w:World) (size:Nat) (v:Value) (ys:List MV) (news:List Value):Prop where
 Yh:aW e.key e.φ size news ys
 val: ∃ad cap,v= .slice ad ys.length cap∧(ad=none→ys=[])∧ ∀x,ad=some x→ ∀(j:Nat) (u:Value),news[j]? =some u→w.cell? (x.add j)=some u
theorem aW.vX {key:Nat→Nat} {φ:Ph} {size:Nat} {xs:List MV}: ∀{cs:List Value},aW key φ size cs xs→ ∀u∈cs,u.oneCell'=true:=by
 induction xs with
 |nil=>intro cs h;cases h;simp
 |cons x xs ih=>
  intro cs h u hu
  obtain ⟨v,q,rfl,_,h2,h3⟩:=h
  rcases List.mem_append.1 hu with hu|hu
  ·exact h2.cells u hu
  ·exact ih h3 u hu
theorem aW.append {key:Nat→Nat} {φ:Ph} {size:Nat} {xs ys:List MV}: ∀{cs ds:List Value},aW key φ size cs xs→aW key φ size ds ys→aW key φ size (cs++ds) (xs++ys):=by
 induction xs with
 |nil=>intro cs ds h h';cases h;simpa using h'
 |cons x xs ih=>intro cs ds h h';obtain ⟨v,q,rfl,h1,h2,h3⟩:=h;exact ⟨v,q++ds,by simp,h1,h2,ih h3 h'⟩
theorem CU {key:Nat→Nat} {φ:Ph} {size:Nat} {xs:List MV}: ∀{f:Nat→List Value},(∀i,i<xs.length→(f i).length=size)→(∀(i:Nat) (h:i<xs.length),kS key φ (f i) xs[i])→
 ∃cs,aW key φ size cs xs∧ ∀(i j:Nat),i<xs.length→j<size→cs[i *size+j]? =(f i)[j]? :=by
 induction xs with
 |nil=>intro f _ _;exact ⟨[],rfl,fun i j hi=>by simp at hi⟩
 |cons x xs ih=>
  intro f h1 h2
  obtain ⟨cs,h3,h4⟩:=ih (f:=fun i=>f (i+1)) (fun i hi=>h1 (i+1) (by simpa using hi)) (fun i hi=>h2 (i+1) (by simpa using hi))
  have hl:=h1 0 (by simp)
  refine ⟨f 0++cs,⟨f 0,cs,rfl,hl,h2 0 (by simp),h3⟩,?_⟩
  intro i j hi hj
  cases i with
  |zero=>rw [Nat.zero_mul,Nat.zero_add,List.getElem?_append_left (by omega)]
  |succ i=>
   rw [Nat.succ_mul,List.getElem?_append_right (by omega),show i *size+size+j-(f 0).length=i *size+j by omega]
   exact h4 i j (by simpa using hi) hj
theorem Jp {I E:TI} {x:Slot} {v:Value} {K':List MV→Option R} (h:bN c Z e st a w) (hE:c.ti I.elem=some E) (dZ:0<E.size) (hx:ab e v x) (hK:Ht I E st x K'=some r):
 ∃ys news,Src e w E.size v ys news∧K' ys=some r:=by
 unfold Ht at hK
 split at hK
 ·rename_i xs
  obtain ⟨hw,hK⟩:=dR hK
  simp only [ab,aS] at hx
  obtain ⟨_,hx⟩:=hx
  generalize hv:[v]=vs at hx
  cases hx with
  |list ad cap _ a7 off IR f g1 g2 g3 g4 g5=>
  simp at hv
  have UI: ∀i,i<xs.length→(f i).length=E.size:=by
   intro i hi
   rw [(g5 i hi).width]
   exact zf hw _ (List.getElem_mem hi)
  obtain ⟨cs,h1,h2⟩:=CU UI g5
  refine ⟨xs,cs,⟨h1,ad,cap,hv,?_,?_⟩,hK⟩
  ·intro hn
   cases xs with
   |nil=>rfl
   |cons y ys=>have:=g2 (by simp);rw [hn] at this;cases this
  ·intro x hx j u hj
   have Fa:j<cs.length:=(List.getElem?_eq_some_iff.1 hj).1
   rw [h1.length] at Fa
   have CV:0<xs.length:=by
    cases xs with
    |nil=>simp at Fa
    |cons y ys=>simp
   have Jq:=g2 CV
   rw [hx] at Jq
   cases Jq
   have hq:j/E.size<xs.length:=(Nat.div_lt_iff_lt_mul dZ).2 Fa
   have hm:=Nat.mod_lt j dZ
   have Qn:j=j/E.size *E.size+j%E.size:=by rw [Nat.mul_comm];exact (Nat.div_add_mod j E.size).symm
   have e1:=h2 (j/E.size) (j%E.size) hq hm
   rw [←Qn,hj] at e1
   have Rn:IR=E.size:=by rw [←g3 0 CV,UI 0 CV]
   have e2:=g4 (j/E.size) (j%E.size) hq (by rw [Rn];exact hm)
   rw [←e1,Rn,Nat.add_assoc,←Qn] at e2
   have:=h.nx _ _ _ e2
   rw [Addr.add_mid];exact this
 ·simp only [ab] at hx
  have hx:[v]=[Value.slice none 0 0]:=hx
  simp at hx
  exact ⟨[],[],⟨rfl,none,0,hx,fun _=>rfl,by simp⟩,hK⟩
 ·rename_i f
  cases hf:aG st.aO f with
  |none=>simp [hf] at hK
  |some fo=>
   simp only [hf] at hK
   cases hb:Nat.beq fo.ty I.elem with
   |false=>simp [hb] at hK
   |true=>
    simp only [hb,cond_true] at hK
    have jb:=Nat.eq_of_beq_eq_true hb
    obtain ⟨hv,_⟩:=rE h hx hf
    obtain ⟨J,cells,hJ,_,dg,iA,_⟩:=(h.iF f fo hf).row
    rw [jb,hE] at hJ
    cases hJ
    refine ⟨fo.xs,cells,⟨iA,?_⟩,hK⟩
    rcases dg.2 with ⟨h1,h2⟩|⟨g,cap,cW,h1,_⟩
    ·exact ⟨none,0,by rw [hv,h1,h2],fun _=>List.eq_nil_of_length_eq_zero h2,by simp⟩
    ·refine ⟨some ⟨g,0,none⟩,cap,by rw [hv,h1],by simp,?_⟩
     intro x hx j u hj
     cases hx
     exact dg.cells (g:=g) (by rw [h1];rfl) j u hj
 ·simp at hK
end
end Dn
/-
  Appends. Conditions: none.
-/
set_option linter.unusedSimpArgs false
set_option linter.unusedVariables false
namespace Dn
open Go
section
variable {P:Program} {c:Ctx} {Z:bC} {e e':Env} {st:St} {a:Act} {w w':World} {R:Type} {K:St→Option R} {r:R} {Q:Exit→Act→World→Prop} {o:Oper}
structure aaK (w w':World) (el:TypeId) (size:Nat) (v v':Value) (n m:Nat) (cells news:List Value):Prop where
 own:w'.ownsRow 0 el size v' (n+m) (cells++news)
 size:w.heap.size≤w'.heap.size
 Ae: ∀k,k<w.heap.size→some k≠v.ownBlock→w'.heap[k]? =w.heap[k]?
 cell: ∀(k off:Nat) (u:Value),v.ownBlock=some k→off<cells.length→w.cell? ⟨k,off,none⟩=some u→w'.cell? ⟨k,off,none⟩=some u
 place:v'.ownBlock=v.ownBlock∨v'.ownBlock=some w.heap.size
 rest:Rest w w'
theorem yB {t ty:TypeId} {I E:TI} {v x:Value} {n:Nat} {cells news:List Value} {ys:List MV} (hu:P.underlying t=some (.slice I.elem)) (hE:c.ti I.elem=some E) (nK:E.ct=[]) (dZ:0<E.size)
 (hT:kn P c.ti) (vY:1≤E.bytes) (dg:w.ownsRow 0 I.elem E.size v n cells) (sY:Src e w E.size x ys news) (mO:(n+ys.length) *E.bytes≤2^46):
 ∃v' w',(Builtin.append_ #[t,t] ty #[v,x]).run P w= .ok v' w'∧aaK w w' I.elem E.size v v' n ys.length cells news:=by
 obtain ⟨i,z,hi,hs,OC,hz,IW⟩:=nN (hT _ E hE) nK
 obtain ⟨ad,cap,hx,Bi,Gm⟩:=sY.val
 have Cs:=sY.Yh.length
 cases ad with
 |none=>
  have hys:=Bi rfl
  subst hys
  have Bj:news=[]:=List.eq_nil_of_length_eq_zero (by simpa using Cs)
  subst Bj
  refine ⟨v,w,?_,⟨by simpa using dg,Nat.le_refl _,fun _ _ _=>rfl,fun _ _ _ _ _ h=>h,.inl rfl,.refl _⟩⟩
  rw [hx]
  rcases dg.2 with ⟨rfl,rfl⟩|⟨g,nL,cW,rfl,_,_,Gn,_⟩
  ·simp [Builtin.append_,run_underlying hu,Go.sizeOf,typeInfo,hi,Builtin.lenOf,Builtin.firstCells]
  ·simp [Builtin.append_,run_underlying hu,Go.sizeOf,typeInfo,hi,Builtin.lenOf,Builtin.firstCells,Gn,storeCells]
 |some ad=>
  have hle:n+ys.length≤2^46:=Nat.le_trans (Nat.le_mul_of_pos_right _ vY) mO
  obtain ⟨v',w',hr,h1,h2,h3,h4⟩:=run_append_own_at (P:=P) (w:=w) 0 t ty I.elem i z E.size E.bytes hu hi hz hs OC IW dZ v n cells dg ad ys.length cap news Cs
   (fun j u hj=>Gm ad rfl j u hj) sY.Yh.vX (by unfold Go.maxLen;omega) (by omega) (Nat.zero_le _)
  rw [hx]
  refine ⟨v',w',hr,⟨h1,h2.size,fun k hk cI=>h2.block k hk cI,?_,h4,?_⟩⟩
  rotate_left
  ·refine ⟨h2.os,h2.tape,h2.output,fun p=> ?_⟩
   have WW: ∀(cs:Array Value) (p:Addr),(w.drew.alloc (.cells cs I.elem)).frozen? p=w.frozen? p:=fun cs p=>(Rest.alloc w.drew cs I.elem).2.2.2 p
   rcases dg.2 with ⟨hv,UA⟩|⟨g,nL,cW,hv,_,hg,Gn,Cr,re,Lz⟩
   ·subst hv;subst UA
    by_cases hm:ys.length=0
    ·have Bj:news=[]:=List.eq_nil_of_length_eq_zero (by rw [Cs,hm];simp)
     have hys:ys=[]:=List.eq_nil_of_length_eq_zero hm
     subst Bj;subst hys
     have:(Builtin.append_ #[t,t] ty #[.slice none 0 0,.slice (some ad) 0 cap]).run P w= .ok (.slice none 0 0) w:=by
      simp [Builtin.append_,run_underlying hu,Go.sizeOf,typeInfo,hi,Builtin.lenOf,Builtin.firstCells,loadCells,loadCellsFrom]
     rw [show ([]:List MV).length=0 from rfl] at hr
     rw [hr] at this
     cases this
     rfl
    ·have:=run_append_nil (P:=P) w t ty I.elem i z hu hi hz ad ys.length cap news (by rw [hs];exact Cs) (fun j u hj=>Gm ad rfl j u hj) (by omega) (by omega) (by rw [OC];simp only [Nat.zero_add] at mO;omega)
     rw [hr] at this
     cases this
     exact WW _ p
   ·subst hv
    by_cases rG:n+ys.length≤nL
    ·have vV:n *i.size+news.length≤cW.size:=by rw [Cs,hs,re,←Nat.add_mul];exact Nat.mul_le_mul_right _ rG
     have:=run_append_room (P:=P) (w:=w) t ty I.elem i hu hi g n nL cW hg ad ys.length cap news (by rw [hs];exact Cs) (fun j u hj=>Gm ad rfl j u hj) sY.Yh.vX rG vV
     rw [hr] at this
     cases this
     exact (Rest.setRow w g _).2.2.2 p
    ·have holds: ∀j u,cells[j]? =some u→w.cell? ((⟨g,0,none⟩:Addr).add j)=some u:=dg.cells (g:=g) rfl
     have hlen:cells.length=n *i.size:=by rw [hs];exact dg.1
     have uX:(n+ys.length) *i.bytes≤140737488355328:=by rw [OC];omega
     have:=run_append_grow (P:=P) (w:=w) t ty I.elem i z hu hi hz ⟨g,0,none⟩ n nL cells hlen holds ad ys.length cap news (by rw [hs];exact Cs) (fun j u hj=>Gm ad rfl j u hj) (by omega) (by omega) (growslice_fits (by omega) uX)
     rw [hr] at this
     cases this
     exact WW _ p
  intro k off u hk Fi hc
  rcases h4 with h4|h4
  ·have pE:=dg.cells (g:=k) hk off
   have hj:cells[off]? =some cells[off]:=List.getElem?_eq_getElem Fi
   have e1:=pE _ hj
   rw [Addr.add_mid,Nat.zero_add] at e1
   rw [hc] at e1
   cases e1
   have e2:=h1.cells (g:=k) (by rw [h4,hk]) off cells[off] (by rw [List.getElem?_append_left Fi];exact hj)
   rw [Addr.add_mid,Nat.zero_add] at e2
   exact e2
  ·rcases dg.2 with ⟨hv,_⟩|⟨g,nL,cW,hv,_,hg,Gn,Cr,re,Lz⟩
   ·rw [hv] at hk;simp [Value.ownBlock] at hk
   ·have hkg:k=g:=by rw [hv] at hk;simp [Value.ownBlock] at hk;exact hk.symm
    subst hkg
    have cz:=bm hg
    subst hv
    by_cases rG:n+ys.length≤nL
    ·exfalso
     have vV:n *i.size+news.length≤cW.size:=by rw [Cs,hs,re,←Nat.add_mul];exact Nat.mul_le_mul_right _ rG
     have:=run_append_room (P:=P) (w:=w) t ty I.elem i hu hi k n nL cW hg ad ys.length cap news (by rw [hs];exact Cs) (fun j u hj=>Gm ad rfl j u hj) sY.Yh.vX rG vV
     rw [hr] at this
     cases this
     simp [Value.ownBlock] at h4
     omega
    ·have holds: ∀j u,cells[j]? =some u→w.cell? ((⟨k,0,none⟩:Addr).add j)=some u:=dg.cells (g:=k) rfl
     have hlen:cells.length=n *i.size:=by rw [hs];exact dg.1
     have uX:(n+ys.length) *i.bytes≤140737488355328:=by rw [OC];omega
     have:=run_append_grow (P:=P) (w:=w) t ty I.elem i z hu hi hz ⟨k,0,none⟩ n nL cells hlen holds ad ys.length cap news (by rw [hs];exact Cs) (fun j u hj=>Gm ad rfl j u hj) (by omega) (by omega) (growslice_fits (by omega) uX)
     rw [hr] at this
     cases this
     rw [World.cell?_of_block (y8 w.drew _ k cz)]
     exact hc
end
end Dn
/-
  Appends, the operation. Conditions: none.
-/
set_option linter.unusedSimpArgs false
set_option linter.unusedVariables false
namespace Dn
open Go
section
variable {P:Program} {c:Ctx} {Z:bC} {e e':Env} {st:St} {a:Act} {w w':World} {R:Type} {K:St→Option R} {r:R} {Q:Exit→Act→World→Prop} {o:Oper}
theorem Jr {base:Nat} {t:TypeId} {size n:Nat} {v:Value} {xs:List Value} (h:w.ownsRow base t size v n xs):v.oneCell'=true:=by
 rcases h.2 with ⟨rfl,_⟩|⟨g,cap,cW,rfl,_⟩<;>rfl
theorem OD {cl:Call} {s x:Operand} {t:TypeId} {I E:TI} (ho:o.op= .call cl) (hb:cl.callee= .builtin .append) (ha:cl.args.toList=[s,x]) (Gh:cl.argTypes.toList=[t,t])
 (hI:c.tv t=some I) (hL:I.xT=true) (hE:c.tv I.elem=some E) (hT:kn P c.ti) (h:bN c Z e st a w)
 (hK:Ht I E st (aK c st x) (fun ys=>XX (o.dst.getD 0) st I E (aK c st s) ys (fun sl st=>bk c st o.dst sl K))=some r):o.wp P a w (Out c Z K r e.φ w) Q:=by
 obtain ⟨rc,hc⟩:=bE hI
 obtain ⟨mN,nK⟩:=bE hE
 obtain ⟨hu,E2,vI,_,dZ⟩:=TI.mn (hT t I rc) hL
 rw [mN] at vI
 cases vI
 have ha':cl.args= #[s,x]:=by rw [←Array.toList_inj,ha]
 have aeG:cl.argTypes= #[t,t]:=by rw [←Array.toList_inj,Gh]
 obtain ⟨hs,_⟩:=h.eval s
 obtain ⟨hx,_⟩:=h.eval x
 obtain ⟨ys,news,sY,hK⟩:=Jp h mN dZ hx hK
 have go: ∀(f:Nat) (dI:Bool) (xs:List MV) (cells:List Value),1≤E.bytes→(xs.length+ys.length) *E.bytes≤2^46→w.ownsRow 0 I.elem E.size (a.eval s) xs.length cells→aW e.key e.φ E.size cells xs→
  (∀a7,(a.eval s).ownBlock=some a7→((f∈Z.b5∧Z.Pr a7)∨Z.In a7)∧(∃o,aG st.aO f=some o∧(e.E f).ownBlock=some a7)∧ ∀off u,e.φ a7 off=some u→dI=true∧off<xs.length *E.size)→
  jg st f ⟨I.elem,dI,xs++ys⟩ (fun st=>bk c st o.dst (.sc (.own f)) K)=some r→o.wp P a w (Out c Z K r e.φ w) Q:=by
  intro f dI xs cells vY mO dg iA An hK
  obtain ⟨v',w',bJ,sZ⟩:=yB (P:=P) (ty:=o.type) hu mN nK dZ hT vY dg sY mO
  have hlen:cells.length=xs.length *E.size:=iA.length
  have yz:=h.ZS hK
  have hK:=p7 hK
  have fB:cQ c Z.nc e w' v' ⟨I.elem,dI,xs++ys⟩:=by
   refine ⟨E,cells++news,mN,nK,by simpa using sZ.own,iA.append sY.Yh,?_⟩
   intro a7 jk
   rcases sZ.place with h1|h1
   ·rw [h1] at jk
    obtain ⟨h2,_,h3⟩:=An a7 jk
    refine ⟨Jd h2 yz,fun off u hu=> ?_,fun hc=>False.elim hc⟩
    obtain ⟨h4,h5⟩:=h3 off u hu
    refine ⟨h4,Nat.lt_of_lt_of_le h5 ?_⟩
    simp only [List.length_append]
    exact Nat.mul_le_mul_right _ (Nat.le_add_right _ _)
   ·rw [h1] at jk
    cases jk
    refine ⟨h.b3 _ (Nat.le_refl _),fun off u hu=> ?_,fun hc=>False.elim hc⟩
    have:=World.block_lt_of_cell? w _ (h.nx _ _ _ hu)
    simp at this
  have pg:=h.jg (f:=f) yz fB sZ.size
   (fun b LF cI=>sZ.Ae b LF (fun hk=>by obtain ⟨_,⟨o2,h1,h2⟩,_⟩:=An b hk.symm;exact cI o2 h1 h2))
   (fun b off u hu=>by
    have hc0:=h.nx b off u hu
    by_cases hk:(a.eval s).ownBlock=some b
    ·obtain ⟨_,_,h3⟩:=An b hk
     exact sZ.cell b off u hk (by rw [hlen];exact (h3 off u hu).2) hc0
    ·rw [World.cell?_of_block (sZ.Ae b (World.block_lt_of_cell? w _ hc0) (fun HK=>hk HK.symm))];exact hc0)
   (fun b jk=>by
    rcases sZ.place with h1|h1
    ·rw [h1] at jk;exact .inr (An b jk).2.1
    ·rw [h1] at jk;cases jk;exact .inl (Nat.le_refl _))
  refine fin (v:=v') (s:= .sc (.own f)) ?_ pg ?_ (.of (vW (Jr sZ.own)) trivial) hK
  ·simp [execOp,ho,resolve,hb,invoke,builtin,ha',aeG,bJ]
  ·exact ⟨.refl _,fun b hz LF=>sZ.Ae b LF (fun hk=>hz (Jd (An b hk.symm).1 yz)),fun _ _ _=>rfl,sZ.size,sZ.rest⟩
 generalize aK c st s=ss at hs hK
 unfold XX at hK
 cases vY:Nat.ble 1 E.bytes with
 |false=>simp [vY] at hK
 |true=>
  simp only [vY,cond_true] at hK
  have vY:=Nat.le_of_ble_eq_true vY
  split at hK
  ·obtain ⟨mO,hK⟩:=dR hK
   have mO:=of_decide_eq_true mO
   simp only [ab] at hs
   have hs:[a.eval s]=[Value.slice none 0 0]:=hs
   simp at hs
   refine go (o.dst.getD 0) false [] [] vY (by simpa using mO) (by rw [hs];exact World.ownsRow_nil w 0 I.elem E.size) rfl ?_ (by simpa using hK)
   intro a7 jk
   rw [hs] at jk
   simp [Value.ownBlock] at jk
  ·rename_i f
   cases hf:aG st.aO f with
   |none=>simp [hf] at hK
   |some fo=>
    simp only [hf] at hK
    obtain ⟨mO,hK⟩:=dR hK
    have mO:=of_decide_eq_true mO
    cases jb:Nat.beq fo.ty I.elem with
    |false=>simp [jb] at hK
    |true=>
     simp only [jb,cond_true] at hK
     have jb:=Nat.eq_of_beq_eq_true jb
     obtain ⟨hv,_⟩:=rE h hs hf
     obtain ⟨J,cells,hJ,_,dg,iA,h5⟩:=(h.iF f fo hf).row
     rw [jb,mN] at hJ
     cases hJ
     refine go f fo.dI fo.xs cells vY mO (by rw [hv,←jb];exact dg) iA ?_ (by rw [←jb];exact hK)
     intro a7 jk
     rw [hv] at jk
     exact ⟨(h5 a7 jk).1,⟨fo,hf,jk⟩,(h5 a7 jk).2.1⟩
  ·simp at hK
end
end Dn
/-
  Slices that are written out. Conditions: none.
-/
set_option linter.unusedSimpArgs false
set_option linter.unusedVariables false
namespace Dn
open Go
section
variable {P:Program} {c:Ctx} {Z:bC} {e e':Env} {st:St} {a:Act} {w w':World} {R:Type} {K:St→Option R} {r:R} {Q:Exit→Act→World→Prop} {o:Oper}
theorem bN.aaN {φ':Ph} (h:bN c Z e st a w) (hle:pK e.φ φ') (iZ: ∀b o v,φ' b o=some v→w.cell? ⟨b,o,none⟩=some v)
 (sf: ∀t cs,aj st.fr t= .box cs→ ∀off,φ' (e.B t) off=e.φ (e.B t) off) (fB: ∀f o b,aG st.aO f=some o→(e.E f).ownBlock=some b→ ∀off,φ' b off=e.φ b off):
 bN c Z {e with φ:=φ'} st a w:=by
 have si:jX (fun _=>True) (fun _=>True) e {e with φ:=φ'}:=⟨rfl,hle,fun _ _=>rfl,fun f o ho _=>⟨o,ho,rfl,rfl⟩⟩
 refine ⟨h.defers,h.size,h.m,h.key,h.nodup,?_,h.root,?_,h.bb,h.bf,h.ff,iZ,h.b3⟩
 ·intro t
  have hs:=h.slot t
  have hb:=sf t
  show bL Z _ w t _ (aj st.fr t)
  generalize aj st.fr t=s at hs hb
  cases s<;>simp only [bL] at hs⊢ <;>try exact hs.on si (dk _)
  rename_i cs
  refine ⟨hs.1,hs.2.b3,?_,fun off=>by show φ' (e.B t) off=none;rw [hb cs rfl];exact hs.2.free off⟩
  obtain ⟨o2,h1,h2⟩:=hs.2.obj
  exact ⟨o2,h1,h2.on si (fun l _ f _=>trivial)⟩
 ·intro f o ho
  obtain ⟨I,cells,h1,h2,h3,h4,h5⟩:=(h.iF f o ho).row
  refine ⟨I,cells,h1,h2,h3,h4.mono hle,fun a7 hb=>⟨(h5 a7 hb).1,fun off u hu=>(h5 a7 hb).2.1 off u ?_,fun g1 g2 j hj=>hle.wY ((h5 a7 hb).2.2 g1 g2 j hj) hj⟩⟩
  have hu:φ' a7 off=some u:=hu
  rw [fB f o a7 ho hb] at hu
  exact hu
theorem eN.cells {key:Nat→Nat} {φ:Ph} {v:Value} {m:MV} (h:eN key φ v m):kS key φ v.cells.toList m:=by
 have one:m.one=true→kS key φ [v] m→kS key φ v.cells.toList m:=by
  intro h1 h2
  have:=h2.cells v (by simp)
  have hv:v.cells.toList=[v]:=by cases v<;>simp_all [Value.cells,Value.oneCell']
  rw [hv];exact h2
 cases m<;>simp only [eN] at h<;>first|exact one h.1 h.2|skip
 ·rw [h];simpa [Value.cells] using kS.h _
 ·obtain ⟨arr,rfl,h⟩:=h;exact .agg _ _ (by simpa [Value.cells] using h)
theorem OE {parts:List (Nat×Operand)}: ∀{e:Env} {st:St} {n:Nat} {K':List MV→St→Option R},bN c Z e st a w→QA c st parts n K'=some r→
 ∃e' bQ ms,bN c Z e' bQ a w∧Ext Z e e'∧bW e'.key e'.φ (parts.map fun p=>a.eval p.2) ms∧K' ms bQ=some r∧parts.map (fun p=>(p.1,a.eval p.2))=((parts.map fun p=>a.eval p.2).zipIdx n).map (fun x=>(x.2,x.1)):=by
 induction parts with
 |nil=>intro e st n K' h hK;exact ⟨e,st,[],h,.refl _ _,rfl,hK,rfl⟩
 |cons p ps ih=>
  intro e st n K' h hK
  obtain ⟨i,x⟩:=p
  simp only [QA] at hK
  cases hi:Nat.beq i n with
  |false=>simp [hi] at hK
  |true=>
   simp only [hi,cond_true] at hK
   have s4:=Nat.eq_of_beq_eq_true hi
   subst s4
   obtain ⟨e1,eE,m,q1,q2,q3,q4,q5⟩:=mJ h (h.eval x).1 hK
   obtain ⟨e2,eZ,ms,p1,p2,p4,p5,p6⟩:=ih q1 q5
   refine ⟨e2,eZ,m::ms,p1,q2.trans p2,⟨_,_,rfl,?_,p4⟩,p5,?_⟩
   ·have:=q4.mono p2.on.φ
    rw [←p2.on.key] at this;exact this
   ·simp only [List.map_cons,List.zipIdx_cons,p6]
theorem Fj {key:Nat→Nat} {φ:Ph} {size:Nat} {ms:List MV}: ∀{vs:List Value},bW key φ vs ms→sP size ms=true→aW key φ size (vs.flatMap fun v=>v.cells.toList) ms∧vs.length=ms.length∧ ∀v∈vs,v.cells.size=size:=by
 induction ms with
 |nil=>intro vs h _;cases h;exact ⟨rfl,rfl,by simp⟩
 |cons m ms ih=>
  intro vs h hw
  obtain ⟨v,u,rfl,h1,h2⟩:=h
  have hm:=zf hw m (by simp)
  have hw2:sP size ms=true:=by
   unfold sP at hw⊢
   simp only [List.all_cons,Bool.and_eq_true] at hw;exact hw.2
  obtain ⟨h3,h4,h5⟩:=ih h2 hw2
  have hl:v.cells.toList.length=size:=by rw [h1.cells.width,hm]
  refine ⟨⟨v.cells.toList,_,rfl,hl,h1.cells,h3⟩,by simp [h4],?_⟩
  intro x hx
  rcases List.mem_cons.1 hx with rfl|hx
  ·simpa using hl
  ·exact h5 x hx
end
end Dn
/-
  Slices that are written out, the operation. Conditions: none.
-/
set_option linter.unusedSimpArgs false
set_option linter.unusedVariables false
namespace Dn
open Go
section
variable {P:Program} {c:Ctx} {Z:bC} {e e':Env} {st:St} {a:Act} {w w':World} {R:Type} {K:St→Option R} {r:R} {Q:Exit→Act→World→Prop} {o:Oper}
theorem Nd {t:TypeId} {I E:TI} {vs:List Value} {parts:Array (Nat×Value)} (hu:P.underlying t=some (.slice I.elem)) (hE:c.ti I.elem=some E) (nK:E.ct=[]) (dZ:0<E.size) (hT:kn P c.ti)
 (mO:vs.length *E.size≤16777216) (hv: ∀v∈vs,v.cells.size=E.size) (hp:parts.toList=(vs.zipIdx 0).map fun x=>(x.2,x.1)):
 (Instr.buildSlice t vs.length parts).run P w= .ok (.slice (some ⟨w.heap.size,0,none⟩) vs.length vs.length) (w.alloc (.cells (vs.flatMap fun v=>v.cells.toList).toArray I.elem)):=by
 obtain ⟨i,z,hi,hs,OC,hz,IW⟩:=nN (hT _ E hE) nK
 by_cases h0:vs.length=0
 ·have xA:=List.eq_nil_of_length_eq_zero h0
  subst xA
  have HG:parts= #[]:=by rw [←Array.toList_inj,hp];rfl
  simp [Instr.buildSlice,run_underlying hu,Go.sizeOf,typeInfo,hi,HG,Instr.fill,newRow,Sem.run]
  congr 2
  apply Array.ext_getElem?
  intro k
  simp
 ·have cI: ¬vs.length *i.size=0:=by rw [hs];exact Nat.mul_ne_zero h0 (by omega)
  refine run_buildSlice w t I.elem vs.length parts _ i z hu hi hz (by rw [hs];omega) cI ?_
  rw [hp,hs]
  exact Go.Great.fill_whole dZ vs _ hv (by simp)
theorem UJ {key:Nat→Nat} {φ:Ph} {size cap a7:Nat} {xs:List MV} {cells:List Value} (h:aW key φ size cells xs) (Ap:xs.length≤cap) (hp: ∀off,off<cells.length→φ a7 off=cells[off]?):
 kS key φ [.slice (some ⟨a7,0,none⟩) xs.length cap] (.list xs):=by
 have hlen:=h.length
 have HF: ∀i (hi:i<xs.length),∃v1,v1.length=size∧kS key φ v1 xs[i]∧(cells.drop (i *size)).take size=v1:=by
  intro i hi
  obtain ⟨p1,v1,p2,he,CR,vS,eu⟩:=h.at (List.getElem?_eq_getElem hi)
  refine ⟨v1,vS,eu,?_⟩
  rw [he,List.append_assoc,←CR,List.drop_left,←vS,List.take_left]
 refine .list (some ⟨a7,0,none⟩) cap xs a7 0 size (fun i=>(cells.drop (i *size)).take size) Ap (fun _=>rfl) ?_ ?_ ?_
 ·intro i hi
  obtain ⟨v1,h1,_,h3⟩:=HF i hi
  rw [h3,h1]
 ·intro i j hi hj
  have Fi:i *size+j<cells.length:=by
   rw [hlen]
   calc i *size+j<i *size+size:=by omega
    _=(i+1) *size:=by rw [Nat.succ_mul]
    _≤xs.length *size:=Nat.mul_le_mul_right _ hi
  rw [Nat.zero_add,hp _ Fi,List.getElem?_take]
  simp only [hj,if_true,List.getElem?_drop]
 ·intro i hi
  obtain ⟨v1,_,h2,h3⟩:=HF i hi
  rw [h3];exact h2
theorem Fk {t:TypeId} {n:Nat} {parts:Array (Nat×Operand)} {I E:TI} (ho:o.op= .buildSlice t n parts) (hI:c.tv t=some I) (hL:I.xT=true) (hE:c.tv I.elem=some E) (hT:kn P c.ti) (h:bN c Z e st a w)
 (mO:Nat.ble (n *E.size) 16777216=true)
 (hK:QA c st parts.toList 0 (fun ms st=>bif Nat.beq ms.length n then dy (sP E.size ms)
  (bif br c.bs (o.dst.getD 0) then bk c st o.dst (.sc (.p (.list ms))) K else jg st (o.dst.getD 0) ⟨I.elem,false,ms⟩ fun st=>bk c st o.dst (.sc (.own (o.dst.getD 0))) K) else none)=some r):
 o.wp P a w (fun a' w'=>dc w w'∧Out c Z K r e.φ w a' w') Q:=by
 obtain ⟨rc,hc⟩:=bE hI
 obtain ⟨mN,nK⟩:=bE hE
 obtain ⟨hu,E2,vI,_,dZ⟩:=TI.mn (hT t I rc) hL
 rw [mN] at vI
 cases vI
 obtain ⟨e1,eE,ms,vH,BW,eP,hK,Ro⟩:=OE h hK
 cases hn:Nat.beq ms.length n with
 |false=>simp [hn] at hK
 |true=>
  simp only [hn,cond_true] at hK
  have hn:=Nat.eq_of_beq_eq_true hn
  obtain ⟨hw,hK⟩:=dR hK
  obtain ⟨iA,hlen,re⟩:=Fj eP hw
  generalize xA:parts.toList.map (fun p=>a.eval p.2)=vs at eP Ro iA hlen re
  have mO:=Nat.le_of_ble_eq_true mO
  have bJ:=Nd (P:=P) (c:=c) (w:=w) (t:=t) (I:=I) (vs:=vs) (parts:=parts.map fun (i,x)=>(i,a.eval x)) hu mN nK dZ hT (by rw [hlen,hn];exact mO) re (by rw [←Ro];simp)
  have WX:(execOp a.eval o).run P w= .ok (.value (.slice (some ⟨w.heap.size,0,none⟩) vs.length vs.length)) (w.alloc (.cells (vs.flatMap fun v=>v.cells.toList).toArray I.elem)):=by
   rw [hlen,hn] at bJ⊢
   simp [execOp,ho] at bJ⊢
   simp [bJ]
  have hg:dc w (w.alloc (.cells (vs.flatMap fun v=>v.cells.toList).toArray I.elem)):= .alloc w _ _
  have Bi: ∀off,e1.φ w.heap.size off=none:=by
   intro off
   cases hp:e1.φ w.heap.size off with
   |none=>rfl
   |some u=>
    have:=World.block_lt_of_cell? w _ (vH.nx _ _ _ hp)
    simp at this
  have Nf:(vs.flatMap fun v=>v.cells.toList).length=ms.length *E.size:=iA.length
  have Ap:ms.length≤16777216:=Nat.le_trans (Nat.le_mul_of_pos_right _ dZ) (by rw [hn];exact mO)
  cases hb:br c.bs (o.dst.getD 0) with
  |false=>
   simp only [hb,cond_false] at hK
   have yz:=vH.ZS hK
   have hK:=p7 hK
   have fB:cQ c Z.nc e1 (w.alloc (.cells (vs.flatMap fun v=>v.cells.toList).toArray I.elem)) (.slice (some ⟨w.heap.size,0,none⟩) vs.length vs.length) ⟨I.elem,false,ms⟩:=by
    refine ⟨E,_,mN,nK,⟨Nf,.inr ⟨w.heap.size,vs.length,_,by rw [hlen],Nat.zero_le _,jW w _,by rw [hlen];exact Nat.le_refl _,by rw [hlen];unfold Go.maxLen;omega,?_,?_⟩⟩,iA,?_⟩
    ·rw [List.size_toArray,Nf,hlen]
    ·show List.take (ms.length *E.size) _=_
     rw [List.take_of_length_le (by simp only [List.toList_toArray];omega)]
    ·intro a7 jk
     simp [Value.ownBlock] at jk
     subst jk
     refine ⟨vH.b3 _ (Nat.le_refl _),fun off u hu=>(by rw [Bi] at hu;cases hu),fun hc=>False.elim hc⟩
   have pg:=vH.jg (f:=o.dst.getD 0) yz fB hg.size (fun b LF _=>hg.Ae b LF) (fun b off u hu=>hg.cell (vH.nx b off u hu)) (fun b jk=>by simp [Value.ownBlock] at jk;exact .inl (by omega))
   exact On (s:= .sc (.own (o.dst.getD 0))) hg WX pg (BW.tr.trans (hg.trans vH.b3 _)) (.of (vW rfl) trivial) hK
  |true=>
   simp only [hb,cond_true] at hK
   generalize hfl:(vs.flatMap fun v=>v.cells.toList)=flat at *
   have hle:pK e1.φ (fun b off=>if b=w.heap.size∧off<flat.length then flat[off]? else e1.φ b off):=by
    intro b off u hu
    by_cases WY:b=w.heap.size
    ·subst WY;rw [Bi] at hu;cases hu
    ·simp only [WY,false_and,if_false];exact hu
   have iZ: ∀b off u,(fun b off=>if b=w.heap.size∧off<flat.length then flat[off]? else e1.φ b off) b off=some u→(w.alloc (.cells flat.toArray I.elem)).cell? ⟨b,off,none⟩=some u:=by
    intro b off u hu
    by_cases WY:b=w.heap.size∧off<flat.length
    ·simp only [WY,and_self,if_true] at hu
     obtain ⟨rfl,_⟩:=WY
     rw [cell_of (jW w _)];simpa using hu
    ·simp only [WY,if_false] at hu
     exact hg.cell (vH.nx b off u hu)
   have pg:=(vH.grow hg).aaN hle iZ
    (by
     intro t2 tL ht off
     have Jk:=vH.slot t2
     rw [ht] at Jk
     obtain ⟨o2,h1,_⟩:=Jk.2.obj
     have:=bm h1
     have cI: ¬e1.B t2=w.heap.size:=by omega
     simp [cI])
    (by
     intro f o2 b cf uX off
     obtain ⟨J,ua,_,_,h3,_⟩:=(vH.iF f o2 cf).row
     rcases h3.2 with ⟨h1,_⟩|⟨g,cap,cW,h1,_,h4,_⟩
     ·rw [h1] at uX;simp [Value.ownBlock] at uX
     ·rw [h1] at uX
      simp [Value.ownBlock] at uX
      subst uX
      have:=bm h4
      have cI: ¬g=w.heap.size:=by omega
      simp [cI])
   refine On (s:= .sc (.p (.list ms))) hg WX pg ?_ (.of ?_ trivial) hK
   ·refine BW.tr.trans ⟨hle,fun b hz LF=>hg.Ae b LF,fun b off hz=> ?_,hg.size,hg.rest⟩
    have cI: ¬b=w.heap.size:=by intro OG;subst OG;exact hz (vH.b3 _ (Nat.le_refl _))
    simp [cI]
   ·simp only [ab,aS]
    rw [hlen]
    exact ⟨rfl,UJ (iA.mono hle) (Nat.le_refl _) (fun off Fi=>by simp [Fi])⟩
end
end Dn
