import GoSem.Dispatch
import Derived.Orders
import Derived.Calls
import Derived.Laws.AppendOwn
import Derived.Laws.AppendOwnNone
import Derived.Deep.MidRow
import Derived.Laws.Strings
import Derived.Laws.Tables
import Derived.Great.FillDense
import Derived.Maps.AppendAt
/-
  An abstract run of Go functions over values that no one changes: definitions. Conditions: none.
-/
set_option linter.unusedVariables false
namespace Dn
open Go
structure jq where
 l:List UInt8
 h:l.length=32
theorem jq.ext' {a b:jq} (e:a.l=b.l):a=b:=by cases a;cases b;cases e;rfl
instance:DecidableEq jq:=fun a b=>if e:a.l=b.l then .isTrue (jq.ext' e) else .isFalse (fun h=>e (by rw [h]))
def jq.zero:jq:=⟨[0,0,0,0,0,0,0,0,0,0,0,0,0,0,0,0,0,0,0,0,0,0,0,0,0,0,0,0,0,0,0,0],rfl⟩
def jq.put (x:jq) (i:Nat) (b:UInt8):jq:=⟨x.l.set i b,by simp [x.h]⟩
inductive MV where
 |b (x:Bool)
 |i (k:IntKind) (n:Int)
 |s (l:List UInt8)
 |h (x:jq)
 |raw (v:Value)
 |list (xs:List MV)
 |agg (cs:List MV)
 |dr (vs:List MV)
 |func (f:Nat) (cap:List MV)
 |rp (cs:List MV)
 |fresh (xs:List MV)
 |cell (m:MV)
 |eF (r:MV) (outs:List MV)
 |clip (xs:List MV)
instance:Inhabited MV:=⟨.b false⟩
mutual
def MV.w:MV→Nat
 | .h _=>32
 | .agg cs=>MV.wl cs
 |_=>1
def MV.wl:List MV→Nat
 |[]=>0
 |m::r=>m.w+MV.wl r
end
def mF (n:Nat) (l:List MV):Bool:=l.all fun m=>Nat.beq m.w n
inductive Kd where
 |b|i (k:IntKind)|s|l|h|raw
structure MS where
 st:Bool
 lay:List Kd
 b:Bool
def MS.it:MS:=⟨true,[],true⟩
def zl (s:MS):Bool:=match s.lay with
 |[]=>s.st
 |_=>false
inductive aE where
 |un
 |p (m:MV)
 |hs (x:jq)
 |nil
 |own (gp:Nat)
 |mp (s:MS) (es:List MV)
def aE.w:aE→Nat
 | .hs _=>32
 |_=>1
inductive Slot where
 |skip
 |sc (l:aE)
 |ag (cs:List aE)
 |dr (vs:List Slot)
 |box (cs:List aE)
 |vo (cs:List aE)
 |ptr (root off:Nat)
 |vp (root:Nat)
 |rp (cs:List aE) (off:Nat)
 |hp (root off:Nat) (i:Nat)
 |ep (gp:Nat) (i:Nat) (off:Nat) (st:Bool) (cs:List aE)
abbrev Fr:=List (Nat×Slot)
structure TI where
 st:Bool
 size:Nat
 bytes:Nat
 lay:List Kd
 zero:List aE
 IZ:List Nat
 N0:List Nat
 elem:Nat
 cH:List Nat
section
variable {R:Type}
def gB (m:MV) (K:Bool→Option R):Option R:=match m with| .b x=>K x|_=>none
def gI (k:IntKind) (m:MV) (K:Int→Option R):Option R:=match m with| .i k' n=>bif decide (k'=k) then K n else none|_=>none
def gS (m:MV) (K:List UInt8→Option R):Option R:=match m with| .s l=>K l|_=>none
def gL (m:MV) (K:List MV→Option R):Option R:=match m with| .list l=>K l|_=>none
def gH (m:MV) (K:jq→Option R):Option R:=match m with| .h l=>K l|_=>none
def gA (m:MV) (K:List MV→Option R):Option R:=match m with| .agg l=>K l|_=>none
def gT (m:MV) (K:List MV→Option R):Option R:=match m with| .dr l=>K l|_=>none
def gF (m:MV) (K:List MV→Option R):Option R:=match m with| .fresh l=>K l|_=>none
def Tr (m:MV) (K:List MV→Option R):Option R:=match m with| .clip l=>K l|_=>none
def MQ (m:MV) (K:Nat→List MV→Option R):Option R:=match m with| .func f c=>K f c|_=>none
def gW (m:MV) (K:MV→List MV→Option R):Option R:=match m with| .eF r outs=>K r outs|_=>none
def gP (m:MV) (K:List MV→Option R):Option R:=match m with| .rp c=>K c|_=>none
def TH (m:MV) (K:Nat→Nat→Option R):Option R:=match m with| .raw (.complex .f64 a b)=>K a b|_=>none
def gR (m:MV) (K:MV→Option R):Option R:=match m with| .raw v=>K (.raw v)| .func f c=>K (.func f c)| .rp c=>K (.rp c)|_=>none
def gC (l:List MV) (K:MV→List MV→Option R):Option R:=match l with|m::r=>K m r|[]=>none
def gN (l:List MV) (K:Option R):Option R:=match l with|[]=>K|_=>none
def bd {α:Type} (x:Option α) (K:α→Option R):Option R:=match x with|some a=>K a|none=>none
def WD (l:List MV) (i:Int):Option MV:=if 0≤i then l[i.toNat]? else none
def idx (l:List MV) (i:Int) (K:MV→Option R):Option R:=
 match WD l i with|some x=>K x|none=>none
def cb (c:Bool) (K:Option R):Option R:=match c with|true=>K|false=>none
def bk (c:Bool) (x y:Option R):Option R:=match c with|true=>x|false=>y
def N5:List Nat→Nat→(Nat→Option R)→Option R
 |[],_,_=>none
 |[p],e,K=>bif Nat.beq e p then K p else none
 |p::q::r,e,K=>bif Nat.beq e p then K p else N5 (q::r) e K
def jr (k:Kd) (m:MV) (K:aE→Option R):Option R:=
 match k with
 | .b=>gB m fun x=>K (.p (.b x))
 | .i k=>gI k m fun x=>K (.p (.i k x))
 | .s=>gS m fun x=>K (.p (.s x))
 | .l=>gL m fun x=>K (.p (.list x))
 | .h=>gH m fun x=>K (.hs x)
 | .raw=>gR m fun m=>K (.p m)
def rm:List Kd→List MV→(List aE→Option R)→Option R
 |[],l,K=>gN l (K [])
 |k::ks,l,K=>gC l fun m r=>jr k m fun x=>rm ks r fun xs=>K (x::xs)
end
def iter {σ R:Type} (body:σ→Option (Sum σ R)):Nat→σ→Option R
 |0,_=>none
 |n+1,s=>match body s with
  |some (.inl s')=>iter body n s'
  |some (.inr r)=>some r
  |none=>none
open Classical in
noncomputable def Loop {σ R:Type} (body:σ→Option (Sum σ R)) (s:σ):Option R:=
 if h: ∃r n,iter body n s=some r then some (Classical.choose h) else none
def ap:Fr→Nat→Slot
 |[],_=> .sc .un
 |(k,s)::r,t=>bif Nat.beq k t then s else ap r t
def FA {R:Type}:Fr→Nat→Slot→(Fr→Option R)→Option R
 |[],t,v,K=>K [(t,v)]
 |(k,s)::r,t,v,K=>bif Nat.beq k t then K ((k,v)::r) else FA r t v fun r=>K ((k,s)::r)
def force {R:Type} (s:Slot) (K:Slot→Option R):Option R:=match s with
 | .skip=>K .skip
 | .sc l=>K (.sc l)
 | .ag cs=>K (.ag cs)
 | .dr vs=>K (.dr vs)
 | .box cs=>K (.box cs)
 | .vo cs=>K (.vo cs)
 | .ptr r o=>K (.ptr r o)
 | .vp r=>K (.vp r)
 | .rp cs o=>K (.rp cs o)
 | .hp r o i=>K (.hp r o i)
 | .ep f i o b cs=>K (.ep f i o b cs)
def bp:List Nat→Nat→Bool
 |[],_=>false
 |k::r,t=>bif Nat.beq k t then true else bp r t
def vm (t:Nat):Bool:=Nat.ble 1000000 t
def posOf (t:Nat):Nat:=(t-1000000)%1000
def I3 (t:Nat):Nat:=(t-1000000)/1000
def plk:List (Nat×Nat)→Nat→Option Nat
 |[],_=>none
 |(k,x)::r,t=>bif Nat.beq k t then some x else plk r t
def cY:Slot→Bool
 | .ptr _ _| .hp _ _ _| .ep _ _ _ _ _| .rp _ _| .vp _=>true
 |_=>false
def sI {R:Type} (ds:List Nat):Fr→(Fr→Option R)→Option R
 |[],K=>K []
 |(k,s)::r,K=>bif cY s||bp ds k then sI ds r K else sI ds r fun r=>K ((k,s)::r)
def cB:Slot→Bool
 | .box _| .vo _=>true
 |_=>false
def pick {R:Type} (ks:List Nat):Fr→(Fr→Option R)→Option R
 |[],K=>K []
 |(k,s)::r,K=>bif bp ks k&&!cY s then pick ks r fun r=>K ((k,s)::r) else pick ks r K
structure mG where
 ty:Nat
 dO:Bool
 xs:List MV
structure St where
 b9:List Nat
 cn:List Nat
 fr:Fr
 aV:List (Nat×mG)
def aL:List (Nat×mG)→Nat→Option mG
 |[],_=>none
 |(k,s)::r,t=>bif Nat.beq k t then some s else aL r t
def K4 {R:Type}:List (Nat×mG)→Nat→mG→(List (Nat×mG)→Option R)→Option R
 |[],t,v,K=>K [(t,v)]
 |(k,s)::r,t,v,K=>bif Nat.beq k t then K ((k,v)::r) else K4 r t v fun r=>K ((k,s)::r)
def kB (a b:IntKind):Bool:=decide (a=b)
def Vz:Kd→Kd→Bool
 | .b,.b=>true
 | .i k,.i k'=>kB k k'
 | .s,.s=>true
 | .l,.l=>true
 | .h,.h=>true
 | .raw,.raw=>true
 |_,_=>false
def zm:List Kd→List Kd→Bool
 |[],[]=>true
 |x::xs,y::ys=>Vz x y&&zm xs ys
 |_,_=>false
def VA (s t:MS):Bool:=(s.st==t.st)&&(zm s.lay t.lay&&(s.b==t.b))
def tz {R:Type} (f:Nat):List aE→(List aE→Option R)→Option R
 |[],K=>K []
 |l::r,K=>(match l with
  | .own g=>bif Nat.beq g f then tz f r fun r=>K (.un::r) else tz f r fun r=>K (.own g::r)
  |l=>tz f r fun r=>K (l::r))
def Gi {R:Type} (f:Nat) (s:Slot) (K:Slot→Option R):Option R:=match s with
 | .sc (.own g)=>bif Nat.beq g f then K (.sc .un) else K (.sc (.own g))
 | .ag cs=>tz f cs fun cs=>K (.ag cs)
 | .box cs=>tz f cs fun cs=>K (.box cs)
 | .ep g i o b cs=>bif Nat.beq g f then K (.sc .un) else K (.ep g i o b cs)
 |s=>K s
def ZG {R:Type} (f:Nat):Fr→(Fr→Option R)→Option R
 |[],K=>K []
 |(k,s)::r,K=>Gi f s fun s=>ZG f r fun r=>K ((k,s)::r)
section
variable {R:Type}
def mH (st:St) (l:aE) (K:MV→St→Option R):Option R:=
 match l with
 | .un=>none
 | .p m=>K m st
 | .hs x=>K (.h x) st
 | .nil=>K (.list []) st
 | .mp _ _=>none
 | .own f=>match aL st.aV f with
  |some o=>bif o.dO then K (.list o.xs) st else bif bp st.cn f then none else (match st with|⟨p,q,r,m⟩=>K4 m f ⟨o.ty,true,o.xs⟩ fun m=>K (.list o.xs) ⟨p,q,r,m⟩)
  |none=>none
def oN (st:St):List aE→(List MV→St→Option R)→Option R
 |[],K=>K [] st
 |l::r,K=>mH st l fun m st=>oN st r fun ms st=>K (m::ms) st
def lr (st:St) (s:Slot) (K:MV→St→Option R):Option R:=
 match s with
 | .sc l=>mH st l K
 | .ag cs=>oN st cs fun ms st=>K (.agg ms) st
 | .rp cs off=>bif Nat.beq off 0 then oN st cs fun ms st=>K (.rp ms) st else none
 |_=>none
def tA (st:St):List Slot→(List MV→St→Option R)→Option R
 |[],K=>K [] st
 |l::r,K=>lr st l fun m st=>tA st r fun ms st=>K (m::ms) st
end
def vq:List aE→Nat
 |[]=>0
 |k::r=>k.w+vq r
def cut:List aE→Nat→Option (List aE)
 |cs,0=>some cs
 |c::cs,n+1=>bif Nat.ble c.w (n+1) then cut cs (n+1-c.w) else none
 |_,_=>none
def I4:List aE→Nat→Option (List aE)
 |_,0=>some []
 |c::cs,n+1=>bif Nat.ble c.w (n+1) then (match I4 cs (n+1-c.w) with|some b=>some (c::b)|none=>none) else none
 |_,_=>none
def part (cs:List aE) (off n:Nat):Option (List aE):=
 match cut cs off with
 |some a=>I4 a n
 |none=>none
def over:List aE→List aE→Option (List aE)
 |[],cs=>some cs
 |v::vs,c::cs=>bif Nat.beq v.w c.w then (match over vs cs with|some r=>some (v::r)|none=>none) else none
 |_,[]=>none
def putAt:List aE→Nat→List aE→Option (List aE)
 |cs,0,vs=>over vs cs
 |c::cs,n+1,vs=>bif Nat.ble c.w (n+1) then (match putAt cs (n+1-c.w) vs with|some r=>some (c::r)|none=>none) else none
 |_,_,_=>none
def app {α:Type}:List α→List α→Option (List α)
 |[],l=>some l
 |x::r,l=>(match app r l with|some q=>some (x::q)|none=>none)
def I5:aE→Bool
 | .un=>true
 | .mp _ _=>true
 |_=>false
def fa:List aE→Bool
 |[.mp _ _]=>true
 |_=>false
def AU:Slot→Bool
 | .box cs=>!fa cs
 |_=>false
def C0 {R:Type} (ok:Nat→Bool) (r0:Fr):Fr→Fr→(Fr→Option R)→Option R
 |[],fr,K=>K fr
 |(t,s)::r,fr,K=>match s with
  | .ptr root off=>bif ok t&&(!vm root&&(AU (ap r0 root)&&(AU (ap fr root)&&!cB (ap fr t)))) then FA fr t (.ptr root off) fun fr=>C0 ok r0 r fr K else C0 ok r0 r fr K
  |_=>C0 ok r0 r fr K
def kh:List aE→Bool
 |[.mp s _]=>!zl s
 |_=>false
def sJ:List aE→Bool
 |[]=>false
 |l::r=>bif I5 l then true else sJ r
def YZ {R:Type} (f:Nat):Fr→(Fr→Option R)→Option R
 |[],K=>K []
 |(k,s)::r,K=>(match s with
  | .ep g i o b cs=>bif Nat.beq g f then YZ f r fun r=>K ((k,.sc .un)::r) else YZ f r fun r=>K ((k,.ep g i o b cs)::r)
  |s=>YZ f r fun r=>K ((k,s)::r))
inductive LK where
 |k (x:Kd)
 |own (f:Nat) (ty:Nat) (dO:Bool)
inductive OK where
 |sc (l:LK)
 |ag (ls:List LK)
 |box (ls:List LK)
 |mp (s:MS)
 |pt (root off:Nat)
structure mI where
 b9:List Nat
 cn:List Nat
 outs:List (Nat×OK)
 exo:List (Nat×List (Nat×OK))
 dO:List Nat
instance:Inhabited mI:=⟨⟨[],[],[],[],[]⟩⟩
def PZ:List (Nat×List (Nat×OK))→Nat→List (Nat×OK)
 |[],_=>[]
 |(k,l)::r,e=>bif Nat.beq k e then l else PZ r e
def mI.ex (h:mI) (e:Nat):List (Nat×OK):=PZ h.exo e
def MR:List (Nat×List (Nat×OK))→List (Nat×OK)
 |[]=>[]
 |(_,l)::r=>l++MR r
def mI.all (h:mI):List (Nat×OK):=h.outs++MR h.exo
structure Ctx where
 ti:Nat→Option TI
 key:Nat→Nat
 g:Nat→List MV→Option MV
 fK:Nat→Bool
 fresh:Nat→Bool
 pB:Nat→Nat
 sig:Nat→Option (Nat×List LK)
 par:List (Nat×Nat)
 n:Nat
 bs:List Nat
 fl:List Nat
 fz:Nat→List Nat
 fk:Nat→Option FloatKind
 mt:Nat→Option (Nat×Bool)
 ord:Nat→List Nat
 xu:Nat→mI
 wP:Nat→mI
 sF:Nat→mI
 N6:Nat→Bool
 dyn:List Nat
def Ctx.tv (c:Ctx) (t:Nat):Option TI:=match c.ti t with|some I=>(match I.cH with|[]=>some I|_=>none)|none=>none
def wQ:Value→Slot
 | .bool b=> .sc (.p (.b b))
 | .int k n=> .sc (.p (.i k n))
 | .string s=> .sc (.p (.s s.data.toList))
 | .slice none 0 0=> .sc .nil
 | .float k b=> .sc (.p (.raw (.float k b)))
 | .complex k a b=> .sc (.p (.raw (.complex k a b)))
 | .pointer none=> .sc (.p (.raw (.pointer none)))
 | .nilFunc=> .sc (.p (.raw .nilFunc))
 | .nilIface=> .sc (.p (.raw .nilIface))
 |_=> .sc .un
def aH (c:Ctx) (st:St):Operand→Slot
 | .tmp t=>match plk c.par t with
  |some q=>bif vm q&&Nat.beq (posOf q) t then (match ap st.fr q with| .box cs=>bif fa cs then .sc .un else .ptr q (I3 q)|_=> .sc .un) else .sc .un
  |none=>match ap st.fr t with
   | .box cs=>bif vm t then .sc .un else bif kh cs then .vp t else .ptr t 0
   | .vo cs=> .rp cs 0
   |s=>s
 | .const v=>wQ v
 | .func f=> .sc (.p (.func (c.key f) []))
 | .global _=> .sc .un
def iC (c:Ctx) (st:St):List Operand→List Slot
 |[]=>[]
 |o::r=>aH c st o::iC c st r
section
variable {R:Type}
def wr (st:St) (d:Nat) (s:Slot) (K:St→Option R):Option R:=
 bif bp st.b9 d then none else (match st with|⟨p,q,r,m⟩=>force s fun s=>FA r d s fun r=>K ⟨p,q,r,m⟩)
def bc (c:Ctx) (st:St) (d:Option Nat) (s:Slot) (K:St→Option R):Option R:=
 match d with
 |some d=>bif vm d||(Nat.ble c.n d||cB (ap st.fr d)) then none else wr st d s K
 |none=>K st
def jb (st:St) (f:Nat) (o:mG) (K:St→Option R):Option R:=
 bif bp st.cn f then none else (match st with|⟨p,q,r,m⟩=>ZG f r fun r=>K4 m f o fun m=>K ⟨p,q,r,m⟩)
def jt (I:TI) (cs:List aE) (off:Nat) (K:Slot→Option R):Option R:=
 bif I.st then (match part cs off I.size with|some a=>K (.ag a)|none=>none)
 else (match cut cs off with|some (l::_)=>bif Nat.beq l.w I.size then K (.sc l) else none|_=>none)
def ldK (st:St) (I:TI) (a:Slot) (K:Slot→Option R):Option R:=
 match a with
 | .ptr root off=>match ap st.fr root with
  | .box cs=>bif fa cs then none else jt I cs off K
  |_=>none
 | .rp cs off=>jt I cs off K
 | .ep f _ off _ cs=>(match aL st.aV f with|some _=>jt I cs off K|none=>none)
 | .hp root off i=>bif I.st||!Nat.beq I.size 1 then none else (match ap st.fr root with
  | .box cs=>bif fa cs then none else (match cut cs off with|some (.hs x::_)=>K (.sc (.p (.i .u8 (x.l.getD i 0).toNat)))|_=>none)
  |_=>none)
 |_=>none
def aK:Slot→List aE
 | .sc l=>[l]
 | .ag cs=>cs
 |_=>[]
def bG:List aE→Option (List MV)
 |[]=>some []
 |l::r=>match l,bG r with
  | .p m,some q=>some (m::q)
  | .hs x,some q=>some (.h x::q)
  |_,_=>none
def pi:List aE→List MV→Option (List aE)
 |[],[]=>some []
 | .hs x::r,_::ms=>(match pi r ms with|some q=>some (.hs x::q)|none=>none)
 |_::r,m::ms=>(match pi r ms with|some q=>some (.p m::q)|none=>none)
 |_,_=>none
def rZ (b:Bool) (cs:List MV):Option MV:=match b,cs with
 |false,[m]=>some m
 |true,cs=>some (.agg cs)
 |_,_=>none
def isByte (n:Int):Bool:=decide (n=((UInt8.ofNat n.toNat).toNat:Int))
def stK (st:St) (I:TI) (a v:Slot) (K:St→Option R):Option R:=
 bif sJ (aK v)||!Nat.beq (vq (aK v)) I.size then none else
 match a with
 | .ptr root off=>match ap st.fr root with
  | .box cs=>bif fa cs then none else (match putAt cs off (aK v) with|some ir=>wr st root (.box ir) K|none=>none)
  |_=>none
 | .hp root off i=>match ap st.fr root,v with
  | .box cs,.sc (.p n)=>bif fa cs then none else (match cut cs off with
   |some (.hs x::_)=>gI .u8 n fun n=>cb (isByte n) (match putAt cs off [.hs (x.put i (UInt8.ofNat n.toNat))] with|some ir=>wr st root (.box ir) K|none=>none)
   |_=>none)
  |_,_=>none
 | .ep f i off b cs=>oN st (aK v) fun ms st=>match aL st.aV f with
  |some o=>bif o.dO then none else
   (match pi (aK v) ms with
   |some vs=>(match putAt cs off vs with
    |some ir=>(match bG ir with
     |some ms'=>(match rZ b ms' with
      |some x=>bif bp st.cn f then none else
       (match st with|⟨p,q,r,m⟩=>YZ f r fun r=>K4 m f ⟨o.ty,false,o.xs.set i x⟩ fun m=>K ⟨p,q,r,m⟩)
      |none=>none)
     |none=>none)
    |none=>none)
   |none=>none)
  |none=>none
 |_=>none
def Hs (I:TI) (x:MV) (K:List aE→Option R):Option R:=
 bif I.st then gA x fun cs=>rm I.lay cs K
 else match I.lay with
  |[k]=>jr k x fun x=>K [x]
  |_=>none
def BI (I:TI) (x:MV) (K:Slot→Option R):Option R:=
 bif I.st then gA x fun cs=>rm I.lay cs fun cs=>K (.ag cs)
 else match I.lay with
  |[k]=>jr k x fun x=>K (.sc x)
  |_=>none
def C1 (c:Ctx):List Nat→List MV→(List Slot→Option R)→Option R
 |[],l,K=>gN l (K [])
 |t::ts,l,K=>match c.tv t with
  |some I=>gC l fun m r=>BI I m fun s=>C1 c ts r fun ss=>K (s::ss)
  |none=>none
def pK (c:Ctx) (I:TI) (x:MV) (K:Slot→Option R):Option R:=
 match I.cH with
 |[]=>BI I x K
 |ts=>gT x fun vs=>C1 c ts vs fun ss=>K (.dr ss)
def AV:aE→aE→Option Bool
 | .p (.b x),.p (.b y)=>some (decide (x=y))
 | .p (.i k x),.p (.i k' y)=>bif decide (k=k') then some (decide (x=y)) else none
 | .p (.s x),.p (.s y)=>some (decide (x=y))
 | .hs x,.hs y=>some (decide (x=y))
 |_,_=>none
def iD:List aE→List aE→Option Bool
 |[],[]=>some true
 |[x],[y]=>AV x y
 |x::xs,y::ys=>match AV x y,iD xs ys with
  |some a,some b=>some (a&&b)
  |_,_=>none
 |_,_=>none
def Ht (op:BinOp) (x y:List UInt8):Option MV:=
 match op with
 | .eql=>some (.b (decide (x=y)))
 | .neq=>some (.b (!decide (x=y)))
 | .lss=>some (.b (Op.bytesLess x y))
 | .gtr=>some (.b (!(Op.bytesLess x y||decide (x=y))))
 | .leq=>some (.b (Op.bytesLess x y||decide (x=y)))
 | .geq=>some (.b (!Op.bytesLess x y))
 |_=>none
def TJ (k:IntKind) (x y:Int):Int:=k.wrap ((BitVec.ofInt k.bits x&&&BitVec.ofInt k.bits y).toNat:Int)
def bOr (k:IntKind) (x y:Int):Int:=k.wrap ((BitVec.ofInt k.bits x|||BitVec.ofInt k.bits y).toNat:Int)
def K5 (k:IntKind) (x y:Int):Int:=k.wrap ((BitVec.ofInt k.bits x^^^BitVec.ofInt k.bits y).toNat:Int)
def MU (op:BinOp) (k:IntKind) (x y:Int):Option MV:=
 match op with
 | .add=>some (.i k (k.wrap (x+y)))
 | .sub=>some (.i k (k.wrap (x-y)))
 | .mul=>some (.i k (k.wrap (x *y)))
 | .and=>some (.i k (TJ k x y))
 | .or=>some (.i k (bOr k x y))
 | .xor=>some (.i k (K5 k x y))
 | .eql=>some (.b (decide (x=y)))
 | .neq=>some (.b (!decide (x=y)))
 | .lss=>some (.b (decide (x<y)))
 | .leq=>some (.b (decide (x≤y)))
 | .gtr=>some (.b (decide (y<x)))
 | .geq=>some (.b (decide (y≤x)))
 |_=>none
def lX:Kd→aE→Bool
 | .b,.p (.b _)=>true
 | .i k,.p (.i k' _)=>decide (k'=k)
 | .s,.p (.s _)=>true
 | .h,.hs _=>true
 |_,_=>false
def eG:List Kd→List aE→Bool
 |[],[]=>true
 |k::ks,l::ls=>bif lX k l then eG ks ls else false
 |_,_=>false
def lu (st:Bool):Slot→Bool
 | .ag _=>st
 | .sc _=>!st
 |_=>false
def ZH (op:BinOp) (a b:Nat):Option Nat:=match op with
 | .add=>FloatKind.f64.format.add a b
 | .sub=>FloatKind.f64.format.sub a b
 | .mul=>FloatKind.f64.format.mul a b
 |_=>none
def WE (oI:Option TI) (op:BinOp) (x y:Slot) (K:Slot→Option R):Option R:=
 match x,y with
 | .sc (.p (.i k a)),.sc (.p (.i k' b))=>
  (match op with
   | .quo=>bif decide (k=k') then cb (!decide (b=0)) (K (.sc (.p (.i k (k.wrap (a.tdiv b)))))) else none
   | .rem=>bif decide (k=k') then cb (!decide (b=0)) (K (.sc (.p (.i k (a.tmod b))))) else none
   | .shr=>cb (decide (0≤b)) (K (.sc (.p (.i k (a.fdiv (2^min b.toNat k.bits))))))
   | .shl=>cb (decide (0≤b)) (K (.sc (.p (.i k (k.wrap (a *2^min b.toNat k.bits))))))
   |_=>bif decide (k=k') then (match MU op k a b with|some m=>K (.sc (.p m))|none=>none) else none)
 | .sc (.p (.s a)),.sc (.p (.s b))=>(match op with
  | .add=>cb (decide (a.length+b.length≤2^46)) (K (.sc (.p (.s (a++b)))))
  |_=>(match Ht op a b with|some m=>K (.sc (.p m))|none=>none))
 | .sc (.p (.raw (.float .f64 a))),.sc (.p (.raw (.float .f64 b)))=>bd (ZH op a b) fun r=>K (.sc (.p (.raw (.float .f64 r))))
 |x,y=>match oI with
  |some I=>bif eG I.lay (aK x)&&eG I.lay (aK y)&&(lu I.st x&&lu I.st y) then (match op with
   | .eql=>(match iD (aK x) (aK y) with|some b=>K (.sc (.p (.b b)))|none=>none)
   | .neq=>(match iD (aK x) (aK y) with|some b=>K (.sc (.p (.b (!b))))|none=>none)
   |_=>none) else none
  |none=>none
def sliceB (lo hi:Option Slot) (len:Nat) (K:Nat→Nat→Option R):Option R:=
 match lo,hi with
 |none,none=>K 0 len
 |some (.sc (.p (.i _ l))),none=>cb (decide (0≤l∧l≤(len:Int)∧(len:Int)≤(len:Int))) (K l.toNat (Int.toNat (len:Int)))
 |none,some (.sc (.p (.i _ h)))=>cb (decide (0≤(0:Int)∧(0:Int)≤h∧h≤(len:Int))) (K (Int.toNat 0) h.toNat)
 |some (.sc (.p (.i _ l))),some (.sc (.p (.i _ h)))=>cb (decide (0≤l∧l≤h∧h≤(len:Int))) (K l.toNat h.toNat)
 |_,_=>none
def kP (c:Ctx) (st:St):Option Operand→Option Slot
 |some o=>some (aH c st o)
 |none=>none
def vu:List aE→Option (List MV)
 |[]=>some []
 |l::r=>match l,vu r with
  | .p m,some q=>some (m::q)
  | .hs x,some q=>some (.h x::q)
  | .nil,some q=>some (.list []::q)
  |_,_=>none
def P0 (d:Nat) (st:St) (I E:TI) (x y:Slot) (K:Slot→St→Option R):Option R:=match x,y with
 | .sc (.p (.i _ n)),.sc (.p (.i _ m))=>bif Nat.ble 1 E.bytes then cb (decide ((0:Int)≤n∧n=m∧n *E.bytes≤2^46)) (match vu E.zero with
  |some zs=>(match rZ E.st zs with
   |some z=>jb st d ⟨I.elem,false,List.replicate n.toNat z⟩ fun st=>K (.sc (.own d)) st
   |none=>none)
  |none=>none) else none
 |_,_=>none
def TI.wR (I:TI):Bool:=match I.st,I.lay with|false,[.l]=>true|_,_=>false
def TI.PH (I:TI):Bool:=match I.st,I.lay with|false,[.s]=>true|_,_=>false
def N7 (E:TI):Bool:=match E.st,E.lay with
 |false,[.i k]=>decide (k= .u8)
 |_,_=>false
def I6 (l:List UInt8):List MV:=l.map fun b=> .i .u8 (b.toNat:Int)
def K6 (c:Ctx) (u:Nat) (E:TI) (x:Slot) (K:List MV→Option R):Option R:=match c.tv u,x with
 |some T,.sc (.p (.s l))=>bif T.PH&&N7 E then K (I6 l) else none
 |_,_=>none
def Hu (I E:TI) (st:St) (x:Slot) (K:List MV→Option R):Option R:=match x with
 | .sc (.p (.list xs))=>cb (mF E.size xs) (K xs)
 | .sc .nil=>K []
 | .sc (.own f)=>(match aL st.aV f with|some o=>bif Nat.beq o.ty I.elem then K o.xs else none|none=>none)
 |_=>none
def yn (c:Ctx) (st:St) (I:TI):List (Nat×Operand)→List aE→Option (List aE)
 |[],cs=>some cs
 |(i,o)::r,cs=>match I.IZ[i]?,I.N0[i]? with
  |some q,some y=>(match c.tv y with
   |some J=>bif sJ (aK (aH c st o))||!Nat.beq (vq (aK (aH c st o))) J.size then none else
    (match putAt cs q (aK (aH c st o)) with|some ir=>yn c st I r ir|none=>none)
   |none=>none)
  |_,_=>none
def C2 (c:Ctx) (st:St):List (Nat×Operand)→jq→(jq→Option R)→Option R
 |[],x,K=>K x
 |(i,o)::r,x,K=>match aH c st o with
  | .sc (.p m)=>bif Nat.ble 32 i then none else gI .u8 m fun n=>cb (isByte n) (C2 c st r (x.put i (UInt8.ofNat n.toNat)) K)
  |_=>none
def P1 (c:Ctx) (st:St):List (Nat×Operand)→Nat→(List MV→St→Option R)→Option R
 |[],_,K=>K [] st
 |(i,o)::r,n,K=>bif Nat.beq i n then lr st (aH c st o) fun m st=>P1 c st r (n+1) fun ms st=>K (m::ms) st else none
def C3 (c:Ctx) (st:St):List Operand→(List MV→St→Option R)→Option R
 |[],K=>K [] st
 |o::r,K=>match aH c st o with
  | .ptr root 0=>(match ap st.fr root with
   | .box cs=>bif sJ cs||vm root then none else oN st cs fun ms st=>(match pi cs ms with|some ir=>wr st root (.vo ir) fun st=>C3 c st r fun xs st=>K (.rp ms::xs) st|none=>none)
   |_=>none)
  | .rp cs 0=>oN st cs fun ms st=>C3 c st r fun xs st=>K (.rp ms::xs) st
  |_=>none
def C4 (c:Ctx) (k:Nat) (st:St) (s:Slot) (K:MV→St→Option R):Option R:=match s with
 | .sc (.own f)=>(match aL st.aV f with
  |some o=>bif o.dO||!Nat.beq o.ty (c.pB k) then none else jb st f ⟨o.ty,true,[]⟩ fun st=>K (.fresh o.xs) st
  |none=>none)
 | .sc .nil=>(match c.tv (c.pB k) with|some _=>K (.fresh []) st|none=>none)
 |_=>none
def MW (c:Ctx) (k:Nat) (st:St) (ss:List Slot) (K:List MV→St→Option R):Option R:=
 bif c.fK k then (match ss with
  |[s0,s1,s2]=>(match s2 with
   | .sc (.p m2)=>lr st s1 fun m1 st=>C4 c k st s0 fun m0 st=>K [m0,m1,m2] st
   |s2=>lr st s1 fun m1 st=>C4 c k st s0 fun m0 st=>C4 c k st s2 fun m2 st=>K [m0,m1,m2] st)
  |_=>none)
 else tA st ss K
def ZI (x y:Int):Int:=if y<x then y else x
def imax (x y:Int):Int:=if y>x then y else x
def P4 (mx:Bool) (k:IntKind):Int→List Slot→Option MV
 |x,[]=>some (.i k x)
 |x,.sc (.p (.i k' y))::r=>bif decide (k'=k) then P4 mx k (bif mx then imax x y else ZI x y) r else none
 |_,_=>none
def K7 (mx:Bool):List Slot→Option MV
 | .sc (.p (.i k n))::r=>P4 mx k n r
 |_=>none
def P5 (c:Ctx) (d:Nat) (st:St) (f:Nat) (ms:List MV) (I:TI) (K:Slot→St→Option R):Option R:=
 bd (c.g f ms) fun r=>bif c.fresh f then bif Nat.beq (c.pB f) 0 then Tr r fun xs=>K (.sc (.p (.clip xs))) st else gF r fun xs=>bif !Nat.beq I.elem (c.pB f) then none else jb st d ⟨I.elem,false,xs⟩ fun st=>(bif bp c.bs d then mH st (.own d) fun m st=>K (.sc (.p m)) st else K (.sc (.own d)) st) else pK c I r fun s=>K s st
def WG (s:Slot) (K:Slot→Option R):Option R:=match s with
 | .ptr r o=>K (.ptr r o)
 | .rp cs o=>K (.rp cs o)
 |_=>none
def P6 (x y z:Slot) (K:Slot→Option R):Option R:=match x with
 | .sc (.p (.b v))=>(match y,z with
  | .sc (.p (.b p)),.sc (.p (.b q))=>K (.sc (.p (.b (bif v then p else q))))
  |p,q=>match v with|true=>K p|false=>K q)
 |_=>none
def WH (I:TI) (s:Slot) (K:Slot→Option R):Option R:=match s with
 | .sc l=>bif I.st||I5 l||!Nat.beq l.w I.size then none else K (.box [l])
 | .ag cs=>bif I.st&&!sJ cs&&Nat.beq (vq cs) I.size then K (.box cs) else none
 |_=>none
def unK (op:UnOp) (s:Slot) (K:Slot→Option R):Option R:=match op,s with
 | .not,.sc (.p (.b v))=>K (.sc (.p (.b (!v))))
 | .neg,.sc (.p (.i k n))=>K (.sc (.p (.i k (k.wrap (0-n)))))
 |_,_=>none
def P7 (I:TI) (fk:Option FloatKind) (s:Slot) (K:Slot→Option R):Option R:=match I.st,I.cH,I.lay,s with
 |false,[],[.i k],.sc (.p (.i _ n))=>K (.sc (.p (.i k (k.wrap n))))
 |false,[],[.s],.sc (.p (.s l))=>K (.sc (.p (.s l)))
 |false,[],[.i k],.sc (.p (.raw (.float .f64 a)))=>bd ((FloatKind.decode .f64 a).toInt .zero) fun n=>cb (decide (k.min≤n∧n≤k.max)) (K (.sc (.p (.i k n))))
 |false,[],[.raw],.sc (.p (.i _ n))=>(match fk with
  |some .f64=>K (.sc (.p (.raw (.float .f64 (FloatKind.nearest .f64 n)))))
  |_=>none)
 |_,_,_,_=>none
def K8 (c:Ctx) (I:TI) (st:St) (s:Slot) (lo hi:Option Slot) (K:Slot→St→Option R):Option R:=match s with
 | .sc (.p (.s l))=>bif I.PH then sliceB lo hi l.length fun a b=>K (.sc (.p (.s ((l.take b).drop a)))) st else none
 | .sc (.p (.list l))=>bif I.wR then (match c.tv I.elem with
  |some E=>(match lo with
   |none=>sliceB none hi l.length fun a b=>K (.sc (.p (.list ((l.take b).drop a)))) st
   |some lo=>cb (mF E.size l) (sliceB (some lo) hi l.length fun a b=>K (.sc (.p (.list ((l.take b).drop a)))) st))
  |none=>none) else none
 | .sc (.own f)=>(match aL st.aV f with
  |some o=>bif I.wR&&Nat.beq o.ty I.elem then mH st (.own f) fun _ st=>sliceB lo hi o.xs.length fun a b=>K (.sc (.p (.list ((o.xs.take b).drop a)))) st else none
  |none=>none)
 | .sc .nil=>bif I.wR then sliceB lo hi 0 fun _ _=>K (.sc .nil) st else none
 |_=>none
def P8 (I:TI) (s h m:Slot) (K:Slot→Option R):Option R:=match s,h,m with
 | .sc (.p (.list l)),.sc (.p (.i .i64 n)),.sc (.p (.i .i64 n'))=>bif I.wR then cb (decide (n=(l.length:Int)∧n'=(l.length:Int))) (K (.sc (.p (.clip l)))) else none
 |_,_,_=>none
def P9 (st:St) (I:TI) (f:Nat) (s:Slot) (K:Slot→Option R):Option R:=match I.st,I.IZ[f]?,s with
 |true,some q,.ptr r o=>K (.ptr r (o+q))
 |true,some q,.rp cs o=>K (.rp cs (o+q))
 |true,some q,.ep g i o b cs=>(match aL st.aV g with|some _=>K (.ep g i (o+q) b cs)|none=>none)
 |_,_,_=>none
def WI (c:Ctx) (I:TI) (f:Nat) (s:Slot) (K:Slot→Option R):Option R:=match I.st,I.IZ[f]?,I.N0[f]?,s with
 |true,some q,some y,.ag cs=>(match c.tv y with|some J=>jt J cs q K|none=>none)
 |_,_,_,_=>none
def WJ (c:Ctx) (st:St) (I E:TI) (x i:Slot) (K:Slot→Option R):Option R:=match x,i with
 | .sc (.p (.list xs)),.sc (.p (.i _ n))=>bif I.wR then idx xs n fun x=>Hs E x fun cs=>K (.rp cs 0) else none
 | .sc (.own f),.sc (.p (.i _ n))=>(match aL st.aV f with
  |some o=>bif I.wR then idx o.xs n fun x=>Hs E x fun cs=>K (.ep f n.toNat 0 E.st cs) else none
  |none=>none)
 | .ptr r o,.sc (.p (.i _ n))=>bif I.st then none else (match I.lay with|[.h]=>cb (decide ((0:Int)≤n∧n<32)) (K (.hp r o n.toNat))|_=>none)
 |_,_=>none
def ixK (I:TI) (x i:Slot) (K:Slot→Option R):Option R:=match I.st,I.lay,x,i with
 |false,[.s],.sc (.p (.s l)),.sc (.p (.i _ n))=>cb (decide ((0:Int)≤n∧n<(l.length:Int))) (K (.sc (.p (.i .u8 (l.getD n.toNat 0).toNat))))
 |false,[.h],.sc (.hs x),.sc (.p (.i _ n))=>cb (decide ((0:Int)≤n∧n<32)) (K (.sc (.p (.i .u8 (x.l.getD n.toNat 0).toNat))))
 |_,_,_,_=>none
def WK (s:Slot) (k:Nat) (K:Slot→Option R):Option R:=match s with
 | .dr vs=>(match vs[k]? with|some s=>K s|none=>none)
 |_=>none
def Qa (I:TI) (st:St) (ss:List Slot) (K:Slot→Option R):Option R:=match ss with
 |[.sc (.p (.s l))]=>bif I.PH then K (.sc (.p (.i .i64 l.length))) else none
 |[.sc (.p (.list l))]=>bif I.wR then K (.sc (.p (.i .i64 l.length))) else none
 |[.sc .nil]=>bif I.wR then K (.sc (.p (.i .i64 0))) else none
 |[.sc (.own f)]=>bif I.wR then (match aL st.aV f with|some o=>K (.sc (.p (.i .i64 o.xs.length)))|none=>none) else none
 |_=>none
def N8 (pb:Bool) (d:Nat) (st:St) (I E:TI) (s:Slot) (ys:List MV) (K:Slot→St→Option R):Option R:=bif Nat.ble 1 E.bytes then (match s with
 | .sc .nil=>cb (decide (ys.length *E.bytes≤2^46)) (jb st d ⟨I.elem,false,ys⟩ fun st=>K (.sc (.own d)) st)
 | .sc (.own f)=>(match aL st.aV f with
  |some w=>cb (decide ((w.xs.length+ys.length) *E.bytes≤2^46)) (bif Nat.beq w.ty I.elem then jb st f ⟨w.ty,w.dO,w.xs++ys⟩ fun st=>K (.sc (.own f)) st else none)
  |none=>none)
 | .sc (.p (.clip xs))=>cb (mF E.size xs) (cb (decide (0<ys.length∧(xs.length+ys.length) *E.bytes≤2^46)) (jb st d ⟨I.elem,false,xs++ys⟩ fun st=>bif pb then mH st (.own d) fun m st=>K (.sc (.p m)) st else K (.sc (.own d)) st))
 |_=>none) else none
def Hv (c:Ctx) (st:St) (I:TI) (f:Slot) (ss:List Slot) (K:Slot→St→Option R):Option R:=match f with
 | .sc (.p m)=>MQ m fun f cG=>cb (!c.fK f)<|tA st ss fun ms st=>bd (c.g f (ms++cG)) fun r=>pK c I r fun s=>K s st
 |_=>none
def AW:MV→MV→Bool
 | .b x,.b y=>decide (x=y)
 | .i k x,.i k' y=>decide (k=k')&&decide (x=y)
 | .s x,.s y=>decide (x=y)
 | .h x,.h y=>decide (x=y)
 |_,_=>false
def dK:List MV→List MV→Bool
 |[],[]=>true
 |x::xs,y::ys=>AW x y&&dK xs ys
 |_,_=>false
def iF:MV→List MV
 | .dr (.agg k::_)=>k
 |_=>[]
def TL:MV→MV
 | .dr [_,v]=>v
 |_=> .b false
def b8:List MV→List MV→Nat
 |[],_=>0
 |e::r,ks=>bif dK (iF e) ks then 0 else b8 r ks+1
def asI:MV→Int
 | .i _ n=>n
 |_=>0
def asB:MV→Bool
 | .b x=>x
 |_=>false
def lE (es:List MV) (ks:List MV):Int:=match es[b8 es ks]? with|some e=>asI (TL e)|none=>0
def VB (es:List MV) (ks:List MV):Bool:=match es[b8 es ks]? with|some e=>asB (TL e)|none=>false
def lv (es ks:List MV) (z:MV):List MV:=bif Nat.beq (b8 es ks) es.length then es++[.dr [.agg ks,z]] else es
def qy (es:List MV) (i:Nat) (v:MV):List MV:=match es[i]? with|some e=>es.set i (.dr [.agg (iF e),v])|none=>es
def ik (b:Bool):MV:=bif b then .b false else .i .i64 0
def r4 (c:Ctx) (t:Nat):Option MS:=match c.mt t with
 |some (kt,b)=>(match c.tv kt with|some I=>bif zl ⟨I.st,I.lay,b⟩ then none else some ⟨I.st,I.lay,b⟩|none=>none)
 |none=>none
def I7 (s:MS) (k:Slot) (K:List MV→Option R):Option R:=
 bif eG s.lay (aK k)&&lu s.st k then (match bG (aK k) with|some ks=>K ks|none=>none) else none
def FB (st:St) (s:MS) (m:Slot) (K:Nat→List MV→Option R):Option R:=match m with
 | .vp r=>(match ap st.fr r with| .box [.mp s' es]=>bif VA s s'&&!zl s' then K r es else none|_=>none)
 |_=>none
def N9 (b:Bool) (s:Slot) (K:MV→Option R):Option R:=match b,s with
 |true,.sc (.p (.b x))=>K (.b x)
 |false,.sc (.p (.i .i64 n))=>K (.i .i64 n)
 |_,_=>none
def BJ (st:St) (r:Nat) (s:MS) (es:List MV) (K:St→Option R):Option R:=wr st r (.box [.mp s es]) K
def isLT (c:Ctx) (y:Nat):Bool:=match c.tv y with|some Y=>Y.wR|none=>false
def kQ (c:Ctx) (o:Oper):Bool:=match o.op with
 | .assign (.tmp _)=>(match c.mt o.type with|some _=>true|none=>false)
 |_=>false
def CS (c:Ctx) (o:Oper) (st:St) (x:Operand) (K:Slot→St→Option R):Option R:=match x,c.mt o.type with
 | .tmp t,some _=>(match ap st.fr t with
  | .box cs=>bif fa cs then bif bp st.b9 t||vm t then none else (match st with|⟨p,q,r,m⟩=>sI [t] r fun r=>K (.box cs) ⟨p,q,r,m⟩) else K (aH c st x) st
  |_=>K (aH c st x) st)
 |_,_=>K (aH c st x) st
def AX (s:MS) (es ks:List MV):Slot:=bif s.b then .sc (.p (.b (VB es ks))) else .sc (.p (.i .i64 (lE es ks)))
def VC (c:Ctx) (st:St) (t:Nat) (m k:Slot) (K:Slot→Option R):Option R:=match r4 c t with
 |some s=>FB st s m fun _ es=>I7 s k fun ks=>K (AX s es ks)
 |none=>none
def VD (c:Ctx) (st:St) (t:Nat) (m k v:Slot) (K:St→Option R):Option R:=match r4 c t with
 |some s=>FB st s m fun r es=>I7 s k fun ks=>N9 s.b v fun v=>BJ st r s (qy (lv es ks (ik s.b)) (b8 es ks) v) K
 |none=>none
def Qb (c:Ctx) (st:St) (t:Nat) (m k:Slot) (K:Slot→St→Option R):Option R:=match r4 c t with
 |some s=>FB st s m fun r es=>I7 s k fun ks=>BJ st r s (lv es ks (ik s.b)) fun st=>K (.dr [AX s es ks,.sc (.p (.i .i64 (b8 es ks)))]) st
 |none=>none
def ZJ (c:Ctx) (st:St) (t:Nat) (m i v:Slot) (K:St→Option R):Option R:=match r4 c t with
 |some s=>FB st s m fun r es=>(match i with
  | .sc (.p (.i .i64 n))=>cb (decide (0≤n∧n.toNat<es.length)) (N9 s.b v fun v=>BJ st r s (qy es n.toNat v) K)
  |_=>none)
 |none=>none
def VE (es:List MV):List UInt8:=match es with|[.s l,.i .i64 _]=>l|_=>[]
def xH (es:List MV):Int:=match es with|[.s _,.i .i64 n]=>n|_=>0
def TM (es:List MV):Bool:=decide (xH es<((VE es).length:Int))
def K9 (es:List MV):Int:=(Utf8.decode ⟨(VE es).toArray⟩ (xH es).toNat).1
def La (es:List MV):List MV:=[.s (VE es),.i .i64 (xH es+(Utf8.decode ⟨(VE es).toArray⟩ (xH es).toNat).2)]
def itK (st:St) (x:Slot) (K:Slot→St→Option R):Option R:=match x with
 | .ptr t 0=>(match ap st.fr t with
  | .box [.mp s es]=>bif zl s then
   bk (TM es) (wr st t (.box [.mp s (La es)]) fun st=>K (.dr [.sc (.p (.b true)),.sc (.p (.i .i64 (xH es))),.sc (.p (.i .i32 (K9 es)))]) st)
    (K (.dr [.sc (.p (.b false))]) st)
   else none
  |_=>none)
 |_=>none
def byK (m:MV) (K:UInt8→Option R):Option R:=gI .u8 m fun n=>cb (isByte n) (K (UInt8.ofNat n.toNat))
def Hw:List MV→(List UInt8→Option R)→Option R
 |[],K=>K []
 |m::r,K=>byK m fun b=>Hw r fun l=>K (b::l)
def Lb (I:TI) (x:Slot) (K:Slot→Option R):Option R:=match x with
 | .sc (.p (.s l))=>bif I.PH then K (.box [.mp MS.it [.s l,.i .i64 0]]) else none
 |_=>none
def Qc (c:Ctx) (st:St) (Y I:TI) (x:Slot) (K:Slot→Option R):Option R:=match c.tv Y.elem with
 |some E=>bif I.PH&&N7 E then (match x with
  | .sc (.p (.list xs))=>Hw xs fun l=>K (.sc (.p (.s l)))
  | .sc .nil=>K (.sc (.p (.s [])))
  | .sc (.own f)=>(match aL st.aV f with
   |some o=>bif Nat.beq o.ty Y.elem then Hw o.xs fun l=>K (.sc (.p (.s l))) else none
   |none=>none)
  |_=>none) else none
 |none=>none
def still (c:Ctx) (o:Oper):Bool:=match o.op,o.dst with
 | .load _ _,some d=>bp c.fl d
 |_,_=>false
def b6:List LK→List Nat
 |[]=>[]
 | .own f _ _::r=>f::b6 r
 |_::r=>b6 r
def meets:List Nat→List Nat→Bool
 |[],_=>false
 |k::r,l=>bif bp l k then true else meets r l
def il (c:Ctx):List LK→Bool
 |[]=>true
 | .own _ ty _::r=>(match c.tv ty with|some _=>il c r|none=>false)
 |_::r=>il c r
def lz (ps:List (Nat×Nat)) (f g:Nat):Bool:=match ps with
 |[]=>true
 |(a,b)::r=>(bif Nat.beq a f then Nat.beq b g&&!Nat.beq g 0 else (bif Nat.beq b g then Nat.beq g 0 else true))&&lz r f g
def Hx (st:St) (ps:List (Nat×Nat)) (k:LK) (l:aE) (K:MV→List (Nat×Nat)→Option R):Option R:=
 match k,l with
 | .k .l,.nil=>K (.list []) ps
 | .k .h,.hs x=>K (.h x) ps
 | .k x,.p m=>jr x m fun _=>K m ps
 | .own f ty dO,.own g=>match aL st.aV g with
  |some o=>bif !Nat.beq o.ty ty||(o.dO&&!dO)||bp st.cn g||!lz ps f (g+1) then none else K (.list o.xs) ((f,g+1)::ps)
  |none=>none
 | .own f _ _,.nil=>bif lz ps f 0 then K (.list []) ((f,0)::ps) else none
 |_,_=>none
def jS (st:St):List (Nat×Nat)→List LK→List aE→(List MV→List (Nat×Nat)→Option R)→Option R
 |ps,[],[],K=>K [] ps
 |ps,k::ks,l::ls,K=>Hx st ps k l fun m ps=>jS st ps ks ls fun ms ps=>K (m::ms) ps
 |_,_,_,_=>none
def ki (st:St) (k:LK) (m:MV) (K:aE→St→Option R):Option R:=
 match k with
 | .k x=>jr x m fun l=>K l st
 | .own f ty dO=>gL m fun xs=>(match st with|⟨p,q,r,n⟩=>K4 n f ⟨ty,dO,xs⟩ fun n=>K (.own f) ⟨p,q,r,n⟩)
def cI (st:St):List LK→List MV→(List aE→List MV→St→Option R)→Option R
 |[],ms,K=>K [] ms st
 |k::ks,ms,K=>gC ms fun m r=>ki st k m fun l st=>cI st ks r fun ls ms st=>K (l::ls) ms st
def I8 (gs:List Nat):List (Nat×mG)→(List (Nat×mG)→Option R)→Option R
 |[],K=>K []
 |(k,o)::r,K=>bif bp gs k then I8 gs r K else I8 gs r fun r=>K ((k,o)::r)
def TN:List Nat→Fr→(Fr→Option R)→Option R
 |[],r,K=>K r
 |f::fs,r,K=>ZG f r fun r=>TN fs r K
def jG:List (Nat×Nat)→List Nat
 |[]=>[]
 |(_,0)::r=>jG r
 |(_,g+1)::r=>g::jG r
def I9:List Nat→List (Nat×mG)→Bool
 |[],_=>false
 |f::r,m=>(match aL m f with|some _=>true|none=>I9 r m)
def Qd (st:St) (root:Nat) (ks:List LK) (ps:List (Nat×Nat)) (outs:List MV) (K:St→Option R):Option R:=
 cI ⟨[],[],[],[]⟩ ks outs fun cs rest C5=>gN rest<|I8 (jG ps) st.aV fun m=>
  bif I9 (b6 ks) m||meets (b6 ks) st.cn then none else
   TN (b6 ks) st.fr fun r=>FA r root (.box cs) fun r=>(match app C5.aV m with|some m=>K ⟨st.b9,st.cn,r,m⟩|none=>none)
def MX (c:Ctx) (gv:Bool) (g:List MV→Option MV) (pos:Nat) (ks:List LK) (st:St) (ss:List Slot) (I:Option TI) (K:Slot→St→Option R):Option R:=
 match ss[pos]? with
 |some (.ptr root off)=>tA st (ss.take pos) fun m1 st=>tA st (ss.drop (pos+1)) fun m2 st=>
  (match ap st.fr root with
  | .box cs=>bif fa cs||bp st.b9 root||!il c ks||!gv then none else jS st [] ks cs fun ls ps=>
   (match app m1 (.cell (.func off ls)::m2) with
   |some ms=>bd (g ms) fun x=>gW x fun r outs=>Qd st root ks ps outs fun st=>(match I with
    |some I=>pK c I r fun s=>K s st
    |none=>K (.sc .un) st)
   |none=>none)
  |_=>none)
 |_=>none
def VF (c:Ctx) (key pos:Nat) (ks:List LK) (st:St) (ss:List Slot) (I:Option TI) (K:Slot→St→Option R):Option R:=
 MX c (c.fK key) (c.g key) pos ks st ss I K
def Qe:List LK→List LK→Bool
 |[],[]=>true
 | .k k1::r,.k k2::q=>Vz k1 k2&&Qe r q
 | .own f t z::r,.own f' t' z'::q=>Nat.beq f f'&&(Nat.beq t t'&&(z==z'&&Qe r q))
 |_,_=>false
def Ja (c:Ctx) (pos:Nat) (ks:List LK):List Nat→Bool
 |[]=>true
 |k::r=>(match c.sig k with|some sg=>Nat.beq sg.1 pos&&Qe sg.2 ks|none=>false)&&(c.fK k&&Ja c pos ks r)
def Qf (c:Ctx) (Oa:List Nat) (st:St) (f:Slot) (ss:List Slot) (I:Option TI) (K:Slot→St→Option R):Option R:=match f,Oa with
 | .sc (.p m),k0::_=>(match c.sig k0 with
  |some sg=>bif Ja c sg.1 sg.2 Oa then MQ m fun k cG=>gN cG<|MX c true (fun ms=>N5 Oa k fun k=>c.g k ms) sg.1 sg.2 st ss I K else none
  |none=>none)
 |_,_=>none
def Y0 (c:Ctx) (o:Oper) (st:St) (K:Slot→St→Option R):Option R:=
 match o.op with
 | .move x=>K (aH c st x) st
 | .assign x=>CS c o st x K
 | .makeMap t none=>(match r4 c t with|some s=>K (.box [.mp s []]) st|none=>none)
 | .lookup t m k false=>VC c st t (aH c st m) (aH c st k) fun s=>K s st
 | .mapUpdate t m k v=>VD c st t (aH c st m) (aH c st k) (aH c st v) fun st=>K (.sc .un) st
 | .mapEntry t m k=>Qb c st t (aH c st m) (aH c st k) K
 | .entryStore t m i v=>ZJ c st t (aH c st m) (aH c st i) (aH c st v) fun st=>K (.sc .un) st
 | .nilCheck x=>WG (aH c st x) fun s=>K s st
 | .pick x a b=>P6 (aH c st x) (aH c st a) (aH c st b) fun s=>K s st
 | .alloc t=>(match c.tv t with|some I=>K (.box I.zero) st|none=>none)
 | .box t x=>(match c.tv t with|some I=>WH I (aH c st x) fun s=>K s st|none=>none)
 | .build t parts=>(match c.tv t with
  |some I=>bif I.st then (match yn c st I parts.toList I.zero with|some cs=>K (.ag cs) st|none=>none)
   else (match I.lay with|[.h]=>C2 c st parts.toList jq.zero fun x=>K (.sc (.hs x)) st|_=>none)
  |none=>none)
 | .buildSlice t n parts=>(match c.tv t with
  |some I=>bif I.wR then (match c.tv I.elem with
   |some E=>bif Nat.ble (n *E.size) 16777216 then P1 c st parts.toList 0 fun ms st=>bif Nat.beq ms.length n then cb (mF E.size ms)
    (bif bp c.bs (o.dst.getD 0) then K (.sc (.p (.list ms))) st else jb st (o.dst.getD 0) ⟨I.elem,false,ms⟩ fun st=>K (.sc (.own (o.dst.getD 0))) st) else none else none
   |none=>none) else none
  |none=>none)
 | .makeSlice t x y=>(match c.tv t with
  |some I=>bif I.wR then (match c.tv I.elem with|some E=>P0 (o.dst.getD 0) st I E (aH c st x) (aH c st y) K|none=>none) else none
  |none=>none)
 | .load t a=>(match c.tv t with
  |some I=>bif still c o then (match aH c st a with| .rp cs off=>jt I cs off fun s=>K s st|_=>none) else ldK st I (aH c st a) fun s=>K s st
  |none=>none)
 | .store t a v=>(match c.tv t with|some I=>stK st I (aH c st a) (aH c st v) fun st=>K (.sc .un) st|none=>none)
 | .binOp op t x y _=>WE (c.tv t) op (aH c st x) (aH c st y) fun s=>K s st
 | .unOp op _ x=>unK op (aH c st x) fun s=>K s st
 | .convert y t x=>bif isLT c y then (match c.tv y,c.tv t with|some Y,some I=>Qc c st Y I (aH c st x) fun s=>K s st|_,_=>none)
  else (match c.ti y,c.tv t with|some _,some I=>P7 I (c.fk t) (aH c st x) fun s=>K s st|_,_=>none)
 | .range t x=>(match c.tv t with|some I=>Lb I (aH c st x) fun s=>K s st|none=>none)
 | .next x true=>itK st (aH c st x) K
 | .makeFunc (.func f) first cG=>(match first.toList with
  |[]=>C3 c st cG.toList fun ms st=>K (.sc (.p (.func (c.key f) ms))) st
  |_=>none)
 | .slice t x lo hi none=>(match c.tv t with|some I=>K8 c I st (aH c st x) (kP c st lo) (kP c st hi) K|none=>none)
 | .slice t x none (some h) (some m)=>(match c.tv t with|some I=>P8 I (aH c st x) (aH c st h) (aH c st m) fun s=>K s st|none=>none)
 | .fieldAddr t x f=>(match c.tv t with|some I=>P9 st I f (aH c st x) fun s=>K s st|none=>none)
 | .field t x f=>(match c.tv t with|some I=>WI c I f (aH c st x) fun s=>K s st|none=>none)
 | .indexAddr t x i=>(match c.tv t with
  |some I=>(match c.tv I.elem with|some E=>WJ c st I E (aH c st x) (aH c st i) fun s=>K s st|none=>none)
  |none=>none)
 | .index t x i=>(match c.tv t with|some I=>ixK I (aH c st x) (aH c st i) fun s=>K s st|none=>none)
 | .extract x k=>WK (aH c st x) k fun s=>K s st
 | .call cl=>(match cl.callee with
  | .value (.func f)=>(match c.sig (c.key f) with
   |some sg=>VF c (c.key f) sg.1 sg.2 st (iC c st cl.args.toList) (c.ti o.type) K
   |none=>match c.ti o.type with
   |some I=>MW c (c.key f) st (iC c st cl.args.toList) fun ms st=>P5 c (o.dst.getD 0) st (c.key f) ms I K
   |none=>none)
  | .value x=>(match c.dyn with
   |_::_=>Qf c c.dyn st (aH c st x) (iC c st cl.args.toList) (c.ti o.type) K
   |[]=>match c.ti o.type with
   |some I=>Hv c st I (aH c st x) (iC c st cl.args.toList) K
   |none=>none)
  | .builtin .len=>(match cl.argTypes.toList with
   |[t]=>(match c.tv t with|some I=>Qa I st (iC c st cl.args.toList) fun s=>K s st|none=>none)
   |_=>none)
  | .builtin .append=>(match iC c st cl.args.toList,cl.argTypes.toList with
   |[s,x],[t,t']=>(match c.tv t with
    |some I=>bif I.wR then (match c.tv I.elem with
     |some E=>bif Nat.beq t t' then Hu I E st x fun ys=>N8 (bp c.bs (o.dst.getD 0)) (o.dst.getD 0) st I E s ys K else K6 c t' E x fun ys=>N8 (bp c.bs (o.dst.getD 0)) (o.dst.getD 0) st I E s ys K
     |none=>none) else none
    |none=>none)
   |_,_=>none)
  | .builtin .real=>(match iC c st cl.args.toList with|[.sc (.p m)]=>TH m fun x _=>K (.sc (.p (.raw (.float .f64 x)))) st|_=>none)
  | .builtin .imag=>(match iC c st cl.args.toList with|[.sc (.p m)]=>TH m fun _ y=>K (.sc (.p (.raw (.float .f64 y)))) st|_=>none)
  | .builtin .complex=>(match iC c st cl.args.toList with|[.sc (.p (.raw (.float .f64 x))),.sc (.p (.raw (.float .f64 y)))]=>K (.sc (.p (.raw (.complex .f64 x y)))) st|_=>none)
  | .builtin .min=>(match K7 false (iC c st cl.args.toList) with|some m=>K (.sc (.p m)) st|none=>none)
  | .builtin .max=>(match K7 true (iC c st cl.args.toList) with|some m=>K (.sc (.p m)) st|none=>none)
  |_=>none)
 |_=>none
def Lc (all:List Oper) (o:Oper) (st:St) (K:Bool→St→Option R):Option R:=
 match o.guard with
 |none=>K true st
 |some (j,want)=>match all[j]? with
  |some p=>(match p.dst with
   |some t=>(match ap st.fr t with
    | .sc (.p (.b v))=>(match v with
     |true=>(match st with|⟨p,q,r,m⟩=>FA r t (.sc (.p (.b true))) fun r=>K want ⟨p,q,r,m⟩)
     |false=>(match st with|⟨p,q,r,m⟩=>FA r t (.sc (.p (.b false))) fun r=>K (!want) ⟨p,q,r,m⟩))
    | .skip=>K false st
    |_=>none)
   |none=>none)
  |none=>none
def MY (c:Ctx) (all:List Oper) (o:Oper) (st:St) (K:St→Option R):Option R:=
 Lc all o st fun go st=>
  bif go then Y0 c o st fun s st=>bc c st o.dst s K
  else bc c st o.dst .skip K
def yo (c:Ctx) (all:List Oper):List Oper→St→(St→Option R)→Option R
 |[],st,K=>K st
 |o::r,st,K=>MY c all o st fun st=>yo c all r st K
end
section
variable {R:Type}
def lk (st:St):List (Nat×Nat)→List (Nat×OK)→(List MV→Option R)→Option R
 |_,[],K=>K []
 |ps,(t,k)::r,K=>match k,ap st.fr t with
  | .sc k,.sc l=>jS st ps [k] [l] fun ms ps=>lk st ps r fun ns=>(match app ms ns with|some l=>K l|none=>none)
  | .ag ks,.ag ls=>jS st ps ks ls fun ms ps=>lk st ps r fun ns=>(match app ms ns with|some l=>K l|none=>none)
  | .box ks,.box ls=>jS st ps ks ls fun ms ps=>lk st ps r fun ns=>(match app ms ns with|some l=>K l|none=>none)
  | .mp s,.box [.mp s' es]=>bif VA s s' then lk st ps r fun ns=>K (.list es::ns) else none
  | .pt root off,.ptr Qg Qh=>bif Nat.beq root Qg&&(Nat.beq off Qh&&(!vm root&&AU (ap st.fr root))) then lk st ps r K else none
  |_,_=>none
def Jb (st:St) (t:Nat) (s:Slot) (K:St→Option R):Option R:=match st with|⟨p,q,r,m⟩=>FA r t s fun r=>K ⟨p,q,r,m⟩
def Qi:List (Nat×OK)→List MV→St→(St→Option R)→Option R
 |[],ms,st,K=>gN ms (K st)
 |(t,k)::r,ms,st,K=>match k,st with
  | .pt root off,⟨p,q,fr,m⟩=>bif !vm root&&(AU (ap fr root)&&!cB (ap fr t)) then FA fr t (.ptr root off) fun fr=>Qi r ms ⟨p,q,fr,m⟩ K else none
  |_,_=>none
def lF (st:St):List (Nat×OK)→List MV→(St→Option R)→Option R
 |[],ms,K=>gN ms (K st)
 |(t,k)::r,ms,K=>match k with
  | .sc k=>cI st [k] ms fun ls ms st=>(match ls with|[l]=>Jb st t (.sc l) fun st=>lF st r ms K|_=>none)
  | .ag ks=>cI st ks ms fun ls ms st=>Jb st t (.ag ls) fun st=>lF st r ms K
  | .box ks=>bif vm t&&!bp st.b9 (posOf t) then none else cI st ks ms fun ls ms st=>Jb st t (.box ls) fun st=>lF st r ms K
  | .mp s=>bif vm t then none else gC ms fun m ms=>gL m fun es=>Jb st t (.box [.mp s es]) fun st=>lF st r ms K
  | .pt root off=>Qi ((t,.pt root off)::r) ms st K
end
def db:List (Nat×OK)→List Nat
 |[]=>[]
 |(t,_)::r=>t::db r
def bZ:List (Nat×OK)→List Nat
 |[]=>[]
 |(_,.sc k)::r=>b6 [k]++bZ r
 |(_,.ag ks)::r=>b6 ks++bZ r
 |(_,.box ks)::r=>b6 ks++bZ r
 |(_,.mp _)::r=>bZ r
 |(_,.pt _ _)::r=>bZ r
def minus:List Nat→List Nat→List Nat
 |[],_=>[]
 |k::r,l=>bif bp l k then minus r l else k::minus r l
def tB {R:Type} (ps:List Nat):List aE→(List aE→Option R)→Option R
 |[],K=>K []
 |l::r,K=>(match l with
  | .own g=>bif bp ps g then tB ps r fun r=>K (.own g::r) else tB ps r fun r=>K (.un::r)
  |l=>tB ps r fun r=>K (l::r))
def Jc {R:Type} (ps:List Nat) (s:Slot) (K:Slot→Option R):Option R:=match s with
 | .sc (.own g)=>bif bp ps g then K (.sc (.own g)) else K (.sc .un)
 | .ag cs=>tB ps cs fun cs=>K (.ag cs)
 | .box cs=>tB ps cs fun cs=>K (.box cs)
 |s=>K s
def nFr {R:Type} (ps:List Nat):Fr→(Fr→Option R)→Option R
 |[],K=>K []
 |(k,s)::r,K=>Jc ps s fun s=>nFr ps r fun r=>K ((k,s)::r)
def Gj {R:Type} (ks fs qs:List Nat):List (Nat×mG)→(List (Nat×mG)→Option R)→Option R
 |[],K=>K []
 |(k,o)::r,K=>bif bp ks k then Gj ks fs qs r fun r=>(bif bp fs k&&!bp qs k then K ((k,⟨o.ty,true,o.xs⟩)::r) else K ((k,o)::r)) else Gj ks fs qs r K
def ef (c:Ctx):List (Nat×OK)→Bool
 |[]=>true
 |(_,.sc k)::r=>bif il c [k] then ef c r else false
 |(_,.ag ks)::r=>bif il c ks then ef c r else false
 |(_,.box ks)::r=>bif il c ks then ef c r else false
 |(_,.mp _)::r=>ef c r
 |(_,.pt _ _)::r=>ef c r
def Ld {R:Type} (c:Ctx) (h:mI) (st:St) (K:St→St→Option R):Option R:=
 match st with
 |⟨p,q,r,m⟩=>
  bif !ef c h.all||meets (db h.all) p||meets (bZ h.all) q||meets (db h.all) h.b9||meets (bZ h.all) h.cn then none else
  match app h.b9 p,app h.cn q with
  |some p',some q'=>
   pick h.b9 r fun rp=>nFr h.cn rp fun rp=>pick (db h.all) r fun ro=>
   Gj h.cn h.dO q m fun mp=>Gj (bZ h.all) h.dO q m fun mo=>
   (match app rp ro,app mp mo with
    |some r1,some m1=>K ⟨p',q',r1,m1⟩ ⟨p',q',rp,mp⟩
    |_,_=>none)
  |_,_=>none
def AY {R:Type} (c:Ctx) (h:mI) (st:St) (K:St→St→Option R):Option R:=
 Ld c h st fun ca cS=>C0 (fun t=>bp h.b9 t||bp (db h.all) t) st.fr st.fr ca.fr fun fr=>K ⟨ca.b9,ca.cn,fr,ca.aV⟩ cS
def tC (st cS:St):St:=match st,cS with|⟨p,q,_,_⟩,⟨_,_,r,m⟩=>⟨p,q,r,m⟩
def guarded:List Oper→Bool
 |[]=>false
 |o::r=>match o.guard with|some _=>true|none=>guarded r
def rn:List Oper→List Nat
 |[]=>[]
 |o::r=>match o.op,o.dst with
  | .alloc _,some d=>d::rn r
  | .box _ _,some d=>d::rn r
  | .makeMap _ _,some d=>d::rn r
  | .range _ _,some d=>d::rn r
  |_,_=>rn r
def C6 {R:Type} (ds:List Nat) (st:St) (K:St→Option R):Option R:=match st with|⟨p,q,r,m⟩=>sI ds r fun r1=>C0 (fun t=>!bp ds t) r r r1 fun r=>K ⟨p,q,r,m⟩
def fb:Code→Option Nat
 | .region id _ _=>some id
 | .seq a b=>match fb a with|some n=>some n|none=>fb b
 | .cond _ a b=>match fb a with|some n=>some n|none=>fb b
 | .block _ b| .loop b| .scope b=>fb b
 |_=>none
def Y1:List Nat→List Nat→List Nat
 |[],l=>l
 |k::r,l=>bif bp l k then Y1 r l else k::Y1 r l
def jH:Code→List Nat
 | .skip| .region _ _ _=>[0]
 | .seq a b=>bif bp (jH a) 0 then Y1 (minus (jH a) [0]) (jH b) else jH a
 | .cond _ a b=>Y1 (jH a) (jH b)
 | .block id b=>bif bp (jH b) (id+2) then Y1 (minus (jH b) [0,id+2]) [0] else jH b
 | .loop b=>minus (jH b) [0]
 | .exit id=>[id+2]
 | .ret=>[1]
 |_=>[]
def nP (o:Oper):Bool:=match o.op with
 | .load _ _=>true
 | .lookup _ _ _ false=>true
 |_=>false
def kj (c:Ctx) (o:Oper):Bool:=nP o||(match o.op with
 | .convert y _ _=>isLT c y
 |_=>false)
def Qj (o:Oper):Option Nat:=match o.op with
 | .lookup t _ _ false=>some t
 |_=>none
def TP (o:Oper):Option Nat:=match o.op with
 | .mapEntry t _ _=>some t
 |_=>none
def xI (o p:Oper):Bool:=match Qj o,TP p with
 |some t,some t'=>Nat.beq t t'
 |_,_=>false
def nQ (o:Oper):Bool:=match o.op with
 | .move _| .assign _| .nilCheck _| .pick _ _ _| .build _ _| .load _ _| .binOp _ _ _ _ _| .unOp _ _ _| .convert _ _ _| .makeFunc _ _ _| .slice _ _ _ _ _| .fieldAddr _ _ _| .field _ _ _| .indexAddr _ _ _| .index _ _ _| .extract _ _| .lookup _ _ _ false=>true
 | .call cl=>(match cl.callee with| .builtin .len| .builtin .min| .builtin .max| .builtin .real| .builtin .imag| .builtin .complex=>true|_=>false)
 |_=>false
def xv (c:Ctx) (o:Oper):Bool:=match o.op with
 | .alloc _| .box _ _| .buildSlice _ _ _| .makeSlice _ _ _=>true
 | .call cl=>(match cl.callee with| .value (.func f)=>!c.fK (c.key f)| .value _=>(match c.dyn with|[]=>true|_::_=>false)|_=>false)
 |_=>false
def Le:Op→List Operand
 | .build _ ps=>ps.toList.map (·.2)
 | .buildSlice _ _ ps=>ps.toList.map (·.2)
 | .makeFunc _ first captured=>first.toList++captured.toList
 | .slice _ x l h m=>x::(l.toList++(h.toList++m.toList))
 | .call c=>(match c.callee with| .value f=>[f]| .invoke r _=>[r]| .builtin _=>[])++c.args.toList
 |op=>op.operands.toList
def Jd:List Operand→List Nat
 |[]=>[]
 | .tmp t::r=>t::Jd r
 |_::r=>Jd r
def Hy (ops:List Oper) (o:Oper):List Nat:=
 Jd (Le o.op)++(match o.guard with|some (g,_)=>(match ops[g]? with|some p=>p.dst.toList|none=>[])|none=>[])
def Hz (ops:List Oper) (x y:Oper):Bool:=
 (match x.dst with|some d=>!bp (Hy ops y) d&&(match y.dst with|some d'=>!Nat.beq d' d|none=>true)|none=>true)&&
 (match y.dst with|some d=>!bp (Hy ops x) d|none=>true)
def AZ (e:Edge):Bool:=match e.ground with
 | .textOnly _=>false
 | .gcOnly _=>false
 |_=>true
def yp (o:Oper) (p:Nat→Bool):Bool:=o.after.toList.any fun e=>AZ e&&p e.on
def ZK (ops:List Oper):Bool:=ops.all fun o=>match o.op with| .select _ _=>false|_=>true
def Qk (c:Ctx) (o:Oper):Bool:=nQ o||xv c o
def qz (c:Ctx) (ops:List Oper) (o:Oper):List Nat→List Nat→Bool
 |_,[]=>true
 |D,y::r=>match ops[y]? with
  |some p=>bif yp p (bp D) then qz c ops o (y::D) r else Hz ops o p&&(!kj c o||Qk c p||still c o||xI o p)&&qz c ops o D r
  |none=>false
def Je (o:Oper):Bool:=match o.op,o.dst,o.guard with
 | .alloc _,some _,none=>o.after.toList.all fun e=>!AZ e
 |_,_,_=>false
def ZL (c:Ctx) (o:Oper):Bool:=match o.op with
 | .alloc t=>(match c.tv t with|some _=>true|none=>false)
 |_=>false
def ZM (ops:List Oper) (i:Nat):Bool:=match ops[i]? with
 |some o=>Je o
 |none=>false
def sK (c:Ctx) (ops:List Oper):List Nat→List Nat→Bool
 |_,[]=>true
 |pre,x::rest=>(match ops[x]? with
  |some o=>(o.after.toList.all fun e=>!AZ e||bp pre e.on)&&!bp pre x&&!bp rest x&&
   (bif nQ o&&!kQ c o then qz c ops o [x] rest
    else (rest.all fun y=>match ops[y]? with
     |some p=>bif Je p then Hz ops p o&&ZL c p else yp p (fun i=>Nat.beq i x||(bp rest i&&!ZM ops i))
     |none=>false))&&sK c ops (x::pre) rest
  |none=>false)
def yq (c:Ctx) (ops:Array Oper) (ord:List Nat):Bool:=
 ZK ops.toList&&Nat.beq ord.length ops.toList.length&&(List.range ops.toList.length).all (bp ord)&&sK c ops.toList [] ord
def CT {R:Type} (c:Ctx) (id:Nat) (ops l:List Oper) (st:St) (K:St→Option R):Option R:=
 bif guarded ops then
  AY c (c.xu id) st fun ca cS=>bd (C6 (rn ops) ca fun ca=>yo c ops l ca fun st=>lk st [] ((c.xu id).ex 0) some) fun vs=>lF (tC st cS) ((c.xu id).ex 0) vs K
 else C6 (rn ops) st fun st=>yo c ops l st K
def oa (ops:List Oper):List Nat→Option (List Oper)
 |[]=>some []
 |i::r=>match ops[i]?,oa ops r with
  |some o,some l=>some (o::l)
  |_,_=>none
def ZN {S:Type} (step:S→MV→Option (Bool×S)):S→List MV→Option (List MV×S)
 |s,[]=>some ([],s)
 |s,x::xs=>match step s x with
  |some (b,s1)=>(match ZN step s1 xs with|some (ys,s2)=>some (bif b then ys else x::ys,s2)|none=>none)
  |none=>none
def Ql {R:Type} (c:Ctx) (id:Nat) (ops:List Oper) (st:St) (K:St→Option R):Option R:=CT c id ops ops st K
def fzK {R:Type} (c:Ctx) (ts:List Nat) (st:St) (K:St→Option R):Option R:=match ts with
 |[]=>K st
 |ts=>C3 c st (ts.map .tmp) fun _ st=>K st
def FC (ops:Array Oper) (A B:Nat):Array Oper:=ops.modify B fun o=>{o with after:=o.after.push ⟨A,.data⟩}
open Classical in
noncomputable def both {R:Type} (x y:Option R):Option R:=if x=y then x else none
def Qm (n:Nat) (l:List Nat):Option (List Nat×List Nat×Nat×Nat):=match l.drop (l.length-2) with
 |[A,B]=>bif Nat.beq A B||(Nat.ble n A||Nat.ble n B) then none else some (l.take n,(l.drop n).take (l.length-2-n),A,B)
 |_=>none
def MZ {R:Type} (c:Ctx) (ops:Array Oper) (l:List Nat) (st:St) (K:St→Option R):Option R:=bif yq c ops l then (match oa ops.toList l with
 |some l=>yo c ops.toList l st K
 |none=>none) else none
noncomputable def Jf {R:Type} (c:Ctx) (st:St) (K:St→Option R):Nat→Array Oper→List Nat→Option R
 |0,_,_=>none
 |k+1,ops,l=>bif Nat.beq l.length ops.toList.length then MZ c ops l st K else (match Qm ops.toList.length l with
  |some (o1,o2,A,B)=>both (MZ c (FC ops A B) o1 st K) (Jf c st K k (FC ops B A) o2)
  |none=>none)
noncomputable def ZO {R:Type} (c:Ctx) (ops:Array Oper) (ord:List Nat) (st:St) (K:St→Option R):Option R:=
 bif guarded ops.toList then none else C6 (rn ops.toList) st fun st=>Jf c st K ord.length ops ord
noncomputable def M0 {R:Type} (c:Ctx) (id:Nat) (ops:Array Oper) (draw:Bool) (st:St) (K:St→Option R):Option R:=
 fzK c (c.fz id) st fun st=>bif draw then (bif !Nat.beq (c.ord id).length ops.toList.length then ZO c ops (c.ord id) st K else bif yq c ops (c.ord id) then (match oa ops.toList (c.ord id) with|some l=>CT c id ops.toList l st K|none=>none) else none)
 else Ql c id ops.toList st K
noncomputable def ju (c:Ctx):Code→(R:Type)→St→(Nat→St→Option R)→Option R
 | .skip,_,st,K=>K 0 st
 | .region id ops d,_,st,K=>M0 c id ops d st fun st=>K 0 st
 | .seq a b,R,st,K=>ju c a R st fun e st=>bif Nat.beq e 0 then ju c b R st K else K e st
 | .cond x a b,R,st,K=>(match aH c st x with
  | .sc (.p (.b v))=>
   bif bp (jH a) 0&&bp (jH b) 0 then
    AY c (c.wP ((fb (.seq a b)).getD 0)) st fun ca cS=>
    bd (bk v (ju c a (Nat×List MV) ca fun e st=>lk st [] ((c.wP ((fb (.seq a b)).getD 0)).ex e) fun vs=>some (e,vs))
     (ju c b (Nat×List MV) ca fun e st=>lk st [] ((c.wP ((fb (.seq a b)).getD 0)).ex e) fun vs=>some (e,vs)))
     fun r=>N5 (Y1 (jH a) (jH b)) r.1 fun e=>lF (tC st cS) ((c.wP ((fb (.seq a b)).getD 0)).ex e) r.2 fun st=>K e st
   else bk v (ju c a R st K) (ju c b R st K)
  |_=>none)
 | .block id b,R,st,K=>ju c b R st fun e st=>bif Nat.beq e (id+2) then K 0 st else K e st
 | .loop b,_,st,K=>
  AY c (c.sF ((fb b).getD 0)) st fun ca cS=>lk ca [] (c.sF ((fb b).getD 0)).outs fun vs=>
   bd (Loop (fun ms=>lF cS (c.sF ((fb b).getD 0)).outs ms fun st=>ju c b (Sum (List MV) (Nat×List MV)) st fun e st=>
    bif Nat.beq e 0 then lk st [] (c.sF ((fb b).getD 0)).outs fun vs=>some (.inl vs) else lk st [] ((c.sF ((fb b).getD 0)).ex e) fun vs=>some (.inr (e,vs))) vs)
    fun r=>N5 (minus (jH b) [0]) r.1 fun e=>lF (tC st cS) ((c.sF ((fb b).getD 0)).ex e) r.2 fun st=>K e st
 | .exit id,_,st,K=>K (id+2) st
 | .ret,_,st,K=>K 1 st
 |_,_,_,_=>none
def C7 {R:Type} (c:Ctx):List Nat→Nat→List MV→(Fr→List MV→Option R)→Option R
 |[],_,ms,K=>K [] ms
 |t::ts,n,ms,K=>match c.tv t with
  |some I=>gC ms fun m r=>BI I m fun s=>C7 c ts (n+1) r fun fr ms=>K ((n,s)::fr) ms
  |none=>none
def Lf {R:Type}:List (List Kd)→Nat→List MV→(Fr→Option R)→Option R
 |[],_,ms,K=>gN ms (K [])
 |ks::r,n,ms,K=>gC ms fun m ms=>gP m fun cs=>rm ks cs fun cs=>Lf r (n+1) ms fun fr=>K ((n,.vo cs)::fr)
def A0 {R:Type} (c:Ctx) (st:St) (fresh:Option Nat):List ResultVar→(List MV→Option R)→Option R
 |[],K=>K []
 |r::rs,K=>
  let go (s:Slot):Option R:=match fresh with
   |some ty=>(match s with
    | .sc (.own f)=>(match aL st.aV f with|some o=>bif o.dO||!Nat.beq o.ty ty then none else A0 c st fresh rs fun ms=>K (.fresh o.xs::ms)|none=>none)
    | .sc .nil=>A0 c st fresh rs fun ms=>K (.fresh []::ms)
    |_=>none)
   |none=>lr st s fun m st=>A0 c st fresh rs fun ms=>K (m::ms)
  match r with
  | .tmp t=>go (ap st.fr t)
  | .cell a t=>match c.tv t,ap st.fr a with
   |some I,.box cs=>bif fa cs||vm a then none else jt I cs 0 fun s=>go s
   |_,_=>none
def Ob {R:Type} (c:Ctx) (st:St):List ResultVar→(List MV→St→Option R)→Option R
 |[],K=>K [] st
 |r::rs,K=>(match r with
  | .tmp t=>lr st (ap st.fr t) fun m st=>Ob c st rs fun ms st=>K (m::ms) st
  | .cell a t=>(match c.tv t,ap st.fr a with
   |some I,.box cs=>bif fa cs||vm a then none else jt I cs 0 fun s=>lr st s fun m st=>Ob c st rs fun ms st=>K (m::ms) st
   |_,_=>none))
def ZP:List MV→MV
 |[m]=>m
 |ms=> .dr ms
noncomputable def zn (c:Ctx) (cG:List (List Kd)) (pos:Nat) (ks:List LK) (f:Func) (args:List MV):Option MV:=
 match f.body,args[pos]? with
 |some b,some (.cell (.func off ls))=>bif !il c ks||!Nat.ble pos 999 then none else
  C7 c f.params.toList 0 (args.set pos (.rp [])) fun fr ms=>Lf cG f.params.size ms fun nR=>
   (match app fr nR with
   |some fr=>cI ⟨[],[],[],[]⟩ ks ls fun cs rest C5=>gN rest<|
    ju c b MV ⟨[pos],[],(1000000+off *1000+pos,.box cs)::fr,C5.aV⟩ fun e st=>
     bif Nat.ble e 1 then Ob c st f.results.toList fun ms st=>(match ap st.fr (1000000+off *1000+pos) with
      | .box cs=>bif fa cs then none else jS st [] ks cs fun outs _=>some (.eF (ZP ms) outs)
      |_=>none) else none
   |none=>none)
 |_,_=>none
noncomputable def M1 (X:Code→St→(Nat→St→Option MV)→Option MV) (c:Ctx) (cG:List (List Kd)) (fresh:Option Nat) (f:Func) (args:List MV):Option MV:=
 match f.body with
 |some b=>C7 c f.params.toList 0 args fun fr ms=>Lf cG f.params.size ms fun nR=>
  match app fr nR with
  |some fr=>X b ⟨[],[],fr,[]⟩ fun e st=>
   bif Nat.ble e 1 then A0 c st fresh f.results.toList fun ms=>(match ms with|[m]=>some m|ms=>some (.dr ms)) else none
  |none=>none
 |none=>none
noncomputable def Gk (c:Ctx) (cG:List (List Kd)) (fresh:Option Nat) (f:Func) (args:List MV):Option MV:=M1 (fun b st K=>ju c b MV st K) c cG fresh f args
end Dn
/-
  What abstract values and slots say of Go's memory. Conditions: none.
-/
namespace Dn
open Go
theorem iu (w:World) (o:Obj):(w.alloc o).heap[w.heap.size]? =some o:=by
 show (w.heap.push o)[w.heap.size]? =some o
 simp
theorem oc (w:World) (o:Obj) (i:Nat) (h:i<w.heap.size):(w.alloc o).heap[i]? =w.heap[i]? :=by
 show (w.heap.push o)[i]? =w.heap[i]?
 rw [Array.getElem?_push,if_neg (Nat.ne_of_lt h)]
def MV.one:MV→Bool
 | .h _| .agg _| .dr _| .fresh _| .cell _| .eF _ _=>false
 |_=>true
abbrev Ph:=Nat→Nat→Option Value
section
variable (key:Nat→Nat) (φ:Ph)
mutual
inductive kR:List Value→MV→Prop
 |b (x:Bool):kR [.bool x] (.b x)
 |i (k:IntKind) (n:Int):kR [.int k n] (.i k n)
 |s (bs:ByteArray):kR [.string bs] (.s bs.data.toList)
 |h (x:jq):kR (x.l.map fun b=> .int .u8 (b.toNat:Int)) (.h x)
 |raw (v:Value):v.oneCell'=true→kR [v] (.raw v)
 |list (a:Option Addr) (cap:Nat) (xs:List MV) (bj off Gl:Nat) (f:Nat→List Value):
  xs.length≤cap→(0<xs.length→a=some ⟨bj,off,none⟩)→(∀i,i<xs.length→(f i).length=Gl)→
  (∀i j,i<xs.length→j<Gl→φ bj (off+i *Gl+j)=(f i)[j]?)→
  (∀(i:Nat) (h:i<xs.length),kR (f i) xs[i])→kR [.slice a xs.length cap] (.list xs)
 |agg (vs:List Value) (ms:List MV):gq vs ms→kR vs (.agg ms)
 |func (f k:Nat) (cap:Array Value) (ms:List MV):key f=k→gq cap.toList ms→(∀m∈ms,m.one=true)→kR [.func (.func f) #[] cap] (.func k ms)
 |rp (bj off:Nat) (vs:List Value) (ms:List MV):gq vs ms→(∀j,j<vs.length→φ bj (off+j)=vs[j]?)→kR [.pointer (some ⟨bj,off,none⟩)] (.rp ms)
 |clip (a:Option Addr) (xs:List MV):kR [.slice a xs.length xs.length] (.list xs)→kR [.slice a xs.length xs.length] (.clip xs)
inductive gq:List Value→List MV→Prop
 |nil:gq [] []
 |cons (v:List Value) (m:MV) (vs:List Value) (ms:List MV):kR v m→gq vs ms→gq (v++vs) (m::ms)
end
end
def pL (φ φ':Ph):Prop:= ∀b o v,φ b o=some v→φ' b o=some v
theorem pL.refl (φ:Ph):pL φ φ:=fun _ _ _ h=>h
theorem pL.zo {φ φ':Ph} (h:pL φ φ') {b j:Nat} {cs:List Value} (e:φ b j=cs[j]?) (hj:j<cs.length):φ' b j=cs[j]? :=by
 rw [List.getElem?_eq_getElem hj] at e⊢
 exact h _ _ _ e
theorem pL.trans {φ φ' ZQ:Ph} (h:pL φ φ') (h':pL φ' ZQ):pL φ ZQ:=fun b o v e=>h' b o v (h b o v e)
section
set_option linter.unusedSectionVars false
variable {key:Nat→Nat} {φ φ':Ph} (hle:pL φ φ')
include hle
theorem HA {b o:Nat} {vs:List Value} {j:Nat} (hj:j<vs.length) (h:φ b o=vs[j]?):φ' b o=vs[j]? :=by
 rw [List.getElem?_eq_getElem hj] at h⊢
 exact hle _ _ _ h
mutual
theorem kR.mono {vs:List Value} {m:MV}:kR key φ vs m→kR key φ' vs m
 | .b x=> .b x
 | .i k n=> .i k n
 | .s bs=> .s bs
 | .h x=> .h x
 | .raw v h=> .raw v h
 | .list a cap xs bj off Gl f h1 h2 h3 h4 h5=> .list a cap xs bj off Gl f h1 h2 h3
  (fun i j hi hj=>HA hle (by rw [h3 i hi];exact hj) (h4 i j hi hj)) (fun i hi=>(h5 i hi).mono)
 | .agg vs ms h=> .agg vs ms h.mono
 | .func f k cap ms h1 h2 h3=> .func f k cap ms h1 h2.mono h3
 | .rp bj off vs ms h1 h2=> .rp bj off vs ms h1.mono (fun j hj=>HA hle hj (h2 j hj))
 | .clip a xs h=> .clip a xs h.mono
theorem gq.mono {vs:List Value} {ms:List MV}:gq key φ vs ms→gq key φ' vs ms
 | .nil=> .nil
 | .cons v m vs ms h1 h2=> .cons v m vs ms h1.mono h2.mono
end
end
section
variable {key:Nat→Nat} {φ:Ph}
mutual
theorem kR.cells {vs:List Value} {m:MV}:kR key φ vs m→ ∀v∈vs,v.oneCell'=true
 | .b x=>by simp [Value.oneCell']
 | .i k n=>by simp [Value.oneCell']
 | .s bs=>by simp [Value.oneCell']
 | .h x=>by
  intro v hv
  obtain ⟨b,_,rfl⟩:=List.mem_map.1 hv
  rfl
 | .raw v h=>by simpa using h
 | .list .. =>by simp [Value.oneCell']
 | .agg vs ms h=>h.cells
 | .func .. =>by simp [Value.oneCell']
 | .rp .. =>by simp [Value.oneCell']
 | .clip .. =>by simp [Value.oneCell']
theorem gq.cells {vs:List Value} {ms:List MV}:gq key φ vs ms→ ∀v∈vs,v.oneCell'=true
 | .nil=>by simp
 | .cons v m vs ms h1 h2=>by
  intro x hx
  rcases List.mem_append.1 hx with hx|hx
  ·exact h1.cells x hx
  ·exact h2.cells x hx
end
end
section
variable {key:Nat→Nat} {φ:Ph}
mutual
theorem kR.width {vs:List Value} {m:MV}:kR key φ vs m→vs.length=m.w
 | .b x=>by simp [MV.w]
 | .i k n=>by simp [MV.w]
 | .s bs=>by simp [MV.w]
 | .h x=>by simp [MV.w,x.h]
 | .raw v h=>by simp [MV.w]
 | .list .. =>by simp [MV.w]
 | .agg vs ms h=>by rw [h.width];simp [MV.w]
 | .func .. =>by simp [MV.w]
 | .rp .. =>by simp [MV.w]
 | .clip .. =>by simp [MV.w]
theorem gq.width {vs:List Value} {ms:List MV}:gq key φ vs ms→vs.length=MV.wl ms
 | .nil=>by simp [MV.wl]
 | .cons v m vs ms h1 h2=>by simp [MV.wl,h1.width,h2.width]
end
end
theorem kR.one {key:Nat→Nat} {φ:Ph} {vs:List Value} {m:MV} (h:kR key φ vs m) (hm:m.one=true): ∃v,vs=[v]∧v.oneCell'=true:=by
 have hc:=h.cells
 cases h<;>simp [MV.one] at hm<;>exact ⟨_,rfl,hc _ (by simp)⟩
def gV (key:Nat→Nat) (φ:Ph) (v:Value):MV→Prop
 | .h x=>v= .agg (x.l.map fun b=>Value.int .u8 (b.toNat:Int)).toArray
 | .agg ms=> ∃arr,v= .agg arr∧gq key φ arr.toList ms
 |m=>m.one=true∧kR key φ [v] m
set_option linter.unusedSectionVars false
theorem gV.mono {key:Nat→Nat} {φ φ':Ph} (hle:pL φ φ') {v:Value} {m:MV} (h:gV key φ v m):gV key φ' v m:=by
 cases m<;>simp only [gV] at h⊢ <;>first|exact h|exact ⟨h.1,h.2.mono hle⟩|(obtain ⟨arr,h1,h2⟩:=h;exact ⟨arr,h1,h2.mono hle⟩)
structure Env where
 key:Nat→Nat
 φ:Ph
 E:Nat→Value
 B:Nat→Nat
 m:List (Nat×mG)
def bq (x:jq):List Value:=x.l.map fun b=>Value.int .u8 (b.toNat:Int)
theorem cJ (x:jq):(bq x).length=32:=by simp [bq,x.h]
def aO (e:Env) (vs:List Value):aE→Prop
 | .un=> ∃v,vs=[v]∧v.oneCell'=true
 | .p x=>x.one=true∧kR e.key e.φ vs x
 | .hs x=>vs=bq x
 | .nil=>vs=[.slice none 0 0]
 | .mp _ _=>False
 | .own f=> ∃v,vs=[v]∧v.oneCell'=true∧(∀o,aL e.m f=some o→v=e.E f)
def ax (e:Env):List Value→List aE→Prop
 |vs,[]=>vs=[]
 |vs,l::ls=> ∃v r,vs=v++r∧aO e v l∧ax e r ls
def rq:aE→Bool
 | .p _| .hs _=>true
 |_=>false
def iv:List aE→Bool
 |[]=>true
 |l::r=>rq l&&iv r
def C8 (st:Bool) (x:MV) (cs:List aE):Prop:=(∃ms,bG cs=some ms∧rZ st ms=some x)∧ ∀m,aE.p m∈cs→m.one=true
def xJ:Slot→Bool
 | .sc l=>rq l
 | .ag cs=>iv cs
 |_=>false
mutual
def ae (e:Env) (v:Value):Slot→Prop
 | .skip=>v=undef
 | .sc l=>match l with
  | .un=>True
  | .hs x=>v= .agg (bq x).toArray
  |l=>aO e [v] l
 | .ag cs=> ∃arr,v= .agg arr∧ax e arr.toList cs
 | .dr vs=> ∃arr,v= .tuple arr∧jv e arr.toList vs
 | .box _=>False
 | .vo cs=> ∃bj o vs,v= .pointer (some ⟨bj,o,none⟩)∧ax e vs cs∧iv cs=true∧(∀j,j<vs.length→e.φ bj (o+j)=vs[j]?)
 | .ptr r o=>v= .pointer (some ⟨e.B r,o,none⟩)
 | .vp r=>v= .map (some (e.B r))
 | .rp cs off=> ∃bj o vs,v= .pointer (some ⟨bj,o+off,none⟩)∧ax e vs cs∧iv cs=true∧(∀j,j<vs.length→e.φ bj (o+j)=vs[j]?)
 | .hp r o i=>v= .pointer (some ⟨e.B r,o+i,none⟩)∧i<32
 | .ep f i off st cs=> ∀o,aL e.m f=some o→ ∃bj cap,e.E f= .slice (some ⟨bj,0,none⟩) o.xs.length cap∧(∃x,o.xs[i]? =some x∧C8 st x cs)∧
  v= .pointer (some ⟨bj,i *vq cs+off,none⟩)
def jv (e:Env):List Value→List Slot→Prop
 |vs,[]=>vs=[]
 |vs,s::ss=> ∃v r,vs=v::r∧ae e v s∧xJ s=true∧jv e r ss
end
def Qn:aE→List Value→Bool
 | .p (.b x),[.bool y]=>x==y
 | .p (.i k n),[.int k' n']=>decide (k=k')&&decide (n=n')
 | .p (.s l),[.string s]=>decide (l=s.data.toList)
 | .p (.raw v),[w]=>match v,w with
  | .nilFunc,.nilFunc=>true
  | .nilIface,.nilIface=>true
  | .pointer none,.pointer none=>true
  |_,_=>false
 | .nil,[.slice none 0 0]=>true
 | .un,[v]=>v.oneCell'
 | .hs x,vs=>(vs.length==32)&&(vs.zip x.l).all fun p=>match p.1 with| .int .u8 n=>decide (n=(p.2.toNat:Int))|_=>false
 |_,_=>false
def rr:List aE→List Value→Bool
 |[],vs=>vs.isEmpty
 |l::ls,vs=>Qn l (vs.take l.w)&&rr ls (vs.drop l.w)&&decide (l.w≤vs.length)
end Dn
/-
  How an abstract state stands to a frame and a memory; laws of frames and leaves. Conditions: none.
-/
set_option linter.unusedSimpArgs false
set_option linter.unusedVariables false
namespace Dn
open Go
def cA:Fr→Nat→Slot→Fr
 |[],t,v=>[(t,v)]
 |(k,s)::r,t,v=>bif Nat.beq k t then (k,v)::r else (k,s)::cA r t v
def mj (ds:List Nat):Fr→Fr
 |[]=>[]
 |(k,s)::r=>bif cY s||bp ds k then mj ds r else (k,s)::mj ds r
def mJ (ks:List Nat):Fr→Fr
 |[]=>[]
 |(k,s)::r=>bif bp ks k&&!cY s then (k,s)::mJ ks r else mJ ks r
def bR:List (Nat×mG)→Nat→mG→List (Nat×mG)
 |[],t,v=>[(t,v)]
 |(k,s)::r,t,v=>bif Nat.beq k t then (k,v)::r else (k,s)::bR r t v
def IK (f:Nat):aE→aE
 | .own g=>bif Nat.beq g f then .un else .own g
 |l=>l
def xK (f:Nat):Slot→Slot
 | .sc l=> .sc (IK f l)
 | .ag cs=> .ag (cs.map (IK f))
 | .box cs=> .box (cs.map (IK f))
 | .ep g i o b cs=>bif Nat.beq g f then .sc .un else .ep g i o b cs
 |s=>s
def j8 (f:Nat) (r:Fr):Fr:=r.map fun p=>(p.1,xK f p.2)
def vv (f:Nat) (r:Fr):Fr:=r.map fun p=>(p.1,match p.2 with
 | .ep g i o b cs=>bif Nat.beq g f then .sc .un else .ep g i o b cs
 |s=>s)
def Lg (ps:List Nat):aE→aE
 | .own g=>bif bp ps g then .own g else .un
 |l=>l
def Fy (ps:List Nat):Slot→Slot
 | .sc l=> .sc (Lg ps l)
 | .ag cs=> .ag (cs.map (Lg ps))
 | .box cs=> .box (cs.map (Lg ps))
 |s=>s
def Lh (ps:List Nat) (r:Fr):Fr:=r.map fun p=>(p.1,Fy ps p.2)
def qA (ks fs qs:List Nat):List (Nat×mG)→List (Nat×mG)
 |[]=>[]
 |(k,o)::r=>bif bp ks k then (bif bp fs k&&!bp qs k then (k,⟨o.ty,true,o.xs⟩) else (k,o))::qA ks fs qs r else qA ks fs qs r
section
variable {R:Type}
theorem force_eq (s:Slot) (K:Slot→Option R):force s K=K s:=by cases s<;>rfl
theorem lO (r:Fr) (t:Nat) (s:Slot) (K:Fr→Option R):FA r t s K=K (cA r t s):=by
 induction r generalizing K with
 |nil=>rfl
 |cons p r ih=>obtain ⟨k,x⟩:=p;simp only [FA,cA];cases Nat.beq k t<;>simp [ih]
theorem BK (ds:List Nat) (r:Fr) (K:Fr→Option R):sI ds r K=K (mj ds r):=by
 induction r generalizing K with
 |nil=>rfl
 |cons p r ih=>obtain ⟨k,x⟩:=p;simp only [sI,mj];cases cY x||bp ds k<;>simp [ih]
theorem TQ (ks:List Nat) (r:Fr) (K:Fr→Option R):pick ks r K=K (mJ ks r):=by
 induction r generalizing K with
 |nil=>rfl
 |cons p r ih=>obtain ⟨k,x⟩:=p;simp only [pick,mJ];cases bp ks k&&!cY x<;>simp [ih]
theorem mK (r:List (Nat×mG)) (t:Nat) (s:mG) (K:List (Nat×mG)→Option R):K4 r t s K=K (bR r t s):=by
 induction r generalizing K with
 |nil=>rfl
 |cons p r ih=>obtain ⟨k,x⟩:=p;simp only [K4,bR];cases Nat.beq k t<;>simp [ih]
theorem C9 (f:Nat) (cs:List aE) (K:List aE→Option R):tz f cs K=K (cs.map (IK f)):=by
 induction cs generalizing K with
 |nil=>rfl
 |cons l r ih=>cases l<;>simp only [tz,List.map_cons,IK,ih];rename_i g;cases Nat.beq g f<;>rfl
theorem Qo (f:Nat) (s:Slot) (K:Slot→Option R):Gi f s K=K (xK f s):=by
 cases s with
 |sc l=>cases l<;>simp only [Gi,xK,IK];rename_i g;cases Nat.beq g f<;>rfl
 |ag cs=>simp only [Gi,xK,C9]
 |box cs=>simp only [Gi,xK,C9]
 |ep g i o b cs=>simp only [Gi,xK];cases Nat.beq g f<;>rfl
 |_=>rfl
theorem Qp (f:Nat) (r:Fr) (K:Fr→Option R):ZG f r K=K (j8 f r):=by
 induction r generalizing K with
 |nil=>rfl
 |cons p r ih=>obtain ⟨k,x⟩:=p;simp only [ZG,Qo,ih,j8,List.map_cons]
theorem WL (f:Nat) (r:Fr) (K:Fr→Option R):YZ f r K=K (vv f r):=by
 induction r generalizing K with
 |nil=>rfl
 |cons p r ih=>
  obtain ⟨k,x⟩:=p
  cases x<;>simp only [YZ,ih,vv,List.map_cons]
  rename_i g i o b cs
  cases Nat.beq g f<;>rfl
theorem Da (f:List Nat) (cs:List aE) (K:List aE→Option R):tB f cs K=K (cs.map (Lg f)):=by
 induction cs generalizing K with
 |nil=>rfl
 |cons l r ih=>cases l<;>simp only [tB,List.map_cons,Lg,ih];rename_i g;cases bp f g<;>rfl
theorem Qq (f:List Nat) (s:Slot) (K:Slot→Option R):Jc f s K=K (Fy f s):=by
 cases s with
 |sc l=>cases l<;>simp only [Jc,Fy,Lg];rename_i g;cases bp f g<;>rfl
 |ag cs=>simp only [Jc,Fy,Da]
 |box cs=>simp only [Jc,Fy,Da]
 |_=>rfl
theorem WM (f:List Nat) (r:Fr) (K:Fr→Option R):nFr f r K=K (Lh f r):=by
 induction r generalizing K with
 |nil=>rfl
 |cons p r ih=>obtain ⟨k,x⟩:=p;simp only [nFr,Qq,ih,Lh,List.map_cons]
theorem Qr (ks fs qs:List Nat) (r:List (Nat×mG)) (K:List (Nat×mG)→Option R):Gj ks fs qs r K=K (qA ks fs qs r):=by
 induction r generalizing K with
 |nil=>rfl
 |cons p r ih=>
  obtain ⟨k,x⟩:=p
  simp only [Gj,qA]
  cases bp ks k
  ·simp [ih]
  ·simp only [cond_true,ih]
   cases bp fs k&&!bp qs k<;>rfl
theorem vw {α:Type} (x y:List α):app x y=some (x++y):=by
 induction x with
 |nil=>rfl
 |cons a r ih=>simp [app,ih]
end
theorem dD (a b:Nat):Nat.beq a b=decide (a=b):=by
 by_cases h:a=b
 ·subst h;simp
 ·simp only [h,decide_false];exact Bool.eq_false_iff.2 (fun e=>h (Nat.eq_of_beq_eq_true e))
theorem bH (l:List Nat) (t:Nat):bp l t=true↔t∈l:=by
 induction l with
 |nil=>simp [bp]
 |cons k r ih=>
  simp only [bp,dD,List.mem_cons]
  by_cases h:k=t
  ·simp [h]
  ·simp only [h,decide_false,cond_false,ih]
   exact ⟨.inr,fun h'=>h'.resolve_left (fun e=>h e.symm)⟩
theorem bO (r:Fr) (d t:Nat) (s:Slot):ap (cA r d s) t=if t=d then s else ap r t:=by
 induction r with
 |nil=>simp only [cA,ap,dD];by_cases h:t=d<;>simp [h,Ne.symm]<;>(intro e;exact absurd e.symm h)
 |cons p r ih=>
  obtain ⟨k,x⟩:=p
  simp only [cA,dD]
  by_cases hk:k=d
  ·subst hk
   simp only [decide_true,cond_true,ap,dD]
   by_cases h:k=t
   ·simp [h]
   ·have h': ¬t=k:=fun e=>h e.symm
    simp [h,h']
  ·simp only [hk,decide_false,cond_false,ap,dD,ih]
   by_cases h:k=t
   ·subst h;simp [hk]
   ·simp [h]
theorem bg (r:List (Nat×mG)) (d t:Nat) (s:mG):aL (bR r d s) t=if t=d then some s else aL r t:=by
 induction r with
 |nil=>simp only [bR,aL,dD];by_cases h:t=d<;>simp [h,Ne.symm]<;>(intro e;exact absurd e.symm h)
 |cons p r ih=>
  obtain ⟨k,x⟩:=p
  simp only [bR,dD]
  by_cases hk:k=d
  ·subst hk
   simp only [decide_true,cond_true,aL,dD]
   by_cases h:k=t
   ·simp [h]
   ·have h': ¬t=k:=fun e=>h e.symm
    simp [h,h']
  ·simp only [hk,decide_false,cond_false,aL,dD,ih]
   by_cases h:k=t
   ·subst h;simp [hk]
   ·simp [h]
theorem Db (g:Slot→Slot) (hg:g (.sc .un)= .sc .un) (r:Fr) (t:Nat):ap (r.map fun p=>(p.1,g p.2)) t=g (ap r t):=by
 induction r with
 |nil=>simp [ap,hg]
 |cons p r ih=>
  obtain ⟨k,x⟩:=p
  simp only [List.map_cons,ap,dD]
  by_cases h:k=t<;>simp [h,ih]
theorem fO (f:Nat) (r:Fr) (t:Nat):ap (j8 f r) t=xK f (ap r t):=Db (xK f) rfl r t
theorem Gm (f:List Nat) (r:Fr) (t:Nat):ap (Lh f r) t=Fy f (ap r t):=Db (Fy f) rfl r t
def aM (r:Fr):List Nat:=r.map Prod.fst
theorem qj (r:Fr) (t:Nat) (h:t∉aM r):ap r t= .sc .un:=by
 induction r with
 |nil=>rfl
 |cons p r ih=>
  obtain ⟨k,x⟩:=p
  simp only [aM,List.map_cons,List.mem_cons,not_or] at h
  have h': ¬k=t:=fun e=>h.1 e.symm
  simp only [ap,dD,h',decide_false,cond_false]
  exact ih h.2
theorem zp (ds:List Nat) (r:Fr):List.Sublist (aM (mj ds r)) (aM r):=by
 induction r with
 |nil=>simp [aM,mj]
 |cons p r ih=>
  obtain ⟨k,x⟩:=p
  simp only [mj]
  cases cY x||bp ds k
  ·simpa [aM] using ih
  ·exact (List.Sublist.cons _ ih)
theorem tD (ds:List Nat) (r:Fr):List.Sublist (aM (mJ ds r)) (aM r):=by
 induction r with
 |nil=>simp [aM,mJ]
 |cons p r ih=>
  obtain ⟨k,x⟩:=p
  simp only [mJ]
  cases bp ds k&&!cY x
  ·exact (List.Sublist.cons _ ih)
  ·simpa [aM] using ih
theorem Dc (ds:List Nat) (r:Fr) (hn:(aM r).Nodup) (t:Nat):ap (mj ds r) t=if cY (ap r t)||bp ds t then .sc .un else ap r t:=by
 induction r with
 |nil=>simp [ap,mj]
 |cons p r ih=>
  obtain ⟨k,x⟩:=p
  simp only [aM,List.map_cons,List.nodup_cons] at hn
  have ih:=ih hn.2
  simp only [mj]
  by_cases hk:k=t
  ·subst hk
   cases hb:cY x||bp ds k
   ·simp [ap,dD,hb]
   ·simp only [cond_true,ap,dD,decide_true,hb,if_true]
    refine qj _ _ (fun hm=>hn.1 ((zp ds r).subset hm))
  ·cases hb:cY x||bp ds k
   ·simp [ap,dD,hk,ih]
   ·simp [ap,dD,hk,ih]
theorem yr (ds:List Nat) (r:Fr) (hn:(aM r).Nodup) (t:Nat):ap (mJ ds r) t=if bp ds t&&!cY (ap r t) then ap r t else .sc .un:=by
 induction r with
 |nil=>simp [ap,mJ]
 |cons p r ih=>
  obtain ⟨k,x⟩:=p
  simp only [aM,List.map_cons,List.nodup_cons] at hn
  have ih:=ih hn.2
  simp only [mJ]
  by_cases hk:k=t
  ·subst hk
   cases hb:bp ds k&&!cY x
   ·simp only [cond_false,ap,dD,decide_true,cond_true,hb]
    exact qj _ _ (fun hm=>hn.1 ((tD ds r).subset hm))
   ·simp [ap,dD,hb]
  ·cases hb:bp ds k&&!cY x<;>simp [ap,dD,hk,ih]
theorem vz (r s:Fr) (t:Nat):ap (r++s) t=if t∈aM r then ap r t else ap s t:=by
 induction r with
 |nil=>simp [aM]
 |cons p r ih=>
  obtain ⟨k,x⟩:=p
  simp only [List.cons_append,ap,dD,aM,List.map_cons,List.mem_cons]
  by_cases h:k=t
  ·simp [h]
  ·have h': ¬t=k:=fun e=>h e.symm
   simp only [h,h',decide_false,cond_false,ih,false_or]
   rfl
end Dn
/-
  Laws of leaves and slots: offsets, and what changes elsewhere. Conditions: none.
-/
set_option linter.unusedSimpArgs false
set_option linter.unusedVariables false
namespace Dn
open Go
section
variable {e e':Env}
theorem aO.width {vs:List Value} {l:aE} (h:aO e vs l):vs.length=l.w:=by
 cases l with
 |un=>obtain ⟨v,rfl,_⟩:=h;rfl
 |p m=>obtain ⟨v,rfl,_⟩:=h.2.one h.1;rfl
 |hs x=>cases h;simp [bq,x.h,aE.w]
 |nil=>cases h;rfl
 |mp s es=>exact h.elim
 |own f=>obtain ⟨v,rfl,_⟩:=h;rfl
theorem aO.cells {vs:List Value} {l:aE} (h:aO e vs l): ∀v∈vs,v.oneCell'=true:=by
 cases l with
 |un=>obtain ⟨v,rfl,hv⟩:=h;simpa using hv
 |p m=>exact h.2.cells
 |hs x=>
  cases h
  intro v hv
  obtain ⟨b,_,rfl⟩:=List.mem_map.1 hv
  rfl
 |nil=>cases h;simp [Value.oneCell']
 |mp s es=>exact h.elim
 |own f=>obtain ⟨v,rfl,hv,_⟩:=h;simpa using hv
theorem ax.width {cs:List aE}: ∀{vs:List Value},ax e vs cs→vs.length=vq cs:=by
 induction cs with
 |nil=>intro vs h;cases h;rfl
 |cons l r ih=>intro vs h;obtain ⟨v,w,rfl,h1,h2⟩:=h;simp [vq,h1.width,ih h2]
theorem ax.cells {cs:List aE}: ∀{vs:List Value},ax e vs cs→ ∀v∈vs,v.oneCell'=true:=by
 induction cs with
 |nil=>intro vs h;cases h;simp
 |cons l r ih=>
  intro vs h v hv
  obtain ⟨a,w,rfl,h1,h2⟩:=h
  rcases List.mem_append.1 hv with hv|hv
  ·exact h1.cells v hv
  ·exact ih h2 v hv
theorem ax.append {cs ds:List aE}: ∀{vs ws:List Value},ax e vs cs→ax e ws ds→ax e (vs++ws) (cs++ds):=by
 induction cs with
 |nil=>intro vs ws h h';cases h;simpa using h'
 |cons l r ih=>intro vs ws h h';obtain ⟨v,w,rfl,h1,h2⟩:=h;exact ⟨v,w++ws,by simp,h1,ih h2 h'⟩
theorem vA {cs:List aE}: ∀{off:Nat} {ds:List aE} {vs:List Value},cut cs off=some ds→ax e vs cs→
 ∃v1 v2,vs=v1++v2∧v1.length=off∧ax e v2 ds:=by
 induction cs with
 |nil=>
  intro off ds vs h hr
  cases off with
  |zero=>simp only [cut,Option.some.injEq] at h;subst h;exact ⟨[],vs,rfl,rfl,hr⟩
  |succ n=>simp [cut] at h
 |cons l r ih=>
  intro off ds vs h hr
  cases off with
  |zero=>simp only [cut,Option.some.injEq] at h;subst h;exact ⟨[],vs,rfl,rfl,hr⟩
  |succ n=>
   simp only [cut] at h
   cases hb:Nat.ble l.w (n+1) with
   |false=>simp [hb] at h
   |true=>
    simp only [hb,cond_true] at h
    have hle:=Nat.le_of_ble_eq_true hb
    obtain ⟨v,w,rfl,h1,h2⟩:=hr
    obtain ⟨v1,v2,rfl,hl,h3⟩:=ih h h2
    exact ⟨v++v1,v2,by simp,by simp [h1.width,hl];omega,h3⟩
theorem Oc {cs:List aE}: ∀{n:Nat} {ds:List aE} {vs:List Value},I4 cs n=some ds→ax e vs cs→
 ∃v1 v2,vs=v1++v2∧v1.length=n∧ax e v1 ds:=by
 induction cs with
 |nil=>
  intro n ds vs h hr
  cases n with
  |zero=>simp only [I4,Option.some.injEq] at h;subst h;exact ⟨[],vs,rfl,rfl,rfl⟩
  |succ n=>simp [I4] at h
 |cons l r ih=>
  intro n ds vs h hr
  cases n with
  |zero=>simp only [I4,Option.some.injEq] at h;subst h;exact ⟨[],vs,rfl,rfl,rfl⟩
  |succ n=>
   simp only [I4] at h
   cases hb:Nat.ble l.w (n+1) with
   |false=>simp [hb] at h
   |true=>
    simp only [hb,cond_true] at h
    have hle:=Nat.le_of_ble_eq_true hb
    obtain ⟨v,w,rfl,h1,h2⟩:=hr
    cases hu:I4 r (n+1-l.w) with
    |none=>simp [hu] at h
    |some b=>
     simp only [hu,Option.some.injEq] at h
     subst h
     obtain ⟨v1,v2,rfl,hl,h3⟩:=ih hu h2
     exact ⟨v++v1,v2,by simp,by simp [h1.width,hl];omega,v,v1,rfl,h1,h3⟩
theorem Gn {cs:List aE} {off n:Nat} {ds:List aE} {vs:List Value} (h:part cs off n=some ds) (hr:ax e vs cs):
 ∃v1 v2 v3,vs=v1++v2++v3∧v1.length=off∧v2.length=n∧ax e v2 ds:=by
 unfold part at h
 cases hc:cut cs off with
 |none=>simp [hc] at h
 |some a=>
  simp only [hc] at h
  obtain ⟨v1,v2,rfl,h1,h2⟩:=vA hc hr
  obtain ⟨v3,v4,rfl,h3,h4⟩:=Oc h h2
  exact ⟨v1,v3,v4,by simp,h1,h3,h4⟩
theorem Gp {ls:List aE}: ∀{cs ds:List aE} {vs ws:List Value},over ls cs=some ds→ax e vs cs→ax e ws ls→
 ∃v1 v2,vs=v1++v2∧v1.length=ws.length∧ax e (ws++v2) ds:=by
 induction ls with
 |nil=>intro cs ds vs ws h hr hw;simp only [over,Option.some.injEq] at h;subst h;cases hw;exact ⟨[],vs,rfl,rfl,hr⟩
 |cons l r ih=>
  intro cs ds vs ws h hr hw
  cases cs with
  |nil=>simp [over] at h
  |cons c cs=>
   simp only [over] at h
   cases hb:Nat.beq l.w c.w with
   |false=>simp [hb] at h
   |true=>
    simp only [hb,cond_true] at h
    have hww:=Nat.eq_of_beq_eq_true hb
    cases ho:over r cs with
    |none=>simp [ho] at h
    |some q=>
     simp only [ho,Option.some.injEq] at h
     subst h
     obtain ⟨v,w,rfl,h1,h2⟩:=hr
     obtain ⟨a,b,rfl,h3,h4⟩:=hw
     obtain ⟨v1,v2,rfl,hl,h5⟩:=ih ho h2 h4
     exact ⟨v++v1,v2,by simp,by simp [h1.width,h3.width,hl,hww],a,b++v2,by simp,h3,h5⟩
theorem tE {cs:List aE}: ∀{off:Nat} {ls ds:List aE} {vs ws:List Value},putAt cs off ls=some ds→ax e vs cs→ax e ws ls→
 ∃v1 v2 v3,vs=v1++v2++v3∧v1.length=off∧v2.length=ws.length∧ax e (v1++ws++v3) ds:=by
 induction cs with
 |nil=>
  intro off ls ds vs ws h hr hw
  cases off with
  |zero=>
   simp only [putAt] at h
   obtain ⟨v1,v2,rfl,h1,h2⟩:=Gp h hr hw
   exact ⟨[],v1,v2,by simp,rfl,h1,by simpa using h2⟩
  |succ n=>simp [putAt] at h
 |cons l r ih=>
  intro off ls ds vs ws h hr hw
  cases off with
  |zero=>
   simp only [putAt] at h
   obtain ⟨v1,v2,rfl,h1,h2⟩:=Gp h hr hw
   exact ⟨[],v1,v2,by simp,rfl,h1,by simpa using h2⟩
  |succ n=>
   simp only [putAt] at h
   cases hb:Nat.ble l.w (n+1) with
   |false=>simp [hb] at h
   |true=>
    simp only [hb,cond_true] at h
    have hle:=Nat.le_of_ble_eq_true hb
    obtain ⟨v,w,rfl,h1,h2⟩:=hr
    cases hu:putAt r (n+1-l.w) ls with
    |none=>simp [hu] at h
    |some b=>
     simp only [hu,Option.some.injEq] at h
     subst h
     obtain ⟨v1,v2,v3,rfl,hl,yt,h3⟩:=ih hu h2 hw
     exact ⟨v++v1,v2,v3,by simp,by simp [h1.width,hl];omega,yt,v,v1++ws++v3,by simp,h1,h3⟩
structure lG (S T:Nat→Prop) (e e':Env):Prop where
 key:e'.key=e.key
 φ:pL e.φ e'.φ
 B: ∀r,T r→e'.B r=e.B r
 gp: ∀f o',aL e'.m f=some o'→S f→ ∃o,aL e.m f=some o∧e'.E f=e.E f∧o'.xs=o.xs
def iG (S:Nat→Prop) (l:aE):Prop:= ∀f,l= .own f→S f
def fc (S T:Nat→Prop):Slot→Prop
 | .ptr r _=>T r
 | .vp r=>T r
 | .hp r _ _=>T r
 | .sc l=>iG S l
 | .ag cs=> ∀l∈cs,iG S l
 | .ep g _ _ _ _=>S g
 |_=>True
theorem aO.on {S T:Nat→Prop} (h:lG S T e e') {vs:List Value} {l:aE} (hl:iG S l) (hr:aO e vs l):aO e' vs l:=by
 cases l with
 |un=>exact hr
 |p m=>exact ⟨hr.1,by have:=hr.2.mono h.φ;rw [←h.key] at this;exact this⟩
 |hs x=>exact hr
 |nil=>exact hr
 |mp s es=>exact hr
 |own f=>
  obtain ⟨v,rfl,hv,hf⟩:=hr
  refine ⟨v,rfl,hv,fun o' FD=> ?_⟩
  obtain ⟨o,ho,hE,_⟩:=h.gp f o' FD (hl f rfl)
  rw [hE];exact hf o ho
theorem ax.on {S T:Nat→Prop} (h:lG S T e e') {cs:List aE}: ∀{vs:List Value},(∀l∈cs,iG S l)→ax e vs cs→ax e' vs cs:=by
 induction cs with
 |nil=>intro vs _ hr;exact hr
 |cons l r ih=>
  intro vs hl hr
  obtain ⟨v,w,rfl,h1,h2⟩:=hr
  exact ⟨v,w,rfl,h1.on h (hl l (by simp)),ih (fun x hx=>hl x (by simp [hx])) h2⟩
theorem Dd {S:Nat→Prop} {l:aE} (h:rq l=true):iG S l:=by
 intro f hf;subst hf;simp [rq] at h
theorem yu {S:Nat→Prop} {cs:List aE} (h:iv cs=true): ∀l∈cs,iG S l:=by
 induction cs with
 |nil=>simp
 |cons l r ih=>
  simp only [iv,Bool.and_eq_true] at h
  intro x hx
  rcases List.mem_cons.1 hx with rfl|hx
  ·exact Dd h.1
  ·exact ih h.2 x hx
mutual
theorem ae.on {S T:Nat→Prop} (h:lG S T e e') {v:Value}: ∀{s:Slot},fc S T s→ae e v s→ae e' v s
 | .skip,_,hr=>by simpa [ae] using hr
 | .sc l,hs,hr=>by
  cases l with
  |un=>simp [ae]
  |hs x=>simpa [ae] using hr
  |p m=>simp only [ae] at hr⊢;exact hr.on h hs
  |nil=>simp only [ae] at hr⊢;exact hr.on h hs
  |mp s es=>simp only [ae] at hr⊢;exact hr
  |own f=>simp only [ae] at hr⊢;exact hr.on h hs
 | .ag cs,hs,hr=>by
  simp only [ae] at hr⊢
  obtain ⟨arr,h1,h2⟩:=hr
  exact ⟨arr,h1,h2.on h hs⟩
 | .dr vs,_,hr=>by
  simp only [ae] at hr⊢
  obtain ⟨arr,h1,h2⟩:=hr
  exact ⟨arr,h1,jv.on h h2⟩
 | .box _,_,hr=>by simp [ae] at hr
 | .vo cs,_,hr=>by
  simp only [ae] at hr⊢
  obtain ⟨bj,o,vs,h1,h2,h3,h4⟩:=hr
  exact ⟨bj,o,vs,h1,h2.on h (yu h3),h3,fun j hj=>HA h.φ hj (h4 j hj)⟩
 | .ptr r o,hs,hr=>by simp only [ae] at hr⊢;rw [h.B r hs];exact hr
 | .vp r,hs,hr=>by simp only [ae] at hr⊢;rw [h.B r hs];exact hr
 | .rp cs off,_,hr=>by
  simp only [ae] at hr⊢
  obtain ⟨bj,o,vs,h1,h2,h3,h4⟩:=hr
  exact ⟨bj,o,vs,h1,h2.on h (yu h3),h3,fun j hj=>HA h.φ hj (h4 j hj)⟩
 | .hp r o i,hs,hr=>by simp only [ae] at hr⊢;rw [h.B r hs];exact hr
 | .ep f i off st cs,hs,hr=>by
  simp only [ae] at hr⊢
  intro o' FD
  obtain ⟨o,ho,hE,hx⟩:=h.gp f o' FD hs
  obtain ⟨bj,cap,h1,h2,h3⟩:=hr o ho
  exact ⟨bj,cap,by rw [hE,hx];exact h1,by rw [hx];exact h2,h3⟩
theorem jv.on {S T:Nat→Prop} (h:lG S T e e'): ∀{vs:List Value} {ss:List Slot},jv e vs ss→jv e' vs ss
 |vs,[],hr=>hr
 |vs,s::ss,hr=>by
  simp only [jv] at hr⊢
  obtain ⟨v,r,h1,h2,h3,h4⟩:=hr
  refine ⟨v,r,h1,ae.on h ?_ h2,h3,jv.on h h4⟩
  cases s<;>simp [xJ] at h3<;>simp only [fc]
  ·exact Dd h3
  ·exact yu h3
end
end
end Dn
/-
  The relation between an abstract state and a running frame; operations that change no memory. Conditions: none.
-/
set_option linter.unusedSimpArgs false
set_option linter.unusedVariables false
namespace Dn
open Go
section
variable {e e':Env}
theorem aO.kill {vs:List Value} {l:aE} (f:Nat) (h:aO e vs l):aO e vs (IK f l):=by
 cases l with
 |own g=>
  simp only [IK]
  cases Nat.beq g f
  ·exact h
  ·obtain ⟨v,rfl,hv,_⟩:=h;exact ⟨v,rfl,hv⟩
 |_=>exact h
theorem De (f:Nat) (l:aE):iG (· ≠f) (IK f l):=by
 intro g hg
 cases l<;>simp [IK] at hg
 rename_i g'
 cases hb:Nat.beq g' f<;>simp [hb] at hg
 subst hg
 intro e;subst e;simp [dD] at hb
theorem aO.M2 {vs:List Value} {l:aE} (f:List Nat) (h:aO e vs l):aO e vs (Lg f l):=by
 cases l with
 |own g=>
  simp only [Lg]
  cases bp f g
  ·obtain ⟨v,rfl,hv,_⟩:=h;exact ⟨v,rfl,hv⟩
  ·exact h
 |_=>exact h
theorem Li (f:List Nat) (l:aE):iG (· ∈f) (Lg f l):=by
 intro g hg
 cases l<;>simp [Lg] at hg
 rename_i g'
 cases hb:bp f g'<;>simp [hb] at hg
 subst hg
 exact (bH _ _).1 hb
theorem ax.map {g:aE→aE} (hg: ∀vs l,aO e vs l→aO e vs (g l)) {cs:List aE}: ∀{vs:List Value},ax e vs cs→ax e vs (cs.map g):=by
 induction cs with
 |nil=>intro vs h;exact h
 |cons l r ih=>intro vs h;obtain ⟨v,w,rfl,h1,h2⟩:=h;exact ⟨v,w,rfl,hg _ _ h1,ih h2⟩
theorem ae.WN {v:Value} {l:aE} (hl: ∀x,l≠ .hs x) (hu:l≠ .un):ae e v (.sc l)↔aO e [v] l:=by
 cases l<;>simp_all [ae]
theorem ae.kill {v:Value} {s:Slot} (f:Nat) (h:ae e v s):ae e v (xK f s):=by
 cases s with
 |sc l=>
  cases l with
  |own g=>
   simp only [xK,IK]
   cases Nat.beq g f
   ·exact h
   ·simp [ae]
  |_=>exact h
 |ag cs=>simp only [xK,ae] at h⊢;obtain ⟨arr,h1,h2⟩:=h;exact ⟨arr,h1,h2.map (fun _ _=>aO.kill f)⟩
 |box cs=>simp [ae] at h
 |ep g i o b cs=>
  simp only [xK]
  cases Nat.beq g f
  ·exact h
  ·simp [ae]
 |_=>exact h
theorem Qs (f:Nat) (T:Nat→Prop) (s:Slot) (hT:fc (fun _=>True) T s):fc (· ≠f) T (xK f s):=by
 cases s with
 |sc l=>exact De f l
 |ag cs=>intro l hl;obtain ⟨x,_,rfl⟩:=List.mem_map.1 hl;exact De f x
 |ep g i o b cs=>
  simp only [xK]
  cases hb:Nat.beq g f
  ·simp only [cond_false,fc];intro e;subst e;simp [dD] at hb
  ·simp [fc,iG]
 |ptr r o=>exact hT
 |hp r o i=>exact hT
 |_=>trivial
theorem ae.M2 {v:Value} {s:Slot} (f:List Nat) (h:ae e v s):ae e v (Fy f s):=by
 cases s with
 |sc l=>
  cases l with
  |own g=>
   simp only [Fy,Lg]
   cases bp f g
   ·simp [ae]
   ·exact h
  |_=>exact h
 |ag cs=>simp only [Fy,ae] at h⊢;obtain ⟨arr,h1,h2⟩:=h;exact ⟨arr,h1,h2.map (fun _ _=>aO.M2 f)⟩
 |box cs=>simp [ae] at h
 |_=>exact h
end
def bn (key:Nat→Nat) (φ:Ph) (size:Nat):List Value→List MV→Prop
 |vs,[]=>vs=[]
 |vs,x::xs=> ∃v r,vs=v++r∧v.length=size∧kR key φ v x∧bn key φ size r xs
structure bB where
 In:Nat→Prop
 b9:List Nat
 cn:List Nat
 T:Nat→Value
 ZR:Prop
 Pr:Nat→Prop
instance:CoeFun bB (fun _=>Nat→Prop):=⟨bB.In⟩
instance:Coe bB (Nat→Prop):=⟨bB.In⟩
theorem IL {a b c:Prop} (h:(a∧b)∨c) (hn: ¬a):c:=h.resolve_left fun h=>hn h.1
def bB.nc (Z:bB):bB:={Z with ZR:=False}
def bB.plain (I:Nat→Prop):bB:=⟨I,[],[],fun _=>undef,False,fun _=>True⟩
def bB.bz (Z:bB) (t:Nat):bB:={Z with In:=fun b=>(t∈Z.b9∧Z.Pr b)∨Z.In b}
def bB.fz (Z:bB) (f:Nat):bB:={Z with In:=fun b=>(f∈Z.cn∧Z.Pr b)∨Z.In b,ZR:=f∈Z.cn}
def A2:Kd→MV→Bool
 | .b,.b _=>true
 | .i k,.i k' _=>decide (k'=k)
 | .s,.s _=>true
 | .h,.h _=>true
 |_,_=>false
def cZ:List Kd→List MV→Bool
 |[],[]=>true
 |k::ks,m::ms=>A2 k m&&cZ ks ms
 |_,_=>false
def AS:MV→List Value
 | .b x=>[.bool x]
 | .i k n=>[.int k n]
 | .s l=>[.string ⟨l.toArray⟩]
 | .h x=>bq x
 |_=>[]
def eO (st:Bool) (ks:List MV):Value:=match st,ks with
 |false,[.h x]=> .agg (bq x).toArray
 |false,[.b x]=> .bool x
 |false,[.i k n]=> .int k n
 |false,[.s l]=> .string ⟨l.toArray⟩
 |_,ks=> .agg (ks.flatMap AS).toArray
def xw (b:Bool) (m:MV):Value:=match b,m with
 |true,.b x=> .bool x
 |false,.i .i64 n=> .int .i64 n
 |_,_=>undef
def Lj (b:Bool) (m:MV):Bool:=match b,m with
 |true,.b x=>true
 |false,.i .i64 n=>true
 |_,_=>false
def Qt (s:MS) (x:MapEntry) (m:MV) (i:Nat):Prop:=
 x.born=i∧ ∃ks v,m= .dr [.agg ks,v]∧cZ s.lay ks=true∧x.key=eO s.st ks∧Lj s.b v=true∧x.val=xw s.b v
structure oO (s:MS) (es:Array MapEntry) (clock:Nat) (ms:List MV):Prop where
 size:es.size=ms.length
 clock:clock=ms.length
 Ts: ∀(i:Nat) x m,es[i]? =some x→ms[i]? =some m→Qt s x m i
def jc (e:Env) (o:Obj) (cs:List aE):Prop:=match o with
 | .cells arr _ z=>z=(0,0)∧ax e arr.toList cs
 | .map es clock=> ∃s ms,cs=[.mp s ms]∧zl s=false∧oO s es clock ms
 | .stringIter x pos=>cs=[.mp MS.it [.s x.data.toList,.i .i64 pos]]
 |_=>False
def Df (cs:List aE) (b:Nat):Value:=bif kh cs then .map (some b) else .pointer (some ⟨b,0,none⟩)
structure ru (Z:bB) (e:Env) (w:World) (bj:Nat) (cs:List aE):Prop where
 cc:Z.In bj
 obj: ∃o,w.heap[bj]? =some o∧jc e o cs
 free: ∀off,e.φ bj off=none
theorem jc.on {S T:Nat→Prop} {e e':Env} (h:lG S T e e') {o:Obj} {cs:List aE} (hl: ∀l∈cs,iG S l) (hr:jc e o cs):jc e' o cs:=by
 cases o with
 |cells arr T z=>exact ⟨hr.1,hr.2.on h hl⟩
 |map es clock=>exact hr
 |stringIter x pos=>exact hr
 |_=>exact hr.elim
theorem HB {cs:List aE} (h:fa cs=true): ∃s ms,cs=[.mp s ms]:=by
 unfold fa at h
 split at h
 ·exact ⟨_,_,rfl⟩
 ·cases h
theorem jc.cells {e:Env} {o:Obj} {cs:List aE} (hr:jc e o cs) (hm:fa cs=false): ∃arr T,o= .cells arr T (0,0)∧ax e arr.toList cs:=by
 cases o with
 |cells arr T z=>obtain ⟨rfl,h⟩:=hr;exact ⟨arr,T,rfl,h⟩
 |map es clock=>obtain ⟨s,ms,rfl,_⟩:=hr;simp [fa] at hm
 |stringIter x pos=>rw [show cs=_ from hr] at hm;simp [fa] at hm
 |_=>exact hr.elim
theorem zq {cs:List aE} (h:fa cs=false):kh cs=false:=by
 unfold kh
 split
 ·simp [fa] at h
 ·rfl
theorem Jg (g:aE→aE) (h1: ∀s es,g (.mp s es)= .mp s es) (h2: ∀l,(∀s es,l≠ .mp s es)→ ∀s es,g l≠ .mp s es) (cs:List aE):kh (cs.map g)=kh cs:=by
 cases cs with
 |nil=>rfl
 |cons l r=>
  cases r with
  |nil=>
   by_cases hl: ∃s es,l= .mp s es
   ·obtain ⟨s,es,rfl⟩:=hl;simp [h1,kh]
   ·have A3: ∀s es,l≠ .mp s es:=fun s es e=>hl ⟨s,es,e⟩
    have hg:=h2 l A3
    simp only [List.map_cons,List.map_nil]
    have a:kh [l]=false:=by cases l<;>simp_all [kh]
    have b:kh [g l]=false:=by cases hq:g l<;>simp_all [kh]
    rw [a,b]
  |cons x y=>cases hl:l<;>simp [kh]
theorem ru.cells {Z:bB} {e:Env} {w:World} {bj:Nat} {cs:List aE} (h:ru Z e w bj cs) (hm:fa cs=false): ∃arr T,w.heap[bj]? =some (.cells arr T (0,0))∧ax e arr.toList cs:=by
 obtain ⟨o,h1,h2⟩:=h.obj
 obtain ⟨arr,T,rfl,h3⟩:=h2.cells hm
 exact ⟨arr,T,h1,h3⟩
theorem Lk {cs:List aE} (hm:kh cs=false) (b:Nat):Df cs b= .pointer (some ⟨b,0,none⟩):=by simp [Df,hm]
theorem r5 {cs:List aE} (hm:fa cs=false) (b:Nat):Df cs b= .pointer (some ⟨b,0,none⟩):=Lk (zq hm) b
theorem Qu {cs:List aE} (hm:kh cs=true) (b:Nat):Df cs b= .map (some b):=by simp [Df,hm]
theorem jc.map {e:Env} {g:aE→aE} (hg: ∀vs l,aO e vs l→aO e vs (g l)) (hm: ∀s es,g (.mp s es)= .mp s es) {o:Obj} {cs:List aE} (hr:jc e o cs):jc e o (cs.map g):=by
 cases o with
 |cells arr T z=>exact ⟨hr.1,hr.2.map hg⟩
 |map es clock=>obtain ⟨s,ms,rfl,h2⟩:=hr;exact ⟨s,ms,by simp [hm],h2⟩
 |stringIter x pos=>rw [show cs=_ from hr];show List.map g _=_;simp [hm]
 |_=>exact hr.elim
theorem Ll (f:Nat) (cs:List aE):kh (cs.map (IK f))=kh cs:=
 Jg _ (fun _ _=>rfl) (fun l hl s es=>by cases l<;>simp_all [IK];rename_i g;cases Nat.beq g f<;>simp) cs
theorem WO (f:List Nat) (cs:List aE):kh (cs.map (Lg f))=kh cs:=
 Jg _ (fun _ _=>rfl) (fun l hl s es=>by cases l<;>simp_all [Lg];rename_i g;cases bp f g<;>simp) cs
structure dc (c:Ctx) (Z:bB) (e:Env) (w:World) (v:Value) (o:mG):Prop where
 row: ∃I cells,c.ti o.ty=some I∧I.cH=[]∧w.ownsRow 0 o.ty I.size v o.xs.length cells∧bn e.key e.φ I.size cells o.xs∧
  ∀bj,v.ownBlock=some bj→Z.In bj∧(∀off u,e.φ bj off=some u→o.dO=true∧off<o.xs.length *I.size)∧(Z.ZR→o.dO=true→ ∀j,j<cells.length→e.φ bj j=cells[j]?)
def tied (Z:bB) (t:Nat) (v:Value) (cs:List aE) (b:Nat):Prop:=
 (vm t=false→v=Df cs b)∧(vm t=true→posOf t∈Z.b9∧Z.T (posOf t)= .pointer (some ⟨b,I3 t,none⟩))
theorem tied.kh {Z:bB} {t:Nat} {v:Value} {cs ir:List aE} {b:Nat} (h:tied Z t v cs b) (hm:kh ir=kh cs):tied Z t v ir b:=⟨fun hp=>by rw [h.1 hp];simp [Df,hm],h.2⟩
theorem tied.own {Z:bB} {t:Nat} {v:Value} {cs:List aE} {b:Nat} (hp:vm t=false) (h:v=Df cs b):tied Z t v cs b:=⟨fun _=>h,fun hq=>by rw [hp] at hq;cases hq⟩
def bX (Z:bB) (e:Env) (w:World) (t:Nat) (v:Value):Slot→Prop
 | .box cs=>tied Z t v cs (e.B t)∧ru (Z.bz t) e w (e.B t) cs
 |s=>ae e v s
def cg (fr:Fr):Slot→Prop
 | .ptr r _=>cB (ap fr r)=true
 | .hp r _ _=>cB (ap fr r)=true
 | .vp r=>cB (ap fr r)=true
 |_=>True
structure bP (c:Ctx) (Z:bB) (e:Env) (st:St) (a:Act) (w:World):Prop where
 defers:a.defers=[]∧st.b9=Z.b9∧st.cn=Z.cn∧ ∀t∈Z.b9,a.tmps.getD t undef=Z.T t
 size:a.tmps.size=c.n
 m:e.m=st.aV
 key:e.key=c.key
 nodup:(aM st.fr).Nodup
 slot: ∀t,bX Z e w t (a.tmps.getD t undef) (ap st.fr t)
 root: ∀t,cg st.fr (ap st.fr t)
 gp: ∀f o,aL st.aV f=some o→dc c (Z.fz f) e w (e.E f) o
 bb: ∀t t' cs ir,ap st.fr t= .box cs→ap st.fr t'= .box ir→t≠t'→e.B t≠e.B t'
 bf: ∀t cs f o,ap st.fr t= .box cs→aL st.aV f=some o→(e.E f).ownBlock≠some (e.B t)
 ff: ∀f f' o o' k,aL st.aV f=some o→aL st.aV f'=some o'→(e.E f).ownBlock=some k→(e.E f').ownBlock=some k→f=f'
 nE: ∀b o v,e.φ b o=some v→w.cell? ⟨b,o,none⟩=some v
 cc: ∀b,w.heap.size≤b→Z.In b
def Rest (w w':World):Prop:=w'.os=w.os∧w'.tape=w.tape∧w'.output=w.output∧ ∀a,w'.frozen? a=w.frozen? a
theorem Rest.refl (w:World):Rest w w:=⟨rfl,rfl,rfl,fun _=>rfl⟩
theorem Rest.trans {w w' wS:World} (h:Rest w w') (h':Rest w' wS):Rest w wS:=⟨h'.1.trans h.1,h'.2.1.trans h.2.1,h'.2.2.1.trans h.2.2.1,fun a=>(h'.2.2.2 a).trans (h.2.2.2 a)⟩
theorem Rest.alloc (w:World) (cs:Array Value) (t:TypeId):Rest w (w.alloc (.cells cs t)):=by
 refine ⟨rfl,rfl,rfl,fun a=> ?_⟩
 by_cases h:a.block=w.heap.size
 ·have e1:(w.alloc (.cells cs t)).heap[a.block]? =some (.cells cs t (0,0)):=by rw [h];exact iu w _
  have e2:w.heap[a.block]? =none:=by rw [h];simp
  simp [World.frozen?,e1,e2]
 ·exact World.frozen?_alloc_old _ _ _ h
theorem Rest.setRow (w:World) (g:Nat) (cs:Array Value):Rest w (w.setRow g cs):=by
 refine ⟨rfl,rfl,rfl,fun a=> ?_⟩
 by_cases h:a.block=g
 ·unfold World.frozen? World.setRow
  simp only [Array.getElem?_modify,h,if_true]
  cases hg:w.heap[g]? with
  |none=>rfl
  |some o=>cases o<;>rfl
 ·exact World.frozen?_of_block (setRow_other _ _ _ _ h)
structure dC (w w':World):Prop where
 size:w.heap.size≤w'.heap.size
 r6: ∀b,b<w.heap.size→w'.heap[b]? =w.heap[b]?
 rest:Rest w w'
theorem bo {w:World} {b:Nat} {x:Obj} (h:w.heap[b]? =some x):b<w.heap.size:=(Array.getElem?_eq_some_iff.1 h).1
theorem dC.cell {w w':World} (g:dC w w') {ad:Addr} {v:Value} (h:w.cell? ad=some v):w'.cell? ad=some v:=by
 have hl:=World.block_lt_of_cell? w ad h
 rw [World.cell?_of_block (g.r6 ad.block hl)];exact h
structure Trans (Z:Nat→Prop) (φ:Ph) (w:World) (φ':Ph) (w':World):Prop where
 ph:pL φ φ'
 heap: ∀b,¬Z b→b<w.heap.size→w'.heap[b]? =w.heap[b]?
 free: ∀b o,¬Z b→φ' b o=φ b o
 size:w.heap.size≤w'.heap.size
 rest:Rest w w'
theorem Trans.refl (Z:Nat→Prop) (φ:Ph) (w:World):Trans Z φ w φ w:=⟨.refl φ,fun _ _ _=>rfl,fun _ _ _=>rfl,Nat.le_refl _,.refl _⟩
theorem Trans.trans {Z:Nat→Prop} {φ φ' ZQ:Ph} {w w' wS:World} (h:Trans Z φ w φ' w') (h':Trans Z φ' w' ZQ wS):Trans Z φ w ZQ wS:=
 ⟨h.ph.trans h'.ph,fun b hb hl=>(h'.heap b hb (Nat.lt_of_lt_of_le hl h.size)).trans (h.heap b hb hl),fun b o hb=>(h'.free b o hb).trans (h.free b o hb),Nat.le_trans h.size h'.size,h.rest.trans h'.rest⟩
def nS (Z:bB) (e:Env) (w:World) (st:St) (v:Value):Slot→Prop
 | .box cs=> ∃bj,v=Df cs bj∧ru Z e w bj cs∧(∀t ir,ap st.fr t= .box ir→e.B t≠bj)∧(∀f o,aL st.aV f=some o→(e.E f).ownBlock≠some bj)
 |s=>ae e v s∧cg st.fr s
section
variable {c:Ctx} {Z:bB} {e:Env} {st:St} {a:Act} {w:World}
theorem ae.const {v:Value}:ae e v (wQ v):=by
 unfold wQ
 split<;>simp only [ae,aO,MV.one]<;>
  first
   |exact ⟨trivial,.b _⟩
   |exact ⟨trivial,.i _ _⟩
   |exact ⟨trivial,.s _⟩
   |exact ⟨trivial,.raw _ rfl⟩
theorem bP.eval (h:bP c Z e st a w) (x:Operand):ae e (a.eval x) (aH c st x)∧cg st.fr (aH c st x):=by
 cases x with
 |tmp t=>
  have hs:=h.slot t
  have hr:=h.root t
  simp only [Act.eval,aH]
  cases M3:plk c.par t with
  |some q=>
   simp only
   cases hq:vm q&&Nat.beq (posOf q) t with
   |false=>exact ⟨by simp [ae],trivial⟩
   |true=>
    simp only [cond_true]
    simp only [Bool.and_eq_true] at hq
    have hqt:=Nat.eq_of_beq_eq_true hq.2
    have hsq:=h.slot q
    split
    ·rename_i cs hfq
     rw [hfq] at hsq
     cases hm:fa cs with
     |true=>exact ⟨by simp [ae],trivial⟩
     |false=>
      obtain ⟨k1,k2⟩:=hsq.1.2 hq.1
      refine ⟨?_,by simp [cg,hfq,cB]⟩
      show a.tmps.getD t undef=_
      rw [←hqt,h.defers.2.2.2 _ k1,k2]
    ·exact ⟨by simp [ae],trivial⟩
  |none=>
  simp only
  generalize hf:ap st.fr t=s at hs hr
  cases s<;>simp only [bX] at hs<;>try exact ⟨hs,hr⟩
  ·rename_i cs
   cases WQ:vm t with
   |true=>simp only [cond_true];exact ⟨by simp [ae],trivial⟩
   |false=>
   simp only [cond_false]
   cases hm:kh cs with
   |true=>simp only [hm,cond_true,ae,cg,hf,cB];exact ⟨by rw [hs.1.1 WQ,Qu hm],trivial⟩
   |false=>simp only [hm,cond_false,ae,cg,hf,cB];exact ⟨by rw [hs.1.1 WQ,Lk hm],trivial⟩
 |const v=>
  refine ⟨ae.const,?_⟩
  simp only [aH]
  unfold wQ
  split<;>trivial
 |func f=>
  simp only [Act.eval,aH,ae,aO,MV.one,cg,and_true,true_and]
  exact .func f _ #[] [] (by rw [h.key]) (by simpa using gq.nil) (by simp)
 |global g=>simp [aH,ae,cg]
end
theorem Act.vB {a:Act} {d t:Nat} {v:Value} (hd:d<a.tmps.size):(a.put (some d) v).tmps.getD t undef=if t=d then v else a.tmps.getD t undef:=by
 simp only [Act.put,Array.getD_eq_getD_getElem?,Array.getElem?_setIfInBounds]
 by_cases h:d=t
 ·subst h;simp [hd]
 ·have h': ¬t=d:=fun e=>h e.symm
  simp [h,h']
theorem Qv {fr:Fr} {s:Slot} (h:cg fr s):fc (fun _=>True) (fun r=>cB (ap fr r)=true) s:=by
 cases s<;>simp_all [cg,fc,iG]
theorem HC (r:Fr) (d:Nat) (s:Slot):aM (cA r d s)=if d∈aM r then aM r else aM r++[d]:=by
 induction r with
 |nil=>simp [cA,aM]
 |cons p r ih=>
  obtain ⟨k,x⟩:=p
  simp only [cA,dD]
  by_cases h:k=d
  ·simp [h,aM]
  ·have h': ¬d=k:=fun e=>h e.symm
   have ih':List.map Prod.fst (cA r d s)=if d∈aM r then aM r else aM r++[d]:=ih
   simp only [h,h',decide_false,cond_false,aM,List.map_cons,List.mem_cons,false_or,ih']
   by_cases hm:d∈aM r
   ·have VG:d∈List.map Prod.fst r:=hm
    simp [hm,VG,aM]
   ·have VG:d∉List.map Prod.fst r:=hm
    simp [hm,VG,aM]
theorem eu {r:Fr} {d:Nat} {s:Slot} (h:(aM r).Nodup):(aM (cA r d s)).Nodup:=by
 rw [HC]
 by_cases hm:d∈aM r
 ·simpa [hm] using h
 ·simp only [hm,if_false]
  exact List.nodup_append.2 ⟨h,by simp,by intro x hx y hy;simp at hy;subst hy;intro e;subst e;exact hm hx⟩
section
variable {c:Ctx} {Z:bB} {e:Env} {st:St} {a:Act} {w:World} {R:Type} {K:St→Option R} {r:R}
def Env.zr (e:Env) (d bj:Nat):Env:={e with B:=fun t=>if t=d then bj else e.B t}
theorem ru.env {e e':Env} {bj:Nat} {cs:List aE} (h:ru Z e w bj cs) (hk:e'.key=e.key) (hp:e'.φ=e.φ) (hE:e'.E=e.E) (hm:e'.m=e.m):ru Z e' w bj cs:=by
 refine ⟨h.cc,?_,fun off=>by rw [hp];exact h.free off⟩
 obtain ⟨o,h1,h2⟩:=h.obj
 refine ⟨o,h1,h2.on (S:=fun _=>True) (T:=fun _=>False) ⟨hk,by rw [hp];exact .refl _,by simp,?_⟩ (by intro l _ f _;trivial)⟩
 intro f o ho _
 exact ⟨o,by rw [←hm];exact ho,by rw [hE],rfl⟩
theorem dc.env {e e':Env} {v:Value} {o:mG} (h:dc c Z e w v o) (hk:e'.key=e.key) (hp:e'.φ=e.φ):dc c Z e' w v o:=by
 obtain ⟨I,cells,h1,h2,h3,h4,h5⟩:=h.row
 exact ⟨I,cells,h1,h2,h3,by rw [hk,hp];exact h4,by rw [hp];exact h5⟩
theorem ru.to {bj:Nat} {cs:List aE} (h:ru Z e w bj cs) (t:Nat):ru (Z.bz t) e w bj cs:=⟨.inr h.cc,h.obj,h.free⟩
theorem dc.to {v:Value} {o:mG} {f:Nat} (h:dc c Z.nc e w v o) (hf:f∉Z.cn):dc c (Z.fz f) e w v o:=by
 obtain ⟨I,cells,h1,h2,h3,h4,h5⟩:=h.row
 exact ⟨I,cells,h1,h2,h3,h4,fun bj hb=>⟨.inr (h5 bj hb).1,(h5 bj hb).2.1,fun hc=>absurd hc hf⟩⟩
theorem cU {d:Option Nat} {s:Slot} {v:Value} (h:bP c Z e st a w) (hv:nS Z e w st v s) (hK:bc c st d s K=some r):
 ∃e' bL,bP c Z e' bL (a.put d v) w∧K bL=some r∧e'.φ=e.φ:=by
 cases d with
 |none=>exact ⟨e,st,h,hK,rfl⟩
 |some d=>
  simp only [bc] at hK
  cases xL:vm d||(Nat.ble c.n d||cB (ap st.fr d)) with
  |true=>simp [xL] at hK
  |false=>
   obtain ⟨aen,hb⟩:=Bool.or_eq_false_iff.1 xL
   simp only [xL,cond_false,wr] at hK
   cases hp:bp st.b9 d with
   |true=>simp [hp] at hK
   |false=>
    simp only [hp,cond_false,force_eq,lO] at hK
    simp only [Bool.or_eq_false_iff] at hb
    have ZS:d<a.tmps.size:=by
     rw [h.size]
     have:=hb.1
     by_cases du:d<c.n
     ·exact du
     ·have:Nat.ble c.n d=true:=Nat.ble_eq_true_of_le (by omega)
      simp_all
    have hdp:d∉Z.b9:=by
     intro hm
     rw [←h.defers.2.1,←bH,hp] at hm;cases hm
    have ZT: ∀fr:Fr,(a.put (some d) v).defers=[]∧({st with fr:=fr}:St).b9=Z.b9∧({st with fr:=fr}:St).cn=Z.cn∧ ∀t∈Z.b9,(a.put (some d) v).tmps.getD t undef=Z.T t:=by
     intro fr
     refine ⟨h.defers.1,h.defers.2.1,h.defers.2.2.1,fun t ht=> ?_⟩
     rw [Act.vB ZS,if_neg (by intro e;subst e;exact hdp ht)]
     exact h.defers.2.2.2 t ht
    have mL: ∀t,fc (fun _=>True) (fun r=>r≠d) (ap st.fr t):=by
     intro t
     have:=Qv (h.root t)
     generalize ap st.fr t=x at this
     cases x<;>simp_all [fc,iG]<;>(intro e;subst e;simp_all)
    by_cases hs: ∃cs,s= .box cs
    ·obtain ⟨cs,rfl⟩:=hs
     obtain ⟨bj,rfl,pM,TR,hnf⟩:=hv
     have tq:lG (fun _=>True) (fun r=>r≠d) e (e.zr d bj):=⟨rfl,.refl _,fun r hr=>by simp [Env.zr,hr],fun f o ho _=>⟨o,ho,rfl,rfl⟩⟩
     refine ⟨e.zr d bj,_,?_,hK,rfl⟩
     refine ⟨ZT _,by simpa [Act.put] using h.size,h.m,h.key,eu h.nodup,?_,?_,?_,?_,?_,?_,h.nE,h.cc⟩
     ·intro t
      rw [Act.vB ZS,bO]
      by_cases ht:t=d
      ·subst ht
       simp only [if_true,bX,Env.zr]
       exact ⟨.own aen rfl,(pM.to t).env rfl rfl rfl rfl⟩
      ·simp only [ht,if_false]
       have kT:=h.slot t
       have oP:=mL t
       generalize ap st.fr t=x at kT oP
       cases x<;>simp only [bX] at kT⊢ <;>try exact kT.on tq oP
       simp only [Env.zr,ht,if_false]
       exact ⟨kT.1,kT.2.env rfl rfl rfl rfl⟩
     ·intro t
      simp only [bO]
      by_cases ht:t=d
      ·simp [ht,cg]
      ·simp only [ht,if_false]
       have oP:=h.root t
       have Qw:=mL t
       generalize ap st.fr t=x at oP Qw
       cases x<;>simp_all [cg,bO,fc]
     ·intro f o ho;exact (h.gp f o ho).env rfl rfl
     ·intro t t' fg nF h1 h2 dt
      simp only [bO] at h1 h2
      simp only [Env.zr]
      by_cases ht:t=d
      ·by_cases zt:t'=d
       ·exact absurd (ht.trans zt.symm) dt
       ·simp only [zt,if_false] at h2
        simp only [ht,zt,if_true,if_false]
        exact fun e=>TR t' nF h2 e.symm
      ·simp only [ht,if_false] at h1
       by_cases zt:t'=d
       ·simp only [ht,zt,if_true,if_false]
        exact TR t fg h1
       ·simp only [zt,if_false] at h2
        simp only [ht,zt,if_false]
        exact h.bb t t' fg nF h1 h2 dt
     ·intro t fg f o h1 h2
      simp only [bO] at h1
      simp only [Env.zr]
      by_cases ht:t=d
      ·simp only [ht,if_true];exact hnf f o h2
      ·simp only [ht,if_false] at h1⊢;exact h.bf t fg f o h1 h2
     ·exact h.ff
    ·have VH:ae e v s∧cg st.fr s:=by
      cases s<;>simp_all [nS]
     refine ⟨e,_,?_,hK,rfl⟩
     refine ⟨ZT _,by simpa [Act.put] using h.size,h.m,h.key,eu h.nodup,?_,?_,h.gp,?_,?_,h.ff,h.nE,h.cc⟩
     ·intro t
      rw [Act.vB ZS,bO]
      by_cases ht:t=d
      ·simp only [ht,if_true]
       cases s<;>simp only [bX]<;>first|exact VH.1|exact absurd ⟨_,rfl⟩ hs
      ·simp only [ht,if_false];exact h.slot t
     ·intro t
      simp only [bO]
      by_cases ht:t=d
      ·simp only [ht,if_true]
       have hr:=VH.2
       cases s<;>simp only [cg,bO] at hr⊢
       ·rename_i r o
        by_cases Jh:r=d
        ·subst Jh;simp_all
        ·simp only [Jh,if_false];exact hr
       ·rename_i r
        by_cases Jh:r=d
        ·subst Jh;simp_all
        ·simp only [Jh,if_false];exact hr
       ·rename_i r o i
        by_cases Jh:r=d
        ·subst Jh;simp_all
        ·simp only [Jh,if_false];exact hr
      ·simp only [ht,if_false]
       have oP:=h.root t
       have Qw:=mL t
       generalize ap st.fr t=x at oP Qw
       cases x<;>simp_all [cg,bO,fc]
     ·intro t t' fg nF h1 h2 dt
      simp only [bO] at h1 h2
      by_cases ht:t=d
      ·simp only [ht,if_true] at h1;exact absurd ⟨_,h1⟩ hs
      ·by_cases zt:t'=d
       ·simp only [zt,if_true] at h2;exact absurd ⟨_,h2⟩ hs
       ·simp only [ht,zt,if_false] at h1 h2
        exact h.bb t t' fg nF h1 h2 dt
     ·intro t fg f o h1 h2
      simp only [bO] at h1
      by_cases ht:t=d
      ·simp only [ht,if_true] at h1;exact absurd ⟨_,h1⟩ hs
      ·simp only [ht,if_false] at h1;exact h.bf t fg f o h1 h2
end
end Dn
/-
  Operations that change no memory: moves, numbers, texts, places. Conditions: none.
-/
set_option linter.unusedSimpArgs false
set_option linter.unusedVariables false
namespace Dn
open Go
def Out (c:Ctx) (Z:bB) {R:Type} (K:St→Option R) (r:R) (φ:Ph) (w:World) (a':Act) (w':World):Prop:=
 ∃e' bL,bP c Z e' bL a' w'∧Trans Z φ w e'.φ w'∧K bL=some r
section
variable {P:Program} {c:Ctx} {Z:bB} {e:Env} {st:St} {a:Act} {w:World} {R:Type} {K:St→Option R} {r:R} {Q:Exit→Act→World→Prop} {o:Oper}
theorem nS.of {s:Slot} {v:Value} (h:ae e v s) (hr:cg st.fr s):nS Z e w st v s:=by
 cases s<;>first|exact ⟨h,hr⟩|(simp [ae] at h)
theorem fin {e':Env} {bL:St} {w':World} {s:Slot} {v:Value} (bW:(execOp a.eval o).run P w= .ok (.value v) w') (hs:bP c Z e' bL a w')
 (ht:Trans Z e.φ w e'.φ w') (hv:nS Z e' w' bL v s) (hK:bc c bL o.dst s K=some r):o.wp P a w (Out c Z K r e.φ w) Q:=by
 unfold Oper.wp
 rw [bW,Oper.upon_value]
 obtain ⟨e2,cS,h1,h2,h3⟩:=cU hs hv hK
 exact ⟨e2,cS,h1,by rw [h3];exact ht,h2⟩
theorem zu {e':Env} {bL:St} {w':World} (bW:(execOp a.eval o).run P w= .ok .skip w') (hs:bP c Z e' bL a w')
 (ht:Trans Z e.φ w e'.φ w') (hK:bc c bL o.dst (.sc .un) K=some r):o.wp P a w (Out c Z K r e.φ w) Q:=by
 unfold Oper.wp
 rw [bW,Oper.upon_skip]
 obtain ⟨e2,cS,h1,h2,h3⟩:=cU (v:=undef) hs (by simp [nS,ae,cg]) hK
 exact ⟨e2,cS,h1,by rw [h3];exact ht,h2⟩
theorem Od {e':Env} {bL:St} {w':World} {s:Slot} {v:Value} (hg:dC w w') (bW:(execOp a.eval o).run P w= .ok (.value v) w') (hs:bP c Z e' bL a w')
 (ht:Trans Z e.φ w e'.φ w') (hv:nS Z e' w' bL v s) (hK:bc c bL o.dst s K=some r):o.wp P a w (fun a' w'=>dC w w'∧Out c Z K r e.φ w a' w') Q:=by
 unfold Oper.wp
 rw [bW,Oper.upon_value]
 obtain ⟨e2,cS,h1,h2,h3⟩:=cU hs hv hK
 exact ⟨hg,e2,cS,h1,by rw [h3];exact ht,h2⟩
def Rd (P:Program) (c:Ctx) (Z:bB) {R:Type} (K:St→Option R) (r:R) (e:Env) (a:Act) (w:World) (o:Oper) (G:World→Prop):Prop:=
 ∃v,(∀w',G w'→(execOp a.eval o).run P w'= .ok (.value v) w')∧Out c Z K r e.φ w (a.put o.dst v) w
theorem Rd.wp {G:World→Prop} (h:Rd P c Z K r e a w o G) (hg:G w):o.wp P a w (Out c Z K r e.φ w) Q:=by
 obtain ⟨v,h1,h2⟩:=h
 unfold Oper.wp
 rw [h1 w hg,Oper.upon_value];exact h2
theorem Lm {G:World→Prop} {e':Env} {bL:St} {s:Slot} {v:Value} (bW: ∀w':World,G w'→(execOp a.eval o).run P w'= .ok (.value v) w') (hs:bP c Z e' bL a w)
 (ht:Trans Z e.φ w e'.φ w) (hv:nS Z e' w bL v s) (hK:bc c bL o.dst s K=some r):Rd P c Z K r e a w o G:=by
 obtain ⟨e2,cS,h1,h2,h3⟩:=cU hs hv hK
 exact ⟨v,bW,e2,cS,h1,by rw [h3];exact ht,h2⟩
theorem gX {s:Slot} {v:Value} (h:bP c Z e st a w) (bW: ∀w':World,(execOp a.eval o).run P w'= .ok (.value v) w') (hv:ae e v s) (hr:cg st.fr s)
 (hK:bc c st o.dst s K=some r):Rd P c Z K r e a w o (fun _=>True):=
 Lm (fun w' _=>bW w') h (.refl _ _ _) (.of hv hr) hK
theorem vC {v:Value} {x:Bool} (h:ae e v (.sc (.p (.b x)))):v= .bool x:=by
 simp only [ae,aO] at h
 obtain ⟨_,h⟩:=h
 generalize hv:[v]=vs at h
 cases h;simpa using hv
theorem jT {v:Value} {k:IntKind} {n:Int} (h:ae e v (.sc (.p (.i k n)))):v= .int k n:=by
 simp only [ae,aO] at h
 obtain ⟨_,h⟩:=h
 generalize hv:[v]=vs at h
 cases h;simpa using hv
theorem BL {v:Value} {l:List UInt8} (h:ae e v (.sc (.p (.s l)))): ∃b:ByteArray,v= .string b∧l=b.data.toList:=by
 simp only [ae,aO] at h
 obtain ⟨_,h⟩:=h
 generalize hv:[v]=vs at h
 cases h
 exact ⟨_,by simpa using hv,rfl⟩
theorem uV (x:Bool):ae e (.bool x) (.sc (.p (.b x))):=by simp only [ae,aO];exact ⟨rfl,.b x⟩
theorem pN (k:IntKind) (n:Int):ae e (.int k n) (.sc (.p (.i k n))):=by simp only [ae,aO];exact ⟨rfl,.i k n⟩
theorem Qx (b:ByteArray):ae e (.string b) (.sc (.p (.s b.data.toList))):=by simp only [ae,aO];exact ⟨rfl,.s b⟩
theorem tF {v u:Value} (h:ae e v (.sc (.p (.raw u)))):v=u:=by
 simp only [ae,aO] at h
 obtain ⟨_,h⟩:=h
 generalize hv:[v]=vs at h
 cases h;simpa using hv
theorem Dg (u:Value) (h:u.oneCell'=true):ae e u (.sc (.p (.raw u))):=by simp only [ae,aO];exact ⟨rfl,.raw u h⟩
theorem HD {x:Operand} (ho:o.op= .move x∨o.op= .assign x) (h:bP c Z e st a w) (hK:bc c st o.dst (aH c st x) K=some r):
 Rd P c Z K r e a w o (fun _=>True):=by
 obtain ⟨h1,h2⟩:=h.eval x
 refine gX h ?_ h1 h2 hK
 rcases ho with ho|ho<;>simp [execOp,ho]
theorem Ji {x:Operand} (ho:o.op= .nilCheck x) (h:bP c Z e st a w)
 (hK:WG (aH c st x) (fun s=>bc c st o.dst s K)=some r):Rd P c Z K r e a w o (fun _=>True):=by
 obtain ⟨h1,h2⟩:=h.eval x
 unfold WG at hK
 split at hK
 ·rename_i gu
  rw [gu] at h1 h2
  refine gX h ?_ (v:=a.eval x) h1 h2 hK
  simp only [ae] at h1
  simp [execOp,ho,h1]
 ·rename_i gu
  rw [gu] at h1 h2
  refine gX h ?_ (v:=a.eval x) h1 h2 hK
  simp only [ae] at h1
  obtain ⟨bj,q,vs,CU,h3⟩:=h1
  simp [execOp,ho,CU]
 ·simp at hK
theorem TS {x y z:Operand} (ho:o.op= .pick x y z) (h:bP c Z e st a w)
 (hK:P6 (aH c st x) (aH c st y) (aH c st z) (fun s=>bc c st o.dst s K)=some r):Rd P c Z K r e a w o (fun _=>True):=by
 obtain ⟨hx,_⟩:=h.eval x
 obtain ⟨hy,hy2⟩:=h.eval y
 obtain ⟨hz,ZU⟩:=h.eval z
 have bW: ∀v,a.eval x= .bool v→ ∀w:World,(execOp a.eval o).run P w= .ok (.value (if v then a.eval y else a.eval z)) w:=by
  intro v hv w;simp [execOp,ho,hv,asBool]
 unfold P6 at hK
 split at hK
 ·rename_i v hv
  have WR:=vC (by rw [hv] at hx;exact hx)
  have hr:=bW v WR
  split at hK
  ·rename_i p q hp hq
   rw [hp] at hy;rw [hq] at hz
   simp only [vC hy,vC hz] at hr
   refine gX h hr ?_ (s:= .sc (.p (.b (bif v then p else q)))) trivial hK
   cases v
   ·exact uV q
   ·exact uV p
  ·cases v
   ·exact gX h hr hz ZU hK
   ·exact gX h hr hy hy2 hK
 ·simp at hK
theorem TT {op:UnOp} {ty:TypeId} {x:Operand} (ho:o.op= .unOp op ty x) (h:bP c Z e st a w)
 (hK:unK op (aH c st x) (fun s=>bc c st o.dst s K)=some r):Rd P c Z K r e a w o (fun _=>True):=by
 obtain ⟨hx,_⟩:=h.eval x
 generalize aH c st x=s at hx hK
 unfold unK at hK
 split at hK
 ·refine gX h ?_ (uV _) trivial hK
  simp [execOp,ho,vC hx,Op.unary]
 ·refine gX h ?_ (pN _ _) trivial hK
  simp [execOp,ho,jT hx,Op.unary,Op.intArith]
 ·simp at hK
end
end Dn
/-
  The type table; numbers, texts, places, loads. Conditions: none.
-/
set_option linter.unusedSimpArgs false
set_option linter.unusedVariables false
namespace Dn
open Go
def Cs:List Kd→Nat
 |[]=>0
 | .h::r=>32+Cs r
 |_::r=>1+Cs r
def qB (ti:Nat→Option TI) (P:Program) (I:TI) (z:Option Value):TypeDesc→Prop
 | .struct fs=>I.st=true∧I.cH=[]∧(0<I.size∧Cs I.lay=I.size)∧fs.toList.map (·.offset)=I.IZ∧fs.toList.map (·.type)=I.N0∧
  (∀(k:Nat) (f:Field),fs[k]? =some f→ ∃J,ti f.type=some J∧J.cH=[]∧0<J.size)∧
  ∃cs,z=some (.agg cs)∧rr I.zero cs.toList=true∧cs.size=I.size
 | .tuple ts=>I.cH=ts.toList∧I.cH≠[]∧I.lay=[]∧I.st=false
 | .slice el=>I.st=false∧I.cH=[]∧I.size=1∧I.elem=el∧(∃E,ti el=some E∧E.cH=[]∧0<E.size)∧z=some (.slice none 0 0)∧I.zero=[.nil]∧(∃k,I.lay=[k]∧k= .l)
 | .array n el=>I.st=false∧I.cH=[]∧I.size=32∧n=32∧I.elem=el∧(∃i,P.underlying el=some (.int .u8)∧P.info? el=some i∧i.size=1)∧I.lay=[.h]∧I.zero=[.hs jq.zero]∧z=some (.agg (bq jq.zero).toArray)
 | .bool=>I.st=false∧I.cH=[]∧I.size=1∧I.lay=[.b]∧I.zero=[.p (.b false)]∧z=some (.bool false)
 | .int k=>I.st=false∧I.cH=[]∧I.size=1∧I.lay=[.i k]∧I.zero=[.p (.i k 0)]∧z=some (.int k 0)
 | .string=>I.st=false∧I.cH=[]∧I.size=1∧I.lay=[.s]∧I.zero=[.p (.s [])]∧ ∃b:ByteArray,z=some (.string b)∧b.data.toList=[]
 |_=>I.st=false∧I.cH=[]∧I.size=1∧I.lay=[.raw]∧ ∃v,z=some v∧v.oneCell'=true∧rr I.zero [v]=true
def nI (ti:Nat→Option TI) (P:Program) (t:Nat) (I:TI):Prop:=
 ∃d i,P.underlying t=some d∧P.info? t=some i∧(I.cH=[]→i.size=I.size∧i.bytes=I.bytes)∧qB ti P I i.zero d
def jI (P:Program) (ti:Nat→Option TI):Prop:= ∀t I,ti t=some I→nI ti P t I
section
variable {P:Program} {c:Ctx} {Z:bB} {e:Env} {st:St} {a:Act} {w:World} {R:Type} {K:St→Option R} {r:R} {Q:Exit→Act→World→Prop} {o:Oper}
theorem dP {x:Bool} {k:Option R} (h:cb x k=some r):x=true∧k=some r:=by
 cases x
 ·simp [cb] at h
 ·exact ⟨rfl,h⟩
theorem pO {α:Type} {x:Option α} {k:α→Option R} (h:bd x k=some r): ∃y,x=some y∧k y=some r:=by
 cases x with
 |none=>simp [bd] at h
 |some y=>exact ⟨y,rfl,h⟩
theorem Jj {l:List MV} {i:Int} {k:MV→Option R} (h:idx l i k=some r):0≤i∧ ∃y,l[i.toNat]? =some y∧k y=some r:=by
 unfold idx WD at h
 by_cases hi:0≤i
 ·simp only [hi,if_true] at h
  cases hl:l[i.toNat]? with
  |none=>simp [hl] at h
  |some y=>exact ⟨hi,y,rfl,by simpa [hl] using h⟩
 ·simp [hi] at h
theorem nI.agg {ti:Nat→Option TI} {t:Nat} {I:TI} (h:nI ti P t I) (hc:I.cH=[]):
 (∃d,P.underlying t=some d∧d.isRow=true∧(I.st=true∨I.st=false∧I.size=32))∨(∃d,P.underlying t=some d∧d.isRow=false∧I.st=false∧I.size=1):=by
 obtain ⟨d,i,h1,h2,h3,h4⟩:=h
 cases d<;>simp only [qB] at h4<;>first
  |exact .inl ⟨_,h1,rfl,.inl h4.1⟩
  |exact .inl ⟨_,h1,rfl,.inr ⟨h4.1,h4.2.2.1⟩⟩
  |exact .inr ⟨_,h1,rfl,h4.1,h4.2.2.1⟩
  |exact absurd hc h4.2.1
theorem nI.info {ti:Nat→Option TI} {t:Nat} {I:TI} (h:nI ti P t I) (hc:I.cH=[]):
 ∃i,P.info? t=some i∧i.size=I.size∧i.bytes=I.bytes:=by
 obtain ⟨d,i,h1,h2,h3,h4⟩:=h
 exact ⟨i,h2,h3 hc⟩
theorem bK {t:Nat} {I:TI} (h:c.tv t=some I):c.ti t=some I∧I.cH=[]:=by
 unfold Ctx.tv at h
 cases hc:c.ti t with
 |none=>simp [hc] at h
 |some J=>
  cases hj:J.cH with
  |nil=>simp [hc,hj] at h;subst h;exact ⟨rfl,hj⟩
  |cons x y=>simp [hc,hj] at h
theorem Ln {s t:TypeId} {x:Operand} {I:TI} (ho:o.op= .convert s t x) (hI:c.ti t=some I) (hT:jI P c.ti) (hs: ∃d,P.underlying s=some d) {fk:Option FloatKind} (Dh: ∀k,fk=some k→P.underlying t=some (.float k)) (h:bP c Z e st a w)
 (hK:P7 I fk (aH c st x) (fun s=>bc c st o.dst s K)=some r):Rd P c Z K r e a w o (fun _=>True):=by
 obtain ⟨hx,_⟩:=h.eval x
 obtain ⟨ds,hds⟩:=hs
 obtain ⟨d,i,h1,h2,h3,h4⟩:=hT t I hI
 generalize aH c st x=s' at hx hK
 unfold P7 at hK
 split at hK
 ·rename_i k k' n iw IM hl
  have hd:d= .int k:=by
   cases d<;>simp only [qB,hl,iw,IM] at h4<;>simp_all
  subst hd
  refine gX h ?_ (pN _ _) trivial hK
  simp [execOp,ho,jT hx,convert,run_underlying hds,run_underlying h1,Conv.intToInt]
 ·rename_i l iw IM hl
  have hd:d= .string:=by
   cases d<;>simp only [qB,hl,iw,IM] at h4<;>simp_all
  subst hd
  obtain ⟨b,hb,rfl⟩:=BL hx
  refine gX h ?_ (Qx b) trivial hK
  simp [execOp,ho,hb,convert,run_underlying hds,run_underlying h1]
 ·rename_i k x iw IM hl
  have hd:d= .int k:=by
   cases d<;>simp only [qB,hl,iw,IM] at h4<;>simp_all
  subst hd
  obtain ⟨n,hn,hK⟩:=pO hK
  obtain ⟨hr,hK⟩:=dP hK
  have hr:=of_decide_eq_true hr
  refine gX h ?_ (pN _ _) trivial hK
  simp [execOp,ho,tF hx,convert,run_underlying hds,run_underlying h1,Conv.floatToInt,hn,hr]
 ·rename_i k n iw IM hl
  split at hK
  ·have CU:=Dh _ rfl
   refine gX h ?_ (Dg _ rfl) trivial hK
   simp [execOp,ho,jT hx,convert,run_underlying hds,run_underlying CU,Conv.intToFloat]
  ·simp at hK
 ·simp at hK
theorem TU {op:BinOp} {k:IntKind} {x y:Int} {m:MV} {t:TypeId} (hm:MU op k x y=some m):
 ∃v,(∀w:World,(binOp op t (.int k x) (.int k y)).run P w= .ok v w)∧ae e v (.sc (.p m)):=by
 cases op<;>simp only [MU,Option.some.injEq,reduceCtorEq] at hm<;>subst hm
 ·exact ⟨_,by simp [binOp,Op.intArith],pN _ _⟩
 ·exact ⟨_,by simp [binOp,Op.intArith],pN _ _⟩
 ·exact ⟨_,by simp [binOp,Op.intArith],pN _ _⟩
 ·exact ⟨.int k (TJ k x y),fun w=>by simp [binOp];rfl,pN _ _⟩
 ·exact ⟨.int k (bOr k x y),fun w=>by simp [binOp];rfl,pN _ _⟩
 ·exact ⟨.int k (K5 k x y),fun w=>by simp [binOp];rfl,pN _ _⟩
 ·refine ⟨.bool (decide (x=y)),fun w=> ?_,uV _⟩;simp [binOp,Op.intCmp];rfl
 ·refine ⟨.bool (!decide (x=y)),fun w=> ?_,uV _⟩;simp [binOp,Op.intCmp];rfl
 ·exact ⟨.bool (decide (x<y)),by simp [binOp,Op.intCmp],uV _⟩
 ·exact ⟨.bool (decide (x≤y)),by simp [binOp,Op.intCmp],uV _⟩
 ·exact ⟨.bool (decide (y<x)),by simp [binOp,Op.intCmp],uV _⟩
 ·exact ⟨.bool (decide (y≤x)),by simp [binOp,Op.intCmp],uV _⟩
theorem toList_data (b:ByteArray):b.toList=b.data.toList:=by
 exact ByteArray.toList_eq b
theorem TV {op:BinOp} {x y:ByteArray} {m:MV} {t:TypeId} (hm:Ht op x.data.toList y.data.toList=some m):
 ∃v,(∀w:World,(binOp op t (.string x) (.string y)).run P w= .ok v w)∧ae e v (.sc (.p m)):=by
 have aeo:(x.data.toList==y.data.toList)=decide (x.data.toList=y.data.toList):=by
  rw [Bool.eq_iff_iff];simp
 cases op<;>simp only [Ht,Option.some.injEq,reduceCtorEq] at hm<;>subst hm<;>
  exact ⟨_,fun w=>by simp only [binOp,Op.stringOp,toList_data,aeo];rfl,uV _⟩
theorem Oe (b:ByteArray) (n:Nat):b[n]? =b.data.toList[n]? :=by
 by_cases h:n<b.size
 ·have h2:n<b.data.toList.length:=by simpa using h
  rw [getElem?_pos b n h,List.getElem?_eq_getElem h2]
  rfl
 ·have h2: ¬n<b.data.toList.length:=by simpa using h
  rw [getElem?_neg b n h,List.getElem?_eq_none (by omega)]
theorem yv (x:jq) (n:Nat) (h:n<32):(bq x)[n]? =some (.int .u8 ((x.l.getD n 0).toNat:Int)):=by
 have hl:n<x.l.length:=by rw [x.h];exact h
 simp [bq,List.getElem?_map,List.getD,List.getElem?_eq_getElem hl]
theorem ZV {t:TypeId} {x y:Operand} {I:TI} (ho:o.op= .index t x y) (hI:c.ti t=some I) (hT:jI P c.ti) (h:bP c Z e st a w)
 (hK:ixK I (aH c st x) (aH c st y) (fun s=>bc c st o.dst s K)=some r):Rd P c Z K r e a w o (fun _=>True):=by
 obtain ⟨hx,_⟩:=h.eval x
 obtain ⟨hy,_⟩:=h.eval y
 obtain ⟨d,i,h1,h2,h3,h4⟩:=hT t I hI
 generalize aH c st x=sx at hx hK
 generalize aH c st y=sy at hy hK
 unfold ixK at hK
 split at hK
 ·rename_i l k n iw hl
  have hd:d= .string:=by
   cases d<;>simp only [qB,hl,iw] at h4<;>simp_all
  subst hd
  cases hc:decide ((0:Int)≤n∧n<(l.length:Int)) with
  |false=>simp [cb,hc] at hK
  |true=>
   simp only [cb,hc] at hK
   obtain ⟨Tt,IP⟩:=of_decide_eq_true hc
   obtain ⟨b,hb,rfl⟩:=BL hx
   have du:n.toNat<b.data.toList.length:=by omega
   refine gX h ?_ (pN .u8 ((b.data.toList.getD n.toNat 0).toNat:Int)) trivial hK
   have hg:b[n.toNat]? =some (b.data.toList.getD n.toNat 0):=by
    rw [Oe,List.getElem?_eq_getElem du];simp [List.getD,List.getElem?_eq_getElem du]
   simp [execOp,ho,hb,jT hy,Instr.index,run_underlying h1,asIntOf,Tt,hg]
 ·rename_i b k n iw hl
  cases d<;>simp only [qB,hl,iw] at h4<;>first|(exfalso;simp_all;done)|skip
  rename_i len el
  cases hc:decide ((0:Int)≤n∧n<32) with
  |false=>simp [cb,hc] at hK
  |true=>
   simp only [cb,hc] at hK
   obtain ⟨Tt,IP⟩:=of_decide_eq_true hc
   simp only [ae] at hx
   obtain ⟨_,_,_,rfl,_,⟨ie,hu,zf,vn⟩,_⟩:=h4
   refine gX h ?_ (pN .u8 ((b.l.getD n.toNat 0).toNat:Int)) trivial hK
   have hg:=yv b n.toNat (by omega)
   have WS:(bq b).toArray[n.toNat]? =some (.int .u8 ((b.l.getD n.toNat 0).toNat:Int)):=by simpa using hg
   simp [execOp,ho,hx,jT hy,Instr.index,run_underlying h1,asIntOf,Tt,IP,Go.part,isAgg,run_underlying hu,Go.sizeOf,typeInfo,zf,vn,hg,WS]
 ·simp at hK
def HE (P:Program) (ti:Nat→Option TI):Prop:= ∀t I,ti t=some I→I.cH=[]→ ∀(e:Env) (w:World) (vx vy:Value) (sx sy:Slot) (b:Bool),ae e vx sx→ae e vy sy→
 eG I.lay (aK sx)=true→eG I.lay (aK sy)=true→lu I.st sx=true→lu I.st sy=true→iD (aK sx) (aK sy)=some b→
 (∀k n k' n',sx= .sc (.p (.i k n))→sy= .sc (.p (.i k' n'))→False)→(∀l l',sx= .sc (.p (.s l))→sy= .sc (.p (.s l'))→False)→
 (Op.equal t vx vy).run P w= .ok b w∧ ∀(x y:Operand) (op:BinOp),(eqGuard op t x y vx vy).run P w= .ok () w∧(op= .eql→binOp op t vx vy=(do pure (.bool (←Op.equal t vx vy))))∧(op= .neq→binOp op t vx vy=(do pure (.bool (!(←Op.equal t vx vy)))))
theorem Qy {op:BinOp} {t t':TypeId} {x y:Operand} (ho:o.op= .binOp op t x y t') (h:bP c Z e st a w)
 (hE:HE P c.ti)
 (hK:WE (c.tv t) op (aH c st x) (aH c st y) (fun s=>bc c st o.dst s K)=some r):Rd P c Z K r e a w o (fun _=>True):=by
 obtain ⟨hx,_⟩:=h.eval x
 obtain ⟨hy,_⟩:=h.eval y
 generalize hsx:aH c st x=sx at hx hK
 generalize hsy:aH c st y=sy at hy hK
 have bW: ∀v,(∀w:World,(binOp op t (a.eval x) (a.eval y)).run P w= .ok v w)→(∀cs,a.eval x≠ .agg cs)→a.eval x≠ .nilIface→ ∀w:World,(execOp a.eval o).run P w= .ok (.value v) w:=by
  intro v hv Y2 hni w
  have hg:(eqGuard op t x y (a.eval x) (a.eval y)).run P w= .ok () w:=by
   generalize a.eval x=va at Y2 hni
   generalize a.eval y=vb
   have hm: ∀(u v:Value),u=va→(∀cs,u≠ .agg cs)→u≠ .nilIface→(eqGuard op t x y u v).run P w= .ok () w:=by
    intro u v _ h1 h2
    cases u<;>first
     |exact absurd rfl h2
     |exact absurd rfl (h1 _)
     |(cases op<;>rfl)
   exact hm va vb rfl Y2 hni
  simp [execOp,ho,hg,hv]
 unfold WE at hK
 split at hK
 ·rename_i k n k' n'
  have e1:=jT hx
  have e2:=jT hy
  split at hK
  ·cases hk:decide (k=k') with
   |false=>simp [hk] at hK
   |true=>
    have hk:=of_decide_eq_true hk
    subst hk
    simp only [decide_true,cond_true] at hK
    cases hz:decide (n'=0) with
    |true=>simp [cb,hz] at hK
    |false=>
     simp only [cb,hz,Bool.not_false] at hK
     have hz:=of_decide_eq_false hz
     refine gX h (bW _ ?_ (by simp [e1]) (by simp [e1])) (pN _ _) trivial hK
     simp [binOp,e1,e2,Op.intDiv,hz]
  ·cases hk:decide (k=k') with
   |false=>simp [hk] at hK
   |true=>
    have hk:=of_decide_eq_true hk
    subst hk
    simp only [decide_true,cond_true] at hK
    cases hz:decide (n'=0) with
    |true=>simp [cb,hz] at hK
    |false=>
     simp only [cb,hz,Bool.not_false] at hK
     have hz:=of_decide_eq_false hz
     refine gX h (bW _ ?_ (by simp [e1]) (by simp [e1])) (pN _ _) trivial hK
     simp [binOp,e1,e2,Op.intDiv,hz]
  ·cases hz:decide ((0:Int)≤n') with
   |false=>simp [cb,hz] at hK
   |true=>
    simp only [cb,hz] at hK
    have hz:=of_decide_eq_true hz
    refine gX h (bW _ ?_ (by simp [e1]) (by simp [e1])) (pN _ _) trivial hK
    have: ¬n'<0:=by omega
    simp [binOp,e1,e2,Op.shift,this]
  ·cases hz:decide ((0:Int)≤n') with
   |false=>simp [cb,hz] at hK
   |true=>
    simp only [cb,hz] at hK
    have hz:=of_decide_eq_true hz
    refine gX h (bW _ ?_ (by simp [e1]) (by simp [e1])) (pN _ _) trivial hK
    have: ¬n'<0:=by omega
    simp [binOp,e1,e2,Op.shift,this]
  ·cases hk:decide (k=k') with
   |false=>simp [hk] at hK
   |true=>
    have hk:=of_decide_eq_true hk
    subst hk
    simp only [decide_true,cond_true] at hK
    cases hm:MU op k n n' with
    |none=>simp [hm] at hK
    |some m=>
     simp only [hm] at hK
     obtain ⟨v,hv,hr⟩:=TU (P:=P) (e:=e) (t:=t) hm
     exact gX h (bW v (by rw [e1,e2];exact hv) (by simp [e1]) (by simp [e1])) hr trivial hK
 ·rename_i l l'
  obtain ⟨b,hb,rfl⟩:=BL hx
  obtain ⟨b',Ct,rfl⟩:=BL hy
  split at hK
  ·obtain ⟨hz,hK⟩:=dP hK
   ·have hz:=of_decide_eq_true hz
    have hr:ae e (.string (b++b')) (.sc (.p (.s (b.data.toList++b'.data.toList)))):=by
     have:=Qx (e:=e) (b++b')
     simpa [ByteArray.data_append] using this
    refine gX h (bW _ ?_ (by simp [hb]) (by simp [hb])) hr trivial hK
    have hs: ¬(((b.size+b'.size:Nat):Int)>IntKind.i64.max):=by
     have h1:b.size=b.data.toList.length:=by simp
     have h2:b'.size=b'.data.toList.length:=by simp
     have:IntKind.i64.max=9223372036854775807:=by decide
     rw [this];omega
    intro w
    simp only [binOp,hb,Ct,Op.stringOp,hs,if_false]
    rfl
  ·cases hm:Ht op b.data.toList b'.data.toList with
   |none=>simp [hm] at hK
   |some m=>
    simp only [hm] at hK
    obtain ⟨v,hv,hr⟩:=TV (P:=P) (e:=e) (t:=t) hm
    exact gX h (bW v (by rw [hb,Ct];exact hv) (by simp [hb]) (by simp [hb])) hr trivial hK
 ·have e1:=tF hx
  have e2:=tF hy
  obtain ⟨r',hr',hK⟩:=pO hK
  refine gX h (bW _ ?_ (by simp [e1]) (by simp [e1])) (Dg (.float .f64 r') rfl) trivial hK
  intro w
  cases op<;>simp only [ZH,reduceCtorEq] at hr'<;>simp [binOp,e1,e2,Op.floatArith,hr']
 ·rename_i IP HF hn3
  split at hK
  ·rename_i I hI
   obtain ⟨Lo,KU⟩:=bK hI
   cases hf:eG I.lay (aK sx)&&eG I.lay (aK sy)&&(lu I.st sx&&lu I.st sy) with
   |false=>simp [hf] at hK
   |true=>
    simp only [hf,cond_true] at hK
    simp only [Bool.and_eq_true] at hf
    obtain ⟨hf,Qz⟩:=hf
    split at hK
    ·cases hm:iD (aK sx) (aK sy) with
     |none=>simp [hm] at hK
     |some b=>
      simp only [hm] at hK
      refine gX h ?_ (uV b) trivial hK
      intro w
      obtain ⟨h1,h2⟩:=hE t I Lo KU e w _ _ sx sy b hx hy hf.1 hf.2 Qz.1 Qz.2 hm IP HF
      have:=(h2 x y .eql).1
      simp [execOp,ho,this,(h2 x y .eql).2.1 rfl,h1]
    ·cases hm:iD (aK sx) (aK sy) with
     |none=>simp [hm] at hK
     |some b=>
      simp only [hm] at hK
      refine gX h ?_ (uV (!b)) trivial hK
      intro w
      obtain ⟨h1,h2⟩:=hE t I Lo KU e w _ _ sx sy b hx hy hf.1 hf.2 Qz.1 Qz.2 hm IP HF
      have:=(h2 x y .neq).1
      simp [execOp,ho,this,(h2 x y .neq).2.2 rfl,h1]
    ·simp at hK
  ·simp at hK
end
end Dn
/-
  Lengths, parts, places, loads. Conditions: none.
-/
set_option linter.unusedSimpArgs false
set_option linter.unusedVariables false
namespace Dn
open Go
section
variable {P:Program} {c:Ctx} {Z:bB} {e:Env} {st:St} {a:Act} {w:World} {R:Type} {K:St→Option R} {r:R} {Q:Exit→Act→World→Prop} {o:Oper}
theorem cell_of {bj:Nat} {arr:Array Value} {T:TypeId} {fr:Nat×Nat} (h:w.heap[bj]? =some (.cells arr T fr)) (j:Nat):w.cell? ⟨bj,j,none⟩=arr[j]? :=by
 simp [World.cell?,h]
theorem qC {t:TypeId} {I:TI} {bj off:Nat} {vs:List Value} (hr:nI c.ti P t I) (hc:I.cH=[]) (hl:vs.length=I.size) (hm:w.rangeAt bj off vs):
 ((I.st=true∨I.size=32)∧ ∀w:World,w.rangeAt bj off vs→(Instr.loadAt t (.pointer (some ⟨bj,off,none⟩))).run P w= .ok (.agg vs.toArray) w)∨
 (I.st=false∧ ∃v,vs=[v]∧ ∀w:World,w.rangeAt bj off vs→(Instr.loadAt t (.pointer (some ⟨bj,off,none⟩))).run P w= .ok v w):=by
 obtain ⟨i,hi,hs,_⟩:=hr.info hc
 rcases hr.agg hc with ⟨d,hu,hd,hh⟩|⟨d,hu,hd,h1,h2⟩
 ·refine .inl ⟨hh.imp id (·.2),fun w hm=> ?_⟩
  exact run_loadAt_mid w bj off t vs d hm hu hd (by simp [hi,hs,hl])
 ·refine .inr ⟨h1,?_⟩
  rw [h2] at hl
  obtain ⟨v,rfl⟩:=List.length_eq_one_iff.1 hl
  refine ⟨v,rfl,fun w hm=> ?_⟩
  have xM:w.cell? ⟨bj,off,none⟩=some v:=hm 0 v rfl
  have WT:(isAgg t).run P w= .ok false w:=by
   unfold isAgg
   rw [Sem.run_bind,run_underlying hu w]
   cases d<;>simp_all
  simp [Instr.loadAt,Instr.sureAddr,loadVar,WT,xM]
theorem aO.slot {vs:List Value} {l:aE} {v:Value} (h:aO e vs l) (hv:(vs=[v]∧l.w=1)∨(v= .agg vs.toArray∧l.w=32)):ae e v (.sc l):=by
 rcases hv with ⟨rfl,hw⟩|⟨rfl,hw⟩
 ·cases l<;>simp [ae,aE.w] at hw⊢ <;>exact h
 ·cases l<;>simp [aE.w] at hw
  simp only [ae]
  have:vs=bq _:=h
  rw [this]
theorem jd {t:TypeId} {I:TI} {cs:List aE} {bj base off:Nat} {vs:List Value} {s:Slot} {K':Slot→Option R} (hr:nI c.ti P t I) (hc:I.cH=[])
 (hv:ax e vs cs) (hm:w.rangeAt bj base vs) (hK:jt I cs off K'=some r):
 ∃v s,(∀w:World,w.rangeAt bj base vs→(Instr.loadAt t (.pointer (some ⟨bj,base+off,none⟩))).run P w= .ok v w)∧ae e v s∧cg st.fr s∧K' s=some r:=by
 unfold jt at hK
 cases iw:I.st with
 |true=>
  simp only [iw,cond_true] at hK
  cases hp:Dn.part cs off I.size with
  |none=>simp [hp] at hK
  |some ds=>
   simp only [hp] at hK
   obtain ⟨v1,v2,v3,rfl,h1,h2,h3⟩:=Gn hp hv
   have M4: ∀w:World,w.rangeAt bj base (v1++v2++v3)→w.rangeAt bj (base+off) v2:=by
    intro w hm j v hj
    have KV:j<v2.length:=(List.getElem?_eq_some_iff.1 hj).1
    have:=hm (off+j) v (by rw [List.append_assoc,List.getElem?_append_right (by omega),List.getElem?_append_left (by omega)];rw [show off+j-v1.length=j by omega];exact hj)
    rwa [←Nat.add_assoc] at this
   rcases qC hr hc h2 (M4 w hm) with ⟨_,bW⟩|⟨hf,_⟩
   ·refine ⟨_,.ag ds,fun w hm=>bW w (M4 w hm),?_,trivial,hK⟩
    simp only [ae]
    exact ⟨_,rfl,by simpa using h3⟩
   ·rw [iw] at hf;cases hf
 |false=>
  simp only [iw,cond_false] at hK
  cases hp:cut cs off with
  |none=>simp [hp] at hK
  |some ds=>
   cases ds with
   |nil=>simp [hp] at hK
   |cons l ls=>
    simp only [hp] at hK
    cases hb:Nat.beq l.w I.size with
    |false=>simp [hb] at hK
    |true=>
     simp only [hb,cond_true] at hK
     have hw:=Nat.eq_of_beq_eq_true hb
     obtain ⟨v1,v2,rfl,h1,h2⟩:=vA hp hv
     obtain ⟨u,u2,rfl,h3,h4⟩:=h2
     have M4: ∀w:World,w.rangeAt bj base (v1++(u++u2))→w.rangeAt bj (base+off) u:=by
      intro w hm j v hj
      have KV:j<u.length:=(List.getElem?_eq_some_iff.1 hj).1
      have:=hm (off+j) v (by rw [List.getElem?_append_right (by omega),List.getElem?_append_left (by omega)];rw [show off+j-v1.length=j by omega];exact hj)
      rwa [←Nat.add_assoc] at this
     rcases qC hr hc (by rw [h3.width,hw]) (M4 w hm) with ⟨hh,bW⟩|⟨_,v,Jk,bW⟩
     ·refine ⟨_,.sc l,fun w hm=>bW w (M4 w hm),h3.slot (.inr ⟨rfl,?_⟩),trivial,hK⟩
      rcases hh with hh|hh
      ·rw [iw] at hh;cases hh
      ·rw [hw,hh]
     ·refine ⟨_,.sc l,fun w hm=>bW w (M4 w hm),h3.slot (.inl ⟨Jk,?_⟩),trivial,hK⟩
      rw [←h3.width,Jk];rfl
theorem bn.at {key:Nat→Nat} {φ:Ph} {size:Nat} {xs:List MV}: ∀{cs:List Value} {i:Nat} {x:MV},bn key φ size cs xs→xs[i]? =some x→
 ∃a v b,cs=a++v++b∧a.length=i *size∧v.length=size∧kR key φ v x:=by
 induction xs with
 |nil=>intro cs i x _ hx;simp at hx
 |cons y ys ih=>
  intro cs i x h hx
  obtain ⟨v,q,rfl,hl,hr,he⟩:=h
  cases i with
  |zero=>simp at hx;subst hx;exact ⟨[],v,q,by simp,by simp,hl,hr⟩
  |succ i=>
   obtain ⟨a,u,b,rfl,h1,h2,h3⟩:=ih he (by simpa using hx)
   exact ⟨v++a,u,b,by simp,by simp [hl,h1,Nat.succ_mul,Nat.add_comm],h2,h3⟩
theorem gq.leaves {ms:List MV}: ∀{vs:List Value} {cs:List aE},gq e.key e.φ vs ms→bG cs=some ms→(∀m,aE.p m∈cs→m.one=true)→ax e vs cs:=by
 induction ms with
 |nil=>
  intro vs cs h hc _
  cases h
  cases cs with
  |nil=>rfl
  |cons l r=>
   cases hr:bG r<;>cases l<;>simp [bG,hr] at hc
 |cons m ms ih=>
  intro vs cs h hc ho
  cases cs with
  |nil=>simp [bG] at hc
  |cons l r=>
   generalize xN:vs=KW at h
   cases h with
   |cons v _ vs _ h1 h2=>
   subst xN
   cases hr:bG r with
   |none=>cases l<;>simp [bG,hr] at hc
   |some q=>
    have cm: ∀m,aE.p m∈r→m.one=true:=fun m hm=>ho m (by simp [hm])
    cases l<;>simp [bG,hr] at hc
    ·obtain ⟨rfl,rfl⟩:=hc
     exact ⟨v,vs,rfl,⟨ho _ (by simp),h1⟩,ih h2 hr cm⟩
    ·obtain ⟨rfl,rfl⟩:=hc
     refine ⟨v,vs,rfl,?_,ih h2 hr cm⟩
     generalize hv:v=v' at h1
     cases h1
     exact rfl
theorem kR.Di {vs:List Value} {x:MV} {b:Bool} {cs:List aE} (h:kR e.key e.φ vs x) (hc:C8 b x cs):ax e vs cs:=by
 obtain ⟨⟨ms,h1,h2⟩,h3⟩:=hc
 cases b with
 |true=>
  cases ms<;>simp [rZ] at h2<;>subst h2<;>(generalize hv:vs=v' at h;cases h;subst hv;rename_i hh;exact hh.leaves h1 h3)
 |false=>
  cases ms with
  |nil=>simp [rZ] at h2
  |cons m ms=>
   cases ms with
   |cons y ys=>simp [rZ] at h2
   |nil=>
    simp [rZ] at h2
    subst h2
    have:gq e.key e.φ (vs++[]) [m]:= .cons vs m [] [] h .nil
    rw [List.append_nil] at this
    exact this.leaves h1 h3
theorem QA {t:TypeId} {x:Operand} {I:TI} {cs:List aE} {off:Nat} (ho:o.op= .load t x) (hI:c.tv t=some I) (hT:jI P c.ti) (h:bP c Z e st a w) (HG:aH c st x= .rp cs off)
 (hK:jt I cs off (fun s=>bc c st o.dst s K)=some r):Rd P c Z K r e a w o (fun w'=> ∀b q v,e.φ b q=some v→w'.cell? ⟨b,q,none⟩=some v):=by
 obtain ⟨hx,oP⟩:=h.eval x
 obtain ⟨oQ,hc⟩:=bK hI
 have hr:=hT t I oQ
 rw [HG] at hx
 simp only [ae] at hx
 obtain ⟨bj,q,vs,hx,pP,_,A4⟩:=hx
 have hm: ∀w':World,(∀b q v,e.φ b q=some v→w'.cell? ⟨b,q,none⟩=some v)→w'.rangeAt bj q vs:=by
  intro w' hi j v hj
  have KV:j<vs.length:=(List.getElem?_eq_some_iff.1 hj).1
  exact hi _ _ _ (by rw [A4 j KV];exact hj)
 obtain ⟨v,s,h1,h2,h3,h4⟩:=jd (st:=st) (s:= .skip) hr hc pP (hm w h.nE) hK
 refine Lm (fun w' hi=> ?_) h (.refl _ _ _) (.of h2 h3) h4
 simp [execOp,ho,hx,h1 w' (hm w' hi)]
theorem TW {t:TypeId} {x:Operand} {I:TI} (ho:o.op= .load t x) (hI:c.tv t=some I) (hT:jI P c.ti) (h:bP c Z e st a w)
 (hK:ldK st I (aH c st x) (fun s=>bc c st o.dst s K)=some r):Rd P c Z K r e a w o (dC w):=by
 obtain ⟨hx,oP⟩:=h.eval x
 obtain ⟨oQ,hc⟩:=bK hI
 have hr:=hT t I oQ
 have TX: ∀v s,(∀w':World,dC w w'→(Instr.loadAt t (a.eval x)).run P w'= .ok v w')→ae e v s→cg st.fr s→bc c st o.dst s K=some r→Rd P c Z K r e a w o (dC w):=by
  intro v s h1 h2 h3 h4
  refine Lm (fun w' hg=> ?_) h (.refl _ _ _) (.of h2 h3) h4
  simp [execOp,ho,h1 w' hg]
 have keep: ∀{w':World} {bj off:Nat} {vs:List Value},dC w w'→w.rangeAt bj off vs→w'.rangeAt bj off vs:=by
  intro w' bj off vs hg hm j v hj
  exact hg.cell (hm j v hj)
 generalize aH c st x=s at hx hK oP
 unfold ldK at hK
 split at hK
 ·rename_i root off
  simp only [ae] at hx
  have kT:=h.slot root
  split at hK
  ·rename_i cs xx
   rw [xx] at kT
   have sG:fa cs=false:=by cases hq:fa cs<;>simp_all
   simp only [sG,cond_false] at hK
   obtain ⟨_,pM⟩:=kT
   obtain ⟨arr,T,dQ,pP⟩:=pM.cells sG
   have hm:w.rangeAt (e.B root) 0 arr.toList:=by
    intro j v hj
    rw [Nat.zero_add,cell_of dQ];simpa using hj
   obtain ⟨v,s,h1,h2,h3,h4⟩:=jd (st:=st) (s:= .skip) hr hc pP hm hK
   rw [Nat.zero_add] at h1
   exact TX v s (fun w' hg=>by rw [hx];exact h1 w' (keep hg hm)) h2 h3 h4
  ·simp at hK
 ·rename_i cs off
  simp only [ae] at hx
  obtain ⟨bj,q,vs,hx,pP,_,A4⟩:=hx
  have hm:w.rangeAt bj q vs:=by
   intro j v hj
   have KV:j<vs.length:=(List.getElem?_eq_some_iff.1 hj).1
   exact h.nE _ _ _ (by rw [A4 j KV];exact hj)
  obtain ⟨v,s,h1,h2,h3,h4⟩:=jd (st:=st) (s:= .skip) hr hc pP hm hK
  exact TX v s (fun w' hg=>by rw [hx];exact h1 w' (keep hg hm)) h2 h3 h4
 ·rename_i f i off b cs
  cases hf:aL st.aV f with
  |none=>simp [hf] at hK
  |some o'=>
   simp only [hf] at hK
   simp only [ae] at hx
   obtain ⟨bj,cap,hE,⟨x,hxi,VI⟩,hx⟩:=hx o' (by rw [h.m];exact hf)
   obtain ⟨J,cells,hJ,VJ,eB,mM,_⟩:=(h.gp f o' hf).row
   obtain ⟨p1,v1,p2,rfl,KX,yt,fD⟩:=mM.at hxi
   have pP:=fD.Di VI
   rw [hE] at eB
   have xM:=eB.cells (g:=bj) rfl
   have hm:w.rangeAt bj (i *vq cs) v1:=by
    intro j v hj
    have KV:j<v1.length:=(List.getElem?_eq_some_iff.1 hj).1
    have:=xM (i *J.size+j) v (by rw [List.append_assoc,List.getElem?_append_right (by omega),List.getElem?_append_left (by omega)];rw [show i *J.size+j-p1.length=j by omega];exact hj)
    rw [Addr.add_mid,Nat.zero_add] at this
    rw [←pP.width,yt];exact this
   obtain ⟨v,s,h1,h2,h3,h4⟩:=jd (st:=st) (s:= .skip) hr hc pP hm hK
   exact TX v s (fun w' hg=>by rw [hx];exact h1 w' (keep hg hm)) h2 h3 h4
 ·rename_i root off i
  simp only [ae] at hx
  obtain ⟨hx,Lp⟩:=hx
  have kT:=h.slot root
  cases hb:I.st||!Nat.beq I.size 1 with
  |true=>simp [hb] at hK
  |false=>
   simp only [hb,cond_false] at hK
   simp only [Bool.or_eq_false_iff,Bool.not_eq_false'] at hb
   have qk:=Nat.eq_of_beq_eq_true hb.2
   split at hK
   ·rename_i cs xx
    rw [xx] at kT
    have sG:fa cs=false:=by cases hq:fa cs<;>simp_all
    simp only [sG,cond_false] at hK
    obtain ⟨_,pM⟩:=kT
    obtain ⟨arr,T,dQ,pP⟩:=pM.cells sG
    split at hK
    ·rename_i b ls WU
     obtain ⟨v1,v2,aep,h1,h2⟩:=vA WU pP
     obtain ⟨u,u2,rfl,h3,h4⟩:=h2
     have h3:u=bq b:=h3
     subst h3
     have hg:=yv b i Lp
     have hlen:=cJ b
     have hm:w.rangeAt (e.B root) (off+i) [.int .u8 ((b.l.getD i 0).toNat:Int)]:=by
      intro j v hj
      cases j with
      |succ j=>simp at hj
      |zero=>
       simp at hj
       rw [Nat.add_zero,cell_of dQ]
       have:arr[off+i]? =arr.toList[off+i]? :=by simp
       rw [this,aep,List.getElem?_append_right (by omega),List.getElem?_append_left (by omega),show off+i-v1.length=i by omega,hg,←hj]
       simp [List.getD]
     rcases qC hr hc (by simp [qk]) hm with ⟨hh,_⟩|⟨_,v,Jk,bW⟩
     ·rcases hh with hh|hh
      ·rw [hb.1] at hh;cases hh
      ·omega
     ·simp at Jk
      subst Jk
      exact TX _ _ (fun w' hg=>by rw [hx];exact bW w' (keep hg hm)) (pN _ _) trivial hK
    ·simp at hK
   ·simp at hK
 ·simp at hK
theorem Of {t:TypeId} {x:Operand} {f:Nat} {I:TI} (ho:o.op= .fieldAddr t x f) (hI:c.tv t=some I) (hT:jI P c.ti) (h:bP c Z e st a w)
 (hK:P9 st I f (aH c st x) (fun s=>bc c st o.dst s K)=some r):Rd P c Z K r e a w o (fun _=>True):=by
 obtain ⟨hx,oP⟩:=h.eval x
 obtain ⟨oQ,hc⟩:=bK hI
 obtain ⟨d,i,h1,h2,h3,h4⟩:=hT t I oQ
 have key: ∀q bj off,I.st=true→I.IZ[f]? =some q→a.eval x= .pointer (some ⟨bj,off,none⟩)→
  ∀w:World,(execOp a.eval o).run P w= .ok (.value (.pointer (some ⟨bj,off+q,none⟩))) w:=by
  intro q bj off iw hq hv w
  cases d<;>simp only [qB] at h4
  case struct fs=>
   obtain ⟨_,_,_,Og,cm,Lq,_⟩:=h4
   rw [←Og,List.getElem?_map] at hq
   cases hf:fs.toList[f]? with
   |none=>simp [hf] at hq
   |some fl=>
    simp [hf] at hq
    subst hq
    have Tu:fs[f]? =some fl:=by simpa using hf
    obtain ⟨J,hJ,VJ,hJs⟩:=Lq f fl Tu
    obtain ⟨ij,hij,hs,_⟩:=(hT _ _ hJ).info VJ
    have hz:ij.size≠0:=by omega
    simp [execOp,ho,hv,Instr.fieldAt,run_underlying h1,Tu,Instr.sureAddr,fieldPlace,Go.sizeOf,typeInfo,hij,hz,Addr.add_mid]
  all_goals (exfalso;simp_all)
 generalize aH c st x=s at hx hK oP
 unfold P9 at hK
 split at hK
 ·rename_i q r' o' iw hq
  simp only [ae] at hx
  refine gX (s:= .ptr r' (o'+q)) h (key q _ _ iw hq hx) ?_ oP hK
  simp only [ae]
 ·rename_i q cs o' iw hq
  simp only [ae] at hx
  obtain ⟨bj,b,vs,hx,hh⟩:=hx
  refine gX (s:= .rp cs (o'+q)) h (key q _ _ iw hq hx) ?_ trivial hK
  simp only [ae]
  exact ⟨bj,b,vs,by rw [Nat.add_assoc],hh⟩
 ·rename_i q g i' o' b cs iw hq
  cases hf:aL st.aV g with
  |none=>simp [hf] at hK
  |some w'=>
   simp only [hf] at hK
   simp only [ae] at hx
   obtain ⟨bj,cap,h5,h6,h7⟩:=hx w' (by rw [h.m];exact hf)
   refine gX (s:= .ep g i' (o'+q) b cs) h (key q _ _ iw hq h7) ?_ trivial hK
   simp only [ae]
   intro o2 cm
   rw [h.m,hf] at cm
   cases cm
   exact ⟨bj,cap,h5,h6,by rw [Nat.add_assoc]⟩
 ·simp at hK
theorem WV {x:Operand} {k:Nat} (ho:o.op= .extract x k) (h:bP c Z e st a w)
 (hK:WK (aH c st x) k (fun s=>bc c st o.dst s K)=some r):Rd P c Z K r e a w o (fun _=>True):=by
 obtain ⟨hx,oP⟩:=h.eval x
 generalize aH c st x=s at hx hK
 unfold WK at hK
 split at hK
 ·rename_i vs
  simp only [ae] at hx
  obtain ⟨arr,hv,hs⟩:=hx
  cases hk:vs[k]? with
  |none=>simp [hk] at hK
  |some s=>
   simp only [hk] at hK
   have: ∀(k:Nat) (vs:List Slot) (l:List Value),jv e l vs→vs[k]? =some s→ ∃v,l[k]? =some v∧ae e v s∧xJ s=true:=by
    intro k
    induction k with
    |zero=>
     intro vs l hl hk
     cases vs with
     |nil=>simp at hk
     |cons y ys=>
      simp at hk
      subst hk
      simp only [jv] at hl
      obtain ⟨v,q,rfl,h1,h2,_⟩:=hl
      exact ⟨v,rfl,h1,h2⟩
    |succ k ih=>
     intro vs l hl hk
     cases vs with
     |nil=>simp at hk
     |cons y ys=>
      simp only [jv] at hl
      obtain ⟨v,q,rfl,_,_,h3⟩:=hl
      obtain ⟨u,h4,h5⟩:=ih ys q h3 (by simpa using hk)
      exact ⟨u,by simpa using h4,h5⟩
   obtain ⟨v,M5,h1,h2⟩:=this k vs arr.toList hs hk
   have ZW:arr[k]? =some v:=by simpa using M5
   refine gX h ?_ h1 ?_ hK
   ·simp [execOp,ho,hv,Instr.extract,ZW]
   ·cases s<;>simp [xJ] at h2<;>trivial
 ·simp at hK
end
end Dn
/-
  Operations that make memory: variables. Conditions: none.
-/
set_option linter.unusedSimpArgs false
set_option linter.unusedVariables false
namespace Dn
open Go
section
variable {P:Program} {c:Ctx} {Z:bB} {e:Env} {st:St} {a:Act} {w w':World} {R:Type} {K:St→Option R} {r:R} {Q:Exit→Act→World→Prop} {o:Oper}
theorem dC.refl (w:World):dC w w:=⟨Nat.le_refl _,fun _ _=>rfl,.refl _⟩
theorem dC.alloc (w:World) (cs:Array Value) (t:TypeId):dC w (w.alloc (.cells cs t)):=⟨by simp,fun b hb=>oc w _ b hb,.alloc w cs t⟩
theorem dC.aeq (g:dC w w') {base:Nat} {t:TypeId} {size:Nat} {v:Value} {n:Nat} {xs:List Value} (h:w.ownsRow base t size v n xs):w'.ownsRow base t size v n xs:=by
 refine ⟨h.1,?_⟩
 rcases h.2 with h|⟨b,cap,eZ,h1,h2,h3,h4⟩
 ·exact .inl h
 ·exact .inr ⟨b,cap,eZ,h1,h2,by rw [g.r6 b (bo h3)];exact h3,h4⟩
theorem ru.grow (g:dC w w') {bj:Nat} {cs:List aE} (h:ru Z e w bj cs):ru Z e w' bj cs:=by
 obtain ⟨o,h1,h2⟩:=h.obj
 exact ⟨h.cc,⟨o,by rw [g.r6 _ (bo h1)];exact h1,h2⟩,h.free⟩
theorem dc.grow (g:dC w w') {v:Value} {f:mG} (h:dc c Z e w v f):dc c Z e w' v f:=by
 obtain ⟨I,cells,h1,h2,h3,h4,h5⟩:=h.row
 exact ⟨I,cells,h1,h2,g.aeq h3,h4,h5⟩
theorem bP.grow (g:dC w w') (h:bP c Z e st a w):bP c Z e st a w':=by
 refine ⟨h.defers,h.size,h.m,h.key,h.nodup,?_,h.root,fun f o ho=>(h.gp f o ho).grow g,h.bb,h.bf,h.ff,fun b o v hv=>g.cell (h.nE b o v hv),fun b hb=>h.cc b (Nat.le_trans g.size hb)⟩
 intro t
 have hs:=h.slot t
 generalize ap st.fr t=s at hs
 cases s<;>simp only [bX] at hs⊢ <;>first|exact hs|exact ⟨hs.1,hs.2.grow g⟩
theorem dC.trans (g:dC w w') (hz: ∀b,w.heap.size≤b→Z b) (φ:Ph):Trans Z φ w φ w':=
 ⟨.refl φ,fun b _ hl=>g.r6 b hl,fun _ _ _=>rfl,g.size,g.rest⟩
theorem Oh {l:aE} {vs:List Value} (h:Qn l vs=true):aO e vs l:=by
 unfold Qn at h
 split at h
 ·simp at h;subst h;exact ⟨rfl,.b _⟩
 ·simp at h;obtain ⟨rfl,rfl⟩:=h;exact ⟨rfl,.i _ _⟩
 ·simp at h;subst h;exact ⟨rfl,.s _⟩
 ·split at h
  ·exact ⟨rfl,.raw _ rfl⟩
  ·exact ⟨rfl,.raw _ rfl⟩
  ·exact ⟨rfl,.raw _ rfl⟩
  ·simp at h
 ·rfl
 ·exact ⟨_,rfl,h⟩
 ·rename_i x
  simp only [Bool.and_eq_true,beq_iff_eq] at h
  obtain ⟨h1,h2⟩:=h
  show vs=bq x
  apply List.ext_getElem?
  intro j
  by_cases hj:j<32
  ·rw [yv x j hj]
   have hjv:j<vs.length:=by omega
   have Fz:j<x.l.length:=by rw [x.h];exact hj
   rw [List.all_eq_true] at h2
   have hm:(vs[j],x.l[j])∈vs.zip x.l:=List.mem_iff_getElem.2 ⟨j,by simp;omega,by simp⟩
   have:=h2 _ hm
   rw [List.getElem?_eq_getElem hjv]
   dsimp only at this
   split at this
   ·rename_i n hn
    rw [hn,of_decide_eq_true this]
    simp [List.getD,List.getElem?_eq_getElem Fz]
   ·simp at this
  ·rw [List.getElem?_eq_none (by omega),List.getElem?_eq_none (by rw [cJ];omega)]
 ·simp at h
theorem kl {ls:List aE}: ∀{vs:List Value},rr ls vs=true→ax e vs ls:=by
 induction ls with
 |nil=>intro vs h;simpa [rr,ax] using h
 |cons l r ih=>
  intro vs h
  simp only [rr,Bool.and_eq_true] at h
  exact ⟨vs.take l.w,vs.drop l.w,by simp,Oh h.1.1,ih h.1.2⟩
theorem ax.vD {cs:List aE} {vs:List Value} (h:ax e vs cs):fa cs=false:=by
 cases hm:fa cs with
 |false=>rfl
 |true=>obtain ⟨s,ms,rfl⟩:=HB hm;obtain ⟨_,_,_,h1,_⟩:=h;exact h1.elim
theorem Dj (h:bP c Z e st a w) (off:Nat):e.φ w.heap.size off=none:=by
 cases hp:e.φ w.heap.size off with
 |none=>rfl
 |some v=>
  have:=World.block_lt_of_cell? w _ (h.nE _ _ _ hp)
  simp at this
theorem wT (h:bP c Z e st a w):(∀t ir,ap st.fr t= .box ir→e.B t≠w.heap.size)∧(∀f o,aL st.aV f=some o→(e.E f).ownBlock≠some w.heap.size):=by
 refine ⟨?_,?_⟩
 ·intro t ir ht
  have hs:=h.slot t
  rw [ht] at hs
  obtain ⟨o,h1,_⟩:=hs.2.obj
  have:=bo h1
  omega
 ·intro f o ho hk
  obtain ⟨I,cells,h1,h2,h3,h4,h5⟩:=(h.gp f o ho).row
  rcases h3.2 with ⟨hv,_⟩|⟨g,cap,eZ,hv,_,hg,_⟩
  ·rw [hv] at hk;simp [Value.ownBlock] at hk
  ·rw [hv] at hk
   simp only [Value.ownBlock,Option.some.injEq] at hk
   have:=bo hg
   omega
theorem M6 {cells:Array Value} {T:TypeId} {cs:List aE} (h:bP c Z e st a w) (hl:ax e cells.toList cs):
 nS Z e (w.alloc (.cells cells T)) st (.pointer (some ⟨w.heap.size,0,none⟩)) (.box cs):=by
 exact ⟨w.heap.size,by rw [r5 hl.vD],⟨h.cc _ (Nat.le_refl _),⟨_,iu w _,rfl,hl⟩,Dj h⟩,(wT h).1,(wT h).2⟩
theorem QB {t:TypeId} {I:TI} (ho:o.op= .alloc t) (hI:c.tv t=some I) (hT:jI P c.ti) (h:bP c Z e st a w)
 (hK:bc c st o.dst (.box I.zero) K=some r):o.wp P a w (fun a' w'=>dC w w'∧Out c Z K r e.φ w a' w') Q:=by
 obtain ⟨oQ,hc⟩:=bK hI
 obtain ⟨d,i,h1,h2,h3,h4⟩:=hT t I oQ
 have hz: ∃z,i.zero=some z∧ax e z.cells.toList I.zero:=by
  cases d<;>simp only [qB] at h4
  case struct fs=>obtain ⟨_,_,_,_,_,_,cs,hz,hl,_⟩:=h4;exact ⟨_,hz,by simpa [Value.cells] using kl hl⟩
  case tuple ts=>exact absurd hc h4.2.1
  case slice el=>obtain ⟨_,_,_,_,_,hz,hl,_⟩:=h4;exact ⟨_,hz,by rw [hl];exact ⟨[.slice none 0 0],[],rfl,rfl,rfl⟩⟩
  case array n el=>obtain ⟨_,_,_,_,_,_,_,hl,hz⟩:=h4;exact ⟨_,hz,by rw [hl];exact ⟨bq jq.zero,[],by simp [Value.cells],rfl,rfl⟩⟩
  case bool=>obtain ⟨_,_,_,_,hl,hz⟩:=h4;exact ⟨_,hz,by rw [hl];exact ⟨[.bool false],[],rfl,⟨rfl,.b _⟩,rfl⟩⟩
  case int k=>obtain ⟨_,_,_,_,hl,hz⟩:=h4;exact ⟨_,hz,by rw [hl];exact ⟨[.int k 0],[],rfl,⟨rfl,.i _ _⟩,rfl⟩⟩
  case string=>
   obtain ⟨_,_,_,_,hl,b,hz,hb⟩:=h4
   refine ⟨_,hz,by rw [hl];refine ⟨[.string b],[],rfl,⟨rfl,?_⟩,rfl⟩;rw [←hb];exact .s b⟩
  all_goals
   obtain ⟨_,_,_,_,v,hz,hv,hl⟩:=h4
   refine ⟨v,hz,?_⟩
   have:v.cells.toList=[v]:=by cases v<;>simp_all [Value.cells,Value.oneCell']
   rw [this];exact kl hl
 obtain ⟨z,hz,hl⟩:=hz
 have bW:(execOp a.eval o).run P w= .ok (.value (.pointer (some ⟨w.heap.size,0,none⟩))) (w.alloc (.cells z.cells t)):=by
  simp [execOp,ho,Instr.alloc,zeroValue,typeInfo,h2,hz,newVar,newRow,newObj,Sem.run]
 exact Od (.alloc w _ _) bW (h.grow (.alloc w _ _)) ((dC.alloc w _ _).trans h.cc _) (M6 h hl) hK
theorem WW {t:TypeId} {x:Operand} {I:TI} (ho:o.op= .box t x) (h:bP c Z e st a w)
 (hK:WH I (aH c st x) (fun s=>bc c st o.dst s K)=some r):o.wp P a w (fun a' w'=>dC w w'∧Out c Z K r e.φ w a' w') Q:=by
 obtain ⟨hx,oP⟩:=h.eval x
 have bW:(execOp a.eval o).run P w= .ok (.value (.pointer (some ⟨w.heap.size,0,none⟩))) (w.alloc (.cells (a.eval x).cells t)):=by
  simp [execOp,ho,Instr.box,newVar,newRow,newObj,Sem.run]
 have go: ∀cs,ax e (a.eval x).cells.toList cs→bc c st o.dst (.box cs) K=some r→o.wp P a w (fun a' w'=>dC w w'∧Out c Z K r e.φ w a' w') Q:=
  fun cs h1 h2=>Od (.alloc w _ _) bW (h.grow (.alloc w _ _)) ((dC.alloc w _ _).trans h.cc _) (M6 h h1) h2
 generalize aH c st x=s at hx hK oP
 unfold WH at hK
 split at hK
 ·rename_i l
  cases hb:I.st||I5 l||!Nat.beq l.w I.size with
  |true=>simp [hb] at hK
  |false=>
   simp only [hb,cond_false] at hK
   refine go [l] ?_ hK
   cases l with
   |un=>simp [I5] at hb
   |hs y=>
    simp only [ae] at hx
    rw [hx]
    exact ⟨bq y,[],by simp [Value.cells],rfl,rfl⟩
   |p m=>
    simp only [ae] at hx
    have:(a.eval x).cells.toList=[a.eval x]:=by
     have:=hx.cells (a.eval x) (by simp)
     generalize a.eval x=v at this
     cases v<;>simp_all [Value.cells,Value.oneCell']
    rw [this];exact ⟨_,[],rfl,hx,rfl⟩
   |nil=>
    simp only [ae] at hx
    have Oi:[a.eval x]=[Value.slice none 0 0]:=hx
    simp at Oi
    rw [Oi];exact ⟨[.slice none 0 0],[],rfl,rfl,rfl⟩
   |mp s es=>simp [I5] at hb
   |own f=>
    simp only [ae] at hx
    have:(a.eval x).cells.toList=[a.eval x]:=by
     have:=hx.cells (a.eval x) (by simp)
     generalize a.eval x=v at this
     cases v<;>simp_all [Value.cells,Value.oneCell']
    rw [this];exact ⟨_,[],rfl,hx,rfl⟩
 ·rename_i cs
  cases hb:I.st&&!sJ cs&&Nat.beq (vq cs) I.size with
  |false=>simp [hb] at hK
  |true=>
   simp only [hb,cond_true] at hK
   simp only [ae] at hx
   obtain ⟨arr,hx,hl⟩:=hx
   exact go cs (by rw [hx];exact hl) hK
 ·simp at hK
end
end Dn
/-
  Stores into variables. Conditions: none.
-/
set_option linter.unusedSimpArgs false
set_option linter.unusedVariables false
namespace Dn
open Go
section
variable {P:Program} {c:Ctx} {Z:bB} {e:Env} {st:St} {a:Act} {w w':World} {R:Type} {K:St→Option R} {r:R} {Q:Exit→Act→World→Prop} {o:Oper}
theorem setRow_size (w:World) (g:Nat) (cs:Array Value):(w.setRow g cs).heap.size=w.heap.size:=by simp [World.setRow]
structure PJ (g:Nat) (w w':World):Prop where
 size:w'.heap.size=w.heap.size
 other: ∀b,b≠g→w'.heap[b]? =w.heap[b]?
 rest:Rest w w'
theorem PJ.setRow (w:World) (g:Nat) (cs:Array Value):PJ g w (w.setRow g cs):=⟨setRow_size _ _ _,fun b hb=>setRow_other _ _ _ _ hb,.setRow _ _ _⟩
theorem Jl {g:Nat} (hc:PJ g w w') {base:Nat} {t:TypeId} {size:Nat} {v:Value} {n:Nat} {xs:List Value} (dt:v.ownBlock≠some g)
 (h:w.ownsRow base t size v n xs):w'.ownsRow base t size v n xs:=by
 refine ⟨h.1,?_⟩
 rcases h.2 with h|⟨b,cap,eZ,h1,h2,h3,h4⟩
 ·exact .inl h
 ·refine .inr ⟨b,cap,eZ,h1,h2,?_,h4⟩
  rw [hc.other _ (by intro e;subst e;subst h1;exact dt rfl)];exact h3
theorem Lr {g:Nat} {cs:Array Value} {base:Nat} {t:TypeId} {size:Nat} {v:Value} {n:Nat} {xs:List Value} (dt:v.ownBlock≠some g)
 (h:w.ownsRow base t size v n xs):(w.setRow g cs).ownsRow base t size v n xs:=Jl (.setRow w g cs) dt h
theorem bP.setObj {root:Nat} {cs ir:List aE} {o':Obj} {nR:Fr} (h:bP c Z e st a w) (hf:ap st.fr root= .box cs)
 (Dk:PJ (e.B root) w w') (sL:w'.heap[e.B root]? =some o') (hl:jc e o' ir) (VK:kh ir=kh cs) (Cu: ∀t,ap nR t=if t=root then .box ir else ap st.fr t)
 (VL:(aM nR).Nodup):bP c Z e {st with fr:=nR} a w':=by
 have qk:=Dk.size
 have mL:=h.slot root
 rw [hf] at mL
 refine ⟨h.defers,h.size,h.m,h.key,VL,?_,?_,?_,?_,?_,h.ff,?_,fun b hb=>h.cc b (by omega)⟩
 ·intro t
  show bX Z e _ t _ (ap nR t)
  rw [Cu]
  by_cases ht:t=root
  ·subst ht
   simp only [if_true,bX]
   exact ⟨mL.1.kh VK,⟨mL.2.cc,⟨o',sL,hl⟩,mL.2.free⟩⟩
  ·simp only [ht,if_false]
   have hs:=h.slot t
   have xL:=h.bb t root
   generalize hg:ap st.fr t=s at hs xL
   cases s<;>simp only [bX] at hs⊢ <;>try exact hs
   rename_i nF
   refine ⟨hs.1,hs.2.cc,?_,hs.2.free⟩
   obtain ⟨o2,h1,h2⟩:=hs.2.obj
   exact ⟨o2,by rw [Dk.other _ (xL nF cs rfl hf ht)];exact h1,h2⟩
 ·intro t
  show cg nR (ap nR t)
  rw [Cu]
  by_cases ht:t=root
  ·simp [ht,cg]
  ·simp only [ht,if_false]
   have hr:=h.root t
   generalize ap st.fr t=s at hr
   cases s<;>simp only [cg] at hr⊢ <;>(rw [Cu];split<;>simp_all [cB])
 ·intro f o ho
  obtain ⟨I,cells,h1,h2,h3,h4,h5⟩:=(h.gp f o ho).row
  exact ⟨I,cells,h1,h2,Jl Dk (h.bf root cs f o hf ho) h3,h4,h5⟩
 ·intro t t' c1 c2 h1 h2 dt
  have h1:ap nR t= .box c1:=h1
  have h2:ap nR t'= .box c2:=h2
  rw [Cu] at h1 h2
  by_cases ht:t=root
  ·by_cases zt:t'=root
   ·exact absurd (ht.trans zt.symm) dt
   ·simp only [zt,if_false] at h2;rw [ht];exact h.bb root t' cs c2 hf h2 (by rw [←ht];exact dt)
  ·simp only [ht,if_false] at h1
   by_cases zt:t'=root
   ·rw [zt];exact h.bb t root c1 cs h1 hf ht
   ·simp only [zt,if_false] at h2;exact h.bb t t' c1 c2 h1 h2 dt
 ·intro t c1 f o h1 h2
  have h1:ap nR t= .box c1:=h1
  rw [Cu] at h1
  by_cases ht:t=root
  ·rw [ht];exact h.bf root cs f o hf h2
  ·simp only [ht,if_false] at h1;exact h.bf t c1 f o h1 h2
 ·intro b o v hv
  have dt:b≠e.B root:=by intro eb;subst eb;rw [mL.2.free] at hv;cases hv
  have:=h.nE b o v hv
  rw [World.cell?_of_block (Dk.other _ dt)];exact this
theorem bP.QC {root:Nat} {cs ir:List aE} {arr FE:Array Value} {T:TypeId} {nR:Fr} (h:bP c Z e st a w) (hf:ap st.fr root= .box cs)
 (dQ:w.heap[e.B root]? =some (.cells arr T (0,0))) (hl:ax e FE.toList ir) (Cu: ∀t,ap nR t=if t=root then .box ir else ap st.fr t)
 (VL:(aM nR).Nodup):bP c Z e {st with fr:=nR} a (w.setRow (e.B root) FE):=by
 have mL:=h.slot root
 rw [hf] at mL
 have hm:fa cs=false:=by
  obtain ⟨o,h1,h2⟩:=mL.2.obj
  rw [dQ] at h1;cases h1
  exact h2.2.vD
 exact h.setObj hf (.setRow _ _ _) (setRow_heap _ _ _ _ _ _ dQ) ⟨rfl,hl⟩ (by rw [zq hm,zq hl.vD]) Cu VL
theorem Trans.chg {g:Nat} (φ:Ph) (Dk:PJ g w w') (hz:Z g):Trans Z φ w φ w':=
 ⟨.refl φ,fun b hb _=>Dk.other _ (by intro e;subst e;exact hb hz),fun _ _ _=>rfl,by rw [Dk.size];exact Nat.le_refl _,Dk.rest⟩
theorem Trans.setRow {g:Nat} {FE:Array Value} (φ:Ph) (hz:Z g):Trans Z φ w φ (w.setRow g FE):=
 ⟨.refl φ,fun b hb _=>setRow_other _ _ _ _ (by intro e;subst e;exact hb hz),fun _ _ _=>rfl,by rw [setRow_size];exact Nat.le_refl _,.setRow _ _ _⟩
theorem xO {v:Value} {s:Slot} (h:ae e v s) (hu:sJ (aK s)=false) (dt:aK s≠[]):ax e v.cells.toList (aK s):=by
 cases s with
 |sc l=>
  simp only [aK] at hu⊢
  have lY: ∀l,aO e [v] l→ax e v.cells.toList [l]:=by
   intro l hl
   have hc:=hl.cells v (by simp)
   have:v.cells.toList=[v]:=by cases v<;>simp_all [Value.cells,Value.oneCell']
   rw [this];exact ⟨[v],[],rfl,hl,rfl⟩
  cases l with
  |un=>simp [sJ,I5] at hu
  |hs x=>simp only [ae] at h;rw [h];exact ⟨bq x,[],by simp [Value.cells],rfl,rfl⟩
  |p m=>simp only [ae] at h;exact lY _ h
  |nil=>simp only [ae] at h;exact lY _ h
  |mp s es=>simp [sJ,I5] at hu
  |own f=>simp only [ae] at h;exact lY _ h
 |ag cs=>simp only [ae] at h;obtain ⟨arr,rfl,hl⟩:=h;exact hl
 |_=>exact absurd rfl dt
theorem pj {t:TypeId} {I:TI} {bj off:Nat} {v:Value} {arr:Array Value} {T:TypeId} (hr:nI c.ti P t I) (hc:I.cH=[]) (hs:v.cells.toList.length=I.size)
 (lY: ∀u∈v.cells.toList,u.oneCell'=true) (dQ:w.heap[bj]? =some (.cells arr T (0,0))) (HH:off+I.size≤arr.size):
 (Instr.storeAt t (.pointer (some ⟨bj,off,none⟩)) v).run P w= .ok () (w.setRow bj (arr.toList.take off++v.cells.toList++arr.toList.drop (off+I.size)).toArray):=by
 obtain ⟨i,hi,qk,_⟩:=hr.info hc
 have h1:=run_storeCells_at P bj off T v.cells.toList 0 arr w dQ (by omega) lY
 rw [Nat.add_zero,hs] at h1
 have h2:v.cells.size=i.size:=by rw [qk,←hs];simp
 simp [Instr.storeAt,Instr.sureAddr,storeVar,Go.sizeOf,typeInfo,hi,h2,h1]
theorem Oj {t:TypeId} {I:TI} {root off:Nat} {v:Value} {cs ls ir:List aE} {K':St→Option R} (sG:fa cs=false) (hr:nI c.ti P t I) (hc:I.cH=[]) (h:bP c Z e st a w)
 (hf:ap st.fr root= .box cs) (hv:ax e v.cells.toList ls) (Dl:vq ls=I.size) (hp:putAt cs off ls=some ir) (hK:wr st root (.box ir) K'=some r):
 ∃w' bL,(Instr.storeAt t (.pointer (some ⟨e.B root,off,none⟩)) v).run P w= .ok () w'∧bP c Z e bL a w'∧Trans Z e.φ w e.φ w'∧K' bL=some r:=by
 have kT:=h.slot root
 rw [hf] at kT
 obtain ⟨arr,T,dQ,pP⟩:=kT.2.cells sG
 obtain ⟨v1,v2,v3,he,h1,h2,h3⟩:=tE hp pP hv
 have hlen:=hv.width
 have qk:arr.size=v1.length+v2.length+v3.length:=by
  have:arr.toList.length=(v1++v2++v3).length:=by rw [he]
  simp at this
  omega
 have bW:=pj (P:=P) (w:=w) (bj:=e.B root) (off:=off) hr hc (by rw [hlen,Dl]) hv.cells dQ (by omega)
 have ZX:arr.toList.take off=v1:=by rw [he,List.append_assoc,List.take_left' h1]
 have ZY:arr.toList.drop (off+I.size)=v3:=by
  rw [he];exact List.drop_left' (by rw [List.length_append];omega)
 rw [ZX,ZY] at bW
 unfold wr at hK
 cases hn:bp st.b9 root with
 |true=>simp [hn] at hK
 |false=>
  simp only [hn,cond_false,force_eq,lO] at hK
  refine ⟨_,_,bW,?_,.setRow _ (IL kT.2.cc (by rw [←h.defers.2.1,←bH,hn];simp)),hK⟩
  exact h.QC hf dQ (by simpa using h3) (fun t=>by rw [bO]) (eu h.nodup)
end
end Dn
/-
  Owned slices that are shared from now on; what is handed to a callee. Conditions: none.
-/
set_option linter.unusedSimpArgs false
set_option linter.unusedVariables false
namespace Dn
open Go
section
variable {P:Program} {c:Ctx} {Z:bB} {e:Env} {st:St} {a:Act} {w w':World} {R:Type} {K:St→Option R} {r:R} {Q:Exit→Act→World→Prop} {o:Oper}
theorem bn.mono {key:Nat→Nat} {φ φ':Ph} (h:pL φ φ') {size:Nat} {xs:List MV}: ∀{cs:List Value},bn key φ size cs xs→bn key φ' size cs xs:=by
 induction xs with
 |nil=>intro cs hh;exact hh
 |cons x xs ih=>intro cs hh;obtain ⟨v,q,rfl,h1,h2,h3⟩:=hh;exact ⟨v,q,rfl,h1,h2.mono h,ih h3⟩
theorem bn.length {key:Nat→Nat} {φ:Ph} {size:Nat} {xs:List MV}: ∀{cs:List Value},bn key φ size cs xs→cs.length=xs.length *size:=by
 induction xs with
 |nil=>intro cs hh;cases hh;simp
 |cons x xs ih=>intro cs hh;obtain ⟨v,q,rfl,h1,h2,h3⟩:=hh;simp [h1,ih h3,Nat.succ_mul,Nat.add_comm]
theorem Ls {m:List (Nat×mG)} {f:Nat} {o:mG} (h:aL m f=some o):bR m f o=m:=by
 induction m with
 |nil=>simp [aL] at h
 |cons p r ih=>
  obtain ⟨k,x⟩:=p
  simp only [aL,bR,dD] at h⊢
  by_cases hk:k=f
  ·subst hk;simp at h;subst h;simp
  ·simp only [hk,decide_false,cond_false] at h⊢;rw [ih h]
def mN (φ:Ph) (v:Value) (cells:List Value):Ph:=fun b off=>if v.ownBlock=some b∧off<cells.length then cells[off]? else φ b off
theorem rv {base:Nat} {t:TypeId} {size n:Nat} {v:Value} {xs ys:List Value} (h:w.ownsRow base t size v n xs) (h':w.ownsRow base t size v n ys) {b:Nat} (hb:v.ownBlock=some b):xs=ys:=by
 rcases h.2 with ⟨h1,_⟩|⟨g,cap,eZ,h1,_,h2,_,_,_,h3⟩
 ·rw [h1] at hb;simp [Value.ownBlock] at hb
 ·rcases h'.2 with ⟨CU,_⟩|⟨g',QD,ajY,CU,_,Jm,_,_,_,h3'⟩
  ·rw [CU] at hb;simp [Value.ownBlock] at hb
  ·rw [h1] at CU
   simp at CU
   obtain ⟨rfl,rfl⟩:=CU
   rw [h2] at Jm
   simp at Jm
   subst Jm
   rw [←h3,←h3']
theorem freeze {f:Nat} {o:mG} (h:bP c Z e st a w) (hf:aL st.aV f=some o) (hp:f∉Z.cn∨o.dO=true):
 ∃φ',pL e.φ φ'∧(∀b off,¬Z b→φ' b off=e.φ b off)∧bP c Z {e with φ:=φ',m:=bR e.m f ⟨o.ty,true,o.xs⟩} {st with aV:=bR st.aV f ⟨o.ty,true,o.xs⟩} a w∧
  kR e.key φ' [e.E f] (.list o.xs)∧
  (∀I cells,c.ti o.ty=some I→w.ownsRow 0 o.ty I.size (e.E f) o.xs.length cells→ ∀bj,(e.E f).ownBlock=some bj→ ∀j,j<cells.length→φ' bj j=cells[j]?):=by
 obtain ⟨I,cells,hI,TY,eB,mM,hz⟩:=(h.gp f o hf).row
 have hlen:=mM.length
 have hle:pL e.φ (mN e.φ (e.E f) cells):=by
  intro b off v hv
  unfold mN
  by_cases hc:(e.E f).ownBlock=some b∧off<cells.length
  ·simp only [hc,and_self,if_true]
   obtain ⟨hb,ho⟩:=hc
   rcases eB.2 with ⟨hE,_⟩|⟨g,cap,eZ,hE,_,hg,hn,IM,xx,IQ⟩
   ·rw [hE] at hb;simp [Value.ownBlock] at hb
   ·rw [hE] at hb
    simp only [Value.ownBlock,Option.some.injEq] at hb
    subst hb
    have:=h.nE _ _ _ hv
    rw [cell_of hg] at this
    rw [←IQ,List.getElem?_take]
    have cm:off<o.xs.length *I.size:=by omega
    simp only [cm,if_true]
    simpa using this
  ·simp only [hc,if_false];exact hv
 have mD: ∀b off v,mN e.φ (e.E f) cells b off=some v→w.cell? ⟨b,off,none⟩=some v:=by
  intro b off v hv
  unfold mN at hv
  by_cases hc:(e.E f).ownBlock=some b∧off<cells.length
  ·simp only [hc,and_self,if_true] at hv
   rcases eB.2 with ⟨hE,_⟩|⟨g,cap,eZ,hE,_,hg,hn,IM,xx,IQ⟩
   ·rw [hE] at hc;simp [Value.ownBlock] at hc
   ·rw [hE] at hc
    simp only [Value.ownBlock,Option.some.injEq] at hc
    obtain ⟨hb,ho⟩:=hc
    subst hb
    rw [cell_of hg]
    rw [←IQ,List.getElem?_take] at hv
    have cm:off<o.xs.length *I.size:=by omega
    simp only [cm,if_true] at hv
    simpa using hv
  ·simp only [hc,if_false] at hv;exact h.nE _ _ _ hv
 have ZZ: ∀b off,¬Z b→mN e.φ (e.E f) cells b off=e.φ b off:=by
  intro b off hb
  unfold mN
  by_cases hc:(e.E f).ownBlock=some b∧off<cells.length
  ·by_cases yw:f∈Z.cn
   ·simp only [hc,and_self,if_true]
    exact (((hz b hc.1).2.2 yw (hp.resolve_left (fun hn=>hn yw))) off hc.2).symm
   ·exact absurd (IL (hz b hc.1).1 yw) hb
  ·simp [hc]
 have Lt: ∀b off,(e.E f).ownBlock≠some b→mN e.φ (e.E f) cells b off=e.φ b off:=by
  intro b off hb;unfold mN;simp [hb]
 have tq:lG (fun _=>True) (fun _=>True) e {e with φ:=mN e.φ (e.E f) cells,m:=bR e.m f ⟨o.ty,true,o.xs⟩}:=by
  refine ⟨rfl,hle,fun _ _=>rfl,?_⟩
  intro f2 o2 cm _
  have cm:aL (bR e.m f ⟨o.ty,true,o.xs⟩) f2=some o2:=cm
  rw [bg] at cm
  by_cases eN:f2=f
  ·subst eN;simp at cm;subst cm;exact ⟨o,by rw [h.m];exact hf,rfl,rfl⟩
  ·simp only [eN,if_false] at cm;exact ⟨o2,cm,rfl,rfl⟩
 have oR: ∀s:Slot,fc (fun _=>True) (fun _=>True) s:=by
  intro s;cases s<;>simp [fc,iG]
 refine ⟨_,hle,ZZ,?_,?_,?_⟩
 rotate_right
 ·intro I' HI hI' Z3 bj hb j hj
  rw [hI] at hI'
  cases hI'
  have hcc:=rv eB Z3 hb
  subst hcc
  unfold mN
  simp [hb,hj]
 ·refine ⟨h.defers,h.size,by show bR e.m f _=bR st.aV f _;rw [h.m],h.key,h.nodup,?_,h.root,?_,h.bb,?_,?_,mD,h.cc⟩
  ·intro t
   have hs:=h.slot t
   have TZ:=h.bf t
   show bX Z _ w t _ (ap st.fr t)
   generalize ap st.fr t=s at hs TZ
   cases s<;>simp only [bX] at hs⊢ <;>try exact hs.on tq (oR _)
   rename_i cs
   refine ⟨hs.1,hs.2.cc,?_,?_⟩
   ·obtain ⟨o2,h1,h2⟩:=hs.2.obj
    exact ⟨o2,h1,h2.on tq (fun l _ f _=>trivial)⟩
   ·intro off
    show mN e.φ (e.E f) cells (e.B t) off=none
    rw [Lt _ _ (TZ cs f o rfl hf)];exact hs.2.free off
  ·intro f2 o2 cm
   have cm:aL (bR st.aV f ⟨o.ty,true,o.xs⟩) f2=some o2:=cm
   rw [bg] at cm
   by_cases eN:f2=f
   ·subst eN
    simp at cm
    subst cm
    refine ⟨I,cells,hI,TY,eB,mM.mono hle,?_⟩
    intro bj hb
    refine ⟨(hz bj hb).1,?_,?_⟩
    rotate_left
    ·intro _ _ j hj
     show mN e.φ (e.E f2) cells bj j=_
     have hb:(e.E f2).ownBlock=some bj:=hb
     unfold mN
     simp [hb,hj]
    intro off u hu
    refine ⟨rfl,?_⟩
    have hu:mN e.φ (e.E f2) cells bj off=some u:=hu
    unfold mN at hu
    by_cases hc:(e.E f2).ownBlock=some bj∧off<cells.length
    ·show off<o.xs.length *I.size;rw [←hlen];exact hc.2
    ·simp only [hc,if_false] at hu;exact ((hz bj hb).2.1 off u hu).2
   ·simp only [eN,if_false] at cm
    obtain ⟨I2,tG,h1,h2,h3,h4,h5⟩:=(h.gp f2 o2 cm).row
    refine ⟨I2,tG,h1,h2,h3,h4.mono hle,?_⟩
    intro bj hb
    refine ⟨(h5 bj hb).1,?_,?_⟩
    rotate_left
    ·intro g1 g2 j hj
     show mN e.φ (e.E f) cells bj j=_
     rw [Lt _ _ (fun TZ=>eN (h.ff f2 f o2 o bj cm hf hb TZ))]
     exact (h5 bj hb).2.2 g1 g2 j hj
    intro off u hu
    have hu:mN e.φ (e.E f) cells bj off=some u:=hu
    rw [Lt _ _ (fun TZ=>eN (h.ff f2 f o2 o bj cm hf hb TZ))] at hu
    exact (h5 bj hb).2.1 off u hu
  ·intro t cs f2 o2 h1 h2
   have h2:aL (bR st.aV f ⟨o.ty,true,o.xs⟩) f2=some o2:=h2
   rw [bg] at h2
   by_cases eN:f2=f
   ·subst eN;exact h.bf t cs f2 o h1 hf
   ·simp only [eN,if_false] at h2;exact h.bf t cs f2 o2 h1 h2
  ·intro f1 f2 o1 o2 k h1 h2 h3 h4
   have h1:aL (bR st.aV f ⟨o.ty,true,o.xs⟩) f1=some o1:=h1
   have h2:aL (bR st.aV f ⟨o.ty,true,o.xs⟩) f2=some o2:=h2
   rw [bg] at h1 h2
   have g1: ∃o',aL st.aV f1=some o':=by
    by_cases eN:f1=f
    ·subst eN;exact ⟨o,hf⟩
    ·simp only [eN,if_false] at h1;exact ⟨o1,h1⟩
   have g2: ∃o',aL st.aV f2=some o':=by
    by_cases eN:f2=f
    ·subst eN;exact ⟨o,hf⟩
    ·simp only [eN,if_false] at h2;exact ⟨o2,h2⟩
   obtain ⟨q1,g1⟩:=g1
   obtain ⟨q2,g2⟩:=g2
   exact h.ff f1 f2 q1 q2 k g1 g2 h3 h4
 ·have zv:=mM.mono hle
  rcases eB.2 with ⟨hE,hn⟩|⟨g,cap,eZ,hE,_,hg,hn,IM,xx,IQ⟩
  ·have hx:o.xs=[]:=List.eq_nil_of_length_eq_zero hn
   have hv:[e.E f]=[Value.slice none 0 0]:=by rw [hE]
   rw [hv,hx]
   exact .list none 0 [] 0 0 0 (fun _=>[]) (by simp) (by simp) (by simp) (by simp) (by simp)
  ·have hv:[e.E f]=[Value.slice (some ⟨g,0,none⟩) o.xs.length cap]:=by rw [hE]
   rw [hv]
   have QE: ∀i (hi:i<o.xs.length),∃v1,v1.length=I.size∧kR e.key (mN e.φ (e.E f) cells) v1 o.xs[i]∧(cells.drop (i *I.size)).take I.size=v1:=by
    intro i hi
    obtain ⟨p1,v1,p2,he,KX,yt,fD⟩:=zv.at (List.getElem?_eq_getElem hi)
    refine ⟨v1,yt,fD,?_⟩
    rw [he,List.append_assoc,←KX,List.drop_left,←yt,List.take_left]
   refine .list (some ⟨g,0,none⟩) cap o.xs g 0 I.size (fun i=>(cells.drop (i *I.size)).take I.size) hn (fun _=>rfl) ?_ ?_ ?_
   ·intro i hi
    obtain ⟨v1,h1,_,h3⟩:=QE i hi
    rw [h3,h1]
   ·intro i j hi hj
    have hb:(e.E f).ownBlock=some g:=by rw [hE];rfl
    have Dm:i *I.size+j<cells.length:=by
     rw [hlen]
     calc i *I.size+j<i *I.size+I.size:=by omega
      _=(i+1) *I.size:=by rw [Nat.succ_mul]
      _≤o.xs.length *I.size:=Nat.mul_le_mul_right _ hi
    rw [Nat.zero_add]
    unfold mN
    simp only [hb,Dm,and_self,if_true]
    rw [List.getElem?_take]
    simp only [hj,if_true,List.getElem?_drop]
   ·intro i hi
    obtain ⟨v1,_,h2,h3⟩:=QE i hi
    rw [h3];exact h2
end
end Dn
/-
  Arguments and results. Conditions: none.
-/
set_option linter.unusedSimpArgs false
set_option linter.unusedVariables false
namespace Dn
open Go
structure Ext (Z:Nat→Prop) (e e':Env):Prop where
 on:lG (fun _=>True) (fun _=>True) e e'
 cc: ∀b off,¬Z b→e'.φ b off=e.φ b off
theorem Ext.refl (Z:Nat→Prop) (e:Env):Ext Z e e:=⟨⟨rfl,.refl _,fun _ _=>rfl,fun f o h _=>⟨o,h,rfl,rfl⟩⟩,fun _ _ _=>rfl⟩
theorem Ext.trans {Z:Nat→Prop} {e e' Z4:Env} (h:Ext Z e e') (h':Ext Z e' Z4):Ext Z e Z4:=by
 refine ⟨⟨h'.on.key.trans h.on.key,h.on.φ.trans h'.on.φ,fun r hr=>(h'.on.B r hr).trans (h.on.B r hr),?_⟩,fun b off hb=>(h'.cc b off hb).trans (h.cc b off hb)⟩
 intro f o ho _
 obtain ⟨o1,h1,h2,h3⟩:=h'.on.gp f o ho trivial
 obtain ⟨o2,h4,h5,h6⟩:=h.on.gp f o1 h1 trivial
 exact ⟨o2,h4,h2.trans h5,h3.trans h6⟩
theorem Ext.tr {Z:Nat→Prop} {e e':Env} {w:World} (h:Ext Z e e'):Trans Z e.φ w e'.φ w:=⟨h.on.φ,fun _ _ _=>rfl,h.cc,Nat.le_refl _,.refl _⟩
theorem dM (s:Slot):fc (fun _=>True) (fun _=>True) s:=by cases s<;>simp [fc,iG]
def ct (key:Nat→Nat) (φ:Ph):List Value→List MV→Prop
 |vs,[]=>vs=[]
 |vs,m::ms=> ∃v r,vs=v::r∧gV key φ v m∧ct key φ r ms
theorem ct.mono {key:Nat→Nat} {φ φ':Ph} (h:pL φ φ') {ms:List MV}: ∀{vs:List Value},ct key φ vs ms→ct key φ' vs ms:=by
 induction ms with
 |nil=>intro vs hh;exact hh
 |cons m ms ih=>intro vs hh;obtain ⟨v,r,rfl,h1,h2⟩:=hh;exact ⟨v,r,rfl,h1.mono h,ih h2⟩
theorem ct.append {key:Nat→Nat} {φ:Ph} {ms ns:List MV}: ∀{vs us:List Value},ct key φ vs ms→ct key φ us ns→ct key φ (vs++us) (ms++ns):=by
 induction ms with
 |nil=>intro vs us h h';cases h;simpa using h'
 |cons m ms ih=>intro vs us h h';obtain ⟨v,r,rfl,h1,h2⟩:=h;exact ⟨v,r++us,rfl,h1,ih h2 h'⟩
section
variable {P:Program} {c:Ctx} {Z:bB} {e:Env} {st:St} {a:Act} {w w':World} {R:Type} {r:R} {Q:Exit→Act→World→Prop} {o:Oper}
theorem ml {l:aE} {vs:List Value} {K:MV→St→Option R} (h:bP c Z e st a w) (hl:aO e vs l) (hK:mH st l K=some r):
 ∃e' bL m,bP c Z e' bL a w∧Ext Z e e'∧bL.fr=st.fr∧kR e'.key e'.φ vs m∧K m bL=some r∧(rq l=true→e'=e∧bL=st)∧(∀f,l= .own f→ ∃o,aL st.aV f=some o∧m= .list o.xs)∧((∀x,l≠ .hs x)→m.one=true):=by
 cases l with
 |un=>simp [mH] at hK
 |p m=>exact ⟨e,st,m,h,.refl _ _,rfl,hl.2,hK,fun _=>⟨rfl,rfl⟩,by simp,fun _=>hl.1⟩
 |hs x=>have hl:vs=bq x:=hl;subst hl;exact ⟨e,st,.h x,h,.refl _ _,rfl,.h x,hK,fun _=>⟨rfl,rfl⟩,by simp,fun hx=>absurd rfl (hx x)⟩
 |nil=>
  have hl:vs=[.slice none 0 0]:=hl
  subst hl
  exact ⟨e,st,.list [],h,.refl _ _,rfl,.list none 0 [] 0 0 0 (fun _=>[]) (by simp) (by simp) (by simp) (by simp) (by simp),hK,fun hp=>by simp [rq] at hp,fun _ he=>(by cases he),fun _=>rfl⟩
 |mp s es=>simp [mH] at hK
 |own f=>
  simp only [mH] at hK
  cases hf:aL st.aV f with
  |none=>simp [hf] at hK
  |some o=>
   simp only [hf] at hK
   have yw:f∉Z.cn∨o.dO=true:=by
    cases hz:o.dO with
    |true=>exact .inr rfl
    |false=>
     refine .inl (fun hm=> ?_)
     rw [←h.defers.2.2.1,←bH] at hm
     simp [hz,hm] at hK
   obtain ⟨φ',h1,h2,h3,h4,_⟩:=freeze h hf yw
   obtain ⟨v,rfl,hv,hE⟩:=hl
   have hE:=hE o (by rw [h.m];exact hf)
   subst hE
   have T2:Ext Z e {e with φ:=φ',m:=bR e.m f ⟨o.ty,true,o.xs⟩}:=by
    refine ⟨⟨rfl,h1,fun _ _=>rfl,?_⟩,h2⟩
    intro f2 o2 cm _
    have cm:aL (bR e.m f ⟨o.ty,true,o.xs⟩) f2=some o2:=cm
    rw [bg] at cm
    by_cases eN:f2=f
    ·subst eN;simp at cm;subst cm;exact ⟨o,by rw [h.m];exact hf,rfl,rfl⟩
    ·simp only [eN,if_false] at cm;exact ⟨o2,cm,rfl,rfl⟩
   cases hz:o.dO with
   |true=>
    simp only [hz,cond_true] at hK
    have Z5:bR st.aV f ⟨o.ty,true,o.xs⟩=st.aV:=by
     rw [←hz];exact Ls hf
    rw [Z5] at h3
    exact ⟨_,st,.list o.xs,h3,T2,rfl,h4,hK,fun hp=>by simp [rq] at hp,fun _ he=>by cases he;exact ⟨o,hf,rfl⟩,fun _=>rfl⟩
   |false=>
    simp only [hz,cond_false] at hK
    cases hn:bp st.cn f with
    |true=>simp [hn] at hK
    |false=>
     simp only [hn,cond_false,mK] at hK
     exact ⟨_,_,.list o.xs,h3,T2,rfl,h4,hK,fun hp=>by simp [rq] at hp,fun _ he=>by cases he;exact ⟨o,hf,rfl⟩,fun _=>rfl⟩
theorem lH {ls:List aE}: ∀{e:Env} {st:St} {vs:List Value} {K:List MV→St→Option R},bP c Z e st a w→ax e vs ls→oN st ls K=some r→
 ∃e' bL ms,bP c Z e' bL a w∧Ext Z e e'∧bL.fr=st.fr∧gq e'.key e'.φ vs ms∧K ms bL=some r∧(iv ls=true→e'=e∧bL=st)∧(∀ps,pi ls ms=some ps→ax e' vs ps∧iv ps=true):=by
 induction ls with
 |nil=>intro e st vs K h hl hK;cases hl;exact ⟨e,st,[],h,.refl _ _,rfl,.nil,hK,fun _=>⟨rfl,rfl⟩,fun ps hp=>by simp [pi] at hp;subst hp;exact ⟨rfl,rfl⟩⟩
 |cons l ls ih=>
  intro e st vs K h hl hK
  obtain ⟨v,u,rfl,h1,h2⟩:=hl
  simp only [oN] at hK
  obtain ⟨e1,ca,m,vn,Dp,A5,Gq,lI,WX,_,lY⟩:=ml h h1 hK
  obtain ⟨e2,cS,ms,M7,Gr,T3,Qw,tu,KY,xP⟩:=ih vn (h2.on Dp.on (fun l _ f _=>trivial)) lI
  have hrm:kR e2.key e2.φ v m:=by
   have:=Gq.mono Gr.on.φ
   rw [←Gr.on.key] at this;exact this
  refine ⟨e2,cS,m::ms,M7,Dp.trans Gr,T3.trans A5,.cons v m u ms ?_ Qw,tu,?_,?_⟩
  ·have:=Gq.mono Gr.on.φ
   rw [←Gr.on.key] at this;exact this
  ·intro hp
   simp only [iv,Bool.and_eq_true] at hp
   obtain ⟨q1,q2⟩:=WX hp.1
   obtain ⟨q3,q4⟩:=KY hp.2
   exact ⟨q3.trans q1,q4.trans q2⟩
  ·intro ps hp
   cases hq:pi ls ms with
   |none=>cases l<;>simp [pi,hq] at hp
   |some q=>
    obtain ⟨g1,g2⟩:=xP q hq
    by_cases hh: ∃x,l= .hs x
    ·obtain ⟨x,rfl⟩:=hh
     simp [pi,hq] at hp
     subst hp
     exact ⟨⟨v,u,rfl,h1,g1⟩,by simp [iv,rq,g2]⟩
    ·have lY:=lY (fun x hx=>hh ⟨x,hx⟩)
     have FF:ps= .p m::q:=by cases l<;>simp [pi,hq] at hp<;>first|exact hp.symm|exact absurd ⟨_,rfl⟩ hh
     subst FF
     exact ⟨⟨v,u,rfl,⟨lY,hrm⟩,g1⟩,by simp [iv,rq,g2]⟩
theorem mn {s:Slot} {v:Value} {K:MV→St→Option R} (h:bP c Z e st a w) (hl:ae e v s) (hK:lr st s K=some r):
 ∃e' bL m,bP c Z e' bL a w∧Ext Z e e'∧bL.fr=st.fr∧gV e'.key e'.φ v m∧K m bL=some r:=by
 cases s with
 |sc l=>
  simp only [lr] at hK
  cases l with
  |un=>simp [mH] at hK
  |hs x=>
   simp only [ae] at hl
   exact ⟨e,st,.h x,h,.refl _ _,rfl,by simpa [gV,bq] using hl,hK⟩
  |p m=>
   simp only [ae] at hl
   refine ⟨e,st,m,h,.refl _ _,rfl,?_,hK⟩
   obtain ⟨h1,h2⟩:=hl
   cases m<;>simp [MV.one] at h1<;>exact ⟨rfl,h2⟩
  |nil=>
   simp only [ae] at hl
   obtain ⟨e',bL,m,q1,q2,q3,q4,q5,q6,_⟩:=ml h hl hK
   have hl:[v]=[Value.slice none 0 0]:=hl
   refine ⟨e,st,.list [],h,.refl _ _,rfl,⟨rfl,?_⟩,hK⟩
   rw [hl]
   exact .list none 0 [] 0 0 0 (fun _=>[]) (by simp) (by simp) (by simp) (by simp) (by simp)
  |mp s es=>simp [mH] at hK
  |own f=>
   simp only [ae] at hl
   simp only [mH] at hK
   cases hf:aL st.aV f with
   |none=>simp [hf] at hK
   |some o=>
    obtain ⟨e',bL,m,q1,q2,q3,q4,q5,q6,q7⟩:=ml (l:= .own f) h hl (by simpa only [mH,hf] using hK)
    obtain ⟨o2,_,rfl⟩:=q7.1 f rfl
    exact ⟨e',bL,.list o2.xs,q1,q2,q3,⟨rfl,q4⟩,q5⟩
 |ag cs=>
  simp only [ae] at hl
  obtain ⟨arr,hv,hl⟩:=hl
  simp only [lr] at hK
  obtain ⟨e',bL,ms,q1,q2,q3,q4,q5,_⟩:=lH h hl hK
  exact ⟨e',bL,.agg ms,q1,q2,q3,⟨arr,hv,q4⟩,q5⟩
 |rp cs off=>
  simp only [ae] at hl
  obtain ⟨bj,q,vs,hv,pP,hp,A4⟩:=hl
  simp only [lr] at hK
  cases hb:Nat.beq off 0 with
  |false=>simp [hb] at hK
  |true=>
   simp only [hb,cond_true] at hK
   have h0:=Nat.eq_of_beq_eq_true hb
   subst h0
   obtain ⟨e',bL,ms,q1,q2,q3,q4,q5,q6⟩:=lH h pP hK
   obtain ⟨rfl,rfl⟩:=q6.1 hp
   refine ⟨e',bL,.rp ms,q1,q2,q3,⟨rfl,?_⟩,q5⟩
   rw [hv]
   exact .rp bj (q+0) vs ms q4 (by simpa using A4)
 |_=>simp [lr] at hK
theorem pQ {ss:List Slot}: ∀{e:Env} {st:St} {vs:List Value} {K:List MV→St→Option R},bP c Z e st a w→(∃f:Unit→List Value,f ()=vs∧vs.length=ss.length∧ ∀(i:Nat) (v:Value) (s:Slot),vs[i]? =some v→ss[i]? =some s→ae e v s)→
 tA st ss K=some r→ ∃e' bL ms,bP c Z e' bL a w∧Ext Z e e'∧bL.fr=st.fr∧ct e'.key e'.φ vs ms∧K ms bL=some r:=by
 induction ss with
 |nil=>intro e st vs K h hl hK;obtain ⟨f,_,hlen,_⟩:=hl;have:=List.eq_nil_of_length_eq_zero hlen;subst this;exact ⟨e,st,[],h,.refl _ _,rfl,rfl,hK⟩
 |cons s ss ih=>
  intro e st vs K h hl hK
  obtain ⟨f,_,hlen,fD⟩:=hl
  cases vs with
  |nil=>simp at hlen
  |cons v vs=>
   simp only [tA] at hK
   obtain ⟨e1,ca,m,q1,q2,q3,q4,q5⟩:=mn h (fD 0 v s rfl rfl) hK
   obtain ⟨e2,cS,ms,p1,p2,p3,p4,p5⟩:=ih (vs:=vs) q1 ⟨fun _=>vs,rfl,by simpa using hlen,fun i v s h1 h2=>(fD (i+1) v s (by simpa using h1) (by simpa using h2)).on q2.on (dM s)⟩ q5
   refine ⟨e2,cS,m::ms,p1,q2.trans p2,p3.trans q3,⟨v,vs,rfl,?_,p4⟩,p5⟩
   have:=q4.mono p2.on.φ
   rw [←p2.on.key] at this;exact this
end
end Dn
/-
  Parts of structs, lengths, the least and the greatest, places of elements. Conditions: none.
-/
set_option linter.unusedSimpArgs false
set_option linter.unusedVariables false
namespace Dn
open Go
section
variable {P:Program} {c:Ctx} {Z:bB} {e:Env} {st:St} {a:Act} {w w':World} {R:Type} {K:St→Option R} {r:R} {Q:Exit→Act→World→Prop} {o:Oper}
theorem Gs {t:TypeId} {I:TI} (hr:nI c.ti P t I) (hc:I.cH=[]):
 ((I.st=true∨I.size=32)∧ ∀w:World,(isAgg t).run P w= .ok true w)∨(I.st=false∧I.size=1∧ ∀w:World,(isAgg t).run P w= .ok false w):=by
 rcases hr.agg hc with ⟨d,hu,hd,hh⟩|⟨d,hu,hd,h1,h2⟩
 ·refine .inl ⟨hh.imp id (·.2),fun w=> ?_⟩
  unfold isAgg;rw [Sem.run_bind,run_underlying hu w];cases d<;>simp_all [TypeDesc.isRow]
 ·refine .inr ⟨h1,h2,fun w=> ?_⟩
  unfold isAgg;rw [Sem.run_bind,run_underlying hu w];cases d<;>simp_all [TypeDesc.isRow]
theorem QF {t:TypeId} {I:TI} {cs:List aE} {off:Nat} {arr:Array Value} {K':Slot→Option R} (hr:nI c.ti P t I) (hc:I.cH=[])
 (hv:ax e arr.toList cs) (hK:jt I cs off K'=some r):
 ∃v s,(∀w:World,(Go.part t arr off).run P w= .ok v w)∧ae e v s∧cg st.fr s∧K' s=some r:=by
 obtain ⟨i,hi,hs,_⟩:=hr.info hc
 have ext: ∀v1 v2 v3:List Value,arr.toList=v1++v2++v3→v1.length=off→(arr.extract off (off+v2.length))=v2.toArray:=by
  intro v1 v2 v3 h1 h2
  apply Array.toList_inj.1
  rw [Array.toList_extract,h1,List.extract_eq_take_drop,List.append_assoc,←h2,List.drop_left]
  simp
 unfold jt at hK
 cases iw:I.st with
 |true=>
  simp only [iw,cond_true] at hK
  cases hp:Dn.part cs off I.size with
  |none=>simp [hp] at hK
  |some ds=>
   simp only [hp] at hK
   obtain ⟨v1,v2,v3,h0,h1,h2,h3⟩:=Gn hp hv
   rcases Gs (P:=P) hr hc with ⟨_,WT⟩|⟨hf,_⟩
   ·refine ⟨.agg v2.toArray,.ag ds,?_,?_,trivial,hK⟩
    ·have hx:=ext v1 v2 v3 h0 h1
     rw [h2] at hx
     simp [Go.part,WT,Go.sizeOf,typeInfo,hi,hs,hx]
    ·simp only [ae];exact ⟨_,rfl,by simpa using h3⟩
   ·rw [iw] at hf;cases hf
 |false=>
  simp only [iw,cond_false] at hK
  cases hp:cut cs off with
  |none=>simp [hp] at hK
  |some ds=>
   cases ds with
   |nil=>simp [hp] at hK
   |cons l ls=>
    simp only [hp] at hK
    cases hb:Nat.beq l.w I.size with
    |false=>simp [hb] at hK
    |true=>
     simp only [hb,cond_true] at hK
     have hw:=Nat.eq_of_beq_eq_true hb
     obtain ⟨v1,v2,h0,h1,h2⟩:=vA hp hv
     obtain ⟨u,u2,rfl,h3,h4⟩:=h2
     have hlu:u.length=I.size:=by rw [h3.width,hw]
     rcases Gs (P:=P) hr hc with ⟨hh,WT⟩|⟨_,h1s,WT⟩
     ·refine ⟨.agg u.toArray,.sc l,?_,h3.slot (.inr ⟨rfl,?_⟩),trivial,hK⟩
      ·have hx:=ext v1 u u2 (by rw [h0,List.append_assoc]) h1
       rw [hlu] at hx
       simp [Go.part,WT,Go.sizeOf,typeInfo,hi,hs,hx]
      ·rcases hh with hh|hh
       ·rw [iw] at hh;cases hh
       ·rw [hw,hh]
     ·obtain ⟨v,rfl⟩:=List.length_eq_one_iff.1 (by rw [hlu,h1s])
      refine ⟨v,.sc l,?_,h3.slot (.inl ⟨rfl,?_⟩),trivial,hK⟩
      ·have:arr[off]? =some v:=by
        have:arr[off]? =arr.toList[off]? :=by simp
        rw [this,h0,List.getElem?_append_right (by omega),h1];simp
       simp [Go.part,WT,this]
      ·rw [hw,h1s]
theorem WY {t:TypeId} {x:Operand} {f:Nat} {I:TI} (ho:o.op= .field t x f) (hI:c.tv t=some I) (hT:jI P c.ti) (h:bP c Z e st a w)
 (hK:WI c I f (aH c st x) (fun s=>bc c st o.dst s K)=some r):Rd P c Z K r e a w o (fun _=>True):=by
 obtain ⟨hx,oP⟩:=h.eval x
 obtain ⟨oQ,hc⟩:=bK hI
 obtain ⟨d,i,h1,h2,h3,h4⟩:=hT t I oQ
 generalize aH c st x=s at hx hK oP
 unfold WI at hK
 split at hK
 ·rename_i q y cs iw hq hy
  simp only [ae] at hx
  obtain ⟨arr,hx,pP⟩:=hx
  cases hJ:c.tv y with
  |none=>simp [hJ] at hK
  |some J=>
   simp only [hJ] at hK
   obtain ⟨hJt,VJ⟩:=bK hJ
   obtain ⟨v,s,bW,h5,h6,h7⟩:=QF (P:=P) (st:=st) (hT y J hJt) VJ pP hK
   refine gX (v:=v) h ?_ h5 h6 h7
   cases d<;>simp only [qB] at h4
   case struct fs=>
    obtain ⟨_,_,_,Og,cm,_⟩:=h4
    rw [←Og,List.getElem?_map] at hq
    rw [←cm,List.getElem?_map] at hy
    cases hf:fs.toList[f]? with
    |none=>simp [hf] at hq
    |some fl=>
     simp [hf] at hq hy
     subst hq;subst hy
     have Tu:fs[f]? =some fl:=by simpa using hf
     simp [execOp,ho,hx,Instr.field,run_underlying h1,Tu,asAgg,bW]
   all_goals (exfalso;simp_all)
 ·simp at hK
theorem TI.lB {I:TI} {t:TypeId} (hr:nI c.ti P t I) (h:I.wR=true):P.underlying t=some (.slice I.elem)∧ ∃E,c.ti I.elem=some E∧E.cH=[]∧0<E.size:=by
 unfold TI.wR at h
 split at h
 ·rename_i iw hl
  obtain ⟨d,i,h1,h2,h3,h4⟩:=hr
  cases d<;>simp only [qB,hl,iw] at h4<;>first|(exfalso;simp_all;done)|skip
  obtain ⟨_,_,_,rfl,hE,_⟩:=h4
  exact ⟨h1,hE⟩
 ·cases h
theorem TI.Dq {I:TI} {t:TypeId} (hr:nI c.ti P t I) (h:I.PH=true):P.underlying t=some .string:=by
 unfold TI.PH at h
 split at h
 ·rename_i iw hl
  obtain ⟨d,i,h1,h2,h3,h4⟩:=hr
  cases d<;>simp only [qB,hl,iw] at h4<;>first|(exfalso;simp_all;done)|skip
  exact h1
 ·cases h
theorem Dr {v:Value} {xs:List MV} (h:ae e v (.sc (.p (.list xs)))): ∃ad cap,v= .slice ad xs.length cap∧xs.length≤cap:=by
 simp only [ae,aO] at h
 obtain ⟨_,h⟩:=h
 generalize hv:[v]=vs at h
 cases h
 exact ⟨_,_,by simpa using hv,by assumption⟩
theorem pR {f:Nat} {w':mG} {v:Value} (h:bP c Z e st a w) (hv:ae e v (.sc (.own f))) (hf:aL st.aV f=some w'):v=e.E f∧ ∃ad cap,v= .slice ad w'.xs.length cap∧w'.xs.length≤cap:=by
 simp only [ae] at hv
 obtain ⟨u,hu,_,hE⟩:=hv
 simp at hu;subst hu
 have hE:=hE w' (by rw [h.m];exact hf)
 refine ⟨hE,?_⟩
 obtain ⟨I,cells,_,_,eB,_⟩:=(h.gp f w' hf).row
 rcases eB.2 with ⟨h1,h2⟩|⟨g,cap,eZ,h1,_,_,h2,_⟩
 ·exact ⟨none,0,by rw [hE,h1,h2],by omega⟩
 ·exact ⟨_,cap,by rw [hE,h1],h2⟩
theorem gY {l:List Operand}:iC c st l=l.map (aH c st):=by
 induction l with
 |nil=>rfl
 |cons x r ih=>simp [iC,ih]
theorem WZ {cl:Call} {t:TypeId} {I:TI} (ho:o.op= .call cl) (hb:cl.callee= .builtin .len) (ha:cl.argTypes.toList=[t]) (hI:c.tv t=some I) (hT:jI P c.ti) (h:bP c Z e st a w)
 (hK:Qa I st (iC c st cl.args.toList) (fun s=>bc c st o.dst s K)=some r):Rd P c Z K r e a w o (fun _=>True):=by
 obtain ⟨oQ,hc⟩:=bK hI
 have hr:=hT t I oQ
 have IR:cl.argTypes= #[t]:=by rw [←Array.toList_inj,ha]
 rw [gY] at hK
 have go: ∀x,cl.args.toList=[x]→ ∀n:Nat,(∃b:ByteArray,a.eval x= .string b∧b.size=n∧P.underlying t=some .string)∨(∃ad cap,a.eval x= .slice ad n cap∧ ∃el,P.underlying t=some (.slice el))→
  bc c st o.dst (.sc (.p (.i .i64 n))) K=some r→Rd P c Z K r e a w o (fun _=>True):=by
  intro x hx n Ds hK
  have Oi:cl.args= #[x]:=by rw [←Array.toList_inj,hx]
  refine gX h ?_ (pN .i64 (n:Int)) trivial hK
  rcases Ds with ⟨b,h1,h2,h3⟩|⟨ad,cap,h1,el,h3⟩
  ·simp [execOp,ho,resolve,hb,invoke,builtin,Builtin.len_,IR,Oi,run_underlying h3,h1,goInt,h2]
  ·simp [execOp,ho,resolve,hb,invoke,builtin,Builtin.len_,IR,Oi,run_underlying h3,h1,goInt]
 cases hl:cl.args.toList with
 |nil=>rw [hl] at hK;simp [Qa] at hK
 |cons x ys=>
  rw [hl] at hK
  cases ys with
  |cons y zs=>simp only [List.map_cons] at hK;unfold Qa at hK;split at hK<;>simp_all
  |nil=>
   simp only [List.map_cons,List.map_nil] at hK
   obtain ⟨hx,_⟩:=h.eval x
   generalize aH c st x=s at hx hK
   unfold Qa at hK
   split at hK
   ·rename_i l hs
    simp at hs;subst hs
    cases hS:I.PH with
    |false=>simp [hS] at hK
    |true=>
     simp only [hS,cond_true] at hK
     obtain ⟨b,Ct,rfl⟩:=BL hx
     exact go x hl _ (.inl ⟨b,Ct,by show b.data.size=_;exact (Array.length_toList).symm,TI.Dq hr hS⟩) hK
   ·rename_i l hs
    simp at hs;subst hs
    cases hS:I.wR with
    |false=>simp [hS] at hK
    |true=>
     simp only [hS,cond_true] at hK
     obtain ⟨ad,cap,hv,_⟩:=Dr hx
     exact go x hl _ (.inr ⟨ad,cap,hv,_,(TI.lB hr hS).1⟩) hK
   ·rename_i hs
    simp at hs;subst hs
    cases hS:I.wR with
    |false=>simp [hS] at hK
    |true=>
     simp only [hS,cond_true] at hK
     simp only [ae] at hx
     have hx:[a.eval x]=[Value.slice none 0 0]:=hx
     simp at hx
     exact go x hl 0 (.inr ⟨none,0,hx,_,(TI.lB hr hS).1⟩) hK
   ·rename_i f hs
    simp at hs;subst hs
    cases hS:I.wR with
    |false=>simp [hS] at hK
    |true=>
     simp only [hS,cond_true] at hK
     cases hf:aL st.aV f with
     |none=>simp [hf] at hK
     |some w'=>
      simp only [hf] at hK
      obtain ⟨_,ad,cap,hv,_⟩:=pR h hx hf
      exact go x hl _ (.inr ⟨ad,cap,hv,_,(TI.lB hr hS).1⟩) hK
   ·simp at hK
end
end Dn
/-
  Values as leaves; places of elements; the least and the greatest; parts of slices. Conditions: none.
-/
set_option linter.unusedSimpArgs false
set_option linter.unusedVariables false
namespace Dn
open Go
section
variable {P:Program} {c:Ctx} {Z:bB} {e:Env} {st:St} {a:Act} {w w':World} {R:Type} {K:St→Option R} {r:R} {Q:Exit→Act→World→Prop} {o:Oper}
structure VM (e:Env) (k:Kd) (vs:List Value) (m:MV) (l:aE):Prop where
 Z6:kR e.key e.φ vs m→aO e vs l
 PK:rq l=true
 mv:bG [l]=some [m]
 one: ∀m',l= .p m'→m'.one=true
 wid:l.w=Cs [k]
theorem lZ {k:Kd} {m:MV} {vs:List Value} {K':aE→Option R} (hK:jr k m K'=some r): ∃l,VM e k vs m l∧K' l=some r:=by
 have mk: ∀m:MV,m.one=true→(Cs [k]=1)→K' (.p m)=some r→ ∃l,VM e k vs m l∧K' l=some r:=
  fun m h1 h2 h3=>⟨.p m,⟨fun h=>⟨h1,h⟩,rfl,rfl,fun m' e=>by cases e;exact h1,h2.symm⟩,h3⟩
 cases k with
 |b=>unfold jr gB at hK;cases m<;>simp at hK;exact mk _ rfl rfl hK
 |s=>unfold jr gS at hK;cases m<;>simp at hK;exact mk _ rfl rfl hK
 |l=>unfold jr gL at hK;cases m<;>simp at hK;exact mk _ rfl rfl hK
 |i k=>
  unfold jr gI at hK;cases m<;>simp at hK
  rename_i k' n
  by_cases hk:k'=k
  ·subst hk;simp at hK;exact mk _ rfl rfl hK
  ·simp [hk] at hK
 |h=>
  unfold jr gH at hK;cases m<;>simp at hK
  rename_i x
  refine ⟨.hs x,⟨?_,rfl,rfl,by simp,rfl⟩,hK⟩
  intro h;cases h;rfl
 |raw=>unfold jr gR at hK;cases m<;>simp at hK<;>exact mk _ rfl rfl hK
theorem xQ {l:aE} {ls:List aE} {m:MV} {ms:List MV} (h1:bG [l]=some [m]) (h2:bG ls=some ms):bG (l::ls)=some (m::ms):=by
 cases l<;>simp [bG] at h1⊢ <;>simp [h2,h1]
structure T4 (e:Env) (ks:List Kd) (vs:List Value) (ms:List MV) (ls:List aE):Prop where
 Z6:gq e.key e.φ vs ms→ax e vs ls
 PK:iv ls=true
 mv:bG ls=some ms
 one: ∀m',aE.p m'∈ls→m'.one=true
 wid:vq ls=Cs ks
theorem Ok (k:Kd) (ks:List Kd):Cs (k::ks)=Cs [k]+Cs ks:=by cases k<;>simp [Cs]
theorem tH {ks:List Kd}: ∀{ms:List MV} {vs:List Value} {K':List aE→Option R},rm ks ms K'=some r→ ∃ls,T4 e ks vs ms ls∧K' ls=some r:=by
 induction ks with
 |nil=>
  intro ms vs K' hK
  cases ms with
  |nil=>exact ⟨[],⟨fun h=>by cases h;rfl,rfl,rfl,by simp,rfl⟩,hK⟩
  |cons m ms=>simp [rm,gN] at hK
 |cons k ks ih=>
  intro ms vs K' hK
  cases ms with
  |nil=>simp [rm,gC] at hK
  |cons m ms=>
   simp only [rm,gC] at hK
   have h1:=fun vs=>lZ (e:=e) (vs:=vs) hK
   obtain ⟨l,hl,lI⟩:=h1 []
   obtain ⟨ls,Jn,tu⟩:=ih (vs:=[]) lI
   refine ⟨l::ls,⟨?_,?_,xQ hl.mv Jn.mv,?_,?_⟩,tu⟩
   ·intro h
    have g:ax e vs (l::ls):=by
     apply h.leaves (xQ hl.mv Jn.mv)
     intro m' hm
     rcases List.mem_cons.1 hm with hm|hm
     ·exact hl.one m' hm.symm
     ·exact Jn.one m' hm
    exact g
   ·simp [iv,hl.PK,Jn.PK]
   ·intro m' hm
    rcases List.mem_cons.1 hm with hm|hm
    ·exact hl.one m' hm.symm
    ·exact Jn.one m' hm
   ·rw [Ok,←hl.wid,←Jn.wid];rfl
theorem T5 {t:TypeId} {I:TI} (hr:nI c.ti P t I) (hc:I.cH=[]):Cs I.lay=I.size:=by
 obtain ⟨d,i,h1,h2,h3,h4⟩:=hr
 cases d<;>simp only [qB] at h4
 case struct fs=>exact h4.2.2.1.2
 case tuple ts=>exact absurd hc h4.2.1
 case slice el=>obtain ⟨_,_,hs,_,_,_,_,k,hl,rfl⟩:=h4;rw [hl,hs];rfl
 case array n el=>obtain ⟨_,_,hs,_,_,_,hl,_⟩:=h4;rw [hl,hs];rfl
 all_goals (obtain ⟨_,_,hs,hl,_⟩:=h4;rw [hl,hs];rfl)
theorem BM {E:TI} {t:TypeId} {x:MV} {K':List aE→Option R} (hr:nI c.ti P t E) (hc:E.cH=[]) (hK:Hs E x K'=some r):
 ∃cs,C8 E.st x cs∧iv cs=true∧vq cs=E.size∧K' cs=some r:=by
 have Z7:=T5 hr hc
 unfold Hs at hK
 cases iw:E.st with
 |true=>
  simp only [iw,cond_true] at hK
  unfold gA at hK
  split at hK
  ·rename_i ms
   obtain ⟨ls,Jn,lI⟩:=tH (e:=⟨fun n=>n,fun _ _=>none,fun _=>undef,fun _=>0,[]⟩) (vs:=[]) hK
   exact ⟨ls,⟨⟨ms,Jn.mv,by simp [rZ]⟩,Jn.one⟩,Jn.PK,by rw [Jn.wid,Z7],lI⟩
  ·simp at hK
 |false=>
  simp only [iw,cond_false] at hK
  split at hK
  ·rename_i k hl
   obtain ⟨l,yt,lI⟩:=lZ (e:=⟨fun n=>n,fun _ _=>none,fun _=>undef,fun _=>0,[]⟩) (vs:=[]) hK
   refine ⟨[l],⟨⟨[x],yt.mv,by simp [rZ]⟩,?_⟩,by simp [iv,yt.PK],?_,lI⟩
   ·intro m hm;simp at hm;exact yt.one m hm.symm
   ·rw [←Z7,hl,←yt.wid];rfl
  ·simp at hK
theorem W0 {t:TypeId} {x y:Operand} {I E:TI} (ho:o.op= .indexAddr t x y) (hI:c.tv t=some I) (hE:c.tv I.elem=some E) (hT:jI P c.ti) (h:bP c Z e st a w)
 (hK:WJ c st I E (aH c st x) (aH c st y) (fun s=>bc c st o.dst s K)=some r):Rd P c Z K r e a w o (fun _=>True):=by
 obtain ⟨hx,oP⟩:=h.eval x
 obtain ⟨hy,_⟩:=h.eval y
 obtain ⟨oQ,hc⟩:=bK hI
 obtain ⟨ql,r7⟩:=bK hE
 have hr:=hT t I oQ
 have hrE:=hT _ E ql
 obtain ⟨iE,Z8,Z9,_⟩:=hrE.info r7
 have run: ∀k n bj off len cap,P.underlying t=some (.slice I.elem)→a.eval y= .int k n→a.eval x= .slice (some ⟨bj,off,none⟩) len cap→0≤n→n.toNat<len→
  ∀w:World,(execOp a.eval o).run P w= .ok (.value (.pointer (some ⟨bj,off+n.toNat *E.size,none⟩))) w:=by
  intro k n bj off len cap hu hy hx h0 h1 w
  have h2:n<(len:Int):=by omega
  simp [execOp,ho,hx,hy,Instr.indexAt,asIntOf,run_underlying hu,h0,h2,Go.sizeOf,typeInfo,Z8,Z9,Addr.add_mid]
 generalize aH c st x=sx at hx hK oP
 generalize aH c st y=sy at hy hK
 unfold WJ at hK
 split at hK
 ·rename_i xs k n
  cases hL:I.wR with
  |false=>simp [hL] at hK
  |true=>
   simp only [hL,cond_true] at hK
   obtain ⟨h0,m,hm,hK⟩:=Jj hK
   obtain ⟨cs,h1,h2,h3,hK⟩:=BM hrE r7 hK
   have du:n.toNat<xs.length:=(List.getElem?_eq_some_iff.1 hm).1
   simp only [ae,aO] at hx
   obtain ⟨_,hx⟩:=hx
   generalize hv:[a.eval x]=vs at hx
   cases hx with
   |list ad cap _ bj off Gl f g1 g2 g3 g4 g5=>
   simp at hv
   have fD:=g5 n.toNat du
   rw [(List.getElem?_eq_some_iff.1 hm).2] at fD
   have pP:=fD.Di h1
   have PL:Gl=E.size:=by rw [←h3,←pP.width,g3 _ du]
   rw [g2 (by omega)] at hv
   refine gX (s:= .rp cs 0) h (run k n bj off _ cap (TI.lB hr hL).1 (jT hy) hv h0 du) ?_ trivial hK
   simp only [ae]
   refine ⟨bj,off+n.toNat *E.size,f n.toNat,rfl,pP,h2,?_⟩
   intro j hj
   rw [g3 _ du] at hj
   rw [←PL];exact g4 n.toNat j du hj
 ·rename_i f k n
  cases hf:aL st.aV f with
  |none=>simp [hf] at hK
  |some fo=>
   simp only [hf] at hK
   cases hL:I.wR with
   |false=>simp [hL] at hK
   |true=>
    simp only [hL,cond_true] at hK
    obtain ⟨h0,m,hm,hK⟩:=Jj hK
    obtain ⟨cs,h1,h2,h3,hK⟩:=BM hrE r7 hK
    have du:n.toNat<fo.xs.length:=(List.getElem?_eq_some_iff.1 hm).1
    obtain ⟨hv,_⟩:=pR h hx hf
    obtain ⟨J,cells,_,_,eB,_⟩:=(h.gp f fo hf).row
    rcases eB.2 with ⟨h5,h6⟩|⟨g,cap,eZ,h5,_⟩
    ·omega
    ·rw [h5] at hv
     refine gX (s:= .ep f n.toNat 0 E.st cs) h (run k n g 0 _ cap (TI.lB hr hL).1 (jT hy) hv h0 du) ?_ trivial hK
     simp only [ae]
     intro o2 cm
     rw [h.m,hf] at cm
     cases cm
     exact ⟨g,cap,h5,⟨m,hm,h1⟩,by rw [h3,Nat.zero_add,Nat.add_zero]⟩
 ·rename_i r' o' k n
  cases iw:I.st with
  |true=>simp [iw] at hK
  |false=>
   simp only [iw,cond_false] at hK
   split at hK
   ·rename_i hl
    obtain ⟨KZ,hK⟩:=dP hK
    obtain ⟨h0,h1⟩:=of_decide_eq_true KZ
    obtain ⟨d,i,hu,h2,h3,h4⟩:=hr
    cases d<;>simp only [qB,hl,iw] at h4<;>first|(exfalso;simp_all;done)|skip
    obtain ⟨_,_,_,rfl,_,⟨ie,VN,zf,vn⟩,_⟩:=h4
    simp only [ae] at hx
    refine gX (s:= .hp r' o' n.toNat) (v:= .pointer (some ⟨e.B r',o'+n.toNat,none⟩)) h ?_ ?_ oP hK
    ·simp [execOp,ho,hx,jT hy,Instr.indexAt,asIntOf,run_underlying hu,h0,h1,Go.sizeOf,typeInfo,zf,vn,Instr.sureAddr,Addr.add_mid]
    ·simp only [ae];exact ⟨trivial,by omega⟩
   ·simp at hK
 ·simp at hK
theorem Ol {mx:Bool} {k:IntKind} {ss:List Slot}: ∀{vs:List Value} {n:Int} {m:MV},P4 mx k n ss=some m→vs.length=ss.length→
 (∀(i:Nat) (v:Value) (s:Slot),vs[i]? =some v→ss[i]? =some s→ae e v s)→
 ∃v,(∀w:World,(vs.foldlM (if mx then Builtin.max2 else Builtin.min2) (.int k n)).run P w= .ok v w)∧ae e v (.sc (.p m)):=by
 induction ss with
 |nil=>
  intro vs n m hm hl hs
  have:=List.eq_nil_of_length_eq_zero hl
  subst this
  simp [P4] at hm
  subst hm
  exact ⟨.int k n,by simp,pN k n⟩
 |cons s ss ih=>
  intro vs n m hm hl hs
  cases vs with
  |nil=>simp at hl
  |cons v vs=>
   have h0:=hs 0 v s rfl rfl
   unfold P4 at hm
   split at hm
   ·rename_i gu;simp at gu
   ·rename_i k' y r' gu
    simp at gu
    obtain ⟨rfl,rfl⟩:=gu
    by_cases hk:k'=k
    ·subst hk
     simp only [decide_true,cond_true] at hm
     obtain ⟨u,h1,h2⟩:=ih hm (by simpa using hl) (fun i v s h1 h2=>hs (i+1) v s (by simpa using h1) (by simpa using h2))
     refine ⟨u,fun w=> ?_,h2⟩
     have h1:=h1 w
     rw [jT h0]
     cases mx
     ·simp only [cond_false,ZI] at h1
      simp [Builtin.min2] at h1⊢
      exact h1
     ·simp only [cond_true,imax] at h1
      simp [Builtin.max2] at h1⊢
      exact h1
    ·simp [hk] at hm
   ·simp at hm
theorem Gt {cl:Call} {mx:Bool} {m:MV} (ho:o.op= .call cl) (hb:cl.callee= .builtin (if mx then .max else .min)) (h:bP c Z e st a w)
 (hm:K7 mx (iC c st cl.args.toList)=some m) (hK:bc c st o.dst (.sc (.p m)) K=some r):Rd P c Z K r e a w o (fun _=>True):=by
 rw [gY] at hm
 cases hl:cl.args.toList with
 |nil=>rw [hl] at hm;simp [K7] at hm
 |cons x xs=>
  rw [hl] at hm
  simp only [List.map_cons] at hm
  obtain ⟨hx,_⟩:=h.eval x
  generalize aH c st x=s at hx hm
  unfold K7 at hm
  split at hm
  ·rename_i k n ss gu
   simp at gu
   obtain ⟨rfl,rfl⟩:=gu
   obtain ⟨v,h1,h2⟩:=Ol (e:=e) (P:=P) (vs:=xs.map a.eval) hm (by simp) (by
    intro i v s h1 h2
    simp only [List.getElem?_map,Option.map_eq_some_iff] at h1 h2
    obtain ⟨y,h3,rfl⟩:=h1
    obtain ⟨y',h4,rfl⟩:=h2
    rw [h3] at h4;cases h4
    exact (h.eval y).1)
   have iT:(cl.args.map a.eval).toList= .int k n::xs.map a.eval:=by simp [hl,jT hx]
   refine gX (v:=v) h ?_ h2 trivial hK
   intro w
   have h1:=h1 w
   cases mx
   ·simp at hb h1
    have QG: ∀ts t,(Builtin.min_ ts t (cl.args.map a.eval)).run P w= .ok v w:=by intro ts t;unfold Builtin.min_;rw [iT];exact h1
    simp [execOp,ho,resolve,hb,invoke,builtin,QG]
   ·simp at hb h1
    have QG: ∀ts t,(Builtin.max_ ts t (cl.args.map a.eval)).run P w= .ok v w:=by intro ts t;unfold Builtin.max_;rw [iT];exact h1
    simp [execOp,ho,resolve,hb,invoke,builtin,QG]
  ·simp at hm
end
end Dn
/-
  Parts of slices and texts. Conditions: none.
-/
set_option linter.unusedSimpArgs false
set_option linter.unusedVariables false
namespace Dn
open Go
section
variable {P:Program} {c:Ctx} {Z:bB} {e:Env} {st:St} {a:Act} {w w':World} {R:Type} {K:St→Option R} {r:R} {Q:Exit→Act→World→Prop} {o:Oper}
theorem tI {b:Bool} {lo hi:Option Operand} {len cap:Nat} {K':Nat→Nat→Option R} (h:bP c Z e st a w) (yx:len≤cap) (hK:sliceB (kP c st lo) (kP c st hi) len K'=some r):
 ∃l h',l≤h'∧h'≤len∧(lo=none→l=0)∧(∀w:World,(Instr.sliceBounds b len cap (lo.map a.eval) (hi.map a.eval) none).run P w= .ok (l,h',cap) w)∧K' l h'=some r:=by
 have W1: ∀(k:IntKind) (n:Int) (y:Nat) (cd:BoundsCode),0≤n→n≤(y:Int)→ ∀w:World,(Instr.sliceBound (.int k n) y cd).run P w= .ok n.toNat w:=by
  intro k n y cd h1 h2 w
  simp [Instr.sliceBound,asIntOf,h1,h2]
 unfold sliceB at hK
 cases lo with
 |none=>
  cases hi with
  |none=>
   simp only [kP] at hK
   exact ⟨0,len,by omega,by omega,fun _=>rfl,by simp [Instr.sliceBounds],hK⟩
  |some y=>
   obtain ⟨hy,_⟩:=h.eval y
   simp only [kP] at hK
   generalize aH c st y=sy at hy hK
   split at hK<;>first|(simp_all;done)|skip
   ·rename_i k n h1 h2
    simp at h2;subst h2
    obtain ⟨KZ,hK⟩:=dP hK
    obtain ⟨h3,h4,h5⟩:=of_decide_eq_true KZ
    refine ⟨0,n.toNat,by omega,by omega,fun _=>rfl,?_,hK⟩
    have:=W1 k n cap (if b then .sliceAcap else .sliceAlen) h4 (by omega)
    cases b<;>simp at this<;>simp [Instr.sliceBounds,jT hy,this]
 |some x=>
  obtain ⟨hx,_⟩:=h.eval x
  cases hi with
  |none=>
   simp only [kP] at hK
   generalize aH c st x=sx at hx hK
   split at hK<;>first|(simp_all;done)|skip
   ·rename_i k n h1 h2
    simp at h1;subst h1
    obtain ⟨KZ,hK⟩:=dP hK
    obtain ⟨h3,h4,h5⟩:=of_decide_eq_true KZ
    refine ⟨n.toNat,len,by omega,by omega,by simp,?_,by simpa using hK⟩
    have:=W1 k n len .sliceB h3 h4
    simp [Instr.sliceBounds,jT hx,this]
  |some y=>
   obtain ⟨hy,_⟩:=h.eval y
   simp only [kP] at hK
   generalize aH c st x=sx at hx hK
   generalize aH c st y=sy at hy hK
   split at hK<;>first|(simp_all;done)|skip
   ·rename_i k n k' n' h1 h2
    simp at h1 h2;subst h1;subst h2
    obtain ⟨KZ,hK⟩:=dP hK
    obtain ⟨h3,h4,h5⟩:=of_decide_eq_true KZ
    refine ⟨n.toNat,n'.toNat,by omega,by omega,by simp,?_,hK⟩
    have t1:=W1 k' n' cap (if b then .sliceAcap else .sliceAlen) (by omega) (by omega)
    have t2:=W1 k n n'.toNat .sliceB h3 (by omega)
    cases b<;>simp at t1<;>simp [Instr.sliceBounds,jT hx,jT hy,t1,t2]
theorem kR.sub {key:Nat→Nat} {φ:Ph} {ad:Option Addr} {len cap:Nat} {xs:List MV} {l h' size:Nat} (hv:kR key φ [.slice ad len cap] (.list xs)) (hl:l≤h') (hh:h'≤xs.length)
 (hw:l≠0→ ∀x∈xs,x.w=size):len=xs.length∧len≤cap∧kR key φ [.slice (if cap=l then ad else ad.map (·.add (l *size))) (h'-l) (cap-l)] (.list ((xs.take h').drop l)):=by
 generalize xN:[Value.slice ad len cap]=vs at hv
 cases hv with
 |list ad' QD _ bj off Gl f g1 g2 g3 g4 g5=>
 simp at xN
 obtain ⟨rfl,rfl,rfl⟩:=xN
 refine ⟨rfl,g1,?_⟩
 have hlen:((xs.take h').drop l).length=h'-l:=by simp;omega
 have aaa:kR key φ [.slice (if cap=l then ad else ad.map (·.add (l *size))) ((xs.take h').drop l).length (cap-l)] (.list ((xs.take h').drop l)):=by
  have uW: ∀i,i<((xs.take h').drop l).length→i+l<xs.length:=by intro i hi;omega
  have VI: ∀(i:Nat) (hi:i<((xs.take h').drop l).length),((xs.take h').drop l)[i]=xs[i+l]'(uW i hi):=by
   intro i hi
   simp [Nat.add_comm]
  refine .list _ _ _ bj (off+l *Gl) Gl (fun i=>f (i+l)) (by rw [hlen];omega) ?_ ?_ ?_ ?_
  ·intro h0
   have dt:cap≠l:=by omega
   have Tv:0<xs.length:=by omega
   rw [g2 Tv]
   simp only [dt,if_false,Option.map_some,Option.some.injEq]
   by_cases hl0:l=0
   ·subst hl0;simp [Addr.add_mid]
   ·have PL:Gl=size:=by
     have h3:=g5 0 Tv
     rw [←g3 0 Tv,h3.width]
     exact hw hl0 _ (List.getElem_mem Tv)
    rw [PL,Addr.add_mid]
  ·intro i hi;exact g3 _ (uW i hi)
  ·intro i j hi hj
   have:=g4 (i+l) j (uW i hi) hj
   rw [←this]
   congr 1
   rw [Nat.add_mul];omega
  ·intro i hi
   rw [VI i hi]
   exact g5 (i+l) (uW i hi)
 rw [hlen] at aaa
 exact aaa
theorem zw {n:Nat} {l:List MV} (h:mF n l=true): ∀x∈l,x.w=n:=by
 intro x hx
 unfold mF at h
 rw [List.all_eq_true] at h
 exact Nat.eq_of_beq_eq_true (h x hx)
theorem bn.mF {key:Nat→Nat} {φ:Ph} {size:Nat} {xs:List MV}: ∀{cs:List Value},bn key φ size cs xs→ ∀x∈xs,x.w=size:=by
 induction xs with
 |nil=>intro cs _ x hx;simp at hx
 |cons y ys ih=>
  intro cs h x hx
  obtain ⟨v,q,rfl,h1,h2,h3⟩:=h
  rcases List.mem_cons.1 hx with rfl|hx
  ·rw [←h2.width,h1]
  ·exact ih h3 x hx
theorem QH {t:TypeId} {x:Operand} {lo hi:Option Operand} {I:TI} (ho:o.op= .slice t x lo hi none) (hI:c.tv t=some I) (hT:jI P c.ti) (h:bP c Z e st a w)
 (hK:K8 c I st (aH c st x) (kP c st lo) (kP c st hi) (fun s st=>bc c st o.dst s K)=some r):Rd P c Z K r e a w o (fun _=>True):=by
 obtain ⟨hx,oP⟩:=h.eval x
 obtain ⟨oQ,hc⟩:=bK hI
 have hr:=hT t I oQ
 have run: ∀{el E},P.underlying t=some (.slice el)→c.ti el=some E→E.cH=[]→ ∀ad len cap l h',a.eval x= .slice ad len cap→(∀w:World,(Instr.sliceBounds true len cap (lo.map a.eval) (hi.map a.eval) none).run P w= .ok (l,h',cap) w)→
  ∀w:World,(execOp a.eval o).run P w= .ok (.value (.slice (if cap=l then ad else ad.map (·.add (l *E.size))) (h'-l) (cap-l))) w:=by
  intro el E hu hE r7 ad len cap l h' hv hb w
  obtain ⟨iE,Z8,Z9,_⟩:=(hT _ E hE).info r7
  simp [execOp,ho,Instr.sliceAt,Instr.slice,run_underlying hu,hv,hb,Go.sizeOf,typeInfo,Z8,Z9]
 generalize hs:aH c st x=s at hx hK oP
 unfold K8 at hK
 split at hK
 ·rename_i bs
  cases hS:I.PH with
  |false=>simp [hS] at hK
  |true=>
   simp only [hS,cond_true] at hK
   have hu:=TI.Dq hr hS
   obtain ⟨b,hb,rfl⟩:=BL hx
   have qk:b.data.toList.length=b.size:=by rw [Array.length_toList];rfl
   rw [qk] at hK
   obtain ⟨l,h',h1,h2,_,h3,hK⟩:=tI (P:=P) (b:=false) (cap:=b.size) h (Nat.le_refl _) hK
   refine gX (s:= .sc (.p (.s ((b.data.toList.take h').drop l)))) (v:= .string (b.extract l h')) h ?_ ?_ trivial hK
   ·simp [execOp,ho,Instr.sliceAt,Instr.slice,run_underlying hu,hb,h3]
   ·have:=Qx (e:=e) (b.extract l h')
    have h5:(b.extract l h').data.toList=(b.data.toList.take h').drop l:=by
     rw [ByteArray.data_extract,Array.toList_extract,List.extract_eq_take_drop,List.drop_take]
    rwa [h5] at this
 ·rename_i xs
  cases hS:I.wR with
  |false=>simp [hS] at hK
  |true=>
   simp only [hS,cond_true] at hK
   obtain ⟨hu,_⟩:=TI.lB hr hS
   cases hE:c.tv I.elem with
   |none=>simp [hE] at hK
   |some E=>
    simp only [hE] at hK
    obtain ⟨ql,r7⟩:=bK hE
    have tu:(lo≠none→mF E.size xs=true)∧sliceB (kP c st lo) (kP c st hi) xs.length (fun l h'=>bc c st o.dst (.sc (.p (.list ((xs.take h').drop l)))) K)=some r:=by
     cases lo with
     |none=>exact ⟨by simp,hK⟩
     |some y=>simp only [kP] at hK⊢;obtain ⟨h1,h2⟩:=dP hK;exact ⟨fun _=>h1,h2⟩
    obtain ⟨hw,hK⟩:=tu
    obtain ⟨ad,cap,hv,yx⟩:=Dr hx
    obtain ⟨l,h',h1,h2,h0,h3,hK⟩:=tI (P:=P) (b:=true) (cap:=cap) h yx hK
    simp only [ae,aO] at hx
    rw [hv] at hx
    obtain ⟨_,_,fD⟩:=kR.sub (size:=E.size) hx.2 h1 h2 (fun hl=>zw (hw (fun hn=>hl (h0 hn))))
    refine gX (s:= .sc (.p (.list ((xs.take h').drop l)))) h (run hu ql r7 ad _ cap l h' hv h3) ?_ trivial hK
    simp only [ae,aO]
    exact ⟨rfl,fD⟩
 ·rename_i f
  cases hf:aL st.aV f with
  |none=>simp [hf] at hK
  |some fo=>
   simp only [hf] at hK
   cases hS:I.wR&&Nat.beq fo.ty I.elem with
   |false=>simp [hS] at hK
   |true=>
    simp only [hS,cond_true] at hK
    simp only [Bool.and_eq_true] at hS
    obtain ⟨hu,E,ql,r7,_⟩:=TI.lB hr hS.1
    have iR:=Nat.eq_of_beq_eq_true hS.2
    obtain ⟨hvE,ad,cap,hv,yx⟩:=pR h hx hf
    simp only [ae] at hx
    obtain ⟨J,cells,hJ,_,_,mM,_⟩:=(h.gp f fo hf).row
    rw [iR,ql] at hJ
    cases hJ
    have hwx:=mM.mF
    obtain ⟨e',bL,m,zg,T2,Cu,fD,hK,_,hm⟩:=ml h hx hK
    obtain ⟨o2,cm,rfl⟩:=hm.1 f rfl
    rw [hf] at cm
    cases cm
    obtain ⟨l,h',h1,h2,h0,h3,hK⟩:=tI (P:=P) (b:=true) (cap:=cap) h yx hK
    rw [hv] at fD
    obtain ⟨_,_,fD⟩:=kR.sub (size:=E.size) fD h1 h2 (fun _=>hwx)
    refine Lm (s:= .sc (.p (.list ((fo.xs.take h').drop l)))) (fun w _=>run hu ql r7 ad _ cap l h' hv h3 w) zg T2.tr (.of ?_ trivial) hK
    simp only [ae,aO]
    exact ⟨rfl,fD⟩
 ·cases hS:I.wR with
  |false=>simp [hS] at hK
  |true=>
   simp only [hS,cond_true] at hK
   obtain ⟨hu,E,ql,r7,_⟩:=TI.lB hr hS
   simp only [ae] at hx
   have hx:[a.eval x]=[Value.slice none 0 0]:=hx
   simp at hx
   obtain ⟨l,h',h1,h2,_,h3,hK⟩:=tI (P:=P) (b:=true) (cap:=0) h (Nat.le_refl _) hK
   have h4:h'=0:=by omega
   have h5:l=0:=by omega
   subst h4;subst h5
   refine gX (s:= .sc .nil) h (run hu ql r7 none 0 0 0 0 hx h3) ?_ trivial hK
   simp only [ae,if_true]
   rfl
 ·simp at hK
theorem T6 {t:TypeId} {x y z:Operand} {I:TI} (ho:o.op= .slice t x none (some y) (some z)) (hI:c.tv t=some I) (hT:jI P c.ti) (h:bP c Z e st a w)
 (hK:P8 I (aH c st x) (aH c st y) (aH c st z) (fun s=>bc c st o.dst s K)=some r):Rd P c Z K r e a w o (fun _=>True):=by
 obtain ⟨hx,oP⟩:=h.eval x
 obtain ⟨hy,_⟩:=h.eval y
 obtain ⟨hz,_⟩:=h.eval z
 obtain ⟨oQ,hc⟩:=bK hI
 have hr:=hT t I oQ
 generalize aH c st x=s at hx hK oP
 generalize aH c st y=s2 at hy hK
 generalize aH c st z=s3 at hz hK
 unfold P8 at hK
 split at hK
 ·rename_i l n n'
  cases hS:I.wR with
  |false=>simp [hS] at hK
  |true=>
   simp only [hS,cond_true] at hK
   obtain ⟨KZ,tu⟩:=dP hK
   obtain ⟨rfl,rfl⟩:=of_decide_eq_true KZ
   obtain ⟨hu,E,ql,r7,_⟩:=TI.lB hr hS
   obtain ⟨iE,Z8,Z9,_⟩:=(hT _ E ql).info r7
   obtain ⟨ad,cap,hv,yx⟩:=Dr hx
   simp only [ae,aO] at hx
   rw [hv] at hx
   have W1: ∀(m:Nat) (cd:BoundsCode),l.length≤m→ ∀w:World,(Instr.sliceBound (.int .i64 (l.length:Int)) m cd).run P w= .ok l.length w:=by
    intro m cd hm w
    have:(l.length:Int)≤(m:Int):=by omega
    simp [Instr.sliceBound,asIntOf,this]
   have hb: ∀w:World,(Instr.sliceBounds true l.length cap none (some (.int .i64 (l.length:Int))) (some (.int .i64 (l.length:Int)))).run P w= .ok (0,l.length,l.length) w:=by
    intro w
    have b1:=W1 cap .slice3Acap yx
    have b2:=W1 l.length .slice3B (Nat.le_refl _)
    simp [Instr.sliceBounds,b1,b2]
   have fD:kR e.key e.φ [.slice ad l.length l.length] (.list l):=by
    have h2:=hx.2
    generalize xN:[Value.slice ad l.length cap]=vs at h2
    cases h2 with
    |list ad' QD _ bj off Gl f g1 g2 g3 g4 g5=>
    simp at xN
    obtain ⟨rfl,_⟩:=xN
    exact .list _ _ _ bj off Gl f (Nat.le_refl _) g2 g3 g4 g5
   refine gX (s:= .sc (.p (.clip l))) (v:= .slice ad l.length l.length) h (fun w=> ?_) ?_ trivial tu
   ·simp [execOp,ho,Instr.sliceAt,Instr.slice,run_underlying hu,hv,jT hy,jT hz,hb,Go.sizeOf,typeInfo,Z8,Z9]
    intro dt
    cases ad with
    |none=>rfl
    |some b=>simp [Addr.add]
   ·simp only [ae,aO]
    exact ⟨rfl,.clip _ _ fD⟩
 ·simp at hK
end
end Dn
/-
  Stores. Conditions: none.
-/
set_option linter.unusedSimpArgs false
set_option linter.unusedVariables false
namespace Dn
open Go
section
variable {P:Program} {c:Ctx} {Z:bB} {e e':Env} {st:St} {a:Act} {w w':World} {R:Type} {K:St→Option R} {r:R} {Q:Exit→Act→World→Prop} {o:Oper}
theorem Dt (x:jq) (i:Nat) (b:UInt8) (hi:i<32):bq (x.put i b)=(bq x).take i++[.int .u8 (b.toNat:Int)]++(bq x).drop (i+1):=by
 have:bq (x.put i b)=(bq x).set i (.int .u8 (b.toNat:Int)):=by simp [bq,jq.put,List.map_set]
 have hl:=cJ x
 rw [this,List.set_eq_take_append_cons_drop,if_pos (by omega)]
 simp
structure QI (e e':Env):Prop where
 key:e'.key=e.key
 φ:pL e.φ e'.φ
 gp: ∀f o',aL e'.m f=some o'→(∃o,aL e.m f=some o)∧e'.E f=e.E f
theorem aO.QJ (h:QI e e') {vs:List Value} {l:aE} (hr:aO e vs l):aO e' vs l:=by
 cases l with
 |p m=>exact ⟨hr.1,by have:=hr.2.mono h.φ;rw [←h.key] at this;exact this⟩
 |own f=>
  obtain ⟨v,rfl,hv,hf⟩:=hr
  refine ⟨v,rfl,hv,fun o' FD=> ?_⟩
  obtain ⟨⟨o,ho⟩,hE⟩:=h.gp f o' FD
  rw [hE];exact hf o ho
 |_=>exact hr
theorem ax.QJ (h:QI e e') {cs:List aE}: ∀{vs:List Value},ax e vs cs→ax e' vs cs:=by
 induction cs with
 |nil=>intro vs hr;exact hr
 |cons l r ih=>intro vs hr;obtain ⟨v,w,rfl,h1,h2⟩:=hr;exact ⟨v,w,rfl,h1.QJ h,ih h2⟩
def M8 (f:Nat) (s:Slot):Slot:=match s with
 | .ep g i o b cs=>bif Nat.beq g f then .sc .un else .ep g i o b cs
 |s=>s
theorem sM (f:Nat) (r:Fr) (t:Nat):ap (vv f r) t=M8 f (ap r t):=Db (M8 f) rfl r t
theorem Om (f:Nat) (s:Slot):cB (M8 f s)=cB s:=by
 cases s<;>simp only [M8]
 rename_i g _ _ _ _
 cases Nat.beq g f<;>rfl
theorem ae.QJ {f:Nat} {T:Nat→Prop} (h:QI e e') (tq:lG (· ≠f) T e e') {v:Value} {s:Slot} (hT:fc (fun _=>True) T s) (hr:ae e v s):ae e' v (M8 f s):=by
 cases s with
 |sc l=>
  simp only [M8]
  cases l with
  |un=>simp [ae]
  |hs x=>simpa [ae] using hr
  |p m=>simp only [ae] at hr⊢;exact hr.QJ h
  |nil=>simp only [ae] at hr⊢;exact hr.QJ h
  |mp s es=>simp only [ae] at hr⊢;exact hr
  |own f=>simp only [ae] at hr⊢;exact hr.QJ h
 |ag cs=>simp only [M8,ae] at hr⊢;obtain ⟨arr,h1,h2⟩:=hr;exact ⟨arr,h1,h2.QJ h⟩
 |ep g i o b cs=>
  simp only [M8]
  cases hb:Nat.beq g f
  ·simp only [cond_false]
   refine hr.on tq ?_
   simp only [fc];intro e;subst e;simp [dD] at hb
  ·simp [ae]
 |_=>exact hr.on tq hT
theorem jc.QJ (h:QI e e') (hk:e'.key=e.key) (hp:pL e.φ e'.φ) {o:Obj} {cs:List aE} (hr:jc e o cs):jc e' o cs:=by
 cases o with
 |cells arr T z=>exact ⟨hr.1,hr.2.QJ h⟩
 |map es clock=>exact hr
 |stringIter x pos=>exact hr
 |_=>exact hr.elim
theorem bn.set {key:Nat→Nat} {φ:Ph} {size:Nat} {xs:List MV}: ∀{cs:List Value} {i:Nat} {x:MV} {v':List Value},bn key φ size cs xs→i<xs.length→v'.length=size→kR key φ v' x→
 bn key φ size (cs.take (i *size)++v'++cs.drop (i *size+size)) (xs.set i x):=by
 induction xs with
 |nil=>intro cs i x v' _ hi;simp at hi
 |cons y ys ih=>
  intro cs i x v' h hi hl hr
  obtain ⟨v,q,rfl,h1,h2,h3⟩:=h
  cases i with
  |zero=>simp only [Nat.zero_mul,List.take_zero,List.nil_append,Nat.zero_add,List.set_cons_zero];exact ⟨v',q,by rw [List.drop_left' h1],hl,hr,h3⟩
  |succ i=>
   have:=ih h3 (by simpa using hi) hl hr
   rw [List.set_cons_succ]
   refine ⟨v,_,?_,h1,h2,this⟩
   rw [Nat.succ_mul,List.take_append,List.drop_append,List.take_of_length_le (by omega),List.drop_of_length_le (by omega)]
   rw [show i *size+size-v.length=i *size by omega,show i *size+size+size-v.length=i *size+size by omega]
   simp
theorem bP.W3 {f:Nat} {fo:mG} {I:TI} {g i:Nat} {cap:Nat} {eZ:Array Value} {v' cells:List Value} {x:MV} (h:bP c Z e st a w) (hf:aL st.aV f=some fo) (hz:fo.dO=false)
 (hI:c.ti fo.ty=some I) (TY:I.cH=[]) (hE:e.E f= .slice (some ⟨g,0,none⟩) fo.xs.length cap) (eB:w.ownsRow 0 fo.ty I.size (e.E f) fo.xs.length cells) (hg:w.heap[g]? =some (.cells eZ fo.ty (0,0)))
 (mM:bn e.key e.φ I.size cells fo.xs)
 (hi:i<fo.xs.length) (hl:v'.length=I.size) (hr:kR e.key e.φ v' x) (yw:f∉Z.cn):
 bP c Z {e with m:=bR e.m f ⟨fo.ty,false,fo.xs.set i x⟩} {st with fr:=vv f st.fr,aV:=bR st.aV f ⟨fo.ty,false,fo.xs.set i x⟩} a
  (w.setRow g (eZ.toList.take (i *I.size)++v'++eZ.toList.drop (i *I.size+I.size)).toArray)∧Z g:=by
 have hb:(e.E f).ownBlock=some g:=by rw [hE];rfl
 have hZ:Z g∧ ∀off,e.φ g off=none:=by
  obtain ⟨J,tG,_,_,_,_,h5⟩:=(h.gp f fo hf).row
  obtain ⟨h6,h7⟩:=h5 g hb
  refine ⟨IL h6 yw,fun off=> ?_⟩
  cases hp:e.φ g off with
  |none=>rfl
  |some u=>have:=(h7.1 off u hp).1;rw [hz] at this;cases this
 have qk:=setRow_size w g (eZ.toList.take (i *I.size)++v'++eZ.toList.drop (i *I.size+I.size)).toArray
 have hE1:QI e {e with m:=bR e.m f ⟨fo.ty,false,fo.xs.set i x⟩}:=by
  refine ⟨rfl,.refl _,fun f2 o2 cm=>⟨?_,rfl⟩⟩
  have cm:aL (bR e.m f ⟨fo.ty,false,fo.xs.set i x⟩) f2=some o2:=cm
  rw [bg] at cm
  by_cases eN:f2=f
  ·exact ⟨fo,by rw [eN,h.m];exact hf⟩
  ·simp only [eN,if_false] at cm;exact ⟨o2,cm⟩
 have tq:lG (· ≠f) (fun _=>True) e {e with m:=bR e.m f ⟨fo.ty,false,fo.xs.set i x⟩}:=by
  refine ⟨rfl,.refl _,fun _ _=>rfl,fun f2 o2 cm dt=> ?_⟩
  have cm:aL (bR e.m f ⟨fo.ty,false,fo.xs.set i x⟩) f2=some o2:=cm
  rw [bg] at cm
  simp only [dt,if_false] at cm;exact ⟨o2,cm,rfl,rfl⟩
 have uW: ∀f2 o2,aL (bR st.aV f ⟨fo.ty,false,fo.xs.set i x⟩) f2=some o2→ ∃o3,aL st.aV f2=some o3:=by
  intro f2 o2 cm
  rw [bg] at cm
  by_cases eN:f2=f
  ·exact ⟨fo,by rw [eN];exact hf⟩
  ·simp only [eN,if_false] at cm;exact ⟨o2,cm⟩
 refine ⟨⟨h.defers,h.size,by show bR e.m f _=bR st.aV f _;rw [h.m],h.key,?_,?_,?_,?_,?_,?_,?_,?_,fun b hb=>h.cc b (by omega)⟩,hZ.1⟩
 ·show (aM (vv f st.fr)).Nodup
  have:aM (vv f st.fr)=aM st.fr:=by simp [aM,vv]
  rw [this];exact h.nodup
 ·intro t
  show bX Z _ _ t _ (ap (vv f st.fr) t)
  rw [sM]
  have hs:=h.slot t
  have TZ:=h.bf t
  generalize ap st.fr t=s at hs TZ
  by_cases Du: ∃cs,s= .box cs
  ·obtain ⟨cs,rfl⟩:=Du
   simp only [bX,M8] at hs⊢
   refine ⟨hs.1,hs.2.cc,?_,hs.2.free⟩
   obtain ⟨o2,h1,h2⟩:=hs.2.obj
   refine ⟨o2,?_,h2.QJ hE1 rfl (.refl _)⟩
   rw [setRow_other _ _ _ _ (by intro eb;exact TZ cs f fo rfl hf (by rw [hb,←eb]))];exact h1
  ·have zg:ae e (a.tmps.getD t undef) s:=by cases s<;>simp only [bX] at hs<;>first|exact hs|exact absurd ⟨_,rfl⟩ Du
   have h2:=zg.QJ (f:=f) hE1 tq (dM s)
   generalize K0:M8 f s=s2 at h2
   cases s2<;>first|exact h2|(exfalso;simp [ae] at h2)
 ·intro t
  show cg (vv f st.fr) (ap (vv f st.fr) t)
  rw [sM]
  have oP:=h.root t
  generalize ap st.fr t=s at oP
  have hk: ∀q,cB (ap (vv f st.fr) q)=cB (ap st.fr q):=fun q=>by rw [sM,Om]
  cases s with
  |ptr q o=>show cB (ap (vv f st.fr) q)=true;rw [hk];exact oP
  |hp q o i=>show cB (ap (vv f st.fr) q)=true;rw [hk];exact oP
  |vp q=>show cB (ap (vv f st.fr) q)=true;rw [hk];exact oP
  |ep g' _ _ _ _=>simp only [M8];cases Nat.beq g' f<;>trivial
  |_=>trivial
 ·intro f2 o2 cm
  have cm:aL (bR st.aV f ⟨fo.ty,false,fo.xs.set i x⟩) f2=some o2:=cm
  rw [bg] at cm
  by_cases eN:f2=f
  ·subst eN
   simp at cm
   subst cm
   obtain ⟨hlen,Ds⟩:=eB
   refine ⟨I,cells.take (i *I.size)++v'++cells.drop (i *I.size+I.size),hI,TY,⟨?_,?_⟩,?_,?_⟩
   ·have hle:i *I.size+I.size≤fo.xs.length *I.size:=by rw [←Nat.succ_mul];exact Nat.mul_le_mul_right _ hi
    simp only [List.length_append,List.length_take,List.length_drop,List.length_set];omega
   ·have hle:i *I.size+I.size≤fo.xs.length *I.size:=by rw [←Nat.succ_mul];exact Nat.mul_le_mul_right _ hi
    rcases Ds with ⟨h1,_⟩|⟨g2,zx,Jo,h1,_,h3,h4,h5,h6,h7⟩
    ·rw [hE] at h1;simp at h1
    ·rw [hE] at h1
     simp at h1
     obtain ⟨rfl,rfl⟩:=h1
     rw [hg] at h3
     simp at h3
     subst h3
     refine .inr ⟨g,cap,(eZ.toList.take (i *I.size)++v'++eZ.toList.drop (i *I.size+I.size)).toArray,by rw [hE];simp,by omega,setRow_heap _ _ _ _ _ _ hg,by simpa using h4,h5,?_,?_⟩
     ·have pS:eZ.toList.length=eZ.size:=by simp
      have hcz:fo.xs.length *I.size≤cap *I.size:=Nat.mul_le_mul_right _ h4
      simp only [List.size_toArray,List.length_append,List.length_take,List.length_drop,pS];omega
     ·have pS:eZ.toList.length=eZ.size:=by simp
      have hcz:fo.xs.length *I.size≤cap *I.size:=Nat.mul_le_mul_right _ h4
      simp only [List.length_set]
      rw [←h7]
      have e1:(eZ.toList.take (fo.xs.length *I.size)).take (i *I.size)=eZ.toList.take (i *I.size):=by rw [List.take_take,Nat.min_eq_left (by omega)]
      have e2:(eZ.toList.take (fo.xs.length *I.size)).drop (i *I.size+I.size)=(eZ.toList.drop (i *I.size+I.size)).take (fo.xs.length *I.size-(i *I.size+I.size)):=by rw [List.drop_take]
      rw [e1,e2]
      have e3:(eZ.toList.take (i *I.size)++v').length=i *I.size+I.size:=by simp only [List.length_append,List.length_take,pS];omega
      show List.take _ (eZ.toList.take (i *I.size)++v'++eZ.toList.drop (i *I.size+I.size))=_
      rw [List.take_append,e3,List.take_of_length_le (by omega)]
   ·exact mM.set hi hl hr
   ·intro bj jJ
    rw [hb] at jJ
    cases jJ
    exact ⟨.inr hZ.1,fun off u hu=>(by have hu:e.φ g off=some u:=hu;rw [hZ.2] at hu;cases hu),fun _ hf=>Bool.noConfusion hf⟩
  ·simp only [eN,if_false] at cm
   obtain ⟨I2,tG,h1,h2,h3,h4,h5⟩:=(h.gp f2 o2 cm).row
   exact ⟨I2,tG,h1,h2,Lr (fun hk=>eN (h.ff f2 f o2 fo g cm hf hk hb)) h3,h4,h5⟩
 ·intro t t' c1 c2 h1 h2 dt
  have h1:ap (vv f st.fr) t= .box c1:=h1
  have h2:ap (vv f st.fr) t'= .box c2:=h2
  rw [sM] at h1 h2
  have g1:ap st.fr t= .box c1:=by
   generalize ap st.fr t=s at h1
   cases s<;>simp only [M8] at h1<;>first|exact h1|(simp at h1;done)|(rename_i g' _ _ _ _;cases xL:Nat.beq g' f<;>simp [xL] at h1)
  have g2:ap st.fr t'= .box c2:=by
   generalize ap st.fr t'=s at h2
   cases s<;>simp only [M8] at h2<;>first|exact h2|(simp at h2;done)|(rename_i g' _ _ _ _;cases xL:Nat.beq g' f<;>simp [xL] at h2)
  exact h.bb t t' c1 c2 g1 g2 dt
 ·intro t c1 f2 o2 h1 h2
  have h1:ap (vv f st.fr) t= .box c1:=h1
  rw [sM] at h1
  have g1:ap st.fr t= .box c1:=by
   generalize ap st.fr t=s at h1
   cases s<;>simp only [M8] at h1<;>first|exact h1|(simp at h1;done)|(rename_i g' _ _ _ _;cases xL:Nat.beq g' f<;>simp [xL] at h1)
  obtain ⟨o3,Lq⟩:=uW f2 o2 h2
  exact h.bf t c1 f2 o3 g1 Lq
 ·intro f1 f2 o1 o2 k h1 h2 h3 h4
  obtain ⟨q1,g1⟩:=uW f1 o1 h1
  obtain ⟨q2,g2⟩:=uW f2 o2 h2
  exact h.ff f1 f2 q1 q2 k g1 g2 h3 h4
 ·intro b off v hv
  have hv:e.φ b off=some v:=hv
  have dt:b≠g:=by intro eb;subst eb;rw [hZ.2] at hv;cases hv
  rw [World.cell?_of_block (setRow_other _ _ _ _ dt)];exact h.nE b off v hv
theorem ax.aes {cs:List aE}: ∀{vs:List Value} {ms:List MV},ax e vs cs→bG cs=some ms→gq e.key e.φ vs ms:=by
 induction cs with
 |nil=>intro vs ms h hm;cases h;simp [bG] at hm;subst hm;exact .nil
 |cons l r ih=>
  intro vs ms h hm
  obtain ⟨v,u,rfl,h1,h2⟩:=h
  cases hr:bG r with
  |none=>cases l<;>simp [bG,hr] at hm
  |some q=>
   cases l<;>simp [bG,hr] at hm
   ·subst hm;exact .cons v _ u q h1.2 (ih h2 hr)
   ·subst hm
    have h1:v=bq _:=h1
    subst h1
    exact .cons _ _ u q (.h _) (ih h2 hr)
theorem QK {b:Bool} {ms:List MV} {x:MV} {vs:List Value} (h:gq e.key e.φ vs ms) (hx:rZ b ms=some x):kR e.key e.φ vs x:=by
 cases b with
 |true=>cases ms<;>simp [rZ] at hx<;>subst hx<;>exact .agg _ _ h
 |false=>
  cases ms with
  |nil=>simp [rZ] at hx
  |cons m ms=>
   cases ms with
   |cons y ys=>simp [rZ] at hx
   |nil=>
    simp [rZ] at hx
    subst hx
    generalize xN:vs=KW at h
    cases h with
    |cons v _ u _ h1 h2=>cases h2;simpa using h1
theorem QL {t:TypeId} {x y:Operand} {I:TI} (ho:o.op= .store t x y) (hI:c.tv t=some I) (hT:jI P c.ti) (h:bP c Z e st a w)
 (hK:stK st I (aH c st x) (aH c st y) (fun st=>bc c st o.dst (.sc .un) K)=some r):o.wp P a w (Out c Z K r e.φ w) Q:=by
 obtain ⟨hx,oP⟩:=h.eval x
 obtain ⟨hy,_⟩:=h.eval y
 obtain ⟨oQ,hc⟩:=bK hI
 have hr:=hT t I oQ
 have go: ∀w' bL,(Instr.storeAt t (a.eval x) (a.eval y)).run P w= .ok () w'→bP c Z e bL a w'→Trans Z e.φ w e.φ w'→bc c bL o.dst (.sc .un) K=some r→o.wp P a w (Out c Z K r e.φ w) Q:=by
  intro w' bL h1 h2 h3 h4
  refine zu ?_ h2 h3 h4
  simp [execOp,ho,h1]
 generalize aH c st x=sx at hx hK oP
 generalize aH c st y=sy at hy hK
 unfold stK at hK
 cases hb:sJ (aK sy)||!Nat.beq (vq (aK sy)) I.size with
 |true=>simp [hb] at hK
 |false=>
  simp only [hb,cond_false] at hK
  simp only [Bool.or_eq_false_iff,Bool.not_eq_false'] at hb
  have Dl:=Nat.eq_of_beq_eq_true hb.2
  have jx:0<I.size:=by
   rcases hr.agg hc with ⟨d,hu,hd,hh⟩|⟨_,_,_,_,hh⟩
   ·obtain ⟨d',i',h1,h2,h3,h4⟩:=hr
    cases d'<;>simp only [qB] at h4<;>first|omega|exact h4.2.2.1|exact absurd hc h4.2.1
   ·omega
  have dt:aK sy≠[]:=by intro e0;rw [e0] at Dl;simp [vq] at Dl;omega
  have hcv:=xO hy hb.1 dt
  split at hK
  ·rename_i root off
   simp only [ae] at hx
   split at hK
   ·rename_i cs xx
    have sG:fa cs=false:=by cases hq:fa cs<;>simp_all
    simp only [sG,cond_false] at hK
    cases hp:putAt cs off (aK sy) with
    |none=>simp [hp] at hK
    |some ir=>
     simp only [hp] at hK
     obtain ⟨w',bL,h1,h2,h3,h4⟩:=Oj (P:=P) sG hr hc h xx hcv Dl hp hK
     exact go w' bL (by rw [hx];exact h1) h2 h3 h4
   ·simp at hK
  ·rename_i root off i
   simp only [ae] at hx
   obtain ⟨hx,Lp⟩:=hx
   split at hK
   ·rename_i cs n xx
    have sG:fa cs=false:=by cases hq:fa cs<;>simp_all
    simp only [sG,cond_false] at hK
    split at hK
    ·rename_i x ls WU
     unfold gI at hK
     split at hK
     ·rename_i k n
      by_cases hk:k= .u8
      ·subst hk
       simp only [decide_true,cond_true] at hK
       obtain ⟨zy,hK⟩:=dP hK
       unfold isByte at zy
       have zy:=of_decide_eq_true zy
       have hyv:=jT hy
       cases hp:putAt cs off [.hs (x.put i (UInt8.ofNat n.toNat))] with
       |none=>simp [hp] at hK
       |some ir=>
        simp only [hp] at hK
        have kT:=h.slot root
        rw [xx] at kT
        obtain ⟨arr,T,dQ,pP⟩:=kT.2.cells sG
        obtain ⟨p1,p2,p3,he,h1,h2,h3⟩:=tE (ws:=bq (x.put i (UInt8.ofNat n.toNat))) hp pP ⟨_,[],by simp,rfl,rfl⟩
        obtain ⟨u1,u2,hu,h4,h5⟩:=vA WU pP
        obtain ⟨u3,u4,rfl,h6,_⟩:=h5
        have h6:u3=bq x:=h6
        subst h6
        have hlx:=cJ x
        have hly:=cJ (x.put i (UInt8.ofNat n.toNat))
        have hpu:p1=u1∧p2++p3=bq x++u4:=List.append_inj (by rw [←List.append_assoc,←he,hu]) (by omega)
        obtain ⟨rfl,hpu⟩:=hpu
        obtain ⟨rfl,rfl⟩:=List.append_inj hpu (by omega)
        have qk:arr.size=p1.length+32+p3.length:=by
         have:arr.toList.length=(p1++bq x++p3).length:=by rw [he]
         simp at this
         omega
        have HJ:(a.eval y).cells.toList=[.int .u8 n]:=by rw [hyv];simp [Value.cells]
        have Lo:I.size=1:=by rw [←Dl];rfl
        have bW:=pj (P:=P) (w:=w) (bj:=e.B root) (off:=off+i) (v:=a.eval y) hr hc (by rw [HJ,Lo];rfl) (by rw [HJ];simp [Value.oneCell']) dQ (by omega)
        have sL:arr.toList.take (off+i)++(a.eval y).cells.toList++arr.toList.drop (off+i+I.size)=p1++bq (x.put i (UInt8.ofNat n.toNat))++p3:=by
         rw [HJ,Lo,he,Dt x i _ Lp,←zy,List.append_assoc p1,List.take_append,List.drop_append,List.take_append,List.drop_append]
         rw [List.take_of_length_le (by omega),List.drop_of_length_le (by omega)]
         rw [show off+i-p1.length=i by omega,show off+i+1-p1.length=i+1 by omega,show i-(bq x).length=0 by omega,show i+1-(bq x).length=0 by omega]
         simp
        rw [sL] at bW
        unfold wr at hK
        cases hn:bp st.b9 root with
        |true=>simp [hn] at hK
        |false=>
         simp only [hn,cond_false,force_eq,lO] at hK
         exact go _ _ (by rw [hx];exact bW) (h.QC xx dQ (by simpa using h3) (fun t=>by rw [bO]) (eu h.nodup)) (.setRow _ (IL kT.2.cc (by rw [←h.defers.2.1,←bH,hn];simp))) hK
      ·simp [hk] at hK
     ·simp at hK
    ·simp at hK
   ·simp at hK
  ·rename_i f i off b cs
   obtain ⟨e1,ca,ms,vn,Dp,A5,Gq,hK,WX,xP⟩:=lH h hcv hK
   have hx:=hx.on Dp.on (dM _)
   cases hf:aL ca.aV f with
   |none=>simp [hf] at hK
   |some fo=>
    simp only [hf] at hK
    cases hz:fo.dO with
    |true=>simp [hz] at hK
    |false=>
     simp only [hz,cond_false] at hK
     cases M3:pi (aK sy) ms with
     |none=>simp [M3] at hK
     |some vs=>
      simp only [M3] at hK
      obtain ⟨xN,_⟩:=xP vs M3
      cases hp:putAt cs off vs with
      |none=>simp [hp] at hK
      |some ir=>
       simp only [hp] at hK
       cases hm:bG ir with
       |none=>simp [hm] at hK
       |some ms'=>
        simp only [hm] at hK
        cases W4:rZ b ms' with
        |none=>simp [W4] at hK
        |some x'=>
         simp only [W4] at hK
         cases hn:bp ca.cn f with
         |true=>simp [hn] at hK
         |false=>
          simp only [hn,cond_false,WL,mK] at hK
          simp only [ae] at hx
          obtain ⟨bj,cap,hE,⟨x0,Tv,VI⟩,QM⟩:=hx fo (by rw [vn.m];exact hf)
          obtain ⟨J,cells,hJ,VJ,eB,mM,_⟩:=(vn.gp f fo hf).row
          have hi:i<fo.xs.length:=(List.getElem?_eq_some_iff.1 Tv).1
          obtain ⟨p1,v1,p2,hce,KX,yt,fD⟩:=mM.at Tv
          have pP:=fD.Di VI
          have hw1:=pP.width
          obtain ⟨q1,q2,q3,Jk,hq1,hq2,sL⟩:=tE hp pP xN
          have aab:(a.eval y).cells.toList.length=I.size:=by rw [hcv.width,Dl]
          have aac:=QK (sL.aes hm) W4
          obtain ⟨hlen,Ds⟩:=eB
          rcases Ds with ⟨g1,_⟩|⟨g2,zx,eZ,g1,g0,g3,g4,g5,g6,g7⟩
          ·rw [hE] at g1;simp at g1
          ·have Gu:w.ownsRow 0 fo.ty J.size (e1.E f) fo.xs.length cells:=⟨hlen,.inr ⟨g2,zx,eZ,g1,g0,g3,g4,g5,g6,g7⟩⟩
           rw [hE] at g1
           simp at g1
           obtain ⟨rfl,rfl⟩:=g1
           have hvl:(q1++(a.eval y).cells.toList++q3).length=J.size:=by
            have:v1.length=(q1++q2++q3).length:=by rw [Jk]
            simp only [List.length_append] at this⊢;omega
           obtain ⟨pT,hZ⟩:=vn.W3 hf hz hJ VJ hE Gu g3 mM hi hvl aac (by rw [←vn.defers.2.2.1,←bH,hn];simp)
           have QN:eZ.toList=p1++q1++q2++(q3++p2++eZ.toList.drop (fo.xs.length *J.size)):=by
            have:=List.take_append_drop (fo.xs.length *J.size) eZ.toList
            rw [g7,hce,Jk] at this
            refine this.symm.trans ?_
            simp
           have aj6:q2.length=I.size:=by rw [hq2,aab]
           have Dm:(p1++q1).length=i *J.size+off:=by simp [KX,hq1]
           have aj7:eZ.size=(p1++q1).length+I.size+(q3++p2++eZ.toList.drop (fo.xs.length *J.size)).length:=by
            have:eZ.toList.length=(p1++q1++q2++(q3++p2++eZ.toList.drop (fo.xs.length *J.size))).length:=by rw [←QN]
            rw [List.length_append,List.length_append] at this
            rw [Array.length_toList] at this
            omega
           have bW:=pj (P:=P) (w:=w) (bj:=bj) (off:=i *J.size+off) (v:=a.eval y) hr hc aab hcv.cells g3 (by omega)
           have uI:eZ.toList.take (i *J.size+off)++(a.eval y).cells.toList++eZ.toList.drop (i *J.size+off+I.size)=
            eZ.toList.take (i *J.size)++(q1++(a.eval y).cells.toList++q3)++eZ.toList.drop (i *J.size+J.size):=by
            have t1:eZ.toList.take (i *J.size+off)=p1++q1:=by
             conv=>lhs;rw [QN,List.append_assoc (p1++q1)]
             exact List.take_left' Dm
            have t2:eZ.toList.drop (i *J.size+off+I.size)=q3++p2++eZ.toList.drop (fo.xs.length *J.size):=by
             conv=>lhs;rw [QN]
             exact List.drop_left' (by rw [List.length_append];omega)
            have t3:eZ.toList.take (i *J.size)=p1:=by
             conv=>lhs;rw [QN]
             simp only [List.append_assoc]
             exact List.take_left' KX
            have t4:eZ.toList.drop (i *J.size+J.size)=p2++eZ.toList.drop (fo.xs.length *J.size):=by
             have aad:eZ.toList=(p1++(q1++q2++q3))++(p2++eZ.toList.drop (fo.xs.length *J.size)):=by
              conv=>lhs;rw [QN]
              simp
             conv=>lhs;rw [aad]
             exact List.drop_left' (by rw [List.length_append,←Jk];omega)
            rw [t1,t2,t3,t4]
            simp
           rw [uI] at bW
           have aev:i *vq cs+off=i *J.size+off:=by rw [←hw1,yt]
           refine zu (w':=w.setRow bj (eZ.toList.take (i *J.size)++(q1++(a.eval y).cells.toList++q3)++eZ.toList.drop (i *J.size+J.size)).toArray) ?_ pT ?_ hK
           ·rw [aev] at QM
            simp [execOp,ho,QM,bW]
           ·exact Dp.tr.trans (.setRow _ hZ)
  ·simp at hK
end
end Dn
/-
  Structs and sums that are put together. Conditions: none.
-/
set_option linter.unusedSimpArgs false
set_option linter.unusedVariables false
namespace Dn
open Go
section
variable {P:Program} {c:Ctx} {Z:bB} {e e':Env} {st:St} {a:Act} {w w':World} {R:Type} {K:St→Option R} {r:R} {Q:Exit→Act→World→Prop} {o:Oper}
theorem Gv {place:Nat→Option (Nat×Nat)} {cells:Array Value} {i off:Nat} {v:Value} {rest:List (Nat×Value)} (hp:place i=some (off,v.cells.size)) (hle:off+v.cells.size≤cells.size):
 Instr.fill place cells ((i,v)::rest)=Instr.fill place (cells.toList.take off++v.cells.toList++cells.toList.drop (off+v.cells.size)).toArray rest:=by
 conv=>lhs;unfold Instr.fill
 simp only [hp]
 rw [if_neg (by simp;omega)]
 congr 1
 rw [←Array.foldl_toList,Array.toList_zipIdx]
 obtain ⟨h1,h2⟩:=Go.Great.foldl_set off v.cells.toList 0 cells
 apply Array.ext_getElem?
 intro k
 have hl:(cells.toList.take off).length=off:=by simp;omega
 have e0:=h2 k
 simp only [Nat.add_zero,Array.length_toList] at e0
 refine Eq.trans e0 ?_
 have e1:(cells.toList.take off++v.cells.toList++cells.toList.drop (off+v.cells.size)).toArray[k]? =(cells.toList.take off++v.cells.toList++cells.toList.drop (off+v.cells.size))[k]? :=by simp
 rw [e1,List.append_assoc]
 have e2:cells[k]? =cells.toList[k]? :=by simp
 by_cases h3:k<off
 ·rw [if_neg (by omega),List.getElem?_append_left (by omega),List.getElem?_take,if_pos h3,e2]
 ·rw [List.getElem?_append_right (by omega),hl]
  by_cases h4:k<off+v.cells.size
  ·rw [if_pos ⟨by omega,h4,by omega⟩,List.getElem?_append_left (by simp;omega)]
  ·rw [if_neg (by omega),List.getElem?_append_right (by simp;omega),List.getElem?_drop,e2]
   congr 1
   simp;omega
theorem Lu {I:TI} {places:List (Nat×Nat)} (h:bP c Z e st a w) (M3: ∀(i q y:Nat) (J:TI),I.IZ[i]? =some q→I.N0[i]? =some y→c.tv y=some J→places[i]? =some (q,J.size)∧0<J.size) {parts:List (Nat×Operand)}:
 ∀{cs ds:List aE} {cells:Array Value},ax e cells.toList cs→yn c st I parts cs=some ds→
 ∃out,Instr.fill (places.toArray[·]?) cells (parts.map fun p=>(p.1,a.eval p.2))=some out∧ax e out.toList ds:=by
 induction parts with
 |nil=>intro cs ds cells hl hb;simp [yn] at hb;subst hb;exact ⟨cells,rfl,hl⟩
 |cons p ps ih=>
  intro cs ds cells hl hb
  obtain ⟨i,x⟩:=p
  simp only [yn] at hb
  split at hb
  ·rename_i q y hq hy
   cases hJ:c.tv y with
   |none=>simp [hJ] at hb
   |some J=>
    simp only [hJ] at hb
    obtain ⟨hpi,jx⟩:=M3 i q y J hq hy hJ
    cases hu:sJ (aK (aH c st x))||!Nat.beq (vq (aK (aH c st x))) J.size with
    |true=>simp [hu] at hb
    |false=>
     simp only [hu,cond_false] at hb
     simp only [Bool.or_eq_false_iff,Bool.not_eq_false'] at hu
     have Dl:=Nat.eq_of_beq_eq_true hu.2
     cases hp:putAt cs q (aK (aH c st x)) with
     |none=>simp [hp] at hb
     |some ir=>
      simp only [hp] at hb
      have dt:aK (aH c st x)≠[]:=by intro e0;rw [e0] at Dl;simp [vq] at Dl;omega
      have hv:=xO (h.eval x).1 hu.1 dt
      obtain ⟨p1,p2,p3,he,h1,h2,h3⟩:=tE hp hl hv
      have hlen:(a.eval x).cells.size=J.size:=by rw [←Dl,←hv.width];simp
      have qk:cells.size=p1.length+p2.length+p3.length:=by
       have:cells.toList.length=(p1++p2++p3).length:=by rw [he]
       simp at this;omega
      have Jm:p2.length=(a.eval x).cells.size:=by rw [h2];simp
      have uJ:=Gv (place:=(places.toArray[·]?)) (cells:=cells) (i:=i) (off:=q) (v:=a.eval x) (rest:=ps.map fun p=>(p.1,a.eval p.2)) (by rw [hlen];simpa using hpi) (by omega)
      have ht:cells.toList.take q++(a.eval x).cells.toList++cells.toList.drop (q+(a.eval x).cells.size)=p1++(a.eval x).cells.toList++p3:=by
       rw [he]
       rw [List.append_assoc p1 p2 p3,List.take_left' h1,←List.append_assoc p1 p2 p3,List.drop_left' (by rw [List.length_append];omega)]
      rw [ht] at uJ
      obtain ⟨out,h4,h5⟩:=ih (cells:=(p1++(a.eval x).cells.toList++p3).toArray) (by simpa using h3) hb
      exact ⟨out,by rw [List.map_cons,uJ];exact h4,h5⟩
  ·simp at hb
theorem Lv {parts:List (Nat×Operand)} (h:bP c Z e st a w): ∀{x:jq} {K':jq→Option R},C2 c st parts x K'=some r→
 ∃y,Instr.fill (fun i=>some (i *1,1)) (bq x).toArray (parts.map fun p=>(p.1,a.eval p.2))=some (bq y).toArray∧K' y=some r:=by
 induction parts with
 |nil=>intro x K' hb;exact ⟨x,rfl,hb⟩
 |cons p ps ih=>
  intro x K' hb
  obtain ⟨i,y⟩:=p
  simp only [C2] at hb
  split at hb
  ·rename_i m hm
   cases hi:Nat.ble 32 i with
   |true=>simp [hi] at hb
   |false=>
    simp only [hi,cond_false] at hb
    have Lp:i<32:=by
     by_cases du:i<32
     ·exact du
     ·have:Nat.ble 32 i=true:=Nat.ble_eq_true_of_le (by omega)
      simp_all
    unfold gI at hb
    split at hb
    ·rename_i k n
     by_cases hk:k= .u8
     ·subst hk
      simp only [decide_true,cond_true] at hb
      obtain ⟨zy,hb⟩:=dP hb
      unfold isByte at zy
      have zy:=of_decide_eq_true zy
      obtain ⟨out,h1,h2⟩:=ih hb
      have hv:=jT (by have:=(h.eval y).1;rw [hm] at this;exact this)
      refine ⟨out,?_,h2⟩
      rw [←h1,List.map_cons]
      have KZ:(a.eval y).cells= #[.int .u8 n]:=by rw [hv];simp [Value.cells]
      have uJ:=Gv (place:=fun i=>some (i *1,1)) (cells:=(bq x).toArray) (i:=i) (off:=i *1) (v:=a.eval y) (rest:=ps.map fun p=>(p.1,a.eval p.2)) (by rw [KZ];rfl) (by rw [KZ];have:=cJ x;simp;omega)
      rw [uJ,Dt x i _ Lp,←zy,KZ]
      simp
     ·simp [hk] at hb
    ·simp at hb
  ·simp at hb
theorem On (P:Program) (l:List Field):(∀f∈l,∃i,P.info? f.type=some i)→
 ∃places,l.mapM (fun f=>(P.info? f.type).map fun i=>(f.offset,i.size))=some places∧ ∀(k:Nat) (f:Field),l[k]? =some f→ ∃i,P.info? f.type=some i∧places[k]? =some (f.offset,i.size):=by
 induction l with
 |nil=>intro _;exact ⟨[],by simp,by simp⟩
 |cons f fs ih=>
  intro h
  obtain ⟨i,hi⟩:=h f (by simp)
  obtain ⟨ps,h1,h2⟩:=ih (fun g hg=>h g (by simp [hg]))
  refine ⟨(f.offset,i.size)::ps,by simp [List.mapM_cons,hi,h1],?_⟩
  intro k g hg
  cases k with
  |zero=>simp at hg;subst hg;exact ⟨i,hi,rfl⟩
  |succ k=>simp at hg;simpa using h2 k g hg
theorem QO {t:TypeId} {parts:Array (Nat×Operand)} {I:TI} (ho:o.op= .build t parts) (hI:c.tv t=some I) (hT:jI P c.ti) (h:bP c Z e st a w)
 (hK:(bif I.st then (match yn c st I parts.toList I.zero with|some cs=>bc c st o.dst (.ag cs) K|none=>none)
  else (match I.lay with|[.h]=>C2 c st parts.toList jq.zero fun x=>bc c st o.dst (.sc (.hs x)) K|_=>none))=some r):Rd P c Z K r e a w o (fun _=>True):=by
 obtain ⟨oQ,hc⟩:=bK hI
 obtain ⟨d,i,h1,h2,h3,h4⟩:=hT t I oQ
 have PM:(parts.map fun (i,x)=>(i,a.eval x)).toList=parts.toList.map fun p=>(p.1,a.eval p.2):=by simp
 have run: ∀out,P.built t (parts.toList.map fun p=>(p.1,a.eval p.2))=some out→ ∀w:World,(execOp a.eval o).run P w= .ok (.value (.agg out)) w:=by
  intro out hb w
  have:=run_build (P:=P) w t (parts.map fun (i,x)=>(i,a.eval x)) out (by rw [PM];exact hb)
  simp [execOp,ho] at this⊢
  simp [this]
 cases iw:I.st with
 |true=>
  simp only [iw,cond_true] at hK
  cases d<;>simp only [qB] at h4
  case struct fs=>
   obtain ⟨_,_,_,Og,cm,Lq,zc,hz,hzl,_⟩:=h4
   cases hb:yn c st I parts.toList I.zero with
   |none=>simp [hb] at hK
   |some cs=>
    simp only [hb] at hK
    have aex: ∃places,fs.toList.mapM (fun f=>(P.info? f.type).map fun i=>(f.offset,i.size))=some places∧
     (∀(i q y:Nat) (J:TI),I.IZ[i]? =some q→I.N0[i]? =some y→c.tv y=some J→places[i]? =some (q,J.size)∧0<J.size):=by
     obtain ⟨places,WX,KY⟩:=On P fs.toList (by
      intro f hf
      obtain ⟨k,hk,rfl⟩:=List.mem_iff_getElem.1 hf
      obtain ⟨J,hJ,VJ,_⟩:=Lq k fs.toList[k] (by simp at hk⊢)
      obtain ⟨i,hi,_⟩:=(hT _ J hJ).info VJ
      exact ⟨i,hi⟩)
     refine ⟨places,WX,?_⟩
     intro i q y J hq hy hJ
     rw [←Og,List.getElem?_map] at hq
     rw [←cm,List.getElem?_map] at hy
     cases hf:fs.toList[i]? with
     |none=>simp [hf] at hq
     |some f=>
      simp [hf] at hq hy
      subst hq;subst hy
      obtain ⟨J2,hJ2,aey,jx⟩:=Lq i f (by simpa using hf)
      obtain ⟨hJt,_⟩:=bK hJ
      rw [hJ2] at hJt
      cases hJt
      obtain ⟨i2,VO,aez⟩:=KY i f hf
      obtain ⟨i3,hi3,hs3,_⟩:=(hT _ J hJ2).info aey
      rw [VO] at hi3
      cases hi3
      exact ⟨by rw [aez,hs3],jx⟩
    obtain ⟨places,M3,Lw⟩:=aex
    obtain ⟨out,h5,h6⟩:=Lu h Lw (cells:=zc) (kl hzl) hb
    refine gX (v:= .agg out) (s:= .ag cs) h (run out ?_) ?_ trivial hK
    ·unfold Program.built
     simp only [h2,h1,hz,M3]
     exact h5
    ·simp only [ae];exact ⟨out,rfl,h6⟩
  all_goals (exfalso;simp_all)
 |false=>
  simp only [iw,cond_false] at hK
  split at hK
  ·rename_i hl
   cases d<;>simp only [qB,hl,iw] at h4<;>first|(exfalso;simp_all;done)|skip
   obtain ⟨_,_,_,rfl,rfl,⟨ie,hu,zf,vn⟩,_,_,hz⟩:=h4
   obtain ⟨y,h5,h6⟩:=Lv h hK
   refine gX (v:= .agg (bq y).toArray) (s:= .sc (.hs y)) h (run _ ?_) ?_ trivial h6
   ·unfold Program.built
    simp only [h2,h1,hz,zf,vn]
    exact h5
   ·simp only [ae]
  ·simp at hK
end
end Dn
/-
  A family comes to have other content. Conditions: none.
-/
set_option linter.unusedSimpArgs false
set_option linter.unusedVariables false
namespace Dn
open Go
section
variable {P:Program} {c:Ctx} {Z:bB} {e e':Env} {st:St} {a:Act} {w w':World} {R:Type} {K:St→Option R} {r:R} {Q:Exit→Act→World→Prop} {o:Oper}
def Env.vE (e:Env) (f:Nat) (v:Value) (fo:mG):Env:={e with E:=fun g=>if g=f then v else e.E g,m:=bR e.m f fo}
def St.vE (st:St) (f:Nat) (fo:mG):St:={st with fr:=j8 f st.fr,aV:=bR st.aV f fo}
theorem A6 (f:Nat) (s:Slot):cB (xK f s)=cB s:=by
 cases s<;>simp only [xK,cB]
 rename_i g _ _ _ _
 cases Nat.beq g f<;>rfl
theorem rz {f:Nat} {s:Slot} {cs:List aE} (h:xK f s= .box cs): ∃Cv,s= .box Cv∧cs=Cv.map (IK f):=by
 cases s<;>simp only [xK] at h<;>first|(simp at h;done)|(rename_i g _ _ _ _;cases hb:Nat.beq g f<;>simp [hb] at h;done)|skip
 rename_i Cv
 simp at h
 exact ⟨Cv,rfl,h.symm⟩
theorem bP.jb {f:Nat} {fo:mG} {v':Value} (h:bP c Z e st a w) (yw:f∉Z.cn) (km:dc c Z.nc e w' v' fo) (ah4:w.heap.size≤w'.heap.size)
 (dQ: ∀b,b<w.heap.size→(∀o,aL st.aV f=some o→(e.E f).ownBlock≠some b)→w'.heap[b]? =w.heap[b]?)
 (mD: ∀b o v,e.φ b o=some v→w'.cell? ⟨b,o,none⟩=some v)
 (sL: ∀b,v'.ownBlock=some b→w.heap.size≤b∨ ∃o,aL st.aV f=some o∧(e.E f).ownBlock=some b):
 bP c Z (e.vE f v' fo) (st.vE f fo) a w':=by
 have tq:lG (· ≠f) (fun _=>True) e (e.vE f v' fo):=by
  refine ⟨rfl,.refl _,fun _ _=>rfl,fun f2 o2 cm dt=> ?_⟩
  have cm:aL (bR e.m f fo) f2=some o2:=cm
  rw [bg] at cm
  simp only [dt,if_false] at cm
  exact ⟨o2,cm,by simp [Env.vE,dt],rfl⟩
 have QP: ∀t cs,ap st.fr t= .box cs→e.B t<w.heap.size:=by
  intro t cs ht
  have hs:=h.slot t
  rw [ht] at hs
  obtain ⟨o2,h1,_⟩:=hs.2.obj
  exact bo h1
 have pM: ∀t cs,ap st.fr t= .box cs→w'.heap[e.B t]? =w.heap[e.B t]? :=by
  intro t cs ht
  exact dQ _ (QP t cs ht) (fun o ho=>h.bf t cs f o ht ho)
 refine ⟨h.defers,h.size,by show bR e.m f _=bR st.aV f _;rw [h.m],h.key,?_,?_,?_,?_,?_,?_,?_,mD,fun b hb=>h.cc b (by omega)⟩
 ·show (aM (j8 f st.fr)).Nodup
  have:aM (j8 f st.fr)=aM st.fr:=by simp [aM,j8]
  rw [this];exact h.nodup
 ·intro t
  show bX Z _ _ t _ (ap (j8 f st.fr) t)
  rw [fO]
  have hs:=h.slot t
  have zA:=pM t
  generalize ap st.fr t=s at hs zA
  by_cases Du: ∃cs,s= .box cs
  ·obtain ⟨cs,rfl⟩:=Du
   simp only [bX,xK] at hs⊢
   refine ⟨hs.1.kh (Ll f _),hs.2.cc,?_,hs.2.free⟩
   obtain ⟨o2,h1,h2⟩:=hs.2.obj
   refine ⟨o2,by show w'.heap[e.B t]? =_;rw [zA cs rfl];exact h1,?_⟩
   refine (h2.map (fun _ _=>aO.kill f) (fun _ _=>rfl)).on tq ?_
   intro l hl
   obtain ⟨x,_,rfl⟩:=List.mem_map.1 hl
   exact De f x
  ·have zg:ae e (a.tmps.getD t undef) s:=by cases s<;>simp only [bX] at hs<;>first|exact hs|exact absurd ⟨_,rfl⟩ Du
   have h2:=(zg.kill f).on tq (Qs f _ s (dM s))
   generalize K0:xK f s=s2 at h2
   cases s2<;>first|exact h2|(exfalso;simp [ae] at h2)
 ·intro t
  show cg (j8 f st.fr) (ap (j8 f st.fr) t)
  rw [fO]
  have oP:=h.root t
  generalize ap st.fr t=s at oP
  have hk: ∀q,cB (ap (j8 f st.fr) q)=cB (ap st.fr q):=fun q=>by rw [fO,A6]
  cases s with
  |ptr q o=>show cB (ap (j8 f st.fr) q)=true;rw [hk];exact oP
  |hp q o i=>show cB (ap (j8 f st.fr) q)=true;rw [hk];exact oP
  |vp q=>show cB (ap (j8 f st.fr) q)=true;rw [hk];exact oP
  |ep g' _ _ _ _=>simp only [xK];cases Nat.beq g' f<;>trivial
  |_=>trivial
 ·intro f2 o2 cm
  have cm:aL (bR st.aV f fo) f2=some o2:=cm
  rw [bg] at cm
  by_cases eN:f2=f
  ·subst eN
   simp at cm
   subst cm
   have:=(km.to yw).env (e':=e.vE f2 v' fo) rfl rfl
   simpa [Env.vE] using this
  ·simp only [eN,if_false] at cm
   obtain ⟨I2,tG,h1,h2,h3,h4,h5⟩:=(h.gp f2 o2 cm).row
   refine ⟨I2,tG,h1,h2,?_,h4,?_⟩
   ·show w'.ownsRow 0 o2.ty I2.size (if f2=f then v' else e.E f2) o2.xs.length tG
    rw [if_neg eN]
    refine ⟨h3.1,?_⟩
    rcases h3.2 with h6|⟨g,cap,eZ,g1,g2,g3,g4⟩
    ·exact .inl h6
    ·refine .inr ⟨g,cap,eZ,g1,g2,?_,g4⟩
     rw [dQ g (bo g3) (fun o ho hk=>eN (h.ff f2 f o2 o g cm ho (by rw [g1];rfl) hk))];exact g3
   ·intro bj hb
    have hb:(if f2=f then v' else e.E f2).ownBlock=some bj:=hb
    rw [if_neg eN] at hb
    exact h5 bj hb
 ·intro t t' c1 c2 h1 h2 dt
  have h1:ap (j8 f st.fr) t= .box c1:=h1
  have h2:ap (j8 f st.fr) t'= .box c2:=h2
  rw [fO] at h1 h2
  obtain ⟨d1,g1,_⟩:=rz h1
  obtain ⟨d2,g2,_⟩:=rz h2
  exact h.bb t t' d1 d2 g1 g2 dt
 ·intro t c1 f2 o2 h1 h2
  have h1:ap (j8 f st.fr) t= .box c1:=h1
  have h2:aL (bR st.aV f fo) f2=some o2:=h2
  rw [fO] at h1
  rw [bg] at h2
  obtain ⟨d1,g1,_⟩:=rz h1
  show (if f2=f then v' else e.E f2).ownBlock≠some (e.B t)
  by_cases eN:f2=f
  ·rw [if_pos eN]
   intro hb
   rcases sL _ hb with h3|⟨o,h3,h4⟩
   ·have:=QP t d1 g1;omega
   ·exact h.bf t d1 f o g1 h3 h4
  ·rw [if_neg eN]
   simp only [eN,if_false] at h2
   exact h.bf t d1 f2 o2 g1 h2
 ·intro f1 f2 o1 o2 k h1 h2 h3 h4
  have h1:aL (bR st.aV f fo) f1=some o1:=h1
  have h2:aL (bR st.aV f fo) f2=some o2:=h2
  have h3:(if f1=f then v' else e.E f1).ownBlock=some k:=h3
  have h4:(if f2=f then v' else e.E f2).ownBlock=some k:=h4
  rw [bg] at h1 h2
  have r6: ∀g og,aL st.aV g=some og→(e.E g).ownBlock=some k→k<w.heap.size:=by
   intro g og hg hk
   obtain ⟨I2,tG,_,_,g3,_⟩:=(h.gp g og hg).row
   rcases g3.2 with ⟨g5,_⟩|⟨b,cap,eZ,g5,_,g6,_⟩
   ·rw [g5] at hk;simp [Value.ownBlock] at hk
   ·rw [g5] at hk;simp only [Value.ownBlock,Option.some.injEq] at hk;subst hk;exact bo g6
  by_cases HK:f1=f
  ·by_cases zh:f2=f
   ·rw [HK,zh]
   ·rw [if_pos HK] at h3
    rw [if_neg zh] at h4
    simp only [zh,if_false] at h2
    rcases sL k h3 with h5|⟨o,h5,h6⟩
    ·have:=r6 f2 o2 h2 h4;omega
    ·exact HK.trans (h.ff f f2 o o2 k h5 h2 h6 h4)
  ·rw [if_neg HK] at h3
   simp only [HK,if_false] at h1
   by_cases zh:f2=f
   ·rw [if_pos zh] at h4
    rcases sL k h4 with h5|⟨o,h5,h6⟩
    ·have:=r6 f1 o1 h1 h3;omega
    ·exact (h.ff f1 f o1 o k h1 h5 h3 h6).trans zh.symm
   ·rw [if_neg zh] at h4
    simp only [zh,if_false] at h2
    exact h.ff f1 f2 o1 o2 k h1 h2 h3 h4
theorem qm {f:Nat} {fo:mG} (hK:jb st f fo K=some r):K (st.vE f fo)=some r:=by
 unfold Dn.jb at hK
 cases hn:bp st.cn f with
 |true=>simp [hn] at hK
 |false=>simpa [hn,Qp,mK,St.vE] using hK
theorem bP.Y3 {f:Nat} {fo:mG} (h:bP c Z e st a w) (hK:Dn.jb st f fo K=some r):f∉Z.cn:=by
 intro hm
 rw [←h.defers.2.2.1,←bH] at hm
 simp [Dn.jb,hm] at hK
theorem sN {f:Nat} {fo:mG} {v:Value} (h1:v.oneCell'=true):ae (e.vE f v fo) v (.sc (.own f)):=by
 simp only [ae]
 exact ⟨v,rfl,h1,fun o ho=>by simp [Env.vE]⟩
end
end Dn
/-
  What is appended. Conditions: none.
-/
set_option linter.unusedSimpArgs false
set_option linter.unusedVariables false
namespace Dn
open Go
section
variable {P:Program} {c:Ctx} {Z:bB} {e e':Env} {st:St} {a:Act} {w w':World} {R:Type} {K:St→Option R} {r:R} {Q:Exit→Act→World→Prop} {o:Oper}
theorem sO {t:TypeId} {I:TI} (hr:nI c.ti P t I) (hc:I.cH=[]): ∃i z,P.info? t=some i∧i.size=I.size∧i.bytes=I.bytes∧i.zero=some z∧z.cells.size=I.size:=by
 obtain ⟨d,i,h1,h2,h3,h4⟩:=hr
 obtain ⟨h5,h6⟩:=h3 hc
 cases d<;>simp only [qB] at h4
 case struct fs=>obtain ⟨_,_,_,_,_,_,cs,hz,_,hs⟩:=h4;exact ⟨i,_,h2,h5,h6,hz,by simpa [Value.cells] using hs⟩
 case tuple ts=>exact absurd hc h4.2.1
 case slice el=>obtain ⟨_,_,hs,_,_,hz,_⟩:=h4;exact ⟨i,_,h2,h5,h6,hz,by rw [hs];rfl⟩
 case array n el=>obtain ⟨_,_,hs,_,_,_,_,_,hz⟩:=h4;exact ⟨i,_,h2,h5,h6,hz,by rw [hs];simp [Value.cells,cJ]⟩
 case bool=>obtain ⟨_,_,hs,_,_,hz⟩:=h4;exact ⟨i,_,h2,h5,h6,hz,by rw [hs];rfl⟩
 case int k=>obtain ⟨_,_,hs,_,_,hz⟩:=h4;exact ⟨i,_,h2,h5,h6,hz,by rw [hs];rfl⟩
 case string=>obtain ⟨_,_,hs,_,_,b,hz,_⟩:=h4;exact ⟨i,_,h2,h5,h6,hz,by rw [hs];rfl⟩
 all_goals
  obtain ⟨_,_,hs,_,v,hz,hv,_⟩:=h4
  refine ⟨i,v,h2,h5,h6,hz,?_⟩
  rw [hs]
  cases v<;>simp_all [Value.cells,Value.oneCell']
structure Src (e:Env) (w:World) (size:Nat) (v:Value) (ys:List MV) (news:List Value):Prop where
 VP:bn e.key e.φ size news ys
 val: ∃ad cap,v= .slice ad ys.length cap∧(ad=none→ys=[])∧ ∀x,ad=some x→ ∀(j:Nat) (u:Value),news[j]? =some u→w.cell? (x.add j)=some u
theorem bn.Dv {key:Nat→Nat} {φ:Ph} {size:Nat} {xs:List MV}: ∀{cs:List Value},bn key φ size cs xs→ ∀u∈cs,u.oneCell'=true:=by
 induction xs with
 |nil=>intro cs h;cases h;simp
 |cons x xs ih=>
  intro cs h u hu
  obtain ⟨v,q,rfl,_,h2,h3⟩:=h
  rcases List.mem_append.1 hu with hu|hu
  ·exact h2.cells u hu
  ·exact ih h3 u hu
theorem bn.append {key:Nat→Nat} {φ:Ph} {size:Nat} {xs ys:List MV}: ∀{cs ds:List Value},bn key φ size cs xs→bn key φ size ds ys→bn key φ size (cs++ds) (xs++ys):=by
 induction xs with
 |nil=>intro cs ds h h';cases h;simpa using h'
 |cons x xs ih=>intro cs ds h h';obtain ⟨v,q,rfl,h1,h2,h3⟩:=h;exact ⟨v,q++ds,by simp,h1,h2,ih h3 h'⟩
theorem Dw {key:Nat→Nat} {φ:Ph} {size:Nat} {xs:List MV}: ∀{f:Nat→List Value},(∀i,i<xs.length→(f i).length=size)→(∀(i:Nat) (h:i<xs.length),kR key φ (f i) xs[i])→
 ∃cs,bn key φ size cs xs∧ ∀(i j:Nat),i<xs.length→j<size→cs[i *size+j]? =(f i)[j]? :=by
 induction xs with
 |nil=>intro f _ _;exact ⟨[],rfl,fun i j hi=>by simp at hi⟩
 |cons x xs ih=>
  intro f h1 h2
  obtain ⟨cs,h3,h4⟩:=ih (f:=fun i=>f (i+1)) (fun i hi=>h1 (i+1) (by simpa using hi)) (fun i hi=>h2 (i+1) (by simpa using hi))
  have hl:=h1 0 (by simp)
  refine ⟨f 0++cs,⟨f 0,cs,rfl,hl,h2 0 (by simp),h3⟩,?_⟩
  intro i j hi hj
  cases i with
  |zero=>rw [Nat.zero_mul,Nat.zero_add,List.getElem?_append_left (by omega)]
  |succ i=>
   rw [Nat.succ_mul,List.getElem?_append_right (by omega),show i *size+size+j-(f 0).length=i *size+j by omega]
   exact h4 i j (by simpa using hi) hj
theorem BN {I E:TI} {x:Slot} {v:Value} {K':List MV→Option R} (h:bP c Z e st a w) (hE:c.ti I.elem=some E) (jx:0<E.size) (hx:ae e v x) (hK:Hu I E st x K'=some r):
 ∃ys news,Src e w E.size v ys news∧K' ys=some r:=by
 unfold Hu at hK
 split at hK
 ·rename_i xs
  obtain ⟨hw,hK⟩:=dP hK
  simp only [ae,aO] at hx
  obtain ⟨_,hx⟩:=hx
  generalize hv:[v]=vs at hx
  cases hx with
  |list ad cap _ bj off Gl f g1 g2 g3 g4 g5=>
  simp at hv
  have PL: ∀i,i<xs.length→(f i).length=E.size:=by
   intro i hi
   rw [(g5 i hi).width]
   exact zw hw _ (List.getElem_mem hi)
  obtain ⟨cs,h1,h2⟩:=Dw PL g5
  refine ⟨xs,cs,⟨h1,ad,cap,hv,?_,?_⟩,hK⟩
  ·intro hn
   cases xs with
   |nil=>rfl
   |cons y ys=>have:=g2 (by simp);rw [hn] at this;cases this
  ·intro x hx j u hj
   have Fz:j<cs.length:=(List.getElem?_eq_some_iff.1 hj).1
   rw [h1.length] at Fz
   have Dx:0<xs.length:=by
    cases xs with
    |nil=>simp at Fz
    |cons y ys=>simp
   have Oo:=g2 Dx
   rw [hx] at Oo
   cases Oo
   have hq:j/E.size<xs.length:=(Nat.div_lt_iff_lt_mul jx).2 Fz
   have hm:=Nat.mod_lt j jx
   have KV:j=j/E.size *E.size+j%E.size:=by rw [Nat.mul_comm];exact (Nat.div_add_mod j E.size).symm
   have e1:=h2 (j/E.size) (j%E.size) hq hm
   rw [←KV,hj] at e1
   have QQ:Gl=E.size:=by rw [←g3 0 Dx,PL 0 Dx]
   have e2:=g4 (j/E.size) (j%E.size) hq (by rw [QQ];exact hm)
   rw [←e1,QQ,Nat.add_assoc,←KV] at e2
   have:=h.nE _ _ _ e2
   rw [Addr.add_mid];exact this
 ·simp only [ae] at hx
  have hx:[v]=[Value.slice none 0 0]:=hx
  simp at hx
  exact ⟨[],[],⟨rfl,none,0,hx,fun _=>rfl,by simp⟩,hK⟩
 ·rename_i f
  cases hf:aL st.aV f with
  |none=>simp [hf] at hK
  |some fo=>
   simp only [hf] at hK
   cases hb:Nat.beq fo.ty I.elem with
   |false=>simp [hb] at hK
   |true=>
    simp only [hb,cond_true] at hK
    have iR:=Nat.eq_of_beq_eq_true hb
    obtain ⟨hv,_⟩:=pR h hx hf
    obtain ⟨J,cells,hJ,_,eB,mM,_⟩:=(h.gp f fo hf).row
    rw [iR,hE] at hJ
    cases hJ
    refine ⟨fo.xs,cells,⟨mM,?_⟩,hK⟩
    rcases eB.2 with ⟨h1,h2⟩|⟨g,cap,eZ,h1,_⟩
    ·exact ⟨none,0,by rw [hv,h1,h2],fun _=>List.eq_nil_of_length_eq_zero h2,by simp⟩
    ·refine ⟨some ⟨g,0,none⟩,cap,by rw [hv,h1],by simp,?_⟩
     intro x hx j u hj
     cases hx
     exact eB.cells (g:=g) (by rw [h1];rfl) j u hj
 ·simp at hK
end
end Dn
/-
  Appends. Conditions: none.
-/
set_option linter.unusedSimpArgs false
set_option linter.unusedVariables false
namespace Dn
open Go
section
variable {P:Program} {c:Ctx} {Z:bB} {e e':Env} {st:St} {a:Act} {w w':World} {R:Type} {K:St→Option R} {r:R} {Q:Exit→Act→World→Prop} {o:Oper}
structure aaf (w w':World) (el:TypeId) (size:Nat) (v v':Value) (n m:Nat) (cells news:List Value):Prop where
 own:w'.ownsRow 0 el size v' (n+m) (cells++news)
 size:w.heap.size≤w'.heap.size
 r6: ∀k,k<w.heap.size→some k≠v.ownBlock→w'.heap[k]? =w.heap[k]?
 cell: ∀(k off:Nat) (u:Value),v.ownBlock=some k→off<cells.length→w.cell? ⟨k,off,none⟩=some u→w'.cell? ⟨k,off,none⟩=some u
 place:v'.ownBlock=v.ownBlock∨v'.ownBlock=some w.heap.size
 rest:Rest w w'
structure VQ (P:Program) (w:World) (u el:TypeId) (size:Nat) (x:Value) (m:Nat) (news:List Value):Prop where
 ty:P.underlying u=some (.slice el)∨P.underlying u=some .string
 len:Builtin.lenOf x=pure m
 now:(Builtin.firstCells size m x).run P w= .ok news.toArray w
 drew:(Builtin.firstCells size m x).run P w.drew= .ok news.toArray w.drew
 one: ∀y∈news,y.oneCell'=true
 nl:news.length=m *size
theorem Src.apx {ys:List MV} {news:List Value} {x:Value} {u el:TypeId} {size:Nat} (hu:P.underlying u=some (.slice el)) (h:Src e w size x ys news):VQ P w u el size x ys.length news:=by
 obtain ⟨ad,cap,hx,BO,M9⟩:=h.val
 have CV:=h.VP.length
 subst hx
 cases ad with
 |none=>
  have hys:=BO rfl
  subst hys
  have:news=[]:=List.eq_nil_of_length_eq_zero (by simpa using CV)
  subst this
  exact ⟨.inl hu,rfl,run_firstCells_none w _ _ _ _,run_firstCells_none w.drew _ _ _ _,h.VP.Dv,CV⟩
 |some ad=>exact ⟨.inl hu,rfl,run_firstCells_some w _ _ _ _ _ _ CV (M9 ad rfl),run_firstCells_some w.drew _ _ _ _ _ _ CV (by simpa using M9 ad rfl),h.VP.Dv,CV⟩
theorem VQ.str {u el:TypeId} (hu:P.underlying u=some .string) (b:ByteArray):VQ P w u el 1 (.string b) b.size (b.data.toList.map fun x=> .int .u8 (x.toNat:Int)):=by
 have hf: ∀w',(Builtin.firstCells 1 b.size (.string b)).run P w'= .ok (b.data.toList.map fun x=>Value.int .u8 (x.toNat:Int)).toArray w':=by
  intro w'
  have he:b.extract 0 b.size=b:=by
   apply ByteArray.ext
   rw [ByteArray.data_extract]
   exact Array.extract_eq_self_of_le (Nat.le_refl _)
  simp only [Builtin.firstCells,he,Sem.run_pure]
  congr 1
  apply Array.ext'
  simp
 exact ⟨.inr hu,rfl,hf w,hf w.drew,by simp [Value.oneCell'],by simp⟩
section
variable {t u ty el:TypeId} {i:TypeInfo} {z x:Value} {m:Nat} {news:List Value} (ht:P.underlying t=some (.slice el)) (hi:P.info? el=some i) (hz:i.zero=some z) (hx:VQ P w u el i.size x m news)
include ht hi hx
theorem T7 (h0:m=0):(Builtin.append_ #[t,u] ty #[.slice none 0 0,x]).run P w= .ok (.slice none 0 0) w:=by
 subst h0
 have hn:=hx.now
 have hl:=hx.len
 rcases hx.ty with hu|hu<;>simp [Builtin.append_,run_underlying ht,run_underlying hu,Go.sizeOf,typeInfo,hi,hl,hn]
theorem T8 {g nT uX:Nat} {eZ:Array Value} (hg:w.heap[g]? =some (.cells eZ el (0,0))) (rB:nT+m≤uX) (HH:nT *i.size+news.length≤eZ.size):
 (Builtin.append_ #[t,u] ty #[.slice (some ⟨g,0,none⟩) nT uX,x]).run P w=
  .ok (.slice (some ⟨g,0,none⟩) (nT+m) uX) (w.setRow g (eZ.toList.take (nT *i.size)++news++eZ.toList.drop (nT *i.size+news.length)).toArray):=by
 have iw:=run_storeCells_at P g (nT *i.size) el news 0 eZ w hg (by simpa using HH) hx.one
 simp only [Nat.add_zero] at iw
 have hn:=hx.now
 have hl:=hx.len
 rcases hx.ty with hu|hu<;>simp [Builtin.append_,run_underlying ht,run_underlying hu,Go.sizeOf,typeInfo,hi,hl,rB,hn,Addr.add_lit,iw]
include hz
theorem QR (h0:0<m) (h63:(m:Int)≤9223372036854775807) (h48:m *i.bytes≤281474976710656):
 (Builtin.append_ #[t,u] ty #[.slice none 0 0,x]).run P w= .ok (.slice (some ⟨w.heap.size,0,none⟩) m (grownCap w m 0 el)) (w.drew.alloc (.cells (news.toArray++Builtin.zeroCells z.cells (grownCap w m 0 el-m)) el)):=by
 have dt:m≠0:=by omega
 have W5: ¬(9223372036854775807<(m:Int)):=by omega
 have W6: ¬(281474976710656<Builtin.nextslicecap m 0 *i.bytes):=by rw [nextslicecap_zero h0];omega
 have hn:=hx.drew
 have hl:=hx.len
 rcases hx.ty with hu|hu<;>simp [Builtin.append_,run_underlying ht,run_underlying hu,Go.sizeOf,typeInfo,zeroValue,hi,hz,hl,dt,W5,W6,Question.forced,run_firstCells_none,hn,newRow,grownCap]
theorem Na {b:Addr} {nT uX:Nat} {T9:List Value} (hlo:T9.length=nT *i.size) (holds: ∀j v,T9[j]? =some v→w.cell? (b.add j)=some v) (hg:uX<nT+m) (h63:((nT+m:Nat):Int)≤9223372036854775807)
 (HH:Builtin.nextslicecap (nT+m) uX *i.bytes≤281474976710656):
 (Builtin.append_ #[t,u] ty #[.slice (some b) nT uX,x]).run P w=
  .ok (.slice (some ⟨w.heap.size,0,none⟩) (nT+m) (grownCap w (nT+m) uX el)) (w.drew.alloc (.cells (T9.toArray++news.toArray++Builtin.zeroCells z.cells (grownCap w (nT+m) uX el-(nT+m))) el)):=by
 have dt: ¬(nT+m≤uX):=by omega
 have W5: ¬(9223372036854775807<((nT:Int)+(m:Int))):=by omega
 have W6: ¬(281474976710656<Builtin.nextslicecap (nT+m) uX *i.bytes):=by omega
 have hfo:=run_firstCells_some (P:=P) w.drew i.size nT b nT uX T9 hlo (by simpa using holds)
 have hn:=hx.drew
 have hl:=hx.len
 rcases hx.ty with hu|hu<;>(simp [Builtin.append_,run_underlying ht,run_underlying hu,Go.sizeOf,typeInfo,zeroValue,hi,hz,hl,dt,W5,W6,Question.forced,hn,hfo,newRow,grownCap];congr 2;apply Array.ext';simp [List.append_assoc])
end
theorem yy {t u ty:TypeId} {I E:TI} {v x:Value} {n m:Nat} {cells news:List Value} (hu:P.underlying t=some (.slice I.elem)) (hE:c.ti I.elem=some E) (r7:E.cH=[]) (jx:0<E.size)
 (hT:jI P c.ti) (sP:1≤E.bytes) (eB:w.ownsRow 0 I.elem E.size v n cells) (hx:VQ P w u I.elem E.size x m news) (je:(n+m) *E.bytes≤2^46):
 ∃v' w',(Builtin.append_ #[t,u] ty #[v,x]).run P w= .ok v' w'∧aaf w w' I.elem E.size v v' n m cells news:=by
 obtain ⟨i,z,hi,hs,Ua,hz,PN⟩:=sO (hT _ E hE) r7
 rw [←hs] at hx eB PN jx⊢
 rw [←Ua] at je sP
 have hle:n+m≤2^46:=Nat.le_trans (Nat.le_mul_of_pos_right _ sP) je
 have W7:n+m≤Go.maxLen:=by unfold Go.maxLen;omega
 have CV:=hx.nl
 have hlen:(cells++news).length=(n+m) *i.size:=by rw [List.length_append,eB.1,CV,Nat.add_mul]
 have grown: ∀(r6:Nat),r6<n+m→
  (w.drew.alloc (.cells (cells.toArray++news.toArray++Builtin.zeroCells z.cells (grownCap w (n+m) r6 I.elem-(n+m))) I.elem)).ownsRow 0 I.elem i.size
   (.slice (some ⟨w.heap.size,0,none⟩) (n+m) (grownCap w (n+m) r6 I.elem)) (n+m) (cells++news):=by
  intro r6 ho
  refine ⟨hlen,.inr ⟨w.heap.size,_,_,rfl,Nat.zero_le _,iu w.drew _,grownCap_ge w (n+m) r6 I.elem,grownCap_le_maxLen w (n+m) r6 I.elem W7,?_,?_⟩⟩
  ·have Oq:=grownCap_ge w (n+m) r6 I.elem
   simp only [Array.size_append,List.size_toArray,size_zeroCells,PN,eB.1,CV,←Nat.add_mul]
   congr 1
   omega
  ·simp only [Array.toList_append,List.append_assoc]
   rw [←List.append_assoc,←hlen]
   exact List.take_left
 have rest: ∀cs:Array Value,Rest w (w.drew.alloc (.cells cs I.elem)):=fun cs=>⟨rfl,rfl,rfl,fun p=>(Rest.alloc w.drew cs I.elem).2.2.2 p⟩
 rcases eB.2 with ⟨rfl,rfl⟩|⟨g,cap,eZ,rfl,_,hg,hnc,IM,xx,IQ⟩
 ·have hcn:cells=[]:=List.eq_nil_of_length_eq_zero (by simpa using eB.1)
  subst hcn
  by_cases hm:m=0
  ·have hnn:news=[]:=List.eq_nil_of_length_eq_zero (by rw [CV,hm,Nat.zero_mul])
   subst hnn
   refine ⟨_,_,T7 hu hi hx hm,⟨?_,Nat.le_refl _,fun _ _ _=>rfl,(fun _ _ _ hk=>by cases hk),.inl rfl,.refl _⟩⟩
   rw [hm];exact World.ownsRow_nil w 0 I.elem i.size
  ·simp only [Nat.zero_add] at je hle W7
   have hr:=QR (ty:=ty) hu hi hz hx (by omega) (by omega) (by omega)
   have K1:=grown 0 (by omega)
   simp only [Nat.zero_add,List.nil_append,Array.empty_append] at K1⊢
   exact ⟨_,_,hr,⟨by simpa using K1,by simp,fun k hk _=>oc w.drew _ k hk,(fun _ _ _ hk=>by cases hk),.inr rfl,rest _⟩⟩
 ·by_cases rB:n+m≤cap
  ·have HH:n *i.size+news.length≤eZ.size:=by rw [CV,xx,←Nat.add_mul];exact Nat.mul_le_mul_right _ rB
   have hr:=T8 (ty:=ty) hu hi hx hg rB HH
   have aah:=setRow_heap w g eZ (eZ.toList.take (n *i.size)++news++eZ.toList.drop (n *i.size+news.length)).toArray I.elem _ hg
   refine ⟨_,_,hr,⟨⟨hlen,.inr ⟨g,cap,_,rfl,Nat.zero_le _,aah,rB,IM,?_,?_⟩⟩,by simp,fun k _ hk=>setRow_other w g k _ (fun he=>hk (by simp [Value.ownBlock,he])),?_,.inl rfl,Rest.setRow w g _⟩⟩
   ·simp only [List.size_toArray,List.length_append,List.length_take,List.length_drop,Array.length_toList]
    omega
   ·rw [IQ,←hlen]
    exact List.take_left
   ·intro k off y hk Dm hc
    have hkg:k=g:=by simp [Value.ownBlock] at hk;exact hk.symm
    subst hkg
    rw [cell_of hg] at hc
    rw [cell_of aah]
    have aai:off<(eZ.toList.take (n *i.size)).length:=by rw [IQ];exact Dm
    rw [List.getElem?_toArray,List.append_assoc,List.getElem?_append_left aai,List.getElem?_take]
    have:off<n *i.size:=by rw [←eB.1];exact Dm
    rw [if_pos this];simpa using hc
  ·have holds: ∀j y,cells[j]? =some y→w.cell? ((⟨g,0,none⟩:Addr).add j)=some y:=eB.cells (g:=g) rfl
   have hr:=Na (ty:=ty) (uX:=cap) hu hi hz hx eB.1 holds (by omega) (by omega) (growslice_fits (by omega) (by omega))
   refine ⟨_,_,hr,⟨grown cap (by omega),by simp,fun k hk _=>oc w.drew _ k hk,?_,.inr rfl,rest _⟩⟩
   intro k off y hk Dm hc
   have hkg:k=g:=by simp [Value.ownBlock] at hk;exact hk.symm
   subst hkg
   rw [World.cell?_of_block (oc w.drew _ k (bo hg))]
   exact hc
theorem Jp {t u ty:TypeId} {I E:TI} {ad:Option Addr} {x:Value} {n m:Nat} {cells news:List Value} (hu:P.underlying t=some (.slice I.elem)) (hE:c.ti I.elem=some E) (r7:E.cH=[])
 (hT:jI P c.ti) (sP:1≤E.bytes) (pS:cells.length=n *E.size) (QS:ad=none→n=0) (bq: ∀y,ad=some y→ ∀(j:Nat) (v:Value),cells[j]? =some v→w.cell? (y.add j)=some v)
 (hx:VQ P w u I.elem E.size x m news) (hm:0<m) (je:(n+m) *E.bytes≤2^46):
 ∃v' w',(Builtin.append_ #[t,u] ty #[.slice ad n n,x]).run P w= .ok v' w'∧w'.ownsRow 0 I.elem E.size v' (n+m) (cells++news)∧v'.ownBlock=some w.heap.size∧dC w w':=by
 obtain ⟨i,z,hi,hs,Ua,hz,PN⟩:=sO (hT _ E hE) r7
 rw [←hs] at hx pS PN⊢
 rw [←Ua] at je sP
 have hle:n+m≤2^46:=Nat.le_trans (Nat.le_mul_of_pos_right _ sP) je
 have W7:n+m≤Go.maxLen:=by unfold Go.maxLen;omega
 have CV:=hx.nl
 have hlen:(cells++news).length=(n+m) *i.size:=by rw [List.length_append,pS,CV,Nat.add_mul]
 have grown: ∀(r6:Nat),r6<n+m→
  (w.drew.alloc (.cells (cells.toArray++news.toArray++Builtin.zeroCells z.cells (grownCap w (n+m) r6 I.elem-(n+m))) I.elem)).ownsRow 0 I.elem i.size
   (.slice (some ⟨w.heap.size,0,none⟩) (n+m) (grownCap w (n+m) r6 I.elem)) (n+m) (cells++news):=by
  intro r6 ho
  refine ⟨hlen,.inr ⟨w.heap.size,_,_,rfl,Nat.zero_le _,iu w.drew _,grownCap_ge w (n+m) r6 I.elem,grownCap_le_maxLen w (n+m) r6 I.elem W7,?_,?_⟩⟩
  ·have Oq:=grownCap_ge w (n+m) r6 I.elem
   simp only [Array.size_append,List.size_toArray,size_zeroCells,PN,pS,CV,←Nat.add_mul]
   congr 1
   omega
  ·simp only [Array.toList_append,List.append_assoc]
   rw [←List.append_assoc,←hlen]
   exact List.take_left
 have rest: ∀cs:Array Value,Rest w (w.drew.alloc (.cells cs I.elem)):=fun cs=>⟨rfl,rfl,rfl,fun p=>(Rest.alloc w.drew cs I.elem).2.2.2 p⟩
 have K1: ∀cs:Array Value,dC w (w.drew.alloc (.cells cs I.elem)):=fun cs=>⟨by simp,fun k hk=>oc w.drew _ k hk,rest cs⟩
 cases ad with
 |none=>
  have hn:=QS rfl
  subst hn
  have hcn:cells=[]:=List.eq_nil_of_length_eq_zero (by simpa using pS)
  subst hcn
  simp only [Nat.zero_add] at je hle W7
  have hr:=QR (ty:=ty) hu hi hz hx (by omega) (by omega) (by omega)
  have Tw:=grown 0 (by omega)
  simp only [Nat.zero_add,List.nil_append,Array.empty_append] at Tw⊢
  exact ⟨_,_,hr,by simpa using Tw,rfl,K1 _⟩
 |some b=>
  have hr:=Na (ty:=ty) (uX:=n) hu hi hz hx pS (fun j v hj=>bq b rfl j v hj) (by omega) (by omega) (growslice_fits (by omega) (by omega))
  exact ⟨_,_,hr,grown n (by omega),rfl,K1 _⟩
end
end Dn
/-
  Appends, the operation. Conditions: none.
-/
set_option linter.unusedSimpArgs false
set_option linter.unusedVariables false
namespace Dn
open Go
section
variable {P:Program} {c:Ctx} {Z:bB} {e e':Env} {st:St} {a:Act} {w w':World} {R:Type} {K:St→Option R} {r:R} {Q:Exit→Act→World→Prop} {o:Oper}
theorem zB {base:Nat} {t:TypeId} {size n:Nat} {v:Value} {xs:List Value} (h:w.ownsRow base t size v n xs):v.oneCell'=true:=by
 rcases h.2 with ⟨rfl,_⟩|⟨g,cap,eZ,rfl,_⟩<;>rfl
theorem Nb {E:TI} {t:TypeId} (hr:nI c.ti P t E) (h:N7 E=true):P.underlying t=some (.int .u8)∧E.size=1:=by
 unfold N7 at h
 split at h
 ·rename_i k iw hl
  have:=of_decide_eq_true h;subst this
  obtain ⟨d,i,h1,h2,h3,h4⟩:=hr
  cases d<;>simp only [qB,hl,iw] at h4<;>first|(exfalso;simp_all;done)|skip
  obtain ⟨_,_,h5,h6,_⟩:=h4
  simp only [List.cons.injEq,Kd.i.injEq,and_true] at h6
  subst h6
  exact ⟨h1,h5⟩
 ·cases h
theorem Nc {key:Nat→Nat} {φ:Ph}: ∀l:List UInt8,bn key φ 1 (l.map fun x=>Value.int .u8 (x.toNat:Int)) (I6 l)
 |[]=>rfl
 |b::l=>⟨[.int .u8 (b.toNat:Int)],_,rfl,rfl,.i .u8 _,Nc l⟩
theorem Jq {cl:Call} {s x:Operand} {t u:TypeId} {I E:TI} {ys:List MV} {news:List Value} (ho:o.op= .call cl) (hb:cl.callee= .builtin .append) (ha:cl.args.toList=[s,x]) (IR:cl.argTypes.toList=[t,u])
 (hI:c.tv t=some I) (hL:I.wR=true) (hE:c.tv I.elem=some E) (hT:jI P c.ti) (h:bP c Z e st a w) (vF:VQ P w u I.elem E.size (a.eval x) ys.length news) (sL:bn e.key e.φ E.size news ys)
 (hK:N8 (bp c.bs (o.dst.getD 0)) (o.dst.getD 0) st I E (aH c st s) ys (fun sl st=>bc c st o.dst sl K)=some r):o.wp P a w (Out c Z K r e.φ w) Q:=by
 obtain ⟨oQ,hc⟩:=bK hI
 obtain ⟨ql,r7⟩:=bK hE
 obtain ⟨hu,E2,BP,_,jx⟩:=TI.lB (hT t I oQ) hL
 rw [ql] at BP
 cases BP
 have ha':cl.args= #[s,x]:=by rw [←Array.toList_inj,ha]
 have aaj:cl.argTypes= #[t,u]:=by rw [←Array.toList_inj,IR]
 obtain ⟨hs,_⟩:=h.eval s
 have go: ∀(f:Nat) (dO:Bool) (xs:List MV) (cells:List Value),1≤E.bytes→(xs.length+ys.length) *E.bytes≤2^46→w.ownsRow 0 I.elem E.size (a.eval s) xs.length cells→bn e.key e.φ E.size cells xs→
  (∀bj,(a.eval s).ownBlock=some bj→((f∈Z.cn∧Z.Pr bj)∨Z.In bj)∧(∃o,aL st.aV f=some o∧(e.E f).ownBlock=some bj)∧ ∀off u,e.φ bj off=some u→dO=true∧off<xs.length *E.size)→
  jb st f ⟨I.elem,dO,xs++ys⟩ (fun st=>bc c st o.dst (.sc (.own f)) K)=some r→o.wp P a w (Out c Z K r e.φ w) Q:=by
  intro f dO xs cells sP je eB mM A4 hK
  obtain ⟨v',w',bW,tJ⟩:=yy (P:=P) (ty:=o.type) hu ql r7 jx hT sP eB vF je
  have hlen:cells.length=xs.length *E.size:=mM.length
  have yw:=h.Y3 hK
  have hK:=qm hK
  have km:dc c Z.nc e w' v' ⟨I.elem,dO,xs++ys⟩:=by
   refine ⟨E,cells++news,ql,r7,by simpa using tJ.own,mM.append sL,?_⟩
   intro bj jJ
   rcases tJ.place with h1|h1
   ·rw [h1] at jJ
    obtain ⟨h2,_,h3⟩:=A4 bj jJ
    refine ⟨IL h2 yw,fun off u hu=> ?_,fun hc=>False.elim hc⟩
    obtain ⟨h4,h5⟩:=h3 off u hu
    refine ⟨h4,Nat.lt_of_lt_of_le h5 ?_⟩
    simp only [List.length_append]
    exact Nat.mul_le_mul_right _ (Nat.le_add_right _ _)
   ·rw [h1] at jJ
    cases jJ
    refine ⟨h.cc _ (Nat.le_refl _),fun off u hu=> ?_,fun hc=>False.elim hc⟩
    have:=World.block_lt_of_cell? w _ (h.nE _ _ _ hu)
    simp at this
  have pT:=h.jb (f:=f) yw km tJ.size
   (fun b HL dt=>tJ.r6 b HL (fun hk=>by obtain ⟨_,⟨o2,h1,h2⟩,_⟩:=A4 b hk.symm;exact dt o2 h1 h2))
   (fun b off u hu=>by
    have hc0:=h.nE b off u hu
    by_cases hk:(a.eval s).ownBlock=some b
    ·obtain ⟨_,_,h3⟩:=A4 b hk
     exact tJ.cell b off u hk (by rw [hlen];exact (h3 off u hu).2) hc0
    ·rw [World.cell?_of_block (tJ.r6 b (World.block_lt_of_cell? w _ hc0) (fun IU=>hk IU.symm))];exact hc0)
   (fun b jJ=>by
    rcases tJ.place with h1|h1
    ·rw [h1] at jJ;exact .inr (A4 b jJ).2.1
    ·rw [h1] at jJ;cases jJ;exact .inl (Nat.le_refl _))
  refine fin (v:=v') (s:= .sc (.own f)) ?_ pT ?_ (.of (sN (zB tJ.own)) trivial) hK
  ·simp [execOp,ho,resolve,hb,invoke,builtin,ha',aaj,bW]
  ·exact ⟨.refl _,fun b hz HL=>tJ.r6 b HL (fun hk=>hz (IL (A4 b hk.symm).1 yw)),fun _ _ _=>rfl,tJ.size,tJ.rest⟩
 generalize aH c st s=ss at hs hK
 unfold N8 at hK
 cases sP:Nat.ble 1 E.bytes with
 |false=>simp [sP] at hK
 |true=>
  simp only [sP,cond_true] at hK
  have sP:=Nat.le_of_ble_eq_true sP
  split at hK
  ·obtain ⟨je,hK⟩:=dP hK
   have je:=of_decide_eq_true je
   simp only [ae] at hs
   have hs:[a.eval s]=[Value.slice none 0 0]:=hs
   simp at hs
   refine go (o.dst.getD 0) false [] [] sP (by simpa using je) (by rw [hs];exact World.ownsRow_nil w 0 I.elem E.size) rfl ?_ (by simpa using hK)
   intro bj jJ
   rw [hs] at jJ
   simp [Value.ownBlock] at jJ
  ·rename_i f
   cases hf:aL st.aV f with
   |none=>simp [hf] at hK
   |some fo=>
    simp only [hf] at hK
    obtain ⟨je,hK⟩:=dP hK
    have je:=of_decide_eq_true je
    cases iR:Nat.beq fo.ty I.elem with
    |false=>simp [iR] at hK
    |true=>
     simp only [iR,cond_true] at hK
     have iR:=Nat.eq_of_beq_eq_true iR
     obtain ⟨hv,_⟩:=pR h hs hf
     obtain ⟨J,cells,hJ,_,eB,mM,h5⟩:=(h.gp f fo hf).row
     rw [iR,ql] at hJ
     cases hJ
     refine go f fo.dO fo.xs cells sP je (by rw [hv,←iR];exact eB) mM ?_ (by rw [←iR];exact hK)
     intro bj jJ
     rw [hv] at jJ
     exact ⟨(h5 bj jJ).1,⟨fo,hf,jJ⟩,(h5 bj jJ).2.1⟩
  ·rename_i xs
   obtain ⟨hw,hK⟩:=dP hK
   obtain ⟨je,hK⟩:=dP hK
   obtain ⟨hm,je⟩:=of_decide_eq_true je
   simp only [ae,aO] at hs
   obtain ⟨_,hs⟩:=hs
   generalize hv:[a.eval s]=vs at hs
   cases hs with
   |clip ad _ hl=>
   simp at hv
   have kT:ae e (a.eval s) (.sc (.p (.list xs))):=by simp only [ae,aO];rw [hv];exact ⟨rfl,hl⟩
   obtain ⟨ys',cells,hsr,hy⟩:=BN (I:=I) (K':=some) (r:=xs) h ql jx kT (by show cb (mF E.size xs) (some xs)=some xs;rw [hw];rfl)
   cases hy
   obtain ⟨ad',QD,M5,IP,KZ⟩:=hsr.val
   rw [hv] at M5
   simp only [Value.slice.injEq] at M5
   obtain ⟨rfl,_,_⟩:=M5
   obtain ⟨v',w',bW,eB,jJ,hg⟩:=Jp (P:=P) (ty:=o.type) hu ql r7 hT sP hsr.VP.length (fun hn=>by rw [IP hn];rfl) KZ vF hm je
   have yw:=h.Y3 hK
   have hK:=qm hK
   have km:dc c Z.nc e w' v' ⟨I.elem,false,xs++ys⟩:=by
    refine ⟨E,cells++news,ql,r7,by simpa using eB,hsr.VP.append sL,?_⟩
    intro bj sH
    rw [jJ] at sH
    cases sH
    refine ⟨h.cc _ (Nat.le_refl _),fun off u hu=> ?_,fun hc=>False.elim hc⟩
    have:=World.block_lt_of_cell? w _ (h.nE _ _ _ hu)
    simp at this
   have pT:=h.jb (f:=o.dst.getD 0) yw km hg.size (fun b HL _=>hg.r6 b HL) (fun b off u hu=>hg.cell (h.nE b off u hu))
    (fun b sH=>by rw [jJ] at sH;cases sH;exact .inl (Nat.le_refl _))
   have hx:(execOp a.eval o).run P w= .ok (.value v') w':=by simp [execOp,ho,resolve,hb,invoke,builtin,ha',aaj,hv,bW]
   cases PO:bp c.bs (o.dst.getD 0) with
   |false=>
    simp only [PO,cond_false] at hK
    exact fin (v:=v') (s:= .sc (.own (o.dst.getD 0))) hx pT (hg.trans h.cc _) (.of (sN (zB eB)) trivial) hK
   |true=>
    simp only [PO,cond_true] at hK
    have hl:aO (e.vE (o.dst.getD 0) v' ⟨I.elem,false,xs++ys⟩) [v'] (.own (o.dst.getD 0)):=sN (zB eB)
    obtain ⟨e3,iU,m,k1,k2,_,k4,hK,_,k7,k8⟩:=ml (l:= .own (o.dst.getD 0)) pT (vs:=[v']) hl hK
    have hm:m.one=true:=k8 (fun x he=>by cases he)
    exact fin (v:=v') (s:= .sc (.p m)) hx k1 ((hg.trans h.cc _).trans k2.tr) (.of (s:= .sc (.p m)) (by exact ⟨hm,k4⟩) trivial) hK
  ·simp at hK
theorem Ot {cl:Call} {s x:Operand} {t u:TypeId} {I E:TI} (ho:o.op= .call cl) (hb:cl.callee= .builtin .append) (ha:cl.args.toList=[s,x]) (IR:cl.argTypes.toList=[t,u])
 (hI:c.tv t=some I) (hL:I.wR=true) (hE:c.tv I.elem=some E) (hT:jI P c.ti) (h:bP c Z e st a w)
 (hK:(bif Nat.beq t u then Hu I E st (aH c st x) fun ys=>N8 (bp c.bs (o.dst.getD 0)) (o.dst.getD 0) st I E (aH c st s) ys (fun sl st=>bc c st o.dst sl K)
  else K6 c u E (aH c st x) fun ys=>N8 (bp c.bs (o.dst.getD 0)) (o.dst.getD 0) st I E (aH c st s) ys (fun sl st=>bc c st o.dst sl K))=some r):o.wp P a w (Out c Z K r e.φ w) Q:=by
 obtain ⟨oQ,_⟩:=bK hI
 obtain ⟨ql,_⟩:=bK hE
 obtain ⟨hu,E2,BP,_,jx⟩:=TI.lB (hT t I oQ) hL
 rw [ql] at BP
 cases BP
 obtain ⟨hx,_⟩:=h.eval x
 cases sH:Nat.beq t u with
 |true=>
  simp only [sH,cond_true] at hK
  obtain rfl:=Nat.eq_of_beq_eq_true sH
  obtain ⟨ys,news,vF,hK⟩:=BN h ql jx hx hK
  exact Jq ho hb ha IR hI hL hE hT h (vF.apx hu) vF.VP hK
 |false=>
  simp only [sH,cond_false] at hK
  unfold K6 at hK
  split at hK
  ·rename_i T l hTu Tx
   cases QT:T.PH&&N7 E with
   |false=>simp [QT] at hK
   |true=>
    simp only [QT,cond_true] at hK
    simp only [Bool.and_eq_true] at QT
    obtain ⟨hTi,_⟩:=bK hTu
    have hd:=TI.Dq (hT u T hTi) QT.1
    obtain ⟨he,qk⟩:=Nb (hT _ E ql) QT.2
    rw [Tx] at hx
    obtain ⟨b,W8,rfl⟩:=BL hx
    refine Jq ho hb ha IR hI hL hE hT h (news:=b.data.toList.map fun x=> .int .u8 (x.toNat:Int)) ?_ ?_ hK
    ·rw [qk,W8]
     have:=VQ.str (w:=w) (el:=I.elem) hd b
     rwa [show (I6 b.data.toList).length=b.size by unfold I6;rw [List.length_map];rfl]
    ·rw [qk];exact Nc _
  ·cases hK
end
end Dn
