import GoSem.Dispatch
import Derived.Orders
import Derived.Calls
import Derived.Laws.AppendOwn
import Derived.Laws.AppendOwnNone
import Derived.Deep.MidRow
import Derived.Laws.Strings
import Derived.Laws.Tables
import Derived.Great.FillDense
import Derived.Maps.AppendAt
/-
  An abstract run of Go functions over values that no one changes: definitions. Conditions: none.
-/
set_option linter.unusedVariables false
namespace Dn
open Go
structure dW where
 l:List UInt8
 h:l.length=32
theorem dW.ext' {a b:dW} (e:a.l=b.l):a=b:=by cases a;cases b;cases e;rfl
instance:DecidableEq dW:=fun a b=>if e:a.l=b.l then .isTrue (dW.ext' e) else .isFalse (fun h=>e (by rw [h]))
def dW.zero:dW:=⟨[0,0,0,0,0,0,0,0,0,0,0,0,0,0,0,0,0,0,0,0,0,0,0,0,0,0,0,0,0,0,0,0],rfl⟩
def dW.put (x:dW) (i:Nat) (b:UInt8):dW:=⟨x.l.set i b,by simp [x.h]⟩
inductive MV where
 |b (x:Bool)
 |i (k:IntKind) (n:Int)
 |s (l:List UInt8)
 |h (x:dW)
 |raw (v:Value)
 |list (xs:List MV)
 |agg (cs:List MV)
 |fS (vs:List MV)
 |func (f:Nat) (cap:List MV)
 |rp (cs:List MV)
 |fresh (xs:List MV)
 |cell (m:MV)
 |rz (r:MV) (outs:List MV)
 |clip (xs:List MV)
instance:Inhabited MV:=⟨.b false⟩
mutual
def MV.w:MV→Nat
 | .h _=>32
 | .agg cs=>MV.wl cs
 |_=>1
def MV.wl:List MV→Nat
 |[]=>0
 |m::r=>m.w+MV.wl r
end
def o4 (n:Nat) (l:List MV):Bool:=l.all fun m=>Nat.beq m.w n
inductive Kd where
 |b|i (k:IntKind)|s|l|h|raw
structure MS where
 st:Bool
 lay:List Kd
 b:Bool
def MS.it:MS:=⟨true,[],true⟩
def q9 (s:MS):Bool:=match s.lay with
 |[]=>s.st
 |_=>false
inductive ah where
 |un
 |p (m:MV)
 |hs (x:dW)
 |nil
 |own (dA:Nat)
 |mp (s:MS) (es:List MV)
def ah.w:ah→Nat
 | .hs _=>32
 |_=>1
inductive Slot where
 |skip
 |sc (l:ah)
 |ag (cs:List ah)
 |tg (cs:List ah)
 |fS (vs:List Slot)
 |box (cs:List ah)
 |mQ (cs:List ah)
 |ptr (root off:Nat)
 |mR (root:Nat)
 |rp (cs:List ah) (off:Nat)
 |hp (root off:Nat) (i:Nat)
 |ep (dA:Nat) (i:Nat) (off:Nat) (st:Bool) (cs:List ah)
abbrev Fr:=List (Nat×Slot)
structure TI where
 st:Bool
 size:Nat
 bytes:Nat
 lay:List Kd
 zero:List ah
 wm:List Nat
 zX:List Nat
 elem:Nat
 a7:List Nat
section
variable {R:Type}
def gB (m:MV) (K:Bool→Option R):Option R:=match m with| .b x=>K x|_=>none
def gI (k:IntKind) (m:MV) (K:Int→Option R):Option R:=match m with| .i k' n=>bif decide (k'=k) then K n else none|_=>none
def gS (m:MV) (K:List UInt8→Option R):Option R:=match m with| .s l=>K l|_=>none
def gL (m:MV) (K:List MV→Option R):Option R:=match m with| .list l=>K l|_=>none
def gH (m:MV) (K:dW→Option R):Option R:=match m with| .h l=>K l|_=>none
def gA (m:MV) (K:List MV→Option R):Option R:=match m with| .agg l=>K l|_=>none
def gT (m:MV) (K:List MV→Option R):Option R:=match m with| .fS l=>K l|_=>none
def gF (m:MV) (K:List MV→Option R):Option R:=match m with| .fresh l=>K l|_=>none
def KR (m:MV) (K:List MV→Option R):Option R:=match m with| .clip l=>K l|_=>none
def F7 (m:MV) (K:Nat→List MV→Option R):Option R:=match m with| .func f c=>K f c|_=>none
def gW (m:MV) (K:MV→List MV→Option R):Option R:=match m with| .rz r outs=>K r outs|_=>none
def gP (m:MV) (K:List MV→Option R):Option R:=match m with| .rp c=>K c|_=>none
def KS (m:MV) (K:Nat→Nat→Option R):Option R:=match m with| .raw (.complex .f64 a b)=>K a b|_=>none
def gR (m:MV) (K:MV→Option R):Option R:=match m with| .raw v=>K (.raw v)| .func f c=>K (.func f c)| .rp c=>K (.rp c)|_=>none
def gC (l:List MV) (K:MV→List MV→Option R):Option R:=match l with|m::r=>K m r|[]=>none
def gN (l:List MV) (K:Option R):Option R:=match l with|[]=>K|_=>none
def bd {α:Type} (x:Option α) (K:α→Option R):Option R:=match x with|some a=>K a|none=>none
def GX (l:List MV) (i:Int):Option MV:=if 0≤i then l[i.toNat]? else none
def idx (l:List MV) (i:Int) (K:MV→Option R):Option R:=
 match GX l i with|some x=>K x|none=>none
def cR (c:Bool) (K:Option R):Option R:=match c with|true=>K|false=>none
def b3 (c:Bool) (x y:Option R):Option R:=match c with|true=>x|false=>y
def Br:List Nat→Nat→(Nat→Option R)→Option R
 |[],_,_=>none
 |[p],e,K=>bif Nat.beq e p then K p else none
 |p::q::r,e,K=>bif Nat.beq e p then K p else Br (q::r) e K
def dL (k:Kd) (m:MV) (K:ah→Option R):Option R:=
 match k with
 | .b=>gB m fun x=>K (.p (.b x))
 | .i k=>gI k m fun x=>K (.p (.i k x))
 | .s=>gS m fun x=>K (.p (.s x))
 | .l=>gL m fun x=>K (.p (.list x))
 | .h=>gH m fun x=>K (.hs x)
 | .raw=>gR m fun m=>K (.p m)
def kg:List Kd→List MV→(List ah→Option R)→Option R
 |[],l,K=>gN l (K [])
 |k::ks,l,K=>gC l fun m r=>dL k m fun x=>kg ks r fun xs=>K (x::xs)
end
def iter {σ R:Type} (body:σ→Option (Sum σ R)):Nat→σ→Option R
 |0,_=>none
 |n+1,s=>match body s with
  |some (.inl s')=>iter body n s'
  |some (.inr r)=>some r
  |none=>none
open Classical in
noncomputable def Loop {σ R:Type} (body:σ→Option (Sum σ R)) (s:σ):Option R:=
 if h: ∃r n,iter body n s=some r then some (Classical.choose h) else none
def ae:Fr→Nat→Slot
 |[],_=> .sc .un
 |(k,s)::r,t=>bif Nat.beq k t then s else ae r t
def tp {R:Type}:Fr→Nat→Slot→(Fr→Option R)→Option R
 |[],t,v,K=>K [(t,v)]
 |(k,s)::r,t,v,K=>bif Nat.beq k t then K ((k,v)::r) else tp r t v fun r=>K ((k,s)::r)
def force {R:Type} (s:Slot) (K:Slot→Option R):Option R:=match s with
 | .skip=>K .skip
 | .sc l=>K (.sc l)
 | .ag cs=>K (.ag cs)
 | .tg cs=>K (.tg cs)
 | .fS vs=>K (.fS vs)
 | .box cs=>K (.box cs)
 | .mQ cs=>K (.mQ cs)
 | .ptr r o=>K (.ptr r o)
 | .mR r=>K (.mR r)
 | .rp cs o=>K (.rp cs o)
 | .hp r o i=>K (.hp r o i)
 | .ep f i o b cs=>K (.ep f i o b cs)
def aB:List Nat→Nat→Bool
 |[],_=>false
 |k::r,t=>bif Nat.beq k t then true else aB r t
def om (t:Nat):Bool:=Nat.ble 1000000 t
def posOf (t:Nat):Nat:=(t-1000000)%1000
def F8 (t:Nat):Nat:=(t-1000000)/1000
def Lq:List (Nat×Nat)→Nat→Option Nat
 |[],_=>none
 |(k,x)::r,t=>bif Nat.beq k t then some x else Lq r t
def bE:Slot→Bool
 | .ptr _ _| .hp _ _ _| .ep _ _ _ _ _| .rp _ _| .mR _=>true
 |_=>false
def kV {R:Type} (ds:List Nat):Fr→(Fr→Option R)→Option R
 |[],K=>K []
 |(k,s)::r,K=>bif bE s||aB ds k then kV ds r K else kV ds r fun r=>K ((k,s)::r)
def bn:Slot→Bool
 | .box _| .mQ _=>true
 |_=>false
def pick {R:Type} (ks:List Nat):Fr→(Fr→Option R)→Option R
 |[],K=>K []
 |(k,s)::r,K=>bif aB ks k&&!bE s then pick ks r fun r=>K ((k,s)::r) else pick ks r K
structure fX where
 ty:Nat
 bU:Bool
 xs:List MV
structure St where
 bh:List Nat
 aY:List Nat
 fr:Fr
 ao:List (Nat×fX)
def aj:List (Nat×fX)→Nat→Option fX
 |[],_=>none
 |(k,s)::r,t=>bif Nat.beq k t then some s else aj r t
def xU {R:Type}:List (Nat×fX)→Nat→fX→(List (Nat×fX)→Option R)→Option R
 |[],t,v,K=>K [(t,v)]
 |(k,s)::r,t,v,K=>bif Nat.beq k t then K ((k,v)::r) else xU r t v fun r=>K ((k,s)::r)
def kB (a b:IntKind):Bool:=decide (a=b)
def F9:Kd→Kd→Bool
 | .b,.b=>true
 | .i k,.i k'=>kB k k'
 | .s,.s=>true
 | .l,.l=>true
 | .h,.h=>true
 | .raw,.raw=>true
 |_,_=>false
def ra:List Kd→List Kd→Bool
 |[],[]=>true
 |x::xs,y::ys=>F9 x y&&ra xs ys
 |_,_=>false
def Iz (s t:MS):Bool:=(s.st==t.st)&&(ra s.lay t.lay&&(s.b==t.b))
def kh {R:Type} (f:Nat):List ah→(List ah→Option R)→Option R
 |[],K=>K []
 |l::r,K=>(match l with
  | .own g=>bif Nat.beq g f then kh f r fun r=>K (.un::r) else kh f r fun r=>K (.own g::r)
  |l=>kh f r fun r=>K (l::r))
def rB {R:Type} (f:Nat) (s:Slot) (K:Slot→Option R):Option R:=match s with
 | .sc (.own g)=>bif Nat.beq g f then K (.sc .un) else K (.sc (.own g))
 | .ag cs=>kh f cs fun cs=>K (.ag cs)
 | .tg cs=>kh f cs fun cs=>K (.tg cs)
 | .box cs=>kh f cs fun cs=>K (.box cs)
 | .ep g i o b cs=>bif Nat.beq g f then K (.sc .un) else K (.ep g i o b cs)
 |s=>K s
def IZ {R:Type} (f:Nat):Fr→(Fr→Option R)→Option R
 |[],K=>K []
 |(k,s)::r,K=>rB f s fun s=>IZ f r fun r=>K ((k,s)::r)
section
variable {R:Type}
def fK (st:St) (l:ah) (K:MV→St→Option R):Option R:=
 match l with
 | .un=>none
 | .p m=>K m st
 | .hs x=>K (.h x) st
 | .nil=>K (.list []) st
 | .mp _ _=>none
 | .own f=>match aj st.ao f with
  |some o=>bif o.bU then K (.list o.xs) st else bif aB st.aY f then none else (match st with|⟨p,q,r,m⟩=>xU m f ⟨o.ty,true,o.xs⟩ fun m=>K (.list o.xs) ⟨p,q,r,m⟩)
  |none=>none
def iw (st:St):List ah→(List MV→St→Option R)→Option R
 |[],K=>K [] st
 |l::r,K=>fK st l fun m st=>iw st r fun ms st=>K (m::ms) st
def iR (st:St) (s:Slot) (K:MV→St→Option R):Option R:=
 match s with
 | .sc l=>fK st l K
 | .ag cs=>iw st cs fun ms st=>K (.agg ms) st
 | .rp cs off=>bif Nat.beq off 0 then iw st cs fun ms st=>K (.rp ms) st else none
 |_=>none
def lH (st:St):List Slot→(List MV→St→Option R)→Option R
 |[],K=>K [] st
 |l::r,K=>iR st l fun m st=>lH st r fun ms st=>K (m::ms) st
end
def mS:List ah→Nat
 |[]=>0
 |k::r=>k.w+mS r
def cut:List ah→Nat→Option (List ah)
 |cs,0=>some cs
 |c::cs,n+1=>bif Nat.ble c.w (n+1) then cut cs (n+1-c.w) else none
 |_,_=>none
def wo:List ah→Nat→Option (List ah)
 |_,0=>some []
 |c::cs,n+1=>bif Nat.ble c.w (n+1) then (match wo cs (n+1-c.w) with|some b=>some (c::b)|none=>none) else none
 |_,_=>none
def part (cs:List ah) (off n:Nat):Option (List ah):=
 match cut cs off with
 |some a=>wo a n
 |none=>none
def over:List ah→List ah→Option (List ah)
 |[],cs=>some cs
 |v::vs,c::cs=>bif Nat.beq v.w c.w then (match over vs cs with|some r=>some (v::r)|none=>none) else none
 |_,[]=>none
def putAt:List ah→Nat→List ah→Option (List ah)
 |cs,0,vs=>over vs cs
 |c::cs,n+1,vs=>bif Nat.ble c.w (n+1) then (match putAt cs (n+1-c.w) vs with|some r=>some (c::r)|none=>none) else none
 |_,_,_=>none
def app {α:Type}:List α→List α→Option (List α)
 |[],l=>some l
 |x::r,l=>(match app r l with|some q=>some (x::q)|none=>none)
def wq:ah→Bool
 | .un=>true
 | .mp _ _=>true
 |_=>false
def ct:List ah→Bool
 |[.mp _ _]=>true
 |_=>false
def pU:Slot→Bool
 | .box cs=>!ct cs
 |_=>false
def rC {R:Type} (ok:Nat→Bool) (r0:Fr):Fr→Fr→(Fr→Option R)→Option R
 |[],fr,K=>K fr
 |(t,s)::r,fr,K=>match s with
  | .ptr root off=>bif ok t&&(!om root&&(pU (ae r0 root)&&(pU (ae fr root)&&!bn (ae fr t)))) then tp fr t (.ptr root off) fun fr=>rC ok r0 r fr K else rC ok r0 r fr K
  |_=>rC ok r0 r fr K
def eF:List ah→Bool
 |[.mp s _]=>!q9 s
 |_=>false
def kW:List ah→Bool
 |[]=>false
 |l::r=>bif wq l then true else kW r
def IA {R:Type} (f:Nat):Fr→(Fr→Option R)→Option R
 |[],K=>K []
 |(k,s)::r,K=>(match s with
  | .ep g i o b cs=>bif Nat.beq g f then IA f r fun r=>K ((k,.sc .un)::r) else IA f r fun r=>K ((k,.ep g i o b cs)::r)
  |s=>IA f r fun r=>K ((k,s)::r))
inductive LK where
 |k (x:Kd)
 |own (f:Nat) (ty:Nat) (bU:Bool)
inductive OK where
 |sc (l:LK)
 |ag (ls:List LK)
 |box (ls:List LK)
 |mp (s:MS)
 |pt (root off:Nat)
structure jv where
 bh:List Nat
 aY:List Nat
 outs:List (Nat×OK)
 Ns:List (Nat×List (Nat×OK))
 bU:List Nat
instance:Inhabited jv:=⟨⟨[],[],[],[],[]⟩⟩
def BH:List (Nat×List (Nat×OK))→Nat→List (Nat×OK)
 |[],_=>[]
 |(k,l)::r,e=>bif Nat.beq k e then l else BH r e
def jv.ex (h:jv) (e:Nat):List (Nat×OK):=BH h.Ns e
def zj:List (Nat×List (Nat×OK))→List (Nat×OK)
 |[]=>[]
 |(_,l)::r=>l++zj r
def jv.all (h:jv):List (Nat×OK):=h.outs++zj h.Ns
structure Ctx where
 ti:Nat→Option TI
 key:Nat→Nat
 g:Nat→List MV→Option MV
 cy:Nat→Bool
 fresh:Nat→Bool
 hO:Nat→Nat
 sig:Nat→Option (Nat×List LK)
 par:List (Nat×Nat)
 n:Nat
 bs:List Nat
 fl:List Nat
 fz:Nat→List Nat
 fk:Nat→Option FloatKind
 mt:Nat→Option (Nat×Bool)
 ord:Nat→List Nat
 rD:Nat→jv
 tX:Nat→jv
 tj:Nat→jv
 u5:Nat→Bool
 dyn:List Nat
def Ctx.tv (c:Ctx) (t:Nat):Option TI:=match c.ti t with|some I=>(match I.a7 with|[]=>some I|_=>none)|none=>none
def nz:Value→Slot
 | .bool b=> .sc (.p (.b b))
 | .int k n=> .sc (.p (.i k n))
 | .string s=> .sc (.p (.s s.data.toList))
 | .slice none 0 0=> .sc .nil
 | .float k b=> .sc (.p (.raw (.float k b)))
 | .complex k a b=> .sc (.p (.raw (.complex k a b)))
 | .pointer none=> .sc (.p (.raw (.pointer none)))
 | .nilFunc=> .sc (.p (.raw .nilFunc))
 | .nilIface=> .sc (.p (.raw .nilIface))
 |_=> .sc .un
def ai (c:Ctx) (st:St):Operand→Slot
 | .tmp t=>match Lq c.par t with
  |some q=>bif om q&&Nat.beq (posOf q) t then (match ae st.fr q with| .box cs=>bif ct cs then .sc .un else .ptr q (F8 q)|_=> .sc .un) else .sc .un
  |none=>match ae st.fr t with
   | .box cs=>bif om t then .sc .un else bif eF cs then .mR t else .ptr t 0
   | .mQ cs=> .rp cs 0
   |s=>s
 | .const v=>nz v
 | .func f=> .sc (.p (.func (c.key f) []))
 | .global _=> .sc .un
def dF (c:Ctx) (st:St):List Operand→List Slot
 |[]=>[]
 |o::r=>ai c st o::dF c st r
section
variable {R:Type}
def wr (st:St) (d:Nat) (s:Slot) (K:St→Option R):Option R:=
 bif aB st.bh d then none else (match st with|⟨p,q,r,m⟩=>force s fun s=>tp r d s fun r=>K ⟨p,q,r,m⟩)
def aw (c:Ctx) (st:St) (d:Option Nat) (s:Slot) (K:St→Option R):Option R:=
 match d with
 |some d=>bif om d||(Nat.ble c.n d||bn (ae st.fr d)) then none else wr st d s K
 |none=>K st
def c9 (st:St) (f:Nat) (o:fX) (K:St→Option R):Option R:=
 bif aB st.aY f then none else (match st with|⟨p,q,r,m⟩=>IZ f r fun r=>xU m f o fun m=>K ⟨p,q,r,m⟩)
def dX (I:TI) (cs:List ah) (off:Nat) (K:Slot→Option R):Option R:=
 bif I.st then (match part cs off I.size with|some a=>K (.ag a)|none=>none)
 else (match cut cs off with|some (l::_)=>bif Nat.beq l.w I.size then K (.sc l) else none|_=>none)
def Lr (st:St) (I:TI) (a:Slot) (K:Slot→Option R):Option R:=
 match a with
 | .ptr root off=>match ae st.fr root with
  | .box cs=>bif ct cs then none else dX I cs off K
  |_=>none
 | .rp cs off=>dX I cs off K
 | .ep f _ off _ cs=>(match aj st.ao f with|some _=>dX I cs off K|none=>none)
 | .hp root off i=>bif I.st||!Nat.beq I.size 1 then none else (match ae st.fr root with
  | .box cs=>bif ct cs then none else (match cut cs off with|some (.hs x::_)=>K (.sc (.p (.i .u8 (x.l.getD i 0).toNat)))|_=>none)
  |_=>none)
 |_=>none
def ak:Slot→List ah
 | .sc l=>[l]
 | .ag cs=>cs
 |_=>[]
def aF:List ah→Option (List MV)
 |[]=>some []
 |l::r=>match l,aF r with
  | .p m,some q=>some (m::q)
  | .hs x,some q=>some (.h x::q)
  |_,_=>none
def iS:List ah→List MV→Option (List ah)
 |[],[]=>some []
 | .hs x::r,_::ms=>(match iS r ms with|some q=>some (.hs x::q)|none=>none)
 |_::r,m::ms=>(match iS r ms with|some q=>some (.p m::q)|none=>none)
 |_,_=>none
def kG (b:Bool) (cs:List MV):Option MV:=match b,cs with
 |false,[m]=>some m
 |true,cs=>some (.agg cs)
 |_,_=>none
def isByte (n:Int):Bool:=decide (n=((UInt8.ofNat n.toNat).toNat:Int))
def Ls (st:St) (I:TI) (a v:Slot) (K:St→Option R):Option R:=
 bif kW (ak v)||!Nat.beq (mS (ak v)) I.size then none else
 match a with
 | .ptr root off=>match ae st.fr root with
  | .box cs=>bif ct cs then none else (match putAt cs off (ak v) with|some cJ=>wr st root (.box cJ) K|none=>none)
  |_=>none
 | .hp root off i=>match ae st.fr root,v with
  | .box cs,.sc (.p n)=>bif ct cs then none else (match cut cs off with
   |some (.hs x::_)=>gI .u8 n fun n=>cR (isByte n) (match putAt cs off [.hs (x.put i (UInt8.ofNat n.toNat))] with|some cJ=>wr st root (.box cJ) K|none=>none)
   |_=>none)
  |_,_=>none
 | .ep f i off b cs=>iw st (ak v) fun ms st=>match aj st.ao f with
  |some o=>bif o.bU then none else
   (match iS (ak v) ms with
   |some vs=>(match putAt cs off vs with
    |some cJ=>(match aF cJ with
     |some Lt=>(match kG b Lt with
      |some x=>bif aB st.aY f then none else
       (match st with|⟨p,q,r,m⟩=>IA f r fun r=>xU m f ⟨o.ty,false,o.xs.set i x⟩ fun m=>K ⟨p,q,r,m⟩)
      |none=>none)
     |none=>none)
    |none=>none)
   |none=>none)
  |none=>none
 |_=>none
def u6 (I:TI) (x:MV) (K:List ah→Option R):Option R:=
 bif I.st then gA x fun cs=>kg I.lay cs K
 else match I.lay with
  |[k]=>dL k x fun x=>K [x]
  |_=>none
def mT (I:TI) (x:MV) (K:Slot→Option R):Option R:=
 bif I.st then gA x fun cs=>kg I.lay cs fun cs=>K (.ag cs)
 else match I.lay with
  |[k]=>dL k x fun x=>K (.sc x)
  |_=>none
def mU (c:Ctx):List Nat→List MV→(List Slot→Option R)→Option R
 |[],l,K=>gN l (K [])
 |t::ts,l,K=>match c.tv t with
  |some I=>gC l fun m r=>mT I m fun s=>mU c ts r fun ss=>K (s::ss)
  |none=>none
def jg (c:Ctx) (I:TI) (x:MV) (K:Slot→Option R):Option R:=
 match I.a7 with
 |[]=>mT I x K
 |ts=>gT x fun vs=>mU c ts vs fun ss=>K (.fS ss)
def pV:ah→ah→Option Bool
 | .p (.b x),.p (.b y)=>some (decide (x=y))
 | .p (.i k x),.p (.i k' y)=>bif decide (k=k') then some (decide (x=y)) else none
 | .p (.s x),.p (.s y)=>some (decide (x=y))
 | .hs x,.hs y=>some (decide (x=y))
 |_,_=>none
def dG:List ah→List ah→Option Bool
 |[],[]=>some true
 |[x],[y]=>pV x y
 |x::xs,y::ys=>match pV x y,dG xs ys with
  |some a,some b=>some (a&&b)
  |_,_=>none
 |_,_=>none
def u7 (op:BinOp) (x y:List UInt8):Option MV:=
 match op with
 | .eql=>some (.b (decide (x=y)))
 | .neq=>some (.b (!decide (x=y)))
 | .lss=>some (.b (Op.bytesLess x y))
 | .gtr=>some (.b (!(Op.bytesLess x y||decide (x=y))))
 | .leq=>some (.b (Op.bytesLess x y||decide (x=y)))
 | .geq=>some (.b (!Op.bytesLess x y))
 |_=>none
def BI (k:IntKind) (x y:Int):Int:=k.wrap ((BitVec.ofInt k.bits x&&&BitVec.ofInt k.bits y).toNat:Int)
def Nt (k:IntKind) (x y:Int):Int:=k.wrap ((BitVec.ofInt k.bits x|||BitVec.ofInt k.bits y).toNat:Int)
def I3 (k:IntKind) (x y:Int):Int:=k.wrap ((BitVec.ofInt k.bits x^^^BitVec.ofInt k.bits y).toNat:Int)
def zk (op:BinOp) (k:IntKind) (x y:Int):Option MV:=
 match op with
 | .add=>some (.i k (k.wrap (x+y)))
 | .sub=>some (.i k (k.wrap (x-y)))
 | .mul=>some (.i k (k.wrap (x *y)))
 | .and=>some (.i k (BI k x y))
 | .or=>some (.i k (Nt k x y))
 | .xor=>some (.i k (I3 k x y))
 | .eql=>some (.b (decide (x=y)))
 | .neq=>some (.b (!decide (x=y)))
 | .lss=>some (.b (decide (x<y)))
 | .leq=>some (.b (decide (x≤y)))
 | .gtr=>some (.b (decide (y<x)))
 | .geq=>some (.b (decide (y≤x)))
 |_=>none
def fL:Kd→ah→Bool
 | .b,.p (.b _)=>true
 | .i k,.p (.i k' _)=>decide (k'=k)
 | .s,.p (.s _)=>true
 | .h,.hs _=>true
 |_,_=>false
def cm:List Kd→List ah→Bool
 |[],[]=>true
 |k::ks,l::ls=>bif fL k l then cm ks ls else false
 |_,_=>false
def fb (st:Bool):Slot→Bool
 | .ag _=>st
 | .sc _=>!st
 |_=>false
def I4 (op:BinOp) (a b:Nat):Option Nat:=match op with
 | .add=>FloatKind.f64.format.add a b
 | .sub=>FloatKind.f64.format.sub a b
 | .mul=>FloatKind.f64.format.mul a b
 |_=>none
def GY (oI:Option TI) (op:BinOp) (x y:Slot) (K:Slot→Option R):Option R:=
 match x,y with
 | .sc (.p (.i k a)),.sc (.p (.i k' b))=>
  (match op with
   | .quo=>bif decide (k=k') then cR (!decide (b=0)) (K (.sc (.p (.i k (k.wrap (a.tdiv b)))))) else none
   | .rem=>bif decide (k=k') then cR (!decide (b=0)) (K (.sc (.p (.i k (a.tmod b))))) else none
   | .shr=>cR (decide (0≤b)) (K (.sc (.p (.i k (a.fdiv (2^min b.toNat k.bits))))))
   | .shl=>cR (decide (0≤b)) (K (.sc (.p (.i k (k.wrap (a *2^min b.toNat k.bits))))))
   |_=>bif decide (k=k') then (match zk op k a b with|some m=>K (.sc (.p m))|none=>none) else none)
 | .sc (.p (.s a)),.sc (.p (.s b))=>(match op with
  | .add=>cR (decide (a.length+b.length≤2^46)) (K (.sc (.p (.s (a++b)))))
  |_=>(match u7 op a b with|some m=>K (.sc (.p m))|none=>none))
 | .sc (.p (.raw (.float .f64 a))),.sc (.p (.raw (.float .f64 b)))=>bd (I4 op a b) fun r=>K (.sc (.p (.raw (.float .f64 r))))
 |x,y=>match oI with
  |some I=>bif cm I.lay (ak x)&&cm I.lay (ak y)&&(fb I.st x&&fb I.st y) then (match op with
   | .eql=>(match dG (ak x) (ak y) with|some b=>K (.sc (.p (.b b)))|none=>none)
   | .neq=>(match dG (ak x) (ak y) with|some b=>K (.sc (.p (.b (!b))))|none=>none)
   |_=>none) else none
  |none=>none
def sliceB (lo hi:Option Slot) (len:Nat) (K:Nat→Nat→Option R):Option R:=
 match lo,hi with
 |none,none=>K 0 len
 |some (.sc (.p (.i _ l))),none=>cR (decide (0≤l∧l≤(len:Int)∧(len:Int)≤(len:Int))) (K l.toNat (Int.toNat (len:Int)))
 |none,some (.sc (.p (.i _ h)))=>cR (decide (0≤(0:Int)∧(0:Int)≤h∧h≤(len:Int))) (K (Int.toNat 0) h.toNat)
 |some (.sc (.p (.i _ l))),some (.sc (.p (.i _ h)))=>cR (decide (0≤l∧l≤h∧h≤(len:Int))) (K l.toNat h.toNat)
 |_,_=>none
def eW (c:Ctx) (st:St):Option Operand→Option Slot
 |some o=>some (ai c st o)
 |none=>none
def mV:List ah→Option (List MV)
 |[]=>some []
 |l::r=>match l,mV r with
  | .p m,some q=>some (m::q)
  | .hs x,some q=>some (.h x::q)
  | .nil,some q=>some (.list []::q)
  |_,_=>none
def BJ (d:Nat) (st:St) (I E:TI) (x y:Slot) (K:Slot→St→Option R):Option R:=match x,y with
 | .sc (.p (.i _ n)),.sc (.p (.i _ m))=>bif Nat.ble 1 E.bytes then cR (decide ((0:Int)≤n∧n=m∧n *E.bytes≤2^46)) (match mV E.zero with
  |some zs=>(match kG E.st zs with
   |some z=>c9 st d ⟨I.elem,false,List.replicate n.toNat z⟩ fun st=>K (.sc (.own d)) st
   |none=>none)
  |none=>none) else none
 |_,_=>none
def TI.n5 (I:TI):Bool:=match I.st,I.lay with|false,[.l]=>true|_,_=>false
def TI.Bs (I:TI):Bool:=match I.st,I.lay with|false,[.s]=>true|_,_=>false
def zY (E:TI):Bool:=match E.st,E.lay with
 |false,[.i k]=>decide (k= .u8)
 |_,_=>false
def zZ (l:List UInt8):List MV:=l.map fun b=> .i .u8 (b.toNat:Int)
def xV (c:Ctx) (u:Nat) (E:TI) (x:Slot) (K:List MV→Option R):Option R:=match c.tv u,x with
 |some T,.sc (.p (.s l))=>bif T.Bs&&zY E then K (zZ l) else none
 |_,_=>none
def u9 (I E:TI) (st:St) (x:Slot) (K:List MV→Option R):Option R:=match x with
 | .sc (.p (.list xs))=>cR (o4 E.size xs) (K xs)
 | .sc .nil=>K []
 | .sc (.own f)=>(match aj st.ao f with|some o=>bif Nat.beq o.ty I.elem then K o.xs else none|none=>none)
 |_=>none
def oo (c:Ctx) (st:St) (I:TI):List (Nat×Operand)→List ah→Option (List ah)
 |[],cs=>some cs
 |(i,o)::r,cs=>match I.wm[i]?,I.zX[i]? with
  |some q,some y=>(match c.tv y with
   |some J=>bif kW (ak (ai c st o))||!Nat.beq (mS (ak (ai c st o))) J.size then none else
    (match putAt cs q (ak (ai c st o)) with|some cJ=>oo c st I r cJ|none=>none)
   |none=>none)
  |_,_=>none
def rE (c:Ctx) (st:St):List (Nat×Operand)→dW→(dW→Option R)→Option R
 |[],x,K=>K x
 |(i,o)::r,x,K=>match ai c st o with
  | .sc (.p m)=>bif Nat.ble 32 i then none else gI .u8 m fun n=>cR (isByte n) (rE c st r (x.put i (UInt8.ofNat n.toNat)) K)
  |_=>none
def BK (c:Ctx) (st:St):List (Nat×Operand)→Nat→(List MV→St→Option R)→Option R
 |[],_,K=>K [] st
 |(i,o)::r,n,K=>bif Nat.beq i n then iR st (ai c st o) fun m st=>BK c st r (n+1) fun ms st=>K (m::ms) st else none
def o6 (c:Ctx) (st:St):List Operand→(List MV→St→Option R)→Option R
 |[],K=>K [] st
 |o::r,K=>match ai c st o with
  | .ptr root 0=>(match ae st.fr root with
   | .box cs=>bif kW cs||om root then none else iw st cs fun ms st=>(match iS cs ms with|some cJ=>wr st root (.mQ cJ) fun st=>o6 c st r fun xs st=>K (.rp ms::xs) st|none=>none)
   |_=>none)
  | .rp cs 0=>iw st cs fun ms st=>o6 c st r fun xs st=>K (.rp ms::xs) st
  |_=>none
def o7 (c:Ctx) (k:Nat) (st:St) (s:Slot) (K:MV→St→Option R):Option R:=match s with
 | .sc (.own f)=>(match aj st.ao f with
  |some o=>bif o.bU||!Nat.beq o.ty (c.hO k) then none else c9 st f ⟨o.ty,true,[]⟩ fun st=>K (.fresh o.xs) st
  |none=>none)
 | .sc .nil=>(match c.tv (c.hO k) with|some _=>K (.fresh []) st|none=>none)
 |_=>none
def zl (c:Ctx) (k:Nat) (st:St) (ss:List Slot) (K:List MV→St→Option R):Option R:=
 bif c.cy k then (match ss with
  |[s0,s1,s2]=>(match s2 with
   | .sc (.p m2)=>iR st s1 fun m1 st=>o7 c k st s0 fun m0 st=>K [m0,m1,m2] st
   |s2=>iR st s1 fun m1 st=>o7 c k st s0 fun m0 st=>o7 c k st s2 fun m2 st=>K [m0,m1,m2] st)
  |_=>none)
 else lH st ss K
def I5 (x y:Int):Int:=if y<x then y else x
def imax (x y:Int):Int:=if y>x then y else x
def BL (mx:Bool) (k:IntKind):Int→List Slot→Option MV
 |x,[]=>some (.i k x)
 |x,.sc (.p (.i k' y))::r=>bif decide (k'=k) then BL mx k (bif mx then imax x y else I5 x y) r else none
 |_,_=>none
def xW (mx:Bool):List Slot→Option MV
 | .sc (.p (.i k n))::r=>BL mx k n r
 |_=>none
def Ez:List Nat→Bool
 |[]=>false
 |_=>true
def rF (c:Ctx):List Nat→List MV→(List ah→Option R)→Option R
 |[],l,K=>gN l (K [])
 |t::ts,l,K=>match c.tv t with
  |some I=>gC l fun m r=>mT I m fun s=>(match s with| .sc (.p m)=>rF c ts r fun ls=>K (.p m::ls)|_=>none)
  |none=>none
def rG (c:Ctx) (d:Nat) (st:St) (f:Nat) (r:MV) (ts:List Nat) (K:Slot→St→Option R):Option R:=match ts with
 |[]=>none
 |t0::ts=>(match c.tv t0 with
  |some I0=>bif !Nat.beq I0.elem (c.hO f) then none else gT r fun vs=>gC vs fun x vs=>gF x fun xs=>rF c ts vs fun ls=>c9 st d ⟨I0.elem,false,xs⟩ fun st=>(bif aB c.bs d then fK st (.own d) fun m st=>K (.tg (.p m::ls)) st else K (.tg (.own d::ls)) st)
  |none=>none)
def BM (c:Ctx) (d:Nat) (st:St) (f:Nat) (ms:List MV) (I:TI) (K:Slot→St→Option R):Option R:=
 bd (c.g f ms) fun r=>bif c.fresh f then bif Nat.beq (c.hO f) 0 then KR r fun xs=>K (.sc (.p (.clip xs))) st else bif Ez I.a7 then rG c d st f r I.a7 K else gF r fun xs=>bif !Nat.beq I.elem (c.hO f) then none else c9 st d ⟨I.elem,false,xs⟩ fun st=>(bif aB c.bs d then fK st (.own d) fun m st=>K (.sc (.p m)) st else K (.sc (.own d)) st) else jg c I r fun s=>K s st
def GZ (s:Slot) (K:Slot→Option R):Option R:=match s with
 | .ptr r o=>K (.ptr r o)
 | .rp cs o=>K (.rp cs o)
 |_=>none
def BN (x y z:Slot) (K:Slot→Option R):Option R:=match x with
 | .sc (.p (.b v))=>(match y,z with
  | .sc (.p (.b p)),.sc (.p (.b q))=>K (.sc (.p (.b (bif v then p else q))))
  |p,q=>match v with|true=>K p|false=>K q)
 |_=>none
def G0 (I:TI) (s:Slot) (K:Slot→Option R):Option R:=match s with
 | .sc l=>bif I.st||wq l||!Nat.beq l.w I.size then none else K (.box [l])
 | .ag cs=>bif I.st&&!kW cs&&Nat.beq (mS cs) I.size then K (.box cs) else none
 |_=>none
def Lu (op:UnOp) (s:Slot) (K:Slot→Option R):Option R:=match op,s with
 | .not,.sc (.p (.b v))=>K (.sc (.p (.b (!v))))
 | .neg,.sc (.p (.i k n))=>K (.sc (.p (.i k (k.wrap (0-n)))))
 |_,_=>none
def BO (I:TI) (fk:Option FloatKind) (s:Slot) (K:Slot→Option R):Option R:=match I.st,I.a7,I.lay,s with
 |false,[],[.i k],.sc (.p (.i _ n))=>K (.sc (.p (.i k (k.wrap n))))
 |false,[],[.s],.sc (.p (.s l))=>K (.sc (.p (.s l)))
 |false,[],[.i k],.sc (.p (.raw (.float .f64 a)))=>bd ((FloatKind.decode .f64 a).toInt .zero) fun n=>cR (decide (k.min≤n∧n≤k.max)) (K (.sc (.p (.i k n))))
 |false,[],[.raw],.sc (.p (.i _ n))=>(match fk with
  |some .f64=>K (.sc (.p (.raw (.float .f64 (FloatKind.nearest .f64 n)))))
  |_=>none)
 |_,_,_,_=>none
def xX (c:Ctx) (I:TI) (st:St) (s:Slot) (lo hi:Option Slot) (K:Slot→St→Option R):Option R:=match s with
 | .sc (.p (.s l))=>bif I.Bs then sliceB lo hi l.length fun a b=>K (.sc (.p (.s ((l.take b).drop a)))) st else none
 | .sc (.p (.list l))=>bif I.n5 then (match c.tv I.elem with
  |some E=>(match lo with
   |none=>sliceB none hi l.length fun a b=>K (.sc (.p (.list ((l.take b).drop a)))) st
   |some lo=>cR (o4 E.size l) (sliceB (some lo) hi l.length fun a b=>K (.sc (.p (.list ((l.take b).drop a)))) st))
  |none=>none) else none
 | .sc (.own f)=>(match aj st.ao f with
  |some o=>bif I.n5&&Nat.beq o.ty I.elem then fK st (.own f) fun _ st=>sliceB lo hi o.xs.length fun a b=>K (.sc (.p (.list ((o.xs.take b).drop a)))) st else none
  |none=>none)
 | .sc .nil=>bif I.n5 then sliceB lo hi 0 fun _ _=>K (.sc .nil) st else none
 |_=>none
def BP (I:TI) (s h m:Slot) (K:Slot→Option R):Option R:=match s,h,m with
 | .sc (.p (.list l)),.sc (.p (.i .i64 n)),.sc (.p (.i .i64 n'))=>bif I.n5 then cR (decide (n=(l.length:Int)∧n'=(l.length:Int))) (K (.sc (.p (.clip l)))) else none
 |_,_,_=>none
def BQ (st:St) (I:TI) (f:Nat) (s:Slot) (K:Slot→Option R):Option R:=match I.st,I.wm[f]?,s with
 |true,some q,.ptr r o=>K (.ptr r (o+q))
 |true,some q,.rp cs o=>K (.rp cs (o+q))
 |true,some q,.ep g i o b cs=>(match aj st.ao g with|some _=>K (.ep g i (o+q) b cs)|none=>none)
 |_,_,_=>none
def G3 (c:Ctx) (I:TI) (f:Nat) (s:Slot) (K:Slot→Option R):Option R:=match I.st,I.wm[f]?,I.zX[f]?,s with
 |true,some q,some y,.ag cs=>(match c.tv y with|some J=>dX J cs q K|none=>none)
 |_,_,_,_=>none
def G4 (c:Ctx) (st:St) (I E:TI) (x i:Slot) (K:Slot→Option R):Option R:=match x,i with
 | .sc (.p (.list xs)),.sc (.p (.i _ n))=>bif I.n5 then idx xs n fun x=>u6 E x fun cs=>K (.rp cs 0) else none
 | .sc (.own f),.sc (.p (.i _ n))=>(match aj st.ao f with
  |some o=>bif I.n5 then idx o.xs n fun x=>u6 E x fun cs=>K (.ep f n.toNat 0 E.st cs) else none
  |none=>none)
 | .ptr r o,.sc (.p (.i _ n))=>bif I.st then none else (match I.lay with|[.h]=>cR (decide ((0:Int)≤n∧n<32)) (K (.hp r o n.toNat))|_=>none)
 |_,_=>none
def Lv (I:TI) (x i:Slot) (K:Slot→Option R):Option R:=match I.st,I.lay,x,i with
 |false,[.s],.sc (.p (.s l)),.sc (.p (.i _ n))=>cR (decide ((0:Int)≤n∧n<(l.length:Int))) (K (.sc (.p (.i .u8 (l.getD n.toNat 0).toNat))))
 |false,[.h],.sc (.hs x),.sc (.p (.i _ n))=>cR (decide ((0:Int)≤n∧n<32)) (K (.sc (.p (.i .u8 (x.l.getD n.toNat 0).toNat))))
 |_,_,_,_=>none
def o8:List ah→Nat→Option ah
 | .p m::_,0=>some (.p m)
 | .own f::_,0=>some (.own f)
 | .un::_,0=>some .un
 | .p _::r,k+1=>o8 r k
 | .own _::r,k+1=>o8 r k
 | .un::r,k+1=>o8 r k
 |_,_=>none
def G5 (s:Slot) (k:Nat) (K:Slot→Option R):Option R:=match s with
 | .tg cs=>(match o8 cs k with|some l=>K (.sc l)|none=>none)
 | .fS vs=>(match vs[k]? with|some s=>K s|none=>none)
 |_=>none
def BR (I:TI) (st:St) (ss:List Slot) (K:Slot→Option R):Option R:=match ss with
 |[.sc (.p (.s l))]=>bif I.Bs then K (.sc (.p (.i .i64 l.length))) else none
 |[.sc (.p (.list l))]=>bif I.n5 then K (.sc (.p (.i .i64 l.length))) else none
 |[.sc .nil]=>bif I.n5 then K (.sc (.p (.i .i64 0))) else none
 |[.sc (.own f)]=>bif I.n5 then (match aj st.ao f with|some o=>K (.sc (.p (.i .i64 o.xs.length)))|none=>none) else none
 |_=>none
def z1 (pb:Bool) (d:Nat) (st:St) (I E:TI) (s:Slot) (ys:List MV) (K:Slot→St→Option R):Option R:=bif Nat.ble 1 E.bytes then (match s with
 | .sc .nil=>cR (decide (ys.length *E.bytes≤2^46)) (c9 st d ⟨I.elem,false,ys⟩ fun st=>K (.sc (.own d)) st)
 | .sc (.own f)=>(match aj st.ao f with
  |some w=>cR (decide ((w.xs.length+ys.length) *E.bytes≤2^46)) (bif Nat.beq w.ty I.elem then c9 st f ⟨w.ty,w.bU,w.xs++ys⟩ fun st=>K (.sc (.own f)) st else none)
  |none=>none)
 | .sc (.p (.clip xs))=>cR (o4 E.size xs) (cR (decide (0<ys.length∧(xs.length+ys.length) *E.bytes≤2^46)) (c9 st d ⟨I.elem,false,xs++ys⟩ fun st=>bif pb then fK st (.own d) fun m st=>K (.sc (.p m)) st else K (.sc (.own d)) st))
 |_=>none) else none
def vc (c:Ctx) (st:St) (I:TI) (f:Slot) (ss:List Slot) (K:Slot→St→Option R):Option R:=match f with
 | .sc (.p m)=>F7 m fun f bk=>cR (!c.cy f)<|lH st ss fun ms st=>bd (c.g f (ms++bk)) fun r=>jg c I r fun s=>K s st
 |_=>none
def tq:MV→MV→Bool
 | .b x,.b y=>decide (x=y)
 | .i k x,.i k' y=>decide (k=k')&&decide (x=y)
 | .s x,.s y=>decide (x=y)
 | .h x,.h y=>decide (x=y)
 |_,_=>false
def dB:List MV→List MV→Bool
 |[],[]=>true
 |x::xs,y::ys=>tq x y&&dB xs ys
 |_,_=>false
def jx:MV→List MV
 | .fS (.agg k::_)=>k
 |_=>[]
def G6:MV→MV
 | .fS [_,v]=>v
 |_=> .b false
def dc:List MV→List MV→Nat
 |[],_=>0
 |e::r,ks=>bif dB (jx e) ks then 0 else dc r ks+1
def Nu:MV→Int
 | .i _ n=>n
 |_=>0
def Nv:MV→Bool
 | .b x=>x
 |_=>false
def Ga (es:List MV) (ks:List MV):Int:=match es[dc es ks]? with|some e=>Nu (G6 e)|none=>0
def Gb (es:List MV) (ks:List MV):Bool:=match es[dc es ks]? with|some e=>Nv (G6 e)|none=>false
def pW (es ks:List MV) (z:MV):List MV:=bif Nat.beq (dc es ks) es.length then es++[.fS [.agg ks,z]] else es
def tt (es:List MV) (i:Nat) (v:MV):List MV:=match es[i]? with|some e=>es.set i (.fS [.agg (jx e),v])|none=>es
def dC (b:Bool):MV:=bif b then .b false else .i .i64 0
def mC (c:Ctx) (t:Nat):Option MS:=match c.mt t with
 |some (kt,b)=>(match c.tv kt with|some I=>bif q9 ⟨I.st,I.lay,b⟩ then none else some ⟨I.st,I.lay,b⟩|none=>none)
 |none=>none
def wu (s:MS) (k:Slot) (K:List MV→Option R):Option R:=
 bif cm s.lay (ak k)&&fb s.st k then (match aF (ak k) with|some ks=>K ks|none=>none) else none
def tu (st:St) (s:MS) (m:Slot) (K:Nat→List MV→Option R):Option R:=match m with
 | .mR r=>(match ae st.fr r with| .box [.mp s' es]=>bif Iz s s'&&!q9 s' then K r es else none|_=>none)
 |_=>none
def z6 (b:Bool) (s:Slot) (K:MV→Option R):Option R:=match b,s with
 |true,.sc (.p (.b x))=>K (.b x)
 |false,.sc (.p (.i .i64 n))=>K (.i .i64 n)
 |_,_=>none
def qw (st:St) (r:Nat) (s:MS) (es:List MV) (K:St→Option R):Option R:=wr st r (.box [.mp s es]) K
def isLT (c:Ctx) (y:Nat):Bool:=match c.tv y with|some Y=>Y.n5|none=>false
def eX (c:Ctx) (o:Oper):Bool:=match o.op with
 | .assign (.tmp _)=>(match c.mt o.type with|some _=>true|none=>false)
 |_=>false
def rm (c:Ctx) (o:Oper) (st:St) (x:Operand) (K:Slot→St→Option R):Option R:=match x,c.mt o.type with
 | .tmp t,some _=>(match ae st.fr t with
  | .box cs=>bif ct cs then bif aB st.bh t||om t then none else (match st with|⟨p,q,r,m⟩=>kV [t] r fun r=>K (.box cs) ⟨p,q,r,m⟩) else K (ai c st x) st
  |_=>K (ai c st x) st)
 |_,_=>K (ai c st x) st
def pX (s:MS) (es ks:List MV):Slot:=bif s.b then .sc (.p (.b (Gb es ks))) else .sc (.p (.i .i64 (Ga es ks)))
def Gc (c:Ctx) (st:St) (t:Nat) (m k:Slot) (K:Slot→Option R):Option R:=match mC c t with
 |some s=>tu st s m fun _ es=>wu s k fun ks=>K (pX s es ks)
 |none=>none
def Gd (c:Ctx) (st:St) (t:Nat) (m k v:Slot) (K:St→Option R):Option R:=match mC c t with
 |some s=>tu st s m fun r es=>wu s k fun ks=>z6 s.b v fun v=>qw st r s (tt (pW es ks (dC s.b)) (dc es ks) v) K
 |none=>none
def BS (c:Ctx) (st:St) (t:Nat) (m k:Slot) (K:Slot→St→Option R):Option R:=match mC c t with
 |some s=>tu st s m fun r es=>wu s k fun ks=>qw st r s (pW es ks (dC s.b)) fun st=>K (.fS [pX s es ks,.sc (.p (.i .i64 (dc es ks)))]) st
 |none=>none
def I6 (c:Ctx) (st:St) (t:Nat) (m i v:Slot) (K:St→Option R):Option R:=match mC c t with
 |some s=>tu st s m fun r es=>(match i with
  | .sc (.p (.i .i64 n))=>cR (decide (0≤n∧n.toNat<es.length)) (z6 s.b v fun v=>qw st r s (tt es n.toNat v) K)
  |_=>none)
 |none=>none
def Bt (es:List MV):List UInt8:=match es with|[.s l,.i .i64 _]=>l|_=>[]
def iy (es:List MV):Int:=match es with|[.s _,.i .i64 n]=>n|_=>0
def rH (es:List MV):Bool:=decide (iy es<((Bt es).length:Int))
def lI (es:List MV):Int:=(Utf8.decode ⟨(Bt es).toArray⟩ (iy es).toNat).1
def mW (es:List MV):List MV:=[.s (Bt es),.i .i64 (iy es+(Utf8.decode ⟨(Bt es).toArray⟩ (iy es).toNat).2)]
def Lw (st:St) (x:Slot) (K:Slot→St→Option R):Option R:=match x with
 | .ptr t 0=>(match ae st.fr t with
  | .box [.mp s es]=>bif q9 s then
   b3 (rH es) (wr st t (.box [.mp s (mW es)]) fun st=>K (.fS [.sc (.p (.b true)),.sc (.p (.i .i64 (iy es))),.sc (.p (.i .i32 (lI es)))]) st)
    (K (.fS [.sc (.p (.b false))]) st)
   else none
  |_=>none)
 |_=>none
def Lx (m:MV) (K:UInt8→Option R):Option R:=gI .u8 m fun n=>cR (isByte n) (K (UInt8.ofNat n.toNat))
def vd:List MV→(List UInt8→Option R)→Option R
 |[],K=>K []
 |m::r,K=>Lx m fun b=>vd r fun l=>K (b::l)
def xY (I:TI) (x:Slot) (K:Slot→Option R):Option R:=match x with
 | .sc (.p (.s l))=>bif I.Bs then K (.box [.mp MS.it [.s l,.i .i64 0]]) else none
 |_=>none
def BT (c:Ctx) (st:St) (Y I:TI) (x:Slot) (K:Slot→Option R):Option R:=match c.tv Y.elem with
 |some E=>bif I.Bs&&zY E then (match x with
  | .sc (.p (.list xs))=>vd xs fun l=>K (.sc (.p (.s l)))
  | .sc .nil=>K (.sc (.p (.s [])))
  | .sc (.own f)=>(match aj st.ao f with
   |some o=>bif Nat.beq o.ty Y.elem then vd o.xs fun l=>K (.sc (.p (.s l))) else none
   |none=>none)
  |_=>none) else none
 |none=>none
def still (c:Ctx) (o:Oper):Bool:=match o.op,o.dst with
 | .load _ _,some d=>aB c.fl d
 |_,_=>false
def ay:List LK→List Nat
 |[]=>[]
 | .own f _ _::r=>f::ay r
 |_::r=>ay r
def meets:List Nat→List Nat→Bool
 |[],_=>false
 |k::r,l=>bif aB l k then true else meets r l
def dD (c:Ctx):List LK→Bool
 |[]=>true
 | .own _ ty _::r=>(match c.tv ty with|some _=>dD c r|none=>false)
 |_::r=>dD c r
def fc (ps:List (Nat×Nat)) (f g:Nat):Bool:=match ps with
 |[]=>true
 |(a,b)::r=>(bif Nat.beq a f then Nat.beq b g&&!Nat.beq g 0 else (bif Nat.beq b g then Nat.beq g 0 else true))&&fc r f g
def ve (st:St) (ps:List (Nat×Nat)) (k:LK) (l:ah) (K:MV→List (Nat×Nat)→Option R):Option R:=
 match k,l with
 | .k .l,.nil=>K (.list []) ps
 | .k .h,.hs x=>K (.h x) ps
 | .k x,.p m=>dL x m fun _=>K m ps
 | .own f ty bU,.own g=>match aj st.ao g with
  |some o=>bif !Nat.beq o.ty ty||(o.bU&&!bU)||aB st.aY g||!fc ps f (g+1) then none else K (.list o.xs) ((f,g+1)::ps)
  |none=>none
 | .own f _ _,.nil=>bif fc ps f 0 then K (.list []) ((f,0)::ps) else none
 |_,_=>none
def ew (st:St):List (Nat×Nat)→List LK→List ah→(List MV→List (Nat×Nat)→Option R)→Option R
 |ps,[],[],K=>K [] ps
 |ps,k::ks,l::ls,K=>ve st ps k l fun m ps=>ew st ps ks ls fun ms ps=>K (m::ms) ps
 |_,_,_,_=>none
def eG (st:St) (k:LK) (m:MV) (K:ah→St→Option R):Option R:=
 match k with
 | .k x=>dL x m fun l=>K l st
 | .own f ty bU=>gL m fun xs=>(match st with|⟨p,q,r,n⟩=>xU n f ⟨ty,bU,xs⟩ fun n=>K (.own f) ⟨p,q,r,n⟩)
def bp (st:St):List LK→List MV→(List ah→List MV→St→Option R)→Option R
 |[],ms,K=>K [] ms st
 |k::ks,ms,K=>gC ms fun m r=>eG st k m fun l st=>bp st ks r fun ls ms st=>K (l::ls) ms st
def wv (gs:List Nat):List (Nat×fX)→(List (Nat×fX)→Option R)→Option R
 |[],K=>K []
 |(k,o)::r,K=>bif aB gs k then wv gs r K else wv gs r fun r=>K ((k,o)::r)
def EA:List Nat→Fr→(Fr→Option R)→Option R
 |[],r,K=>K r
 |f::fs,r,K=>IZ f r fun r=>EA fs r K
def b4:List (Nat×Nat)→List Nat
 |[]=>[]
 |(_,0)::r=>b4 r
 |(_,g+1)::r=>g::b4 r
def tY:List Nat→List (Nat×fX)→Bool
 |[],_=>false
 |f::r,m=>(match aj m f with|some _=>true|none=>tY r m)
def tZ (st:St) (root:Nat) (ks:List LK) (ps:List (Nat×Nat)) (outs:List MV) (K:St→Option R):Option R:=
 bp ⟨[],[],[],[]⟩ ks outs fun cs rest oV=>gN rest<|wv (b4 ps) st.ao fun m=>
  bif tY (ay ks) m||meets (ay ks) st.aY then none else
   EA (ay ks) st.fr fun r=>tp r root (.box cs) fun r=>(match app oV.ao m with|some m=>K ⟨st.bh,st.aY,r,m⟩|none=>none)
def zm (c:Ctx) (gv:Bool) (g:List MV→Option MV) (pos:Nat) (ks:List LK) (st:St) (ss:List Slot) (I:Option TI) (K:Slot→St→Option R):Option R:=
 match ss[pos]? with
 |some (.ptr root off)=>lH st (ss.take pos) fun m1 st=>lH st (ss.drop (pos+1)) fun m2 st=>
  (match ae st.fr root with
  | .box cs=>bif ct cs||aB st.bh root||!dD c ks||!gv then none else ew st [] ks cs fun ls ps=>
   (match app m1 (.cell (.func off ls)::m2) with
   |some ms=>bd (g ms) fun x=>gW x fun r outs=>tZ st root ks ps outs fun st=>(match I with
    |some I=>jg c I r fun s=>K s st
    |none=>K (.sc .un) st)
   |none=>none)
  |_=>none)
 |_=>none
def Ge (c:Ctx) (key pos:Nat) (ks:List LK) (st:St) (ss:List Slot) (I:Option TI) (K:Slot→St→Option R):Option R:=
 zm c (c.cy key) (c.g key) pos ks st ss I K
def BU:List LK→List LK→Bool
 |[],[]=>true
 | .k k1::r,.k k2::q=>F9 k1 k2&&BU r q
 | .own f t z::r,.own f' t' z'::q=>Nat.beq f f'&&(Nat.beq t t'&&(z==z'&&BU r q))
 |_,_=>false
def wz (c:Ctx) (pos:Nat) (ks:List LK):List Nat→Bool
 |[]=>true
 |k::r=>(match c.sig k with|some sg=>Nat.beq sg.1 pos&&BU sg.2 ks|none=>false)&&(c.cy k&&wz c pos ks r)
def BV (c:Ctx) (z7:List Nat) (st:St) (f:Slot) (ss:List Slot) (I:Option TI) (K:Slot→St→Option R):Option R:=match f,z7 with
 | .sc (.p m),k0::_=>(match c.sig k0 with
  |some sg=>bif wz c sg.1 sg.2 z7 then F7 m fun k bk=>gN bk<|zm c true (fun ms=>Br z7 k fun k=>c.g k ms) sg.1 sg.2 st ss I K else none
  |none=>none)
 |_,_=>none
def IB (c:Ctx) (o:Oper) (st:St) (K:Slot→St→Option R):Option R:=
 match o.op with
 | .move x=>K (ai c st x) st
 | .assign x=>rm c o st x K
 | .makeMap t none=>(match mC c t with|some s=>K (.box [.mp s []]) st|none=>none)
 | .lookup t m k false=>Gc c st t (ai c st m) (ai c st k) fun s=>K s st
 | .mapUpdate t m k v=>Gd c st t (ai c st m) (ai c st k) (ai c st v) fun st=>K (.sc .un) st
 | .mapEntry t m k=>BS c st t (ai c st m) (ai c st k) K
 | .entryStore t m i v=>I6 c st t (ai c st m) (ai c st i) (ai c st v) fun st=>K (.sc .un) st
 | .nilCheck x=>GZ (ai c st x) fun s=>K s st
 | .pick x a b=>BN (ai c st x) (ai c st a) (ai c st b) fun s=>K s st
 | .alloc t=>(match c.tv t with|some I=>K (.box I.zero) st|none=>none)
 | .box t x=>(match c.tv t with|some I=>G0 I (ai c st x) fun s=>K s st|none=>none)
 | .build t parts=>(match c.tv t with
  |some I=>bif I.st then (match oo c st I parts.toList I.zero with|some cs=>K (.ag cs) st|none=>none)
   else (match I.lay with|[.h]=>rE c st parts.toList dW.zero fun x=>K (.sc (.hs x)) st|_=>none)
  |none=>none)
 | .buildSlice t n parts=>(match c.tv t with
  |some I=>bif I.n5 then (match c.tv I.elem with
   |some E=>bif Nat.ble (n *E.size) 16777216 then BK c st parts.toList 0 fun ms st=>bif Nat.beq ms.length n then cR (o4 E.size ms)
    (bif aB c.bs (o.dst.getD 0) then K (.sc (.p (.list ms))) st else c9 st (o.dst.getD 0) ⟨I.elem,false,ms⟩ fun st=>K (.sc (.own (o.dst.getD 0))) st) else none else none
   |none=>none) else none
  |none=>none)
 | .makeSlice t x y=>(match c.tv t with
  |some I=>bif I.n5 then (match c.tv I.elem with|some E=>BJ (o.dst.getD 0) st I E (ai c st x) (ai c st y) K|none=>none) else none
  |none=>none)
 | .load t a=>(match c.tv t with
  |some I=>bif still c o then (match ai c st a with| .rp cs off=>dX I cs off fun s=>K s st|_=>none) else Lr st I (ai c st a) fun s=>K s st
  |none=>none)
 | .store t a v=>(match c.tv t with|some I=>Ls st I (ai c st a) (ai c st v) fun st=>K (.sc .un) st|none=>none)
 | .binOp op t x y _=>GY (c.tv t) op (ai c st x) (ai c st y) fun s=>K s st
 | .unOp op _ x=>Lu op (ai c st x) fun s=>K s st
 | .convert y t x=>bif isLT c y then (match c.tv y,c.tv t with|some Y,some I=>BT c st Y I (ai c st x) fun s=>K s st|_,_=>none)
  else (match c.ti y,c.tv t with|some _,some I=>BO I (c.fk t) (ai c st x) fun s=>K s st|_,_=>none)
 | .range t x=>(match c.tv t with|some I=>xY I (ai c st x) fun s=>K s st|none=>none)
 | .next x true=>Lw st (ai c st x) K
 | .makeFunc (.func f) first bk=>(match first.toList with
  |[]=>o6 c st bk.toList fun ms st=>K (.sc (.p (.func (c.key f) ms))) st
  |_=>none)
 | .slice t x lo hi none=>(match c.tv t with|some I=>xX c I st (ai c st x) (eW c st lo) (eW c st hi) K|none=>none)
 | .slice t x none (some h) (some m)=>(match c.tv t with|some I=>BP I (ai c st x) (ai c st h) (ai c st m) fun s=>K s st|none=>none)
 | .fieldAddr t x f=>(match c.tv t with|some I=>BQ st I f (ai c st x) fun s=>K s st|none=>none)
 | .field t x f=>(match c.tv t with|some I=>G3 c I f (ai c st x) fun s=>K s st|none=>none)
 | .indexAddr t x i=>(match c.tv t with
  |some I=>(match c.tv I.elem with|some E=>G4 c st I E (ai c st x) (ai c st i) fun s=>K s st|none=>none)
  |none=>none)
 | .index t x i=>(match c.tv t with|some I=>Lv I (ai c st x) (ai c st i) fun s=>K s st|none=>none)
 | .extract x k=>G5 (ai c st x) k fun s=>K s st
 | .call cl=>(match cl.callee with
  | .value (.func f)=>(match c.sig (c.key f) with
   |some sg=>Ge c (c.key f) sg.1 sg.2 st (dF c st cl.args.toList) (c.ti o.type) K
   |none=>match c.ti o.type with
   |some I=>zl c (c.key f) st (dF c st cl.args.toList) fun ms st=>BM c (o.dst.getD 0) st (c.key f) ms I K
   |none=>none)
  | .value x=>(match c.dyn with
   |_::_=>BV c c.dyn st (ai c st x) (dF c st cl.args.toList) (c.ti o.type) K
   |[]=>match c.ti o.type with
   |some I=>vc c st I (ai c st x) (dF c st cl.args.toList) K
   |none=>none)
  | .builtin .len=>(match cl.argTypes.toList with
   |[t]=>(match c.tv t with|some I=>BR I st (dF c st cl.args.toList) fun s=>K s st|none=>none)
   |_=>none)
  | .builtin .append=>(match dF c st cl.args.toList,cl.argTypes.toList with
   |[s,x],[t,t']=>(match c.tv t with
    |some I=>bif I.n5 then (match c.tv I.elem with
     |some E=>bif Nat.beq t t' then u9 I E st x fun ys=>z1 (aB c.bs (o.dst.getD 0)) (o.dst.getD 0) st I E s ys K else xV c t' E x fun ys=>z1 (aB c.bs (o.dst.getD 0)) (o.dst.getD 0) st I E s ys K
     |none=>none) else none
    |none=>none)
   |_,_=>none)
  | .builtin .real=>(match dF c st cl.args.toList with|[.sc (.p m)]=>KS m fun x _=>K (.sc (.p (.raw (.float .f64 x)))) st|_=>none)
  | .builtin .imag=>(match dF c st cl.args.toList with|[.sc (.p m)]=>KS m fun _ y=>K (.sc (.p (.raw (.float .f64 y)))) st|_=>none)
  | .builtin .complex=>(match dF c st cl.args.toList with|[.sc (.p (.raw (.float .f64 x))),.sc (.p (.raw (.float .f64 y)))]=>K (.sc (.p (.raw (.complex .f64 x y)))) st|_=>none)
  | .builtin .min=>(match xW false (dF c st cl.args.toList) with|some m=>K (.sc (.p m)) st|none=>none)
  | .builtin .max=>(match xW true (dF c st cl.args.toList) with|some m=>K (.sc (.p m)) st|none=>none)
  |_=>none)
 |_=>none
def xZ (all:List Oper) (o:Oper) (st:St) (K:Bool→St→Option R):Option R:=
 match o.guard with
 |none=>K true st
 |some (j,want)=>match all[j]? with
  |some p=>(match p.dst with
   |some t=>(match ae st.fr t with
    | .sc (.p (.b v))=>(match v with
     |true=>(match st with|⟨p,q,r,m⟩=>tp r t (.sc (.p (.b true))) fun r=>K want ⟨p,q,r,m⟩)
     |false=>(match st with|⟨p,q,r,m⟩=>tp r t (.sc (.p (.b false))) fun r=>K (!want) ⟨p,q,r,m⟩))
    | .skip=>K false st
    |_=>none)
   |none=>none)
  |none=>none
def zn (c:Ctx) (all:List Oper) (o:Oper) (st:St) (K:St→Option R):Option R:=
 xZ all o st fun go st=>
  bif go then IB c o st fun s st=>aw c st o.dst s K
  else aw c st o.dst .skip K
def nT (c:Ctx) (all:List Oper):List Oper→St→(St→Option R)→Option R
 |[],st,K=>K st
 |o::r,st,K=>zn c all o st fun st=>nT c all r st K
end
section
variable {R:Type}
def fh (st:St):List (Nat×Nat)→List (Nat×OK)→(List MV→Option R)→Option R
 |_,[],K=>K []
 |ps,(t,k)::r,K=>match k,ae st.fr t with
  | .sc k,.sc l=>ew st ps [k] [l] fun ms ps=>fh st ps r fun ns=>(match app ms ns with|some l=>K l|none=>none)
  | .ag ks,.ag ls=>ew st ps ks ls fun ms ps=>fh st ps r fun ns=>(match app ms ns with|some l=>K l|none=>none)
  | .box ks,.box ls=>ew st ps ks ls fun ms ps=>fh st ps r fun ns=>(match app ms ns with|some l=>K l|none=>none)
  | .mp s,.box [.mp s' es]=>bif Iz s s' then fh st ps r fun ns=>K (.list es::ns) else none
  | .pt root off,.ptr BW BX=>bif Nat.beq root BW&&(Nat.beq off BX&&(!om root&&pU (ae st.fr root))) then fh st ps r K else none
  |_,_=>none
def wA (st:St) (t:Nat) (s:Slot) (K:St→Option R):Option R:=match st with|⟨p,q,r,m⟩=>tp r t s fun r=>K ⟨p,q,r,m⟩
def BZ:List (Nat×OK)→List MV→St→(St→Option R)→Option R
 |[],ms,st,K=>gN ms (K st)
 |(t,k)::r,ms,st,K=>match k,st with
  | .pt root off,⟨p,q,fr,m⟩=>bif !om root&&(pU (ae fr root)&&!bn (ae fr t)) then tp fr t (.ptr root off) fun fr=>BZ r ms ⟨p,q,fr,m⟩ K else none
  |_,_=>none
def fj (st:St):List (Nat×OK)→List MV→(St→Option R)→Option R
 |[],ms,K=>gN ms (K st)
 |(t,k)::r,ms,K=>match k with
  | .sc k=>bp st [k] ms fun ls ms st=>(match ls with|[l]=>wA st t (.sc l) fun st=>fj st r ms K|_=>none)
  | .ag ks=>bp st ks ms fun ls ms st=>wA st t (.ag ls) fun st=>fj st r ms K
  | .box ks=>bif om t&&!aB st.bh (posOf t) then none else bp st ks ms fun ls ms st=>wA st t (.box ls) fun st=>fj st r ms K
  | .mp s=>bif om t then none else gC ms fun m ms=>gL m fun es=>wA st t (.box [.mp s es]) fun st=>fj st r ms K
  | .pt root off=>BZ ((t,.pt root off)::r) ms st K
end
def bD:List (Nat×OK)→List Nat
 |[]=>[]
 |(t,_)::r=>t::bD r
def aS:List (Nat×OK)→List Nat
 |[]=>[]
 |(_,.sc k)::r=>ay [k]++aS r
 |(_,.ag ks)::r=>ay ks++aS r
 |(_,.box ks)::r=>ay ks++aS r
 |(_,.mp _)::r=>aS r
 |(_,.pt _ _)::r=>aS r
def minus:List Nat→List Nat→List Nat
 |[],_=>[]
 |k::r,l=>bif aB l k then minus r l else k::minus r l
def ki {R:Type} (ps:List Nat):List ah→(List ah→Option R)→Option R
 |[],K=>K []
 |l::r,K=>(match l with
  | .own g=>bif aB ps g then ki ps r fun r=>K (.own g::r) else ki ps r fun r=>K (.un::r)
  |l=>ki ps r fun r=>K (l::r))
def ua {R:Type} (ps:List Nat) (s:Slot) (K:Slot→Option R):Option R:=match s with
 | .sc (.own g)=>bif aB ps g then K (.sc (.own g)) else K (.sc .un)
 | .ag cs=>ki ps cs fun cs=>K (.ag cs)
 | .tg cs=>ki ps cs fun cs=>K (.tg cs)
 | .box cs=>ki ps cs fun cs=>K (.box cs)
 |s=>K s
def KT {R:Type} (ps:List Nat):Fr→(Fr→Option R)→Option R
 |[],K=>K []
 |(k,s)::r,K=>ua ps s fun s=>KT ps r fun r=>K ((k,s)::r)
def ub {R:Type} (ks fs qs:List Nat):List (Nat×fX)→(List (Nat×fX)→Option R)→Option R
 |[],K=>K []
 |(k,o)::r,K=>bif aB ks k then ub ks fs qs r fun r=>(bif aB fs k&&!aB qs k then K ((k,⟨o.ty,true,o.xs⟩)::r) else K ((k,o)::r)) else ub ks fs qs r K
def b5 (c:Ctx):List (Nat×OK)→Bool
 |[]=>true
 |(_,.sc k)::r=>bif dD c [k] then b5 c r else false
 |(_,.ag ks)::r=>bif dD c ks then b5 c r else false
 |(_,.box ks)::r=>bif dD c ks then b5 c r else false
 |(_,.mp _)::r=>b5 c r
 |(_,.pt _ _)::r=>b5 c r
def ya {R:Type} (c:Ctx) (h:jv) (st:St) (K:St→St→Option R):Option R:=
 match st with
 |⟨p,q,r,m⟩=>
  bif !b5 c h.all||meets (bD h.all) p||meets (aS h.all) q||meets (bD h.all) h.bh||meets (aS h.all) h.aY then none else
  match app h.bh p,app h.aY q with
  |some p',some q'=>
   pick h.bh r fun rp=>KT h.aY rp fun rp=>pick (bD h.all) r fun ro=>
   ub h.aY h.bU q m fun mp=>ub (aS h.all) h.bU q m fun mo=>
   (match app rp ro,app mp mo with
    |some r1,some m1=>K ⟨p',q',r1,m1⟩ ⟨p',q',rp,mp⟩
    |_,_=>none)
  |_,_=>none
def pY {R:Type} (c:Ctx) (h:jv) (st:St) (K:St→St→Option R):Option R:=
 ya c h st fun bw cn=>rC (fun t=>aB h.bh t||aB (bD h.all) t) st.fr st.fr bw.fr fun fr=>K ⟨bw.bh,bw.aY,fr,bw.ao⟩ cn
def oq (st cn:St):St:=match st,cn with|⟨p,q,_,_⟩,⟨_,_,r,m⟩=>⟨p,q,r,m⟩
def guarded:List Oper→Bool
 |[]=>false
 |o::r=>match o.guard with|some _=>true|none=>guarded r
def iq:List Oper→List Nat
 |[]=>[]
 |o::r=>match o.op,o.dst with
  | .alloc _,some d=>d::iq r
  | .box _ _,some d=>d::iq r
  | .makeMap _ _,some d=>d::iq r
  | .range _ _,some d=>d::iq r
  |_,_=>iq r
def ot {R:Type} (ds:List Nat) (st:St) (K:St→Option R):Option R:=match st with|⟨p,q,r,m⟩=>kV ds r fun r1=>rC (fun t=>!aB ds t) r r r1 fun r=>K ⟨p,q,r,m⟩
def cz:Code→Option Nat
 | .region id _ _=>some id
 | .seq a b=>match cz a with|some n=>some n|none=>cz b
 | .cond _ a b=>match cz a with|some n=>some n|none=>cz b
 | .block _ b| .loop b| .scope b=>cz b
 |_=>none
def IC:List Nat→List Nat→List Nat
 |[],l=>l
 |k::r,l=>bif aB l k then IC r l else k::IC r l
def eH:Code→List Nat
 | .skip| .region _ _ _=>[0]
 | .seq a b=>bif aB (eH a) 0 then IC (minus (eH a) [0]) (eH b) else eH a
 | .cond _ a b=>IC (eH a) (eH b)
 | .block id b=>bif aB (eH b) (id+2) then IC (minus (eH b) [0,id+2]) [0] else eH b
 | .loop b=>minus (eH b) [0]
 | .exit id=>[id+2]
 | .ret=>[1]
 |_=>[]
def hR (o:Oper):Bool:=match o.op with
 | .load _ _=>true
 | .lookup _ _ _ false=>true
 |_=>false
def eI (c:Ctx) (o:Oper):Bool:=hR o||(match o.op with
 | .convert y _ _=>isLT c y
 |_=>false)
def B0 (o:Oper):Option Nat:=match o.op with
 | .lookup t _ _ false=>some t
 |_=>none
def EB (o:Oper):Option Nat:=match o.op with
 | .mapEntry t _ _=>some t
 |_=>none
def n6 (o p:Oper):Bool:=match B0 o,EB p with
 |some t,some t'=>Nat.beq t t'
 |_,_=>false
def hU (o:Oper):Bool:=match o.op with
 | .move _| .assign _| .nilCheck _| .pick _ _ _| .build _ _| .load _ _| .binOp _ _ _ _ _| .unOp _ _ _| .convert _ _ _| .makeFunc _ _ _| .slice _ _ _ _ _| .fieldAddr _ _ _| .field _ _ _| .indexAddr _ _ _| .index _ _ _| .extract _ _| .lookup _ _ _ false=>true
 | .call cl=>(match cl.callee with| .builtin .len| .builtin .min| .builtin .max| .builtin .real| .builtin .imag| .builtin .complex=>true|_=>false)
 |_=>false
def nU (c:Ctx) (o:Oper):Bool:=match o.op with
 | .alloc _| .box _ _| .buildSlice _ _ _| .makeSlice _ _ _=>true
 | .call cl=>(match cl.callee with| .value (.func f)=>!c.cy (c.key f)| .value _=>(match c.dyn with|[]=>true|_::_=>false)|_=>false)
 |_=>false
def yb:Op→List Operand
 | .build _ ps=>ps.toList.map (·.2)
 | .buildSlice _ _ ps=>ps.toList.map (·.2)
 | .makeFunc _ first captured=>first.toList++captured.toList
 | .slice _ x l h m=>x::(l.toList++(h.toList++m.toList))
 | .call c=>(match c.callee with| .value f=>[f]| .invoke r _=>[r]| .builtin _=>[])++c.args.toList
 |op=>op.operands.toList
def wB:List Operand→List Nat
 |[]=>[]
 | .tmp t::r=>t::wB r
 |_::r=>wB r
def vf (ops:List Oper) (o:Oper):List Nat:=
 wB (yb o.op)++(match o.guard with|some (g,_)=>(match ops[g]? with|some p=>p.dst.toList|none=>[])|none=>[])
def vg (ops:List Oper) (x y:Oper):Bool:=
 (match x.dst with|some d=>!aB (vf ops y) d&&(match y.dst with|some d'=>!Nat.beq d' d|none=>true)|none=>true)&&
 (match y.dst with|some d=>!aB (vf ops x) d|none=>true)
def rI (e:Edge):Bool:=match e.ground with
 | .textOnly _=>false
 | .gcOnly _=>false
 |_=>true
def ou (o:Oper) (p:Nat→Bool):Bool:=o.after.toList.any fun e=>rI e&&p e.on
def I7 (ops:List Oper):Bool:=ops.all fun o=>match o.op with| .select _ _=>false|_=>true
def B1 (c:Ctx) (o:Oper):Bool:=hU o||nU c o
def jy (c:Ctx) (ops:List Oper) (o:Oper):List Nat→List Nat→Bool
 |_,[]=>true
 |D,y::r=>match ops[y]? with
  |some p=>bif ou p (aB D) then jy c ops o (y::D) r else vg ops o p&&(!eI c o||B1 c p||still c o||n6 o p)&&jy c ops o D r
  |none=>false
def wC (o:Oper):Bool:=match o.op,o.dst,o.guard with
 | .alloc _,some _,none=>o.after.toList.all fun e=>!rI e
 |_,_,_=>false
def I8 (c:Ctx) (o:Oper):Bool:=match o.op with
 | .alloc t=>(match c.tv t with|some _=>true|none=>false)
 |_=>false
def I9 (ops:List Oper) (i:Nat):Bool:=match ops[i]? with
 |some o=>wC o
 |none=>false
def kX (c:Ctx) (ops:List Oper):List Nat→List Nat→Bool
 |_,[]=>true
 |pre,x::rest=>(match ops[x]? with
  |some o=>(o.after.toList.all fun e=>!rI e||aB pre e.on)&&!aB pre x&&!aB rest x&&
   (bif hU o&&!eX c o then jy c ops o [x] rest
    else (rest.all fun y=>match ops[y]? with
     |some p=>bif wC p then vg ops p o&&I8 c p else ou p (fun i=>Nat.beq i x||(aB rest i&&!I9 ops i))
     |none=>false))&&kX c ops (x::pre) rest
  |none=>false)
def ov (c:Ctx) (ops:Array Oper) (ord:List Nat):Bool:=
 I7 ops.toList&&Nat.beq ord.length ops.toList.length&&(List.range ops.toList.length).all (aB ord)&&kX c ops.toList [] ord
def rn {R:Type} (c:Ctx) (id:Nat) (ops l:List Oper) (st:St) (K:St→Option R):Option R:=
 bif guarded ops then
  pY c (c.rD id) st fun bw cn=>bd (ot (iq ops) bw fun bw=>nT c ops l bw fun st=>fh st [] ((c.rD id).ex 0) some) fun vs=>fj (oq st cn) ((c.rD id).ex 0) vs K
 else ot (iq ops) st fun st=>nT c ops l st K
def ir (ops:List Oper):List Nat→Option (List Oper)
 |[]=>some []
 |i::r=>match ops[i]?,ir ops r with
  |some o,some l=>some (o::l)
  |_,_=>none
def EC {S:Type} (step:S→MV→Option (Bool×S)):S→List MV→Option (List MV×S)
 |s,[]=>some ([],s)
 |s,x::xs=>match step s x with
  |some (b,s1)=>(match EC step s1 xs with|some (ys,s2)=>some (bif b then ys else x::ys,s2)|none=>none)
  |none=>none
def B2 (g:Nat→List MV→Option MV) (k:Nat) (bk:List MV):Unit→MV→Option (Bool×Unit):=fun _ x=>match g k (x::bk) with
 |some (.b b)=>some (b,())
 |_=>none
def B3 (g:Nat→List MV→Option MV) (k:Nat) (bk:List MV):List MV→MV→Option (Bool×List MV):=fun ls x=>match g k (x::(bk++[.cell (.func 0 ls)])) with
 |some (.rz (.b b) outs)=>some (b,outs)
 |_=>none
def ED:MV→Bool
 | .agg _=>true
 |_=>false
def B4 {R:Type} (c:Ctx) (h f:Nat) (bk:List Operand) (x:Operand) (o1 o2:Oper) (st:St) (K:St→Option R):Option R:=
 let fin (ys:List MV) (st:St):Option R:=c9 st (o2.dst.getD 0) ⟨c.hO (c.key h),false,ys⟩ fun st=>aw c st o2.dst (.sc (.own (o2.dst.getD 0))) fun st=>aw c st o1.dst (.sc .un) K
 match c.sig (c.key f) with
 |none=>bif c.cy (c.key f) then none else o6 c st bk fun ms st=>o7 c (c.key h) st (ai c st x) fun m st=>gF m fun xs=>cR (xs.all ED)<|bd (EC (B2 c.g (c.key f) ms) () xs) fun p=>fin p.1 st
 |some sg=>o6 c st bk.dropLast fun ms st=>o7 c (c.key h) st (ai c st x) fun m st=>gF m fun xs=>cR (xs.all ED)<|
  (match bk.getLast? with
  |some y=>(match ai c st y with
   | .ptr root 0=>(match ae st.fr root with
    | .box cs=>bif ct cs||aB st.bh root||!dD c sg.2||!Nat.beq sg.1 (ms.length+1)||!c.cy (c.key f) then none else
     ew st [] sg.2 cs fun ls ps=>bd (EC (B3 c.g (c.key f) ms) ls xs) fun p=>tZ st root sg.2 ps p.2 fun st=>fin p.1 st
    |_=>none)
   |_=>none)
  |none=>none)
def o9 (c:Ctx):List Oper→List Oper→Option (List Oper×Nat×List Operand×Nat×Operand×Oper×Oper×List Oper)
 |pre,o1::o2::r=>match o1.op,o2.op with
  | .makeFunc (.func f) first bk,.call cl=>(match cl.callee,cl.args.toList,first.toList,o1.dst with
   | .value (.func h),[.tmp x,.tmp y],[],some d=>bif c.u5 h&&Nat.beq y d&&!Nat.beq x d&&!Nat.ble c.n d&&!Nat.beq (o2.dst.getD d) d then some (pre.reverse,f,bk.toList,h,.tmp x,o1,o2,r) else o9 c (o1::pre) (o2::r)
   |_,_,_,_=>o9 c (o1::pre) (o2::r))
  |_,_=>o9 c (o1::pre) (o2::r)
 |_,_=>none
def rJ:List Oper→Bool
 |[]=>true
 |o::r=>(match o.guard with|none=>rJ r|some _=>false)
def B5 {R:Type} (c:Ctx) (id:Nat) (ops:List Oper) (st:St) (K:St→Option R):Option R:=
 match o9 c [] ops with
 |some (pre,f,bk,h,x,o1,o2,post)=>bif rJ ops then ot (iq ops) st fun st=>nT c ops pre st fun st=>B4 c h f bk x o1 o2 st fun st=>nT c ops post st K else none
 |none=>rn c id ops ops st K
def Ly {R:Type} (c:Ctx) (ts:List Nat) (st:St) (K:St→Option R):Option R:=match ts with
 |[]=>K st
 |ts=>o6 c st (ts.map .tmp) fun _ st=>K st
def tw (ops:Array Oper) (A B:Nat):Array Oper:=ops.modify B fun o=>{o with after:=o.after.push ⟨A,.data⟩}
open Classical in
noncomputable def both {R:Type} (x y:Option R):Option R:=if x=y then x else none
def B6 (n:Nat) (l:List Nat):Option (List Nat×List Nat×Nat×Nat):=match l.drop (l.length-3) with
 |[m,A,B]=>bif Nat.beq A B||(Nat.ble n A||Nat.ble n B) then none else some (l.take m,(l.drop m).take (l.length-3-m),A,B)
 |_=>none
def B7 {R:Type} (c:Ctx) (ops:Array Oper) (l:List Nat) (st:St) (K:St→Option R):Option R:=bif ov c ops l then (match ir ops.toList l with
 |some l=>nT c ops.toList l st K
 |none=>none) else none
noncomputable def rK {R:Type} (c:Ctx) (st:St) (K:St→Option R):Nat→Array Oper→List Nat→Option R
 |0,_,_=>none
 |k+1,ops,l=>bif Nat.beq l.length ops.toList.length then B7 c ops l st K else (match B6 ops.toList.length l with
  |some (o1,o2,A,B)=>both (rK c st K k (tw ops A B) o1) (rK c st K k (tw ops B A) o2)
  |none=>none)
noncomputable def Ja {R:Type} (c:Ctx) (id:Nat) (ops:Array Oper) (ord:List Nat) (st:St) (K:St→Option R):Option R:=
 bif guarded ops.toList then
  pY c (c.rD id) st fun bw cn=>bd (ot (iq ops.toList) bw fun bw=>rK c bw (fun st=>fh st [] ((c.rD id).ex 0) some) ord.length ops ord) fun vs=>fj (oq st cn) ((c.rD id).ex 0) vs K
 else ot (iq ops.toList) st fun st=>rK c st K ord.length ops ord
noncomputable def zo {R:Type} (c:Ctx) (id:Nat) (ops:Array Oper) (draw:Bool) (st:St) (K:St→Option R):Option R:=
 Ly c (c.fz id) st fun st=>bif draw then (bif !Nat.beq (c.ord id).length ops.toList.length then Ja c id ops (c.ord id) st K else bif ov c ops (c.ord id) then (match ir ops.toList (c.ord id) with|some l=>rn c id ops.toList l st K|none=>none) else none)
 else B5 c id ops.toList st K
noncomputable def iz (c:Ctx):Code→(R:Type)→St→(Nat→St→Option R)→Option R
 | .skip,_,st,K=>K 0 st
 | .region id ops d,_,st,K=>zo c id ops d st fun st=>K 0 st
 | .seq a b,R,st,K=>iz c a R st fun e st=>bif Nat.beq e 0 then iz c b R st K else K e st
 | .cond x a b,R,st,K=>(match ai c st x with
  | .sc (.p (.b v))=>
   bif aB (eH a) 0&&aB (eH b) 0 then
    pY c (c.tX ((cz (.seq a b)).getD 0)) st fun bw cn=>
    bd (b3 v (iz c a (Nat×List MV) bw fun e st=>fh st [] ((c.tX ((cz (.seq a b)).getD 0)).ex e) fun vs=>some (e,vs))
     (iz c b (Nat×List MV) bw fun e st=>fh st [] ((c.tX ((cz (.seq a b)).getD 0)).ex e) fun vs=>some (e,vs)))
     fun r=>Br (IC (eH a) (eH b)) r.1 fun e=>fj (oq st cn) ((c.tX ((cz (.seq a b)).getD 0)).ex e) r.2 fun st=>K e st
   else b3 v (iz c a R st K) (iz c b R st K)
  |_=>none)
 | .block id b,R,st,K=>iz c b R st fun e st=>bif Nat.beq e (id+2) then K 0 st else K e st
 | .loop b,_,st,K=>
  pY c (c.tj ((cz b).getD 0)) st fun bw cn=>fh bw [] (c.tj ((cz b).getD 0)).outs fun vs=>
   bd (Loop (fun ms=>fj cn (c.tj ((cz b).getD 0)).outs ms fun st=>iz c b (Sum (List MV) (Nat×List MV)) st fun e st=>
    bif Nat.beq e 0 then fh st [] (c.tj ((cz b).getD 0)).outs fun vs=>some (.inl vs) else fh st [] ((c.tj ((cz b).getD 0)).ex e) fun vs=>some (.inr (e,vs))) vs)
    fun r=>Br (minus (eH b) [0]) r.1 fun e=>fj (oq st cn) ((c.tj ((cz b).getD 0)).ex e) r.2 fun st=>K e st
 | .exit id,_,st,K=>K (id+2) st
 | .ret,_,st,K=>K 1 st
 |_,_,_,_=>none
def vh {R:Type} (c:Ctx):List Nat→Nat→List MV→(Fr→List MV→Option R)→Option R
 |[],_,ms,K=>K [] ms
 |t::ts,n,ms,K=>match c.tv t with
  |some I=>gC ms fun m r=>mT I m fun s=>vh c ts (n+1) r fun fr ms=>K ((n,s)::fr) ms
  |none=>none
def z8 {R:Type}:List (List Kd)→Nat→List MV→(Fr→Option R)→Option R
 |[],_,ms,K=>gN ms (K [])
 |ks::r,n,ms,K=>gC ms fun m ms=>gP m fun cs=>kg ks cs fun cs=>z8 r (n+1) ms fun fr=>K ((n,.mQ cs)::fr)
def wD {R:Type} (c:Ctx) (st:St):List ResultVar→(List MV→Option R)→Option R
 |[],K=>K []
 |r::rs,K=>
  let go (s:Slot):Option R:=match s with
   | .sc (.p m)=>wD c st rs fun ms=>K (m::ms)
   |_=>none
  match r with
  | .tmp t=>go (ae st.fr t)
  | .cell a t=>match c.tv t,ae st.fr a with
   |some I,.box cs=>bif ct cs||om a then none else dX I cs 0 fun s=>go s
   |_,_=>none
def yc {R:Type} (c:Ctx) (st:St) (fresh:Option Nat):List ResultVar→(List MV→Option R)→Option R
 |[],K=>K []
 |r::rs,K=>
  let go (s:Slot):Option R:=match fresh with
   |some ty=>(match s with
    | .sc (.own f)=>(match aj st.ao f with|some o=>bif o.bU||!Nat.beq o.ty ty then none else wD c st rs fun ms=>K (.fresh o.xs::ms)|none=>none)
    | .sc .nil=>wD c st rs fun ms=>K (.fresh []::ms)
    |_=>none)
   |none=>iR st s fun m st=>yc c st fresh rs fun ms=>K (m::ms)
  match r with
  | .tmp t=>go (ae st.fr t)
  | .cell a t=>match c.tv t,ae st.fr a with
   |some I,.box cs=>bif ct cs||om a then none else dX I cs 0 fun s=>go s
   |_,_=>none
noncomputable def B8 (X:Code→St→(Nat→St→Option MV)→Option MV) (c:Ctx) (bk:List (List Kd)) (fresh:Option Nat) (f:Func) (args:List MV):Option MV:=
 match f.body with
 |some b=>vh c f.params.toList 0 args fun fr ms=>z8 bk f.params.size ms fun mO=>
  match app fr mO with
  |some fr=>X b ⟨[],[],fr,[]⟩ fun e st=>
   bif Nat.ble e 1 then yc c st fresh f.results.toList fun ms=>(match ms with|[m]=>some m|ms=>some (.fS ms)) else none
  |none=>none
 |none=>none
noncomputable def uc (c:Ctx) (bk:List (List Kd)) (fresh:Option Nat) (f:Func) (args:List MV):Option MV:=B8 (fun b st K=>iz c b MV st K) c bk fresh f args
end Dn
/-
  What abstract values and slots say of Go's memory. Conditions: none.
-/
namespace Dn
open Go
theorem eY (w:World) (o:Obj):(w.alloc o).heap[w.heap.size]? =some o:=by
 show (w.heap.push o)[w.heap.size]? =some o
 simp
theorem lJ (w:World) (o:Obj) (i:Nat) (h:i<w.heap.size):(w.alloc o).heap[i]? =w.heap[i]? :=by
 show (w.heap.push o)[i]? =w.heap[i]?
 rw [Array.getElem?_push,if_neg (Nat.ne_of_lt h)]
def MV.one:MV→Bool
 | .h _| .agg _| .fS _| .fresh _| .cell _| .rz _ _=>false
 |_=>true
abbrev Ph:=Nat→Nat→Option Value
section
variable (key:Nat→Nat) (φ:Ph)
mutual
inductive eJ:List Value→MV→Prop
 |b (x:Bool):eJ [.bool x] (.b x)
 |i (k:IntKind) (n:Int):eJ [.int k n] (.i k n)
 |s (bs:ByteArray):eJ [.string bs] (.s bs.data.toList)
 |h (x:dW):eJ (x.l.map fun b=> .int .u8 (b.toNat:Int)) (.h x)
 |raw (v:Value):v.oneCell'=true→eJ [v] (.raw v)
 |list (a:Option Addr) (cap:Nat) (xs:List MV) (ax off wE:Nat) (f:Nat→List Value):
  xs.length≤cap→(0<xs.length→a=some ⟨ax,off,none⟩)→(∀i,i<xs.length→(f i).length=wE)→
  (∀i j,i<xs.length→j<wE→φ ax (off+i *wE+j)=(f i)[j]?)→
  (∀(i:Nat) (h:i<xs.length),eJ (f i) xs[i])→eJ [.slice a xs.length cap] (.list xs)
 |agg (vs:List Value) (ms:List MV):c7 vs ms→eJ vs (.agg ms)
 |func (f k:Nat) (cap:Array Value) (ms:List MV):key f=k→c7 cap.toList ms→(∀m∈ms,m.one=true)→eJ [.func (.func f) #[] cap] (.func k ms)
 |rp (ax off:Nat) (vs:List Value) (ms:List MV):c7 vs ms→(∀j,j<vs.length→φ ax (off+j)=vs[j]?)→eJ [.pointer (some ⟨ax,off,none⟩)] (.rp ms)
 |clip (a:Option Addr) (xs:List MV):eJ [.slice a xs.length xs.length] (.list xs)→eJ [.slice a xs.length xs.length] (.clip xs)
inductive c7:List Value→List MV→Prop
 |nil:c7 [] []
 |cons (v:List Value) (m:MV) (vs:List Value) (ms:List MV):eJ v m→c7 vs ms→c7 (v++vs) (m::ms)
end
end
def jh (φ φ':Ph):Prop:= ∀b o v,φ b o=some v→φ' b o=some v
theorem jh.refl (φ:Ph):jh φ φ:=fun _ _ _ h=>h
theorem jh.nA {φ φ':Ph} (h:jh φ φ') {b j:Nat} {cs:List Value} (e:φ b j=cs[j]?) (hj:j<cs.length):φ' b j=cs[j]? :=by
 rw [List.getElem?_eq_getElem hj] at e⊢
 exact h _ _ _ e
theorem jh.trans {φ φ' Jb:Ph} (h:jh φ φ') (h':jh φ' Jb):jh φ Jb:=fun b o v e=>h' b o v (h b o v e)
section
set_option linter.unusedSectionVars false
variable {key:Nat→Nat} {φ φ':Ph} (hle:jh φ φ')
include hle
theorem vi {b o:Nat} {vs:List Value} {j:Nat} (hj:j<vs.length) (h:φ b o=vs[j]?):φ' b o=vs[j]? :=by
 rw [List.getElem?_eq_getElem hj] at h⊢
 exact hle _ _ _ h
mutual
theorem eJ.mono {vs:List Value} {m:MV}:eJ key φ vs m→eJ key φ' vs m
 | .b x=> .b x
 | .i k n=> .i k n
 | .s bs=> .s bs
 | .h x=> .h x
 | .raw v h=> .raw v h
 | .list a cap xs ax off wE f h1 h2 h3 h4 h5=> .list a cap xs ax off wE f h1 h2 h3
  (fun i j hi hj=>vi hle (by rw [h3 i hi];exact hj) (h4 i j hi hj)) (fun i hi=>(h5 i hi).mono)
 | .agg vs ms h=> .agg vs ms h.mono
 | .func f k cap ms h1 h2 h3=> .func f k cap ms h1 h2.mono h3
 | .rp ax off vs ms h1 h2=> .rp ax off vs ms h1.mono (fun j hj=>vi hle hj (h2 j hj))
 | .clip a xs h=> .clip a xs h.mono
theorem c7.mono {vs:List Value} {ms:List MV}:c7 key φ vs ms→c7 key φ' vs ms
 | .nil=> .nil
 | .cons v m vs ms h1 h2=> .cons v m vs ms h1.mono h2.mono
end
end
section
variable {key:Nat→Nat} {φ:Ph}
mutual
theorem eJ.cells {vs:List Value} {m:MV}:eJ key φ vs m→ ∀v∈vs,v.oneCell'=true
 | .b x=>by simp [Value.oneCell']
 | .i k n=>by simp [Value.oneCell']
 | .s bs=>by simp [Value.oneCell']
 | .h x=>by
  intro v hv
  obtain ⟨b,_,rfl⟩:=List.mem_map.1 hv
  rfl
 | .raw v h=>by simpa using h
 | .list .. =>by simp [Value.oneCell']
 | .agg vs ms h=>h.cells
 | .func .. =>by simp [Value.oneCell']
 | .rp .. =>by simp [Value.oneCell']
 | .clip .. =>by simp [Value.oneCell']
theorem c7.cells {vs:List Value} {ms:List MV}:c7 key φ vs ms→ ∀v∈vs,v.oneCell'=true
 | .nil=>by simp
 | .cons v m vs ms h1 h2=>by
  intro x hx
  rcases List.mem_append.1 hx with hx|hx
  ·exact h1.cells x hx
  ·exact h2.cells x hx
end
end
section
variable {key:Nat→Nat} {φ:Ph}
mutual
theorem eJ.width {vs:List Value} {m:MV}:eJ key φ vs m→vs.length=m.w
 | .b x=>by simp [MV.w]
 | .i k n=>by simp [MV.w]
 | .s bs=>by simp [MV.w]
 | .h x=>by simp [MV.w,x.h]
 | .raw v h=>by simp [MV.w]
 | .list .. =>by simp [MV.w]
 | .agg vs ms h=>by rw [h.width];simp [MV.w]
 | .func .. =>by simp [MV.w]
 | .rp .. =>by simp [MV.w]
 | .clip .. =>by simp [MV.w]
theorem c7.width {vs:List Value} {ms:List MV}:c7 key φ vs ms→vs.length=MV.wl ms
 | .nil=>by simp [MV.wl]
 | .cons v m vs ms h1 h2=>by simp [MV.wl,h1.width,h2.width]
end
end
theorem eJ.one {key:Nat→Nat} {φ:Ph} {vs:List Value} {m:MV} (h:eJ key φ vs m) (hm:m.one=true): ∃v,vs=[v]∧v.oneCell'=true:=by
 have hc:=h.cells
 cases h<;>simp [MV.one] at hm<;>exact ⟨_,rfl,hc _ (by simp)⟩
def dt (key:Nat→Nat) (φ:Ph) (v:Value):MV→Prop
 | .h x=>v= .agg (x.l.map fun b=>Value.int .u8 (b.toNat:Int)).toArray
 | .agg ms=> ∃arr,v= .agg arr∧c7 key φ arr.toList ms
 |m=>m.one=true∧eJ key φ [v] m
set_option linter.unusedSectionVars false
theorem dt.mono {key:Nat→Nat} {φ φ':Ph} (hle:jh φ φ') {v:Value} {m:MV} (h:dt key φ v m):dt key φ' v m:=by
 cases m<;>simp only [dt] at h⊢ <;>first|exact h|exact ⟨h.1,h.2.mono hle⟩|(obtain ⟨arr,h1,h2⟩:=h;exact ⟨arr,h1,h2.mono hle⟩)
structure Env where
 key:Nat→Nat
 φ:Ph
 E:Nat→Value
 B:Nat→Nat
 m:List (Nat×fX)
def aD (x:dW):List Value:=x.l.map fun b=>Value.int .u8 (b.toNat:Int)
theorem bo (x:dW):(aD x).length=32:=by simp [aD,x.h]
def al (e:Env) (vs:List Value):ah→Prop
 | .un=> ∃v,vs=[v]∧v.oneCell'=true
 | .p x=>x.one=true∧eJ e.key e.φ vs x
 | .hs x=>vs=aD x
 | .nil=>vs=[.slice none 0 0]
 | .mp _ _=>False
 | .own f=> ∃v,vs=[v]∧v.oneCell'=true∧(∀o,aj e.m f=some o→v=e.E f)
def af (e:Env):List Value→List ah→Prop
 |vs,[]=>vs=[]
 |vs,l::ls=> ∃v r,vs=v++r∧al e v l∧af e r ls
def jz:ah→Bool
 | .p _| .hs _=>true
 |_=>false
def cZ:List ah→Bool
 |[]=>true
 |l::r=>jz l&&cZ r
def rL (st:Bool) (x:MV) (cs:List ah):Prop:=(∃ms,aF cs=some ms∧kG st ms=some x)∧ ∀m,ah.p m∈cs→m.one=true
def n7:Slot→Bool
 | .sc l=>jz l
 | .ag cs=>cZ cs
 |_=>false
mutual
def aa (e:Env) (v:Value):Slot→Prop
 | .skip=>v=undef
 | .sc l=>match l with
  | .un=>True
  | .hs x=>v= .agg (aD x).toArray
  |l=>al e [v] l
 | .ag cs=> ∃arr,v= .agg arr∧af e arr.toList cs
 | .tg cs=> ∃arr,v= .tuple arr∧af e arr.toList cs
 | .fS vs=> ∃arr,v= .tuple arr∧dY e arr.toList vs
 | .box _=>False
 | .mQ cs=> ∃ax o vs,v= .pointer (some ⟨ax,o,none⟩)∧af e vs cs∧cZ cs=true∧(∀j,j<vs.length→e.φ ax (o+j)=vs[j]?)
 | .ptr r o=>v= .pointer (some ⟨e.B r,o,none⟩)
 | .mR r=>v= .map (some (e.B r))
 | .rp cs off=> ∃ax o vs,v= .pointer (some ⟨ax,o+off,none⟩)∧af e vs cs∧cZ cs=true∧(∀j,j<vs.length→e.φ ax (o+j)=vs[j]?)
 | .hp r o i=>v= .pointer (some ⟨e.B r,o+i,none⟩)∧i<32
 | .ep f i off st cs=> ∀o,aj e.m f=some o→ ∃ax cap,e.E f= .slice (some ⟨ax,0,none⟩) o.xs.length cap∧(∃x,o.xs[i]? =some x∧rL st x cs)∧
  v= .pointer (some ⟨ax,i *mS cs+off,none⟩)
def dY (e:Env):List Value→List Slot→Prop
 |vs,[]=>vs=[]
 |vs,s::ss=> ∃v r,vs=v::r∧aa e v s∧n7 s=true∧dY e r ss
end
def B9:ah→List Value→Bool
 | .p (.b x),[.bool y]=>x==y
 | .p (.i k n),[.int k' n']=>decide (k=k')&&decide (n=n')
 | .p (.s l),[.string s]=>decide (l=s.data.toList)
 | .p (.raw v),[w]=>match v,w with
  | .nilFunc,.nilFunc=>true
  | .nilIface,.nilIface=>true
  | .pointer none,.pointer none=>true
  |_,_=>false
 | .nil,[.slice none 0 0]=>true
 | .un,[v]=>v.oneCell'
 | .hs x,vs=>(vs.length==32)&&(vs.zip x.l).all fun p=>match p.1 with| .int .u8 n=>decide (n=(p.2.toNat:Int))|_=>false
 |_,_=>false
def kj:List ah→List Value→Bool
 |[],vs=>vs.isEmpty
 |l::ls,vs=>B9 l (vs.take l.w)&&kj ls (vs.drop l.w)&&decide (l.w≤vs.length)
end Dn
/-
  How an abstract state stands to a frame and a memory; laws of frames and leaves. Conditions: none.
-/
set_option linter.unusedSimpArgs false
set_option linter.unusedVariables false
namespace Dn
open Go
def aT:Fr→Nat→Slot→Fr
 |[],t,v=>[(t,v)]
 |(k,s)::r,t,v=>bif Nat.beq k t then (k,v)::r else (k,s)::aT r t v
def fO (ds:List Nat):Fr→Fr
 |[]=>[]
 |(k,s)::r=>bif bE s||aB ds k then fO ds r else (k,s)::fO ds r
def fY (ks:List Nat):Fr→Fr
 |[]=>[]
 |(k,s)::r=>bif aB ks k&&!bE s then (k,s)::fY ks r else fY ks r
def aM:List (Nat×fX)→Nat→fX→List (Nat×fX)
 |[],t,v=>[(t,v)]
 |(k,s)::r,t,v=>bif Nat.beq k t then (k,v)::r else (k,s)::aM r t v
def vj (f:Nat):ah→ah
 | .own g=>bif Nat.beq g f then .un else .own g
 |l=>l
def nB (f:Nat):Slot→Slot
 | .sc l=> .sc (vj f l)
 | .ag cs=> .ag (cs.map (vj f))
 | .tg cs=> .tg (cs.map (vj f))
 | .box cs=> .box (cs.map (vj f))
 | .ep g i o b cs=>bif Nat.beq g f then .sc .un else .ep g i o b cs
 |s=>s
def eE (f:Nat) (r:Fr):Fr:=r.map fun p=>(p.1,nB f p.2)
def mX (f:Nat) (r:Fr):Fr:=r.map fun p=>(p.1,match p.2 with
 | .ep g i o b cs=>bif Nat.beq g f then .sc .un else .ep g i o b cs
 |s=>s)
def xP (ps:List Nat):ah→ah
 | .own g=>bif aB ps g then .own g else .un
 |l=>l
def rq (ps:List Nat):Slot→Slot
 | .sc l=> .sc (xP ps l)
 | .ag cs=> .ag (cs.map (xP ps))
 | .tg cs=> .tg (cs.map (xP ps))
 | .box cs=> .box (cs.map (xP ps))
 |s=>s
def yd (ps:List Nat) (r:Fr):Fr:=r.map fun p=>(p.1,rq ps p.2)
def jA (ks fs qs:List Nat):List (Nat×fX)→List (Nat×fX)
 |[]=>[]
 |(k,o)::r=>bif aB ks k then (bif aB fs k&&!aB qs k then (k,⟨o.ty,true,o.xs⟩) else (k,o))::jA ks fs qs r else jA ks fs qs r
section
variable {R:Type}
theorem force_eq (s:Slot) (K:Slot→Option R):force s K=K s:=by cases s<;>rfl
theorem eZ (r:Fr) (t:Nat) (s:Slot) (K:Fr→Option R):tp r t s K=K (aT r t s):=by
 induction r generalizing K with
 |nil=>rfl
 |cons p r ih=>obtain ⟨k,x⟩:=p;simp only [tp,aT];cases Nat.beq k t<;>simp [ih]
theorem qx (ds:List Nat) (r:Fr) (K:Fr→Option R):kV ds r K=K (fO ds r):=by
 induction r generalizing K with
 |nil=>rfl
 |cons p r ih=>obtain ⟨k,x⟩:=p;simp only [kV,fO];cases bE x||aB ds k<;>simp [ih]
theorem EE (ks:List Nat) (r:Fr) (K:Fr→Option R):pick ks r K=K (fY ks r):=by
 induction r generalizing K with
 |nil=>rfl
 |cons p r ih=>obtain ⟨k,x⟩:=p;simp only [pick,fY];cases aB ks k&&!bE x<;>simp [ih]
theorem fZ (r:List (Nat×fX)) (t:Nat) (s:fX) (K:List (Nat×fX)→Option R):xU r t s K=K (aM r t s):=by
 induction r generalizing K with
 |nil=>rfl
 |cons p r ih=>obtain ⟨k,x⟩:=p;simp only [xU,aM];cases Nat.beq k t<;>simp [ih]
theorem ox (f:Nat) (cs:List ah) (K:List ah→Option R):kh f cs K=K (cs.map (vj f)):=by
 induction cs generalizing K with
 |nil=>rfl
 |cons l r ih=>cases l<;>simp only [kh,List.map_cons,vj,ih];rename_i g;cases Nat.beq g f<;>rfl
theorem Ca (f:Nat) (s:Slot) (K:Slot→Option R):rB f s K=K (nB f s):=by
 cases s with
 |sc l=>cases l<;>simp only [rB,nB,vj];rename_i g;cases Nat.beq g f<;>rfl
 |ag cs=>simp only [rB,nB,ox]
 |tg cs=>simp only [rB,nB,ox]
 |box cs=>simp only [rB,nB,ox]
 |ep g i o b cs=>simp only [rB,nB];cases Nat.beq g f<;>rfl
 |_=>rfl
theorem Cb (f:Nat) (r:Fr) (K:Fr→Option R):IZ f r K=K (eE f r):=by
 induction r generalizing K with
 |nil=>rfl
 |cons p r ih=>obtain ⟨k,x⟩:=p;simp only [IZ,Ca,ih,eE,List.map_cons]
theorem G7 (f:Nat) (r:Fr) (K:Fr→Option R):IA f r K=K (mX f r):=by
 induction r generalizing K with
 |nil=>rfl
 |cons p r ih=>
  obtain ⟨k,x⟩:=p
  cases x<;>simp only [IA,ih,mX,List.map_cons]
  rename_i g i o b cs
  cases Nat.beq g f<;>rfl
theorem oz (f:List Nat) (cs:List ah) (K:List ah→Option R):ki f cs K=K (cs.map (xP f)):=by
 induction cs generalizing K with
 |nil=>rfl
 |cons l r ih=>cases l<;>simp only [ki,List.map_cons,xP,ih];rename_i g;cases aB f g<;>rfl
theorem Cc (f:List Nat) (s:Slot) (K:Slot→Option R):ua f s K=K (rq f s):=by
 cases s with
 |sc l=>cases l<;>simp only [ua,rq,xP];rename_i g;cases aB f g<;>rfl
 |ag cs=>simp only [ua,rq,oz]
 |tg cs=>simp only [ua,rq,oz]
 |box cs=>simp only [ua,rq,oz]
 |_=>rfl
theorem G8 (f:List Nat) (r:Fr) (K:Fr→Option R):KT f r K=K (yd f r):=by
 induction r generalizing K with
 |nil=>rfl
 |cons p r ih=>obtain ⟨k,x⟩:=p;simp only [KT,Cc,ih,yd,List.map_cons]
theorem Cd (ks fs qs:List Nat) (r:List (Nat×fX)) (K:List (Nat×fX)→Option R):ub ks fs qs r K=K (jA ks fs qs r):=by
 induction r generalizing K with
 |nil=>rfl
 |cons p r ih=>
  obtain ⟨k,x⟩:=p
  simp only [ub,jA]
  cases aB ks k
  ·simp [ih]
  ·simp only [cond_true,ih]
   cases aB fs k&&!aB qs k<;>rfl
theorem mY {α:Type} (x y:List α):app x y=some (x++y):=by
 induction x with
 |nil=>rfl
 |cons a r ih=>simp [app,ih]
end
theorem cE (a b:Nat):Nat.beq a b=decide (a=b):=by
 by_cases h:a=b
 ·subst h;simp
 ·simp only [h,decide_false];exact Bool.eq_false_iff.2 (fun e=>h (Nat.eq_of_beq_eq_true e))
theorem aG (l:List Nat) (t:Nat):aB l t=true↔t∈l:=by
 induction l with
 |nil=>simp [aB]
 |cons k r ih=>
  simp only [aB,cE,List.mem_cons]
  by_cases h:k=t
  ·simp [h]
  ·simp only [h,decide_false,cond_false,ih]
   exact ⟨.inr,fun h'=>h'.resolve_left (fun e=>h e.symm)⟩
theorem aI (r:Fr) (d t:Nat) (s:Slot):ae (aT r d s) t=if t=d then s else ae r t:=by
 induction r with
 |nil=>simp only [aT,ae,cE];by_cases h:t=d<;>simp [h,Ne.symm]<;>(intro e;exact absurd e.symm h)
 |cons p r ih=>
  obtain ⟨k,x⟩:=p
  simp only [aT,cE]
  by_cases hk:k=d
  ·subst hk
   simp only [decide_true,cond_true,ae,cE]
   by_cases h:k=t
   ·simp [h]
   ·have h': ¬t=k:=fun e=>h e.symm
    simp [h,h']
  ·simp only [hk,decide_false,cond_false,ae,cE,ih]
   by_cases h:k=t
   ·subst h;simp [hk]
   ·simp [h]
theorem au (r:List (Nat×fX)) (d t:Nat) (s:fX):aj (aM r d s) t=if t=d then some s else aj r t:=by
 induction r with
 |nil=>simp only [aM,aj,cE];by_cases h:t=d<;>simp [h,Ne.symm]<;>(intro e;exact absurd e.symm h)
 |cons p r ih=>
  obtain ⟨k,x⟩:=p
  simp only [aM,cE]
  by_cases hk:k=d
  ·subst hk
   simp only [decide_true,cond_true,aj,cE]
   by_cases h:k=t
   ·simp [h]
   ·have h': ¬t=k:=fun e=>h e.symm
    simp [h,h']
  ·simp only [hk,decide_false,cond_false,aj,cE,ih]
   by_cases h:k=t
   ·subst h;simp [hk]
   ·simp [h]
theorem rM (g:Slot→Slot) (hg:g (.sc .un)= .sc .un) (r:Fr) (t:Nat):ae (r.map fun p=>(p.1,g p.2)) t=g (ae r t):=by
 induction r with
 |nil=>simp [ae,hg]
 |cons p r ih=>
  obtain ⟨k,x⟩:=p
  simp only [List.map_cons,ae,cE]
  by_cases h:k=t<;>simp [h,ih]
theorem cQ (f:Nat) (r:Fr) (t:Nat):ae (eE f r) t=nB f (ae r t):=rM (nB f) rfl r t
theorem ud (f:List Nat) (r:Fr) (t:Nat):ae (yd f r) t=rq f (ae r t):=rM (rq f) rfl r t
def ap (r:Fr):List Nat:=r.map Prod.fst
theorem kY (r:Fr) (t:Nat) (h:t∉ap r):ae r t= .sc .un:=by
 induction r with
 |nil=>rfl
 |cons p r ih=>
  obtain ⟨k,x⟩:=p
  simp only [ap,List.map_cons,List.mem_cons,not_or] at h
  have h': ¬k=t:=fun e=>h.1 e.symm
  simp only [ae,cE,h',decide_false,cond_false]
  exact ih h.2
theorem pa (ds:List Nat) (r:Fr):List.Sublist (ap (fO ds r)) (ap r):=by
 induction r with
 |nil=>simp [ap,fO]
 |cons p r ih=>
  obtain ⟨k,x⟩:=p
  simp only [fO]
  cases bE x||aB ds k
  ·simpa [ap] using ih
  ·exact (List.Sublist.cons _ ih)
theorem lK (ds:List Nat) (r:Fr):List.Sublist (ap (fY ds r)) (ap r):=by
 induction r with
 |nil=>simp [ap,fY]
 |cons p r ih=>
  obtain ⟨k,x⟩:=p
  simp only [fY]
  cases aB ds k&&!bE x
  ·exact (List.Sublist.cons _ ih)
  ·simpa [ap] using ih
theorem rN (ds:List Nat) (r:Fr) (hn:(ap r).Nodup) (t:Nat):ae (fO ds r) t=if bE (ae r t)||aB ds t then .sc .un else ae r t:=by
 induction r with
 |nil=>simp [ae,fO]
 |cons p r ih=>
  obtain ⟨k,x⟩:=p
  simp only [ap,List.map_cons,List.nodup_cons] at hn
  have ih:=ih hn.2
  simp only [fO]
  by_cases hk:k=t
  ·subst hk
   cases hb:bE x||aB ds k
   ·simp [ae,cE,hb]
   ·simp only [cond_true,ae,cE,decide_true,hb,if_true]
    refine kY _ _ (fun hm=>hn.1 ((pa ds r).subset hm))
  ·cases hb:bE x||aB ds k
   ·simp [ae,cE,hk,ih]
   ·simp [ae,cE,hk,ih]
theorem oA (ds:List Nat) (r:Fr) (hn:(ap r).Nodup) (t:Nat):ae (fY ds r) t=if aB ds t&&!bE (ae r t) then ae r t else .sc .un:=by
 induction r with
 |nil=>simp [ae,fY]
 |cons p r ih=>
  obtain ⟨k,x⟩:=p
  simp only [ap,List.map_cons,List.nodup_cons] at hn
  have ih:=ih hn.2
  simp only [fY]
  by_cases hk:k=t
  ·subst hk
   cases hb:aB ds k&&!bE x
   ·simp only [cond_false,ae,cE,decide_true,cond_true,hb]
    exact kY _ _ (fun hm=>hn.1 ((lK ds r).subset hm))
   ·simp [ae,cE,hb]
  ·cases hb:aB ds k&&!bE x<;>simp [ae,cE,hk,ih]
theorem qy (r s:Fr) (t:Nat):ae (r++s) t=if t∈ap r then ae r t else ae s t:=by
 induction r with
 |nil=>simp [ap]
 |cons p r ih=>
  obtain ⟨k,x⟩:=p
  simp only [List.cons_append,ae,cE,ap,List.map_cons,List.mem_cons]
  by_cases h:k=t
  ·simp [h]
  ·have h': ¬t=k:=fun e=>h e.symm
   simp only [h,h',decide_false,cond_false,ih,false_or]
   rfl
end Dn
/-
  Laws of leaves and slots: offsets, and what changes elsewhere. Conditions: none.
-/
set_option linter.unusedSimpArgs false
set_option linter.unusedVariables false
namespace Dn
open Go
section
variable {e e':Env}
theorem al.width {vs:List Value} {l:ah} (h:al e vs l):vs.length=l.w:=by
 cases l with
 |un=>obtain ⟨v,rfl,_⟩:=h;rfl
 |p m=>obtain ⟨v,rfl,_⟩:=h.2.one h.1;rfl
 |hs x=>cases h;simp [aD,x.h,ah.w]
 |nil=>cases h;rfl
 |mp s es=>exact h.elim
 |own f=>obtain ⟨v,rfl,_⟩:=h;rfl
theorem al.cells {vs:List Value} {l:ah} (h:al e vs l): ∀v∈vs,v.oneCell'=true:=by
 cases l with
 |un=>obtain ⟨v,rfl,hv⟩:=h;simpa using hv
 |p m=>exact h.2.cells
 |hs x=>
  cases h
  intro v hv
  obtain ⟨b,_,rfl⟩:=List.mem_map.1 hv
  rfl
 |nil=>cases h;simp [Value.oneCell']
 |mp s es=>exact h.elim
 |own f=>obtain ⟨v,rfl,hv,_⟩:=h;simpa using hv
theorem af.width {cs:List ah}: ∀{vs:List Value},af e vs cs→vs.length=mS cs:=by
 induction cs with
 |nil=>intro vs h;cases h;rfl
 |cons l r ih=>intro vs h;obtain ⟨v,w,rfl,h1,h2⟩:=h;simp [mS,h1.width,ih h2]
theorem af.cells {cs:List ah}: ∀{vs:List Value},af e vs cs→ ∀v∈vs,v.oneCell'=true:=by
 induction cs with
 |nil=>intro vs h;cases h;simp
 |cons l r ih=>
  intro vs h v hv
  obtain ⟨a,w,rfl,h1,h2⟩:=h
  rcases List.mem_append.1 hv with hv|hv
  ·exact h1.cells v hv
  ·exact ih h2 v hv
theorem af.append {cs ds:List ah}: ∀{vs ws:List Value},af e vs cs→af e ws ds→af e (vs++ws) (cs++ds):=by
 induction cs with
 |nil=>intro vs ws h h';cases h;simpa using h'
 |cons l r ih=>intro vs ws h h';obtain ⟨v,w,rfl,h1,h2⟩:=h;exact ⟨v,w++ws,by simp,h1,ih h2 h'⟩
theorem mZ {cs:List ah}: ∀{off:Nat} {ds:List ah} {vs:List Value},cut cs off=some ds→af e vs cs→
 ∃v1 v2,vs=v1++v2∧v1.length=off∧af e v2 ds:=by
 induction cs with
 |nil=>
  intro off ds vs h hr
  cases off with
  |zero=>simp only [cut,Option.some.injEq] at h;subst h;exact ⟨[],vs,rfl,rfl,hr⟩
  |succ n=>simp [cut] at h
 |cons l r ih=>
  intro off ds vs h hr
  cases off with
  |zero=>simp only [cut,Option.some.injEq] at h;subst h;exact ⟨[],vs,rfl,rfl,hr⟩
  |succ n=>
   simp only [cut] at h
   cases hb:Nat.ble l.w (n+1) with
   |false=>simp [hb] at h
   |true=>
    simp only [hb,cond_true] at h
    have hle:=Nat.le_of_ble_eq_true hb
    obtain ⟨v,w,rfl,h1,h2⟩:=hr
    obtain ⟨v1,v2,rfl,hl,h3⟩:=ih h h2
    exact ⟨v++v1,v2,by simp,by simp [h1.width,hl];omega,h3⟩
theorem Aa {cs:List ah}: ∀{n:Nat} {ds:List ah} {vs:List Value},wo cs n=some ds→af e vs cs→
 ∃v1 v2,vs=v1++v2∧v1.length=n∧af e v1 ds:=by
 induction cs with
 |nil=>
  intro n ds vs h hr
  cases n with
  |zero=>simp only [wo,Option.some.injEq] at h;subst h;exact ⟨[],vs,rfl,rfl,rfl⟩
  |succ n=>simp [wo] at h
 |cons l r ih=>
  intro n ds vs h hr
  cases n with
  |zero=>simp only [wo,Option.some.injEq] at h;subst h;exact ⟨[],vs,rfl,rfl,rfl⟩
  |succ n=>
   simp only [wo] at h
   cases hb:Nat.ble l.w (n+1) with
   |false=>simp [hb] at h
   |true=>
    simp only [hb,cond_true] at h
    have hle:=Nat.le_of_ble_eq_true hb
    obtain ⟨v,w,rfl,h1,h2⟩:=hr
    cases hu:wo r (n+1-l.w) with
    |none=>simp [hu] at h
    |some b=>
     simp only [hu,Option.some.injEq] at h
     subst h
     obtain ⟨v1,v2,rfl,hl,h3⟩:=ih hu h2
     exact ⟨v++v1,v2,by simp,by simp [h1.width,hl];omega,v,v1,rfl,h1,h3⟩
theorem ue {cs:List ah} {off n:Nat} {ds:List ah} {vs:List Value} (h:part cs off n=some ds) (hr:af e vs cs):
 ∃v1 v2 v3,vs=v1++v2++v3∧v1.length=off∧v2.length=n∧af e v2 ds:=by
 unfold part at h
 cases hc:cut cs off with
 |none=>simp [hc] at h
 |some a=>
  simp only [hc] at h
  obtain ⟨v1,v2,rfl,h1,h2⟩:=mZ hc hr
  obtain ⟨v3,v4,rfl,h3,h4⟩:=Aa h h2
  exact ⟨v1,v3,v4,by simp,h1,h3,h4⟩
theorem uf {ls:List ah}: ∀{cs ds:List ah} {vs ws:List Value},over ls cs=some ds→af e vs cs→af e ws ls→
 ∃v1 v2,vs=v1++v2∧v1.length=ws.length∧af e (ws++v2) ds:=by
 induction ls with
 |nil=>intro cs ds vs ws h hr hw;simp only [over,Option.some.injEq] at h;subst h;cases hw;exact ⟨[],vs,rfl,rfl,hr⟩
 |cons l r ih=>
  intro cs ds vs ws h hr hw
  cases cs with
  |nil=>simp [over] at h
  |cons c cs=>
   simp only [over] at h
   cases hb:Nat.beq l.w c.w with
   |false=>simp [hb] at h
   |true=>
    simp only [hb,cond_true] at h
    have OC:=Nat.eq_of_beq_eq_true hb
    cases ho:over r cs with
    |none=>simp [ho] at h
    |some q=>
     simp only [ho,Option.some.injEq] at h
     subst h
     obtain ⟨v,w,rfl,h1,h2⟩:=hr
     obtain ⟨a,b,rfl,h3,h4⟩:=hw
     obtain ⟨v1,v2,rfl,hl,h5⟩:=ih ho h2 h4
     exact ⟨v++v1,v2,by simp,by simp [h1.width,h3.width,hl,OC],a,b++v2,by simp,h3,h5⟩
theorem lL {cs:List ah}: ∀{off:Nat} {ls ds:List ah} {vs ws:List Value},putAt cs off ls=some ds→af e vs cs→af e ws ls→
 ∃v1 v2 v3,vs=v1++v2++v3∧v1.length=off∧v2.length=ws.length∧af e (v1++ws++v3) ds:=by
 induction cs with
 |nil=>
  intro off ls ds vs ws h hr hw
  cases off with
  |zero=>
   simp only [putAt] at h
   obtain ⟨v1,v2,rfl,h1,h2⟩:=uf h hr hw
   exact ⟨[],v1,v2,by simp,rfl,h1,by simpa using h2⟩
  |succ n=>simp [putAt] at h
 |cons l r ih=>
  intro off ls ds vs ws h hr hw
  cases off with
  |zero=>
   simp only [putAt] at h
   obtain ⟨v1,v2,rfl,h1,h2⟩:=uf h hr hw
   exact ⟨[],v1,v2,by simp,rfl,h1,by simpa using h2⟩
  |succ n=>
   simp only [putAt] at h
   cases hb:Nat.ble l.w (n+1) with
   |false=>simp [hb] at h
   |true=>
    simp only [hb,cond_true] at h
    have hle:=Nat.le_of_ble_eq_true hb
    obtain ⟨v,w,rfl,h1,h2⟩:=hr
    cases hu:putAt r (n+1-l.w) ls with
    |none=>simp [hu] at h
    |some b=>
     simp only [hu,Option.some.injEq] at h
     subst h
     obtain ⟨v1,v2,v3,rfl,hl,pQ,h3⟩:=ih hu h2 hw
     exact ⟨v++v1,v2,v3,by simp,by simp [h1.width,hl];omega,pQ,v,v1++ws++v3,by simp,h1,h3⟩
structure dZ (S T:Nat→Prop) (e e':Env):Prop where
 key:e'.key=e.key
 φ:jh e.φ e'.φ
 B: ∀r,T r→e'.B r=e.B r
 dA: ∀f o',aj e'.m f=some o'→S f→ ∃o,aj e.m f=some o∧e'.E f=e.E f∧o'.xs=o.xs
def du (S:Nat→Prop) (l:ah):Prop:= ∀f,l= .own f→S f
def cA (S T:Nat→Prop):Slot→Prop
 | .ptr r _=>T r
 | .mR r=>T r
 | .hp r _ _=>T r
 | .sc l=>du S l
 | .ag cs=> ∀l∈cs,du S l
 | .tg cs=> ∀l∈cs,du S l
 | .ep g _ _ _ _=>S g
 |_=>True
theorem al.on {S T:Nat→Prop} (h:dZ S T e e') {vs:List Value} {l:ah} (hl:du S l) (hr:al e vs l):al e' vs l:=by
 cases l with
 |un=>exact hr
 |p m=>exact ⟨hr.1,by have:=hr.2.mono h.φ;rw [←h.key] at this;exact this⟩
 |hs x=>exact hr
 |nil=>exact hr
 |mp s es=>exact hr
 |own f=>
  obtain ⟨v,rfl,hv,hf⟩:=hr
  refine ⟨v,rfl,hv,fun o' oB=> ?_⟩
  obtain ⟨o,ho,hE,_⟩:=h.dA f o' oB (hl f rfl)
  rw [hE];exact hf o ho
theorem af.on {S T:Nat→Prop} (h:dZ S T e e') {cs:List ah}: ∀{vs:List Value},(∀l∈cs,du S l)→af e vs cs→af e' vs cs:=by
 induction cs with
 |nil=>intro vs _ hr;exact hr
 |cons l r ih=>
  intro vs hl hr
  obtain ⟨v,w,rfl,h1,h2⟩:=hr
  exact ⟨v,w,rfl,h1.on h (hl l (by simp)),ih (fun x hx=>hl x (by simp [hx])) h2⟩
theorem rO {S:Nat→Prop} {l:ah} (h:jz l=true):du S l:=by
 intro f hf;subst hf;simp [jz] at h
theorem lM {S:Nat→Prop} {cs:List ah} (h:cZ cs=true): ∀l∈cs,du S l:=by
 induction cs with
 |nil=>simp
 |cons l r ih=>
  simp only [cZ,Bool.and_eq_true] at h
  intro x hx
  rcases List.mem_cons.1 hx with rfl|hx
  ·exact rO h.1
  ·exact ih h.2 x hx
mutual
theorem aa.on {S T:Nat→Prop} (h:dZ S T e e') {v:Value}: ∀{s:Slot},cA S T s→aa e v s→aa e' v s
 | .skip,_,hr=>by simpa [aa] using hr
 | .sc l,hs,hr=>by
  cases l with
  |un=>simp [aa]
  |hs x=>simpa [aa] using hr
  |p m=>simp only [aa] at hr⊢;exact hr.on h hs
  |nil=>simp only [aa] at hr⊢;exact hr.on h hs
  |mp s es=>simp only [aa] at hr⊢;exact hr
  |own f=>simp only [aa] at hr⊢;exact hr.on h hs
 | .ag cs,hs,hr=>by
  simp only [aa] at hr⊢
  obtain ⟨arr,h1,h2⟩:=hr
  exact ⟨arr,h1,h2.on h hs⟩
 | .tg cs,hs,hr=>by
  simp only [aa] at hr⊢
  obtain ⟨arr,h1,h2⟩:=hr
  exact ⟨arr,h1,h2.on h hs⟩
 | .fS vs,_,hr=>by
  simp only [aa] at hr⊢
  obtain ⟨arr,h1,h2⟩:=hr
  exact ⟨arr,h1,dY.on h h2⟩
 | .box _,_,hr=>by simp [aa] at hr
 | .mQ cs,_,hr=>by
  simp only [aa] at hr⊢
  obtain ⟨ax,o,vs,h1,h2,h3,h4⟩:=hr
  exact ⟨ax,o,vs,h1,h2.on h (lM h3),h3,fun j hj=>vi h.φ hj (h4 j hj)⟩
 | .ptr r o,hs,hr=>by simp only [aa] at hr⊢;rw [h.B r hs];exact hr
 | .mR r,hs,hr=>by simp only [aa] at hr⊢;rw [h.B r hs];exact hr
 | .rp cs off,_,hr=>by
  simp only [aa] at hr⊢
  obtain ⟨ax,o,vs,h1,h2,h3,h4⟩:=hr
  exact ⟨ax,o,vs,h1,h2.on h (lM h3),h3,fun j hj=>vi h.φ hj (h4 j hj)⟩
 | .hp r o i,hs,hr=>by simp only [aa] at hr⊢;rw [h.B r hs];exact hr
 | .ep f i off st cs,hs,hr=>by
  simp only [aa] at hr⊢
  intro o' oB
  obtain ⟨o,ho,hE,hx⟩:=h.dA f o' oB hs
  obtain ⟨ax,cap,h1,h2,h3⟩:=hr o ho
  exact ⟨ax,cap,by rw [hE,hx];exact h1,by rw [hx];exact h2,h3⟩
theorem dY.on {S T:Nat→Prop} (h:dZ S T e e'): ∀{vs:List Value} {ss:List Slot},dY e vs ss→dY e' vs ss
 |vs,[],hr=>hr
 |vs,s::ss,hr=>by
  simp only [dY] at hr⊢
  obtain ⟨v,r,h1,h2,h3,h4⟩:=hr
  refine ⟨v,r,h1,aa.on h ?_ h2,h3,dY.on h h4⟩
  cases s<;>simp [n7] at h3<;>simp only [cA]
  ·exact rO h3
  ·exact lM h3
end
end
end Dn
/-
  The relation between an abstract state and a running frame; operations that change no memory. Conditions: none.
-/
set_option linter.unusedSimpArgs false
set_option linter.unusedVariables false
namespace Dn
open Go
section
variable {e e':Env}
theorem al.kill {vs:List Value} {l:ah} (f:Nat) (h:al e vs l):al e vs (vj f l):=by
 cases l with
 |own g=>
  simp only [vj]
  cases Nat.beq g f
  ·exact h
  ·obtain ⟨v,rfl,hv,_⟩:=h;exact ⟨v,rfl,hv⟩
 |_=>exact h
theorem pZ (f:Nat) (l:ah):du (· ≠f) (vj f l):=by
 intro g hg
 cases l<;>simp [vj] at hg
 rename_i g'
 cases hb:Nat.beq g' f<;>simp [hb] at hg
 subst hg
 intro e;subst e;simp [cE] at hb
theorem al.wF {vs:List Value} {l:ah} (f:List Nat) (h:al e vs l):al e vs (xP f l):=by
 cases l with
 |own g=>
  simp only [xP]
  cases aB f g
  ·obtain ⟨v,rfl,hv,_⟩:=h;exact ⟨v,rfl,hv⟩
  ·exact h
 |_=>exact h
theorem vk (f:List Nat) (l:ah):du (· ∈f) (xP f l):=by
 intro g hg
 cases l<;>simp [xP] at hg
 rename_i g'
 cases hb:aB f g'<;>simp [hb] at hg
 subst hg
 exact (aG _ _).1 hb
theorem af.map {g:ah→ah} (hg: ∀vs l,al e vs l→al e vs (g l)) {cs:List ah}: ∀{vs:List Value},af e vs cs→af e vs (cs.map g):=by
 induction cs with
 |nil=>intro vs h;exact h
 |cons l r ih=>intro vs h;obtain ⟨v,w,rfl,h1,h2⟩:=h;exact ⟨v,w,rfl,hg _ _ h1,ih h2⟩
theorem aa.G9 {v:Value} {l:ah} (hl: ∀x,l≠ .hs x) (hu:l≠ .un):aa e v (.sc l)↔al e [v] l:=by
 cases l<;>simp_all [aa]
theorem aa.kill {v:Value} {s:Slot} (f:Nat) (h:aa e v s):aa e v (nB f s):=by
 cases s with
 |sc l=>
  cases l with
  |own g=>
   simp only [nB,vj]
   cases Nat.beq g f
   ·exact h
   ·simp [aa]
  |_=>exact h
 |ag cs=>simp only [nB,aa] at h⊢;obtain ⟨arr,h1,h2⟩:=h;exact ⟨arr,h1,h2.map (fun _ _=>al.kill f)⟩
 |tg cs=>simp only [nB,aa] at h⊢;obtain ⟨arr,h1,h2⟩:=h;exact ⟨arr,h1,h2.map (fun _ _=>al.kill f)⟩
 |box cs=>simp [aa] at h
 |ep g i o b cs=>
  simp only [nB]
  cases Nat.beq g f
  ·exact h
  ·simp [aa]
 |_=>exact h
theorem Ce (f:Nat) (T:Nat→Prop) (s:Slot) (hT:cA (fun _=>True) T s):cA (· ≠f) T (nB f s):=by
 cases s with
 |sc l=>exact pZ f l
 |ag cs=>intro l hl;obtain ⟨x,_,rfl⟩:=List.mem_map.1 hl;exact pZ f x
 |tg cs=>intro l hl;obtain ⟨x,_,rfl⟩:=List.mem_map.1 hl;exact pZ f x
 |ep g i o b cs=>
  simp only [nB]
  cases hb:Nat.beq g f
  ·simp only [cond_false,cA];intro e;subst e;simp [cE] at hb
  ·simp [cA,du]
 |ptr r o=>exact hT
 |hp r o i=>exact hT
 |_=>trivial
theorem aa.wF {v:Value} {s:Slot} (f:List Nat) (h:aa e v s):aa e v (rq f s):=by
 cases s with
 |sc l=>
  cases l with
  |own g=>
   simp only [rq,xP]
   cases aB f g
   ·simp [aa]
   ·exact h
  |_=>exact h
 |ag cs=>simp only [rq,aa] at h⊢;obtain ⟨arr,h1,h2⟩:=h;exact ⟨arr,h1,h2.map (fun _ _=>al.wF f)⟩
 |tg cs=>simp only [rq,aa] at h⊢;obtain ⟨arr,h1,h2⟩:=h;exact ⟨arr,h1,h2.map (fun _ _=>al.wF f)⟩
 |box cs=>simp [aa] at h
 |_=>exact h
end
def az (key:Nat→Nat) (φ:Ph) (size:Nat):List Value→List MV→Prop
 |vs,[]=>vs=[]
 |vs,x::xs=> ∃v r,vs=v++r∧v.length=size∧eJ key φ v x∧az key φ size r xs
structure aJ where
 In:Nat→Prop
 bh:List Nat
 aY:List Nat
 T:Nat→Value
 Jc:Prop
 Pr:Nat→Prop
instance:CoeFun aJ (fun _=>Nat→Prop):=⟨aJ.In⟩
instance:Coe aJ (Nat→Prop):=⟨aJ.In⟩
theorem wc {a b c:Prop} (h:(a∧b)∨c) (hn: ¬a):c:=h.resolve_left fun h=>hn h.1
def aJ.nc (Z:aJ):aJ:={Z with Jc:=False}
def aJ.plain (I:Nat→Prop):aJ:=⟨I,[],[],fun _=>undef,False,fun _=>True⟩
def aJ.bz (Z:aJ) (t:Nat):aJ:={Z with In:=fun b=>(t∈Z.bh∧Z.Pr b)∨Z.In b}
def aJ.fz (Z:aJ) (f:Nat):aJ:={Z with In:=fun b=>(f∈Z.aY∧Z.Pr b)∨Z.In b,Jc:=f∈Z.aY}
def p0:Kd→MV→Bool
 | .b,.b _=>true
 | .i k,.i k' _=>decide (k'=k)
 | .s,.s _=>true
 | .h,.h _=>true
 |_,_=>false
def bC:List Kd→List MV→Bool
 |[],[]=>true
 |k::ks,m::ms=>p0 k m&&bC ks ms
 |_,_=>false
def pR:MV→List Value
 | .b x=>[.bool x]
 | .i k n=>[.int k n]
 | .s l=>[.string ⟨l.toArray⟩]
 | .h x=>aD x
 |_=>[]
def cF (st:Bool) (ks:List MV):Value:=match st,ks with
 |false,[.h x]=> .agg (aD x).toArray
 |false,[.b x]=> .bool x
 |false,[.i k n]=> .int k n
 |false,[.s l]=> .string ⟨l.toArray⟩
 |_,ks=> .agg (ks.flatMap pR).toArray
def nV (b:Bool) (m:MV):Value:=match b,m with
 |true,.b x=> .bool x
 |false,.i .i64 n=> .int .i64 n
 |_,_=>undef
def ye (b:Bool) (m:MV):Bool:=match b,m with
 |true,.b x=>true
 |false,.i .i64 n=>true
 |_,_=>false
def Gf (s:MS) (x:MapEntry) (m:MV) (i:Nat):Prop:=
 x.born=i∧ ∃ks v,m= .fS [.agg ks,v]∧bC s.lay ks=true∧x.key=cF s.st ks∧ye s.b v=true∧x.val=nV s.b v
structure jB (s:MS) (es:Array MapEntry) (clock:Nat) (ms:List MV):Prop where
 size:es.size=ms.length
 clock:clock=ms.length
 EF: ∀(i:Nat) x m,es[i]? =some x→ms[i]? =some m→Gf s x m i
def dO (e:Env) (o:Obj) (cs:List ah):Prop:=match o with
 | .cells arr _ z=>z=(0,0)∧af e arr.toList cs
 | .map es clock=> ∃s ms,cs=[.mp s ms]∧q9 s=false∧jB s es clock ms
 | .stringIter x pos=>cs=[.mp MS.it [.s x.data.toList,.i .i64 pos]]
 |_=>False
def vl (cs:List ah) (b:Nat):Value:=bif eF cs then .map (some b) else .pointer (some ⟨b,0,none⟩)
structure kl (Z:aJ) (e:Env) (w:World) (ax:Nat) (cs:List ah):Prop where
 aV:Z.In ax
 obj: ∃o,w.heap[ax]? =some o∧dO e o cs
 free: ∀off,e.φ ax off=none
theorem dO.on {S T:Nat→Prop} {e e':Env} (h:dZ S T e e') {o:Obj} {cs:List ah} (hl: ∀l∈cs,du S l) (hr:dO e o cs):dO e' o cs:=by
 cases o with
 |cells arr T z=>exact ⟨hr.1,hr.2.on h hl⟩
 |map es clock=>exact hr
 |stringIter x pos=>exact hr
 |_=>exact hr.elim
theorem vm {cs:List ah} (h:ct cs=true): ∃s ms,cs=[.mp s ms]:=by
 unfold ct at h
 split at h
 ·exact ⟨_,_,rfl⟩
 ·cases h
theorem dO.cells {e:Env} {o:Obj} {cs:List ah} (hr:dO e o cs) (hm:ct cs=false): ∃arr T,o= .cells arr T (0,0)∧af e arr.toList cs:=by
 cases o with
 |cells arr T z=>obtain ⟨rfl,h⟩:=hr;exact ⟨arr,T,rfl,h⟩
 |map es clock=>obtain ⟨s,ms,rfl,_⟩:=hr;simp [ct] at hm
 |stringIter x pos=>rw [show cs=_ from hr] at hm;simp [ct] at hm
 |_=>exact hr.elim
theorem lN {cs:List ah} (h:ct cs=false):eF cs=false:=by
 unfold eF
 split
 ·simp [ct] at h
 ·rfl
theorem wG (g:ah→ah) (h1: ∀s es,g (.mp s es)= .mp s es) (h2: ∀l,(∀s es,l≠ .mp s es)→ ∀s es,g l≠ .mp s es) (cs:List ah):eF (cs.map g)=eF cs:=by
 cases cs with
 |nil=>rfl
 |cons l r=>
  cases r with
  |nil=>
   by_cases hl: ∃s es,l= .mp s es
   ·obtain ⟨s,es,rfl⟩:=hl;simp [h1,eF]
   ·have p7: ∀s es,l≠ .mp s es:=fun s es e=>hl ⟨s,es,e⟩
    have hg:=h2 l p7
    simp only [List.map_cons,List.map_nil]
    have a:eF [l]=false:=by cases l<;>simp_all [eF]
    have b:eF [g l]=false:=by cases hq:g l<;>simp_all [eF]
    rw [a,b]
  |cons x y=>cases hl:l<;>simp [eF]
theorem kl.cells {Z:aJ} {e:Env} {w:World} {ax:Nat} {cs:List ah} (h:kl Z e w ax cs) (hm:ct cs=false): ∃arr T,w.heap[ax]? =some (.cells arr T (0,0))∧af e arr.toList cs:=by
 obtain ⟨o,h1,h2⟩:=h.obj
 obtain ⟨arr,T,rfl,h3⟩:=h2.cells hm
 exact ⟨arr,T,h1,h3⟩
theorem yf {cs:List ah} (hm:eF cs=false) (b:Nat):vl cs b= .pointer (some ⟨b,0,none⟩):=by simp [vl,hm]
theorem kH {cs:List ah} (hm:ct cs=false) (b:Nat):vl cs b= .pointer (some ⟨b,0,none⟩):=yf (lN hm) b
theorem Cf {cs:List ah} (hm:eF cs=true) (b:Nat):vl cs b= .map (some b):=by simp [vl,hm]
theorem dO.map {e:Env} {g:ah→ah} (hg: ∀vs l,al e vs l→al e vs (g l)) (hm: ∀s es,g (.mp s es)= .mp s es) {o:Obj} {cs:List ah} (hr:dO e o cs):dO e o (cs.map g):=by
 cases o with
 |cells arr T z=>exact ⟨hr.1,hr.2.map hg⟩
 |map es clock=>obtain ⟨s,ms,rfl,h2⟩:=hr;exact ⟨s,ms,by simp [hm],h2⟩
 |stringIter x pos=>rw [show cs=_ from hr];show List.map g _=_;simp [hm]
 |_=>exact hr.elim
theorem yg (f:Nat) (cs:List ah):eF (cs.map (vj f))=eF cs:=
 wG _ (fun _ _=>rfl) (fun l hl s es=>by cases l<;>simp_all [vj];rename_i g;cases Nat.beq g f<;>simp) cs
theorem Ha (f:List Nat) (cs:List ah):eF (cs.map (xP f))=eF cs:=
 wG _ (fun _ _=>rfl) (fun l hl s es=>by cases l<;>simp_all [xP];rename_i g;cases aB f g<;>simp) cs
structure bu (c:Ctx) (Z:aJ) (e:Env) (w:World) (v:Value) (o:fX):Prop where
 row: ∃I cells,c.ti o.ty=some I∧I.a7=[]∧w.ownsRow 0 o.ty I.size v o.xs.length cells∧az e.key e.φ I.size cells o.xs∧
  ∀ax,v.ownBlock=some ax→Z.In ax∧(∀off u,e.φ ax off=some u→o.bU=true∧off<o.xs.length *I.size)∧(Z.Jc→o.bU=true→ ∀j,j<cells.length→e.φ ax j=cells[j]?)
def tied (Z:aJ) (t:Nat) (v:Value) (cs:List ah) (b:Nat):Prop:=
 (om t=false→v=vl cs b)∧(om t=true→posOf t∈Z.bh∧Z.T (posOf t)= .pointer (some ⟨b,F8 t,none⟩))
theorem tied.eF {Z:aJ} {t:Nat} {v:Value} {cs cJ:List ah} {b:Nat} (h:tied Z t v cs b) (hm:eF cJ=eF cs):tied Z t v cJ b:=⟨fun hp=>by rw [h.1 hp];simp [vl,hm],h.2⟩
theorem tied.own {Z:aJ} {t:Nat} {v:Value} {cs:List ah} {b:Nat} (hp:om t=false) (h:v=vl cs b):tied Z t v cs b:=⟨fun _=>h,fun hq=>by rw [hp] at hq;cases hq⟩
def aP (Z:aJ) (e:Env) (w:World) (t:Nat) (v:Value):Slot→Prop
 | .box cs=>tied Z t v cs (e.B t)∧kl (Z.bz t) e w (e.B t) cs
 |s=>aa e v s
def bc (fr:Fr):Slot→Prop
 | .ptr r _=>bn (ae fr r)=true
 | .hp r _ _=>bn (ae fr r)=true
 | .mR r=>bn (ae fr r)=true
 |_=>True
structure aO (c:Ctx) (Z:aJ) (e:Env) (st:St) (a:Act) (w:World):Prop where
 defers:a.defers=[]∧st.bh=Z.bh∧st.aY=Z.aY∧ ∀t∈Z.bh,a.tmps.getD t undef=Z.T t
 size:a.tmps.size=c.n
 m:e.m=st.ao
 key:e.key=c.key
 nodup:(ap st.fr).Nodup
 slot: ∀t,aP Z e w t (a.tmps.getD t undef) (ae st.fr t)
 root: ∀t,bc st.fr (ae st.fr t)
 dA: ∀f o,aj st.ao f=some o→bu c (Z.fz f) e w (e.E f) o
 bb: ∀t t' cs cJ,ae st.fr t= .box cs→ae st.fr t'= .box cJ→t≠t'→e.B t≠e.B t'
 bf: ∀t cs f o,ae st.fr t= .box cs→aj st.ao f=some o→(e.E f).ownBlock≠some (e.B t)
 ff: ∀f f' o o' k,aj st.ao f=some o→aj st.ao f'=some o'→(e.E f).ownBlock=some k→(e.E f').ownBlock=some k→f=f'
 gM: ∀b o v,e.φ b o=some v→w.cell? ⟨b,o,none⟩=some v
 aV: ∀b,w.heap.size≤b→Z.In b
def Rest (w w':World):Prop:=w'.os=w.os∧w'.tape=w.tape∧w'.output=w.output∧ ∀a,w'.frozen? a=w.frozen? a
theorem Rest.refl (w:World):Rest w w:=⟨rfl,rfl,rfl,fun _=>rfl⟩
theorem Rest.trans {w w' p8:World} (h:Rest w w') (h':Rest w' p8):Rest w p8:=⟨h'.1.trans h.1,h'.2.1.trans h.2.1,h'.2.2.1.trans h.2.2.1,fun a=>(h'.2.2.2 a).trans (h.2.2.2 a)⟩
theorem Rest.alloc (w:World) (cs:Array Value) (t:TypeId):Rest w (w.alloc (.cells cs t)):=by
 refine ⟨rfl,rfl,rfl,fun a=> ?_⟩
 by_cases h:a.block=w.heap.size
 ·have e1:(w.alloc (.cells cs t)).heap[a.block]? =some (.cells cs t (0,0)):=by rw [h];exact eY w _
  have e2:w.heap[a.block]? =none:=by rw [h];simp
  simp [World.frozen?,e1,e2]
 ·exact World.frozen?_alloc_old _ _ _ h
theorem Rest.setRow (w:World) (g:Nat) (cs:Array Value):Rest w (w.setRow g cs):=by
 refine ⟨rfl,rfl,rfl,fun a=> ?_⟩
 by_cases h:a.block=g
 ·unfold World.frozen? World.setRow
  simp only [Array.getElem?_modify,h,if_true]
  cases hg:w.heap[g]? with
  |none=>rfl
  |some o=>cases o<;>rfl
 ·exact World.frozen?_of_block (setRow_other _ _ _ _ h)
structure bH (w w':World):Prop where
 size:w.heap.size≤w'.heap.size
 kZ: ∀b,b<w.heap.size→w'.heap[b]? =w.heap[b]?
 rest:Rest w w'
theorem aH {w:World} {b:Nat} {x:Obj} (h:w.heap[b]? =some x):b<w.heap.size:=(Array.getElem?_eq_some_iff.1 h).1
theorem bH.cell {w w':World} (g:bH w w') {ad:Addr} {v:Value} (h:w.cell? ad=some v):w'.cell? ad=some v:=by
 have hl:=World.block_lt_of_cell? w ad h
 rw [World.cell?_of_block (g.kZ ad.block hl)];exact h
structure Trans (Z:Nat→Prop) (φ:Ph) (w:World) (φ':Ph) (w':World):Prop where
 ph:jh φ φ'
 heap: ∀b,¬Z b→b<w.heap.size→w'.heap[b]? =w.heap[b]?
 free: ∀b o,¬Z b→φ' b o=φ b o
 size:w.heap.size≤w'.heap.size
 rest:Rest w w'
theorem Trans.refl (Z:Nat→Prop) (φ:Ph) (w:World):Trans Z φ w φ w:=⟨.refl φ,fun _ _ _=>rfl,fun _ _ _=>rfl,Nat.le_refl _,.refl _⟩
theorem Trans.trans {Z:Nat→Prop} {φ φ' Jb:Ph} {w w' p8:World} (h:Trans Z φ w φ' w') (h':Trans Z φ' w' Jb p8):Trans Z φ w Jb p8:=
 ⟨h.ph.trans h'.ph,fun b hb hl=>(h'.heap b hb (Nat.lt_of_lt_of_le hl h.size)).trans (h.heap b hb hl),fun b o hb=>(h'.free b o hb).trans (h.free b o hb),Nat.le_trans h.size h'.size,h.rest.trans h'.rest⟩
def iT (Z:aJ) (e:Env) (w:World) (st:St) (v:Value):Slot→Prop
 | .box cs=> ∃ax,v=vl cs ax∧kl Z e w ax cs∧(∀t cJ,ae st.fr t= .box cJ→e.B t≠ax)∧(∀f o,aj st.ao f=some o→(e.E f).ownBlock≠some ax)
 |s=>aa e v s∧bc st.fr s
section
variable {c:Ctx} {Z:aJ} {e:Env} {st:St} {a:Act} {w:World}
theorem aa.const {v:Value}:aa e v (nz v):=by
 unfold nz
 split<;>simp only [aa,al,MV.one]<;>
  first
   |exact ⟨trivial,.b _⟩
   |exact ⟨trivial,.i _ _⟩
   |exact ⟨trivial,.s _⟩
   |exact ⟨trivial,.raw _ rfl⟩
theorem aO.eval (h:aO c Z e st a w) (x:Operand):aa e (a.eval x) (ai c st x)∧bc st.fr (ai c st x):=by
 cases x with
 |tmp t=>
  have hs:=h.slot t
  have hr:=h.root t
  simp only [Act.eval,ai]
  cases xQ:Lq c.par t with
  |some q=>
   simp only
   cases hq:om q&&Nat.beq (posOf q) t with
   |false=>exact ⟨by simp [aa],trivial⟩
   |true=>
    simp only [cond_true]
    simp only [Bool.and_eq_true] at hq
    have OD:=Nat.eq_of_beq_eq_true hq.2
    have Nw:=h.slot q
    split
    ·rename_i cs Ny
     rw [Ny] at Nw
     cases hm:ct cs with
     |true=>exact ⟨by simp [aa],trivial⟩
     |false=>
      obtain ⟨k1,k2⟩:=Nw.1.2 hq.1
      refine ⟨?_,by simp [bc,Ny,bn]⟩
      show a.tmps.getD t undef=_
      rw [←OD,h.defers.2.2.2 _ k1,k2]
    ·exact ⟨by simp [aa],trivial⟩
  |none=>
  simp only
  generalize hf:ae st.fr t=s at hs hr
  cases s<;>simp only [aP] at hs<;>try exact ⟨hs,hr⟩
  ·rename_i cs
   cases Hb:om t with
   |true=>simp only [cond_true];exact ⟨by simp [aa],trivial⟩
   |false=>
   simp only [cond_false]
   cases hm:eF cs with
   |true=>simp only [hm,cond_true,aa,bc,hf,bn];exact ⟨by rw [hs.1.1 Hb,Cf hm],trivial⟩
   |false=>simp only [hm,cond_false,aa,bc,hf,bn];exact ⟨by rw [hs.1.1 Hb,yf hm],trivial⟩
 |const v=>
  refine ⟨aa.const,?_⟩
  simp only [ai]
  unfold nz
  split<;>trivial
 |func f=>
  simp only [Act.eval,ai,aa,al,MV.one,bc,and_true,true_and]
  exact .func f _ #[] [] (by rw [h.key]) (by simpa using c7.nil) (by simp)
 |global g=>simp [ai,aa,bc]
end
theorem Act.na {a:Act} {d t:Nat} {v:Value} (hd:d<a.tmps.size):(a.put (some d) v).tmps.getD t undef=if t=d then v else a.tmps.getD t undef:=by
 simp only [Act.put,Array.getD_eq_getD_getElem?,Array.getElem?_setIfInBounds]
 by_cases h:d=t
 ·subst h;simp [hd]
 ·have h': ¬t=d:=fun e=>h e.symm
  simp [h,h']
theorem Cg {fr:Fr} {s:Slot} (h:bc fr s):cA (fun _=>True) (fun r=>bn (ae fr r)=true) s:=by
 cases s<;>simp_all [bc,cA,du]
theorem vn (r:Fr) (d:Nat) (s:Slot):ap (aT r d s)=if d∈ap r then ap r else ap r++[d]:=by
 induction r with
 |nil=>simp [aT,ap]
 |cons p r ih=>
  obtain ⟨k,x⟩:=p
  simp only [aT,cE]
  by_cases h:k=d
  ·simp [h,ap]
  ·have h': ¬d=k:=fun e=>h e.symm
   have OE:List.map Prod.fst (aT r d s)=if d∈ap r then ap r else ap r++[d]:=ih
   simp only [h,h',decide_false,cond_false,ap,List.map_cons,List.mem_cons,false_or,OE]
   by_cases hm:d∈ap r
   ·have Gg:d∈List.map Prod.fst r:=hm
    simp [hm,Gg,ap]
   ·have Gg:d∉List.map Prod.fst r:=hm
    simp [hm,Gg,ap]
theorem bV {r:Fr} {d:Nat} {s:Slot} (h:(ap r).Nodup):(ap (aT r d s)).Nodup:=by
 rw [vn]
 by_cases hm:d∈ap r
 ·simpa [hm] using h
 ·simp only [hm,if_false]
  exact List.nodup_append.2 ⟨h,by simp,by intro x hx y hy;simp at hy;subst hy;intro e;subst e;exact hm hx⟩
section
variable {c:Ctx} {Z:aJ} {e:Env} {st:St} {a:Act} {w:World} {R:Type} {K:St→Option R} {r:R}
def Env.pc (e:Env) (d ax:Nat):Env:={e with B:=fun t=>if t=d then ax else e.B t}
theorem kl.env {e e':Env} {ax:Nat} {cs:List ah} (h:kl Z e w ax cs) (hk:e'.key=e.key) (hp:e'.φ=e.φ) (hE:e'.E=e.E) (hm:e'.m=e.m):kl Z e' w ax cs:=by
 refine ⟨h.aV,?_,fun off=>by rw [hp];exact h.free off⟩
 obtain ⟨o,h1,h2⟩:=h.obj
 refine ⟨o,h1,h2.on (S:=fun _=>True) (T:=fun _=>False) ⟨hk,by rw [hp];exact .refl _,by simp,?_⟩ (by intro l _ f _;trivial)⟩
 intro f o ho _
 exact ⟨o,by rw [←hm];exact ho,by rw [hE],rfl⟩
theorem bu.env {e e':Env} {v:Value} {o:fX} (h:bu c Z e w v o) (hk:e'.key=e.key) (hp:e'.φ=e.φ):bu c Z e' w v o:=by
 obtain ⟨I,cells,h1,h2,h3,h4,h5⟩:=h.row
 exact ⟨I,cells,h1,h2,h3,by rw [hk,hp];exact h4,by rw [hp];exact h5⟩
theorem kl.to {ax:Nat} {cs:List ah} (h:kl Z e w ax cs) (t:Nat):kl (Z.bz t) e w ax cs:=⟨.inr h.aV,h.obj,h.free⟩
theorem bu.to {v:Value} {o:fX} {f:Nat} (h:bu c Z.nc e w v o) (hf:f∉Z.aY):bu c (Z.fz f) e w v o:=by
 obtain ⟨I,cells,h1,h2,h3,h4,h5⟩:=h.row
 exact ⟨I,cells,h1,h2,h3,h4,fun ax hb=>⟨.inr (h5 ax hb).1,(h5 ax hb).2.1,fun hc=>absurd hc hf⟩⟩
theorem bm {d:Option Nat} {s:Slot} {v:Value} (h:aO c Z e st a w) (hv:iT Z e w st v s) (hK:aw c st d s K=some r):
 ∃e' aR,aO c Z e' aR (a.put d v) w∧K aR=some r∧e'.φ=e.φ:=by
 cases d with
 |none=>exact ⟨e,st,h,hK,rfl⟩
 |some d=>
  simp only [aw] at hK
  cases pS:om d||(Nat.ble c.n d||bn (ae st.fr d)) with
  |true=>simp [pS] at hK
  |false=>
   obtain ⟨Lz,hb⟩:=Bool.or_eq_false_iff.1 pS
   simp only [pS,cond_false,wr] at hK
   cases hp:aB st.bh d with
   |true=>simp [hp] at hK
   |false=>
    simp only [hp,cond_false,force_eq,eZ] at hK
    simp only [Bool.or_eq_false_iff] at hb
    have Jd:d<a.tmps.size:=by
     rw [h.size]
     have:=hb.1
     by_cases dJ:d<c.n
     ·exact dJ
     ·have:Nat.ble c.n d=true:=Nat.ble_eq_true_of_le (by omega)
      simp_all
    have OG:d∉Z.bh:=by
     intro hm
     rw [←h.defers.2.1,←aG,hp] at hm;cases hm
    have Je: ∀fr:Fr,(a.put (some d) v).defers=[]∧({st with fr:=fr}:St).bh=Z.bh∧({st with fr:=fr}:St).aY=Z.aY∧ ∀t∈Z.bh,(a.put (some d) v).tmps.getD t undef=Z.T t:=by
     intro fr
     refine ⟨h.defers.1,h.defers.2.1,h.defers.2.2.1,fun t ht=> ?_⟩
     rw [Act.na Jd,if_neg (by intro e;subst e;exact OG ht)]
     exact h.defers.2.2.2 t ht
    have ga: ∀t,cA (fun _=>True) (fun r=>r≠d) (ae st.fr t):=by
     intro t
     have:=Cg (h.root t)
     generalize ae st.fr t=x at this
     cases x<;>simp_all [cA,du]<;>(intro e;subst e;simp_all)
    by_cases hs: ∃cs,s= .box cs
    ·obtain ⟨cs,rfl⟩:=hs
     obtain ⟨ax,rfl,kI,EG,Hc⟩:=hv
     have j0:dZ (fun _=>True) (fun r=>r≠d) e (e.pc d ax):=⟨rfl,.refl _,fun r hr=>by simp [Env.pc,hr],fun f o ho _=>⟨o,ho,rfl,rfl⟩⟩
     refine ⟨e.pc d ax,_,?_,hK,rfl⟩
     refine ⟨Je _,by simpa [Act.put] using h.size,h.m,h.key,bV h.nodup,?_,?_,?_,?_,?_,?_,h.gM,h.aV⟩
     ·intro t
      rw [Act.na Jd,aI]
      by_cases ht:t=d
      ·subst ht
       simp only [if_true,aP,Env.pc]
       exact ⟨.own Lz rfl,(kI.to t).env rfl rfl rfl rfl⟩
      ·simp only [ht,if_false]
       have fm:=h.slot t
       have gQ:=ga t
       generalize ae st.fr t=x at fm gQ
       cases x<;>simp only [aP] at fm⊢ <;>try exact fm.on j0 gQ
       simp only [Env.pc,ht,if_false]
       exact ⟨fm.1,fm.2.env rfl rfl rfl rfl⟩
     ·intro t
      simp only [aI]
      by_cases ht:t=d
      ·simp [ht,bc]
      ·simp only [ht,if_false]
       have gQ:=h.root t
       have Ab:=ga t
       generalize ae st.fr t=x at gQ Ab
       cases x<;>simp_all [bc,aI,cA]
     ·intro f o ho;exact (h.dA f o ho).env rfl rfl
     ·intro t t' EH we h1 h2 b7
      simp only [aI] at h1 h2
      simp only [Env.pc]
      by_cases ht:t=d
      ·by_cases oC:t'=d
       ·exact absurd (ht.trans oC.symm) b7
       ·simp only [oC,if_false] at h2
        simp only [ht,oC,if_true,if_false]
        exact fun e=>EG t' we h2 e.symm
      ·simp only [ht,if_false] at h1
       by_cases oC:t'=d
       ·simp only [ht,oC,if_true,if_false]
        exact EG t EH h1
       ·simp only [oC,if_false] at h2
        simp only [ht,oC,if_false]
        exact h.bb t t' EH we h1 h2 b7
     ·intro t EH f o h1 h2
      simp only [aI] at h1
      simp only [Env.pc]
      by_cases ht:t=d
      ·simp only [ht,if_true];exact Hc f o h2
      ·simp only [ht,if_false] at h1⊢;exact h.bf t EH f o h1 h2
     ·exact h.ff
    ·have Bu:aa e v s∧bc st.fr s:=by
      cases s<;>simp_all [iT]
     refine ⟨e,_,?_,hK,rfl⟩
     refine ⟨Je _,by simpa [Act.put] using h.size,h.m,h.key,bV h.nodup,?_,?_,h.dA,?_,?_,h.ff,h.gM,h.aV⟩
     ·intro t
      rw [Act.na Jd,aI]
      by_cases ht:t=d
      ·simp only [ht,if_true]
       cases s<;>simp only [aP]<;>first|exact Bu.1|exact absurd ⟨_,rfl⟩ hs
      ·simp only [ht,if_false];exact h.slot t
     ·intro t
      simp only [aI]
      by_cases ht:t=d
      ·simp only [ht,if_true]
       have hr:=Bu.2
       cases s<;>simp only [bc,aI] at hr⊢
       ·rename_i r o
        by_cases wH:r=d
        ·subst wH;simp_all
        ·simp only [wH,if_false];exact hr
       ·rename_i r
        by_cases wH:r=d
        ·subst wH;simp_all
        ·simp only [wH,if_false];exact hr
       ·rename_i r o i
        by_cases wH:r=d
        ·subst wH;simp_all
        ·simp only [wH,if_false];exact hr
      ·simp only [ht,if_false]
       have gQ:=h.root t
       have Ab:=ga t
       generalize ae st.fr t=x at gQ Ab
       cases x<;>simp_all [bc,aI,cA]
     ·intro t t' EH we h1 h2 b7
      simp only [aI] at h1 h2
      by_cases ht:t=d
      ·simp only [ht,if_true] at h1;exact absurd ⟨_,h1⟩ hs
      ·by_cases oC:t'=d
       ·simp only [oC,if_true] at h2;exact absurd ⟨_,h2⟩ hs
       ·simp only [ht,oC,if_false] at h1 h2
        exact h.bb t t' EH we h1 h2 b7
     ·intro t EH f o h1 h2
      simp only [aI] at h1
      by_cases ht:t=d
      ·simp only [ht,if_true] at h1;exact absurd ⟨_,h1⟩ hs
      ·simp only [ht,if_false] at h1;exact h.bf t EH f o h1 h2
end
end Dn
/-
  Operations that change no memory: moves, numbers, texts, places. Conditions: none.
-/
set_option linter.unusedSimpArgs false
set_option linter.unusedVariables false
namespace Dn
open Go
def Out (c:Ctx) (Z:aJ) {R:Type} (K:St→Option R) (r:R) (φ:Ph) (w:World) (a':Act) (w':World):Prop:=
 ∃e' aR,aO c Z e' aR a' w'∧Trans Z φ w e'.φ w'∧K aR=some r
section
variable {P:Program} {c:Ctx} {Z:aJ} {e:Env} {st:St} {a:Act} {w:World} {R:Type} {K:St→Option R} {r:R} {Q:Exit→Act→World→Prop} {o:Oper}
theorem iT.of {s:Slot} {v:Value} (h:aa e v s) (hr:bc st.fr s):iT Z e w st v s:=by
 cases s<;>first|exact ⟨h,hr⟩|(simp [aa] at h)
theorem fin {e':Env} {aR:St} {w':World} {s:Slot} {v:Value} (aX:(execOp a.eval o).run P w= .ok (.value v) w') (hs:aO c Z e' aR a w')
 (ht:Trans Z e.φ w e'.φ w') (hv:iT Z e' w' aR v s) (hK:aw c aR o.dst s K=some r):o.wp P a w (Out c Z K r e.φ w) Q:=by
 unfold Oper.wp
 rw [aX,Oper.upon_value]
 obtain ⟨e2,cn,h1,h2,h3⟩:=bm hs hv hK
 exact ⟨e2,cn,h1,by rw [h3];exact ht,h2⟩
theorem pe {e':Env} {aR:St} {w':World} (aX:(execOp a.eval o).run P w= .ok .skip w') (hs:aO c Z e' aR a w')
 (ht:Trans Z e.φ w e'.φ w') (hK:aw c aR o.dst (.sc .un) K=some r):o.wp P a w (Out c Z K r e.φ w) Q:=by
 unfold Oper.wp
 rw [aX,Oper.upon_skip]
 obtain ⟨e2,cn,h1,h2,h3⟩:=bm (v:=undef) hs (by simp [iT,aa,bc]) hK
 exact ⟨e2,cn,h1,by rw [h3];exact ht,h2⟩
theorem Ac {e':Env} {aR:St} {w':World} {s:Slot} {v:Value} (hg:bH w w') (aX:(execOp a.eval o).run P w= .ok (.value v) w') (hs:aO c Z e' aR a w')
 (ht:Trans Z e.φ w e'.φ w') (hv:iT Z e' w' aR v s) (hK:aw c aR o.dst s K=some r):o.wp P a w (fun a' w'=>bH w w'∧Out c Z K r e.φ w a' w') Q:=by
 unfold Oper.wp
 rw [aX,Oper.upon_value]
 obtain ⟨e2,cn,h1,h2,h3⟩:=bm hs hv hK
 exact ⟨hg,e2,cn,h1,by rw [h3];exact ht,h2⟩
def Rd (P:Program) (c:Ctx) (Z:aJ) {R:Type} (K:St→Option R) (r:R) (e:Env) (a:Act) (w:World) (o:Oper) (G:World→Prop):Prop:=
 ∃v,(∀w',G w'→(execOp a.eval o).run P w'= .ok (.value v) w')∧Out c Z K r e.φ w (a.put o.dst v) w
theorem Rd.wp {G:World→Prop} (h:Rd P c Z K r e a w o G) (hg:G w):o.wp P a w (Out c Z K r e.φ w) Q:=by
 obtain ⟨v,h1,h2⟩:=h
 unfold Oper.wp
 rw [h1 w hg,Oper.upon_value];exact h2
theorem yh {G:World→Prop} {e':Env} {aR:St} {s:Slot} {v:Value} (aX: ∀w':World,G w'→(execOp a.eval o).run P w'= .ok (.value v) w') (hs:aO c Z e' aR a w)
 (ht:Trans Z e.φ w e'.φ w) (hv:iT Z e' w aR v s) (hK:aw c aR o.dst s K=some r):Rd P c Z K r e a w o G:=by
 obtain ⟨e2,cn,h1,h2,h3⟩:=bm hs hv hK
 exact ⟨v,aX,e2,cn,h1,by rw [h3];exact ht,h2⟩
theorem df {s:Slot} {v:Value} (h:aO c Z e st a w) (aX: ∀w':World,(execOp a.eval o).run P w'= .ok (.value v) w') (hv:aa e v s) (hr:bc st.fr s)
 (hK:aw c st o.dst s K=some r):Rd P c Z K r e a w o (fun _=>True):=
 yh (fun w' _=>aX w') h (.refl _ _ _) (.of hv hr) hK
theorem qz {v:Value} {x:Bool} (h:aa e v (.sc (.p (.b x)))):v= .bool x:=by
 simp only [aa,al] at h
 obtain ⟨_,h⟩:=h
 generalize hv:[v]=vs at h
 cases h;simpa using hv
theorem ey {v:Value} {k:IntKind} {n:Int} (h:aa e v (.sc (.p (.i k n)))):v= .int k n:=by
 simp only [aa,al] at h
 obtain ⟨_,h⟩:=h
 generalize hv:[v]=vs at h
 cases h;simpa using hv
theorem qA {v:Value} {l:List UInt8} (h:aa e v (.sc (.p (.s l)))): ∃b:ByteArray,v= .string b∧l=b.data.toList:=by
 simp only [aa,al] at h
 obtain ⟨_,h⟩:=h
 generalize hv:[v]=vs at h
 cases h
 exact ⟨_,by simpa using hv,rfl⟩
theorem nW (x:Bool):aa e (.bool x) (.sc (.p (.b x))):=by simp only [aa,al];exact ⟨rfl,.b x⟩
theorem jC (k:IntKind) (n:Int):aa e (.int k n) (.sc (.p (.i k n))):=by simp only [aa,al];exact ⟨rfl,.i k n⟩
theorem EI (b:ByteArray):aa e (.string b) (.sc (.p (.s b.data.toList))):=by simp only [aa,al];exact ⟨rfl,.s b⟩
theorem lO {v u:Value} (h:aa e v (.sc (.p (.raw u)))):v=u:=by
 simp only [aa,al] at h
 obtain ⟨_,h⟩:=h
 generalize hv:[v]=vs at h
 cases h;simpa using hv
theorem rP (u:Value) (h:u.oneCell'=true):aa e u (.sc (.p (.raw u))):=by simp only [aa,al];exact ⟨rfl,.raw u h⟩
theorem vo {x:Operand} (ho:o.op= .move x∨o.op= .assign x) (h:aO c Z e st a w) (hK:aw c st o.dst (ai c st x) K=some r):
 Rd P c Z K r e a w o (fun _=>True):=by
 obtain ⟨h1,h2⟩:=h.eval x
 refine df h ?_ h1 h2 hK
 rcases ho with ho|ho<;>simp [execOp,ho]
theorem wI {x:Operand} (ho:o.op= .nilCheck x) (h:aO c Z e st a w)
 (hK:GZ (ai c st x) (fun s=>aw c st o.dst s K)=some r):Rd P c Z K r e a w o (fun _=>True):=by
 obtain ⟨h1,h2⟩:=h.eval x
 unfold GZ at hK
 split at hK
 ·rename_i ei
  rw [ei] at h1 h2
  refine df h ?_ (v:=a.eval x) h1 h2 hK
  simp only [aa] at h1
  simp [execOp,ho,h1]
 ·rename_i ei
  rw [ei] at h1 h2
  refine df h ?_ (v:=a.eval x) h1 h2 hK
  simp only [aa] at h1
  obtain ⟨ax,q,vs,rr,h3⟩:=h1
  simp [execOp,ho,rr]
 ·simp at hK
theorem EJ {x y z:Operand} (ho:o.op= .pick x y z) (h:aO c Z e st a w)
 (hK:BN (ai c st x) (ai c st y) (ai c st z) (fun s=>aw c st o.dst s K)=some r):Rd P c Z K r e a w o (fun _=>True):=by
 obtain ⟨hx,_⟩:=h.eval x
 obtain ⟨hy,OH⟩:=h.eval y
 obtain ⟨hz,Jf⟩:=h.eval z
 have aX: ∀v,a.eval x= .bool v→ ∀w:World,(execOp a.eval o).run P w= .ok (.value (if v then a.eval y else a.eval z)) w:=by
  intro v hv w;simp [execOp,ho,hv,asBool]
 unfold BN at hK
 split at hK
 ·rename_i v hv
  have LA:=qz (by rw [hv] at hx;exact hx)
  have hr:=aX v LA
  split at hK
  ·rename_i p q hp hq
   rw [hp] at hy;rw [hq] at hz
   simp only [qz hy,qz hz] at hr
   refine df h hr ?_ (s:= .sc (.p (.b (bif v then p else q)))) trivial hK
   cases v
   ·exact nW q
   ·exact nW p
  ·cases v
   ·exact df h hr hz Jf hK
   ·exact df h hr hy OH hK
 ·simp at hK
theorem EK {op:UnOp} {ty:TypeId} {x:Operand} (ho:o.op= .unOp op ty x) (h:aO c Z e st a w)
 (hK:Lu op (ai c st x) (fun s=>aw c st o.dst s K)=some r):Rd P c Z K r e a w o (fun _=>True):=by
 obtain ⟨hx,_⟩:=h.eval x
 generalize ai c st x=s at hx hK
 unfold Lu at hK
 split at hK
 ·refine df h ?_ (nW _) trivial hK
  simp [execOp,ho,qz hx,Op.unary]
 ·refine df h ?_ (jC _ _) trivial hK
  simp [execOp,ho,ey hx,Op.unary,Op.intArith]
 ·simp at hK
end
end Dn
/-
  The type table; numbers, texts, places, loads. Conditions: none.
-/
set_option linter.unusedSimpArgs false
set_option linter.unusedVariables false
namespace Dn
open Go
def rb:List Kd→Nat
 |[]=>0
 | .h::r=>32+rb r
 |_::r=>1+rb r
def jD (ti:Nat→Option TI) (P:Program) (I:TI) (z:Option Value):TypeDesc→Prop
 | .struct fs=>I.st=true∧I.a7=[]∧(0<I.size∧rb I.lay=I.size)∧fs.toList.map (·.offset)=I.wm∧fs.toList.map (·.type)=I.zX∧
  (∀(k:Nat) (f:Field),fs[k]? =some f→ ∃J,ti f.type=some J∧J.a7=[]∧0<J.size)∧
  ∃cs,z=some (.agg cs)∧kj I.zero cs.toList=true∧cs.size=I.size
 | .tuple ts=>I.a7=ts.toList∧I.a7≠[]∧I.lay=[]∧I.st=false
 | .slice el=>I.st=false∧I.a7=[]∧I.size=1∧I.elem=el∧(∃E,ti el=some E∧E.a7=[]∧0<E.size)∧z=some (.slice none 0 0)∧I.zero=[.nil]∧(∃k,I.lay=[k]∧k= .l)
 | .array n el=>I.st=false∧I.a7=[]∧I.size=32∧n=32∧I.elem=el∧(∃i,P.underlying el=some (.int .u8)∧P.info? el=some i∧i.size=1)∧I.lay=[.h]∧I.zero=[.hs dW.zero]∧z=some (.agg (aD dW.zero).toArray)
 | .bool=>I.st=false∧I.a7=[]∧I.size=1∧I.lay=[.b]∧I.zero=[.p (.b false)]∧z=some (.bool false)
 | .int k=>I.st=false∧I.a7=[]∧I.size=1∧I.lay=[.i k]∧I.zero=[.p (.i k 0)]∧z=some (.int k 0)
 | .string=>I.st=false∧I.a7=[]∧I.size=1∧I.lay=[.s]∧I.zero=[.p (.s [])]∧ ∃b:ByteArray,z=some (.string b)∧b.data.toList=[]
 |_=>I.st=false∧I.a7=[]∧I.size=1∧I.lay=[.raw]∧ ∃v,z=some v∧v.oneCell'=true∧kj I.zero [v]=true
def gU (ti:Nat→Option TI) (P:Program) (t:Nat) (I:TI):Prop:=
 ∃d i,P.underlying t=some d∧P.info? t=some i∧(I.a7=[]→i.size=I.size∧i.bytes=I.bytes)∧jD ti P I i.zero d
def fp (P:Program) (ti:Nat→Option TI):Prop:= ∀t I,ti t=some I→gU ti P t I
section
variable {P:Program} {c:Ctx} {Z:aJ} {e:Env} {st:St} {a:Act} {w:World} {R:Type} {K:St→Option R} {r:R} {Q:Exit→Act→World→Prop} {o:Oper}
theorem bJ {x:Bool} {k:Option R} (h:cR x k=some r):x=true∧k=some r:=by
 cases x
 ·simp [cR] at h
 ·exact ⟨rfl,h⟩
theorem gb {α:Type} {x:Option α} {k:α→Option R} (h:bd x k=some r): ∃y,x=some y∧k y=some r:=by
 cases x with
 |none=>simp [bd] at h
 |some y=>exact ⟨y,rfl,h⟩
theorem wJ {l:List MV} {i:Int} {k:MV→Option R} (h:idx l i k=some r):0≤i∧ ∃y,l[i.toNat]? =some y∧k y=some r:=by
 unfold idx GX at h
 by_cases hi:0≤i
 ·simp only [hi,if_true] at h
  cases hl:l[i.toNat]? with
  |none=>simp [hl] at h
  |some y=>exact ⟨hi,y,rfl,by simpa [hl] using h⟩
 ·simp [hi] at h
theorem gU.agg {ti:Nat→Option TI} {t:Nat} {I:TI} (h:gU ti P t I) (hc:I.a7=[]):
 (∃d,P.underlying t=some d∧d.isRow=true∧(I.st=true∨I.st=false∧I.size=32))∨(∃d,P.underlying t=some d∧d.isRow=false∧I.st=false∧I.size=1):=by
 obtain ⟨d,i,h1,h2,h3,h4⟩:=h
 cases d<;>simp only [jD] at h4<;>first
  |exact .inl ⟨_,h1,rfl,.inl h4.1⟩
  |exact .inl ⟨_,h1,rfl,.inr ⟨h4.1,h4.2.2.1⟩⟩
  |exact .inr ⟨_,h1,rfl,h4.1,h4.2.2.1⟩
  |exact absurd hc h4.2.1
theorem gU.info {ti:Nat→Option TI} {t:Nat} {I:TI} (h:gU ti P t I) (hc:I.a7=[]):
 ∃i,P.info? t=some i∧i.size=I.size∧i.bytes=I.bytes:=by
 obtain ⟨d,i,h1,h2,h3,h4⟩:=h
 exact ⟨i,h2,h3 hc⟩
theorem aN {t:Nat} {I:TI} (h:c.tv t=some I):c.ti t=some I∧I.a7=[]:=by
 unfold Ctx.tv at h
 cases hc:c.ti t with
 |none=>simp [hc] at h
 |some J=>
  cases hj:J.a7 with
  |nil=>simp [hc,hj] at h;subst h;exact ⟨rfl,hj⟩
  |cons x y=>simp [hc,hj] at h
theorem yi {s t:TypeId} {x:Operand} {I:TI} (ho:o.op= .convert s t x) (hI:c.ti t=some I) (hT:fp P c.ti) (hs: ∃d,P.underlying s=some d) {fk:Option FloatKind} (wK: ∀k,fk=some k→P.underlying t=some (.float k)) (h:aO c Z e st a w)
 (hK:BO I fk (ai c st x) (fun s=>aw c st o.dst s K)=some r):Rd P c Z K r e a w o (fun _=>True):=by
 obtain ⟨hx,_⟩:=h.eval x
 obtain ⟨ds,KU⟩:=hs
 obtain ⟨d,i,h1,h2,h3,h4⟩:=hT t I hI
 generalize ai c st x=s' at hx hK
 unfold BO at hK
 split at hK
 ·rename_i k k' n cK Bv hl
  have hd:d= .int k:=by
   cases d<;>simp only [jD,hl,cK,Bv] at h4<;>simp_all
  subst hd
  refine df h ?_ (jC _ _) trivial hK
  simp [execOp,ho,ey hx,convert,run_underlying KU,run_underlying h1,Conv.intToInt]
 ·rename_i l cK Bv hl
  have hd:d= .string:=by
   cases d<;>simp only [jD,hl,cK,Bv] at h4<;>simp_all
  subst hd
  obtain ⟨b,hb,rfl⟩:=qA hx
  refine df h ?_ (EI b) trivial hK
  simp [execOp,ho,hb,convert,run_underlying KU,run_underlying h1]
 ·rename_i k x cK Bv hl
  have hd:d= .int k:=by
   cases d<;>simp only [jD,hl,cK,Bv] at h4<;>simp_all
  subst hd
  obtain ⟨n,hn,hK⟩:=gb hK
  obtain ⟨hr,hK⟩:=bJ hK
  have hr:=of_decide_eq_true hr
  refine df h ?_ (jC _ _) trivial hK
  simp [execOp,ho,lO hx,convert,run_underlying KU,run_underlying h1,Conv.floatToInt,hn,hr]
 ·rename_i k n cK Bv hl
  split at hK
  ·have rr:=wK _ rfl
   refine df h ?_ (rP _ rfl) trivial hK
   simp [execOp,ho,ey hx,convert,run_underlying KU,run_underlying rr,Conv.intToFloat]
  ·simp at hK
 ·simp at hK
theorem EL {op:BinOp} {k:IntKind} {x y:Int} {m:MV} {t:TypeId} (hm:zk op k x y=some m):
 ∃v,(∀w:World,(binOp op t (.int k x) (.int k y)).run P w= .ok v w)∧aa e v (.sc (.p m)):=by
 cases op<;>simp only [zk,Option.some.injEq,reduceCtorEq] at hm<;>subst hm
 ·exact ⟨_,by simp [binOp,Op.intArith],jC _ _⟩
 ·exact ⟨_,by simp [binOp,Op.intArith],jC _ _⟩
 ·exact ⟨_,by simp [binOp,Op.intArith],jC _ _⟩
 ·exact ⟨.int k (BI k x y),fun w=>by simp [binOp];rfl,jC _ _⟩
 ·exact ⟨.int k (Nt k x y),fun w=>by simp [binOp];rfl,jC _ _⟩
 ·exact ⟨.int k (I3 k x y),fun w=>by simp [binOp];rfl,jC _ _⟩
 ·refine ⟨.bool (decide (x=y)),fun w=> ?_,nW _⟩;simp [binOp,Op.intCmp];rfl
 ·refine ⟨.bool (!decide (x=y)),fun w=> ?_,nW _⟩;simp [binOp,Op.intCmp];rfl
 ·exact ⟨.bool (decide (x<y)),by simp [binOp,Op.intCmp],nW _⟩
 ·exact ⟨.bool (decide (x≤y)),by simp [binOp,Op.intCmp],nW _⟩
 ·exact ⟨.bool (decide (y<x)),by simp [binOp,Op.intCmp],nW _⟩
 ·exact ⟨.bool (decide (y≤x)),by simp [binOp,Op.intCmp],nW _⟩
theorem toList_data (b:ByteArray):b.toList=b.data.toList:=by
 exact ByteArray.toList_eq b
theorem EM {op:BinOp} {x y:ByteArray} {m:MV} {t:TypeId} (hm:u7 op x.data.toList y.data.toList=some m):
 ∃v,(∀w:World,(binOp op t (.string x) (.string y)).run P w= .ok v w)∧aa e v (.sc (.p m)):=by
 have LB:(x.data.toList==y.data.toList)=decide (x.data.toList=y.data.toList):=by
  rw [Bool.eq_iff_iff];simp
 cases op<;>simp only [u7,Option.some.injEq,reduceCtorEq] at hm<;>subst hm<;>
  exact ⟨_,fun w=>by simp only [binOp,Op.stringOp,toList_data,LB];rfl,nW _⟩
theorem Ad (b:ByteArray) (n:Nat):b[n]? =b.data.toList[n]? :=by
 by_cases h:n<b.size
 ·have h2:n<b.data.toList.length:=by simpa using h
  rw [getElem?_pos b n h,List.getElem?_eq_getElem h2]
  rfl
 ·have h2: ¬n<b.data.toList.length:=by simpa using h
  rw [getElem?_neg b n h,List.getElem?_eq_none (by omega)]
theorem oD (x:dW) (n:Nat) (h:n<32):(aD x)[n]? =some (.int .u8 ((x.l.getD n 0).toNat:Int)):=by
 have hl:n<x.l.length:=by rw [x.h];exact h
 simp [aD,List.getElem?_map,List.getD,List.getElem?_eq_getElem hl]
theorem Jg {t:TypeId} {x y:Operand} {I:TI} (ho:o.op= .index t x y) (hI:c.ti t=some I) (hT:fp P c.ti) (h:aO c Z e st a w)
 (hK:Lv I (ai c st x) (ai c st y) (fun s=>aw c st o.dst s K)=some r):Rd P c Z K r e a w o (fun _=>True):=by
 obtain ⟨hx,_⟩:=h.eval x
 obtain ⟨hy,_⟩:=h.eval y
 obtain ⟨d,i,h1,h2,h3,h4⟩:=hT t I hI
 generalize ai c st x=sx at hx hK
 generalize ai c st y=sy at hy hK
 unfold Lv at hK
 split at hK
 ·rename_i l k n cK hl
  have hd:d= .string:=by
   cases d<;>simp only [jD,hl,cK] at h4<;>simp_all
  subst hd
  cases hc:decide ((0:Int)≤n∧n<(l.length:Int)) with
  |false=>simp [cR,hc] at hK
  |true=>
   simp only [cR,hc] at hK
   obtain ⟨Hd,wg⟩:=of_decide_eq_true hc
   obtain ⟨b,hb,rfl⟩:=qA hx
   have dJ:n.toNat<b.data.toList.length:=by omega
   refine df h ?_ (jC .u8 ((b.data.toList.getD n.toNat 0).toNat:Int)) trivial hK
   have hg:b[n.toNat]? =some (b.data.toList.getD n.toNat 0):=by
    rw [Ad,List.getElem?_eq_getElem dJ];simp [List.getD,List.getElem?_eq_getElem dJ]
   simp [execOp,ho,hb,ey hy,Instr.index,run_underlying h1,asIntOf,Hd,hg]
 ·rename_i b k n cK hl
  cases d<;>simp only [jD,hl,cK] at h4<;>first|(exfalso;simp_all;done)|skip
  rename_i len el
  cases hc:decide ((0:Int)≤n∧n<32) with
  |false=>simp [cR,hc] at hK
  |true=>
   simp only [cR,hc] at hK
   obtain ⟨Hd,wg⟩:=of_decide_eq_true hc
   simp only [aa] at hx
   obtain ⟨_,_,_,rfl,_,⟨ie,hu,Jh,mP⟩,_⟩:=h4
   refine df h ?_ (jC .u8 ((b.l.getD n.toNat 0).toNat:Int)) trivial hK
   have hg:=oD b n.toNat (by omega)
   have He:(aD b).toArray[n.toNat]? =some (.int .u8 ((b.l.getD n.toNat 0).toNat:Int)):=by simpa using hg
   simp [execOp,ho,hx,ey hy,Instr.index,run_underlying h1,asIntOf,Hd,wg,Go.part,isAgg,run_underlying hu,Go.sizeOf,typeInfo,Jh,mP,hg,He]
 ·simp at hK
def Ae (P:Program) (ti:Nat→Option TI):Prop:= ∀t I,ti t=some I→I.a7=[]→ ∀(e:Env) (w:World) (vx vy:Value) (sx sy:Slot) (b:Bool),aa e vx sx→aa e vy sy→
 cm I.lay (ak sx)=true→cm I.lay (ak sy)=true→fb I.st sx=true→fb I.st sy=true→dG (ak sx) (ak sy)=some b→
 (∀k n k' n',sx= .sc (.p (.i k n))→sy= .sc (.p (.i k' n'))→False)→(∀l l',sx= .sc (.p (.s l))→sy= .sc (.p (.s l'))→False)→
 (Op.equal t vx vy).run P w= .ok b w∧ ∀(x y:Operand) (op:BinOp),(eqGuard op t x y vx vy).run P w= .ok () w∧(op= .eql→binOp op t vx vy=(do pure (.bool (←Op.equal t vx vy))))∧(op= .neq→binOp op t vx vy=(do pure (.bool (!(←Op.equal t vx vy)))))
theorem Ch {op:BinOp} {t t':TypeId} {x y:Operand} (ho:o.op= .binOp op t x y t') (h:aO c Z e st a w)
 (hE:Ae P c.ti)
 (hK:GY (c.tv t) op (ai c st x) (ai c st y) (fun s=>aw c st o.dst s K)=some r):Rd P c Z K r e a w o (fun _=>True):=by
 obtain ⟨hx,_⟩:=h.eval x
 obtain ⟨hy,_⟩:=h.eval y
 generalize QH:ai c st x=sx at hx hK
 generalize QI:ai c st y=sy at hy hK
 have aX: ∀v,(∀w:World,(binOp op t (a.eval x) (a.eval y)).run P w= .ok v w)→(∀cs,a.eval x≠ .agg cs)→a.eval x≠ .nilIface→ ∀w:World,(execOp a.eval o).run P w= .ok (.value v) w:=by
  intro v hv Nz NA w
  have hg:(eqGuard op t x y (a.eval x) (a.eval y)).run P w= .ok () w:=by
   generalize a.eval x=va at Nz NA
   generalize a.eval y=vb
   have hm: ∀(u v:Value),u=va→(∀cs,u≠ .agg cs)→u≠ .nilIface→(eqGuard op t x y u v).run P w= .ok () w:=by
    intro u v _ h1 h2
    cases u<;>first
     |exact absurd rfl h2
     |exact absurd rfl (h1 _)
     |(cases op<;>rfl)
   exact hm va vb rfl Nz NA
  simp [execOp,ho,hg,hv]
 unfold GY at hK
 split at hK
 ·rename_i k n k' n'
  have e1:=ey hx
  have e2:=ey hy
  split at hK
  ·cases hk:decide (k=k') with
   |false=>simp [hk] at hK
   |true=>
    have hk:=of_decide_eq_true hk
    subst hk
    simp only [decide_true,cond_true] at hK
    cases hz:decide (n'=0) with
    |true=>simp [cR,hz] at hK
    |false=>
     simp only [cR,hz,Bool.not_false] at hK
     have hz:=of_decide_eq_false hz
     refine df h (aX _ ?_ (by simp [e1]) (by simp [e1])) (jC _ _) trivial hK
     simp [binOp,e1,e2,Op.intDiv,hz]
  ·cases hk:decide (k=k') with
   |false=>simp [hk] at hK
   |true=>
    have hk:=of_decide_eq_true hk
    subst hk
    simp only [decide_true,cond_true] at hK
    cases hz:decide (n'=0) with
    |true=>simp [cR,hz] at hK
    |false=>
     simp only [cR,hz,Bool.not_false] at hK
     have hz:=of_decide_eq_false hz
     refine df h (aX _ ?_ (by simp [e1]) (by simp [e1])) (jC _ _) trivial hK
     simp [binOp,e1,e2,Op.intDiv,hz]
  ·cases hz:decide ((0:Int)≤n') with
   |false=>simp [cR,hz] at hK
   |true=>
    simp only [cR,hz] at hK
    have hz:=of_decide_eq_true hz
    refine df h (aX _ ?_ (by simp [e1]) (by simp [e1])) (jC _ _) trivial hK
    have: ¬n'<0:=by omega
    simp [binOp,e1,e2,Op.shift,this]
  ·cases hz:decide ((0:Int)≤n') with
   |false=>simp [cR,hz] at hK
   |true=>
    simp only [cR,hz] at hK
    have hz:=of_decide_eq_true hz
    refine df h (aX _ ?_ (by simp [e1]) (by simp [e1])) (jC _ _) trivial hK
    have: ¬n'<0:=by omega
    simp [binOp,e1,e2,Op.shift,this]
  ·cases hk:decide (k=k') with
   |false=>simp [hk] at hK
   |true=>
    have hk:=of_decide_eq_true hk
    subst hk
    simp only [decide_true,cond_true] at hK
    cases hm:zk op k n n' with
    |none=>simp [hm] at hK
    |some m=>
     simp only [hm] at hK
     obtain ⟨v,hv,hr⟩:=EL (P:=P) (e:=e) (t:=t) hm
     exact df h (aX v (by rw [e1,e2];exact hv) (by simp [e1]) (by simp [e1])) hr trivial hK
 ·rename_i l l'
  obtain ⟨b,hb,rfl⟩:=qA hx
  obtain ⟨b',rc,rfl⟩:=qA hy
  split at hK
  ·obtain ⟨hz,hK⟩:=bJ hK
   ·have hz:=of_decide_eq_true hz
    have hr:aa e (.string (b++b')) (.sc (.p (.s (b.data.toList++b'.data.toList)))):=by
     have:=EI (e:=e) (b++b')
     simpa [ByteArray.data_append] using this
    refine df h (aX _ ?_ (by simp [hb]) (by simp [hb])) hr trivial hK
    have hs: ¬(((b.size+b'.size:Nat):Int)>IntKind.i64.max):=by
     have h1:b.size=b.data.toList.length:=by simp
     have h2:b'.size=b'.data.toList.length:=by simp
     have:IntKind.i64.max=9223372036854775807:=by decide
     rw [this];omega
    intro w
    simp only [binOp,hb,rc,Op.stringOp,hs,if_false]
    rfl
  ·cases hm:u7 op b.data.toList b'.data.toList with
   |none=>simp [hm] at hK
   |some m=>
    simp only [hm] at hK
    obtain ⟨v,hv,hr⟩:=EM (P:=P) (e:=e) (t:=t) hm
    exact df h (aX v (by rw [hb,rc];exact hv) (by simp [hb]) (by simp [hb])) hr trivial hK
 ·have e1:=lO hx
  have e2:=lO hy
  obtain ⟨r',Hf,hK⟩:=gb hK
  refine df h (aX _ ?_ (by simp [e1]) (by simp [e1])) (rP (.float .f64 r') rfl) trivial hK
  intro w
  cases op<;>simp only [I4,reduceCtorEq] at Hf<;>simp [binOp,e1,e2,Op.floatArith,Hf]
 ·rename_i wg Af QJ
  split at hK
  ·rename_i I hI
   obtain ⟨wh,Ci⟩:=aN hI
   cases hf:cm I.lay (ak sx)&&cm I.lay (ak sy)&&(fb I.st sx&&fb I.st sy) with
   |false=>simp [hf] at hK
   |true=>
    simp only [hf,cond_true] at hK
    simp only [Bool.and_eq_true] at hf
    obtain ⟨hf,Cj⟩:=hf
    split at hK
    ·cases hm:dG (ak sx) (ak sy) with
     |none=>simp [hm] at hK
     |some b=>
      simp only [hm] at hK
      refine df h ?_ (nW b) trivial hK
      intro w
      obtain ⟨h1,h2⟩:=hE t I wh Ci e w _ _ sx sy b hx hy hf.1 hf.2 Cj.1 Cj.2 hm wg Af
      have:=(h2 x y .eql).1
      simp [execOp,ho,this,(h2 x y .eql).2.1 rfl,h1]
    ·cases hm:dG (ak sx) (ak sy) with
     |none=>simp [hm] at hK
     |some b=>
      simp only [hm] at hK
      refine df h ?_ (nW (!b)) trivial hK
      intro w
      obtain ⟨h1,h2⟩:=hE t I wh Ci e w _ _ sx sy b hx hy hf.1 hf.2 Cj.1 Cj.2 hm wg Af
      have:=(h2 x y .neq).1
      simp [execOp,ho,this,(h2 x y .neq).2.2 rfl,h1]
    ·simp at hK
  ·simp at hK
end
end Dn
/-
  Lengths, parts, places, loads. Conditions: none.
-/
set_option linter.unusedSimpArgs false
set_option linter.unusedVariables false
namespace Dn
open Go
section
variable {P:Program} {c:Ctx} {Z:aJ} {e:Env} {st:St} {a:Act} {w:World} {R:Type} {K:St→Option R} {r:R} {Q:Exit→Act→World→Prop} {o:Oper}
theorem cell_of {ax:Nat} {arr:Array Value} {T:TypeId} {fr:Nat×Nat} (h:w.heap[ax]? =some (.cells arr T fr)) (j:Nat):w.cell? ⟨ax,j,none⟩=arr[j]? :=by
 simp [World.cell?,h]
theorem jE {t:TypeId} {I:TI} {ax off:Nat} {vs:List Value} (hr:gU c.ti P t I) (hc:I.a7=[]) (hl:vs.length=I.size) (hm:w.rangeAt ax off vs):
 ((I.st=true∨I.size=32)∧ ∀w:World,w.rangeAt ax off vs→(Instr.loadAt t (.pointer (some ⟨ax,off,none⟩))).run P w= .ok (.agg vs.toArray) w)∨
 (I.st=false∧ ∃v,vs=[v]∧ ∀w:World,w.rangeAt ax off vs→(Instr.loadAt t (.pointer (some ⟨ax,off,none⟩))).run P w= .ok v w):=by
 obtain ⟨i,hi,hs,_⟩:=hr.info hc
 rcases hr.agg hc with ⟨d,hu,hd,hh⟩|⟨d,hu,hd,h1,h2⟩
 ·refine .inl ⟨hh.imp id (·.2),fun w hm=> ?_⟩
  exact run_loadAt_mid w ax off t vs d hm hu hd (by simp [hi,hs,hl])
 ·refine .inr ⟨h1,?_⟩
  rw [h2] at hl
  obtain ⟨v,rfl⟩:=List.length_eq_one_iff.1 hl
  refine ⟨v,rfl,fun w hm=> ?_⟩
  have ml:w.cell? ⟨ax,off,none⟩=some v:=hm 0 v rfl
  have Hg:(isAgg t).run P w= .ok false w:=by
   unfold isAgg
   rw [Sem.run_bind,run_underlying hu w]
   cases d<;>simp_all
  simp [Instr.loadAt,Instr.sureAddr,loadVar,Hg,ml]
theorem al.slot {vs:List Value} {l:ah} {v:Value} (h:al e vs l) (hv:(vs=[v]∧l.w=1)∨(v= .agg vs.toArray∧l.w=32)):aa e v (.sc l):=by
 rcases hv with ⟨rfl,hw⟩|⟨rfl,hw⟩
 ·cases l<;>simp [aa,ah.w] at hw⊢ <;>exact h
 ·cases l<;>simp [ah.w] at hw
  simp only [aa]
  have:vs=aD _:=h
  rw [this]
theorem dP {t:TypeId} {I:TI} {cs:List ah} {ax base off:Nat} {vs:List Value} {s:Slot} {K':Slot→Option R} (hr:gU c.ti P t I) (hc:I.a7=[])
 (hv:af e vs cs) (hm:w.rangeAt ax base vs) (hK:dX I cs off K'=some r):
 ∃v s,(∀w:World,w.rangeAt ax base vs→(Instr.loadAt t (.pointer (some ⟨ax,base+off,none⟩))).run P w= .ok v w)∧aa e v s∧bc st.fr s∧K' s=some r:=by
 unfold dX at hK
 cases cK:I.st with
 |true=>
  simp only [cK,cond_true] at hK
  cases hp:Dn.part cs off I.size with
  |none=>simp [hp] at hK
  |some ds=>
   simp only [hp] at hK
   obtain ⟨v1,v2,v3,rfl,h1,h2,h3⟩:=ue hp hv
   have Gh: ∀w:World,w.rangeAt ax base (v1++v2++v3)→w.rangeAt ax (base+off) v2:=by
    intro w hm j v hj
    have EN:j<v2.length:=(List.getElem?_eq_some_iff.1 hj).1
    have:=hm (off+j) v (by rw [List.append_assoc,List.getElem?_append_right (by omega),List.getElem?_append_left (by omega)];rw [show off+j-v1.length=j by omega];exact hj)
    rwa [←Nat.add_assoc] at this
   rcases jE hr hc h2 (Gh w hm) with ⟨_,aX⟩|⟨hf,_⟩
   ·refine ⟨_,.ag ds,fun w hm=>aX w (Gh w hm),?_,trivial,hK⟩
    simp only [aa]
    exact ⟨_,rfl,by simpa using h3⟩
   ·rw [cK] at hf;cases hf
 |false=>
  simp only [cK,cond_false] at hK
  cases hp:cut cs off with
  |none=>simp [hp] at hK
  |some ds=>
   cases ds with
   |nil=>simp [hp] at hK
   |cons l ls=>
    simp only [hp] at hK
    cases hb:Nat.beq l.w I.size with
    |false=>simp [hb] at hK
    |true=>
     simp only [hb,cond_true] at hK
     have hw:=Nat.eq_of_beq_eq_true hb
     obtain ⟨v1,v2,rfl,h1,h2⟩:=mZ hp hv
     obtain ⟨u,u2,rfl,h3,h4⟩:=h2
     have Gh: ∀w:World,w.rangeAt ax base (v1++(u++u2))→w.rangeAt ax (base+off) u:=by
      intro w hm j v hj
      have EN:j<u.length:=(List.getElem?_eq_some_iff.1 hj).1
      have:=hm (off+j) v (by rw [List.getElem?_append_right (by omega),List.getElem?_append_left (by omega)];rw [show off+j-v1.length=j by omega];exact hj)
      rwa [←Nat.add_assoc] at this
     rcases jE hr hc (by rw [h3.width,hw]) (Gh w hm) with ⟨hh,aX⟩|⟨_,v,EO,aX⟩
     ·refine ⟨_,.sc l,fun w hm=>aX w (Gh w hm),h3.slot (.inr ⟨rfl,?_⟩),trivial,hK⟩
      rcases hh with hh|hh
      ·rw [cK] at hh;cases hh
      ·rw [hw,hh]
     ·refine ⟨_,.sc l,fun w hm=>aX w (Gh w hm),h3.slot (.inl ⟨EO,?_⟩),trivial,hK⟩
      rw [←h3.width,EO];rfl
theorem az.at {key:Nat→Nat} {φ:Ph} {size:Nat} {xs:List MV}: ∀{cs:List Value} {i:Nat} {x:MV},az key φ size cs xs→xs[i]? =some x→
 ∃a v b,cs=a++v++b∧a.length=i *size∧v.length=size∧eJ key φ v x:=by
 induction xs with
 |nil=>intro cs i x _ hx;simp at hx
 |cons y ys ih=>
  intro cs i x h hx
  obtain ⟨v,q,rfl,hl,hr,he⟩:=h
  cases i with
  |zero=>simp at hx;subst hx;exact ⟨[],v,q,by simp,by simp,hl,hr⟩
  |succ i=>
   obtain ⟨a,u,b,rfl,h1,h2,h3⟩:=ih he (by simpa using hx)
   exact ⟨v++a,u,b,by simp,by simp [hl,h1,Nat.succ_mul,Nat.add_comm],h2,h3⟩
theorem c7.leaves {ms:List MV}: ∀{vs:List Value} {cs:List ah},c7 e.key e.φ vs ms→aF cs=some ms→(∀m,ah.p m∈cs→m.one=true)→af e vs cs:=by
 induction ms with
 |nil=>
  intro vs cs h hc _
  cases h
  cases cs with
  |nil=>rfl
  |cons l r=>
   cases hr:aF r<;>cases l<;>simp [aF,hr] at hc
 |cons m ms ih=>
  intro vs cs h hc ho
  cases cs with
  |nil=>simp [aF] at hc
  |cons l r=>
   generalize oW:vs=xR at h
   cases h with
   |cons v _ vs _ h1 h2=>
   subst oW
   cases hr:aF r with
   |none=>cases l<;>simp [aF,hr] at hc
   |some q=>
    have bj: ∀m,ah.p m∈r→m.one=true:=fun m hm=>ho m (by simp [hm])
    cases l<;>simp [aF,hr] at hc
    ·obtain ⟨rfl,rfl⟩:=hc
     exact ⟨v,vs,rfl,⟨ho _ (by simp),h1⟩,ih h2 hr bj⟩
    ·obtain ⟨rfl,rfl⟩:=hc
     refine ⟨v,vs,rfl,?_,ih h2 hr bj⟩
     generalize hv:v=v' at h1
     cases h1
     exact rfl
theorem eJ.rQ {vs:List Value} {x:MV} {b:Bool} {cs:List ah} (h:eJ e.key e.φ vs x) (hc:rL b x cs):af e vs cs:=by
 obtain ⟨⟨ms,h1,h2⟩,h3⟩:=hc
 cases b with
 |true=>
  cases ms<;>simp [kG] at h2<;>subst h2<;>(generalize hv:vs=v' at h;cases h;subst hv;rename_i hh;exact hh.leaves h1 h3)
 |false=>
  cases ms with
  |nil=>simp [kG] at h2
  |cons m ms=>
   cases ms with
   |cons y ys=>simp [kG] at h2
   |nil=>
    simp [kG] at h2
    subst h2
    have:c7 e.key e.φ (vs++[]) [m]:= .cons vs m [] [] h .nil
    rw [List.append_nil] at this
    exact this.leaves h1 h3
theorem Ck {t:TypeId} {x:Operand} {I:TI} {cs:List ah} {off:Nat} (ho:o.op= .load t x) (hI:c.tv t=some I) (hT:fp P c.ti) (h:aO c Z e st a w) (tk:ai c st x= .rp cs off)
 (hK:dX I cs off (fun s=>aw c st o.dst s K)=some r):Rd P c Z K r e a w o (fun w'=> ∀b q v,e.φ b q=some v→w'.cell? ⟨b,q,none⟩=some v):=by
 obtain ⟨hx,gQ⟩:=h.eval x
 obtain ⟨jF,hc⟩:=aN hI
 have hr:=hT t I jF
 rw [tk] at hx
 simp only [aa] at hx
 obtain ⟨ax,q,vs,hx,ji,_,p9⟩:=hx
 have hm: ∀w':World,(∀b q v,e.φ b q=some v→w'.cell? ⟨b,q,none⟩=some v)→w'.rangeAt ax q vs:=by
  intro w' hi j v hj
  have EN:j<vs.length:=(List.getElem?_eq_some_iff.1 hj).1
  exact hi _ _ _ (by rw [p9 j EN];exact hj)
 obtain ⟨v,s,h1,h2,h3,h4⟩:=dP (st:=st) (s:= .skip) hr hc ji (hm w h.gM) hK
 refine yh (fun w' hi=> ?_) h (.refl _ _ _) (.of h2 h3) h4
 simp [execOp,ho,hx,h1 w' (hm w' hi)]
theorem EP {t:TypeId} {x:Operand} {I:TI} (ho:o.op= .load t x) (hI:c.tv t=some I) (hT:fp P c.ti) (h:aO c Z e st a w)
 (hK:Lr st I (ai c st x) (fun s=>aw c st o.dst s K)=some r):Rd P c Z K r e a w o (bH w):=by
 obtain ⟨hx,gQ⟩:=h.eval x
 obtain ⟨jF,hc⟩:=aN hI
 have hr:=hT t I jF
 have EQ: ∀v s,(∀w':World,bH w w'→(Instr.loadAt t (a.eval x)).run P w'= .ok v w')→aa e v s→bc st.fr s→aw c st o.dst s K=some r→Rd P c Z K r e a w o (bH w):=by
  intro v s h1 h2 h3 h4
  refine yh (fun w' hg=> ?_) h (.refl _ _ _) (.of h2 h3) h4
  simp [execOp,ho,h1 w' hg]
 have keep: ∀{w':World} {ax off:Nat} {vs:List Value},bH w w'→w.rangeAt ax off vs→w'.rangeAt ax off vs:=by
  intro w' ax off vs hg hm j v hj
  exact hg.cell (hm j v hj)
 generalize ai c st x=s at hx hK gQ
 unfold Lr at hK
 split at hK
 ·rename_i root off
  simp only [aa] at hx
  have fm:=h.slot root
  split at hK
  ·rename_i cs pf
   rw [pf] at fm
   have lc:ct cs=false:=by cases hq:ct cs<;>simp_all
   simp only [lc,cond_false] at hK
   obtain ⟨_,kI⟩:=fm
   obtain ⟨arr,T,bW,ji⟩:=kI.cells lc
   have hm:w.rangeAt (e.B root) 0 arr.toList:=by
    intro j v hj
    rw [Nat.zero_add,cell_of bW];simpa using hj
   obtain ⟨v,s,h1,h2,h3,h4⟩:=dP (st:=st) (s:= .skip) hr hc ji hm hK
   rw [Nat.zero_add] at h1
   exact EQ v s (fun w' hg=>by rw [hx];exact h1 w' (keep hg hm)) h2 h3 h4
  ·simp at hK
 ·rename_i cs off
  simp only [aa] at hx
  obtain ⟨ax,q,vs,hx,ji,_,p9⟩:=hx
  have hm:w.rangeAt ax q vs:=by
   intro j v hj
   have EN:j<vs.length:=(List.getElem?_eq_some_iff.1 hj).1
   exact h.gM _ _ _ (by rw [p9 j EN];exact hj)
  obtain ⟨v,s,h1,h2,h3,h4⟩:=dP (st:=st) (s:= .skip) hr hc ji hm hK
  exact EQ v s (fun w' hg=>by rw [hx];exact h1 w' (keep hg hm)) h2 h3 h4
 ·rename_i f i off b cs
  cases hf:aj st.ao f with
  |none=>simp [hf] at hK
  |some o'=>
   simp only [hf] at hK
   simp only [aa] at hx
   obtain ⟨ax,cap,hE,⟨x,OI,ID⟩,hx⟩:=hx o' (by rw [h.m];exact hf)
   obtain ⟨J,cells,hJ,Gi,b6,ia,_⟩:=(h.dA f o' hf).row
   obtain ⟨p1,v1,p2,rfl,yj,pQ,cL⟩:=ia.at OI
   have ji:=cL.rQ ID
   rw [hE] at b6
   have ml:=b6.cells (g:=ax) rfl
   have hm:w.rangeAt ax (i *mS cs) v1:=by
    intro j v hj
    have EN:j<v1.length:=(List.getElem?_eq_some_iff.1 hj).1
    have:=ml (i *J.size+j) v (by rw [List.append_assoc,List.getElem?_append_right (by omega),List.getElem?_append_left (by omega)];rw [show i *J.size+j-p1.length=j by omega];exact hj)
    rw [Addr.add_mid,Nat.zero_add] at this
    rw [←ji.width,pQ];exact this
   obtain ⟨v,s,h1,h2,h3,h4⟩:=dP (st:=st) (s:= .skip) hr hc ji hm hK
   exact EQ v s (fun w' hg=>by rw [hx];exact h1 w' (keep hg hm)) h2 h3 h4
 ·rename_i root off i
  simp only [aa] at hx
  obtain ⟨hx,yk⟩:=hx
  have fm:=h.slot root
  cases hb:I.st||!Nat.beq I.size 1 with
  |true=>simp [hb] at hK
  |false=>
   simp only [hb,cond_false] at hK
   simp only [Bool.or_eq_false_iff,Bool.not_eq_false'] at hb
   have jZ:=Nat.eq_of_beq_eq_true hb.2
   split at hK
   ·rename_i cs pf
    rw [pf] at fm
    have lc:ct cs=false:=by cases hq:ct cs<;>simp_all
    simp only [lc,cond_false] at hK
    obtain ⟨_,kI⟩:=fm
    obtain ⟨arr,T,bW,ji⟩:=kI.cells lc
    split at hK
    ·rename_i b ls Hh
     obtain ⟨v1,v2,LC,h1,h2⟩:=mZ Hh ji
     obtain ⟨u,u2,rfl,h3,h4⟩:=h2
     have h3:u=aD b:=h3
     subst h3
     have hg:=oD b i yk
     have hlen:=bo b
     have hm:w.rangeAt (e.B root) (off+i) [.int .u8 ((b.l.getD i 0).toNat:Int)]:=by
      intro j v hj
      cases j with
      |succ j=>simp at hj
      |zero=>
       simp at hj
       rw [Nat.add_zero,cell_of bW]
       have:arr[off+i]? =arr.toList[off+i]? :=by simp
       rw [this,LC,List.getElem?_append_right (by omega),List.getElem?_append_left (by omega),show off+i-v1.length=i by omega,hg,←hj]
       simp [List.getD]
     rcases jE hr hc (by simp [jZ]) hm with ⟨hh,_⟩|⟨_,v,EO,aX⟩
     ·rcases hh with hh|hh
      ·rw [hb.1] at hh;cases hh
      ·omega
     ·simp at EO
      subst EO
      exact EQ _ _ (fun w' hg=>by rw [hx];exact aX w' (keep hg hm)) (jC _ _) trivial hK
    ·simp at hK
   ·simp at hK
 ·simp at hK
theorem Ag {t:TypeId} {x:Operand} {f:Nat} {I:TI} (ho:o.op= .fieldAddr t x f) (hI:c.tv t=some I) (hT:fp P c.ti) (h:aO c Z e st a w)
 (hK:BQ st I f (ai c st x) (fun s=>aw c st o.dst s K)=some r):Rd P c Z K r e a w o (fun _=>True):=by
 obtain ⟨hx,gQ⟩:=h.eval x
 obtain ⟨jF,hc⟩:=aN hI
 obtain ⟨d,i,h1,h2,h3,h4⟩:=hT t I jF
 have key: ∀q ax off,I.st=true→I.wm[f]? =some q→a.eval x= .pointer (some ⟨ax,off,none⟩)→
  ∀w:World,(execOp a.eval o).run P w= .ok (.value (.pointer (some ⟨ax,off+q,none⟩))) w:=by
  intro q ax off cK hq hv w
  cases d<;>simp only [jD] at h4
  case struct fs=>
   obtain ⟨_,_,_,Ji,bj,Bw,_⟩:=h4
   rw [←Ji,List.getElem?_map] at hq
   cases hf:fs.toList[f]? with
   |none=>simp [hf] at hq
   |some fl=>
    simp [hf] at hq
    subst hq
    have Gj:fs[f]? =some fl:=by simpa using hf
    obtain ⟨J,hJ,Gi,QK⟩:=Bw f fl Gj
    obtain ⟨ij,OJ,hs,_⟩:=(hT _ _ hJ).info Gi
    have hz:ij.size≠0:=by omega
    simp [execOp,ho,hv,Instr.fieldAt,run_underlying h1,Gj,Instr.sureAddr,fieldPlace,Go.sizeOf,typeInfo,OJ,hz,Addr.add_mid]
  all_goals (exfalso;simp_all)
 generalize ai c st x=s at hx hK gQ
 unfold BQ at hK
 split at hK
 ·rename_i q r' o' cK hq
  simp only [aa] at hx
  refine df (s:= .ptr r' (o'+q)) h (key q _ _ cK hq hx) ?_ gQ hK
  simp only [aa]
 ·rename_i q cs o' cK hq
  simp only [aa] at hx
  obtain ⟨ax,b,vs,hx,hh⟩:=hx
  refine df (s:= .rp cs (o'+q)) h (key q _ _ cK hq hx) ?_ trivial hK
  simp only [aa]
  exact ⟨ax,b,vs,by rw [Nat.add_assoc],hh⟩
 ·rename_i q g i' o' b cs cK hq
  cases hf:aj st.ao g with
  |none=>simp [hf] at hK
  |some w'=>
   simp only [hf] at hK
   simp only [aa] at hx
   obtain ⟨ax,cap,h5,h6,h7⟩:=hx w' (by rw [h.m];exact hf)
   refine df (s:= .ep g i' (o'+q) b cs) h (key q _ _ cK hq h7) ?_ trivial hK
   simp only [aa]
   intro o2 bj
   rw [h.m,hf] at bj
   cases bj
   exact ⟨ax,cap,h5,h6,by rw [Nat.add_assoc]⟩
 ·simp at hK
theorem Ah {cs:List ah}: ∀{vs:List Value} {k:Nat} {l:ah},af e vs cs→o8 cs k=some l→ ∃v,vs[k]? =some v∧aa e v (.sc l):=by
 induction cs with
 |nil=>intro vs k l _ hk;simp [o8] at hk
 |cons x xs ih=>
  intro vs k l hr hk
  obtain ⟨v0,q,rfl,h1,h2⟩:=hr
  have hw:=h1.width
  have hx:x.w=1∧(k=0→x=l)∧(∀j,k=j+1→o8 xs j=some l)∧ ∀y,x≠ .hs y:=by
   cases x<;>cases k<;>simp [o8,ah.w] at hk⊢ <;>exact hk
  obtain ⟨w1,w2,w3,w4⟩:=hx
  rw [w1] at hw
  obtain ⟨u,rfl⟩:=List.length_eq_one_iff.1 hw
  cases k with
  |zero=>
   have:=w2 rfl
   subst this
   refine ⟨u,rfl,?_⟩
   cases x<;>first|(simp [aa];done)|exact absurd rfl (w4 _)|(simp only [aa];exact h1)
  |succ j=>
   obtain ⟨v,g1,g2⟩:=ih h2 (w3 j rfl)
   exact ⟨v,by simpa using g1,g2⟩
theorem Hi {x:Operand} {k:Nat} (ho:o.op= .extract x k) (h:aO c Z e st a w)
 (hK:G5 (ai c st x) k (fun s=>aw c st o.dst s K)=some r):Rd P c Z K r e a w o (fun _=>True):=by
 obtain ⟨hx,gQ⟩:=h.eval x
 generalize ai c st x=s at hx hK
 unfold G5 at hK
 split at hK
 ·rename_i cs
  simp only [aa] at hx
  obtain ⟨arr,hv,hs⟩:=hx
  cases hk:o8 cs k with
  |none=>simp [hk] at hK
  |some l=>
   simp only [hk] at hK
   obtain ⟨v,zp,h1⟩:=Ah hs hk
   have ER:arr[k]? =some v:=by simpa using zp
   refine df h ?_ h1 trivial hK
   simp [execOp,ho,hv,Instr.extract,ER]
 ·rename_i vs
  simp only [aa] at hx
  obtain ⟨arr,hv,hs⟩:=hx
  cases hk:vs[k]? with
  |none=>simp [hk] at hK
  |some s=>
   simp only [hk] at hK
   have: ∀(k:Nat) (vs:List Slot) (l:List Value),dY e l vs→vs[k]? =some s→ ∃v,l[k]? =some v∧aa e v s∧n7 s=true:=by
    intro k
    induction k with
    |zero=>
     intro vs l hl hk
     cases vs with
     |nil=>simp at hk
     |cons y ys=>
      simp at hk
      subst hk
      simp only [dY] at hl
      obtain ⟨v,q,rfl,h1,h2,_⟩:=hl
      exact ⟨v,rfl,h1,h2⟩
    |succ k ih=>
     intro vs l hl hk
     cases vs with
     |nil=>simp at hk
     |cons y ys=>
      simp only [dY] at hl
      obtain ⟨v,q,rfl,_,_,h3⟩:=hl
      obtain ⟨u,h4,h5⟩:=ih ys q h3 (by simpa using hk)
      exact ⟨u,by simpa using h4,h5⟩
   obtain ⟨v,zp,h1,h2⟩:=this k vs arr.toList hs hk
   have ER:arr[k]? =some v:=by simpa using zp
   refine df h ?_ h1 ?_ hK
   ·simp [execOp,ho,hv,Instr.extract,ER]
   ·cases s<;>simp [n7] at h2<;>trivial
 ·simp at hK
end
end Dn
/-
  Operations that make memory: variables. Conditions: none.
-/
set_option linter.unusedSimpArgs false
set_option linter.unusedVariables false
namespace Dn
open Go
section
variable {P:Program} {c:Ctx} {Z:aJ} {e:Env} {st:St} {a:Act} {w w':World} {R:Type} {K:St→Option R} {r:R} {Q:Exit→Act→World→Prop} {o:Oper}
theorem bH.refl (w:World):bH w w:=⟨Nat.le_refl _,fun _ _=>rfl,.refl _⟩
theorem bH.alloc (w:World) (cs:Array Value) (t:TypeId):bH w (w.alloc (.cells cs t)):=⟨by simp,fun b hb=>lJ w _ b hb,.alloc w cs t⟩
theorem bH.LD (g:bH w w') {base:Nat} {t:TypeId} {size:Nat} {v:Value} {n:Nat} {xs:List Value} (h:w.ownsRow base t size v n xs):w'.ownsRow base t size v n xs:=by
 refine ⟨h.1,?_⟩
 rcases h.2 with h|⟨b,cap,dH,h1,h2,h3,h4⟩
 ·exact .inl h
 ·exact .inr ⟨b,cap,dH,h1,h2,by rw [g.kZ b (aH h3)];exact h3,h4⟩
theorem kl.grow (g:bH w w') {ax:Nat} {cs:List ah} (h:kl Z e w ax cs):kl Z e w' ax cs:=by
 obtain ⟨o,h1,h2⟩:=h.obj
 exact ⟨h.aV,⟨o,by rw [g.kZ _ (aH h1)];exact h1,h2⟩,h.free⟩
theorem bu.grow (g:bH w w') {v:Value} {f:fX} (h:bu c Z e w v f):bu c Z e w' v f:=by
 obtain ⟨I,cells,h1,h2,h3,h4,h5⟩:=h.row
 exact ⟨I,cells,h1,h2,g.LD h3,h4,h5⟩
theorem aO.grow (g:bH w w') (h:aO c Z e st a w):aO c Z e st a w':=by
 refine ⟨h.defers,h.size,h.m,h.key,h.nodup,?_,h.root,fun f o ho=>(h.dA f o ho).grow g,h.bb,h.bf,h.ff,fun b o v hv=>g.cell (h.gM b o v hv),fun b hb=>h.aV b (Nat.le_trans g.size hb)⟩
 intro t
 have hs:=h.slot t
 generalize ae st.fr t=s at hs
 cases s<;>simp only [aP] at hs⊢ <;>first|exact hs|exact ⟨hs.1,hs.2.grow g⟩
theorem bH.trans (g:bH w w') (hz: ∀b,w.heap.size≤b→Z b) (φ:Ph):Trans Z φ w φ w':=
 ⟨.refl φ,fun b _ hl=>g.kZ b hl,fun _ _ _=>rfl,g.size,g.rest⟩
theorem Ai {l:ah} {vs:List Value} (h:B9 l vs=true):al e vs l:=by
 unfold B9 at h
 split at h
 ·simp at h;subst h;exact ⟨rfl,.b _⟩
 ·simp at h;obtain ⟨rfl,rfl⟩:=h;exact ⟨rfl,.i _ _⟩
 ·simp at h;subst h;exact ⟨rfl,.s _⟩
 ·split at h
  ·exact ⟨rfl,.raw _ rfl⟩
  ·exact ⟨rfl,.raw _ rfl⟩
  ·exact ⟨rfl,.raw _ rfl⟩
  ·simp at h
 ·rfl
 ·exact ⟨_,rfl,h⟩
 ·rename_i x
  simp only [Bool.and_eq_true,beq_iff_eq] at h
  obtain ⟨h1,h2⟩:=h
  show vs=aD x
  apply List.ext_getElem?
  intro j
  by_cases hj:j<32
  ·rw [oD x j hj]
   have OL:j<vs.length:=by omega
   have Aj:j<x.l.length:=by rw [x.h];exact hj
   rw [List.all_eq_true] at h2
   have hm:(vs[j],x.l[j])∈vs.zip x.l:=List.mem_iff_getElem.2 ⟨j,by simp;omega,by simp⟩
   have:=h2 _ hm
   rw [List.getElem?_eq_getElem OL]
   dsimp only at this
   split at this
   ·rename_i n hn
    rw [hn,of_decide_eq_true this]
    simp [List.getD,List.getElem?_eq_getElem Aj]
   ·simp at this
  ·rw [List.getElem?_eq_none (by omega),List.getElem?_eq_none (by rw [bo];omega)]
 ·simp at h
theorem eK {ls:List ah}: ∀{vs:List Value},kj ls vs=true→af e vs ls:=by
 induction ls with
 |nil=>intro vs h;simpa [kj,af] using h
 |cons l r ih=>
  intro vs h
  simp only [kj,Bool.and_eq_true] at h
  exact ⟨vs.take l.w,vs.drop l.w,by simp,Ai h.1.1,ih h.1.2⟩
theorem af.nb {cs:List ah} {vs:List Value} (h:af e vs cs):ct cs=false:=by
 cases hm:ct cs with
 |false=>rfl
 |true=>obtain ⟨s,ms,rfl⟩:=vm hm;obtain ⟨_,_,_,h1,_⟩:=h;exact h1.elim
theorem rR (h:aO c Z e st a w) (off:Nat):e.φ w.heap.size off=none:=by
 cases hp:e.φ w.heap.size off with
 |none=>rfl
 |some v=>
  have:=World.block_lt_of_cell? w _ (h.gM _ _ _ hp)
  simp at this
theorem nC (h:aO c Z e st a w):(∀t cJ,ae st.fr t= .box cJ→e.B t≠w.heap.size)∧(∀f o,aj st.ao f=some o→(e.E f).ownBlock≠some w.heap.size):=by
 refine ⟨?_,?_⟩
 ·intro t cJ ht
  have hs:=h.slot t
  rw [ht] at hs
  obtain ⟨o,h1,_⟩:=hs.2.obj
  have:=aH h1
  omega
 ·intro f o ho hk
  obtain ⟨I,cells,h1,h2,h3,h4,h5⟩:=(h.dA f o ho).row
  rcases h3.2 with ⟨hv,_⟩|⟨g,cap,dH,hv,_,hg,_⟩
  ·rw [hv] at hk;simp [Value.ownBlock] at hk
  ·rw [hv] at hk
   simp only [Value.ownBlock,Option.some.injEq] at hk
   have:=aH hg
   omega
theorem zq {cells:Array Value} {T:TypeId} {cs:List ah} (h:aO c Z e st a w) (hl:af e cells.toList cs):
 iT Z e (w.alloc (.cells cells T)) st (.pointer (some ⟨w.heap.size,0,none⟩)) (.box cs):=by
 exact ⟨w.heap.size,by rw [kH hl.nb],⟨h.aV _ (Nat.le_refl _),⟨_,eY w _,rfl,hl⟩,rR h⟩,(nC h).1,(nC h).2⟩
theorem Cl {t:TypeId} {I:TI} (ho:o.op= .alloc t) (hI:c.tv t=some I) (hT:fp P c.ti) (h:aO c Z e st a w)
 (hK:aw c st o.dst (.box I.zero) K=some r):o.wp P a w (fun a' w'=>bH w w'∧Out c Z K r e.φ w a' w') Q:=by
 obtain ⟨jF,hc⟩:=aN hI
 obtain ⟨d,i,h1,h2,h3,h4⟩:=hT t I jF
 have hz: ∃z,i.zero=some z∧af e z.cells.toList I.zero:=by
  cases d<;>simp only [jD] at h4
  case struct fs=>obtain ⟨_,_,_,_,_,_,cs,hz,hl,_⟩:=h4;exact ⟨_,hz,by simpa [Value.cells] using eK hl⟩
  case tuple ts=>exact absurd hc h4.2.1
  case slice el=>obtain ⟨_,_,_,_,_,hz,hl,_⟩:=h4;exact ⟨_,hz,by rw [hl];exact ⟨[.slice none 0 0],[],rfl,rfl,rfl⟩⟩
  case array n el=>obtain ⟨_,_,_,_,_,_,_,hl,hz⟩:=h4;exact ⟨_,hz,by rw [hl];exact ⟨aD dW.zero,[],by simp [Value.cells],rfl,rfl⟩⟩
  case bool=>obtain ⟨_,_,_,_,hl,hz⟩:=h4;exact ⟨_,hz,by rw [hl];exact ⟨[.bool false],[],rfl,⟨rfl,.b _⟩,rfl⟩⟩
  case int k=>obtain ⟨_,_,_,_,hl,hz⟩:=h4;exact ⟨_,hz,by rw [hl];exact ⟨[.int k 0],[],rfl,⟨rfl,.i _ _⟩,rfl⟩⟩
  case string=>
   obtain ⟨_,_,_,_,hl,b,hz,hb⟩:=h4
   refine ⟨_,hz,by rw [hl];refine ⟨[.string b],[],rfl,⟨rfl,?_⟩,rfl⟩;rw [←hb];exact .s b⟩
  all_goals
   obtain ⟨_,_,_,_,v,hz,hv,hl⟩:=h4
   refine ⟨v,hz,?_⟩
   have:v.cells.toList=[v]:=by cases v<;>simp_all [Value.cells,Value.oneCell']
   rw [this];exact eK hl
 obtain ⟨z,hz,hl⟩:=hz
 have aX:(execOp a.eval o).run P w= .ok (.value (.pointer (some ⟨w.heap.size,0,none⟩))) (w.alloc (.cells z.cells t)):=by
  simp [execOp,ho,Instr.alloc,zeroValue,typeInfo,h2,hz,newVar,newRow,newObj,Sem.run]
 exact Ac (.alloc w _ _) aX (h.grow (.alloc w _ _)) ((bH.alloc w _ _).trans h.aV _) (zq h hl) hK
theorem Hj {t:TypeId} {x:Operand} {I:TI} (ho:o.op= .box t x) (h:aO c Z e st a w)
 (hK:G0 I (ai c st x) (fun s=>aw c st o.dst s K)=some r):o.wp P a w (fun a' w'=>bH w w'∧Out c Z K r e.φ w a' w') Q:=by
 obtain ⟨hx,gQ⟩:=h.eval x
 have aX:(execOp a.eval o).run P w= .ok (.value (.pointer (some ⟨w.heap.size,0,none⟩))) (w.alloc (.cells (a.eval x).cells t)):=by
  simp [execOp,ho,Instr.box,newVar,newRow,newObj,Sem.run]
 have go: ∀cs,af e (a.eval x).cells.toList cs→aw c st o.dst (.box cs) K=some r→o.wp P a w (fun a' w'=>bH w w'∧Out c Z K r e.φ w a' w') Q:=
  fun cs h1 h2=>Ac (.alloc w _ _) aX (h.grow (.alloc w _ _)) ((bH.alloc w _ _).trans h.aV _) (zq h h1) h2
 generalize ai c st x=s at hx hK gQ
 unfold G0 at hK
 split at hK
 ·rename_i l
  cases hb:I.st||wq l||!Nat.beq l.w I.size with
  |true=>simp [hb] at hK
  |false=>
   simp only [hb,cond_false] at hK
   refine go [l] ?_ hK
   cases l with
   |un=>simp [wq] at hb
   |hs y=>
    simp only [aa] at hx
    rw [hx]
    exact ⟨aD y,[],by simp [Value.cells],rfl,rfl⟩
   |p m=>
    simp only [aa] at hx
    have:(a.eval x).cells.toList=[a.eval x]:=by
     have:=hx.cells (a.eval x) (by simp)
     generalize a.eval x=v at this
     cases v<;>simp_all [Value.cells,Value.oneCell']
    rw [this];exact ⟨_,[],rfl,hx,rfl⟩
   |nil=>
    simp only [aa] at hx
    have yl:[a.eval x]=[Value.slice none 0 0]:=hx
    simp at yl
    rw [yl];exact ⟨[.slice none 0 0],[],rfl,rfl,rfl⟩
   |mp s es=>simp [wq] at hb
   |own f=>
    simp only [aa] at hx
    have:(a.eval x).cells.toList=[a.eval x]:=by
     have:=hx.cells (a.eval x) (by simp)
     generalize a.eval x=v at this
     cases v<;>simp_all [Value.cells,Value.oneCell']
    rw [this];exact ⟨_,[],rfl,hx,rfl⟩
 ·rename_i cs
  cases hb:I.st&&!kW cs&&Nat.beq (mS cs) I.size with
  |false=>simp [hb] at hK
  |true=>
   simp only [hb,cond_true] at hK
   simp only [aa] at hx
   obtain ⟨arr,hx,hl⟩:=hx
   exact go cs (by rw [hx];exact hl) hK
 ·simp at hK
end
end Dn
/-
  Stores into variables. Conditions: none.
-/
set_option linter.unusedSimpArgs false
set_option linter.unusedVariables false
namespace Dn
open Go
section
variable {P:Program} {c:Ctx} {Z:aJ} {e:Env} {st:St} {a:Act} {w w':World} {R:Type} {K:St→Option R} {r:R} {Q:Exit→Act→World→Prop} {o:Oper}
theorem setRow_size (w:World) (g:Nat) (cs:Array Value):(w.setRow g cs).heap.size=w.heap.size:=by simp [World.setRow]
structure Bx (g:Nat) (w w':World):Prop where
 size:w'.heap.size=w.heap.size
 other: ∀b,b≠g→w'.heap[b]? =w.heap[b]?
 rest:Rest w w'
theorem Bx.setRow (w:World) (g:Nat) (cs:Array Value):Bx g w (w.setRow g cs):=⟨setRow_size _ _ _,fun b hb=>setRow_other _ _ _ _ hb,.setRow _ _ _⟩
theorem wL {g:Nat} (hc:Bx g w w') {base:Nat} {t:TypeId} {size:Nat} {v:Value} {n:Nat} {xs:List Value} (b7:v.ownBlock≠some g)
 (h:w.ownsRow base t size v n xs):w'.ownsRow base t size v n xs:=by
 refine ⟨h.1,?_⟩
 rcases h.2 with h|⟨b,cap,dH,h1,h2,h3,h4⟩
 ·exact .inl h
 ·refine .inr ⟨b,cap,dH,h1,h2,?_,h4⟩
  rw [hc.other _ (by intro e;subst e;subst h1;exact b7 rfl)];exact h3
theorem ym {g:Nat} {cs:Array Value} {base:Nat} {t:TypeId} {size:Nat} {v:Value} {n:Nat} {xs:List Value} (b7:v.ownBlock≠some g)
 (h:w.ownsRow base t size v n xs):(w.setRow g cs).ownsRow base t size v n xs:=wL (.setRow w g cs) b7 h
theorem aO.setObj {root:Nat} {cs cJ:List ah} {o':Obj} {mO:Fr} (h:aO c Z e st a w) (hf:ae st.fr root= .box cs)
 (wi:Bx (e.B root) w w') (jj:w'.heap[e.B root]? =some o') (hl:dO e o' cJ) (KV:eF cJ=eF cs) (tx: ∀t,ae mO t=if t=root then .box cJ else ae st.fr t)
 (KW:(ap mO).Nodup):aO c Z e {st with fr:=mO} a w':=by
 have jZ:=wi.size
 have ga:=h.slot root
 rw [hf] at ga
 refine ⟨h.defers,h.size,h.m,h.key,KW,?_,?_,?_,?_,?_,h.ff,?_,fun b hb=>h.aV b (by omega)⟩
 ·intro t
  show aP Z e _ t _ (ae mO t)
  rw [tx]
  by_cases ht:t=root
  ·subst ht
   simp only [if_true,aP]
   exact ⟨ga.1.eF KV,⟨ga.2.aV,⟨o',jj,hl⟩,ga.2.free⟩⟩
  ·simp only [ht,if_false]
   have hs:=h.slot t
   have pS:=h.bb t root
   generalize hg:ae st.fr t=s at hs pS
   cases s<;>simp only [aP] at hs⊢ <;>try exact hs
   rename_i we
   refine ⟨hs.1,hs.2.aV,?_,hs.2.free⟩
   obtain ⟨o2,h1,h2⟩:=hs.2.obj
   exact ⟨o2,by rw [wi.other _ (pS we cs rfl hf ht)];exact h1,h2⟩
 ·intro t
  show bc mO (ae mO t)
  rw [tx]
  by_cases ht:t=root
  ·simp [ht,bc]
  ·simp only [ht,if_false]
   have hr:=h.root t
   generalize ae st.fr t=s at hr
   cases s<;>simp only [bc] at hr⊢ <;>(rw [tx];split<;>simp_all [bn])
 ·intro f o ho
  obtain ⟨I,cells,h1,h2,h3,h4,h5⟩:=(h.dA f o ho).row
  exact ⟨I,cells,h1,h2,wL wi (h.bf root cs f o hf ho) h3,h4,h5⟩
 ·intro t t' c1 c2 h1 h2 b7
  have h1:ae mO t= .box c1:=h1
  have h2:ae mO t'= .box c2:=h2
  rw [tx] at h1 h2
  by_cases ht:t=root
  ·by_cases oC:t'=root
   ·exact absurd (ht.trans oC.symm) b7
   ·simp only [oC,if_false] at h2;rw [ht];exact h.bb root t' cs c2 hf h2 (by rw [←ht];exact b7)
  ·simp only [ht,if_false] at h1
   by_cases oC:t'=root
   ·rw [oC];exact h.bb t root c1 cs h1 hf ht
   ·simp only [oC,if_false] at h2;exact h.bb t t' c1 c2 h1 h2 b7
 ·intro t c1 f o h1 h2
  have h1:ae mO t= .box c1:=h1
  rw [tx] at h1
  by_cases ht:t=root
  ·rw [ht];exact h.bf root cs f o hf h2
  ·simp only [ht,if_false] at h1;exact h.bf t c1 f o h1 h2
 ·intro b o v hv
  have b7:b≠e.B root:=by intro eb;subst eb;rw [ga.2.free] at hv;cases hv
  have:=h.gM b o v hv
  rw [World.cell?_of_block (wi.other _ b7)];exact this
theorem aO.Cm {root:Nat} {cs cJ:List ah} {arr tz:Array Value} {T:TypeId} {mO:Fr} (h:aO c Z e st a w) (hf:ae st.fr root= .box cs)
 (bW:w.heap[e.B root]? =some (.cells arr T (0,0))) (hl:af e tz.toList cJ) (tx: ∀t,ae mO t=if t=root then .box cJ else ae st.fr t)
 (KW:(ap mO).Nodup):aO c Z e {st with fr:=mO} a (w.setRow (e.B root) tz):=by
 have ga:=h.slot root
 rw [hf] at ga
 have hm:ct cs=false:=by
  obtain ⟨o,h1,h2⟩:=ga.2.obj
  rw [bW] at h1;cases h1
  exact h2.2.nb
 exact h.setObj hf (.setRow _ _ _) (setRow_heap _ _ _ _ _ _ bW) ⟨rfl,hl⟩ (by rw [lN hm,lN hl.nb]) tx KW
theorem Trans.NB {g:Nat} (φ:Ph) (wi:Bx g w w') (hz:Z g):Trans Z φ w φ w':=
 ⟨.refl φ,fun b hb _=>wi.other _ (by intro e;subst e;exact hb hz),fun _ _ _=>rfl,by rw [wi.size];exact Nat.le_refl _,wi.rest⟩
theorem Trans.setRow {g:Nat} {tz:Array Value} (φ:Ph) (hz:Z g):Trans Z φ w φ (w.setRow g tz):=
 ⟨.refl φ,fun b hb _=>setRow_other _ _ _ _ (by intro e;subst e;exact hb hz),fun _ _ _=>rfl,by rw [setRow_size];exact Nat.le_refl _,.setRow _ _ _⟩
theorem n8 {v:Value} {s:Slot} (h:aa e v s) (hu:kW (ak s)=false) (b7:ak s≠[]):af e v.cells.toList (ak s):=by
 cases s with
 |sc l=>
  simp only [ak] at hu⊢
  have ej: ∀l,al e [v] l→af e v.cells.toList [l]:=by
   intro l hl
   have hc:=hl.cells v (by simp)
   have:v.cells.toList=[v]:=by cases v<;>simp_all [Value.cells,Value.oneCell']
   rw [this];exact ⟨[v],[],rfl,hl,rfl⟩
  cases l with
  |un=>simp [kW,wq] at hu
  |hs x=>simp only [aa] at h;rw [h];exact ⟨aD x,[],by simp [Value.cells],rfl,rfl⟩
  |p m=>simp only [aa] at h;exact ej _ h
  |nil=>simp only [aa] at h;exact ej _ h
  |mp s es=>simp [kW,wq] at hu
  |own f=>simp only [aa] at h;exact ej _ h
 |ag cs=>simp only [aa] at h;obtain ⟨arr,rfl,hl⟩:=h;exact hl
 |_=>exact absurd rfl b7
theorem iU {t:TypeId} {I:TI} {ax off:Nat} {v:Value} {arr:Array Value} {T:TypeId} (hr:gU c.ti P t I) (hc:I.a7=[]) (hs:v.cells.toList.length=I.size)
 (ej: ∀u∈v.cells.toList,u.oneCell'=true) (bW:w.heap[ax]? =some (.cells arr T (0,0))) (Cn:off+I.size≤arr.size):
 (Instr.storeAt t (.pointer (some ⟨ax,off,none⟩)) v).run P w= .ok () (w.setRow ax (arr.toList.take off++v.cells.toList++arr.toList.drop (off+I.size)).toArray):=by
 obtain ⟨i,hi,jZ,_⟩:=hr.info hc
 have h1:=run_storeCells_at P ax off T v.cells.toList 0 arr w bW (by omega) ej
 rw [Nat.add_zero,hs] at h1
 have h2:v.cells.size=i.size:=by rw [jZ,←hs];simp
 simp [Instr.storeAt,Instr.sureAddr,storeVar,Go.sizeOf,typeInfo,hi,h2,h1]
theorem Ak {t:TypeId} {I:TI} {root off:Nat} {v:Value} {cs ls cJ:List ah} {K':St→Option R} (lc:ct cs=false) (hr:gU c.ti P t I) (hc:I.a7=[]) (h:aO c Z e st a w)
 (hf:ae st.fr root= .box cs) (hv:af e v.cells.toList ls) (rS:mS ls=I.size) (hp:putAt cs off ls=some cJ) (hK:wr st root (.box cJ) K'=some r):
 ∃w' aR,(Instr.storeAt t (.pointer (some ⟨e.B root,off,none⟩)) v).run P w= .ok () w'∧aO c Z e aR a w'∧Trans Z e.φ w e.φ w'∧K' aR=some r:=by
 have fm:=h.slot root
 rw [hf] at fm
 obtain ⟨arr,T,bW,ji⟩:=fm.2.cells lc
 obtain ⟨v1,v2,v3,he,h1,h2,h3⟩:=lL hp ji hv
 have hlen:=hv.width
 have jZ:arr.size=v1.length+v2.length+v3.length:=by
  have:arr.toList.length=(v1++v2++v3).length:=by rw [he]
  simp at this
  omega
 have aX:=iU (P:=P) (w:=w) (ax:=e.B root) (off:=off) hr hc (by rw [hlen,rS]) hv.cells bW (by omega)
 have Jj:arr.toList.take off=v1:=by rw [he,List.append_assoc,List.take_left' h1]
 have Jk:arr.toList.drop (off+I.size)=v3:=by
  rw [he];exact List.drop_left' (by rw [List.length_append];omega)
 rw [Jj,Jk] at aX
 unfold wr at hK
 cases hn:aB st.bh root with
 |true=>simp [hn] at hK
 |false=>
  simp only [hn,cond_false,force_eq,eZ] at hK
  refine ⟨_,_,aX,?_,.setRow _ (wc fm.2.aV (by rw [←h.defers.2.1,←aG,hn];simp)),hK⟩
  exact h.Cm hf bW (by simpa using h3) (fun t=>by rw [aI]) (bV h.nodup)
end
end Dn
/-
  Owned slices that are shared from now on; what is handed to a callee. Conditions: none.
-/
set_option linter.unusedSimpArgs false
set_option linter.unusedVariables false
namespace Dn
open Go
section
variable {P:Program} {c:Ctx} {Z:aJ} {e:Env} {st:St} {a:Act} {w w':World} {R:Type} {K:St→Option R} {r:R} {Q:Exit→Act→World→Prop} {o:Oper}
theorem az.mono {key:Nat→Nat} {φ φ':Ph} (h:jh φ φ') {size:Nat} {xs:List MV}: ∀{cs:List Value},az key φ size cs xs→az key φ' size cs xs:=by
 induction xs with
 |nil=>intro cs hh;exact hh
 |cons x xs ih=>intro cs hh;obtain ⟨v,q,rfl,h1,h2,h3⟩:=hh;exact ⟨v,q,rfl,h1,h2.mono h,ih h3⟩
theorem az.length {key:Nat→Nat} {φ:Ph} {size:Nat} {xs:List MV}: ∀{cs:List Value},az key φ size cs xs→cs.length=xs.length *size:=by
 induction xs with
 |nil=>intro cs hh;cases hh;simp
 |cons x xs ih=>intro cs hh;obtain ⟨v,q,rfl,h1,h2,h3⟩:=hh;simp [h1,ih h3,Nat.succ_mul,Nat.add_comm]
theorem yn {m:List (Nat×fX)} {f:Nat} {o:fX} (h:aj m f=some o):aM m f o=m:=by
 induction m with
 |nil=>simp [aj] at h
 |cons p r ih=>
  obtain ⟨k,x⟩:=p
  simp only [aj,aM,cE] at h⊢
  by_cases hk:k=f
  ·subst hk;simp at h;subst h;simp
  ·simp only [hk,decide_false,cond_false] at h⊢;rw [ih h]
def gd (φ:Ph) (v:Value) (cells:List Value):Ph:=fun b off=>if v.ownBlock=some b∧off<cells.length then cells[off]? else φ b off
theorem qB {base:Nat} {t:TypeId} {size n:Nat} {v:Value} {xs ys:List Value} (h:w.ownsRow base t size v n xs) (h':w.ownsRow base t size v n ys) {b:Nat} (hb:v.ownBlock=some b):xs=ys:=by
 rcases h.2 with ⟨h1,_⟩|⟨g,cap,dH,h1,_,h2,_,_,_,h3⟩
 ·rw [h1] at hb;simp [Value.ownBlock] at hb
 ·rcases h'.2 with ⟨rr,_⟩|⟨g',Hk,OM,rr,_,Al,_,_,_,Gk⟩
  ·rw [rr] at hb;simp [Value.ownBlock] at hb
  ·rw [h1] at rr
   simp at rr
   obtain ⟨rfl,rfl⟩:=rr
   rw [h2] at Al
   simp at Al
   subst Al
   rw [←h3,←Gk]
theorem freeze {f:Nat} {o:fX} (h:aO c Z e st a w) (hf:aj st.ao f=some o) (hp:f∉Z.aY∨o.bU=true):
 ∃φ',jh e.φ φ'∧(∀b off,¬Z b→φ' b off=e.φ b off)∧aO c Z {e with φ:=φ',m:=aM e.m f ⟨o.ty,true,o.xs⟩} {st with ao:=aM st.ao f ⟨o.ty,true,o.xs⟩} a w∧
  eJ e.key φ' [e.E f] (.list o.xs)∧
  (∀I cells,c.ti o.ty=some I→w.ownsRow 0 o.ty I.size (e.E f) o.xs.length cells→ ∀ax,(e.E f).ownBlock=some ax→ ∀j,j<cells.length→φ' ax j=cells[j]?):=by
 obtain ⟨I,cells,hI,Hl,b6,ia,hz⟩:=(h.dA f o hf).row
 have hlen:=ia.length
 have hle:jh e.φ (gd e.φ (e.E f) cells):=by
  intro b off v hv
  unfold gd
  by_cases hc:(e.E f).ownBlock=some b∧off<cells.length
  ·simp only [hc,and_self,if_true]
   obtain ⟨hb,ho⟩:=hc
   rcases b6.2 with ⟨hE,_⟩|⟨g,cap,dH,hE,_,hg,hn,Bv,pf,ES⟩
   ·rw [hE] at hb;simp [Value.ownBlock] at hb
   ·rw [hE] at hb
    simp only [Value.ownBlock,Option.some.injEq] at hb
    subst hb
    have:=h.gM _ _ _ hv
    rw [cell_of hg] at this
    rw [←ES,List.getElem?_take]
    have bj:off<o.xs.length *I.size:=by omega
    simp only [bj,if_true]
    simpa using this
  ·simp only [hc,if_false];exact hv
 have pg: ∀b off v,gd e.φ (e.E f) cells b off=some v→w.cell? ⟨b,off,none⟩=some v:=by
  intro b off v hv
  unfold gd at hv
  by_cases hc:(e.E f).ownBlock=some b∧off<cells.length
  ·simp only [hc,and_self,if_true] at hv
   rcases b6.2 with ⟨hE,_⟩|⟨g,cap,dH,hE,_,hg,hn,Bv,pf,ES⟩
   ·rw [hE] at hc;simp [Value.ownBlock] at hc
   ·rw [hE] at hc
    simp only [Value.ownBlock,Option.some.injEq] at hc
    obtain ⟨hb,ho⟩:=hc
    subst hb
    rw [cell_of hg]
    rw [←ES,List.getElem?_take] at hv
    have bj:off<o.xs.length *I.size:=by omega
    simp only [bj,if_true] at hv
    simpa using hv
  ·simp only [hc,if_false] at hv;exact h.gM _ _ _ hv
 have Jl: ∀b off,¬Z b→gd e.φ (e.E f) cells b off=e.φ b off:=by
  intro b off hb
  unfold gd
  by_cases hc:(e.E f).ownBlock=some b∧off<cells.length
  ·by_cases nd:f∈Z.aY
   ·simp only [hc,and_self,if_true]
    exact (((hz b hc.1).2.2 nd (hp.resolve_left (fun hn=>hn nd))) off hc.2).symm
   ·exact absurd (wc (hz b hc.1).1 nd) hb
  ·simp [hc]
 have yo: ∀b off,(e.E f).ownBlock≠some b→gd e.φ (e.E f) cells b off=e.φ b off:=by
  intro b off hb;unfold gd;simp [hb]
 have j0:dZ (fun _=>True) (fun _=>True) e {e with φ:=gd e.φ (e.E f) cells,m:=aM e.m f ⟨o.ty,true,o.xs⟩}:=by
  refine ⟨rfl,hle,fun _ _=>rfl,?_⟩
  intro f2 o2 bj _
  have bj:aj (aM e.m f ⟨o.ty,true,o.xs⟩) f2=some o2:=bj
  rw [au] at bj
  by_cases cq:f2=f
  ·subst cq;simp at bj;subst bj;exact ⟨o,by rw [h.m];exact hf,rfl,rfl⟩
  ·simp only [cq,if_false] at bj;exact ⟨o2,bj,rfl,rfl⟩
 have iV: ∀s:Slot,cA (fun _=>True) (fun _=>True) s:=by
  intro s;cases s<;>simp [cA,du]
 refine ⟨_,hle,Jl,?_,?_,?_⟩
 rotate_right
 ·intro I' Co NC Jm ax hb j hj
  rw [hI] at NC
  cases NC
  have ON:=qB b6 Jm hb
  subst ON
  unfold gd
  simp [hb,hj]
 ·refine ⟨h.defers,h.size,by show aM e.m f _=aM st.ao f _;rw [h.m],h.key,h.nodup,?_,h.root,?_,h.bb,?_,?_,pg,h.aV⟩
  ·intro t
   have hs:=h.slot t
   have ET:=h.bf t
   show aP Z _ w t _ (ae st.fr t)
   generalize ae st.fr t=s at hs ET
   cases s<;>simp only [aP] at hs⊢ <;>try exact hs.on j0 (iV _)
   rename_i cs
   refine ⟨hs.1,hs.2.aV,?_,?_⟩
   ·obtain ⟨o2,h1,h2⟩:=hs.2.obj
    exact ⟨o2,h1,h2.on j0 (fun l _ f _=>trivial)⟩
   ·intro off
    show gd e.φ (e.E f) cells (e.B t) off=none
    rw [yo _ _ (ET cs f o rfl hf)];exact hs.2.free off
  ·intro f2 o2 bj
   have bj:aj (aM st.ao f ⟨o.ty,true,o.xs⟩) f2=some o2:=bj
   rw [au] at bj
   by_cases cq:f2=f
   ·subst cq
    simp at bj
    subst bj
    refine ⟨I,cells,hI,Hl,b6,ia.mono hle,?_⟩
    intro ax hb
    refine ⟨(hz ax hb).1,?_,?_⟩
    rotate_left
    ·intro _ _ j hj
     show gd e.φ (e.E f2) cells ax j=_
     have hb:(e.E f2).ownBlock=some ax:=hb
     unfold gd
     simp [hb,hj]
    intro off u hu
    refine ⟨rfl,?_⟩
    have hu:gd e.φ (e.E f2) cells ax off=some u:=hu
    unfold gd at hu
    by_cases hc:(e.E f2).ownBlock=some ax∧off<cells.length
    ·show off<o.xs.length *I.size;rw [←hlen];exact hc.2
    ·simp only [hc,if_false] at hu;exact ((hz ax hb).2.1 off u hu).2
   ·simp only [cq,if_false] at bj
    obtain ⟨I2,lP,h1,h2,h3,h4,h5⟩:=(h.dA f2 o2 bj).row
    refine ⟨I2,lP,h1,h2,h3,h4.mono hle,?_⟩
    intro ax hb
    refine ⟨(h5 ax hb).1,?_,?_⟩
    rotate_left
    ·intro g1 g2 j hj
     show gd e.φ (e.E f) cells ax j=_
     rw [yo _ _ (fun ET=>cq (h.ff f2 f o2 o ax bj hf hb ET))]
     exact (h5 ax hb).2.2 g1 g2 j hj
    intro off u hu
    have hu:gd e.φ (e.E f) cells ax off=some u:=hu
    rw [yo _ _ (fun ET=>cq (h.ff f2 f o2 o ax bj hf hb ET))] at hu
    exact (h5 ax hb).2.1 off u hu
  ·intro t cs f2 o2 h1 h2
   have h2:aj (aM st.ao f ⟨o.ty,true,o.xs⟩) f2=some o2:=h2
   rw [au] at h2
   by_cases cq:f2=f
   ·subst cq;exact h.bf t cs f2 o h1 hf
   ·simp only [cq,if_false] at h2;exact h.bf t cs f2 o2 h1 h2
  ·intro f1 f2 o1 o2 k h1 h2 h3 h4
   have h1:aj (aM st.ao f ⟨o.ty,true,o.xs⟩) f1=some o1:=h1
   have h2:aj (aM st.ao f ⟨o.ty,true,o.xs⟩) f2=some o2:=h2
   rw [au] at h1 h2
   have g1: ∃o',aj st.ao f1=some o':=by
    by_cases cq:f1=f
    ·subst cq;exact ⟨o,hf⟩
    ·simp only [cq,if_false] at h1;exact ⟨o1,h1⟩
   have g2: ∃o',aj st.ao f2=some o':=by
    by_cases cq:f2=f
    ·subst cq;exact ⟨o,hf⟩
    ·simp only [cq,if_false] at h2;exact ⟨o2,h2⟩
   obtain ⟨q1,g1⟩:=g1
   obtain ⟨q2,g2⟩:=g2
   exact h.ff f1 f2 q1 q2 k g1 g2 h3 h4
 ·have Jn:=ia.mono hle
  rcases b6.2 with ⟨hE,hn⟩|⟨g,cap,dH,hE,_,hg,hn,Bv,pf,ES⟩
  ·have hx:o.xs=[]:=List.eq_nil_of_length_eq_zero hn
   have hv:[e.E f]=[Value.slice none 0 0]:=by rw [hE]
   rw [hv,hx]
   exact .list none 0 [] 0 0 0 (fun _=>[]) (by simp) (by simp) (by simp) (by simp) (by simp)
  ·have hv:[e.E f]=[Value.slice (some ⟨g,0,none⟩) o.xs.length cap]:=by rw [hE]
   rw [hv]
   have Cp: ∀i (hi:i<o.xs.length),∃v1,v1.length=I.size∧eJ e.key (gd e.φ (e.E f) cells) v1 o.xs[i]∧(cells.drop (i *I.size)).take I.size=v1:=by
    intro i hi
    obtain ⟨p1,v1,p2,he,yj,pQ,cL⟩:=Jn.at (List.getElem?_eq_getElem hi)
    refine ⟨v1,pQ,cL,?_⟩
    rw [he,List.append_assoc,←yj,List.drop_left,←pQ,List.take_left]
   refine .list (some ⟨g,0,none⟩) cap o.xs g 0 I.size (fun i=>(cells.drop (i *I.size)).take I.size) hn (fun _=>rfl) ?_ ?_ ?_
   ·intro i hi
    obtain ⟨v1,h1,_,h3⟩:=Cp i hi
    rw [h3,h1]
   ·intro i j hi hj
    have hb:(e.E f).ownBlock=some g:=by rw [hE];rfl
    have rT:i *I.size+j<cells.length:=by
     rw [hlen]
     calc i *I.size+j<i *I.size+I.size:=by omega
      _=(i+1) *I.size:=by rw [Nat.succ_mul]
      _≤o.xs.length *I.size:=Nat.mul_le_mul_right _ hi
    rw [Nat.zero_add]
    unfold gd
    simp only [hb,rT,and_self,if_true]
    rw [List.getElem?_take]
    simp only [hj,if_true,List.getElem?_drop]
   ·intro i hi
    obtain ⟨v1,_,h2,h3⟩:=Cp i hi
    rw [h3];exact h2
end
end Dn
/-
  Arguments and results. Conditions: none.
-/
set_option linter.unusedSimpArgs false
set_option linter.unusedVariables false
namespace Dn
open Go
structure Ext (Z:Nat→Prop) (e e':Env):Prop where
 on:dZ (fun _=>True) (fun _=>True) e e'
 aV: ∀b off,¬Z b→e'.φ b off=e.φ b off
theorem Ext.refl (Z:Nat→Prop) (e:Env):Ext Z e e:=⟨⟨rfl,.refl _,fun _ _=>rfl,fun f o h _=>⟨o,h,rfl,rfl⟩⟩,fun _ _ _=>rfl⟩
theorem Ext.trans {Z:Nat→Prop} {e e' Jo:Env} (h:Ext Z e e') (h':Ext Z e' Jo):Ext Z e Jo:=by
 refine ⟨⟨h'.on.key.trans h.on.key,h.on.φ.trans h'.on.φ,fun r hr=>(h'.on.B r hr).trans (h.on.B r hr),?_⟩,fun b off hb=>(h'.aV b off hb).trans (h.aV b off hb)⟩
 intro f o ho _
 obtain ⟨o1,h1,h2,h3⟩:=h'.on.dA f o ho trivial
 obtain ⟨o2,h4,h5,h6⟩:=h.on.dA f o1 h1 trivial
 exact ⟨o2,h4,h2.trans h5,h3.trans h6⟩
theorem Ext.tr {Z:Nat→Prop} {e e':Env} {w:World} (h:Ext Z e e'):Trans Z e.φ w e'.φ w:=⟨h.on.φ,fun _ _ _=>rfl,h.aV,Nat.le_refl _,.refl _⟩
theorem bK (s:Slot):cA (fun _=>True) (fun _=>True) s:=by cases s<;>simp [cA,du]
def aK (key:Nat→Nat) (φ:Ph):List Value→List MV→Prop
 |vs,[]=>vs=[]
 |vs,m::ms=> ∃v r,vs=v::r∧dt key φ v m∧aK key φ r ms
theorem aK.mono {key:Nat→Nat} {φ φ':Ph} (h:jh φ φ') {ms:List MV}: ∀{vs:List Value},aK key φ vs ms→aK key φ' vs ms:=by
 induction ms with
 |nil=>intro vs hh;exact hh
 |cons m ms ih=>intro vs hh;obtain ⟨v,r,rfl,h1,h2⟩:=hh;exact ⟨v,r,rfl,h1.mono h,ih h2⟩
theorem aK.append {key:Nat→Nat} {φ:Ph} {ms ns:List MV}: ∀{vs us:List Value},aK key φ vs ms→aK key φ us ns→aK key φ (vs++us) (ms++ns):=by
 induction ms with
 |nil=>intro vs us h h';cases h;simpa using h'
 |cons m ms ih=>intro vs us h h';obtain ⟨v,r,rfl,h1,h2⟩:=h;exact ⟨v,r++us,rfl,h1,ih h2 h'⟩
section
variable {P:Program} {c:Ctx} {Z:aJ} {e:Env} {st:St} {a:Act} {w w':World} {R:Type} {r:R} {Q:Exit→Act→World→Prop} {o:Oper}
theorem eL {l:ah} {vs:List Value} {K:MV→St→Option R} (h:aO c Z e st a w) (hl:al e vs l) (hK:fK st l K=some r):
 ∃e' aR m,aO c Z e' aR a w∧Ext Z e e'∧aR.fr=st.fr∧eJ e'.key e'.φ vs m∧K m aR=some r∧(jz l=true→e'=e∧aR=st)∧(∀f,l= .own f→ ∃o,aj st.ao f=some o∧m= .list o.xs)∧((∀x,l≠ .hs x)→m.one=true):=by
 cases l with
 |un=>simp [fK] at hK
 |p m=>exact ⟨e,st,m,h,.refl _ _,rfl,hl.2,hK,fun _=>⟨rfl,rfl⟩,by simp,fun _=>hl.1⟩
 |hs x=>have hl:vs=aD x:=hl;subst hl;exact ⟨e,st,.h x,h,.refl _ _,rfl,.h x,hK,fun _=>⟨rfl,rfl⟩,by simp,fun hx=>absurd rfl (hx x)⟩
 |nil=>
  have hl:vs=[.slice none 0 0]:=hl
  subst hl
  exact ⟨e,st,.list [],h,.refl _ _,rfl,.list none 0 [] 0 0 0 (fun _=>[]) (by simp) (by simp) (by simp) (by simp) (by simp),hK,fun hp=>by simp [jz] at hp,fun _ he=>(by cases he),fun _=>rfl⟩
 |mp s es=>simp [fK] at hK
 |own f=>
  simp only [fK] at hK
  cases hf:aj st.ao f with
  |none=>simp [hf] at hK
  |some o=>
   simp only [hf] at hK
   have nd:f∉Z.aY∨o.bU=true:=by
    cases hz:o.bU with
    |true=>exact .inr rfl
    |false=>
     refine .inl (fun hm=> ?_)
     rw [←h.defers.2.2.1,←aG] at hm
     simp [hz,hm] at hK
   obtain ⟨φ',h1,h2,h3,h4,_⟩:=freeze h hf nd
   obtain ⟨v,rfl,hv,hE⟩:=hl
   have hE:=hE o (by rw [h.m];exact hf)
   subst hE
   have EU:Ext Z e {e with φ:=φ',m:=aM e.m f ⟨o.ty,true,o.xs⟩}:=by
    refine ⟨⟨rfl,h1,fun _ _=>rfl,?_⟩,h2⟩
    intro f2 o2 bj _
    have bj:aj (aM e.m f ⟨o.ty,true,o.xs⟩) f2=some o2:=bj
    rw [au] at bj
    by_cases cq:f2=f
    ·subst cq;simp at bj;subst bj;exact ⟨o,by rw [h.m];exact hf,rfl,rfl⟩
    ·simp only [cq,if_false] at bj;exact ⟨o2,bj,rfl,rfl⟩
   cases hz:o.bU with
   |true=>
    simp only [hz,cond_true] at hK
    have Jp:aM st.ao f ⟨o.ty,true,o.xs⟩=st.ao:=by
     rw [←hz];exact yn hf
    rw [Jp] at h3
    exact ⟨_,st,.list o.xs,h3,EU,rfl,h4,hK,fun hp=>by simp [jz] at hp,fun _ he=>by cases he;exact ⟨o,hf,rfl⟩,fun _=>rfl⟩
   |false=>
    simp only [hz,cond_false] at hK
    cases hn:aB st.aY f with
    |true=>simp [hn] at hK
    |false=>
     simp only [hn,cond_false,fZ] at hK
     exact ⟨_,_,.list o.xs,h3,EU,rfl,h4,hK,fun hp=>by simp [jz] at hp,fun _ he=>by cases he;exact ⟨o,hf,rfl⟩,fun _=>rfl⟩
theorem fq {ls:List ah}: ∀{e:Env} {st:St} {vs:List Value} {K:List MV→St→Option R},aO c Z e st a w→af e vs ls→iw st ls K=some r→
 ∃e' aR ms,aO c Z e' aR a w∧Ext Z e e'∧aR.fr=st.fr∧c7 e'.key e'.φ vs ms∧K ms aR=some r∧(cZ ls=true→e'=e∧aR=st)∧(∀ps,iS ls ms=some ps→af e' vs ps∧cZ ps=true):=by
 induction ls with
 |nil=>intro e st vs K h hl hK;cases hl;exact ⟨e,st,[],h,.refl _ _,rfl,.nil,hK,fun _=>⟨rfl,rfl⟩,fun ps hp=>by simp [iS] at hp;subst hp;exact ⟨rfl,rfl⟩⟩
 |cons l ls ih=>
  intro e st vs K h hl hK
  obtain ⟨v,u,rfl,h1,h2⟩:=hl
  simp only [iw] at hK
  obtain ⟨e1,bw,m,mP,rU,qa,ug,jk,Hm,_,ej⟩:=eL h h1 hK
  obtain ⟨e2,cn,ms,yp,Am,EV,Ab,mD,xS,qc⟩:=ih mP (h2.on rU.on (fun l _ f _=>trivial)) jk
  have OO:eJ e2.key e2.φ v m:=by
   have:=ug.mono Am.on.φ
   rw [←Am.on.key] at this;exact this
  refine ⟨e2,cn,m::ms,yp,rU.trans Am,EV.trans qa,.cons v m u ms ?_ Ab,mD,?_,?_⟩
  ·have:=ug.mono Am.on.φ
   rw [←Am.on.key] at this;exact this
  ·intro hp
   simp only [cZ,Bool.and_eq_true] at hp
   obtain ⟨q1,q2⟩:=Hm hp.1
   obtain ⟨q3,q4⟩:=xS hp.2
   exact ⟨q3.trans q1,q4.trans q2⟩
  ·intro ps hp
   cases hq:iS ls ms with
   |none=>cases l<;>simp [iS,hq] at hp
   |some q=>
    obtain ⟨g1,g2⟩:=qc q hq
    by_cases hh: ∃x,l= .hs x
    ·obtain ⟨x,rfl⟩:=hh
     simp [iS,hq] at hp
     subst hp
     exact ⟨⟨v,u,rfl,h1,g1⟩,by simp [cZ,jz,g2]⟩
    ·have ej:=ej (fun x hx=>hh ⟨x,hx⟩)
     have vp:ps= .p m::q:=by cases l<;>simp [iS,hq] at hp<;>first|exact hp.symm|exact absurd ⟨_,rfl⟩ hh
     subst vp
     exact ⟨⟨v,u,rfl,⟨ej,OO⟩,g1⟩,by simp [cZ,jz,g2]⟩
theorem iA {s:Slot} {v:Value} {K:MV→St→Option R} (h:aO c Z e st a w) (hl:aa e v s) (hK:iR st s K=some r):
 ∃e' aR m,aO c Z e' aR a w∧Ext Z e e'∧aR.fr=st.fr∧dt e'.key e'.φ v m∧K m aR=some r:=by
 cases s with
 |sc l=>
  simp only [iR] at hK
  cases l with
  |un=>simp [fK] at hK
  |hs x=>
   simp only [aa] at hl
   exact ⟨e,st,.h x,h,.refl _ _,rfl,by simpa [dt,aD] using hl,hK⟩
  |p m=>
   simp only [aa] at hl
   refine ⟨e,st,m,h,.refl _ _,rfl,?_,hK⟩
   obtain ⟨h1,h2⟩:=hl
   cases m<;>simp [MV.one] at h1<;>exact ⟨rfl,h2⟩
  |nil=>
   simp only [aa] at hl
   obtain ⟨e',aR,m,q1,q2,q3,q4,q5,q6,_⟩:=eL h hl hK
   have hl:[v]=[Value.slice none 0 0]:=hl
   refine ⟨e,st,.list [],h,.refl _ _,rfl,⟨rfl,?_⟩,hK⟩
   rw [hl]
   exact .list none 0 [] 0 0 0 (fun _=>[]) (by simp) (by simp) (by simp) (by simp) (by simp)
  |mp s es=>simp [fK] at hK
  |own f=>
   simp only [aa] at hl
   simp only [fK] at hK
   cases hf:aj st.ao f with
   |none=>simp [hf] at hK
   |some o=>
    obtain ⟨e',aR,m,q1,q2,q3,q4,q5,q6,q7⟩:=eL (l:= .own f) h hl (by simpa only [fK,hf] using hK)
    obtain ⟨o2,_,rfl⟩:=q7.1 f rfl
    exact ⟨e',aR,.list o2.xs,q1,q2,q3,⟨rfl,q4⟩,q5⟩
 |ag cs=>
  simp only [aa] at hl
  obtain ⟨arr,hv,hl⟩:=hl
  simp only [iR] at hK
  obtain ⟨e',aR,ms,q1,q2,q3,q4,q5,_⟩:=fq h hl hK
  exact ⟨e',aR,.agg ms,q1,q2,q3,⟨arr,hv,q4⟩,q5⟩
 |rp cs off=>
  simp only [aa] at hl
  obtain ⟨ax,q,vs,hv,ji,hp,p9⟩:=hl
  simp only [iR] at hK
  cases hb:Nat.beq off 0 with
  |false=>simp [hb] at hK
  |true=>
   simp only [hb,cond_true] at hK
   have h0:=Nat.eq_of_beq_eq_true hb
   subst h0
   obtain ⟨e',aR,ms,q1,q2,q3,q4,q5,q6⟩:=fq h ji hK
   obtain ⟨rfl,rfl⟩:=q6.1 hp
   refine ⟨e',aR,.rp ms,q1,q2,q3,⟨rfl,?_⟩,q5⟩
   rw [hv]
   exact .rp ax (q+0) vs ms q4 (by simpa using p9)
 |_=>simp [iR] at hK
theorem jm {ss:List Slot}: ∀{e:Env} {st:St} {vs:List Value} {K:List MV→St→Option R},aO c Z e st a w→(∃f:Unit→List Value,f ()=vs∧vs.length=ss.length∧ ∀(i:Nat) (v:Value) (s:Slot),vs[i]? =some v→ss[i]? =some s→aa e v s)→
 lH st ss K=some r→ ∃e' aR ms,aO c Z e' aR a w∧Ext Z e e'∧aR.fr=st.fr∧aK e'.key e'.φ vs ms∧K ms aR=some r:=by
 induction ss with
 |nil=>intro e st vs K h hl hK;obtain ⟨f,_,hlen,_⟩:=hl;have:=List.eq_nil_of_length_eq_zero hlen;subst this;exact ⟨e,st,[],h,.refl _ _,rfl,rfl,hK⟩
 |cons s ss ih=>
  intro e st vs K h hl hK
  obtain ⟨f,_,hlen,cL⟩:=hl
  cases vs with
  |nil=>simp at hlen
  |cons v vs=>
   simp only [lH] at hK
   obtain ⟨e1,bw,m,q1,q2,q3,q4,q5⟩:=iA h (cL 0 v s rfl rfl) hK
   obtain ⟨e2,cn,ms,p1,p2,p3,p4,p5⟩:=ih (vs:=vs) q1 ⟨fun _=>vs,rfl,by simpa using hlen,fun i v s h1 h2=>(cL (i+1) v s (by simpa using h1) (by simpa using h2)).on q2.on (bK s)⟩ q5
   refine ⟨e2,cn,m::ms,p1,q2.trans p2,p3.trans q3,⟨v,vs,rfl,?_,p4⟩,p5⟩
   have:=q4.mono p2.on.φ
   rw [←p2.on.key] at this;exact this
end
end Dn
/-
  Parts of structs, lengths, the least and the greatest, places of elements. Conditions: none.
-/
set_option linter.unusedSimpArgs false
set_option linter.unusedVariables false
namespace Dn
open Go
section
variable {P:Program} {c:Ctx} {Z:aJ} {e:Env} {st:St} {a:Act} {w w':World} {R:Type} {K:St→Option R} {r:R} {Q:Exit→Act→World→Prop} {o:Oper}
theorem uh {t:TypeId} {I:TI} (hr:gU c.ti P t I) (hc:I.a7=[]):
 ((I.st=true∨I.size=32)∧ ∀w:World,(isAgg t).run P w= .ok true w)∨(I.st=false∧I.size=1∧ ∀w:World,(isAgg t).run P w= .ok false w):=by
 rcases hr.agg hc with ⟨d,hu,hd,hh⟩|⟨d,hu,hd,h1,h2⟩
 ·refine .inl ⟨hh.imp id (·.2),fun w=> ?_⟩
  unfold isAgg;rw [Sem.run_bind,run_underlying hu w];cases d<;>simp_all [TypeDesc.isRow]
 ·refine .inr ⟨h1,h2,fun w=> ?_⟩
  unfold isAgg;rw [Sem.run_bind,run_underlying hu w];cases d<;>simp_all [TypeDesc.isRow]
theorem Cq {t:TypeId} {I:TI} {cs:List ah} {off:Nat} {arr:Array Value} {K':Slot→Option R} (hr:gU c.ti P t I) (hc:I.a7=[])
 (hv:af e arr.toList cs) (hK:dX I cs off K'=some r):
 ∃v s,(∀w:World,(Go.part t arr off).run P w= .ok v w)∧aa e v s∧bc st.fr s∧K' s=some r:=by
 obtain ⟨i,hi,hs,_⟩:=hr.info hc
 have ext: ∀v1 v2 v3:List Value,arr.toList=v1++v2++v3→v1.length=off→(arr.extract off (off+v2.length))=v2.toArray:=by
  intro v1 v2 v3 h1 h2
  apply Array.toList_inj.1
  rw [Array.toList_extract,h1,List.extract_eq_take_drop,List.append_assoc,←h2,List.drop_left]
  simp
 unfold dX at hK
 cases cK:I.st with
 |true=>
  simp only [cK,cond_true] at hK
  cases hp:Dn.part cs off I.size with
  |none=>simp [hp] at hK
  |some ds=>
   simp only [hp] at hK
   obtain ⟨v1,v2,v3,h0,h1,h2,h3⟩:=ue hp hv
   rcases uh (P:=P) hr hc with ⟨_,Hg⟩|⟨hf,_⟩
   ·refine ⟨.agg v2.toArray,.ag ds,?_,?_,trivial,hK⟩
    ·have hx:=ext v1 v2 v3 h0 h1
     rw [h2] at hx
     simp [Go.part,Hg,Go.sizeOf,typeInfo,hi,hs,hx]
    ·simp only [aa];exact ⟨_,rfl,by simpa using h3⟩
   ·rw [cK] at hf;cases hf
 |false=>
  simp only [cK,cond_false] at hK
  cases hp:cut cs off with
  |none=>simp [hp] at hK
  |some ds=>
   cases ds with
   |nil=>simp [hp] at hK
   |cons l ls=>
    simp only [hp] at hK
    cases hb:Nat.beq l.w I.size with
    |false=>simp [hb] at hK
    |true=>
     simp only [hb,cond_true] at hK
     have hw:=Nat.eq_of_beq_eq_true hb
     obtain ⟨v1,v2,h0,h1,h2⟩:=mZ hp hv
     obtain ⟨u,u2,rfl,h3,h4⟩:=h2
     have ND:u.length=I.size:=by rw [h3.width,hw]
     rcases uh (P:=P) hr hc with ⟨hh,Hg⟩|⟨_,NE,Hg⟩
     ·refine ⟨.agg u.toArray,.sc l,?_,h3.slot (.inr ⟨rfl,?_⟩),trivial,hK⟩
      ·have hx:=ext v1 u u2 (by rw [h0,List.append_assoc]) h1
       rw [ND] at hx
       simp [Go.part,Hg,Go.sizeOf,typeInfo,hi,hs,hx]
      ·rcases hh with hh|hh
       ·rw [cK] at hh;cases hh
       ·rw [hw,hh]
     ·obtain ⟨v,rfl⟩:=List.length_eq_one_iff.1 (by rw [ND,NE])
      refine ⟨v,.sc l,?_,h3.slot (.inl ⟨rfl,?_⟩),trivial,hK⟩
      ·have:arr[off]? =some v:=by
        have:arr[off]? =arr.toList[off]? :=by simp
        rw [this,h0,List.getElem?_append_right (by omega),h1];simp
       simp [Go.part,Hg,this]
      ·rw [hw,NE]
theorem Hn {t:TypeId} {x:Operand} {f:Nat} {I:TI} (ho:o.op= .field t x f) (hI:c.tv t=some I) (hT:fp P c.ti) (h:aO c Z e st a w)
 (hK:G3 c I f (ai c st x) (fun s=>aw c st o.dst s K)=some r):Rd P c Z K r e a w o (fun _=>True):=by
 obtain ⟨hx,gQ⟩:=h.eval x
 obtain ⟨jF,hc⟩:=aN hI
 obtain ⟨d,i,h1,h2,h3,h4⟩:=hT t I jF
 generalize ai c st x=s at hx hK gQ
 unfold G3 at hK
 split at hK
 ·rename_i q y cs cK hq hy
  simp only [aa] at hx
  obtain ⟨arr,hx,ji⟩:=hx
  cases hJ:c.tv y with
  |none=>simp [hJ] at hK
  |some J=>
   simp only [hJ] at hK
   obtain ⟨KX,Gi⟩:=aN hJ
   obtain ⟨v,s,aX,h5,h6,h7⟩:=Cq (P:=P) (st:=st) (hT y J KX) Gi ji hK
   refine df (v:=v) h ?_ h5 h6 h7
   cases d<;>simp only [jD] at h4
   case struct fs=>
    obtain ⟨_,_,_,Ji,bj,_⟩:=h4
    rw [←Ji,List.getElem?_map] at hq
    rw [←bj,List.getElem?_map] at hy
    cases hf:fs.toList[f]? with
    |none=>simp [hf] at hq
    |some fl=>
     simp [hf] at hq hy
     subst hq;subst hy
     have Gj:fs[f]? =some fl:=by simpa using hf
     simp [execOp,ho,hx,Instr.field,run_underlying h1,Gj,asAgg,aX]
   all_goals (exfalso;simp_all)
 ·simp at hK
theorem TI.gf {I:TI} {t:TypeId} (hr:gU c.ti P t I) (h:I.n5=true):P.underlying t=some (.slice I.elem)∧ ∃E,c.ti I.elem=some E∧E.a7=[]∧0<E.size:=by
 unfold TI.n5 at h
 split at h
 ·rename_i cK hl
  obtain ⟨d,i,h1,h2,h3,h4⟩:=hr
  cases d<;>simp only [jD,hl,cK] at h4<;>first|(exfalso;simp_all;done)|skip
  obtain ⟨_,_,_,rfl,hE,_⟩:=h4
  exact ⟨h1,hE⟩
 ·cases h
theorem TI.rV {I:TI} {t:TypeId} (hr:gU c.ti P t I) (h:I.Bs=true):P.underlying t=some .string:=by
 unfold TI.Bs at h
 split at h
 ·rename_i cK hl
  obtain ⟨d,i,h1,h2,h3,h4⟩:=hr
  cases d<;>simp only [jD,hl,cK] at h4<;>first|(exfalso;simp_all;done)|skip
  exact h1
 ·cases h
theorem rW {v:Value} {xs:List MV} (h:aa e v (.sc (.p (.list xs)))): ∃ad cap,v= .slice ad xs.length cap∧xs.length≤cap:=by
 simp only [aa,al] at h
 obtain ⟨_,h⟩:=h
 generalize hv:[v]=vs at h
 cases h
 exact ⟨_,_,by simpa using hv,by assumption⟩
theorem jn {f:Nat} {w':fX} {v:Value} (h:aO c Z e st a w) (hv:aa e v (.sc (.own f))) (hf:aj st.ao f=some w'):v=e.E f∧ ∃ad cap,v= .slice ad w'.xs.length cap∧w'.xs.length≤cap:=by
 simp only [aa] at hv
 obtain ⟨u,hu,_,hE⟩:=hv
 simp at hu;subst hu
 have hE:=hE w' (by rw [h.m];exact hf)
 refine ⟨hE,?_⟩
 obtain ⟨I,cells,_,_,b6,_⟩:=(h.dA f w' hf).row
 rcases b6.2 with ⟨h1,h2⟩|⟨g,cap,dH,h1,_,_,h2,_⟩
 ·exact ⟨none,0,by rw [hE,h1,h2],by omega⟩
 ·exact ⟨_,cap,by rw [hE,h1],h2⟩
theorem dv {l:List Operand}:dF c st l=l.map (ai c st):=by
 induction l with
 |nil=>rfl
 |cons x r ih=>simp [dF,ih]
theorem Ho {cl:Call} {t:TypeId} {I:TI} (ho:o.op= .call cl) (hb:cl.callee= .builtin .len) (ha:cl.argTypes.toList=[t]) (hI:c.tv t=some I) (hT:fp P c.ti) (h:aO c Z e st a w)
 (hK:BR I st (dF c st cl.args.toList) (fun s=>aw c st o.dst s K)=some r):Rd P c Z K r e a w o (fun _=>True):=by
 obtain ⟨jF,hc⟩:=aN hI
 have hr:=hT t I jF
 have zr:cl.argTypes= #[t]:=by rw [←Array.toList_inj,ha]
 rw [dv] at hK
 have go: ∀x,cl.args.toList=[x]→ ∀n:Nat,(∃b:ByteArray,a.eval x= .string b∧b.size=n∧P.underlying t=some .string)∨(∃ad cap,a.eval x= .slice ad n cap∧ ∃el,P.underlying t=some (.slice el))→
  aw c st o.dst (.sc (.p (.i .i64 n))) K=some r→Rd P c Z K r e a w o (fun _=>True):=by
  intro x hx n wM hK
  have yl:cl.args= #[x]:=by rw [←Array.toList_inj,hx]
  refine df h ?_ (jC .i64 (n:Int)) trivial hK
  rcases wM with ⟨b,h1,h2,h3⟩|⟨ad,cap,h1,el,h3⟩
  ·simp [execOp,ho,resolve,hb,invoke,builtin,Builtin.len_,zr,yl,run_underlying h3,h1,goInt,h2]
  ·simp [execOp,ho,resolve,hb,invoke,builtin,Builtin.len_,zr,yl,run_underlying h3,h1,goInt]
 cases hl:cl.args.toList with
 |nil=>rw [hl] at hK;simp [BR] at hK
 |cons x ys=>
  rw [hl] at hK
  cases ys with
  |cons y zs=>simp only [List.map_cons] at hK;unfold BR at hK;split at hK<;>simp_all
  |nil=>
   simp only [List.map_cons,List.map_nil] at hK
   obtain ⟨hx,_⟩:=h.eval x
   generalize ai c st x=s at hx hK
   unfold BR at hK
   split at hK
   ·rename_i l hs
    simp at hs;subst hs
    cases hS:I.Bs with
    |false=>simp [hS] at hK
    |true=>
     simp only [hS,cond_true] at hK
     obtain ⟨b,rc,rfl⟩:=qA hx
     exact go x hl _ (.inl ⟨b,rc,by show b.data.size=_;exact (Array.length_toList).symm,TI.rV hr hS⟩) hK
   ·rename_i l hs
    simp at hs;subst hs
    cases hS:I.n5 with
    |false=>simp [hS] at hK
    |true=>
     simp only [hS,cond_true] at hK
     obtain ⟨ad,cap,hv,_⟩:=rW hx
     exact go x hl _ (.inr ⟨ad,cap,hv,_,(TI.gf hr hS).1⟩) hK
   ·rename_i hs
    simp at hs;subst hs
    cases hS:I.n5 with
    |false=>simp [hS] at hK
    |true=>
     simp only [hS,cond_true] at hK
     simp only [aa] at hx
     have hx:[a.eval x]=[Value.slice none 0 0]:=hx
     simp at hx
     exact go x hl 0 (.inr ⟨none,0,hx,_,(TI.gf hr hS).1⟩) hK
   ·rename_i f hs
    simp at hs;subst hs
    cases hS:I.n5 with
    |false=>simp [hS] at hK
    |true=>
     simp only [hS,cond_true] at hK
     cases hf:aj st.ao f with
     |none=>simp [hf] at hK
     |some w'=>
      simp only [hf] at hK
      obtain ⟨_,ad,cap,hv,_⟩:=jn h hx hf
      exact go x hl _ (.inr ⟨ad,cap,hv,_,(TI.gf hr hS).1⟩) hK
   ·simp at hK
end
end Dn
/-
  Values as leaves; places of elements; the least and the greatest; parts of slices. Conditions: none.
-/
set_option linter.unusedSimpArgs false
set_option linter.unusedVariables false
namespace Dn
open Go
section
variable {P:Program} {c:Ctx} {Z:aJ} {e:Env} {st:St} {a:Act} {w w':World} {R:Type} {K:St→Option R} {r:R} {Q:Exit→Act→World→Prop} {o:Oper}
structure Gl (e:Env) (k:Kd) (vs:List Value) (m:MV) (l:ah):Prop where
 Jq:eJ e.key e.φ vs m→al e vs l
 Bz:jz l=true
 mv:aF [l]=some [m]
 one: ∀m',l= .p m'→m'.one=true
 wid:l.w=rb [k]
theorem fM {k:Kd} {m:MV} {vs:List Value} {K':ah→Option R} (hK:dL k m K'=some r): ∃l,Gl e k vs m l∧K' l=some r:=by
 have mk: ∀m:MV,m.one=true→(rb [k]=1)→K' (.p m)=some r→ ∃l,Gl e k vs m l∧K' l=some r:=
  fun m h1 h2 h3=>⟨.p m,⟨fun h=>⟨h1,h⟩,rfl,rfl,fun m' e=>by cases e;exact h1,h2.symm⟩,h3⟩
 cases k with
 |b=>unfold dL gB at hK;cases m<;>simp at hK;exact mk _ rfl rfl hK
 |s=>unfold dL gS at hK;cases m<;>simp at hK;exact mk _ rfl rfl hK
 |l=>unfold dL gL at hK;cases m<;>simp at hK;exact mk _ rfl rfl hK
 |i k=>
  unfold dL gI at hK;cases m<;>simp at hK
  rename_i k' n
  by_cases hk:k'=k
  ·subst hk;simp at hK;exact mk _ rfl rfl hK
  ·simp [hk] at hK
 |h=>
  unfold dL gH at hK;cases m<;>simp at hK
  rename_i x
  refine ⟨.hs x,⟨?_,rfl,rfl,by simp,rfl⟩,hK⟩
  intro h;cases h;rfl
 |raw=>unfold dL gR at hK;cases m<;>simp at hK<;>exact mk _ rfl rfl hK
theorem n9 {l:ah} {ls:List ah} {m:MV} {ms:List MV} (h1:aF [l]=some [m]) (h2:aF ls=some ms):aF (l::ls)=some (m::ms):=by
 cases l<;>simp [aF] at h1⊢ <;>simp [h2,h1]
structure EW (e:Env) (ks:List Kd) (vs:List Value) (ms:List MV) (ls:List ah):Prop where
 Jq:c7 e.key e.φ vs ms→af e vs ls
 Bz:cZ ls=true
 mv:aF ls=some ms
 one: ∀m',ah.p m'∈ls→m'.one=true
 wid:mS ls=rb ks
theorem An (k:Kd) (ks:List Kd):rb (k::ks)=rb [k]+rb ks:=by cases k<;>simp [rb]
theorem lQ {ks:List Kd}: ∀{ms:List MV} {vs:List Value} {K':List ah→Option R},kg ks ms K'=some r→ ∃ls,EW e ks vs ms ls∧K' ls=some r:=by
 induction ks with
 |nil=>
  intro ms vs K' hK
  cases ms with
  |nil=>exact ⟨[],⟨fun h=>by cases h;rfl,rfl,rfl,by simp,rfl⟩,hK⟩
  |cons m ms=>simp [kg,gN] at hK
 |cons k ks ih=>
  intro ms vs K' hK
  cases ms with
  |nil=>simp [kg,gC] at hK
  |cons m ms=>
   simp only [kg,gC] at hK
   have h1:=fun vs=>fM (e:=e) (vs:=vs) hK
   obtain ⟨l,hl,jk⟩:=h1 []
   obtain ⟨ls,tl,mD⟩:=ih (vs:=[]) jk
   refine ⟨l::ls,⟨?_,?_,n9 hl.mv tl.mv,?_,?_⟩,mD⟩
   ·intro h
    have g:af e vs (l::ls):=by
     apply h.leaves (n9 hl.mv tl.mv)
     intro m' hm
     rcases List.mem_cons.1 hm with hm|hm
     ·exact hl.one m' hm.symm
     ·exact tl.one m' hm
    exact g
   ·simp [cZ,hl.Bz,tl.Bz]
   ·intro m' hm
    rcases List.mem_cons.1 hm with hm|hm
    ·exact hl.one m' hm.symm
    ·exact tl.one m' hm
   ·rw [An,←hl.wid,←tl.wid];rfl
theorem EX {t:TypeId} {I:TI} (hr:gU c.ti P t I) (hc:I.a7=[]):rb I.lay=I.size:=by
 obtain ⟨d,i,h1,h2,h3,h4⟩:=hr
 cases d<;>simp only [jD] at h4
 case struct fs=>exact h4.2.2.1.2
 case tuple ts=>exact absurd hc h4.2.1
 case slice el=>obtain ⟨_,_,hs,_,_,_,_,k,hl,rfl⟩:=h4;rw [hl,hs];rfl
 case array n el=>obtain ⟨_,_,hs,_,_,_,hl,_⟩:=h4;rw [hl,hs];rfl
 all_goals (obtain ⟨_,_,hs,hl,_⟩:=h4;rw [hl,hs];rfl)
theorem qC {E:TI} {t:TypeId} {x:MV} {K':List ah→Option R} (hr:gU c.ti P t E) (hc:E.a7=[]) (hK:u6 E x K'=some r):
 ∃cs,rL E.st x cs∧cZ cs=true∧mS cs=E.size∧K' cs=some r:=by
 have NF:=EX hr hc
 unfold u6 at hK
 cases cK:E.st with
 |true=>
  simp only [cK,cond_true] at hK
  unfold gA at hK
  split at hK
  ·rename_i ms
   obtain ⟨ls,tl,jk⟩:=lQ (e:=⟨fun n=>n,fun _ _=>none,fun _=>undef,fun _=>0,[]⟩) (vs:=[]) hK
   exact ⟨ls,⟨⟨ms,tl.mv,by simp [kG]⟩,tl.one⟩,tl.Bz,by rw [tl.wid,NF],jk⟩
  ·simp at hK
 |false=>
  simp only [cK,cond_false] at hK
  split at hK
  ·rename_i k hl
   obtain ⟨l,pQ,jk⟩:=fM (e:=⟨fun n=>n,fun _ _=>none,fun _=>undef,fun _=>0,[]⟩) (vs:=[]) hK
   refine ⟨[l],⟨⟨[x],pQ.mv,by simp [kG]⟩,?_⟩,by simp [cZ,pQ.Bz],?_,jk⟩
   ·intro m hm;simp at hm;exact pQ.one m hm.symm
   ·rw [←NF,hl,←pQ.wid];rfl
  ·simp at hK
theorem Hp {t:TypeId} {x y:Operand} {I E:TI} (ho:o.op= .indexAddr t x y) (hI:c.tv t=some I) (hE:c.tv I.elem=some E) (hT:fp P c.ti) (h:aO c Z e st a w)
 (hK:G4 c st I E (ai c st x) (ai c st y) (fun s=>aw c st o.dst s K)=some r):Rd P c Z K r e a w o (fun _=>True):=by
 obtain ⟨hx,gQ⟩:=h.eval x
 obtain ⟨hy,_⟩:=h.eval y
 obtain ⟨jF,hc⟩:=aN hI
 obtain ⟨nX,oX⟩:=aN hE
 have hr:=hT t I jF
 have LF:=hT _ E nX
 obtain ⟨iE,Jr,Js,_⟩:=LF.info oX
 have run: ∀k n ax off len cap,P.underlying t=some (.slice I.elem)→a.eval y= .int k n→a.eval x= .slice (some ⟨ax,off,none⟩) len cap→0≤n→n.toNat<len→
  ∀w:World,(execOp a.eval o).run P w= .ok (.value (.pointer (some ⟨ax,off+n.toNat *E.size,none⟩))) w:=by
  intro k n ax off len cap hu hy hx h0 h1 w
  have h2:n<(len:Int):=by omega
  simp [execOp,ho,hx,hy,Instr.indexAt,asIntOf,run_underlying hu,h0,h2,Go.sizeOf,typeInfo,Jr,Js,Addr.add_mid]
 generalize ai c st x=sx at hx hK gQ
 generalize ai c st y=sy at hy hK
 unfold G4 at hK
 split at hK
 ·rename_i xs k n
  cases hL:I.n5 with
  |false=>simp [hL] at hK
  |true=>
   simp only [hL,cond_true] at hK
   obtain ⟨h0,m,hm,hK⟩:=wJ hK
   obtain ⟨cs,h1,h2,h3,hK⟩:=qC LF oX hK
   have dJ:n.toNat<xs.length:=(List.getElem?_eq_some_iff.1 hm).1
   simp only [aa,al] at hx
   obtain ⟨_,hx⟩:=hx
   generalize hv:[a.eval x]=vs at hx
   cases hx with
   |list ad cap _ ax off wE f g1 g2 g3 g4 g5=>
   simp at hv
   have cL:=g5 n.toNat dJ
   rw [(List.getElem?_eq_some_iff.1 hm).2] at cL
   have ji:=cL.rQ h1
   have IE:wE=E.size:=by rw [←h3,←ji.width,g3 _ dJ]
   rw [g2 (by omega)] at hv
   refine df (s:= .rp cs 0) h (run k n ax off _ cap (TI.gf hr hL).1 (ey hy) hv h0 dJ) ?_ trivial hK
   simp only [aa]
   refine ⟨ax,off+n.toNat *E.size,f n.toNat,rfl,ji,h2,?_⟩
   intro j hj
   rw [g3 _ dJ] at hj
   rw [←IE];exact g4 n.toNat j dJ hj
 ·rename_i f k n
  cases hf:aj st.ao f with
  |none=>simp [hf] at hK
  |some fo=>
   simp only [hf] at hK
   cases hL:I.n5 with
   |false=>simp [hL] at hK
   |true=>
    simp only [hL,cond_true] at hK
    obtain ⟨h0,m,hm,hK⟩:=wJ hK
    obtain ⟨cs,h1,h2,h3,hK⟩:=qC LF oX hK
    have dJ:n.toNat<fo.xs.length:=(List.getElem?_eq_some_iff.1 hm).1
    obtain ⟨hv,_⟩:=jn h hx hf
    obtain ⟨J,cells,_,_,b6,_⟩:=(h.dA f fo hf).row
    rcases b6.2 with ⟨h5,h6⟩|⟨g,cap,dH,h5,_⟩
    ·omega
    ·rw [h5] at hv
     refine df (s:= .ep f n.toNat 0 E.st cs) h (run k n g 0 _ cap (TI.gf hr hL).1 (ey hy) hv h0 dJ) ?_ trivial hK
     simp only [aa]
     intro o2 bj
     rw [h.m,hf] at bj
     cases bj
     exact ⟨g,cap,h5,⟨m,hm,h1⟩,by rw [h3,Nat.zero_add,Nat.add_zero]⟩
 ·rename_i r' o' k n
  cases cK:I.st with
  |true=>simp [cK] at hK
  |false=>
   simp only [cK,cond_false] at hK
   split at hK
   ·rename_i hl
    obtain ⟨xT,hK⟩:=bJ hK
    obtain ⟨h0,h1⟩:=of_decide_eq_true xT
    obtain ⟨d,i,hu,h2,h3,h4⟩:=hr
    cases d<;>simp only [jD,hl,cK] at h4<;>first|(exfalso;simp_all;done)|skip
    obtain ⟨_,_,_,rfl,_,⟨ie,Gm,Jh,mP⟩,_⟩:=h4
    simp only [aa] at hx
    refine df (s:= .hp r' o' n.toNat) (v:= .pointer (some ⟨e.B r',o'+n.toNat,none⟩)) h ?_ ?_ gQ hK
    ·simp [execOp,ho,hx,ey hy,Instr.indexAt,asIntOf,run_underlying hu,h0,h1,Go.sizeOf,typeInfo,Jh,mP,Instr.sureAddr,Addr.add_mid]
    ·simp only [aa];exact ⟨trivial,by omega⟩
   ·simp at hK
 ·simp at hK
theorem Ao {mx:Bool} {k:IntKind} {ss:List Slot}: ∀{vs:List Value} {n:Int} {m:MV},BL mx k n ss=some m→vs.length=ss.length→
 (∀(i:Nat) (v:Value) (s:Slot),vs[i]? =some v→ss[i]? =some s→aa e v s)→
 ∃v,(∀w:World,(vs.foldlM (if mx then Builtin.max2 else Builtin.min2) (.int k n)).run P w= .ok v w)∧aa e v (.sc (.p m)):=by
 induction ss with
 |nil=>
  intro vs n m hm hl hs
  have:=List.eq_nil_of_length_eq_zero hl
  subst this
  simp [BL] at hm
  subst hm
  exact ⟨.int k n,by simp,jC k n⟩
 |cons s ss ih=>
  intro vs n m hm hl hs
  cases vs with
  |nil=>simp at hl
  |cons v vs=>
   have h0:=hs 0 v s rfl rfl
   unfold BL at hm
   split at hm
   ·rename_i ei;simp at ei
   ·rename_i k' y r' ei
    simp at ei
    obtain ⟨rfl,rfl⟩:=ei
    by_cases hk:k'=k
    ·subst hk
     simp only [decide_true,cond_true] at hm
     obtain ⟨u,h1,h2⟩:=ih hm (by simpa using hl) (fun i v s h1 h2=>hs (i+1) v s (by simpa using h1) (by simpa using h2))
     refine ⟨u,fun w=> ?_,h2⟩
     have h1:=h1 w
     rw [ey h0]
     cases mx
     ·simp only [cond_false,I5] at h1
      simp [Builtin.min2] at h1⊢
      exact h1
     ·simp only [cond_true,imax] at h1
      simp [Builtin.max2] at h1⊢
      exact h1
    ·simp [hk] at hm
   ·simp at hm
theorem ui {cl:Call} {mx:Bool} {m:MV} (ho:o.op= .call cl) (hb:cl.callee= .builtin (if mx then .max else .min)) (h:aO c Z e st a w)
 (hm:xW mx (dF c st cl.args.toList)=some m) (hK:aw c st o.dst (.sc (.p m)) K=some r):Rd P c Z K r e a w o (fun _=>True):=by
 rw [dv] at hm
 cases hl:cl.args.toList with
 |nil=>rw [hl] at hm;simp [xW] at hm
 |cons x xs=>
  rw [hl] at hm
  simp only [List.map_cons] at hm
  obtain ⟨hx,_⟩:=h.eval x
  generalize ai c st x=s at hx hm
  unfold xW at hm
  split at hm
  ·rename_i k n ss ei
   simp at ei
   obtain ⟨rfl,rfl⟩:=ei
   obtain ⟨v,h1,h2⟩:=Ao (e:=e) (P:=P) (vs:=xs.map a.eval) hm (by simp) (by
    intro i v s h1 h2
    simp only [List.getElem?_map,Option.map_eq_some_iff] at h1 h2
    obtain ⟨y,h3,rfl⟩:=h1
    obtain ⟨y',h4,rfl⟩:=h2
    rw [h3] at h4;cases h4
    exact (h.eval y).1)
   have ea:(cl.args.map a.eval).toList= .int k n::xs.map a.eval:=by simp [hl,ey hx]
   refine df (v:=v) h ?_ h2 trivial hK
   intro w
   have h1:=h1 w
   cases mx
   ·simp at hb h1
    have Cr: ∀ts t,(Builtin.min_ ts t (cl.args.map a.eval)).run P w= .ok v w:=by intro ts t;unfold Builtin.min_;rw [ea];exact h1
    simp [execOp,ho,resolve,hb,invoke,builtin,Cr]
   ·simp at hb h1
    have Cr: ∀ts t,(Builtin.max_ ts t (cl.args.map a.eval)).run P w= .ok v w:=by intro ts t;unfold Builtin.max_;rw [ea];exact h1
    simp [execOp,ho,resolve,hb,invoke,builtin,Cr]
  ·simp at hm
end
end Dn
/-
  Parts of slices and texts. Conditions: none.
-/
set_option linter.unusedSimpArgs false
set_option linter.unusedVariables false
namespace Dn
open Go
section
variable {P:Program} {c:Ctx} {Z:aJ} {e:Env} {st:St} {a:Act} {w w':World} {R:Type} {K:St→Option R} {r:R} {Q:Exit→Act→World→Prop} {o:Oper}
theorem lR {b:Bool} {lo hi:Option Operand} {len cap:Nat} {K':Nat→Nat→Option R} (h:aO c Z e st a w) (pi:len≤cap) (hK:sliceB (eW c st lo) (eW c st hi) len K'=some r):
 ∃l h',l≤h'∧h'≤len∧(lo=none→l=0)∧(∀w:World,(Instr.sliceBounds b len cap (lo.map a.eval) (hi.map a.eval) none).run P w= .ok (l,h',cap) w)∧K' l h'=some r:=by
 have Hq: ∀(k:IntKind) (n:Int) (y:Nat) (cd:BoundsCode),0≤n→n≤(y:Int)→ ∀w:World,(Instr.sliceBound (.int k n) y cd).run P w= .ok n.toNat w:=by
  intro k n y cd h1 h2 w
  simp [Instr.sliceBound,asIntOf,h1,h2]
 unfold sliceB at hK
 cases lo with
 |none=>
  cases hi with
  |none=>
   simp only [eW] at hK
   exact ⟨0,len,by omega,by omega,fun _=>rfl,by simp [Instr.sliceBounds],hK⟩
  |some y=>
   obtain ⟨hy,_⟩:=h.eval y
   simp only [eW] at hK
   generalize ai c st y=sy at hy hK
   split at hK<;>first|(simp_all;done)|skip
   ·rename_i k n h1 h2
    simp at h2;subst h2
    obtain ⟨xT,hK⟩:=bJ hK
    obtain ⟨h3,h4,h5⟩:=of_decide_eq_true xT
    refine ⟨0,n.toNat,by omega,by omega,fun _=>rfl,?_,hK⟩
    have:=Hq k n cap (if b then .sliceAcap else .sliceAlen) h4 (by omega)
    cases b<;>simp at this<;>simp [Instr.sliceBounds,ey hy,this]
 |some x=>
  obtain ⟨hx,_⟩:=h.eval x
  cases hi with
  |none=>
   simp only [eW] at hK
   generalize ai c st x=sx at hx hK
   split at hK<;>first|(simp_all;done)|skip
   ·rename_i k n h1 h2
    simp at h1;subst h1
    obtain ⟨xT,hK⟩:=bJ hK
    obtain ⟨h3,h4,h5⟩:=of_decide_eq_true xT
    refine ⟨n.toNat,len,by omega,by omega,by simp,?_,by simpa using hK⟩
    have:=Hq k n len .sliceB h3 h4
    simp [Instr.sliceBounds,ey hx,this]
  |some y=>
   obtain ⟨hy,_⟩:=h.eval y
   simp only [eW] at hK
   generalize ai c st x=sx at hx hK
   generalize ai c st y=sy at hy hK
   split at hK<;>first|(simp_all;done)|skip
   ·rename_i k n k' n' h1 h2
    simp at h1 h2;subst h1;subst h2
    obtain ⟨xT,hK⟩:=bJ hK
    obtain ⟨h3,h4,h5⟩:=of_decide_eq_true xT
    refine ⟨n.toNat,n'.toNat,by omega,by omega,by simp,?_,hK⟩
    have t1:=Hq k' n' cap (if b then .sliceAcap else .sliceAlen) (by omega) (by omega)
    have t2:=Hq k n n'.toNat .sliceB h3 (by omega)
    cases b<;>simp at t1<;>simp [Instr.sliceBounds,ey hx,ey hy,t1,t2]
theorem eJ.sub {key:Nat→Nat} {φ:Ph} {ad:Option Addr} {len cap:Nat} {xs:List MV} {l h' size:Nat} (hv:eJ key φ [.slice ad len cap] (.list xs)) (hl:l≤h') (hh:h'≤xs.length)
 (hw:l≠0→ ∀x∈xs,x.w=size):len=xs.length∧len≤cap∧eJ key φ [.slice (if cap=l then ad else ad.map (·.add (l *size))) (h'-l) (cap-l)] (.list ((xs.take h').drop l)):=by
 generalize oW:[Value.slice ad len cap]=vs at hv
 cases hv with
 |list NG Hk _ ax off wE f g1 g2 g3 g4 g5=>
 simp at oW
 obtain ⟨rfl,rfl,rfl⟩:=oW
 refine ⟨rfl,g1,?_⟩
 have hlen:((xs.take h').drop l).length=h'-l:=by simp;omega
 have Jt:eJ key φ [.slice (if cap=l then ad else ad.map (·.add (l *size))) ((xs.take h').drop l).length (cap-l)] (.list ((xs.take h').drop l)):=by
  have fT: ∀i,i<((xs.take h').drop l).length→i+l<xs.length:=by intro i hi;omega
  have ID: ∀(i:Nat) (hi:i<((xs.take h').drop l).length),((xs.take h').drop l)[i]=xs[i+l]'(fT i hi):=by
   intro i hi
   simp [Nat.add_comm]
  refine .list _ _ _ ax (off+l *wE) wE (fun i=>f (i+l)) (by rw [hlen];omega) ?_ ?_ ?_ ?_
  ·intro h0
   have b7:cap≠l:=by omega
   have EY:0<xs.length:=by omega
   rw [g2 EY]
   simp only [b7,if_false,Option.map_some,Option.some.injEq]
   by_cases KY:l=0
   ·subst KY;simp [Addr.add_mid]
   ·have IE:wE=size:=by
     have h3:=g5 0 EY
     rw [←g3 0 EY,h3.width]
     exact hw KY _ (List.getElem_mem EY)
    rw [IE,Addr.add_mid]
  ·intro i hi;exact g3 _ (fT i hi)
  ·intro i j hi hj
   have:=g4 (i+l) j (fT i hi) hj
   rw [←this]
   congr 1
   rw [Nat.add_mul];omega
  ·intro i hi
   rw [ID i hi]
   exact g5 (i+l) (fT i hi)
 rw [hlen] at Jt
 exact Jt
theorem rX {n:Nat} {l:List MV} (h:o4 n l=true): ∀x∈l,x.w=n:=by
 intro x hx
 unfold o4 at h
 rw [List.all_eq_true] at h
 exact Nat.eq_of_beq_eq_true (h x hx)
theorem az.o4 {key:Nat→Nat} {φ:Ph} {size:Nat} {xs:List MV}: ∀{cs:List Value},az key φ size cs xs→ ∀x∈xs,x.w=size:=by
 induction xs with
 |nil=>intro cs _ x hx;simp at hx
 |cons y ys ih=>
  intro cs h x hx
  obtain ⟨v,q,rfl,h1,h2,h3⟩:=h
  rcases List.mem_cons.1 hx with rfl|hx
  ·rw [←h2.width,h1]
  ·exact ih h3 x hx
theorem Cs {t:TypeId} {x:Operand} {lo hi:Option Operand} {I:TI} (ho:o.op= .slice t x lo hi none) (hI:c.tv t=some I) (hT:fp P c.ti) (h:aO c Z e st a w)
 (hK:xX c I st (ai c st x) (eW c st lo) (eW c st hi) (fun s st=>aw c st o.dst s K)=some r):Rd P c Z K r e a w o (fun _=>True):=by
 obtain ⟨hx,gQ⟩:=h.eval x
 obtain ⟨jF,hc⟩:=aN hI
 have hr:=hT t I jF
 have run: ∀{el E},P.underlying t=some (.slice el)→c.ti el=some E→E.a7=[]→ ∀ad len cap l h',a.eval x= .slice ad len cap→(∀w:World,(Instr.sliceBounds true len cap (lo.map a.eval) (hi.map a.eval) none).run P w= .ok (l,h',cap) w)→
  ∀w:World,(execOp a.eval o).run P w= .ok (.value (.slice (if cap=l then ad else ad.map (·.add (l *E.size))) (h'-l) (cap-l))) w:=by
  intro el E hu hE oX ad len cap l h' hv hb w
  obtain ⟨iE,Jr,Js,_⟩:=(hT _ E hE).info oX
  simp [execOp,ho,Instr.sliceAt,Instr.slice,run_underlying hu,hv,hb,Go.sizeOf,typeInfo,Jr,Js]
 generalize hs:ai c st x=s at hx hK gQ
 unfold xX at hK
 split at hK
 ·rename_i bs
  cases hS:I.Bs with
  |false=>simp [hS] at hK
  |true=>
   simp only [hS,cond_true] at hK
   have hu:=TI.rV hr hS
   obtain ⟨b,hb,rfl⟩:=qA hx
   have jZ:b.data.toList.length=b.size:=by rw [Array.length_toList];rfl
   rw [jZ] at hK
   obtain ⟨l,h',h1,h2,_,h3,hK⟩:=lR (P:=P) (b:=false) (cap:=b.size) h (Nat.le_refl _) hK
   refine df (s:= .sc (.p (.s ((b.data.toList.take h').drop l)))) (v:= .string (b.extract l h')) h ?_ ?_ trivial hK
   ·simp [execOp,ho,Instr.sliceAt,Instr.slice,run_underlying hu,hb,h3]
   ·have:=EI (e:=e) (b.extract l h')
    have h5:(b.extract l h').data.toList=(b.data.toList.take h').drop l:=by
     rw [ByteArray.data_extract,Array.toList_extract,List.extract_eq_take_drop,List.drop_take]
    rwa [h5] at this
 ·rename_i xs
  cases hS:I.n5 with
  |false=>simp [hS] at hK
  |true=>
   simp only [hS,cond_true] at hK
   obtain ⟨hu,_⟩:=TI.gf hr hS
   cases hE:c.tv I.elem with
   |none=>simp [hE] at hK
   |some E=>
    simp only [hE] at hK
    obtain ⟨nX,oX⟩:=aN hE
    have mD:(lo≠none→o4 E.size xs=true)∧sliceB (eW c st lo) (eW c st hi) xs.length (fun l h'=>aw c st o.dst (.sc (.p (.list ((xs.take h').drop l)))) K)=some r:=by
     cases lo with
     |none=>exact ⟨by simp,hK⟩
     |some y=>simp only [eW] at hK⊢;obtain ⟨h1,h2⟩:=bJ hK;exact ⟨fun _=>h1,h2⟩
    obtain ⟨hw,hK⟩:=mD
    obtain ⟨ad,cap,hv,pi⟩:=rW hx
    obtain ⟨l,h',h1,h2,h0,h3,hK⟩:=lR (P:=P) (b:=true) (cap:=cap) h pi hK
    simp only [aa,al] at hx
    rw [hv] at hx
    obtain ⟨_,_,cL⟩:=eJ.sub (size:=E.size) hx.2 h1 h2 (fun hl=>rX (hw (fun hn=>hl (h0 hn))))
    refine df (s:= .sc (.p (.list ((xs.take h').drop l)))) h (run hu nX oX ad _ cap l h' hv h3) ?_ trivial hK
    simp only [aa,al]
    exact ⟨rfl,cL⟩
 ·rename_i f
  cases hf:aj st.ao f with
  |none=>simp [hf] at hK
  |some fo=>
   simp only [hf] at hK
   cases hS:I.n5&&Nat.beq fo.ty I.elem with
   |false=>simp [hS] at hK
   |true=>
    simp only [hS,cond_true] at hK
    simp only [Bool.and_eq_true] at hS
    obtain ⟨hu,E,nX,oX,_⟩:=TI.gf hr hS.1
    have dg:=Nat.eq_of_beq_eq_true hS.2
    obtain ⟨QL,ad,cap,hv,pi⟩:=jn h hx hf
    simp only [aa] at hx
    obtain ⟨J,cells,hJ,_,_,ia,_⟩:=(h.dA f fo hf).row
    rw [dg,nX] at hJ
    cases hJ
    have OP:=ia.o4
    obtain ⟨e',aR,m,oY,EU,tx,cL,hK,_,hm⟩:=eL h hx hK
    obtain ⟨o2,bj,rfl⟩:=hm.1 f rfl
    rw [hf] at bj
    cases bj
    obtain ⟨l,h',h1,h2,h0,h3,hK⟩:=lR (P:=P) (b:=true) (cap:=cap) h pi hK
    rw [hv] at cL
    obtain ⟨_,_,cL⟩:=eJ.sub (size:=E.size) cL h1 h2 (fun _=>OP)
    refine yh (s:= .sc (.p (.list ((fo.xs.take h').drop l)))) (fun w _=>run hu nX oX ad _ cap l h' hv h3 w) oY EU.tr (.of ?_ trivial) hK
    simp only [aa,al]
    exact ⟨rfl,cL⟩
 ·cases hS:I.n5 with
  |false=>simp [hS] at hK
  |true=>
   simp only [hS,cond_true] at hK
   obtain ⟨hu,E,nX,oX,_⟩:=TI.gf hr hS
   simp only [aa] at hx
   have hx:[a.eval x]=[Value.slice none 0 0]:=hx
   simp at hx
   obtain ⟨l,h',h1,h2,_,h3,hK⟩:=lR (P:=P) (b:=true) (cap:=0) h (Nat.le_refl _) hK
   have h4:h'=0:=by omega
   have h5:l=0:=by omega
   subst h4;subst h5
   refine df (s:= .sc .nil) h (run hu nX oX none 0 0 0 0 hx h3) ?_ trivial hK
   simp only [aa,if_true]
   rfl
 ·simp at hK
theorem EZ {t:TypeId} {x y z:Operand} {I:TI} (ho:o.op= .slice t x none (some y) (some z)) (hI:c.tv t=some I) (hT:fp P c.ti) (h:aO c Z e st a w)
 (hK:BP I (ai c st x) (ai c st y) (ai c st z) (fun s=>aw c st o.dst s K)=some r):Rd P c Z K r e a w o (fun _=>True):=by
 obtain ⟨hx,gQ⟩:=h.eval x
 obtain ⟨hy,_⟩:=h.eval y
 obtain ⟨hz,_⟩:=h.eval z
 obtain ⟨jF,hc⟩:=aN hI
 have hr:=hT t I jF
 generalize ai c st x=s at hx hK gQ
 generalize ai c st y=s2 at hy hK
 generalize ai c st z=s3 at hz hK
 unfold BP at hK
 split at hK
 ·rename_i l n n'
  cases hS:I.n5 with
  |false=>simp [hS] at hK
  |true=>
   simp only [hS,cond_true] at hK
   obtain ⟨xT,mD⟩:=bJ hK
   obtain ⟨rfl,rfl⟩:=of_decide_eq_true xT
   obtain ⟨hu,E,nX,oX,_⟩:=TI.gf hr hS
   obtain ⟨iE,Jr,Js,_⟩:=(hT _ E nX).info oX
   obtain ⟨ad,cap,hv,pi⟩:=rW hx
   simp only [aa,al] at hx
   rw [hv] at hx
   have Hq: ∀(m:Nat) (cd:BoundsCode),l.length≤m→ ∀w:World,(Instr.sliceBound (.int .i64 (l.length:Int)) m cd).run P w= .ok l.length w:=by
    intro m cd hm w
    have:(l.length:Int)≤(m:Int):=by omega
    simp [Instr.sliceBound,asIntOf,this]
   have hb: ∀w:World,(Instr.sliceBounds true l.length cap none (some (.int .i64 (l.length:Int))) (some (.int .i64 (l.length:Int)))).run P w= .ok (0,l.length,l.length) w:=by
    intro w
    have b1:=Hq cap .slice3Acap pi
    have b2:=Hq l.length .slice3B (Nat.le_refl _)
    simp [Instr.sliceBounds,b1,b2]
   have cL:eJ e.key e.φ [.slice ad l.length l.length] (.list l):=by
    have h2:=hx.2
    generalize oW:[Value.slice ad l.length cap]=vs at h2
    cases h2 with
    |list NG Hk _ ax off wE f g1 g2 g3 g4 g5=>
    simp at oW
    obtain ⟨rfl,_⟩:=oW
    exact .list _ _ _ ax off wE f (Nat.le_refl _) g2 g3 g4 g5
   refine df (s:= .sc (.p (.clip l))) (v:= .slice ad l.length l.length) h (fun w=> ?_) ?_ trivial mD
   ·simp [execOp,ho,Instr.sliceAt,Instr.slice,run_underlying hu,hv,ey hy,ey hz,hb,Go.sizeOf,typeInfo,Jr,Js]
    intro b7
    cases ad with
    |none=>rfl
    |some b=>simp [Addr.add]
   ·simp only [aa,al]
    exact ⟨rfl,.clip _ _ cL⟩
 ·simp at hK
end
end Dn
/-
  Stores. Conditions: none.
-/
set_option linter.unusedSimpArgs false
set_option linter.unusedVariables false
namespace Dn
open Go
section
variable {P:Program} {c:Ctx} {Z:aJ} {e e':Env} {st:St} {a:Act} {w w':World} {R:Type} {K:St→Option R} {r:R} {Q:Exit→Act→World→Prop} {o:Oper}
theorem rY (x:dW) (i:Nat) (b:UInt8) (hi:i<32):aD (x.put i b)=(aD x).take i++[.int .u8 (b.toNat:Int)]++(aD x).drop (i+1):=by
 have:aD (x.put i b)=(aD x).set i (.int .u8 (b.toNat:Int)):=by simp [aD,dW.put,List.map_set]
 have hl:=bo x
 rw [this,List.set_eq_take_append_cons_drop,if_pos (by omega)]
 simp
structure Ct (e e':Env):Prop where
 key:e'.key=e.key
 φ:jh e.φ e'.φ
 dA: ∀f o',aj e'.m f=some o'→(∃o,aj e.m f=some o)∧e'.E f=e.E f
theorem al.BA (h:Ct e e') {vs:List Value} {l:ah} (hr:al e vs l):al e' vs l:=by
 cases l with
 |p m=>exact ⟨hr.1,by have:=hr.2.mono h.φ;rw [←h.key] at this;exact this⟩
 |own f=>
  obtain ⟨v,rfl,hv,hf⟩:=hr
  refine ⟨v,rfl,hv,fun o' oB=> ?_⟩
  obtain ⟨⟨o,ho⟩,hE⟩:=h.dA f o' oB
  rw [hE];exact hf o ho
 |_=>exact hr
theorem af.BA (h:Ct e e') {cs:List ah}: ∀{vs:List Value},af e vs cs→af e' vs cs:=by
 induction cs with
 |nil=>intro vs hr;exact hr
 |cons l r ih=>intro vs hr;obtain ⟨v,w,rfl,h1,h2⟩:=hr;exact ⟨v,w,rfl,h1.BA h,ih h2⟩
def yq (f:Nat) (s:Slot):Slot:=match s with
 | .ep g i o b cs=>bif Nat.beq g f then .sc .un else .ep g i o b cs
 |s=>s
theorem lf (f:Nat) (r:Fr) (t:Nat):ae (mX f r) t=yq f (ae r t):=rM (yq f) rfl r t
theorem Ap (f:Nat) (s:Slot):bn (yq f s)=bn s:=by
 cases s<;>simp only [yq]
 rename_i g _ _ _ _
 cases Nat.beq g f<;>rfl
theorem aa.BA {f:Nat} {T:Nat→Prop} (h:Ct e e') (j0:dZ (· ≠f) T e e') {v:Value} {s:Slot} (hT:cA (fun _=>True) T s) (hr:aa e v s):aa e' v (yq f s):=by
 cases s with
 |sc l=>
  simp only [yq]
  cases l with
  |un=>simp [aa]
  |hs x=>simpa [aa] using hr
  |p m=>simp only [aa] at hr⊢;exact hr.BA h
  |nil=>simp only [aa] at hr⊢;exact hr.BA h
  |mp s es=>simp only [aa] at hr⊢;exact hr
  |own f=>simp only [aa] at hr⊢;exact hr.BA h
 |ag cs=>simp only [yq,aa] at hr⊢;obtain ⟨arr,h1,h2⟩:=hr;exact ⟨arr,h1,h2.BA h⟩
 |tg cs=>simp only [yq,aa] at hr⊢;obtain ⟨arr,h1,h2⟩:=hr;exact ⟨arr,h1,h2.BA h⟩
 |ep g i o b cs=>
  simp only [yq]
  cases hb:Nat.beq g f
  ·simp only [cond_false]
   refine hr.on j0 ?_
   simp only [cA];intro e;subst e;simp [cE] at hb
  ·simp [aa]
 |_=>exact hr.on j0 hT
theorem dO.BA (h:Ct e e') (hk:e'.key=e.key) (hp:jh e.φ e'.φ) {o:Obj} {cs:List ah} (hr:dO e o cs):dO e' o cs:=by
 cases o with
 |cells arr T z=>exact ⟨hr.1,hr.2.BA h⟩
 |map es clock=>exact hr
 |stringIter x pos=>exact hr
 |_=>exact hr.elim
theorem az.set {key:Nat→Nat} {φ:Ph} {size:Nat} {xs:List MV}: ∀{cs:List Value} {i:Nat} {x:MV} {v':List Value},az key φ size cs xs→i<xs.length→v'.length=size→eJ key φ v' x→
 az key φ size (cs.take (i *size)++v'++cs.drop (i *size+size)) (xs.set i x):=by
 induction xs with
 |nil=>intro cs i x v' _ hi;simp at hi
 |cons y ys ih=>
  intro cs i x v' h hi hl hr
  obtain ⟨v,q,rfl,h1,h2,h3⟩:=h
  cases i with
  |zero=>simp only [Nat.zero_mul,List.take_zero,List.nil_append,Nat.zero_add,List.set_cons_zero];exact ⟨v',q,by rw [List.drop_left' h1],hl,hr,h3⟩
  |succ i=>
   have:=ih h3 (by simpa using hi) hl hr
   rw [List.set_cons_succ]
   refine ⟨v,_,?_,h1,h2,this⟩
   rw [Nat.succ_mul,List.take_append,List.drop_append,List.take_of_length_le (by omega),List.drop_of_length_le (by omega)]
   rw [show i *size+size-v.length=i *size by omega,show i *size+size+size-v.length=i *size+size by omega]
   simp
theorem aO.Hr {f:Nat} {fo:fX} {I:TI} {g i:Nat} {cap:Nat} {dH:Array Value} {v' cells:List Value} {x:MV} (h:aO c Z e st a w) (hf:aj st.ao f=some fo) (hz:fo.bU=false)
 (hI:c.ti fo.ty=some I) (Hl:I.a7=[]) (hE:e.E f= .slice (some ⟨g,0,none⟩) fo.xs.length cap) (b6:w.ownsRow 0 fo.ty I.size (e.E f) fo.xs.length cells) (hg:w.heap[g]? =some (.cells dH fo.ty (0,0)))
 (ia:az e.key e.φ I.size cells fo.xs)
 (hi:i<fo.xs.length) (hl:v'.length=I.size) (hr:eJ e.key e.φ v' x) (nd:f∉Z.aY):
 aO c Z {e with m:=aM e.m f ⟨fo.ty,false,fo.xs.set i x⟩} {st with fr:=mX f st.fr,ao:=aM st.ao f ⟨fo.ty,false,fo.xs.set i x⟩} a
  (w.setRow g (dH.toList.take (i *I.size)++v'++dH.toList.drop (i *I.size+I.size)).toArray)∧Z g:=by
 have hb:(e.E f).ownBlock=some g:=by rw [hE];rfl
 have hZ:Z g∧ ∀off,e.φ g off=none:=by
  obtain ⟨J,lP,_,_,_,_,h5⟩:=(h.dA f fo hf).row
  obtain ⟨h6,h7⟩:=h5 g hb
  refine ⟨wc h6 nd,fun off=> ?_⟩
  cases hp:e.φ g off with
  |none=>rfl
  |some u=>have:=(h7.1 off u hp).1;rw [hz] at this;cases this
 have jZ:=setRow_size w g (dH.toList.take (i *I.size)++v'++dH.toList.drop (i *I.size+I.size)).toArray
 have NH:Ct e {e with m:=aM e.m f ⟨fo.ty,false,fo.xs.set i x⟩}:=by
  refine ⟨rfl,.refl _,fun f2 o2 bj=>⟨?_,rfl⟩⟩
  have bj:aj (aM e.m f ⟨fo.ty,false,fo.xs.set i x⟩) f2=some o2:=bj
  rw [au] at bj
  by_cases cq:f2=f
  ·exact ⟨fo,by rw [cq,h.m];exact hf⟩
  ·simp only [cq,if_false] at bj;exact ⟨o2,bj⟩
 have j0:dZ (· ≠f) (fun _=>True) e {e with m:=aM e.m f ⟨fo.ty,false,fo.xs.set i x⟩}:=by
  refine ⟨rfl,.refl _,fun _ _=>rfl,fun f2 o2 bj b7=> ?_⟩
  have bj:aj (aM e.m f ⟨fo.ty,false,fo.xs.set i x⟩) f2=some o2:=bj
  rw [au] at bj
  simp only [b7,if_false] at bj;exact ⟨o2,bj,rfl,rfl⟩
 have fT: ∀f2 o2,aj (aM st.ao f ⟨fo.ty,false,fo.xs.set i x⟩) f2=some o2→ ∃o3,aj st.ao f2=some o3:=by
  intro f2 o2 bj
  rw [au] at bj
  by_cases cq:f2=f
  ·exact ⟨fo,by rw [cq];exact hf⟩
  ·simp only [cq,if_false] at bj;exact ⟨o2,bj⟩
 refine ⟨⟨h.defers,h.size,by show aM e.m f _=aM st.ao f _;rw [h.m],h.key,?_,?_,?_,?_,?_,?_,?_,?_,fun b hb=>h.aV b (by omega)⟩,hZ.1⟩
 ·show (ap (mX f st.fr)).Nodup
  have:ap (mX f st.fr)=ap st.fr:=by simp [ap,mX]
  rw [this];exact h.nodup
 ·intro t
  show aP Z _ _ t _ (ae (mX f st.fr) t)
  rw [lf]
  have hs:=h.slot t
  have ET:=h.bf t
  generalize ae st.fr t=s at hs ET
  by_cases qd: ∃cs,s= .box cs
  ·obtain ⟨cs,rfl⟩:=qd
   simp only [aP,yq] at hs⊢
   refine ⟨hs.1,hs.2.aV,?_,hs.2.free⟩
   obtain ⟨o2,h1,h2⟩:=hs.2.obj
   refine ⟨o2,?_,h2.BA NH rfl (.refl _)⟩
   rw [setRow_other _ _ _ _ (by intro eb;exact ET cs f fo rfl hf (by rw [hb,←eb]))];exact h1
  ·have oY:aa e (a.tmps.getD t undef) s:=by cases s<;>simp only [aP] at hs<;>first|exact hs|exact absurd ⟨_,rfl⟩ qd
   have h2:=oY.BA (f:=f) NH j0 (bK s)
   generalize Aq:yq f s=s2 at h2
   cases s2<;>first|exact h2|(exfalso;simp [aa] at h2)
 ·intro t
  show bc (mX f st.fr) (ae (mX f st.fr) t)
  rw [lf]
  have gQ:=h.root t
  generalize ae st.fr t=s at gQ
  have hk: ∀q,bn (ae (mX f st.fr) q)=bn (ae st.fr q):=fun q=>by rw [lf,Ap]
  cases s with
  |ptr q o=>show bn (ae (mX f st.fr) q)=true;rw [hk];exact gQ
  |hp q o i=>show bn (ae (mX f st.fr) q)=true;rw [hk];exact gQ
  |mR q=>show bn (ae (mX f st.fr) q)=true;rw [hk];exact gQ
  |ep g' _ _ _ _=>simp only [yq];cases Nat.beq g' f<;>trivial
  |_=>trivial
 ·intro f2 o2 bj
  have bj:aj (aM st.ao f ⟨fo.ty,false,fo.xs.set i x⟩) f2=some o2:=bj
  rw [au] at bj
  by_cases cq:f2=f
  ·subst cq
   simp at bj
   subst bj
   obtain ⟨hlen,wM⟩:=b6
   refine ⟨I,cells.take (i *I.size)++v'++cells.drop (i *I.size+I.size),hI,Hl,⟨?_,?_⟩,?_,?_⟩
   ·have hle:i *I.size+I.size≤fo.xs.length *I.size:=by rw [←Nat.succ_mul];exact Nat.mul_le_mul_right _ hi
    simp only [List.length_append,List.length_take,List.length_drop,List.length_set];omega
   ·have hle:i *I.size+I.size≤fo.xs.length *I.size:=by rw [←Nat.succ_mul];exact Nat.mul_le_mul_right _ hi
    rcases wM with ⟨h1,_⟩|⟨g2,Ju,OQ,h1,_,h3,h4,h5,h6,h7⟩
    ·rw [hE] at h1;simp at h1
    ·rw [hE] at h1
     simp at h1
     obtain ⟨rfl,rfl⟩:=h1
     rw [hg] at h3
     simp at h3
     subst h3
     refine .inr ⟨g,cap,(dH.toList.take (i *I.size)++v'++dH.toList.drop (i *I.size+I.size)).toArray,by rw [hE];simp,by omega,setRow_heap _ _ _ _ _ _ hg,by simpa using h4,h5,?_,?_⟩
     ·have km:dH.toList.length=dH.size:=by simp
      have OR:fo.xs.length *I.size≤cap *I.size:=Nat.mul_le_mul_right _ h4
      simp only [List.size_toArray,List.length_append,List.length_take,List.length_drop,km];omega
     ·have km:dH.toList.length=dH.size:=by simp
      have OR:fo.xs.length *I.size≤cap *I.size:=Nat.mul_le_mul_right _ h4
      simp only [List.length_set]
      rw [←h7]
      have e1:(dH.toList.take (fo.xs.length *I.size)).take (i *I.size)=dH.toList.take (i *I.size):=by rw [List.take_take,Nat.min_eq_left (by omega)]
      have e2:(dH.toList.take (fo.xs.length *I.size)).drop (i *I.size+I.size)=(dH.toList.drop (i *I.size+I.size)).take (fo.xs.length *I.size-(i *I.size+I.size)):=by rw [List.drop_take]
      rw [e1,e2]
      have e3:(dH.toList.take (i *I.size)++v').length=i *I.size+I.size:=by simp only [List.length_append,List.length_take,km];omega
      show List.take _ (dH.toList.take (i *I.size)++v'++dH.toList.drop (i *I.size+I.size))=_
      rw [List.take_append,e3,List.take_of_length_le (by omega)]
   ·exact ia.set hi hl hr
   ·intro ax ec
    rw [hb] at ec
    cases ec
    exact ⟨.inr hZ.1,fun off u hu=>(by have hu:e.φ g off=some u:=hu;rw [hZ.2] at hu;cases hu),fun _ hf=>Bool.noConfusion hf⟩
  ·simp only [cq,if_false] at bj
   obtain ⟨I2,lP,h1,h2,h3,h4,h5⟩:=(h.dA f2 o2 bj).row
   exact ⟨I2,lP,h1,h2,ym (fun hk=>cq (h.ff f2 f o2 fo g bj hf hk hb)) h3,h4,h5⟩
 ·intro t t' c1 c2 h1 h2 b7
  have h1:ae (mX f st.fr) t= .box c1:=h1
  have h2:ae (mX f st.fr) t'= .box c2:=h2
  rw [lf] at h1 h2
  have g1:ae st.fr t= .box c1:=by
   generalize ae st.fr t=s at h1
   cases s<;>simp only [yq] at h1<;>first|exact h1|(simp at h1;done)|(rename_i g' _ _ _ _;cases pS:Nat.beq g' f<;>simp [pS] at h1)
  have g2:ae st.fr t'= .box c2:=by
   generalize ae st.fr t'=s at h2
   cases s<;>simp only [yq] at h2<;>first|exact h2|(simp at h2;done)|(rename_i g' _ _ _ _;cases pS:Nat.beq g' f<;>simp [pS] at h2)
  exact h.bb t t' c1 c2 g1 g2 b7
 ·intro t c1 f2 o2 h1 h2
  have h1:ae (mX f st.fr) t= .box c1:=h1
  rw [lf] at h1
  have g1:ae st.fr t= .box c1:=by
   generalize ae st.fr t=s at h1
   cases s<;>simp only [yq] at h1<;>first|exact h1|(simp at h1;done)|(rename_i g' _ _ _ _;cases pS:Nat.beq g' f<;>simp [pS] at h1)
  obtain ⟨o3,Bw⟩:=fT f2 o2 h2
  exact h.bf t c1 f2 o3 g1 Bw
 ·intro f1 f2 o1 o2 k h1 h2 h3 h4
  obtain ⟨q1,g1⟩:=fT f1 o1 h1
  obtain ⟨q2,g2⟩:=fT f2 o2 h2
  exact h.ff f1 f2 q1 q2 k g1 g2 h3 h4
 ·intro b off v hv
  have hv:e.φ b off=some v:=hv
  have b7:b≠g:=by intro eb;subst eb;rw [hZ.2] at hv;cases hv
  rw [World.cell?_of_block (setRow_other _ _ _ _ b7)];exact h.gM b off v hv
theorem af.LG {cs:List ah}: ∀{vs:List Value} {ms:List MV},af e vs cs→aF cs=some ms→c7 e.key e.φ vs ms:=by
 induction cs with
 |nil=>intro vs ms h hm;cases h;simp [aF] at hm;subst hm;exact .nil
 |cons l r ih=>
  intro vs ms h hm
  obtain ⟨v,u,rfl,h1,h2⟩:=h
  cases hr:aF r with
  |none=>cases l<;>simp [aF,hr] at hm
  |some q=>
   cases l<;>simp [aF,hr] at hm
   ·subst hm;exact .cons v _ u q h1.2 (ih h2 hr)
   ·subst hm
    have h1:v=aD _:=h1
    subst h1
    exact .cons _ _ u q (.h _) (ih h2 hr)
theorem Cu {b:Bool} {ms:List MV} {x:MV} {vs:List Value} (h:c7 e.key e.φ vs ms) (hx:kG b ms=some x):eJ e.key e.φ vs x:=by
 cases b with
 |true=>cases ms<;>simp [kG] at hx<;>subst hx<;>exact .agg _ _ h
 |false=>
  cases ms with
  |nil=>simp [kG] at hx
  |cons m ms=>
   cases ms with
   |cons y ys=>simp [kG] at hx
   |nil=>
    simp [kG] at hx
    subst hx
    generalize oW:vs=xR at h
    cases h with
    |cons v _ u _ h1 h2=>cases h2;simpa using h1
theorem Cv {t:TypeId} {x y:Operand} {I:TI} (ho:o.op= .store t x y) (hI:c.tv t=some I) (hT:fp P c.ti) (h:aO c Z e st a w)
 (hK:Ls st I (ai c st x) (ai c st y) (fun st=>aw c st o.dst (.sc .un) K)=some r):o.wp P a w (Out c Z K r e.φ w) Q:=by
 obtain ⟨hx,gQ⟩:=h.eval x
 obtain ⟨hy,_⟩:=h.eval y
 obtain ⟨jF,hc⟩:=aN hI
 have hr:=hT t I jF
 have go: ∀w' aR,(Instr.storeAt t (a.eval x) (a.eval y)).run P w= .ok () w'→aO c Z e aR a w'→Trans Z e.φ w e.φ w'→aw c aR o.dst (.sc .un) K=some r→o.wp P a w (Out c Z K r e.φ w) Q:=by
  intro w' aR h1 h2 h3 h4
  refine pe ?_ h2 h3 h4
  simp [execOp,ho,h1]
 generalize ai c st x=sx at hx hK gQ
 generalize ai c st y=sy at hy hK
 unfold Ls at hK
 cases hb:kW (ak sy)||!Nat.beq (mS (ak sy)) I.size with
 |true=>simp [hb] at hK
 |false=>
  simp only [hb,cond_false] at hK
  simp only [Bool.or_eq_false_iff,Bool.not_eq_false'] at hb
  have rS:=Nat.eq_of_beq_eq_true hb.2
  have ek:0<I.size:=by
   rcases hr.agg hc with ⟨d,hu,hd,hh⟩|⟨_,_,_,_,hh⟩
   ·obtain ⟨d',i',h1,h2,h3,h4⟩:=hr
    cases d'<;>simp only [jD] at h4<;>first|omega|exact h4.2.2.1|exact absurd hc h4.2.1
   ·omega
  have b7:ak sy≠[]:=by intro e0;rw [e0] at rS;simp [mS] at rS;omega
  have KZ:=n8 hy hb.1 b7
  split at hK
  ·rename_i root off
   simp only [aa] at hx
   split at hK
   ·rename_i cs pf
    have lc:ct cs=false:=by cases hq:ct cs<;>simp_all
    simp only [lc,cond_false] at hK
    cases hp:putAt cs off (ak sy) with
    |none=>simp [hp] at hK
    |some cJ=>
     simp only [hp] at hK
     obtain ⟨w',aR,h1,h2,h3,h4⟩:=Ak (P:=P) lc hr hc h pf KZ rS hp hK
     exact go w' aR (by rw [hx];exact h1) h2 h3 h4
   ·simp at hK
  ·rename_i root off i
   simp only [aa] at hx
   obtain ⟨hx,yk⟩:=hx
   split at hK
   ·rename_i cs n pf
    have lc:ct cs=false:=by cases hq:ct cs<;>simp_all
    simp only [lc,cond_false] at hK
    split at hK
    ·rename_i x ls Hh
     unfold gI at hK
     split at hK
     ·rename_i k n
      by_cases hk:k= .u8
      ·subst hk
       simp only [decide_true,cond_true] at hK
       obtain ⟨pj,hK⟩:=bJ hK
       unfold isByte at pj
       have pj:=of_decide_eq_true pj
       have OS:=ey hy
       cases hp:putAt cs off [.hs (x.put i (UInt8.ofNat n.toNat))] with
       |none=>simp [hp] at hK
       |some cJ=>
        simp only [hp] at hK
        have fm:=h.slot root
        rw [pf] at fm
        obtain ⟨arr,T,bW,ji⟩:=fm.2.cells lc
        obtain ⟨p1,p2,p3,he,h1,h2,h3⟩:=lL (ws:=aD (x.put i (UInt8.ofNat n.toNat))) hp ji ⟨_,[],by simp,rfl,rfl⟩
        obtain ⟨u1,u2,hu,h4,h5⟩:=mZ Hh ji
        obtain ⟨u3,u4,rfl,h6,_⟩:=h5
        have h6:u3=aD x:=h6
        subst h6
        have QM:=bo x
        have QN:=bo (x.put i (UInt8.ofNat n.toNat))
        have LH:p1=u1∧p2++p3=aD x++u4:=List.append_inj (by rw [←List.append_assoc,←he,hu]) (by omega)
        obtain ⟨rfl,LH⟩:=LH
        obtain ⟨rfl,rfl⟩:=List.append_inj LH (by omega)
        have jZ:arr.size=p1.length+32+p3.length:=by
         have:arr.toList.length=(p1++aD x++p3).length:=by rw [he]
         simp at this
         omega
        have vq:(a.eval y).cells.toList=[.int .u8 n]:=by rw [OS];simp [Value.cells]
        have wh:I.size=1:=by rw [←rS];rfl
        have aX:=iU (P:=P) (w:=w) (ax:=e.B root) (off:=off+i) (v:=a.eval y) hr hc (by rw [vq,wh];rfl) (by rw [vq];simp [Value.oneCell']) bW (by omega)
        have jj:arr.toList.take (off+i)++(a.eval y).cells.toList++arr.toList.drop (off+i+I.size)=p1++aD (x.put i (UInt8.ofNat n.toNat))++p3:=by
         rw [vq,wh,he,rY x i _ yk,←pj,List.append_assoc p1,List.take_append,List.drop_append,List.take_append,List.drop_append]
         rw [List.take_of_length_le (by omega),List.drop_of_length_le (by omega)]
         rw [show off+i-p1.length=i by omega,show off+i+1-p1.length=i+1 by omega,show i-(aD x).length=0 by omega,show i+1-(aD x).length=0 by omega]
         simp
        rw [jj] at aX
        unfold wr at hK
        cases hn:aB st.bh root with
        |true=>simp [hn] at hK
        |false=>
         simp only [hn,cond_false,force_eq,eZ] at hK
         exact go _ _ (by rw [hx];exact aX) (h.Cm pf bW (by simpa using h3) (fun t=>by rw [aI]) (bV h.nodup)) (.setRow _ (wc fm.2.aV (by rw [←h.defers.2.1,←aG,hn];simp))) hK
      ·simp [hk] at hK
     ·simp at hK
    ·simp at hK
   ·simp at hK
  ·rename_i f i off b cs
   obtain ⟨e1,bw,ms,mP,rU,qa,ug,hK,Hm,qc⟩:=fq h KZ hK
   have hx:=hx.on rU.on (bK _)
   cases hf:aj bw.ao f with
   |none=>simp [hf] at hK
   |some fo=>
    simp only [hf] at hK
    cases hz:fo.bU with
    |true=>simp [hz] at hK
    |false=>
     simp only [hz,cond_false] at hK
     cases xQ:iS (ak sy) ms with
     |none=>simp [xQ] at hK
     |some vs=>
      simp only [xQ] at hK
      obtain ⟨oW,_⟩:=qc vs xQ
      cases hp:putAt cs off vs with
      |none=>simp [hp] at hK
      |some cJ=>
       simp only [hp] at hK
       cases hm:aF cJ with
       |none=>simp [hm] at hK
       |some Lt=>
        simp only [hm] at hK
        cases Hs:kG b Lt with
        |none=>simp [Hs] at hK
        |some x'=>
         simp only [Hs] at hK
         cases hn:aB bw.aY f with
         |true=>simp [hn] at hK
         |false=>
          simp only [hn,cond_false,G7,fZ] at hK
          simp only [aa] at hx
          obtain ⟨ax,cap,hE,⟨x0,EY,ID⟩,Cw⟩:=hx fo (by rw [mP.m];exact hf)
          obtain ⟨J,cells,hJ,Gi,b6,ia,_⟩:=(mP.dA f fo hf).row
          have hi:i<fo.xs.length:=(List.getElem?_eq_some_iff.1 EY).1
          obtain ⟨p1,v1,p2,LI,yj,pQ,cL⟩:=ia.at EY
          have ji:=cL.rQ ID
          have OT:=ji.width
          obtain ⟨q1,q2,q3,EO,OU,OV,jj⟩:=lL hp ji oW
          have Jv:(a.eval y).cells.toList.length=I.size:=by rw [KZ.width,rS]
          have Jw:=Cu (jj.LG hm) Hs
          obtain ⟨hlen,wM⟩:=b6
          rcases wM with ⟨g1,_⟩|⟨g2,Ju,dH,g1,g0,g3,g4,g5,g6,g7⟩
          ·rw [hE] at g1;simp at g1
          ·have Jx:w.ownsRow 0 fo.ty J.size (e1.E f) fo.xs.length cells:=⟨hlen,.inr ⟨g2,Ju,dH,g1,g0,g3,g4,g5,g6,g7⟩⟩
           rw [hE] at g1
           simp at g1
           obtain ⟨rfl,rfl⟩:=g1
           have OW:(q1++(a.eval y).cells.toList++q3).length=J.size:=by
            have:v1.length=(q1++q2++q3).length:=by rw [EO]
            simp only [List.length_append] at this⊢;omega
           obtain ⟨iB,hZ⟩:=mP.Hr hf hz hJ Gi hE Jx g3 ia hi OW Jw (by rw [←mP.defers.2.2.1,←aG,hn];simp)
           have Cx:dH.toList=p1++q1++q2++(q3++p2++dH.toList.drop (fo.xs.length *J.size)):=by
            have:=List.take_append_drop (fo.xs.length *J.size) dH.toList
            rw [g7,LI,EO] at this
            refine this.symm.trans ?_
            simp
           have OX:q2.length=I.size:=by rw [OV,Jv]
           have rT:(p1++q1).length=i *J.size+off:=by simp [yj,OU]
           have OY:dH.size=(p1++q1).length+I.size+(q3++p2++dH.toList.drop (fo.xs.length *J.size)).length:=by
            have:dH.toList.length=(p1++q1++q2++(q3++p2++dH.toList.drop (fo.xs.length *J.size))).length:=by rw [←Cx]
            rw [List.length_append,List.length_append] at this
            rw [Array.length_toList] at this
            omega
           have aX:=iU (P:=P) (w:=w) (ax:=ax) (off:=i *J.size+off) (v:=a.eval y) hr hc Jv KZ.cells g3 (by omega)
           have lg:dH.toList.take (i *J.size+off)++(a.eval y).cells.toList++dH.toList.drop (i *J.size+off+I.size)=
            dH.toList.take (i *J.size)++(q1++(a.eval y).cells.toList++q3)++dH.toList.drop (i *J.size+J.size):=by
            have t1:dH.toList.take (i *J.size+off)=p1++q1:=by
             conv=>lhs;rw [Cx,List.append_assoc (p1++q1)]
             exact List.take_left' rT
            have t2:dH.toList.drop (i *J.size+off+I.size)=q3++p2++dH.toList.drop (fo.xs.length *J.size):=by
             conv=>lhs;rw [Cx]
             exact List.drop_left' (by rw [List.length_append];omega)
            have t3:dH.toList.take (i *J.size)=p1:=by
             conv=>lhs;rw [Cx]
             simp only [List.append_assoc]
             exact List.take_left' yj
            have t4:dH.toList.drop (i *J.size+J.size)=p2++dH.toList.drop (fo.xs.length *J.size):=by
             have Jy:dH.toList=(p1++(q1++q2++q3))++(p2++dH.toList.drop (fo.xs.length *J.size)):=by
              conv=>lhs;rw [Cx]
              simp
             conv=>lhs;rw [Jy]
             exact List.drop_left' (by rw [List.length_append,←EO];omega)
            rw [t1,t2,t3,t4]
            simp
           rw [lg] at aX
           have LJ:i *mS cs+off=i *J.size+off:=by rw [←OT,pQ]
           refine pe (w':=w.setRow ax (dH.toList.take (i *J.size)++(q1++(a.eval y).cells.toList++q3)++dH.toList.drop (i *J.size+J.size)).toArray) ?_ iB ?_ hK
           ·rw [LJ] at Cw
            simp [execOp,ho,Cw,aX]
           ·exact rU.tr.trans (.setRow _ hZ)
  ·simp at hK
end
end Dn
/-
  Structs and sums that are put together. Conditions: none.
-/
set_option linter.unusedSimpArgs false
set_option linter.unusedVariables false
namespace Dn
open Go
section
variable {P:Program} {c:Ctx} {Z:aJ} {e e':Env} {st:St} {a:Act} {w w':World} {R:Type} {K:St→Option R} {r:R} {Q:Exit→Act→World→Prop} {o:Oper}
theorem uj {place:Nat→Option (Nat×Nat)} {cells:Array Value} {i off:Nat} {v:Value} {rest:List (Nat×Value)} (hp:place i=some (off,v.cells.size)) (hle:off+v.cells.size≤cells.size):
 Instr.fill place cells ((i,v)::rest)=Instr.fill place (cells.toList.take off++v.cells.toList++cells.toList.drop (off+v.cells.size)).toArray rest:=by
 conv=>lhs;unfold Instr.fill
 simp only [hp]
 rw [if_neg (by simp;omega)]
 congr 1
 rw [←Array.foldl_toList,Array.toList_zipIdx]
 obtain ⟨h1,h2⟩:=Go.Great.foldl_set off v.cells.toList 0 cells
 apply Array.ext_getElem?
 intro k
 have hl:(cells.toList.take off).length=off:=by simp;omega
 have e0:=h2 k
 simp only [Nat.add_zero,Array.length_toList] at e0
 refine Eq.trans e0 ?_
 have e1:(cells.toList.take off++v.cells.toList++cells.toList.drop (off+v.cells.size)).toArray[k]? =(cells.toList.take off++v.cells.toList++cells.toList.drop (off+v.cells.size))[k]? :=by simp
 rw [e1,List.append_assoc]
 have e2:cells[k]? =cells.toList[k]? :=by simp
 by_cases h3:k<off
 ·rw [if_neg (by omega),List.getElem?_append_left (by omega),List.getElem?_take,if_pos h3,e2]
 ·rw [List.getElem?_append_right (by omega),hl]
  by_cases h4:k<off+v.cells.size
  ·rw [if_pos ⟨by omega,h4,by omega⟩,List.getElem?_append_left (by simp;omega)]
  ·rw [if_neg (by omega),List.getElem?_append_right (by simp;omega),List.getElem?_drop,e2]
   congr 1
   simp;omega
theorem yr {I:TI} {places:List (Nat×Nat)} (h:aO c Z e st a w) (xQ: ∀(i q y:Nat) (J:TI),I.wm[i]? =some q→I.zX[i]? =some y→c.tv y=some J→places[i]? =some (q,J.size)∧0<J.size) {parts:List (Nat×Operand)}:
 ∀{cs ds:List ah} {cells:Array Value},af e cells.toList cs→oo c st I parts cs=some ds→
 ∃out,Instr.fill (places.toArray[·]?) cells (parts.map fun p=>(p.1,a.eval p.2))=some out∧af e out.toList ds:=by
 induction parts with
 |nil=>intro cs ds cells hl hb;simp [oo] at hb;subst hb;exact ⟨cells,rfl,hl⟩
 |cons p ps ih=>
  intro cs ds cells hl hb
  obtain ⟨i,x⟩:=p
  simp only [oo] at hb
  split at hb
  ·rename_i q y hq hy
   cases hJ:c.tv y with
   |none=>simp [hJ] at hb
   |some J=>
    simp only [hJ] at hb
    obtain ⟨OZ,ek⟩:=xQ i q y J hq hy hJ
    cases hu:kW (ak (ai c st x))||!Nat.beq (mS (ak (ai c st x))) J.size with
    |true=>simp [hu] at hb
    |false=>
     simp only [hu,cond_false] at hb
     simp only [Bool.or_eq_false_iff,Bool.not_eq_false'] at hu
     have rS:=Nat.eq_of_beq_eq_true hu.2
     cases hp:putAt cs q (ak (ai c st x)) with
     |none=>simp [hp] at hb
     |some cJ=>
      simp only [hp] at hb
      have b7:ak (ai c st x)≠[]:=by intro e0;rw [e0] at rS;simp [mS] at rS;omega
      have hv:=n8 (h.eval x).1 hu.1 b7
      obtain ⟨p1,p2,p3,he,h1,h2,h3⟩:=lL hp hl hv
      have hlen:(a.eval x).cells.size=J.size:=by rw [←rS,←hv.width];simp
      have jZ:cells.size=p1.length+p2.length+p3.length:=by
       have:cells.toList.length=(p1++p2++p3).length:=by rw [he]
       simp at this;omega
      have Al:p2.length=(a.eval x).cells.size:=by rw [h2];simp
      have zt:=uj (place:=(places.toArray[·]?)) (cells:=cells) (i:=i) (off:=q) (v:=a.eval x) (rest:=ps.map fun p=>(p.1,a.eval p.2)) (by rw [hlen];simpa using OZ) (by omega)
      have ht:cells.toList.take q++(a.eval x).cells.toList++cells.toList.drop (q+(a.eval x).cells.size)=p1++(a.eval x).cells.toList++p3:=by
       rw [he]
       rw [List.append_assoc p1 p2 p3,List.take_left' h1,←List.append_assoc p1 p2 p3,List.drop_left' (by rw [List.length_append];omega)]
      rw [ht] at zt
      obtain ⟨out,h4,h5⟩:=ih (cells:=(p1++(a.eval x).cells.toList++p3).toArray) (by simpa using h3) hb
      exact ⟨out,by rw [List.map_cons,zt];exact h4,h5⟩
  ·simp at hb
theorem yt {parts:List (Nat×Operand)} (h:aO c Z e st a w): ∀{x:dW} {K':dW→Option R},rE c st parts x K'=some r→
 ∃y,Instr.fill (fun i=>some (i *1,1)) (aD x).toArray (parts.map fun p=>(p.1,a.eval p.2))=some (aD y).toArray∧K' y=some r:=by
 induction parts with
 |nil=>intro x K' hb;exact ⟨x,rfl,hb⟩
 |cons p ps ih=>
  intro x K' hb
  obtain ⟨i,y⟩:=p
  simp only [rE] at hb
  split at hb
  ·rename_i m hm
   cases hi:Nat.ble 32 i with
   |true=>simp [hi] at hb
   |false=>
    simp only [hi,cond_false] at hb
    have yk:i<32:=by
     by_cases dJ:i<32
     ·exact dJ
     ·have:Nat.ble 32 i=true:=Nat.ble_eq_true_of_le (by omega)
      simp_all
    unfold gI at hb
    split at hb
    ·rename_i k n
     by_cases hk:k= .u8
     ·subst hk
      simp only [decide_true,cond_true] at hb
      obtain ⟨pj,hb⟩:=bJ hb
      unfold isByte at pj
      have pj:=of_decide_eq_true pj
      obtain ⟨out,h1,h2⟩:=ih hb
      have hv:=ey (by have:=(h.eval y).1;rw [hm] at this;exact this)
      refine ⟨out,?_,h2⟩
      rw [←h1,List.map_cons]
      have xT:(a.eval y).cells= #[.int .u8 n]:=by rw [hv];simp [Value.cells]
      have zt:=uj (place:=fun i=>some (i *1,1)) (cells:=(aD x).toArray) (i:=i) (off:=i *1) (v:=a.eval y) (rest:=ps.map fun p=>(p.1,a.eval p.2)) (by rw [xT];rfl) (by rw [xT];have:=bo x;simp;omega)
      rw [zt,rY x i _ yk,←pj,xT]
      simp
     ·simp [hk] at hb
    ·simp at hb
  ·simp at hb
theorem Ar (P:Program) (l:List Field):(∀f∈l,∃i,P.info? f.type=some i)→
 ∃places,l.mapM (fun f=>(P.info? f.type).map fun i=>(f.offset,i.size))=some places∧ ∀(k:Nat) (f:Field),l[k]? =some f→ ∃i,P.info? f.type=some i∧places[k]? =some (f.offset,i.size):=by
 induction l with
 |nil=>intro _;exact ⟨[],by simp,by simp⟩
 |cons f fs ih=>
  intro h
  obtain ⟨i,hi⟩:=h f (by simp)
  obtain ⟨ps,h1,h2⟩:=ih (fun g hg=>h g (by simp [hg]))
  refine ⟨(f.offset,i.size)::ps,by simp [List.mapM_cons,hi,h1],?_⟩
  intro k g hg
  cases k with
  |zero=>simp at hg;subst hg;exact ⟨i,hi,rfl⟩
  |succ k=>simp at hg;simpa using h2 k g hg
theorem Cy {t:TypeId} {parts:Array (Nat×Operand)} {I:TI} (ho:o.op= .build t parts) (hI:c.tv t=some I) (hT:fp P c.ti) (h:aO c Z e st a w)
 (hK:(bif I.st then (match oo c st I parts.toList I.zero with|some cs=>aw c st o.dst (.ag cs) K|none=>none)
  else (match I.lay with|[.h]=>rE c st parts.toList dW.zero fun x=>aw c st o.dst (.sc (.hs x)) K|_=>none))=some r):Rd P c Z K r e a w o (fun _=>True):=by
 obtain ⟨jF,hc⟩:=aN hI
 obtain ⟨d,i,h1,h2,h3,h4⟩:=hT t I jF
 have BB:(parts.map fun (i,x)=>(i,a.eval x)).toList=parts.toList.map fun p=>(p.1,a.eval p.2):=by simp
 have run: ∀out,P.built t (parts.toList.map fun p=>(p.1,a.eval p.2))=some out→ ∀w:World,(execOp a.eval o).run P w= .ok (.value (.agg out)) w:=by
  intro out hb w
  have:=run_build (P:=P) w t (parts.map fun (i,x)=>(i,a.eval x)) out (by rw [BB];exact hb)
  simp [execOp,ho] at this⊢
  simp [this]
 cases cK:I.st with
 |true=>
  simp only [cK,cond_true] at hK
  cases d<;>simp only [jD] at h4
  case struct fs=>
   obtain ⟨_,_,_,Ji,bj,Bw,zc,hz,O0,_⟩:=h4
   cases hb:oo c st I parts.toList I.zero with
   |none=>simp [hb] at hK
   |some cs=>
    simp only [hb] at hK
    have LL: ∃places,fs.toList.mapM (fun f=>(P.info? f.type).map fun i=>(f.offset,i.size))=some places∧
     (∀(i q y:Nat) (J:TI),I.wm[i]? =some q→I.zX[i]? =some y→c.tv y=some J→places[i]? =some (q,J.size)∧0<J.size):=by
     obtain ⟨places,Hm,xS⟩:=Ar P fs.toList (by
      intro f hf
      obtain ⟨k,hk,rfl⟩:=List.mem_iff_getElem.1 hf
      obtain ⟨J,hJ,Gi,_⟩:=Bw k fs.toList[k] (by simp at hk⊢)
      obtain ⟨i,hi,_⟩:=(hT _ J hJ).info Gi
      exact ⟨i,hi⟩)
     refine ⟨places,Hm,?_⟩
     intro i q y J hq hy hJ
     rw [←Ji,List.getElem?_map] at hq
     rw [←bj,List.getElem?_map] at hy
     cases hf:fs.toList[i]? with
     |none=>simp [hf] at hq
     |some f=>
      simp [hf] at hq hy
      subst hq;subst hy
      obtain ⟨J2,NI,LM,ek⟩:=Bw i f (by simpa using hf)
      obtain ⟨KX,_⟩:=aN hJ
      rw [NI] at KX
      cases KX
      obtain ⟨i2,Ep,LN⟩:=xS i f hf
      obtain ⟨i3,NJ,Ht,_⟩:=(hT _ J NI).info LM
      rw [Ep] at NJ
      cases NJ
      exact ⟨by rw [LN,Ht],ek⟩
    obtain ⟨places,xQ,Hu⟩:=LL
    obtain ⟨out,h5,h6⟩:=yr h Hu (cells:=zc) (eK O0) hb
    refine df (v:= .agg out) (s:= .ag cs) h (run out ?_) ?_ trivial hK
    ·unfold Program.built
     simp only [h2,h1,hz,xQ]
     exact h5
    ·simp only [aa];exact ⟨out,rfl,h6⟩
  all_goals (exfalso;simp_all)
 |false=>
  simp only [cK,cond_false] at hK
  split at hK
  ·rename_i hl
   cases d<;>simp only [jD,hl,cK] at h4<;>first|(exfalso;simp_all;done)|skip
   obtain ⟨_,_,_,rfl,rfl,⟨ie,hu,Jh,mP⟩,_,_,hz⟩:=h4
   obtain ⟨y,h5,h6⟩:=yt h hK
   refine df (v:= .agg (aD y).toArray) (s:= .sc (.hs y)) h (run _ ?_) ?_ trivial h6
   ·unfold Program.built
    simp only [h2,h1,hz,Jh,mP]
    exact h5
   ·simp only [aa]
  ·simp at hK
end
end Dn
/-
  A family comes to have other content. Conditions: none.
-/
set_option linter.unusedSimpArgs false
set_option linter.unusedVariables false
namespace Dn
open Go
section
variable {P:Program} {c:Ctx} {Z:aJ} {e e':Env} {st:St} {a:Act} {w w':World} {R:Type} {K:St→Option R} {r:R} {Q:Exit→Act→World→Prop} {o:Oper}
def Env.lh (e:Env) (f:Nat) (v:Value) (fo:fX):Env:={e with E:=fun g=>if g=f then v else e.E g,m:=aM e.m f fo}
def St.lh (st:St) (f:Nat) (fo:fX):St:={st with fr:=eE f st.fr,ao:=aM st.ao f fo}
theorem qe (f:Nat) (s:Slot):bn (nB f s)=bn s:=by
 cases s<;>simp only [nB,bn]
 rename_i g _ _ _ _
 cases Nat.beq g f<;>rfl
theorem kn {f:Nat} {s:Slot} {cs:List ah} (h:nB f s= .box cs): ∃re,s= .box re∧cs=re.map (vj f):=by
 cases s<;>simp only [nB] at h<;>first|(simp at h;done)|(rename_i g _ _ _ _;cases hb:Nat.beq g f<;>simp [hb] at h;done)|skip
 rename_i re
 simp at h
 exact ⟨re,rfl,h.symm⟩
theorem aO.c9 {f:Nat} {fo:fX} {v':Value} (h:aO c Z e st a w) (nd:f∉Z.aY) (c8:bu c Z.nc e w' v' fo) (NK:w.heap.size≤w'.heap.size)
 (bW: ∀b,b<w.heap.size→(∀o,aj st.ao f=some o→(e.E f).ownBlock≠some b)→w'.heap[b]? =w.heap[b]?)
 (pg: ∀b o v,e.φ b o=some v→w'.cell? ⟨b,o,none⟩=some v)
 (jj: ∀b,v'.ownBlock=some b→w.heap.size≤b∨ ∃o,aj st.ao f=some o∧(e.E f).ownBlock=some b):
 aO c Z (e.lh f v' fo) (st.lh f fo) a w':=by
 have j0:dZ (· ≠f) (fun _=>True) e (e.lh f v' fo):=by
  refine ⟨rfl,.refl _,fun _ _=>rfl,fun f2 o2 bj b7=> ?_⟩
  have bj:aj (aM e.m f fo) f2=some o2:=bj
  rw [au] at bj
  simp only [b7,if_false] at bj
  exact ⟨o2,bj,by simp [Env.lh,b7],rfl⟩
 have Cz: ∀t cs,ae st.fr t= .box cs→e.B t<w.heap.size:=by
  intro t cs ht
  have hs:=h.slot t
  rw [ht] at hs
  obtain ⟨o2,h1,_⟩:=hs.2.obj
  exact aH h1
 have kI: ∀t cs,ae st.fr t= .box cs→w'.heap[e.B t]? =w.heap[e.B t]? :=by
  intro t cs ht
  exact bW _ (Cz t cs ht) (fun o ho=>h.bf t cs f o ht ho)
 refine ⟨h.defers,h.size,by show aM e.m f _=aM st.ao f _;rw [h.m],h.key,?_,?_,?_,?_,?_,?_,?_,pg,fun b hb=>h.aV b (by omega)⟩
 ·show (ap (eE f st.fr)).Nodup
  have:ap (eE f st.fr)=ap st.fr:=by simp [ap,eE]
  rw [this];exact h.nodup
 ·intro t
  show aP Z _ _ t _ (ae (eE f st.fr) t)
  rw [cQ]
  have hs:=h.slot t
  have qf:=kI t
  generalize ae st.fr t=s at hs qf
  by_cases qd: ∃cs,s= .box cs
  ·obtain ⟨cs,rfl⟩:=qd
   simp only [aP,nB] at hs⊢
   refine ⟨hs.1.eF (yg f _),hs.2.aV,?_,hs.2.free⟩
   obtain ⟨o2,h1,h2⟩:=hs.2.obj
   refine ⟨o2,by show w'.heap[e.B t]? =_;rw [qf cs rfl];exact h1,?_⟩
   refine (h2.map (fun _ _=>al.kill f) (fun _ _=>rfl)).on j0 ?_
   intro l hl
   obtain ⟨x,_,rfl⟩:=List.mem_map.1 hl
   exact pZ f x
  ·have oY:aa e (a.tmps.getD t undef) s:=by cases s<;>simp only [aP] at hs<;>first|exact hs|exact absurd ⟨_,rfl⟩ qd
   have h2:=(oY.kill f).on j0 (Ce f _ s (bK s))
   generalize Aq:nB f s=s2 at h2
   cases s2<;>first|exact h2|(exfalso;simp [aa] at h2)
 ·intro t
  show bc (eE f st.fr) (ae (eE f st.fr) t)
  rw [cQ]
  have gQ:=h.root t
  generalize ae st.fr t=s at gQ
  have hk: ∀q,bn (ae (eE f st.fr) q)=bn (ae st.fr q):=fun q=>by rw [cQ,qe]
  cases s with
  |ptr q o=>show bn (ae (eE f st.fr) q)=true;rw [hk];exact gQ
  |hp q o i=>show bn (ae (eE f st.fr) q)=true;rw [hk];exact gQ
  |mR q=>show bn (ae (eE f st.fr) q)=true;rw [hk];exact gQ
  |ep g' _ _ _ _=>simp only [nB];cases Nat.beq g' f<;>trivial
  |_=>trivial
 ·intro f2 o2 bj
  have bj:aj (aM st.ao f fo) f2=some o2:=bj
  rw [au] at bj
  by_cases cq:f2=f
  ·subst cq
   simp at bj
   subst bj
   have:=(c8.to nd).env (e':=e.lh f2 v' fo) rfl rfl
   simpa [Env.lh] using this
  ·simp only [cq,if_false] at bj
   obtain ⟨I2,lP,h1,h2,h3,h4,h5⟩:=(h.dA f2 o2 bj).row
   refine ⟨I2,lP,h1,h2,?_,h4,?_⟩
   ·show w'.ownsRow 0 o2.ty I2.size (if f2=f then v' else e.E f2) o2.xs.length lP
    rw [if_neg cq]
    refine ⟨h3.1,?_⟩
    rcases h3.2 with h6|⟨g,cap,dH,g1,g2,g3,g4⟩
    ·exact .inl h6
    ·refine .inr ⟨g,cap,dH,g1,g2,?_,g4⟩
     rw [bW g (aH g3) (fun o ho hk=>cq (h.ff f2 f o2 o g bj ho (by rw [g1];rfl) hk))];exact g3
   ·intro ax hb
    have hb:(if f2=f then v' else e.E f2).ownBlock=some ax:=hb
    rw [if_neg cq] at hb
    exact h5 ax hb
 ·intro t t' c1 c2 h1 h2 b7
  have h1:ae (eE f st.fr) t= .box c1:=h1
  have h2:ae (eE f st.fr) t'= .box c2:=h2
  rw [cQ] at h1 h2
  obtain ⟨d1,g1,_⟩:=kn h1
  obtain ⟨d2,g2,_⟩:=kn h2
  exact h.bb t t' d1 d2 g1 g2 b7
 ·intro t c1 f2 o2 h1 h2
  have h1:ae (eE f st.fr) t= .box c1:=h1
  have h2:aj (aM st.ao f fo) f2=some o2:=h2
  rw [cQ] at h1
  rw [au] at h2
  obtain ⟨d1,g1,_⟩:=kn h1
  show (if f2=f then v' else e.E f2).ownBlock≠some (e.B t)
  by_cases cq:f2=f
  ·rw [if_pos cq]
   intro hb
   rcases jj _ hb with h3|⟨o,h3,h4⟩
   ·have:=Cz t d1 g1;omega
   ·exact h.bf t d1 f o g1 h3 h4
  ·rw [if_neg cq]
   simp only [cq,if_false] at h2
   exact h.bf t d1 f2 o2 g1 h2
 ·intro f1 f2 o1 o2 k h1 h2 h3 h4
  have h1:aj (aM st.ao f fo) f1=some o1:=h1
  have h2:aj (aM st.ao f fo) f2=some o2:=h2
  have h3:(if f1=f then v' else e.E f1).ownBlock=some k:=h3
  have h4:(if f2=f then v' else e.E f2).ownBlock=some k:=h4
  rw [au] at h1 h2
  have kZ: ∀g og,aj st.ao g=some og→(e.E g).ownBlock=some k→k<w.heap.size:=by
   intro g og hg hk
   obtain ⟨I2,lP,_,_,g3,_⟩:=(h.dA g og hg).row
   rcases g3.2 with ⟨g5,_⟩|⟨b,cap,dH,g5,_,g6,_⟩
   ·rw [g5] at hk;simp [Value.ownBlock] at hk
   ·rw [g5] at hk;simp only [Value.ownBlock,Option.some.injEq] at hk;subst hk;exact aH g6
  by_cases vr:f1=f
  ·by_cases pT:f2=f
   ·rw [vr,pT]
   ·rw [if_pos vr] at h3
    rw [if_neg pT] at h4
    simp only [pT,if_false] at h2
    rcases jj k h3 with h5|⟨o,h5,h6⟩
    ·have:=kZ f2 o2 h2 h4;omega
    ·exact vr.trans (h.ff f f2 o o2 k h5 h2 h6 h4)
  ·rw [if_neg vr] at h3
   simp only [vr,if_false] at h1
   by_cases pT:f2=f
   ·rw [if_pos pT] at h4
    rcases jj k h4 with h5|⟨o,h5,h6⟩
    ·have:=kZ f1 o1 h1 h3;omega
    ·exact (h.ff f1 f o1 o k h1 h5 h3 h6).trans pT.symm
   ·rw [if_neg pT] at h4
    simp only [pT,if_false] at h2
    exact h.ff f1 f2 o1 o2 k h1 h2 h3 h4
theorem fP {f:Nat} {fo:fX} (hK:c9 st f fo K=some r):K (st.lh f fo)=some r:=by
 unfold Dn.c9 at hK
 cases hn:aB st.aY f with
 |true=>simp [hn] at hK
 |false=>simpa [hn,Cb,fZ,St.lh] using hK
theorem aO.Gn {f:Nat} {fo:fX} (h:aO c Z e st a w) (hK:Dn.c9 st f fo K=some r):f∉Z.aY:=by
 intro hm
 rw [←h.defers.2.2.1,←aG] at hm
 simp [Dn.c9,hm] at hK
theorem jG {f:Nat} {fo:fX} {v:Value} (h1:v.oneCell'=true):aa (e.lh f v fo) v (.sc (.own f)):=by
 simp only [aa]
 exact ⟨v,rfl,h1,fun o ho=>by simp [Env.lh]⟩
end
end Dn
/-
  What is appended. Conditions: none.
-/
set_option linter.unusedSimpArgs false
set_option linter.unusedVariables false
namespace Dn
open Go
section
variable {P:Program} {c:Ctx} {Z:aJ} {e e':Env} {st:St} {a:Act} {w w':World} {R:Type} {K:St→Option R} {r:R} {Q:Exit→Act→World→Prop} {o:Oper}
theorem nD {t:TypeId} {I:TI} (hr:gU c.ti P t I) (hc:I.a7=[]): ∃i z,P.info? t=some i∧i.size=I.size∧i.bytes=I.bytes∧i.zero=some z∧z.cells.size=I.size:=by
 obtain ⟨d,i,h1,h2,h3,h4⟩:=hr
 obtain ⟨h5,h6⟩:=h3 hc
 cases d<;>simp only [jD] at h4
 case struct fs=>obtain ⟨_,_,_,_,_,_,cs,hz,_,hs⟩:=h4;exact ⟨i,_,h2,h5,h6,hz,by simpa [Value.cells] using hs⟩
 case tuple ts=>exact absurd hc h4.2.1
 case slice el=>obtain ⟨_,_,hs,_,_,hz,_⟩:=h4;exact ⟨i,_,h2,h5,h6,hz,by rw [hs];rfl⟩
 case array n el=>obtain ⟨_,_,hs,_,_,_,_,_,hz⟩:=h4;exact ⟨i,_,h2,h5,h6,hz,by rw [hs];simp [Value.cells,bo]⟩
 case bool=>obtain ⟨_,_,hs,_,_,hz⟩:=h4;exact ⟨i,_,h2,h5,h6,hz,by rw [hs];rfl⟩
 case int k=>obtain ⟨_,_,hs,_,_,hz⟩:=h4;exact ⟨i,_,h2,h5,h6,hz,by rw [hs];rfl⟩
 case string=>obtain ⟨_,_,hs,_,_,b,hz,_⟩:=h4;exact ⟨i,_,h2,h5,h6,hz,by rw [hs];rfl⟩
 all_goals
  obtain ⟨_,_,hs,_,v,hz,hv,_⟩:=h4
  refine ⟨i,v,h2,h5,h6,hz,?_⟩
  rw [hs]
  cases v<;>simp_all [Value.cells,Value.oneCell']
structure Src (e:Env) (w:World) (size:Nat) (v:Value) (ys:List MV) (news:List Value):Prop where
 IF:az e.key e.φ size news ys
 val: ∃ad cap,v= .slice ad ys.length cap∧(ad=none→ys=[])∧ ∀x,ad=some x→ ∀(j:Nat) (u:Value),news[j]? =some u→w.cell? (x.add j)=some u
theorem az.CA {key:Nat→Nat} {φ:Ph} {size:Nat} {xs:List MV}: ∀{cs:List Value},az key φ size cs xs→ ∀u∈cs,u.oneCell'=true:=by
 induction xs with
 |nil=>intro cs h;cases h;simp
 |cons x xs ih=>
  intro cs h u hu
  obtain ⟨v,q,rfl,_,h2,h3⟩:=h
  rcases List.mem_append.1 hu with hu|hu
  ·exact h2.cells u hu
  ·exact ih h3 u hu
theorem az.append {key:Nat→Nat} {φ:Ph} {size:Nat} {xs ys:List MV}: ∀{cs ds:List Value},az key φ size cs xs→az key φ size ds ys→az key φ size (cs++ds) (xs++ys):=by
 induction xs with
 |nil=>intro cs ds h h';cases h;simpa using h'
 |cons x xs ih=>intro cs ds h h';obtain ⟨v,q,rfl,h1,h2,h3⟩:=h;exact ⟨v,q++ds,by simp,h1,h2,ih h3 h'⟩
theorem yu {key:Nat→Nat} {φ:Ph} {size:Nat} {xs:List MV}: ∀{f:Nat→List Value},(∀i,i<xs.length→(f i).length=size)→(∀(i:Nat) (h:i<xs.length),eJ key φ (f i) xs[i])→
 ∃cs,az key φ size cs xs∧ ∀(i j:Nat),i<xs.length→j<size→cs[i *size+j]? =(f i)[j]? :=by
 induction xs with
 |nil=>intro f _ _;exact ⟨[],rfl,fun i j hi=>by simp at hi⟩
 |cons x xs ih=>
  intro f h1 h2
  obtain ⟨cs,h3,h4⟩:=ih (f:=fun i=>f (i+1)) (fun i hi=>h1 (i+1) (by simpa using hi)) (fun i hi=>h2 (i+1) (by simpa using hi))
  have hl:=h1 0 (by simp)
  refine ⟨f 0++cs,⟨f 0,cs,rfl,hl,h2 0 (by simp),h3⟩,?_⟩
  intro i j hi hj
  cases i with
  |zero=>rw [Nat.zero_mul,Nat.zero_add,List.getElem?_append_left (by omega)]
  |succ i=>
   rw [Nat.succ_mul,List.getElem?_append_right (by omega),show i *size+size+j-(f 0).length=i *size+j by omega]
   exact h4 i j (by simpa using hi) hj
theorem qD {I E:TI} {x:Slot} {v:Value} {K':List MV→Option R} (h:aO c Z e st a w) (hE:c.ti I.elem=some E) (ek:0<E.size) (hx:aa e v x) (hK:u9 I E st x K'=some r):
 ∃ys news,Src e w E.size v ys news∧K' ys=some r:=by
 unfold u9 at hK
 split at hK
 ·rename_i xs
  obtain ⟨hw,hK⟩:=bJ hK
  simp only [aa,al] at hx
  obtain ⟨_,hx⟩:=hx
  generalize hv:[v]=vs at hx
  cases hx with
  |list ad cap _ ax off wE f g1 g2 g3 g4 g5=>
  simp at hv
  have IE: ∀i,i<xs.length→(f i).length=E.size:=by
   intro i hi
   rw [(g5 i hi).width]
   exact rX hw _ (List.getElem_mem hi)
  obtain ⟨cs,h1,h2⟩:=yu IE g5
  refine ⟨xs,cs,⟨h1,ad,cap,hv,?_,?_⟩,hK⟩
  ·intro hn
   cases xs with
   |nil=>rfl
   |cons y ys=>have:=g2 (by simp);rw [hn] at this;cases this
  ·intro x hx j u hj
   have Aj:j<cs.length:=(List.getElem?_eq_some_iff.1 hj).1
   rw [h1.length] at Aj
   have CB:0<xs.length:=by
    cases xs with
    |nil=>simp at Aj
    |cons y ys=>simp
   have NL:=g2 CB
   rw [hx] at NL
   cases NL
   have hq:j/E.size<xs.length:=(Nat.div_lt_iff_lt_mul ek).2 Aj
   have hm:=Nat.mod_lt j ek
   have EN:j=j/E.size *E.size+j%E.size:=by rw [Nat.mul_comm];exact (Nat.div_add_mod j E.size).symm
   have e1:=h2 (j/E.size) (j%E.size) hq hm
   rw [←EN,hj] at e1
   have Jz:wE=E.size:=by rw [←g3 0 CB,IE 0 CB]
   have e2:=g4 (j/E.size) (j%E.size) hq (by rw [Jz];exact hm)
   rw [←e1,Jz,Nat.add_assoc,←EN] at e2
   have:=h.gM _ _ _ e2
   rw [Addr.add_mid];exact this
 ·simp only [aa] at hx
  have hx:[v]=[Value.slice none 0 0]:=hx
  simp at hx
  exact ⟨[],[],⟨rfl,none,0,hx,fun _=>rfl,by simp⟩,hK⟩
 ·rename_i f
  cases hf:aj st.ao f with
  |none=>simp [hf] at hK
  |some fo=>
   simp only [hf] at hK
   cases hb:Nat.beq fo.ty I.elem with
   |false=>simp [hb] at hK
   |true=>
    simp only [hb,cond_true] at hK
    have dg:=Nat.eq_of_beq_eq_true hb
    obtain ⟨hv,_⟩:=jn h hx hf
    obtain ⟨J,cells,hJ,_,b6,ia,_⟩:=(h.dA f fo hf).row
    rw [dg,hE] at hJ
    cases hJ
    refine ⟨fo.xs,cells,⟨ia,?_⟩,hK⟩
    rcases b6.2 with ⟨h1,h2⟩|⟨g,cap,dH,h1,_⟩
    ·exact ⟨none,0,by rw [hv,h1,h2],fun _=>List.eq_nil_of_length_eq_zero h2,by simp⟩
    ·refine ⟨some ⟨g,0,none⟩,cap,by rw [hv,h1],by simp,?_⟩
     intro x hx j u hj
     cases hx
     exact b6.cells (g:=g) (by rw [h1];rfl) j u hj
 ·simp at hK
end
end Dn
/-
  Appends. Conditions: none.
-/
set_option linter.unusedSimpArgs false
set_option linter.unusedVariables false
namespace Dn
open Go
section
variable {P:Program} {c:Ctx} {Z:aJ} {e e':Env} {st:St} {a:Act} {w w':World} {R:Type} {K:St→Option R} {r:R} {Q:Exit→Act→World→Prop} {o:Oper}
structure LO (w w':World) (el:TypeId) (size:Nat) (v v':Value) (n m:Nat) (cells news:List Value):Prop where
 own:w'.ownsRow 0 el size v' (n+m) (cells++news)
 size:w.heap.size≤w'.heap.size
 kZ: ∀k,k<w.heap.size→some k≠v.ownBlock→w'.heap[k]? =w.heap[k]?
 cell: ∀(k off:Nat) (u:Value),v.ownBlock=some k→off<cells.length→w.cell? ⟨k,off,none⟩=some u→w'.cell? ⟨k,off,none⟩=some u
 place:v'.ownBlock=v.ownBlock∨v'.ownBlock=some w.heap.size
 rest:Rest w w'
structure Gp (P:Program) (w:World) (u el:TypeId) (size:Nat) (x:Value) (m:Nat) (news:List Value):Prop where
 ty:P.underlying u=some (.slice el)∨P.underlying u=some .string
 len:Builtin.lenOf x=pure m
 now:(Builtin.firstCells size m x).run P w= .ok news.toArray w
 drew:(Builtin.firstCells size m x).run P w.drew= .ok news.toArray w.drew
 one: ∀y∈news,y.oneCell'=true
 nl:news.length=m *size
theorem Src.O1 {ys:List MV} {news:List Value} {x:Value} {u el:TypeId} {size:Nat} (hu:P.underlying u=some (.slice el)) (h:Src e w size x ys news):Gp P w u el size x ys.length news:=by
 obtain ⟨ad,cap,hx,uk,Gq⟩:=h.val
 have yv:=h.IF.length
 subst hx
 cases ad with
 |none=>
  have O2:=uk rfl
  subst O2
  have:news=[]:=List.eq_nil_of_length_eq_zero (by simpa using yv)
  subst this
  exact ⟨.inl hu,rfl,run_firstCells_none w _ _ _ _,run_firstCells_none w.drew _ _ _ _,h.IF.CA,yv⟩
 |some ad=>exact ⟨.inl hu,rfl,run_firstCells_some w _ _ _ _ _ _ yv (Gq ad rfl),run_firstCells_some w.drew _ _ _ _ _ _ yv (by simpa using Gq ad rfl),h.IF.CA,yv⟩
theorem Gp.str {u el:TypeId} (hu:P.underlying u=some .string) (b:ByteArray):Gp P w u el 1 (.string b) b.size (b.data.toList.map fun x=> .int .u8 (x.toNat:Int)):=by
 have hf: ∀w',(Builtin.firstCells 1 b.size (.string b)).run P w'= .ok (b.data.toList.map fun x=>Value.int .u8 (x.toNat:Int)).toArray w':=by
  intro w'
  have he:b.extract 0 b.size=b:=by
   apply ByteArray.ext
   rw [ByteArray.data_extract]
   exact Array.extract_eq_self_of_le (Nat.le_refl _)
  simp only [Builtin.firstCells,he,Sem.run_pure]
  congr 1
  apply Array.ext'
  simp
 exact ⟨.inr hu,rfl,hf w,hf w.drew,by simp [Value.oneCell'],by simp⟩
section
variable {t u ty el:TypeId} {i:TypeInfo} {z x:Value} {m:Nat} {news:List Value} (ht:P.underlying t=some (.slice el)) (hi:P.info? el=some i) (hz:i.zero=some z) (hx:Gp P w u el i.size x m news)
include ht hi hx
theorem E0 (h0:m=0):(Builtin.append_ #[t,u] ty #[.slice none 0 0,x]).run P w= .ok (.slice none 0 0) w:=by
 subst h0
 have hn:=hx.now
 have hl:=hx.len
 rcases hx.ty with hu|hu<;>simp [Builtin.append_,run_underlying ht,run_underlying hu,Go.sizeOf,typeInfo,hi,hl,hn]
theorem E1 {g j6 pk:Nat} {dH:Array Value} (hg:w.heap[g]? =some (.cells dH el (0,0))) (wN:j6+m≤pk) (Cn:j6 *i.size+news.length≤dH.size):
 (Builtin.append_ #[t,u] ty #[.slice (some ⟨g,0,none⟩) j6 pk,x]).run P w=
  .ok (.slice (some ⟨g,0,none⟩) (j6+m) pk) (w.setRow g (dH.toList.take (j6 *i.size)++news++dH.toList.drop (j6 *i.size+news.length)).toArray):=by
 have cK:=run_storeCells_at P g (j6 *i.size) el news 0 dH w hg (by simpa using Cn) hx.one
 simp only [Nat.add_zero] at cK
 have hn:=hx.now
 have hl:=hx.len
 rcases hx.ty with hu|hu<;>simp [Builtin.append_,run_underlying ht,run_underlying hu,Go.sizeOf,typeInfo,hi,hl,wN,hn,Addr.add_lit,cK]
include hz
theorem CC (h0:0<m) (NM:(m:Int)≤9223372036854775807) (O3:m *i.bytes≤281474976710656):
 (Builtin.append_ #[t,u] ty #[.slice none 0 0,x]).run P w= .ok (.slice (some ⟨w.heap.size,0,none⟩) m (grownCap w m 0 el)) (w.drew.alloc (.cells (news.toArray++Builtin.zeroCells z.cells (grownCap w m 0 el-m)) el)):=by
 have b7:m≠0:=by omega
 have Hv: ¬(9223372036854775807<(m:Int)):=by omega
 have Hw: ¬(281474976710656<Builtin.nextslicecap m 0 *i.bytes):=by rw [nextslicecap_zero h0];omega
 have hn:=hx.drew
 have hl:=hx.len
 rcases hx.ty with hu|hu<;>simp [Builtin.append_,run_underlying ht,run_underlying hu,Go.sizeOf,typeInfo,zeroValue,hi,hz,hl,b7,Hv,Hw,Question.forced,run_firstCells_none,hn,newRow,grownCap]
theorem zu {b:Addr} {j6 pk:Nat} {E3:List Value} (O4:E3.length=j6 *i.size) (holds: ∀j v,E3[j]? =some v→w.cell? (b.add j)=some v) (hg:pk<j6+m) (NM:((j6+m:Nat):Int)≤9223372036854775807)
 (Cn:Builtin.nextslicecap (j6+m) pk *i.bytes≤281474976710656):
 (Builtin.append_ #[t,u] ty #[.slice (some b) j6 pk,x]).run P w=
  .ok (.slice (some ⟨w.heap.size,0,none⟩) (j6+m) (grownCap w (j6+m) pk el)) (w.drew.alloc (.cells (E3.toArray++news.toArray++Builtin.zeroCells z.cells (grownCap w (j6+m) pk el-(j6+m))) el)):=by
 have b7: ¬(j6+m≤pk):=by omega
 have Hv: ¬(9223372036854775807<((j6:Int)+(m:Int))):=by omega
 have Hw: ¬(281474976710656<Builtin.nextslicecap (j6+m) pk *i.bytes):=by omega
 have O5:=run_firstCells_some (P:=P) w.drew i.size j6 b j6 pk E3 O4 (by simpa using holds)
 have hn:=hx.drew
 have hl:=hx.len
 rcases hx.ty with hu|hu<;>(simp [Builtin.append_,run_underlying ht,run_underlying hu,Go.sizeOf,typeInfo,zeroValue,hi,hz,hl,b7,Hv,Hw,Question.forced,hn,O5,newRow,grownCap];congr 2;apply Array.ext';simp [List.append_assoc])
end
theorem yw {t u ty:TypeId} {I E:TI} {v x:Value} {n m:Nat} {cells news:List Value} (hu:P.underlying t=some (.slice I.elem)) (hE:c.ti I.elem=some E) (oX:E.a7=[]) (ek:0<E.size)
 (hT:fp P c.ti) (ng:1≤E.bytes) (b6:w.ownsRow 0 I.elem E.size v n cells) (hx:Gp P w u I.elem E.size x m news) (ft:(n+m) *E.bytes≤2^46):
 ∃v' w',(Builtin.append_ #[t,u] ty #[v,x]).run P w= .ok v' w'∧LO w w' I.elem E.size v v' n m cells news:=by
 obtain ⟨i,z,hi,hs,IG,hz,Er⟩:=nD (hT _ E hE) oX
 rw [←hs] at hx b6 Er ek⊢
 rw [←IG] at ft ng
 have hle:n+m≤2^46:=Nat.le_trans (Nat.le_mul_of_pos_right _ ng) ft
 have JA:n+m≤Go.maxLen:=by unfold Go.maxLen;omega
 have yv:=hx.nl
 have hlen:(cells++news).length=(n+m) *i.size:=by rw [List.length_append,b6.1,yv,Nat.add_mul]
 have grown: ∀(kZ:Nat),kZ<n+m→
  (w.drew.alloc (.cells (cells.toArray++news.toArray++Builtin.zeroCells z.cells (grownCap w (n+m) kZ I.elem-(n+m))) I.elem)).ownsRow 0 I.elem i.size
   (.slice (some ⟨w.heap.size,0,none⟩) (n+m) (grownCap w (n+m) kZ I.elem)) (n+m) (cells++news):=by
  intro kZ ho
  refine ⟨hlen,.inr ⟨w.heap.size,_,_,rfl,Nat.zero_le _,eY w.drew _,grownCap_ge w (n+m) kZ I.elem,grownCap_le_maxLen w (n+m) kZ I.elem JA,?_,?_⟩⟩
  ·have As:=grownCap_ge w (n+m) kZ I.elem
   simp only [Array.size_append,List.size_toArray,size_zeroCells,Er,b6.1,yv,←Nat.add_mul]
   congr 1
   omega
  ·simp only [Array.toList_append,List.append_assoc]
   rw [←List.append_assoc,←hlen]
   exact List.take_left
 have rest: ∀cs:Array Value,Rest w (w.drew.alloc (.cells cs I.elem)):=fun cs=>⟨rfl,rfl,rfl,fun p=>(Rest.alloc w.drew cs I.elem).2.2.2 p⟩
 rcases b6.2 with ⟨rfl,rfl⟩|⟨g,cap,dH,rfl,_,hg,QO,Bv,pf,ES⟩
 ·have LP:cells=[]:=List.eq_nil_of_length_eq_zero (by simpa using b6.1)
  subst LP
  by_cases hm:m=0
  ·have O6:news=[]:=List.eq_nil_of_length_eq_zero (by rw [yv,hm,Nat.zero_mul])
   subst O6
   refine ⟨_,_,E0 hu hi hx hm,⟨?_,Nat.le_refl _,fun _ _ _=>rfl,(fun _ _ _ hk=>by cases hk),.inl rfl,.refl _⟩⟩
   rw [hm];exact World.ownsRow_nil w 0 I.elem i.size
  ·simp only [Nat.zero_add] at ft hle JA
   have hr:=CC (ty:=ty) hu hi hz hx (by omega) (by omega) (by omega)
   have BC:=grown 0 (by omega)
   simp only [Nat.zero_add,List.nil_append,Array.empty_append] at BC⊢
   exact ⟨_,_,hr,⟨by simpa using BC,by simp,fun k hk _=>lJ w.drew _ k hk,(fun _ _ _ hk=>by cases hk),.inr rfl,rest _⟩⟩
 ·by_cases wN:n+m≤cap
  ·have Cn:n *i.size+news.length≤dH.size:=by rw [yv,pf,←Nat.add_mul];exact Nat.mul_le_mul_right _ wN
   have hr:=E1 (ty:=ty) hu hi hx hg wN Cn
   have JB:=setRow_heap w g dH (dH.toList.take (n *i.size)++news++dH.toList.drop (n *i.size+news.length)).toArray I.elem _ hg
   refine ⟨_,_,hr,⟨⟨hlen,.inr ⟨g,cap,_,rfl,Nat.zero_le _,JB,wN,Bv,?_,?_⟩⟩,by simp,fun k _ hk=>setRow_other w g k _ (fun he=>hk (by simp [Value.ownBlock,he])),?_,.inl rfl,Rest.setRow w g _⟩⟩
   ·simp only [List.size_toArray,List.length_append,List.length_take,List.length_drop,Array.length_toList]
    omega
   ·rw [ES,←hlen]
    exact List.take_left
   ·intro k off y hk rT hc
    have LQ:k=g:=by simp [Value.ownBlock] at hk;exact hk.symm
    subst LQ
    rw [cell_of hg] at hc
    rw [cell_of JB]
    have JC:off<(dH.toList.take (n *i.size)).length:=by rw [ES];exact rT
    rw [List.getElem?_toArray,List.append_assoc,List.getElem?_append_left JC,List.getElem?_take]
    have:off<n *i.size:=by rw [←b6.1];exact rT
    rw [if_pos this];simpa using hc
  ·have holds: ∀j y,cells[j]? =some y→w.cell? ((⟨g,0,none⟩:Addr).add j)=some y:=b6.cells (g:=g) rfl
   have hr:=zu (ty:=ty) (pk:=cap) hu hi hz hx b6.1 holds (by omega) (by omega) (growslice_fits (by omega) (by omega))
   refine ⟨_,_,hr,⟨grown cap (by omega),by simp,fun k hk _=>lJ w.drew _ k hk,?_,.inr rfl,rest _⟩⟩
   intro k off y hk rT hc
   have LQ:k=g:=by simp [Value.ownBlock] at hk;exact hk.symm
   subst LQ
   rw [World.cell?_of_block (lJ w.drew _ k (aH hg))]
   exact hc
theorem wO {t u ty:TypeId} {I E:TI} {ad:Option Addr} {x:Value} {n m:Nat} {cells news:List Value} (hu:P.underlying t=some (.slice I.elem)) (hE:c.ti I.elem=some E) (oX:E.a7=[])
 (hT:fp P c.ti) (ng:1≤E.bytes) (km:cells.length=n *E.size) (CD:ad=none→n=0) (aD: ∀y,ad=some y→ ∀(j:Nat) (v:Value),cells[j]? =some v→w.cell? (y.add j)=some v)
 (hx:Gp P w u I.elem E.size x m news) (hm:0<m) (ft:(n+m) *E.bytes≤2^46):
 ∃v' w',(Builtin.append_ #[t,u] ty #[.slice ad n n,x]).run P w= .ok v' w'∧w'.ownsRow 0 I.elem E.size v' (n+m) (cells++news)∧v'.ownBlock=some w.heap.size∧bH w w':=by
 obtain ⟨i,z,hi,hs,IG,hz,Er⟩:=nD (hT _ E hE) oX
 rw [←hs] at hx km Er⊢
 rw [←IG] at ft ng
 have hle:n+m≤2^46:=Nat.le_trans (Nat.le_mul_of_pos_right _ ng) ft
 have JA:n+m≤Go.maxLen:=by unfold Go.maxLen;omega
 have yv:=hx.nl
 have hlen:(cells++news).length=(n+m) *i.size:=by rw [List.length_append,km,yv,Nat.add_mul]
 have grown: ∀(kZ:Nat),kZ<n+m→
  (w.drew.alloc (.cells (cells.toArray++news.toArray++Builtin.zeroCells z.cells (grownCap w (n+m) kZ I.elem-(n+m))) I.elem)).ownsRow 0 I.elem i.size
   (.slice (some ⟨w.heap.size,0,none⟩) (n+m) (grownCap w (n+m) kZ I.elem)) (n+m) (cells++news):=by
  intro kZ ho
  refine ⟨hlen,.inr ⟨w.heap.size,_,_,rfl,Nat.zero_le _,eY w.drew _,grownCap_ge w (n+m) kZ I.elem,grownCap_le_maxLen w (n+m) kZ I.elem JA,?_,?_⟩⟩
  ·have As:=grownCap_ge w (n+m) kZ I.elem
   simp only [Array.size_append,List.size_toArray,size_zeroCells,Er,km,yv,←Nat.add_mul]
   congr 1
   omega
  ·simp only [Array.toList_append,List.append_assoc]
   rw [←List.append_assoc,←hlen]
   exact List.take_left
 have rest: ∀cs:Array Value,Rest w (w.drew.alloc (.cells cs I.elem)):=fun cs=>⟨rfl,rfl,rfl,fun p=>(Rest.alloc w.drew cs I.elem).2.2.2 p⟩
 have BC: ∀cs:Array Value,bH w (w.drew.alloc (.cells cs I.elem)):=fun cs=>⟨by simp,fun k hk=>lJ w.drew _ k hk,rest cs⟩
 cases ad with
 |none=>
  have hn:=CD rfl
  subst hn
  have LP:cells=[]:=List.eq_nil_of_length_eq_zero (by simpa using km)
  subst LP
  simp only [Nat.zero_add] at ft hle JA
  have hr:=CC (ty:=ty) hu hi hz hx (by omega) (by omega) (by omega)
  have Hx:=grown 0 (by omega)
  simp only [Nat.zero_add,List.nil_append,Array.empty_append] at Hx⊢
  exact ⟨_,_,hr,by simpa using Hx,rfl,BC _⟩
 |some b=>
  have hr:=zu (ty:=ty) (pk:=n) hu hi hz hx km (fun j v hj=>aD b rfl j v hj) (by omega) (by omega) (growslice_fits (by omega) (by omega))
  exact ⟨_,_,hr,grown n (by omega),rfl,BC _⟩
end
end Dn
