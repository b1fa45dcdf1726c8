import GoSem.Dispatch
import Derived.Orders
import Derived.Calls
import Derived.Laws.AppendOwn
import Derived.Laws.AppendOwnNone
import Derived.Deep.MidRow
import Derived.Laws.Strings
import Derived.Laws.Tables
import Derived.Great.FillDense
import Derived.Maps.AppendAt
import Derived.Great.BuildSlice
/-
  An abstract run of Go functions over values that no one changes: definitions. Conditions: none.
-/
set_option linter.unusedVariables false
namespace Dn
open Go
structure kE where
 l:List UInt8
 h:l.length=32
theorem kE.ext' {a b:kE} (e:a.l=b.l):a=b:=by cases a;cases b;cases e;rfl
instance:DecidableEq kE:=fun a b=>if e:a.l=b.l then .isTrue (kE.ext' e) else .isFalse (fun h=>e (by rw [h]))
def kE.zero:kE:=⟨[0,0,0,0,0,0,0,0,0,0,0,0,0,0,0,0,0,0,0,0,0,0,0,0,0,0,0,0,0,0,0,0],rfl⟩
def kE.put (x:kE) (i:Nat) (b:UInt8):kE:=⟨x.l.set i b,by simp [x.h]⟩
inductive MV where
 |b (x:Bool)
 |i (k:IntKind) (n:Int)
 |s (l:List UInt8)
 |h (x:kE)
 |raw (v:Value)
 |list (xs:List MV)
 |agg (cs:List MV)
 |cN (vs:List MV)
 |func (f:Nat) (cap:List MV)
 |rp (cs:List MV)
 |fresh (xs:List MV)
 |cell (m:MV)
 |ey (r:MV) (outs:List MV)
instance:Inhabited MV:=⟨.b false⟩
mutual
def MV.w:MV→Nat
 | .h _=>32
 | .agg cs=>MV.wl cs
 |_=>1
def MV.wl:List MV→Nat
 |[]=>0
 |m::r=>m.w+MV.wl r
end
def tk (n:Nat) (l:List MV):Bool:=l.all fun m=>Nat.beq m.w n
inductive Kd where
 |b|i (k:IntKind)|s|l|h|raw
structure MS where
 st:Bool
 lay:List Kd
 b:Bool
def MS.it:MS:=⟨true,[],true⟩
def Dt (s:MS):Bool:=match s.lay with
 |[]=>s.st
 |_=>false
inductive aG where
 |un
 |p (m:MV)
 |hs (x:kE)
 |nil
 |own (iT:Nat)
 |mp (s:MS) (es:List MV)
def aG.w:aG→Nat
 | .hs _=>32
 |_=>1
inductive Slot where
 |skip
 |sc (l:aG)
 |ag (cs:List aG)
 |cN (vs:List Slot)
 |box (cs:List aG)
 |wZ (cs:List aG)
 |ptr (root off:Nat)
 |w8 (root:Nat)
 |rp (cs:List aG) (off:Nat)
 |hp (root off:Nat) (i:Nat)
 |ep (iT:Nat) (i:Nat) (off:Nat) (st:Bool) (cs:List aG)
abbrev Fr:=List (Nat×Slot)
structure TI where
 st:Bool
 size:Nat
 bytes:Nat
 lay:List Kd
 zero:List aG
 yV:List Nat
 QV:List Nat
 elem:Nat
 cO:List Nat
section
variable {R:Type}
def gB (m:MV) (K:Bool→Option R):Option R:=match m with| .b x=>K x|_=>none
def gI (k:IntKind) (m:MV) (K:Int→Option R):Option R:=match m with| .i k' n=>bif decide (k'=k) then K n else none|_=>none
def gS (m:MV) (K:List UInt8→Option R):Option R:=match m with| .s l=>K l|_=>none
def gL (m:MV) (K:List MV→Option R):Option R:=match m with| .list l=>K l|_=>none
def gH (m:MV) (K:kE→Option R):Option R:=match m with| .h l=>K l|_=>none
def gA (m:MV) (K:List MV→Option R):Option R:=match m with| .agg l=>K l|_=>none
def gT (m:MV) (K:List MV→Option R):Option R:=match m with| .cN l=>K l|_=>none
def gF (m:MV) (K:List MV→Option R):Option R:=match m with| .fresh l=>K l|_=>none
def Ny (m:MV) (K:Nat→List MV→Option R):Option R:=match m with| .func f c=>K f c|_=>none
def gW (m:MV) (K:MV→List MV→Option R):Option R:=match m with| .ey r outs=>K r outs|_=>none
def gP (m:MV) (K:List MV→Option R):Option R:=match m with| .rp c=>K c|_=>none
def gCx (m:MV) (K:Nat→Nat→Option R):Option R:=match m with| .raw (.complex .f64 a b)=>K a b|_=>none
def gR (m:MV) (K:MV→Option R):Option R:=match m with| .raw v=>K (.raw v)| .func f c=>K (.func f c)| .rp c=>K (.rp c)|_=>none
def gC (l:List MV) (K:MV→List MV→Option R):Option R:=match l with|m::r=>K m r|[]=>none
def gN (l:List MV) (K:Option R):Option R:=match l with|[]=>K|_=>none
def bd {α:Type} (x:Option α) (K:α→Option R):Option R:=match x with|some a=>K a|none=>none
def aa9 (l:List MV) (i:Int):Option MV:=if 0≤i then l[i.toNat]? else none
def idx (l:List MV) (i:Int) (K:MV→Option R):Option R:=
 match aa9 l i with|some x=>K x|none=>none
def cU (c:Bool) (K:Option R):Option R:=match c with|true=>K|false=>none
def a7 (c:Bool) (x y:Option R):Option R:=match c with|true=>x|false=>y
def G3:List Nat→Nat→(Nat→Option R)→Option R
 |[],_,_=>none
 |[p],e,K=>bif Nat.beq e p then K p else none
 |p::q::r,e,K=>bif Nat.beq e p then K p else G3 (q::r) e K
def jO (k:Kd) (m:MV) (K:aG→Option R):Option R:=
 match k with
 | .b=>gB m fun x=>K (.p (.b x))
 | .i k=>gI k m fun x=>K (.p (.i k x))
 | .s=>gS m fun x=>K (.p (.s x))
 | .l=>gL m fun x=>K (.p (.list x))
 | .h=>gH m fun x=>K (.hs x)
 | .raw=>gR m fun m=>K (.p m)
def sv:List Kd→List MV→(List aG→Option R)→Option R
 |[],l,K=>gN l (K [])
 |k::ks,l,K=>gC l fun m r=>jO k m fun x=>sv ks r fun xs=>K (x::xs)
end
def iter {σ R:Type} (body:σ→Option (Sum σ R)):Nat→σ→Option R
 |0,_=>none
 |n+1,s=>match body s with
  |some (.inl s')=>iter body n s'
  |some (.inr r)=>some r
  |none=>none
open Classical in
noncomputable def Loop {σ R:Type} (body:σ→Option (Sum σ R)) (s:σ):Option R:=
 if h: ∃r n,iter body n s=some r then some (Classical.choose h) else none
def ao:Fr→Nat→Slot
 |[],_=> .sc .un
 |(k,s)::r,t=>bif Nat.beq k t then s else ao r t
def G4 {R:Type}:Fr→Nat→Slot→(Fr→Option R)→Option R
 |[],t,v,K=>K [(t,v)]
 |(k,s)::r,t,v,K=>bif Nat.beq k t then K ((k,v)::r) else G4 r t v fun r=>K ((k,s)::r)
def force {R:Type} (s:Slot) (K:Slot→Option R):Option R:=match s with
 | .skip=>K .skip
 | .sc l=>K (.sc l)
 | .ag cs=>K (.ag cs)
 | .cN vs=>K (.cN vs)
 | .box cs=>K (.box cs)
 | .wZ cs=>K (.wZ cs)
 | .ptr r o=>K (.ptr r o)
 | .w8 r=>K (.w8 r)
 | .rp cs o=>K (.rp cs o)
 | .hp r o i=>K (.hp r o i)
 | .ep f i o b cs=>K (.ep f i o b cs)
def bE:List Nat→Nat→Bool
 |[],_=>false
 |k::r,t=>bif Nat.beq k t then true else bE r t
def zo (t:Nat):Bool:=Nat.ble 1000000 t
def posOf (t:Nat):Nat:=(t-1000000)%1000
def K8 (t:Nat):Nat:=(t-1000000)/1000
def plk:List (Nat×Nat)→Nat→Option Nat
 |[],_=>none
 |(k,x)::r,t=>bif Nat.beq k t then some x else plk r t
def dp:Slot→Bool
 | .ptr _ _| .hp _ _ _| .ep _ _ _ _ _| .rp _ _| .w8 _=>true
 |_=>false
def tQ {R:Type} (ds:List Nat):Fr→(Fr→Option R)→Option R
 |[],K=>K []
 |(k,s)::r,K=>bif dp s||bE ds k then tQ ds r K else tQ ds r fun r=>K ((k,s)::r)
def cP:Slot→Bool
 | .box _| .wZ _=>true
 |_=>false
def pick {R:Type} (ks:List Nat):Fr→(Fr→Option R)→Option R
 |[],K=>K []
 |(k,s)::r,K=>bif bE ks k&&!dp s then pick ks r fun r=>K ((k,s)::r) else pick ks r K
structure nm where
 ty:Nat
 eo:Bool
 xs:List MV
structure St where
 ct:List Nat
 cu:List Nat
 fr:Fr
 aV:List (Nat×nm)
def aO:List (Nat×nm)→Nat→Option nm
 |[],_=>none
 |(k,s)::r,t=>bif Nat.beq k t then some s else aO r t
def Nz {R:Type}:List (Nat×nm)→Nat→nm→(List (Nat×nm)→Option R)→Option R
 |[],t,v,K=>K [(t,v)]
 |(k,s)::r,t,v,K=>bif Nat.beq k t then K ((k,v)::r) else Nz r t v fun r=>K ((k,s)::r)
def kB (a b:IntKind):Bool:=decide (a=b)
def kdB:Kd→Kd→Bool
 | .b,.b=>true
 | .i k,.i k'=>kB k k'
 | .s,.s=>true
 | .l,.l=>true
 | .h,.h=>true
 | .raw,.raw=>true
 |_,_=>false
def Du:List Kd→List Kd→Bool
 |[],[]=>true
 |x::xs,y::ys=>kdB x y&&Du xs ys
 |_,_=>false
def msB (s t:MS):Bool:=(s.st==t.st)&&(Du s.lay t.lay&&(s.b==t.b))
def uT {R:Type} (f:Nat):List aG→(List aG→Option R)→Option R
 |[],K=>K []
 |l::r,K=>(match l with
  | .own g=>bif Nat.beq g f then uT f r fun r=>K (.un::r) else uT f r fun r=>K (.own g::r)
  |l=>uT f r fun r=>K (l::r))
def HR {R:Type} (f:Nat) (s:Slot) (K:Slot→Option R):Option R:=match s with
 | .sc (.own g)=>bif Nat.beq g f then K (.sc .un) else K (.sc (.own g))
 | .ag cs=>uT f cs fun cs=>K (.ag cs)
 | .box cs=>uT f cs fun cs=>K (.box cs)
 | .ep g i o b cs=>bif Nat.beq g f then K (.sc .un) else K (.ep g i o b cs)
 |s=>K s
def kFr {R:Type} (f:Nat):Fr→(Fr→Option R)→Option R
 |[],K=>K []
 |(k,s)::r,K=>HR f s fun s=>kFr f r fun r=>K ((k,s)::r)
section
variable {R:Type}
def qU (st:St) (l:aG) (K:MV→St→Option R):Option R:=
 match l with
 | .un=>none
 | .p m=>K m st
 | .hs x=>K (.h x) st
 | .nil=>K (.list []) st
 | .mp _ _=>none
 | .own f=>match aO st.aV f with
  |some o=>bif o.eo then K (.list o.xs) st else bif bE st.cu f then none else (match st with|⟨p,q,r,m⟩=>Nz m f ⟨o.ty,true,o.xs⟩ fun m=>K (.list o.xs) ⟨p,q,r,m⟩)
  |none=>none
def pc (st:St):List aG→(List MV→St→Option R)→Option R
 |[],K=>K [] st
 |l::r,K=>qU st l fun m st=>pc st r fun ms st=>K (m::ms) st
def lM (st:St) (s:Slot) (K:MV→St→Option R):Option R:=
 match s with
 | .sc l=>qU st l K
 | .ag cs=>pc st cs fun ms st=>K (.agg ms) st
 | .rp cs off=>bif Nat.beq off 0 then pc st cs fun ms st=>K (.rp ms) st else none
 |_=>none
def uU (st:St):List Slot→(List MV→St→Option R)→Option R
 |[],K=>K [] st
 |l::r,K=>lM st l fun m st=>uU st r fun ms st=>K (m::ms) st
end
def w9:List aG→Nat
 |[]=>0
 |k::r=>k.w+w9 r
def cut:List aG→Nat→Option (List aG)
 |cs,0=>some cs
 |c::cs,n+1=>bif Nat.ble c.w (n+1) then cut cs (n+1-c.w) else none
 |_,_=>none
def K9:List aG→Nat→Option (List aG)
 |_,0=>some []
 |c::cs,n+1=>bif Nat.ble c.w (n+1) then (match K9 cs (n+1-c.w) with|some b=>some (c::b)|none=>none) else none
 |_,_=>none
def part (cs:List aG) (off n:Nat):Option (List aG):=
 match cut cs off with
 |some a=>K9 a n
 |none=>none
def over:List aG→List aG→Option (List aG)
 |[],cs=>some cs
 |v::vs,c::cs=>bif Nat.beq v.w c.w then (match over vs cs with|some r=>some (v::r)|none=>none) else none
 |_,[]=>none
def putAt:List aG→Nat→List aG→Option (List aG)
 |cs,0,vs=>over vs cs
 |c::cs,n+1,vs=>bif Nat.ble c.w (n+1) then (match putAt cs (n+1-c.w) vs with|some r=>some (c::r)|none=>none) else none
 |_,_,_=>none
def app {α:Type}:List α→List α→Option (List α)
 |[],l=>some l
 |x::r,l=>(match app r l with|some q=>some (x::q)|none=>none)
def La:aG→Bool
 | .un=>true
 | .mp _ _=>true
 |_=>false
def eV:List aG→Bool
 |[.mp _ _]=>true
 |_=>false
def BO:Slot→Bool
 | .box cs=>!eV cs
 |_=>false
def Ec {R:Type} (ok:Nat→Bool) (r0:Fr):Fr→Fr→(Fr→Option R)→Option R
 |[],fr,K=>K fr
 |(t,s)::r,fr,K=>match s with
  | .ptr root off=>bif ok t&&(!zo root&&(BO (ao r0 root)&&(BO (ao fr root)&&!cP (ao fr t)))) then G4 fr t (.ptr root off) fun fr=>Ec ok r0 r fr K else Ec ok r0 r fr K
  |_=>Ec ok r0 r fr K
def kH:List aG→Bool
 |[.mp s _]=>!Dt s
 |_=>false
def tR:List aG→Bool
 |[]=>false
 |l::r=>bif La l then true else tR r
def kEp {R:Type} (f:Nat):Fr→(Fr→Option R)→Option R
 |[],K=>K []
 |(k,s)::r,K=>(match s with
  | .ep g i o b cs=>bif Nat.beq g f then kEp f r fun r=>K ((k,.sc .un)::r) else kEp f r fun r=>K ((k,.ep g i o b cs)::r)
  |s=>kEp f r fun r=>K ((k,s)::r))
inductive LK where
 |k (x:Kd)
 |own (f:Nat) (ty:Nat) (eo:Bool)
inductive OK where
 |sc (l:LK)
 |ag (ls:List LK)
 |box (ls:List LK)
 |mp (s:MS)
 |pt (root off:Nat)
structure qV where
 ct:List Nat
 cu:List Nat
 outs:List (Nat×OK)
 exo:List (Nat×List (Nat×OK))
 eo:List Nat
instance:Inhabited qV:=⟨⟨[],[],[],[],[]⟩⟩
def Tf:List (Nat×List (Nat×OK))→Nat→List (Nat×OK)
 |[],_=>[]
 |(k,l)::r,e=>bif Nat.beq k e then l else Tf r e
def qV.ex (h:qV) (e:Nat):List (Nat×OK):=Tf h.exo e
def PE:List (Nat×List (Nat×OK))→List (Nat×OK)
 |[]=>[]
 |(_,l)::r=>l++PE r
def qV.all (h:qV):List (Nat×OK):=h.outs++PE h.exo
structure Ctx where
 ti:Nat→Option TI
 key:Nat→Nat
 g:Nat→List MV→Option MV
 eB:Nat→Bool
 fresh:Nat→Bool
 r7:Nat→Nat
 sig:Nat→Option (Nat×List LK)
 par:List (Nat×Nat)
 n:Nat
 bs:List Nat
 fl:List Nat
 fz:Nat→List Nat
 fk:Nat→Option FloatKind
 mt:Nat→Option (Nat×Bool)
 ord:Nat→List Nat
 KZ:Nat→qV
 Jw:Nat→qV
 G5:Nat→qV
 Jx:Nat→Bool
 dyn:List Nat
def Ctx.tv (c:Ctx) (t:Nat):Option TI:=match c.ti t with|some I=>(match I.cO with|[]=>some I|_=>none)|none=>none
def yd:Value→Slot
 | .bool b=> .sc (.p (.b b))
 | .int k n=> .sc (.p (.i k n))
 | .string s=> .sc (.p (.s s.data.toList))
 | .slice none 0 0=> .sc .nil
 | .float k b=> .sc (.p (.raw (.float k b)))
 | .complex k a b=> .sc (.p (.raw (.complex k a b)))
 | .pointer none=> .sc (.p (.raw (.pointer none)))
 | .nilFunc=> .sc (.p (.raw .nilFunc))
 | .nilIface=> .sc (.p (.raw .nilIface))
 |_=> .sc .un
def aT (c:Ctx) (st:St):Operand→Slot
 | .tmp t=>match plk c.par t with
  |some q=>bif zo q&&Nat.beq (posOf q) t then (match ao st.fr q with| .box cs=>bif eV cs then .sc .un else .ptr q (K8 q)|_=> .sc .un) else .sc .un
  |none=>match ao st.fr t with
   | .box cs=>bif zo t then .sc .un else bif kH cs then .w8 t else .ptr t 0
   | .wZ cs=> .rp cs 0
   |s=>s
 | .const v=>yd v
 | .func f=> .sc (.p (.func (c.key f) []))
 | .global _=> .sc .un
def iX (c:Ctx) (st:St):List Operand→List Slot
 |[]=>[]
 |o::r=>aT c st o::iX c st r
section
variable {R:Type}
def wr (st:St) (d:Nat) (s:Slot) (K:St→Option R):Option R:=
 bif bE st.ct d then none else (match st with|⟨p,q,r,m⟩=>force s fun s=>G4 r d s fun r=>K ⟨p,q,r,m⟩)
def bw (c:Ctx) (st:St) (d:Option Nat) (s:Slot) (K:St→Option R):Option R:=
 match d with
 |some d=>bif zo d||(Nat.ble c.n d||cP (ao st.fr d)) then none else wr st d s K
 |none=>K st
def jy (st:St) (f:Nat) (o:nm) (K:St→Option R):Option R:=
 bif bE st.cu f then none else (match st with|⟨p,q,r,m⟩=>kFr f r fun r=>Nz m f o fun m=>K ⟨p,q,r,m⟩)
def jP (I:TI) (cs:List aG) (off:Nat) (K:Slot→Option R):Option R:=
 bif I.st then (match part cs off I.size with|some a=>K (.ag a)|none=>none)
 else (match cut cs off with|some (l::_)=>bif Nat.beq l.w I.size then K (.sc l) else none|_=>none)
def ldK (st:St) (I:TI) (a:Slot) (K:Slot→Option R):Option R:=
 match a with
 | .ptr root off=>match ao st.fr root with
  | .box cs=>bif eV cs then none else jP I cs off K
  |_=>none
 | .rp cs off=>jP I cs off K
 | .ep f _ off _ cs=>(match aO st.aV f with|some _=>jP I cs off K|none=>none)
 | .hp root off i=>bif I.st||!Nat.beq I.size 1 then none else (match ao st.fr root with
  | .box cs=>bif eV cs then none else (match cut cs off with|some (.hs x::_)=>K (.sc (.p (.i .u8 (x.l.getD i 0).toNat)))|_=>none)
  |_=>none)
 |_=>none
def aP:Slot→List aG
 | .sc l=>[l]
 | .ag cs=>cs
 |_=>[]
def bH:List aG→Option (List MV)
 |[]=>some []
 |l::r=>match l,bH r with
  | .p m,some q=>some (m::q)
  | .hs x,some q=>some (.h x::q)
  |_,_=>none
def pS:List aG→List MV→Option (List aG)
 |[],[]=>some []
 | .hs x::r,_::ms=>(match pS r ms with|some q=>some (.hs x::q)|none=>none)
 |_::r,m::ms=>(match pS r ms with|some q=>some (.p m::q)|none=>none)
 |_,_=>none
def tl (b:Bool) (cs:List MV):Option MV:=match b,cs with
 |false,[m]=>some m
 |true,cs=>some (.agg cs)
 |_,_=>none
def isByte (n:Int):Bool:=decide (n=((UInt8.ofNat n.toNat).toNat:Int))
def stK (st:St) (I:TI) (a v:Slot) (K:St→Option R):Option R:=
 bif tR (aP v)||!Nat.beq (w9 (aP v)) I.size then none else
 match a with
 | .ptr root off=>match ao st.fr root with
  | .box cs=>bif eV cs then none else (match putAt cs off (aP v) with|some fL=>wr st root (.box fL) K|none=>none)
  |_=>none
 | .hp root off i=>match ao st.fr root,v with
  | .box cs,.sc (.p n)=>bif eV cs then none else (match cut cs off with
   |some (.hs x::_)=>gI .u8 n fun n=>cU (isByte n) (match putAt cs off [.hs (x.put i (UInt8.ofNat n.toNat))] with|some fL=>wr st root (.box fL) K|none=>none)
   |_=>none)
  |_,_=>none
 | .ep f i off b cs=>pc st (aP v) fun ms st=>match aO st.aV f with
  |some o=>bif o.eo then none else
   (match pS (aP v) ms with
   |some vs=>(match putAt cs off vs with
    |some fL=>(match bH fL with
     |some ms'=>(match tl b ms' with
      |some x=>bif bE st.cu f then none else
       (match st with|⟨p,q,r,m⟩=>kEp f r fun r=>Nz m f ⟨o.ty,false,o.xs.set i x⟩ fun m=>K ⟨p,q,r,m⟩)
      |none=>none)
     |none=>none)
    |none=>none)
   |none=>none)
  |none=>none
 |_=>none
def Jy (I:TI) (x:MV) (K:List aG→Option R):Option R:=
 bif I.st then gA x fun cs=>sv I.lay cs K
 else match I.lay with
  |[k]=>jO k x fun x=>K [x]
  |_=>none
def CH (I:TI) (x:MV) (K:Slot→Option R):Option R:=
 bif I.st then gA x fun cs=>sv I.lay cs fun cs=>K (.ag cs)
 else match I.lay with
  |[k]=>jO k x fun x=>K (.sc x)
  |_=>none
def Ed (c:Ctx):List Nat→List MV→(List Slot→Option R)→Option R
 |[],l,K=>gN l (K [])
 |t::ts,l,K=>match c.tv t with
  |some I=>gC l fun m r=>CH I m fun s=>Ed c ts r fun ss=>K (s::ss)
  |none=>none
def qn (c:Ctx) (I:TI) (x:MV) (K:Slot→Option R):Option R:=
 match I.cO with
 |[]=>CH I x K
 |ts=>gT x fun vs=>Ed c ts vs fun ss=>K (.cN ss)
def BP:aG→aG→Option Bool
 | .p (.b x),.p (.b y)=>some (decide (x=y))
 | .p (.i k x),.p (.i k' y)=>bif decide (k=k') then some (decide (x=y)) else none
 | .p (.s x),.p (.s y)=>some (decide (x=y))
 | .hs x,.hs y=>some (decide (x=y))
 |_,_=>none
def iY:List aG→List aG→Option Bool
 |[],[]=>some true
 |[x],[y]=>BP x y
 |x::xs,y::ys=>match BP x y,iY xs ys with
  |some a,some b=>some (a&&b)
  |_,_=>none
 |_,_=>none
def Jz (op:BinOp) (x y:List UInt8):Option MV:=
 match op with
 | .eql=>some (.b (decide (x=y)))
 | .neq=>some (.b (!decide (x=y)))
 | .lss=>some (.b (Op.bytesLess x y))
 | .gtr=>some (.b (!(Op.bytesLess x y||decide (x=y))))
 | .leq=>some (.b (Op.bytesLess x y||decide (x=y)))
 | .geq=>some (.b (!Op.bytesLess x y))
 |_=>none
def PF (op:BinOp) (k:IntKind) (x y:Int):Option MV:=
 match op with
 | .add=>some (.i k (k.wrap (x+y)))
 | .sub=>some (.i k (k.wrap (x-y)))
 | .mul=>some (.i k (k.wrap (x *y)))
 | .eql=>some (.b (decide (x=y)))
 | .neq=>some (.b (!decide (x=y)))
 | .lss=>some (.b (decide (x<y)))
 | .leq=>some (.b (decide (x≤y)))
 | .gtr=>some (.b (decide (y<x)))
 | .geq=>some (.b (decide (y≤x)))
 |_=>none
def mJ:Kd→aG→Bool
 | .b,.p (.b _)=>true
 | .i k,.p (.i k' _)=>decide (k'=k)
 | .s,.p (.s _)=>true
 | .h,.hs _=>true
 |_,_=>false
def eR:List Kd→List aG→Bool
 |[],[]=>true
 |k::ks,l::ls=>bif mJ k l then eR ks ls else false
 |_,_=>false
def lN (st:Bool):Slot→Bool
 | .ag _=>st
 | .sc _=>!st
 |_=>false
def adO (op:BinOp) (a b:Nat):Option Nat:=match op with
 | .add=>FloatKind.f64.format.add a b
 | .sub=>FloatKind.f64.format.sub a b
 | .mul=>FloatKind.f64.format.mul a b
 |_=>none
def aba (oI:Option TI) (op:BinOp) (x y:Slot) (K:Slot→Option R):Option R:=
 match x,y with
 | .sc (.p (.i k a)),.sc (.p (.i k' b))=>
  (match op with
   | .quo=>bif decide (k=k') then cU (!decide (b=0)) (K (.sc (.p (.i k (k.wrap (a.tdiv b)))))) else none
   | .rem=>bif decide (k=k') then cU (!decide (b=0)) (K (.sc (.p (.i k (a.tmod b))))) else none
   | .shr=>cU (decide (0≤b)) (K (.sc (.p (.i k (a.fdiv (2^min b.toNat k.bits))))))
   | .shl=>cU (decide (0≤b)) (K (.sc (.p (.i k (k.wrap (a *2^min b.toNat k.bits))))))
   |_=>bif decide (k=k') then (match PF op k a b with|some m=>K (.sc (.p m))|none=>none) else none)
 | .sc (.p (.s a)),.sc (.p (.s b))=>(match op with
  | .add=>cU (decide (a.length+b.length≤2^46)) (K (.sc (.p (.s (a++b)))))
  |_=>(match Jz op a b with|some m=>K (.sc (.p m))|none=>none))
 | .sc (.p (.raw (.float .f64 a))),.sc (.p (.raw (.float .f64 b)))=>bd (adO op a b) fun r=>K (.sc (.p (.raw (.float .f64 r))))
 |x,y=>match oI with
  |some I=>bif eR I.lay (aP x)&&eR I.lay (aP y)&&(lN I.st x&&lN I.st y) then (match op with
   | .eql=>(match iY (aP x) (aP y) with|some b=>K (.sc (.p (.b b)))|none=>none)
   | .neq=>(match iY (aP x) (aP y) with|some b=>K (.sc (.p (.b (!b))))|none=>none)
   |_=>none) else none
  |none=>none
def sliceB (lo hi:Option Slot) (len:Nat) (K:Nat→Nat→Option R):Option R:=
 match lo,hi with
 |none,none=>K 0 len
 |some (.sc (.p (.i _ l))),none=>cU (decide (0≤l∧l≤(len:Int)∧(len:Int)≤(len:Int))) (K l.toNat (Int.toNat (len:Int)))
 |none,some (.sc (.p (.i _ h)))=>cU (decide (0≤(0:Int)∧(0:Int)≤h∧h≤(len:Int))) (K (Int.toNat 0) h.toNat)
 |some (.sc (.p (.i _ l))),some (.sc (.p (.i _ h)))=>cU (decide (0≤l∧l≤h∧h≤(len:Int))) (K l.toNat h.toNat)
 |_,_=>none
def lj (c:Ctx) (st:St):Option Operand→Option Slot
 |some o=>some (aT c st o)
 |none=>none
def xa:List aG→Option (List MV)
 |[]=>some []
 |l::r=>match l,xa r with
  | .p m,some q=>some (m::q)
  | .hs x,some q=>some (.h x::q)
  | .nil,some q=>some (.list []::q)
  |_,_=>none
def Tg (d:Nat) (st:St) (I E:TI) (x y:Slot) (K:Slot→St→Option R):Option R:=match x,y with
 | .sc (.p (.i _ n)),.sc (.p (.i _ m))=>bif Nat.ble 1 E.bytes then cU (decide ((0:Int)≤n∧n=m∧n *E.bytes≤2^46)) (match xa E.zero with
  |some zs=>(match tl E.st zs with
   |some z=>jy st d ⟨I.elem,false,List.replicate n.toNat z⟩ fun st=>K (.sc (.own d)) st
   |none=>none)
  |none=>none) else none
 |_,_=>none
def JA (I E:TI) (st:St) (x:Slot) (K:List MV→Option R):Option R:=match x with
 | .sc (.p (.list xs))=>cU (tk E.size xs) (K xs)
 | .sc .nil=>K []
 | .sc (.own f)=>(match aO st.aV f with|some o=>bif Nat.beq o.ty I.elem then K o.xs else none|none=>none)
 |_=>none
def zO (c:Ctx) (st:St) (I:TI):List (Nat×Operand)→List aG→Option (List aG)
 |[],cs=>some cs
 |(i,o)::r,cs=>match I.yV[i]?,I.QV[i]? with
  |some q,some y=>(match c.tv y with
   |some J=>bif tR (aP (aT c st o))||!Nat.beq (w9 (aP (aT c st o))) J.size then none else
    (match putAt cs q (aP (aT c st o)) with|some fL=>zO c st I r fL|none=>none)
   |none=>none)
  |_,_=>none
def Ee (c:Ctx) (st:St):List (Nat×Operand)→kE→(kE→Option R)→Option R
 |[],x,K=>K x
 |(i,o)::r,x,K=>match aT c st o with
  | .sc (.p m)=>bif Nat.ble 32 i then none else gI .u8 m fun n=>cU (isByte n) (Ee c st r (x.put i (UInt8.ofNat n.toNat)) K)
  |_=>none
def Th (c:Ctx) (st:St):List (Nat×Operand)→Nat→(List MV→St→Option R)→Option R
 |[],_,K=>K [] st
 |(i,o)::r,n,K=>bif Nat.beq i n then lM st (aT c st o) fun m st=>Th c st r (n+1) fun ms st=>K (m::ms) st else none
def Aw (c:Ctx) (st:St):List Operand→(List MV→St→Option R)→Option R
 |[],K=>K [] st
 |o::r,K=>match aT c st o with
  | .ptr root 0=>(match ao st.fr root with
   | .box cs=>bif tR cs||zo root then none else pc st cs fun ms st=>(match pS cs ms with|some fL=>wr st root (.wZ fL) fun st=>Aw c st r fun xs st=>K (.rp ms::xs) st|none=>none)
   |_=>none)
  | .rp cs 0=>pc st cs fun ms st=>Aw c st r fun xs st=>K (.rp ms::xs) st
  |_=>none
def Ax (c:Ctx) (k:Nat) (st:St) (s:Slot) (K:MV→St→Option R):Option R:=match s with
 | .sc (.own f)=>(match aO st.aV f with
  |some o=>bif o.eo||!Nat.beq o.ty (c.r7 k) then none else jy st f ⟨o.ty,true,[]⟩ fun st=>K (.fresh o.xs) st
  |none=>none)
 | .sc .nil=>(match c.tv (c.r7 k) with|some _=>K (.fresh []) st|none=>none)
 |_=>none
def PG (c:Ctx) (k:Nat) (st:St) (ss:List Slot) (K:List MV→St→Option R):Option R:=
 bif c.eB k then (match ss with
  |[s0,s1,s2]=>(match s2 with
   | .sc (.p m2)=>lM st s1 fun m1 st=>Ax c k st s0 fun m0 st=>K [m0,m1,m2] st
   |s2=>lM st s1 fun m1 st=>Ax c k st s0 fun m0 st=>Ax c k st s2 fun m2 st=>K [m0,m1,m2] st)
  |_=>none)
 else uU st ss K
def adP (x y:Int):Int:=if y<x then y else x
def imax (x y:Int):Int:=if y>x then y else x
def Ti (mx:Bool) (k:IntKind):Int→List Slot→Option MV
 |x,[]=>some (.i k x)
 |x,.sc (.p (.i k' y))::r=>bif decide (k'=k) then Ti mx k (bif mx then imax x y else adP x y) r else none
 |_,_=>none
def NA (mx:Bool):List Slot→Option MV
 | .sc (.p (.i k n))::r=>Ti mx k n r
 |_=>none
def Tj (c:Ctx) (d:Nat) (st:St) (f:Nat) (ms:List MV) (I:TI) (K:Slot→St→Option R):Option R:=
 bd (c.g f ms) fun r=>bif c.fresh f then gF r fun xs=>bif !Nat.beq I.elem (c.r7 f) then none else jy st d ⟨I.elem,false,xs⟩ fun st=>K (.sc (.own d)) st else qn c I r fun s=>K s st
def abb (s:Slot) (K:Slot→Option R):Option R:=match s with
 | .ptr r o=>K (.ptr r o)
 | .rp cs o=>K (.rp cs o)
 |_=>none
def Tk (x y z:Slot) (K:Slot→Option R):Option R:=match x with
 | .sc (.p (.b v))=>(match y,z with
  | .sc (.p (.b p)),.sc (.p (.b q))=>K (.sc (.p (.b (bif v then p else q))))
  |p,q=>match v with|true=>K p|false=>K q)
 |_=>none
def abc (I:TI) (s:Slot) (K:Slot→Option R):Option R:=match s with
 | .sc l=>bif I.st||La l||!Nat.beq l.w I.size then none else K (.box [l])
 | .ag cs=>bif I.st&&!tR cs&&Nat.beq (w9 cs) I.size then K (.box cs) else none
 |_=>none
def unK (op:UnOp) (s:Slot) (K:Slot→Option R):Option R:=match op,s with
 | .not,.sc (.p (.b v))=>K (.sc (.p (.b (!v))))
 | .neg,.sc (.p (.i k n))=>K (.sc (.p (.i k (k.wrap (0-n)))))
 |_,_=>none
def Tl (I:TI) (fk:Option FloatKind) (s:Slot) (K:Slot→Option R):Option R:=match I.st,I.cO,I.lay,s with
 |false,[],[.i k],.sc (.p (.i _ n))=>K (.sc (.p (.i k (k.wrap n))))
 |false,[],[.s],.sc (.p (.s l))=>K (.sc (.p (.s l)))
 |false,[],[.i k],.sc (.p (.raw (.float .f64 a)))=>bd ((FloatKind.decode .f64 a).toInt .zero) fun n=>cU (decide (k.min≤n∧n≤k.max)) (K (.sc (.p (.i k n))))
 |false,[],[.raw],.sc (.p (.i _ n))=>(match fk with
  |some .f64=>K (.sc (.p (.raw (.float .f64 (FloatKind.nearest .f64 n)))))
  |_=>none)
 |_,_,_,_=>none
def TI.zp (I:TI):Bool:=match I.st,I.lay with|false,[.l]=>true|_,_=>false
def TI.Xc (I:TI):Bool:=match I.st,I.lay with|false,[.s]=>true|_,_=>false
def NB (c:Ctx) (I:TI) (st:St) (s:Slot) (lo hi:Option Slot) (K:Slot→St→Option R):Option R:=match s with
 | .sc (.p (.s l))=>bif I.Xc then sliceB lo hi l.length fun a b=>K (.sc (.p (.s ((l.take b).drop a)))) st else none
 | .sc (.p (.list l))=>bif I.zp then (match c.tv I.elem with
  |some E=>(match lo with
   |none=>sliceB none hi l.length fun a b=>K (.sc (.p (.list ((l.take b).drop a)))) st
   |some lo=>cU (tk E.size l) (sliceB (some lo) hi l.length fun a b=>K (.sc (.p (.list ((l.take b).drop a)))) st))
  |none=>none) else none
 | .sc (.own f)=>(match aO st.aV f with
  |some o=>bif I.zp&&Nat.beq o.ty I.elem then qU st (.own f) fun _ st=>sliceB lo hi o.xs.length fun a b=>K (.sc (.p (.list ((o.xs.take b).drop a)))) st else none
  |none=>none)
 | .sc .nil=>bif I.zp then sliceB lo hi 0 fun _ _=>K (.sc .nil) st else none
 |_=>none
def Tn (st:St) (I:TI) (f:Nat) (s:Slot) (K:Slot→Option R):Option R:=match I.st,I.yV[f]?,s with
 |true,some q,.ptr r o=>K (.ptr r (o+q))
 |true,some q,.rp cs o=>K (.rp cs (o+q))
 |true,some q,.ep g i o b cs=>(match aO st.aV g with|some _=>K (.ep g i (o+q) b cs)|none=>none)
 |_,_,_=>none
def abd (c:Ctx) (I:TI) (f:Nat) (s:Slot) (K:Slot→Option R):Option R:=match I.st,I.yV[f]?,I.QV[f]?,s with
 |true,some q,some y,.ag cs=>(match c.tv y with|some J=>jP J cs q K|none=>none)
 |_,_,_,_=>none
def abe (c:Ctx) (st:St) (I E:TI) (x i:Slot) (K:Slot→Option R):Option R:=match x,i with
 | .sc (.p (.list xs)),.sc (.p (.i _ n))=>bif I.zp then idx xs n fun x=>Jy E x fun cs=>K (.rp cs 0) else none
 | .sc (.own f),.sc (.p (.i _ n))=>(match aO st.aV f with
  |some o=>bif I.zp then idx o.xs n fun x=>Jy E x fun cs=>K (.ep f n.toNat 0 E.st cs) else none
  |none=>none)
 | .ptr r o,.sc (.p (.i _ n))=>bif I.st then none else (match I.lay with|[.h]=>cU (decide ((0:Int)≤n∧n<32)) (K (.hp r o n.toNat))|_=>none)
 |_,_=>none
def ixK (I:TI) (x i:Slot) (K:Slot→Option R):Option R:=match I.st,I.lay,x,i with
 |false,[.s],.sc (.p (.s l)),.sc (.p (.i _ n))=>cU (decide ((0:Int)≤n∧n<(l.length:Int))) (K (.sc (.p (.i .u8 (l.getD n.toNat 0).toNat))))
 |false,[.h],.sc (.hs x),.sc (.p (.i _ n))=>cU (decide ((0:Int)≤n∧n<32)) (K (.sc (.p (.i .u8 (x.l.getD n.toNat 0).toNat))))
 |_,_,_,_=>none
def abf (s:Slot) (k:Nat) (K:Slot→Option R):Option R:=match s with
 | .cN vs=>(match vs[k]? with|some s=>K s|none=>none)
 |_=>none
def To (I:TI) (st:St) (ss:List Slot) (K:Slot→Option R):Option R:=match ss with
 |[.sc (.p (.s l))]=>bif I.Xc then K (.sc (.p (.i .i64 l.length))) else none
 |[.sc (.p (.list l))]=>bif I.zp then K (.sc (.p (.i .i64 l.length))) else none
 |[.sc .nil]=>bif I.zp then K (.sc (.p (.i .i64 0))) else none
 |[.sc (.own f)]=>bif I.zp then (match aO st.aV f with|some o=>K (.sc (.p (.i .i64 o.xs.length)))|none=>none) else none
 |_=>none
def abg (d:Nat) (st:St) (I E:TI) (s:Slot) (ys:List MV) (K:Slot→St→Option R):Option R:=bif Nat.ble 1 E.bytes then (match s with
 | .sc .nil=>cU (decide (ys.length *E.bytes≤2^46)) (jy st d ⟨I.elem,false,ys⟩ fun st=>K (.sc (.own d)) st)
 | .sc (.own f)=>(match aO st.aV f with
  |some w=>cU (decide ((w.xs.length+ys.length) *E.bytes≤2^46)) (bif Nat.beq w.ty I.elem then jy st f ⟨w.ty,w.eo,w.xs++ys⟩ fun st=>K (.sc (.own f)) st else none)
  |none=>none)
 |_=>none) else none
def JB (c:Ctx) (st:St) (I:TI) (f:Slot) (ss:List Slot) (K:Slot→St→Option R):Option R:=match f with
 | .sc (.p m)=>Ny m fun f b8=>cU (!c.eB f)<|uU st ss fun ms st=>bd (c.g f (ms++b8)) fun r=>qn c I r fun s=>K s st
 |_=>none
def G6:MV→MV→Bool
 | .b x,.b y=>decide (x=y)
 | .i k x,.i k' y=>decide (k=k')&&decide (x=y)
 | .s x,.s y=>decide (x=y)
 | .h x,.h y=>decide (x=y)
 |_,_=>false
def iL:List MV→List MV→Bool
 |[],[]=>true
 |x::xs,y::ys=>G6 x y&&iL xs ys
 |_,_=>false
def qW:MV→List MV
 | .cN (.agg k::_)=>k
 |_=>[]
def abh:MV→MV
 | .cN [_,v]=>v
 |_=> .b false
def ic:List MV→List MV→Nat
 |[],_=>0
 |e::r,ks=>bif iL (qW e) ks then 0 else ic r ks+1
def asI:MV→Int
 | .i _ n=>n
 |_=>0
def asB:MV→Bool
 | .b x=>x
 |_=>false
def aac (es:List MV) (ks:List MV):Int:=match es[ic es ks]? with|some e=>asI (abh e)|none=>0
def aad (es:List MV) (ks:List MV):Bool:=match es[ic es ks]? with|some e=>asB (abh e)|none=>false
def BQ (es ks:List MV) (z:MV):List MV:=bif Nat.beq (ic es ks) es.length then es++[.cN [.agg ks,z]] else es
def G7 (es:List MV) (i:Nat) (v:MV):List MV:=match es[i]? with|some e=>es.set i (.cN [.agg (qW e),v])|none=>es
def iM (b:Bool):MV:=bif b then .b false else .i .i64 0
def uV (c:Ctx) (t:Nat):Option MS:=match c.mt t with
 |some (kt,b)=>(match c.tv kt with|some I=>bif Dt ⟨I.st,I.lay,b⟩ then none else some ⟨I.st,I.lay,b⟩|none=>none)
 |none=>none
def Lb (s:MS) (k:Slot) (K:List MV→Option R):Option R:=
 bif eR s.lay (aP k)&&lN s.st k then (match bH (aP k) with|some ks=>K ks|none=>none) else none
def G8 (st:St) (s:MS) (m:Slot) (K:Nat→List MV→Option R):Option R:=match m with
 | .w8 r=>(match ao st.fr r with| .box [.mp s' es]=>bif msB s s'&&!Dt s' then K r es else none|_=>none)
 |_=>none
def QW (b:Bool) (s:Slot) (K:MV→Option R):Option R:=match b,s with
 |true,.sc (.p (.b x))=>K (.b x)
 |false,.sc (.p (.i .i64 n))=>K (.i .i64 n)
 |_,_=>none
def CI (st:St) (r:Nat) (s:MS) (es:List MV) (K:St→Option R):Option R:=wr st r (.box [.mp s es]) K
def isLT (c:Ctx) (y:Nat):Bool:=match c.tv y with|some Y=>Y.zp|none=>false
def lO (c:Ctx) (o:Oper):Bool:=match o.op with
 | .assign (.tmp _)=>(match c.mt o.type with|some _=>true|none=>false)
 |_=>false
def DU (c:Ctx) (o:Oper) (st:St) (x:Operand) (K:Slot→St→Option R):Option R:=match x,c.mt o.type with
 | .tmp t,some _=>(match ao st.fr t with
  | .box cs=>bif eV cs then bif bE st.ct t||zo t then none else (match st with|⟨p,q,r,m⟩=>tQ [t] r fun r=>K (.box cs) ⟨p,q,r,m⟩) else K (aT c st x) st
  |_=>K (aT c st x) st)
 |_,_=>K (aT c st x) st
def BR (s:MS) (es ks:List MV):Slot:=bif s.b then .sc (.p (.b (aad es ks))) else .sc (.p (.i .i64 (aac es ks)))
def aae (c:Ctx) (st:St) (t:Nat) (m k:Slot) (K:Slot→Option R):Option R:=match uV c t with
 |some s=>G8 st s m fun _ es=>Lb s k fun ks=>K (BR s es ks)
 |none=>none
def aaf (c:Ctx) (st:St) (t:Nat) (m k v:Slot) (K:St→Option R):Option R:=match uV c t with
 |some s=>G8 st s m fun r es=>Lb s k fun ks=>QW s.b v fun v=>CI st r s (G7 (BQ es ks (iM s.b)) (ic es ks) v) K
 |none=>none
def Tp (c:Ctx) (st:St) (t:Nat) (m k:Slot) (K:Slot→St→Option R):Option R:=match uV c t with
 |some s=>G8 st s m fun r es=>Lb s k fun ks=>CI st r s (BQ es ks (iM s.b)) fun st=>K (.cN [BR s es ks,.sc (.p (.i .i64 (ic es ks)))]) st
 |none=>none
def adQ (c:Ctx) (st:St) (t:Nat) (m i v:Slot) (K:St→Option R):Option R:=match uV c t with
 |some s=>G8 st s m fun r es=>(match i with
  | .sc (.p (.i .i64 n))=>cU (decide (0≤n∧n.toNat<es.length)) (QW s.b v fun v=>CI st r s (G7 es n.toNat v) K)
  |_=>none)
 |none=>none
def S1 (es:List MV):List UInt8:=match es with|[.s l,.i .i64 _]=>l|_=>[]
def qi (es:List MV):Int:=match es with|[.s _,.i .i64 n]=>n|_=>0
def G9 (es:List MV):Bool:=decide (qi es<((S1 es).length:Int))
def xb (es:List MV):Int:=(Utf8.decode ⟨(S1 es).toArray⟩ (qi es).toNat).1
def zP (es:List MV):List MV:=[.s (S1 es),.i .i64 (qi es+(Utf8.decode ⟨(S1 es).toArray⟩ (qi es).toNat).2)]
def itK (st:St) (x:Slot) (K:Slot→St→Option R):Option R:=match x with
 | .ptr t 0=>(match ao st.fr t with
  | .box [.mp s es]=>bif Dt s then
   a7 (G9 es) (wr st t (.box [.mp s (zP es)]) fun st=>K (.cN [.sc (.p (.b true)),.sc (.p (.i .i64 (qi es))),.sc (.p (.i .i32 (xb es)))]) st)
    (K (.cN [.sc (.p (.b false))]) st)
   else none
  |_=>none)
 |_=>none
def byK (m:MV) (K:UInt8→Option R):Option R:=gI .u8 m fun n=>cU (isByte n) (K (UInt8.ofNat n.toNat))
def JC:List MV→(List UInt8→Option R)→Option R
 |[],K=>K []
 |m::r,K=>byK m fun b=>JC r fun l=>K (b::l)
def NC (I:TI) (x:Slot) (K:Slot→Option R):Option R:=match x with
 | .sc (.p (.s l))=>bif I.Xc then K (.box [.mp MS.it [.s l,.i .i64 0]]) else none
 |_=>none
def Xv (E:TI):Bool:=match E.st,E.lay with
 |false,[.i k]=>decide (k= .u8)
 |_,_=>false
def Tq (c:Ctx) (st:St) (Y I:TI) (x:Slot) (K:Slot→Option R):Option R:=match c.tv Y.elem with
 |some E=>bif I.Xc&&Xv E then (match x with
  | .sc (.p (.list xs))=>JC xs fun l=>K (.sc (.p (.s l)))
  | .sc .nil=>K (.sc (.p (.s [])))
  | .sc (.own f)=>(match aO st.aV f with
   |some o=>bif Nat.beq o.ty Y.elem then JC o.xs fun l=>K (.sc (.p (.s l))) else none
   |none=>none)
  |_=>none) else none
 |none=>none
def still (c:Ctx) (o:Oper):Bool:=match o.op,o.dst with
 | .load _ _,some d=>bE c.fl d
 |_,_=>false
def bo:List LK→List Nat
 |[]=>[]
 | .own f _ _::r=>f::bo r
 |_::r=>bo r
def meets:List Nat→List Nat→Bool
 |[],_=>false
 |k::r,l=>bif bE l k then true else meets r l
def gY (c:Ctx):List LK→Bool
 |[]=>true
 | .own _ ty _::r=>(match c.tv ty with|some _=>gY c r|none=>false)
 |_::r=>gY c r
def lP (ps:List (Nat×Nat)) (f g:Nat):Bool:=match ps with
 |[]=>true
 |(a,b)::r=>(bif Nat.beq a f then Nat.beq b g&&!Nat.beq g 0 else (bif Nat.beq b g then Nat.beq g 0 else true))&&lP r f g
def JD (st:St) (ps:List (Nat×Nat)) (k:LK) (l:aG) (K:MV→List (Nat×Nat)→Option R):Option R:=
 match k,l with
 | .k .l,.nil=>K (.list []) ps
 | .k .h,.hs x=>K (.h x) ps
 | .k x,.p m=>jO x m fun _=>K m ps
 | .own f ty eo,.own g=>match aO st.aV g with
  |some o=>bif !Nat.beq o.ty ty||(o.eo&&!eo)||bE st.cu g||!lP ps f (g+1) then none else K (.list o.xs) ((f,g+1)::ps)
  |none=>none
 | .own f _ _,.nil=>bif lP ps f 0 then K (.list []) ((f,0)::ps) else none
 |_,_=>none
def jz (st:St):List (Nat×Nat)→List LK→List aG→(List MV→List (Nat×Nat)→Option R)→Option R
 |ps,[],[],K=>K [] ps
 |ps,k::ks,l::ls,K=>JD st ps k l fun m ps=>jz st ps ks ls fun ms ps=>K (m::ms) ps
 |_,_,_,_=>none
def kI (st:St) (k:LK) (m:MV) (K:aG→St→Option R):Option R:=
 match k with
 | .k x=>jO x m fun l=>K l st
 | .own f ty eo=>gL m fun xs=>(match st with|⟨p,q,r,n⟩=>Nz n f ⟨ty,eo,xs⟩ fun n=>K (.own f) ⟨p,q,r,n⟩)
def cQ (st:St):List LK→List MV→(List aG→List MV→St→Option R)→Option R
 |[],ms,K=>K [] ms st
 |k::ks,ms,K=>gC ms fun m r=>kI st k m fun l st=>cQ st ks r fun ls ms st=>K (l::ls) ms st
def Lc (gs:List Nat):List (Nat×nm)→(List (Nat×nm)→Option R)→Option R
 |[],K=>K []
 |(k,o)::r,K=>bif bE gs k then Lc gs r K else Lc gs r fun r=>K ((k,o)::r)
def Xw:List Nat→Fr→(Fr→Option R)→Option R
 |[],r,K=>K r
 |f::fs,r,K=>kFr f r fun r=>Xw fs r K
def et:List (Nat×Nat)→List Nat
 |[]=>[]
 |(_,0)::r=>et r
 |(_,g+1)::r=>g::et r
def HS:List Nat→List (Nat×nm)→Bool
 |[],_=>false
 |f::r,m=>(match aO m f with|some _=>true|none=>HS r m)
def HT (st:St) (root:Nat) (ks:List LK) (ps:List (Nat×Nat)) (outs:List MV) (K:St→Option R):Option R:=
 cQ ⟨[],[],[],[]⟩ ks outs fun cs rest ye=>gN rest<|Lc (et ps) st.aV fun m=>
  bif HS (bo ks) m||meets (bo ks) st.cu then none else
   Xw (bo ks) st.fr fun r=>G4 r root (.box cs) fun r=>(match app ye.aV m with|some m=>K ⟨st.ct,st.cu,r,m⟩|none=>none)
def PH (c:Ctx) (gv:Bool) (g:List MV→Option MV) (pos:Nat) (ks:List LK) (st:St) (ss:List Slot) (I:Option TI) (K:Slot→St→Option R):Option R:=
 match ss[pos]? with
 |some (.ptr root off)=>uU st (ss.take pos) fun m1 st=>uU st (ss.drop (pos+1)) fun m2 st=>
  (match ao st.fr root with
  | .box cs=>bif eV cs||bE st.ct root||!gY c ks||!gv then none else jz st [] ks cs fun ls ps=>
   (match app m1 (.cell (.func off ls)::m2) with
   |some ms=>bd (g ms) fun x=>gW x fun r outs=>HT st root ks ps outs fun st=>(match I with
    |some I=>qn c I r fun s=>K s st
    |none=>K (.sc .un) st)
   |none=>none)
  |_=>none)
 |_=>none
def aag (c:Ctx) (key pos:Nat) (ks:List LK) (st:St) (ss:List Slot) (I:Option TI) (K:Slot→St→Option R):Option R:=
 PH c (c.eB key) (c.g key) pos ks st ss I K
def Tr:List LK→List LK→Bool
 |[],[]=>true
 | .k k1::r,.k k2::q=>kdB k1 k2&&Tr r q
 | .own f t z::r,.own f' t' z'::q=>Nat.beq f f'&&(Nat.beq t t'&&(z==z'&&Tr r q))
 |_,_=>false
def Ld (c:Ctx) (pos:Nat) (ks:List LK):List Nat→Bool
 |[]=>true
 |k::r=>(match c.sig k with|some sg=>Nat.beq sg.1 pos&&Tr sg.2 ks|none=>false)&&(c.eB k&&Ld c pos ks r)
def Ts (c:Ctx) (QX:List Nat) (st:St) (f:Slot) (ss:List Slot) (I:Option TI) (K:Slot→St→Option R):Option R:=match f,QX with
 | .sc (.p m),k0::_=>(match c.sig k0 with
  |some sg=>bif Ld c sg.1 sg.2 QX then Ny m fun k b8=>gN b8<|PH c true (fun ms=>G3 QX k fun k=>c.g k ms) sg.1 sg.2 st ss I K else none
  |none=>none)
 |_,_=>none
def opK (c:Ctx) (o:Oper) (st:St) (K:Slot→St→Option R):Option R:=
 match o.op with
 | .move x=>K (aT c st x) st
 | .assign x=>DU c o st x K
 | .makeMap t none=>(match uV c t with|some s=>K (.box [.mp s []]) st|none=>none)
 | .lookup t m k false=>aae c st t (aT c st m) (aT c st k) fun s=>K s st
 | .mapUpdate t m k v=>aaf c st t (aT c st m) (aT c st k) (aT c st v) fun st=>K (.sc .un) st
 | .mapEntry t m k=>Tp c st t (aT c st m) (aT c st k) K
 | .entryStore t m i v=>adQ c st t (aT c st m) (aT c st i) (aT c st v) fun st=>K (.sc .un) st
 | .nilCheck x=>abb (aT c st x) fun s=>K s st
 | .pick x a b=>Tk (aT c st x) (aT c st a) (aT c st b) fun s=>K s st
 | .alloc t=>(match c.tv t with|some I=>K (.box I.zero) st|none=>none)
 | .box t x=>(match c.tv t with|some I=>abc I (aT c st x) fun s=>K s st|none=>none)
 | .build t parts=>(match c.tv t with
  |some I=>bif I.st then (match zO c st I parts.toList I.zero with|some cs=>K (.ag cs) st|none=>none)
   else (match I.lay with|[.h]=>Ee c st parts.toList kE.zero fun x=>K (.sc (.hs x)) st|_=>none)
  |none=>none)
 | .buildSlice t n parts=>(match c.tv t with
  |some I=>bif I.zp then (match c.tv I.elem with
   |some E=>bif Nat.ble (n *E.size) 16777216 then Th c st parts.toList 0 fun ms st=>bif Nat.beq ms.length n then cU (tk E.size ms)
    (bif bE c.bs (o.dst.getD 0) then K (.sc (.p (.list ms))) st else jy st (o.dst.getD 0) ⟨I.elem,false,ms⟩ fun st=>K (.sc (.own (o.dst.getD 0))) st) else none else none
   |none=>none) else none
  |none=>none)
 | .makeSlice t x y=>(match c.tv t with
  |some I=>bif I.zp then (match c.tv I.elem with|some E=>Tg (o.dst.getD 0) st I E (aT c st x) (aT c st y) K|none=>none) else none
  |none=>none)
 | .load t a=>(match c.tv t with
  |some I=>bif still c o then (match aT c st a with| .rp cs off=>jP I cs off fun s=>K s st|_=>none) else ldK st I (aT c st a) fun s=>K s st
  |none=>none)
 | .store t a v=>(match c.tv t with|some I=>stK st I (aT c st a) (aT c st v) fun st=>K (.sc .un) st|none=>none)
 | .binOp op t x y _=>aba (c.tv t) op (aT c st x) (aT c st y) fun s=>K s st
 | .unOp op _ x=>unK op (aT c st x) fun s=>K s st
 | .convert y t x=>bif isLT c y then (match c.tv y,c.tv t with|some Y,some I=>Tq c st Y I (aT c st x) fun s=>K s st|_,_=>none)
  else (match c.ti y,c.tv t with|some _,some I=>Tl I (c.fk t) (aT c st x) fun s=>K s st|_,_=>none)
 | .range t x=>(match c.tv t with|some I=>NC I (aT c st x) fun s=>K s st|none=>none)
 | .next x true=>itK st (aT c st x) K
 | .makeFunc (.func f) first b8=>(match first.toList with
  |[]=>Aw c st b8.toList fun ms st=>K (.sc (.p (.func (c.key f) ms))) st
  |_=>none)
 | .slice t x lo hi none=>(match c.tv t with|some I=>NB c I st (aT c st x) (lj c st lo) (lj c st hi) K|none=>none)
 | .fieldAddr t x f=>(match c.tv t with|some I=>Tn st I f (aT c st x) fun s=>K s st|none=>none)
 | .field t x f=>(match c.tv t with|some I=>abd c I f (aT c st x) fun s=>K s st|none=>none)
 | .indexAddr t x i=>(match c.tv t with
  |some I=>(match c.tv I.elem with|some E=>abe c st I E (aT c st x) (aT c st i) fun s=>K s st|none=>none)
  |none=>none)
 | .index t x i=>(match c.tv t with|some I=>ixK I (aT c st x) (aT c st i) fun s=>K s st|none=>none)
 | .extract x k=>abf (aT c st x) k fun s=>K s st
 | .call cl=>(match cl.callee with
  | .value (.func f)=>(match c.sig (c.key f) with
   |some sg=>aag c (c.key f) sg.1 sg.2 st (iX c st cl.args.toList) (c.ti o.type) K
   |none=>match c.ti o.type with
   |some I=>PG c (c.key f) st (iX c st cl.args.toList) fun ms st=>Tj c (o.dst.getD 0) st (c.key f) ms I K
   |none=>none)
  | .value x=>(match c.dyn with
   |_::_=>Ts c c.dyn st (aT c st x) (iX c st cl.args.toList) (c.ti o.type) K
   |[]=>match c.ti o.type with
   |some I=>JB c st I (aT c st x) (iX c st cl.args.toList) K
   |none=>none)
  | .builtin .len=>(match cl.argTypes.toList with
   |[t]=>(match c.tv t with|some I=>To I st (iX c st cl.args.toList) fun s=>K s st|none=>none)
   |_=>none)
  | .builtin .append=>(match iX c st cl.args.toList,cl.argTypes.toList with
   |[s,x],[t,t']=>bif Nat.beq t t' then (match c.tv t with
    |some I=>bif I.zp then (match c.tv I.elem with|some E=>JA I E st x fun ys=>abg (o.dst.getD 0) st I E s ys K|none=>none) else none
    |none=>none) else none
   |_,_=>none)
  | .builtin .real=>(match iX c st cl.args.toList with|[.sc (.p m)]=>gCx m fun x _=>K (.sc (.p (.raw (.float .f64 x)))) st|_=>none)
  | .builtin .imag=>(match iX c st cl.args.toList with|[.sc (.p m)]=>gCx m fun _ y=>K (.sc (.p (.raw (.float .f64 y)))) st|_=>none)
  | .builtin .complex=>(match iX c st cl.args.toList with|[.sc (.p (.raw (.float .f64 x))),.sc (.p (.raw (.float .f64 y)))]=>K (.sc (.p (.raw (.complex .f64 x y)))) st|_=>none)
  | .builtin .min=>(match NA false (iX c st cl.args.toList) with|some m=>K (.sc (.p m)) st|none=>none)
  | .builtin .max=>(match NA true (iX c st cl.args.toList) with|some m=>K (.sc (.p m)) st|none=>none)
  |_=>none)
 |_=>none
def ND (all:List Oper) (o:Oper) (st:St) (K:Bool→St→Option R):Option R:=
 match o.guard with
 |none=>K true st
 |some (j,want)=>match all[j]? with
  |some p=>(match p.dst with
   |some t=>(match ao st.fr t with
    | .sc (.p (.b v))=>(match v with
     |true=>(match st with|⟨p,q,r,m⟩=>G4 r t (.sc (.p (.b true))) fun r=>K want ⟨p,q,r,m⟩)
     |false=>(match st with|⟨p,q,r,m⟩=>G4 r t (.sc (.p (.b false))) fun r=>K (!want) ⟨p,q,r,m⟩))
    | .skip=>K false st
    |_=>none)
   |none=>none)
  |none=>none
def PI (c:Ctx) (all:List Oper) (o:Oper) (st:St) (K:St→Option R):Option R:=
 ND all o st fun go st=>
  bif go then opK c o st fun s st=>bw c st o.dst s K
  else bw c st o.dst .skip K
def uW (c:Ctx) (all:List Oper):List Oper→St→(St→Option R)→Option R
 |[],st,K=>K st
 |o::r,st,K=>PI c all o st fun st=>uW c all r st K
end
section
variable {R:Type}
def mY (st:St):List (Nat×Nat)→List (Nat×OK)→(List MV→Option R)→Option R
 |_,[],K=>K []
 |ps,(t,k)::r,K=>match k,ao st.fr t with
  | .sc k,.sc l=>jz st ps [k] [l] fun ms ps=>mY st ps r fun ns=>(match app ms ns with|some l=>K l|none=>none)
  | .ag ks,.ag ls=>jz st ps ks ls fun ms ps=>mY st ps r fun ns=>(match app ms ns with|some l=>K l|none=>none)
  | .box ks,.box ls=>jz st ps ks ls fun ms ps=>mY st ps r fun ns=>(match app ms ns with|some l=>K l|none=>none)
  | .mp s,.box [.mp s' es]=>bif msB s s' then mY st ps r fun ns=>K (.list es::ns) else none
  | .pt root off,.ptr Tt QY=>bif Nat.beq root Tt&&(Nat.beq off QY&&(!zo root&&BO (ao st.fr root))) then mY st ps r K else none
  |_,_=>none
def Le (st:St) (t:Nat) (s:Slot) (K:St→Option R):Option R:=match st with|⟨p,q,r,m⟩=>G4 r t s fun r=>K ⟨p,q,r,m⟩
def Tu:List (Nat×OK)→List MV→St→(St→Option R)→Option R
 |[],ms,st,K=>gN ms (K st)
 |(t,k)::r,ms,st,K=>match k,st with
  | .pt root off,⟨p,q,fr,m⟩=>bif !zo root&&(BO (ao fr root)&&!cP (ao fr t)) then G4 fr t (.ptr root off) fun fr=>Tu r ms ⟨p,q,fr,m⟩ K else none
  |_,_=>none
def mZ (st:St):List (Nat×OK)→List MV→(St→Option R)→Option R
 |[],ms,K=>gN ms (K st)
 |(t,k)::r,ms,K=>match k with
  | .sc k=>cQ st [k] ms fun ls ms st=>(match ls with|[l]=>Le st t (.sc l) fun st=>mZ st r ms K|_=>none)
  | .ag ks=>cQ st ks ms fun ls ms st=>Le st t (.ag ls) fun st=>mZ st r ms K
  | .box ks=>bif zo t&&!bE st.ct (posOf t) then none else cQ st ks ms fun ls ms st=>Le st t (.box ls) fun st=>mZ st r ms K
  | .mp s=>bif zo t then none else gC ms fun m ms=>gL m fun es=>Le st t (.box [.mp s es]) fun st=>mZ st r ms K
  | .pt root off=>Tu ((t,.pt root off)::r) ms st K
end
def dt:List (Nat×OK)→List Nat
 |[]=>[]
 |(t,_)::r=>t::dt r
def b7:List (Nat×OK)→List Nat
 |[]=>[]
 |(_,.sc k)::r=>bo [k]++b7 r
 |(_,.ag ks)::r=>bo ks++b7 r
 |(_,.box ks)::r=>bo ks++b7 r
 |(_,.mp _)::r=>b7 r
 |(_,.pt _ _)::r=>b7 r
def minus:List Nat→List Nat→List Nat
 |[],_=>[]
 |k::r,l=>bif bE l k then minus r l else k::minus r l
def uX {R:Type} (ps:List Nat):List aG→(List aG→Option R)→Option R
 |[],K=>K []
 |l::r,K=>(match l with
  | .own g=>bif bE ps g then uX ps r fun r=>K (.own g::r) else uX ps r fun r=>K (.un::r)
  |l=>uX ps r fun r=>K (l::r))
def Lf {R:Type} (ps:List Nat) (s:Slot) (K:Slot→Option R):Option R:=match s with
 | .sc (.own g)=>bif bE ps g then K (.sc (.own g)) else K (.sc .un)
 | .ag cs=>uX ps cs fun cs=>K (.ag cs)
 | .box cs=>uX ps cs fun cs=>K (.box cs)
 |s=>K s
def nFr {R:Type} (ps:List Nat):Fr→(Fr→Option R)→Option R
 |[],K=>K []
 |(k,s)::r,K=>Lf ps s fun s=>nFr ps r fun r=>K ((k,s)::r)
def HU {R:Type} (ks fs qs:List Nat):List (Nat×nm)→(List (Nat×nm)→Option R)→Option R
 |[],K=>K []
 |(k,o)::r,K=>bif bE ks k then HU ks fs qs r fun r=>(bif bE fs k&&!bE qs k then K ((k,⟨o.ty,true,o.xs⟩)::r) else K ((k,o)::r)) else HU ks fs qs r K
def eu (c:Ctx):List (Nat×OK)→Bool
 |[]=>true
 |(_,.sc k)::r=>bif gY c [k] then eu c r else false
 |(_,.ag ks)::r=>bif gY c ks then eu c r else false
 |(_,.box ks)::r=>bif gY c ks then eu c r else false
 |(_,.mp _)::r=>eu c r
 |(_,.pt _ _)::r=>eu c r
def NE {R:Type} (c:Ctx) (h:qV) (st:St) (K:St→St→Option R):Option R:=
 match st with
 |⟨p,q,r,m⟩=>
  bif !eu c h.all||meets (dt h.all) p||meets (b7 h.all) q||meets (dt h.all) h.ct||meets (b7 h.all) h.cu then none else
  match app h.ct p,app h.cu q with
  |some p',some q'=>
   pick h.ct r fun rp=>nFr h.cu rp fun rp=>pick (dt h.all) r fun ro=>
   HU h.cu h.eo q m fun mp=>HU (b7 h.all) h.eo q m fun mo=>
   (match app rp ro,app mp mo with
    |some r1,some m1=>K ⟨p',q',r1,m1⟩ ⟨p',q',rp,mp⟩
    |_,_=>none)
  |_,_=>none
def Ef {R:Type} (c:Ctx) (h:qV) (st:St) (K:St→St→Option R):Option R:=
 NE c h st fun ec dO=>Ec (fun t=>bE h.ct t||bE (dt h.all) t) st.fr st.fr ec.fr fun fr=>K ⟨ec.ct,ec.cu,fr,ec.aV⟩ dO
def BS (st dO:St):St:=match st,dO with|⟨p,q,_,_⟩,⟨_,_,r,m⟩=>⟨p,q,r,m⟩
def guarded:List Oper→Bool
 |[]=>false
 |o::r=>match o.guard with|some _=>true|none=>guarded r
def qo:List Oper→List Nat
 |[]=>[]
 |o::r=>match o.op,o.dst with
  | .alloc _,some d=>d::qo r
  | .box _ _,some d=>d::qo r
  | .makeMap _ _,some d=>d::qo r
  | .range _ _,some d=>d::qo r
  |_,_=>qo r
def BT {R:Type} (ds:List Nat) (st:St) (K:St→Option R):Option R:=match st with|⟨p,q,r,m⟩=>tQ ds r fun r1=>Ec (fun t=>!bE ds t) r r r1 fun r=>K ⟨p,q,r,m⟩
def fh:Code→Option Nat
 | .region id _ _=>some id
 | .seq a b=>match fh a with|some n=>some n|none=>fh b
 | .cond _ a b=>match fh a with|some n=>some n|none=>fh b
 | .block _ b| .loop b| .scope b=>fh b
 |_=>none
def uni:List Nat→List Nat→List Nat
 |[],l=>l
 |k::r,l=>bif bE l k then uni r l else k::uni r l
def kJ:Code→List Nat
 | .skip| .region _ _ _=>[0]
 | .seq a b=>bif bE (kJ a) 0 then uni (minus (kJ a) [0]) (kJ b) else kJ a
 | .cond _ a b=>uni (kJ a) (kJ b)
 | .block id b=>bif bE (kJ b) (id+2) then uni (minus (kJ b) [0,id+2]) [0] else kJ b
 | .loop b=>minus (kJ b) [0]
 | .exit id=>[id+2]
 | .ret=>[1]
 |_=>[]
def pe (o:Oper):Bool:=match o.op with
 | .load _ _=>true
 | .lookup _ _ _ false=>true
 |_=>false
def lk (c:Ctx) (o:Oper):Bool:=pe o||(match o.op with
 | .convert y _ _=>isLT c y
 |_=>false)
def Tv (o:Oper):Option Nat:=match o.op with
 | .lookup t _ _ false=>some t
 |_=>none
def Xx (o:Oper):Option Nat:=match o.op with
 | .mapEntry t _ _=>some t
 |_=>none
def zq (o p:Oper):Bool:=match Tv o,Xx p with
 |some t,some t'=>Nat.beq t t'
 |_,_=>false
def n6 (o:Oper):Bool:=match o.op with
 | .move _| .assign _| .nilCheck _| .pick _ _ _| .build _ _| .load _ _| .binOp _ _ _ _ _| .unOp _ _ _| .convert _ _ _| .makeFunc _ _ _| .slice _ _ _ _ _| .fieldAddr _ _ _| .field _ _ _| .indexAddr _ _ _| .index _ _ _| .extract _ _| .lookup _ _ _ false=>true
 | .call cl=>(match cl.callee with| .builtin .len| .builtin .min| .builtin .max| .builtin .real| .builtin .imag| .builtin .complex=>true|_=>false)
 |_=>false
def yW (c:Ctx) (o:Oper):Bool:=match o.op with
 | .alloc _| .box _ _| .buildSlice _ _ _| .makeSlice _ _ _=>true
 | .call cl=>(match cl.callee with| .value (.func f)=>!c.eB (c.key f)| .value _=>(match c.dyn with|[]=>true|_::_=>false)|_=>false)
 |_=>false
def NF:Op→List Operand
 | .build _ ps=>ps.toList.map (·.2)
 | .buildSlice _ _ ps=>ps.toList.map (·.2)
 | .makeFunc _ first captured=>first.toList++captured.toList
 | .slice _ x l h m=>x::(l.toList++(h.toList++m.toList))
 | .call c=>(match c.callee with| .value f=>[f]| .invoke r _=>[r]| .builtin _=>[])++c.args.toList
 |op=>op.operands.toList
def Lg:List Operand→List Nat
 |[]=>[]
 | .tmp t::r=>t::Lg r
 |_::r=>Lg r
def JE (ops:List Oper) (o:Oper):List Nat:=
 Lg (NF o.op)++(match o.guard with|some (g,_)=>(match ops[g]? with|some p=>p.dst.toList|none=>[])|none=>[])
def JF (ops:List Oper) (x y:Oper):Bool:=
 (match x.dst with|some d=>!bE (JE ops y) d&&(match y.dst with|some d'=>!Nat.beq d' d|none=>true)|none=>true)&&
 (match y.dst with|some d=>!bE (JE ops x) d|none=>true)
def Eg (e:Edge):Bool:=match e.ground with
 | .textOnly _=>false
 | .gcOnly _=>false
 |_=>true
def zQ (o:Oper) (p:Nat→Bool):Bool:=o.after.toList.any fun e=>Eg e&&p e.on
def adR (ops:List Oper):Bool:=ops.all fun o=>match o.op with| .select _ _=>false|_=>true
def Tw (c:Ctx) (o:Oper):Bool:=n6 o||yW c o
def qX (c:Ctx) (ops:List Oper) (o:Oper):List Nat→List Nat→Bool
 |_,[]=>true
 |D,y::r=>match ops[y]? with
  |some p=>bif zQ p (bE D) then qX c ops o (y::D) r else JF ops o p&&(!lk c o||Tw c p||still c o||zq o p)&&qX c ops o D r
  |none=>false
def Lh (o:Oper):Bool:=match o.op,o.dst,o.guard with
 | .alloc _,some _,none=>o.after.toList.all fun e=>!Eg e
 |_,_,_=>false
def adS (c:Ctx) (o:Oper):Bool:=match o.op with
 | .alloc t=>(match c.tv t with|some _=>true|none=>false)
 |_=>false
def adT (ops:List Oper) (i:Nat):Bool:=match ops[i]? with
 |some o=>Lh o
 |none=>false
def tS (c:Ctx) (ops:List Oper):List Nat→List Nat→Bool
 |_,[]=>true
 |pre,x::rest=>(match ops[x]? with
  |some o=>(o.after.toList.all fun e=>!Eg e||bE pre e.on)&&!bE pre x&&!bE rest x&&
   (bif n6 o&&!lO c o then qX c ops o [x] rest
    else (rest.all fun y=>match ops[y]? with
     |some p=>bif Lh p then JF ops p o&&adS c p else zQ p (fun i=>Nat.beq i x||(bE rest i&&!adT ops i))
     |none=>false))&&tS c ops (x::pre) rest
  |none=>false)
def qY (c:Ctx) (ops:Array Oper) (ord:List Nat):Bool:=
 adR ops.toList&&Nat.beq ord.length ops.toList.length&&(List.range ops.toList.length).all (bE ord)&&tS c ops.toList [] ord
def DV {R:Type} (c:Ctx) (id:Nat) (ops l:List Oper) (st:St) (K:St→Option R):Option R:=
 bif guarded ops then
  Ef c (c.KZ id) st fun ec dO=>bd (BT (qo ops) ec fun ec=>uW c ops l ec fun st=>mY st [] ((c.KZ id).ex 0) some) fun vs=>mZ (BS st dO) ((c.KZ id).ex 0) vs K
 else BT (qo ops) st fun st=>uW c ops l st K
def ll (ops:List Oper):List Nat→Option (List Oper)
 |[]=>some []
 |i::r=>match ops[i]?,ll ops r with
  |some o,some l=>some (o::l)
  |_,_=>none
def lZ {S:Type} (step:S→MV→Option (Bool×S)):S→List MV→Option (List MV×S)
 |s,[]=>some ([],s)
 |s,x::xs=>match step s x with
  |some (b,s1)=>(match lZ step s1 xs with|some (ys,s2)=>some (bif b then ys else x::ys,s2)|none=>none)
  |none=>none
def Tx (g:Nat→List MV→Option MV) (k:Nat) (b8:List MV):Unit→MV→Option (Bool×Unit):=fun _ x=>match g k (x::b8) with
 |some (.b b)=>some (b,())
 |_=>none
def HV (g:Nat→List MV→Option MV) (k:Nat) (b8:List MV):List MV→MV→Option (Bool×List MV):=fun ls x=>match g k (x::(b8++[.cell (.func 0 ls)])) with
 |some (.ey (.b b) outs)=>some (b,outs)
 |_=>none
def NG:MV→Bool
 | .agg _=>true
 |_=>false
def Ty {R:Type} (c:Ctx) (h f:Nat) (b8:List Operand) (x:Operand) (o1 o2:Oper) (st:St) (K:St→Option R):Option R:=
 let fin (ys:List MV) (st:St):Option R:=jy st (o2.dst.getD 0) ⟨c.r7 (c.key h),false,ys⟩ fun st=>bw c st o2.dst (.sc (.own (o2.dst.getD 0))) fun st=>bw c st o1.dst (.sc .un) K
 match c.sig (c.key f) with
 |none=>bif c.eB (c.key f) then none else Aw c st b8 fun ms st=>Ax c (c.key h) st (aT c st x) fun m st=>gF m fun xs=>cU (xs.all NG)<|bd (lZ (Tx c.g (c.key f) ms) () xs) fun p=>fin p.1 st
 |some sg=>Aw c st b8.dropLast fun ms st=>Ax c (c.key h) st (aT c st x) fun m st=>gF m fun xs=>cU (xs.all NG)<|
  (match b8.getLast? with
  |some y=>(match aT c st y with
   | .ptr root 0=>(match ao st.fr root with
    | .box cs=>bif eV cs||bE st.ct root||!gY c sg.2||!Nat.beq sg.1 (ms.length+1)||!c.eB (c.key f) then none else
     jz st [] sg.2 cs fun ls ps=>bd (lZ (HV c.g (c.key f) ms) ls xs) fun p=>HT st root sg.2 ps p.2 fun st=>fin p.1 st
    |_=>none)
   |_=>none)
  |none=>none)
def Ay (c:Ctx):List Oper→List Oper→Option (List Oper×Nat×List Operand×Nat×Operand×Oper×Oper×List Oper)
 |pre,o1::o2::r=>match o1.op,o2.op with
  | .makeFunc (.func f) first b8,.call cl=>(match cl.callee,cl.args.toList,first.toList,o1.dst with
   | .value (.func h),[.tmp x,.tmp y],[],some d=>bif c.Jx h&&Nat.beq y d&&!Nat.beq x d&&!Nat.ble c.n d&&!Nat.beq (o2.dst.getD d) d then some (pre.reverse,f,b8.toList,h,.tmp x,o1,o2,r) else Ay c (o1::pre) (o2::r)
   |_,_,_,_=>Ay c (o1::pre) (o2::r))
  |_,_=>Ay c (o1::pre) (o2::r)
 |_,_=>none
def Eh:List Oper→Bool
 |[]=>true
 |o::r=>(match o.guard with|none=>Eh r|some _=>false)
def Tz {R:Type} (c:Ctx) (id:Nat) (ops:List Oper) (st:St) (K:St→Option R):Option R:=
 match Ay c [] ops with
 |some (pre,f,b8,h,x,o1,o2,post)=>bif Eh ops then BT (qo ops) st fun st=>uW c ops pre st fun st=>Ty c h f b8 x o1 o2 st fun st=>uW c ops post st K else none
 |none=>DV c id ops ops st K
def fzK {R:Type} (c:Ctx) (ts:List Nat) (st:St) (K:St→Option R):Option R:=match ts with
 |[]=>K st
 |ts=>Aw c st (ts.map .tmp) fun _ st=>K st
def n7 (ops:Array Oper) (A B:Nat):Array Oper:=ops.modify B fun o=>{o with after:=o.after.push ⟨A,.data⟩}
open Classical in
noncomputable def both {R:Type} (x y:Option R):Option R:=if x=y then x else none
def TA (n:Nat) (l:List Nat):Option (List Nat×List Nat×Nat×Nat):=match l.drop (n+n) with
 |[A,B]=>bif Nat.beq A B||(Nat.ble n A||Nat.ble n B) then none else some (l.take n,(l.drop n).take n,A,B)
 |_=>none
noncomputable def adU {R:Type} (c:Ctx) (ops:Array Oper) (ord:List Nat) (st:St) (K:St→Option R):Option R:=
 match TA ops.toList.length ord with
 |some (o1,o2,A,B)=>bif !guarded ops.toList&&(qY c (n7 ops A B) o1&&qY c (n7 ops B A) o2) then
  (match ll (n7 ops A B).toList o1,ll (n7 ops B A).toList o2 with
  |some l1,some l2=>BT (qo ops.toList) st fun st=>both (uW c (n7 ops A B).toList l1 st K) (uW c (n7 ops B A).toList l2 st K)
  |_,_=>none) else none
 |none=>none
noncomputable def PJ {R:Type} (c:Ctx) (id:Nat) (ops:Array Oper) (draw:Bool) (st:St) (K:St→Option R):Option R:=
 fzK c (c.fz id) st fun st=>bif draw then (bif !Nat.beq (c.ord id).length ops.toList.length then adU c ops (c.ord id) st K else bif qY c ops (c.ord id) then (match ll ops.toList (c.ord id) with|some l=>DV c id ops.toList l st K|none=>none) else none)
 else Tz c id ops.toList st K
noncomputable def nZ (c:Ctx):Code→(R:Type)→St→(Nat→St→Option R)→Option R
 | .skip,_,st,K=>K 0 st
 | .region id ops d,_,st,K=>PJ c id ops d st fun st=>K 0 st
 | .seq a b,R,st,K=>nZ c a R st fun e st=>bif Nat.beq e 0 then nZ c b R st K else K e st
 | .cond x a b,R,st,K=>(match aT c st x with
  | .sc (.p (.b v))=>
   bif bE (kJ a) 0&&bE (kJ b) 0 then
    Ef c (c.Jw ((fh (.seq a b)).getD 0)) st fun ec dO=>
    bd (a7 v (nZ c a (Nat×List MV) ec fun e st=>mY st [] ((c.Jw ((fh (.seq a b)).getD 0)).ex e) fun vs=>some (e,vs))
     (nZ c b (Nat×List MV) ec fun e st=>mY st [] ((c.Jw ((fh (.seq a b)).getD 0)).ex e) fun vs=>some (e,vs)))
     fun r=>G3 (uni (kJ a) (kJ b)) r.1 fun e=>mZ (BS st dO) ((c.Jw ((fh (.seq a b)).getD 0)).ex e) r.2 fun st=>K e st
   else a7 v (nZ c a R st K) (nZ c b R st K)
  |_=>none)
 | .block id b,R,st,K=>nZ c b R st fun e st=>bif Nat.beq e (id+2) then K 0 st else K e st
 | .loop b,_,st,K=>
  Ef c (c.G5 ((fh b).getD 0)) st fun ec dO=>mY ec [] (c.G5 ((fh b).getD 0)).outs fun vs=>
   bd (Loop (fun ms=>mZ dO (c.G5 ((fh b).getD 0)).outs ms fun st=>nZ c b (Sum (List MV) (Nat×List MV)) st fun e st=>
    bif Nat.beq e 0 then mY st [] (c.G5 ((fh b).getD 0)).outs fun vs=>some (.inl vs) else mY st [] ((c.G5 ((fh b).getD 0)).ex e) fun vs=>some (.inr (e,vs))) vs)
    fun r=>G3 (minus (kJ b) [0]) r.1 fun e=>mZ (BS st dO) ((c.G5 ((fh b).getD 0)).ex e) r.2 fun st=>K e st
 | .exit id,_,st,K=>K (id+2) st
 | .ret,_,st,K=>K 1 st
 |_,_,_,_=>none
def Ei {R:Type} (c:Ctx):List Nat→Nat→List MV→(Fr→List MV→Option R)→Option R
 |[],_,ms,K=>K [] ms
 |t::ts,n,ms,K=>match c.tv t with
  |some I=>gC ms fun m r=>CH I m fun s=>Ei c ts (n+1) r fun fr ms=>K ((n,s)::fr) ms
  |none=>none
def NH {R:Type}:List (List Kd)→Nat→List MV→(Fr→Option R)→Option R
 |[],_,ms,K=>gN ms (K [])
 |ks::r,n,ms,K=>gC ms fun m ms=>gP m fun cs=>sv ks cs fun cs=>NH r (n+1) ms fun fr=>K ((n,.wZ cs)::fr)
def NI {R:Type} (c:Ctx) (st:St) (fresh:Option Nat):List ResultVar→(List MV→Option R)→Option R
 |[],K=>K []
 |r::rs,K=>
  let go (s:Slot):Option R:=match fresh with
   |some ty=>(match s with
    | .sc (.own f)=>(match aO st.aV f with|some o=>bif o.eo||!Nat.beq o.ty ty then none else NI c st fresh rs fun ms=>K (.fresh o.xs::ms)|none=>none)
    | .sc .nil=>NI c st fresh rs fun ms=>K (.fresh []::ms)
    |_=>none)
   |none=>lM st s fun m st=>NI c st fresh rs fun ms=>K (m::ms)
  match r with
  | .tmp t=>go (ao st.fr t)
  | .cell a t=>match c.tv t,ao st.fr a with
   |some I,.box cs=>bif eV cs||zo a then none else jP I cs 0 fun s=>go s
   |_,_=>none
def QZ {R:Type} (c:Ctx) (st:St):List ResultVar→(List MV→St→Option R)→Option R
 |[],K=>K [] st
 |r::rs,K=>(match r with
  | .tmp t=>lM st (ao st.fr t) fun m st=>QZ c st rs fun ms st=>K (m::ms) st
  | .cell a t=>(match c.tv t,ao st.fr a with
   |some I,.box cs=>bif eV cs||zo a then none else jP I cs 0 fun s=>lM st s fun m st=>QZ c st rs fun ms st=>K (m::ms) st
   |_,_=>none))
def adV:List MV→MV
 |[m]=>m
 |ms=> .cN ms
noncomputable def HW (c:Ctx) (b8:List (List Kd)) (pos:Nat) (ks:List LK) (f:Func) (args:List MV):Option MV:=
 match f.body,args[pos]? with
 |some b,some (.cell (.func off ls))=>bif !gY c ks||!Nat.ble pos 999 then none else
  Ei c f.params.toList 0 (args.set pos (.rp [])) fun fr ms=>NH b8 f.params.size ms fun n8=>
   (match app fr n8 with
   |some fr=>cQ ⟨[],[],[],[]⟩ ks ls fun cs rest ye=>gN rest<|
    nZ c b MV ⟨[pos],[],(1000000+off *1000+pos,.box cs)::fr,ye.aV⟩ fun e st=>
     bif Nat.ble e 1 then QZ c st f.results.toList fun ms st=>(match ao st.fr (1000000+off *1000+pos) with
      | .box cs=>bif eV cs then none else jz st [] ks cs fun outs _=>some (.ey (adV ms) outs)
      |_=>none) else none
   |none=>none)
 |_,_=>none
noncomputable def HX (c:Ctx) (b8:List (List Kd)) (fresh:Option Nat) (f:Func) (args:List MV):Option MV:=
 match f.body with
 |some b=>Ei c f.params.toList 0 args fun fr ms=>NH b8 f.params.size ms fun n8=>
  match app fr n8 with
  |some fr=>nZ c b MV ⟨[],[],fr,[]⟩ fun e st=>
   bif Nat.ble e 1 then NI c st fresh f.results.toList fun ms=>(match ms with|[m]=>some m|ms=>some (.cN ms)) else none
  |none=>none
 |none=>none
end Dn
/-
  What abstract values and slots say of Go's memory. Conditions: none.
-/
namespace Dn
open Go
theorem km (w:World) (o:Obj):(w.alloc o).heap[w.heap.size]? =some o:=by
 show (w.heap.push o)[w.heap.size]? =some o
 simp
theorem Az (w:World) (o:Obj) (i:Nat) (h:i<w.heap.size):(w.alloc o).heap[i]? =w.heap[i]? :=by
 show (w.heap.push o)[i]? =w.heap[i]?
 rw [Array.getElem?_push,if_neg (Nat.ne_of_lt h)]
def MV.one:MV→Bool
 | .h _| .agg _| .cN _| .fresh _| .cell _| .ey _ _=>false
 |_=>true
abbrev Ph:=Nat→Nat→Option Value
section
variable (key:Nat→Nat) (φ:Ph)
mutual
inductive lm:List Value→MV→Prop
 |b (x:Bool):lm [.bool x] (.b x)
 |i (k:IntKind) (n:Int):lm [.int k n] (.i k n)
 |s (bs:ByteArray):lm [.string bs] (.s bs.data.toList)
 |h (x:kE):lm (x.l.map fun b=> .int .u8 (b.toNat:Int)) (.h x)
 |raw (v:Value):v.oneCell'=true→lm [v] (.raw v)
 |list (a:Option Addr) (cap:Nat) (xs:List MV) (bc off K0:Nat) (f:Nat→List Value):
  xs.length≤cap→(0<xs.length→a=some ⟨bc,off,none⟩)→(∀i,i<xs.length→(f i).length=K0)→
  (∀i j,i<xs.length→j<K0→φ bc (off+i *K0+j)=(f i)[j]?)→
  (∀(i:Nat) (h:i<xs.length),lm (f i) xs[i])→lm [.slice a xs.length cap] (.list xs)
 |agg (vs:List Value) (ms:List MV):gX vs ms→lm vs (.agg ms)
 |func (f k:Nat) (cap:Array Value) (ms:List MV):key f=k→gX cap.toList ms→(∀m∈ms,m.one=true)→lm [.func (.func f) #[] cap] (.func k ms)
 |rp (bc off:Nat) (vs:List Value) (ms:List MV):gX vs ms→(∀j,j<vs.length→φ bc (off+j)=vs[j]?)→lm [.pointer (some ⟨bc,off,none⟩)] (.rp ms)
inductive gX:List Value→List MV→Prop
 |nil:gX [] []
 |cons (v:List Value) (m:MV) (vs:List Value) (ms:List MV):lm v m→gX vs ms→gX (v++vs) (m::ms)
end
end
def qp (φ φ':Ph):Prop:= ∀b o v,φ b o=some v→φ' b o=some v
theorem qp.refl (φ:Ph):qp φ φ:=fun _ _ _ h=>h
theorem qp.yf {φ φ':Ph} (h:qp φ φ') {b j:Nat} {cs:List Value} (e:φ b j=cs[j]?) (hj:j<cs.length):φ' b j=cs[j]? :=by
 rw [List.getElem?_eq_getElem hj] at e⊢
 exact h _ _ _ e
theorem qp.trans {φ φ' φ'':Ph} (h:qp φ φ') (h':qp φ' φ''):qp φ φ'':=fun b o v e=>h' b o v (h b o v e)
section
set_option linter.unusedSectionVars false
variable {key:Nat→Nat} {φ φ':Ph} (hle:qp φ φ')
include hle
theorem JG {b o:Nat} {vs:List Value} {j:Nat} (hj:j<vs.length) (h:φ b o=vs[j]?):φ' b o=vs[j]? :=by
 rw [List.getElem?_eq_getElem hj] at h⊢
 exact hle _ _ _ h
mutual
theorem lm.mono {vs:List Value} {m:MV}:lm key φ vs m→lm key φ' vs m
 | .b x=> .b x
 | .i k n=> .i k n
 | .s bs=> .s bs
 | .h x=> .h x
 | .raw v h=> .raw v h
 | .list a cap xs bc off K0 f h1 h2 h3 h4 h5=> .list a cap xs bc off K0 f h1 h2 h3
  (fun i j hi hj=>JG hle (by rw [h3 i hi];exact hj) (h4 i j hi hj)) (fun i hi=>(h5 i hi).mono)
 | .agg vs ms h=> .agg vs ms h.mono
 | .func f k cap ms h1 h2 h3=> .func f k cap ms h1 h2.mono h3
 | .rp bc off vs ms h1 h2=> .rp bc off vs ms h1.mono (fun j hj=>JG hle hj (h2 j hj))
theorem gX.mono {vs:List Value} {ms:List MV}:gX key φ vs ms→gX key φ' vs ms
 | .nil=> .nil
 | .cons v m vs ms h1 h2=> .cons v m vs ms h1.mono h2.mono
end
end
section
variable {key:Nat→Nat} {φ:Ph}
mutual
theorem lm.cells {vs:List Value} {m:MV}:lm key φ vs m→ ∀v∈vs,v.oneCell'=true
 | .b x=>by simp [Value.oneCell']
 | .i k n=>by simp [Value.oneCell']
 | .s bs=>by simp [Value.oneCell']
 | .h x=>by
  intro v hv
  obtain ⟨b,_,rfl⟩:=List.mem_map.1 hv
  rfl
 | .raw v h=>by simpa using h
 | .list .. =>by simp [Value.oneCell']
 | .agg vs ms h=>h.cells
 | .func .. =>by simp [Value.oneCell']
 | .rp .. =>by simp [Value.oneCell']
theorem gX.cells {vs:List Value} {ms:List MV}:gX key φ vs ms→ ∀v∈vs,v.oneCell'=true
 | .nil=>by simp
 | .cons v m vs ms h1 h2=>by
  intro x hx
  rcases List.mem_append.1 hx with hx|hx
  ·exact h1.cells x hx
  ·exact h2.cells x hx
end
end
section
variable {key:Nat→Nat} {φ:Ph}
mutual
theorem lm.width {vs:List Value} {m:MV}:lm key φ vs m→vs.length=m.w
 | .b x=>by simp [MV.w]
 | .i k n=>by simp [MV.w]
 | .s bs=>by simp [MV.w]
 | .h x=>by simp [MV.w,x.h]
 | .raw v h=>by simp [MV.w]
 | .list .. =>by simp [MV.w]
 | .agg vs ms h=>by rw [h.width];simp [MV.w]
 | .func .. =>by simp [MV.w]
 | .rp .. =>by simp [MV.w]
theorem gX.width {vs:List Value} {ms:List MV}:gX key φ vs ms→vs.length=MV.wl ms
 | .nil=>by simp [MV.wl]
 | .cons v m vs ms h1 h2=>by simp [MV.wl,h1.width,h2.width]
end
end
theorem lm.one {key:Nat→Nat} {φ:Ph} {vs:List Value} {m:MV} (h:lm key φ vs m) (hm:m.one=true): ∃v,vs=[v]∧v.oneCell'=true:=by
 have hc:=h.cells
 cases h<;>simp [MV.one] at hm<;>exact ⟨_,rfl,hc _ (by simp)⟩
def fj (key:Nat→Nat) (φ:Ph) (v:Value):MV→Prop
 | .h x=>v= .agg (x.l.map fun b=>Value.int .u8 (b.toNat:Int)).toArray
 | .agg ms=> ∃arr,v= .agg arr∧gX key φ arr.toList ms
 |m=>m.one=true∧lm key φ [v] m
set_option linter.unusedSectionVars false
theorem fj.mono {key:Nat→Nat} {φ φ':Ph} (hle:qp φ φ') {v:Value} {m:MV} (h:fj key φ v m):fj key φ' v m:=by
 cases m<;>simp only [fj] at h⊢ <;>first|exact h|exact ⟨h.1,h.2.mono hle⟩|(obtain ⟨arr,h1,h2⟩:=h;exact ⟨arr,h1,h2.mono hle⟩)
structure Env where
 key:Nat→Nat
 φ:Ph
 E:Nat→Value
 B:Nat→Nat
 m:List (Nat×nm)
def bq (x:kE):List Value:=x.l.map fun b=>Value.int .u8 (b.toNat:Int)
theorem cR (x:kE):(bq x).length=32:=by simp [bq,x.h]
def aY (e:Env) (vs:List Value):aG→Prop
 | .un=> ∃v,vs=[v]∧v.oneCell'=true
 | .p x=>x.one=true∧lm e.key e.φ vs x
 | .hs x=>vs=bq x
 | .nil=>vs=[.slice none 0 0]
 | .mp _ _=>False
 | .own f=> ∃v,vs=[v]∧v.oneCell'=true∧(∀o,aO e.m f=some o→v=e.E f)
def aw (e:Env):List Value→List aG→Prop
 |vs,[]=>vs=[]
 |vs,l::ls=> ∃v r,vs=v++r∧aY e v l∧aw e r ls
def sw:aG→Bool
 | .p _| .hs _=>true
 |_=>false
def iU:List aG→Bool
 |[]=>true
 |l::r=>sw l&&iU r
def Ej (st:Bool) (x:MV) (cs:List aG):Prop:=(∃ms,bH cs=some ms∧tl st ms=some x)∧ ∀m,aG.p m∈cs→m.one=true
def zr:Slot→Bool
 | .sc l=>sw l
 | .ag cs=>iU cs
 |_=>false
mutual
def ab (e:Env) (v:Value):Slot→Prop
 | .skip=>v=undef
 | .sc l=>match l with
  | .un=>True
  | .hs x=>v= .agg (bq x).toArray
  |l=>aY e [v] l
 | .ag cs=> ∃arr,v= .agg arr∧aw e arr.toList cs
 | .cN vs=> ∃arr,v= .tuple arr∧jQ e arr.toList vs
 | .box _=>False
 | .wZ cs=> ∃bc o vs,v= .pointer (some ⟨bc,o,none⟩)∧aw e vs cs∧iU cs=true∧(∀j,j<vs.length→e.φ bc (o+j)=vs[j]?)
 | .ptr r o=>v= .pointer (some ⟨e.B r,o,none⟩)
 | .w8 r=>v= .map (some (e.B r))
 | .rp cs off=> ∃bc o vs,v= .pointer (some ⟨bc,o+off,none⟩)∧aw e vs cs∧iU cs=true∧(∀j,j<vs.length→e.φ bc (o+j)=vs[j]?)
 | .hp r o i=>v= .pointer (some ⟨e.B r,o+i,none⟩)∧i<32
 | .ep f i off st cs=> ∀o,aO e.m f=some o→ ∃bc cap,e.E f= .slice (some ⟨bc,0,none⟩) o.xs.length cap∧(∃x,o.xs[i]? =some x∧Ej st x cs)∧
  v= .pointer (some ⟨bc,i *w9 cs+off,none⟩)
def jQ (e:Env):List Value→List Slot→Prop
 |vs,[]=>vs=[]
 |vs,s::ss=> ∃v r,vs=v::r∧ab e v s∧zr s=true∧jQ e r ss
end
def TB:aG→List Value→Bool
 | .p (.b x),[.bool y]=>x==y
 | .p (.i k n),[.int k' n']=>decide (k=k')&&decide (n=n')
 | .p (.s l),[.string s]=>decide (l=s.data.toList)
 | .p (.raw v),[w]=>match v,w with
  | .nilFunc,.nilFunc=>true
  | .nilIface,.nilIface=>true
  | .pointer none,.pointer none=>true
  |_,_=>false
 | .nil,[.slice none 0 0]=>true
 | .un,[v]=>v.oneCell'
 | .hs x,vs=>(vs.length==32)&&(vs.zip x.l).all fun p=>match p.1 with| .int .u8 n=>decide (n=(p.2.toNat:Int))|_=>false
 |_,_=>false
def sB:List aG→List Value→Bool
 |[],vs=>vs.isEmpty
 |l::ls,vs=>TB l (vs.take l.w)&&sB ls (vs.drop l.w)&&decide (l.w≤vs.length)
end Dn
/-
  How an abstract state stands to a frame and a memory; laws of frames and leaves. Conditions: none.
-/
set_option linter.unusedSimpArgs false
set_option linter.unusedVariables false
namespace Dn
open Go
def cc:Fr→Nat→Slot→Fr
 |[],t,v=>[(t,v)]
 |(k,s)::r,t,v=>bif Nat.beq k t then (k,v)::r else (k,s)::cc r t v
def du (ds:List Nat):Fr→Fr
 |[]=>[]
 |(k,s)::r=>bif dp s||bE ds k then du ds r else (k,s)::du ds r
def nn (ks:List Nat):Fr→Fr
 |[]=>[]
 |(k,s)::r=>bif bE ks k&&!dp s then (k,s)::nn ks r else nn ks r
def bR:List (Nat×nm)→Nat→nm→List (Nat×nm)
 |[],t,v=>[(t,v)]
 |(k,s)::r,t,v=>bif Nat.beq k t then (k,v)::r else (k,s)::bR r t v
def K1 (f:Nat):aG→aG
 | .own g=>bif Nat.beq g f then .un else .own g
 |l=>l
def zt (f:Nat):Slot→Slot
 | .sc l=> .sc (K1 f l)
 | .ag cs=> .ag (cs.map (K1 f))
 | .box cs=> .box (cs.map (K1 f))
 | .ep g i o b cs=>bif Nat.beq g f then .sc .un else .ep g i o b cs
 |s=>s
def kF (f:Nat) (r:Fr):Fr:=r.map fun p=>(p.1,zt f p.2)
def xc (f:Nat) (r:Fr):Fr:=r.map fun p=>(p.1,match p.2 with
 | .ep g i o b cs=>bif Nat.beq g f then .sc .un else .ep g i o b cs
 |s=>s)
def NJ (ps:List Nat):aG→aG
 | .own g=>bif bE ps g then .own g else .un
 |l=>l
def GW (ps:List Nat):Slot→Slot
 | .sc l=> .sc (NJ ps l)
 | .ag cs=> .ag (cs.map (NJ ps))
 | .box cs=> .box (cs.map (NJ ps))
 |s=>s
def NK (ps:List Nat) (r:Fr):Fr:=r.map fun p=>(p.1,GW ps p.2)
def qZ (ks fs qs:List Nat):List (Nat×nm)→List (Nat×nm)
 |[]=>[]
 |(k,o)::r=>bif bE ks k then (bif bE fs k&&!bE qs k then (k,⟨o.ty,true,o.xs⟩) else (k,o))::qZ ks fs qs r else qZ ks fs qs r
section
variable {R:Type}
theorem force_eq (s:Slot) (K:Slot→Option R):force s K=K s:=by cases s<;>rfl
theorem ln (r:Fr) (t:Nat) (s:Slot) (K:Fr→Option R):G4 r t s K=K (cc r t s):=by
 induction r generalizing K with
 |nil=>rfl
 |cons p r ih=>obtain ⟨k,x⟩:=p;simp only [G4,cc];cases Nat.beq k t<;>simp [ih]
theorem CJ (ds:List Nat) (r:Fr) (K:Fr→Option R):tQ ds r K=K (du ds r):=by
 induction r generalizing K with
 |nil=>rfl
 |cons p r ih=>obtain ⟨k,x⟩:=p;simp only [tQ,du];cases dp x||bE ds k<;>simp [ih]
theorem Xy (ks:List Nat) (r:Fr) (K:Fr→Option R):pick ks r K=K (nn ks r):=by
 induction r generalizing K with
 |nil=>rfl
 |cons p r ih=>obtain ⟨k,x⟩:=p;simp only [pick,nn];cases bE ks k&&!dp x<;>simp [ih]
theorem np (r:List (Nat×nm)) (t:Nat) (s:nm) (K:List (Nat×nm)→Option R):Nz r t s K=K (bR r t s):=by
 induction r generalizing K with
 |nil=>rfl
 |cons p r ih=>obtain ⟨k,x⟩:=p;simp only [Nz,bR];cases Nat.beq k t<;>simp [ih]
theorem Ek (f:Nat) (cs:List aG) (K:List aG→Option R):uT f cs K=K (cs.map (K1 f)):=by
 induction cs generalizing K with
 |nil=>rfl
 |cons l r ih=>cases l<;>simp only [uT,List.map_cons,K1,ih];rename_i g;cases Nat.beq g f<;>rfl
theorem TD (f:Nat) (s:Slot) (K:Slot→Option R):HR f s K=K (zt f s):=by
 cases s with
 |sc l=>cases l<;>simp only [HR,zt,K1];rename_i g;cases Nat.beq g f<;>rfl
 |ag cs=>simp only [HR,zt,Ek]
 |box cs=>simp only [HR,zt,Ek]
 |ep g i o b cs=>simp only [HR,zt];cases Nat.beq g f<;>rfl
 |_=>rfl
theorem TE (f:Nat) (r:Fr) (K:Fr→Option R):kFr f r K=K (kF f r):=by
 induction r generalizing K with
 |nil=>rfl
 |cons p r ih=>obtain ⟨k,x⟩:=p;simp only [kFr,TD,ih,kF,List.map_cons]
theorem abi (f:Nat) (r:Fr) (K:Fr→Option R):kEp f r K=K (xc f r):=by
 induction r generalizing K with
 |nil=>rfl
 |cons p r ih=>
  obtain ⟨k,x⟩:=p
  cases x<;>simp only [kEp,ih,xc,List.map_cons]
  rename_i g i o b cs
  cases Nat.beq g f<;>rfl
theorem El (f:List Nat) (cs:List aG) (K:List aG→Option R):uX f cs K=K (cs.map (NJ f)):=by
 induction cs generalizing K with
 |nil=>rfl
 |cons l r ih=>cases l<;>simp only [uX,List.map_cons,NJ,ih];rename_i g;cases bE f g<;>rfl
theorem TF (f:List Nat) (s:Slot) (K:Slot→Option R):Lf f s K=K (GW f s):=by
 cases s with
 |sc l=>cases l<;>simp only [Lf,GW,NJ];rename_i g;cases bE f g<;>rfl
 |ag cs=>simp only [Lf,GW,El]
 |box cs=>simp only [Lf,GW,El]
 |_=>rfl
theorem abj (f:List Nat) (r:Fr) (K:Fr→Option R):nFr f r K=K (NK f r):=by
 induction r generalizing K with
 |nil=>rfl
 |cons p r ih=>obtain ⟨k,x⟩:=p;simp only [nFr,TF,ih,NK,List.map_cons]
theorem TG (ks fs qs:List Nat) (r:List (Nat×nm)) (K:List (Nat×nm)→Option R):HU ks fs qs r K=K (qZ ks fs qs r):=by
 induction r generalizing K with
 |nil=>rfl
 |cons p r ih=>
  obtain ⟨k,x⟩:=p
  simp only [HU,qZ]
  cases bE ks k
  ·simp [ih]
  ·simp only [cond_true,ih]
   cases bE fs k&&!bE qs k<;>rfl
theorem uY {α:Type} (x y:List α):app x y=some (x++y):=by
 induction x with
 |nil=>rfl
 |cons a r ih=>simp [app,ih]
end
theorem fm (a b:Nat):Nat.beq a b=decide (a=b):=by
 by_cases h:a=b
 ·subst h;simp
 ·simp only [h,decide_false];exact Bool.eq_false_iff.2 (fun e=>h (Nat.eq_of_beq_eq_true e))
theorem bF (l:List Nat) (t:Nat):bE l t=true↔t∈l:=by
 induction l with
 |nil=>simp [bE]
 |cons k r ih=>
  simp only [bE,fm,List.mem_cons]
  by_cases h:k=t
  ·simp [h]
  ·simp only [h,decide_false,cond_false,ih]
   exact ⟨.inr,fun h'=>h'.resolve_left (fun e=>h e.symm)⟩
theorem bN (r:Fr) (d t:Nat) (s:Slot):ao (cc r d s) t=if t=d then s else ao r t:=by
 induction r with
 |nil=>simp only [cc,ao,fm];by_cases h:t=d<;>simp [h,Ne.symm]<;>(intro e;exact absurd e.symm h)
 |cons p r ih=>
  obtain ⟨k,x⟩:=p
  simp only [cc,fm]
  by_cases hk:k=d
  ·subst hk
   simp only [decide_true,cond_true,ao,fm]
   by_cases h:k=t
   ·simp [h]
   ·have h': ¬t=k:=fun e=>h e.symm
    simp [h,h']
  ·simp only [hk,decide_false,cond_false,ao,fm,ih]
   by_cases h:k=t
   ·subst h;simp [hk]
   ·simp [h]
theorem bh (r:List (Nat×nm)) (d t:Nat) (s:nm):aO (bR r d s) t=if t=d then some s else aO r t:=by
 induction r with
 |nil=>simp only [bR,aO,fm];by_cases h:t=d<;>simp [h,Ne.symm]<;>(intro e;exact absurd e.symm h)
 |cons p r ih=>
  obtain ⟨k,x⟩:=p
  simp only [bR,fm]
  by_cases hk:k=d
  ·subst hk
   simp only [decide_true,cond_true,aO,fm]
   by_cases h:k=t
   ·simp [h]
   ·have h': ¬t=k:=fun e=>h e.symm
    simp [h,h']
  ·simp only [hk,decide_false,cond_false,aO,fm,ih]
   by_cases h:k=t
   ·subst h;simp [hk]
   ·simp [h]
theorem Em (g:Slot→Slot) (hg:g (.sc .un)= .sc .un) (r:Fr) (t:Nat):ao (r.map fun p=>(p.1,g p.2)) t=g (ao r t):=by
 induction r with
 |nil=>simp [ao,hg]
 |cons p r ih=>
  obtain ⟨k,x⟩:=p
  simp only [List.map_cons,ao,fm]
  by_cases h:k=t<;>simp [h,ih]
theorem gq (f:Nat) (r:Fr) (t:Nat):ao (kF f r) t=zt f (ao r t):=Em (zt f) rfl r t
theorem HY (f:List Nat) (r:Fr) (t:Nat):ao (NK f r) t=GW f (ao r t):=Em (GW f) rfl r t
def aU (r:Fr):List Nat:=r.map Prod.fst
theorem qJ (r:Fr) (t:Nat) (h:t∉aU r):ao r t= .sc .un:=by
 induction r with
 |nil=>rfl
 |cons p r ih=>
  obtain ⟨k,x⟩:=p
  simp only [aU,List.map_cons,List.mem_cons,not_or] at h
  have h': ¬k=t:=fun e=>h.1 e.symm
  simp only [ao,fm,h',decide_false,cond_false]
  exact ih h.2
theorem AA (ds:List Nat) (r:Fr):List.Sublist (aU (du ds r)) (aU r):=by
 induction r with
 |nil=>simp [aU,du]
 |cons p r ih=>
  obtain ⟨k,x⟩:=p
  simp only [du]
  cases dp x||bE ds k
  ·simpa [aU] using ih
  ·exact (List.Sublist.cons _ ih)
theorem uZ (ds:List Nat) (r:Fr):List.Sublist (aU (nn ds r)) (aU r):=by
 induction r with
 |nil=>simp [aU,nn]
 |cons p r ih=>
  obtain ⟨k,x⟩:=p
  simp only [nn]
  cases bE ds k&&!dp x
  ·exact (List.Sublist.cons _ ih)
  ·simpa [aU] using ih
theorem En (ds:List Nat) (r:Fr) (hn:(aU r).Nodup) (t:Nat):ao (du ds r) t=if dp (ao r t)||bE ds t then .sc .un else ao r t:=by
 induction r with
 |nil=>simp [ao,du]
 |cons p r ih=>
  obtain ⟨k,x⟩:=p
  simp only [aU,List.map_cons,List.nodup_cons] at hn
  have ih:=ih hn.2
  simp only [du]
  by_cases hk:k=t
  ·subst hk
   cases hb:dp x||bE ds k
   ·simp [ao,fm,hb]
   ·simp only [cond_true,ao,fm,decide_true,hb,if_true]
    refine qJ _ _ (fun hm=>hn.1 ((AA ds r).subset hm))
  ·cases hb:dp x||bE ds k
   ·simp [ao,fm,hk,ih]
   ·simp [ao,fm,hk,ih]
theorem zR (ds:List Nat) (r:Fr) (hn:(aU r).Nodup) (t:Nat):ao (nn ds r) t=if bE ds t&&!dp (ao r t) then ao r t else .sc .un:=by
 induction r with
 |nil=>simp [ao,nn]
 |cons p r ih=>
  obtain ⟨k,x⟩:=p
  simp only [aU,List.map_cons,List.nodup_cons] at hn
  have ih:=ih hn.2
  simp only [nn]
  by_cases hk:k=t
  ·subst hk
   cases hb:bE ds k&&!dp x
   ·simp only [cond_false,ao,fm,decide_true,cond_true,hb]
    exact qJ _ _ (fun hm=>hn.1 ((uZ ds r).subset hm))
   ·simp [ao,fm,hb]
  ·cases hb:bE ds k&&!dp x<;>simp [ao,fm,hk,ih]
theorem xd (r s:Fr) (t:Nat):ao (r++s) t=if t∈aU r then ao r t else ao s t:=by
 induction r with
 |nil=>simp [aU]
 |cons p r ih=>
  obtain ⟨k,x⟩:=p
  simp only [List.cons_append,ao,fm,aU,List.map_cons,List.mem_cons]
  by_cases h:k=t
  ·simp [h]
  ·have h': ¬t=k:=fun e=>h e.symm
   simp only [h,h',decide_false,cond_false,ih,false_or]
   rfl
end Dn
/-
  Laws of leaves and slots: offsets, and what changes elsewhere. Conditions: none.
-/
set_option linter.unusedSimpArgs false
set_option linter.unusedVariables false
namespace Dn
open Go
section
variable {e e':Env}
theorem aY.width {vs:List Value} {l:aG} (h:aY e vs l):vs.length=l.w:=by
 cases l with
 |un=>obtain ⟨v,rfl,_⟩:=h;rfl
 |p m=>obtain ⟨v,rfl,_⟩:=h.2.one h.1;rfl
 |hs x=>cases h;simp [bq,x.h,aG.w]
 |nil=>cases h;rfl
 |mp s es=>exact h.elim
 |own f=>obtain ⟨v,rfl,_⟩:=h;rfl
theorem aY.cells {vs:List Value} {l:aG} (h:aY e vs l): ∀v∈vs,v.oneCell'=true:=by
 cases l with
 |un=>obtain ⟨v,rfl,hv⟩:=h;simpa using hv
 |p m=>exact h.2.cells
 |hs x=>
  cases h
  intro v hv
  obtain ⟨b,_,rfl⟩:=List.mem_map.1 hv
  rfl
 |nil=>cases h;simp [Value.oneCell']
 |mp s es=>exact h.elim
 |own f=>obtain ⟨v,rfl,hv,_⟩:=h;simpa using hv
theorem aw.width {cs:List aG}: ∀{vs:List Value},aw e vs cs→vs.length=w9 cs:=by
 induction cs with
 |nil=>intro vs h;cases h;rfl
 |cons l r ih=>intro vs h;obtain ⟨v,w,rfl,h1,h2⟩:=h;simp [w9,h1.width,ih h2]
theorem aw.cells {cs:List aG}: ∀{vs:List Value},aw e vs cs→ ∀v∈vs,v.oneCell'=true:=by
 induction cs with
 |nil=>intro vs h;cases h;simp
 |cons l r ih=>
  intro vs h v hv
  obtain ⟨a,w,rfl,h1,h2⟩:=h
  rcases List.mem_append.1 hv with hv|hv
  ·exact h1.cells v hv
  ·exact ih h2 v hv
theorem aw.append {cs ds:List aG}: ∀{vs ws:List Value},aw e vs cs→aw e ws ds→aw e (vs++ws) (cs++ds):=by
 induction cs with
 |nil=>intro vs ws h h';cases h;simpa using h'
 |cons l r ih=>intro vs ws h h';obtain ⟨v,w,rfl,h1,h2⟩:=h;exact ⟨v,w++ws,by simp,h1,ih h2 h'⟩
theorem xe {cs:List aG}: ∀{off:Nat} {ds:List aG} {vs:List Value},cut cs off=some ds→aw e vs cs→
 ∃v1 v2,vs=v1++v2∧v1.length=off∧aw e v2 ds:=by
 induction cs with
 |nil=>
  intro off ds vs h hr
  cases off with
  |zero=>simp only [cut,Option.some.injEq] at h;subst h;exact ⟨[],vs,rfl,rfl,hr⟩
  |succ n=>simp [cut] at h
 |cons l r ih=>
  intro off ds vs h hr
  cases off with
  |zero=>simp only [cut,Option.some.injEq] at h;subst h;exact ⟨[],vs,rfl,rfl,hr⟩
  |succ n=>
   simp only [cut] at h
   cases hb:Nat.ble l.w (n+1) with
   |false=>simp [hb] at h
   |true=>
    simp only [hb,cond_true] at h
    have hle:=Nat.le_of_ble_eq_true hb
    obtain ⟨v,w,rfl,h1,h2⟩:=hr
    obtain ⟨v1,v2,rfl,hl,h3⟩:=ih h h2
    exact ⟨v++v1,v2,by simp,by simp [h1.width,hl];omega,h3⟩
theorem Q0 {cs:List aG}: ∀{n:Nat} {ds:List aG} {vs:List Value},K9 cs n=some ds→aw e vs cs→
 ∃v1 v2,vs=v1++v2∧v1.length=n∧aw e v1 ds:=by
 induction cs with
 |nil=>
  intro n ds vs h hr
  cases n with
  |zero=>simp only [K9,Option.some.injEq] at h;subst h;exact ⟨[],vs,rfl,rfl,rfl⟩
  |succ n=>simp [K9] at h
 |cons l r ih=>
  intro n ds vs h hr
  cases n with
  |zero=>simp only [K9,Option.some.injEq] at h;subst h;exact ⟨[],vs,rfl,rfl,rfl⟩
  |succ n=>
   simp only [K9] at h
   cases hb:Nat.ble l.w (n+1) with
   |false=>simp [hb] at h
   |true=>
    simp only [hb,cond_true] at h
    have hle:=Nat.le_of_ble_eq_true hb
    obtain ⟨v,w,rfl,h1,h2⟩:=hr
    cases hu:K9 r (n+1-l.w) with
    |none=>simp [hu] at h
    |some b=>
     simp only [hu,Option.some.injEq] at h
     subst h
     obtain ⟨v1,v2,rfl,hl,h3⟩:=ih hu h2
     exact ⟨v++v1,v2,by simp,by simp [h1.width,hl];omega,v,v1,rfl,h1,h3⟩
theorem HZ {cs:List aG} {off n:Nat} {ds:List aG} {vs:List Value} (h:part cs off n=some ds) (hr:aw e vs cs):
 ∃v1 v2 v3,vs=v1++v2++v3∧v1.length=off∧v2.length=n∧aw e v2 ds:=by
 unfold part at h
 cases hc:cut cs off with
 |none=>simp [hc] at h
 |some a=>
  simp only [hc] at h
  obtain ⟨v1,v2,rfl,h1,h2⟩:=xe hc hr
  obtain ⟨v3,v4,rfl,h3,h4⟩:=Q0 h h2
  exact ⟨v1,v3,v4,by simp,h1,h3,h4⟩
theorem H0 {ls:List aG}: ∀{cs ds:List aG} {vs ws:List Value},over ls cs=some ds→aw e vs cs→aw e ws ls→
 ∃v1 v2,vs=v1++v2∧v1.length=ws.length∧aw e (ws++v2) ds:=by
 induction ls with
 |nil=>intro cs ds vs ws h hr hw;simp only [over,Option.some.injEq] at h;subst h;cases hw;exact ⟨[],vs,rfl,rfl,hr⟩
 |cons l r ih=>
  intro cs ds vs ws h hr hw
  cases cs with
  |nil=>simp [over] at h
  |cons c cs=>
   simp only [over] at h
   cases hb:Nat.beq l.w c.w with
   |false=>simp [hb] at h
   |true=>
    simp only [hb,cond_true] at h
    have hww:=Nat.eq_of_beq_eq_true hb
    cases ho:over r cs with
    |none=>simp [ho] at h
    |some q=>
     simp only [ho,Option.some.injEq] at h
     subst h
     obtain ⟨v,w,rfl,h1,h2⟩:=hr
     obtain ⟨a,b,rfl,h3,h4⟩:=hw
     obtain ⟨v1,v2,rfl,hl,h5⟩:=ih ho h2 h4
     exact ⟨v++v1,v2,by simp,by simp [h1.width,h3.width,hl,hww],a,b++v2,by simp,h3,h5⟩
theorem u5 {cs:List aG}: ∀{off:Nat} {ls ds:List aG} {vs ws:List Value},putAt cs off ls=some ds→aw e vs cs→aw e ws ls→
 ∃v1 v2 v3,vs=v1++v2++v3∧v1.length=off∧v2.length=ws.length∧aw e (v1++ws++v3) ds:=by
 induction cs with
 |nil=>
  intro off ls ds vs ws h hr hw
  cases off with
  |zero=>
   simp only [putAt] at h
   obtain ⟨v1,v2,rfl,h1,h2⟩:=H0 h hr hw
   exact ⟨[],v1,v2,by simp,rfl,h1,by simpa using h2⟩
  |succ n=>simp [putAt] at h
 |cons l r ih=>
  intro off ls ds vs ws h hr hw
  cases off with
  |zero=>
   simp only [putAt] at h
   obtain ⟨v1,v2,rfl,h1,h2⟩:=H0 h hr hw
   exact ⟨[],v1,v2,by simp,rfl,h1,by simpa using h2⟩
  |succ n=>
   simp only [putAt] at h
   cases hb:Nat.ble l.w (n+1) with
   |false=>simp [hb] at h
   |true=>
    simp only [hb,cond_true] at h
    have hle:=Nat.le_of_ble_eq_true hb
    obtain ⟨v,w,rfl,h1,h2⟩:=hr
    cases hu:putAt r (n+1-l.w) ls with
    |none=>simp [hu] at h
    |some b=>
     simp only [hu,Option.some.injEq] at h
     subst h
     obtain ⟨v1,v2,v3,rfl,hl,uR,h3⟩:=ih hu h2 hw
     exact ⟨v++v1,v2,v3,by simp,by simp [h1.width,hl];omega,uR,v,v1++ws++v3,by simp,h1,h3⟩
structure kn (S T:Nat→Prop) (e e':Env):Prop where
 key:e'.key=e.key
 φ:qp e.φ e'.φ
 B: ∀r,T r→e'.B r=e.B r
 iT: ∀f o',aO e'.m f=some o'→S f→ ∃o,aO e.m f=some o∧e'.E f=e.E f∧o'.xs=o.xs
def iZ (S:Nat→Prop) (l:aG):Prop:= ∀f,l= .own f→S f
def fp (S T:Nat→Prop):Slot→Prop
 | .ptr r _=>T r
 | .w8 r=>T r
 | .hp r _ _=>T r
 | .sc l=>iZ S l
 | .ag cs=> ∀l∈cs,iZ S l
 | .ep g _ _ _ _=>S g
 |_=>True
theorem aY.on {S T:Nat→Prop} (h:kn S T e e') {vs:List Value} {l:aG} (hl:iZ S l) (hr:aY e vs l):aY e' vs l:=by
 cases l with
 |un=>exact hr
 |p m=>exact ⟨hr.1,by have:=hr.2.mono h.φ;rw [←h.key] at this;exact this⟩
 |hs x=>exact hr
 |nil=>exact hr
 |mp s es=>exact hr
 |own f=>
  obtain ⟨v,rfl,hv,hf⟩:=hr
  refine ⟨v,rfl,hv,fun o' zS=> ?_⟩
  obtain ⟨o,ho,hE,_⟩:=h.iT f o' zS (hl f rfl)
  rw [hE];exact hf o ho
theorem aw.on {S T:Nat→Prop} (h:kn S T e e') {cs:List aG}: ∀{vs:List Value},(∀l∈cs,iZ S l)→aw e vs cs→aw e' vs cs:=by
 induction cs with
 |nil=>intro vs _ hr;exact hr
 |cons l r ih=>
  intro vs hl hr
  obtain ⟨v,w,rfl,h1,h2⟩:=hr
  exact ⟨v,w,rfl,h1.on h (hl l (by simp)),ih (fun x hx=>hl x (by simp [hx])) h2⟩
theorem Eo {S:Nat→Prop} {l:aG} (h:sw l=true):iZ S l:=by
 intro f hf;subst hf;simp [sw] at h
theorem zT {S:Nat→Prop} {cs:List aG} (h:iU cs=true): ∀l∈cs,iZ S l:=by
 induction cs with
 |nil=>simp
 |cons l r ih=>
  simp only [iU,Bool.and_eq_true] at h
  intro x hx
  rcases List.mem_cons.1 hx with rfl|hx
  ·exact Eo h.1
  ·exact ih h.2 x hx
mutual
theorem ab.on {S T:Nat→Prop} (h:kn S T e e') {v:Value}: ∀{s:Slot},fp S T s→ab e v s→ab e' v s
 | .skip,_,hr=>by simpa [ab] using hr
 | .sc l,hs,hr=>by
  cases l with
  |un=>simp [ab]
  |hs x=>simpa [ab] using hr
  |p m=>simp only [ab] at hr⊢;exact hr.on h hs
  |nil=>simp only [ab] at hr⊢;exact hr.on h hs
  |mp s es=>simp only [ab] at hr⊢;exact hr
  |own f=>simp only [ab] at hr⊢;exact hr.on h hs
 | .ag cs,hs,hr=>by
  simp only [ab] at hr⊢
  obtain ⟨arr,h1,h2⟩:=hr
  exact ⟨arr,h1,h2.on h hs⟩
 | .cN vs,_,hr=>by
  simp only [ab] at hr⊢
  obtain ⟨arr,h1,h2⟩:=hr
  exact ⟨arr,h1,jQ.on h h2⟩
 | .box _,_,hr=>by simp [ab] at hr
 | .wZ cs,_,hr=>by
  simp only [ab] at hr⊢
  obtain ⟨bc,o,vs,h1,h2,h3,h4⟩:=hr
  exact ⟨bc,o,vs,h1,h2.on h (zT h3),h3,fun j hj=>JG h.φ hj (h4 j hj)⟩
 | .ptr r o,hs,hr=>by simp only [ab] at hr⊢;rw [h.B r hs];exact hr
 | .w8 r,hs,hr=>by simp only [ab] at hr⊢;rw [h.B r hs];exact hr
 | .rp cs off,_,hr=>by
  simp only [ab] at hr⊢
  obtain ⟨bc,o,vs,h1,h2,h3,h4⟩:=hr
  exact ⟨bc,o,vs,h1,h2.on h (zT h3),h3,fun j hj=>JG h.φ hj (h4 j hj)⟩
 | .hp r o i,hs,hr=>by simp only [ab] at hr⊢;rw [h.B r hs];exact hr
 | .ep f i off st cs,hs,hr=>by
  simp only [ab] at hr⊢
  intro o' zS
  obtain ⟨o,ho,hE,hx⟩:=h.iT f o' zS hs
  obtain ⟨bc,cap,h1,h2,h3⟩:=hr o ho
  exact ⟨bc,cap,by rw [hE,hx];exact h1,by rw [hx];exact h2,h3⟩
theorem jQ.on {S T:Nat→Prop} (h:kn S T e e'): ∀{vs:List Value} {ss:List Slot},jQ e vs ss→jQ e' vs ss
 |vs,[],hr=>hr
 |vs,s::ss,hr=>by
  simp only [jQ] at hr⊢
  obtain ⟨v,r,h1,h2,h3,h4⟩:=hr
  refine ⟨v,r,h1,ab.on h ?_ h2,h3,jQ.on h h4⟩
  cases s<;>simp [zr] at h3<;>simp only [fp]
  ·exact Eo h3
  ·exact zT h3
end
end
end Dn
/-
  The relation between an abstract state and a running frame; operations that change no memory. Conditions: none.
-/
set_option linter.unusedSimpArgs false
set_option linter.unusedVariables false
namespace Dn
open Go
section
variable {e e':Env}
theorem aY.kill {vs:List Value} {l:aG} (f:Nat) (h:aY e vs l):aY e vs (K1 f l):=by
 cases l with
 |own g=>
  simp only [K1]
  cases Nat.beq g f
  ·exact h
  ·obtain ⟨v,rfl,hv,_⟩:=h;exact ⟨v,rfl,hv⟩
 |_=>exact h
theorem Ep (f:Nat) (l:aG):iZ (· ≠f) (K1 f l):=by
 intro g hg
 cases l<;>simp [K1] at hg
 rename_i g'
 cases hb:Nat.beq g' f<;>simp [hb] at hg
 subst hg
 intro e;subst e;simp [fm] at hb
theorem aY.PK {vs:List Value} {l:aG} (f:List Nat) (h:aY e vs l):aY e vs (NJ f l):=by
 cases l with
 |own g=>
  simp only [NJ]
  cases bE f g
  ·obtain ⟨v,rfl,hv,_⟩:=h;exact ⟨v,rfl,hv⟩
  ·exact h
 |_=>exact h
theorem NL (f:List Nat) (l:aG):iZ (· ∈f) (NJ f l):=by
 intro g hg
 cases l<;>simp [NJ] at hg
 rename_i g'
 cases hb:bE f g'<;>simp [hb] at hg
 subst hg
 exact (bF _ _).1 hb
theorem aw.map {g:aG→aG} (hg: ∀vs l,aY e vs l→aY e vs (g l)) {cs:List aG}: ∀{vs:List Value},aw e vs cs→aw e vs (cs.map g):=by
 induction cs with
 |nil=>intro vs h;exact h
 |cons l r ih=>intro vs h;obtain ⟨v,w,rfl,h1,h2⟩:=h;exact ⟨v,w,rfl,hg _ _ h1,ih h2⟩
theorem ab.abk {v:Value} {l:aG} (hl: ∀x,l≠ .hs x) (hu:l≠ .un):ab e v (.sc l)↔aY e [v] l:=by
 cases l<;>simp_all [ab]
theorem ab.kill {v:Value} {s:Slot} (f:Nat) (h:ab e v s):ab e v (zt f s):=by
 cases s with
 |sc l=>
  cases l with
  |own g=>
   simp only [zt,K1]
   cases Nat.beq g f
   ·exact h
   ·simp [ab]
  |_=>exact h
 |ag cs=>simp only [zt,ab] at h⊢;obtain ⟨arr,h1,h2⟩:=h;exact ⟨arr,h1,h2.map (fun _ _=>aY.kill f)⟩
 |box cs=>simp [ab] at h
 |ep g i o b cs=>
  simp only [zt]
  cases Nat.beq g f
  ·exact h
  ·simp [ab]
 |_=>exact h
theorem TH (f:Nat) (T:Nat→Prop) (s:Slot) (hT:fp (fun _=>True) T s):fp (· ≠f) T (zt f s):=by
 cases s with
 |sc l=>exact Ep f l
 |ag cs=>intro l hl;obtain ⟨x,_,rfl⟩:=List.mem_map.1 hl;exact Ep f x
 |ep g i o b cs=>
  simp only [zt]
  cases hb:Nat.beq g f
  ·simp only [cond_false,fp];intro e;subst e;simp [fm] at hb
  ·simp [fp,iZ]
 |ptr r o=>exact hT
 |hp r o i=>exact hT
 |_=>trivial
theorem ab.PK {v:Value} {s:Slot} (f:List Nat) (h:ab e v s):ab e v (GW f s):=by
 cases s with
 |sc l=>
  cases l with
  |own g=>
   simp only [GW,NJ]
   cases bE f g
   ·simp [ab]
   ·exact h
  |_=>exact h
 |ag cs=>simp only [GW,ab] at h⊢;obtain ⟨arr,h1,h2⟩:=h;exact ⟨arr,h1,h2.map (fun _ _=>aY.PK f)⟩
 |box cs=>simp [ab] at h
 |_=>exact h
end
def a8 (key:Nat→Nat) (φ:Ph) (size:Nat):List Value→List MV→Prop
 |vs,[]=>vs=[]
 |vs,x::xs=> ∃v r,vs=v++r∧v.length=size∧lm key φ v x∧a8 key φ size r xs
structure bL where
 In:Nat→Prop
 ct:List Nat
 cu:List Nat
 T:Nat→Value
 cov:Prop
 Pr:Nat→Prop
instance:CoeFun bL (fun _=>Nat→Prop):=⟨bL.In⟩
instance:Coe bL (Nat→Prop):=⟨bL.In⟩
theorem Li {a b c:Prop} (h:(a∧b)∨c) (hn: ¬a):c:=h.resolve_left fun h=>hn h.1
def bL.nc (Z:bL):bL:={Z with cov:=False}
def bL.plain (I:Nat→Prop):bL:=⟨I,[],[],fun _=>undef,False,fun _=>True⟩
def bL.bz (Z:bL) (t:Nat):bL:={Z with In:=fun b=>(t∈Z.ct∧Z.Pr b)∨Z.In b}
def bL.fz (Z:bL) (f:Nat):bL:={Z with In:=fun b=>(f∈Z.cu∧Z.Pr b)∨Z.In b,cov:=f∈Z.cu}
def BU:Kd→MV→Bool
 | .b,.b _=>true
 | .i k,.i k' _=>decide (k'=k)
 | .s,.s _=>true
 | .h,.h _=>true
 |_,_=>false
def dq:List Kd→List MV→Bool
 |[],[]=>true
 |k::ks,m::ms=>BU k m&&dq ks ms
 |_,_=>false
def BJ:MV→List Value
 | .b x=>[.bool x]
 | .i k n=>[.int k n]
 | .s l=>[.string ⟨l.toArray⟩]
 | .h x=>bq x
 |_=>[]
def fJ (st:Bool) (ks:List MV):Value:=match st,ks with
 |false,[.h x]=> .agg (bq x).toArray
 |false,[.b x]=> .bool x
 |false,[.i k n]=> .int k n
 |false,[.s l]=> .string ⟨l.toArray⟩
 |_,ks=> .agg (ks.flatMap BJ).toArray
def yX (b:Bool) (m:MV):Value:=match b,m with
 |true,.b x=> .bool x
 |false,.i .i64 n=> .int .i64 n
 |_,_=>undef
def NM (b:Bool) (m:MV):Bool:=match b,m with
 |true,.b x=>true
 |false,.i .i64 n=>true
 |_,_=>false
def aah (s:MS) (x:MapEntry) (m:MV) (i:Nat):Prop:=
 x.born=i∧ ∃ks v,m= .cN [.agg ks,v]∧dq s.lay ks=true∧x.key=fJ s.st ks∧NM s.b v=true∧x.val=yX s.b v
structure q0 (s:MS) (es:Array MapEntry) (clock:Nat) (ms:List MV):Prop where
 size:es.size=ms.length
 clock:clock=ms.length
 Xz: ∀(i:Nat) x m,es[i]? =some x→ms[i]? =some m→aah s x m i
def jA (e:Env) (o:Obj) (cs:List aG):Prop:=match o with
 | .cells arr _ z=>z=(0,0)∧aw e arr.toList cs
 | .map es clock=> ∃s ms,cs=[.mp s ms]∧Dt s=false∧q0 s es clock ms
 | .stringIter x pos=>cs=[.mp MS.it [.s x.data.toList,.i .i64 pos]]
 |_=>False
def JH (cs:List aG) (b:Nat):Value:=bif kH cs then .map (some b) else .pointer (some ⟨b,0,none⟩)
structure sC (Z:bL) (e:Env) (w:World) (bc:Nat) (cs:List aG):Prop where
 cr:Z.In bc
 obj: ∃o,w.heap[bc]? =some o∧jA e o cs
 free: ∀off,e.φ bc off=none
theorem jA.on {S T:Nat→Prop} {e e':Env} (h:kn S T e e') {o:Obj} {cs:List aG} (hl: ∀l∈cs,iZ S l) (hr:jA e o cs):jA e' o cs:=by
 cases o with
 |cells arr T z=>exact ⟨hr.1,hr.2.on h hl⟩
 |map es clock=>exact hr
 |stringIter x pos=>exact hr
 |_=>exact hr.elim
theorem JI {cs:List aG} (h:eV cs=true): ∃s ms,cs=[.mp s ms]:=by
 unfold eV at h
 split at h
 ·exact ⟨_,_,rfl⟩
 ·cases h
theorem jA.cells {e:Env} {o:Obj} {cs:List aG} (hr:jA e o cs) (hm:eV cs=false): ∃arr T,o= .cells arr T (0,0)∧aw e arr.toList cs:=by
 cases o with
 |cells arr T z=>obtain ⟨rfl,h⟩:=hr;exact ⟨arr,T,rfl,h⟩
 |map es clock=>obtain ⟨s,ms,rfl,_⟩:=hr;simp [eV] at hm
 |stringIter x pos=>rw [show cs=_ from hr] at hm;simp [eV] at hm
 |_=>exact hr.elim
theorem u6 {cs:List aG} (h:eV cs=false):kH cs=false:=by
 unfold kH
 split
 ·simp [eV] at h
 ·rfl
theorem Lj (g:aG→aG) (h1: ∀s es,g (.mp s es)= .mp s es) (h2: ∀l,(∀s es,l≠ .mp s es)→ ∀s es,g l≠ .mp s es) (cs:List aG):kH (cs.map g)=kH cs:=by
 cases cs with
 |nil=>rfl
 |cons l r=>
  cases r with
  |nil=>
   by_cases hl: ∃s es,l= .mp s es
   ·obtain ⟨s,es,rfl⟩:=hl;simp [h1,kH]
   ·have BV: ∀s es,l≠ .mp s es:=fun s es e=>hl ⟨s,es,e⟩
    have hg:=h2 l BV
    simp only [List.map_cons,List.map_nil]
    have a:kH [l]=false:=by cases l<;>simp_all [kH]
    have b:kH [g l]=false:=by cases hq:g l<;>simp_all [kH]
    rw [a,b]
  |cons x y=>cases hl:l<;>simp [kH]
theorem sC.cells {Z:bL} {e:Env} {w:World} {bc:Nat} {cs:List aG} (h:sC Z e w bc cs) (hm:eV cs=false): ∃arr T,w.heap[bc]? =some (.cells arr T (0,0))∧aw e arr.toList cs:=by
 obtain ⟨o,h1,h2⟩:=h.obj
 obtain ⟨arr,T,rfl,h3⟩:=h2.cells hm
 exact ⟨arr,T,h1,h3⟩
theorem NN {cs:List aG} (hm:kH cs=false) (b:Nat):JH cs b= .pointer (some ⟨b,0,none⟩):=by simp [JH,hm]
theorem u7 {cs:List aG} (hm:eV cs=false) (b:Nat):JH cs b= .pointer (some ⟨b,0,none⟩):=NN (u6 hm) b
theorem TJ {cs:List aG} (hm:kH cs=true) (b:Nat):JH cs b= .map (some b):=by simp [JH,hm]
theorem jA.map {e:Env} {g:aG→aG} (hg: ∀vs l,aY e vs l→aY e vs (g l)) (hm: ∀s es,g (.mp s es)= .mp s es) {o:Obj} {cs:List aG} (hr:jA e o cs):jA e o (cs.map g):=by
 cases o with
 |cells arr T z=>exact ⟨hr.1,hr.2.map hg⟩
 |map es clock=>obtain ⟨s,ms,rfl,h2⟩:=hr;exact ⟨s,ms,by simp [hm],h2⟩
 |stringIter x pos=>rw [show cs=_ from hr];show List.map g _=_;simp [hm]
 |_=>exact hr.elim
theorem NO (f:Nat) (cs:List aG):kH (cs.map (K1 f))=kH cs:=
 Lj _ (fun _ _=>rfl) (fun l hl s es=>by cases l<;>simp_all [K1];rename_i g;cases Nat.beq g f<;>simp) cs
theorem abl (f:List Nat) (cs:List aG):kH (cs.map (NJ f))=kH cs:=
 Lj _ (fun _ _=>rfl) (fun l hl s es=>by cases l<;>simp_all [NJ];rename_i g;cases bE f g<;>simp) cs
structure dg (c:Ctx) (Z:bL) (e:Env) (w:World) (v:Value) (o:nm):Prop where
 row: ∃I cells,c.ti o.ty=some I∧I.cO=[]∧w.ownsRow 0 o.ty I.size v o.xs.length cells∧a8 e.key e.φ I.size cells o.xs∧
  ∀bc,v.ownBlock=some bc→Z.In bc∧(∀off u,e.φ bc off=some u→o.eo=true∧off<o.xs.length *I.size)∧(Z.cov→o.eo=true→ ∀j,j<cells.length→e.φ bc j=cells[j]?)
def tied (Z:bL) (t:Nat) (v:Value) (cs:List aG) (b:Nat):Prop:=
 (zo t=false→v=JH cs b)∧(zo t=true→posOf t∈Z.ct∧Z.T (posOf t)= .pointer (some ⟨b,K8 t,none⟩))
theorem tied.kH {Z:bL} {t:Nat} {v:Value} {cs fL:List aG} {b:Nat} (h:tied Z t v cs b) (hm:kH fL=kH cs):tied Z t v fL b:=⟨fun hp=>by rw [h.1 hp];simp [JH,hm],h.2⟩
theorem tied.own {Z:bL} {t:Nat} {v:Value} {cs:List aG} {b:Nat} (hp:zo t=false) (h:v=JH cs b):tied Z t v cs b:=⟨fun _=>h,fun hq=>by rw [hp] at hq;cases hq⟩
def bW (Z:bL) (e:Env) (w:World) (t:Nat) (v:Value):Slot→Prop
 | .box cs=>tied Z t v cs (e.B t)∧sC (Z.bz t) e w (e.B t) cs
 |s=>ab e v s
def cv (fr:Fr):Slot→Prop
 | .ptr r _=>cP (ao fr r)=true
 | .hp r _ _=>cP (ao fr r)=true
 | .w8 r=>cP (ao fr r)=true
 |_=>True
structure bX (c:Ctx) (Z:bL) (e:Env) (st:St) (a:Act) (w:World):Prop where
 defers:a.defers=[]∧st.ct=Z.ct∧st.cu=Z.cu∧ ∀t∈Z.ct,a.tmps.getD t undef=Z.T t
 size:a.tmps.size=c.n
 m:e.m=st.aV
 key:e.key=c.key
 nodup:(aU st.fr).Nodup
 slot: ∀t,bW Z e w t (a.tmps.getD t undef) (ao st.fr t)
 root: ∀t,cv st.fr (ao st.fr t)
 iT: ∀f o,aO st.aV f=some o→dg c (Z.fz f) e w (e.E f) o
 bb: ∀t t' cs fL,ao st.fr t= .box cs→ao st.fr t'= .box fL→t≠t'→e.B t≠e.B t'
 bf: ∀t cs f o,ao st.fr t= .box cs→aO st.aV f=some o→(e.E f).ownBlock≠some (e.B t)
 ff: ∀f f' o o' k,aO st.aV f=some o→aO st.aV f'=some o'→(e.E f).ownBlock=some k→(e.E f').ownBlock=some k→f=f'
 nT: ∀b o v,e.φ b o=some v→w.cell? ⟨b,o,none⟩=some v
 cr: ∀b,w.heap.size≤b→Z.In b
def Rest (w w':World):Prop:=w'.os=w.os∧w'.tape=w.tape∧w'.output=w.output∧ ∀a,w'.frozen? a=w.frozen? a
theorem Rest.refl (w:World):Rest w w:=⟨rfl,rfl,rfl,fun _=>rfl⟩
theorem Rest.trans {w w' yg:World} (h:Rest w w') (h':Rest w' yg):Rest w yg:=⟨h'.1.trans h.1,h'.2.1.trans h.2.1,h'.2.2.1.trans h.2.2.1,fun a=>(h'.2.2.2 a).trans (h.2.2.2 a)⟩
theorem Rest.alloc (w:World) (cs:Array Value) (t:TypeId):Rest w (w.alloc (.cells cs t)):=by
 refine ⟨rfl,rfl,rfl,fun a=> ?_⟩
 by_cases h:a.block=w.heap.size
 ·have e1:(w.alloc (.cells cs t)).heap[a.block]? =some (.cells cs t (0,0)):=by rw [h];exact km w _
  have e2:w.heap[a.block]? =none:=by rw [h];simp
  simp [World.frozen?,e1,e2]
 ·exact World.frozen?_alloc_old _ _ _ h
theorem Rest.setRow (w:World) (g:Nat) (cs:Array Value):Rest w (w.setRow g cs):=by
 refine ⟨rfl,rfl,rfl,fun a=> ?_⟩
 by_cases h:a.block=g
 ·unfold World.frozen? World.setRow
  simp only [Array.getElem?_modify,h,if_true]
  cases hg:w.heap[g]? with
  |none=>rfl
  |some o=>cases o<;>rfl
 ·exact World.frozen?_of_block (setRow_other _ _ _ _ h)
structure dz (w w':World):Prop where
 size:w.heap.size≤w'.heap.size
 BK: ∀b,b<w.heap.size→w'.heap[b]? =w.heap[b]?
 rest:Rest w w'
theorem bB {w:World} {b:Nat} {x:Obj} (h:w.heap[b]? =some x):b<w.heap.size:=(Array.getElem?_eq_some_iff.1 h).1
theorem dz.cell {w w':World} (g:dz w w') {ad:Addr} {v:Value} (h:w.cell? ad=some v):w'.cell? ad=some v:=by
 have hl:=World.block_lt_of_cell? w ad h
 rw [World.cell?_of_block (g.BK ad.block hl)];exact h
structure Trans (Z:Nat→Prop) (φ:Ph) (w:World) (φ':Ph) (w':World):Prop where
 ph:qp φ φ'
 heap: ∀b,¬Z b→b<w.heap.size→w'.heap[b]? =w.heap[b]?
 free: ∀b o,¬Z b→φ' b o=φ b o
 size:w.heap.size≤w'.heap.size
 rest:Rest w w'
theorem Trans.refl (Z:Nat→Prop) (φ:Ph) (w:World):Trans Z φ w φ w:=⟨.refl φ,fun _ _ _=>rfl,fun _ _ _=>rfl,Nat.le_refl _,.refl _⟩
theorem Trans.trans {Z:Nat→Prop} {φ φ' φ'':Ph} {w w' yg:World} (h:Trans Z φ w φ' w') (h':Trans Z φ' w' φ'' yg):Trans Z φ w φ'' yg:=
 ⟨h.ph.trans h'.ph,fun b hb hl=>(h'.heap b hb (Nat.lt_of_lt_of_le hl h.size)).trans (h.heap b hb hl),fun b o hb=>(h'.free b o hb).trans (h.free b o hb),Nat.le_trans h.size h'.size,h.rest.trans h'.rest⟩
def pT (Z:bL) (e:Env) (w:World) (st:St) (v:Value):Slot→Prop
 | .box cs=> ∃bc,v=JH cs bc∧sC Z e w bc cs∧(∀t fL,ao st.fr t= .box fL→e.B t≠bc)∧(∀f o,aO st.aV f=some o→(e.E f).ownBlock≠some bc)
 |s=>ab e v s∧cv st.fr s
section
variable {c:Ctx} {Z:bL} {e:Env} {st:St} {a:Act} {w:World}
theorem ab.const {v:Value}:ab e v (yd v):=by
 unfold yd
 split<;>simp only [ab,aY,MV.one]<;>
  first
   |exact ⟨trivial,.b _⟩
   |exact ⟨trivial,.i _ _⟩
   |exact ⟨trivial,.s _⟩
   |exact ⟨trivial,.raw _ rfl⟩
theorem bX.eval (h:bX c Z e st a w) (x:Operand):ab e (a.eval x) (aT c st x)∧cv st.fr (aT c st x):=by
 cases x with
 |tmp t=>
  have hs:=h.slot t
  have hr:=h.root t
  simp only [Act.eval,aT]
  cases Nl:plk c.par t with
  |some q=>
   simp only
   cases hq:zo q&&Nat.beq (posOf q) t with
   |false=>exact ⟨by simp [ab],trivial⟩
   |true=>
    simp only [cond_true]
    simp only [Bool.and_eq_true] at hq
    have hqt:=Nat.eq_of_beq_eq_true hq.2
    have hsq:=h.slot q
    split
    ·rename_i cs hfq
     rw [hfq] at hsq
     cases hm:eV cs with
     |true=>exact ⟨by simp [ab],trivial⟩
     |false=>
      obtain ⟨k1,k2⟩:=hsq.1.2 hq.1
      refine ⟨?_,by simp [cv,hfq,cP]⟩
      show a.tmps.getD t undef=_
      rw [←hqt,h.defers.2.2.2 _ k1,k2]
    ·exact ⟨by simp [ab],trivial⟩
  |none=>
  simp only
  generalize hf:ao st.fr t=s at hs hr
  cases s<;>simp only [bW] at hs<;>try exact ⟨hs,hr⟩
  ·rename_i cs
   cases hpt:zo t with
   |true=>simp only [cond_true];exact ⟨by simp [ab],trivial⟩
   |false=>
   simp only [cond_false]
   cases hm:kH cs with
   |true=>simp only [hm,cond_true,ab,cv,hf,cP];exact ⟨by rw [hs.1.1 hpt,TJ hm],trivial⟩
   |false=>simp only [hm,cond_false,ab,cv,hf,cP];exact ⟨by rw [hs.1.1 hpt,NN hm],trivial⟩
 |const v=>
  refine ⟨ab.const,?_⟩
  simp only [aT]
  unfold yd
  split<;>trivial
 |func f=>
  simp only [Act.eval,aT,ab,aY,MV.one,cv,and_true,true_and]
  exact .func f _ #[] [] (by rw [h.key]) (by simpa using gX.nil) (by simp)
 |global g=>simp [aT,ab,cv]
end
theorem Act.xf {a:Act} {d t:Nat} {v:Value} (hd:d<a.tmps.size):(a.put (some d) v).tmps.getD t undef=if t=d then v else a.tmps.getD t undef:=by
 simp only [Act.put,Array.getD_eq_getD_getElem?,Array.getElem?_setIfInBounds]
 by_cases h:d=t
 ·subst h;simp [hd]
 ·have h': ¬t=d:=fun e=>h e.symm
  simp [h,h']
theorem TL {fr:Fr} {s:Slot} (h:cv fr s):fp (fun _=>True) (fun r=>cP (ao fr r)=true) s:=by
 cases s<;>simp_all [cv,fp,iZ]
theorem JJ (r:Fr) (d:Nat) (s:Slot):aU (cc r d s)=if d∈aU r then aU r else aU r++[d]:=by
 induction r with
 |nil=>simp [cc,aU]
 |cons p r ih=>
  obtain ⟨k,x⟩:=p
  simp only [cc,fm]
  by_cases h:k=d
  ·simp [h,aU]
  ·have h': ¬d=k:=fun e=>h e.symm
   have ih':List.map Prod.fst (cc r d s)=if d∈aU r then aU r else aU r++[d]:=ih
   simp only [h,h',decide_false,cond_false,aU,List.map_cons,List.mem_cons,false_or,ih']
   by_cases hm:d∈aU r
   ·have hm':d∈List.map Prod.fst r:=hm
    simp [hm,hm',aU]
   ·have hm':d∉List.map Prod.fst r:=hm
    simp [hm,hm',aU]
theorem ee {r:Fr} {d:Nat} {s:Slot} (h:(aU r).Nodup):(aU (cc r d s)).Nodup:=by
 rw [JJ]
 by_cases hm:d∈aU r
 ·simpa [hm] using h
 ·simp only [hm,if_false]
  exact List.nodup_append.2 ⟨h,by simp,by intro x hx y hy;simp at hy;subst hy;intro e;subst e;exact hm hx⟩
section
variable {c:Ctx} {Z:bL} {e:Env} {st:St} {a:Act} {w:World} {R:Type} {K:St→Option R} {r:R}
def Env.AB (e:Env) (d bc:Nat):Env:={e with B:=fun t=>if t=d then bc else e.B t}
theorem sC.env {e e':Env} {bc:Nat} {cs:List aG} (h:sC Z e w bc cs) (hk:e'.key=e.key) (hp:e'.φ=e.φ) (hE:e'.E=e.E) (hm:e'.m=e.m):sC Z e' w bc cs:=by
 refine ⟨h.cr,?_,fun off=>by rw [hp];exact h.free off⟩
 obtain ⟨o,h1,h2⟩:=h.obj
 refine ⟨o,h1,h2.on (S:=fun _=>True) (T:=fun _=>False) ⟨hk,by rw [hp];exact .refl _,by simp,?_⟩ (by intro l _ f _;trivial)⟩
 intro f o ho _
 exact ⟨o,by rw [←hm];exact ho,by rw [hE],rfl⟩
theorem dg.env {e e':Env} {v:Value} {o:nm} (h:dg c Z e w v o) (hk:e'.key=e.key) (hp:e'.φ=e.φ):dg c Z e' w v o:=by
 obtain ⟨I,cells,h1,h2,h3,h4,h5⟩:=h.row
 exact ⟨I,cells,h1,h2,h3,by rw [hk,hp];exact h4,by rw [hp];exact h5⟩
theorem sC.to {bc:Nat} {cs:List aG} (h:sC Z e w bc cs) (t:Nat):sC (Z.bz t) e w bc cs:=⟨.inr h.cr,h.obj,h.free⟩
theorem dg.to {v:Value} {o:nm} {f:Nat} (h:dg c Z.nc e w v o) (hf:f∉Z.cu):dg c (Z.fz f) e w v o:=by
 obtain ⟨I,cells,h1,h2,h3,h4,h5⟩:=h.row
 exact ⟨I,cells,h1,h2,h3,h4,fun bc hb=>⟨.inr (h5 bc hb).1,(h5 bc hb).2.1,fun hc=>absurd hc hf⟩⟩
theorem dG {d:Option Nat} {s:Slot} {v:Value} (h:bX c Z e st a w) (hv:pT Z e w st v s) (hK:bw c st d s K=some r):
 ∃e' bZ,bX c Z e' bZ (a.put d v) w∧K bZ=some r∧e'.φ=e.φ:=by
 cases d with
 |none=>exact ⟨e,st,h,hK,rfl⟩
 |some d=>
  simp only [bw] at hK
  cases BL:zo d||(Nat.ble c.n d||cP (ao st.fr d)) with
  |true=>simp [BL] at hK
  |false=>
   obtain ⟨ah3,hb⟩:=Bool.or_eq_false_iff.1 BL
   simp only [BL,cond_false,wr] at hK
   cases hp:bE st.ct d with
   |true=>simp [hp] at hK
   |false=>
    simp only [hp,cond_false,force_eq,ln] at hK
    simp only [Bool.or_eq_false_iff] at hb
    have hdn:d<a.tmps.size:=by
     rw [h.size]
     have:=hb.1
     by_cases dn:d<c.n
     ·exact dn
     ·have:Nat.ble c.n d=true:=Nat.ble_eq_true_of_le (by omega)
      simp_all
    have hdp:d∉Z.ct:=by
     intro hm
     rw [←h.defers.2.1,←bF,hp] at hm;cases hm
    have adZ: ∀fr:Fr,(a.put (some d) v).defers=[]∧({st with fr:=fr}:St).ct=Z.ct∧({st with fr:=fr}:St).cu=Z.cu∧ ∀t∈Z.ct,(a.put (some d) v).tmps.getD t undef=Z.T t:=by
     intro fr
     refine ⟨h.defers.1,h.defers.2.1,h.defers.2.2.1,fun t ht=> ?_⟩
     rw [Act.xf hdn,if_neg (by intro e;subst e;exact hdp ht)]
     exact h.defers.2.2.2 t ht
    have ko: ∀t,fp (fun _=>True) (fun r=>r≠d) (ao st.fr t):=by
     intro t
     have:=TL (h.root t)
     generalize ao st.fr t=x at this
     cases x<;>simp_all [fp,iZ]<;>(intro e;subst e;simp_all)
    by_cases hs: ∃cs,s= .box cs
    ·obtain ⟨cs,rfl⟩:=hs
     obtain ⟨bc,rfl,tm,XA,hnf⟩:=hv
     have tp:kn (fun _=>True) (fun r=>r≠d) e (e.AB d bc):=⟨rfl,.refl _,fun r hr=>by simp [Env.AB,hr],fun f o ho _=>⟨o,ho,rfl,rfl⟩⟩
     refine ⟨e.AB d bc,_,?_,hK,rfl⟩
     refine ⟨adZ _,by simpa [Act.put] using h.size,h.m,h.key,ee h.nodup,?_,?_,?_,?_,?_,?_,h.nT,h.cr⟩
     ·intro t
      rw [Act.xf hdn,bN]
      by_cases ht:t=d
      ·subst ht
       simp only [if_true,bW,Env.AB]
       exact ⟨.own ah3 rfl,(tm.to t).env rfl rfl rfl rfl⟩
      ·simp only [ht,if_false]
       have ma:=h.slot t
       have oO:=ko t
       generalize ao st.fr t=x at ma oO
       cases x<;>simp only [bW] at ma⊢ <;>try exact ma.on tp oO
       simp only [Env.AB,ht,if_false]
       exact ⟨ma.1,ma.2.env rfl rfl rfl rfl⟩
     ·intro t
      simp only [bN]
      by_cases ht:t=d
      ·simp [ht,cv]
      ·simp only [ht,if_false]
       have oO:=h.root t
       have XB:=ko t
       generalize ao st.fr t=x at oO XB
       cases x<;>simp_all [cv,bN,fp]
     ·intro f o ho;exact (h.iT f o ho).env rfl rfl
     ·intro t t' fT qK h1 h2 db
      simp only [bN] at h1 h2
      simp only [Env.AB]
      by_cases ht:t=d
      ·by_cases zU:t'=d
       ·exact absurd (ht.trans zU.symm) db
       ·simp only [zU,if_false] at h2
        simp only [ht,zU,if_true,if_false]
        exact fun e=>XA t' qK h2 e.symm
      ·simp only [ht,if_false] at h1
       by_cases zU:t'=d
       ·simp only [ht,zU,if_true,if_false]
        exact XA t fT h1
       ·simp only [zU,if_false] at h2
        simp only [ht,zU,if_false]
        exact h.bb t t' fT qK h1 h2 db
     ·intro t fT f o h1 h2
      simp only [bN] at h1
      simp only [Env.AB]
      by_cases ht:t=d
      ·simp only [ht,if_true];exact hnf f o h2
      ·simp only [ht,if_false] at h1⊢;exact h.bf t fT f o h1 h2
     ·exact h.ff
    ·have S2:ab e v s∧cv st.fr s:=by
      cases s<;>simp_all [pT]
     refine ⟨e,_,?_,hK,rfl⟩
     refine ⟨adZ _,by simpa [Act.put] using h.size,h.m,h.key,ee h.nodup,?_,?_,h.iT,?_,?_,h.ff,h.nT,h.cr⟩
     ·intro t
      rw [Act.xf hdn,bN]
      by_cases ht:t=d
      ·simp only [ht,if_true]
       cases s<;>simp only [bW]<;>first|exact S2.1|exact absurd ⟨_,rfl⟩ hs
      ·simp only [ht,if_false];exact h.slot t
     ·intro t
      simp only [bN]
      by_cases ht:t=d
      ·simp only [ht,if_true]
       have hr:=S2.2
       cases s<;>simp only [cv,bN] at hr⊢
       ·rename_i r o
        by_cases Lk:r=d
        ·subst Lk;simp_all
        ·simp only [Lk,if_false];exact hr
       ·rename_i r
        by_cases Lk:r=d
        ·subst Lk;simp_all
        ·simp only [Lk,if_false];exact hr
       ·rename_i r o i
        by_cases Lk:r=d
        ·subst Lk;simp_all
        ·simp only [Lk,if_false];exact hr
      ·simp only [ht,if_false]
       have oO:=h.root t
       have XB:=ko t
       generalize ao st.fr t=x at oO XB
       cases x<;>simp_all [cv,bN,fp]
     ·intro t t' fT qK h1 h2 db
      simp only [bN] at h1 h2
      by_cases ht:t=d
      ·simp only [ht,if_true] at h1;exact absurd ⟨_,h1⟩ hs
      ·by_cases zU:t'=d
       ·simp only [zU,if_true] at h2;exact absurd ⟨_,h2⟩ hs
       ·simp only [ht,zU,if_false] at h1 h2
        exact h.bb t t' fT qK h1 h2 db
     ·intro t fT f o h1 h2
      simp only [bN] at h1
      by_cases ht:t=d
      ·simp only [ht,if_true] at h1;exact absurd ⟨_,h1⟩ hs
      ·simp only [ht,if_false] at h1;exact h.bf t fT f o h1 h2
end
end Dn
/-
  Operations that change no memory: moves, numbers, texts, places. Conditions: none.
-/
set_option linter.unusedSimpArgs false
set_option linter.unusedVariables false
namespace Dn
open Go
def Out (c:Ctx) (Z:bL) {R:Type} (K:St→Option R) (r:R) (φ:Ph) (w:World) (a':Act) (w':World):Prop:=
 ∃e' bZ,bX c Z e' bZ a' w'∧Trans Z φ w e'.φ w'∧K bZ=some r
section
variable {P:Program} {c:Ctx} {Z:bL} {e:Env} {st:St} {a:Act} {w:World} {R:Type} {K:St→Option R} {r:R} {Q:Exit→Act→World→Prop} {o:Oper}
theorem pT.of {s:Slot} {v:Value} (h:ab e v s) (hr:cv st.fr s):pT Z e w st v s:=by
 cases s<;>first|exact ⟨h,hr⟩|(simp [ab] at h)
theorem fin {e':Env} {bZ:St} {w':World} {s:Slot} {v:Value} (bS:(execOp a.eval o).run P w= .ok (.value v) w') (hs:bX c Z e' bZ a w')
 (ht:Trans Z e.φ w e'.φ w') (hv:pT Z e' w' bZ v s) (hK:bw c bZ o.dst s K=some r):o.wp P a w (Out c Z K r e.φ w) Q:=by
 unfold Oper.wp
 rw [bS,Oper.upon_value]
 obtain ⟨e2,dO,h1,h2,h3⟩:=dG hs hv hK
 exact ⟨e2,dO,h1,by rw [h3];exact ht,h2⟩
theorem AD {e':Env} {bZ:St} {w':World} (bS:(execOp a.eval o).run P w= .ok .skip w') (hs:bX c Z e' bZ a w')
 (ht:Trans Z e.φ w e'.φ w') (hK:bw c bZ o.dst (.sc .un) K=some r):o.wp P a w (Out c Z K r e.φ w) Q:=by
 unfold Oper.wp
 rw [bS,Oper.upon_skip]
 obtain ⟨e2,dO,h1,h2,h3⟩:=dG (v:=undef) hs (by simp [pT,ab,cv]) hK
 exact ⟨e2,dO,h1,by rw [h3];exact ht,h2⟩
theorem Q1 {e':Env} {bZ:St} {w':World} {s:Slot} {v:Value} (hg:dz w w') (bS:(execOp a.eval o).run P w= .ok (.value v) w') (hs:bX c Z e' bZ a w')
 (ht:Trans Z e.φ w e'.φ w') (hv:pT Z e' w' bZ v s) (hK:bw c bZ o.dst s K=some r):o.wp P a w (fun a' w'=>dz w w'∧Out c Z K r e.φ w a' w') Q:=by
 unfold Oper.wp
 rw [bS,Oper.upon_value]
 obtain ⟨e2,dO,h1,h2,h3⟩:=dG hs hv hK
 exact ⟨hg,e2,dO,h1,by rw [h3];exact ht,h2⟩
def Rd (P:Program) (c:Ctx) (Z:bL) {R:Type} (K:St→Option R) (r:R) (e:Env) (a:Act) (w:World) (o:Oper) (G:World→Prop):Prop:=
 ∃v,(∀w',G w'→(execOp a.eval o).run P w'= .ok (.value v) w')∧Out c Z K r e.φ w (a.put o.dst v) w
theorem Rd.wp {G:World→Prop} (h:Rd P c Z K r e a w o G) (hg:G w):o.wp P a w (Out c Z K r e.φ w) Q:=by
 obtain ⟨v,h1,h2⟩:=h
 unfold Oper.wp
 rw [h1 w hg,Oper.upon_value];exact h2
theorem NP {G:World→Prop} {e':Env} {bZ:St} {s:Slot} {v:Value} (bS: ∀w':World,G w'→(execOp a.eval o).run P w'= .ok (.value v) w') (hs:bX c Z e' bZ a w)
 (ht:Trans Z e.φ w e'.φ w) (hv:pT Z e' w bZ v s) (hK:bw c bZ o.dst s K=some r):Rd P c Z K r e a w o G:=by
 obtain ⟨e2,dO,h1,h2,h3⟩:=dG hs hv hK
 exact ⟨v,bS,e2,dO,h1,by rw [h3];exact ht,h2⟩
theorem iO {s:Slot} {v:Value} (h:bX c Z e st a w) (bS: ∀w':World,(execOp a.eval o).run P w'= .ok (.value v) w') (hv:ab e v s) (hr:cv st.fr s)
 (hK:bw c st o.dst s K=some r):Rd P c Z K r e a w o (fun _=>True):=
 NP (fun w' _=>bS w') h (.refl _ _ _) (.of hv hr) hK
theorem CK {v:Value} {x:Bool} (h:ab e v (.sc (.p (.b x)))):v= .bool x:=by
 simp only [ab,aY] at h
 obtain ⟨_,h⟩:=h
 generalize hv:[v]=vs at h
 cases h;simpa using hv
theorem lI {v:Value} {k:IntKind} {n:Int} (h:ab e v (.sc (.p (.i k n)))):v= .int k n:=by
 simp only [ab,aY] at h
 obtain ⟨_,h⟩:=h
 generalize hv:[v]=vs at h
 cases h;simpa using hv
theorem Er {v:Value} {l:List UInt8} (h:ab e v (.sc (.p (.s l)))): ∃b:ByteArray,v= .string b∧l=b.data.toList:=by
 simp only [ab,aY] at h
 obtain ⟨_,h⟩:=h
 generalize hv:[v]=vs at h
 cases h
 exact ⟨_,by simpa using hv,rfl⟩
theorem yY (x:Bool):ab e (.bool x) (.sc (.p (.b x))):=by simp only [ab,aY];exact ⟨rfl,.b x⟩
theorem tT (k:IntKind) (n:Int):ab e (.int k n) (.sc (.p (.i k n))):=by simp only [ab,aY];exact ⟨rfl,.i k n⟩
theorem XC (b:ByteArray):ab e (.string b) (.sc (.p (.s b.data.toList))):=by simp only [ab,aY];exact ⟨rfl,.s b⟩
theorem u9 {v u:Value} (h:ab e v (.sc (.p (.raw u)))):v=u:=by
 simp only [ab,aY] at h
 obtain ⟨_,h⟩:=h
 generalize hv:[v]=vs at h
 cases h;simpa using hv
theorem Es (u:Value) (h:u.oneCell'=true):ab e u (.sc (.p (.raw u))):=by simp only [ab,aY];exact ⟨rfl,.raw u h⟩
theorem JK {x:Operand} (ho:o.op= .move x∨o.op= .assign x) (h:bX c Z e st a w) (hK:bw c st o.dst (aT c st x) K=some r):
 Rd P c Z K r e a w o (fun _=>True):=by
 obtain ⟨h1,h2⟩:=h.eval x
 refine iO h ?_ h1 h2 hK
 rcases ho with ho|ho<;>simp [execOp,ho]
theorem Ll {x:Operand} (ho:o.op= .nilCheck x) (h:bX c Z e st a w)
 (hK:abb (aT c st x) (fun s=>bw c st o.dst s K)=some r):Rd P c Z K r e a w o (fun _=>True):=by
 obtain ⟨h1,h2⟩:=h.eval x
 unfold abb at hK
 split at hK
 ·rename_i iV
  rw [iV] at h1 h2
  refine iO h ?_ (v:=a.eval x) h1 h2 hK
  simp only [ab] at h1
  simp [execOp,ho,h1]
 ·rename_i iV
  rw [iV] at h1 h2
  refine iO h ?_ (v:=a.eval x) h1 h2 hK
  simp only [ab] at h1
  obtain ⟨bc,q,vs,GX,h3⟩:=h1
  simp [execOp,ho,GX]
 ·simp at hK
theorem XD {x y z:Operand} (ho:o.op= .pick x y z) (h:bX c Z e st a w)
 (hK:Tk (aT c st x) (aT c st y) (aT c st z) (fun s=>bw c st o.dst s K)=some r):Rd P c Z K r e a w o (fun _=>True):=by
 obtain ⟨hx,_⟩:=h.eval x
 obtain ⟨hy,hy2⟩:=h.eval y
 obtain ⟨hz,TM⟩:=h.eval z
 have bS: ∀v,a.eval x= .bool v→ ∀w:World,(execOp a.eval o).run P w= .ok (.value (if v then a.eval y else a.eval z)) w:=by
  intro v hv w;simp [execOp,ho,hv,asBool]
 unfold Tk at hK
 split at hK
 ·rename_i v hv
  have hxv:=CK (by rw [hv] at hx;exact hx)
  have hr:=bS v hxv
  split at hK
  ·rename_i p q hp hq
   rw [hp] at hy;rw [hq] at hz
   simp only [CK hy,CK hz] at hr
   refine iO h hr ?_ (s:= .sc (.p (.b (bif v then p else q)))) trivial hK
   cases v
   ·exact yY q
   ·exact yY p
  ·cases v
   ·exact iO h hr hz TM hK
   ·exact iO h hr hy hy2 hK
 ·simp at hK
theorem XE {op:UnOp} {ty:TypeId} {x:Operand} (ho:o.op= .unOp op ty x) (h:bX c Z e st a w)
 (hK:unK op (aT c st x) (fun s=>bw c st o.dst s K)=some r):Rd P c Z K r e a w o (fun _=>True):=by
 obtain ⟨hx,_⟩:=h.eval x
 generalize aT c st x=s at hx hK
 unfold unK at hK
 split at hK
 ·refine iO h ?_ (yY _) trivial hK
  simp [execOp,ho,CK hx,Op.unary]
 ·refine iO h ?_ (tT _ _) trivial hK
  simp [execOp,ho,lI hx,Op.unary,Op.intArith]
 ·simp at hK
end
end Dn
/-
  The type table; numbers, texts, places, loads. Conditions: none.
-/
set_option linter.unusedSimpArgs false
set_option linter.unusedVariables false
namespace Dn
open Go
def Dv:List Kd→Nat
 |[]=>0
 | .h::r=>32+Dv r
 |_::r=>1+Dv r
def q8 (ti:Nat→Option TI) (P:Program) (I:TI) (z:Option Value):TypeDesc→Prop
 | .struct fs=>I.st=true∧I.cO=[]∧(0<I.size∧Dv I.lay=I.size)∧fs.toList.map (·.offset)=I.yV∧fs.toList.map (·.type)=I.QV∧
  (∀(k:Nat) (f:Field),fs[k]? =some f→ ∃J,ti f.type=some J∧J.cO=[]∧0<J.size)∧
  ∃cs,z=some (.agg cs)∧sB I.zero cs.toList=true∧cs.size=I.size
 | .tuple ts=>I.cO=ts.toList∧I.cO≠[]∧I.lay=[]∧I.st=false
 | .slice el=>I.st=false∧I.cO=[]∧I.size=1∧I.elem=el∧(∃E,ti el=some E∧E.cO=[]∧0<E.size)∧z=some (.slice none 0 0)∧I.zero=[.nil]∧(∃k,I.lay=[k]∧k= .l)
 | .array n el=>I.st=false∧I.cO=[]∧I.size=32∧n=32∧I.elem=el∧(∃i,P.underlying el=some (.int .u8)∧P.info? el=some i∧i.size=1)∧I.lay=[.h]∧I.zero=[.hs kE.zero]∧z=some (.agg (bq kE.zero).toArray)
 | .bool=>I.st=false∧I.cO=[]∧I.size=1∧I.lay=[.b]∧I.zero=[.p (.b false)]∧z=some (.bool false)
 | .int k=>I.st=false∧I.cO=[]∧I.size=1∧I.lay=[.i k]∧I.zero=[.p (.i k 0)]∧z=some (.int k 0)
 | .string=>I.st=false∧I.cO=[]∧I.size=1∧I.lay=[.s]∧I.zero=[.p (.s [])]∧ ∃b:ByteArray,z=some (.string b)∧b.data.toList=[]
 |_=>I.st=false∧I.cO=[]∧I.size=1∧I.lay=[.raw]∧ ∃v,z=some v∧v.oneCell'=true∧sB I.zero [v]=true
def na (ti:Nat→Option TI) (P:Program) (t:Nat) (I:TI):Prop:=
 ∃d i,P.underlying t=some d∧P.info? t=some i∧(I.cO=[]→i.size=I.size∧i.bytes=I.bytes)∧q8 ti P I i.zero d
def kK (P:Program) (ti:Nat→Option TI):Prop:= ∀t I,ti t=some I→na ti P t I
section
variable {P:Program} {c:Ctx} {Z:bL} {e:Env} {st:St} {a:Act} {w:World} {R:Type} {K:St→Option R} {r:R} {Q:Exit→Act→World→Prop} {o:Oper}
theorem eC {x:Bool} {k:Option R} (h:cU x k=some r):x=true∧k=some r:=by
 cases x
 ·simp [cU] at h
 ·exact ⟨rfl,h⟩
theorem oP {α:Type} {x:Option α} {k:α→Option R} (h:bd x k=some r): ∃y,x=some y∧k y=some r:=by
 cases x with
 |none=>simp [bd] at h
 |some y=>exact ⟨y,rfl,h⟩
theorem Lm {l:List MV} {i:Int} {k:MV→Option R} (h:idx l i k=some r):0≤i∧ ∃y,l[i.toNat]? =some y∧k y=some r:=by
 unfold idx aa9 at h
 by_cases hi:0≤i
 ·simp only [hi,if_true] at h
  cases hl:l[i.toNat]? with
  |none=>simp [hl] at h
  |some y=>exact ⟨hi,y,rfl,by simpa [hl] using h⟩
 ·simp [hi] at h
theorem na.agg {ti:Nat→Option TI} {t:Nat} {I:TI} (h:na ti P t I) (hc:I.cO=[]):
 (∃d,P.underlying t=some d∧d.isRow=true∧(I.st=true∨I.st=false∧I.size=32))∨(∃d,P.underlying t=some d∧d.isRow=false∧I.st=false∧I.size=1):=by
 obtain ⟨d,i,h1,h2,h3,h4⟩:=h
 cases d<;>simp only [q8] at h4<;>first
  |exact .inl ⟨_,h1,rfl,.inl h4.1⟩
  |exact .inl ⟨_,h1,rfl,.inr ⟨h4.1,h4.2.2.1⟩⟩
  |exact .inr ⟨_,h1,rfl,h4.1,h4.2.2.1⟩
  |exact absurd hc h4.2.1
theorem na.info {ti:Nat→Option TI} {t:Nat} {I:TI} (h:na ti P t I) (hc:I.cO=[]):
 ∃i,P.info? t=some i∧i.size=I.size∧i.bytes=I.bytes:=by
 obtain ⟨d,i,h1,h2,h3,h4⟩:=h
 exact ⟨i,h2,h3 hc⟩
theorem bO {t:Nat} {I:TI} (h:c.tv t=some I):c.ti t=some I∧I.cO=[]:=by
 unfold Ctx.tv at h
 cases hc:c.ti t with
 |none=>simp [hc] at h
 |some J=>
  cases hj:J.cO with
  |nil=>simp [hc,hj] at h;subst h;exact ⟨rfl,hj⟩
  |cons x y=>simp [hc,hj] at h
theorem NQ {s t:TypeId} {x:Operand} {I:TI} (ho:o.op= .convert s t x) (hI:c.ti t=some I) (hT:kK P c.ti) (hs: ∃d,P.underlying s=some d) {fk:Option FloatKind} (JL: ∀k,fk=some k→P.underlying t=some (.float k)) (h:bX c Z e st a w)
 (hK:Tl I fk (aT c st x) (fun s=>bw c st o.dst s K)=some r):Rd P c Z K r e a w o (fun _=>True):=by
 obtain ⟨hx,_⟩:=h.eval x
 obtain ⟨ds,hds⟩:=hs
 obtain ⟨d,i,h1,h2,h3,h4⟩:=hT t I hI
 generalize aT c st x=s' at hx hK
 unfold Tl at hK
 split at hK
 ·rename_i k k' n ez DW hl
  have hd:d= .int k:=by
   cases d<;>simp only [q8,hl,ez,DW] at h4<;>simp_all
  subst hd
  refine iO h ?_ (tT _ _) trivial hK
  simp [execOp,ho,lI hx,convert,run_underlying hds,run_underlying h1,Conv.intToInt]
 ·rename_i l ez DW hl
  have hd:d= .string:=by
   cases d<;>simp only [q8,hl,ez,DW] at h4<;>simp_all
  subst hd
  obtain ⟨b,hb,rfl⟩:=Er hx
  refine iO h ?_ (XC b) trivial hK
  simp [execOp,ho,hb,convert,run_underlying hds,run_underlying h1]
 ·rename_i k x ez DW hl
  have hd:d= .int k:=by
   cases d<;>simp only [q8,hl,ez,DW] at h4<;>simp_all
  subst hd
  obtain ⟨n,hn,hK⟩:=oP hK
  obtain ⟨hr,hK⟩:=eC hK
  have hr:=of_decide_eq_true hr
  refine iO h ?_ (tT _ _) trivial hK
  simp [execOp,ho,u9 hx,convert,run_underlying hds,run_underlying h1,Conv.floatToInt,hn,hr]
 ·rename_i k n ez DW hl
  split at hK
  ·have GX:=JL _ rfl
   refine iO h ?_ (Es _ rfl) trivial hK
   simp [execOp,ho,lI hx,convert,run_underlying hds,run_underlying GX,Conv.intToFloat]
  ·simp at hK
 ·simp at hK
theorem XF {op:BinOp} {k:IntKind} {x y:Int} {m:MV} {t:TypeId} (hm:PF op k x y=some m):
 ∃v,(∀w:World,(binOp op t (.int k x) (.int k y)).run P w= .ok v w)∧ab e v (.sc (.p m)):=by
 cases op<;>simp only [PF,Option.some.injEq,reduceCtorEq] at hm<;>subst hm
 ·exact ⟨_,by simp [binOp,Op.intArith],tT _ _⟩
 ·exact ⟨_,by simp [binOp,Op.intArith],tT _ _⟩
 ·exact ⟨_,by simp [binOp,Op.intArith],tT _ _⟩
 ·refine ⟨.bool (decide (x=y)),fun w=> ?_,yY _⟩;simp [binOp,Op.intCmp];rfl
 ·refine ⟨.bool (!decide (x=y)),fun w=> ?_,yY _⟩;simp [binOp,Op.intCmp];rfl
 ·exact ⟨.bool (decide (x<y)),by simp [binOp,Op.intCmp],yY _⟩
 ·exact ⟨.bool (decide (x≤y)),by simp [binOp,Op.intCmp],yY _⟩
 ·exact ⟨.bool (decide (y<x)),by simp [binOp,Op.intCmp],yY _⟩
 ·exact ⟨.bool (decide (y≤x)),by simp [binOp,Op.intCmp],yY _⟩
theorem toList_data (b:ByteArray):b.toList=b.data.toList:=by
 exact ByteArray.toList_eq b
theorem XG {op:BinOp} {x y:ByteArray} {m:MV} {t:TypeId} (hm:Jz op x.data.toList y.data.toList=some m):
 ∃v,(∀w:World,(binOp op t (.string x) (.string y)).run P w= .ok v w)∧ab e v (.sc (.p m)):=by
 have ah5:(x.data.toList==y.data.toList)=decide (x.data.toList=y.data.toList):=by
  rw [Bool.eq_iff_iff];simp
 cases op<;>simp only [Jz,Option.some.injEq,reduceCtorEq] at hm<;>subst hm<;>
  exact ⟨_,fun w=>by simp only [binOp,Op.stringOp,toList_data,ah5];rfl,yY _⟩
theorem Q2 (b:ByteArray) (n:Nat):b[n]? =b.data.toList[n]? :=by
 by_cases h:n<b.size
 ·have h2:n<b.data.toList.length:=by simpa using h
  rw [getElem?_pos b n h,List.getElem?_eq_getElem h2]
  rfl
 ·have h2: ¬n<b.data.toList.length:=by simpa using h
  rw [getElem?_neg b n h,List.getElem?_eq_none (by omega)]
theorem zV (x:kE) (n:Nat) (h:n<32):(bq x)[n]? =some (.int .u8 ((x.l.getD n 0).toNat:Int)):=by
 have hl:n<x.l.length:=by rw [x.h];exact h
 simp [bq,List.getElem?_map,List.getD,List.getElem?_eq_getElem hl]
theorem ad0 {t:TypeId} {x y:Operand} {I:TI} (ho:o.op= .index t x y) (hI:c.ti t=some I) (hT:kK P c.ti) (h:bX c Z e st a w)
 (hK:ixK I (aT c st x) (aT c st y) (fun s=>bw c st o.dst s K)=some r):Rd P c Z K r e a w o (fun _=>True):=by
 obtain ⟨hx,_⟩:=h.eval x
 obtain ⟨hy,_⟩:=h.eval y
 obtain ⟨d,i,h1,h2,h3,h4⟩:=hT t I hI
 generalize aT c st x=sx at hx hK
 generalize aT c st y=sy at hy hK
 unfold ixK at hK
 split at hK
 ·rename_i l k n ez hl
  have hd:d= .string:=by
   cases d<;>simp only [q8,hl,ez] at h4<;>simp_all
  subst hd
  cases hc:decide ((0:Int)≤n∧n<(l.length:Int)) with
  |false=>simp [cU,hc] at hK
  |true=>
   simp only [cU,hc] at hK
   obtain ⟨XH,JM⟩:=of_decide_eq_true hc
   obtain ⟨b,hb,rfl⟩:=Er hx
   have dn:n.toNat<b.data.toList.length:=by omega
   refine iO h ?_ (tT .u8 ((b.data.toList.getD n.toNat 0).toNat:Int)) trivial hK
   have hg:b[n.toNat]? =some (b.data.toList.getD n.toNat 0):=by
    rw [Q2,List.getElem?_eq_getElem dn];simp [List.getD,List.getElem?_eq_getElem dn]
   simp [execOp,ho,hb,lI hy,Instr.index,run_underlying h1,asIntOf,XH,hg]
 ·rename_i b k n ez hl
  cases d<;>simp only [q8,hl,ez] at h4<;>first|(exfalso;simp_all;done)|skip
  rename_i len el
  cases hc:decide ((0:Int)≤n∧n<32) with
  |false=>simp [cU,hc] at hK
  |true=>
   simp only [cU,hc] at hK
   obtain ⟨XH,JM⟩:=of_decide_eq_true hc
   simp only [ab] at hx
   obtain ⟨_,_,_,rfl,_,⟨ie,hu,nU,wX⟩,_⟩:=h4
   refine iO h ?_ (tT .u8 ((b.l.getD n.toNat 0).toNat:Int)) trivial hK
   have hg:=zV b n.toNat (by omega)
   have hg':(bq b).toArray[n.toNat]? =some (.int .u8 ((b.l.getD n.toNat 0).toNat:Int)):=by simpa using hg
   simp [execOp,ho,hx,lI hy,Instr.index,run_underlying h1,asIntOf,XH,JM,Go.part,isAgg,run_underlying hu,Go.sizeOf,typeInfo,nU,wX,hg,hg']
 ·simp at hK
def NR (P:Program) (ti:Nat→Option TI):Prop:= ∀t I,ti t=some I→I.cO=[]→ ∀(e:Env) (w:World) (vx vy:Value) (sx sy:Slot) (b:Bool),ab e vx sx→ab e vy sy→
 eR I.lay (aP sx)=true→eR I.lay (aP sy)=true→lN I.st sx=true→lN I.st sy=true→iY (aP sx) (aP sy)=some b→
 (∀k n k' n',sx= .sc (.p (.i k n))→sy= .sc (.p (.i k' n'))→False)→(∀l l',sx= .sc (.p (.s l))→sy= .sc (.p (.s l'))→False)→
 (Op.equal t vx vy).run P w= .ok b w∧ ∀(x y:Operand) (op:BinOp),(eqGuard op t x y vx vy).run P w= .ok () w∧(op= .eql→binOp op t vx vy=(do pure (.bool (←Op.equal t vx vy))))∧(op= .neq→binOp op t vx vy=(do pure (.bool (!(←Op.equal t vx vy)))))
theorem TN {op:BinOp} {t t':TypeId} {x y:Operand} (ho:o.op= .binOp op t x y t') (h:bX c Z e st a w)
 (hE:NR P c.ti)
 (hK:aba (c.tv t) op (aT c st x) (aT c st y) (fun s=>bw c st o.dst s K)=some r):Rd P c Z K r e a w o (fun _=>True):=by
 obtain ⟨hx,_⟩:=h.eval x
 obtain ⟨hy,_⟩:=h.eval y
 generalize hsx:aT c st x=sx at hx hK
 generalize hsy:aT c st y=sy at hy hK
 have bS: ∀v,(∀w:World,(binOp op t (a.eval x) (a.eval y)).run P w= .ok v w)→(∀cs,a.eval x≠ .agg cs)→a.eval x≠ .nilIface→ ∀w:World,(execOp a.eval o).run P w= .ok (.value v) w:=by
  intro v hv hna hni w
  have hg:(eqGuard op t x y (a.eval x) (a.eval y)).run P w= .ok () w:=by
   generalize a.eval x=va at hna hni
   generalize a.eval y=vb
   have hm: ∀(u v:Value),u=va→(∀cs,u≠ .agg cs)→u≠ .nilIface→(eqGuard op t x y u v).run P w= .ok () w:=by
    intro u v _ h1 h2
    cases u<;>first
     |exact absurd rfl h2
     |exact absurd rfl (h1 _)
     |(cases op<;>rfl)
   exact hm va vb rfl hna hni
  simp [execOp,ho,hg,hv]
 unfold aba at hK
 split at hK
 ·rename_i k n k' n'
  have e1:=lI hx
  have e2:=lI hy
  split at hK
  ·cases hk:decide (k=k') with
   |false=>simp [hk] at hK
   |true=>
    have hk:=of_decide_eq_true hk
    subst hk
    simp only [decide_true,cond_true] at hK
    cases hz:decide (n'=0) with
    |true=>simp [cU,hz] at hK
    |false=>
     simp only [cU,hz,Bool.not_false] at hK
     have hz:=of_decide_eq_false hz
     refine iO h (bS _ ?_ (by simp [e1]) (by simp [e1])) (tT _ _) trivial hK
     simp [binOp,e1,e2,Op.intDiv,hz]
  ·cases hk:decide (k=k') with
   |false=>simp [hk] at hK
   |true=>
    have hk:=of_decide_eq_true hk
    subst hk
    simp only [decide_true,cond_true] at hK
    cases hz:decide (n'=0) with
    |true=>simp [cU,hz] at hK
    |false=>
     simp only [cU,hz,Bool.not_false] at hK
     have hz:=of_decide_eq_false hz
     refine iO h (bS _ ?_ (by simp [e1]) (by simp [e1])) (tT _ _) trivial hK
     simp [binOp,e1,e2,Op.intDiv,hz]
  ·cases hz:decide ((0:Int)≤n') with
   |false=>simp [cU,hz] at hK
   |true=>
    simp only [cU,hz] at hK
    have hz:=of_decide_eq_true hz
    refine iO h (bS _ ?_ (by simp [e1]) (by simp [e1])) (tT _ _) trivial hK
    have: ¬n'<0:=by omega
    simp [binOp,e1,e2,Op.shift,this]
  ·cases hz:decide ((0:Int)≤n') with
   |false=>simp [cU,hz] at hK
   |true=>
    simp only [cU,hz] at hK
    have hz:=of_decide_eq_true hz
    refine iO h (bS _ ?_ (by simp [e1]) (by simp [e1])) (tT _ _) trivial hK
    have: ¬n'<0:=by omega
    simp [binOp,e1,e2,Op.shift,this]
  ·cases hk:decide (k=k') with
   |false=>simp [hk] at hK
   |true=>
    have hk:=of_decide_eq_true hk
    subst hk
    simp only [decide_true,cond_true] at hK
    cases hm:PF op k n n' with
    |none=>simp [hm] at hK
    |some m=>
     simp only [hm] at hK
     obtain ⟨v,hv,hr⟩:=XF (P:=P) (e:=e) (t:=t) hm
     exact iO h (bS v (by rw [e1,e2];exact hv) (by simp [e1]) (by simp [e1])) hr trivial hK
 ·rename_i l l'
  obtain ⟨b,hb,rfl⟩:=Er hx
  obtain ⟨b',BW,rfl⟩:=Er hy
  split at hK
  ·obtain ⟨hz,hK⟩:=eC hK
   ·have hz:=of_decide_eq_true hz
    have hr:ab e (.string (b++b')) (.sc (.p (.s (b.data.toList++b'.data.toList)))):=by
     have:=XC (e:=e) (b++b')
     simpa [ByteArray.data_append] using this
    refine iO h (bS _ ?_ (by simp [hb]) (by simp [hb])) hr trivial hK
    have hs: ¬(((b.size+b'.size:Nat):Int)>IntKind.i64.max):=by
     have h1:b.size=b.data.toList.length:=by simp
     have h2:b'.size=b'.data.toList.length:=by simp
     have:IntKind.i64.max=9223372036854775807:=by decide
     rw [this];omega
    intro w
    simp only [binOp,hb,BW,Op.stringOp,hs,if_false]
    rfl
  ·cases hm:Jz op b.data.toList b'.data.toList with
   |none=>simp [hm] at hK
   |some m=>
    simp only [hm] at hK
    obtain ⟨v,hv,hr⟩:=XG (P:=P) (e:=e) (t:=t) hm
    exact iO h (bS v (by rw [hb,BW];exact hv) (by simp [hb]) (by simp [hb])) hr trivial hK
 ·have e1:=u9 hx
  have e2:=u9 hy
  obtain ⟨r',XI,hK⟩:=oP hK
  refine iO h (bS _ ?_ (by simp [e1]) (by simp [e1])) (Es (.float .f64 r') rfl) trivial hK
  intro w
  cases op<;>simp only [adO,reduceCtorEq] at XI<;>simp [binOp,e1,e2,Op.floatArith,XI]
 ·rename_i JM Et hn3
  split at hK
  ·rename_i I hI
   obtain ⟨Nn,PL⟩:=bO hI
   cases hf:eR I.lay (aP sx)&&eR I.lay (aP sy)&&(lN I.st sx&&lN I.st sy) with
   |false=>simp [hf] at hK
   |true=>
    simp only [hf,cond_true] at hK
    simp only [Bool.and_eq_true] at hf
    obtain ⟨hf,TP⟩:=hf
    split at hK
    ·cases hm:iY (aP sx) (aP sy) with
     |none=>simp [hm] at hK
     |some b=>
      simp only [hm] at hK
      refine iO h ?_ (yY b) trivial hK
      intro w
      obtain ⟨h1,h2⟩:=hE t I Nn PL e w _ _ sx sy b hx hy hf.1 hf.2 TP.1 TP.2 hm JM Et
      have:=(h2 x y .eql).1
      simp [execOp,ho,this,(h2 x y .eql).2.1 rfl,h1]
    ·cases hm:iY (aP sx) (aP sy) with
     |none=>simp [hm] at hK
     |some b=>
      simp only [hm] at hK
      refine iO h ?_ (yY (!b)) trivial hK
      intro w
      obtain ⟨h1,h2⟩:=hE t I Nn PL e w _ _ sx sy b hx hy hf.1 hf.2 TP.1 TP.2 hm JM Et
      have:=(h2 x y .neq).1
      simp [execOp,ho,this,(h2 x y .neq).2.2 rfl,h1]
    ·simp at hK
  ·simp at hK
end
end Dn
/-
  Lengths, parts, places, loads. Conditions: none.
-/
set_option linter.unusedSimpArgs false
set_option linter.unusedVariables false
namespace Dn
open Go
section
variable {P:Program} {c:Ctx} {Z:bL} {e:Env} {st:St} {a:Act} {w:World} {R:Type} {K:St→Option R} {r:R} {Q:Exit→Act→World→Prop} {o:Oper}
theorem cell_of {bc:Nat} {arr:Array Value} {T:TypeId} {fr:Nat×Nat} (h:w.heap[bc]? =some (.cells arr T fr)) (j:Nat):w.cell? ⟨bc,j,none⟩=arr[j]? :=by
 simp [World.cell?,h]
theorem nq {t:TypeId} {I:TI} {bc off:Nat} {vs:List Value} (hr:na c.ti P t I) (hc:I.cO=[]) (hl:vs.length=I.size) (hm:w.rangeAt bc off vs):
 ((I.st=true∨I.size=32)∧ ∀w:World,w.rangeAt bc off vs→(Instr.loadAt t (.pointer (some ⟨bc,off,none⟩))).run P w= .ok (.agg vs.toArray) w)∨
 (I.st=false∧ ∃v,vs=[v]∧ ∀w:World,w.rangeAt bc off vs→(Instr.loadAt t (.pointer (some ⟨bc,off,none⟩))).run P w= .ok v w):=by
 obtain ⟨i,hi,hs,_⟩:=hr.info hc
 rcases hr.agg hc with ⟨d,hu,hd,hh⟩|⟨d,hu,hd,h1,h2⟩
 ·refine .inl ⟨hh.imp id (·.2),fun w hm=> ?_⟩
  exact run_loadAt_mid w bc off t vs d hm hu hd (by simp [hi,hs,hl])
 ·refine .inr ⟨h1,?_⟩
  rw [h2] at hl
  obtain ⟨v,rfl⟩:=List.length_eq_one_iff.1 hl
  refine ⟨v,rfl,fun w hm=> ?_⟩
  have qj:w.cell? ⟨bc,off,none⟩=some v:=hm 0 v rfl
  have hag:(isAgg t).run P w= .ok false w:=by
   unfold isAgg
   rw [Sem.run_bind,run_underlying hu w]
   cases d<;>simp_all
  simp [Instr.loadAt,Instr.sureAddr,loadVar,hag,qj]
theorem aY.slot {vs:List Value} {l:aG} {v:Value} (h:aY e vs l) (hv:(vs=[v]∧l.w=1)∨(v= .agg vs.toArray∧l.w=32)):ab e v (.sc l):=by
 rcases hv with ⟨rfl,hw⟩|⟨rfl,hw⟩
 ·cases l<;>simp [ab,aG.w] at hw⊢ <;>exact h
 ·cases l<;>simp [aG.w] at hw
  simp only [ab]
  have:vs=bq _:=h
  rw [this]
theorem lp {t:TypeId} {I:TI} {cs:List aG} {bc base off:Nat} {vs:List Value} {s:Slot} {K':Slot→Option R} (hr:na c.ti P t I) (hc:I.cO=[])
 (hv:aw e vs cs) (hm:w.rangeAt bc base vs) (hK:jP I cs off K'=some r):
 ∃v s,(∀w:World,w.rangeAt bc base vs→(Instr.loadAt t (.pointer (some ⟨bc,base+off,none⟩))).run P w= .ok v w)∧ab e v s∧cv st.fr s∧K' s=some r:=by
 unfold jP at hK
 cases ez:I.st with
 |true=>
  simp only [ez,cond_true] at hK
  cases hp:Dn.part cs off I.size with
  |none=>simp [hp] at hK
  |some ds=>
   simp only [hp] at hK
   obtain ⟨v1,v2,v3,rfl,h1,h2,h3⟩:=HZ hp hv
   have PM: ∀w:World,w.rangeAt bc base (v1++v2++v3)→w.rangeAt bc (base+off) v2:=by
    intro w hm j v hj
    have S3:j<v2.length:=(List.getElem?_eq_some_iff.1 hj).1
    have:=hm (off+j) v (by rw [List.append_assoc,List.getElem?_append_right (by omega),List.getElem?_append_left (by omega)];rw [show off+j-v1.length=j by omega];exact hj)
    rwa [←Nat.add_assoc] at this
   rcases nq hr hc h2 (PM w hm) with ⟨_,bS⟩|⟨hf,_⟩
   ·refine ⟨_,.ag ds,fun w hm=>bS w (PM w hm),?_,trivial,hK⟩
    simp only [ab]
    exact ⟨_,rfl,by simpa using h3⟩
   ·rw [ez] at hf;cases hf
 |false=>
  simp only [ez,cond_false] at hK
  cases hp:cut cs off with
  |none=>simp [hp] at hK
  |some ds=>
   cases ds with
   |nil=>simp [hp] at hK
   |cons l ls=>
    simp only [hp] at hK
    cases hb:Nat.beq l.w I.size with
    |false=>simp [hb] at hK
    |true=>
     simp only [hb,cond_true] at hK
     have hw:=Nat.eq_of_beq_eq_true hb
     obtain ⟨v1,v2,rfl,h1,h2⟩:=xe hp hv
     obtain ⟨u,u2,rfl,h3,h4⟩:=h2
     have PM: ∀w:World,w.rangeAt bc base (v1++(u++u2))→w.rangeAt bc (base+off) u:=by
      intro w hm j v hj
      have S3:j<u.length:=(List.getElem?_eq_some_iff.1 hj).1
      have:=hm (off+j) v (by rw [List.getElem?_append_right (by omega),List.getElem?_append_left (by omega)];rw [show off+j-v1.length=j by omega];exact hj)
      rwa [←Nat.add_assoc] at this
     rcases nq hr hc (by rw [h3.width,hw]) (PM w hm) with ⟨hh,bS⟩|⟨_,v,Q3,bS⟩
     ·refine ⟨_,.sc l,fun w hm=>bS w (PM w hm),h3.slot (.inr ⟨rfl,?_⟩),trivial,hK⟩
      rcases hh with hh|hh
      ·rw [ez] at hh;cases hh
      ·rw [hw,hh]
     ·refine ⟨_,.sc l,fun w hm=>bS w (PM w hm),h3.slot (.inl ⟨Q3,?_⟩),trivial,hK⟩
      rw [←h3.width,Q3];rfl
theorem a8.at {key:Nat→Nat} {φ:Ph} {size:Nat} {xs:List MV}: ∀{cs:List Value} {i:Nat} {x:MV},a8 key φ size cs xs→xs[i]? =some x→
 ∃a v b,cs=a++v++b∧a.length=i *size∧v.length=size∧lm key φ v x:=by
 induction xs with
 |nil=>intro cs i x _ hx;simp at hx
 |cons y ys ih=>
  intro cs i x h hx
  obtain ⟨v,q,rfl,hl,hr,he⟩:=h
  cases i with
  |zero=>simp at hx;subst hx;exact ⟨[],v,q,by simp,by simp,hl,hr⟩
  |succ i=>
   obtain ⟨a,u,b,rfl,h1,h2,h3⟩:=ih he (by simpa using hx)
   exact ⟨v++a,u,b,by simp,by simp [hl,h1,Nat.succ_mul,Nat.add_comm],h2,h3⟩
theorem gX.leaves {ms:List MV}: ∀{vs:List Value} {cs:List aG},gX e.key e.φ vs ms→bH cs=some ms→(∀m,aG.p m∈cs→m.one=true)→aw e vs cs:=by
 induction ms with
 |nil=>
  intro vs cs h hc _
  cases h
  cases cs with
  |nil=>rfl
  |cons l r=>
   cases hr:bH r<;>cases l<;>simp [bH,hr] at hc
 |cons m ms ih=>
  intro vs cs h hc ho
  cases cs with
  |nil=>simp [bH] at hc
  |cons l r=>
   generalize yZ:vs=Np at h
   cases h with
   |cons v _ vs _ h1 h2=>
   subst yZ
   cases hr:bH r with
   |none=>cases l<;>simp [bH,hr] at hc
   |some q=>
    have cE: ∀m,aG.p m∈r→m.one=true:=fun m hm=>ho m (by simp [hm])
    cases l<;>simp [bH,hr] at hc
    ·obtain ⟨rfl,rfl⟩:=hc
     exact ⟨v,vs,rfl,⟨ho _ (by simp),h1⟩,ih h2 hr cE⟩
    ·obtain ⟨rfl,rfl⟩:=hc
     refine ⟨v,vs,rfl,?_,ih h2 hr cE⟩
     generalize hv:v=v' at h1
     cases h1
     exact rfl
theorem lm.Eu {vs:List Value} {x:MV} {b:Bool} {cs:List aG} (h:lm e.key e.φ vs x) (hc:Ej b x cs):aw e vs cs:=by
 obtain ⟨⟨ms,h1,h2⟩,h3⟩:=hc
 cases b with
 |true=>
  cases ms<;>simp [tl] at h2<;>subst h2<;>(generalize hv:vs=v' at h;cases h;subst hv;rename_i hh;exact hh.leaves h1 h3)
 |false=>
  cases ms with
  |nil=>simp [tl] at h2
  |cons m ms=>
   cases ms with
   |cons y ys=>simp [tl] at h2
   |nil=>
    simp [tl] at h2
    subst h2
    have:gX e.key e.φ (vs++[]) [m]:= .cons vs m [] [] h .nil
    rw [List.append_nil] at this
    exact this.leaves h1 h3
theorem TQ {t:TypeId} {x:Operand} {I:TI} {cs:List aG} {off:Nat} (ho:o.op= .load t x) (hI:c.tv t=some I) (hT:kK P c.ti) (h:bX c Z e st a w) (DX:aT c st x= .rp cs off)
 (hK:jP I cs off (fun s=>bw c st o.dst s K)=some r):Rd P c Z K r e a w o (fun w'=> ∀b q v,e.φ b q=some v→w'.cell? ⟨b,q,none⟩=some v):=by
 obtain ⟨hx,oO⟩:=h.eval x
 obtain ⟨r8,hc⟩:=bO hI
 have hr:=hT t I r8
 rw [DX] at hx
 simp only [ab] at hx
 obtain ⟨bc,q,vs,hx,qk,_,BX⟩:=hx
 have hm: ∀w':World,(∀b q v,e.φ b q=some v→w'.cell? ⟨b,q,none⟩=some v)→w'.rangeAt bc q vs:=by
  intro w' hi j v hj
  have S3:j<vs.length:=(List.getElem?_eq_some_iff.1 hj).1
  exact hi _ _ _ (by rw [BX j S3];exact hj)
 obtain ⟨v,s,h1,h2,h3,h4⟩:=lp (st:=st) (s:= .skip) hr hc qk (hm w h.nT) hK
 refine NP (fun w' hi=> ?_) h (.refl _ _ _) (.of h2 h3) h4
 simp [execOp,ho,hx,h1 w' (hm w' hi)]
theorem XJ {t:TypeId} {x:Operand} {I:TI} (ho:o.op= .load t x) (hI:c.tv t=some I) (hT:kK P c.ti) (h:bX c Z e st a w)
 (hK:ldK st I (aT c st x) (fun s=>bw c st o.dst s K)=some r):Rd P c Z K r e a w o (dz w):=by
 obtain ⟨hx,oO⟩:=h.eval x
 obtain ⟨r8,hc⟩:=bO hI
 have hr:=hT t I r8
 have XK: ∀v s,(∀w':World,dz w w'→(Instr.loadAt t (a.eval x)).run P w'= .ok v w')→ab e v s→cv st.fr s→bw c st o.dst s K=some r→Rd P c Z K r e a w o (dz w):=by
  intro v s h1 h2 h3 h4
  refine NP (fun w' hg=> ?_) h (.refl _ _ _) (.of h2 h3) h4
  simp [execOp,ho,h1 w' hg]
 have keep: ∀{w':World} {bc off:Nat} {vs:List Value},dz w w'→w.rangeAt bc off vs→w'.rangeAt bc off vs:=by
  intro w' bc off vs hg hm j v hj
  exact hg.cell (hm j v hj)
 generalize aT c st x=s at hx hK oO
 unfold ldK at hK
 split at hK
 ·rename_i root off
  simp only [ab] at hx
  have ma:=h.slot root
  split at hK
  ·rename_i cs r9
   rw [r9] at ma
   have we:eV cs=false:=by cases hq:eV cs<;>simp_all
   simp only [we,cond_false] at hK
   obtain ⟨_,tm⟩:=ma
   obtain ⟨arr,T,c8,qk⟩:=tm.cells we
   have hm:w.rangeAt (e.B root) 0 arr.toList:=by
    intro j v hj
    rw [Nat.zero_add,cell_of c8];simpa using hj
   obtain ⟨v,s,h1,h2,h3,h4⟩:=lp (st:=st) (s:= .skip) hr hc qk hm hK
   rw [Nat.zero_add] at h1
   exact XK v s (fun w' hg=>by rw [hx];exact h1 w' (keep hg hm)) h2 h3 h4
  ·simp at hK
 ·rename_i cs off
  simp only [ab] at hx
  obtain ⟨bc,q,vs,hx,qk,_,BX⟩:=hx
  have hm:w.rangeAt bc q vs:=by
   intro j v hj
   have S3:j<vs.length:=(List.getElem?_eq_some_iff.1 hj).1
   exact h.nT _ _ _ (by rw [BX j S3];exact hj)
  obtain ⟨v,s,h1,h2,h3,h4⟩:=lp (st:=st) (s:= .skip) hr hc qk hm hK
  exact XK v s (fun w' hg=>by rw [hx];exact h1 w' (keep hg hm)) h2 h3 h4
 ·rename_i f i off b cs
  cases hf:aO st.aV f with
  |none=>simp [hf] at hK
  |some o'=>
   simp only [hf] at hK
   simp only [ab] at hx
   obtain ⟨bc,cap,hE,⟨x,hxi,Xd⟩,hx⟩:=hx o' (by rw [h.m];exact hf)
   obtain ⟨J,cells,hJ,hJc,dQ,iP,_⟩:=(h.iT f o' hf).row
   obtain ⟨p1,v1,p2,rfl,BM,uR,eW⟩:=iP.at hxi
   have qk:=eW.Eu Xd
   rw [hE] at dQ
   have qj:=dQ.cells (g:=bc) rfl
   have hm:w.rangeAt bc (i *w9 cs) v1:=by
    intro j v hj
    have S3:j<v1.length:=(List.getElem?_eq_some_iff.1 hj).1
    have:=qj (i *J.size+j) v (by rw [List.append_assoc,List.getElem?_append_right (by omega),List.getElem?_append_left (by omega)];rw [show i *J.size+j-p1.length=j by omega];exact hj)
    rw [Addr.add_mid,Nat.zero_add] at this
    rw [←qk.width,uR];exact this
   obtain ⟨v,s,h1,h2,h3,h4⟩:=lp (st:=st) (s:= .skip) hr hc qk hm hK
   exact XK v s (fun w' hg=>by rw [hx];exact h1 w' (keep hg hm)) h2 h3 h4
 ·rename_i root off i
  simp only [ab] at hx
  obtain ⟨hx,NS⟩:=hx
  have ma:=h.slot root
  cases hb:I.st||!Nat.beq I.size 1 with
  |true=>simp [hb] at hK
  |false=>
   simp only [hb,cond_false] at hK
   simp only [Bool.or_eq_false_iff,Bool.not_eq_false'] at hb
   have q9:=Nat.eq_of_beq_eq_true hb.2
   split at hK
   ·rename_i cs r9
    rw [r9] at ma
    have we:eV cs=false:=by cases hq:eV cs<;>simp_all
    simp only [we,cond_false] at hK
    obtain ⟨_,tm⟩:=ma
    obtain ⟨arr,T,c8,qk⟩:=tm.cells we
    split at hK
    ·rename_i b ls abq
     obtain ⟨v1,v2,ah6,h1,h2⟩:=xe abq qk
     obtain ⟨u,u2,rfl,h3,h4⟩:=h2
     have h3:u=bq b:=h3
     subst h3
     have hg:=zV b i NS
     have hlen:=cR b
     have hm:w.rangeAt (e.B root) (off+i) [.int .u8 ((b.l.getD i 0).toNat:Int)]:=by
      intro j v hj
      cases j with
      |succ j=>simp at hj
      |zero=>
       simp at hj
       rw [Nat.add_zero,cell_of c8]
       have:arr[off+i]? =arr.toList[off+i]? :=by simp
       rw [this,ah6,List.getElem?_append_right (by omega),List.getElem?_append_left (by omega),show off+i-v1.length=i by omega,hg,←hj]
       simp [List.getD]
     rcases nq hr hc (by simp [q9]) hm with ⟨hh,_⟩|⟨_,v,Q3,bS⟩
     ·rcases hh with hh|hh
      ·rw [hb.1] at hh;cases hh
      ·omega
     ·simp at Q3
      subst Q3
      exact XK _ _ (fun w' hg=>by rw [hx];exact bS w' (keep hg hm)) (tT _ _) trivial hK
    ·simp at hK
   ·simp at hK
 ·simp at hK
theorem Q4 {t:TypeId} {x:Operand} {f:Nat} {I:TI} (ho:o.op= .fieldAddr t x f) (hI:c.tv t=some I) (hT:kK P c.ti) (h:bX c Z e st a w)
 (hK:Tn st I f (aT c st x) (fun s=>bw c st o.dst s K)=some r):Rd P c Z K r e a w o (fun _=>True):=by
 obtain ⟨hx,oO⟩:=h.eval x
 obtain ⟨r8,hc⟩:=bO hI
 obtain ⟨d,i,h1,h2,h3,h4⟩:=hT t I r8
 have key: ∀q bc off,I.st=true→I.yV[f]? =some q→a.eval x= .pointer (some ⟨bc,off,none⟩)→
  ∀w:World,(execOp a.eval o).run P w= .ok (.value (.pointer (some ⟨bc,off+q,none⟩))) w:=by
  intro q bc off ez hq hv w
  cases d<;>simp only [q8] at h4
  case struct fs=>
   obtain ⟨_,_,_,ho1,cE,S4,_⟩:=h4
   rw [←ho1,List.getElem?_map] at hq
   cases hf:fs.toList[f]? with
   |none=>simp [hf] at hq
   |some fl=>
    simp [hf] at hq
    subst hq
    have PN:fs[f]? =some fl:=by simpa using hf
    obtain ⟨J,hJ,hJc,hJs⟩:=S4 f fl PN
    obtain ⟨ij,NT,hs,_⟩:=(hT _ _ hJ).info hJc
    have hz:ij.size≠0:=by omega
    simp [execOp,ho,hv,Instr.fieldAt,run_underlying h1,PN,Instr.sureAddr,fieldPlace,Go.sizeOf,typeInfo,NT,hz,Addr.add_mid]
  all_goals (exfalso;simp_all)
 generalize aT c st x=s at hx hK oO
 unfold Tn at hK
 split at hK
 ·rename_i q r' o' ez hq
  simp only [ab] at hx
  refine iO (s:= .ptr r' (o'+q)) h (key q _ _ ez hq hx) ?_ oO hK
  simp only [ab]
 ·rename_i q cs o' ez hq
  simp only [ab] at hx
  obtain ⟨bc,b,vs,hx,hh⟩:=hx
  refine iO (s:= .rp cs (o'+q)) h (key q _ _ ez hq hx) ?_ trivial hK
  simp only [ab]
  exact ⟨bc,b,vs,by rw [Nat.add_assoc],hh⟩
 ·rename_i q g i' o' b cs ez hq
  cases hf:aO st.aV g with
  |none=>simp [hf] at hK
  |some w'=>
   simp only [hf] at hK
   simp only [ab] at hx
   obtain ⟨bc,cap,h5,h6,h7⟩:=hx w' (by rw [h.m];exact hf)
   refine iO (s:= .ep g i' (o'+q) b cs) h (key q _ _ ez hq h7) ?_ trivial hK
   simp only [ab]
   intro o2 cE
   rw [h.m,hf] at cE
   cases cE
   exact ⟨bc,cap,h5,h6,by rw [Nat.add_assoc]⟩
 ·simp at hK
theorem abr {x:Operand} {k:Nat} (ho:o.op= .extract x k) (h:bX c Z e st a w)
 (hK:abf (aT c st x) k (fun s=>bw c st o.dst s K)=some r):Rd P c Z K r e a w o (fun _=>True):=by
 obtain ⟨hx,oO⟩:=h.eval x
 generalize aT c st x=s at hx hK
 unfold abf at hK
 split at hK
 ·rename_i vs
  simp only [ab] at hx
  obtain ⟨arr,hv,hs⟩:=hx
  cases hk:vs[k]? with
  |none=>simp [hk] at hK
  |some s=>
   simp only [hk] at hK
   have: ∀(k:Nat) (vs:List Slot) (l:List Value),jQ e l vs→vs[k]? =some s→ ∃v,l[k]? =some v∧ab e v s∧zr s=true:=by
    intro k
    induction k with
    |zero=>
     intro vs l hl hk
     cases vs with
     |nil=>simp at hk
     |cons y ys=>
      simp at hk
      subst hk
      simp only [jQ] at hl
      obtain ⟨v,q,rfl,h1,h2,_⟩:=hl
      exact ⟨v,rfl,h1,h2⟩
    |succ k ih=>
     intro vs l hl hk
     cases vs with
     |nil=>simp at hk
     |cons y ys=>
      simp only [jQ] at hl
      obtain ⟨v,q,rfl,_,_,h3⟩:=hl
      obtain ⟨u,h4,h5⟩:=ih ys q h3 (by simpa using hk)
      exact ⟨u,by simpa using h4,h5⟩
   obtain ⟨v,Xe,h1,h2⟩:=this k vs arr.toList hs hk
   have hv3:arr[k]? =some v:=by simpa using Xe
   refine iO h ?_ h1 ?_ hK
   ·simp [execOp,ho,hv,Instr.extract,hv3]
   ·cases s<;>simp [zr] at h2<;>trivial
 ·simp at hK
end
end Dn
/-
  Operations that make memory: variables. Conditions: none.
-/
set_option linter.unusedSimpArgs false
set_option linter.unusedVariables false
namespace Dn
open Go
section
variable {P:Program} {c:Ctx} {Z:bL} {e:Env} {st:St} {a:Act} {w w':World} {R:Type} {K:St→Option R} {r:R} {Q:Exit→Act→World→Prop} {o:Oper}
theorem dz.refl (w:World):dz w w:=⟨Nat.le_refl _,fun _ _=>rfl,.refl _⟩
theorem dz.alloc (w:World) (cs:Array Value) (t:TypeId):dz w (w.alloc (.cells cs t)):=⟨by simp,fun b hb=>Az w _ b hb,.alloc w cs t⟩
theorem dz.ah7 (g:dz w w') {base:Nat} {t:TypeId} {size:Nat} {v:Value} {n:Nat} {xs:List Value} (h:w.ownsRow base t size v n xs):w'.ownsRow base t size v n xs:=by
 refine ⟨h.1,?_⟩
 rcases h.2 with h|⟨b,cap,dm,h1,h2,h3,h4⟩
 ·exact .inl h
 ·exact .inr ⟨b,cap,dm,h1,h2,by rw [g.BK b (bB h3)];exact h3,h4⟩
theorem sC.grow (g:dz w w') {bc:Nat} {cs:List aG} (h:sC Z e w bc cs):sC Z e w' bc cs:=by
 obtain ⟨o,h1,h2⟩:=h.obj
 exact ⟨h.cr,⟨o,by rw [g.BK _ (bB h1)];exact h1,h2⟩,h.free⟩
theorem dg.grow (g:dz w w') {v:Value} {f:nm} (h:dg c Z e w v f):dg c Z e w' v f:=by
 obtain ⟨I,cells,h1,h2,h3,h4,h5⟩:=h.row
 exact ⟨I,cells,h1,h2,g.ah7 h3,h4,h5⟩
theorem bX.grow (g:dz w w') (h:bX c Z e st a w):bX c Z e st a w':=by
 refine ⟨h.defers,h.size,h.m,h.key,h.nodup,?_,h.root,fun f o ho=>(h.iT f o ho).grow g,h.bb,h.bf,h.ff,fun b o v hv=>g.cell (h.nT b o v hv),fun b hb=>h.cr b (Nat.le_trans g.size hb)⟩
 intro t
 have hs:=h.slot t
 generalize ao st.fr t=s at hs
 cases s<;>simp only [bW] at hs⊢ <;>first|exact hs|exact ⟨hs.1,hs.2.grow g⟩
theorem dz.trans (g:dz w w') (hz: ∀b,w.heap.size≤b→Z b) (φ:Ph):Trans Z φ w φ w':=
 ⟨.refl φ,fun b _ hl=>g.BK b hl,fun _ _ _=>rfl,g.size,g.rest⟩
theorem Q5 {l:aG} {vs:List Value} (h:TB l vs=true):aY e vs l:=by
 unfold TB at h
 split at h
 ·simp at h;subst h;exact ⟨rfl,.b _⟩
 ·simp at h;obtain ⟨rfl,rfl⟩:=h;exact ⟨rfl,.i _ _⟩
 ·simp at h;subst h;exact ⟨rfl,.s _⟩
 ·split at h
  ·exact ⟨rfl,.raw _ rfl⟩
  ·exact ⟨rfl,.raw _ rfl⟩
  ·exact ⟨rfl,.raw _ rfl⟩
  ·simp at h
 ·rfl
 ·exact ⟨_,rfl,h⟩
 ·rename_i x
  simp only [Bool.and_eq_true,beq_iff_eq] at h
  obtain ⟨h1,h2⟩:=h
  show vs=bq x
  apply List.ext_getElem?
  intro j
  by_cases hj:j<32
  ·rw [zV x j hj]
   have hjv:j<vs.length:=by omega
   have GY:j<x.l.length:=by rw [x.h];exact hj
   rw [List.all_eq_true] at h2
   have hm:(vs[j],x.l[j])∈vs.zip x.l:=List.mem_iff_getElem.2 ⟨j,by simp;omega,by simp⟩
   have:=h2 _ hm
   rw [List.getElem?_eq_getElem hjv]
   dsimp only at this
   split at this
   ·rename_i n hn
    rw [hn,of_decide_eq_true this]
    simp [List.getD,List.getElem?_eq_getElem GY]
   ·simp at this
  ·rw [List.getElem?_eq_none (by omega),List.getElem?_eq_none (by rw [cR];omega)]
 ·simp at h
theorem kL {ls:List aG}: ∀{vs:List Value},sB ls vs=true→aw e vs ls:=by
 induction ls with
 |nil=>intro vs h;simpa [sB,aw] using h
 |cons l r ih=>
  intro vs h
  simp only [sB,Bool.and_eq_true] at h
  exact ⟨vs.take l.w,vs.drop l.w,by simp,Q5 h.1.1,ih h.1.2⟩
theorem aw.xg {cs:List aG} {vs:List Value} (h:aw e vs cs):eV cs=false:=by
 cases hm:eV cs with
 |false=>rfl
 |true=>obtain ⟨s,ms,rfl⟩:=JI hm;obtain ⟨_,_,_,h1,_⟩:=h;exact h1.elim
theorem Ew (h:bX c Z e st a w) (off:Nat):e.φ w.heap.size off=none:=by
 cases hp:e.φ w.heap.size off with
 |none=>rfl
 |some v=>
  have:=World.block_lt_of_cell? w _ (h.nT _ _ _ hp)
  simp at this
theorem yh (h:bX c Z e st a w):(∀t fL,ao st.fr t= .box fL→e.B t≠w.heap.size)∧(∀f o,aO st.aV f=some o→(e.E f).ownBlock≠some w.heap.size):=by
 refine ⟨?_,?_⟩
 ·intro t fL ht
  have hs:=h.slot t
  rw [ht] at hs
  obtain ⟨o,h1,_⟩:=hs.2.obj
  have:=bB h1
  omega
 ·intro f o ho hk
  obtain ⟨I,cells,h1,h2,h3,h4,h5⟩:=(h.iT f o ho).row
  rcases h3.2 with ⟨hv,_⟩|⟨g,cap,dm,hv,_,hg,_⟩
  ·rw [hv] at hk;simp [Value.ownBlock] at hk
  ·rw [hv] at hk
   simp only [Value.ownBlock,Option.some.injEq] at hk
   have:=bB hg
   omega
theorem PO {cells:Array Value} {T:TypeId} {cs:List aG} (h:bX c Z e st a w) (hl:aw e cells.toList cs):
 pT Z e (w.alloc (.cells cells T)) st (.pointer (some ⟨w.heap.size,0,none⟩)) (.box cs):=by
 exact ⟨w.heap.size,by rw [u7 hl.xg],⟨h.cr _ (Nat.le_refl _),⟨_,km w _,rfl,hl⟩,Ew h⟩,(yh h).1,(yh h).2⟩
theorem TR {t:TypeId} {I:TI} (ho:o.op= .alloc t) (hI:c.tv t=some I) (hT:kK P c.ti) (h:bX c Z e st a w)
 (hK:bw c st o.dst (.box I.zero) K=some r):o.wp P a w (fun a' w'=>dz w w'∧Out c Z K r e.φ w a' w') Q:=by
 obtain ⟨r8,hc⟩:=bO hI
 obtain ⟨d,i,h1,h2,h3,h4⟩:=hT t I r8
 have hz: ∃z,i.zero=some z∧aw e z.cells.toList I.zero:=by
  cases d<;>simp only [q8] at h4
  case struct fs=>obtain ⟨_,_,_,_,_,_,cs,hz,hl,_⟩:=h4;exact ⟨_,hz,by simpa [Value.cells] using kL hl⟩
  case tuple ts=>exact absurd hc h4.2.1
  case slice el=>obtain ⟨_,_,_,_,_,hz,hl,_⟩:=h4;exact ⟨_,hz,by rw [hl];exact ⟨[.slice none 0 0],[],rfl,rfl,rfl⟩⟩
  case array n el=>obtain ⟨_,_,_,_,_,_,_,hl,hz⟩:=h4;exact ⟨_,hz,by rw [hl];exact ⟨bq kE.zero,[],by simp [Value.cells],rfl,rfl⟩⟩
  case bool=>obtain ⟨_,_,_,_,hl,hz⟩:=h4;exact ⟨_,hz,by rw [hl];exact ⟨[.bool false],[],rfl,⟨rfl,.b _⟩,rfl⟩⟩
  case int k=>obtain ⟨_,_,_,_,hl,hz⟩:=h4;exact ⟨_,hz,by rw [hl];exact ⟨[.int k 0],[],rfl,⟨rfl,.i _ _⟩,rfl⟩⟩
  case string=>
   obtain ⟨_,_,_,_,hl,b,hz,hb⟩:=h4
   refine ⟨_,hz,by rw [hl];refine ⟨[.string b],[],rfl,⟨rfl,?_⟩,rfl⟩;rw [←hb];exact .s b⟩
  all_goals
   obtain ⟨_,_,_,_,v,hz,hv,hl⟩:=h4
   refine ⟨v,hz,?_⟩
   have:v.cells.toList=[v]:=by cases v<;>simp_all [Value.cells,Value.oneCell']
   rw [this];exact kL hl
 obtain ⟨z,hz,hl⟩:=hz
 have bS:(execOp a.eval o).run P w= .ok (.value (.pointer (some ⟨w.heap.size,0,none⟩))) (w.alloc (.cells z.cells t)):=by
  simp [execOp,ho,Instr.alloc,zeroValue,typeInfo,h2,hz,newVar,newRow,newObj,Sem.run]
 exact Q1 (.alloc w _ _) bS (h.grow (.alloc w _ _)) ((dz.alloc w _ _).trans h.cr _) (PO h hl) hK
theorem abt {t:TypeId} {x:Operand} {I:TI} (ho:o.op= .box t x) (h:bX c Z e st a w)
 (hK:abc I (aT c st x) (fun s=>bw c st o.dst s K)=some r):o.wp P a w (fun a' w'=>dz w w'∧Out c Z K r e.φ w a' w') Q:=by
 obtain ⟨hx,oO⟩:=h.eval x
 have bS:(execOp a.eval o).run P w= .ok (.value (.pointer (some ⟨w.heap.size,0,none⟩))) (w.alloc (.cells (a.eval x).cells t)):=by
  simp [execOp,ho,Instr.box,newVar,newRow,newObj,Sem.run]
 have go: ∀cs,aw e (a.eval x).cells.toList cs→bw c st o.dst (.box cs) K=some r→o.wp P a w (fun a' w'=>dz w w'∧Out c Z K r e.φ w a' w') Q:=
  fun cs h1 h2=>Q1 (.alloc w _ _) bS (h.grow (.alloc w _ _)) ((dz.alloc w _ _).trans h.cr _) (PO h h1) h2
 generalize aT c st x=s at hx hK oO
 unfold abc at hK
 split at hK
 ·rename_i l
  cases hb:I.st||La l||!Nat.beq l.w I.size with
  |true=>simp [hb] at hK
  |false=>
   simp only [hb,cond_false] at hK
   refine go [l] ?_ hK
   cases l with
   |un=>simp [La] at hb
   |hs y=>
    simp only [ab] at hx
    rw [hx]
    exact ⟨bq y,[],by simp [Value.cells],rfl,rfl⟩
   |p m=>
    simp only [ab] at hx
    have:(a.eval x).cells.toList=[a.eval x]:=by
     have:=hx.cells (a.eval x) (by simp)
     generalize a.eval x=v at this
     cases v<;>simp_all [Value.cells,Value.oneCell']
    rw [this];exact ⟨_,[],rfl,hx,rfl⟩
   |nil=>
    simp only [ab] at hx
    have NU:[a.eval x]=[Value.slice none 0 0]:=hx
    simp at NU
    rw [NU];exact ⟨[.slice none 0 0],[],rfl,rfl,rfl⟩
   |mp s es=>simp [La] at hb
   |own f=>
    simp only [ab] at hx
    have:(a.eval x).cells.toList=[a.eval x]:=by
     have:=hx.cells (a.eval x) (by simp)
     generalize a.eval x=v at this
     cases v<;>simp_all [Value.cells,Value.oneCell']
    rw [this];exact ⟨_,[],rfl,hx,rfl⟩
 ·rename_i cs
  cases hb:I.st&&!tR cs&&Nat.beq (w9 cs) I.size with
  |false=>simp [hb] at hK
  |true=>
   simp only [hb,cond_true] at hK
   simp only [ab] at hx
   obtain ⟨arr,hx,hl⟩:=hx
   exact go cs (by rw [hx];exact hl) hK
 ·simp at hK
end
end Dn
/-
  Stores into variables. Conditions: none.
-/
set_option linter.unusedSimpArgs false
set_option linter.unusedVariables false
namespace Dn
open Go
section
variable {P:Program} {c:Ctx} {Z:bL} {e:Env} {st:St} {a:Act} {w w':World} {R:Type} {K:St→Option R} {r:R} {Q:Exit→Act→World→Prop} {o:Oper}
theorem setRow_size (w:World) (g:Nat) (cs:Array Value):(w.setRow g cs).heap.size=w.heap.size:=by simp [World.setRow]
structure S5 (g:Nat) (w w':World):Prop where
 size:w'.heap.size=w.heap.size
 other: ∀b,b≠g→w'.heap[b]? =w.heap[b]?
 rest:Rest w w'
theorem S5.setRow (w:World) (g:Nat) (cs:Array Value):S5 g w (w.setRow g cs):=⟨setRow_size _ _ _,fun b hb=>setRow_other _ _ _ _ hb,.setRow _ _ _⟩
theorem Ln {g:Nat} (hc:S5 g w w') {base:Nat} {t:TypeId} {size:Nat} {v:Value} {n:Nat} {xs:List Value} (db:v.ownBlock≠some g)
 (h:w.ownsRow base t size v n xs):w'.ownsRow base t size v n xs:=by
 refine ⟨h.1,?_⟩
 rcases h.2 with h|⟨b,cap,dm,h1,h2,h3,h4⟩
 ·exact .inl h
 ·refine .inr ⟨b,cap,dm,h1,h2,?_,h4⟩
  rw [hc.other _ (by intro e;subst e;subst h1;exact db rfl)];exact h3
theorem NV {g:Nat} {cs:Array Value} {base:Nat} {t:TypeId} {size:Nat} {v:Value} {n:Nat} {xs:List Value} (db:v.ownBlock≠some g)
 (h:w.ownsRow base t size v n xs):(w.setRow g cs).ownsRow base t size v n xs:=Ln (.setRow w g cs) db h
theorem bX.setObj {root:Nat} {cs fL:List aG} {o':Obj} {n8:Fr} (h:bX c Z e st a w) (hf:ao st.fr root= .box cs)
 (K3:S5 (e.B root) w w') (kG:w'.heap[e.B root]? =some o') (hl:jA e o' fL) (hmm:kH fL=kH cs) (BZ: ∀t,ao n8 t=if t=root then .box fL else ao st.fr t)
 (hnd:(aU n8).Nodup):bX c Z e {st with fr:=n8} a w':=by
 have q9:=K3.size
 have ko:=h.slot root
 rw [hf] at ko
 refine ⟨h.defers,h.size,h.m,h.key,hnd,?_,?_,?_,?_,?_,h.ff,?_,fun b hb=>h.cr b (by omega)⟩
 ·intro t
  show bW Z e _ t _ (ao n8 t)
  rw [BZ]
  by_cases ht:t=root
  ·subst ht
   simp only [if_true,bW]
   exact ⟨ko.1.kH hmm,⟨ko.2.cr,⟨o',kG,hl⟩,ko.2.free⟩⟩
  ·simp only [ht,if_false]
   have hs:=h.slot t
   have BL:=h.bb t root
   generalize hg:ao st.fr t=s at hs BL
   cases s<;>simp only [bW] at hs⊢ <;>try exact hs
   rename_i qK
   refine ⟨hs.1,hs.2.cr,?_,hs.2.free⟩
   obtain ⟨o2,h1,h2⟩:=hs.2.obj
   exact ⟨o2,by rw [K3.other _ (BL qK cs rfl hf ht)];exact h1,h2⟩
 ·intro t
  show cv n8 (ao n8 t)
  rw [BZ]
  by_cases ht:t=root
  ·simp [ht,cv]
  ·simp only [ht,if_false]
   have hr:=h.root t
   generalize ao st.fr t=s at hr
   cases s<;>simp only [cv] at hr⊢ <;>(rw [BZ];split<;>simp_all [cP])
 ·intro f o ho
  obtain ⟨I,cells,h1,h2,h3,h4,h5⟩:=(h.iT f o ho).row
  exact ⟨I,cells,h1,h2,Ln K3 (h.bf root cs f o hf ho) h3,h4,h5⟩
 ·intro t t' c1 c2 h1 h2 db
  have h1:ao n8 t= .box c1:=h1
  have h2:ao n8 t'= .box c2:=h2
  rw [BZ] at h1 h2
  by_cases ht:t=root
  ·by_cases zU:t'=root
   ·exact absurd (ht.trans zU.symm) db
   ·simp only [zU,if_false] at h2;rw [ht];exact h.bb root t' cs c2 hf h2 (by rw [←ht];exact db)
  ·simp only [ht,if_false] at h1
   by_cases zU:t'=root
   ·rw [zU];exact h.bb t root c1 cs h1 hf ht
   ·simp only [zU,if_false] at h2;exact h.bb t t' c1 c2 h1 h2 db
 ·intro t c1 f o h1 h2
  have h1:ao n8 t= .box c1:=h1
  rw [BZ] at h1
  by_cases ht:t=root
  ·rw [ht];exact h.bf root cs f o hf h2
  ·simp only [ht,if_false] at h1;exact h.bf t c1 f o h1 h2
 ·intro b o v hv
  have db:b≠e.B root:=by intro eb;subst eb;rw [ko.2.free] at hv;cases hv
  have:=h.nT b o v hv
  rw [World.cell?_of_block (K3.other _ db)];exact this
theorem bX.TS {root:Nat} {cs fL:List aG} {arr Ha:Array Value} {T:TypeId} {n8:Fr} (h:bX c Z e st a w) (hf:ao st.fr root= .box cs)
 (c8:w.heap[e.B root]? =some (.cells arr T (0,0))) (hl:aw e Ha.toList fL) (BZ: ∀t,ao n8 t=if t=root then .box fL else ao st.fr t)
 (hnd:(aU n8).Nodup):bX c Z e {st with fr:=n8} a (w.setRow (e.B root) Ha):=by
 have ko:=h.slot root
 rw [hf] at ko
 have hm:eV cs=false:=by
  obtain ⟨o,h1,h2⟩:=ko.2.obj
  rw [c8] at h1;cases h1
  exact h2.2.xg
 exact h.setObj hf (.setRow _ _ _) (setRow_heap _ _ _ _ _ _ c8) ⟨rfl,hl⟩ (by rw [u6 hm,u6 hl.xg]) BZ hnd
theorem Trans.chg {g:Nat} (φ:Ph) (K3:S5 g w w') (hz:Z g):Trans Z φ w φ w':=
 ⟨.refl φ,fun b hb _=>K3.other _ (by intro e;subst e;exact hb hz),fun _ _ _=>rfl,by rw [K3.size];exact Nat.le_refl _,K3.rest⟩
theorem Trans.setRow {g:Nat} {Ha:Array Value} (φ:Ph) (hz:Z g):Trans Z φ w φ (w.setRow g Ha):=
 ⟨.refl φ,fun b hb _=>setRow_other _ _ _ _ (by intro e;subst e;exact hb hz),fun _ _ _=>rfl,by rw [setRow_size];exact Nat.le_refl _,.setRow _ _ _⟩
theorem zu {v:Value} {s:Slot} (h:ab e v s) (hu:tR (aP s)=false) (db:aP s≠[]):aw e v.cells.toList (aP s):=by
 cases s with
 |sc l=>
  simp only [aP] at hu⊢
  have iQ: ∀l,aY e [v] l→aw e v.cells.toList [l]:=by
   intro l hl
   have hc:=hl.cells v (by simp)
   have:v.cells.toList=[v]:=by cases v<;>simp_all [Value.cells,Value.oneCell']
   rw [this];exact ⟨[v],[],rfl,hl,rfl⟩
  cases l with
  |un=>simp [tR,La] at hu
  |hs x=>simp only [ab] at h;rw [h];exact ⟨bq x,[],by simp [Value.cells],rfl,rfl⟩
  |p m=>simp only [ab] at h;exact iQ _ h
  |nil=>simp only [ab] at h;exact iQ _ h
  |mp s es=>simp [tR,La] at hu
  |own f=>simp only [ab] at h;exact iQ _ h
 |ag cs=>simp only [ab] at h;obtain ⟨arr,rfl,hl⟩:=h;exact hl
 |_=>exact absurd rfl db
theorem mz {t:TypeId} {I:TI} {bc off:Nat} {v:Value} {arr:Array Value} {T:TypeId} (hr:na c.ti P t I) (hc:I.cO=[]) (hs:v.cells.toList.length=I.size)
 (iQ: ∀u∈v.cells.toList,u.oneCell'=true) (c8:w.heap[bc]? =some (.cells arr T (0,0))) (xh:off+I.size≤arr.size):
 (Instr.storeAt t (.pointer (some ⟨bc,off,none⟩)) v).run P w= .ok () (w.setRow bc (arr.toList.take off++v.cells.toList++arr.toList.drop (off+I.size)).toArray):=by
 obtain ⟨i,hi,q9,_⟩:=hr.info hc
 have h1:=run_storeCells_at P bc off T v.cells.toList 0 arr w c8 (by omega) iQ
 rw [Nat.add_zero,hs] at h1
 have h2:v.cells.size=i.size:=by rw [q9,←hs];simp
 simp [Instr.storeAt,Instr.sureAddr,storeVar,Go.sizeOf,typeInfo,hi,h2,h1]
theorem Q6 {t:TypeId} {I:TI} {root off:Nat} {v:Value} {cs ls fL:List aG} {K':St→Option R} (we:eV cs=false) (hr:na c.ti P t I) (hc:I.cO=[]) (h:bX c Z e st a w)
 (hf:ao st.fr root= .box cs) (hv:aw e v.cells.toList ls) (Dw:w9 ls=I.size) (hp:putAt cs off ls=some fL) (hK:wr st root (.box fL) K'=some r):
 ∃w' bZ,(Instr.storeAt t (.pointer (some ⟨e.B root,off,none⟩)) v).run P w= .ok () w'∧bX c Z e bZ a w'∧Trans Z e.φ w e.φ w'∧K' bZ=some r:=by
 have ma:=h.slot root
 rw [hf] at ma
 obtain ⟨arr,T,c8,qk⟩:=ma.2.cells we
 obtain ⟨v1,v2,v3,he,h1,h2,h3⟩:=u5 hp qk hv
 have hlen:=hv.width
 have q9:arr.size=v1.length+v2.length+v3.length:=by
  have:arr.toList.length=(v1++v2++v3).length:=by rw [he]
  simp at this
  omega
 have bS:=mz (P:=P) (w:=w) (bc:=e.B root) (off:=off) hr hc (by rw [hlen,Dw]) hv.cells c8 (by omega)
 have ad2:arr.toList.take off=v1:=by rw [he,List.append_assoc,List.take_left' h1]
 have ad3:arr.toList.drop (off+I.size)=v3:=by
  rw [he];exact List.drop_left' (by rw [List.length_append];omega)
 rw [ad2,ad3] at bS
 unfold wr at hK
 cases hn:bE st.ct root with
 |true=>simp [hn] at hK
 |false=>
  simp only [hn,cond_false,force_eq,ln] at hK
  refine ⟨_,_,bS,?_,.setRow _ (Li ma.2.cr (by rw [←h.defers.2.1,←bF,hn];simp)),hK⟩
  exact h.TS hf c8 (by simpa using h3) (fun t=>by rw [bN]) (ee h.nodup)
end
end Dn
/-
  Owned slices that are shared from now on; what is handed to a callee. Conditions: none.
-/
set_option linter.unusedSimpArgs false
set_option linter.unusedVariables false
namespace Dn
open Go
section
variable {P:Program} {c:Ctx} {Z:bL} {e:Env} {st:St} {a:Act} {w w':World} {R:Type} {K:St→Option R} {r:R} {Q:Exit→Act→World→Prop} {o:Oper}
theorem a8.mono {key:Nat→Nat} {φ φ':Ph} (h:qp φ φ') {size:Nat} {xs:List MV}: ∀{cs:List Value},a8 key φ size cs xs→a8 key φ' size cs xs:=by
 induction xs with
 |nil=>intro cs hh;exact hh
 |cons x xs ih=>intro cs hh;obtain ⟨v,q,rfl,h1,h2,h3⟩:=hh;exact ⟨v,q,rfl,h1,h2.mono h,ih h3⟩
theorem a8.length {key:Nat→Nat} {φ:Ph} {size:Nat} {xs:List MV}: ∀{cs:List Value},a8 key φ size cs xs→cs.length=xs.length *size:=by
 induction xs with
 |nil=>intro cs hh;cases hh;simp
 |cons x xs ih=>intro cs hh;obtain ⟨v,q,rfl,h1,h2,h3⟩:=hh;simp [h1,ih h3,Nat.succ_mul,Nat.add_comm]
theorem NW {m:List (Nat×nm)} {f:Nat} {o:nm} (h:aO m f=some o):bR m f o=m:=by
 induction m with
 |nil=>simp [aO] at h
 |cons p r ih=>
  obtain ⟨k,x⟩:=p
  simp only [aO,bR,fm] at h⊢
  by_cases hk:k=f
  ·subst hk;simp at h;subst h;simp
  ·simp only [hk,decide_false,cond_false] at h⊢;rw [ih h]
def nr (φ:Ph) (v:Value) (cells:List Value):Ph:=fun b off=>if v.ownBlock=some b∧off<cells.length then cells[off]? else φ b off
theorem CL {base:Nat} {t:TypeId} {size n:Nat} {v:Value} {xs ys:List Value} (h:w.ownsRow base t size v n xs) (h':w.ownsRow base t size v n ys) {b:Nat} (hb:v.ownBlock=some b):xs=ys:=by
 rcases h.2 with ⟨h1,_⟩|⟨g,cap,dm,h1,_,h2,_,_,_,h3⟩
 ·rw [h1] at hb;simp [Value.ownBlock] at hb
 ·rcases h'.2 with ⟨GX,_⟩|⟨g',abu,lQ,GX,_,Lo,_,_,_,h3'⟩
  ·rw [GX] at hb;simp [Value.ownBlock] at hb
  ·rw [h1] at GX
   simp at GX
   obtain ⟨rfl,rfl⟩:=GX
   rw [h2] at Lo
   simp at Lo
   subst Lo
   rw [←h3,←h3']
theorem freeze {f:Nat} {o:nm} (h:bX c Z e st a w) (hf:aO st.aV f=some o) (hp:f∉Z.cu∨o.eo=true):
 ∃φ',qp e.φ φ'∧(∀b off,¬Z b→φ' b off=e.φ b off)∧bX c Z {e with φ:=φ',m:=bR e.m f ⟨o.ty,true,o.xs⟩} {st with aV:=bR st.aV f ⟨o.ty,true,o.xs⟩} a w∧
  lm e.key φ' [e.E f] (.list o.xs)∧
  (∀I cells,c.ti o.ty=some I→w.ownsRow 0 o.ty I.size (e.E f) o.xs.length cells→ ∀bc,(e.E f).ownBlock=some bc→ ∀j,j<cells.length→φ' bc j=cells[j]?):=by
 obtain ⟨I,cells,hI,TT,dQ,iP,hz⟩:=(h.iT f o hf).row
 have hlen:=iP.length
 have hle:qp e.φ (nr e.φ (e.E f) cells):=by
  intro b off v hv
  unfold nr
  by_cases hc:(e.E f).ownBlock=some b∧off<cells.length
  ·simp only [hc,and_self,if_true]
   obtain ⟨hb,ho⟩:=hc
   rcases dQ.2 with ⟨hE,_⟩|⟨g,cap,dm,hE,_,hg,hn,DW,r9,NX⟩
   ·rw [hE] at hb;simp [Value.ownBlock] at hb
   ·rw [hE] at hb
    simp only [Value.ownBlock,Option.some.injEq] at hb
    subst hb
    have:=h.nT _ _ _ hv
    rw [cell_of hg] at this
    rw [←NX,List.getElem?_take]
    have cE:off<o.xs.length *I.size:=by omega
    simp only [cE,if_true]
    simpa using this
  ·simp only [hc,if_false];exact hv
 have jo: ∀b off v,nr e.φ (e.E f) cells b off=some v→w.cell? ⟨b,off,none⟩=some v:=by
  intro b off v hv
  unfold nr at hv
  by_cases hc:(e.E f).ownBlock=some b∧off<cells.length
  ·simp only [hc,and_self,if_true] at hv
   rcases dQ.2 with ⟨hE,_⟩|⟨g,cap,dm,hE,_,hg,hn,DW,r9,NX⟩
   ·rw [hE] at hc;simp [Value.ownBlock] at hc
   ·rw [hE] at hc
    simp only [Value.ownBlock,Option.some.injEq] at hc
    obtain ⟨hb,ho⟩:=hc
    subst hb
    rw [cell_of hg]
    rw [←NX,List.getElem?_take] at hv
    have cE:off<o.xs.length *I.size:=by omega
    simp only [cE,if_true] at hv
    simpa using hv
  ·simp only [hc,if_false] at hv;exact h.nT _ _ _ hv
 have ad4: ∀b off,¬Z b→nr e.φ (e.E f) cells b off=e.φ b off:=by
  intro b off hb
  unfold nr
  by_cases hc:(e.E f).ownBlock=some b∧off<cells.length
  ·by_cases zW:f∈Z.cu
   ·simp only [hc,and_self,if_true]
    exact (((hz b hc.1).2.2 zW (hp.resolve_left (fun hn=>hn zW))) off hc.2).symm
   ·exact absurd (Li (hz b hc.1).1 zW) hb
  ·simp [hc]
 have NY: ∀b off,(e.E f).ownBlock≠some b→nr e.φ (e.E f) cells b off=e.φ b off:=by
  intro b off hb;unfold nr;simp [hb]
 have tp:kn (fun _=>True) (fun _=>True) e {e with φ:=nr e.φ (e.E f) cells,m:=bR e.m f ⟨o.ty,true,o.xs⟩}:=by
  refine ⟨rfl,hle,fun _ _=>rfl,?_⟩
  intro f2 o2 cE _
  have cE:aO (bR e.m f ⟨o.ty,true,o.xs⟩) f2=some o2:=cE
  rw [bh] at cE
  by_cases eO:f2=f
  ·subst eO;simp at cE;subst cE;exact ⟨o,by rw [h.m];exact hf,rfl,rfl⟩
  ·simp only [eO,if_false] at cE;exact ⟨o2,cE,rfl,rfl⟩
 have mb: ∀s:Slot,fp (fun _=>True) (fun _=>True) s:=by
  intro s;cases s<;>simp [fp,iZ]
 refine ⟨_,hle,ad4,?_,?_,?_⟩
 rotate_right
 ·intro I' TU hI' ad5 bc hb j hj
  rw [hI] at hI'
  cases hI'
  have hcc:=CL dQ ad5 hb
  subst hcc
  unfold nr
  simp [hb,hj]
 ·refine ⟨h.defers,h.size,by show bR e.m f _=bR st.aV f _;rw [h.m],h.key,h.nodup,?_,h.root,?_,h.bb,?_,?_,jo,h.cr⟩
  ·intro t
   have hs:=h.slot t
   have XL:=h.bf t
   show bW Z _ w t _ (ao st.fr t)
   generalize ao st.fr t=s at hs XL
   cases s<;>simp only [bW] at hs⊢ <;>try exact hs.on tp (mb _)
   rename_i cs
   refine ⟨hs.1,hs.2.cr,?_,?_⟩
   ·obtain ⟨o2,h1,h2⟩:=hs.2.obj
    exact ⟨o2,h1,h2.on tp (fun l _ f _=>trivial)⟩
   ·intro off
    show nr e.φ (e.E f) cells (e.B t) off=none
    rw [NY _ _ (XL cs f o rfl hf)];exact hs.2.free off
  ·intro f2 o2 cE
   have cE:aO (bR st.aV f ⟨o.ty,true,o.xs⟩) f2=some o2:=cE
   rw [bh] at cE
   by_cases eO:f2=f
   ·subst eO
    simp at cE
    subst cE
    refine ⟨I,cells,hI,TT,dQ,iP.mono hle,?_⟩
    intro bc hb
    refine ⟨(hz bc hb).1,?_,?_⟩
    rotate_left
    ·intro _ _ j hj
     show nr e.φ (e.E f2) cells bc j=_
     have hb:(e.E f2).ownBlock=some bc:=hb
     unfold nr
     simp [hb,hj]
    intro off u hu
    refine ⟨rfl,?_⟩
    have hu:nr e.φ (e.E f2) cells bc off=some u:=hu
    unfold nr at hu
    by_cases hc:(e.E f2).ownBlock=some bc∧off<cells.length
    ·show off<o.xs.length *I.size;rw [←hlen];exact hc.2
    ·simp only [hc,if_false] at hu;exact ((hz bc hb).2.1 off u hu).2
   ·simp only [eO,if_false] at cE
    obtain ⟨I2,vc,h1,h2,h3,h4,h5⟩:=(h.iT f2 o2 cE).row
    refine ⟨I2,vc,h1,h2,h3,h4.mono hle,?_⟩
    intro bc hb
    refine ⟨(h5 bc hb).1,?_,?_⟩
    rotate_left
    ·intro g1 g2 j hj
     show nr e.φ (e.E f) cells bc j=_
     rw [NY _ _ (fun XL=>eO (h.ff f2 f o2 o bc cE hf hb XL))]
     exact (h5 bc hb).2.2 g1 g2 j hj
    intro off u hu
    have hu:nr e.φ (e.E f) cells bc off=some u:=hu
    rw [NY _ _ (fun XL=>eO (h.ff f2 f o2 o bc cE hf hb XL))] at hu
    exact (h5 bc hb).2.1 off u hu
  ·intro t cs f2 o2 h1 h2
   have h2:aO (bR st.aV f ⟨o.ty,true,o.xs⟩) f2=some o2:=h2
   rw [bh] at h2
   by_cases eO:f2=f
   ·subst eO;exact h.bf t cs f2 o h1 hf
   ·simp only [eO,if_false] at h2;exact h.bf t cs f2 o2 h1 h2
  ·intro f1 f2 o1 o2 k h1 h2 h3 h4
   have h1:aO (bR st.aV f ⟨o.ty,true,o.xs⟩) f1=some o1:=h1
   have h2:aO (bR st.aV f ⟨o.ty,true,o.xs⟩) f2=some o2:=h2
   rw [bh] at h1 h2
   have g1: ∃o',aO st.aV f1=some o':=by
    by_cases eO:f1=f
    ·subst eO;exact ⟨o,hf⟩
    ·simp only [eO,if_false] at h1;exact ⟨o1,h1⟩
   have g2: ∃o',aO st.aV f2=some o':=by
    by_cases eO:f2=f
    ·subst eO;exact ⟨o,hf⟩
    ·simp only [eO,if_false] at h2;exact ⟨o2,h2⟩
   obtain ⟨q1,g1⟩:=g1
   obtain ⟨q2,g2⟩:=g2
   exact h.ff f1 f2 q1 q2 k g1 g2 h3 h4
 ·have AE:=iP.mono hle
  rcases dQ.2 with ⟨hE,hn⟩|⟨g,cap,dm,hE,_,hg,hn,DW,r9,NX⟩
  ·have hx:o.xs=[]:=List.eq_nil_of_length_eq_zero hn
   have hv:[e.E f]=[Value.slice none 0 0]:=by rw [hE]
   rw [hv,hx]
   exact .list none 0 [] 0 0 0 (fun _=>[]) (by simp) (by simp) (by simp) (by simp) (by simp)
  ·have hv:[e.E f]=[Value.slice (some ⟨g,0,none⟩) o.xs.length cap]:=by rw [hE]
   rw [hv]
   have JN: ∀i (hi:i<o.xs.length),∃v1,v1.length=I.size∧lm e.key (nr e.φ (e.E f) cells) v1 o.xs[i]∧(cells.drop (i *I.size)).take I.size=v1:=by
    intro i hi
    obtain ⟨p1,v1,p2,he,BM,uR,eW⟩:=AE.at (List.getElem?_eq_getElem hi)
    refine ⟨v1,uR,eW,?_⟩
    rw [he,List.append_assoc,←BM,List.drop_left,←uR,List.take_left]
   refine .list (some ⟨g,0,none⟩) cap o.xs g 0 I.size (fun i=>(cells.drop (i *I.size)).take I.size) hn (fun _=>rfl) ?_ ?_ ?_
   ·intro i hi
    obtain ⟨v1,h1,_,h3⟩:=JN i hi
    rw [h3,h1]
   ·intro i j hi hj
    have hb:(e.E f).ownBlock=some g:=by rw [hE];rfl
    have Hb:i *I.size+j<cells.length:=by
     rw [hlen]
     calc i *I.size+j<i *I.size+I.size:=by omega
      _=(i+1) *I.size:=by rw [Nat.succ_mul]
      _≤o.xs.length *I.size:=Nat.mul_le_mul_right _ hi
    rw [Nat.zero_add]
    unfold nr
    simp only [hb,Hb,and_self,if_true]
    rw [List.getElem?_take]
    simp only [hj,if_true,List.getElem?_drop]
   ·intro i hi
    obtain ⟨v1,_,h2,h3⟩:=JN i hi
    rw [h3];exact h2
end
end Dn
/-
  Arguments and results. Conditions: none.
-/
set_option linter.unusedSimpArgs false
set_option linter.unusedVariables false
namespace Dn
open Go
structure Ext (Z:Nat→Prop) (e e':Env):Prop where
 on:kn (fun _=>True) (fun _=>True) e e'
 cr: ∀b off,¬Z b→e'.φ b off=e.φ b off
theorem Ext.refl (Z:Nat→Prop) (e:Env):Ext Z e e:=⟨⟨rfl,.refl _,fun _ _=>rfl,fun f o h _=>⟨o,h,rfl,rfl⟩⟩,fun _ _ _=>rfl⟩
theorem Ext.trans {Z:Nat→Prop} {e e' e'':Env} (h:Ext Z e e') (h':Ext Z e' e''):Ext Z e e'':=by
 refine ⟨⟨h'.on.key.trans h.on.key,h.on.φ.trans h'.on.φ,fun r hr=>(h'.on.B r hr).trans (h.on.B r hr),?_⟩,fun b off hb=>(h'.cr b off hb).trans (h.cr b off hb)⟩
 intro f o ho _
 obtain ⟨o1,h1,h2,h3⟩:=h'.on.iT f o ho trivial
 obtain ⟨o2,h4,h5,h6⟩:=h.on.iT f o1 h1 trivial
 exact ⟨o2,h4,h2.trans h5,h3.trans h6⟩
theorem Ext.tr {Z:Nat→Prop} {e e':Env} {w:World} (h:Ext Z e e'):Trans Z e.φ w e'.φ w:=⟨h.on.φ,fun _ _ _=>rfl,h.cr,Nat.le_refl _,.refl _⟩
theorem dH (s:Slot):fp (fun _=>True) (fun _=>True) s:=by cases s<;>simp [fp,iZ]
def cf (key:Nat→Nat) (φ:Ph):List Value→List MV→Prop
 |vs,[]=>vs=[]
 |vs,m::ms=> ∃v r,vs=v::r∧fj key φ v m∧cf key φ r ms
theorem cf.mono {key:Nat→Nat} {φ φ':Ph} (h:qp φ φ') {ms:List MV}: ∀{vs:List Value},cf key φ vs ms→cf key φ' vs ms:=by
 induction ms with
 |nil=>intro vs hh;exact hh
 |cons m ms ih=>intro vs hh;obtain ⟨v,r,rfl,h1,h2⟩:=hh;exact ⟨v,r,rfl,h1.mono h,ih h2⟩
theorem cf.append {key:Nat→Nat} {φ:Ph} {ms ns:List MV}: ∀{vs us:List Value},cf key φ vs ms→cf key φ us ns→cf key φ (vs++us) (ms++ns):=by
 induction ms with
 |nil=>intro vs us h h';cases h;simpa using h'
 |cons m ms ih=>intro vs us h h';obtain ⟨v,r,rfl,h1,h2⟩:=h;exact ⟨v,r++us,rfl,h1,ih h2 h'⟩
section
variable {P:Program} {c:Ctx} {Z:bL} {e:Env} {st:St} {a:Act} {w w':World} {R:Type} {r:R} {Q:Exit→Act→World→Prop} {o:Oper}
theorem sD {l:aG} {vs:List Value} {K:MV→St→Option R} (h:bX c Z e st a w) (hl:aY e vs l) (hK:qU st l K=some r):
 ∃e' bZ m,bX c Z e' bZ a w∧Ext Z e e'∧bZ.fr=st.fr∧lm e'.key e'.φ vs m∧K m bZ=some r∧(sw l=true→e'=e∧bZ=st)∧(∀f,l= .own f→ ∃o,aO st.aV f=some o∧m= .list o.xs)∧((∀x,l≠ .hs x)→m.one=true):=by
 cases l with
 |un=>simp [qU] at hK
 |p m=>exact ⟨e,st,m,h,.refl _ _,rfl,hl.2,hK,fun _=>⟨rfl,rfl⟩,by simp,fun _=>hl.1⟩
 |hs x=>have hl:vs=bq x:=hl;subst hl;exact ⟨e,st,.h x,h,.refl _ _,rfl,.h x,hK,fun _=>⟨rfl,rfl⟩,by simp,fun hx=>absurd rfl (hx x)⟩
 |nil=>
  have hl:vs=[.slice none 0 0]:=hl
  subst hl
  exact ⟨e,st,.list [],h,.refl _ _,rfl,.list none 0 [] 0 0 0 (fun _=>[]) (by simp) (by simp) (by simp) (by simp) (by simp),hK,fun hp=>by simp [sw] at hp,fun _ he=>(by cases he),fun _=>rfl⟩
 |mp s es=>simp [qU] at hK
 |own f=>
  simp only [qU] at hK
  cases hf:aO st.aV f with
  |none=>simp [hf] at hK
  |some o=>
   simp only [hf] at hK
   have zW:f∉Z.cu∨o.eo=true:=by
    cases hz:o.eo with
    |true=>exact .inr rfl
    |false=>
     refine .inl (fun hm=> ?_)
     rw [←h.defers.2.2.1,←bF] at hm
     simp [hz,hm] at hK
   obtain ⟨φ',h1,h2,h3,h4,_⟩:=freeze h hf zW
   obtain ⟨v,rfl,hv,hE⟩:=hl
   have hE:=hE o (by rw [h.m];exact hf)
   subst hE
   have XM:Ext Z e {e with φ:=φ',m:=bR e.m f ⟨o.ty,true,o.xs⟩}:=by
    refine ⟨⟨rfl,h1,fun _ _=>rfl,?_⟩,h2⟩
    intro f2 o2 cE _
    have cE:aO (bR e.m f ⟨o.ty,true,o.xs⟩) f2=some o2:=cE
    rw [bh] at cE
    by_cases eO:f2=f
    ·subst eO;simp at cE;subst cE;exact ⟨o,by rw [h.m];exact hf,rfl,rfl⟩
    ·simp only [eO,if_false] at cE;exact ⟨o2,cE,rfl,rfl⟩
   cases hz:o.eo with
   |true=>
    simp only [hz,cond_true] at hK
    have ad7:bR st.aV f ⟨o.ty,true,o.xs⟩=st.aV:=by
     rw [←hz];exact NW hf
    rw [ad7] at h3
    exact ⟨_,st,.list o.xs,h3,XM,rfl,h4,hK,fun hp=>by simp [sw] at hp,fun _ he=>by cases he;exact ⟨o,hf,rfl⟩,fun _=>rfl⟩
   |false=>
    simp only [hz,cond_false] at hK
    cases hn:bE st.cu f with
    |true=>simp [hn] at hK
    |false=>
     simp only [hn,cond_false,np] at hK
     exact ⟨_,_,.list o.xs,h3,XM,rfl,h4,hK,fun hp=>by simp [sw] at hp,fun _ he=>by cases he;exact ⟨o,hf,rfl⟩,fun _=>rfl⟩
theorem mc {ls:List aG}: ∀{e:Env} {st:St} {vs:List Value} {K:List MV→St→Option R},bX c Z e st a w→aw e vs ls→pc st ls K=some r→
 ∃e' bZ ms,bX c Z e' bZ a w∧Ext Z e e'∧bZ.fr=st.fr∧gX e'.key e'.φ vs ms∧K ms bZ=some r∧(iU ls=true→e'=e∧bZ=st)∧(∀ps,pS ls ms=some ps→aw e' vs ps∧iU ps=true):=by
 induction ls with
 |nil=>intro e st vs K h hl hK;cases hl;exact ⟨e,st,[],h,.refl _ _,rfl,.nil,hK,fun _=>⟨rfl,rfl⟩,fun ps hp=>by simp [pS] at hp;subst hp;exact ⟨rfl,rfl⟩⟩
 |cons l ls ih=>
  intro e st vs K h hl hK
  obtain ⟨v,u,rfl,h1,h2⟩:=hl
  simp only [pc] at hK
  obtain ⟨e1,ec,m,wX,Dx,B0,H2,pU,TV,_,iQ⟩:=sD h h1 hK
  obtain ⟨e2,dO,ms,Lp,S6,XN,XB,wL,H3,AF⟩:=ih wX (h2.on Dx.on (fun l _ f _=>trivial)) pU
  have hrm:lm e2.key e2.φ v m:=by
   have:=H2.mono S6.on.φ
   rw [←S6.on.key] at this;exact this
  refine ⟨e2,dO,m::ms,Lp,Dx.trans S6,XN.trans B0,.cons v m u ms ?_ XB,wL,?_,?_⟩
  ·have:=H2.mono S6.on.φ
   rw [←S6.on.key] at this;exact this
  ·intro hp
   simp only [iU,Bool.and_eq_true] at hp
   obtain ⟨q1,q2⟩:=TV hp.1
   obtain ⟨q3,q4⟩:=H3 hp.2
   exact ⟨q3.trans q1,q4.trans q2⟩
  ·intro ps hp
   cases hq:pS ls ms with
   |none=>cases l<;>simp [pS,hq] at hp
   |some q=>
    obtain ⟨g1,g2⟩:=AF q hq
    by_cases hh: ∃x,l= .hs x
    ·obtain ⟨x,rfl⟩:=hh
     simp [pS,hq] at hp
     subst hp
     exact ⟨⟨v,u,rfl,h1,g1⟩,by simp [iU,sw,g2]⟩
    ·have iQ:=iQ (fun x hx=>hh ⟨x,hx⟩)
     have JO:ps= .p m::q:=by cases l<;>simp [pS,hq] at hp<;>first|exact hp.symm|exact absurd ⟨_,rfl⟩ hh
     subst JO
     exact ⟨⟨v,u,rfl,⟨iQ,hrm⟩,g1⟩,by simp [iU,sw,g2]⟩
theorem nb {s:Slot} {v:Value} {K:MV→St→Option R} (h:bX c Z e st a w) (hl:ab e v s) (hK:lM st s K=some r):
 ∃e' bZ m,bX c Z e' bZ a w∧Ext Z e e'∧bZ.fr=st.fr∧fj e'.key e'.φ v m∧K m bZ=some r:=by
 cases s with
 |sc l=>
  simp only [lM] at hK
  cases l with
  |un=>simp [qU] at hK
  |hs x=>
   simp only [ab] at hl
   exact ⟨e,st,.h x,h,.refl _ _,rfl,by simpa [fj,bq] using hl,hK⟩
  |p m=>
   simp only [ab] at hl
   refine ⟨e,st,m,h,.refl _ _,rfl,?_,hK⟩
   obtain ⟨h1,h2⟩:=hl
   cases m<;>simp [MV.one] at h1<;>exact ⟨rfl,h2⟩
  |nil=>
   simp only [ab] at hl
   obtain ⟨e',bZ,m,q1,q2,q3,q4,q5,q6,_⟩:=sD h hl hK
   have hl:[v]=[Value.slice none 0 0]:=hl
   refine ⟨e,st,.list [],h,.refl _ _,rfl,⟨rfl,?_⟩,hK⟩
   rw [hl]
   exact .list none 0 [] 0 0 0 (fun _=>[]) (by simp) (by simp) (by simp) (by simp) (by simp)
  |mp s es=>simp [qU] at hK
  |own f=>
   simp only [ab] at hl
   simp only [qU] at hK
   cases hf:aO st.aV f with
   |none=>simp [hf] at hK
   |some o=>
    obtain ⟨e',bZ,m,q1,q2,q3,q4,q5,q6,q7⟩:=sD (l:= .own f) h hl (by simpa only [qU,hf] using hK)
    obtain ⟨o2,_,rfl⟩:=q7.1 f rfl
    exact ⟨e',bZ,.list o2.xs,q1,q2,q3,⟨rfl,q4⟩,q5⟩
 |ag cs=>
  simp only [ab] at hl
  obtain ⟨arr,hv,hl⟩:=hl
  simp only [lM] at hK
  obtain ⟨e',bZ,ms,q1,q2,q3,q4,q5,_⟩:=mc h hl hK
  exact ⟨e',bZ,.agg ms,q1,q2,q3,⟨arr,hv,q4⟩,q5⟩
 |rp cs off=>
  simp only [ab] at hl
  obtain ⟨bc,q,vs,hv,qk,hp,BX⟩:=hl
  simp only [lM] at hK
  cases hb:Nat.beq off 0 with
  |false=>simp [hb] at hK
  |true=>
   simp only [hb,cond_true] at hK
   have h0:=Nat.eq_of_beq_eq_true hb
   subst h0
   obtain ⟨e',bZ,ms,q1,q2,q3,q4,q5,q6⟩:=mc h qk hK
   obtain ⟨rfl,rfl⟩:=q6.1 hp
   refine ⟨e',bZ,.rp ms,q1,q2,q3,⟨rfl,?_⟩,q5⟩
   rw [hv]
   exact .rp bc (q+0) vs ms q4 (by simpa using BX)
 |_=>simp [lM] at hK
theorem qq {ss:List Slot}: ∀{e:Env} {st:St} {vs:List Value} {K:List MV→St→Option R},bX c Z e st a w→(∃f:Unit→List Value,f ()=vs∧vs.length=ss.length∧ ∀(i:Nat) (v:Value) (s:Slot),vs[i]? =some v→ss[i]? =some s→ab e v s)→
 uU st ss K=some r→ ∃e' bZ ms,bX c Z e' bZ a w∧Ext Z e e'∧bZ.fr=st.fr∧cf e'.key e'.φ vs ms∧K ms bZ=some r:=by
 induction ss with
 |nil=>intro e st vs K h hl hK;obtain ⟨f,_,hlen,_⟩:=hl;have:=List.eq_nil_of_length_eq_zero hlen;subst this;exact ⟨e,st,[],h,.refl _ _,rfl,rfl,hK⟩
 |cons s ss ih=>
  intro e st vs K h hl hK
  obtain ⟨f,_,hlen,eW⟩:=hl
  cases vs with
  |nil=>simp at hlen
  |cons v vs=>
   simp only [uU] at hK
   obtain ⟨e1,ec,m,q1,q2,q3,q4,q5⟩:=nb h (eW 0 v s rfl rfl) hK
   obtain ⟨e2,dO,ms,p1,p2,p3,p4,p5⟩:=ih (vs:=vs) q1 ⟨fun _=>vs,rfl,by simpa using hlen,fun i v s h1 h2=>(eW (i+1) v s (by simpa using h1) (by simpa using h2)).on q2.on (dH s)⟩ q5
   refine ⟨e2,dO,m::ms,p1,q2.trans p2,p3.trans q3,⟨v,vs,rfl,?_,p4⟩,p5⟩
   have:=q4.mono p2.on.φ
   rw [←p2.on.key] at this;exact this
end
end Dn
/-
  Parts of structs, lengths, the least and the greatest, places of elements. Conditions: none.
-/
set_option linter.unusedSimpArgs false
set_option linter.unusedVariables false
namespace Dn
open Go
section
variable {P:Program} {c:Ctx} {Z:bL} {e:Env} {st:St} {a:Act} {w w':World} {R:Type} {K:St→Option R} {r:R} {Q:Exit→Act→World→Prop} {o:Oper}
theorem H4 {t:TypeId} {I:TI} (hr:na c.ti P t I) (hc:I.cO=[]):
 ((I.st=true∨I.size=32)∧ ∀w:World,(isAgg t).run P w= .ok true w)∨(I.st=false∧I.size=1∧ ∀w:World,(isAgg t).run P w= .ok false w):=by
 rcases hr.agg hc with ⟨d,hu,hd,hh⟩|⟨d,hu,hd,h1,h2⟩
 ·refine .inl ⟨hh.imp id (·.2),fun w=> ?_⟩
  unfold isAgg;rw [Sem.run_bind,run_underlying hu w];cases d<;>simp_all [TypeDesc.isRow]
 ·refine .inr ⟨h1,h2,fun w=> ?_⟩
  unfold isAgg;rw [Sem.run_bind,run_underlying hu w];cases d<;>simp_all [TypeDesc.isRow]
theorem TW {t:TypeId} {I:TI} {cs:List aG} {off:Nat} {arr:Array Value} {K':Slot→Option R} (hr:na c.ti P t I) (hc:I.cO=[])
 (hv:aw e arr.toList cs) (hK:jP I cs off K'=some r):
 ∃v s,(∀w:World,(Go.part t arr off).run P w= .ok v w)∧ab e v s∧cv st.fr s∧K' s=some r:=by
 obtain ⟨i,hi,hs,_⟩:=hr.info hc
 have ext: ∀v1 v2 v3:List Value,arr.toList=v1++v2++v3→v1.length=off→(arr.extract off (off+v2.length))=v2.toArray:=by
  intro v1 v2 v3 h1 h2
  apply Array.toList_inj.1
  rw [Array.toList_extract,h1,List.extract_eq_take_drop,List.append_assoc,←h2,List.drop_left]
  simp
 unfold jP at hK
 cases ez:I.st with
 |true=>
  simp only [ez,cond_true] at hK
  cases hp:Dn.part cs off I.size with
  |none=>simp [hp] at hK
  |some ds=>
   simp only [hp] at hK
   obtain ⟨v1,v2,v3,h0,h1,h2,h3⟩:=HZ hp hv
   rcases H4 (P:=P) hr hc with ⟨_,hag⟩|⟨hf,_⟩
   ·refine ⟨.agg v2.toArray,.ag ds,?_,?_,trivial,hK⟩
    ·have hx:=ext v1 v2 v3 h0 h1
     rw [h2] at hx
     simp [Go.part,hag,Go.sizeOf,typeInfo,hi,hs,hx]
    ·simp only [ab];exact ⟨_,rfl,by simpa using h3⟩
   ·rw [ez] at hf;cases hf
 |false=>
  simp only [ez,cond_false] at hK
  cases hp:cut cs off with
  |none=>simp [hp] at hK
  |some ds=>
   cases ds with
   |nil=>simp [hp] at hK
   |cons l ls=>
    simp only [hp] at hK
    cases hb:Nat.beq l.w I.size with
    |false=>simp [hb] at hK
    |true=>
     simp only [hb,cond_true] at hK
     have hw:=Nat.eq_of_beq_eq_true hb
     obtain ⟨v1,v2,h0,h1,h2⟩:=xe hp hv
     obtain ⟨u,u2,rfl,h3,h4⟩:=h2
     have hlu:u.length=I.size:=by rw [h3.width,hw]
     rcases H4 (P:=P) hr hc with ⟨hh,hag⟩|⟨_,h1s,hag⟩
     ·refine ⟨.agg u.toArray,.sc l,?_,h3.slot (.inr ⟨rfl,?_⟩),trivial,hK⟩
      ·have hx:=ext v1 u u2 (by rw [h0,List.append_assoc]) h1
       rw [hlu] at hx
       simp [Go.part,hag,Go.sizeOf,typeInfo,hi,hs,hx]
      ·rcases hh with hh|hh
       ·rw [ez] at hh;cases hh
       ·rw [hw,hh]
     ·obtain ⟨v,rfl⟩:=List.length_eq_one_iff.1 (by rw [hlu,h1s])
      refine ⟨v,.sc l,?_,h3.slot (.inl ⟨rfl,?_⟩),trivial,hK⟩
      ·have:arr[off]? =some v:=by
        have:arr[off]? =arr.toList[off]? :=by simp
        rw [this,h0,List.getElem?_append_right (by omega),h1];simp
       simp [Go.part,hag,this]
      ·rw [hw,h1s]
theorem abv {t:TypeId} {x:Operand} {f:Nat} {I:TI} (ho:o.op= .field t x f) (hI:c.tv t=some I) (hT:kK P c.ti) (h:bX c Z e st a w)
 (hK:abd c I f (aT c st x) (fun s=>bw c st o.dst s K)=some r):Rd P c Z K r e a w o (fun _=>True):=by
 obtain ⟨hx,oO⟩:=h.eval x
 obtain ⟨r8,hc⟩:=bO hI
 obtain ⟨d,i,h1,h2,h3,h4⟩:=hT t I r8
 generalize aT c st x=s at hx hK oO
 unfold abd at hK
 split at hK
 ·rename_i q y cs ez hq hy
  simp only [ab] at hx
  obtain ⟨arr,hx,qk⟩:=hx
  cases hJ:c.tv y with
  |none=>simp [hJ] at hK
  |some J=>
   simp only [hJ] at hK
   obtain ⟨hJt,hJc⟩:=bO hJ
   obtain ⟨v,s,bS,h5,h6,h7⟩:=TW (P:=P) (st:=st) (hT y J hJt) hJc qk hK
   refine iO (v:=v) h ?_ h5 h6 h7
   cases d<;>simp only [q8] at h4
   case struct fs=>
    obtain ⟨_,_,_,ho1,cE,_⟩:=h4
    rw [←ho1,List.getElem?_map] at hq
    rw [←cE,List.getElem?_map] at hy
    cases hf:fs.toList[f]? with
    |none=>simp [hf] at hq
    |some fl=>
     simp [hf] at hq hy
     subst hq;subst hy
     have PN:fs[f]? =some fl:=by simpa using hf
     simp [execOp,ho,hx,Instr.field,run_underlying h1,PN,asAgg,bS]
   all_goals (exfalso;simp_all)
 ·simp at hK
theorem TI.mK {I:TI} {t:TypeId} (hr:na c.ti P t I) (h:I.zp=true):P.underlying t=some (.slice I.elem)∧ ∃E,c.ti I.elem=some E∧E.cO=[]∧0<E.size:=by
 unfold TI.zp at h
 split at h
 ·rename_i ez hl
  obtain ⟨d,i,h1,h2,h3,h4⟩:=hr
  cases d<;>simp only [q8,hl,ez] at h4<;>first|(exfalso;simp_all;done)|skip
  obtain ⟨_,_,_,rfl,hE,_⟩:=h4
  exact ⟨h1,hE⟩
 ·cases h
theorem TI.JP {I:TI} {t:TypeId} (hr:na c.ti P t I) (h:I.Xc=true):P.underlying t=some .string:=by
 unfold TI.Xc at h
 split at h
 ·rename_i ez hl
  obtain ⟨d,i,h1,h2,h3,h4⟩:=hr
  cases d<;>simp only [q8,hl,ez] at h4<;>first|(exfalso;simp_all;done)|skip
  exact h1
 ·cases h
theorem Lq {v:Value} {xs:List MV} (h:ab e v (.sc (.p (.list xs)))): ∃ad cap,v= .slice ad xs.length cap∧xs.length≤cap:=by
 simp only [ab,aY] at h
 obtain ⟨_,h⟩:=h
 generalize hv:[v]=vs at h
 cases h
 exact ⟨_,_,by simpa using hv,by assumption⟩
theorem sE {f:Nat} {w':nm} {v:Value} (h:bX c Z e st a w) (hv:ab e v (.sc (.own f))) (hf:aO st.aV f=some w'):v=e.E f∧ ∃ad cap,v= .slice ad w'.xs.length cap∧w'.xs.length≤cap:=by
 simp only [ab] at hv
 obtain ⟨u,hu,_,hE⟩:=hv
 simp at hu;subst hu
 have hE:=hE w' (by rw [h.m];exact hf)
 refine ⟨hE,?_⟩
 obtain ⟨I,cells,_,_,dQ,_⟩:=(h.iT f w' hf).row
 rcases dQ.2 with ⟨h1,h2⟩|⟨g,cap,dm,h1,_,_,h2,_⟩
 ·exact ⟨none,0,by rw [hE,h1,h2],by omega⟩
 ·exact ⟨_,cap,by rw [hE,h1],h2⟩
theorem iG {l:List Operand}:iX c st l=l.map (aT c st):=by
 induction l with
 |nil=>rfl
 |cons x r ih=>simp [iX,ih]
theorem abw {cl:Call} {t:TypeId} {I:TI} (ho:o.op= .call cl) (hb:cl.callee= .builtin .len) (ha:cl.argTypes.toList=[t]) (hI:c.tv t=some I) (hT:kK P c.ti) (h:bX c Z e st a w)
 (hK:To I st (iX c st cl.args.toList) (fun s=>bw c st o.dst s K)=some r):Rd P c Z K r e a w o (fun _=>True):=by
 obtain ⟨r8,hc⟩:=bO hI
 have hr:=hT t I r8
 have Ex:cl.argTypes= #[t]:=by rw [←Array.toList_inj,ha]
 rw [iG] at hK
 have go: ∀x,cl.args.toList=[x]→ ∀n:Nat,(∃b:ByteArray,a.eval x= .string b∧b.size=n∧P.underlying t=some .string)∨(∃ad cap,a.eval x= .slice ad n cap∧ ∃el,P.underlying t=some (.slice el))→
  bw c st o.dst (.sc (.p (.i .i64 n))) K=some r→Rd P c Z K r e a w o (fun _=>True):=by
  intro x hx n Lr hK
  have NU:cl.args= #[x]:=by rw [←Array.toList_inj,hx]
  refine iO h ?_ (tT .i64 (n:Int)) trivial hK
  rcases Lr with ⟨b,h1,h2,h3⟩|⟨ad,cap,h1,el,h3⟩
  ·simp [execOp,ho,resolve,hb,invoke,builtin,Builtin.len_,Ex,NU,run_underlying h3,h1,goInt,h2]
  ·simp [execOp,ho,resolve,hb,invoke,builtin,Builtin.len_,Ex,NU,run_underlying h3,h1,goInt]
 cases hl:cl.args.toList with
 |nil=>rw [hl] at hK;simp [To] at hK
 |cons x ys=>
  rw [hl] at hK
  cases ys with
  |cons y zs=>simp only [List.map_cons] at hK;unfold To at hK;split at hK<;>simp_all
  |nil=>
   simp only [List.map_cons,List.map_nil] at hK
   obtain ⟨hx,_⟩:=h.eval x
   generalize aT c st x=s at hx hK
   unfold To at hK
   split at hK
   ·rename_i l hs
    simp at hs;subst hs
    cases hS:I.Xc with
    |false=>simp [hS] at hK
    |true=>
     simp only [hS,cond_true] at hK
     obtain ⟨b,BW,rfl⟩:=Er hx
     exact go x hl _ (.inl ⟨b,BW,by show b.data.size=_;exact (Array.length_toList).symm,TI.JP hr hS⟩) hK
   ·rename_i l hs
    simp at hs;subst hs
    cases hS:I.zp with
    |false=>simp [hS] at hK
    |true=>
     simp only [hS,cond_true] at hK
     obtain ⟨ad,cap,hv,_⟩:=Lq hx
     exact go x hl _ (.inr ⟨ad,cap,hv,_,(TI.mK hr hS).1⟩) hK
   ·rename_i hs
    simp at hs;subst hs
    cases hS:I.zp with
    |false=>simp [hS] at hK
    |true=>
     simp only [hS,cond_true] at hK
     simp only [ab] at hx
     have hx:[a.eval x]=[Value.slice none 0 0]:=hx
     simp at hx
     exact go x hl 0 (.inr ⟨none,0,hx,_,(TI.mK hr hS).1⟩) hK
   ·rename_i f hs
    simp at hs;subst hs
    cases hS:I.zp with
    |false=>simp [hS] at hK
    |true=>
     simp only [hS,cond_true] at hK
     cases hf:aO st.aV f with
     |none=>simp [hf] at hK
     |some w'=>
      simp only [hf] at hK
      obtain ⟨_,ad,cap,hv,_⟩:=sE h hx hf
      exact go x hl _ (.inr ⟨ad,cap,hv,_,(TI.mK hr hS).1⟩) hK
   ·simp at hK
end
end Dn
/-
  Values as leaves; places of elements; the least and the greatest; parts of slices. Conditions: none.
-/
set_option linter.unusedSimpArgs false
set_option linter.unusedVariables false
namespace Dn
open Go
section
variable {P:Program} {c:Ctx} {Z:bL} {e:Env} {st:St} {a:Act} {w w':World} {R:Type} {K:St→Option R} {r:R} {Q:Exit→Act→World→Prop} {o:Oper}
structure aam (e:Env) (k:Kd) (vs:List Value) (m:MV) (l:aG):Prop where
 rep:lm e.key e.φ vs m→aY e vs l
 S7:sw l=true
 mv:bH [l]=some [m]
 one: ∀m',l= .p m'→m'.one=true
 wid:l.w=Dv [k]
theorem mL {k:Kd} {m:MV} {vs:List Value} {K':aG→Option R} (hK:jO k m K'=some r): ∃l,aam e k vs m l∧K' l=some r:=by
 have mk: ∀m:MV,m.one=true→(Dv [k]=1)→K' (.p m)=some r→ ∃l,aam e k vs m l∧K' l=some r:=
  fun m h1 h2 h3=>⟨.p m,⟨fun h=>⟨h1,h⟩,rfl,rfl,fun m' e=>by cases e;exact h1,h2.symm⟩,h3⟩
 cases k with
 |b=>unfold jO gB at hK;cases m<;>simp at hK;exact mk _ rfl rfl hK
 |s=>unfold jO gS at hK;cases m<;>simp at hK;exact mk _ rfl rfl hK
 |l=>unfold jO gL at hK;cases m<;>simp at hK;exact mk _ rfl rfl hK
 |i k=>
  unfold jO gI at hK;cases m<;>simp at hK
  rename_i k' n
  by_cases hk:k'=k
  ·subst hk;simp at hK;exact mk _ rfl rfl hK
  ·simp [hk] at hK
 |h=>
  unfold jO gH at hK;cases m<;>simp at hK
  rename_i x
  refine ⟨.hs x,⟨?_,rfl,rfl,by simp,rfl⟩,hK⟩
  intro h;cases h;rfl
 |raw=>unfold jO gR at hK;cases m<;>simp at hK<;>exact mk _ rfl rfl hK
theorem zv {l:aG} {ls:List aG} {m:MV} {ms:List MV} (h1:bH [l]=some [m]) (h2:bH ls=some ms):bH (l::ls)=some (m::ms):=by
 cases l<;>simp [bH] at h1⊢ <;>simp [h2,h1]
structure XO (e:Env) (ks:List Kd) (vs:List Value) (ms:List MV) (ls:List aG):Prop where
 rep:gX e.key e.φ vs ms→aw e vs ls
 S7:iU ls=true
 mv:bH ls=some ms
 one: ∀m',aG.p m'∈ls→m'.one=true
 wid:w9 ls=Dv ks
theorem Q7 (k:Kd) (ks:List Kd):Dv (k::ks)=Dv [k]+Dv ks:=by cases k<;>simp [Dv]
theorem vd {ks:List Kd}: ∀{ms:List MV} {vs:List Value} {K':List aG→Option R},sv ks ms K'=some r→ ∃ls,XO e ks vs ms ls∧K' ls=some r:=by
 induction ks with
 |nil=>
  intro ms vs K' hK
  cases ms with
  |nil=>exact ⟨[],⟨fun h=>by cases h;rfl,rfl,rfl,by simp,rfl⟩,hK⟩
  |cons m ms=>simp [sv,gN] at hK
 |cons k ks ih=>
  intro ms vs K' hK
  cases ms with
  |nil=>simp [sv,gC] at hK
  |cons m ms=>
   simp only [sv,gC] at hK
   have h1:=fun vs=>mL (e:=e) (vs:=vs) hK
   obtain ⟨l,hl,pU⟩:=h1 []
   obtain ⟨ls,Ls,wL⟩:=ih (vs:=[]) pU
   refine ⟨l::ls,⟨?_,?_,zv hl.mv Ls.mv,?_,?_⟩,wL⟩
   ·intro h
    have g:aw e vs (l::ls):=by
     apply h.leaves (zv hl.mv Ls.mv)
     intro m' hm
     rcases List.mem_cons.1 hm with hm|hm
     ·exact hl.one m' hm.symm
     ·exact Ls.one m' hm
    exact g
   ·simp [iU,hl.S7,Ls.S7]
   ·intro m' hm
    rcases List.mem_cons.1 hm with hm|hm
    ·exact hl.one m' hm.symm
    ·exact Ls.one m' hm
   ·rw [Q7,←hl.wid,←Ls.wid];rfl
theorem XP {t:TypeId} {I:TI} (hr:na c.ti P t I) (hc:I.cO=[]):Dv I.lay=I.size:=by
 obtain ⟨d,i,h1,h2,h3,h4⟩:=hr
 cases d<;>simp only [q8] at h4
 case struct fs=>exact h4.2.2.1.2
 case tuple ts=>exact absurd hc h4.2.1
 case slice el=>obtain ⟨_,_,hs,_,_,_,_,k,hl,rfl⟩:=h4;rw [hl,hs];rfl
 case array n el=>obtain ⟨_,_,hs,_,_,_,hl,_⟩:=h4;rw [hl,hs];rfl
 all_goals (obtain ⟨_,_,hs,hl,_⟩:=h4;rw [hl,hs];rfl)
theorem CM {E:TI} {t:TypeId} {x:MV} {K':List aG→Option R} (hr:na c.ti P t E) (hc:E.cO=[]) (hK:Jy E x K'=some r):
 ∃cs,Ej E.st x cs∧iU cs=true∧w9 cs=E.size∧K' cs=some r:=by
 have hlw:=XP hr hc
 unfold Jy at hK
 cases ez:E.st with
 |true=>
  simp only [ez,cond_true] at hK
  unfold gA at hK
  split at hK
  ·rename_i ms
   obtain ⟨ls,Ls,pU⟩:=vd (e:=⟨fun n=>n,fun _ _=>none,fun _=>undef,fun _=>0,[]⟩) (vs:=[]) hK
   exact ⟨ls,⟨⟨ms,Ls.mv,by simp [tl]⟩,Ls.one⟩,Ls.S7,by rw [Ls.wid,hlw],pU⟩
  ·simp at hK
 |false=>
  simp only [ez,cond_false] at hK
  split at hK
  ·rename_i k hl
   obtain ⟨l,uR,pU⟩:=mL (e:=⟨fun n=>n,fun _ _=>none,fun _=>undef,fun _=>0,[]⟩) (vs:=[]) hK
   refine ⟨[l],⟨⟨[x],uR.mv,by simp [tl]⟩,?_⟩,by simp [iU,uR.S7],?_,pU⟩
   ·intro m hm;simp at hm;exact uR.one m hm.symm
   ·rw [←hlw,hl,←uR.wid];rfl
  ·simp at hK
theorem abx {t:TypeId} {x y:Operand} {I E:TI} (ho:o.op= .indexAddr t x y) (hI:c.tv t=some I) (hE:c.tv I.elem=some E) (hT:kK P c.ti) (h:bX c Z e st a w)
 (hK:abe c st I E (aT c st x) (aT c st y) (fun s=>bw c st o.dst s K)=some r):Rd P c Z K r e a w o (fun _=>True):=by
 obtain ⟨hx,oO⟩:=h.eval x
 obtain ⟨hy,_⟩:=h.eval y
 obtain ⟨r8,hc⟩:=bO hI
 obtain ⟨nk,n9⟩:=bO hE
 have hr:=hT t I r8
 have hrE:=hT _ E nk
 obtain ⟨iE,hiE,hsE,_⟩:=hrE.info n9
 have run: ∀k n bc off len cap,P.underlying t=some (.slice I.elem)→a.eval y= .int k n→a.eval x= .slice (some ⟨bc,off,none⟩) len cap→0≤n→n.toNat<len→
  ∀w:World,(execOp a.eval o).run P w= .ok (.value (.pointer (some ⟨bc,off+n.toNat *E.size,none⟩))) w:=by
  intro k n bc off len cap hu hy hx h0 h1 w
  have h2:n<(len:Int):=by omega
  simp [execOp,ho,hx,hy,Instr.indexAt,asIntOf,run_underlying hu,h0,h2,Go.sizeOf,typeInfo,hiE,hsE,Addr.add_mid]
 generalize aT c st x=sx at hx hK oO
 generalize aT c st y=sy at hy hK
 unfold abe at hK
 split at hK
 ·rename_i xs k n
  cases hL:I.zp with
  |false=>simp [hL] at hK
  |true=>
   simp only [hL,cond_true] at hK
   obtain ⟨h0,m,hm,hK⟩:=Lm hK
   obtain ⟨cs,h1,h2,h3,hK⟩:=CM hrE n9 hK
   have dn:n.toNat<xs.length:=(List.getElem?_eq_some_iff.1 hm).1
   simp only [ab,aY] at hx
   obtain ⟨_,hx⟩:=hx
   generalize hv:[a.eval x]=vs at hx
   cases hx with
   |list ad cap _ bc off K0 f g1 g2 g3 g4 g5=>
   simp at hv
   have eW:=g5 n.toNat dn
   rw [(List.getElem?_eq_some_iff.1 hm).2] at eW
   have qk:=eW.Eu h1
   have XQ:K0=E.size:=by rw [←h3,←qk.width,g3 _ dn]
   rw [g2 (by omega)] at hv
   refine iO (s:= .rp cs 0) h (run k n bc off _ cap (TI.mK hr hL).1 (lI hy) hv h0 dn) ?_ trivial hK
   simp only [ab]
   refine ⟨bc,off+n.toNat *E.size,f n.toNat,rfl,qk,h2,?_⟩
   intro j hj
   rw [g3 _ dn] at hj
   rw [←XQ];exact g4 n.toNat j dn hj
 ·rename_i f k n
  cases hf:aO st.aV f with
  |none=>simp [hf] at hK
  |some fo=>
   simp only [hf] at hK
   cases hL:I.zp with
   |false=>simp [hL] at hK
   |true=>
    simp only [hL,cond_true] at hK
    obtain ⟨h0,m,hm,hK⟩:=Lm hK
    obtain ⟨cs,h1,h2,h3,hK⟩:=CM hrE n9 hK
    have dn:n.toNat<fo.xs.length:=(List.getElem?_eq_some_iff.1 hm).1
    obtain ⟨hv,_⟩:=sE h hx hf
    obtain ⟨J,cells,_,_,dQ,_⟩:=(h.iT f fo hf).row
    rcases dQ.2 with ⟨h5,h6⟩|⟨g,cap,dm,h5,_⟩
    ·omega
    ·rw [h5] at hv
     refine iO (s:= .ep f n.toNat 0 E.st cs) h (run k n g 0 _ cap (TI.mK hr hL).1 (lI hy) hv h0 dn) ?_ trivial hK
     simp only [ab]
     intro o2 cE
     rw [h.m,hf] at cE
     cases cE
     exact ⟨g,cap,h5,⟨m,hm,h1⟩,by rw [h3,Nat.zero_add,Nat.add_zero]⟩
 ·rename_i r' o' k n
  cases ez:I.st with
  |true=>simp [ez] at hK
  |false=>
   simp only [ez,cond_false] at hK
   split at hK
   ·rename_i hl
    obtain ⟨Nq,hK⟩:=eC hK
    obtain ⟨h0,h1⟩:=of_decide_eq_true Nq
    obtain ⟨d,i,hu,h2,h3,h4⟩:=hr
    cases d<;>simp only [q8,hl,ez] at h4<;>first|(exfalso;simp_all;done)|skip
    obtain ⟨_,_,_,rfl,_,⟨ie,hue,nU,wX⟩,_⟩:=h4
    simp only [ab] at hx
    refine iO (s:= .hp r' o' n.toNat) (v:= .pointer (some ⟨e.B r',o'+n.toNat,none⟩)) h ?_ ?_ oO hK
    ·simp [execOp,ho,hx,lI hy,Instr.indexAt,asIntOf,run_underlying hu,h0,h1,Go.sizeOf,typeInfo,nU,wX,Instr.sureAddr,Addr.add_mid]
    ·simp only [ab];exact ⟨trivial,by omega⟩
   ·simp at hK
 ·simp at hK
theorem Q8 {mx:Bool} {k:IntKind} {ss:List Slot}: ∀{vs:List Value} {n:Int} {m:MV},Ti mx k n ss=some m→vs.length=ss.length→
 (∀(i:Nat) (v:Value) (s:Slot),vs[i]? =some v→ss[i]? =some s→ab e v s)→
 ∃v,(∀w:World,(vs.foldlM (if mx then Builtin.max2 else Builtin.min2) (.int k n)).run P w= .ok v w)∧ab e v (.sc (.p m)):=by
 induction ss with
 |nil=>
  intro vs n m hm hl hs
  have:=List.eq_nil_of_length_eq_zero hl
  subst this
  simp [Ti] at hm
  subst hm
  exact ⟨.int k n,by simp,tT k n⟩
 |cons s ss ih=>
  intro vs n m hm hl hs
  cases vs with
  |nil=>simp at hl
  |cons v vs=>
   have h0:=hs 0 v s rfl rfl
   unfold Ti at hm
   split at hm
   ·rename_i iV;simp at iV
   ·rename_i k' y r' iV
    simp at iV
    obtain ⟨rfl,rfl⟩:=iV
    by_cases hk:k'=k
    ·subst hk
     simp only [decide_true,cond_true] at hm
     obtain ⟨u,h1,h2⟩:=ih hm (by simpa using hl) (fun i v s h1 h2=>hs (i+1) v s (by simpa using h1) (by simpa using h2))
     refine ⟨u,fun w=> ?_,h2⟩
     have h1:=h1 w
     rw [lI h0]
     cases mx
     ·simp only [cond_false,adP] at h1
      simp [Builtin.min2] at h1⊢
      exact h1
     ·simp only [cond_true,imax] at h1
      simp [Builtin.max2] at h1⊢
      exact h1
    ·simp [hk] at hm
   ·simp at hm
theorem H5 {cl:Call} {mx:Bool} {m:MV} (ho:o.op= .call cl) (hb:cl.callee= .builtin (if mx then .max else .min)) (h:bX c Z e st a w)
 (hm:NA mx (iX c st cl.args.toList)=some m) (hK:bw c st o.dst (.sc (.p m)) K=some r):Rd P c Z K r e a w o (fun _=>True):=by
 rw [iG] at hm
 cases hl:cl.args.toList with
 |nil=>rw [hl] at hm;simp [NA] at hm
 |cons x xs=>
  rw [hl] at hm
  simp only [List.map_cons] at hm
  obtain ⟨hx,_⟩:=h.eval x
  generalize aT c st x=s at hx hm
  unfold NA at hm
  split at hm
  ·rename_i k n ss iV
   simp at iV
   obtain ⟨rfl,rfl⟩:=iV
   obtain ⟨v,h1,h2⟩:=Q8 (e:=e) (P:=P) (vs:=xs.map a.eval) hm (by simp) (by
    intro i v s h1 h2
    simp only [List.getElem?_map,Option.map_eq_some_iff] at h1 h2
    obtain ⟨y,h3,rfl⟩:=h1
    obtain ⟨y',h4,rfl⟩:=h2
    rw [h3] at h4;cases h4
    exact (h.eval y).1)
   have fq:(cl.args.map a.eval).toList= .int k n::xs.map a.eval:=by simp [hl,lI hx]
   refine iO (v:=v) h ?_ h2 trivial hK
   intro w
   have h1:=h1 w
   cases mx
   ·simp at hb h1
    have TX: ∀ts t,(Builtin.min_ ts t (cl.args.map a.eval)).run P w= .ok v w:=by intro ts t;unfold Builtin.min_;rw [fq];exact h1
    simp [execOp,ho,resolve,hb,invoke,builtin,TX]
   ·simp at hb h1
    have TX: ∀ts t,(Builtin.max_ ts t (cl.args.map a.eval)).run P w= .ok v w:=by intro ts t;unfold Builtin.max_;rw [fq];exact h1
    simp [execOp,ho,resolve,hb,invoke,builtin,TX]
  ·simp at hm
end
end Dn
/-
  Parts of slices and texts. Conditions: none.
-/
set_option linter.unusedSimpArgs false
set_option linter.unusedVariables false
namespace Dn
open Go
section
variable {P:Program} {c:Ctx} {Z:bL} {e:Env} {st:St} {a:Act} {w w':World} {R:Type} {K:St→Option R} {r:R} {Q:Exit→Act→World→Prop} {o:Oper}
theorem ve {b:Bool} {lo hi:Option Operand} {len cap:Nat} {K':Nat→Nat→Option R} (h:bX c Z e st a w) (B1:len≤cap) (hK:sliceB (lj c st lo) (lj c st hi) len K'=some r):
 ∃l h',l≤h'∧h'≤len∧(lo=none→l=0)∧(∀w:World,(Instr.sliceBounds b len cap (lo.map a.eval) (hi.map a.eval) none).run P w= .ok (l,h',cap) w)∧K' l h'=some r:=by
 have bnd: ∀(k:IntKind) (n:Int) (y:Nat) (cd:BoundsCode),0≤n→n≤(y:Int)→ ∀w:World,(Instr.sliceBound (.int k n) y cd).run P w= .ok n.toNat w:=by
  intro k n y cd h1 h2 w
  simp [Instr.sliceBound,asIntOf,h1,h2]
 unfold sliceB at hK
 cases lo with
 |none=>
  cases hi with
  |none=>
   simp only [lj] at hK
   exact ⟨0,len,by omega,by omega,fun _=>rfl,by simp [Instr.sliceBounds],hK⟩
  |some y=>
   obtain ⟨hy,_⟩:=h.eval y
   simp only [lj] at hK
   generalize aT c st y=sy at hy hK
   split at hK<;>first|(simp_all;done)|skip
   ·rename_i k n h1 h2
    simp at h2;subst h2
    obtain ⟨Nq,hK⟩:=eC hK
    obtain ⟨h3,h4,h5⟩:=of_decide_eq_true Nq
    refine ⟨0,n.toNat,by omega,by omega,fun _=>rfl,?_,hK⟩
    have:=bnd k n cap (if b then .sliceAcap else .sliceAlen) h4 (by omega)
    cases b<;>simp at this<;>simp [Instr.sliceBounds,lI hy,this]
 |some x=>
  obtain ⟨hx,_⟩:=h.eval x
  cases hi with
  |none=>
   simp only [lj] at hK
   generalize aT c st x=sx at hx hK
   split at hK<;>first|(simp_all;done)|skip
   ·rename_i k n h1 h2
    simp at h1;subst h1
    obtain ⟨Nq,hK⟩:=eC hK
    obtain ⟨h3,h4,h5⟩:=of_decide_eq_true Nq
    refine ⟨n.toNat,len,by omega,by omega,by simp,?_,by simpa using hK⟩
    have:=bnd k n len .sliceB h3 h4
    simp [Instr.sliceBounds,lI hx,this]
  |some y=>
   obtain ⟨hy,_⟩:=h.eval y
   simp only [lj] at hK
   generalize aT c st x=sx at hx hK
   generalize aT c st y=sy at hy hK
   split at hK<;>first|(simp_all;done)|skip
   ·rename_i k n k' n' h1 h2
    simp at h1 h2;subst h1;subst h2
    obtain ⟨Nq,hK⟩:=eC hK
    obtain ⟨h3,h4,h5⟩:=of_decide_eq_true Nq
    refine ⟨n.toNat,n'.toNat,by omega,by omega,by simp,?_,hK⟩
    have t1:=bnd k' n' cap (if b then .sliceAcap else .sliceAlen) (by omega) (by omega)
    have t2:=bnd k n n'.toNat .sliceB h3 (by omega)
    cases b<;>simp at t1<;>simp [Instr.sliceBounds,lI hx,lI hy,t1,t2]
theorem lm.sub {key:Nat→Nat} {φ:Ph} {ad:Option Addr} {len cap:Nat} {xs:List MV} {l h' size:Nat} (hv:lm key φ [.slice ad len cap] (.list xs)) (hl:l≤h') (hh:h'≤xs.length)
 (hw:l≠0→ ∀x∈xs,x.w=size):len=xs.length∧len≤cap∧lm key φ [.slice (if cap=l then ad else ad.map (·.add (l *size))) (h'-l) (cap-l)] (.list ((xs.take h').drop l)):=by
 generalize yZ:[Value.slice ad len cap]=vs at hv
 cases hv with
 |list ad' abu _ bc off K0 f g1 g2 g3 g4 g5=>
 simp at yZ
 obtain ⟨rfl,rfl,rfl⟩:=yZ
 refine ⟨rfl,g1,?_⟩
 have hlen:((xs.take h').drop l).length=h'-l:=by simp;omega
 have ad9:lm key φ [.slice (if cap=l then ad else ad.map (·.add (l *size))) ((xs.take h').drop l).length (cap-l)] (.list ((xs.take h').drop l)):=by
  have mf: ∀i,i<((xs.take h').drop l).length→i+l<xs.length:=by intro i hi;omega
  have Xd: ∀(i:Nat) (hi:i<((xs.take h').drop l).length),((xs.take h').drop l)[i]=xs[i+l]'(mf i hi):=by
   intro i hi
   simp [Nat.add_comm]
  refine .list _ _ _ bc (off+l *K0) K0 (fun i=>f (i+l)) (by rw [hlen];omega) ?_ ?_ ?_ ?_
  ·intro h0
   have db:cap≠l:=by omega
   have XR:0<xs.length:=by omega
   rw [g2 XR]
   simp only [db,if_false,Option.map_some,Option.some.injEq]
   by_cases hl0:l=0
   ·subst hl0;simp [Addr.add_mid]
   ·have XQ:K0=size:=by
     have h3:=g5 0 XR
     rw [←g3 0 XR,h3.width]
     exact hw hl0 _ (List.getElem_mem XR)
    rw [XQ,Addr.add_mid]
  ·intro i hi;exact g3 _ (mf i hi)
  ·intro i j hi hj
   have:=g4 (i+l) j (mf i hi) hj
   rw [←this]
   congr 1
   rw [Nat.add_mul];omega
  ·intro i hi
   rw [Xd i hi]
   exact g5 (i+l) (mf i hi)
 rw [hlen] at ad9
 exact ad9
theorem AG {n:Nat} {l:List MV} (h:tk n l=true): ∀x∈l,x.w=n:=by
 intro x hx
 unfold tk at h
 rw [List.all_eq_true] at h
 exact Nat.eq_of_beq_eq_true (h x hx)
theorem a8.tk {key:Nat→Nat} {φ:Ph} {size:Nat} {xs:List MV}: ∀{cs:List Value},a8 key φ size cs xs→ ∀x∈xs,x.w=size:=by
 induction xs with
 |nil=>intro cs _ x hx;simp at hx
 |cons y ys ih=>
  intro cs h x hx
  obtain ⟨v,q,rfl,h1,h2,h3⟩:=h
  rcases List.mem_cons.1 hx with rfl|hx
  ·rw [←h2.width,h1]
  ·exact ih h3 x hx
theorem TY {t:TypeId} {x:Operand} {lo hi:Option Operand} {I:TI} (ho:o.op= .slice t x lo hi none) (hI:c.tv t=some I) (hT:kK P c.ti) (h:bX c Z e st a w)
 (hK:NB c I st (aT c st x) (lj c st lo) (lj c st hi) (fun s st=>bw c st o.dst s K)=some r):Rd P c Z K r e a w o (fun _=>True):=by
 obtain ⟨hx,oO⟩:=h.eval x
 obtain ⟨r8,hc⟩:=bO hI
 have hr:=hT t I r8
 have run: ∀{el E},P.underlying t=some (.slice el)→c.ti el=some E→E.cO=[]→ ∀ad len cap l h',a.eval x= .slice ad len cap→(∀w:World,(Instr.sliceBounds true len cap (lo.map a.eval) (hi.map a.eval) none).run P w= .ok (l,h',cap) w)→
  ∀w:World,(execOp a.eval o).run P w= .ok (.value (.slice (if cap=l then ad else ad.map (·.add (l *E.size))) (h'-l) (cap-l))) w:=by
  intro el E hu hE n9 ad len cap l h' hv hb w
  obtain ⟨iE,hiE,hsE,_⟩:=(hT _ E hE).info n9
  simp [execOp,ho,Instr.sliceAt,Instr.slice,run_underlying hu,hv,hb,Go.sizeOf,typeInfo,hiE,hsE]
 generalize hs:aT c st x=s at hx hK oO
 unfold NB at hK
 split at hK
 ·rename_i bs
  cases hS:I.Xc with
  |false=>simp [hS] at hK
  |true=>
   simp only [hS,cond_true] at hK
   have hu:=TI.JP hr hS
   obtain ⟨b,hb,rfl⟩:=Er hx
   have q9:b.data.toList.length=b.size:=by rw [Array.length_toList];rfl
   rw [q9] at hK
   obtain ⟨l,h',h1,h2,_,h3,hK⟩:=ve (P:=P) (b:=false) (cap:=b.size) h (Nat.le_refl _) hK
   refine iO (s:= .sc (.p (.s ((b.data.toList.take h').drop l)))) (v:= .string (b.extract l h')) h ?_ ?_ trivial hK
   ·simp [execOp,ho,Instr.sliceAt,Instr.slice,run_underlying hu,hb,h3]
   ·have:=XC (e:=e) (b.extract l h')
    have h5:(b.extract l h').data.toList=(b.data.toList.take h').drop l:=by
     rw [ByteArray.data_extract,Array.toList_extract,List.extract_eq_take_drop,List.drop_take]
    rwa [h5] at this
 ·rename_i xs
  cases hS:I.zp with
  |false=>simp [hS] at hK
  |true=>
   simp only [hS,cond_true] at hK
   obtain ⟨hu,_⟩:=TI.mK hr hS
   cases hE:c.tv I.elem with
   |none=>simp [hE] at hK
   |some E=>
    simp only [hE] at hK
    obtain ⟨nk,n9⟩:=bO hE
    have wL:(lo≠none→tk E.size xs=true)∧sliceB (lj c st lo) (lj c st hi) xs.length (fun l h'=>bw c st o.dst (.sc (.p (.list ((xs.take h').drop l)))) K)=some r:=by
     cases lo with
     |none=>exact ⟨by simp,hK⟩
     |some y=>simp only [lj] at hK⊢;obtain ⟨h1,h2⟩:=eC hK;exact ⟨fun _=>h1,h2⟩
    obtain ⟨hw,hK⟩:=wL
    obtain ⟨ad,cap,hv,B1⟩:=Lq hx
    obtain ⟨l,h',h1,h2,h0,h3,hK⟩:=ve (P:=P) (b:=true) (cap:=cap) h B1 hK
    simp only [ab,aY] at hx
    rw [hv] at hx
    obtain ⟨_,_,eW⟩:=lm.sub (size:=E.size) hx.2 h1 h2 (fun hl=>AG (hw (fun hn=>hl (h0 hn))))
    refine iO (s:= .sc (.p (.list ((xs.take h').drop l)))) h (run hu nk n9 ad _ cap l h' hv h3) ?_ trivial hK
    simp only [ab,aY]
    exact ⟨rfl,eW⟩
 ·rename_i f
  cases hf:aO st.aV f with
  |none=>simp [hf] at hK
  |some fo=>
   simp only [hf] at hK
   cases hS:I.zp&&Nat.beq fo.ty I.elem with
   |false=>simp [hS] at hK
   |true=>
    simp only [hS,cond_true] at hK
    simp only [Bool.and_eq_true] at hS
    obtain ⟨hu,E,nk,n9,_⟩:=TI.mK hr hS.1
    have jr:=Nat.eq_of_beq_eq_true hS.2
    obtain ⟨hvE,ad,cap,hv,B1⟩:=sE h hx hf
    simp only [ab] at hx
    obtain ⟨J,cells,hJ,_,_,iP,_⟩:=(h.iT f fo hf).row
    rw [jr,nk] at hJ
    cases hJ
    have hwx:=iP.tk
    obtain ⟨e',bZ,m,yi,XM,BZ,eW,hK,_,hm⟩:=sD h hx hK
    obtain ⟨o2,cE,rfl⟩:=hm.1 f rfl
    rw [hf] at cE
    cases cE
    obtain ⟨l,h',h1,h2,h0,h3,hK⟩:=ve (P:=P) (b:=true) (cap:=cap) h B1 hK
    rw [hv] at eW
    obtain ⟨_,_,eW⟩:=lm.sub (size:=E.size) eW h1 h2 (fun _=>hwx)
    refine NP (s:= .sc (.p (.list ((fo.xs.take h').drop l)))) (fun w _=>run hu nk n9 ad _ cap l h' hv h3 w) yi XM.tr (.of ?_ trivial) hK
    simp only [ab,aY]
    exact ⟨rfl,eW⟩
 ·cases hS:I.zp with
  |false=>simp [hS] at hK
  |true=>
   simp only [hS,cond_true] at hK
   obtain ⟨hu,E,nk,n9,_⟩:=TI.mK hr hS
   simp only [ab] at hx
   have hx:[a.eval x]=[Value.slice none 0 0]:=hx
   simp at hx
   obtain ⟨l,h',h1,h2,_,h3,hK⟩:=ve (P:=P) (b:=true) (cap:=0) h (Nat.le_refl _) hK
   have h4:h'=0:=by omega
   have h5:l=0:=by omega
   subst h4;subst h5
   refine iO (s:= .sc .nil) h (run hu nk n9 none 0 0 0 0 hx h3) ?_ trivial hK
   simp only [ab,if_true]
   rfl
 ·simp at hK
end
end Dn
/-
  Stores. Conditions: none.
-/
set_option linter.unusedSimpArgs false
set_option linter.unusedVariables false
namespace Dn
open Go
section
variable {P:Program} {c:Ctx} {Z:bL} {e e':Env} {st:St} {a:Act} {w w':World} {R:Type} {K:St→Option R} {r:R} {Q:Exit→Act→World→Prop} {o:Oper}
theorem Ey (x:kE) (i:Nat) (b:UInt8) (hi:i<32):bq (x.put i b)=(bq x).take i++[.int .u8 (b.toNat:Int)]++(bq x).drop (i+1):=by
 have:bq (x.put i b)=(bq x).set i (.int .u8 (b.toNat:Int)):=by simp [bq,kE.put,List.map_set]
 have hl:=cR x
 rw [this,List.set_eq_take_append_cons_drop,if_pos (by omega)]
 simp
structure TZ (e e':Env):Prop where
 key:e'.key=e.key
 φ:qp e.φ e'.φ
 iT: ∀f o',aO e'.m f=some o'→(∃o,aO e.m f=some o)∧e'.E f=e.E f
theorem aY.T0 (h:TZ e e') {vs:List Value} {l:aG} (hr:aY e vs l):aY e' vs l:=by
 cases l with
 |p m=>exact ⟨hr.1,by have:=hr.2.mono h.φ;rw [←h.key] at this;exact this⟩
 |own f=>
  obtain ⟨v,rfl,hv,hf⟩:=hr
  refine ⟨v,rfl,hv,fun o' zS=> ?_⟩
  obtain ⟨⟨o,ho⟩,hE⟩:=h.iT f o' zS
  rw [hE];exact hf o ho
 |_=>exact hr
theorem aw.T0 (h:TZ e e') {cs:List aG}: ∀{vs:List Value},aw e vs cs→aw e' vs cs:=by
 induction cs with
 |nil=>intro vs hr;exact hr
 |cons l r ih=>intro vs hr;obtain ⟨v,w,rfl,h1,h2⟩:=hr;exact ⟨v,w,rfl,h1.T0 h,ih h2⟩
def PP (f:Nat) (s:Slot):Slot:=match s with
 | .ep g i o b cs=>bif Nat.beq g f then .sc .un else .ep g i o b cs
 |s=>s
theorem tU (f:Nat) (r:Fr) (t:Nat):ao (xc f r) t=PP f (ao r t):=Em (PP f) rfl r t
theorem Q9 (f:Nat) (s:Slot):cP (PP f s)=cP s:=by
 cases s<;>simp only [PP]
 rename_i g _ _ _ _
 cases Nat.beq g f<;>rfl
theorem ab.T0 {f:Nat} {T:Nat→Prop} (h:TZ e e') (tp:kn (· ≠f) T e e') {v:Value} {s:Slot} (hT:fp (fun _=>True) T s) (hr:ab e v s):ab e' v (PP f s):=by
 cases s with
 |sc l=>
  simp only [PP]
  cases l with
  |un=>simp [ab]
  |hs x=>simpa [ab] using hr
  |p m=>simp only [ab] at hr⊢;exact hr.T0 h
  |nil=>simp only [ab] at hr⊢;exact hr.T0 h
  |mp s es=>simp only [ab] at hr⊢;exact hr
  |own f=>simp only [ab] at hr⊢;exact hr.T0 h
 |ag cs=>simp only [PP,ab] at hr⊢;obtain ⟨arr,h1,h2⟩:=hr;exact ⟨arr,h1,h2.T0 h⟩
 |ep g i o b cs=>
  simp only [PP]
  cases hb:Nat.beq g f
  ·simp only [cond_false]
   refine hr.on tp ?_
   simp only [fp];intro e;subst e;simp [fm] at hb
  ·simp [ab]
 |_=>exact hr.on tp hT
theorem jA.T0 (h:TZ e e') (hk:e'.key=e.key) (hp:qp e.φ e'.φ) {o:Obj} {cs:List aG} (hr:jA e o cs):jA e' o cs:=by
 cases o with
 |cells arr T z=>exact ⟨hr.1,hr.2.T0 h⟩
 |map es clock=>exact hr
 |stringIter x pos=>exact hr
 |_=>exact hr.elim
theorem a8.set {key:Nat→Nat} {φ:Ph} {size:Nat} {xs:List MV}: ∀{cs:List Value} {i:Nat} {x:MV} {v':List Value},a8 key φ size cs xs→i<xs.length→v'.length=size→lm key φ v' x→
 a8 key φ size (cs.take (i *size)++v'++cs.drop (i *size+size)) (xs.set i x):=by
 induction xs with
 |nil=>intro cs i x v' _ hi;simp at hi
 |cons y ys ih=>
  intro cs i x v' h hi hl hr
  obtain ⟨v,q,rfl,h1,h2,h3⟩:=h
  cases i with
  |zero=>simp only [Nat.zero_mul,List.take_zero,List.nil_append,Nat.zero_add,List.set_cons_zero];exact ⟨v',q,by rw [List.drop_left' h1],hl,hr,h3⟩
  |succ i=>
   have:=ih h3 (by simpa using hi) hl hr
   rw [List.set_cons_succ]
   refine ⟨v,_,?_,h1,h2,this⟩
   rw [Nat.succ_mul,List.take_append,List.drop_append,List.take_of_length_le (by omega),List.drop_of_length_le (by omega)]
   rw [show i *size+size-v.length=i *size by omega,show i *size+size+size-v.length=i *size+size by omega]
   simp
theorem bX.aby {f:Nat} {fo:nm} {I:TI} {g i:Nat} {cap:Nat} {dm:Array Value} {v' cells:List Value} {x:MV} (h:bX c Z e st a w) (hf:aO st.aV f=some fo) (hz:fo.eo=false)
 (hI:c.ti fo.ty=some I) (TT:I.cO=[]) (hE:e.E f= .slice (some ⟨g,0,none⟩) fo.xs.length cap) (dQ:w.ownsRow 0 fo.ty I.size (e.E f) fo.xs.length cells) (hg:w.heap[g]? =some (.cells dm fo.ty (0,0)))
 (iP:a8 e.key e.φ I.size cells fo.xs)
 (hi:i<fo.xs.length) (hl:v'.length=I.size) (hr:lm e.key e.φ v' x) (zW:f∉Z.cu):
 bX c Z {e with m:=bR e.m f ⟨fo.ty,false,fo.xs.set i x⟩} {st with fr:=xc f st.fr,aV:=bR st.aV f ⟨fo.ty,false,fo.xs.set i x⟩} a
  (w.setRow g (dm.toList.take (i *I.size)++v'++dm.toList.drop (i *I.size+I.size)).toArray)∧Z g:=by
 have hb:(e.E f).ownBlock=some g:=by rw [hE];rfl
 have hZ:Z g∧ ∀off,e.φ g off=none:=by
  obtain ⟨J,vc,_,_,_,_,h5⟩:=(h.iT f fo hf).row
  obtain ⟨h6,h7⟩:=h5 g hb
  refine ⟨Li h6 zW,fun off=> ?_⟩
  cases hp:e.φ g off with
  |none=>rfl
  |some u=>have:=(h7.1 off u hp).1;rw [hz] at this;cases this
 have q9:=setRow_size w g (dm.toList.take (i *I.size)++v'++dm.toList.drop (i *I.size+I.size)).toArray
 have hE1:TZ e {e with m:=bR e.m f ⟨fo.ty,false,fo.xs.set i x⟩}:=by
  refine ⟨rfl,.refl _,fun f2 o2 cE=>⟨?_,rfl⟩⟩
  have cE:aO (bR e.m f ⟨fo.ty,false,fo.xs.set i x⟩) f2=some o2:=cE
  rw [bh] at cE
  by_cases eO:f2=f
  ·exact ⟨fo,by rw [eO,h.m];exact hf⟩
  ·simp only [eO,if_false] at cE;exact ⟨o2,cE⟩
 have tp:kn (· ≠f) (fun _=>True) e {e with m:=bR e.m f ⟨fo.ty,false,fo.xs.set i x⟩}:=by
  refine ⟨rfl,.refl _,fun _ _=>rfl,fun f2 o2 cE db=> ?_⟩
  have cE:aO (bR e.m f ⟨fo.ty,false,fo.xs.set i x⟩) f2=some o2:=cE
  rw [bh] at cE
  simp only [db,if_false] at cE;exact ⟨o2,cE,rfl,rfl⟩
 have mf: ∀f2 o2,aO (bR st.aV f ⟨fo.ty,false,fo.xs.set i x⟩) f2=some o2→ ∃o3,aO st.aV f2=some o3:=by
  intro f2 o2 cE
  rw [bh] at cE
  by_cases eO:f2=f
  ·exact ⟨fo,by rw [eO];exact hf⟩
  ·simp only [eO,if_false] at cE;exact ⟨o2,cE⟩
 refine ⟨⟨h.defers,h.size,by show bR e.m f _=bR st.aV f _;rw [h.m],h.key,?_,?_,?_,?_,?_,?_,?_,?_,fun b hb=>h.cr b (by omega)⟩,hZ.1⟩
 ·show (aU (xc f st.fr)).Nodup
  have:aU (xc f st.fr)=aU st.fr:=by simp [aU,xc]
  rw [this];exact h.nodup
 ·intro t
  show bW Z _ _ t _ (ao (xc f st.fr) t)
  rw [tU]
  have hs:=h.slot t
  have XL:=h.bf t
  generalize ao st.fr t=s at hs XL
  by_cases B2: ∃cs,s= .box cs
  ·obtain ⟨cs,rfl⟩:=B2
   simp only [bW,PP] at hs⊢
   refine ⟨hs.1,hs.2.cr,?_,hs.2.free⟩
   obtain ⟨o2,h1,h2⟩:=hs.2.obj
   refine ⟨o2,?_,h2.T0 hE1 rfl (.refl _)⟩
   rw [setRow_other _ _ _ _ (by intro eb;exact XL cs f fo rfl hf (by rw [hb,←eb]))];exact h1
  ·have yi:ab e (a.tmps.getD t undef) s:=by cases s<;>simp only [bW] at hs<;>first|exact hs|exact absurd ⟨_,rfl⟩ B2
   have h2:=yi.T0 (f:=f) hE1 tp (dH s)
   generalize Ra:PP f s=s2 at h2
   cases s2<;>first|exact h2|(exfalso;simp [ab] at h2)
 ·intro t
  show cv (xc f st.fr) (ao (xc f st.fr) t)
  rw [tU]
  have oO:=h.root t
  generalize ao st.fr t=s at oO
  have hk: ∀q,cP (ao (xc f st.fr) q)=cP (ao st.fr q):=fun q=>by rw [tU,Q9]
  cases s with
  |ptr q o=>show cP (ao (xc f st.fr) q)=true;rw [hk];exact oO
  |hp q o i=>show cP (ao (xc f st.fr) q)=true;rw [hk];exact oO
  |w8 q=>show cP (ao (xc f st.fr) q)=true;rw [hk];exact oO
  |ep g' _ _ _ _=>simp only [PP];cases Nat.beq g' f<;>trivial
  |_=>trivial
 ·intro f2 o2 cE
  have cE:aO (bR st.aV f ⟨fo.ty,false,fo.xs.set i x⟩) f2=some o2:=cE
  rw [bh] at cE
  by_cases eO:f2=f
  ·subst eO
   simp at cE
   subst cE
   obtain ⟨hlen,Lr⟩:=dQ
   refine ⟨I,cells.take (i *I.size)++v'++cells.drop (i *I.size+I.size),hI,TT,⟨?_,?_⟩,?_,?_⟩
   ·have hle:i *I.size+I.size≤fo.xs.length *I.size:=by rw [←Nat.succ_mul];exact Nat.mul_le_mul_right _ hi
    simp only [List.length_append,List.length_take,List.length_drop,List.length_set];omega
   ·have hle:i *I.size+I.size≤fo.xs.length *I.size:=by rw [←Nat.succ_mul];exact Nat.mul_le_mul_right _ hi
    rcases Lr with ⟨h1,_⟩|⟨g2,oa,tV,h1,_,h3,h4,h5,h6,h7⟩
    ·rw [hE] at h1;simp at h1
    ·rw [hE] at h1
     simp at h1
     obtain ⟨rfl,rfl⟩:=h1
     rw [hg] at h3
     simp at h3
     subst h3
     refine .inr ⟨g,cap,(dm.toList.take (i *I.size)++v'++dm.toList.drop (i *I.size+I.size)).toArray,by rw [hE];simp,by omega,setRow_heap _ _ _ _ _ _ hg,by simpa using h4,h5,?_,?_⟩
     ·have oc:dm.toList.length=dm.size:=by simp
      have hcz:fo.xs.length *I.size≤cap *I.size:=Nat.mul_le_mul_right _ h4
      simp only [List.size_toArray,List.length_append,List.length_take,List.length_drop,oc];omega
     ·have oc:dm.toList.length=dm.size:=by simp
      have hcz:fo.xs.length *I.size≤cap *I.size:=Nat.mul_le_mul_right _ h4
      simp only [List.length_set]
      rw [←h7]
      have e1:(dm.toList.take (fo.xs.length *I.size)).take (i *I.size)=dm.toList.take (i *I.size):=by rw [List.take_take,Nat.min_eq_left (by omega)]
      have e2:(dm.toList.take (fo.xs.length *I.size)).drop (i *I.size+I.size)=(dm.toList.drop (i *I.size+I.size)).take (fo.xs.length *I.size-(i *I.size+I.size)):=by rw [List.drop_take]
      rw [e1,e2]
      have e3:(dm.toList.take (i *I.size)++v').length=i *I.size+I.size:=by simp only [List.length_append,List.length_take,oc];omega
      show List.take _ (dm.toList.take (i *I.size)++v'++dm.toList.drop (i *I.size+I.size))=_
      rw [List.take_append,e3,List.take_of_length_le (by omega)]
   ·exact iP.set hi hl hr
   ·intro bc jB
    rw [hb] at jB
    cases jB
    exact ⟨.inr hZ.1,fun off u hu=>(by have hu:e.φ g off=some u:=hu;rw [hZ.2] at hu;cases hu),fun _ hf=>Bool.noConfusion hf⟩
  ·simp only [eO,if_false] at cE
   obtain ⟨I2,vc,h1,h2,h3,h4,h5⟩:=(h.iT f2 o2 cE).row
   exact ⟨I2,vc,h1,h2,NV (fun hk=>eO (h.ff f2 f o2 fo g cE hf hk hb)) h3,h4,h5⟩
 ·intro t t' c1 c2 h1 h2 db
  have h1:ao (xc f st.fr) t= .box c1:=h1
  have h2:ao (xc f st.fr) t'= .box c2:=h2
  rw [tU] at h1 h2
  have g1:ao st.fr t= .box c1:=by
   generalize ao st.fr t=s at h1
   cases s<;>simp only [PP] at h1<;>first|exact h1|(simp at h1;done)|(rename_i g' _ _ _ _;cases BL:Nat.beq g' f<;>simp [BL] at h1)
  have g2:ao st.fr t'= .box c2:=by
   generalize ao st.fr t'=s at h2
   cases s<;>simp only [PP] at h2<;>first|exact h2|(simp at h2;done)|(rename_i g' _ _ _ _;cases BL:Nat.beq g' f<;>simp [BL] at h2)
  exact h.bb t t' c1 c2 g1 g2 db
 ·intro t c1 f2 o2 h1 h2
  have h1:ao (xc f st.fr) t= .box c1:=h1
  rw [tU] at h1
  have g1:ao st.fr t= .box c1:=by
   generalize ao st.fr t=s at h1
   cases s<;>simp only [PP] at h1<;>first|exact h1|(simp at h1;done)|(rename_i g' _ _ _ _;cases BL:Nat.beq g' f<;>simp [BL] at h1)
  obtain ⟨o3,S4⟩:=mf f2 o2 h2
  exact h.bf t c1 f2 o3 g1 S4
 ·intro f1 f2 o1 o2 k h1 h2 h3 h4
  obtain ⟨q1,g1⟩:=mf f1 o1 h1
  obtain ⟨q2,g2⟩:=mf f2 o2 h2
  exact h.ff f1 f2 q1 q2 k g1 g2 h3 h4
 ·intro b off v hv
  have hv:e.φ b off=some v:=hv
  have db:b≠g:=by intro eb;subst eb;rw [hZ.2] at hv;cases hv
  rw [World.cell?_of_block (setRow_other _ _ _ _ db)];exact h.nT b off v hv
theorem aw.aib {cs:List aG}: ∀{vs:List Value} {ms:List MV},aw e vs cs→bH cs=some ms→gX e.key e.φ vs ms:=by
 induction cs with
 |nil=>intro vs ms h hm;cases h;simp [bH] at hm;subst hm;exact .nil
 |cons l r ih=>
  intro vs ms h hm
  obtain ⟨v,u,rfl,h1,h2⟩:=h
  cases hr:bH r with
  |none=>cases l<;>simp [bH,hr] at hm
  |some q=>
   cases l<;>simp [bH,hr] at hm
   ·subst hm;exact .cons v _ u q h1.2 (ih h2 hr)
   ·subst hm
    have h1:v=bq _:=h1
    subst h1
    exact .cons _ _ u q (.h _) (ih h2 hr)
theorem T2 {b:Bool} {ms:List MV} {x:MV} {vs:List Value} (h:gX e.key e.φ vs ms) (hx:tl b ms=some x):lm e.key e.φ vs x:=by
 cases b with
 |true=>cases ms<;>simp [tl] at hx<;>subst hx<;>exact .agg _ _ h
 |false=>
  cases ms with
  |nil=>simp [tl] at hx
  |cons m ms=>
   cases ms with
   |cons y ys=>simp [tl] at hx
   |nil=>
    simp [tl] at hx
    subst hx
    generalize yZ:vs=Np at h
    cases h with
    |cons v _ u _ h1 h2=>cases h2;simpa using h1
theorem T3 {t:TypeId} {x y:Operand} {I:TI} (ho:o.op= .store t x y) (hI:c.tv t=some I) (hT:kK P c.ti) (h:bX c Z e st a w)
 (hK:stK st I (aT c st x) (aT c st y) (fun st=>bw c st o.dst (.sc .un) K)=some r):o.wp P a w (Out c Z K r e.φ w) Q:=by
 obtain ⟨hx,oO⟩:=h.eval x
 obtain ⟨hy,_⟩:=h.eval y
 obtain ⟨r8,hc⟩:=bO hI
 have hr:=hT t I r8
 have go: ∀w' bZ,(Instr.storeAt t (a.eval x) (a.eval y)).run P w= .ok () w'→bX c Z e bZ a w'→Trans Z e.φ w e.φ w'→bw c bZ o.dst (.sc .un) K=some r→o.wp P a w (Out c Z K r e.φ w) Q:=by
  intro w' bZ h1 h2 h3 h4
  refine AD ?_ h2 h3 h4
  simp [execOp,ho,h1]
 generalize aT c st x=sx at hx hK oO
 generalize aT c st y=sy at hy hK
 unfold stK at hK
 cases hb:tR (aP sy)||!Nat.beq (w9 (aP sy)) I.size with
 |true=>simp [hb] at hK
 |false=>
  simp only [hb,cond_false] at hK
  simp only [Bool.or_eq_false_iff,Bool.not_eq_false'] at hb
  have Dw:=Nat.eq_of_beq_eq_true hb.2
  have eD:0<I.size:=by
   rcases hr.agg hc with ⟨d,hu,hd,hh⟩|⟨_,_,_,_,hh⟩
   ·obtain ⟨d',i',h1,h2,h3,h4⟩:=hr
    cases d'<;>simp only [q8] at h4<;>first|omega|exact h4.2.2.1|exact absurd hc h4.2.1
   ·omega
  have db:aP sy≠[]:=by intro e0;rw [e0] at Dw;simp [w9] at Dw;omega
  have hcv:=zu hy hb.1 db
  split at hK
  ·rename_i root off
   simp only [ab] at hx
   split at hK
   ·rename_i cs r9
    have we:eV cs=false:=by cases hq:eV cs<;>simp_all
    simp only [we,cond_false] at hK
    cases hp:putAt cs off (aP sy) with
    |none=>simp [hp] at hK
    |some fL=>
     simp only [hp] at hK
     obtain ⟨w',bZ,h1,h2,h3,h4⟩:=Q6 (P:=P) we hr hc h r9 hcv Dw hp hK
     exact go w' bZ (by rw [hx];exact h1) h2 h3 h4
   ·simp at hK
  ·rename_i root off i
   simp only [ab] at hx
   obtain ⟨hx,NS⟩:=hx
   split at hK
   ·rename_i cs n r9
    have we:eV cs=false:=by cases hq:eV cs<;>simp_all
    simp only [we,cond_false] at hK
    split at hK
    ·rename_i x ls abq
     unfold gI at hK
     split at hK
     ·rename_i k n
      by_cases hk:k= .u8
      ·subst hk
       simp only [decide_true,cond_true] at hK
       obtain ⟨AH,hK⟩:=eC hK
       unfold isByte at AH
       have AH:=of_decide_eq_true AH
       have hyv:=lI hy
       cases hp:putAt cs off [.hs (x.put i (UInt8.ofNat n.toNat))] with
       |none=>simp [hp] at hK
       |some fL=>
        simp only [hp] at hK
        have ma:=h.slot root
        rw [r9] at ma
        obtain ⟨arr,T,c8,qk⟩:=ma.2.cells we
        obtain ⟨p1,p2,p3,he,h1,h2,h3⟩:=u5 (ws:=bq (x.put i (UInt8.ofNat n.toNat))) hp qk ⟨_,[],by simp,rfl,rfl⟩
        obtain ⟨u1,u2,hu,h4,h5⟩:=xe abq qk
        obtain ⟨u3,u4,rfl,h6,_⟩:=h5
        have h6:u3=bq x:=h6
        subst h6
        have hlx:=cR x
        have hly:=cR (x.put i (UInt8.ofNat n.toNat))
        have hpu:p1=u1∧p2++p3=bq x++u4:=List.append_inj (by rw [←List.append_assoc,←he,hu]) (by omega)
        obtain ⟨rfl,hpu⟩:=hpu
        obtain ⟨rfl,rfl⟩:=List.append_inj hpu (by omega)
        have q9:arr.size=p1.length+32+p3.length:=by
         have:arr.toList.length=(p1++bq x++p3).length:=by rw [he]
         simp at this
         omega
        have JQ:(a.eval y).cells.toList=[.int .u8 n]:=by rw [hyv];simp [Value.cells]
        have Nn:I.size=1:=by rw [←Dw];rfl
        have bS:=mz (P:=P) (w:=w) (bc:=e.B root) (off:=off+i) (v:=a.eval y) hr hc (by rw [JQ,Nn];rfl) (by rw [JQ];simp [Value.oneCell']) c8 (by omega)
        have kG:arr.toList.take (off+i)++(a.eval y).cells.toList++arr.toList.drop (off+i+I.size)=p1++bq (x.put i (UInt8.ofNat n.toNat))++p3:=by
         rw [JQ,Nn,he,Ey x i _ NS,←AH,List.append_assoc p1,List.take_append,List.drop_append,List.take_append,List.drop_append]
         rw [List.take_of_length_le (by omega),List.drop_of_length_le (by omega)]
         rw [show off+i-p1.length=i by omega,show off+i+1-p1.length=i+1 by omega,show i-(bq x).length=0 by omega,show i+1-(bq x).length=0 by omega]
         simp
        rw [kG] at bS
        unfold wr at hK
        cases hn:bE st.ct root with
        |true=>simp [hn] at hK
        |false=>
         simp only [hn,cond_false,force_eq,ln] at hK
         exact go _ _ (by rw [hx];exact bS) (h.TS r9 c8 (by simpa using h3) (fun t=>by rw [bN]) (ee h.nodup)) (.setRow _ (Li ma.2.cr (by rw [←h.defers.2.1,←bF,hn];simp))) hK
      ·simp [hk] at hK
     ·simp at hK
    ·simp at hK
   ·simp at hK
  ·rename_i f i off b cs
   obtain ⟨e1,ec,ms,wX,Dx,B0,H2,hK,TV,AF⟩:=mc h hcv hK
   have hx:=hx.on Dx.on (dH _)
   cases hf:aO ec.aV f with
   |none=>simp [hf] at hK
   |some fo=>
    simp only [hf] at hK
    cases hz:fo.eo with
    |true=>simp [hz] at hK
    |false=>
     simp only [hz,cond_false] at hK
     cases Nl:pS (aP sy) ms with
     |none=>simp [Nl] at hK
     |some vs=>
      simp only [Nl] at hK
      obtain ⟨yZ,_⟩:=AF vs Nl
      cases hp:putAt cs off vs with
      |none=>simp [hp] at hK
      |some fL=>
       simp only [hp] at hK
       cases hm:bH fL with
       |none=>simp [hm] at hK
       |some ms'=>
        simp only [hm] at hK
        cases hre:tl b ms' with
        |none=>simp [hre] at hK
        |some x'=>
         simp only [hre] at hK
         cases hn:bE ec.cu f with
         |true=>simp [hn] at hK
         |false=>
          simp only [hn,cond_false,abi,np] at hK
          simp only [ab] at hx
          obtain ⟨bc,cap,hE,⟨x0,XR,Xd⟩,T4⟩:=hx fo (by rw [wX.m];exact hf)
          obtain ⟨J,cells,hJ,hJc,dQ,iP,_⟩:=(wX.iT f fo hf).row
          have hi:i<fo.xs.length:=(List.getElem?_eq_some_iff.1 XR).1
          obtain ⟨p1,v1,p2,hce,BM,uR,eW⟩:=iP.at XR
          have qk:=eW.Eu Xd
          have hw1:=qk.width
          obtain ⟨q1,q2,q3,Q3,hq1,hq2,kG⟩:=u5 hp qk yZ
          have aeb:(a.eval y).cells.toList.length=I.size:=by rw [hcv.width,Dw]
          have aec:=T2 (kG.aib hm) hre
          obtain ⟨hlen,Lr⟩:=dQ
          rcases Lr with ⟨g1,_⟩|⟨g2,oa,dm,g1,g0,g3,g4,g5,g6,g7⟩
          ·rw [hE] at g1;simp at g1
          ·have H6:w.ownsRow 0 fo.ty J.size (e1.E f) fo.xs.length cells:=⟨hlen,.inr ⟨g2,oa,dm,g1,g0,g3,g4,g5,g6,g7⟩⟩
           rw [hE] at g1
           simp at g1
           obtain ⟨rfl,rfl⟩:=g1
           have hvl:(q1++(a.eval y).cells.toList++q3).length=J.size:=by
            have:v1.length=(q1++q2++q3).length:=by rw [Q3]
            simp only [List.length_append] at this⊢;omega
           obtain ⟨pV,hZ⟩:=wX.aby hf hz hJ hJc hE H6 g3 iP hi hvl aec (by rw [←wX.defers.2.2.1,←bF,hn];simp)
           have T5:dm.toList=p1++q1++q2++(q3++p2++dm.toList.drop (fo.xs.length *J.size)):=by
            have:=List.take_append_drop (fo.xs.length *J.size) dm.toList
            rw [g7,hce,Q3] at this
            refine this.symm.trans ?_
            simp
           have amf:q2.length=I.size:=by rw [hq2,aeb]
           have Hb:(p1++q1).length=i *J.size+off:=by simp [BM,hq1]
           have amg:dm.size=(p1++q1).length+I.size+(q3++p2++dm.toList.drop (fo.xs.length *J.size)).length:=by
            have:dm.toList.length=(p1++q1++q2++(q3++p2++dm.toList.drop (fo.xs.length *J.size))).length:=by rw [←T5]
            rw [List.length_append,List.length_append] at this
            rw [Array.length_toList] at this
            omega
           have bS:=mz (P:=P) (w:=w) (bc:=bc) (off:=i *J.size+off) (v:=a.eval y) hr hc aeb hcv.cells g3 (by omega)
           have tW:dm.toList.take (i *J.size+off)++(a.eval y).cells.toList++dm.toList.drop (i *J.size+off+I.size)=
            dm.toList.take (i *J.size)++(q1++(a.eval y).cells.toList++q3)++dm.toList.drop (i *J.size+J.size):=by
            have t1:dm.toList.take (i *J.size+off)=p1++q1:=by
             conv=>lhs;rw [T5,List.append_assoc (p1++q1)]
             exact List.take_left' Hb
            have t2:dm.toList.drop (i *J.size+off+I.size)=q3++p2++dm.toList.drop (fo.xs.length *J.size):=by
             conv=>lhs;rw [T5]
             exact List.drop_left' (by rw [List.length_append];omega)
            have t3:dm.toList.take (i *J.size)=p1:=by
             conv=>lhs;rw [T5]
             simp only [List.append_assoc]
             exact List.take_left' BM
            have t4:dm.toList.drop (i *J.size+J.size)=p2++dm.toList.drop (fo.xs.length *J.size):=by
             have Lt:dm.toList=(p1++(q1++q2++q3))++(p2++dm.toList.drop (fo.xs.length *J.size)):=by
              conv=>lhs;rw [T5]
              simp
             conv=>lhs;rw [Lt]
             exact List.drop_left' (by rw [List.length_append,←Q3];omega)
            rw [t1,t2,t3,t4]
            simp
           rw [tW] at bS
           have aie:i *w9 cs+off=i *J.size+off:=by rw [←hw1,uR]
           refine AD (w':=w.setRow bc (dm.toList.take (i *J.size)++(q1++(a.eval y).cells.toList++q3)++dm.toList.drop (i *J.size+J.size)).toArray) ?_ pV ?_ hK
           ·rw [aie] at T4
            simp [execOp,ho,T4,bS]
           ·exact Dx.tr.trans (.setRow _ hZ)
  ·simp at hK
end
end Dn
/-
  Structs and sums that are put together. Conditions: none.
-/
set_option linter.unusedSimpArgs false
set_option linter.unusedVariables false
namespace Dn
open Go
section
variable {P:Program} {c:Ctx} {Z:bL} {e e':Env} {st:St} {a:Act} {w w':World} {R:Type} {K:St→Option R} {r:R} {Q:Exit→Act→World→Prop} {o:Oper}
theorem H7 {place:Nat→Option (Nat×Nat)} {cells:Array Value} {i off:Nat} {v:Value} {rest:List (Nat×Value)} (hp:place i=some (off,v.cells.size)) (hle:off+v.cells.size≤cells.size):
 Instr.fill place cells ((i,v)::rest)=Instr.fill place (cells.toList.take off++v.cells.toList++cells.toList.drop (off+v.cells.size)).toArray rest:=by
 conv=>lhs;unfold Instr.fill
 simp only [hp]
 rw [if_neg (by simp;omega)]
 congr 1
 rw [←Array.foldl_toList,Array.toList_zipIdx]
 obtain ⟨h1,h2⟩:=Go.Great.foldl_set off v.cells.toList 0 cells
 apply Array.ext_getElem?
 intro k
 have hl:(cells.toList.take off).length=off:=by simp;omega
 have e0:=h2 k
 simp only [Nat.add_zero,Array.length_toList] at e0
 refine Eq.trans e0 ?_
 have e1:(cells.toList.take off++v.cells.toList++cells.toList.drop (off+v.cells.size)).toArray[k]? =(cells.toList.take off++v.cells.toList++cells.toList.drop (off+v.cells.size))[k]? :=by simp
 rw [e1,List.append_assoc]
 have e2:cells[k]? =cells.toList[k]? :=by simp
 by_cases h3:k<off
 ·rw [if_neg (by omega),List.getElem?_append_left (by omega),List.getElem?_take,if_pos h3,e2]
 ·rw [List.getElem?_append_right (by omega),hl]
  by_cases h4:k<off+v.cells.size
  ·rw [if_pos ⟨by omega,h4,by omega⟩,List.getElem?_append_left (by simp;omega)]
  ·rw [if_neg (by omega),List.getElem?_append_right (by simp;omega),List.getElem?_drop,e2]
   congr 1
   simp;omega
theorem NZ {I:TI} {places:List (Nat×Nat)} (h:bX c Z e st a w) (Nl: ∀(i q y:Nat) (J:TI),I.yV[i]? =some q→I.QV[i]? =some y→c.tv y=some J→places[i]? =some (q,J.size)∧0<J.size) {parts:List (Nat×Operand)}:
 ∀{cs ds:List aG} {cells:Array Value},aw e cells.toList cs→zO c st I parts cs=some ds→
 ∃out,Instr.fill (places.toArray[·]?) cells (parts.map fun p=>(p.1,a.eval p.2))=some out∧aw e out.toList ds:=by
 induction parts with
 |nil=>intro cs ds cells hl hb;simp [zO] at hb;subst hb;exact ⟨cells,rfl,hl⟩
 |cons p ps ih=>
  intro cs ds cells hl hb
  obtain ⟨i,x⟩:=p
  simp only [zO] at hb
  split at hb
  ·rename_i q y hq hy
   cases hJ:c.tv y with
   |none=>simp [hJ] at hb
   |some J=>
    simp only [hJ] at hb
    obtain ⟨hpi,eD⟩:=Nl i q y J hq hy hJ
    cases hu:tR (aP (aT c st x))||!Nat.beq (w9 (aP (aT c st x))) J.size with
    |true=>simp [hu] at hb
    |false=>
     simp only [hu,cond_false] at hb
     simp only [Bool.or_eq_false_iff,Bool.not_eq_false'] at hu
     have Dw:=Nat.eq_of_beq_eq_true hu.2
     cases hp:putAt cs q (aP (aT c st x)) with
     |none=>simp [hp] at hb
     |some fL=>
      simp only [hp] at hb
      have db:aP (aT c st x)≠[]:=by intro e0;rw [e0] at Dw;simp [w9] at Dw;omega
      have hv:=zu (h.eval x).1 hu.1 db
      obtain ⟨p1,p2,p3,he,h1,h2,h3⟩:=u5 hp hl hv
      have hlen:(a.eval x).cells.size=J.size:=by rw [←Dw,←hv.width];simp
      have q9:cells.size=p1.length+p2.length+p3.length:=by
       have:cells.toList.length=(p1++p2++p3).length:=by rw [he]
       simp at this;omega
      have Lo:p2.length=(a.eval x).cells.size:=by rw [h2];simp
      have PQ:=H7 (place:=(places.toArray[·]?)) (cells:=cells) (i:=i) (off:=q) (v:=a.eval x) (rest:=ps.map fun p=>(p.1,a.eval p.2)) (by rw [hlen];simpa using hpi) (by omega)
      have ht:cells.toList.take q++(a.eval x).cells.toList++cells.toList.drop (q+(a.eval x).cells.size)=p1++(a.eval x).cells.toList++p3:=by
       rw [he]
       rw [List.append_assoc p1 p2 p3,List.take_left' h1,←List.append_assoc p1 p2 p3,List.drop_left' (by rw [List.length_append];omega)]
      rw [ht] at PQ
      obtain ⟨out,h4,h5⟩:=ih (cells:=(p1++(a.eval x).cells.toList++p3).toArray) (by simpa using h3) hb
      exact ⟨out,by rw [List.map_cons,PQ];exact h4,h5⟩
  ·simp at hb
theorem N0 {parts:List (Nat×Operand)} (h:bX c Z e st a w): ∀{x:kE} {K':kE→Option R},Ee c st parts x K'=some r→
 ∃y,Instr.fill (fun i=>some (i *1,1)) (bq x).toArray (parts.map fun p=>(p.1,a.eval p.2))=some (bq y).toArray∧K' y=some r:=by
 induction parts with
 |nil=>intro x K' hb;exact ⟨x,rfl,hb⟩
 |cons p ps ih=>
  intro x K' hb
  obtain ⟨i,y⟩:=p
  simp only [Ee] at hb
  split at hb
  ·rename_i m hm
   cases hi:Nat.ble 32 i with
   |true=>simp [hi] at hb
   |false=>
    simp only [hi,cond_false] at hb
    have NS:i<32:=by
     by_cases dn:i<32
     ·exact dn
     ·have:Nat.ble 32 i=true:=Nat.ble_eq_true_of_le (by omega)
      simp_all
    unfold gI at hb
    split at hb
    ·rename_i k n
     by_cases hk:k= .u8
     ·subst hk
      simp only [decide_true,cond_true] at hb
      obtain ⟨AH,hb⟩:=eC hb
      unfold isByte at AH
      have AH:=of_decide_eq_true AH
      obtain ⟨out,h1,h2⟩:=ih hb
      have hv:=lI (by have:=(h.eval y).1;rw [hm] at this;exact this)
      refine ⟨out,?_,h2⟩
      rw [←h1,List.map_cons]
      have Nq:(a.eval y).cells= #[.int .u8 n]:=by rw [hv];simp [Value.cells]
      have PQ:=H7 (place:=fun i=>some (i *1,1)) (cells:=(bq x).toArray) (i:=i) (off:=i *1) (v:=a.eval y) (rest:=ps.map fun p=>(p.1,a.eval p.2)) (by rw [Nq];rfl) (by rw [Nq];have:=cR x;simp;omega)
      rw [PQ,Ey x i _ NS,←AH,Nq]
      simp
     ·simp [hk] at hb
    ·simp at hb
  ·simp at hb
theorem Rb (P:Program) (l:List Field):(∀f∈l,∃i,P.info? f.type=some i)→
 ∃places,l.mapM (fun f=>(P.info? f.type).map fun i=>(f.offset,i.size))=some places∧ ∀(k:Nat) (f:Field),l[k]? =some f→ ∃i,P.info? f.type=some i∧places[k]? =some (f.offset,i.size):=by
 induction l with
 |nil=>intro _;exact ⟨[],by simp,by simp⟩
 |cons f fs ih=>
  intro h
  obtain ⟨i,hi⟩:=h f (by simp)
  obtain ⟨ps,h1,h2⟩:=ih (fun g hg=>h g (by simp [hg]))
  refine ⟨(f.offset,i.size)::ps,by simp [List.mapM_cons,hi,h1],?_⟩
  intro k g hg
  cases k with
  |zero=>simp at hg;subst hg;exact ⟨i,hi,rfl⟩
  |succ k=>simp at hg;simpa using h2 k g hg
theorem T6 {t:TypeId} {parts:Array (Nat×Operand)} {I:TI} (ho:o.op= .build t parts) (hI:c.tv t=some I) (hT:kK P c.ti) (h:bX c Z e st a w)
 (hK:(bif I.st then (match zO c st I parts.toList I.zero with|some cs=>bw c st o.dst (.ag cs) K|none=>none)
  else (match I.lay with|[.h]=>Ee c st parts.toList kE.zero fun x=>bw c st o.dst (.sc (.hs x)) K|_=>none))=some r):Rd P c Z K r e a w o (fun _=>True):=by
 obtain ⟨r8,hc⟩:=bO hI
 obtain ⟨d,i,h1,h2,h3,h4⟩:=hT t I r8
 have S8:(parts.map fun (i,x)=>(i,a.eval x)).toList=parts.toList.map fun p=>(p.1,a.eval p.2):=by simp
 have run: ∀out,P.built t (parts.toList.map fun p=>(p.1,a.eval p.2))=some out→ ∀w:World,(execOp a.eval o).run P w= .ok (.value (.agg out)) w:=by
  intro out hb w
  have:=run_build (P:=P) w t (parts.map fun (i,x)=>(i,a.eval x)) out (by rw [S8];exact hb)
  simp [execOp,ho] at this⊢
  simp [this]
 cases ez:I.st with
 |true=>
  simp only [ez,cond_true] at hK
  cases d<;>simp only [q8] at h4
  case struct fs=>
   obtain ⟨_,_,_,ho1,cE,S4,zc,hz,hzl,_⟩:=h4
   cases hb:zO c st I parts.toList I.zero with
   |none=>simp [hb] at hK
   |some cs=>
    simp only [hb] at hK
    have aif: ∃places,fs.toList.mapM (fun f=>(P.info? f.type).map fun i=>(f.offset,i.size))=some places∧
     (∀(i q y:Nat) (J:TI),I.yV[i]? =some q→I.QV[i]? =some y→c.tv y=some J→places[i]? =some (q,J.size)∧0<J.size):=by
     obtain ⟨places,TV,H3⟩:=Rb P fs.toList (by
      intro f hf
      obtain ⟨k,hk,rfl⟩:=List.mem_iff_getElem.1 hf
      obtain ⟨J,hJ,hJc,_⟩:=S4 k fs.toList[k] (by simp at hk⊢)
      obtain ⟨i,hi,_⟩:=(hT _ J hJ).info hJc
      exact ⟨i,hi⟩)
     refine ⟨places,TV,?_⟩
     intro i q y J hq hy hJ
     rw [←ho1,List.getElem?_map] at hq
     rw [←cE,List.getElem?_map] at hy
     cases hf:fs.toList[i]? with
     |none=>simp [hf] at hq
     |some f=>
      simp [hf] at hq hy
      subst hq;subst hy
      obtain ⟨J2,hJ2,aih,eD⟩:=S4 i f (by simpa using hf)
      obtain ⟨hJt,_⟩:=bO hJ
      rw [hJ2] at hJt
      cases hJt
      obtain ⟨i2,S9,aii⟩:=H3 i f hf
      obtain ⟨i3,hi3,hs3,_⟩:=(hT _ J hJ2).info aih
      rw [S9] at hi3
      cases hi3
      exact ⟨by rw [aii,hs3],eD⟩
    obtain ⟨places,Nl,N1⟩:=aif
    obtain ⟨out,h5,h6⟩:=NZ h N1 (cells:=zc) (kL hzl) hb
    refine iO (v:= .agg out) (s:= .ag cs) h (run out ?_) ?_ trivial hK
    ·unfold Program.built
     simp only [h2,h1,hz,Nl]
     exact h5
    ·simp only [ab];exact ⟨out,rfl,h6⟩
  all_goals (exfalso;simp_all)
 |false=>
  simp only [ez,cond_false] at hK
  split at hK
  ·rename_i hl
   cases d<;>simp only [q8,hl,ez] at h4<;>first|(exfalso;simp_all;done)|skip
   obtain ⟨_,_,_,rfl,rfl,⟨ie,hu,nU,wX⟩,_,_,hz⟩:=h4
   obtain ⟨y,h5,h6⟩:=N0 h hK
   refine iO (v:= .agg (bq y).toArray) (s:= .sc (.hs y)) h (run _ ?_) ?_ trivial h6
   ·unfold Program.built
    simp only [h2,h1,hz,nU,wX]
    exact h5
   ·simp only [ab]
  ·simp at hK
end
end Dn
/-
  A family comes to have other content. Conditions: none.
-/
set_option linter.unusedSimpArgs false
set_option linter.unusedVariables false
namespace Dn
open Go
section
variable {P:Program} {c:Ctx} {Z:bL} {e e':Env} {st:St} {a:Act} {w w':World} {R:Type} {K:St→Option R} {r:R} {Q:Exit→Act→World→Prop} {o:Oper}
def Env.zX (e:Env) (f:Nat) (v:Value) (fo:nm):Env:={e with E:=fun g=>if g=f then v else e.E g,m:=bR e.m f fo}
def St.zX (st:St) (f:Nat) (fo:nm):St:={st with fr:=kF f st.fr,aV:=bR st.aV f fo}
theorem B3 (f:Nat) (s:Slot):cP (zt f s)=cP s:=by
 cases s<;>simp only [zt,cP]
 rename_i g _ _ _ _
 cases Nat.beq g f<;>rfl
theorem sF {f:Nat} {s:Slot} {cs:List aG} (h:zt f s= .box cs): ∃Dy,s= .box Dy∧cs=Dy.map (K1 f):=by
 cases s<;>simp only [zt] at h<;>first|(simp at h;done)|(rename_i g _ _ _ _;cases hb:Nat.beq g f<;>simp [hb] at h;done)|skip
 rename_i Dy
 simp at h
 exact ⟨Dy,rfl,h.symm⟩
theorem bX.jy {f:Nat} {fo:nm} {v':Value} (h:bX c Z e st a w) (zW:f∉Z.cu) (fX:dg c Z.nc e w' v' fo) (akz:w.heap.size≤w'.heap.size)
 (c8: ∀b,b<w.heap.size→(∀o,aO st.aV f=some o→(e.E f).ownBlock≠some b)→w'.heap[b]? =w.heap[b]?)
 (jo: ∀b o v,e.φ b o=some v→w'.cell? ⟨b,o,none⟩=some v)
 (kG: ∀b,v'.ownBlock=some b→w.heap.size≤b∨ ∃o,aO st.aV f=some o∧(e.E f).ownBlock=some b):
 bX c Z (e.zX f v' fo) (st.zX f fo) a w':=by
 have tp:kn (· ≠f) (fun _=>True) e (e.zX f v' fo):=by
  refine ⟨rfl,.refl _,fun _ _=>rfl,fun f2 o2 cE db=> ?_⟩
  have cE:aO (bR e.m f fo) f2=some o2:=cE
  rw [bh] at cE
  simp only [db,if_false] at cE
  exact ⟨o2,cE,by simp [Env.zX,db],rfl⟩
 have T7: ∀t cs,ao st.fr t= .box cs→e.B t<w.heap.size:=by
  intro t cs ht
  have hs:=h.slot t
  rw [ht] at hs
  obtain ⟨o2,h1,_⟩:=hs.2.obj
  exact bB h1
 have tm: ∀t cs,ao st.fr t= .box cs→w'.heap[e.B t]? =w.heap[e.B t]? :=by
  intro t cs ht
  exact c8 _ (T7 t cs ht) (fun o ho=>h.bf t cs f o ht ho)
 refine ⟨h.defers,h.size,by show bR e.m f _=bR st.aV f _;rw [h.m],h.key,?_,?_,?_,?_,?_,?_,?_,jo,fun b hb=>h.cr b (by omega)⟩
 ·show (aU (kF f st.fr)).Nodup
  have:aU (kF f st.fr)=aU st.fr:=by simp [aU,kF]
  rw [this];exact h.nodup
 ·intro t
  show bW Z _ _ t _ (ao (kF f st.fr) t)
  rw [gq]
  have hs:=h.slot t
  have Dz:=tm t
  generalize ao st.fr t=s at hs Dz
  by_cases B2: ∃cs,s= .box cs
  ·obtain ⟨cs,rfl⟩:=B2
   simp only [bW,zt] at hs⊢
   refine ⟨hs.1.kH (NO f _),hs.2.cr,?_,hs.2.free⟩
   obtain ⟨o2,h1,h2⟩:=hs.2.obj
   refine ⟨o2,by show w'.heap[e.B t]? =_;rw [Dz cs rfl];exact h1,?_⟩
   refine (h2.map (fun _ _=>aY.kill f) (fun _ _=>rfl)).on tp ?_
   intro l hl
   obtain ⟨x,_,rfl⟩:=List.mem_map.1 hl
   exact Ep f x
  ·have yi:ab e (a.tmps.getD t undef) s:=by cases s<;>simp only [bW] at hs<;>first|exact hs|exact absurd ⟨_,rfl⟩ B2
   have h2:=(yi.kill f).on tp (TH f _ s (dH s))
   generalize Ra:zt f s=s2 at h2
   cases s2<;>first|exact h2|(exfalso;simp [ab] at h2)
 ·intro t
  show cv (kF f st.fr) (ao (kF f st.fr) t)
  rw [gq]
  have oO:=h.root t
  generalize ao st.fr t=s at oO
  have hk: ∀q,cP (ao (kF f st.fr) q)=cP (ao st.fr q):=fun q=>by rw [gq,B3]
  cases s with
  |ptr q o=>show cP (ao (kF f st.fr) q)=true;rw [hk];exact oO
  |hp q o i=>show cP (ao (kF f st.fr) q)=true;rw [hk];exact oO
  |w8 q=>show cP (ao (kF f st.fr) q)=true;rw [hk];exact oO
  |ep g' _ _ _ _=>simp only [zt];cases Nat.beq g' f<;>trivial
  |_=>trivial
 ·intro f2 o2 cE
  have cE:aO (bR st.aV f fo) f2=some o2:=cE
  rw [bh] at cE
  by_cases eO:f2=f
  ·subst eO
   simp at cE
   subst cE
   have:=(fX.to zW).env (e':=e.zX f2 v' fo) rfl rfl
   simpa [Env.zX] using this
  ·simp only [eO,if_false] at cE
   obtain ⟨I2,vc,h1,h2,h3,h4,h5⟩:=(h.iT f2 o2 cE).row
   refine ⟨I2,vc,h1,h2,?_,h4,?_⟩
   ·show w'.ownsRow 0 o2.ty I2.size (if f2=f then v' else e.E f2) o2.xs.length vc
    rw [if_neg eO]
    refine ⟨h3.1,?_⟩
    rcases h3.2 with h6|⟨g,cap,dm,g1,g2,g3,g4⟩
    ·exact .inl h6
    ·refine .inr ⟨g,cap,dm,g1,g2,?_,g4⟩
     rw [c8 g (bB g3) (fun o ho hk=>eO (h.ff f2 f o2 o g cE ho (by rw [g1];rfl) hk))];exact g3
   ·intro bc hb
    have hb:(if f2=f then v' else e.E f2).ownBlock=some bc:=hb
    rw [if_neg eO] at hb
    exact h5 bc hb
 ·intro t t' c1 c2 h1 h2 db
  have h1:ao (kF f st.fr) t= .box c1:=h1
  have h2:ao (kF f st.fr) t'= .box c2:=h2
  rw [gq] at h1 h2
  obtain ⟨d1,g1,_⟩:=sF h1
  obtain ⟨d2,g2,_⟩:=sF h2
  exact h.bb t t' d1 d2 g1 g2 db
 ·intro t c1 f2 o2 h1 h2
  have h1:ao (kF f st.fr) t= .box c1:=h1
  have h2:aO (bR st.aV f fo) f2=some o2:=h2
  rw [gq] at h1
  rw [bh] at h2
  obtain ⟨d1,g1,_⟩:=sF h1
  show (if f2=f then v' else e.E f2).ownBlock≠some (e.B t)
  by_cases eO:f2=f
  ·rw [if_pos eO]
   intro hb
   rcases kG _ hb with h3|⟨o,h3,h4⟩
   ·have:=T7 t d1 g1;omega
   ·exact h.bf t d1 f o g1 h3 h4
  ·rw [if_neg eO]
   simp only [eO,if_false] at h2
   exact h.bf t d1 f2 o2 g1 h2
 ·intro f1 f2 o1 o2 k h1 h2 h3 h4
  have h1:aO (bR st.aV f fo) f1=some o1:=h1
  have h2:aO (bR st.aV f fo) f2=some o2:=h2
  have h3:(if f1=f then v' else e.E f1).ownBlock=some k:=h3
  have h4:(if f2=f then v' else e.E f2).ownBlock=some k:=h4
  rw [bh] at h1 h2
  have BK: ∀g og,aO st.aV g=some og→(e.E g).ownBlock=some k→k<w.heap.size:=by
   intro g og hg hk
   obtain ⟨I2,vc,_,_,g3,_⟩:=(h.iT g og hg).row
   rcases g3.2 with ⟨g5,_⟩|⟨b,cap,dm,g5,_,g6,_⟩
   ·rw [g5] at hk;simp [Value.ownBlock] at hk
   ·rw [g5] at hk;simp only [Value.ownBlock,Option.some.injEq] at hk;subst hk;exact bB g6
  by_cases JR:f1=f
  ·by_cases zw:f2=f
   ·rw [JR,zw]
   ·rw [if_pos JR] at h3
    rw [if_neg zw] at h4
    simp only [zw,if_false] at h2
    rcases kG k h3 with h5|⟨o,h5,h6⟩
    ·have:=BK f2 o2 h2 h4;omega
    ·exact JR.trans (h.ff f f2 o o2 k h5 h2 h6 h4)
  ·rw [if_neg JR] at h3
   simp only [JR,if_false] at h1
   by_cases zw:f2=f
   ·rw [if_pos zw] at h4
    rcases kG k h4 with h5|⟨o,h5,h6⟩
    ·have:=BK f1 o1 h1 h3;omega
    ·exact (h.ff f1 f o1 o k h1 h5 h3 h6).trans zw.symm
   ·rw [if_neg zw] at h4
    simp only [zw,if_false] at h2
    exact h.ff f1 f2 o1 o2 k h1 h2 h3 h4
theorem qL {f:Nat} {fo:nm} (hK:jy st f fo K=some r):K (st.zX f fo)=some r:=by
 unfold Dn.jy at hK
 cases hn:bE st.cu f with
 |true=>simp [hn] at hK
 |false=>simpa [hn,TE,np,St.zX] using hK
theorem bX.npf {f:Nat} {fo:nm} (h:bX c Z e st a w) (hK:Dn.jy st f fo K=some r):f∉Z.cu:=by
 intro hm
 rw [←h.defers.2.2.1,←bF] at hm
 simp [Dn.jy,hm] at hK
theorem xi {f:Nat} {fo:nm} {v:Value} (h1:v.oneCell'=true):ab (e.zX f v fo) v (.sc (.own f)):=by
 simp only [ab]
 exact ⟨v,rfl,h1,fun o ho=>by simp [Env.zX]⟩
end
end Dn
/-
  What is appended. Conditions: none.
-/
set_option linter.unusedSimpArgs false
set_option linter.unusedVariables false
namespace Dn
open Go
section
variable {P:Program} {c:Ctx} {Z:bL} {e e':Env} {st:St} {a:Act} {w w':World} {R:Type} {K:St→Option R} {r:R} {Q:Exit→Act→World→Prop} {o:Oper}
theorem od {t:TypeId} {I:TI} (hr:na c.ti P t I) (hc:I.cO=[]): ∃i z,P.info? t=some i∧i.size=I.size∧i.bytes=I.bytes∧i.zero=some z∧z.cells.size=I.size:=by
 obtain ⟨d,i,h1,h2,h3,h4⟩:=hr
 obtain ⟨h5,h6⟩:=h3 hc
 cases d<;>simp only [q8] at h4
 case struct fs=>obtain ⟨_,_,_,_,_,_,cs,hz,_,hs⟩:=h4;exact ⟨i,_,h2,h5,h6,hz,by simpa [Value.cells] using hs⟩
 case tuple ts=>exact absurd hc h4.2.1
 case slice el=>obtain ⟨_,_,hs,_,_,hz,_⟩:=h4;exact ⟨i,_,h2,h5,h6,hz,by rw [hs];rfl⟩
 case array n el=>obtain ⟨_,_,hs,_,_,_,_,_,hz⟩:=h4;exact ⟨i,_,h2,h5,h6,hz,by rw [hs];simp [Value.cells,cR]⟩
 case bool=>obtain ⟨_,_,hs,_,_,hz⟩:=h4;exact ⟨i,_,h2,h5,h6,hz,by rw [hs];rfl⟩
 case int k=>obtain ⟨_,_,hs,_,_,hz⟩:=h4;exact ⟨i,_,h2,h5,h6,hz,by rw [hs];rfl⟩
 case string=>obtain ⟨_,_,hs,_,_,b,hz,_⟩:=h4;exact ⟨i,_,h2,h5,h6,hz,by rw [hs];rfl⟩
 all_goals
  obtain ⟨_,_,hs,_,v,hz,hv,_⟩:=h4
  refine ⟨i,v,h2,h5,h6,hz,?_⟩
  rw [hs]
  cases v<;>simp_all [Value.cells,Value.oneCell']
structure Src (e:Env) (w:World) (size:Nat) (v:Value) (ys:List MV) (news:List Value):Prop where
 els:a8 e.key e.φ size news ys
 val: ∃ad cap,v= .slice ad ys.length cap∧(ad=none→ys=[])∧ ∀x,ad=some x→ ∀(j:Nat) (u:Value),news[j]? =some u→w.cell? (x.add j)=some u
theorem a8.xj {key:Nat→Nat} {φ:Ph} {size:Nat} {xs:List MV}: ∀{cs:List Value},a8 key φ size cs xs→ ∀u∈cs,u.oneCell'=true:=by
 induction xs with
 |nil=>intro cs h;cases h;simp
 |cons x xs ih=>
  intro cs h u hu
  obtain ⟨v,q,rfl,_,h2,h3⟩:=h
  rcases List.mem_append.1 hu with hu|hu
  ·exact h2.cells u hu
  ·exact ih h3 u hu
theorem a8.append {key:Nat→Nat} {φ:Ph} {size:Nat} {xs ys:List MV}: ∀{cs ds:List Value},a8 key φ size cs xs→a8 key φ size ds ys→a8 key φ size (cs++ds) (xs++ys):=by
 induction xs with
 |nil=>intro cs ds h h';cases h;simpa using h'
 |cons x xs ih=>intro cs ds h h';obtain ⟨v,q,rfl,h1,h2,h3⟩:=h;exact ⟨v,q++ds,by simp,h1,h2,ih h3 h'⟩
theorem Ez {key:Nat→Nat} {φ:Ph} {size:Nat} {xs:List MV}: ∀{f:Nat→List Value},(∀i,i<xs.length→(f i).length=size)→(∀(i:Nat) (h:i<xs.length),lm key φ (f i) xs[i])→
 ∃cs,a8 key φ size cs xs∧ ∀(i j:Nat),i<xs.length→j<size→cs[i *size+j]? =(f i)[j]? :=by
 induction xs with
 |nil=>intro f _ _;exact ⟨[],rfl,fun i j hi=>by simp at hi⟩
 |cons x xs ih=>
  intro f h1 h2
  obtain ⟨cs,h3,h4⟩:=ih (f:=fun i=>f (i+1)) (fun i hi=>h1 (i+1) (by simpa using hi)) (fun i hi=>h2 (i+1) (by simpa using hi))
  have hl:=h1 0 (by simp)
  refine ⟨f 0++cs,⟨f 0,cs,rfl,hl,h2 0 (by simp),h3⟩,?_⟩
  intro i j hi hj
  cases i with
  |zero=>rw [Nat.zero_mul,Nat.zero_add,List.getElem?_append_left (by omega)]
  |succ i=>
   rw [Nat.succ_mul,List.getElem?_append_right (by omega),show i *size+size+j-(f 0).length=i *size+j by omega]
   exact h4 i j (by simpa using hi) hj
theorem Lu {I E:TI} {x:Slot} {v:Value} {K':List MV→Option R} (h:bX c Z e st a w) (hE:c.ti I.elem=some E) (eD:0<E.size) (hx:ab e v x) (hK:JA I E st x K'=some r):
 ∃ys news,Src e w E.size v ys news∧K' ys=some r:=by
 unfold JA at hK
 split at hK
 ·rename_i xs
  obtain ⟨hw,hK⟩:=eC hK
  simp only [ab,aY] at hx
  obtain ⟨_,hx⟩:=hx
  generalize hv:[v]=vs at hx
  cases hx with
  |list ad cap _ bc off K0 f g1 g2 g3 g4 g5=>
  simp at hv
  have XQ: ∀i,i<xs.length→(f i).length=E.size:=by
   intro i hi
   rw [(g5 i hi).width]
   exact AG hw _ (List.getElem_mem hi)
  obtain ⟨cs,h1,h2⟩:=Ez XQ g5
  refine ⟨xs,cs,⟨h1,ad,cap,hv,?_,?_⟩,hK⟩
  ·intro hn
   cases xs with
   |nil=>rfl
   |cons y ys=>have:=g2 (by simp);rw [hn] at this;cases this
  ·intro x hx j u hj
   have GY:j<cs.length:=(List.getElem?_eq_some_iff.1 hj).1
   rw [h1.length] at GY
   have EA:0<xs.length:=by
    cases xs with
    |nil=>simp at GY
    |cons y ys=>simp
   have Lv:=g2 EA
   rw [hx] at Lv
   cases Lv
   have hq:j/E.size<xs.length:=(Nat.div_lt_iff_lt_mul eD).2 GY
   have hm:=Nat.mod_lt j eD
   have S3:j=j/E.size *E.size+j%E.size:=by rw [Nat.mul_comm];exact (Nat.div_add_mod j E.size).symm
   have e1:=h2 (j/E.size) (j%E.size) hq hm
   rw [←S3,hj] at e1
   have T8:K0=E.size:=by rw [←g3 0 EA,XQ 0 EA]
   have e2:=g4 (j/E.size) (j%E.size) hq (by rw [T8];exact hm)
   rw [←e1,T8,Nat.add_assoc,←S3] at e2
   have:=h.nT _ _ _ e2
   rw [Addr.add_mid];exact this
 ·simp only [ab] at hx
  have hx:[v]=[Value.slice none 0 0]:=hx
  simp at hx
  exact ⟨[],[],⟨rfl,none,0,hx,fun _=>rfl,by simp⟩,hK⟩
 ·rename_i f
  cases hf:aO st.aV f with
  |none=>simp [hf] at hK
  |some fo=>
   simp only [hf] at hK
   cases hb:Nat.beq fo.ty I.elem with
   |false=>simp [hb] at hK
   |true=>
    simp only [hb,cond_true] at hK
    have jr:=Nat.eq_of_beq_eq_true hb
    obtain ⟨hv,_⟩:=sE h hx hf
    obtain ⟨J,cells,hJ,_,dQ,iP,_⟩:=(h.iT f fo hf).row
    rw [jr,hE] at hJ
    cases hJ
    refine ⟨fo.xs,cells,⟨iP,?_⟩,hK⟩
    rcases dQ.2 with ⟨h1,h2⟩|⟨g,cap,dm,h1,_⟩
    ·exact ⟨none,0,by rw [hv,h1,h2],fun _=>List.eq_nil_of_length_eq_zero h2,by simp⟩
    ·refine ⟨some ⟨g,0,none⟩,cap,by rw [hv,h1],by simp,?_⟩
     intro x hx j u hj
     cases hx
     exact dQ.cells (g:=g) (by rw [h1];rfl) j u hj
 ·simp at hK
end
end Dn
/-
  Appends. Conditions: none.
-/
set_option linter.unusedSimpArgs false
set_option linter.unusedVariables false
namespace Dn
open Go
section
variable {P:Program} {c:Ctx} {Z:bL} {e e':Env} {st:St} {a:Act} {w w':World} {R:Type} {K:St→Option R} {r:R} {Q:Exit→Act→World→Prop} {o:Oper}
structure aee (w w':World) (el:TypeId) (size:Nat) (v v':Value) (n m:Nat) (cells news:List Value):Prop where
 own:w'.ownsRow 0 el size v' (n+m) (cells++news)
 size:w.heap.size≤w'.heap.size
 BK: ∀k,k<w.heap.size→some k≠v.ownBlock→w'.heap[k]? =w.heap[k]?
 cell: ∀(k off:Nat) (u:Value),v.ownBlock=some k→off<cells.length→w.cell? ⟨k,off,none⟩=some u→w'.cell? ⟨k,off,none⟩=some u
 place:v'.ownBlock=v.ownBlock∨v'.ownBlock=some w.heap.size
 rest:Rest w w'
theorem zY {t ty:TypeId} {I E:TI} {v x:Value} {n:Nat} {cells news:List Value} {ys:List MV} (hu:P.underlying t=some (.slice I.elem)) (hE:c.ti I.elem=some E) (n9:E.cO=[]) (eD:0<E.size)
 (hT:kK P c.ti) (vf:1≤E.bytes) (dQ:w.ownsRow 0 I.elem E.size v n cells) (tX:Src e w E.size x ys news) (nl:(n+ys.length) *E.bytes≤2^46):
 ∃v' w',(Builtin.append_ #[t,t] ty #[v,x]).run P w= .ok v' w'∧aee w w' I.elem E.size v v' n ys.length cells news:=by
 obtain ⟨i,z,hi,hs,Rc,hz,K4⟩:=od (hT _ E hE) n9
 obtain ⟨ad,cap,hx,H8,H9⟩:=tX.val
 have DY:=tX.els.length
 cases ad with
 |none=>
  have hys:=H8 rfl
  subst hys
  have CN:news=[]:=List.eq_nil_of_length_eq_zero (by simpa using DY)
  subst CN
  refine ⟨v,w,?_,⟨by simpa using dQ,Nat.le_refl _,fun _ _ _=>rfl,fun _ _ _ _ _ h=>h,.inl rfl,.refl _⟩⟩
  rw [hx]
  rcases dQ.2 with ⟨rfl,rfl⟩|⟨g,oa,dm,rfl,_,_,Ia,_⟩
  ·simp [Builtin.append_,run_underlying hu,Go.sizeOf,typeInfo,hi,Builtin.lenOf,Builtin.firstCells]
  ·simp [Builtin.append_,run_underlying hu,Go.sizeOf,typeInfo,hi,Builtin.lenOf,Builtin.firstCells,Ia,storeCells]
 |some ad=>
  have hle:n+ys.length≤2^46:=Nat.le_trans (Nat.le_mul_of_pos_right _ vf) nl
  obtain ⟨v',w',hr,h1,h2,h3,h4⟩:=run_append_own_at (P:=P) (w:=w) 0 t ty I.elem i z E.size E.bytes hu hi hz hs Rc K4 eD v n cells dQ ad ys.length cap news DY
   (fun j u hj=>H9 ad rfl j u hj) tX.els.xj (by unfold Go.maxLen;omega) (by omega) (Nat.zero_le _)
  rw [hx]
  refine ⟨v',w',hr,⟨h1,h2.size,fun k hk db=>h2.block k hk db,?_,h4,?_⟩⟩
  rotate_left
  ·refine ⟨h2.os,h2.tape,h2.output,fun p=> ?_⟩
   have aao: ∀(cs:Array Value) (p:Addr),(w.drew.alloc (.cells cs I.elem)).frozen? p=w.frozen? p:=fun cs p=>(Rest.alloc w.drew cs I.elem).2.2.2 p
   rcases dQ.2 with ⟨hv,XH⟩|⟨g,oa,dm,hv,_,hg,Ia,DW,r9,NX⟩
   ·subst hv;subst XH
    by_cases hm:ys.length=0
    ·have CN:news=[]:=List.eq_nil_of_length_eq_zero (by rw [DY,hm];simp)
     have hys:ys=[]:=List.eq_nil_of_length_eq_zero hm
     subst CN;subst hys
     have:(Builtin.append_ #[t,t] ty #[.slice none 0 0,.slice (some ad) 0 cap]).run P w= .ok (.slice none 0 0) w:=by
      simp [Builtin.append_,run_underlying hu,Go.sizeOf,typeInfo,hi,Builtin.lenOf,Builtin.firstCells,loadCells,loadCellsFrom]
     rw [show ([]:List MV).length=0 from rfl] at hr
     rw [hr] at this
     cases this
     rfl
    ·have:=run_append_nil (P:=P) w t ty I.elem i z hu hi hz ad ys.length cap news (by rw [hs];exact DY) (fun j u hj=>H9 ad rfl j u hj) (by omega) (by omega) (by rw [Rc];simp only [Nat.zero_add] at nl;omega)
     rw [hr] at this
     cases this
     exact aao _ p
   ·subst hv
    by_cases sG:n+ys.length≤oa
    ·have xh:n *i.size+news.length≤dm.size:=by rw [DY,hs,r9,←Nat.add_mul];exact Nat.mul_le_mul_right _ sG
     have:=run_append_room (P:=P) (w:=w) t ty I.elem i hu hi g n oa dm hg ad ys.length cap news (by rw [hs];exact DY) (fun j u hj=>H9 ad rfl j u hj) tX.els.xj sG xh
     rw [hr] at this
     cases this
     exact (Rest.setRow w g _).2.2.2 p
    ·have holds: ∀j u,cells[j]? =some u→w.cell? ((⟨g,0,none⟩:Addr).add j)=some u:=dQ.cells (g:=g) rfl
     have hlen:cells.length=n *i.size:=by rw [hs];exact dQ.1
     have wg:(n+ys.length) *i.bytes≤140737488355328:=by rw [Rc];omega
     have:=run_append_grow (P:=P) (w:=w) t ty I.elem i z hu hi hz ⟨g,0,none⟩ n oa cells hlen holds ad ys.length cap news (by rw [hs];exact DY) (fun j u hj=>H9 ad rfl j u hj) (by omega) (by omega) (growslice_fits (by omega) wg)
     rw [hr] at this
     cases this
     exact aao _ p
  intro k off u hk Hb hc
  rcases h4 with h4|h4
  ·have qj:=dQ.cells (g:=k) hk off
   have hj:cells[off]? =some cells[off]:=List.getElem?_eq_getElem Hb
   have e1:=qj _ hj
   rw [Addr.add_mid,Nat.zero_add] at e1
   rw [hc] at e1
   cases e1
   have e2:=h1.cells (g:=k) (by rw [h4,hk]) off cells[off] (by rw [List.getElem?_append_left Hb];exact hj)
   rw [Addr.add_mid,Nat.zero_add] at e2
   exact e2
  ·rcases dQ.2 with ⟨hv,_⟩|⟨g,oa,dm,hv,_,hg,Ia,DW,r9,NX⟩
   ·rw [hv] at hk;simp [Value.ownBlock] at hk
   ·have hkg:k=g:=by rw [hv] at hk;simp [Value.ownBlock] at hk;exact hk.symm
    subst hkg
    have dn:=bB hg
    subst hv
    by_cases sG:n+ys.length≤oa
    ·exfalso
     have xh:n *i.size+news.length≤dm.size:=by rw [DY,hs,r9,←Nat.add_mul];exact Nat.mul_le_mul_right _ sG
     have:=run_append_room (P:=P) (w:=w) t ty I.elem i hu hi k n oa dm hg ad ys.length cap news (by rw [hs];exact DY) (fun j u hj=>H9 ad rfl j u hj) tX.els.xj sG xh
     rw [hr] at this
     cases this
     simp [Value.ownBlock] at h4
     omega
    ·have holds: ∀j u,cells[j]? =some u→w.cell? ((⟨k,0,none⟩:Addr).add j)=some u:=dQ.cells (g:=k) rfl
     have hlen:cells.length=n *i.size:=by rw [hs];exact dQ.1
     have wg:(n+ys.length) *i.bytes≤140737488355328:=by rw [Rc];omega
     have:=run_append_grow (P:=P) (w:=w) t ty I.elem i z hu hi hz ⟨k,0,none⟩ n oa cells hlen holds ad ys.length cap news (by rw [hs];exact DY) (fun j u hj=>H9 ad rfl j u hj) (by omega) (by omega) (growslice_fits (by omega) wg)
     rw [hr] at this
     cases this
     rw [World.cell?_of_block (Az w.drew _ k dn)]
     exact hc
end
end Dn
/-
  Appends, the operation. Conditions: none.
-/
set_option linter.unusedSimpArgs false
set_option linter.unusedVariables false
namespace Dn
open Go
section
variable {P:Program} {c:Ctx} {Z:bL} {e e':Env} {st:St} {a:Act} {w w':World} {R:Type} {K:St→Option R} {r:R} {Q:Exit→Act→World→Prop} {o:Oper}
theorem Lw {base:Nat} {t:TypeId} {size n:Nat} {v:Value} {xs:List Value} (h:w.ownsRow base t size v n xs):v.oneCell'=true:=by
 rcases h.2 with ⟨rfl,_⟩|⟨g,cap,dm,rfl,_⟩<;>rfl
theorem Re {cl:Call} {s x:Operand} {t:TypeId} {I E:TI} (ho:o.op= .call cl) (hb:cl.callee= .builtin .append) (ha:cl.args.toList=[s,x]) (Ex:cl.argTypes.toList=[t,t])
 (hI:c.tv t=some I) (hL:I.zp=true) (hE:c.tv I.elem=some E) (hT:kK P c.ti) (h:bX c Z e st a w)
 (hK:JA I E st (aT c st x) (fun ys=>abg (o.dst.getD 0) st I E (aT c st s) ys (fun sl st=>bw c st o.dst sl K))=some r):o.wp P a w (Out c Z K r e.φ w) Q:=by
 obtain ⟨r8,hc⟩:=bO hI
 obtain ⟨nk,n9⟩:=bO hE
 obtain ⟨hu,E2,wY,_,eD⟩:=TI.mK (hT t I r8) hL
 rw [nk] at wY
 cases wY
 have ha':cl.args= #[s,x]:=by rw [←Array.toList_inj,ha]
 have aij:cl.argTypes= #[t,t]:=by rw [←Array.toList_inj,Ex]
 obtain ⟨hs,_⟩:=h.eval s
 obtain ⟨hx,_⟩:=h.eval x
 obtain ⟨ys,news,tX,hK⟩:=Lu h nk eD hx hK
 have go: ∀(f:Nat) (eo:Bool) (xs:List MV) (cells:List Value),1≤E.bytes→(xs.length+ys.length) *E.bytes≤2^46→w.ownsRow 0 I.elem E.size (a.eval s) xs.length cells→a8 e.key e.φ E.size cells xs→
  (∀bc,(a.eval s).ownBlock=some bc→((f∈Z.cu∧Z.Pr bc)∨Z.In bc)∧(∃o,aO st.aV f=some o∧(e.E f).ownBlock=some bc)∧ ∀off u,e.φ bc off=some u→eo=true∧off<xs.length *E.size)→
  jy st f ⟨I.elem,eo,xs++ys⟩ (fun st=>bw c st o.dst (.sc (.own f)) K)=some r→o.wp P a w (Out c Z K r e.φ w) Q:=by
  intro f eo xs cells vf nl dQ iP BX hK
  obtain ⟨v',w',bS,tY⟩:=zY (P:=P) (ty:=o.type) hu nk n9 eD hT vf dQ tX nl
  have hlen:cells.length=xs.length *E.size:=iP.length
  have zW:=h.npf hK
  have hK:=qL hK
  have fX:dg c Z.nc e w' v' ⟨I.elem,eo,xs++ys⟩:=by
   refine ⟨E,cells++news,nk,n9,by simpa using tY.own,iP.append tX.els,?_⟩
   intro bc jB
   rcases tY.place with h1|h1
   ·rw [h1] at jB
    obtain ⟨h2,_,h3⟩:=BX bc jB
    refine ⟨Li h2 zW,fun off u hu=> ?_,fun hc=>False.elim hc⟩
    obtain ⟨h4,h5⟩:=h3 off u hu
    refine ⟨h4,Nat.lt_of_lt_of_le h5 ?_⟩
    simp only [List.length_append]
    exact Nat.mul_le_mul_right _ (Nat.le_add_right _ _)
   ·rw [h1] at jB
    cases jB
    refine ⟨h.cr _ (Nat.le_refl _),fun off u hu=> ?_,fun hc=>False.elim hc⟩
    have:=World.block_lt_of_cell? w _ (h.nT _ _ _ hu)
    simp at this
  have pV:=h.jy (f:=f) zW fX tY.size
   (fun b N2 db=>tY.BK b N2 (fun hk=>by obtain ⟨_,⟨o2,h1,h2⟩,_⟩:=BX b hk.symm;exact db o2 h1 h2))
   (fun b off u hu=>by
    have hc0:=h.nT b off u hu
    by_cases hk:(a.eval s).ownBlock=some b
    ·obtain ⟨_,_,h3⟩:=BX b hk
     exact tY.cell b off u hk (by rw [hlen];exact (h3 off u hu).2) hc0
    ·rw [World.cell?_of_block (tY.BK b (World.block_lt_of_cell? w _ hc0) (fun JS=>hk JS.symm))];exact hc0)
   (fun b jB=>by
    rcases tY.place with h1|h1
    ·rw [h1] at jB;exact .inr (BX b jB).2.1
    ·rw [h1] at jB;cases jB;exact .inl (Nat.le_refl _))
  refine fin (v:=v') (s:= .sc (.own f)) ?_ pV ?_ (.of (xi (Lw tY.own)) trivial) hK
  ·simp [execOp,ho,resolve,hb,invoke,builtin,ha',aij,bS]
  ·exact ⟨.refl _,fun b hz N2=>tY.BK b N2 (fun hk=>hz (Li (BX b hk.symm).1 zW)),fun _ _ _=>rfl,tY.size,tY.rest⟩
 generalize aT c st s=ss at hs hK
 unfold abg at hK
 cases vf:Nat.ble 1 E.bytes with
 |false=>simp [vf] at hK
 |true=>
  simp only [vf,cond_true] at hK
  have vf:=Nat.le_of_ble_eq_true vf
  split at hK
  ·obtain ⟨nl,hK⟩:=eC hK
   have nl:=of_decide_eq_true nl
   simp only [ab] at hs
   have hs:[a.eval s]=[Value.slice none 0 0]:=hs
   simp at hs
   refine go (o.dst.getD 0) false [] [] vf (by simpa using nl) (by rw [hs];exact World.ownsRow_nil w 0 I.elem E.size) rfl ?_ (by simpa using hK)
   intro bc jB
   rw [hs] at jB
   simp [Value.ownBlock] at jB
  ·rename_i f
   cases hf:aO st.aV f with
   |none=>simp [hf] at hK
   |some fo=>
    simp only [hf] at hK
    obtain ⟨nl,hK⟩:=eC hK
    have nl:=of_decide_eq_true nl
    cases jr:Nat.beq fo.ty I.elem with
    |false=>simp [jr] at hK
    |true=>
     simp only [jr,cond_true] at hK
     have jr:=Nat.eq_of_beq_eq_true jr
     obtain ⟨hv,_⟩:=sE h hs hf
     obtain ⟨J,cells,hJ,_,dQ,iP,h5⟩:=(h.iT f fo hf).row
     rw [jr,nk] at hJ
     cases hJ
     refine go f fo.eo fo.xs cells vf nl (by rw [hv,←jr];exact dQ) iP ?_ (by rw [←jr];exact hK)
     intro bc jB
     rw [hv] at jB
     exact ⟨(h5 bc jB).1,⟨fo,hf,jB⟩,(h5 bc jB).2.1⟩
  ·simp at hK
end
end Dn
/-
  Slices that are written out. Conditions: none.
-/
set_option linter.unusedSimpArgs false
set_option linter.unusedVariables false
namespace Dn
open Go
section
variable {P:Program} {c:Ctx} {Z:bL} {e e':Env} {st:St} {a:Act} {w w':World} {R:Type} {K:St→Option R} {r:R} {Q:Exit→Act→World→Prop} {o:Oper}
theorem bX.aeh {φ':Ph} (h:bX c Z e st a w) (hle:qp e.φ φ') (jo: ∀b o v,φ' b o=some v→w.cell? ⟨b,o,none⟩=some v)
 (tm: ∀t cs,ao st.fr t= .box cs→ ∀off,φ' (e.B t) off=e.φ (e.B t) off) (fX: ∀f o b,aO st.aV f=some o→(e.E f).ownBlock=some b→ ∀off,φ' b off=e.φ b off):
 bX c Z {e with φ:=φ'} st a w:=by
 have tp:kn (fun _=>True) (fun _=>True) e {e with φ:=φ'}:=⟨rfl,hle,fun _ _=>rfl,fun f o ho _=>⟨o,ho,rfl,rfl⟩⟩
 refine ⟨h.defers,h.size,h.m,h.key,h.nodup,?_,h.root,?_,h.bb,h.bf,h.ff,jo,h.cr⟩
 ·intro t
  have hs:=h.slot t
  have hb:=tm t
  show bW Z _ w t _ (ao st.fr t)
  generalize ao st.fr t=s at hs hb
  cases s<;>simp only [bW] at hs⊢ <;>try exact hs.on tp (dH _)
  rename_i cs
  refine ⟨hs.1,hs.2.cr,?_,fun off=>by show φ' (e.B t) off=none;rw [hb cs rfl];exact hs.2.free off⟩
  obtain ⟨o2,h1,h2⟩:=hs.2.obj
  exact ⟨o2,h1,h2.on tp (fun l _ f _=>trivial)⟩
 ·intro f o ho
  obtain ⟨I,cells,h1,h2,h3,h4,h5⟩:=(h.iT f o ho).row
  refine ⟨I,cells,h1,h2,h3,h4.mono hle,fun bc hb=>⟨(h5 bc hb).1,fun off u hu=>(h5 bc hb).2.1 off u ?_,fun g1 g2 j hj=>hle.yf ((h5 bc hb).2.2 g1 g2 j hj) hj⟩⟩
  have hu:φ' bc off=some u:=hu
  rw [fX f o bc ho hb] at hu
  exact hu
theorem fj.cells {key:Nat→Nat} {φ:Ph} {v:Value} {m:MV} (h:fj key φ v m):lm key φ v.cells.toList m:=by
 have one:m.one=true→lm key φ [v] m→lm key φ v.cells.toList m:=by
  intro h1 h2
  have:=h2.cells v (by simp)
  have hv:v.cells.toList=[v]:=by cases v<;>simp_all [Value.cells,Value.oneCell']
  rw [hv];exact h2
 cases m<;>simp only [fj] at h<;>first|exact one h.1 h.2|skip
 ·rw [h];simpa [Value.cells] using lm.h _
 ·obtain ⟨arr,rfl,h⟩:=h;exact .agg _ _ (by simpa [Value.cells] using h)
theorem Rf {parts:List (Nat×Operand)}: ∀{e:Env} {st:St} {n:Nat} {K':List MV→St→Option R},bX c Z e st a w→Th c st parts n K'=some r→
 ∃e' bZ ms,bX c Z e' bZ a w∧Ext Z e e'∧cf e'.key e'.φ (parts.map fun p=>a.eval p.2) ms∧K' ms bZ=some r∧parts.map (fun p=>(p.1,a.eval p.2))=((parts.map fun p=>a.eval p.2).zipIdx n).map (fun x=>(x.2,x.1)):=by
 induction parts with
 |nil=>intro e st n K' h hK;exact ⟨e,st,[],h,.refl _ _,rfl,hK,rfl⟩
 |cons p ps ih=>
  intro e st n K' h hK
  obtain ⟨i,x⟩:=p
  simp only [Th] at hK
  cases hi:Nat.beq i n with
  |false=>simp [hi] at hK
  |true=>
   simp only [hi,cond_true] at hK
   have sa:=Nat.eq_of_beq_eq_true hi
   subst sa
   obtain ⟨e1,ec,m,q1,q2,q3,q4,q5⟩:=nb h (h.eval x).1 hK
   obtain ⟨e2,dO,ms,p1,p2,p4,p5,p6⟩:=ih q1 q5
   refine ⟨e2,dO,m::ms,p1,q2.trans p2,⟨_,_,rfl,?_,p4⟩,p5,?_⟩
   ·have:=q4.mono p2.on.φ
    rw [←p2.on.key] at this;exact this
   ·simp only [List.map_cons,List.zipIdx_cons,p6]
theorem Hc {key:Nat→Nat} {φ:Ph} {size:Nat} {ms:List MV}: ∀{vs:List Value},cf key φ vs ms→tk size ms=true→a8 key φ size (vs.flatMap fun v=>v.cells.toList) ms∧vs.length=ms.length∧ ∀v∈vs,v.cells.size=size:=by
 induction ms with
 |nil=>intro vs h _;cases h;exact ⟨rfl,rfl,by simp⟩
 |cons m ms ih=>
  intro vs h hw
  obtain ⟨v,u,rfl,h1,h2⟩:=h
  have hm:=AG hw m (by simp)
  have hw2:tk size ms=true:=by
   unfold tk at hw⊢
   simp only [List.all_cons,Bool.and_eq_true] at hw;exact hw.2
  obtain ⟨h3,h4,h5⟩:=ih h2 hw2
  have hl:v.cells.toList.length=size:=by rw [h1.cells.width,hm]
  refine ⟨⟨v.cells.toList,_,rfl,hl,h1.cells,h3⟩,by simp [h4],?_⟩
  intro x hx
  rcases List.mem_cons.1 hx with rfl|hx
  ·simpa using hl
  ·exact h5 x hx
end
end Dn
/-
  Slices that are written out, the operation. Conditions: none.
-/
set_option linter.unusedSimpArgs false
set_option linter.unusedVariables false
namespace Dn
open Go
section
variable {P:Program} {c:Ctx} {Z:bL} {e e':Env} {st:St} {a:Act} {w w':World} {R:Type} {K:St→Option R} {r:R} {Q:Exit→Act→World→Prop} {o:Oper}
theorem PR {t:TypeId} {I E:TI} {vs:List Value} {parts:Array (Nat×Value)} (hu:P.underlying t=some (.slice I.elem)) (hE:c.ti I.elem=some E) (n9:E.cO=[]) (eD:0<E.size) (hT:kK P c.ti)
 (nl:vs.length *E.size≤16777216) (hv: ∀v∈vs,v.cells.size=E.size) (hp:parts.toList=(vs.zipIdx 0).map fun x=>(x.2,x.1)):
 (Instr.buildSlice t vs.length parts).run P w= .ok (.slice (some ⟨w.heap.size,0,none⟩) vs.length vs.length) (w.alloc (.cells (vs.flatMap fun v=>v.cells.toList).toArray I.elem)):=by
 obtain ⟨i,z,hi,hs,Rc,hz,K4⟩:=od (hT _ E hE) n9
 by_cases h0:vs.length=0
 ·have yZ:=List.eq_nil_of_length_eq_zero h0
  subst yZ
  have JO:parts= #[]:=by rw [←Array.toList_inj,hp];rfl
  simp [Instr.buildSlice,run_underlying hu,Go.sizeOf,typeInfo,hi,JO,Instr.fill,newRow,Sem.run]
  congr 2
  apply Array.ext_getElem?
  intro k
  simp
 ·have db: ¬vs.length *i.size=0:=by rw [hs];exact Nat.mul_ne_zero h0 (by omega)
  refine run_buildSlice w t I.elem vs.length parts _ i z hu hi hz (by rw [hs];omega) db ?_
  rw [hp,hs]
  exact Go.Great.fill_whole eD vs _ hv (by simp)
theorem XS {key:Nat→Nat} {φ:Ph} {size cap bc:Nat} {xs:List MV} {cells:List Value} (h:a8 key φ size cells xs) (B1:xs.length≤cap) (hp: ∀off,off<cells.length→φ bc off=cells[off]?):
 lm key φ [.slice (some ⟨bc,0,none⟩) xs.length cap] (.list xs):=by
 have hlen:=h.length
 have JN: ∀i (hi:i<xs.length),∃v1,v1.length=size∧lm key φ v1 xs[i]∧(cells.drop (i *size)).take size=v1:=by
  intro i hi
  obtain ⟨p1,v1,p2,he,BM,uR,eW⟩:=h.at (List.getElem?_eq_getElem hi)
  refine ⟨v1,uR,eW,?_⟩
  rw [he,List.append_assoc,←BM,List.drop_left,←uR,List.take_left]
 refine .list (some ⟨bc,0,none⟩) cap xs bc 0 size (fun i=>(cells.drop (i *size)).take size) B1 (fun _=>rfl) ?_ ?_ ?_
 ·intro i hi
  obtain ⟨v1,h1,_,h3⟩:=JN i hi
  rw [h3,h1]
 ·intro i j hi hj
  have Hb:i *size+j<cells.length:=by
   rw [hlen]
   calc i *size+j<i *size+size:=by omega
    _=(i+1) *size:=by rw [Nat.succ_mul]
    _≤xs.length *size:=Nat.mul_le_mul_right _ hi
  rw [Nat.zero_add,hp _ Hb,List.getElem?_take]
  simp only [hj,if_true,List.getElem?_drop]
 ·intro i hi
  obtain ⟨v1,_,h2,h3⟩:=JN i hi
  rw [h3];exact h2
theorem Hd {t:TypeId} {n:Nat} {parts:Array (Nat×Operand)} {I E:TI} (ho:o.op= .buildSlice t n parts) (hI:c.tv t=some I) (hL:I.zp=true) (hE:c.tv I.elem=some E) (hT:kK P c.ti) (h:bX c Z e st a w)
 (nl:Nat.ble (n *E.size) 16777216=true)
 (hK:Th c st parts.toList 0 (fun ms st=>bif Nat.beq ms.length n then cU (tk E.size ms)
  (bif bE c.bs (o.dst.getD 0) then bw c st o.dst (.sc (.p (.list ms))) K else jy st (o.dst.getD 0) ⟨I.elem,false,ms⟩ fun st=>bw c st o.dst (.sc (.own (o.dst.getD 0))) K) else none)=some r):
 o.wp P a w (fun a' w'=>dz w w'∧Out c Z K r e.φ w a' w') Q:=by
 obtain ⟨r8,hc⟩:=bO hI
 obtain ⟨nk,n9⟩:=bO hE
 obtain ⟨hu,E2,wY,_,eD⟩:=TI.mK (hT t I r8) hL
 rw [nk] at wY
 cases wY
 obtain ⟨e1,ec,ms,wX,Dx,fq,hK,T9⟩:=Rf h hK
 cases hn:Nat.beq ms.length n with
 |false=>simp [hn] at hK
 |true=>
  simp only [hn,cond_true] at hK
  have hn:=Nat.eq_of_beq_eq_true hn
  obtain ⟨hw,hK⟩:=eC hK
  obtain ⟨iP,hlen,r9⟩:=Hc fq hw
  generalize yZ:parts.toList.map (fun p=>a.eval p.2)=vs at fq T9 iP hlen r9
  have nl:=Nat.le_of_ble_eq_true nl
  have bS:=PR (P:=P) (c:=c) (w:=w) (t:=t) (I:=I) (vs:=vs) (parts:=parts.map fun (i,x)=>(i,a.eval x)) hu nk n9 eD hT (by rw [hlen,hn];exact nl) r9 (by rw [←T9];simp)
  have aap:(execOp a.eval o).run P w= .ok (.value (.slice (some ⟨w.heap.size,0,none⟩) vs.length vs.length)) (w.alloc (.cells (vs.flatMap fun v=>v.cells.toList).toArray I.elem)):=by
   rw [hlen,hn] at bS⊢
   simp [execOp,ho] at bS⊢
   simp [bS]
  have hg:dz w (w.alloc (.cells (vs.flatMap fun v=>v.cells.toList).toArray I.elem)):= .alloc w _ _
  have H8: ∀off,e1.φ w.heap.size off=none:=by
   intro off
   cases hp:e1.φ w.heap.size off with
   |none=>rfl
   |some u=>
    have:=World.block_lt_of_cell? w _ (wX.nT _ _ _ hp)
    simp at this
  have PS:(vs.flatMap fun v=>v.cells.toList).length=ms.length *E.size:=iP.length
  have B1:ms.length≤16777216:=Nat.le_trans (Nat.le_mul_of_pos_right _ eD) (by rw [hn];exact nl)
  cases hb:bE c.bs (o.dst.getD 0) with
  |false=>
   simp only [hb,cond_false] at hK
   have zW:=wX.npf hK
   have hK:=qL hK
   have fX:dg c Z.nc e1 (w.alloc (.cells (vs.flatMap fun v=>v.cells.toList).toArray I.elem)) (.slice (some ⟨w.heap.size,0,none⟩) vs.length vs.length) ⟨I.elem,false,ms⟩:=by
    refine ⟨E,_,nk,n9,⟨PS,.inr ⟨w.heap.size,vs.length,_,by rw [hlen],Nat.zero_le _,km w _,by rw [hlen];exact Nat.le_refl _,by rw [hlen];unfold Go.maxLen;omega,?_,?_⟩⟩,iP,?_⟩
    ·rw [List.size_toArray,PS,hlen]
    ·show List.take (ms.length *E.size) _=_
     rw [List.take_of_length_le (by simp only [List.toList_toArray];omega)]
    ·intro bc jB
     simp [Value.ownBlock] at jB
     subst jB
     refine ⟨wX.cr _ (Nat.le_refl _),fun off u hu=>(by rw [H8] at hu;cases hu),fun hc=>False.elim hc⟩
   have pV:=wX.jy (f:=o.dst.getD 0) zW fX hg.size (fun b N2 _=>hg.BK b N2) (fun b off u hu=>hg.cell (wX.nT b off u hu)) (fun b jB=>by simp [Value.ownBlock] at jB;exact .inl (by omega))
   exact Q1 (s:= .sc (.own (o.dst.getD 0))) hg aap pV (Dx.tr.trans (hg.trans wX.cr _)) (.of (xi rfl) trivial) hK
  |true=>
   simp only [hb,cond_true] at hK
   generalize hfl:(vs.flatMap fun v=>v.cells.toList)=flat at *
   have hle:qp e1.φ (fun b off=>if b=w.heap.size∧off<flat.length then flat[off]? else e1.φ b off):=by
    intro b off u hu
    by_cases hbs:b=w.heap.size
    ·subst hbs;rw [H8] at hu;cases hu
    ·simp only [hbs,false_and,if_false];exact hu
   have jo: ∀b off u,(fun b off=>if b=w.heap.size∧off<flat.length then flat[off]? else e1.φ b off) b off=some u→(w.alloc (.cells flat.toArray I.elem)).cell? ⟨b,off,none⟩=some u:=by
    intro b off u hu
    by_cases hbs:b=w.heap.size∧off<flat.length
    ·simp only [hbs,and_self,if_true] at hu
     obtain ⟨rfl,_⟩:=hbs
     rw [cell_of (km w _)];simpa using hu
    ·simp only [hbs,if_false] at hu
     exact hg.cell (wX.nT b off u hu)
   have pV:=(wX.grow hg).aeh hle jo
    (by
     intro t2 qK ht off
     have Lp:=wX.slot t2
     rw [ht] at Lp
     obtain ⟨o2,h1,_⟩:=Lp.2.obj
     have:=bB h1
     have db: ¬e1.B t2=w.heap.size:=by omega
     simp [db])
    (by
     intro f o2 b cE wg off
     obtain ⟨J,vc,_,_,h3,_⟩:=(wX.iT f o2 cE).row
     rcases h3.2 with ⟨h1,_⟩|⟨g,cap,dm,h1,_,h4,_⟩
     ·rw [h1] at wg;simp [Value.ownBlock] at wg
     ·rw [h1] at wg
      simp [Value.ownBlock] at wg
      subst wg
      have:=bB h4
      have db: ¬g=w.heap.size:=by omega
      simp [db])
   refine Q1 (s:= .sc (.p (.list ms))) hg aap pV ?_ (.of ?_ trivial) hK
   ·refine Dx.tr.trans ⟨hle,fun b hz N2=>hg.BK b N2,fun b off hz=> ?_,hg.size,hg.rest⟩
    have db: ¬b=w.heap.size:=by intro Rg;subst Rg;exact hz (wX.cr _ (Nat.le_refl _))
    simp [db]
   ·simp only [ab,aY]
    rw [hlen]
    exact ⟨rfl,XS (iP.mono hle) (Nat.le_refl _) (fun off Hb=>by simp [Hb])⟩
end
end Dn
