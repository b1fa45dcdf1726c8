import GoSem.Dispatch
import Derived.Orders
import Derived.Calls
import Derived.Laws.AppendOwn
import Derived.Laws.AppendOwnNone
import Derived.Deep.MidRow
import Derived.Laws.Strings
import Derived.Laws.Tables
import Derived.Great.FillDense
import Derived.Maps.AppendAt
/-
  An abstract run of Go functions over values that no one changes: definitions. Conditions: none.
-/
set_option linter.unusedVariables false
namespace Dn
open Go
structure fm where
 l:List UInt8
 h:l.length=32
theorem fm.ext' {a b:fm} (e:a.l=b.l):a=b:=by cases a;cases b;cases e;rfl
instance:DecidableEq fm:=fun a b=>if e:a.l=b.l then .isTrue (fm.ext' e) else .isFalse (fun h=>e (by rw [h]))
def fm.zero:fm:=⟨[0,0,0,0,0,0,0,0,0,0,0,0,0,0,0,0,0,0,0,0,0,0,0,0,0,0,0,0,0,0,0,0],rfl⟩
def fm.put (x:fm) (i:Nat) (b:UInt8):fm:=⟨x.l.set i b,by simp [x.h]⟩
inductive MV where
 |b (x:Bool)
 |i (k:IntKind) (n:Int)
 |s (l:List UInt8)
 |h (x:fm)
 |raw (v:Value)
 |list (xs:List MV)
 |agg (cs:List MV)
 |dy (vs:List MV)
 |func (f:Nat) (cap:List MV)
 |rp (cs:List MV)
 |fresh (xs:List MV)
 |cell (m:MV)
 |mh (r:MV) (outs:List MV)
 |clip (xs:List MV)
instance:Inhabited MV:=⟨.b false⟩
mutual
def MV.w:MV→Nat
 | .h _=>32
 | .agg cs=>MV.wl cs
 |_=>1
def MV.wl:List MV→Nat
 |[]=>0
 |m::r=>m.w+MV.wl r
end
def lc (n:Nat) (l:List MV):Bool:=l.all fun m=>Nat.beq m.w n
inductive Kd where
 |b|i (k:IntKind)|s|l|h|raw
structure MS where
 st:Bool
 lay:List Kd
 b:Bool
def MS.it:MS:=⟨true,[],true⟩
def uu (s:MS):Bool:=match s.lay with
 |[]=>s.st
 |_=>false
inductive av where
 |un
 |p (m:MV)
 |hs (x:fm)
 |nil
 |own (dS:Nat)
 |mp (s:MS) (es:List MV)
def av.w:av→Nat
 | .hs _=>32
 |_=>1
inductive Slot where
 |skip
 |sc (l:av)
 |ag (cs:List av)
 |dy (vs:List Slot)
 |box (cs:List av)
 |qK (cs:List av)
 |ptr (root off:Nat)
 |qB (root:Nat)
 |rp (cs:List av) (off:Nat)
 |hp (root off:Nat) (i:Nat)
 |ep (dS:Nat) (i:Nat) (off:Nat) (st:Bool) (cs:List av)
abbrev Fr:=List (Nat×Slot)
structure TI where
 st:Bool
 size:Nat
 bytes:Nat
 lay:List Kd
 zero:List av
 EW:List Nat
 Kf:List Nat
 elem:Nat
 bX:List Nat
section
variable {R:Type}
def gB (m:MV) (K:Bool→Option R):Option R:=match m with| .b x=>K x|_=>none
def gI (k:IntKind) (m:MV) (K:Int→Option R):Option R:=match m with| .i k' n=>bif decide (k'=k) then K n else none|_=>none
def gS (m:MV) (K:List UInt8→Option R):Option R:=match m with| .s l=>K l|_=>none
def gL (m:MV) (K:List MV→Option R):Option R:=match m with| .list l=>K l|_=>none
def gH (m:MV) (K:fm→Option R):Option R:=match m with| .h l=>K l|_=>none
def gA (m:MV) (K:List MV→Option R):Option R:=match m with| .agg l=>K l|_=>none
def gT (m:MV) (K:List MV→Option R):Option R:=match m with| .dy l=>K l|_=>none
def gF (m:MV) (K:List MV→Option R):Option R:=match m with| .fresh l=>K l|_=>none
def VU (m:MV) (K:List MV→Option R):Option R:=match m with| .clip l=>K l|_=>none
def R3 (m:MV) (K:Nat→List MV→Option R):Option R:=match m with| .func f c=>K f c|_=>none
def gW (m:MV) (K:MV→List MV→Option R):Option R:=match m with| .mh r outs=>K r outs|_=>none
def gP (m:MV) (K:List MV→Option R):Option R:=match m with| .rp c=>K c|_=>none
def P6 (m:MV) (K:Nat→Nat→Option R):Option R:=match m with| .raw (.complex .f64 a b)=>K a b|_=>none
def gR (m:MV) (K:MV→Option R):Option R:=match m with| .raw v=>K (.raw v)| .func f c=>K (.func f c)| .rp c=>K (.rp c)|_=>none
def gC (l:List MV) (K:MV→List MV→Option R):Option R:=match l with|m::r=>K m r|[]=>none
def gN (l:List MV) (K:Option R):Option R:=match l with|[]=>K|_=>none
def bd {α:Type} (x:Option α) (K:α→Option R):Option R:=match x with|some a=>K a|none=>none
def S4 (l:List MV) (i:Int):Option MV:=if 0≤i then l[i.toNat]? else none
def idx (l:List MV) (i:Int) (K:MV→Option R):Option R:=
 match S4 l i with|some x=>K x|none=>none
def cE (c:Bool) (K:Option R):Option R:=match c with|true=>K|false=>none
def aR (c:Bool) (x y:Option R):Option R:=match c with|true=>x|false=>y
def Kg:List Nat→Nat→(Nat→Option R)→Option R
 |[],_,_=>none
 |[p],e,K=>bif Nat.beq e p then K p else none
 |p::q::r,e,K=>bif Nat.beq e p then K p else Kg (q::r) e K
def fp (k:Kd) (m:MV) (K:av→Option R):Option R:=
 match k with
 | .b=>gB m fun x=>K (.p (.b x))
 | .i k=>gI k m fun x=>K (.p (.i k x))
 | .s=>gS m fun x=>K (.p (.s x))
 | .l=>gL m fun x=>K (.p (.list x))
 | .h=>gH m fun x=>K (.hs x)
 | .raw=>gR m fun m=>K (.p m)
def nh:List Kd→List MV→(List av→Option R)→Option R
 |[],l,K=>gN l (K [])
 |k::ks,l,K=>gC l fun m r=>fp k m fun x=>nh ks r fun xs=>K (x::xs)
end
def iter {σ R:Type} (body:σ→Option (Sum σ R)):Nat→σ→Option R
 |0,_=>none
 |n+1,s=>match body s with
  |some (.inl s')=>iter body n s'
  |some (.inr r)=>some r
  |none=>none
open Classical in
noncomputable def Loop {σ R:Type} (body:σ→Option (Sum σ R)) (s:σ):Option R:=
 if h: ∃r n,iter body n s=some r then some (Classical.choose h) else none
def ak:Fr→Nat→Slot
 |[],_=> .sc .un
 |(k,s)::r,t=>bif Nat.beq k t then s else ak r t
def Be {R:Type}:Fr→Nat→Slot→(Fr→Option R)→Option R
 |[],t,v,K=>K [(t,v)]
 |(k,s)::r,t,v,K=>bif Nat.beq k t then K ((k,v)::r) else Be r t v fun r=>K ((k,s)::r)
def force {R:Type} (s:Slot) (K:Slot→Option R):Option R:=match s with
 | .skip=>K .skip
 | .sc l=>K (.sc l)
 | .ag cs=>K (.ag cs)
 | .dy vs=>K (.dy vs)
 | .box cs=>K (.box cs)
 | .qK cs=>K (.qK cs)
 | .ptr r o=>K (.ptr r o)
 | .qB r=>K (.qB r)
 | .rp cs o=>K (.rp cs o)
 | .hp r o i=>K (.hp r o i)
 | .ep f i o b cs=>K (.ep f i o b cs)
def aV:List Nat→Nat→Bool
 |[],_=>false
 |k::r,t=>bif Nat.beq k t then true else aV r t
def qG (t:Nat):Bool:=Nat.ble 1000000 t
def posOf (t:Nat):Nat:=(t-1000000)%1000
def EX (t:Nat):Nat:=(t-1000000)/1000
def Z8:List (Nat×Nat)→Nat→Option Nat
 |[],_=>none
 |(k,x)::r,t=>bif Nat.beq k t then some x else Z8 r t
def cc:Slot→Bool
 | .ptr _ _| .hp _ _ _| .ep _ _ _ _ _| .rp _ _| .qB _=>true
 |_=>false
def ol {R:Type} (ds:List Nat):Fr→(Fr→Option R)→Option R
 |[],K=>K []
 |(k,s)::r,K=>bif cc s||aV ds k then ol ds r K else ol ds r fun r=>K ((k,s)::r)
def bR:Slot→Bool
 | .box _| .qK _=>true
 |_=>false
def pick {R:Type} (ks:List Nat):Fr→(Fr→Option R)→Option R
 |[],K=>K []
 |(k,s)::r,K=>bif aV ks k&&!cc s then pick ks r fun r=>K ((k,s)::r) else pick ks r K
structure jr where
 ty:Nat
 cK:Bool
 xs:List MV
structure St where
 bA:List Nat
 bL:List Nat
 fr:Fr
 aE:List (Nat×jr)
def ay:List (Nat×jr)→Nat→Option jr
 |[],_=>none
 |(k,s)::r,t=>bif Nat.beq k t then some s else ay r t
def G4 {R:Type}:List (Nat×jr)→Nat→jr→(List (Nat×jr)→Option R)→Option R
 |[],t,v,K=>K [(t,v)]
 |(k,s)::r,t,v,K=>bif Nat.beq k t then K ((k,v)::r) else G4 r t v fun r=>K ((k,s)::r)
def kB (a b:IntKind):Bool:=decide (a=b)
def R4:Kd→Kd→Bool
 | .b,.b=>true
 | .i k,.i k'=>kB k k'
 | .s,.s=>true
 | .l,.l=>true
 | .h,.h=>true
 | .raw,.raw=>true
 |_,_=>false
def uv:List Kd→List Kd→Bool
 |[],[]=>true
 |x::xs,y::ys=>R4 x y&&uv xs ys
 |_,_=>false
def R5 (s t:MS):Bool:=(s.st==t.st)&&(uv s.lay t.lay&&(s.b==t.b))
def pf {R:Type} (f:Nat):List av→(List av→Option R)→Option R
 |[],K=>K []
 |l::r,K=>(match l with
  | .own g=>bif Nat.beq g f then pf f r fun r=>K (.un::r) else pf f r fun r=>K (.own g::r)
  |l=>pf f r fun r=>K (l::r))
def B5 {R:Type} (f:Nat) (s:Slot) (K:Slot→Option R):Option R:=match s with
 | .sc (.own g)=>bif Nat.beq g f then K (.sc .un) else K (.sc (.own g))
 | .ag cs=>pf f cs fun cs=>K (.ag cs)
 | .box cs=>pf f cs fun cs=>K (.box cs)
 | .ep g i o b cs=>bif Nat.beq g f then K (.sc .un) else K (.ep g i o b cs)
 |s=>K s
def Ws {R:Type} (f:Nat):Fr→(Fr→Option R)→Option R
 |[],K=>K []
 |(k,s)::r,K=>B5 f s fun s=>Ws f r fun r=>K ((k,s)::r)
section
variable {R:Type}
def jY (st:St) (l:av) (K:MV→St→Option R):Option R:=
 match l with
 | .un=>none
 | .p m=>K m st
 | .hs x=>K (.h x) st
 | .nil=>K (.list []) st
 | .mp _ _=>none
 | .own f=>match ay st.aE f with
  |some o=>bif o.cK then K (.list o.xs) st else bif aV st.bL f then none else (match st with|⟨p,q,r,m⟩=>G4 m f ⟨o.ty,true,o.xs⟩ fun m=>K (.list o.xs) ⟨p,q,r,m⟩)
  |none=>none
def kL (st:St):List av→(List MV→St→Option R)→Option R
 |[],K=>K [] st
 |l::r,K=>jY st l fun m st=>kL st r fun ms st=>K (m::ms) st
def ig (st:St) (s:Slot) (K:MV→St→Option R):Option R:=
 match s with
 | .sc l=>jY st l K
 | .ag cs=>kL st cs fun ms st=>K (.agg ms) st
 | .rp cs off=>bif Nat.beq off 0 then kL st cs fun ms st=>K (.rp ms) st else none
 |_=>none
def pg (st:St):List Slot→(List MV→St→Option R)→Option R
 |[],K=>K [] st
 |l::r,K=>ig st l fun m st=>pg st r fun ms st=>K (m::ms) st
end
def qL:List av→Nat
 |[]=>0
 |k::r=>k.w+qL r
def cut:List av→Nat→Option (List av)
 |cs,0=>some cs
 |c::cs,n+1=>bif Nat.ble c.w (n+1) then cut cs (n+1-c.w) else none
 |_,_=>none
def EY:List av→Nat→Option (List av)
 |_,0=>some []
 |c::cs,n+1=>bif Nat.ble c.w (n+1) then (match EY cs (n+1-c.w) with|some b=>some (c::b)|none=>none) else none
 |_,_=>none
def part (cs:List av) (off n:Nat):Option (List av):=
 match cut cs off with
 |some a=>EY a n
 |none=>none
def over:List av→List av→Option (List av)
 |[],cs=>some cs
 |v::vs,c::cs=>bif Nat.beq v.w c.w then (match over vs cs with|some r=>some (v::r)|none=>none) else none
 |_,[]=>none
def putAt:List av→Nat→List av→Option (List av)
 |cs,0,vs=>over vs cs
 |c::cs,n+1,vs=>bif Nat.ble c.w (n+1) then (match putAt cs (n+1-c.w) vs with|some r=>some (c::r)|none=>none) else none
 |_,_,_=>none
def app {α:Type}:List α→List α→Option (List α)
 |[],l=>some l
 |x::r,l=>(match app r l with|some q=>some (x::q)|none=>none)
def EZ:av→Bool
 | .un=>true
 | .mp _ _=>true
 |_=>false
def cX:List av→Bool
 |[.mp _ _]=>true
 |_=>false
def vV:Slot→Bool
 | .box cs=>!cX cs
 |_=>false
def yx {R:Type} (ok:Nat→Bool) (r0:Fr):Fr→Fr→(Fr→Option R)→Option R
 |[],fr,K=>K fr
 |(t,s)::r,fr,K=>match s with
  | .ptr root off=>bif ok t&&(!qG root&&(vV (ak r0 root)&&(vV (ak fr root)&&!bR (ak fr t)))) then Be fr t (.ptr root off) fun fr=>yx ok r0 r fr K else yx ok r0 r fr K
  |_=>yx ok r0 r fr K
def fG:List av→Bool
 |[.mp s _]=>!uu s
 |_=>false
def om:List av→Bool
 |[]=>false
 |l::r=>bif EZ l then true else om r
def VV {R:Type} (f:Nat):Fr→(Fr→Option R)→Option R
 |[],K=>K []
 |(k,s)::r,K=>(match s with
  | .ep g i o b cs=>bif Nat.beq g f then VV f r fun r=>K ((k,.sc .un)::r) else VV f r fun r=>K ((k,.ep g i o b cs)::r)
  |s=>VV f r fun r=>K ((k,s)::r))
inductive LK where
 |k (x:Kd)
 |own (f:Nat) (ty:Nat) (cK:Bool)
inductive OK where
 |sc (l:LK)
 |ag (ls:List LK)
 |box (ls:List LK)
 |mp (s:MS)
 |pt (root off:Nat)
structure jZ where
 bA:List Nat
 bL:List Nat
 outs:List (Nat×OK)
 exo:List (Nat×List (Nat×OK))
 cK:List Nat
instance:Inhabited jZ:=⟨⟨[],[],[],[],[]⟩⟩
def Ml:List (Nat×List (Nat×OK))→Nat→List (Nat×OK)
 |[],_=>[]
 |(k,l)::r,e=>bif Nat.beq k e then l else Ml r e
def jZ.ex (h:jZ) (e:Nat):List (Nat×OK):=Ml h.exo e
def IZ:List (Nat×List (Nat×OK))→List (Nat×OK)
 |[]=>[]
 |(_,l)::r=>l++IZ r
def jZ.all (h:jZ):List (Nat×OK):=h.outs++IZ h.exo
structure Ctx where
 ti:Nat→Option TI
 key:Nat→Nat
 g:Nat→List MV→Option MV
 dn:Nat→Bool
 fresh:Nat→Bool
 ln:Nat→Nat
 sig:Nat→Option (Nat×List LK)
 par:List (Nat×Nat)
 n:Nat
 bs:List Nat
 fl:List Nat
 fz:Nat→List Nat
 fk:Nat→Option FloatKind
 mt:Nat→Option (Nat×Bool)
 ord:Nat→List Nat
 vW:Nat→jZ
 vR:Nat→jZ
 qH:Nat→jZ
 Dj:Nat→Bool
 dyn:List Nat
def Ctx.tv (c:Ctx) (t:Nat):Option TI:=match c.ti t with|some I=>(match I.bX with|[]=>some I|_=>none)|none=>none
def rM:Value→Slot
 | .bool b=> .sc (.p (.b b))
 | .int k n=> .sc (.p (.i k n))
 | .string s=> .sc (.p (.s s.data.toList))
 | .slice none 0 0=> .sc .nil
 | .float k b=> .sc (.p (.raw (.float k b)))
 | .complex k a b=> .sc (.p (.raw (.complex k a b)))
 | .pointer none=> .sc (.p (.raw (.pointer none)))
 | .nilFunc=> .sc (.p (.raw .nilFunc))
 | .nilIface=> .sc (.p (.raw .nilIface))
 |_=> .sc .un
def aw (c:Ctx) (st:St):Operand→Slot
 | .tmp t=>match Z8 c.par t with
  |some q=>bif qG q&&Nat.beq (posOf q) t then (match ak st.fr q with| .box cs=>bif cX cs then .sc .un else .ptr q (EX q)|_=> .sc .un) else .sc .un
  |none=>match ak st.fr t with
   | .box cs=>bif qG t then .sc .un else bif fG cs then .qB t else .ptr t 0
   | .qK cs=> .rp cs 0
   |s=>s
 | .const v=>rM v
 | .func f=> .sc (.p (.func (c.key f) []))
 | .global _=> .sc .un
def eD (c:Ctx) (st:St):List Operand→List Slot
 |[]=>[]
 |o::r=>aw c st o::eD c st r
section
variable {R:Type}
def wr (st:St) (d:Nat) (s:Slot) (K:St→Option R):Option R:=
 bif aV st.bA d then none else (match st with|⟨p,q,r,m⟩=>force s fun s=>Be r d s fun r=>K ⟨p,q,r,m⟩)
def aL (c:Ctx) (st:St) (d:Option Nat) (s:Slot) (K:St→Option R):Option R:=
 match d with
 |some d=>bif qG d||(Nat.ble c.n d||bR (ak st.fr d)) then none else wr st d s K
 |none=>K st
def ei (st:St) (f:Nat) (o:jr) (K:St→Option R):Option R:=
 bif aV st.bL f then none else (match st with|⟨p,q,r,m⟩=>Ws f r fun r=>G4 m f o fun m=>K ⟨p,q,r,m⟩)
def fq (I:TI) (cs:List av) (off:Nat) (K:Slot→Option R):Option R:=
 bif I.st then (match part cs off I.size with|some a=>K (.ag a)|none=>none)
 else (match cut cs off with|some (l::_)=>bif Nat.beq l.w I.size then K (.sc l) else none|_=>none)
def Z9 (st:St) (I:TI) (a:Slot) (K:Slot→Option R):Option R:=
 match a with
 | .ptr root off=>match ak st.fr root with
  | .box cs=>bif cX cs then none else fq I cs off K
  |_=>none
 | .rp cs off=>fq I cs off K
 | .ep f _ off _ cs=>(match ay st.aE f with|some _=>fq I cs off K|none=>none)
 | .hp root off i=>bif I.st||!Nat.beq I.size 1 then none else (match ak st.fr root with
  | .box cs=>bif cX cs then none else (match cut cs off with|some (.hs x::_)=>K (.sc (.p (.i .u8 (x.l.getD i 0).toNat)))|_=>none)
  |_=>none)
 |_=>none
def aA:Slot→List av
 | .sc l=>[l]
 | .ag cs=>cs
 |_=>[]
def aZ:List av→Option (List MV)
 |[]=>some []
 |l::r=>match l,aZ r with
  | .p m,some q=>some (m::q)
  | .hs x,some q=>some (.h x::q)
  |_,_=>none
def lf:List av→List MV→Option (List av)
 |[],[]=>some []
 | .hs x::r,_::ms=>(match lf r ms with|some q=>some (.hs x::q)|none=>none)
 |_::r,m::ms=>(match lf r ms with|some q=>some (.p m::q)|none=>none)
 |_,_=>none
def nQ (b:Bool) (cs:List MV):Option MV:=match b,cs with
 |false,[m]=>some m
 |true,cs=>some (.agg cs)
 |_,_=>none
def isByte (n:Int):Bool:=decide (n=((UInt8.ofNat n.toNat).toNat:Int))
def stK (st:St) (I:TI) (a v:Slot) (K:St→Option R):Option R:=
 bif om (aA v)||!Nat.beq (qL (aA v)) I.size then none else
 match a with
 | .ptr root off=>match ak st.fr root with
  | .box cs=>bif cX cs then none else (match putAt cs off (aA v) with|some dp=>wr st root (.box dp) K|none=>none)
  |_=>none
 | .hp root off i=>match ak st.fr root,v with
  | .box cs,.sc (.p n)=>bif cX cs then none else (match cut cs off with
   |some (.hs x::_)=>gI .u8 n fun n=>cE (isByte n) (match putAt cs off [.hs (x.put i (UInt8.ofNat n.toNat))] with|some dp=>wr st root (.box dp) K|none=>none)
   |_=>none)
  |_,_=>none
 | .ep f i off b cs=>kL st (aA v) fun ms st=>match ay st.aE f with
  |some o=>bif o.cK then none else
   (match lf (aA v) ms with
   |some vs=>(match putAt cs off vs with
    |some dp=>(match aZ dp with
     |some ms'=>(match nQ b ms' with
      |some x=>bif aV st.bL f then none else
       (match st with|⟨p,q,r,m⟩=>VV f r fun r=>G4 m f ⟨o.ty,false,o.xs.set i x⟩ fun m=>K ⟨p,q,r,m⟩)
      |none=>none)
     |none=>none)
    |none=>none)
   |none=>none)
  |none=>none
 |_=>none
def Dk (I:TI) (x:MV) (K:List av→Option R):Option R:=
 bif I.st then gA x fun cs=>nh I.lay cs K
 else match I.lay with
  |[k]=>fp k x fun x=>K [x]
  |_=>none
def xc (I:TI) (x:MV) (K:Slot→Option R):Option R:=
 bif I.st then gA x fun cs=>nh I.lay cs fun cs=>K (.ag cs)
 else match I.lay with
  |[k]=>fp k x fun x=>K (.sc x)
  |_=>none
def yy (c:Ctx):List Nat→List MV→(List Slot→Option R)→Option R
 |[],l,K=>gN l (K [])
 |t::ts,l,K=>match c.tv t with
  |some I=>gC l fun m r=>xc I m fun s=>yy c ts r fun ss=>K (s::ss)
  |none=>none
def lB (c:Ctx) (I:TI) (x:MV) (K:Slot→Option R):Option R:=
 match I.bX with
 |[]=>xc I x K
 |ts=>gT x fun vs=>yy c ts vs fun ss=>K (.dy ss)
def vX:av→av→Option Bool
 | .p (.b x),.p (.b y)=>some (decide (x=y))
 | .p (.i k x),.p (.i k' y)=>bif decide (k=k') then some (decide (x=y)) else none
 | .p (.s x),.p (.s y)=>some (decide (x=y))
 | .hs x,.hs y=>some (decide (x=y))
 |_,_=>none
def eE:List av→List av→Option Bool
 |[],[]=>some true
 |[x],[y]=>vX x y
 |x::xs,y::ys=>match vX x y,eE xs ys with
  |some a,some b=>some (a&&b)
  |_,_=>none
 |_,_=>none
def Dl (op:BinOp) (x y:List UInt8):Option MV:=
 match op with
 | .eql=>some (.b (decide (x=y)))
 | .neq=>some (.b (!decide (x=y)))
 | .lss=>some (.b (Op.bytesLess x y))
 | .gtr=>some (.b (!(Op.bytesLess x y||decide (x=y))))
 | .leq=>some (.b (Op.bytesLess x y||decide (x=y)))
 | .geq=>some (.b (!Op.bytesLess x y))
 |_=>none
def G5 (k:IntKind) (x y:Int):Int:=k.wrap ((BitVec.ofInt k.bits x&&&BitVec.ofInt k.bits y).toNat:Int)
def S5 (k:IntKind) (x y:Int):Int:=k.wrap ((BitVec.ofInt k.bits x|||BitVec.ofInt k.bits y).toNat:Int)
def vY (k:IntKind) (x y:Int):Int:=k.wrap ((BitVec.ofInt k.bits x^^^BitVec.ofInt k.bits y).toNat:Int)
def I3 (op:BinOp) (k:IntKind) (x y:Int):Option MV:=
 match op with
 | .add=>some (.i k (k.wrap (x+y)))
 | .sub=>some (.i k (k.wrap (x-y)))
 | .mul=>some (.i k (k.wrap (x *y)))
 | .and=>some (.i k (G5 k x y))
 | .or=>some (.i k (S5 k x y))
 | .xor=>some (.i k (vY k x y))
 | .eql=>some (.b (decide (x=y)))
 | .neq=>some (.b (!decide (x=y)))
 | .lss=>some (.b (decide (x<y)))
 | .leq=>some (.b (decide (x≤y)))
 | .gtr=>some (.b (decide (y<x)))
 | .geq=>some (.b (decide (y≤x)))
 |_=>none
def iU:Kd→av→Bool
 | .b,.p (.b _)=>true
 | .i k,.p (.i k' _)=>decide (k'=k)
 | .s,.p (.s _)=>true
 | .h,.hs _=>true
 |_,_=>false
def cZ:List Kd→List av→Bool
 |[],[]=>true
 |k::ks,l::ls=>bif iU k l then cZ ks ls else false
 |_,_=>false
def ik (st:Bool):Slot→Bool
 | .ag _=>st
 | .sc _=>!st
 |_=>false
def Wt (op:BinOp) (a b:Nat):Option Nat:=match op with
 | .add=>FloatKind.f64.format.add a b
 | .sub=>FloatKind.f64.format.sub a b
 | .mul=>FloatKind.f64.format.mul a b
 |_=>none
def S6 (oI:Option TI) (op:BinOp) (x y:Slot) (K:Slot→Option R):Option R:=
 match x,y with
 | .sc (.p (.i k a)),.sc (.p (.i k' b))=>
  (match op with
   | .quo=>bif decide (k=k') then cE (!decide (b=0)) (K (.sc (.p (.i k (k.wrap (a.tdiv b)))))) else none
   | .rem=>bif decide (k=k') then cE (!decide (b=0)) (K (.sc (.p (.i k (a.tmod b))))) else none
   | .shr=>cE (decide (0≤b)) (K (.sc (.p (.i k (a.fdiv (2^min b.toNat k.bits))))))
   | .shl=>cE (decide (0≤b)) (K (.sc (.p (.i k (k.wrap (a *2^min b.toNat k.bits))))))
   |_=>bif decide (k=k') then (match I3 op k a b with|some m=>K (.sc (.p m))|none=>none) else none)
 | .sc (.p (.s a)),.sc (.p (.s b))=>(match op with
  | .add=>cE (decide (a.length+b.length≤2^46)) (K (.sc (.p (.s (a++b)))))
  |_=>(match Dl op a b with|some m=>K (.sc (.p m))|none=>none))
 | .sc (.p (.raw (.float .f64 a))),.sc (.p (.raw (.float .f64 b)))=>bd (Wt op a b) fun r=>K (.sc (.p (.raw (.float .f64 r))))
 |x,y=>match oI with
  |some I=>bif cZ I.lay (aA x)&&cZ I.lay (aA y)&&(ik I.st x&&ik I.st y) then (match op with
   | .eql=>(match eE (aA x) (aA y) with|some b=>K (.sc (.p (.b b)))|none=>none)
   | .neq=>(match eE (aA x) (aA y) with|some b=>K (.sc (.p (.b (!b))))|none=>none)
   |_=>none) else none
  |none=>none
def sliceB (lo hi:Option Slot) (len:Nat) (K:Nat→Nat→Option R):Option R:=
 match lo,hi with
 |none,none=>K 0 len
 |some (.sc (.p (.i _ l))),none=>cE (decide (0≤l∧l≤(len:Int)∧(len:Int)≤(len:Int))) (K l.toNat (Int.toNat (len:Int)))
 |none,some (.sc (.p (.i _ h)))=>cE (decide (0≤(0:Int)∧(0:Int)≤h∧h≤(len:Int))) (K (Int.toNat 0) h.toNat)
 |some (.sc (.p (.i _ l))),some (.sc (.p (.i _ h)))=>cE (decide (0≤l∧l≤h∧h≤(len:Int))) (K l.toNat h.toNat)
 |_,_=>none
def gy (c:Ctx) (st:St):Option Operand→Option Slot
 |some o=>some (aw c st o)
 |none=>none
def qM:List av→Option (List MV)
 |[]=>some []
 |l::r=>match l,qM r with
  | .p m,some q=>some (m::q)
  | .hs x,some q=>some (.h x::q)
  | .nil,some q=>some (.list []::q)
  |_,_=>none
def Mm (d:Nat) (st:St) (I E:TI) (x y:Slot) (K:Slot→St→Option R):Option R:=match x,y with
 | .sc (.p (.i _ n)),.sc (.p (.i _ m))=>bif Nat.ble 1 E.bytes then cE (decide ((0:Int)≤n∧n=m∧n *E.bytes≤2^46)) (match qM E.zero with
  |some zs=>(match nQ E.st zs with
   |some z=>ei st d ⟨I.elem,false,List.replicate n.toNat z⟩ fun st=>K (.sc (.own d)) st
   |none=>none)
  |none=>none) else none
 |_,_=>none
def TI.rN (I:TI):Bool:=match I.st,I.lay with|false,[.l]=>true|_,_=>false
def TI.LZ (I:TI):Bool:=match I.st,I.lay with|false,[.s]=>true|_,_=>false
def Kh (E:TI):Bool:=match E.st,E.lay with
 |false,[.i k]=>decide (k= .u8)
 |_,_=>false
def E0 (l:List UInt8):List MV:=l.map fun b=> .i .u8 (b.toNat:Int)
def G6 (c:Ctx) (u:Nat) (E:TI) (x:Slot) (K:List MV→Option R):Option R:=match c.tv u,x with
 |some T,.sc (.p (.s l))=>bif T.LZ&&Kh E then K (E0 l) else none
 |_,_=>none
def Dm (I E:TI) (st:St) (x:Slot) (K:List MV→Option R):Option R:=match x with
 | .sc (.p (.list xs))=>cE (lc E.size xs) (K xs)
 | .sc .nil=>K []
 | .sc (.own f)=>(match ay st.aE f with|some o=>bif Nat.beq o.ty I.elem then K o.xs else none|none=>none)
 |_=>none
def tw (c:Ctx) (st:St) (I:TI):List (Nat×Operand)→List av→Option (List av)
 |[],cs=>some cs
 |(i,o)::r,cs=>match I.EW[i]?,I.Kf[i]? with
  |some q,some y=>(match c.tv y with
   |some J=>bif om (aA (aw c st o))||!Nat.beq (qL (aA (aw c st o))) J.size then none else
    (match putAt cs q (aA (aw c st o)) with|some dp=>tw c st I r dp|none=>none)
   |none=>none)
  |_,_=>none
def yz (c:Ctx) (st:St):List (Nat×Operand)→fm→(fm→Option R)→Option R
 |[],x,K=>K x
 |(i,o)::r,x,K=>match aw c st o with
  | .sc (.p m)=>bif Nat.ble 32 i then none else gI .u8 m fun n=>cE (isByte n) (yz c st r (x.put i (UInt8.ofNat n.toNat)) K)
  |_=>none
def Mn (c:Ctx) (st:St):List (Nat×Operand)→Nat→(List MV→St→Option R)→Option R
 |[],_,K=>K [] st
 |(i,o)::r,n,K=>bif Nat.beq i n then ig st (aw c st o) fun m st=>Mn c st r (n+1) fun ms st=>K (m::ms) st else none
def uw (c:Ctx) (st:St):List Operand→(List MV→St→Option R)→Option R
 |[],K=>K [] st
 |o::r,K=>match aw c st o with
  | .ptr root 0=>(match ak st.fr root with
   | .box cs=>bif om cs||qG root then none else kL st cs fun ms st=>(match lf cs ms with|some dp=>wr st root (.qK dp) fun st=>uw c st r fun xs st=>K (.rp ms::xs) st|none=>none)
   |_=>none)
  | .rp cs 0=>kL st cs fun ms st=>uw c st r fun xs st=>K (.rp ms::xs) st
  |_=>none
def ux (c:Ctx) (k:Nat) (st:St) (s:Slot) (K:MV→St→Option R):Option R:=match s with
 | .sc (.own f)=>(match ay st.aE f with
  |some o=>bif o.cK||!Nat.beq o.ty (c.ln k) then none else ei st f ⟨o.ty,true,[]⟩ fun st=>K (.fresh o.xs) st
  |none=>none)
 | .sc .nil=>(match c.tv (c.ln k) with|some _=>K (.fresh []) st|none=>none)
 |_=>none
def I4 (c:Ctx) (k:Nat) (st:St) (ss:List Slot) (K:List MV→St→Option R):Option R:=
 bif c.dn k then (match ss with
  |[s0,s1,s2]=>(match s2 with
   | .sc (.p m2)=>ig st s1 fun m1 st=>ux c k st s0 fun m0 st=>K [m0,m1,m2] st
   |s2=>ig st s1 fun m1 st=>ux c k st s0 fun m0 st=>ux c k st s2 fun m2 st=>K [m0,m1,m2] st)
  |_=>none)
 else pg st ss K
def Wu (x y:Int):Int:=if y<x then y else x
def imax (x y:Int):Int:=if y>x then y else x
def Mo (mx:Bool) (k:IntKind):Int→List Slot→Option MV
 |x,[]=>some (.i k x)
 |x,.sc (.p (.i k' y))::r=>bif decide (k'=k) then Mo mx k (bif mx then imax x y else Wu x y) r else none
 |_,_=>none
def G7 (mx:Bool):List Slot→Option MV
 | .sc (.p (.i k n))::r=>Mo mx k n r
 |_=>none
def Mp (c:Ctx) (d:Nat) (st:St) (f:Nat) (ms:List MV) (I:TI) (K:Slot→St→Option R):Option R:=
 bd (c.g f ms) fun r=>bif c.fresh f then bif Nat.beq (c.ln f) 0 then VU r fun xs=>K (.sc (.p (.clip xs))) st else gF r fun xs=>bif !Nat.beq I.elem (c.ln f) then none else ei st d ⟨I.elem,false,xs⟩ fun st=>(bif aV c.bs d then jY st (.own d) fun m st=>K (.sc (.p m)) st else K (.sc (.own d)) st) else lB c I r fun s=>K s st
def S7 (s:Slot) (K:Slot→Option R):Option R:=match s with
 | .ptr r o=>K (.ptr r o)
 | .rp cs o=>K (.rp cs o)
 |_=>none
def Mq (x y z:Slot) (K:Slot→Option R):Option R:=match x with
 | .sc (.p (.b v))=>(match y,z with
  | .sc (.p (.b p)),.sc (.p (.b q))=>K (.sc (.p (.b (bif v then p else q))))
  |p,q=>match v with|true=>K p|false=>K q)
 |_=>none
def S8 (I:TI) (s:Slot) (K:Slot→Option R):Option R:=match s with
 | .sc l=>bif I.st||EZ l||!Nat.beq l.w I.size then none else K (.box [l])
 | .ag cs=>bif I.st&&!om cs&&Nat.beq (qL cs) I.size then K (.box cs) else none
 |_=>none
def unK (op:UnOp) (s:Slot) (K:Slot→Option R):Option R:=match op,s with
 | .not,.sc (.p (.b v))=>K (.sc (.p (.b (!v))))
 | .neg,.sc (.p (.i k n))=>K (.sc (.p (.i k (k.wrap (0-n)))))
 |_,_=>none
def Mr (I:TI) (fk:Option FloatKind) (s:Slot) (K:Slot→Option R):Option R:=match I.st,I.bX,I.lay,s with
 |false,[],[.i k],.sc (.p (.i _ n))=>K (.sc (.p (.i k (k.wrap n))))
 |false,[],[.s],.sc (.p (.s l))=>K (.sc (.p (.s l)))
 |false,[],[.i k],.sc (.p (.raw (.float .f64 a)))=>bd ((FloatKind.decode .f64 a).toInt .zero) fun n=>cE (decide (k.min≤n∧n≤k.max)) (K (.sc (.p (.i k n))))
 |false,[],[.raw],.sc (.p (.i _ n))=>(match fk with
  |some .f64=>K (.sc (.p (.raw (.float .f64 (FloatKind.nearest .f64 n)))))
  |_=>none)
 |_,_,_,_=>none
def G8 (c:Ctx) (I:TI) (st:St) (s:Slot) (lo hi:Option Slot) (K:Slot→St→Option R):Option R:=match s with
 | .sc (.p (.s l))=>bif I.LZ then sliceB lo hi l.length fun a b=>K (.sc (.p (.s ((l.take b).drop a)))) st else none
 | .sc (.p (.list l))=>bif I.rN then (match c.tv I.elem with
  |some E=>(match lo with
   |none=>sliceB none hi l.length fun a b=>K (.sc (.p (.list ((l.take b).drop a)))) st
   |some lo=>cE (lc E.size l) (sliceB (some lo) hi l.length fun a b=>K (.sc (.p (.list ((l.take b).drop a)))) st))
  |none=>none) else none
 | .sc (.own f)=>(match ay st.aE f with
  |some o=>bif I.rN&&Nat.beq o.ty I.elem then jY st (.own f) fun _ st=>sliceB lo hi o.xs.length fun a b=>K (.sc (.p (.list ((o.xs.take b).drop a)))) st else none
  |none=>none)
 | .sc .nil=>bif I.rN then sliceB lo hi 0 fun _ _=>K (.sc .nil) st else none
 |_=>none
def Ms (I:TI) (s h m:Slot) (K:Slot→Option R):Option R:=match s,h,m with
 | .sc (.p (.list l)),.sc (.p (.i .i64 n)),.sc (.p (.i .i64 n'))=>bif I.rN then cE (decide (n=(l.length:Int)∧n'=(l.length:Int))) (K (.sc (.p (.clip l)))) else none
 |_,_,_=>none
def Mt (st:St) (I:TI) (f:Nat) (s:Slot) (K:Slot→Option R):Option R:=match I.st,I.EW[f]?,s with
 |true,some q,.ptr r o=>K (.ptr r (o+q))
 |true,some q,.rp cs o=>K (.rp cs (o+q))
 |true,some q,.ep g i o b cs=>(match ay st.aE g with|some _=>K (.ep g i (o+q) b cs)|none=>none)
 |_,_,_=>none
def S9 (c:Ctx) (I:TI) (f:Nat) (s:Slot) (K:Slot→Option R):Option R:=match I.st,I.EW[f]?,I.Kf[f]?,s with
 |true,some q,some y,.ag cs=>(match c.tv y with|some J=>fq J cs q K|none=>none)
 |_,_,_,_=>none
def Ta (c:Ctx) (st:St) (I E:TI) (x i:Slot) (K:Slot→Option R):Option R:=match x,i with
 | .sc (.p (.list xs)),.sc (.p (.i _ n))=>bif I.rN then idx xs n fun x=>Dk E x fun cs=>K (.rp cs 0) else none
 | .sc (.own f),.sc (.p (.i _ n))=>(match ay st.aE f with
  |some o=>bif I.rN then idx o.xs n fun x=>Dk E x fun cs=>K (.ep f n.toNat 0 E.st cs) else none
  |none=>none)
 | .ptr r o,.sc (.p (.i _ n))=>bif I.st then none else (match I.lay with|[.h]=>cE (decide ((0:Int)≤n∧n<32)) (K (.hp r o n.toNat))|_=>none)
 |_,_=>none
def ixK (I:TI) (x i:Slot) (K:Slot→Option R):Option R:=match I.st,I.lay,x,i with
 |false,[.s],.sc (.p (.s l)),.sc (.p (.i _ n))=>cE (decide ((0:Int)≤n∧n<(l.length:Int))) (K (.sc (.p (.i .u8 (l.getD n.toNat 0).toNat))))
 |false,[.h],.sc (.hs x),.sc (.p (.i _ n))=>cE (decide ((0:Int)≤n∧n<32)) (K (.sc (.p (.i .u8 (x.l.getD n.toNat 0).toNat))))
 |_,_,_,_=>none
def Tb (s:Slot) (k:Nat) (K:Slot→Option R):Option R:=match s with
 | .dy vs=>(match vs[k]? with|some s=>K s|none=>none)
 |_=>none
def Mu (I:TI) (st:St) (ss:List Slot) (K:Slot→Option R):Option R:=match ss with
 |[.sc (.p (.s l))]=>bif I.LZ then K (.sc (.p (.i .i64 l.length))) else none
 |[.sc (.p (.list l))]=>bif I.rN then K (.sc (.p (.i .i64 l.length))) else none
 |[.sc .nil]=>bif I.rN then K (.sc (.p (.i .i64 0))) else none
 |[.sc (.own f)]=>bif I.rN then (match ay st.aE f with|some o=>K (.sc (.p (.i .i64 o.xs.length)))|none=>none) else none
 |_=>none
def Ki (d:Nat) (st:St) (I E:TI) (s:Slot) (ys:List MV) (K:Slot→St→Option R):Option R:=bif Nat.ble 1 E.bytes then (match s with
 | .sc .nil=>cE (decide (ys.length *E.bytes≤2^46)) (ei st d ⟨I.elem,false,ys⟩ fun st=>K (.sc (.own d)) st)
 | .sc (.own f)=>(match ay st.aE f with
  |some w=>cE (decide ((w.xs.length+ys.length) *E.bytes≤2^46)) (bif Nat.beq w.ty I.elem then ei st f ⟨w.ty,w.cK,w.xs++ys⟩ fun st=>K (.sc (.own f)) st else none)
  |none=>none)
 | .sc (.p (.clip xs))=>cE (lc E.size xs) (cE (decide (0<ys.length∧(xs.length+ys.length) *E.bytes≤2^46)) (ei st d ⟨I.elem,false,xs++ys⟩ fun st=>K (.sc (.own d)) st))
 |_=>none) else none
def Dp (c:Ctx) (st:St) (I:TI) (f:Slot) (ss:List Slot) (K:Slot→St→Option R):Option R:=match f with
 | .sc (.p m)=>R3 m fun f bo=>cE (!c.dn f)<|pg st ss fun ms st=>bd (c.g f (ms++bo)) fun r=>lB c I r fun s=>K s st
 |_=>none
def vZ:MV→MV→Bool
 | .b x,.b y=>decide (x=y)
 | .i k x,.i k' y=>decide (k=k')&&decide (x=y)
 | .s x,.s y=>decide (x=y)
 | .h x,.h y=>decide (x=y)
 |_,_=>false
def cH:List MV→List MV→Bool
 |[],[]=>true
 |x::xs,y::ys=>vZ x y&&cH xs ys
 |_,_=>false
def eF:MV→List MV
 | .dy (.agg k::_)=>k
 |_=>[]
def P7:MV→MV
 | .dy [_,v]=>v
 |_=> .b false
def bE:List MV→List MV→Nat
 |[],_=>0
 |e::r,ks=>bif cH (eF e) ks then 0 else bE r ks+1
def Zh:MV→Int
 | .i _ n=>n
 |_=>0
def asB:MV→Bool
 | .b x=>x
 |_=>false
def hU (es:List MV) (ks:List MV):Int:=match es[bE es ks]? with|some e=>Zh (P7 e)|none=>0
def R6 (es:List MV) (ks:List MV):Bool:=match es[bE es ks]? with|some e=>asB (P7 e)|none=>false
def gz (es ks:List MV) (z:MV):List MV:=bif Nat.beq (bE es ks) es.length then es++[.dy [.agg ks,z]] else es
def lC (es:List MV) (i:Nat) (v:MV):List MV:=match es[i]? with|some e=>es.set i (.dy [.agg (eF e),v])|none=>es
def eu (b:Bool):MV:=bif b then .b false else .i .i64 0
def nR (c:Ctx) (t:Nat):Option MS:=match c.mt t with
 |some (kt,b)=>(match c.tv kt with|some I=>bif uu ⟨I.st,I.lay,b⟩ then none else some ⟨I.st,I.lay,b⟩|none=>none)
 |none=>none
def E1 (s:MS) (k:Slot) (K:List MV→Option R):Option R:=
 bif cZ s.lay (aA k)&&ik s.st k then (match aZ (aA k) with|some ks=>K ks|none=>none) else none
def Bf (st:St) (s:MS) (m:Slot) (K:Nat→List MV→Option R):Option R:=match m with
 | .qB r=>(match ak st.fr r with| .box [.mp s' es]=>bif R5 s s'&&!uu s' then K r es else none|_=>none)
 |_=>none
def Kj (b:Bool) (s:Slot) (K:MV→Option R):Option R:=match b,s with
 |true,.sc (.p (.b x))=>K (.b x)
 |false,.sc (.p (.i .i64 n))=>K (.i .i64 n)
 |_,_=>none
def xd (st:St) (r:Nat) (s:MS) (es:List MV) (K:St→Option R):Option R:=wr st r (.box [.mp s es]) K
def isLT (c:Ctx) (y:Nat):Bool:=match c.tv y with|some Y=>Y.rN|none=>false
def gD (c:Ctx) (o:Oper):Bool:=match o.op with
 | .assign (.tmp _)=>(match c.mt o.type with|some _=>true|none=>false)
 |_=>false
def yq (c:Ctx) (o:Oper) (st:St) (x:Operand) (K:Slot→St→Option R):Option R:=match x,c.mt o.type with
 | .tmp t,some _=>(match ak st.fr t with
  | .box cs=>bif cX cs then bif aV st.bA t||qG t then none else (match st with|⟨p,q,r,m⟩=>ol [t] r fun r=>K (.box cs) ⟨p,q,r,m⟩) else K (aw c st x) st
  |_=>K (aw c st x) st)
 |_,_=>K (aw c st x) st
def v7 (s:MS) (es ks:List MV):Slot:=bif s.b then .sc (.p (.b (R6 es ks))) else .sc (.p (.i .i64 (hU es ks)))
def R7 (c:Ctx) (st:St) (t:Nat) (m k:Slot) (K:Slot→Option R):Option R:=match nR c t with
 |some s=>Bf st s m fun _ es=>E1 s k fun ks=>K (v7 s es ks)
 |none=>none
def R8 (c:Ctx) (st:St) (t:Nat) (m k v:Slot) (K:St→Option R):Option R:=match nR c t with
 |some s=>Bf st s m fun r es=>E1 s k fun ks=>Kj s.b v fun v=>xd st r s (lC (gz es ks (eu s.b)) (bE es ks) v) K
 |none=>none
def Mv (c:Ctx) (st:St) (t:Nat) (m k:Slot) (K:Slot→St→Option R):Option R:=match nR c t with
 |some s=>Bf st s m fun r es=>E1 s k fun ks=>xd st r s (gz es ks (eu s.b)) fun st=>K (.dy [v7 s es ks,.sc (.p (.i .i64 (bE es ks)))]) st
 |none=>none
def Wv (c:Ctx) (st:St) (t:Nat) (m i v:Slot) (K:St→Option R):Option R:=match nR c t with
 |some s=>Bf st s m fun r es=>(match i with
  | .sc (.p (.i .i64 n))=>cE (decide (0≤n∧n.toNat<es.length)) (Kj s.b v fun v=>xd st r s (lC es n.toNat v) K)
  |_=>none)
 |none=>none
def R9 (es:List MV):List UInt8:=match es with|[.s l,.i .i64 _]=>l|_=>[]
def sP (es:List MV):Int:=match es with|[.s _,.i .i64 n]=>n|_=>0
def P8 (es:List MV):Bool:=decide (sP es<((R9 es).length:Int))
def G9 (es:List MV):Int:=(Utf8.decode ⟨(R9 es).toArray⟩ (sP es).toNat).1
def Ha (es:List MV):List MV:=[.s (R9 es),.i .i64 (sP es+(Utf8.decode ⟨(R9 es).toArray⟩ (sP es).toNat).2)]
def itK (st:St) (x:Slot) (K:Slot→St→Option R):Option R:=match x with
 | .ptr t 0=>(match ak st.fr t with
  | .box [.mp s es]=>bif uu s then
   aR (P8 es) (wr st t (.box [.mp s (Ha es)]) fun st=>K (.dy [.sc (.p (.b true)),.sc (.p (.i .i64 (sP es))),.sc (.p (.i .i32 (G9 es)))]) st)
    (K (.dy [.sc (.p (.b false))]) st)
   else none
  |_=>none)
 |_=>none
def byK (m:MV) (K:UInt8→Option R):Option R:=gI .u8 m fun n=>cE (isByte n) (K (UInt8.ofNat n.toNat))
def Dq:List MV→(List UInt8→Option R)→Option R
 |[],K=>K []
 |m::r,K=>byK m fun b=>Dq r fun l=>K (b::l)
def Hb (I:TI) (x:Slot) (K:Slot→Option R):Option R:=match x with
 | .sc (.p (.s l))=>bif I.LZ then K (.box [.mp MS.it [.s l,.i .i64 0]]) else none
 |_=>none
def Mw (c:Ctx) (st:St) (Y I:TI) (x:Slot) (K:Slot→Option R):Option R:=match c.tv Y.elem with
 |some E=>bif I.LZ&&Kh E then (match x with
  | .sc (.p (.list xs))=>Dq xs fun l=>K (.sc (.p (.s l)))
  | .sc .nil=>K (.sc (.p (.s [])))
  | .sc (.own f)=>(match ay st.aE f with
   |some o=>bif Nat.beq o.ty Y.elem then Dq o.xs fun l=>K (.sc (.p (.s l))) else none
   |none=>none)
  |_=>none) else none
 |none=>none
def still (c:Ctx) (o:Oper):Bool:=match o.op,o.dst with
 | .load _ _,some d=>aV c.fl d
 |_,_=>false
def aS:List LK→List Nat
 |[]=>[]
 | .own f _ _::r=>f::aS r
 |_::r=>aS r
def meets:List Nat→List Nat→Bool
 |[],_=>false
 |k::r,l=>bif aV l k then true else meets r l
def dV (c:Ctx):List LK→Bool
 |[]=>true
 | .own _ ty _::r=>(match c.tv ty with|some _=>dV c r|none=>false)
 |_::r=>dV c r
def il (ps:List (Nat×Nat)) (f g:Nat):Bool:=match ps with
 |[]=>true
 |(a,b)::r=>(bif Nat.beq a f then Nat.beq b g&&!Nat.beq g 0 else (bif Nat.beq b g then Nat.beq g 0 else true))&&il r f g
def Dr (st:St) (ps:List (Nat×Nat)) (k:LK) (l:av) (K:MV→List (Nat×Nat)→Option R):Option R:=
 match k,l with
 | .k .l,.nil=>K (.list []) ps
 | .k .h,.hs x=>K (.h x) ps
 | .k x,.p m=>fp x m fun _=>K m ps
 | .own f ty cK,.own g=>match ay st.aE g with
  |some o=>bif !Nat.beq o.ty ty||(o.cK&&!cK)||aV st.bL g||!il ps f (g+1) then none else K (.list o.xs) ((f,g+1)::ps)
  |none=>none
 | .own f _ _,.nil=>bif il ps f 0 then K (.list []) ((f,0)::ps) else none
 |_,_=>none
def eV (st:St):List (Nat×Nat)→List LK→List av→(List MV→List (Nat×Nat)→Option R)→Option R
 |ps,[],[],K=>K [] ps
 |ps,k::ks,l::ls,K=>Dr st ps k l fun m ps=>eV st ps ks ls fun ms ps=>K (m::ms) ps
 |_,_,_,_=>none
def fW (st:St) (k:LK) (m:MV) (K:av→St→Option R):Option R:=
 match k with
 | .k x=>fp x m fun l=>K l st
 | .own f ty cK=>gL m fun xs=>(match st with|⟨p,q,r,n⟩=>G4 n f ⟨ty,cK,xs⟩ fun n=>K (.own f) ⟨p,q,r,n⟩)
def bY (st:St):List LK→List MV→(List av→List MV→St→Option R)→Option R
 |[],ms,K=>K [] ms st
 |k::ks,ms,K=>gC ms fun m r=>fW st k m fun l st=>bY st ks r fun ls ms st=>K (l::ls) ms st
def E3 (gs:List Nat):List (Nat×jr)→(List (Nat×jr)→Option R)→Option R
 |[],K=>K []
 |(k,o)::r,K=>bif aV gs k then E3 gs r K else E3 gs r fun r=>K ((k,o)::r)
def P9:List Nat→Fr→(Fr→Option R)→Option R
 |[],r,K=>K r
 |f::fs,r,K=>Ws f r fun r=>P9 fs r K
def cQ:List (Nat×Nat)→List Nat
 |[]=>[]
 |(_,0)::r=>cQ r
 |(_,g+1)::r=>g::cQ r
def B6:List Nat→List (Nat×jr)→Bool
 |[],_=>false
 |f::r,m=>(match ay m f with|some _=>true|none=>B6 r m)
def B7 (st:St) (root:Nat) (ks:List LK) (ps:List (Nat×Nat)) (outs:List MV) (K:St→Option R):Option R:=
 bY ⟨[],[],[],[]⟩ ks outs fun cs rest rO=>gN rest<|E3 (cQ ps) st.aE fun m=>
  bif B6 (aS ks) m||meets (aS ks) st.bL then none else
   P9 (aS ks) st.fr fun r=>Be r root (.box cs) fun r=>(match app rO.aE m with|some m=>K ⟨st.bA,st.bL,r,m⟩|none=>none)
def I5 (c:Ctx) (gv:Bool) (g:List MV→Option MV) (pos:Nat) (ks:List LK) (st:St) (ss:List Slot) (I:Option TI) (K:Slot→St→Option R):Option R:=
 match ss[pos]? with
 |some (.ptr root off)=>pg st (ss.take pos) fun m1 st=>pg st (ss.drop (pos+1)) fun m2 st=>
  (match ak st.fr root with
  | .box cs=>bif cX cs||aV st.bA root||!dV c ks||!gv then none else eV st [] ks cs fun ls ps=>
   (match app m1 (.cell (.func off ls)::m2) with
   |some ms=>bd (g ms) fun x=>gW x fun r outs=>B7 st root ks ps outs fun st=>(match I with
    |some I=>lB c I r fun s=>K s st
    |none=>K (.sc .un) st)
   |none=>none)
  |_=>none)
 |_=>none
def Sa (c:Ctx) (key pos:Nat) (ks:List LK) (st:St) (ss:List Slot) (I:Option TI) (K:Slot→St→Option R):Option R:=
 I5 c (c.dn key) (c.g key) pos ks st ss I K
def Mx:List LK→List LK→Bool
 |[],[]=>true
 | .k k1::r,.k k2::q=>R4 k1 k2&&Mx r q
 | .own f t z::r,.own f' t' z'::q=>Nat.beq f f'&&(Nat.beq t t'&&(z==z'&&Mx r q))
 |_,_=>false
def E4 (c:Ctx) (pos:Nat) (ks:List LK):List Nat→Bool
 |[]=>true
 |k::r=>(match c.sig k with|some sg=>Nat.beq sg.1 pos&&Mx sg.2 ks|none=>false)&&(c.dn k&&E4 c pos ks r)
def My (c:Ctx) (Kk:List Nat) (st:St) (f:Slot) (ss:List Slot) (I:Option TI) (K:Slot→St→Option R):Option R:=match f,Kk with
 | .sc (.p m),k0::_=>(match c.sig k0 with
  |some sg=>bif E4 c sg.1 sg.2 Kk then R3 m fun k bo=>gN bo<|I5 c true (fun ms=>Kg Kk k fun k=>c.g k ms) sg.1 sg.2 st ss I K else none
  |none=>none)
 |_,_=>none
def VW (c:Ctx) (o:Oper) (st:St) (K:Slot→St→Option R):Option R:=
 match o.op with
 | .move x=>K (aw c st x) st
 | .assign x=>yq c o st x K
 | .makeMap t none=>(match nR c t with|some s=>K (.box [.mp s []]) st|none=>none)
 | .lookup t m k false=>R7 c st t (aw c st m) (aw c st k) fun s=>K s st
 | .mapUpdate t m k v=>R8 c st t (aw c st m) (aw c st k) (aw c st v) fun st=>K (.sc .un) st
 | .mapEntry t m k=>Mv c st t (aw c st m) (aw c st k) K
 | .entryStore t m i v=>Wv c st t (aw c st m) (aw c st i) (aw c st v) fun st=>K (.sc .un) st
 | .nilCheck x=>S7 (aw c st x) fun s=>K s st
 | .pick x a b=>Mq (aw c st x) (aw c st a) (aw c st b) fun s=>K s st
 | .alloc t=>(match c.tv t with|some I=>K (.box I.zero) st|none=>none)
 | .box t x=>(match c.tv t with|some I=>S8 I (aw c st x) fun s=>K s st|none=>none)
 | .build t parts=>(match c.tv t with
  |some I=>bif I.st then (match tw c st I parts.toList I.zero with|some cs=>K (.ag cs) st|none=>none)
   else (match I.lay with|[.h]=>yz c st parts.toList fm.zero fun x=>K (.sc (.hs x)) st|_=>none)
  |none=>none)
 | .buildSlice t n parts=>(match c.tv t with
  |some I=>bif I.rN then (match c.tv I.elem with
   |some E=>bif Nat.ble (n *E.size) 16777216 then Mn c st parts.toList 0 fun ms st=>bif Nat.beq ms.length n then cE (lc E.size ms)
    (bif aV c.bs (o.dst.getD 0) then K (.sc (.p (.list ms))) st else ei st (o.dst.getD 0) ⟨I.elem,false,ms⟩ fun st=>K (.sc (.own (o.dst.getD 0))) st) else none else none
   |none=>none) else none
  |none=>none)
 | .makeSlice t x y=>(match c.tv t with
  |some I=>bif I.rN then (match c.tv I.elem with|some E=>Mm (o.dst.getD 0) st I E (aw c st x) (aw c st y) K|none=>none) else none
  |none=>none)
 | .load t a=>(match c.tv t with
  |some I=>bif still c o then (match aw c st a with| .rp cs off=>fq I cs off fun s=>K s st|_=>none) else Z9 st I (aw c st a) fun s=>K s st
  |none=>none)
 | .store t a v=>(match c.tv t with|some I=>stK st I (aw c st a) (aw c st v) fun st=>K (.sc .un) st|none=>none)
 | .binOp op t x y _=>S6 (c.tv t) op (aw c st x) (aw c st y) fun s=>K s st
 | .unOp op _ x=>unK op (aw c st x) fun s=>K s st
 | .convert y t x=>bif isLT c y then (match c.tv y,c.tv t with|some Y,some I=>Mw c st Y I (aw c st x) fun s=>K s st|_,_=>none)
  else (match c.ti y,c.tv t with|some _,some I=>Mr I (c.fk t) (aw c st x) fun s=>K s st|_,_=>none)
 | .range t x=>(match c.tv t with|some I=>Hb I (aw c st x) fun s=>K s st|none=>none)
 | .next x true=>itK st (aw c st x) K
 | .makeFunc (.func f) first bo=>(match first.toList with
  |[]=>uw c st bo.toList fun ms st=>K (.sc (.p (.func (c.key f) ms))) st
  |_=>none)
 | .slice t x lo hi none=>(match c.tv t with|some I=>G8 c I st (aw c st x) (gy c st lo) (gy c st hi) K|none=>none)
 | .slice t x none (some h) (some m)=>(match c.tv t with|some I=>Ms I (aw c st x) (aw c st h) (aw c st m) fun s=>K s st|none=>none)
 | .fieldAddr t x f=>(match c.tv t with|some I=>Mt st I f (aw c st x) fun s=>K s st|none=>none)
 | .field t x f=>(match c.tv t with|some I=>S9 c I f (aw c st x) fun s=>K s st|none=>none)
 | .indexAddr t x i=>(match c.tv t with
  |some I=>(match c.tv I.elem with|some E=>Ta c st I E (aw c st x) (aw c st i) fun s=>K s st|none=>none)
  |none=>none)
 | .index t x i=>(match c.tv t with|some I=>ixK I (aw c st x) (aw c st i) fun s=>K s st|none=>none)
 | .extract x k=>Tb (aw c st x) k fun s=>K s st
 | .call cl=>(match cl.callee with
  | .value (.func f)=>(match c.sig (c.key f) with
   |some sg=>Sa c (c.key f) sg.1 sg.2 st (eD c st cl.args.toList) (c.ti o.type) K
   |none=>match c.ti o.type with
   |some I=>I4 c (c.key f) st (eD c st cl.args.toList) fun ms st=>Mp c (o.dst.getD 0) st (c.key f) ms I K
   |none=>none)
  | .value x=>(match c.dyn with
   |_::_=>My c c.dyn st (aw c st x) (eD c st cl.args.toList) (c.ti o.type) K
   |[]=>match c.ti o.type with
   |some I=>Dp c st I (aw c st x) (eD c st cl.args.toList) K
   |none=>none)
  | .builtin .len=>(match cl.argTypes.toList with
   |[t]=>(match c.tv t with|some I=>Mu I st (eD c st cl.args.toList) fun s=>K s st|none=>none)
   |_=>none)
  | .builtin .append=>(match eD c st cl.args.toList,cl.argTypes.toList with
   |[s,x],[t,t']=>(match c.tv t with
    |some I=>bif I.rN then (match c.tv I.elem with
     |some E=>bif Nat.beq t t' then Dm I E st x fun ys=>Ki (o.dst.getD 0) st I E s ys K else G6 c t' E x fun ys=>Ki (o.dst.getD 0) st I E s ys K
     |none=>none) else none
    |none=>none)
   |_,_=>none)
  | .builtin .real=>(match eD c st cl.args.toList with|[.sc (.p m)]=>P6 m fun x _=>K (.sc (.p (.raw (.float .f64 x)))) st|_=>none)
  | .builtin .imag=>(match eD c st cl.args.toList with|[.sc (.p m)]=>P6 m fun _ y=>K (.sc (.p (.raw (.float .f64 y)))) st|_=>none)
  | .builtin .complex=>(match eD c st cl.args.toList with|[.sc (.p (.raw (.float .f64 x))),.sc (.p (.raw (.float .f64 y)))]=>K (.sc (.p (.raw (.complex .f64 x y)))) st|_=>none)
  | .builtin .min=>(match G7 false (eD c st cl.args.toList) with|some m=>K (.sc (.p m)) st|none=>none)
  | .builtin .max=>(match G7 true (eD c st cl.args.toList) with|some m=>K (.sc (.p m)) st|none=>none)
  |_=>none)
 |_=>none
def Hc (all:List Oper) (o:Oper) (st:St) (K:Bool→St→Option R):Option R:=
 match o.guard with
 |none=>K true st
 |some (j,want)=>match all[j]? with
  |some p=>(match p.dst with
   |some t=>(match ak st.fr t with
    | .sc (.p (.b v))=>(match v with
     |true=>(match st with|⟨p,q,r,m⟩=>Be r t (.sc (.p (.b true))) fun r=>K want ⟨p,q,r,m⟩)
     |false=>(match st with|⟨p,q,r,m⟩=>Be r t (.sc (.p (.b false))) fun r=>K (!want) ⟨p,q,r,m⟩))
    | .skip=>K false st
    |_=>none)
   |none=>none)
  |none=>none
def I6 (c:Ctx) (all:List Oper) (o:Oper) (st:St) (K:St→Option R):Option R:=
 Hc all o st fun go st=>
  bif go then VW c o st fun s st=>aL c st o.dst s K
  else aL c st o.dst .skip K
def pi (c:Ctx) (all:List Oper):List Oper→St→(St→Option R)→Option R
 |[],st,K=>K st
 |o::r,st,K=>I6 c all o st fun st=>pi c all r st K
end
section
variable {R:Type}
def ia (st:St):List (Nat×Nat)→List (Nat×OK)→(List MV→Option R)→Option R
 |_,[],K=>K []
 |ps,(t,k)::r,K=>match k,ak st.fr t with
  | .sc k,.sc l=>eV st ps [k] [l] fun ms ps=>ia st ps r fun ns=>(match app ms ns with|some l=>K l|none=>none)
  | .ag ks,.ag ls=>eV st ps ks ls fun ms ps=>ia st ps r fun ns=>(match app ms ns with|some l=>K l|none=>none)
  | .box ks,.box ls=>eV st ps ks ls fun ms ps=>ia st ps r fun ns=>(match app ms ns with|some l=>K l|none=>none)
  | .mp s,.box [.mp s' es]=>bif R5 s s' then ia st ps r fun ns=>K (.list es::ns) else none
  | .pt root off,.ptr Mz Kl=>bif Nat.beq root Mz&&(Nat.beq off Kl&&(!qG root&&vV (ak st.fr root))) then ia st ps r K else none
  |_,_=>none
def E5 (st:St) (t:Nat) (s:Slot) (K:St→Option R):Option R:=match st with|⟨p,q,r,m⟩=>Be r t s fun r=>K ⟨p,q,r,m⟩
def MA:List (Nat×OK)→List MV→St→(St→Option R)→Option R
 |[],ms,st,K=>gN ms (K st)
 |(t,k)::r,ms,st,K=>match k,st with
  | .pt root off,⟨p,q,fr,m⟩=>bif !qG root&&(vV (ak fr root)&&!bR (ak fr t)) then Be fr t (.ptr root off) fun fr=>MA r ms ⟨p,q,fr,m⟩ K else none
  |_,_=>none
def iA (st:St):List (Nat×OK)→List MV→(St→Option R)→Option R
 |[],ms,K=>gN ms (K st)
 |(t,k)::r,ms,K=>match k with
  | .sc k=>bY st [k] ms fun ls ms st=>(match ls with|[l]=>E5 st t (.sc l) fun st=>iA st r ms K|_=>none)
  | .ag ks=>bY st ks ms fun ls ms st=>E5 st t (.ag ls) fun st=>iA st r ms K
  | .box ks=>bif qG t&&!aV st.bA (posOf t) then none else bY st ks ms fun ls ms st=>E5 st t (.box ls) fun st=>iA st r ms K
  | .mp s=>bif qG t then none else gC ms fun m ms=>gL m fun es=>E5 st t (.box [.mp s es]) fun st=>iA st r ms K
  | .pt root off=>MA ((t,.pt root off)::r) ms st K
end
def cg:List (Nat×OK)→List Nat
 |[]=>[]
 |(t,_)::r=>t::cg r
def bB:List (Nat×OK)→List Nat
 |[]=>[]
 |(_,.sc k)::r=>aS [k]++bB r
 |(_,.ag ks)::r=>aS ks++bB r
 |(_,.box ks)::r=>aS ks++bB r
 |(_,.mp _)::r=>bB r
 |(_,.pt _ _)::r=>bB r
def minus:List Nat→List Nat→List Nat
 |[],_=>[]
 |k::r,l=>bif aV l k then minus r l else k::minus r l
def pj {R:Type} (ps:List Nat):List av→(List av→Option R)→Option R
 |[],K=>K []
 |l::r,K=>(match l with
  | .own g=>bif aV ps g then pj ps r fun r=>K (.own g::r) else pj ps r fun r=>K (.un::r)
  |l=>pj ps r fun r=>K (l::r))
def E6 {R:Type} (ps:List Nat) (s:Slot) (K:Slot→Option R):Option R:=match s with
 | .sc (.own g)=>bif aV ps g then K (.sc (.own g)) else K (.sc .un)
 | .ag cs=>pj ps cs fun cs=>K (.ag cs)
 | .box cs=>pj ps cs fun cs=>K (.box cs)
 |s=>K s
def Zj {R:Type} (ps:List Nat):Fr→(Fr→Option R)→Option R
 |[],K=>K []
 |(k,s)::r,K=>E6 ps s fun s=>Zj ps r fun r=>K ((k,s)::r)
def B8 {R:Type} (ks fs qs:List Nat):List (Nat×jr)→(List (Nat×jr)→Option R)→Option R
 |[],K=>K []
 |(k,o)::r,K=>bif aV ks k then B8 ks fs qs r fun r=>(bif aV fs k&&!aV qs k then K ((k,⟨o.ty,true,o.xs⟩)::r) else K ((k,o)::r)) else B8 ks fs qs r K
def cR (c:Ctx):List (Nat×OK)→Bool
 |[]=>true
 |(_,.sc k)::r=>bif dV c [k] then cR c r else false
 |(_,.ag ks)::r=>bif dV c ks then cR c r else false
 |(_,.box ks)::r=>bif dV c ks then cR c r else false
 |(_,.mp _)::r=>cR c r
 |(_,.pt _ _)::r=>cR c r
def Hd {R:Type} (c:Ctx) (h:jZ) (st:St) (K:St→St→Option R):Option R:=
 match st with
 |⟨p,q,r,m⟩=>
  bif !cR c h.all||meets (cg h.all) p||meets (bB h.all) q||meets (cg h.all) h.bA||meets (bB h.all) h.bL then none else
  match app h.bA p,app h.bL q with
  |some p',some q'=>
   pick h.bA r fun rp=>Zj h.bL rp fun rp=>pick (cg h.all) r fun ro=>
   B8 h.bL h.cK q m fun mp=>B8 (bB h.all) h.cK q m fun mo=>
   (match app rp ro,app mp mo with
    |some r1,some m1=>K ⟨p',q',r1,m1⟩ ⟨p',q',rp,mp⟩
    |_,_=>none)
  |_,_=>none
def v8 {R:Type} (c:Ctx) (h:jZ) (st:St) (K:St→St→Option R):Option R:=
 Hd c h st fun cb cr=>yx (fun t=>aV h.bA t||aV (cg h.all) t) st.fr st.fr cb.fr fun fr=>K ⟨cb.bA,cb.bL,fr,cb.aE⟩ cr
def pk (st cr:St):St:=match st,cr with|⟨p,q,_,_⟩,⟨_,_,r,m⟩=>⟨p,q,r,m⟩
def guarded:List Oper→Bool
 |[]=>false
 |o::r=>match o.guard with|some _=>true|none=>guarded r
def lD:List Oper→List Nat
 |[]=>[]
 |o::r=>match o.op,o.dst with
  | .alloc _,some d=>d::lD r
  | .box _ _,some d=>d::lD r
  | .makeMap _ _,some d=>d::lD r
  | .range _ _,some d=>d::lD r
  |_,_=>lD r
def wa {R:Type} (ds:List Nat) (st:St) (K:St→Option R):Option R:=match st with|⟨p,q,r,m⟩=>ol ds r fun r1=>yx (fun t=>!aV ds t) r r r1 fun r=>K ⟨p,q,r,m⟩
def di:Code→Option Nat
 | .region id _ _=>some id
 | .seq a b=>match di a with|some n=>some n|none=>di b
 | .cond _ a b=>match di a with|some n=>some n|none=>di b
 | .block _ b| .loop b| .scope b=>di b
 |_=>none
def VX:List Nat→List Nat→List Nat
 |[],l=>l
 |k::r,l=>bif aV l k then VX r l else k::VX r l
def fH:Code→List Nat
 | .skip| .region _ _ _=>[0]
 | .seq a b=>bif aV (fH a) 0 then VX (minus (fH a) [0]) (fH b) else fH a
 | .cond _ a b=>VX (fH a) (fH b)
 | .block id b=>bif aV (fH b) (id+2) then VX (minus (fH b) [0,id+2]) [0] else fH b
 | .loop b=>minus (fH b) [0]
 | .exit id=>[id+2]
 | .ret=>[1]
 |_=>[]
def j0 (o:Oper):Bool:=match o.op with
 | .load _ _=>true
 | .lookup _ _ _ false=>true
 |_=>false
def fX (c:Ctx) (o:Oper):Bool:=j0 o||(match o.op with
 | .convert y _ _=>isLT c y
 |_=>false)
def MB (o:Oper):Option Nat:=match o.op with
 | .lookup t _ _ false=>some t
 |_=>none
def Qa (o:Oper):Option Nat:=match o.op with
 | .mapEntry t _ _=>some t
 |_=>none
def sQ (o p:Oper):Bool:=match MB o,Qa p with
 |some t,some t'=>Nat.beq t t'
 |_,_=>false
def j6 (o:Oper):Bool:=match o.op with
 | .move _| .assign _| .nilCheck _| .pick _ _ _| .build _ _| .load _ _| .binOp _ _ _ _ _| .unOp _ _ _| .convert _ _ _| .makeFunc _ _ _| .slice _ _ _ _ _| .fieldAddr _ _ _| .field _ _ _| .indexAddr _ _ _| .index _ _ _| .extract _ _| .lookup _ _ _ false=>true
 | .call cl=>(match cl.callee with| .builtin .len| .builtin .min| .builtin .max| .builtin .real| .builtin .imag| .builtin .complex=>true|_=>false)
 |_=>false
def sF (c:Ctx) (o:Oper):Bool:=match o.op with
 | .alloc _| .box _ _| .buildSlice _ _ _| .makeSlice _ _ _=>true
 | .call cl=>(match cl.callee with| .value (.func f)=>!c.dn (c.key f)| .value _=>(match c.dyn with|[]=>true|_::_=>false)|_=>false)
 |_=>false
def He:Op→List Operand
 | .build _ ps=>ps.toList.map (·.2)
 | .buildSlice _ _ ps=>ps.toList.map (·.2)
 | .makeFunc _ first captured=>first.toList++captured.toList
 | .slice _ x l h m=>x::(l.toList++(h.toList++m.toList))
 | .call c=>(match c.callee with| .value f=>[f]| .invoke r _=>[r]| .builtin _=>[])++c.args.toList
 |op=>op.operands.toList
def E7:List Operand→List Nat
 |[]=>[]
 | .tmp t::r=>t::E7 r
 |_::r=>E7 r
def Ds (ops:List Oper) (o:Oper):List Nat:=
 E7 (He o.op)++(match o.guard with|some (g,_)=>(match ops[g]? with|some p=>p.dst.toList|none=>[])|none=>[])
def Dt (ops:List Oper) (x y:Oper):Bool:=
 (match x.dst with|some d=>!aV (Ds ops y) d&&(match y.dst with|some d'=>!Nat.beq d' d|none=>true)|none=>true)&&
 (match y.dst with|some d=>!aV (Ds ops x) d|none=>true)
def tx (e:Edge):Bool:=match e.ground with
 | .textOnly _=>false
 | .gcOnly _=>false
 |_=>true
def tz (o:Oper) (p:Nat→Bool):Bool:=o.after.toList.any fun e=>tx e&&p e.on
def Ww (ops:List Oper):Bool:=ops.all fun o=>match o.op with| .select _ _=>false|_=>true
def MC (c:Ctx) (o:Oper):Bool:=j6 o||sF c o
def mi (c:Ctx) (ops:List Oper) (o:Oper):List Nat→List Nat→Bool
 |_,[]=>true
 |D,y::r=>match ops[y]? with
  |some p=>bif tz p (aV D) then mi c ops o (y::D) r else Dt ops o p&&(!fX c o||MC c p||still c o||sQ o p)&&mi c ops o D r
  |none=>false
def E8 (o:Oper):Bool:=match o.op,o.dst,o.guard with
 | .alloc _,some _,none=>o.after.toList.all fun e=>!tx e
 |_,_,_=>false
def Wx (c:Ctx) (o:Oper):Bool:=match o.op with
 | .alloc t=>(match c.tv t with|some _=>true|none=>false)
 |_=>false
def Wy (ops:List Oper) (i:Nat):Bool:=match ops[i]? with
 |some o=>E8 o
 |none=>false
def oo (c:Ctx) (ops:List Oper):List Nat→List Nat→Bool
 |_,[]=>true
 |pre,x::rest=>(match ops[x]? with
  |some o=>(o.after.toList.all fun e=>!tx e||aV pre e.on)&&!aV pre x&&!aV rest x&&
   (bif j6 o&&!gD c o then mi c ops o [x] rest
    else (rest.all fun y=>match ops[y]? with
     |some p=>bif E8 p then Dt ops p o&&Wx c p else tz p (fun i=>Nat.beq i x||(aV rest i&&!Wy ops i))
     |none=>false))&&oo c ops (x::pre) rest
  |none=>false)
def tA (c:Ctx) (ops:Array Oper) (ord:List Nat):Bool:=
 Ww ops.toList&&Nat.beq ord.length ops.toList.length&&(List.range ops.toList.length).all (aV ord)&&oo c ops.toList [] ord
def yr {R:Type} (c:Ctx) (id:Nat) (ops l:List Oper) (st:St) (K:St→Option R):Option R:=
 bif guarded ops then
  v8 c (c.vW id) st fun cb cr=>bd (wa (lD ops) cb fun cb=>pi c ops l cb fun st=>ia st [] ((c.vW id).ex 0) some) fun vs=>iA (pk st cr) ((c.vW id).ex 0) vs K
 else wa (lD ops) st fun st=>pi c ops l st K
def kz (ops:List Oper):List Nat→Option (List Oper)
 |[]=>some []
 |i::r=>match ops[i]?,kz ops r with
  |some o,some l=>some (o::l)
  |_,_=>none
def Qb {S:Type} (step:S→MV→Option (Bool×S)):S→List MV→Option (List MV×S)
 |s,[]=>some ([],s)
 |s,x::xs=>match step s x with
  |some (b,s1)=>(match Qb step s1 xs with|some (ys,s2)=>some (bif b then ys else x::ys,s2)|none=>none)
  |none=>none
def MD (g:Nat→List MV→Option MV) (k:Nat) (bo:List MV):Unit→MV→Option (Bool×Unit):=fun _ x=>match g k (x::bo) with
 |some (.b b)=>some (b,())
 |_=>none
def MF (g:Nat→List MV→Option MV) (k:Nat) (bo:List MV):List MV→MV→Option (Bool×List MV):=fun ls x=>match g k (x::(bo++[.cell (.func 0 ls)])) with
 |some (.mh (.b b) outs)=>some (b,outs)
 |_=>none
def Qc:MV→Bool
 | .agg _=>true
 |_=>false
def MG {R:Type} (c:Ctx) (h f:Nat) (bo:List Operand) (x:Operand) (o1 o2:Oper) (st:St) (K:St→Option R):Option R:=
 let fin (ys:List MV) (st:St):Option R:=ei st (o2.dst.getD 0) ⟨c.ln (c.key h),false,ys⟩ fun st=>aL c st o2.dst (.sc (.own (o2.dst.getD 0))) fun st=>aL c st o1.dst (.sc .un) K
 match c.sig (c.key f) with
 |none=>bif c.dn (c.key f) then none else uw c st bo fun ms st=>ux c (c.key h) st (aw c st x) fun m st=>gF m fun xs=>cE (xs.all Qc)<|bd (Qb (MD c.g (c.key f) ms) () xs) fun p=>fin p.1 st
 |some sg=>uw c st bo.dropLast fun ms st=>ux c (c.key h) st (aw c st x) fun m st=>gF m fun xs=>cE (xs.all Qc)<|
  (match bo.getLast? with
  |some y=>(match aw c st y with
   | .ptr root 0=>(match ak st.fr root with
    | .box cs=>bif cX cs||aV st.bA root||!dV c sg.2||!Nat.beq sg.1 (ms.length+1)||!c.dn (c.key f) then none else
     eV st [] sg.2 cs fun ls ps=>bd (Qb (MF c.g (c.key f) ms) ls xs) fun p=>B7 st root sg.2 ps p.2 fun st=>fin p.1 st
    |_=>none)
   |_=>none)
  |none=>none)
def uy (c:Ctx):List Oper→List Oper→Option (List Oper×Nat×List Operand×Nat×Operand×Oper×Oper×List Oper)
 |pre,o1::o2::r=>match o1.op,o2.op with
  | .makeFunc (.func f) first bo,.call cl=>(match cl.callee,cl.args.toList,first.toList,o1.dst with
   | .value (.func h),[.tmp x,.tmp y],[],some d=>bif c.Dj h&&Nat.beq y d&&!Nat.beq x d&&!Nat.ble c.n d&&!Nat.beq (o2.dst.getD d) d then some (pre.reverse,f,bo.toList,h,.tmp x,o1,o2,r) else uy c (o1::pre) (o2::r)
   |_,_,_,_=>uy c (o1::pre) (o2::r))
  |_,_=>uy c (o1::pre) (o2::r)
 |_,_=>none
def yA:List Oper→Bool
 |[]=>true
 |o::r=>(match o.guard with|none=>yA r|some _=>false)
def MH {R:Type} (c:Ctx) (id:Nat) (ops:List Oper) (st:St) (K:St→Option R):Option R:=
 match uy c [] ops with
 |some (pre,f,bo,h,x,o1,o2,post)=>bif yA ops then wa (lD ops) st fun st=>pi c ops pre st fun st=>MG c h f bo x o1 o2 st fun st=>pi c ops post st K else none
 |none=>yr c id ops ops st K
def fzK {R:Type} (c:Ctx) (ts:List Nat) (st:St) (K:St→Option R):Option R:=match ts with
 |[]=>K st
 |ts=>uw c st (ts.map .tmp) fun _ st=>K st
def Bg (ops:Array Oper) (A B:Nat):Array Oper:=ops.modify B fun o=>{o with after:=o.after.push ⟨A,.data⟩}
open Classical in
noncomputable def both {R:Type} (x y:Option R):Option R:=if x=y then x else none
def MI (n:Nat) (l:List Nat):Option (List Nat×List Nat×Nat×Nat):=match l.drop (l.length-2) with
 |[A,B]=>bif Nat.beq A B||(Nat.ble n A||Nat.ble n B) then none else some (l.take n,(l.drop n).take (l.length-2-n),A,B)
 |_=>none
def I7 {R:Type} (c:Ctx) (ops:Array Oper) (l:List Nat) (st:St) (K:St→Option R):Option R:=bif tA c ops l then (match kz ops.toList l with
 |some l=>pi c ops.toList l st K
 |none=>none) else none
noncomputable def E9 {R:Type} (c:Ctx) (st:St) (K:St→Option R):Nat→Array Oper→List Nat→Option R
 |0,_,_=>none
 |k+1,ops,l=>bif Nat.beq l.length ops.toList.length then I7 c ops l st K else (match MI ops.toList.length l with
  |some (o1,o2,A,B)=>both (I7 c (Bg ops A B) o1 st K) (E9 c st K k (Bg ops B A) o2)
  |none=>none)
noncomputable def Wz {R:Type} (c:Ctx) (ops:Array Oper) (ord:List Nat) (st:St) (K:St→Option R):Option R:=
 bif guarded ops.toList then none else wa (lD ops.toList) st fun st=>E9 c st K ord.length ops ord
noncomputable def I8 {R:Type} (c:Ctx) (id:Nat) (ops:Array Oper) (draw:Bool) (st:St) (K:St→Option R):Option R:=
 fzK c (c.fz id) st fun st=>bif draw then (bif !Nat.beq (c.ord id).length ops.toList.length then Wz c ops (c.ord id) st K else bif tA c ops (c.ord id) then (match kz ops.toList (c.ord id) with|some l=>yr c id ops.toList l st K|none=>none) else none)
 else MH c id ops.toList st K
noncomputable def ft (c:Ctx):Code→(R:Type)→St→(Nat→St→Option R)→Option R
 | .skip,_,st,K=>K 0 st
 | .region id ops d,_,st,K=>I8 c id ops d st fun st=>K 0 st
 | .seq a b,R,st,K=>ft c a R st fun e st=>bif Nat.beq e 0 then ft c b R st K else K e st
 | .cond x a b,R,st,K=>(match aw c st x with
  | .sc (.p (.b v))=>
   bif aV (fH a) 0&&aV (fH b) 0 then
    v8 c (c.vR ((di (.seq a b)).getD 0)) st fun cb cr=>
    bd (aR v (ft c a (Nat×List MV) cb fun e st=>ia st [] ((c.vR ((di (.seq a b)).getD 0)).ex e) fun vs=>some (e,vs))
     (ft c b (Nat×List MV) cb fun e st=>ia st [] ((c.vR ((di (.seq a b)).getD 0)).ex e) fun vs=>some (e,vs)))
     fun r=>Kg (VX (fH a) (fH b)) r.1 fun e=>iA (pk st cr) ((c.vR ((di (.seq a b)).getD 0)).ex e) r.2 fun st=>K e st
   else aR v (ft c a R st K) (ft c b R st K)
  |_=>none)
 | .block id b,R,st,K=>ft c b R st fun e st=>bif Nat.beq e (id+2) then K 0 st else K e st
 | .loop b,_,st,K=>
  v8 c (c.qH ((di b).getD 0)) st fun cb cr=>ia cb [] (c.qH ((di b).getD 0)).outs fun vs=>
   bd (Loop (fun ms=>iA cr (c.qH ((di b).getD 0)).outs ms fun st=>ft c b (Sum (List MV) (Nat×List MV)) st fun e st=>
    bif Nat.beq e 0 then ia st [] (c.qH ((di b).getD 0)).outs fun vs=>some (.inl vs) else ia st [] ((c.qH ((di b).getD 0)).ex e) fun vs=>some (.inr (e,vs))) vs)
    fun r=>Kg (minus (fH b) [0]) r.1 fun e=>iA (pk st cr) ((c.qH ((di b).getD 0)).ex e) r.2 fun st=>K e st
 | .exit id,_,st,K=>K (id+2) st
 | .ret,_,st,K=>K 1 st
 |_,_,_,_=>none
def yB {R:Type} (c:Ctx):List Nat→Nat→List MV→(Fr→List MV→Option R)→Option R
 |[],_,ms,K=>K [] ms
 |t::ts,n,ms,K=>match c.tv t with
  |some I=>gC ms fun m r=>xc I m fun s=>yB c ts (n+1) r fun fr ms=>K ((n,s)::fr) ms
  |none=>none
def Hf {R:Type}:List (List Kd)→Nat→List MV→(Fr→Option R)→Option R
 |[],_,ms,K=>gN ms (K [])
 |ks::r,n,ms,K=>gC ms fun m ms=>gP m fun cs=>nh ks cs fun cs=>Hf r (n+1) ms fun fr=>K ((n,.qK cs)::fr)
def wb {R:Type} (c:Ctx) (st:St) (fresh:Option Nat):List ResultVar→(List MV→Option R)→Option R
 |[],K=>K []
 |r::rs,K=>
  let go (s:Slot):Option R:=match fresh with
   |some ty=>(match s with
    | .sc (.own f)=>(match ay st.aE f with|some o=>bif o.cK||!Nat.beq o.ty ty then none else wb c st fresh rs fun ms=>K (.fresh o.xs::ms)|none=>none)
    | .sc .nil=>wb c st fresh rs fun ms=>K (.fresh []::ms)
    |_=>none)
   |none=>ig st s fun m st=>wb c st fresh rs fun ms=>K (m::ms)
  match r with
  | .tmp t=>go (ak st.fr t)
  | .cell a t=>match c.tv t,ak st.fr a with
   |some I,.box cs=>bif cX cs||qG a then none else fq I cs 0 fun s=>go s
   |_,_=>none
def Km {R:Type} (c:Ctx) (st:St):List ResultVar→(List MV→St→Option R)→Option R
 |[],K=>K [] st
 |r::rs,K=>(match r with
  | .tmp t=>ig st (ak st.fr t) fun m st=>Km c st rs fun ms st=>K (m::ms) st
  | .cell a t=>(match c.tv t,ak st.fr a with
   |some I,.box cs=>bif cX cs||qG a then none else fq I cs 0 fun s=>ig st s fun m st=>Km c st rs fun ms st=>K (m::ms) st
   |_,_=>none))
def WA:List MV→MV
 |[m]=>m
 |ms=> .dy ms
noncomputable def I9 (c:Ctx) (bo:List (List Kd)) (pos:Nat) (ks:List LK) (f:Func) (args:List MV):Option MV:=
 match f.body,args[pos]? with
 |some b,some (.cell (.func off ls))=>bif !dV c ks||!Nat.ble pos 999 then none else
  yB c f.params.toList 0 (args.set pos (.rp [])) fun fr ms=>Hf bo f.params.size ms fun j7=>
   (match app fr j7 with
   |some fr=>bY ⟨[],[],[],[]⟩ ks ls fun cs rest rO=>gN rest<|
    ft c b MV ⟨[pos],[],(1000000+off *1000+pos,.box cs)::fr,rO.aE⟩ fun e st=>
     bif Nat.ble e 1 then Km c st f.results.toList fun ms st=>(match ak st.fr (1000000+off *1000+pos) with
      | .box cs=>bif cX cs then none else eV st [] ks cs fun outs _=>some (.mh (WA ms) outs)
      |_=>none) else none
   |none=>none)
 |_,_=>none
noncomputable def Ja (X:Code→St→(Nat→St→Option MV)→Option MV) (c:Ctx) (bo:List (List Kd)) (fresh:Option Nat) (f:Func) (args:List MV):Option MV:=
 match f.body with
 |some b=>yB c f.params.toList 0 args fun fr ms=>Hf bo f.params.size ms fun j7=>
  match app fr j7 with
  |some fr=>X b ⟨[],[],fr,[]⟩ fun e st=>
   bif Nat.ble e 1 then wb c st fresh f.results.toList fun ms=>(match ms with|[m]=>some m|ms=>some (.dy ms)) else none
  |none=>none
 |none=>none
noncomputable def B9 (c:Ctx) (bo:List (List Kd)) (fresh:Option Nat) (f:Func) (args:List MV):Option MV:=Ja (fun b st K=>ft c b MV st K) c bo fresh f args
end Dn
/-
  What abstract values and slots say of Go's memory. Conditions: none.
-/
namespace Dn
open Go
theorem eB (w:World) (o:Obj):(w.alloc o).heap[w.heap.size]? =some o:=by
 show (w.heap.push o)[w.heap.size]? =some o
 simp
theorem kA (w:World) (o:Obj) (i:Nat) (h:i<w.heap.size):(w.alloc o).heap[i]? =w.heap[i]? :=by
 show (w.heap.push o)[i]? =w.heap[i]?
 rw [Array.getElem?_push,if_neg (Nat.ne_of_lt h)]
def MV.one:MV→Bool
 | .h _| .agg _| .dy _| .fresh _| .cell _| .mh _ _=>false
 |_=>true
abbrev Ph:=Nat→Nat→Option Value
section
variable (key:Nat→Nat) (φ:Ph)
mutual
inductive gE:List Value→MV→Prop
 |b (x:Bool):gE [.bool x] (.b x)
 |i (k:IntKind) (n:Int):gE [.int k n] (.i k n)
 |s (bs:ByteArray):gE [.string bs] (.s bs.data.toList)
 |h (x:fm):gE (x.l.map fun b=> .int .u8 (b.toNat:Int)) (.h x)
 |raw (v:Value):v.oneCell'=true→gE [v] (.raw v)
 |list (a:Option Addr) (cap:Nat) (xs:List MV) (aM off Ca:Nat) (f:Nat→List Value):
  xs.length≤cap→(0<xs.length→a=some ⟨aM,off,none⟩)→(∀i,i<xs.length→(f i).length=Ca)→
  (∀i j,i<xs.length→j<Ca→φ aM (off+i *Ca+j)=(f i)[j]?)→
  (∀(i:Nat) (h:i<xs.length),gE (f i) xs[i])→gE [.slice a xs.length cap] (.list xs)
 |agg (vs:List Value) (ms:List MV):dU vs ms→gE vs (.agg ms)
 |func (f k:Nat) (cap:Array Value) (ms:List MV):key f=k→dU cap.toList ms→(∀m∈ms,m.one=true)→gE [.func (.func f) #[] cap] (.func k ms)
 |rp (aM off:Nat) (vs:List Value) (ms:List MV):dU vs ms→(∀j,j<vs.length→φ aM (off+j)=vs[j]?)→gE [.pointer (some ⟨aM,off,none⟩)] (.rp ms)
 |clip (a:Option Addr) (xs:List MV):gE [.slice a xs.length xs.length] (.list xs)→gE [.slice a xs.length xs.length] (.clip xs)
inductive dU:List Value→List MV→Prop
 |nil:dU [] []
 |cons (v:List Value) (m:MV) (vs:List Value) (ms:List MV):gE v m→dU vs ms→dU (v++vs) (m::ms)
end
end
def lE (φ φ':Ph):Prop:= ∀b o v,φ b o=some v→φ' b o=some v
theorem lE.refl (φ:Ph):lE φ φ:=fun _ _ _ h=>h
theorem lE.rP {φ φ':Ph} (h:lE φ φ') {b j:Nat} {cs:List Value} (e:φ b j=cs[j]?) (hj:j<cs.length):φ' b j=cs[j]? :=by
 rw [List.getElem?_eq_getElem hj] at e⊢
 exact h _ _ _ e
theorem lE.trans {φ φ' WB:Ph} (h:lE φ φ') (h':lE φ' WB):lE φ WB:=fun b o v e=>h' b o v (h b o v e)
section
set_option linter.unusedSectionVars false
variable {key:Nat→Nat} {φ φ':Ph} (hle:lE φ φ')
include hle
theorem Du {b o:Nat} {vs:List Value} {j:Nat} (hj:j<vs.length) (h:φ b o=vs[j]?):φ' b o=vs[j]? :=by
 rw [List.getElem?_eq_getElem hj] at h⊢
 exact hle _ _ _ h
mutual
theorem gE.mono {vs:List Value} {m:MV}:gE key φ vs m→gE key φ' vs m
 | .b x=> .b x
 | .i k n=> .i k n
 | .s bs=> .s bs
 | .h x=> .h x
 | .raw v h=> .raw v h
 | .list a cap xs aM off Ca f h1 h2 h3 h4 h5=> .list a cap xs aM off Ca f h1 h2 h3
  (fun i j hi hj=>Du hle (by rw [h3 i hi];exact hj) (h4 i j hi hj)) (fun i hi=>(h5 i hi).mono)
 | .agg vs ms h=> .agg vs ms h.mono
 | .func f k cap ms h1 h2 h3=> .func f k cap ms h1 h2.mono h3
 | .rp aM off vs ms h1 h2=> .rp aM off vs ms h1.mono (fun j hj=>Du hle hj (h2 j hj))
 | .clip a xs h=> .clip a xs h.mono
theorem dU.mono {vs:List Value} {ms:List MV}:dU key φ vs ms→dU key φ' vs ms
 | .nil=> .nil
 | .cons v m vs ms h1 h2=> .cons v m vs ms h1.mono h2.mono
end
end
section
variable {key:Nat→Nat} {φ:Ph}
mutual
theorem gE.cells {vs:List Value} {m:MV}:gE key φ vs m→ ∀v∈vs,v.oneCell'=true
 | .b x=>by simp [Value.oneCell']
 | .i k n=>by simp [Value.oneCell']
 | .s bs=>by simp [Value.oneCell']
 | .h x=>by
  intro v hv
  obtain ⟨b,_,rfl⟩:=List.mem_map.1 hv
  rfl
 | .raw v h=>by simpa using h
 | .list .. =>by simp [Value.oneCell']
 | .agg vs ms h=>h.cells
 | .func .. =>by simp [Value.oneCell']
 | .rp .. =>by simp [Value.oneCell']
 | .clip .. =>by simp [Value.oneCell']
theorem dU.cells {vs:List Value} {ms:List MV}:dU key φ vs ms→ ∀v∈vs,v.oneCell'=true
 | .nil=>by simp
 | .cons v m vs ms h1 h2=>by
  intro x hx
  rcases List.mem_append.1 hx with hx|hx
  ·exact h1.cells x hx
  ·exact h2.cells x hx
end
end
section
variable {key:Nat→Nat} {φ:Ph}
mutual
theorem gE.width {vs:List Value} {m:MV}:gE key φ vs m→vs.length=m.w
 | .b x=>by simp [MV.w]
 | .i k n=>by simp [MV.w]
 | .s bs=>by simp [MV.w]
 | .h x=>by simp [MV.w,x.h]
 | .raw v h=>by simp [MV.w]
 | .list .. =>by simp [MV.w]
 | .agg vs ms h=>by rw [h.width];simp [MV.w]
 | .func .. =>by simp [MV.w]
 | .rp .. =>by simp [MV.w]
 | .clip .. =>by simp [MV.w]
theorem dU.width {vs:List Value} {ms:List MV}:dU key φ vs ms→vs.length=MV.wl ms
 | .nil=>by simp [MV.wl]
 | .cons v m vs ms h1 h2=>by simp [MV.wl,h1.width,h2.width]
end
end
theorem gE.one {key:Nat→Nat} {φ:Ph} {vs:List Value} {m:MV} (h:gE key φ vs m) (hm:m.one=true): ∃v,vs=[v]∧v.oneCell'=true:=by
 have hc:=h.cells
 cases h<;>simp [MV.one] at hm<;>exact ⟨_,rfl,hc _ (by simp)⟩
def dW (key:Nat→Nat) (φ:Ph) (v:Value):MV→Prop
 | .h x=>v= .agg (x.l.map fun b=>Value.int .u8 (b.toNat:Int)).toArray
 | .agg ms=> ∃arr,v= .agg arr∧dU key φ arr.toList ms
 |m=>m.one=true∧gE key φ [v] m
set_option linter.unusedSectionVars false
theorem dW.mono {key:Nat→Nat} {φ φ':Ph} (hle:lE φ φ') {v:Value} {m:MV} (h:dW key φ v m):dW key φ' v m:=by
 cases m<;>simp only [dW] at h⊢ <;>first|exact h|exact ⟨h.1,h.2.mono hle⟩|(obtain ⟨arr,h1,h2⟩:=h;exact ⟨arr,h1,h2.mono hle⟩)
structure Env where
 key:Nat→Nat
 φ:Ph
 E:Nat→Value
 B:Nat→Nat
 m:List (Nat×jr)
def aT (x:fm):List Value:=x.l.map fun b=>Value.int .u8 (b.toNat:Int)
theorem bZ (x:fm):(aT x).length=32:=by simp [aT,x.h]
def aG (e:Env) (vs:List Value):av→Prop
 | .un=> ∃v,vs=[v]∧v.oneCell'=true
 | .p x=>x.one=true∧gE e.key e.φ vs x
 | .hs x=>vs=aT x
 | .nil=>vs=[.slice none 0 0]
 | .mp _ _=>False
 | .own f=> ∃v,vs=[v]∧v.oneCell'=true∧(∀o,ay e.m f=some o→v=e.E f)
def ap (e:Env):List Value→List av→Prop
 |vs,[]=>vs=[]
 |vs,l::ls=> ∃v r,vs=v++r∧aG e v l∧ap e r ls
def ni:av→Bool
 | .p _| .hs _=>true
 |_=>false
def eC:List av→Bool
 |[]=>true
 |l::r=>ni l&&eC r
def yC (st:Bool) (x:MV) (cs:List av):Prop:=(∃ms,aZ cs=some ms∧nQ st ms=some x)∧ ∀m,av.p m∈cs→m.one=true
def sR:Slot→Bool
 | .sc l=>ni l
 | .ag cs=>eC cs
 |_=>false
mutual
def af (e:Env) (v:Value):Slot→Prop
 | .skip=>v=undef
 | .sc l=>match l with
  | .un=>True
  | .hs x=>v= .agg (aT x).toArray
  |l=>aG e [v] l
 | .ag cs=> ∃arr,v= .agg arr∧ap e arr.toList cs
 | .dy vs=> ∃arr,v= .tuple arr∧fw e arr.toList vs
 | .box _=>False
 | .qK cs=> ∃aM o vs,v= .pointer (some ⟨aM,o,none⟩)∧ap e vs cs∧eC cs=true∧(∀j,j<vs.length→e.φ aM (o+j)=vs[j]?)
 | .ptr r o=>v= .pointer (some ⟨e.B r,o,none⟩)
 | .qB r=>v= .map (some (e.B r))
 | .rp cs off=> ∃aM o vs,v= .pointer (some ⟨aM,o+off,none⟩)∧ap e vs cs∧eC cs=true∧(∀j,j<vs.length→e.φ aM (o+j)=vs[j]?)
 | .hp r o i=>v= .pointer (some ⟨e.B r,o+i,none⟩)∧i<32
 | .ep f i off st cs=> ∀o,ay e.m f=some o→ ∃aM cap,e.E f= .slice (some ⟨aM,0,none⟩) o.xs.length cap∧(∃x,o.xs[i]? =some x∧yC st x cs)∧
  v= .pointer (some ⟨aM,i *qL cs+off,none⟩)
def fw (e:Env):List Value→List Slot→Prop
 |vs,[]=>vs=[]
 |vs,s::ss=> ∃v r,vs=v::r∧af e v s∧sR s=true∧fw e r ss
end
def MJ:av→List Value→Bool
 | .p (.b x),[.bool y]=>x==y
 | .p (.i k n),[.int k' n']=>decide (k=k')&&decide (n=n')
 | .p (.s l),[.string s]=>decide (l=s.data.toList)
 | .p (.raw v),[w]=>match v,w with
  | .nilFunc,.nilFunc=>true
  | .nilIface,.nilIface=>true
  | .pointer none,.pointer none=>true
  |_,_=>false
 | .nil,[.slice none 0 0]=>true
 | .un,[v]=>v.oneCell'
 | .hs x,vs=>(vs.length==32)&&(vs.zip x.l).all fun p=>match p.1 with| .int .u8 n=>decide (n=(p.2.toNat:Int))|_=>false
 |_,_=>false
def nj:List av→List Value→Bool
 |[],vs=>vs.isEmpty
 |l::ls,vs=>MJ l (vs.take l.w)&&nj ls (vs.drop l.w)&&decide (l.w≤vs.length)
end Dn
/-
  How an abstract state stands to a frame and a memory; laws of frames and leaves. Conditions: none.
-/
set_option linter.unusedSimpArgs false
set_option linter.unusedVariables false
namespace Dn
open Go
def bF:Fr→Nat→Slot→Fr
 |[],t,v=>[(t,v)]
 |(k,s)::r,t,v=>bif Nat.beq k t then (k,v)::r else (k,s)::bF r t v
def ja (ds:List Nat):Fr→Fr
 |[]=>[]
 |(k,s)::r=>bif cc s||aV ds k then ja ds r else (k,s)::ja ds r
def jt (ks:List Nat):Fr→Fr
 |[]=>[]
 |(k,s)::r=>bif aV ks k&&!cc s then (k,s)::jt ks r else jt ks r
def bt:List (Nat×jr)→Nat→jr→List (Nat×jr)
 |[],t,v=>[(t,v)]
 |(k,s)::r,t,v=>bif Nat.beq k t then (k,v)::r else (k,s)::bt r t v
def EJ (f:Nat):av→av
 | .own g=>bif Nat.beq g f then .un else .own g
 |l=>l
def sS (f:Nat):Slot→Slot
 | .sc l=> .sc (EJ f l)
 | .ag cs=> .ag (cs.map (EJ f))
 | .box cs=> .box (cs.map (EJ f))
 | .ep g i o b cs=>bif Nat.beq g f then .sc .un else .ep g i o b cs
 |s=>s
def fT (f:Nat) (r:Fr):Fr:=r.map fun p=>(p.1,sS f p.2)
def qN (f:Nat) (r:Fr):Fr:=r.map fun p=>(p.1,match p.2 with
 | .ep g i o b cs=>bif Nat.beq g f then .sc .un else .ep g i o b cs
 |s=>s)
def Hg (ps:List Nat):av→av
 | .own g=>bif aV ps g then .own g else .un
 |l=>l
def A8 (ps:List Nat):Slot→Slot
 | .sc l=> .sc (Hg ps l)
 | .ag cs=> .ag (cs.map (Hg ps))
 | .box cs=> .box (cs.map (Hg ps))
 |s=>s
def Hh (ps:List Nat) (r:Fr):Fr:=r.map fun p=>(p.1,A8 ps p.2)
def mj (ks fs qs:List Nat):List (Nat×jr)→List (Nat×jr)
 |[]=>[]
 |(k,o)::r=>bif aV ks k then (bif aV fs k&&!aV qs k then (k,⟨o.ty,true,o.xs⟩) else (k,o))::mj ks fs qs r else mj ks fs qs r
section
variable {R:Type}
theorem force_eq (s:Slot) (K:Slot→Option R):force s K=K s:=by cases s<;>rfl
theorem gG (r:Fr) (t:Nat) (s:Slot) (K:Fr→Option R):Be r t s K=K (bF r t s):=by
 induction r generalizing K with
 |nil=>rfl
 |cons p r ih=>obtain ⟨k,x⟩:=p;simp only [Be,bF];cases Nat.beq k t<;>simp [ih]
theorem xe (ds:List Nat) (r:Fr) (K:Fr→Option R):ol ds r K=K (ja ds r):=by
 induction r generalizing K with
 |nil=>rfl
 |cons p r ih=>obtain ⟨k,x⟩:=p;simp only [ol,ja];cases cc x||aV ds k<;>simp [ih]
theorem Qd (ks:List Nat) (r:Fr) (K:Fr→Option R):pick ks r K=K (jt ks r):=by
 induction r generalizing K with
 |nil=>rfl
 |cons p r ih=>obtain ⟨k,x⟩:=p;simp only [pick,jt];cases aV ks k&&!cc x<;>simp [ih]
theorem ju (r:List (Nat×jr)) (t:Nat) (s:jr) (K:List (Nat×jr)→Option R):G4 r t s K=K (bt r t s):=by
 induction r generalizing K with
 |nil=>rfl
 |cons p r ih=>obtain ⟨k,x⟩:=p;simp only [G4,bt];cases Nat.beq k t<;>simp [ih]
theorem yD (f:Nat) (cs:List av) (K:List av→Option R):pf f cs K=K (cs.map (EJ f)):=by
 induction cs generalizing K with
 |nil=>rfl
 |cons l r ih=>cases l<;>simp only [pf,List.map_cons,EJ,ih];rename_i g;cases Nat.beq g f<;>rfl
theorem MK (f:Nat) (s:Slot) (K:Slot→Option R):B5 f s K=K (sS f s):=by
 cases s with
 |sc l=>cases l<;>simp only [B5,sS,EJ];rename_i g;cases Nat.beq g f<;>rfl
 |ag cs=>simp only [B5,sS,yD]
 |box cs=>simp only [B5,sS,yD]
 |ep g i o b cs=>simp only [B5,sS];cases Nat.beq g f<;>rfl
 |_=>rfl
theorem ML (f:Nat) (r:Fr) (K:Fr→Option R):Ws f r K=K (fT f r):=by
 induction r generalizing K with
 |nil=>rfl
 |cons p r ih=>obtain ⟨k,x⟩:=p;simp only [Ws,MK,ih,fT,List.map_cons]
theorem Tc (f:Nat) (r:Fr) (K:Fr→Option R):VV f r K=K (qN f r):=by
 induction r generalizing K with
 |nil=>rfl
 |cons p r ih=>
  obtain ⟨k,x⟩:=p
  cases x<;>simp only [VV,ih,qN,List.map_cons]
  rename_i g i o b cs
  cases Nat.beq g f<;>rfl
theorem yE (f:List Nat) (cs:List av) (K:List av→Option R):pj f cs K=K (cs.map (Hg f)):=by
 induction cs generalizing K with
 |nil=>rfl
 |cons l r ih=>cases l<;>simp only [pj,List.map_cons,Hg,ih];rename_i g;cases aV f g<;>rfl
theorem MM (f:List Nat) (s:Slot) (K:Slot→Option R):E6 f s K=K (A8 f s):=by
 cases s with
 |sc l=>cases l<;>simp only [E6,A8,Hg];rename_i g;cases aV f g<;>rfl
 |ag cs=>simp only [E6,A8,yE]
 |box cs=>simp only [E6,A8,yE]
 |_=>rfl
theorem Td (f:List Nat) (r:Fr) (K:Fr→Option R):Zj f r K=K (Hh f r):=by
 induction r generalizing K with
 |nil=>rfl
 |cons p r ih=>obtain ⟨k,x⟩:=p;simp only [Zj,MM,ih,Hh,List.map_cons]
theorem MN (ks fs qs:List Nat) (r:List (Nat×jr)) (K:List (Nat×jr)→Option R):B8 ks fs qs r K=K (mj ks fs qs r):=by
 induction r generalizing K with
 |nil=>rfl
 |cons p r ih=>
  obtain ⟨k,x⟩:=p
  simp only [B8,mj]
  cases aV ks k
  ·simp [ih]
  ·simp only [cond_true,ih]
   cases aV fs k&&!aV qs k<;>rfl
theorem pn {α:Type} (x y:List α):app x y=some (x++y):=by
 induction x with
 |nil=>rfl
 |cons a r ih=>simp [app,ih]
end
theorem cw (a b:Nat):Nat.beq a b=decide (a=b):=by
 by_cases h:a=b
 ·subst h;simp
 ·simp only [h,decide_false];exact Bool.eq_false_iff.2 (fun e=>h (Nat.eq_of_beq_eq_true e))
theorem aW (l:List Nat) (t:Nat):aV l t=true↔t∈l:=by
 induction l with
 |nil=>simp [aV]
 |cons k r ih=>
  simp only [aV,cw,List.mem_cons]
  by_cases h:k=t
  ·simp [h]
  ·simp only [h,decide_false,cond_false,ih]
   exact ⟨.inr,fun h'=>h'.resolve_left (fun e=>h e.symm)⟩
theorem bk (r:Fr) (d t:Nat) (s:Slot):ak (bF r d s) t=if t=d then s else ak r t:=by
 induction r with
 |nil=>simp only [bF,ak,cw];by_cases h:t=d<;>simp [h,Ne.symm]<;>(intro e;exact absurd e.symm h)
 |cons p r ih=>
  obtain ⟨k,x⟩:=p
  simp only [bF,cw]
  by_cases hk:k=d
  ·subst hk
   simp only [decide_true,cond_true,ak,cw]
   by_cases h:k=t
   ·simp [h]
   ·have h': ¬t=k:=fun e=>h e.symm
    simp [h,h']
  ·simp only [hk,decide_false,cond_false,ak,cw,ih]
   by_cases h:k=t
   ·subst h;simp [hk]
   ·simp [h]
theorem aP (r:List (Nat×jr)) (d t:Nat) (s:jr):ay (bt r d s) t=if t=d then some s else ay r t:=by
 induction r with
 |nil=>simp only [bt,ay,cw];by_cases h:t=d<;>simp [h,Ne.symm]<;>(intro e;exact absurd e.symm h)
 |cons p r ih=>
  obtain ⟨k,x⟩:=p
  simp only [bt,cw]
  by_cases hk:k=d
  ·subst hk
   simp only [decide_true,cond_true,ay,cw]
   by_cases h:k=t
   ·simp [h]
   ·have h': ¬t=k:=fun e=>h e.symm
    simp [h,h']
  ·simp only [hk,decide_false,cond_false,ay,cw,ih]
   by_cases h:k=t
   ·subst h;simp [hk]
   ·simp [h]
theorem yF (g:Slot→Slot) (hg:g (.sc .un)= .sc .un) (r:Fr) (t:Nat):ak (r.map fun p=>(p.1,g p.2)) t=g (ak r t):=by
 induction r with
 |nil=>simp [ak,hg]
 |cons p r ih=>
  obtain ⟨k,x⟩:=p
  simp only [List.map_cons,ak,cw]
  by_cases h:k=t<;>simp [h,ih]
theorem dI (f:Nat) (r:Fr) (t:Nat):ak (fT f r) t=sS f (ak r t):=yF (sS f) rfl r t
theorem Cb (f:List Nat) (r:Fr) (t:Nat):ak (Hh f r) t=A8 f (ak r t):=yF (A8 f) rfl r t
def aD (r:Fr):List Nat:=r.map Prod.fst
theorem lR (r:Fr) (t:Nat) (h:t∉aD r):ak r t= .sc .un:=by
 induction r with
 |nil=>rfl
 |cons p r ih=>
  obtain ⟨k,x⟩:=p
  simp only [aD,List.map_cons,List.mem_cons,not_or] at h
  have h': ¬k=t:=fun e=>h.1 e.symm
  simp only [ak,cw,h',decide_false,cond_false]
  exact ih h.2
theorem uA (ds:List Nat) (r:Fr):List.Sublist (aD (ja ds r)) (aD r):=by
 induction r with
 |nil=>simp [aD,ja]
 |cons p r ih=>
  obtain ⟨k,x⟩:=p
  simp only [ja]
  cases cc x||aV ds k
  ·simpa [aD] using ih
  ·exact (List.Sublist.cons _ ih)
theorem po (ds:List Nat) (r:Fr):List.Sublist (aD (jt ds r)) (aD r):=by
 induction r with
 |nil=>simp [aD,jt]
 |cons p r ih=>
  obtain ⟨k,x⟩:=p
  simp only [jt]
  cases aV ds k&&!cc x
  ·exact (List.Sublist.cons _ ih)
  ·simpa [aD] using ih
theorem yG (ds:List Nat) (r:Fr) (hn:(aD r).Nodup) (t:Nat):ak (ja ds r) t=if cc (ak r t)||aV ds t then .sc .un else ak r t:=by
 induction r with
 |nil=>simp [ak,ja]
 |cons p r ih=>
  obtain ⟨k,x⟩:=p
  simp only [aD,List.map_cons,List.nodup_cons] at hn
  have ih:=ih hn.2
  simp only [ja]
  by_cases hk:k=t
  ·subst hk
   cases hb:cc x||aV ds k
   ·simp [ak,cw,hb]
   ·simp only [cond_true,ak,cw,decide_true,hb,if_true]
    refine lR _ _ (fun hm=>hn.1 ((uA ds r).subset hm))
  ·cases hb:cc x||aV ds k
   ·simp [ak,cw,hk,ih]
   ·simp [ak,cw,hk,ih]
theorem tB (ds:List Nat) (r:Fr) (hn:(aD r).Nodup) (t:Nat):ak (jt ds r) t=if aV ds t&&!cc (ak r t) then ak r t else .sc .un:=by
 induction r with
 |nil=>simp [ak,jt]
 |cons p r ih=>
  obtain ⟨k,x⟩:=p
  simp only [aD,List.map_cons,List.nodup_cons] at hn
  have ih:=ih hn.2
  simp only [jt]
  by_cases hk:k=t
  ·subst hk
   cases hb:aV ds k&&!cc x
   ·simp only [cond_false,ak,cw,decide_true,cond_true,hb]
    exact lR _ _ (fun hm=>hn.1 ((po ds r).subset hm))
   ·simp [ak,cw,hb]
  ·cases hb:aV ds k&&!cc x<;>simp [ak,cw,hk,ih]
theorem qO (r s:Fr) (t:Nat):ak (r++s) t=if t∈aD r then ak r t else ak s t:=by
 induction r with
 |nil=>simp [aD]
 |cons p r ih=>
  obtain ⟨k,x⟩:=p
  simp only [List.cons_append,ak,cw,aD,List.map_cons,List.mem_cons]
  by_cases h:k=t
  ·simp [h]
  ·have h': ¬t=k:=fun e=>h e.symm
   simp only [h,h',decide_false,cond_false,ih,false_or]
   rfl
end Dn
/-
  Laws of leaves and slots: offsets, and what changes elsewhere. Conditions: none.
-/
set_option linter.unusedSimpArgs false
set_option linter.unusedVariables false
namespace Dn
open Go
section
variable {e e':Env}
theorem aG.width {vs:List Value} {l:av} (h:aG e vs l):vs.length=l.w:=by
 cases l with
 |un=>obtain ⟨v,rfl,_⟩:=h;rfl
 |p m=>obtain ⟨v,rfl,_⟩:=h.2.one h.1;rfl
 |hs x=>cases h;simp [aT,x.h,av.w]
 |nil=>cases h;rfl
 |mp s es=>exact h.elim
 |own f=>obtain ⟨v,rfl,_⟩:=h;rfl
theorem aG.cells {vs:List Value} {l:av} (h:aG e vs l): ∀v∈vs,v.oneCell'=true:=by
 cases l with
 |un=>obtain ⟨v,rfl,hv⟩:=h;simpa using hv
 |p m=>exact h.2.cells
 |hs x=>
  cases h
  intro v hv
  obtain ⟨b,_,rfl⟩:=List.mem_map.1 hv
  rfl
 |nil=>cases h;simp [Value.oneCell']
 |mp s es=>exact h.elim
 |own f=>obtain ⟨v,rfl,hv,_⟩:=h;simpa using hv
theorem ap.width {cs:List av}: ∀{vs:List Value},ap e vs cs→vs.length=qL cs:=by
 induction cs with
 |nil=>intro vs h;cases h;rfl
 |cons l r ih=>intro vs h;obtain ⟨v,w,rfl,h1,h2⟩:=h;simp [qL,h1.width,ih h2]
theorem ap.cells {cs:List av}: ∀{vs:List Value},ap e vs cs→ ∀v∈vs,v.oneCell'=true:=by
 induction cs with
 |nil=>intro vs h;cases h;simp
 |cons l r ih=>
  intro vs h v hv
  obtain ⟨a,w,rfl,h1,h2⟩:=h
  rcases List.mem_append.1 hv with hv|hv
  ·exact h1.cells v hv
  ·exact ih h2 v hv
theorem ap.append {cs ds:List av}: ∀{vs ws:List Value},ap e vs cs→ap e ws ds→ap e (vs++ws) (cs++ds):=by
 induction cs with
 |nil=>intro vs ws h h';cases h;simpa using h'
 |cons l r ih=>intro vs ws h h';obtain ⟨v,w,rfl,h1,h2⟩:=h;exact ⟨v,w++ws,by simp,h1,ih h2 h'⟩
theorem qP {cs:List av}: ∀{off:Nat} {ds:List av} {vs:List Value},cut cs off=some ds→ap e vs cs→
 ∃v1 v2,vs=v1++v2∧v1.length=off∧ap e v2 ds:=by
 induction cs with
 |nil=>
  intro off ds vs h hr
  cases off with
  |zero=>simp only [cut,Option.some.injEq] at h;subst h;exact ⟨[],vs,rfl,rfl,hr⟩
  |succ n=>simp [cut] at h
 |cons l r ih=>
  intro off ds vs h hr
  cases off with
  |zero=>simp only [cut,Option.some.injEq] at h;subst h;exact ⟨[],vs,rfl,rfl,hr⟩
  |succ n=>
   simp only [cut] at h
   cases hb:Nat.ble l.w (n+1) with
   |false=>simp [hb] at h
   |true=>
    simp only [hb,cond_true] at h
    have hle:=Nat.le_of_ble_eq_true hb
    obtain ⟨v,w,rfl,h1,h2⟩:=hr
    obtain ⟨v1,v2,rfl,hl,h3⟩:=ih h h2
    exact ⟨v++v1,v2,by simp,by simp [h1.width,hl];omega,h3⟩
theorem Kn {cs:List av}: ∀{n:Nat} {ds:List av} {vs:List Value},EY cs n=some ds→ap e vs cs→
 ∃v1 v2,vs=v1++v2∧v1.length=n∧ap e v1 ds:=by
 induction cs with
 |nil=>
  intro n ds vs h hr
  cases n with
  |zero=>simp only [EY,Option.some.injEq] at h;subst h;exact ⟨[],vs,rfl,rfl,rfl⟩
  |succ n=>simp [EY] at h
 |cons l r ih=>
  intro n ds vs h hr
  cases n with
  |zero=>simp only [EY,Option.some.injEq] at h;subst h;exact ⟨[],vs,rfl,rfl,rfl⟩
  |succ n=>
   simp only [EY] at h
   cases hb:Nat.ble l.w (n+1) with
   |false=>simp [hb] at h
   |true=>
    simp only [hb,cond_true] at h
    have hle:=Nat.le_of_ble_eq_true hb
    obtain ⟨v,w,rfl,h1,h2⟩:=hr
    cases hu:EY r (n+1-l.w) with
    |none=>simp [hu] at h
    |some b=>
     simp only [hu,Option.some.injEq] at h
     subst h
     obtain ⟨v1,v2,rfl,hl,h3⟩:=ih hu h2
     exact ⟨v++v1,v2,by simp,by simp [h1.width,hl];omega,v,v1,rfl,h1,h3⟩
theorem Cc {cs:List av} {off n:Nat} {ds:List av} {vs:List Value} (h:part cs off n=some ds) (hr:ap e vs cs):
 ∃v1 v2 v3,vs=v1++v2++v3∧v1.length=off∧v2.length=n∧ap e v2 ds:=by
 unfold part at h
 cases hc:cut cs off with
 |none=>simp [hc] at h
 |some a=>
  simp only [hc] at h
  obtain ⟨v1,v2,rfl,h1,h2⟩:=qP hc hr
  obtain ⟨v3,v4,rfl,h3,h4⟩:=Kn h h2
  exact ⟨v1,v3,v4,by simp,h1,h3,h4⟩
theorem Cd {ls:List av}: ∀{cs ds:List av} {vs ws:List Value},over ls cs=some ds→ap e vs cs→ap e ws ls→
 ∃v1 v2,vs=v1++v2∧v1.length=ws.length∧ap e (ws++v2) ds:=by
 induction ls with
 |nil=>intro cs ds vs ws h hr hw;simp only [over,Option.some.injEq] at h;subst h;cases hw;exact ⟨[],vs,rfl,rfl,hr⟩
 |cons l r ih=>
  intro cs ds vs ws h hr hw
  cases cs with
  |nil=>simp [over] at h
  |cons c cs=>
   simp only [over] at h
   cases hb:Nat.beq l.w c.w with
   |false=>simp [hb] at h
   |true=>
    simp only [hb,cond_true] at h
    have hww:=Nat.eq_of_beq_eq_true hb
    cases ho:over r cs with
    |none=>simp [ho] at h
    |some q=>
     simp only [ho,Option.some.injEq] at h
     subst h
     obtain ⟨v,w,rfl,h1,h2⟩:=hr
     obtain ⟨a,b,rfl,h3,h4⟩:=hw
     obtain ⟨v1,v2,rfl,hl,h5⟩:=ih ho h2 h4
     exact ⟨v++v1,v2,by simp,by simp [h1.width,h3.width,hl,hww],a,b++v2,by simp,h3,h5⟩
theorem pq {cs:List av}: ∀{off:Nat} {ls ds:List av} {vs ws:List Value},putAt cs off ls=some ds→ap e vs cs→ap e ws ls→
 ∃v1 v2 v3,vs=v1++v2++v3∧v1.length=off∧v2.length=ws.length∧ap e (v1++ws++v3) ds:=by
 induction cs with
 |nil=>
  intro off ls ds vs ws h hr hw
  cases off with
  |zero=>
   simp only [putAt] at h
   obtain ⟨v1,v2,rfl,h1,h2⟩:=Cd h hr hw
   exact ⟨[],v1,v2,by simp,rfl,h1,by simpa using h2⟩
  |succ n=>simp [putAt] at h
 |cons l r ih=>
  intro off ls ds vs ws h hr hw
  cases off with
  |zero=>
   simp only [putAt] at h
   obtain ⟨v1,v2,rfl,h1,h2⟩:=Cd h hr hw
   exact ⟨[],v1,v2,by simp,rfl,h1,by simpa using h2⟩
  |succ n=>
   simp only [putAt] at h
   cases hb:Nat.ble l.w (n+1) with
   |false=>simp [hb] at h
   |true=>
    simp only [hb,cond_true] at h
    have hle:=Nat.le_of_ble_eq_true hb
    obtain ⟨v,w,rfl,h1,h2⟩:=hr
    cases hu:putAt r (n+1-l.w) ls with
    |none=>simp [hu] at h
    |some b=>
     simp only [hu,Option.some.injEq] at h
     subst h
     obtain ⟨v1,v2,v3,rfl,hl,uB,h3⟩:=ih hu h2 hw
     exact ⟨v++v1,v2,v3,by simp,by simp [h1.width,hl];omega,uB,v,v1++ws++v3,by simp,h1,h3⟩
structure fQ (S T:Nat→Prop) (e e':Env):Prop where
 key:e'.key=e.key
 φ:lE e.φ e'.φ
 B: ∀r,T r→e'.B r=e.B r
 dS: ∀f o',ay e'.m f=some o'→S f→ ∃o,ay e.m f=some o∧e'.E f=e.E f∧o'.xs=o.xs
def eG (S:Nat→Prop) (l:av):Prop:= ∀f,l= .own f→S f
def dj (S T:Nat→Prop):Slot→Prop
 | .ptr r _=>T r
 | .qB r=>T r
 | .hp r _ _=>T r
 | .sc l=>eG S l
 | .ag cs=> ∀l∈cs,eG S l
 | .ep g _ _ _ _=>S g
 |_=>True
theorem aG.on {S T:Nat→Prop} (h:fQ S T e e') {vs:List Value} {l:av} (hl:eG S l) (hr:aG e vs l):aG e' vs l:=by
 cases l with
 |un=>exact hr
 |p m=>exact ⟨hr.1,by have:=hr.2.mono h.φ;rw [←h.key] at this;exact this⟩
 |hs x=>exact hr
 |nil=>exact hr
 |mp s es=>exact hr
 |own f=>
  obtain ⟨v,rfl,hv,hf⟩:=hr
  refine ⟨v,rfl,hv,fun o' tC=> ?_⟩
  obtain ⟨o,ho,hE,_⟩:=h.dS f o' tC (hl f rfl)
  rw [hE];exact hf o ho
theorem ap.on {S T:Nat→Prop} (h:fQ S T e e') {cs:List av}: ∀{vs:List Value},(∀l∈cs,eG S l)→ap e vs cs→ap e' vs cs:=by
 induction cs with
 |nil=>intro vs _ hr;exact hr
 |cons l r ih=>
  intro vs hl hr
  obtain ⟨v,w,rfl,h1,h2⟩:=hr
  exact ⟨v,w,rfl,h1.on h (hl l (by simp)),ih (fun x hx=>hl x (by simp [hx])) h2⟩
theorem yH {S:Nat→Prop} {l:av} (h:ni l=true):eG S l:=by
 intro f hf;subst hf;simp [ni] at h
theorem tD {S:Nat→Prop} {cs:List av} (h:eC cs=true): ∀l∈cs,eG S l:=by
 induction cs with
 |nil=>simp
 |cons l r ih=>
  simp only [eC,Bool.and_eq_true] at h
  intro x hx
  rcases List.mem_cons.1 hx with rfl|hx
  ·exact yH h.1
  ·exact ih h.2 x hx
mutual
theorem af.on {S T:Nat→Prop} (h:fQ S T e e') {v:Value}: ∀{s:Slot},dj S T s→af e v s→af e' v s
 | .skip,_,hr=>by simpa [af] using hr
 | .sc l,hs,hr=>by
  cases l with
  |un=>simp [af]
  |hs x=>simpa [af] using hr
  |p m=>simp only [af] at hr⊢;exact hr.on h hs
  |nil=>simp only [af] at hr⊢;exact hr.on h hs
  |mp s es=>simp only [af] at hr⊢;exact hr
  |own f=>simp only [af] at hr⊢;exact hr.on h hs
 | .ag cs,hs,hr=>by
  simp only [af] at hr⊢
  obtain ⟨arr,h1,h2⟩:=hr
  exact ⟨arr,h1,h2.on h hs⟩
 | .dy vs,_,hr=>by
  simp only [af] at hr⊢
  obtain ⟨arr,h1,h2⟩:=hr
  exact ⟨arr,h1,fw.on h h2⟩
 | .box _,_,hr=>by simp [af] at hr
 | .qK cs,_,hr=>by
  simp only [af] at hr⊢
  obtain ⟨aM,o,vs,h1,h2,h3,h4⟩:=hr
  exact ⟨aM,o,vs,h1,h2.on h (tD h3),h3,fun j hj=>Du h.φ hj (h4 j hj)⟩
 | .ptr r o,hs,hr=>by simp only [af] at hr⊢;rw [h.B r hs];exact hr
 | .qB r,hs,hr=>by simp only [af] at hr⊢;rw [h.B r hs];exact hr
 | .rp cs off,_,hr=>by
  simp only [af] at hr⊢
  obtain ⟨aM,o,vs,h1,h2,h3,h4⟩:=hr
  exact ⟨aM,o,vs,h1,h2.on h (tD h3),h3,fun j hj=>Du h.φ hj (h4 j hj)⟩
 | .hp r o i,hs,hr=>by simp only [af] at hr⊢;rw [h.B r hs];exact hr
 | .ep f i off st cs,hs,hr=>by
  simp only [af] at hr⊢
  intro o' tC
  obtain ⟨o,ho,hE,hx⟩:=h.dS f o' tC hs
  obtain ⟨aM,cap,h1,h2,h3⟩:=hr o ho
  exact ⟨aM,cap,by rw [hE,hx];exact h1,by rw [hx];exact h2,h3⟩
theorem fw.on {S T:Nat→Prop} (h:fQ S T e e'): ∀{vs:List Value} {ss:List Slot},fw e vs ss→fw e' vs ss
 |vs,[],hr=>hr
 |vs,s::ss,hr=>by
  simp only [fw] at hr⊢
  obtain ⟨v,r,h1,h2,h3,h4⟩:=hr
  refine ⟨v,r,h1,af.on h ?_ h2,h3,fw.on h h4⟩
  cases s<;>simp [sR] at h3<;>simp only [dj]
  ·exact yH h3
  ·exact tD h3
end
end
end Dn
/-
  The relation between an abstract state and a running frame; operations that change no memory. Conditions: none.
-/
set_option linter.unusedSimpArgs false
set_option linter.unusedVariables false
namespace Dn
open Go
section
variable {e e':Env}
theorem aG.kill {vs:List Value} {l:av} (f:Nat) (h:aG e vs l):aG e vs (EJ f l):=by
 cases l with
 |own g=>
  simp only [EJ]
  cases Nat.beq g f
  ·exact h
  ·obtain ⟨v,rfl,hv,_⟩:=h;exact ⟨v,rfl,hv⟩
 |_=>exact h
theorem yI (f:Nat) (l:av):eG (· ≠f) (EJ f l):=by
 intro g hg
 cases l<;>simp [EJ] at hg
 rename_i g'
 cases hb:Nat.beq g' f<;>simp [hb] at hg
 subst hg
 intro e;subst e;simp [cw] at hb
theorem aG.Jb {vs:List Value} {l:av} (f:List Nat) (h:aG e vs l):aG e vs (Hg f l):=by
 cases l with
 |own g=>
  simp only [Hg]
  cases aV f g
  ·obtain ⟨v,rfl,hv,_⟩:=h;exact ⟨v,rfl,hv⟩
  ·exact h
 |_=>exact h
theorem Hi (f:List Nat) (l:av):eG (· ∈f) (Hg f l):=by
 intro g hg
 cases l<;>simp [Hg] at hg
 rename_i g'
 cases hb:aV f g'<;>simp [hb] at hg
 subst hg
 exact (aW _ _).1 hb
theorem ap.map {g:av→av} (hg: ∀vs l,aG e vs l→aG e vs (g l)) {cs:List av}: ∀{vs:List Value},ap e vs cs→ap e vs (cs.map g):=by
 induction cs with
 |nil=>intro vs h;exact h
 |cons l r ih=>intro vs h;obtain ⟨v,w,rfl,h1,h2⟩:=h;exact ⟨v,w,rfl,hg _ _ h1,ih h2⟩
theorem af.Te {v:Value} {l:av} (hl: ∀x,l≠ .hs x) (hu:l≠ .un):af e v (.sc l)↔aG e [v] l:=by
 cases l<;>simp_all [af]
theorem af.kill {v:Value} {s:Slot} (f:Nat) (h:af e v s):af e v (sS f s):=by
 cases s with
 |sc l=>
  cases l with
  |own g=>
   simp only [sS,EJ]
   cases Nat.beq g f
   ·exact h
   ·simp [af]
  |_=>exact h
 |ag cs=>simp only [sS,af] at h⊢;obtain ⟨arr,h1,h2⟩:=h;exact ⟨arr,h1,h2.map (fun _ _=>aG.kill f)⟩
 |box cs=>simp [af] at h
 |ep g i o b cs=>
  simp only [sS]
  cases Nat.beq g f
  ·exact h
  ·simp [af]
 |_=>exact h
theorem MO (f:Nat) (T:Nat→Prop) (s:Slot) (hT:dj (fun _=>True) T s):dj (· ≠f) T (sS f s):=by
 cases s with
 |sc l=>exact yI f l
 |ag cs=>intro l hl;obtain ⟨x,_,rfl⟩:=List.mem_map.1 hl;exact yI f x
 |ep g i o b cs=>
  simp only [sS]
  cases hb:Nat.beq g f
  ·simp only [cond_false,dj];intro e;subst e;simp [cw] at hb
  ·simp [dj,eG]
 |ptr r o=>exact hT
 |hp r o i=>exact hT
 |_=>trivial
theorem af.Jb {v:Value} {s:Slot} (f:List Nat) (h:af e v s):af e v (A8 f s):=by
 cases s with
 |sc l=>
  cases l with
  |own g=>
   simp only [A8,Hg]
   cases aV f g
   ·simp [af]
   ·exact h
  |_=>exact h
 |ag cs=>simp only [A8,af] at h⊢;obtain ⟨arr,h1,h2⟩:=h;exact ⟨arr,h1,h2.map (fun _ _=>aG.Jb f)⟩
 |box cs=>simp [af] at h
 |_=>exact h
end
def aQ (key:Nat→Nat) (φ:Ph) (size:Nat):List Value→List MV→Prop
 |vs,[]=>vs=[]
 |vs,x::xs=> ∃v r,vs=v++r∧v.length=size∧gE key φ v x∧aQ key φ size r xs
structure aX where
 In:Nat→Prop
 bA:List Nat
 bL:List Nat
 T:Nat→Value
 WC:Prop
 Pr:Nat→Prop
instance:CoeFun aX (fun _=>Nat→Prop):=⟨aX.In⟩
instance:Coe aX (Nat→Prop):=⟨aX.In⟩
theorem EK {a b c:Prop} (h:(a∧b)∨c) (hn: ¬a):c:=h.resolve_left fun h=>hn h.1
def aX.nc (Z:aX):aX:={Z with WC:=False}
def aX.plain (I:Nat→Prop):aX:=⟨I,[],[],fun _=>undef,False,fun _=>True⟩
def aX.bz (Z:aX) (t:Nat):aX:={Z with In:=fun b=>(t∈Z.bA∧Z.Pr b)∨Z.In b}
def aX.fz (Z:aX) (f:Nat):aX:={Z with In:=fun b=>(f∈Z.bL∧Z.Pr b)∨Z.In b,WC:=f∈Z.bL}
def wc:Kd→MV→Bool
 | .b,.b _=>true
 | .i k,.i k' _=>decide (k'=k)
 | .s,.s _=>true
 | .h,.h _=>true
 |_,_=>false
def cf:List Kd→List MV→Bool
 |[],[]=>true
 |k::ks,m::ms=>wc k m&&cf ks ms
 |_,_=>false
def vT:MV→List Value
 | .b x=>[.bool x]
 | .i k n=>[.int k n]
 | .s l=>[.string ⟨l.toArray⟩]
 | .h x=>aT x
 |_=>[]
def db (st:Bool) (ks:List MV):Value:=match st,ks with
 |false,[.h x]=> .agg (aT x).toArray
 |false,[.b x]=> .bool x
 |false,[.i k n]=> .int k n
 |false,[.s l]=> .string ⟨l.toArray⟩
 |_,ks=> .agg (ks.flatMap vT).toArray
def sG (b:Bool) (m:MV):Value:=match b,m with
 |true,.b x=> .bool x
 |false,.i .i64 n=> .int .i64 n
 |_,_=>undef
def Hj (b:Bool) (m:MV):Bool:=match b,m with
 |true,.b x=>true
 |false,.i .i64 n=>true
 |_,_=>false
def MP (s:MS) (x:MapEntry) (m:MV) (i:Nat):Prop:=
 x.born=i∧ ∃ks v,m= .dy [.agg ks,v]∧cf s.lay ks=true∧x.key=db s.st ks∧Hj s.b v=true∧x.val=sG s.b v
structure kM (s:MS) (es:Array MapEntry) (clock:Nat) (ms:List MV):Prop where
 size:es.size=ms.length
 clock:clock=ms.length
 PW: ∀(i:Nat) x m,es[i]? =some x→ms[i]? =some m→MP s x m i
def eW (e:Env) (o:Obj) (cs:List av):Prop:=match o with
 | .cells arr _ z=>z=(0,0)∧ap e arr.toList cs
 | .map es clock=> ∃s ms,cs=[.mp s ms]∧uu s=false∧kM s es clock ms
 | .stringIter x pos=>cs=[.mp MS.it [.s x.data.toList,.i .i64 pos]]
 |_=>False
def yJ (cs:List av) (b:Nat):Value:=bif fG cs then .map (some b) else .pointer (some ⟨b,0,none⟩)
structure nk (Z:aX) (e:Env) (w:World) (aM:Nat) (cs:List av):Prop where
 bH:Z.In aM
 obj: ∃o,w.heap[aM]? =some o∧eW e o cs
 free: ∀off,e.φ aM off=none
theorem eW.on {S T:Nat→Prop} {e e':Env} (h:fQ S T e e') {o:Obj} {cs:List av} (hl: ∀l∈cs,eG S l) (hr:eW e o cs):eW e' o cs:=by
 cases o with
 |cells arr T z=>exact ⟨hr.1,hr.2.on h hl⟩
 |map es clock=>exact hr
 |stringIter x pos=>exact hr
 |_=>exact hr.elim
theorem Dv {cs:List av} (h:cX cs=true): ∃s ms,cs=[.mp s ms]:=by
 unfold cX at h
 split at h
 ·exact ⟨_,_,rfl⟩
 ·cases h
theorem eW.cells {e:Env} {o:Obj} {cs:List av} (hr:eW e o cs) (hm:cX cs=false): ∃arr T,o= .cells arr T (0,0)∧ap e arr.toList cs:=by
 cases o with
 |cells arr T z=>obtain ⟨rfl,h⟩:=hr;exact ⟨arr,T,rfl,h⟩
 |map es clock=>obtain ⟨s,ms,rfl,_⟩:=hr;simp [cX] at hm
 |stringIter x pos=>rw [show cs=_ from hr] at hm;simp [cX] at hm
 |_=>exact hr.elim
theorem pu {cs:List av} (h:cX cs=false):fG cs=false:=by
 unfold fG
 split
 ·simp [cX] at h
 ·rfl
theorem Fa (g:av→av) (h1: ∀s es,g (.mp s es)= .mp s es) (h2: ∀l,(∀s es,l≠ .mp s es)→ ∀s es,g l≠ .mp s es) (cs:List av):fG (cs.map g)=fG cs:=by
 cases cs with
 |nil=>rfl
 |cons l r=>
  cases r with
  |nil=>
   by_cases hl: ∃s es,l= .mp s es
   ·obtain ⟨s,es,rfl⟩:=hl;simp [h1,fG]
   ·have we: ∀s es,l≠ .mp s es:=fun s es e=>hl ⟨s,es,e⟩
    have hg:=h2 l we
    simp only [List.map_cons,List.map_nil]
    have a:fG [l]=false:=by cases l<;>simp_all [fG]
    have b:fG [g l]=false:=by cases hq:g l<;>simp_all [fG]
    rw [a,b]
  |cons x y=>cases hl:l<;>simp [fG]
theorem nk.cells {Z:aX} {e:Env} {w:World} {aM:Nat} {cs:List av} (h:nk Z e w aM cs) (hm:cX cs=false): ∃arr T,w.heap[aM]? =some (.cells arr T (0,0))∧ap e arr.toList cs:=by
 obtain ⟨o,h1,h2⟩:=h.obj
 obtain ⟨arr,T,rfl,h3⟩:=h2.cells hm
 exact ⟨arr,T,h1,h3⟩
theorem Hk {cs:List av} (hm:fG cs=false) (b:Nat):yJ cs b= .pointer (some ⟨b,0,none⟩):=by simp [yJ,hm]
theorem nS {cs:List av} (hm:cX cs=false) (b:Nat):yJ cs b= .pointer (some ⟨b,0,none⟩):=Hk (pu hm) b
theorem MQ {cs:List av} (hm:fG cs=true) (b:Nat):yJ cs b= .map (some b):=by simp [yJ,hm]
theorem eW.map {e:Env} {g:av→av} (hg: ∀vs l,aG e vs l→aG e vs (g l)) (hm: ∀s es,g (.mp s es)= .mp s es) {o:Obj} {cs:List av} (hr:eW e o cs):eW e o (cs.map g):=by
 cases o with
 |cells arr T z=>exact ⟨hr.1,hr.2.map hg⟩
 |map es clock=>obtain ⟨s,ms,rfl,h2⟩:=hr;exact ⟨s,ms,by simp [hm],h2⟩
 |stringIter x pos=>rw [show cs=_ from hr];show List.map g _=_;simp [hm]
 |_=>exact hr.elim
theorem Hl (f:Nat) (cs:List av):fG (cs.map (EJ f))=fG cs:=
 Fa _ (fun _ _=>rfl) (fun l hl s es=>by cases l<;>simp_all [EJ];rename_i g;cases Nat.beq g f<;>simp) cs
theorem Tf (f:List Nat) (cs:List av):fG (cs.map (Hg f))=fG cs:=
 Fa _ (fun _ _=>rfl) (fun l hl s es=>by cases l<;>simp_all [Hg];rename_i g;cases aV f g<;>simp) cs
structure b9 (c:Ctx) (Z:aX) (e:Env) (w:World) (v:Value) (o:jr):Prop where
 row: ∃I cells,c.ti o.ty=some I∧I.bX=[]∧w.ownsRow 0 o.ty I.size v o.xs.length cells∧aQ e.key e.φ I.size cells o.xs∧
  ∀aM,v.ownBlock=some aM→Z.In aM∧(∀off u,e.φ aM off=some u→o.cK=true∧off<o.xs.length *I.size)∧(Z.WC→o.cK=true→ ∀j,j<cells.length→e.φ aM j=cells[j]?)
def tied (Z:aX) (t:Nat) (v:Value) (cs:List av) (b:Nat):Prop:=
 (qG t=false→v=yJ cs b)∧(qG t=true→posOf t∈Z.bA∧Z.T (posOf t)= .pointer (some ⟨b,EX t,none⟩))
theorem tied.fG {Z:aX} {t:Nat} {v:Value} {cs dp:List av} {b:Nat} (h:tied Z t v cs b) (hm:fG dp=fG cs):tied Z t v dp b:=⟨fun hp=>by rw [h.1 hp];simp [yJ,hm],h.2⟩
theorem tied.own {Z:aX} {t:Nat} {v:Value} {cs:List av} {b:Nat} (hp:qG t=false) (h:v=yJ cs b):tied Z t v cs b:=⟨fun _=>h,fun hq=>by rw [hp] at hq;cases hq⟩
def bu (Z:aX) (e:Env) (w:World) (t:Nat) (v:Value):Slot→Prop
 | .box cs=>tied Z t v cs (e.B t)∧nk (Z.bz t) e w (e.B t) cs
 |s=>af e v s
def bJ (fr:Fr):Slot→Prop
 | .ptr r _=>bR (ak fr r)=true
 | .hp r _ _=>bR (ak fr r)=true
 | .qB r=>bR (ak fr r)=true
 |_=>True
structure bn (c:Ctx) (Z:aX) (e:Env) (st:St) (a:Act) (w:World):Prop where
 defers:a.defers=[]∧st.bA=Z.bA∧st.bL=Z.bL∧ ∀t∈Z.bA,a.tmps.getD t undef=Z.T t
 size:a.tmps.size=c.n
 m:e.m=st.aE
 key:e.key=c.key
 nodup:(aD st.fr).Nodup
 slot: ∀t,bu Z e w t (a.tmps.getD t undef) (ak st.fr t)
 root: ∀t,bJ st.fr (ak st.fr t)
 dS: ∀f o,ay st.aE f=some o→b9 c (Z.fz f) e w (e.E f) o
 bb: ∀t t' cs dp,ak st.fr t= .box cs→ak st.fr t'= .box dp→t≠t'→e.B t≠e.B t'
 bf: ∀t cs f o,ak st.fr t= .box cs→ay st.aE f=some o→(e.E f).ownBlock≠some (e.B t)
 ff: ∀f f' o o' k,ay st.aE f=some o→ay st.aE f'=some o'→(e.E f).ownBlock=some k→(e.E f').ownBlock=some k→f=f'
 jb: ∀b o v,e.φ b o=some v→w.cell? ⟨b,o,none⟩=some v
 bH: ∀b,w.heap.size≤b→Z.In b
def Rest (w w':World):Prop:=w'.os=w.os∧w'.tape=w.tape∧w'.output=w.output∧ ∀a,w'.frozen? a=w.frozen? a
theorem Rest.refl (w:World):Rest w w:=⟨rfl,rfl,rfl,fun _=>rfl⟩
theorem Rest.trans {w w' rQ:World} (h:Rest w w') (h':Rest w' rQ):Rest w rQ:=⟨h'.1.trans h.1,h'.2.1.trans h.2.1,h'.2.2.1.trans h.2.2.1,fun a=>(h'.2.2.2 a).trans (h.2.2.2 a)⟩
theorem Rest.alloc (w:World) (cs:Array Value) (t:TypeId):Rest w (w.alloc (.cells cs t)):=by
 refine ⟨rfl,rfl,rfl,fun a=> ?_⟩
 by_cases h:a.block=w.heap.size
 ·have e1:(w.alloc (.cells cs t)).heap[a.block]? =some (.cells cs t (0,0)):=by rw [h];exact eB w _
  have e2:w.heap[a.block]? =none:=by rw [h];simp
  simp [World.frozen?,e1,e2]
 ·exact World.frozen?_alloc_old _ _ _ h
theorem Rest.setRow (w:World) (g:Nat) (cs:Array Value):Rest w (w.setRow g cs):=by
 refine ⟨rfl,rfl,rfl,fun a=> ?_⟩
 by_cases h:a.block=g
 ·unfold World.frozen? World.setRow
  simp only [Array.getElem?_modify,h,if_true]
  cases hg:w.heap[g]? with
  |none=>rfl
  |some o=>cases o<;>rfl
 ·exact World.frozen?_of_block (setRow_other _ _ _ _ h)
structure cy (w w':World):Prop where
 size:w.heap.size≤w'.heap.size
 nT: ∀b,b<w.heap.size→w'.heap[b]? =w.heap[b]?
 rest:Rest w w'
theorem aN {w:World} {b:Nat} {x:Obj} (h:w.heap[b]? =some x):b<w.heap.size:=(Array.getElem?_eq_some_iff.1 h).1
theorem cy.cell {w w':World} (g:cy w w') {ad:Addr} {v:Value} (h:w.cell? ad=some v):w'.cell? ad=some v:=by
 have hl:=World.block_lt_of_cell? w ad h
 rw [World.cell?_of_block (g.nT ad.block hl)];exact h
structure Trans (Z:Nat→Prop) (φ:Ph) (w:World) (φ':Ph) (w':World):Prop where
 ph:lE φ φ'
 heap: ∀b,¬Z b→b<w.heap.size→w'.heap[b]? =w.heap[b]?
 free: ∀b o,¬Z b→φ' b o=φ b o
 size:w.heap.size≤w'.heap.size
 rest:Rest w w'
theorem Trans.refl (Z:Nat→Prop) (φ:Ph) (w:World):Trans Z φ w φ w:=⟨.refl φ,fun _ _ _=>rfl,fun _ _ _=>rfl,Nat.le_refl _,.refl _⟩
theorem Trans.trans {Z:Nat→Prop} {φ φ' WB:Ph} {w w' rQ:World} (h:Trans Z φ w φ' w') (h':Trans Z φ' w' WB rQ):Trans Z φ w WB rQ:=
 ⟨h.ph.trans h'.ph,fun b hb hl=>(h'.heap b hb (Nat.lt_of_lt_of_le hl h.size)).trans (h.heap b hb hl),fun b o hb=>(h'.free b o hb).trans (h.free b o hb),Nat.le_trans h.size h'.size,h.rest.trans h'.rest⟩
def j8 (Z:aX) (e:Env) (w:World) (st:St) (v:Value):Slot→Prop
 | .box cs=> ∃aM,v=yJ cs aM∧nk Z e w aM cs∧(∀t dp,ak st.fr t= .box dp→e.B t≠aM)∧(∀f o,ay st.aE f=some o→(e.E f).ownBlock≠some aM)
 |s=>af e v s∧bJ st.fr s
section
variable {c:Ctx} {Z:aX} {e:Env} {st:St} {a:Act} {w:World}
theorem af.const {v:Value}:af e v (rM v):=by
 unfold rM
 split<;>simp only [af,aG,MV.one]<;>
  first
   |exact ⟨trivial,.b _⟩
   |exact ⟨trivial,.i _ _⟩
   |exact ⟨trivial,.s _⟩
   |exact ⟨trivial,.raw _ rfl⟩
theorem bn.eval (h:bn c Z e st a w) (x:Operand):af e (a.eval x) (aw c st x)∧bJ st.fr (aw c st x):=by
 cases x with
 |tmp t=>
  have hs:=h.slot t
  have hr:=h.root t
  simp only [Act.eval,aw]
  cases EL:Z8 c.par t with
  |some q=>
   simp only
   cases hq:qG q&&Nat.beq (posOf q) t with
   |false=>exact ⟨by simp [af],trivial⟩
   |true=>
    simp only [cond_true]
    simp only [Bool.and_eq_true] at hq
    have hqt:=Nat.eq_of_beq_eq_true hq.2
    have hsq:=h.slot q
    split
    ·rename_i cs hfq
     rw [hfq] at hsq
     cases hm:cX cs with
     |true=>exact ⟨by simp [af],trivial⟩
     |false=>
      obtain ⟨k1,k2⟩:=hsq.1.2 hq.1
      refine ⟨?_,by simp [bJ,hfq,bR]⟩
      show a.tmps.getD t undef=_
      rw [←hqt,h.defers.2.2.2 _ k1,k2]
    ·exact ⟨by simp [af],trivial⟩
  |none=>
  simp only
  generalize hf:ak st.fr t=s at hs hr
  cases s<;>simp only [bu] at hs<;>try exact ⟨hs,hr⟩
  ·rename_i cs
   cases Tg:qG t with
   |true=>simp only [cond_true];exact ⟨by simp [af],trivial⟩
   |false=>
   simp only [cond_false]
   cases hm:fG cs with
   |true=>simp only [hm,cond_true,af,bJ,hf,bR];exact ⟨by rw [hs.1.1 Tg,MQ hm],trivial⟩
   |false=>simp only [hm,cond_false,af,bJ,hf,bR];exact ⟨by rw [hs.1.1 Tg,Hk hm],trivial⟩
 |const v=>
  refine ⟨af.const,?_⟩
  simp only [aw]
  unfold rM
  split<;>trivial
 |func f=>
  simp only [Act.eval,aw,af,aG,MV.one,bJ,and_true,true_and]
  exact .func f _ #[] [] (by rw [h.key]) (by simpa using dU.nil) (by simp)
 |global g=>simp [aw,af,bJ]
end
theorem Act.ml {a:Act} {d t:Nat} {v:Value} (hd:d<a.tmps.size):(a.put (some d) v).tmps.getD t undef=if t=d then v else a.tmps.getD t undef:=by
 simp only [Act.put,Array.getD_eq_getD_getElem?,Array.getElem?_setIfInBounds]
 by_cases h:d=t
 ·subst h;simp [hd]
 ·have h': ¬t=d:=fun e=>h e.symm
  simp [h,h']
theorem MR {fr:Fr} {s:Slot} (h:bJ fr s):dj (fun _=>True) (fun r=>bR (ak fr r)=true) s:=by
 cases s<;>simp_all [bJ,dj,eG]
theorem Dw (r:Fr) (d:Nat) (s:Slot):aD (bF r d s)=if d∈aD r then aD r else aD r++[d]:=by
 induction r with
 |nil=>simp [bF,aD]
 |cons p r ih=>
  obtain ⟨k,x⟩:=p
  simp only [bF,cw]
  by_cases h:k=d
  ·simp [h,aD]
  ·have h': ¬d=k:=fun e=>h e.symm
   have ih':List.map Prod.fst (bF r d s)=if d∈aD r then aD r else aD r++[d]:=ih
   simp only [h,h',decide_false,cond_false,aD,List.map_cons,List.mem_cons,false_or,ih']
   by_cases hm:d∈aD r
   ·have Sb:d∈List.map Prod.fst r:=hm
    simp [hm,Sb,aD]
   ·have Sb:d∉List.map Prod.fst r:=hm
    simp [hm,Sb,aD]
theorem cL {r:Fr} {d:Nat} {s:Slot} (h:(aD r).Nodup):(aD (bF r d s)).Nodup:=by
 rw [Dw]
 by_cases hm:d∈aD r
 ·simpa [hm] using h
 ·simp only [hm,if_false]
  exact List.nodup_append.2 ⟨h,by simp,by intro x hx y hy;simp at hy;subst hy;intro e;subst e;exact hm hx⟩
section
variable {c:Ctx} {Z:aX} {e:Env} {st:St} {a:Act} {w:World} {R:Type} {K:St→Option R} {r:R}
def Env.uC (e:Env) (d aM:Nat):Env:={e with B:=fun t=>if t=d then aM else e.B t}
theorem nk.env {e e':Env} {aM:Nat} {cs:List av} (h:nk Z e w aM cs) (hk:e'.key=e.key) (hp:e'.φ=e.φ) (hE:e'.E=e.E) (hm:e'.m=e.m):nk Z e' w aM cs:=by
 refine ⟨h.bH,?_,fun off=>by rw [hp];exact h.free off⟩
 obtain ⟨o,h1,h2⟩:=h.obj
 refine ⟨o,h1,h2.on (S:=fun _=>True) (T:=fun _=>False) ⟨hk,by rw [hp];exact .refl _,by simp,?_⟩ (by intro l _ f _;trivial)⟩
 intro f o ho _
 exact ⟨o,by rw [←hm];exact ho,by rw [hE],rfl⟩
theorem b9.env {e e':Env} {v:Value} {o:jr} (h:b9 c Z e w v o) (hk:e'.key=e.key) (hp:e'.φ=e.φ):b9 c Z e' w v o:=by
 obtain ⟨I,cells,h1,h2,h3,h4,h5⟩:=h.row
 exact ⟨I,cells,h1,h2,h3,by rw [hk,hp];exact h4,by rw [hp];exact h5⟩
theorem nk.to {aM:Nat} {cs:List av} (h:nk Z e w aM cs) (t:Nat):nk (Z.bz t) e w aM cs:=⟨.inr h.bH,h.obj,h.free⟩
theorem b9.to {v:Value} {o:jr} {f:Nat} (h:b9 c Z.nc e w v o) (hf:f∉Z.bL):b9 c (Z.fz f) e w v o:=by
 obtain ⟨I,cells,h1,h2,h3,h4,h5⟩:=h.row
 exact ⟨I,cells,h1,h2,h3,h4,fun aM hb=>⟨.inr (h5 aM hb).1,(h5 aM hb).2.1,fun hc=>absurd hc hf⟩⟩
theorem bW {d:Option Nat} {s:Slot} {v:Value} (h:bn c Z e st a w) (hv:j8 Z e w st v s) (hK:aL c st d s K=some r):
 ∃e' bj,bn c Z e' bj (a.put d v) w∧K bj=some r∧e'.φ=e.φ:=by
 cases d with
 |none=>exact ⟨e,st,h,hK,rfl⟩
 |some d=>
  simp only [aL] at hK
  cases sU:qG d||(Nat.ble c.n d||bR (ak st.fr d)) with
  |true=>simp [sU] at hK
  |false=>
   obtain ⟨aah,hb⟩:=Bool.or_eq_false_iff.1 sU
   simp only [sU,cond_false,wr] at hK
   cases hp:aV st.bA d with
   |true=>simp [hp] at hK
   |false=>
    simp only [hp,cond_false,force_eq,gG] at hK
    simp only [Bool.or_eq_false_iff] at hb
    have WD:d<a.tmps.size:=by
     rw [h.size]
     have:=hb.1
     by_cases cA:d<c.n
     ·exact cA
     ·have:Nat.ble c.n d=true:=Nat.ble_eq_true_of_le (by omega)
      simp_all
    have hdp:d∉Z.bA:=by
     intro hm
     rw [←h.defers.2.1,←aW,hp] at hm;cases hm
    have WE: ∀fr:Fr,(a.put (some d) v).defers=[]∧({st with fr:=fr}:St).bA=Z.bA∧({st with fr:=fr}:St).bL=Z.bL∧ ∀t∈Z.bA,(a.put (some d) v).tmps.getD t undef=Z.T t:=by
     intro fr
     refine ⟨h.defers.1,h.defers.2.1,h.defers.2.2.1,fun t ht=> ?_⟩
     rw [Act.ml WD,if_neg (by intro e;subst e;exact hdp ht)]
     exact h.defers.2.2.2 t ht
    have jv: ∀t,dj (fun _=>True) (fun r=>r≠d) (ak st.fr t):=by
     intro t
     have:=MR (h.root t)
     generalize ak st.fr t=x at this
     cases x<;>simp_all [dj,eG]<;>(intro e;subst e;simp_all)
    by_cases hs: ∃cs,s= .box cs
    ·obtain ⟨cs,rfl⟩:=hs
     obtain ⟨aM,rfl,lF,L0,Th⟩:=hv
     have nU:fQ (fun _=>True) (fun r=>r≠d) e (e.uC d aM):=⟨rfl,.refl _,fun r hr=>by simp [Env.uC,hr],fun f o ho _=>⟨o,ho,rfl,rfl⟩⟩
     refine ⟨e.uC d aM,_,?_,hK,rfl⟩
     refine ⟨WE _,by simpa [Act.put] using h.size,h.m,h.key,cL h.nodup,?_,?_,?_,?_,?_,?_,h.jb,h.bH⟩
     ·intro t
      rw [Act.ml WD,bk]
      by_cases ht:t=d
      ·subst ht
       simp only [if_true,bu,Env.uC]
       exact ⟨.own aah rfl,(lF.to t).env rfl rfl rfl rfl⟩
      ·simp only [ht,if_false]
       have gJ:=h.slot t
       have jS:=jv t
       generalize ak st.fr t=x at gJ jS
       cases x<;>simp only [bu] at gJ⊢ <;>try exact gJ.on nU jS
       simp only [Env.uC,ht,if_false]
       exact ⟨gJ.1,gJ.2.env rfl rfl rfl rfl⟩
     ·intro t
      simp only [bk]
      by_cases ht:t=d
      ·simp [ht,bJ]
      ·simp only [ht,if_false]
       have jS:=h.root t
       have A9:=jv t
       generalize ak st.fr t=x at jS A9
       cases x<;>simp_all [bJ,bk,dj]
     ·intro f o ho;exact (h.dS f o ho).env rfl rfl
     ·intro t t' iB lp h1 h2 cm
      simp only [bk] at h1 h2
      simp only [Env.uC]
      by_cases ht:t=d
      ·by_cases tE:t'=d
       ·exact absurd (ht.trans tE.symm) cm
       ·simp only [tE,if_false] at h2
        simp only [ht,tE,if_true,if_false]
        exact fun e=>L0 t' lp h2 e.symm
      ·simp only [ht,if_false] at h1
       by_cases tE:t'=d
       ·simp only [ht,tE,if_true,if_false]
        exact L0 t iB h1
       ·simp only [tE,if_false] at h2
        simp only [ht,tE,if_false]
        exact h.bb t t' iB lp h1 h2 cm
     ·intro t iB f o h1 h2
      simp only [bk] at h1
      simp only [Env.uC]
      by_cases ht:t=d
      ·simp only [ht,if_true];exact Th f o h2
      ·simp only [ht,if_false] at h1⊢;exact h.bf t iB f o h1 h2
     ·exact h.ff
    ·have L1:af e v s∧bJ st.fr s:=by
      cases s<;>simp_all [j8]
     refine ⟨e,_,?_,hK,rfl⟩
     refine ⟨WE _,by simpa [Act.put] using h.size,h.m,h.key,cL h.nodup,?_,?_,h.dS,?_,?_,h.ff,h.jb,h.bH⟩
     ·intro t
      rw [Act.ml WD,bk]
      by_cases ht:t=d
      ·simp only [ht,if_true]
       cases s<;>simp only [bu]<;>first|exact L1.1|exact absurd ⟨_,rfl⟩ hs
      ·simp only [ht,if_false];exact h.slot t
     ·intro t
      simp only [bk]
      by_cases ht:t=d
      ·simp only [ht,if_true]
       have hr:=L1.2
       cases s<;>simp only [bJ,bk] at hr⊢
       ·rename_i r o
        by_cases Fb:r=d
        ·subst Fb;simp_all
        ·simp only [Fb,if_false];exact hr
       ·rename_i r
        by_cases Fb:r=d
        ·subst Fb;simp_all
        ·simp only [Fb,if_false];exact hr
       ·rename_i r o i
        by_cases Fb:r=d
        ·subst Fb;simp_all
        ·simp only [Fb,if_false];exact hr
      ·simp only [ht,if_false]
       have jS:=h.root t
       have A9:=jv t
       generalize ak st.fr t=x at jS A9
       cases x<;>simp_all [bJ,bk,dj]
     ·intro t t' iB lp h1 h2 cm
      simp only [bk] at h1 h2
      by_cases ht:t=d
      ·simp only [ht,if_true] at h1;exact absurd ⟨_,h1⟩ hs
      ·by_cases tE:t'=d
       ·simp only [tE,if_true] at h2;exact absurd ⟨_,h2⟩ hs
       ·simp only [ht,tE,if_false] at h1 h2
        exact h.bb t t' iB lp h1 h2 cm
     ·intro t iB f o h1 h2
      simp only [bk] at h1
      by_cases ht:t=d
      ·simp only [ht,if_true] at h1;exact absurd ⟨_,h1⟩ hs
      ·simp only [ht,if_false] at h1;exact h.bf t iB f o h1 h2
end
end Dn
/-
  Operations that change no memory: moves, numbers, texts, places. Conditions: none.
-/
set_option linter.unusedSimpArgs false
set_option linter.unusedVariables false
namespace Dn
open Go
def Out (c:Ctx) (Z:aX) {R:Type} (K:St→Option R) (r:R) (φ:Ph) (w:World) (a':Act) (w':World):Prop:=
 ∃e' bj,bn c Z e' bj a' w'∧Trans Z φ w e'.φ w'∧K bj=some r
section
variable {P:Program} {c:Ctx} {Z:aX} {e:Env} {st:St} {a:Act} {w:World} {R:Type} {K:St→Option R} {r:R} {Q:Exit→Act→World→Prop} {o:Oper}
theorem j8.of {s:Slot} {v:Value} (h:af e v s) (hr:bJ st.fr s):j8 Z e w st v s:=by
 cases s<;>first|exact ⟨h,hr⟩|(simp [af] at h)
theorem fin {e':Env} {bj:St} {w':World} {s:Slot} {v:Value} (bw:(execOp a.eval o).run P w= .ok (.value v) w') (hs:bn c Z e' bj a w')
 (ht:Trans Z e.φ w e'.φ w') (hv:j8 Z e' w' bj v s) (hK:aL c bj o.dst s K=some r):o.wp P a w (Out c Z K r e.φ w) Q:=by
 unfold Oper.wp
 rw [bw,Oper.upon_value]
 obtain ⟨e2,cr,h1,h2,h3⟩:=bW hs hv hK
 exact ⟨e2,cr,h1,by rw [h3];exact ht,h2⟩
theorem uD {e':Env} {bj:St} {w':World} (bw:(execOp a.eval o).run P w= .ok .skip w') (hs:bn c Z e' bj a w')
 (ht:Trans Z e.φ w e'.φ w') (hK:aL c bj o.dst (.sc .un) K=some r):o.wp P a w (Out c Z K r e.φ w) Q:=by
 unfold Oper.wp
 rw [bw,Oper.upon_skip]
 obtain ⟨e2,cr,h1,h2,h3⟩:=bW (v:=undef) hs (by simp [j8,af,bJ]) hK
 exact ⟨e2,cr,h1,by rw [h3];exact ht,h2⟩
theorem Ko {e':Env} {bj:St} {w':World} {s:Slot} {v:Value} (hg:cy w w') (bw:(execOp a.eval o).run P w= .ok (.value v) w') (hs:bn c Z e' bj a w')
 (ht:Trans Z e.φ w e'.φ w') (hv:j8 Z e' w' bj v s) (hK:aL c bj o.dst s K=some r):o.wp P a w (fun a' w'=>cy w w'∧Out c Z K r e.φ w a' w') Q:=by
 unfold Oper.wp
 rw [bw,Oper.upon_value]
 obtain ⟨e2,cr,h1,h2,h3⟩:=bW hs hv hK
 exact ⟨hg,e2,cr,h1,by rw [h3];exact ht,h2⟩
def Rd (P:Program) (c:Ctx) (Z:aX) {R:Type} (K:St→Option R) (r:R) (e:Env) (a:Act) (w:World) (o:Oper) (G:World→Prop):Prop:=
 ∃v,(∀w',G w'→(execOp a.eval o).run P w'= .ok (.value v) w')∧Out c Z K r e.φ w (a.put o.dst v) w
theorem Rd.wp {G:World→Prop} (h:Rd P c Z K r e a w o G) (hg:G w):o.wp P a w (Out c Z K r e.φ w) Q:=by
 obtain ⟨v,h1,h2⟩:=h
 unfold Oper.wp
 rw [h1 w hg,Oper.upon_value];exact h2
theorem Hm {G:World→Prop} {e':Env} {bj:St} {s:Slot} {v:Value} (bw: ∀w':World,G w'→(execOp a.eval o).run P w'= .ok (.value v) w') (hs:bn c Z e' bj a w)
 (ht:Trans Z e.φ w e'.φ w) (hv:j8 Z e' w bj v s) (hK:aL c bj o.dst s K=some r):Rd P c Z K r e a w o G:=by
 obtain ⟨e2,cr,h1,h2,h3⟩:=bW hs hv hK
 exact ⟨v,bw,e2,cr,h1,by rw [h3];exact ht,h2⟩
theorem ej {s:Slot} {v:Value} (h:bn c Z e st a w) (bw: ∀w':World,(execOp a.eval o).run P w'= .ok (.value v) w') (hv:af e v s) (hr:bJ st.fr s)
 (hK:aL c st o.dst s K=some r):Rd P c Z K r e a w o (fun _=>True):=
 Hm (fun w' _=>bw w') h (.refl _ _ _) (.of hv hr) hK
theorem qQ {v:Value} {x:Bool} (h:af e v (.sc (.p (.b x)))):v= .bool x:=by
 simp only [af,aG] at h
 obtain ⟨_,h⟩:=h
 generalize hv:[v]=vs at h
 cases h;simpa using hv
theorem fR {v:Value} {k:IntKind} {n:Int} (h:af e v (.sc (.p (.i k n)))):v= .int k n:=by
 simp only [af,aG] at h
 obtain ⟨_,h⟩:=h
 generalize hv:[v]=vs at h
 cases h;simpa using hv
theorem xf {v:Value} {l:List UInt8} (h:af e v (.sc (.p (.s l)))): ∃b:ByteArray,v= .string b∧l=b.data.toList:=by
 simp only [af,aG] at h
 obtain ⟨_,h⟩:=h
 generalize hv:[v]=vs at h
 cases h
 exact ⟨_,by simpa using hv,rfl⟩
theorem qC (x:Bool):af e (.bool x) (.sc (.p (.b x))):=by simp only [af,aG];exact ⟨rfl,.b x⟩
theorem lG (k:IntKind) (n:Int):af e (.int k n) (.sc (.p (.i k n))):=by simp only [af,aG];exact ⟨rfl,.i k n⟩
theorem MU (b:ByteArray):af e (.string b) (.sc (.p (.s b.data.toList))):=by simp only [af,aG];exact ⟨rfl,.s b⟩
theorem pv {v u:Value} (h:af e v (.sc (.p (.raw u)))):v=u:=by
 simp only [af,aG] at h
 obtain ⟨_,h⟩:=h
 generalize hv:[v]=vs at h
 cases h;simpa using hv
theorem yK (u:Value) (h:u.oneCell'=true):af e u (.sc (.p (.raw u))):=by simp only [af,aG];exact ⟨rfl,.raw u h⟩
theorem Dx {x:Operand} (ho:o.op= .move x∨o.op= .assign x) (h:bn c Z e st a w) (hK:aL c st o.dst (aw c st x) K=some r):
 Rd P c Z K r e a w o (fun _=>True):=by
 obtain ⟨h1,h2⟩:=h.eval x
 refine ej h ?_ h1 h2 hK
 rcases ho with ho|ho<;>simp [execOp,ho]
theorem Fc {x:Operand} (ho:o.op= .nilCheck x) (h:bn c Z e st a w)
 (hK:S7 (aw c st x) (fun s=>aL c st o.dst s K)=some r):Rd P c Z K r e a w o (fun _=>True):=by
 obtain ⟨h1,h2⟩:=h.eval x
 unfold S7 at hK
 split at hK
 ·rename_i dJ
  rw [dJ] at h1 h2
  refine ej h ?_ (v:=a.eval x) h1 h2 hK
  simp only [af] at h1
  simp [execOp,ho,h1]
 ·rename_i dJ
  rw [dJ] at h1 h2
  refine ej h ?_ (v:=a.eval x) h1 h2 hK
  simp only [af] at h1
  obtain ⟨aM,q,vs,Ba,h3⟩:=h1
  simp [execOp,ho,Ba]
 ·simp at hK
theorem Qe {x y z:Operand} (ho:o.op= .pick x y z) (h:bn c Z e st a w)
 (hK:Mq (aw c st x) (aw c st y) (aw c st z) (fun s=>aL c st o.dst s K)=some r):Rd P c Z K r e a w o (fun _=>True):=by
 obtain ⟨hx,_⟩:=h.eval x
 obtain ⟨hy,hy2⟩:=h.eval y
 obtain ⟨hz,WG⟩:=h.eval z
 have bw: ∀v,a.eval x= .bool v→ ∀w:World,(execOp a.eval o).run P w= .ok (.value (if v then a.eval y else a.eval z)) w:=by
  intro v hv w;simp [execOp,ho,hv,asBool]
 unfold Mq at hK
 split at hK
 ·rename_i v hv
  have Ti:=qQ (by rw [hv] at hx;exact hx)
  have hr:=bw v Ti
  split at hK
  ·rename_i p q hp hq
   rw [hp] at hy;rw [hq] at hz
   simp only [qQ hy,qQ hz] at hr
   refine ej h hr ?_ (s:= .sc (.p (.b (bif v then p else q)))) trivial hK
   cases v
   ·exact qC q
   ·exact qC p
  ·cases v
   ·exact ej h hr hz WG hK
   ·exact ej h hr hy hy2 hK
 ·simp at hK
theorem Qf {op:UnOp} {ty:TypeId} {x:Operand} (ho:o.op= .unOp op ty x) (h:bn c Z e st a w)
 (hK:unK op (aw c st x) (fun s=>aL c st o.dst s K)=some r):Rd P c Z K r e a w o (fun _=>True):=by
 obtain ⟨hx,_⟩:=h.eval x
 generalize aw c st x=s at hx hK
 unfold unK at hK
 split at hK
 ·refine ej h ?_ (qC _) trivial hK
  simp [execOp,ho,qQ hx,Op.unary]
 ·refine ej h ?_ (lG _ _) trivial hK
  simp [execOp,ho,fR hx,Op.unary,Op.intArith]
 ·simp at hK
end
end Dn
/-
  The type table; numbers, texts, places, loads. Conditions: none.
-/
set_option linter.unusedSimpArgs false
set_option linter.unusedVariables false
namespace Dn
open Go
def xP:List Kd→Nat
 |[]=>0
 | .h::r=>32+xP r
 |_::r=>1+xP r
def mn (ti:Nat→Option TI) (P:Program) (I:TI) (z:Option Value):TypeDesc→Prop
 | .struct fs=>I.st=true∧I.bX=[]∧(0<I.size∧xP I.lay=I.size)∧fs.toList.map (·.offset)=I.EW∧fs.toList.map (·.type)=I.Kf∧
  (∀(k:Nat) (f:Field),fs[k]? =some f→ ∃J,ti f.type=some J∧J.bX=[]∧0<J.size)∧
  ∃cs,z=some (.agg cs)∧nj I.zero cs.toList=true∧cs.size=I.size
 | .tuple ts=>I.bX=ts.toList∧I.bX≠[]∧I.lay=[]∧I.st=false
 | .slice el=>I.st=false∧I.bX=[]∧I.size=1∧I.elem=el∧(∃E,ti el=some E∧E.bX=[]∧0<E.size)∧z=some (.slice none 0 0)∧I.zero=[.nil]∧(∃k,I.lay=[k]∧k= .l)
 | .array n el=>I.st=false∧I.bX=[]∧I.size=32∧n=32∧I.elem=el∧(∃i,P.underlying el=some (.int .u8)∧P.info? el=some i∧i.size=1)∧I.lay=[.h]∧I.zero=[.hs fm.zero]∧z=some (.agg (aT fm.zero).toArray)
 | .bool=>I.st=false∧I.bX=[]∧I.size=1∧I.lay=[.b]∧I.zero=[.p (.b false)]∧z=some (.bool false)
 | .int k=>I.st=false∧I.bX=[]∧I.size=1∧I.lay=[.i k]∧I.zero=[.p (.i k 0)]∧z=some (.int k 0)
 | .string=>I.st=false∧I.bX=[]∧I.size=1∧I.lay=[.s]∧I.zero=[.p (.s [])]∧ ∃b:ByteArray,z=some (.string b)∧b.data.toList=[]
 |_=>I.st=false∧I.bX=[]∧I.size=1∧I.lay=[.raw]∧ ∃v,z=some v∧v.oneCell'=true∧nj I.zero [v]=true
def jV (ti:Nat→Option TI) (P:Program) (t:Nat) (I:TI):Prop:=
 ∃d i,P.underlying t=some d∧P.info? t=some i∧(I.bX=[]→i.size=I.size∧i.bytes=I.bytes)∧mn ti P I i.zero d
def fI (P:Program) (ti:Nat→Option TI):Prop:= ∀t I,ti t=some I→jV ti P t I
section
variable {P:Program} {c:Ctx} {Z:aX} {e:Env} {st:St} {a:Act} {w:World} {R:Type} {K:St→Option R} {r:R} {Q:Exit→Act→World→Prop} {o:Oper}
theorem ct {x:Bool} {k:Option R} (h:cE x k=some r):x=true∧k=some r:=by
 cases x
 ·simp [cE] at h
 ·exact ⟨rfl,h⟩
theorem jx {α:Type} {x:Option α} {k:α→Option R} (h:bd x k=some r): ∃y,x=some y∧k y=some r:=by
 cases x with
 |none=>simp [bd] at h
 |some y=>exact ⟨y,rfl,h⟩
theorem Fe {l:List MV} {i:Int} {k:MV→Option R} (h:idx l i k=some r):0≤i∧ ∃y,l[i.toNat]? =some y∧k y=some r:=by
 unfold idx S4 at h
 by_cases hi:0≤i
 ·simp only [hi,if_true] at h
  cases hl:l[i.toNat]? with
  |none=>simp [hl] at h
  |some y=>exact ⟨hi,y,rfl,by simpa [hl] using h⟩
 ·simp [hi] at h
theorem jV.agg {ti:Nat→Option TI} {t:Nat} {I:TI} (h:jV ti P t I) (hc:I.bX=[]):
 (∃d,P.underlying t=some d∧d.isRow=true∧(I.st=true∨I.st=false∧I.size=32))∨(∃d,P.underlying t=some d∧d.isRow=false∧I.st=false∧I.size=1):=by
 obtain ⟨d,i,h1,h2,h3,h4⟩:=h
 cases d<;>simp only [mn] at h4<;>first
  |exact .inl ⟨_,h1,rfl,.inl h4.1⟩
  |exact .inl ⟨_,h1,rfl,.inr ⟨h4.1,h4.2.2.1⟩⟩
  |exact .inr ⟨_,h1,rfl,h4.1,h4.2.2.1⟩
  |exact absurd hc h4.2.1
theorem jV.info {ti:Nat→Option TI} {t:Nat} {I:TI} (h:jV ti P t I) (hc:I.bX=[]):
 ∃i,P.info? t=some i∧i.size=I.size∧i.bytes=I.bytes:=by
 obtain ⟨d,i,h1,h2,h3,h4⟩:=h
 exact ⟨i,h2,h3 hc⟩
theorem bl {t:Nat} {I:TI} (h:c.tv t=some I):c.ti t=some I∧I.bX=[]:=by
 unfold Ctx.tv at h
 cases hc:c.ti t with
 |none=>simp [hc] at h
 |some J=>
  cases hj:J.bX with
  |nil=>simp [hc,hj] at h;subst h;exact ⟨rfl,hj⟩
  |cons x y=>simp [hc,hj] at h
theorem Hn {s t:TypeId} {x:Operand} {I:TI} (ho:o.op= .convert s t x) (hI:c.ti t=some I) (hT:fI P c.ti) (hs: ∃d,P.underlying s=some d) {fk:Option FloatKind} (yL: ∀k,fk=some k→P.underlying t=some (.float k)) (h:bn c Z e st a w)
 (hK:Mr I fk (aw c st x) (fun s=>aL c st o.dst s K)=some r):Rd P c Z K r e a w o (fun _=>True):=by
 obtain ⟨hx,_⟩:=h.eval x
 obtain ⟨ds,Zk⟩:=hs
 obtain ⟨d,i,h1,h2,h3,h4⟩:=hT t I hI
 generalize aw c st x=s' at hx hK
 unfold Mr at hK
 split at hK
 ·rename_i k k' n c8 EM hl
  have hd:d= .int k:=by
   cases d<;>simp only [mn,hl,c8,EM] at h4<;>simp_all
  subst hd
  refine ej h ?_ (lG _ _) trivial hK
  simp [execOp,ho,fR hx,convert,run_underlying Zk,run_underlying h1,Conv.intToInt]
 ·rename_i l c8 EM hl
  have hd:d= .string:=by
   cases d<;>simp only [mn,hl,c8,EM] at h4<;>simp_all
  subst hd
  obtain ⟨b,hb,rfl⟩:=xf hx
  refine ej h ?_ (MU b) trivial hK
  simp [execOp,ho,hb,convert,run_underlying Zk,run_underlying h1]
 ·rename_i k x c8 EM hl
  have hd:d= .int k:=by
   cases d<;>simp only [mn,hl,c8,EM] at h4<;>simp_all
  subst hd
  obtain ⟨n,hn,hK⟩:=jx hK
  obtain ⟨hr,hK⟩:=ct hK
  have hr:=of_decide_eq_true hr
  refine ej h ?_ (lG _ _) trivial hK
  simp [execOp,ho,pv hx,convert,run_underlying Zk,run_underlying h1,Conv.floatToInt,hn,hr]
 ·rename_i k n c8 EM hl
  split at hK
  ·have Ba:=yL _ rfl
   refine ej h ?_ (yK _ rfl) trivial hK
   simp [execOp,ho,fR hx,convert,run_underlying Zk,run_underlying Ba,Conv.intToFloat]
  ·simp at hK
 ·simp at hK
theorem Qg {op:BinOp} {k:IntKind} {x y:Int} {m:MV} {t:TypeId} (hm:I3 op k x y=some m):
 ∃v,(∀w:World,(binOp op t (.int k x) (.int k y)).run P w= .ok v w)∧af e v (.sc (.p m)):=by
 cases op<;>simp only [I3,Option.some.injEq,reduceCtorEq] at hm<;>subst hm
 ·exact ⟨_,by simp [binOp,Op.intArith],lG _ _⟩
 ·exact ⟨_,by simp [binOp,Op.intArith],lG _ _⟩
 ·exact ⟨_,by simp [binOp,Op.intArith],lG _ _⟩
 ·exact ⟨.int k (G5 k x y),fun w=>by simp [binOp];rfl,lG _ _⟩
 ·exact ⟨.int k (S5 k x y),fun w=>by simp [binOp];rfl,lG _ _⟩
 ·exact ⟨.int k (vY k x y),fun w=>by simp [binOp];rfl,lG _ _⟩
 ·refine ⟨.bool (decide (x=y)),fun w=> ?_,qC _⟩;simp [binOp,Op.intCmp];rfl
 ·refine ⟨.bool (!decide (x=y)),fun w=> ?_,qC _⟩;simp [binOp,Op.intCmp];rfl
 ·exact ⟨.bool (decide (x<y)),by simp [binOp,Op.intCmp],qC _⟩
 ·exact ⟨.bool (decide (x≤y)),by simp [binOp,Op.intCmp],qC _⟩
 ·exact ⟨.bool (decide (y<x)),by simp [binOp,Op.intCmp],qC _⟩
 ·exact ⟨.bool (decide (y≤x)),by simp [binOp,Op.intCmp],qC _⟩
theorem toList_data (b:ByteArray):b.toList=b.data.toList:=by
 exact ByteArray.toList_eq b
theorem Qh {op:BinOp} {x y:ByteArray} {m:MV} {t:TypeId} (hm:Dl op x.data.toList y.data.toList=some m):
 ∃v,(∀w:World,(binOp op t (.string x) (.string y)).run P w= .ok v w)∧af e v (.sc (.p m)):=by
 have aai:(x.data.toList==y.data.toList)=decide (x.data.toList=y.data.toList):=by
  rw [Bool.eq_iff_iff];simp
 cases op<;>simp only [Dl,Option.some.injEq,reduceCtorEq] at hm<;>subst hm<;>
  exact ⟨_,fun w=>by simp only [binOp,Op.stringOp,toList_data,aai];rfl,qC _⟩
theorem Kp (b:ByteArray) (n:Nat):b[n]? =b.data.toList[n]? :=by
 by_cases h:n<b.size
 ·have h2:n<b.data.toList.length:=by simpa using h
  rw [getElem?_pos b n h,List.getElem?_eq_getElem h2]
  rfl
 ·have h2: ¬n<b.data.toList.length:=by simpa using h
  rw [getElem?_neg b n h,List.getElem?_eq_none (by omega)]
theorem tF (x:fm) (n:Nat) (h:n<32):(aT x)[n]? =some (.int .u8 ((x.l.getD n 0).toNat:Int)):=by
 have hl:n<x.l.length:=by rw [x.h];exact h
 simp [aT,List.getElem?_map,List.getD,List.getElem?_eq_getElem hl]
theorem WH {t:TypeId} {x y:Operand} {I:TI} (ho:o.op= .index t x y) (hI:c.ti t=some I) (hT:fI P c.ti) (h:bn c Z e st a w)
 (hK:ixK I (aw c st x) (aw c st y) (fun s=>aL c st o.dst s K)=some r):Rd P c Z K r e a w o (fun _=>True):=by
 obtain ⟨hx,_⟩:=h.eval x
 obtain ⟨hy,_⟩:=h.eval y
 obtain ⟨d,i,h1,h2,h3,h4⟩:=hT t I hI
 generalize aw c st x=sx at hx hK
 generalize aw c st y=sy at hy hK
 unfold ixK at hK
 split at hK
 ·rename_i l k n c8 hl
  have hd:d= .string:=by
   cases d<;>simp only [mn,hl,c8] at h4<;>simp_all
  subst hd
  cases hc:decide ((0:Int)≤n∧n<(l.length:Int)) with
  |false=>simp [cE,hc] at hK
  |true=>
   simp only [cE,hc] at hK
   obtain ⟨L2,EN⟩:=of_decide_eq_true hc
   obtain ⟨b,hb,rfl⟩:=xf hx
   have cA:n.toNat<b.data.toList.length:=by omega
   refine ej h ?_ (lG .u8 ((b.data.toList.getD n.toNat 0).toNat:Int)) trivial hK
   have hg:b[n.toNat]? =some (b.data.toList.getD n.toNat 0):=by
    rw [Kp,List.getElem?_eq_getElem cA];simp [List.getD,List.getElem?_eq_getElem cA]
   simp [execOp,ho,hb,fR hy,Instr.index,run_underlying h1,asIntOf,L2,hg]
 ·rename_i b k n c8 hl
  cases d<;>simp only [mn,hl,c8] at h4<;>first|(exfalso;simp_all;done)|skip
  rename_i len el
  cases hc:decide ((0:Int)≤n∧n<32) with
  |false=>simp [cE,hc] at hK
  |true=>
   simp only [cE,hc] at hK
   obtain ⟨L2,EN⟩:=of_decide_eq_true hc
   simp only [af] at hx
   obtain ⟨_,_,_,rfl,_,⟨ie,hu,uo,qI⟩,_⟩:=h4
   refine ej h ?_ (lG .u8 ((b.l.getD n.toNat 0).toNat:Int)) trivial hK
   have hg:=tF b n.toNat (by omega)
   have Tj:(aT b).toArray[n.toNat]? =some (.int .u8 ((b.l.getD n.toNat 0).toNat:Int)):=by simpa using hg
   simp [execOp,ho,hx,fR hy,Instr.index,run_underlying h1,asIntOf,L2,EN,Go.part,isAgg,run_underlying hu,Go.sizeOf,typeInfo,uo,qI,hg,Tj]
 ·simp at hK
def Dy (P:Program) (ti:Nat→Option TI):Prop:= ∀t I,ti t=some I→I.bX=[]→ ∀(e:Env) (w:World) (vx vy:Value) (sx sy:Slot) (b:Bool),af e vx sx→af e vy sy→
 cZ I.lay (aA sx)=true→cZ I.lay (aA sy)=true→ik I.st sx=true→ik I.st sy=true→eE (aA sx) (aA sy)=some b→
 (∀k n k' n',sx= .sc (.p (.i k n))→sy= .sc (.p (.i k' n'))→False)→(∀l l',sx= .sc (.p (.s l))→sy= .sc (.p (.s l'))→False)→
 (Op.equal t vx vy).run P w= .ok b w∧ ∀(x y:Operand) (op:BinOp),(eqGuard op t x y vx vy).run P w= .ok () w∧(op= .eql→binOp op t vx vy=(do pure (.bool (←Op.equal t vx vy))))∧(op= .neq→binOp op t vx vy=(do pure (.bool (!(←Op.equal t vx vy)))))
theorem MW {op:BinOp} {t t':TypeId} {x y:Operand} (ho:o.op= .binOp op t x y t') (h:bn c Z e st a w)
 (hE:Dy P c.ti)
 (hK:S6 (c.tv t) op (aw c st x) (aw c st y) (fun s=>aL c st o.dst s K)=some r):Rd P c Z K r e a w o (fun _=>True):=by
 obtain ⟨hx,_⟩:=h.eval x
 obtain ⟨hy,_⟩:=h.eval y
 generalize hsx:aw c st x=sx at hx hK
 generalize hsy:aw c st y=sy at hy hK
 have bw: ∀v,(∀w:World,(binOp op t (a.eval x) (a.eval y)).run P w= .ok v w)→(∀cs,a.eval x≠ .agg cs)→a.eval x≠ .nilIface→ ∀w:World,(execOp a.eval o).run P w= .ok (.value v) w:=by
  intro v hv hna hni w
  have hg:(eqGuard op t x y (a.eval x) (a.eval y)).run P w= .ok () w:=by
   generalize a.eval x=va at hna hni
   generalize a.eval y=vb
   have hm: ∀(u v:Value),u=va→(∀cs,u≠ .agg cs)→u≠ .nilIface→(eqGuard op t x y u v).run P w= .ok () w:=by
    intro u v _ h1 h2
    cases u<;>first
     |exact absurd rfl h2
     |exact absurd rfl (h1 _)
     |(cases op<;>rfl)
   exact hm va vb rfl hna hni
  simp [execOp,ho,hg,hv]
 unfold S6 at hK
 split at hK
 ·rename_i k n k' n'
  have e1:=fR hx
  have e2:=fR hy
  split at hK
  ·cases hk:decide (k=k') with
   |false=>simp [hk] at hK
   |true=>
    have hk:=of_decide_eq_true hk
    subst hk
    simp only [decide_true,cond_true] at hK
    cases hz:decide (n'=0) with
    |true=>simp [cE,hz] at hK
    |false=>
     simp only [cE,hz,Bool.not_false] at hK
     have hz:=of_decide_eq_false hz
     refine ej h (bw _ ?_ (by simp [e1]) (by simp [e1])) (lG _ _) trivial hK
     simp [binOp,e1,e2,Op.intDiv,hz]
  ·cases hk:decide (k=k') with
   |false=>simp [hk] at hK
   |true=>
    have hk:=of_decide_eq_true hk
    subst hk
    simp only [decide_true,cond_true] at hK
    cases hz:decide (n'=0) with
    |true=>simp [cE,hz] at hK
    |false=>
     simp only [cE,hz,Bool.not_false] at hK
     have hz:=of_decide_eq_false hz
     refine ej h (bw _ ?_ (by simp [e1]) (by simp [e1])) (lG _ _) trivial hK
     simp [binOp,e1,e2,Op.intDiv,hz]
  ·cases hz:decide ((0:Int)≤n') with
   |false=>simp [cE,hz] at hK
   |true=>
    simp only [cE,hz] at hK
    have hz:=of_decide_eq_true hz
    refine ej h (bw _ ?_ (by simp [e1]) (by simp [e1])) (lG _ _) trivial hK
    have: ¬n'<0:=by omega
    simp [binOp,e1,e2,Op.shift,this]
  ·cases hz:decide ((0:Int)≤n') with
   |false=>simp [cE,hz] at hK
   |true=>
    simp only [cE,hz] at hK
    have hz:=of_decide_eq_true hz
    refine ej h (bw _ ?_ (by simp [e1]) (by simp [e1])) (lG _ _) trivial hK
    have: ¬n'<0:=by omega
    simp [binOp,e1,e2,Op.shift,this]
  ·cases hk:decide (k=k') with
   |false=>simp [hk] at hK
   |true=>
    have hk:=of_decide_eq_true hk
    subst hk
    simp only [decide_true,cond_true] at hK
    cases hm:I3 op k n n' with
    |none=>simp [hm] at hK
    |some m=>
     simp only [hm] at hK
     obtain ⟨v,hv,hr⟩:=Qg (P:=P) (e:=e) (t:=t) hm
     exact ej h (bw v (by rw [e1,e2];exact hv) (by simp [e1]) (by simp [e1])) hr trivial hK
 ·rename_i l l'
  obtain ⟨b,hb,rfl⟩:=xf hx
  obtain ⟨b',xQ,rfl⟩:=xf hy
  split at hK
  ·obtain ⟨hz,hK⟩:=ct hK
   ·have hz:=of_decide_eq_true hz
    have hr:af e (.string (b++b')) (.sc (.p (.s (b.data.toList++b'.data.toList)))):=by
     have:=MU (e:=e) (b++b')
     simpa [ByteArray.data_append] using this
    refine ej h (bw _ ?_ (by simp [hb]) (by simp [hb])) hr trivial hK
    have hs: ¬(((b.size+b'.size:Nat):Int)>IntKind.i64.max):=by
     have h1:b.size=b.data.toList.length:=by simp
     have h2:b'.size=b'.data.toList.length:=by simp
     have:IntKind.i64.max=9223372036854775807:=by decide
     rw [this];omega
    intro w
    simp only [binOp,hb,xQ,Op.stringOp,hs,if_false]
    rfl
  ·cases hm:Dl op b.data.toList b'.data.toList with
   |none=>simp [hm] at hK
   |some m=>
    simp only [hm] at hK
    obtain ⟨v,hv,hr⟩:=Qh (P:=P) (e:=e) (t:=t) hm
    exact ej h (bw v (by rw [hb,xQ];exact hv) (by simp [hb]) (by simp [hb])) hr trivial hK
 ·have e1:=pv hx
  have e2:=pv hy
  obtain ⟨r',Tk,hK⟩:=jx hK
  refine ej h (bw _ ?_ (by simp [e1]) (by simp [e1])) (yK (.float .f64 r') rfl) trivial hK
  intro w
  cases op<;>simp only [Wt,reduceCtorEq] at Tk<;>simp [binOp,e1,e2,Op.floatArith,Tk]
 ·rename_i EN Dz hn3
  split at hK
  ·rename_i I hI
   obtain ⟨Ho,GU⟩:=bl hI
   cases hf:cZ I.lay (aA sx)&&cZ I.lay (aA sy)&&(ik I.st sx&&ik I.st sy) with
   |false=>simp [hf] at hK
   |true=>
    simp only [hf,cond_true] at hK
    simp only [Bool.and_eq_true] at hf
    obtain ⟨hf,MX⟩:=hf
    split at hK
    ·cases hm:eE (aA sx) (aA sy) with
     |none=>simp [hm] at hK
     |some b=>
      simp only [hm] at hK
      refine ej h ?_ (qC b) trivial hK
      intro w
      obtain ⟨h1,h2⟩:=hE t I Ho GU e w _ _ sx sy b hx hy hf.1 hf.2 MX.1 MX.2 hm EN Dz
      have:=(h2 x y .eql).1
      simp [execOp,ho,this,(h2 x y .eql).2.1 rfl,h1]
    ·cases hm:eE (aA sx) (aA sy) with
     |none=>simp [hm] at hK
     |some b=>
      simp only [hm] at hK
      refine ej h ?_ (qC (!b)) trivial hK
      intro w
      obtain ⟨h1,h2⟩:=hE t I Ho GU e w _ _ sx sy b hx hy hf.1 hf.2 MX.1 MX.2 hm EN Dz
      have:=(h2 x y .neq).1
      simp [execOp,ho,this,(h2 x y .neq).2.2 rfl,h1]
    ·simp at hK
  ·simp at hK
end
end Dn
/-
  Lengths, parts, places, loads. Conditions: none.
-/
set_option linter.unusedSimpArgs false
set_option linter.unusedVariables false
namespace Dn
open Go
section
variable {P:Program} {c:Ctx} {Z:aX} {e:Env} {st:St} {a:Act} {w:World} {R:Type} {K:St→Option R} {r:R} {Q:Exit→Act→World→Prop} {o:Oper}
theorem cell_of {aM:Nat} {arr:Array Value} {T:TypeId} {fr:Nat×Nat} (h:w.heap[aM]? =some (.cells arr T fr)) (j:Nat):w.cell? ⟨aM,j,none⟩=arr[j]? :=by
 simp [World.cell?,h]
theorem mq {t:TypeId} {I:TI} {aM off:Nat} {vs:List Value} (hr:jV c.ti P t I) (hc:I.bX=[]) (hl:vs.length=I.size) (hm:w.rangeAt aM off vs):
 ((I.st=true∨I.size=32)∧ ∀w:World,w.rangeAt aM off vs→(Instr.loadAt t (.pointer (some ⟨aM,off,none⟩))).run P w= .ok (.agg vs.toArray) w)∨
 (I.st=false∧ ∃v,vs=[v]∧ ∀w:World,w.rangeAt aM off vs→(Instr.loadAt t (.pointer (some ⟨aM,off,none⟩))).run P w= .ok v w):=by
 obtain ⟨i,hi,hs,_⟩:=hr.info hc
 rcases hr.agg hc with ⟨d,hu,hd,hh⟩|⟨d,hu,hd,h1,h2⟩
 ·refine .inl ⟨hh.imp id (·.2),fun w hm=> ?_⟩
  exact run_loadAt_mid w aM off t vs d hm hu hd (by simp [hi,hs,hl])
 ·refine .inr ⟨h1,?_⟩
  rw [h2] at hl
  obtain ⟨v,rfl⟩:=List.length_eq_one_iff.1 hl
  refine ⟨v,rfl,fun w hm=> ?_⟩
  have nm:w.cell? ⟨aM,off,none⟩=some v:=hm 0 v rfl
  have Tl:(isAgg t).run P w= .ok false w:=by
   unfold isAgg
   rw [Sem.run_bind,run_underlying hu w]
   cases d<;>simp_all
  simp [Instr.loadAt,Instr.sureAddr,loadVar,Tl,nm]
theorem aG.slot {vs:List Value} {l:av} {v:Value} (h:aG e vs l) (hv:(vs=[v]∧l.w=1)∨(v= .agg vs.toArray∧l.w=32)):af e v (.sc l):=by
 rcases hv with ⟨rfl,hw⟩|⟨rfl,hw⟩
 ·cases l<;>simp [af,av.w] at hw⊢ <;>exact h
 ·cases l<;>simp [av.w] at hw
  simp only [af]
  have:vs=aT _:=h
  rw [this]
theorem eX {t:TypeId} {I:TI} {cs:List av} {aM base off:Nat} {vs:List Value} {s:Slot} {K':Slot→Option R} (hr:jV c.ti P t I) (hc:I.bX=[])
 (hv:ap e vs cs) (hm:w.rangeAt aM base vs) (hK:fq I cs off K'=some r):
 ∃v s,(∀w:World,w.rangeAt aM base vs→(Instr.loadAt t (.pointer (some ⟨aM,base+off,none⟩))).run P w= .ok v w)∧af e v s∧bJ st.fr s∧K' s=some r:=by
 unfold fq at hK
 cases c8:I.st with
 |true=>
  simp only [c8,cond_true] at hK
  cases hp:Dn.part cs off I.size with
  |none=>simp [hp] at hK
  |some ds=>
   simp only [hp] at hK
   obtain ⟨v1,v2,v3,rfl,h1,h2,h3⟩:=Cc hp hv
   have Jc: ∀w:World,w.rangeAt aM base (v1++v2++v3)→w.rangeAt aM (base+off) v2:=by
    intro w hm j v hj
    have GV:j<v2.length:=(List.getElem?_eq_some_iff.1 hj).1
    have:=hm (off+j) v (by rw [List.append_assoc,List.getElem?_append_right (by omega),List.getElem?_append_left (by omega)];rw [show off+j-v1.length=j by omega];exact hj)
    rwa [←Nat.add_assoc] at this
   rcases mq hr hc h2 (Jc w hm) with ⟨_,bw⟩|⟨hf,_⟩
   ·refine ⟨_,.ag ds,fun w hm=>bw w (Jc w hm),?_,trivial,hK⟩
    simp only [af]
    exact ⟨_,rfl,by simpa using h3⟩
   ·rw [c8] at hf;cases hf
 |false=>
  simp only [c8,cond_false] at hK
  cases hp:cut cs off with
  |none=>simp [hp] at hK
  |some ds=>
   cases ds with
   |nil=>simp [hp] at hK
   |cons l ls=>
    simp only [hp] at hK
    cases hb:Nat.beq l.w I.size with
    |false=>simp [hb] at hK
    |true=>
     simp only [hb,cond_true] at hK
     have hw:=Nat.eq_of_beq_eq_true hb
     obtain ⟨v1,v2,rfl,h1,h2⟩:=qP hp hv
     obtain ⟨u,u2,rfl,h3,h4⟩:=h2
     have Jc: ∀w:World,w.rangeAt aM base (v1++(u++u2))→w.rangeAt aM (base+off) u:=by
      intro w hm j v hj
      have GV:j<u.length:=(List.getElem?_eq_some_iff.1 hj).1
      have:=hm (off+j) v (by rw [List.getElem?_append_right (by omega),List.getElem?_append_left (by omega)];rw [show off+j-v1.length=j by omega];exact hj)
      rwa [←Nat.add_assoc] at this
     rcases mq hr hc (by rw [h3.width,hw]) (Jc w hm) with ⟨hh,bw⟩|⟨_,v,Hp,bw⟩
     ·refine ⟨_,.sc l,fun w hm=>bw w (Jc w hm),h3.slot (.inr ⟨rfl,?_⟩),trivial,hK⟩
      rcases hh with hh|hh
      ·rw [c8] at hh;cases hh
      ·rw [hw,hh]
     ·refine ⟨_,.sc l,fun w hm=>bw w (Jc w hm),h3.slot (.inl ⟨Hp,?_⟩),trivial,hK⟩
      rw [←h3.width,Hp];rfl
theorem aQ.at {key:Nat→Nat} {φ:Ph} {size:Nat} {xs:List MV}: ∀{cs:List Value} {i:Nat} {x:MV},aQ key φ size cs xs→xs[i]? =some x→
 ∃a v b,cs=a++v++b∧a.length=i *size∧v.length=size∧gE key φ v x:=by
 induction xs with
 |nil=>intro cs i x _ hx;simp at hx
 |cons y ys ih=>
  intro cs i x h hx
  obtain ⟨v,q,rfl,hl,hr,he⟩:=h
  cases i with
  |zero=>simp at hx;subst hx;exact ⟨[],v,q,by simp,by simp,hl,hr⟩
  |succ i=>
   obtain ⟨a,u,b,rfl,h1,h2,h3⟩:=ih he (by simpa using hx)
   exact ⟨v++a,u,b,by simp,by simp [hl,h1,Nat.succ_mul,Nat.add_comm],h2,h3⟩
theorem dU.leaves {ms:List MV}: ∀{vs:List Value} {cs:List av},dU e.key e.φ vs ms→aZ cs=some ms→(∀m,av.p m∈cs→m.one=true)→ap e vs cs:=by
 induction ms with
 |nil=>
  intro vs cs h hc _
  cases h
  cases cs with
  |nil=>rfl
  |cons l r=>
   cases hr:aZ r<;>cases l<;>simp [aZ,hr] at hc
 |cons m ms ih=>
  intro vs cs h hc ho
  cases cs with
  |nil=>simp [aZ] at hc
  |cons l r=>
   generalize rR:vs=GW at h
   cases h with
   |cons v _ vs _ h1 h2=>
   subst rR
   cases hr:aZ r with
   |none=>cases l<;>simp [aZ,hr] at hc
   |some q=>
    have bN: ∀m,av.p m∈r→m.one=true:=fun m hm=>ho m (by simp [hm])
    cases l<;>simp [aZ,hr] at hc
    ·obtain ⟨rfl,rfl⟩:=hc
     exact ⟨v,vs,rfl,⟨ho _ (by simp),h1⟩,ih h2 hr bN⟩
    ·obtain ⟨rfl,rfl⟩:=hc
     refine ⟨v,vs,rfl,?_,ih h2 hr bN⟩
     generalize hv:v=v' at h1
     cases h1
     exact rfl
theorem gE.yM {vs:List Value} {x:MV} {b:Bool} {cs:List av} (h:gE e.key e.φ vs x) (hc:yC b x cs):ap e vs cs:=by
 obtain ⟨⟨ms,h1,h2⟩,h3⟩:=hc
 cases b with
 |true=>
  cases ms<;>simp [nQ] at h2<;>subst h2<;>(generalize hv:vs=v' at h;cases h;subst hv;rename_i hh;exact hh.leaves h1 h3)
 |false=>
  cases ms with
  |nil=>simp [nQ] at h2
  |cons m ms=>
   cases ms with
   |cons y ys=>simp [nQ] at h2
   |nil=>
    simp [nQ] at h2
    subst h2
    have:dU e.key e.φ (vs++[]) [m]:= .cons vs m [] [] h .nil
    rw [List.append_nil] at this
    exact this.leaves h1 h3
theorem MY {t:TypeId} {x:Operand} {I:TI} {cs:List av} {off:Nat} (ho:o.op= .load t x) (hI:c.tv t=some I) (hT:fI P c.ti) (h:bn c Z e st a w) (yN:aw c st x= .rp cs off)
 (hK:fq I cs off (fun s=>aL c st o.dst s K)=some r):Rd P c Z K r e a w o (fun w'=> ∀b q v,e.φ b q=some v→w'.cell? ⟨b,q,none⟩=some v):=by
 obtain ⟨hx,jS⟩:=h.eval x
 obtain ⟨jy,hc⟩:=bl hI
 have hr:=hT t I jy
 rw [yN] at hx
 simp only [af] at hx
 obtain ⟨aM,q,vs,hx,lg,_,wg⟩:=hx
 have hm: ∀w':World,(∀b q v,e.φ b q=some v→w'.cell? ⟨b,q,none⟩=some v)→w'.rangeAt aM q vs:=by
  intro w' hi j v hj
  have GV:j<vs.length:=(List.getElem?_eq_some_iff.1 hj).1
  exact hi _ _ _ (by rw [wg j GV];exact hj)
 obtain ⟨v,s,h1,h2,h3,h4⟩:=eX (st:=st) (s:= .skip) hr hc lg (hm w h.jb) hK
 refine Hm (fun w' hi=> ?_) h (.refl _ _ _) (.of h2 h3) h4
 simp [execOp,ho,hx,h1 w' (hm w' hi)]
theorem Qi {t:TypeId} {x:Operand} {I:TI} (ho:o.op= .load t x) (hI:c.tv t=some I) (hT:fI P c.ti) (h:bn c Z e st a w)
 (hK:Z9 st I (aw c st x) (fun s=>aL c st o.dst s K)=some r):Rd P c Z K r e a w o (cy w):=by
 obtain ⟨hx,jS⟩:=h.eval x
 obtain ⟨jy,hc⟩:=bl hI
 have hr:=hT t I jy
 have Qj: ∀v s,(∀w':World,cy w w'→(Instr.loadAt t (a.eval x)).run P w'= .ok v w')→af e v s→bJ st.fr s→aL c st o.dst s K=some r→Rd P c Z K r e a w o (cy w):=by
  intro v s h1 h2 h3 h4
  refine Hm (fun w' hg=> ?_) h (.refl _ _ _) (.of h2 h3) h4
  simp [execOp,ho,h1 w' hg]
 have keep: ∀{w':World} {aM off:Nat} {vs:List Value},cy w w'→w.rangeAt aM off vs→w'.rangeAt aM off vs:=by
  intro w' aM off vs hg hm j v hj
  exact hg.cell (hm j v hj)
 generalize aw c st x=s at hx hK jS
 unfold Z9 at hK
 split at hK
 ·rename_i root off
  simp only [af] at hx
  have gJ:=h.slot root
  split at hK
  ·rename_i cs qR
   rw [qR] at gJ
   have od:cX cs=false:=by cases hq:cX cs<;>simp_all
   simp only [od,cond_false] at hK
   obtain ⟨_,lF⟩:=gJ
   obtain ⟨arr,T,cB,lg⟩:=lF.cells od
   have hm:w.rangeAt (e.B root) 0 arr.toList:=by
    intro j v hj
    rw [Nat.zero_add,cell_of cB];simpa using hj
   obtain ⟨v,s,h1,h2,h3,h4⟩:=eX (st:=st) (s:= .skip) hr hc lg hm hK
   rw [Nat.zero_add] at h1
   exact Qj v s (fun w' hg=>by rw [hx];exact h1 w' (keep hg hm)) h2 h3 h4
  ·simp at hK
 ·rename_i cs off
  simp only [af] at hx
  obtain ⟨aM,q,vs,hx,lg,_,wg⟩:=hx
  have hm:w.rangeAt aM q vs:=by
   intro j v hj
   have GV:j<vs.length:=(List.getElem?_eq_some_iff.1 hj).1
   exact h.jb _ _ _ (by rw [wg j GV];exact hj)
  obtain ⟨v,s,h1,h2,h3,h4⟩:=eX (st:=st) (s:= .skip) hr hc lg hm hK
  exact Qj v s (fun w' hg=>by rw [hx];exact h1 w' (keep hg hm)) h2 h3 h4
 ·rename_i f i off b cs
  cases hf:ay st.aE f with
  |none=>simp [hf] at hK
  |some o'=>
   simp only [hf] at hK
   simp only [af] at hx
   obtain ⟨aM,cap,hE,⟨x,hxi,Sc⟩,hx⟩:=hx o' (by rw [h.m];exact hf)
   obtain ⟨J,cells,hJ,Sd,cC,jz,_⟩:=(h.dS f o' hf).row
   obtain ⟨p1,v1,p2,rfl,Hq,uB,dt⟩:=jz.at hxi
   have lg:=dt.yM Sc
   rw [hE] at cC
   have nm:=cC.cells (g:=aM) rfl
   have hm:w.rangeAt aM (i *qL cs) v1:=by
    intro j v hj
    have GV:j<v1.length:=(List.getElem?_eq_some_iff.1 hj).1
    have:=nm (i *J.size+j) v (by rw [List.append_assoc,List.getElem?_append_right (by omega),List.getElem?_append_left (by omega)];rw [show i *J.size+j-p1.length=j by omega];exact hj)
    rw [Addr.add_mid,Nat.zero_add] at this
    rw [←lg.width,uB];exact this
   obtain ⟨v,s,h1,h2,h3,h4⟩:=eX (st:=st) (s:= .skip) hr hc lg hm hK
   exact Qj v s (fun w' hg=>by rw [hx];exact h1 w' (keep hg hm)) h2 h3 h4
 ·rename_i root off i
  simp only [af] at hx
  obtain ⟨hx,Hr⟩:=hx
  have gJ:=h.slot root
  cases hb:I.st||!Nat.beq I.size 1 with
  |true=>simp [hb] at hK
  |false=>
   simp only [hb,cond_false] at hK
   simp only [Bool.or_eq_false_iff,Bool.not_eq_false'] at hb
   have lh:=Nat.eq_of_beq_eq_true hb.2
   split at hK
   ·rename_i cs qR
    rw [qR] at gJ
    have od:cX cs=false:=by cases hq:cX cs<;>simp_all
    simp only [od,cond_false] at hK
    obtain ⟨_,lF⟩:=gJ
    obtain ⟨arr,T,cB,lg⟩:=lF.cells od
    split at hK
    ·rename_i b ls Tn
     obtain ⟨v1,v2,aaj,h1,h2⟩:=qP Tn lg
     obtain ⟨u,u2,rfl,h3,h4⟩:=h2
     have h3:u=aT b:=h3
     subst h3
     have hg:=tF b i Hr
     have hlen:=bZ b
     have hm:w.rangeAt (e.B root) (off+i) [.int .u8 ((b.l.getD i 0).toNat:Int)]:=by
      intro j v hj
      cases j with
      |succ j=>simp at hj
      |zero=>
       simp at hj
       rw [Nat.add_zero,cell_of cB]
       have:arr[off+i]? =arr.toList[off+i]? :=by simp
       rw [this,aaj,List.getElem?_append_right (by omega),List.getElem?_append_left (by omega),show off+i-v1.length=i by omega,hg,←hj]
       simp [List.getD]
     rcases mq hr hc (by simp [lh]) hm with ⟨hh,_⟩|⟨_,v,Hp,bw⟩
     ·rcases hh with hh|hh
      ·rw [hb.1] at hh;cases hh
      ·omega
     ·simp at Hp
      subst Hp
      exact Qj _ _ (fun w' hg=>by rw [hx];exact bw w' (keep hg hm)) (lG _ _) trivial hK
    ·simp at hK
   ·simp at hK
 ·simp at hK
theorem Kq {t:TypeId} {x:Operand} {f:Nat} {I:TI} (ho:o.op= .fieldAddr t x f) (hI:c.tv t=some I) (hT:fI P c.ti) (h:bn c Z e st a w)
 (hK:Mt st I f (aw c st x) (fun s=>aL c st o.dst s K)=some r):Rd P c Z K r e a w o (fun _=>True):=by
 obtain ⟨hx,jS⟩:=h.eval x
 obtain ⟨jy,hc⟩:=bl hI
 obtain ⟨d,i,h1,h2,h3,h4⟩:=hT t I jy
 have key: ∀q aM off,I.st=true→I.EW[f]? =some q→a.eval x= .pointer (some ⟨aM,off,none⟩)→
  ∀w:World,(execOp a.eval o).run P w= .ok (.value (.pointer (some ⟨aM,off+q,none⟩))) w:=by
  intro q aM off c8 hq hv w
  cases d<;>simp only [mn] at h4
  case struct fs=>
   obtain ⟨_,_,_,Kr,bN,L3,_⟩:=h4
   rw [←Kr,List.getElem?_map] at hq
   cases hf:fs.toList[f]? with
   |none=>simp [hf] at hq
   |some fl=>
    simp [hf] at hq
    subst hq
    have PX:fs[f]? =some fl:=by simpa using hf
    obtain ⟨J,hJ,Sd,hJs⟩:=L3 f fl PX
    obtain ⟨ij,hij,hs,_⟩:=(hT _ _ hJ).info Sd
    have hz:ij.size≠0:=by omega
    simp [execOp,ho,hv,Instr.fieldAt,run_underlying h1,PX,Instr.sureAddr,fieldPlace,Go.sizeOf,typeInfo,hij,hz,Addr.add_mid]
  all_goals (exfalso;simp_all)
 generalize aw c st x=s at hx hK jS
 unfold Mt at hK
 split at hK
 ·rename_i q r' o' c8 hq
  simp only [af] at hx
  refine ej (s:= .ptr r' (o'+q)) h (key q _ _ c8 hq hx) ?_ jS hK
  simp only [af]
 ·rename_i q cs o' c8 hq
  simp only [af] at hx
  obtain ⟨aM,b,vs,hx,hh⟩:=hx
  refine ej (s:= .rp cs (o'+q)) h (key q _ _ c8 hq hx) ?_ trivial hK
  simp only [af]
  exact ⟨aM,b,vs,by rw [Nat.add_assoc],hh⟩
 ·rename_i q g i' o' b cs c8 hq
  cases hf:ay st.aE g with
  |none=>simp [hf] at hK
  |some w'=>
   simp only [hf] at hK
   simp only [af] at hx
   obtain ⟨aM,cap,h5,h6,h7⟩:=hx w' (by rw [h.m];exact hf)
   refine ej (s:= .ep g i' (o'+q) b cs) h (key q _ _ c8 hq h7) ?_ trivial hK
   simp only [af]
   intro o2 bN
   rw [h.m,hf] at bN
   cases bN
   exact ⟨aM,cap,h5,h6,by rw [Nat.add_assoc]⟩
 ·simp at hK
theorem To {x:Operand} {k:Nat} (ho:o.op= .extract x k) (h:bn c Z e st a w)
 (hK:Tb (aw c st x) k (fun s=>aL c st o.dst s K)=some r):Rd P c Z K r e a w o (fun _=>True):=by
 obtain ⟨hx,jS⟩:=h.eval x
 generalize aw c st x=s at hx hK
 unfold Tb at hK
 split at hK
 ·rename_i vs
  simp only [af] at hx
  obtain ⟨arr,hv,hs⟩:=hx
  cases hk:vs[k]? with
  |none=>simp [hk] at hK
  |some s=>
   simp only [hk] at hK
   have: ∀(k:Nat) (vs:List Slot) (l:List Value),fw e l vs→vs[k]? =some s→ ∃v,l[k]? =some v∧af e v s∧sR s=true:=by
    intro k
    induction k with
    |zero=>
     intro vs l hl hk
     cases vs with
     |nil=>simp at hk
     |cons y ys=>
      simp at hk
      subst hk
      simp only [fw] at hl
      obtain ⟨v,q,rfl,h1,h2,_⟩:=hl
      exact ⟨v,rfl,h1,h2⟩
    |succ k ih=>
     intro vs l hl hk
     cases vs with
     |nil=>simp at hk
     |cons y ys=>
      simp only [fw] at hl
      obtain ⟨v,q,rfl,_,_,h3⟩:=hl
      obtain ⟨u,h4,h5⟩:=ih ys q h3 (by simpa using hk)
      exact ⟨u,by simpa using h4,h5⟩
   obtain ⟨v,L4,h1,h2⟩:=this k vs arr.toList hs hk
   have WI:arr[k]? =some v:=by simpa using L4
   refine ej h ?_ h1 ?_ hK
   ·simp [execOp,ho,hv,Instr.extract,WI]
   ·cases s<;>simp [sR] at h2<;>trivial
 ·simp at hK
end
end Dn
/-
  Operations that make memory: variables. Conditions: none.
-/
set_option linter.unusedSimpArgs false
set_option linter.unusedVariables false
namespace Dn
open Go
section
variable {P:Program} {c:Ctx} {Z:aX} {e:Env} {st:St} {a:Act} {w w':World} {R:Type} {K:St→Option R} {r:R} {Q:Exit→Act→World→Prop} {o:Oper}
theorem cy.refl (w:World):cy w w:=⟨Nat.le_refl _,fun _ _=>rfl,.refl _⟩
theorem cy.alloc (w:World) (cs:Array Value) (t:TypeId):cy w (w.alloc (.cells cs t)):=⟨by simp,fun b hb=>kA w _ b hb,.alloc w cs t⟩
theorem cy.aak (g:cy w w') {base:Nat} {t:TypeId} {size:Nat} {v:Value} {n:Nat} {xs:List Value} (h:w.ownsRow base t size v n xs):w'.ownsRow base t size v n xs:=by
 refine ⟨h.1,?_⟩
 rcases h.2 with h|⟨b,cap,c9,h1,h2,h3,h4⟩
 ·exact .inl h
 ·exact .inr ⟨b,cap,c9,h1,h2,by rw [g.nT b (aN h3)];exact h3,h4⟩
theorem nk.grow (g:cy w w') {aM:Nat} {cs:List av} (h:nk Z e w aM cs):nk Z e w' aM cs:=by
 obtain ⟨o,h1,h2⟩:=h.obj
 exact ⟨h.bH,⟨o,by rw [g.nT _ (aN h1)];exact h1,h2⟩,h.free⟩
theorem b9.grow (g:cy w w') {v:Value} {f:jr} (h:b9 c Z e w v f):b9 c Z e w' v f:=by
 obtain ⟨I,cells,h1,h2,h3,h4,h5⟩:=h.row
 exact ⟨I,cells,h1,h2,g.aak h3,h4,h5⟩
theorem bn.grow (g:cy w w') (h:bn c Z e st a w):bn c Z e st a w':=by
 refine ⟨h.defers,h.size,h.m,h.key,h.nodup,?_,h.root,fun f o ho=>(h.dS f o ho).grow g,h.bb,h.bf,h.ff,fun b o v hv=>g.cell (h.jb b o v hv),fun b hb=>h.bH b (Nat.le_trans g.size hb)⟩
 intro t
 have hs:=h.slot t
 generalize ak st.fr t=s at hs
 cases s<;>simp only [bu] at hs⊢ <;>first|exact hs|exact ⟨hs.1,hs.2.grow g⟩
theorem cy.trans (g:cy w w') (hz: ∀b,w.heap.size≤b→Z b) (φ:Ph):Trans Z φ w φ w':=
 ⟨.refl φ,fun b _ hl=>g.nT b hl,fun _ _ _=>rfl,g.size,g.rest⟩
theorem Ks {l:av} {vs:List Value} (h:MJ l vs=true):aG e vs l:=by
 unfold MJ at h
 split at h
 ·simp at h;subst h;exact ⟨rfl,.b _⟩
 ·simp at h;obtain ⟨rfl,rfl⟩:=h;exact ⟨rfl,.i _ _⟩
 ·simp at h;subst h;exact ⟨rfl,.s _⟩
 ·split at h
  ·exact ⟨rfl,.raw _ rfl⟩
  ·exact ⟨rfl,.raw _ rfl⟩
  ·exact ⟨rfl,.raw _ rfl⟩
  ·simp at h
 ·rfl
 ·exact ⟨_,rfl,h⟩
 ·rename_i x
  simp only [Bool.and_eq_true,beq_iff_eq] at h
  obtain ⟨h1,h2⟩:=h
  show vs=aT x
  apply List.ext_getElem?
  intro j
  by_cases hj:j<32
  ·rw [tF x j hj]
   have hjv:j<vs.length:=by omega
   have Bb:j<x.l.length:=by rw [x.h];exact hj
   rw [List.all_eq_true] at h2
   have hm:(vs[j],x.l[j])∈vs.zip x.l:=List.mem_iff_getElem.2 ⟨j,by simp;omega,by simp⟩
   have:=h2 _ hm
   rw [List.getElem?_eq_getElem hjv]
   dsimp only at this
   split at this
   ·rename_i n hn
    rw [hn,of_decide_eq_true this]
    simp [List.getD,List.getElem?_eq_getElem Bb]
   ·simp at this
  ·rw [List.getElem?_eq_none (by omega),List.getElem?_eq_none (by rw [bZ];omega)]
 ·simp at h
theorem fY {ls:List av}: ∀{vs:List Value},nj ls vs=true→ap e vs ls:=by
 induction ls with
 |nil=>intro vs h;simpa [nj,ap] using h
 |cons l r ih=>
  intro vs h
  simp only [nj,Bool.and_eq_true] at h
  exact ⟨vs.take l.w,vs.drop l.w,by simp,Ks h.1.1,ih h.1.2⟩
theorem ap.qn {cs:List av} {vs:List Value} (h:ap e vs cs):cX cs=false:=by
 cases hm:cX cs with
 |false=>rfl
 |true=>obtain ⟨s,ms,rfl⟩:=Dv hm;obtain ⟨_,_,_,h1,_⟩:=h;exact h1.elim
theorem yO (h:bn c Z e st a w) (off:Nat):e.φ w.heap.size off=none:=by
 cases hp:e.φ w.heap.size off with
 |none=>rfl
 |some v=>
  have:=World.block_lt_of_cell? w _ (h.jb _ _ _ hp)
  simp at this
theorem rS (h:bn c Z e st a w):(∀t dp,ak st.fr t= .box dp→e.B t≠w.heap.size)∧(∀f o,ay st.aE f=some o→(e.E f).ownBlock≠some w.heap.size):=by
 refine ⟨?_,?_⟩
 ·intro t dp ht
  have hs:=h.slot t
  rw [ht] at hs
  obtain ⟨o,h1,_⟩:=hs.2.obj
  have:=aN h1
  omega
 ·intro f o ho hk
  obtain ⟨I,cells,h1,h2,h3,h4,h5⟩:=(h.dS f o ho).row
  rcases h3.2 with ⟨hv,_⟩|⟨g,cap,c9,hv,_,hg,_⟩
  ·rw [hv] at hk;simp [Value.ownBlock] at hk
  ·rw [hv] at hk
   simp only [Value.ownBlock,Option.some.injEq] at hk
   have:=aN hg
   omega
theorem Jd {cells:Array Value} {T:TypeId} {cs:List av} (h:bn c Z e st a w) (hl:ap e cells.toList cs):
 j8 Z e (w.alloc (.cells cells T)) st (.pointer (some ⟨w.heap.size,0,none⟩)) (.box cs):=by
 exact ⟨w.heap.size,by rw [nS hl.qn],⟨h.bH _ (Nat.le_refl _),⟨_,eB w _,rfl,hl⟩,yO h⟩,(rS h).1,(rS h).2⟩
theorem MZ {t:TypeId} {I:TI} (ho:o.op= .alloc t) (hI:c.tv t=some I) (hT:fI P c.ti) (h:bn c Z e st a w)
 (hK:aL c st o.dst (.box I.zero) K=some r):o.wp P a w (fun a' w'=>cy w w'∧Out c Z K r e.φ w a' w') Q:=by
 obtain ⟨jy,hc⟩:=bl hI
 obtain ⟨d,i,h1,h2,h3,h4⟩:=hT t I jy
 have hz: ∃z,i.zero=some z∧ap e z.cells.toList I.zero:=by
  cases d<;>simp only [mn] at h4
  case struct fs=>obtain ⟨_,_,_,_,_,_,cs,hz,hl,_⟩:=h4;exact ⟨_,hz,by simpa [Value.cells] using fY hl⟩
  case tuple ts=>exact absurd hc h4.2.1
  case slice el=>obtain ⟨_,_,_,_,_,hz,hl,_⟩:=h4;exact ⟨_,hz,by rw [hl];exact ⟨[.slice none 0 0],[],rfl,rfl,rfl⟩⟩
  case array n el=>obtain ⟨_,_,_,_,_,_,_,hl,hz⟩:=h4;exact ⟨_,hz,by rw [hl];exact ⟨aT fm.zero,[],by simp [Value.cells],rfl,rfl⟩⟩
  case bool=>obtain ⟨_,_,_,_,hl,hz⟩:=h4;exact ⟨_,hz,by rw [hl];exact ⟨[.bool false],[],rfl,⟨rfl,.b _⟩,rfl⟩⟩
  case int k=>obtain ⟨_,_,_,_,hl,hz⟩:=h4;exact ⟨_,hz,by rw [hl];exact ⟨[.int k 0],[],rfl,⟨rfl,.i _ _⟩,rfl⟩⟩
  case string=>
   obtain ⟨_,_,_,_,hl,b,hz,hb⟩:=h4
   refine ⟨_,hz,by rw [hl];refine ⟨[.string b],[],rfl,⟨rfl,?_⟩,rfl⟩;rw [←hb];exact .s b⟩
  all_goals
   obtain ⟨_,_,_,_,v,hz,hv,hl⟩:=h4
   refine ⟨v,hz,?_⟩
   have:v.cells.toList=[v]:=by cases v<;>simp_all [Value.cells,Value.oneCell']
   rw [this];exact fY hl
 obtain ⟨z,hz,hl⟩:=hz
 have bw:(execOp a.eval o).run P w= .ok (.value (.pointer (some ⟨w.heap.size,0,none⟩))) (w.alloc (.cells z.cells t)):=by
  simp [execOp,ho,Instr.alloc,zeroValue,typeInfo,h2,hz,newVar,newRow,newObj,Sem.run]
 exact Ko (.alloc w _ _) bw (h.grow (.alloc w _ _)) ((cy.alloc w _ _).trans h.bH _) (Jd h hl) hK
theorem Tp {t:TypeId} {x:Operand} {I:TI} (ho:o.op= .box t x) (h:bn c Z e st a w)
 (hK:S8 I (aw c st x) (fun s=>aL c st o.dst s K)=some r):o.wp P a w (fun a' w'=>cy w w'∧Out c Z K r e.φ w a' w') Q:=by
 obtain ⟨hx,jS⟩:=h.eval x
 have bw:(execOp a.eval o).run P w= .ok (.value (.pointer (some ⟨w.heap.size,0,none⟩))) (w.alloc (.cells (a.eval x).cells t)):=by
  simp [execOp,ho,Instr.box,newVar,newRow,newObj,Sem.run]
 have go: ∀cs,ap e (a.eval x).cells.toList cs→aL c st o.dst (.box cs) K=some r→o.wp P a w (fun a' w'=>cy w w'∧Out c Z K r e.φ w a' w') Q:=
  fun cs h1 h2=>Ko (.alloc w _ _) bw (h.grow (.alloc w _ _)) ((cy.alloc w _ _).trans h.bH _) (Jd h h1) h2
 generalize aw c st x=s at hx hK jS
 unfold S8 at hK
 split at hK
 ·rename_i l
  cases hb:I.st||EZ l||!Nat.beq l.w I.size with
  |true=>simp [hb] at hK
  |false=>
   simp only [hb,cond_false] at hK
   refine go [l] ?_ hK
   cases l with
   |un=>simp [EZ] at hb
   |hs y=>
    simp only [af] at hx
    rw [hx]
    exact ⟨aT y,[],by simp [Value.cells],rfl,rfl⟩
   |p m=>
    simp only [af] at hx
    have:(a.eval x).cells.toList=[a.eval x]:=by
     have:=hx.cells (a.eval x) (by simp)
     generalize a.eval x=v at this
     cases v<;>simp_all [Value.cells,Value.oneCell']
    rw [this];exact ⟨_,[],rfl,hx,rfl⟩
   |nil=>
    simp only [af] at hx
    have Kt:[a.eval x]=[Value.slice none 0 0]:=hx
    simp at Kt
    rw [Kt];exact ⟨[.slice none 0 0],[],rfl,rfl,rfl⟩
   |mp s es=>simp [EZ] at hb
   |own f=>
    simp only [af] at hx
    have:(a.eval x).cells.toList=[a.eval x]:=by
     have:=hx.cells (a.eval x) (by simp)
     generalize a.eval x=v at this
     cases v<;>simp_all [Value.cells,Value.oneCell']
    rw [this];exact ⟨_,[],rfl,hx,rfl⟩
 ·rename_i cs
  cases hb:I.st&&!om cs&&Nat.beq (qL cs) I.size with
  |false=>simp [hb] at hK
  |true=>
   simp only [hb,cond_true] at hK
   simp only [af] at hx
   obtain ⟨arr,hx,hl⟩:=hx
   exact go cs (by rw [hx];exact hl) hK
 ·simp at hK
end
end Dn
/-
  Stores into variables. Conditions: none.
-/
set_option linter.unusedSimpArgs false
set_option linter.unusedVariables false
namespace Dn
open Go
section
variable {P:Program} {c:Ctx} {Z:aX} {e:Env} {st:St} {a:Act} {w w':World} {R:Type} {K:St→Option R} {r:R} {Q:Exit→Act→World→Prop} {o:Oper}
theorem setRow_size (w:World) (g:Nat) (cs:Array Value):(w.setRow g cs).heap.size=w.heap.size:=by simp [World.setRow]
structure L5 (g:Nat) (w w':World):Prop where
 size:w'.heap.size=w.heap.size
 other: ∀b,b≠g→w'.heap[b]? =w.heap[b]?
 rest:Rest w w'
theorem L5.setRow (w:World) (g:Nat) (cs:Array Value):L5 g w (w.setRow g cs):=⟨setRow_size _ _ _,fun b hb=>setRow_other _ _ _ _ hb,.setRow _ _ _⟩
theorem Ff {g:Nat} (hc:L5 g w w') {base:Nat} {t:TypeId} {size:Nat} {v:Value} {n:Nat} {xs:List Value} (cm:v.ownBlock≠some g)
 (h:w.ownsRow base t size v n xs):w'.ownsRow base t size v n xs:=by
 refine ⟨h.1,?_⟩
 rcases h.2 with h|⟨b,cap,c9,h1,h2,h3,h4⟩
 ·exact .inl h
 ·refine .inr ⟨b,cap,c9,h1,h2,?_,h4⟩
  rw [hc.other _ (by intro e;subst e;subst h1;exact cm rfl)];exact h3
theorem Hs {g:Nat} {cs:Array Value} {base:Nat} {t:TypeId} {size:Nat} {v:Value} {n:Nat} {xs:List Value} (cm:v.ownBlock≠some g)
 (h:w.ownsRow base t size v n xs):(w.setRow g cs).ownsRow base t size v n xs:=Ff (.setRow w g cs) cm h
theorem bn.setObj {root:Nat} {cs dp:List av} {o':Obj} {j7:Fr} (h:bn c Z e st a w) (hf:ak st.fr root= .box cs)
 (yP:L5 (e.B root) w w') (lH:w'.heap[e.B root]? =some o') (hl:eW e o' dp) (Se:fG dp=fG cs) (xR: ∀t,ak j7 t=if t=root then .box dp else ak st.fr t)
 (VY:(aD j7).Nodup):bn c Z e {st with fr:=j7} a w':=by
 have lh:=yP.size
 have jv:=h.slot root
 rw [hf] at jv
 refine ⟨h.defers,h.size,h.m,h.key,VY,?_,?_,?_,?_,?_,h.ff,?_,fun b hb=>h.bH b (by omega)⟩
 ·intro t
  show bu Z e _ t _ (ak j7 t)
  rw [xR]
  by_cases ht:t=root
  ·subst ht
   simp only [if_true,bu]
   exact ⟨jv.1.fG Se,⟨jv.2.bH,⟨o',lH,hl⟩,jv.2.free⟩⟩
  ·simp only [ht,if_false]
   have hs:=h.slot t
   have sU:=h.bb t root
   generalize hg:ak st.fr t=s at hs sU
   cases s<;>simp only [bu] at hs⊢ <;>try exact hs
   rename_i lp
   refine ⟨hs.1,hs.2.bH,?_,hs.2.free⟩
   obtain ⟨o2,h1,h2⟩:=hs.2.obj
   exact ⟨o2,by rw [yP.other _ (sU lp cs rfl hf ht)];exact h1,h2⟩
 ·intro t
  show bJ j7 (ak j7 t)
  rw [xR]
  by_cases ht:t=root
  ·simp [ht,bJ]
  ·simp only [ht,if_false]
   have hr:=h.root t
   generalize ak st.fr t=s at hr
   cases s<;>simp only [bJ] at hr⊢ <;>(rw [xR];split<;>simp_all [bR])
 ·intro f o ho
  obtain ⟨I,cells,h1,h2,h3,h4,h5⟩:=(h.dS f o ho).row
  exact ⟨I,cells,h1,h2,Ff yP (h.bf root cs f o hf ho) h3,h4,h5⟩
 ·intro t t' c1 c2 h1 h2 cm
  have h1:ak j7 t= .box c1:=h1
  have h2:ak j7 t'= .box c2:=h2
  rw [xR] at h1 h2
  by_cases ht:t=root
  ·by_cases tE:t'=root
   ·exact absurd (ht.trans tE.symm) cm
   ·simp only [tE,if_false] at h2;rw [ht];exact h.bb root t' cs c2 hf h2 (by rw [←ht];exact cm)
  ·simp only [ht,if_false] at h1
   by_cases tE:t'=root
   ·rw [tE];exact h.bb t root c1 cs h1 hf ht
   ·simp only [tE,if_false] at h2;exact h.bb t t' c1 c2 h1 h2 cm
 ·intro t c1 f o h1 h2
  have h1:ak j7 t= .box c1:=h1
  rw [xR] at h1
  by_cases ht:t=root
  ·rw [ht];exact h.bf root cs f o hf h2
  ·simp only [ht,if_false] at h1;exact h.bf t c1 f o h1 h2
 ·intro b o v hv
  have cm:b≠e.B root:=by intro eb;subst eb;rw [jv.2.free] at hv;cases hv
  have:=h.jb b o v hv
  rw [World.cell?_of_block (yP.other _ cm)];exact this
theorem bn.M0 {root:Nat} {cs dp:List av} {arr qS:Array Value} {T:TypeId} {j7:Fr} (h:bn c Z e st a w) (hf:ak st.fr root= .box cs)
 (cB:w.heap[e.B root]? =some (.cells arr T (0,0))) (hl:ap e qS.toList dp) (xR: ∀t,ak j7 t=if t=root then .box dp else ak st.fr t)
 (VY:(aD j7).Nodup):bn c Z e {st with fr:=j7} a (w.setRow (e.B root) qS):=by
 have jv:=h.slot root
 rw [hf] at jv
 have hm:cX cs=false:=by
  obtain ⟨o,h1,h2⟩:=jv.2.obj
  rw [cB] at h1;cases h1
  exact h2.2.qn
 exact h.setObj hf (.setRow _ _ _) (setRow_heap _ _ _ _ _ _ cB) ⟨rfl,hl⟩ (by rw [pu hm,pu hl.qn]) xR VY
theorem Trans.chg {g:Nat} (φ:Ph) (yP:L5 g w w') (hz:Z g):Trans Z φ w φ w':=
 ⟨.refl φ,fun b hb _=>yP.other _ (by intro e;subst e;exact hb hz),fun _ _ _=>rfl,by rw [yP.size];exact Nat.le_refl _,yP.rest⟩
theorem Trans.setRow {g:Nat} {qS:Array Value} (φ:Ph) (hz:Z g):Trans Z φ w φ (w.setRow g qS):=
 ⟨.refl φ,fun b hb _=>setRow_other _ _ _ _ (by intro e;subst e;exact hb hz),fun _ _ _=>rfl,by rw [setRow_size];exact Nat.le_refl _,.setRow _ _ _⟩
theorem sV {v:Value} {s:Slot} (h:af e v s) (hu:om (aA s)=false) (cm:aA s≠[]):ap e v.cells.toList (aA s):=by
 cases s with
 |sc l=>
  simp only [aA] at hu⊢
  have fJ: ∀l,aG e [v] l→ap e v.cells.toList [l]:=by
   intro l hl
   have hc:=hl.cells v (by simp)
   have:v.cells.toList=[v]:=by cases v<;>simp_all [Value.cells,Value.oneCell']
   rw [this];exact ⟨[v],[],rfl,hl,rfl⟩
  cases l with
  |un=>simp [om,EZ] at hu
  |hs x=>simp only [af] at h;rw [h];exact ⟨aT x,[],by simp [Value.cells],rfl,rfl⟩
  |p m=>simp only [af] at h;exact fJ _ h
  |nil=>simp only [af] at h;exact fJ _ h
  |mp s es=>simp [om,EZ] at hu
  |own f=>simp only [af] at h;exact fJ _ h
 |ag cs=>simp only [af] at h;obtain ⟨arr,rfl,hl⟩:=h;exact hl
 |_=>exact absurd rfl cm
theorem li {t:TypeId} {I:TI} {aM off:Nat} {v:Value} {arr:Array Value} {T:TypeId} (hr:jV c.ti P t I) (hc:I.bX=[]) (hs:v.cells.toList.length=I.size)
 (fJ: ∀u∈v.cells.toList,u.oneCell'=true) (cB:w.heap[aM]? =some (.cells arr T (0,0))) (DA:off+I.size≤arr.size):
 (Instr.storeAt t (.pointer (some ⟨aM,off,none⟩)) v).run P w= .ok () (w.setRow aM (arr.toList.take off++v.cells.toList++arr.toList.drop (off+I.size)).toArray):=by
 obtain ⟨i,hi,lh,_⟩:=hr.info hc
 have h1:=run_storeCells_at P aM off T v.cells.toList 0 arr w cB (by omega) fJ
 rw [Nat.add_zero,hs] at h1
 have h2:v.cells.size=i.size:=by rw [lh,←hs];simp
 simp [Instr.storeAt,Instr.sureAddr,storeVar,Go.sizeOf,typeInfo,hi,h2,h1]
theorem Ku {t:TypeId} {I:TI} {root off:Nat} {v:Value} {cs ls dp:List av} {K':St→Option R} (od:cX cs=false) (hr:jV c.ti P t I) (hc:I.bX=[]) (h:bn c Z e st a w)
 (hf:ak st.fr root= .box cs) (hv:ap e v.cells.toList ls) (yQ:qL ls=I.size) (hp:putAt cs off ls=some dp) (hK:wr st root (.box dp) K'=some r):
 ∃w' bj,(Instr.storeAt t (.pointer (some ⟨e.B root,off,none⟩)) v).run P w= .ok () w'∧bn c Z e bj a w'∧Trans Z e.φ w e.φ w'∧K' bj=some r:=by
 have gJ:=h.slot root
 rw [hf] at gJ
 obtain ⟨arr,T,cB,lg⟩:=gJ.2.cells od
 obtain ⟨v1,v2,v3,he,h1,h2,h3⟩:=pq hp lg hv
 have hlen:=hv.width
 have lh:arr.size=v1.length+v2.length+v3.length:=by
  have:arr.toList.length=(v1++v2++v3).length:=by rw [he]
  simp at this
  omega
 have bw:=li (P:=P) (w:=w) (aM:=e.B root) (off:=off) hr hc (by rw [hlen,yQ]) hv.cells cB (by omega)
 have WJ:arr.toList.take off=v1:=by rw [he,List.append_assoc,List.take_left' h1]
 have WK:arr.toList.drop (off+I.size)=v3:=by
  rw [he];exact List.drop_left' (by rw [List.length_append];omega)
 rw [WJ,WK] at bw
 unfold wr at hK
 cases hn:aV st.bA root with
 |true=>simp [hn] at hK
 |false=>
  simp only [hn,cond_false,force_eq,gG] at hK
  refine ⟨_,_,bw,?_,.setRow _ (EK gJ.2.bH (by rw [←h.defers.2.1,←aW,hn];simp)),hK⟩
  exact h.M0 hf cB (by simpa using h3) (fun t=>by rw [bk]) (cL h.nodup)
end
end Dn
/-
  Owned slices that are shared from now on; what is handed to a callee. Conditions: none.
-/
set_option linter.unusedSimpArgs false
set_option linter.unusedVariables false
namespace Dn
open Go
section
variable {P:Program} {c:Ctx} {Z:aX} {e:Env} {st:St} {a:Act} {w w':World} {R:Type} {K:St→Option R} {r:R} {Q:Exit→Act→World→Prop} {o:Oper}
theorem aQ.mono {key:Nat→Nat} {φ φ':Ph} (h:lE φ φ') {size:Nat} {xs:List MV}: ∀{cs:List Value},aQ key φ size cs xs→aQ key φ' size cs xs:=by
 induction xs with
 |nil=>intro cs hh;exact hh
 |cons x xs ih=>intro cs hh;obtain ⟨v,q,rfl,h1,h2,h3⟩:=hh;exact ⟨v,q,rfl,h1,h2.mono h,ih h3⟩
theorem aQ.length {key:Nat→Nat} {φ:Ph} {size:Nat} {xs:List MV}: ∀{cs:List Value},aQ key φ size cs xs→cs.length=xs.length *size:=by
 induction xs with
 |nil=>intro cs hh;cases hh;simp
 |cons x xs ih=>intro cs hh;obtain ⟨v,q,rfl,h1,h2,h3⟩:=hh;simp [h1,ih h3,Nat.succ_mul,Nat.add_comm]
theorem Ht {m:List (Nat×jr)} {f:Nat} {o:jr} (h:ay m f=some o):bt m f o=m:=by
 induction m with
 |nil=>simp [ay] at h
 |cons p r ih=>
  obtain ⟨k,x⟩:=p
  simp only [ay,bt,cw] at h⊢
  by_cases hk:k=f
  ·subst hk;simp at h;subst h;simp
  ·simp only [hk,decide_false,cond_false] at h⊢;rw [ih h]
def jA (φ:Ph) (v:Value) (cells:List Value):Ph:=fun b off=>if v.ownBlock=some b∧off<cells.length then cells[off]? else φ b off
theorem nn {base:Nat} {t:TypeId} {size n:Nat} {v:Value} {xs ys:List Value} (h:w.ownsRow base t size v n xs) (h':w.ownsRow base t size v n ys) {b:Nat} (hb:v.ownBlock=some b):xs=ys:=by
 rcases h.2 with ⟨h1,_⟩|⟨g,cap,c9,h1,_,h2,_,_,_,h3⟩
 ·rw [h1] at hb;simp [Value.ownBlock] at hb
 ·rcases h'.2 with ⟨Ba,_⟩|⟨g',M1,af7,Ba,_,Fg,_,_,_,Zl⟩
  ·rw [Ba] at hb;simp [Value.ownBlock] at hb
  ·rw [h1] at Ba
   simp at Ba
   obtain ⟨rfl,rfl⟩:=Ba
   rw [h2] at Fg
   simp at Fg
   subst Fg
   rw [←h3,←Zl]
theorem freeze {f:Nat} {o:jr} (h:bn c Z e st a w) (hf:ay st.aE f=some o) (hp:f∉Z.bL∨o.cK=true):
 ∃φ',lE e.φ φ'∧(∀b off,¬Z b→φ' b off=e.φ b off)∧bn c Z {e with φ:=φ',m:=bt e.m f ⟨o.ty,true,o.xs⟩} {st with aE:=bt st.aE f ⟨o.ty,true,o.xs⟩} a w∧
  gE e.key φ' [e.E f] (.list o.xs)∧
  (∀I cells,c.ti o.ty=some I→w.ownsRow 0 o.ty I.size (e.E f) o.xs.length cells→ ∀aM,(e.E f).ownBlock=some aM→ ∀j,j<cells.length→φ' aM j=cells[j]?):=by
 obtain ⟨I,cells,hI,Qk,cC,jz,hz⟩:=(h.dS f o hf).row
 have hlen:=jz.length
 have hle:lE e.φ (jA e.φ (e.E f) cells):=by
  intro b off v hv
  unfold jA
  by_cases hc:(e.E f).ownBlock=some b∧off<cells.length
  ·simp only [hc,and_self,if_true]
   obtain ⟨hb,ho⟩:=hc
   rcases cC.2 with ⟨hE,_⟩|⟨g,cap,c9,hE,_,hg,hn,EM,qR,Je⟩
   ·rw [hE] at hb;simp [Value.ownBlock] at hb
   ·rw [hE] at hb
    simp only [Value.ownBlock,Option.some.injEq] at hb
    subst hb
    have:=h.jb _ _ _ hv
    rw [cell_of hg] at this
    rw [←Je,List.getElem?_take]
    have bN:off<o.xs.length *I.size:=by omega
    simp only [bN,if_true]
    simpa using this
  ·simp only [hc,if_false];exact hv
 have gK: ∀b off v,jA e.φ (e.E f) cells b off=some v→w.cell? ⟨b,off,none⟩=some v:=by
  intro b off v hv
  unfold jA at hv
  by_cases hc:(e.E f).ownBlock=some b∧off<cells.length
  ·simp only [hc,and_self,if_true] at hv
   rcases cC.2 with ⟨hE,_⟩|⟨g,cap,c9,hE,_,hg,hn,EM,qR,Je⟩
   ·rw [hE] at hc;simp [Value.ownBlock] at hc
   ·rw [hE] at hc
    simp only [Value.ownBlock,Option.some.injEq] at hc
    obtain ⟨hb,ho⟩:=hc
    subst hb
    rw [cell_of hg]
    rw [←Je,List.getElem?_take] at hv
    have bN:off<o.xs.length *I.size:=by omega
    simp only [bN,if_true] at hv
    simpa using hv
  ·simp only [hc,if_false] at hv;exact h.jb _ _ _ hv
 have WL: ∀b off,¬Z b→jA e.φ (e.E f) cells b off=e.φ b off:=by
  intro b off hb
  unfold jA
  by_cases hc:(e.E f).ownBlock=some b∧off<cells.length
  ·by_cases qT:f∈Z.bL
   ·simp only [hc,and_self,if_true]
    exact (((hz b hc.1).2.2 qT (hp.resolve_left (fun hn=>hn qT))) off hc.2).symm
   ·exact absurd (EK (hz b hc.1).1 qT) hb
  ·simp [hc]
 have Hu: ∀b off,(e.E f).ownBlock≠some b→jA e.φ (e.E f) cells b off=e.φ b off:=by
  intro b off hb;unfold jA;simp [hb]
 have nU:fQ (fun _=>True) (fun _=>True) e {e with φ:=jA e.φ (e.E f) cells,m:=bt e.m f ⟨o.ty,true,o.xs⟩}:=by
  refine ⟨rfl,hle,fun _ _=>rfl,?_⟩
  intro f2 o2 bN _
  have bN:ay (bt e.m f ⟨o.ty,true,o.xs⟩) f2=some o2:=bN
  rw [aP] at bN
  by_cases cY:f2=f
  ·subst cY;simp at bN;subst bN;exact ⟨o,by rw [h.m];exact hf,rfl,rfl⟩
  ·simp only [cY,if_false] at bN;exact ⟨o2,bN,rfl,rfl⟩
 have jT: ∀s:Slot,dj (fun _=>True) (fun _=>True) s:=by
  intro s;cases s<;>simp [dj,eG]
 refine ⟨_,hle,WL,?_,?_,?_⟩
 rotate_right
 ·intro I' DB Zm WM aM hb j hj
  rw [hI] at Zm
  cases Zm
  have hcc:=nn cC WM hb
  subst hcc
  unfold jA
  simp [hb,hj]
 ·refine ⟨h.defers,h.size,by show bt e.m f _=bt st.aE f _;rw [h.m],h.key,h.nodup,?_,h.root,?_,h.bb,?_,?_,gK,h.bH⟩
  ·intro t
   have hs:=h.slot t
   have Ql:=h.bf t
   show bu Z _ w t _ (ak st.fr t)
   generalize ak st.fr t=s at hs Ql
   cases s<;>simp only [bu] at hs⊢ <;>try exact hs.on nU (jT _)
   rename_i cs
   refine ⟨hs.1,hs.2.bH,?_,?_⟩
   ·obtain ⟨o2,h1,h2⟩:=hs.2.obj
    exact ⟨o2,h1,h2.on nU (fun l _ f _=>trivial)⟩
   ·intro off
    show jA e.φ (e.E f) cells (e.B t) off=none
    rw [Hu _ _ (Ql cs f o rfl hf)];exact hs.2.free off
  ·intro f2 o2 bN
   have bN:ay (bt st.aE f ⟨o.ty,true,o.xs⟩) f2=some o2:=bN
   rw [aP] at bN
   by_cases cY:f2=f
   ·subst cY
    simp at bN
    subst bN
    refine ⟨I,cells,hI,Qk,cC,jz.mono hle,?_⟩
    intro aM hb
    refine ⟨(hz aM hb).1,?_,?_⟩
    rotate_left
    ·intro _ _ j hj
     show jA e.φ (e.E f2) cells aM j=_
     have hb:(e.E f2).ownBlock=some aM:=hb
     unfold jA
     simp [hb,hj]
    intro off u hu
    refine ⟨rfl,?_⟩
    have hu:jA e.φ (e.E f2) cells aM off=some u:=hu
    unfold jA at hu
    by_cases hc:(e.E f2).ownBlock=some aM∧off<cells.length
    ·show off<o.xs.length *I.size;rw [←hlen];exact hc.2
    ·simp only [hc,if_false] at hu;exact ((hz aM hb).2.1 off u hu).2
   ·simp only [cY,if_false] at bN
    obtain ⟨I2,pw,h1,h2,h3,h4,h5⟩:=(h.dS f2 o2 bN).row
    refine ⟨I2,pw,h1,h2,h3,h4.mono hle,?_⟩
    intro aM hb
    refine ⟨(h5 aM hb).1,?_,?_⟩
    rotate_left
    ·intro g1 g2 j hj
     show jA e.φ (e.E f) cells aM j=_
     rw [Hu _ _ (fun Ql=>cY (h.ff f2 f o2 o aM bN hf hb Ql))]
     exact (h5 aM hb).2.2 g1 g2 j hj
    intro off u hu
    have hu:jA e.φ (e.E f) cells aM off=some u:=hu
    rw [Hu _ _ (fun Ql=>cY (h.ff f2 f o2 o aM bN hf hb Ql))] at hu
    exact (h5 aM hb).2.1 off u hu
  ·intro t cs f2 o2 h1 h2
   have h2:ay (bt st.aE f ⟨o.ty,true,o.xs⟩) f2=some o2:=h2
   rw [aP] at h2
   by_cases cY:f2=f
   ·subst cY;exact h.bf t cs f2 o h1 hf
   ·simp only [cY,if_false] at h2;exact h.bf t cs f2 o2 h1 h2
  ·intro f1 f2 o1 o2 k h1 h2 h3 h4
   have h1:ay (bt st.aE f ⟨o.ty,true,o.xs⟩) f1=some o1:=h1
   have h2:ay (bt st.aE f ⟨o.ty,true,o.xs⟩) f2=some o2:=h2
   rw [aP] at h1 h2
   have g1: ∃o',ay st.aE f1=some o':=by
    by_cases cY:f1=f
    ·subst cY;exact ⟨o,hf⟩
    ·simp only [cY,if_false] at h1;exact ⟨o1,h1⟩
   have g2: ∃o',ay st.aE f2=some o':=by
    by_cases cY:f2=f
    ·subst cY;exact ⟨o,hf⟩
    ·simp only [cY,if_false] at h2;exact ⟨o2,h2⟩
   obtain ⟨q1,g1⟩:=g1
   obtain ⟨q2,g2⟩:=g2
   exact h.ff f1 f2 q1 q2 k g1 g2 h3 h4
 ·have uE:=jz.mono hle
  rcases cC.2 with ⟨hE,hn⟩|⟨g,cap,c9,hE,_,hg,hn,EM,qR,Je⟩
  ·have hx:o.xs=[]:=List.eq_nil_of_length_eq_zero hn
   have hv:[e.E f]=[Value.slice none 0 0]:=by rw [hE]
   rw [hv,hx]
   exact .list none 0 [] 0 0 0 (fun _=>[]) (by simp) (by simp) (by simp) (by simp) (by simp)
  ·have hv:[e.E f]=[Value.slice (some ⟨g,0,none⟩) o.xs.length cap]:=by rw [hE]
   rw [hv]
   have M2: ∀i (hi:i<o.xs.length),∃v1,v1.length=I.size∧gE e.key (jA e.φ (e.E f) cells) v1 o.xs[i]∧(cells.drop (i *I.size)).take I.size=v1:=by
    intro i hi
    obtain ⟨p1,v1,p2,he,Hq,uB,dt⟩:=uE.at (List.getElem?_eq_getElem hi)
    refine ⟨v1,uB,dt,?_⟩
    rw [he,List.append_assoc,←Hq,List.drop_left,←uB,List.take_left]
   refine .list (some ⟨g,0,none⟩) cap o.xs g 0 I.size (fun i=>(cells.drop (i *I.size)).take I.size) hn (fun _=>rfl) ?_ ?_ ?_
   ·intro i hi
    obtain ⟨v1,h1,_,h3⟩:=M2 i hi
    rw [h3,h1]
   ·intro i j hi hj
    have hb:(e.E f).ownBlock=some g:=by rw [hE];rfl
    have yR:i *I.size+j<cells.length:=by
     rw [hlen]
     calc i *I.size+j<i *I.size+I.size:=by omega
      _=(i+1) *I.size:=by rw [Nat.succ_mul]
      _≤o.xs.length *I.size:=Nat.mul_le_mul_right _ hi
    rw [Nat.zero_add]
    unfold jA
    simp only [hb,yR,and_self,if_true]
    rw [List.getElem?_take]
    simp only [hj,if_true,List.getElem?_drop]
   ·intro i hi
    obtain ⟨v1,_,h2,h3⟩:=M2 i hi
    rw [h3];exact h2
end
end Dn
/-
  Arguments and results. Conditions: none.
-/
set_option linter.unusedSimpArgs false
set_option linter.unusedVariables false
namespace Dn
open Go
structure Ext (Z:Nat→Prop) (e e':Env):Prop where
 on:fQ (fun _=>True) (fun _=>True) e e'
 bH: ∀b off,¬Z b→e'.φ b off=e.φ b off
theorem Ext.refl (Z:Nat→Prop) (e:Env):Ext Z e e:=⟨⟨rfl,.refl _,fun _ _=>rfl,fun f o h _=>⟨o,h,rfl,rfl⟩⟩,fun _ _ _=>rfl⟩
theorem Ext.trans {Z:Nat→Prop} {e e' WN:Env} (h:Ext Z e e') (h':Ext Z e' WN):Ext Z e WN:=by
 refine ⟨⟨h'.on.key.trans h.on.key,h.on.φ.trans h'.on.φ,fun r hr=>(h'.on.B r hr).trans (h.on.B r hr),?_⟩,fun b off hb=>(h'.bH b off hb).trans (h.bH b off hb)⟩
 intro f o ho _
 obtain ⟨o1,h1,h2,h3⟩:=h'.on.dS f o ho trivial
 obtain ⟨o2,h4,h5,h6⟩:=h.on.dS f o1 h1 trivial
 exact ⟨o2,h4,h2.trans h5,h3.trans h6⟩
theorem Ext.tr {Z:Nat→Prop} {e e':Env} {w:World} (h:Ext Z e e'):Trans Z e.φ w e'.φ w:=⟨h.on.φ,fun _ _ _=>rfl,h.bH,Nat.le_refl _,.refl _⟩
theorem cu (s:Slot):dj (fun _=>True) (fun _=>True) s:=by cases s<;>simp [dj,eG]
def bG (key:Nat→Nat) (φ:Ph):List Value→List MV→Prop
 |vs,[]=>vs=[]
 |vs,m::ms=> ∃v r,vs=v::r∧dW key φ v m∧bG key φ r ms
theorem bG.mono {key:Nat→Nat} {φ φ':Ph} (h:lE φ φ') {ms:List MV}: ∀{vs:List Value},bG key φ vs ms→bG key φ' vs ms:=by
 induction ms with
 |nil=>intro vs hh;exact hh
 |cons m ms ih=>intro vs hh;obtain ⟨v,r,rfl,h1,h2⟩:=hh;exact ⟨v,r,rfl,h1.mono h,ih h2⟩
theorem bG.append {key:Nat→Nat} {φ:Ph} {ms ns:List MV}: ∀{vs us:List Value},bG key φ vs ms→bG key φ us ns→bG key φ (vs++us) (ms++ns):=by
 induction ms with
 |nil=>intro vs us h h';cases h;simpa using h'
 |cons m ms ih=>intro vs us h h';obtain ⟨v,r,rfl,h1,h2⟩:=h;exact ⟨v,r++us,rfl,h1,ih h2 h'⟩
section
variable {P:Program} {c:Ctx} {Z:aX} {e:Env} {st:St} {a:Act} {w w':World} {R:Type} {r:R} {Q:Exit→Act→World→Prop} {o:Oper}
theorem kN {l:av} {vs:List Value} {K:MV→St→Option R} (h:bn c Z e st a w) (hl:aG e vs l) (hK:jY st l K=some r):
 ∃e' bj m,bn c Z e' bj a w∧Ext Z e e'∧bj.fr=st.fr∧gE e'.key e'.φ vs m∧K m bj=some r∧(ni l=true→e'=e∧bj=st)∧(∀f,l= .own f→ ∃o,ay st.aE f=some o∧m= .list o.xs)∧((∀x,l≠ .hs x)→m.one=true):=by
 cases l with
 |un=>simp [jY] at hK
 |p m=>exact ⟨e,st,m,h,.refl _ _,rfl,hl.2,hK,fun _=>⟨rfl,rfl⟩,by simp,fun _=>hl.1⟩
 |hs x=>have hl:vs=aT x:=hl;subst hl;exact ⟨e,st,.h x,h,.refl _ _,rfl,.h x,hK,fun _=>⟨rfl,rfl⟩,by simp,fun hx=>absurd rfl (hx x)⟩
 |nil=>
  have hl:vs=[.slice none 0 0]:=hl
  subst hl
  exact ⟨e,st,.list [],h,.refl _ _,rfl,.list none 0 [] 0 0 0 (fun _=>[]) (by simp) (by simp) (by simp) (by simp) (by simp),hK,fun hp=>by simp [ni] at hp,fun _ he=>(by cases he),fun _=>rfl⟩
 |mp s es=>simp [jY] at hK
 |own f=>
  simp only [jY] at hK
  cases hf:ay st.aE f with
  |none=>simp [hf] at hK
  |some o=>
   simp only [hf] at hK
   have qT:f∉Z.bL∨o.cK=true:=by
    cases hz:o.cK with
    |true=>exact .inr rfl
    |false=>
     refine .inl (fun hm=> ?_)
     rw [←h.defers.2.2.1,←aW] at hm
     simp [hz,hm] at hK
   obtain ⟨φ',h1,h2,h3,h4,_⟩:=freeze h hf qT
   obtain ⟨v,rfl,hv,hE⟩:=hl
   have hE:=hE o (by rw [h.m];exact hf)
   subst hE
   have Qm:Ext Z e {e with φ:=φ',m:=bt e.m f ⟨o.ty,true,o.xs⟩}:=by
    refine ⟨⟨rfl,h1,fun _ _=>rfl,?_⟩,h2⟩
    intro f2 o2 bN _
    have bN:ay (bt e.m f ⟨o.ty,true,o.xs⟩) f2=some o2:=bN
    rw [aP] at bN
    by_cases cY:f2=f
    ·subst cY;simp at bN;subst bN;exact ⟨o,by rw [h.m];exact hf,rfl,rfl⟩
    ·simp only [cY,if_false] at bN;exact ⟨o2,bN,rfl,rfl⟩
   cases hz:o.cK with
   |true=>
    simp only [hz,cond_true] at hK
    have WO:bt st.aE f ⟨o.ty,true,o.xs⟩=st.aE:=by
     rw [←hz];exact Ht hf
    rw [WO] at h3
    exact ⟨_,st,.list o.xs,h3,Qm,rfl,h4,hK,fun hp=>by simp [ni] at hp,fun _ he=>by cases he;exact ⟨o,hf,rfl⟩,fun _=>rfl⟩
   |false=>
    simp only [hz,cond_false] at hK
    cases hn:aV st.bL f with
    |true=>simp [hn] at hK
    |false=>
     simp only [hn,cond_false,ju] at hK
     exact ⟨_,_,.list o.xs,h3,Qm,rfl,h4,hK,fun hp=>by simp [ni] at hp,fun _ he=>by cases he;exact ⟨o,hf,rfl⟩,fun _=>rfl⟩
theorem iC {ls:List av}: ∀{e:Env} {st:St} {vs:List Value} {K:List MV→St→Option R},bn c Z e st a w→ap e vs ls→kL st ls K=some r→
 ∃e' bj ms,bn c Z e' bj a w∧Ext Z e e'∧bj.fr=st.fr∧dU e'.key e'.φ vs ms∧K ms bj=some r∧(eC ls=true→e'=e∧bj=st)∧(∀ps,lf ls ms=some ps→ap e' vs ps∧eC ps=true):=by
 induction ls with
 |nil=>intro e st vs K h hl hK;cases hl;exact ⟨e,st,[],h,.refl _ _,rfl,.nil,hK,fun _=>⟨rfl,rfl⟩,fun ps hp=>by simp [lf] at hp;subst hp;exact ⟨rfl,rfl⟩⟩
 |cons l ls ih=>
  intro e st vs K h hl hK
  obtain ⟨v,u,rfl,h1,h2⟩:=hl
  simp only [kL] at hK
  obtain ⟨e1,cb,m,qI,yS,wh,sW,fU,Tq,_,fJ⟩:=kN h h1 hK
  obtain ⟨e2,cr,ms,GX,Ce,Qn,A9,mZ,GY,sX⟩:=ih qI (h2.on yS.on (fun l _ f _=>trivial)) fU
  have hrm:gE e2.key e2.φ v m:=by
   have:=sW.mono Ce.on.φ
   rw [←Ce.on.key] at this;exact this
  refine ⟨e2,cr,m::ms,GX,yS.trans Ce,Qn.trans wh,.cons v m u ms ?_ A9,mZ,?_,?_⟩
  ·have:=sW.mono Ce.on.φ
   rw [←Ce.on.key] at this;exact this
  ·intro hp
   simp only [eC,Bool.and_eq_true] at hp
   obtain ⟨q1,q2⟩:=Tq hp.1
   obtain ⟨q3,q4⟩:=GY hp.2
   exact ⟨q3.trans q1,q4.trans q2⟩
  ·intro ps hp
   cases hq:lf ls ms with
   |none=>cases l<;>simp [lf,hq] at hp
   |some q=>
    obtain ⟨g1,g2⟩:=sX q hq
    by_cases hh: ∃x,l= .hs x
    ·obtain ⟨x,rfl⟩:=hh
     simp [lf,hq] at hp
     subst hp
     exact ⟨⟨v,u,rfl,h1,g1⟩,by simp [eC,ni,g2]⟩
    ·have fJ:=fJ (fun x hx=>hh ⟨x,hx⟩)
     have yT:ps= .p m::q:=by cases l<;>simp [lf,hq] at hp<;>first|exact hp.symm|exact absurd ⟨_,rfl⟩ hh
     subst yT
     exact ⟨⟨v,u,rfl,⟨fJ,hrm⟩,g1⟩,by simp [eC,ni,g2]⟩
theorem jc {s:Slot} {v:Value} {K:MV→St→Option R} (h:bn c Z e st a w) (hl:af e v s) (hK:ig st s K=some r):
 ∃e' bj m,bn c Z e' bj a w∧Ext Z e e'∧bj.fr=st.fr∧dW e'.key e'.φ v m∧K m bj=some r:=by
 cases s with
 |sc l=>
  simp only [ig] at hK
  cases l with
  |un=>simp [jY] at hK
  |hs x=>
   simp only [af] at hl
   exact ⟨e,st,.h x,h,.refl _ _,rfl,by simpa [dW,aT] using hl,hK⟩
  |p m=>
   simp only [af] at hl
   refine ⟨e,st,m,h,.refl _ _,rfl,?_,hK⟩
   obtain ⟨h1,h2⟩:=hl
   cases m<;>simp [MV.one] at h1<;>exact ⟨rfl,h2⟩
  |nil=>
   simp only [af] at hl
   obtain ⟨e',bj,m,q1,q2,q3,q4,q5,q6,_⟩:=kN h hl hK
   have hl:[v]=[Value.slice none 0 0]:=hl
   refine ⟨e,st,.list [],h,.refl _ _,rfl,⟨rfl,?_⟩,hK⟩
   rw [hl]
   exact .list none 0 [] 0 0 0 (fun _=>[]) (by simp) (by simp) (by simp) (by simp) (by simp)
  |mp s es=>simp [jY] at hK
  |own f=>
   simp only [af] at hl
   simp only [jY] at hK
   cases hf:ay st.aE f with
   |none=>simp [hf] at hK
   |some o=>
    obtain ⟨e',bj,m,q1,q2,q3,q4,q5,q6,q7⟩:=kN (l:= .own f) h hl (by simpa only [jY,hf] using hK)
    obtain ⟨o2,_,rfl⟩:=q7.1 f rfl
    exact ⟨e',bj,.list o2.xs,q1,q2,q3,⟨rfl,q4⟩,q5⟩
 |ag cs=>
  simp only [af] at hl
  obtain ⟨arr,hv,hl⟩:=hl
  simp only [ig] at hK
  obtain ⟨e',bj,ms,q1,q2,q3,q4,q5,_⟩:=iC h hl hK
  exact ⟨e',bj,.agg ms,q1,q2,q3,⟨arr,hv,q4⟩,q5⟩
 |rp cs off=>
  simp only [af] at hl
  obtain ⟨aM,q,vs,hv,lg,hp,wg⟩:=hl
  simp only [ig] at hK
  cases hb:Nat.beq off 0 with
  |false=>simp [hb] at hK
  |true=>
   simp only [hb,cond_true] at hK
   have h0:=Nat.eq_of_beq_eq_true hb
   subst h0
   obtain ⟨e',bj,ms,q1,q2,q3,q4,q5,q6⟩:=iC h lg hK
   obtain ⟨rfl,rfl⟩:=q6.1 hp
   refine ⟨e',bj,.rp ms,q1,q2,q3,⟨rfl,?_⟩,q5⟩
   rw [hv]
   exact .rp aM (q+0) vs ms q4 (by simpa using wg)
 |_=>simp [ig] at hK
theorem lI {ss:List Slot}: ∀{e:Env} {st:St} {vs:List Value} {K:List MV→St→Option R},bn c Z e st a w→(∃f:Unit→List Value,f ()=vs∧vs.length=ss.length∧ ∀(i:Nat) (v:Value) (s:Slot),vs[i]? =some v→ss[i]? =some s→af e v s)→
 pg st ss K=some r→ ∃e' bj ms,bn c Z e' bj a w∧Ext Z e e'∧bj.fr=st.fr∧bG e'.key e'.φ vs ms∧K ms bj=some r:=by
 induction ss with
 |nil=>intro e st vs K h hl hK;obtain ⟨f,_,hlen,_⟩:=hl;have:=List.eq_nil_of_length_eq_zero hlen;subst this;exact ⟨e,st,[],h,.refl _ _,rfl,rfl,hK⟩
 |cons s ss ih=>
  intro e st vs K h hl hK
  obtain ⟨f,_,hlen,dt⟩:=hl
  cases vs with
  |nil=>simp at hlen
  |cons v vs=>
   simp only [pg] at hK
   obtain ⟨e1,cb,m,q1,q2,q3,q4,q5⟩:=jc h (dt 0 v s rfl rfl) hK
   obtain ⟨e2,cr,ms,p1,p2,p3,p4,p5⟩:=ih (vs:=vs) q1 ⟨fun _=>vs,rfl,by simpa using hlen,fun i v s h1 h2=>(dt (i+1) v s (by simpa using h1) (by simpa using h2)).on q2.on (cu s)⟩ q5
   refine ⟨e2,cr,m::ms,p1,q2.trans p2,p3.trans q3,⟨v,vs,rfl,?_,p4⟩,p5⟩
   have:=q4.mono p2.on.φ
   rw [←p2.on.key] at this;exact this
end
end Dn
/-
  Parts of structs, lengths, the least and the greatest, places of elements. Conditions: none.
-/
set_option linter.unusedSimpArgs false
set_option linter.unusedVariables false
namespace Dn
open Go
section
variable {P:Program} {c:Ctx} {Z:aX} {e:Env} {st:St} {a:Act} {w w':World} {R:Type} {K:St→Option R} {r:R} {Q:Exit→Act→World→Prop} {o:Oper}
theorem Cf {t:TypeId} {I:TI} (hr:jV c.ti P t I) (hc:I.bX=[]):
 ((I.st=true∨I.size=32)∧ ∀w:World,(isAgg t).run P w= .ok true w)∨(I.st=false∧I.size=1∧ ∀w:World,(isAgg t).run P w= .ok false w):=by
 rcases hr.agg hc with ⟨d,hu,hd,hh⟩|⟨d,hu,hd,h1,h2⟩
 ·refine .inl ⟨hh.imp id (·.2),fun w=> ?_⟩
  unfold isAgg;rw [Sem.run_bind,run_underlying hu w];cases d<;>simp_all [TypeDesc.isRow]
 ·refine .inr ⟨h1,h2,fun w=> ?_⟩
  unfold isAgg;rw [Sem.run_bind,run_underlying hu w];cases d<;>simp_all [TypeDesc.isRow]
theorem M3 {t:TypeId} {I:TI} {cs:List av} {off:Nat} {arr:Array Value} {K':Slot→Option R} (hr:jV c.ti P t I) (hc:I.bX=[])
 (hv:ap e arr.toList cs) (hK:fq I cs off K'=some r):
 ∃v s,(∀w:World,(Go.part t arr off).run P w= .ok v w)∧af e v s∧bJ st.fr s∧K' s=some r:=by
 obtain ⟨i,hi,hs,_⟩:=hr.info hc
 have ext: ∀v1 v2 v3:List Value,arr.toList=v1++v2++v3→v1.length=off→(arr.extract off (off+v2.length))=v2.toArray:=by
  intro v1 v2 v3 h1 h2
  apply Array.toList_inj.1
  rw [Array.toList_extract,h1,List.extract_eq_take_drop,List.append_assoc,←h2,List.drop_left]
  simp
 unfold fq at hK
 cases c8:I.st with
 |true=>
  simp only [c8,cond_true] at hK
  cases hp:Dn.part cs off I.size with
  |none=>simp [hp] at hK
  |some ds=>
   simp only [hp] at hK
   obtain ⟨v1,v2,v3,h0,h1,h2,h3⟩:=Cc hp hv
   rcases Cf (P:=P) hr hc with ⟨_,Tl⟩|⟨hf,_⟩
   ·refine ⟨.agg v2.toArray,.ag ds,?_,?_,trivial,hK⟩
    ·have hx:=ext v1 v2 v3 h0 h1
     rw [h2] at hx
     simp [Go.part,Tl,Go.sizeOf,typeInfo,hi,hs,hx]
    ·simp only [af];exact ⟨_,rfl,by simpa using h3⟩
   ·rw [c8] at hf;cases hf
 |false=>
  simp only [c8,cond_false] at hK
  cases hp:cut cs off with
  |none=>simp [hp] at hK
  |some ds=>
   cases ds with
   |nil=>simp [hp] at hK
   |cons l ls=>
    simp only [hp] at hK
    cases hb:Nat.beq l.w I.size with
    |false=>simp [hb] at hK
    |true=>
     simp only [hb,cond_true] at hK
     have hw:=Nat.eq_of_beq_eq_true hb
     obtain ⟨v1,v2,h0,h1,h2⟩:=qP hp hv
     obtain ⟨u,u2,rfl,h3,h4⟩:=h2
     have hlu:u.length=I.size:=by rw [h3.width,hw]
     rcases Cf (P:=P) hr hc with ⟨hh,Tl⟩|⟨_,h1s,Tl⟩
     ·refine ⟨.agg u.toArray,.sc l,?_,h3.slot (.inr ⟨rfl,?_⟩),trivial,hK⟩
      ·have hx:=ext v1 u u2 (by rw [h0,List.append_assoc]) h1
       rw [hlu] at hx
       simp [Go.part,Tl,Go.sizeOf,typeInfo,hi,hs,hx]
      ·rcases hh with hh|hh
       ·rw [c8] at hh;cases hh
       ·rw [hw,hh]
     ·obtain ⟨v,rfl⟩:=List.length_eq_one_iff.1 (by rw [hlu,h1s])
      refine ⟨v,.sc l,?_,h3.slot (.inl ⟨rfl,?_⟩),trivial,hK⟩
      ·have:arr[off]? =some v:=by
        have:arr[off]? =arr.toList[off]? :=by simp
        rw [this,h0,List.getElem?_append_right (by omega),h1];simp
       simp [Go.part,Tl,this]
      ·rw [hw,h1s]
theorem Tr {t:TypeId} {x:Operand} {f:Nat} {I:TI} (ho:o.op= .field t x f) (hI:c.tv t=some I) (hT:fI P c.ti) (h:bn c Z e st a w)
 (hK:S9 c I f (aw c st x) (fun s=>aL c st o.dst s K)=some r):Rd P c Z K r e a w o (fun _=>True):=by
 obtain ⟨hx,jS⟩:=h.eval x
 obtain ⟨jy,hc⟩:=bl hI
 obtain ⟨d,i,h1,h2,h3,h4⟩:=hT t I jy
 generalize aw c st x=s at hx hK jS
 unfold S9 at hK
 split at hK
 ·rename_i q y cs c8 hq hy
  simp only [af] at hx
  obtain ⟨arr,hx,lg⟩:=hx
  cases hJ:c.tv y with
  |none=>simp [hJ] at hK
  |some J=>
   simp only [hJ] at hK
   obtain ⟨Zn,Sd⟩:=bl hJ
   obtain ⟨v,s,bw,h5,h6,h7⟩:=M3 (P:=P) (st:=st) (hT y J Zn) Sd lg hK
   refine ej (v:=v) h ?_ h5 h6 h7
   cases d<;>simp only [mn] at h4
   case struct fs=>
    obtain ⟨_,_,_,Kr,bN,_⟩:=h4
    rw [←Kr,List.getElem?_map] at hq
    rw [←bN,List.getElem?_map] at hy
    cases hf:fs.toList[f]? with
    |none=>simp [hf] at hq
    |some fl=>
     simp [hf] at hq hy
     subst hq;subst hy
     have PX:fs[f]? =some fl:=by simpa using hf
     simp [execOp,ho,hx,Instr.field,run_underlying h1,PX,asAgg,bw]
   all_goals (exfalso;simp_all)
 ·simp at hK
theorem TI.iq {I:TI} {t:TypeId} (hr:jV c.ti P t I) (h:I.rN=true):P.underlying t=some (.slice I.elem)∧ ∃E,c.ti I.elem=some E∧E.bX=[]∧0<E.size:=by
 unfold TI.rN at h
 split at h
 ·rename_i c8 hl
  obtain ⟨d,i,h1,h2,h3,h4⟩:=hr
  cases d<;>simp only [mn,hl,c8] at h4<;>first|(exfalso;simp_all;done)|skip
  obtain ⟨_,_,_,rfl,hE,_⟩:=h4
  exact ⟨h1,hE⟩
 ·cases h
theorem TI.yU {I:TI} {t:TypeId} (hr:jV c.ti P t I) (h:I.LZ=true):P.underlying t=some .string:=by
 unfold TI.LZ at h
 split at h
 ·rename_i c8 hl
  obtain ⟨d,i,h1,h2,h3,h4⟩:=hr
  cases d<;>simp only [mn,hl,c8] at h4<;>first|(exfalso;simp_all;done)|skip
  exact h1
 ·cases h
theorem yV {v:Value} {xs:List MV} (h:af e v (.sc (.p (.list xs)))): ∃ad cap,v= .slice ad xs.length cap∧xs.length≤cap:=by
 simp only [af,aG] at h
 obtain ⟨_,h⟩:=h
 generalize hv:[v]=vs at h
 cases h
 exact ⟨_,_,by simpa using hv,by assumption⟩
theorem lJ {f:Nat} {w':jr} {v:Value} (h:bn c Z e st a w) (hv:af e v (.sc (.own f))) (hf:ay st.aE f=some w'):v=e.E f∧ ∃ad cap,v= .slice ad w'.xs.length cap∧w'.xs.length≤cap:=by
 simp only [af] at hv
 obtain ⟨u,hu,_,hE⟩:=hv
 simp at hu;subst hu
 have hE:=hE w' (by rw [h.m];exact hf)
 refine ⟨hE,?_⟩
 obtain ⟨I,cells,_,_,cC,_⟩:=(h.dS f w' hf).row
 rcases cC.2 with ⟨h1,h2⟩|⟨g,cap,c9,h1,_,_,h2,_⟩
 ·exact ⟨none,0,by rw [hE,h1,h2],by omega⟩
 ·exact ⟨_,cap,by rw [hE,h1],h2⟩
theorem ek {l:List Operand}:eD c st l=l.map (aw c st):=by
 induction l with
 |nil=>rfl
 |cons x r ih=>simp [eD,ih]
theorem Ts {cl:Call} {t:TypeId} {I:TI} (ho:o.op= .call cl) (hb:cl.callee= .builtin .len) (ha:cl.argTypes.toList=[t]) (hI:c.tv t=some I) (hT:fI P c.ti) (h:bn c Z e st a w)
 (hK:Mu I st (eD c st cl.args.toList) (fun s=>aL c st o.dst s K)=some r):Rd P c Z K r e a w o (fun _=>True):=by
 obtain ⟨jy,hc⟩:=bl hI
 have hr:=hT t I jy
 have EO:cl.argTypes= #[t]:=by rw [←Array.toList_inj,ha]
 rw [ek] at hK
 have go: ∀x,cl.args.toList=[x]→ ∀n:Nat,(∃b:ByteArray,a.eval x= .string b∧b.size=n∧P.underlying t=some .string)∨(∃ad cap,a.eval x= .slice ad n cap∧ ∃el,P.underlying t=some (.slice el))→
  aL c st o.dst (.sc (.p (.i .i64 n))) K=some r→Rd P c Z K r e a w o (fun _=>True):=by
  intro x hx n yW hK
  have Kt:cl.args= #[x]:=by rw [←Array.toList_inj,hx]
  refine ej h ?_ (lG .i64 (n:Int)) trivial hK
  rcases yW with ⟨b,h1,h2,h3⟩|⟨ad,cap,h1,el,h3⟩
  ·simp [execOp,ho,resolve,hb,invoke,builtin,Builtin.len_,EO,Kt,run_underlying h3,h1,goInt,h2]
  ·simp [execOp,ho,resolve,hb,invoke,builtin,Builtin.len_,EO,Kt,run_underlying h3,h1,goInt]
 cases hl:cl.args.toList with
 |nil=>rw [hl] at hK;simp [Mu] at hK
 |cons x ys=>
  rw [hl] at hK
  cases ys with
  |cons y zs=>simp only [List.map_cons] at hK;unfold Mu at hK;split at hK<;>simp_all
  |nil=>
   simp only [List.map_cons,List.map_nil] at hK
   obtain ⟨hx,_⟩:=h.eval x
   generalize aw c st x=s at hx hK
   unfold Mu at hK
   split at hK
   ·rename_i l hs
    simp at hs;subst hs
    cases hS:I.LZ with
    |false=>simp [hS] at hK
    |true=>
     simp only [hS,cond_true] at hK
     obtain ⟨b,xQ,rfl⟩:=xf hx
     exact go x hl _ (.inl ⟨b,xQ,by show b.data.size=_;exact (Array.length_toList).symm,TI.yU hr hS⟩) hK
   ·rename_i l hs
    simp at hs;subst hs
    cases hS:I.rN with
    |false=>simp [hS] at hK
    |true=>
     simp only [hS,cond_true] at hK
     obtain ⟨ad,cap,hv,_⟩:=yV hx
     exact go x hl _ (.inr ⟨ad,cap,hv,_,(TI.iq hr hS).1⟩) hK
   ·rename_i hs
    simp at hs;subst hs
    cases hS:I.rN with
    |false=>simp [hS] at hK
    |true=>
     simp only [hS,cond_true] at hK
     simp only [af] at hx
     have hx:[a.eval x]=[Value.slice none 0 0]:=hx
     simp at hx
     exact go x hl 0 (.inr ⟨none,0,hx,_,(TI.iq hr hS).1⟩) hK
   ·rename_i f hs
    simp at hs;subst hs
    cases hS:I.rN with
    |false=>simp [hS] at hK
    |true=>
     simp only [hS,cond_true] at hK
     cases hf:ay st.aE f with
     |none=>simp [hf] at hK
     |some w'=>
      simp only [hf] at hK
      obtain ⟨_,ad,cap,hv,_⟩:=lJ h hx hf
      exact go x hl _ (.inr ⟨ad,cap,hv,_,(TI.iq hr hS).1⟩) hK
   ·simp at hK
end
end Dn
/-
  Values as leaves; places of elements; the least and the greatest; parts of slices. Conditions: none.
-/
set_option linter.unusedSimpArgs false
set_option linter.unusedVariables false
namespace Dn
open Go
section
variable {P:Program} {c:Ctx} {Z:aX} {e:Env} {st:St} {a:Act} {w w':World} {R:Type} {K:St→Option R} {r:R} {Q:Exit→Act→World→Prop} {o:Oper}
structure Sf (e:Env) (k:Kd) (vs:List Value) (m:MV) (l:av):Prop where
 WQ:gE e.key e.φ vs m→aG e vs l
 L6:ni l=true
 mv:aZ [l]=some [m]
 one: ∀m',l= .p m'→m'.one=true
 wid:l.w=xP [k]
theorem iV {k:Kd} {m:MV} {vs:List Value} {K':av→Option R} (hK:fp k m K'=some r): ∃l,Sf e k vs m l∧K' l=some r:=by
 have mk: ∀m:MV,m.one=true→(xP [k]=1)→K' (.p m)=some r→ ∃l,Sf e k vs m l∧K' l=some r:=
  fun m h1 h2 h3=>⟨.p m,⟨fun h=>⟨h1,h⟩,rfl,rfl,fun m' e=>by cases e;exact h1,h2.symm⟩,h3⟩
 cases k with
 |b=>unfold fp gB at hK;cases m<;>simp at hK;exact mk _ rfl rfl hK
 |s=>unfold fp gS at hK;cases m<;>simp at hK;exact mk _ rfl rfl hK
 |l=>unfold fp gL at hK;cases m<;>simp at hK;exact mk _ rfl rfl hK
 |i k=>
  unfold fp gI at hK;cases m<;>simp at hK
  rename_i k' n
  by_cases hk:k'=k
  ·subst hk;simp at hK;exact mk _ rfl rfl hK
  ·simp [hk] at hK
 |h=>
  unfold fp gH at hK;cases m<;>simp at hK
  rename_i x
  refine ⟨.hs x,⟨?_,rfl,rfl,by simp,rfl⟩,hK⟩
  intro h;cases h;rfl
 |raw=>unfold fp gR at hK;cases m<;>simp at hK<;>exact mk _ rfl rfl hK
theorem sY {l:av} {ls:List av} {m:MV} {ms:List MV} (h1:aZ [l]=some [m]) (h2:aZ ls=some ms):aZ (l::ls)=some (m::ms):=by
 cases l<;>simp [aZ] at h1⊢ <;>simp [h2,h1]
structure Qo (e:Env) (ks:List Kd) (vs:List Value) (ms:List MV) (ls:List av):Prop where
 WQ:dU e.key e.φ vs ms→ap e vs ls
 L6:eC ls=true
 mv:aZ ls=some ms
 one: ∀m',av.p m'∈ls→m'.one=true
 wid:qL ls=xP ks
theorem Kv (k:Kd) (ks:List Kd):xP (k::ks)=xP [k]+xP ks:=by cases k<;>simp [xP]
theorem pz {ks:List Kd}: ∀{ms:List MV} {vs:List Value} {K':List av→Option R},nh ks ms K'=some r→ ∃ls,Qo e ks vs ms ls∧K' ls=some r:=by
 induction ks with
 |nil=>
  intro ms vs K' hK
  cases ms with
  |nil=>exact ⟨[],⟨fun h=>by cases h;rfl,rfl,rfl,by simp,rfl⟩,hK⟩
  |cons m ms=>simp [nh,gN] at hK
 |cons k ks ih=>
  intro ms vs K' hK
  cases ms with
  |nil=>simp [nh,gC] at hK
  |cons m ms=>
   simp only [nh,gC] at hK
   have h1:=fun vs=>iV (e:=e) (vs:=vs) hK
   obtain ⟨l,hl,fU⟩:=h1 []
   obtain ⟨ls,Fh,mZ⟩:=ih (vs:=[]) fU
   refine ⟨l::ls,⟨?_,?_,sY hl.mv Fh.mv,?_,?_⟩,mZ⟩
   ·intro h
    have g:ap e vs (l::ls):=by
     apply h.leaves (sY hl.mv Fh.mv)
     intro m' hm
     rcases List.mem_cons.1 hm with hm|hm
     ·exact hl.one m' hm.symm
     ·exact Fh.one m' hm
    exact g
   ·simp [eC,hl.L6,Fh.L6]
   ·intro m' hm
    rcases List.mem_cons.1 hm with hm|hm
    ·exact hl.one m' hm.symm
    ·exact Fh.one m' hm
   ·rw [Kv,←hl.wid,←Fh.wid];rfl
theorem Qp {t:TypeId} {I:TI} (hr:jV c.ti P t I) (hc:I.bX=[]):xP I.lay=I.size:=by
 obtain ⟨d,i,h1,h2,h3,h4⟩:=hr
 cases d<;>simp only [mn] at h4
 case struct fs=>exact h4.2.2.1.2
 case tuple ts=>exact absurd hc h4.2.1
 case slice el=>obtain ⟨_,_,hs,_,_,_,_,k,hl,rfl⟩:=h4;rw [hl,hs];rfl
 case array n el=>obtain ⟨_,_,hs,_,_,_,hl,_⟩:=h4;rw [hl,hs];rfl
 all_goals (obtain ⟨_,_,hs,hl,_⟩:=h4;rw [hl,hs];rfl)
theorem xg {E:TI} {t:TypeId} {x:MV} {K':List av→Option R} (hr:jV c.ti P t E) (hc:E.bX=[]) (hK:Dk E x K'=some r):
 ∃cs,yC E.st x cs∧eC cs=true∧qL cs=E.size∧K' cs=some r:=by
 have hlw:=Qp hr hc
 unfold Dk at hK
 cases c8:E.st with
 |true=>
  simp only [c8,cond_true] at hK
  unfold gA at hK
  split at hK
  ·rename_i ms
   obtain ⟨ls,Fh,fU⟩:=pz (e:=⟨fun n=>n,fun _ _=>none,fun _=>undef,fun _=>0,[]⟩) (vs:=[]) hK
   exact ⟨ls,⟨⟨ms,Fh.mv,by simp [nQ]⟩,Fh.one⟩,Fh.L6,by rw [Fh.wid,hlw],fU⟩
  ·simp at hK
 |false=>
  simp only [c8,cond_false] at hK
  split at hK
  ·rename_i k hl
   obtain ⟨l,uB,fU⟩:=iV (e:=⟨fun n=>n,fun _ _=>none,fun _=>undef,fun _=>0,[]⟩) (vs:=[]) hK
   refine ⟨[l],⟨⟨[x],uB.mv,by simp [nQ]⟩,?_⟩,by simp [eC,uB.L6],?_,fU⟩
   ·intro m hm;simp at hm;exact uB.one m hm.symm
   ·rw [←hlw,hl,←uB.wid];rfl
  ·simp at hK
theorem Tt {t:TypeId} {x y:Operand} {I E:TI} (ho:o.op= .indexAddr t x y) (hI:c.tv t=some I) (hE:c.tv I.elem=some E) (hT:fI P c.ti) (h:bn c Z e st a w)
 (hK:Ta c st I E (aw c st x) (aw c st y) (fun s=>aL c st o.dst s K)=some r):Rd P c Z K r e a w o (fun _=>True):=by
 obtain ⟨hx,jS⟩:=h.eval x
 obtain ⟨hy,_⟩:=h.eval y
 obtain ⟨jy,hc⟩:=bl hI
 obtain ⟨lS,nV⟩:=bl hE
 have hr:=hT t I jy
 have hrE:=hT _ E lS
 obtain ⟨iE,WR,WS,_⟩:=hrE.info nV
 have run: ∀k n aM off len cap,P.underlying t=some (.slice I.elem)→a.eval y= .int k n→a.eval x= .slice (some ⟨aM,off,none⟩) len cap→0≤n→n.toNat<len→
  ∀w:World,(execOp a.eval o).run P w= .ok (.value (.pointer (some ⟨aM,off+n.toNat *E.size,none⟩))) w:=by
  intro k n aM off len cap hu hy hx h0 h1 w
  have h2:n<(len:Int):=by omega
  simp [execOp,ho,hx,hy,Instr.indexAt,asIntOf,run_underlying hu,h0,h2,Go.sizeOf,typeInfo,WR,WS,Addr.add_mid]
 generalize aw c st x=sx at hx hK jS
 generalize aw c st y=sy at hy hK
 unfold Ta at hK
 split at hK
 ·rename_i xs k n
  cases hL:I.rN with
  |false=>simp [hL] at hK
  |true=>
   simp only [hL,cond_true] at hK
   obtain ⟨h0,m,hm,hK⟩:=Fe hK
   obtain ⟨cs,h1,h2,h3,hK⟩:=xg hrE nV hK
   have cA:n.toNat<xs.length:=(List.getElem?_eq_some_iff.1 hm).1
   simp only [af,aG] at hx
   obtain ⟨_,hx⟩:=hx
   generalize hv:[a.eval x]=vs at hx
   cases hx with
   |list ad cap _ aM off Ca f g1 g2 g3 g4 g5=>
   simp at hv
   have dt:=g5 n.toNat cA
   rw [(List.getElem?_eq_some_iff.1 hm).2] at dt
   have lg:=dt.yM h1
   have L7:Ca=E.size:=by rw [←h3,←lg.width,g3 _ cA]
   rw [g2 (by omega)] at hv
   refine ej (s:= .rp cs 0) h (run k n aM off _ cap (TI.iq hr hL).1 (fR hy) hv h0 cA) ?_ trivial hK
   simp only [af]
   refine ⟨aM,off+n.toNat *E.size,f n.toNat,rfl,lg,h2,?_⟩
   intro j hj
   rw [g3 _ cA] at hj
   rw [←L7];exact g4 n.toNat j cA hj
 ·rename_i f k n
  cases hf:ay st.aE f with
  |none=>simp [hf] at hK
  |some fo=>
   simp only [hf] at hK
   cases hL:I.rN with
   |false=>simp [hL] at hK
   |true=>
    simp only [hL,cond_true] at hK
    obtain ⟨h0,m,hm,hK⟩:=Fe hK
    obtain ⟨cs,h1,h2,h3,hK⟩:=xg hrE nV hK
    have cA:n.toNat<fo.xs.length:=(List.getElem?_eq_some_iff.1 hm).1
    obtain ⟨hv,_⟩:=lJ h hx hf
    obtain ⟨J,cells,_,_,cC,_⟩:=(h.dS f fo hf).row
    rcases cC.2 with ⟨h5,h6⟩|⟨g,cap,c9,h5,_⟩
    ·omega
    ·rw [h5] at hv
     refine ej (s:= .ep f n.toNat 0 E.st cs) h (run k n g 0 _ cap (TI.iq hr hL).1 (fR hy) hv h0 cA) ?_ trivial hK
     simp only [af]
     intro o2 bN
     rw [h.m,hf] at bN
     cases bN
     exact ⟨g,cap,h5,⟨m,hm,h1⟩,by rw [h3,Nat.zero_add,Nat.add_zero]⟩
 ·rename_i r' o' k n
  cases c8:I.st with
  |true=>simp [c8] at hK
  |false=>
   simp only [c8,cond_false] at hK
   split at hK
   ·rename_i hl
    obtain ⟨GZ,hK⟩:=ct hK
    obtain ⟨h0,h1⟩:=of_decide_eq_true GZ
    obtain ⟨d,i,hu,h2,h3,h4⟩:=hr
    cases d<;>simp only [mn,hl,c8] at h4<;>first|(exfalso;simp_all;done)|skip
    obtain ⟨_,_,_,rfl,_,⟨ie,Sg,uo,qI⟩,_⟩:=h4
    simp only [af] at hx
    refine ej (s:= .hp r' o' n.toNat) (v:= .pointer (some ⟨e.B r',o'+n.toNat,none⟩)) h ?_ ?_ jS hK
    ·simp [execOp,ho,hx,fR hy,Instr.indexAt,asIntOf,run_underlying hu,h0,h1,Go.sizeOf,typeInfo,uo,qI,Instr.sureAddr,Addr.add_mid]
    ·simp only [af];exact ⟨trivial,by omega⟩
   ·simp at hK
 ·simp at hK
theorem Kw {mx:Bool} {k:IntKind} {ss:List Slot}: ∀{vs:List Value} {n:Int} {m:MV},Mo mx k n ss=some m→vs.length=ss.length→
 (∀(i:Nat) (v:Value) (s:Slot),vs[i]? =some v→ss[i]? =some s→af e v s)→
 ∃v,(∀w:World,(vs.foldlM (if mx then Builtin.max2 else Builtin.min2) (.int k n)).run P w= .ok v w)∧af e v (.sc (.p m)):=by
 induction ss with
 |nil=>
  intro vs n m hm hl hs
  have:=List.eq_nil_of_length_eq_zero hl
  subst this
  simp [Mo] at hm
  subst hm
  exact ⟨.int k n,by simp,lG k n⟩
 |cons s ss ih=>
  intro vs n m hm hl hs
  cases vs with
  |nil=>simp at hl
  |cons v vs=>
   have h0:=hs 0 v s rfl rfl
   unfold Mo at hm
   split at hm
   ·rename_i dJ;simp at dJ
   ·rename_i k' y r' dJ
    simp at dJ
    obtain ⟨rfl,rfl⟩:=dJ
    by_cases hk:k'=k
    ·subst hk
     simp only [decide_true,cond_true] at hm
     obtain ⟨u,h1,h2⟩:=ih hm (by simpa using hl) (fun i v s h1 h2=>hs (i+1) v s (by simpa using h1) (by simpa using h2))
     refine ⟨u,fun w=> ?_,h2⟩
     have h1:=h1 w
     rw [fR h0]
     cases mx
     ·simp only [cond_false,Wu] at h1
      simp [Builtin.min2] at h1⊢
      exact h1
     ·simp only [cond_true,imax] at h1
      simp [Builtin.max2] at h1⊢
      exact h1
    ·simp [hk] at hm
   ·simp at hm
theorem Cg {cl:Call} {mx:Bool} {m:MV} (ho:o.op= .call cl) (hb:cl.callee= .builtin (if mx then .max else .min)) (h:bn c Z e st a w)
 (hm:G7 mx (eD c st cl.args.toList)=some m) (hK:aL c st o.dst (.sc (.p m)) K=some r):Rd P c Z K r e a w o (fun _=>True):=by
 rw [ek] at hm
 cases hl:cl.args.toList with
 |nil=>rw [hl] at hm;simp [G7] at hm
 |cons x xs=>
  rw [hl] at hm
  simp only [List.map_cons] at hm
  obtain ⟨hx,_⟩:=h.eval x
  generalize aw c st x=s at hx hm
  unfold G7 at hm
  split at hm
  ·rename_i k n ss dJ
   simp at dJ
   obtain ⟨rfl,rfl⟩:=dJ
   obtain ⟨v,h1,h2⟩:=Kw (e:=e) (P:=P) (vs:=xs.map a.eval) hm (by simp) (by
    intro i v s h1 h2
    simp only [List.getElem?_map,Option.map_eq_some_iff] at h1 h2
    obtain ⟨y,h3,rfl⟩:=h1
    obtain ⟨y',h4,rfl⟩:=h2
    rw [h3] at h4;cases h4
    exact (h.eval y).1)
   have dD:(cl.args.map a.eval).toList= .int k n::xs.map a.eval:=by simp [hl,fR hx]
   refine ej (v:=v) h ?_ h2 trivial hK
   intro w
   have h1:=h1 w
   cases mx
   ·simp at hb h1
    have M4: ∀ts t,(Builtin.min_ ts t (cl.args.map a.eval)).run P w= .ok v w:=by intro ts t;unfold Builtin.min_;rw [dD];exact h1
    simp [execOp,ho,resolve,hb,invoke,builtin,M4]
   ·simp at hb h1
    have M4: ∀ts t,(Builtin.max_ ts t (cl.args.map a.eval)).run P w= .ok v w:=by intro ts t;unfold Builtin.max_;rw [dD];exact h1
    simp [execOp,ho,resolve,hb,invoke,builtin,M4]
  ·simp at hm
end
end Dn
/-
  Parts of slices and texts. Conditions: none.
-/
set_option linter.unusedSimpArgs false
set_option linter.unusedVariables false
namespace Dn
open Go
section
variable {P:Program} {c:Ctx} {Z:aX} {e:Env} {st:St} {a:Act} {w w':World} {R:Type} {K:St→Option R} {r:R} {Q:Exit→Act→World→Prop} {o:Oper}
theorem pA {b:Bool} {lo hi:Option Operand} {len cap:Nat} {K':Nat→Nat→Option R} (h:bn c Z e st a w) (tG:len≤cap) (hK:sliceB (gy c st lo) (gy c st hi) len K'=some r):
 ∃l h',l≤h'∧h'≤len∧(lo=none→l=0)∧(∀w:World,(Instr.sliceBounds b len cap (lo.map a.eval) (hi.map a.eval) none).run P w= .ok (l,h',cap) w)∧K' l h'=some r:=by
 have Tu: ∀(k:IntKind) (n:Int) (y:Nat) (cd:BoundsCode),0≤n→n≤(y:Int)→ ∀w:World,(Instr.sliceBound (.int k n) y cd).run P w= .ok n.toNat w:=by
  intro k n y cd h1 h2 w
  simp [Instr.sliceBound,asIntOf,h1,h2]
 unfold sliceB at hK
 cases lo with
 |none=>
  cases hi with
  |none=>
   simp only [gy] at hK
   exact ⟨0,len,by omega,by omega,fun _=>rfl,by simp [Instr.sliceBounds],hK⟩
  |some y=>
   obtain ⟨hy,_⟩:=h.eval y
   simp only [gy] at hK
   generalize aw c st y=sy at hy hK
   split at hK<;>first|(simp_all;done)|skip
   ·rename_i k n h1 h2
    simp at h2;subst h2
    obtain ⟨GZ,hK⟩:=ct hK
    obtain ⟨h3,h4,h5⟩:=of_decide_eq_true GZ
    refine ⟨0,n.toNat,by omega,by omega,fun _=>rfl,?_,hK⟩
    have:=Tu k n cap (if b then .sliceAcap else .sliceAlen) h4 (by omega)
    cases b<;>simp at this<;>simp [Instr.sliceBounds,fR hy,this]
 |some x=>
  obtain ⟨hx,_⟩:=h.eval x
  cases hi with
  |none=>
   simp only [gy] at hK
   generalize aw c st x=sx at hx hK
   split at hK<;>first|(simp_all;done)|skip
   ·rename_i k n h1 h2
    simp at h1;subst h1
    obtain ⟨GZ,hK⟩:=ct hK
    obtain ⟨h3,h4,h5⟩:=of_decide_eq_true GZ
    refine ⟨n.toNat,len,by omega,by omega,by simp,?_,by simpa using hK⟩
    have:=Tu k n len .sliceB h3 h4
    simp [Instr.sliceBounds,fR hx,this]
  |some y=>
   obtain ⟨hy,_⟩:=h.eval y
   simp only [gy] at hK
   generalize aw c st x=sx at hx hK
   generalize aw c st y=sy at hy hK
   split at hK<;>first|(simp_all;done)|skip
   ·rename_i k n k' n' h1 h2
    simp at h1 h2;subst h1;subst h2
    obtain ⟨GZ,hK⟩:=ct hK
    obtain ⟨h3,h4,h5⟩:=of_decide_eq_true GZ
    refine ⟨n.toNat,n'.toNat,by omega,by omega,by simp,?_,hK⟩
    have t1:=Tu k' n' cap (if b then .sliceAcap else .sliceAlen) (by omega) (by omega)
    have t2:=Tu k n n'.toNat .sliceB h3 (by omega)
    cases b<;>simp at t1<;>simp [Instr.sliceBounds,fR hx,fR hy,t1,t2]
theorem gE.sub {key:Nat→Nat} {φ:Ph} {ad:Option Addr} {len cap:Nat} {xs:List MV} {l h' size:Nat} (hv:gE key φ [.slice ad len cap] (.list xs)) (hl:l≤h') (hh:h'≤xs.length)
 (hw:l≠0→ ∀x∈xs,x.w=size):len=xs.length∧len≤cap∧gE key φ [.slice (if cap=l then ad else ad.map (·.add (l *size))) (h'-l) (cap-l)] (.list ((xs.take h').drop l)):=by
 generalize rR:[Value.slice ad len cap]=vs at hv
 cases hv with
 |list Zo M1 _ aM off Ca f g1 g2 g3 g4 g5=>
 simp at rR
 obtain ⟨rfl,rfl,rfl⟩:=rR
 refine ⟨rfl,g1,?_⟩
 have hlen:((xs.take h').drop l).length=h'-l:=by simp;omega
 have WT:gE key φ [.slice (if cap=l then ad else ad.map (·.add (l *size))) ((xs.take h').drop l).length (cap-l)] (.list ((xs.take h').drop l)):=by
  have ir: ∀i,i<((xs.take h').drop l).length→i+l<xs.length:=by intro i hi;omega
  have Sc: ∀(i:Nat) (hi:i<((xs.take h').drop l).length),((xs.take h').drop l)[i]=xs[i+l]'(ir i hi):=by
   intro i hi
   simp [Nat.add_comm]
  refine .list _ _ _ aM (off+l *Ca) Ca (fun i=>f (i+l)) (by rw [hlen];omega) ?_ ?_ ?_ ?_
  ·intro h0
   have cm:cap≠l:=by omega
   have Tv:0<xs.length:=by omega
   rw [g2 Tv]
   simp only [cm,if_false,Option.map_some,Option.some.injEq]
   by_cases Zp:l=0
   ·subst Zp;simp [Addr.add_mid]
   ·have L7:Ca=size:=by
     have h3:=g5 0 Tv
     rw [←g3 0 Tv,h3.width]
     exact hw Zp _ (List.getElem_mem Tv)
    rw [L7,Addr.add_mid]
  ·intro i hi;exact g3 _ (ir i hi)
  ·intro i j hi hj
   have:=g4 (i+l) j (ir i hi) hj
   rw [←this]
   congr 1
   rw [Nat.add_mul];omega
  ·intro i hi
   rw [Sc i hi]
   exact g5 (i+l) (ir i hi)
 rw [hlen] at WT
 exact WT
theorem uF {n:Nat} {l:List MV} (h:lc n l=true): ∀x∈l,x.w=n:=by
 intro x hx
 unfold lc at h
 rw [List.all_eq_true] at h
 exact Nat.eq_of_beq_eq_true (h x hx)
theorem aQ.lc {key:Nat→Nat} {φ:Ph} {size:Nat} {xs:List MV}: ∀{cs:List Value},aQ key φ size cs xs→ ∀x∈xs,x.w=size:=by
 induction xs with
 |nil=>intro cs _ x hx;simp at hx
 |cons y ys ih=>
  intro cs h x hx
  obtain ⟨v,q,rfl,h1,h2,h3⟩:=h
  rcases List.mem_cons.1 hx with rfl|hx
  ·rw [←h2.width,h1]
  ·exact ih h3 x hx
theorem M5 {t:TypeId} {x:Operand} {lo hi:Option Operand} {I:TI} (ho:o.op= .slice t x lo hi none) (hI:c.tv t=some I) (hT:fI P c.ti) (h:bn c Z e st a w)
 (hK:G8 c I st (aw c st x) (gy c st lo) (gy c st hi) (fun s st=>aL c st o.dst s K)=some r):Rd P c Z K r e a w o (fun _=>True):=by
 obtain ⟨hx,jS⟩:=h.eval x
 obtain ⟨jy,hc⟩:=bl hI
 have hr:=hT t I jy
 have run: ∀{el E},P.underlying t=some (.slice el)→c.ti el=some E→E.bX=[]→ ∀ad len cap l h',a.eval x= .slice ad len cap→(∀w:World,(Instr.sliceBounds true len cap (lo.map a.eval) (hi.map a.eval) none).run P w= .ok (l,h',cap) w)→
  ∀w:World,(execOp a.eval o).run P w= .ok (.value (.slice (if cap=l then ad else ad.map (·.add (l *E.size))) (h'-l) (cap-l))) w:=by
  intro el E hu hE nV ad len cap l h' hv hb w
  obtain ⟨iE,WR,WS,_⟩:=(hT _ E hE).info nV
  simp [execOp,ho,Instr.sliceAt,Instr.slice,run_underlying hu,hv,hb,Go.sizeOf,typeInfo,WR,WS]
 generalize hs:aw c st x=s at hx hK jS
 unfold G8 at hK
 split at hK
 ·rename_i bs
  cases hS:I.LZ with
  |false=>simp [hS] at hK
  |true=>
   simp only [hS,cond_true] at hK
   have hu:=TI.yU hr hS
   obtain ⟨b,hb,rfl⟩:=xf hx
   have lh:b.data.toList.length=b.size:=by rw [Array.length_toList];rfl
   rw [lh] at hK
   obtain ⟨l,h',h1,h2,_,h3,hK⟩:=pA (P:=P) (b:=false) (cap:=b.size) h (Nat.le_refl _) hK
   refine ej (s:= .sc (.p (.s ((b.data.toList.take h').drop l)))) (v:= .string (b.extract l h')) h ?_ ?_ trivial hK
   ·simp [execOp,ho,Instr.sliceAt,Instr.slice,run_underlying hu,hb,h3]
   ·have:=MU (e:=e) (b.extract l h')
    have h5:(b.extract l h').data.toList=(b.data.toList.take h').drop l:=by
     rw [ByteArray.data_extract,Array.toList_extract,List.extract_eq_take_drop,List.drop_take]
    rwa [h5] at this
 ·rename_i xs
  cases hS:I.rN with
  |false=>simp [hS] at hK
  |true=>
   simp only [hS,cond_true] at hK
   obtain ⟨hu,_⟩:=TI.iq hr hS
   cases hE:c.tv I.elem with
   |none=>simp [hE] at hK
   |some E=>
    simp only [hE] at hK
    obtain ⟨lS,nV⟩:=bl hE
    have mZ:(lo≠none→lc E.size xs=true)∧sliceB (gy c st lo) (gy c st hi) xs.length (fun l h'=>aL c st o.dst (.sc (.p (.list ((xs.take h').drop l)))) K)=some r:=by
     cases lo with
     |none=>exact ⟨by simp,hK⟩
     |some y=>simp only [gy] at hK⊢;obtain ⟨h1,h2⟩:=ct hK;exact ⟨fun _=>h1,h2⟩
    obtain ⟨hw,hK⟩:=mZ
    obtain ⟨ad,cap,hv,tG⟩:=yV hx
    obtain ⟨l,h',h1,h2,h0,h3,hK⟩:=pA (P:=P) (b:=true) (cap:=cap) h tG hK
    simp only [af,aG] at hx
    rw [hv] at hx
    obtain ⟨_,_,dt⟩:=gE.sub (size:=E.size) hx.2 h1 h2 (fun hl=>uF (hw (fun hn=>hl (h0 hn))))
    refine ej (s:= .sc (.p (.list ((xs.take h').drop l)))) h (run hu lS nV ad _ cap l h' hv h3) ?_ trivial hK
    simp only [af,aG]
    exact ⟨rfl,dt⟩
 ·rename_i f
  cases hf:ay st.aE f with
  |none=>simp [hf] at hK
  |some fo=>
   simp only [hf] at hK
   cases hS:I.rN&&Nat.beq fo.ty I.elem with
   |false=>simp [hS] at hK
   |true=>
    simp only [hS,cond_true] at hK
    simp only [Bool.and_eq_true] at hS
    obtain ⟨hu,E,lS,nV,_⟩:=TI.iq hr hS.1
    have eH:=Nat.eq_of_beq_eq_true hS.2
    obtain ⟨hvE,ad,cap,hv,tG⟩:=lJ h hx hf
    simp only [af] at hx
    obtain ⟨J,cells,hJ,_,_,jz,_⟩:=(h.dS f fo hf).row
    rw [eH,lS] at hJ
    cases hJ
    have hwx:=jz.lc
    obtain ⟨e',bj,m,rT,Qm,xR,dt,hK,_,hm⟩:=kN h hx hK
    obtain ⟨o2,bN,rfl⟩:=hm.1 f rfl
    rw [hf] at bN
    cases bN
    obtain ⟨l,h',h1,h2,h0,h3,hK⟩:=pA (P:=P) (b:=true) (cap:=cap) h tG hK
    rw [hv] at dt
    obtain ⟨_,_,dt⟩:=gE.sub (size:=E.size) dt h1 h2 (fun _=>hwx)
    refine Hm (s:= .sc (.p (.list ((fo.xs.take h').drop l)))) (fun w _=>run hu lS nV ad _ cap l h' hv h3 w) rT Qm.tr (.of ?_ trivial) hK
    simp only [af,aG]
    exact ⟨rfl,dt⟩
 ·cases hS:I.rN with
  |false=>simp [hS] at hK
  |true=>
   simp only [hS,cond_true] at hK
   obtain ⟨hu,E,lS,nV,_⟩:=TI.iq hr hS
   simp only [af] at hx
   have hx:[a.eval x]=[Value.slice none 0 0]:=hx
   simp at hx
   obtain ⟨l,h',h1,h2,_,h3,hK⟩:=pA (P:=P) (b:=true) (cap:=0) h (Nat.le_refl _) hK
   have h4:h'=0:=by omega
   have h5:l=0:=by omega
   subst h4;subst h5
   refine ej (s:= .sc .nil) h (run hu lS nV none 0 0 0 0 hx h3) ?_ trivial hK
   simp only [af,if_true]
   rfl
 ·simp at hK
theorem Qq {t:TypeId} {x y z:Operand} {I:TI} (ho:o.op= .slice t x none (some y) (some z)) (hI:c.tv t=some I) (hT:fI P c.ti) (h:bn c Z e st a w)
 (hK:Ms I (aw c st x) (aw c st y) (aw c st z) (fun s=>aL c st o.dst s K)=some r):Rd P c Z K r e a w o (fun _=>True):=by
 obtain ⟨hx,jS⟩:=h.eval x
 obtain ⟨hy,_⟩:=h.eval y
 obtain ⟨hz,_⟩:=h.eval z
 obtain ⟨jy,hc⟩:=bl hI
 have hr:=hT t I jy
 generalize aw c st x=s at hx hK jS
 generalize aw c st y=s2 at hy hK
 generalize aw c st z=s3 at hz hK
 unfold Ms at hK
 split at hK
 ·rename_i l n n'
  cases hS:I.rN with
  |false=>simp [hS] at hK
  |true=>
   simp only [hS,cond_true] at hK
   obtain ⟨GZ,mZ⟩:=ct hK
   obtain ⟨rfl,rfl⟩:=of_decide_eq_true GZ
   obtain ⟨hu,E,lS,nV,_⟩:=TI.iq hr hS
   obtain ⟨iE,WR,WS,_⟩:=(hT _ E lS).info nV
   obtain ⟨ad,cap,hv,tG⟩:=yV hx
   simp only [af,aG] at hx
   rw [hv] at hx
   have Tu: ∀(m:Nat) (cd:BoundsCode),l.length≤m→ ∀w:World,(Instr.sliceBound (.int .i64 (l.length:Int)) m cd).run P w= .ok l.length w:=by
    intro m cd hm w
    have:(l.length:Int)≤(m:Int):=by omega
    simp [Instr.sliceBound,asIntOf,this]
   have hb: ∀w:World,(Instr.sliceBounds true l.length cap none (some (.int .i64 (l.length:Int))) (some (.int .i64 (l.length:Int)))).run P w= .ok (0,l.length,l.length) w:=by
    intro w
    have b1:=Tu cap .slice3Acap tG
    have b2:=Tu l.length .slice3B (Nat.le_refl _)
    simp [Instr.sliceBounds,b1,b2]
   have dt:gE e.key e.φ [.slice ad l.length l.length] (.list l):=by
    have h2:=hx.2
    generalize rR:[Value.slice ad l.length cap]=vs at h2
    cases h2 with
    |list Zo M1 _ aM off Ca f g1 g2 g3 g4 g5=>
    simp at rR
    obtain ⟨rfl,_⟩:=rR
    exact .list _ _ _ aM off Ca f (Nat.le_refl _) g2 g3 g4 g5
   refine ej (s:= .sc (.p (.clip l))) (v:= .slice ad l.length l.length) h (fun w=> ?_) ?_ trivial mZ
   ·simp [execOp,ho,Instr.sliceAt,Instr.slice,run_underlying hu,hv,fR hy,fR hz,hb,Go.sizeOf,typeInfo,WR,WS]
    intro cm
    cases ad with
    |none=>rfl
    |some b=>simp [Addr.add]
   ·simp only [af,aG]
    exact ⟨rfl,.clip _ _ dt⟩
 ·simp at hK
end
end Dn
/-
  Stores. Conditions: none.
-/
set_option linter.unusedSimpArgs false
set_option linter.unusedVariables false
namespace Dn
open Go
section
variable {P:Program} {c:Ctx} {Z:aX} {e e':Env} {st:St} {a:Act} {w w':World} {R:Type} {K:St→Option R} {r:R} {Q:Exit→Act→World→Prop} {o:Oper}
theorem yX (x:fm) (i:Nat) (b:UInt8) (hi:i<32):aT (x.put i b)=(aT x).take i++[.int .u8 (b.toNat:Int)]++(aT x).drop (i+1):=by
 have:aT (x.put i b)=(aT x).set i (.int .u8 (b.toNat:Int)):=by simp [aT,fm.put,List.map_set]
 have hl:=bZ x
 rw [this,List.set_eq_take_append_cons_drop,if_pos (by omega)]
 simp
structure M6 (e e':Env):Prop where
 key:e'.key=e.key
 φ:lE e.φ e'.φ
 dS: ∀f o',ay e'.m f=some o'→(∃o,ay e.m f=some o)∧e'.E f=e.E f
theorem aG.M7 (h:M6 e e') {vs:List Value} {l:av} (hr:aG e vs l):aG e' vs l:=by
 cases l with
 |p m=>exact ⟨hr.1,by have:=hr.2.mono h.φ;rw [←h.key] at this;exact this⟩
 |own f=>
  obtain ⟨v,rfl,hv,hf⟩:=hr
  refine ⟨v,rfl,hv,fun o' tC=> ?_⟩
  obtain ⟨⟨o,ho⟩,hE⟩:=h.dS f o' tC
  rw [hE];exact hf o ho
 |_=>exact hr
theorem ap.M7 (h:M6 e e') {cs:List av}: ∀{vs:List Value},ap e vs cs→ap e' vs cs:=by
 induction cs with
 |nil=>intro vs hr;exact hr
 |cons l r ih=>intro vs hr;obtain ⟨v,w,rfl,h1,h2⟩:=hr;exact ⟨v,w,rfl,h1.M7 h,ih h2⟩
def Jf (f:Nat) (s:Slot):Slot:=match s with
 | .ep g i o b cs=>bif Nat.beq g f then .sc .un else .ep g i o b cs
 |s=>s
theorem oq (f:Nat) (r:Fr) (t:Nat):ak (qN f r) t=Jf f (ak r t):=yF (Jf f) rfl r t
theorem Kx (f:Nat) (s:Slot):bR (Jf f s)=bR s:=by
 cases s<;>simp only [Jf]
 rename_i g _ _ _ _
 cases Nat.beq g f<;>rfl
theorem af.M7 {f:Nat} {T:Nat→Prop} (h:M6 e e') (nU:fQ (· ≠f) T e e') {v:Value} {s:Slot} (hT:dj (fun _=>True) T s) (hr:af e v s):af e' v (Jf f s):=by
 cases s with
 |sc l=>
  simp only [Jf]
  cases l with
  |un=>simp [af]
  |hs x=>simpa [af] using hr
  |p m=>simp only [af] at hr⊢;exact hr.M7 h
  |nil=>simp only [af] at hr⊢;exact hr.M7 h
  |mp s es=>simp only [af] at hr⊢;exact hr
  |own f=>simp only [af] at hr⊢;exact hr.M7 h
 |ag cs=>simp only [Jf,af] at hr⊢;obtain ⟨arr,h1,h2⟩:=hr;exact ⟨arr,h1,h2.M7 h⟩
 |ep g i o b cs=>
  simp only [Jf]
  cases hb:Nat.beq g f
  ·simp only [cond_false]
   refine hr.on nU ?_
   simp only [dj];intro e;subst e;simp [cw] at hb
  ·simp [af]
 |_=>exact hr.on nU hT
theorem eW.M7 (h:M6 e e') (hk:e'.key=e.key) (hp:lE e.φ e'.φ) {o:Obj} {cs:List av} (hr:eW e o cs):eW e' o cs:=by
 cases o with
 |cells arr T z=>exact ⟨hr.1,hr.2.M7 h⟩
 |map es clock=>exact hr
 |stringIter x pos=>exact hr
 |_=>exact hr.elim
theorem aQ.set {key:Nat→Nat} {φ:Ph} {size:Nat} {xs:List MV}: ∀{cs:List Value} {i:Nat} {x:MV} {v':List Value},aQ key φ size cs xs→i<xs.length→v'.length=size→gE key φ v' x→
 aQ key φ size (cs.take (i *size)++v'++cs.drop (i *size+size)) (xs.set i x):=by
 induction xs with
 |nil=>intro cs i x v' _ hi;simp at hi
 |cons y ys ih=>
  intro cs i x v' h hi hl hr
  obtain ⟨v,q,rfl,h1,h2,h3⟩:=h
  cases i with
  |zero=>simp only [Nat.zero_mul,List.take_zero,List.nil_append,Nat.zero_add,List.set_cons_zero];exact ⟨v',q,by rw [List.drop_left' h1],hl,hr,h3⟩
  |succ i=>
   have:=ih h3 (by simpa using hi) hl hr
   rw [List.set_cons_succ]
   refine ⟨v,_,?_,h1,h2,this⟩
   rw [Nat.succ_mul,List.take_append,List.drop_append,List.take_of_length_le (by omega),List.drop_of_length_le (by omega)]
   rw [show i *size+size-v.length=i *size by omega,show i *size+size+size-v.length=i *size+size by omega]
   simp
theorem bn.Tw {f:Nat} {fo:jr} {I:TI} {g i:Nat} {cap:Nat} {c9:Array Value} {v' cells:List Value} {x:MV} (h:bn c Z e st a w) (hf:ay st.aE f=some fo) (hz:fo.cK=false)
 (hI:c.ti fo.ty=some I) (Qk:I.bX=[]) (hE:e.E f= .slice (some ⟨g,0,none⟩) fo.xs.length cap) (cC:w.ownsRow 0 fo.ty I.size (e.E f) fo.xs.length cells) (hg:w.heap[g]? =some (.cells c9 fo.ty (0,0)))
 (jz:aQ e.key e.φ I.size cells fo.xs)
 (hi:i<fo.xs.length) (hl:v'.length=I.size) (hr:gE e.key e.φ v' x) (qT:f∉Z.bL):
 bn c Z {e with m:=bt e.m f ⟨fo.ty,false,fo.xs.set i x⟩} {st with fr:=qN f st.fr,aE:=bt st.aE f ⟨fo.ty,false,fo.xs.set i x⟩} a
  (w.setRow g (c9.toList.take (i *I.size)++v'++c9.toList.drop (i *I.size+I.size)).toArray)∧Z g:=by
 have hb:(e.E f).ownBlock=some g:=by rw [hE];rfl
 have hZ:Z g∧ ∀off,e.φ g off=none:=by
  obtain ⟨J,pw,_,_,_,_,h5⟩:=(h.dS f fo hf).row
  obtain ⟨h6,h7⟩:=h5 g hb
  refine ⟨EK h6 qT,fun off=> ?_⟩
  cases hp:e.φ g off with
  |none=>rfl
  |some u=>have:=(h7.1 off u hp).1;rw [hz] at this;cases this
 have lh:=setRow_size w g (c9.toList.take (i *I.size)++v'++c9.toList.drop (i *I.size+I.size)).toArray
 have hE1:M6 e {e with m:=bt e.m f ⟨fo.ty,false,fo.xs.set i x⟩}:=by
  refine ⟨rfl,.refl _,fun f2 o2 bN=>⟨?_,rfl⟩⟩
  have bN:ay (bt e.m f ⟨fo.ty,false,fo.xs.set i x⟩) f2=some o2:=bN
  rw [aP] at bN
  by_cases cY:f2=f
  ·exact ⟨fo,by rw [cY,h.m];exact hf⟩
  ·simp only [cY,if_false] at bN;exact ⟨o2,bN⟩
 have nU:fQ (· ≠f) (fun _=>True) e {e with m:=bt e.m f ⟨fo.ty,false,fo.xs.set i x⟩}:=by
  refine ⟨rfl,.refl _,fun _ _=>rfl,fun f2 o2 bN cm=> ?_⟩
  have bN:ay (bt e.m f ⟨fo.ty,false,fo.xs.set i x⟩) f2=some o2:=bN
  rw [aP] at bN
  simp only [cm,if_false] at bN;exact ⟨o2,bN,rfl,rfl⟩
 have ir: ∀f2 o2,ay (bt st.aE f ⟨fo.ty,false,fo.xs.set i x⟩) f2=some o2→ ∃o3,ay st.aE f2=some o3:=by
  intro f2 o2 bN
  rw [aP] at bN
  by_cases cY:f2=f
  ·exact ⟨fo,by rw [cY];exact hf⟩
  ·simp only [cY,if_false] at bN;exact ⟨o2,bN⟩
 refine ⟨⟨h.defers,h.size,by show bt e.m f _=bt st.aE f _;rw [h.m],h.key,?_,?_,?_,?_,?_,?_,?_,?_,fun b hb=>h.bH b (by omega)⟩,hZ.1⟩
 ·show (aD (qN f st.fr)).Nodup
  have:aD (qN f st.fr)=aD st.fr:=by simp [aD,qN]
  rw [this];exact h.nodup
 ·intro t
  show bu Z _ _ t _ (ak (qN f st.fr) t)
  rw [oq]
  have hs:=h.slot t
  have Ql:=h.bf t
  generalize ak st.fr t=s at hs Ql
  by_cases wi: ∃cs,s= .box cs
  ·obtain ⟨cs,rfl⟩:=wi
   simp only [bu,Jf] at hs⊢
   refine ⟨hs.1,hs.2.bH,?_,hs.2.free⟩
   obtain ⟨o2,h1,h2⟩:=hs.2.obj
   refine ⟨o2,?_,h2.M7 hE1 rfl (.refl _)⟩
   rw [setRow_other _ _ _ _ (by intro eb;exact Ql cs f fo rfl hf (by rw [hb,←eb]))];exact h1
  ·have rT:af e (a.tmps.getD t undef) s:=by cases s<;>simp only [bu] at hs<;>first|exact hs|exact absurd ⟨_,rfl⟩ wi
   have h2:=rT.M7 (f:=f) hE1 nU (cu s)
   generalize G0:Jf f s=s2 at h2
   cases s2<;>first|exact h2|(exfalso;simp [af] at h2)
 ·intro t
  show bJ (qN f st.fr) (ak (qN f st.fr) t)
  rw [oq]
  have jS:=h.root t
  generalize ak st.fr t=s at jS
  have hk: ∀q,bR (ak (qN f st.fr) q)=bR (ak st.fr q):=fun q=>by rw [oq,Kx]
  cases s with
  |ptr q o=>show bR (ak (qN f st.fr) q)=true;rw [hk];exact jS
  |hp q o i=>show bR (ak (qN f st.fr) q)=true;rw [hk];exact jS
  |qB q=>show bR (ak (qN f st.fr) q)=true;rw [hk];exact jS
  |ep g' _ _ _ _=>simp only [Jf];cases Nat.beq g' f<;>trivial
  |_=>trivial
 ·intro f2 o2 bN
  have bN:ay (bt st.aE f ⟨fo.ty,false,fo.xs.set i x⟩) f2=some o2:=bN
  rw [aP] at bN
  by_cases cY:f2=f
  ·subst cY
   simp at bN
   subst bN
   obtain ⟨hlen,yW⟩:=cC
   refine ⟨I,cells.take (i *I.size)++v'++cells.drop (i *I.size+I.size),hI,Qk,⟨?_,?_⟩,?_,?_⟩
   ·have hle:i *I.size+I.size≤fo.xs.length *I.size:=by rw [←Nat.succ_mul];exact Nat.mul_le_mul_right _ hi
    simp only [List.length_append,List.length_take,List.length_drop,List.length_set];omega
   ·have hle:i *I.size+I.size≤fo.xs.length *I.size:=by rw [←Nat.succ_mul];exact Nat.mul_le_mul_right _ hi
    rcases yW with ⟨h1,_⟩|⟨g2,Ky,Fi,h1,_,h3,h4,h5,h6,h7⟩
    ·rw [hE] at h1;simp at h1
    ·rw [hE] at h1
     simp at h1
     obtain ⟨rfl,rfl⟩:=h1
     rw [hg] at h3
     simp at h3
     subst h3
     refine .inr ⟨g,cap,(c9.toList.take (i *I.size)++v'++c9.toList.drop (i *I.size+I.size)).toArray,by rw [hE];simp,by omega,setRow_heap _ _ _ _ _ _ hg,by simpa using h4,h5,?_,?_⟩
     ·have lj:c9.toList.length=c9.size:=by simp
      have Zq:fo.xs.length *I.size≤cap *I.size:=Nat.mul_le_mul_right _ h4
      simp only [List.size_toArray,List.length_append,List.length_take,List.length_drop,lj];omega
     ·have lj:c9.toList.length=c9.size:=by simp
      have Zq:fo.xs.length *I.size≤cap *I.size:=Nat.mul_le_mul_right _ h4
      simp only [List.length_set]
      rw [←h7]
      have e1:(c9.toList.take (fo.xs.length *I.size)).take (i *I.size)=c9.toList.take (i *I.size):=by rw [List.take_take,Nat.min_eq_left (by omega)]
      have e2:(c9.toList.take (fo.xs.length *I.size)).drop (i *I.size+I.size)=(c9.toList.drop (i *I.size+I.size)).take (fo.xs.length *I.size-(i *I.size+I.size)):=by rw [List.drop_take]
      rw [e1,e2]
      have e3:(c9.toList.take (i *I.size)++v').length=i *I.size+I.size:=by simp only [List.length_append,List.length_take,lj];omega
      show List.take _ (c9.toList.take (i *I.size)++v'++c9.toList.drop (i *I.size+I.size))=_
      rw [List.take_append,e3,List.take_of_length_le (by omega)]
   ·exact jz.set hi hl hr
   ·intro aM fK
    rw [hb] at fK
    cases fK
    exact ⟨.inr hZ.1,fun off u hu=>(by have hu:e.φ g off=some u:=hu;rw [hZ.2] at hu;cases hu),fun _ hf=>Bool.noConfusion hf⟩
  ·simp only [cY,if_false] at bN
   obtain ⟨I2,pw,h1,h2,h3,h4,h5⟩:=(h.dS f2 o2 bN).row
   exact ⟨I2,pw,h1,h2,Hs (fun hk=>cY (h.ff f2 f o2 fo g bN hf hk hb)) h3,h4,h5⟩
 ·intro t t' c1 c2 h1 h2 cm
  have h1:ak (qN f st.fr) t= .box c1:=h1
  have h2:ak (qN f st.fr) t'= .box c2:=h2
  rw [oq] at h1 h2
  have g1:ak st.fr t= .box c1:=by
   generalize ak st.fr t=s at h1
   cases s<;>simp only [Jf] at h1<;>first|exact h1|(simp at h1;done)|(rename_i g' _ _ _ _;cases sU:Nat.beq g' f<;>simp [sU] at h1)
  have g2:ak st.fr t'= .box c2:=by
   generalize ak st.fr t'=s at h2
   cases s<;>simp only [Jf] at h2<;>first|exact h2|(simp at h2;done)|(rename_i g' _ _ _ _;cases sU:Nat.beq g' f<;>simp [sU] at h2)
  exact h.bb t t' c1 c2 g1 g2 cm
 ·intro t c1 f2 o2 h1 h2
  have h1:ak (qN f st.fr) t= .box c1:=h1
  rw [oq] at h1
  have g1:ak st.fr t= .box c1:=by
   generalize ak st.fr t=s at h1
   cases s<;>simp only [Jf] at h1<;>first|exact h1|(simp at h1;done)|(rename_i g' _ _ _ _;cases sU:Nat.beq g' f<;>simp [sU] at h1)
  obtain ⟨o3,L3⟩:=ir f2 o2 h2
  exact h.bf t c1 f2 o3 g1 L3
 ·intro f1 f2 o1 o2 k h1 h2 h3 h4
  obtain ⟨q1,g1⟩:=ir f1 o1 h1
  obtain ⟨q2,g2⟩:=ir f2 o2 h2
  exact h.ff f1 f2 q1 q2 k g1 g2 h3 h4
 ·intro b off v hv
  have hv:e.φ b off=some v:=hv
  have cm:b≠g:=by intro eb;subst eb;rw [hZ.2] at hv;cases hv
  rw [World.cell?_of_block (setRow_other _ _ _ _ cm)];exact h.jb b off v hv
theorem ap.aam {cs:List av}: ∀{vs:List Value} {ms:List MV},ap e vs cs→aZ cs=some ms→dU e.key e.φ vs ms:=by
 induction cs with
 |nil=>intro vs ms h hm;cases h;simp [aZ] at hm;subst hm;exact .nil
 |cons l r ih=>
  intro vs ms h hm
  obtain ⟨v,u,rfl,h1,h2⟩:=h
  cases hr:aZ r with
  |none=>cases l<;>simp [aZ,hr] at hm
  |some q=>
   cases l<;>simp [aZ,hr] at hm
   ·subst hm;exact .cons v _ u q h1.2 (ih h2 hr)
   ·subst hm
    have h1:v=aT _:=h1
    subst h1
    exact .cons _ _ u q (.h _) (ih h2 hr)
theorem M8 {b:Bool} {ms:List MV} {x:MV} {vs:List Value} (h:dU e.key e.φ vs ms) (hx:nQ b ms=some x):gE e.key e.φ vs x:=by
 cases b with
 |true=>cases ms<;>simp [nQ] at hx<;>subst hx<;>exact .agg _ _ h
 |false=>
  cases ms with
  |nil=>simp [nQ] at hx
  |cons m ms=>
   cases ms with
   |cons y ys=>simp [nQ] at hx
   |nil=>
    simp [nQ] at hx
    subst hx
    generalize rR:vs=GW at h
    cases h with
    |cons v _ u _ h1 h2=>cases h2;simpa using h1
theorem M9 {t:TypeId} {x y:Operand} {I:TI} (ho:o.op= .store t x y) (hI:c.tv t=some I) (hT:fI P c.ti) (h:bn c Z e st a w)
 (hK:stK st I (aw c st x) (aw c st y) (fun st=>aL c st o.dst (.sc .un) K)=some r):o.wp P a w (Out c Z K r e.φ w) Q:=by
 obtain ⟨hx,jS⟩:=h.eval x
 obtain ⟨hy,_⟩:=h.eval y
 obtain ⟨jy,hc⟩:=bl hI
 have hr:=hT t I jy
 have go: ∀w' bj,(Instr.storeAt t (a.eval x) (a.eval y)).run P w= .ok () w'→bn c Z e bj a w'→Trans Z e.φ w e.φ w'→aL c bj o.dst (.sc .un) K=some r→o.wp P a w (Out c Z K r e.φ w) Q:=by
  intro w' bj h1 h2 h3 h4
  refine uD ?_ h2 h3 h4
  simp [execOp,ho,h1]
 generalize aw c st x=sx at hx hK jS
 generalize aw c st y=sy at hy hK
 unfold stK at hK
 cases hb:om (aA sy)||!Nat.beq (qL (aA sy)) I.size with
 |true=>simp [hb] at hK
 |false=>
  simp only [hb,cond_false] at hK
  simp only [Bool.or_eq_false_iff,Bool.not_eq_false'] at hb
  have yQ:=Nat.eq_of_beq_eq_true hb.2
  have dk:0<I.size:=by
   rcases hr.agg hc with ⟨d,hu,hd,hh⟩|⟨_,_,_,_,hh⟩
   ·obtain ⟨d',i',h1,h2,h3,h4⟩:=hr
    cases d'<;>simp only [mn] at h4<;>first|omega|exact h4.2.2.1|exact absurd hc h4.2.1
   ·omega
  have cm:aA sy≠[]:=by intro e0;rw [e0] at yQ;simp [qL] at yQ;omega
  have Zr:=sV hy hb.1 cm
  split at hK
  ·rename_i root off
   simp only [af] at hx
   split at hK
   ·rename_i cs qR
    have od:cX cs=false:=by cases hq:cX cs<;>simp_all
    simp only [od,cond_false] at hK
    cases hp:putAt cs off (aA sy) with
    |none=>simp [hp] at hK
    |some dp=>
     simp only [hp] at hK
     obtain ⟨w',bj,h1,h2,h3,h4⟩:=Ku (P:=P) od hr hc h qR Zr yQ hp hK
     exact go w' bj (by rw [hx];exact h1) h2 h3 h4
   ·simp at hK
  ·rename_i root off i
   simp only [af] at hx
   obtain ⟨hx,Hr⟩:=hx
   split at hK
   ·rename_i cs n qR
    have od:cX cs=false:=by cases hq:cX cs<;>simp_all
    simp only [od,cond_false] at hK
    split at hK
    ·rename_i x ls Tn
     unfold gI at hK
     split at hK
     ·rename_i k n
      by_cases hk:k= .u8
      ·subst hk
       simp only [decide_true,cond_true] at hK
       obtain ⟨uG,hK⟩:=ct hK
       unfold isByte at uG
       have uG:=of_decide_eq_true uG
       have hyv:=fR hy
       cases hp:putAt cs off [.hs (x.put i (UInt8.ofNat n.toNat))] with
       |none=>simp [hp] at hK
       |some dp=>
        simp only [hp] at hK
        have gJ:=h.slot root
        rw [qR] at gJ
        obtain ⟨arr,T,cB,lg⟩:=gJ.2.cells od
        obtain ⟨p1,p2,p3,he,h1,h2,h3⟩:=pq (ws:=aT (x.put i (UInt8.ofNat n.toNat))) hp lg ⟨_,[],by simp,rfl,rfl⟩
        obtain ⟨u1,u2,hu,h4,h5⟩:=qP Tn lg
        obtain ⟨u3,u4,rfl,h6,_⟩:=h5
        have h6:u3=aT x:=h6
        subst h6
        have hlx:=bZ x
        have hly:=bZ (x.put i (UInt8.ofNat n.toNat))
        have hpu:p1=u1∧p2++p3=aT x++u4:=List.append_inj (by rw [←List.append_assoc,←he,hu]) (by omega)
        obtain ⟨rfl,hpu⟩:=hpu
        obtain ⟨rfl,rfl⟩:=List.append_inj hpu (by omega)
        have lh:arr.size=p1.length+32+p3.length:=by
         have:arr.toList.length=(p1++aT x++p3).length:=by rw [he]
         simp at this
         omega
        have DC:(a.eval y).cells.toList=[.int .u8 n]:=by rw [hyv];simp [Value.cells]
        have Ho:I.size=1:=by rw [←yQ];rfl
        have bw:=li (P:=P) (w:=w) (aM:=e.B root) (off:=off+i) (v:=a.eval y) hr hc (by rw [DC,Ho];rfl) (by rw [DC];simp [Value.oneCell']) cB (by omega)
        have lH:arr.toList.take (off+i)++(a.eval y).cells.toList++arr.toList.drop (off+i+I.size)=p1++aT (x.put i (UInt8.ofNat n.toNat))++p3:=by
         rw [DC,Ho,he,yX x i _ Hr,←uG,List.append_assoc p1,List.take_append,List.drop_append,List.take_append,List.drop_append]
         rw [List.take_of_length_le (by omega),List.drop_of_length_le (by omega)]
         rw [show off+i-p1.length=i by omega,show off+i+1-p1.length=i+1 by omega,show i-(aT x).length=0 by omega,show i+1-(aT x).length=0 by omega]
         simp
        rw [lH] at bw
        unfold wr at hK
        cases hn:aV st.bA root with
        |true=>simp [hn] at hK
        |false=>
         simp only [hn,cond_false,force_eq,gG] at hK
         exact go _ _ (by rw [hx];exact bw) (h.M0 qR cB (by simpa using h3) (fun t=>by rw [bk]) (cL h.nodup)) (.setRow _ (EK gJ.2.bH (by rw [←h.defers.2.1,←aW,hn];simp))) hK
      ·simp [hk] at hK
     ·simp at hK
    ·simp at hK
   ·simp at hK
  ·rename_i f i off b cs
   obtain ⟨e1,cb,ms,qI,yS,wh,sW,hK,Tq,sX⟩:=iC h Zr hK
   have hx:=hx.on yS.on (cu _)
   cases hf:ay cb.aE f with
   |none=>simp [hf] at hK
   |some fo=>
    simp only [hf] at hK
    cases hz:fo.cK with
    |true=>simp [hz] at hK
    |false=>
     simp only [hz,cond_false] at hK
     cases EL:lf (aA sy) ms with
     |none=>simp [EL] at hK
     |some vs=>
      simp only [EL] at hK
      obtain ⟨rR,_⟩:=sX vs EL
      cases hp:putAt cs off vs with
      |none=>simp [hp] at hK
      |some dp=>
       simp only [hp] at hK
       cases hm:aZ dp with
       |none=>simp [hm] at hK
       |some ms'=>
        simp only [hm] at hK
        cases Tx:nQ b ms' with
        |none=>simp [Tx] at hK
        |some x'=>
         simp only [Tx] at hK
         cases hn:aV cb.bL f with
         |true=>simp [hn] at hK
         |false=>
          simp only [hn,cond_false,Tc,ju] at hK
          simp only [af] at hx
          obtain ⟨aM,cap,hE,⟨x0,Tv,Sc⟩,Na⟩:=hx fo (by rw [qI.m];exact hf)
          obtain ⟨J,cells,hJ,Sd,cC,jz,_⟩:=(qI.dS f fo hf).row
          have hi:i<fo.xs.length:=(List.getElem?_eq_some_iff.1 Tv).1
          obtain ⟨p1,v1,p2,hce,Hq,uB,dt⟩:=jz.at Tv
          have lg:=dt.yM Sc
          have Zs:=lg.width
          obtain ⟨q1,q2,q3,Hp,hq1,hq2,lH⟩:=pq hp lg rR
          have WU:(a.eval y).cells.toList.length=I.size:=by rw [Zr.width,yQ]
          have WV:=M8 (lH.aam hm) Tx
          obtain ⟨hlen,yW⟩:=cC
          rcases yW with ⟨g1,_⟩|⟨g2,Ky,c9,g1,g0,g3,g4,g5,g6,g7⟩
          ·rw [hE] at g1;simp at g1
          ·have Ch:w.ownsRow 0 fo.ty J.size (e1.E f) fo.xs.length cells:=⟨hlen,.inr ⟨g2,Ky,c9,g1,g0,g3,g4,g5,g6,g7⟩⟩
           rw [hE] at g1
           simp at g1
           obtain ⟨rfl,rfl⟩:=g1
           have hvl:(q1++(a.eval y).cells.toList++q3).length=J.size:=by
            have:v1.length=(q1++q2++q3).length:=by rw [Hp]
            simp only [List.length_append] at this⊢;omega
           obtain ⟨j9,hZ⟩:=qI.Tw hf hz hJ Sd hE Ch g3 jz hi hvl WV (by rw [←qI.defers.2.2.1,←aW,hn];simp)
           have Nb:c9.toList=p1++q1++q2++(q3++p2++c9.toList.drop (fo.xs.length *J.size)):=by
            have:=List.take_append_drop (fo.xs.length *J.size) c9.toList
            rw [g7,hce,Hp] at this
            refine this.symm.trans ?_
            simp
           have age:q2.length=I.size:=by rw [hq2,WU]
           have yR:(p1++q1).length=i *J.size+off:=by simp [Hq,hq1]
           have agf:c9.size=(p1++q1).length+I.size+(q3++p2++c9.toList.drop (fo.xs.length *J.size)).length:=by
            have:c9.toList.length=(p1++q1++q2++(q3++p2++c9.toList.drop (fo.xs.length *J.size))).length:=by rw [←Nb]
            rw [List.length_append,List.length_append] at this
            rw [Array.length_toList] at this
            omega
           have bw:=li (P:=P) (w:=w) (aM:=aM) (off:=i *J.size+off) (v:=a.eval y) hr hc WU Zr.cells g3 (by omega)
           have mr:c9.toList.take (i *J.size+off)++(a.eval y).cells.toList++c9.toList.drop (i *J.size+off+I.size)=
            c9.toList.take (i *J.size)++(q1++(a.eval y).cells.toList++q3)++c9.toList.drop (i *J.size+J.size):=by
            have t1:c9.toList.take (i *J.size+off)=p1++q1:=by
             conv=>lhs;rw [Nb,List.append_assoc (p1++q1)]
             exact List.take_left' yR
            have t2:c9.toList.drop (i *J.size+off+I.size)=q3++p2++c9.toList.drop (fo.xs.length *J.size):=by
             conv=>lhs;rw [Nb]
             exact List.drop_left' (by rw [List.length_append];omega)
            have t3:c9.toList.take (i *J.size)=p1:=by
             conv=>lhs;rw [Nb]
             simp only [List.append_assoc]
             exact List.take_left' Hq
            have t4:c9.toList.drop (i *J.size+J.size)=p2++c9.toList.drop (fo.xs.length *J.size):=by
             have WW:c9.toList=(p1++(q1++q2++q3))++(p2++c9.toList.drop (fo.xs.length *J.size)):=by
              conv=>lhs;rw [Nb]
              simp
             conv=>lhs;rw [WW]
             exact List.drop_left' (by rw [List.length_append,←Hp];omega)
            rw [t1,t2,t3,t4]
            simp
           rw [mr] at bw
           have aap:i *qL cs+off=i *J.size+off:=by rw [←Zs,uB]
           refine uD (w':=w.setRow aM (c9.toList.take (i *J.size)++(q1++(a.eval y).cells.toList++q3)++c9.toList.drop (i *J.size+J.size)).toArray) ?_ j9 ?_ hK
           ·rw [aap] at Na
            simp [execOp,ho,Na,bw]
           ·exact yS.tr.trans (.setRow _ hZ)
  ·simp at hK
end
end Dn
/-
  Structs and sums that are put together. Conditions: none.
-/
set_option linter.unusedSimpArgs false
set_option linter.unusedVariables false
namespace Dn
open Go
section
variable {P:Program} {c:Ctx} {Z:aX} {e e':Env} {st:St} {a:Act} {w w':World} {R:Type} {K:St→Option R} {r:R} {Q:Exit→Act→World→Prop} {o:Oper}
theorem Ci {place:Nat→Option (Nat×Nat)} {cells:Array Value} {i off:Nat} {v:Value} {rest:List (Nat×Value)} (hp:place i=some (off,v.cells.size)) (hle:off+v.cells.size≤cells.size):
 Instr.fill place cells ((i,v)::rest)=Instr.fill place (cells.toList.take off++v.cells.toList++cells.toList.drop (off+v.cells.size)).toArray rest:=by
 conv=>lhs;unfold Instr.fill
 simp only [hp]
 rw [if_neg (by simp;omega)]
 congr 1
 rw [←Array.foldl_toList,Array.toList_zipIdx]
 obtain ⟨h1,h2⟩:=Go.Great.foldl_set off v.cells.toList 0 cells
 apply Array.ext_getElem?
 intro k
 have hl:(cells.toList.take off).length=off:=by simp;omega
 have e0:=h2 k
 simp only [Nat.add_zero,Array.length_toList] at e0
 refine Eq.trans e0 ?_
 have e1:(cells.toList.take off++v.cells.toList++cells.toList.drop (off+v.cells.size)).toArray[k]? =(cells.toList.take off++v.cells.toList++cells.toList.drop (off+v.cells.size))[k]? :=by simp
 rw [e1,List.append_assoc]
 have e2:cells[k]? =cells.toList[k]? :=by simp
 by_cases h3:k<off
 ·rw [if_neg (by omega),List.getElem?_append_left (by omega),List.getElem?_take,if_pos h3,e2]
 ·rw [List.getElem?_append_right (by omega),hl]
  by_cases h4:k<off+v.cells.size
  ·rw [if_pos ⟨by omega,h4,by omega⟩,List.getElem?_append_left (by simp;omega)]
  ·rw [if_neg (by omega),List.getElem?_append_right (by simp;omega),List.getElem?_drop,e2]
   congr 1
   simp;omega
theorem Hv {I:TI} {places:List (Nat×Nat)} (h:bn c Z e st a w) (EL: ∀(i q y:Nat) (J:TI),I.EW[i]? =some q→I.Kf[i]? =some y→c.tv y=some J→places[i]? =some (q,J.size)∧0<J.size) {parts:List (Nat×Operand)}:
 ∀{cs ds:List av} {cells:Array Value},ap e cells.toList cs→tw c st I parts cs=some ds→
 ∃out,Instr.fill (places.toArray[·]?) cells (parts.map fun p=>(p.1,a.eval p.2))=some out∧ap e out.toList ds:=by
 induction parts with
 |nil=>intro cs ds cells hl hb;simp [tw] at hb;subst hb;exact ⟨cells,rfl,hl⟩
 |cons p ps ih=>
  intro cs ds cells hl hb
  obtain ⟨i,x⟩:=p
  simp only [tw] at hb
  split at hb
  ·rename_i q y hq hy
   cases hJ:c.tv y with
   |none=>simp [hJ] at hb
   |some J=>
    simp only [hJ] at hb
    obtain ⟨hpi,dk⟩:=EL i q y J hq hy hJ
    cases hu:om (aA (aw c st x))||!Nat.beq (qL (aA (aw c st x))) J.size with
    |true=>simp [hu] at hb
    |false=>
     simp only [hu,cond_false] at hb
     simp only [Bool.or_eq_false_iff,Bool.not_eq_false'] at hu
     have yQ:=Nat.eq_of_beq_eq_true hu.2
     cases hp:putAt cs q (aA (aw c st x)) with
     |none=>simp [hp] at hb
     |some dp=>
      simp only [hp] at hb
      have cm:aA (aw c st x)≠[]:=by intro e0;rw [e0] at yQ;simp [qL] at yQ;omega
      have hv:=sV (h.eval x).1 hu.1 cm
      obtain ⟨p1,p2,p3,he,h1,h2,h3⟩:=pq hp hl hv
      have hlen:(a.eval x).cells.size=J.size:=by rw [←yQ,←hv.width];simp
      have lh:cells.size=p1.length+p2.length+p3.length:=by
       have:cells.toList.length=(p1++p2++p3).length:=by rw [he]
       simp at this;omega
      have Fg:p2.length=(a.eval x).cells.size:=by rw [h2];simp
      have lq:=Ci (place:=(places.toArray[·]?)) (cells:=cells) (i:=i) (off:=q) (v:=a.eval x) (rest:=ps.map fun p=>(p.1,a.eval p.2)) (by rw [hlen];simpa using hpi) (by omega)
      have ht:cells.toList.take q++(a.eval x).cells.toList++cells.toList.drop (q+(a.eval x).cells.size)=p1++(a.eval x).cells.toList++p3:=by
       rw [he]
       rw [List.append_assoc p1 p2 p3,List.take_left' h1,←List.append_assoc p1 p2 p3,List.drop_left' (by rw [List.length_append];omega)]
      rw [ht] at lq
      obtain ⟨out,h4,h5⟩:=ih (cells:=(p1++(a.eval x).cells.toList++p3).toArray) (by simpa using h3) hb
      exact ⟨out,by rw [List.map_cons,lq];exact h4,h5⟩
  ·simp at hb
theorem Hw {parts:List (Nat×Operand)} (h:bn c Z e st a w): ∀{x:fm} {K':fm→Option R},yz c st parts x K'=some r→
 ∃y,Instr.fill (fun i=>some (i *1,1)) (aT x).toArray (parts.map fun p=>(p.1,a.eval p.2))=some (aT y).toArray∧K' y=some r:=by
 induction parts with
 |nil=>intro x K' hb;exact ⟨x,rfl,hb⟩
 |cons p ps ih=>
  intro x K' hb
  obtain ⟨i,y⟩:=p
  simp only [yz] at hb
  split at hb
  ·rename_i m hm
   cases hi:Nat.ble 32 i with
   |true=>simp [hi] at hb
   |false=>
    simp only [hi,cond_false] at hb
    have Hr:i<32:=by
     by_cases cA:i<32
     ·exact cA
     ·have:Nat.ble 32 i=true:=Nat.ble_eq_true_of_le (by omega)
      simp_all
    unfold gI at hb
    split at hb
    ·rename_i k n
     by_cases hk:k= .u8
     ·subst hk
      simp only [decide_true,cond_true] at hb
      obtain ⟨uG,hb⟩:=ct hb
      unfold isByte at uG
      have uG:=of_decide_eq_true uG
      obtain ⟨out,h1,h2⟩:=ih hb
      have hv:=fR (by have:=(h.eval y).1;rw [hm] at this;exact this)
      refine ⟨out,?_,h2⟩
      rw [←h1,List.map_cons]
      have GZ:(a.eval y).cells= #[.int .u8 n]:=by rw [hv];simp [Value.cells]
      have lq:=Ci (place:=fun i=>some (i *1,1)) (cells:=(aT x).toArray) (i:=i) (off:=i *1) (v:=a.eval y) (rest:=ps.map fun p=>(p.1,a.eval p.2)) (by rw [GZ];rfl) (by rw [GZ];have:=bZ x;simp;omega)
      rw [lq,yX x i _ Hr,←uG,GZ]
      simp
     ·simp [hk] at hb
    ·simp at hb
  ·simp at hb
theorem Kz (P:Program) (l:List Field):(∀f∈l,∃i,P.info? f.type=some i)→
 ∃places,l.mapM (fun f=>(P.info? f.type).map fun i=>(f.offset,i.size))=some places∧ ∀(k:Nat) (f:Field),l[k]? =some f→ ∃i,P.info? f.type=some i∧places[k]? =some (f.offset,i.size):=by
 induction l with
 |nil=>intro _;exact ⟨[],by simp,by simp⟩
 |cons f fs ih=>
  intro h
  obtain ⟨i,hi⟩:=h f (by simp)
  obtain ⟨ps,h1,h2⟩:=ih (fun g hg=>h g (by simp [hg]))
  refine ⟨(f.offset,i.size)::ps,by simp [List.mapM_cons,hi,h1],?_⟩
  intro k g hg
  cases k with
  |zero=>simp at hg;subst hg;exact ⟨i,hi,rfl⟩
  |succ k=>simp at hg;simpa using h2 k g hg
theorem Nc {t:TypeId} {parts:Array (Nat×Operand)} {I:TI} (ho:o.op= .build t parts) (hI:c.tv t=some I) (hT:fI P c.ti) (h:bn c Z e st a w)
 (hK:(bif I.st then (match tw c st I parts.toList I.zero with|some cs=>aL c st o.dst (.ag cs) K|none=>none)
  else (match I.lay with|[.h]=>yz c st parts.toList fm.zero fun x=>aL c st o.dst (.sc (.hs x)) K|_=>none))=some r):Rd P c Z K r e a w o (fun _=>True):=by
 obtain ⟨jy,hc⟩:=bl hI
 obtain ⟨d,i,h1,h2,h3,h4⟩:=hT t I jy
 have L8:(parts.map fun (i,x)=>(i,a.eval x)).toList=parts.toList.map fun p=>(p.1,a.eval p.2):=by simp
 have run: ∀out,P.built t (parts.toList.map fun p=>(p.1,a.eval p.2))=some out→ ∀w:World,(execOp a.eval o).run P w= .ok (.value (.agg out)) w:=by
  intro out hb w
  have:=run_build (P:=P) w t (parts.map fun (i,x)=>(i,a.eval x)) out (by rw [L8];exact hb)
  simp [execOp,ho] at this⊢
  simp [this]
 cases c8:I.st with
 |true=>
  simp only [c8,cond_true] at hK
  cases d<;>simp only [mn] at h4
  case struct fs=>
   obtain ⟨_,_,_,Kr,bN,L3,zc,hz,hzl,_⟩:=h4
   cases hb:tw c st I parts.toList I.zero with
   |none=>simp [hb] at hK
   |some cs=>
    simp only [hb] at hK
    have aaq: ∃places,fs.toList.mapM (fun f=>(P.info? f.type).map fun i=>(f.offset,i.size))=some places∧
     (∀(i q y:Nat) (J:TI),I.EW[i]? =some q→I.Kf[i]? =some y→c.tv y=some J→places[i]? =some (q,J.size)∧0<J.size):=by
     obtain ⟨places,Tq,GY⟩:=Kz P fs.toList (by
      intro f hf
      obtain ⟨k,hk,rfl⟩:=List.mem_iff_getElem.1 hf
      obtain ⟨J,hJ,Sd,_⟩:=L3 k fs.toList[k] (by simp at hk⊢)
      obtain ⟨i,hi,_⟩:=(hT _ J hJ).info Sd
      exact ⟨i,hi⟩)
     refine ⟨places,Tq,?_⟩
     intro i q y J hq hy hJ
     rw [←Kr,List.getElem?_map] at hq
     rw [←bN,List.getElem?_map] at hy
     cases hf:fs.toList[i]? with
     |none=>simp [hf] at hq
     |some f=>
      simp [hf] at hq hy
      subst hq;subst hy
      obtain ⟨J2,hJ2,aar,dk⟩:=L3 i f (by simpa using hf)
      obtain ⟨Zn,_⟩:=bl hJ
      rw [hJ2] at Zn
      cases Zn
      obtain ⟨i2,PY,aas⟩:=GY i f hf
      obtain ⟨i3,hi3,Ty,_⟩:=(hT _ J hJ2).info aar
      rw [PY] at hi3
      cases hi3
      exact ⟨by rw [aas,Ty],dk⟩
    obtain ⟨places,EL,Hx⟩:=aaq
    obtain ⟨out,h5,h6⟩:=Hv h Hx (cells:=zc) (fY hzl) hb
    refine ej (v:= .agg out) (s:= .ag cs) h (run out ?_) ?_ trivial hK
    ·unfold Program.built
     simp only [h2,h1,hz,EL]
     exact h5
    ·simp only [af];exact ⟨out,rfl,h6⟩
  all_goals (exfalso;simp_all)
 |false=>
  simp only [c8,cond_false] at hK
  split at hK
  ·rename_i hl
   cases d<;>simp only [mn,hl,c8] at h4<;>first|(exfalso;simp_all;done)|skip
   obtain ⟨_,_,_,rfl,rfl,⟨ie,hu,uo,qI⟩,_,_,hz⟩:=h4
   obtain ⟨y,h5,h6⟩:=Hw h hK
   refine ej (v:= .agg (aT y).toArray) (s:= .sc (.hs y)) h (run _ ?_) ?_ trivial h6
   ·unfold Program.built
    simp only [h2,h1,hz,uo,qI]
    exact h5
   ·simp only [af]
  ·simp at hK
end
end Dn
/-
  A family comes to have other content. Conditions: none.
-/
set_option linter.unusedSimpArgs false
set_option linter.unusedVariables false
namespace Dn
open Go
section
variable {P:Program} {c:Ctx} {Z:aX} {e e':Env} {st:St} {a:Act} {w w':World} {R:Type} {K:St→Option R} {r:R} {Q:Exit→Act→World→Prop} {o:Oper}
def Env.sH (e:Env) (f:Nat) (v:Value) (fo:jr):Env:={e with E:=fun g=>if g=f then v else e.E g,m:=bt e.m f fo}
def St.sH (st:St) (f:Nat) (fo:jr):St:={st with fr:=fT f st.fr,aE:=bt st.aE f fo}
theorem wj (f:Nat) (s:Slot):bR (sS f s)=bR s:=by
 cases s<;>simp only [sS,bR]
 rename_i g _ _ _ _
 cases Nat.beq g f<;>rfl
theorem np {f:Nat} {s:Slot} {cs:List av} (h:sS f s= .box cs): ∃xS,s= .box xS∧cs=xS.map (EJ f):=by
 cases s<;>simp only [sS] at h<;>first|(simp at h;done)|(rename_i g _ _ _ _;cases hb:Nat.beq g f<;>simp [hb] at h;done)|skip
 rename_i xS
 simp at h
 exact ⟨xS,rfl,h.symm⟩
theorem bn.ei {f:Nat} {fo:jr} {v':Value} (h:bn c Z e st a w) (qT:f∉Z.bL) (dz:b9 c Z.nc e w' v' fo) (aec:w.heap.size≤w'.heap.size)
 (cB: ∀b,b<w.heap.size→(∀o,ay st.aE f=some o→(e.E f).ownBlock≠some b)→w'.heap[b]? =w.heap[b]?)
 (gK: ∀b o v,e.φ b o=some v→w'.cell? ⟨b,o,none⟩=some v)
 (lH: ∀b,v'.ownBlock=some b→w.heap.size≤b∨ ∃o,ay st.aE f=some o∧(e.E f).ownBlock=some b):
 bn c Z (e.sH f v' fo) (st.sH f fo) a w':=by
 have nU:fQ (· ≠f) (fun _=>True) e (e.sH f v' fo):=by
  refine ⟨rfl,.refl _,fun _ _=>rfl,fun f2 o2 bN cm=> ?_⟩
  have bN:ay (bt e.m f fo) f2=some o2:=bN
  rw [aP] at bN
  simp only [cm,if_false] at bN
  exact ⟨o2,bN,by simp [Env.sH,cm],rfl⟩
 have Nd: ∀t cs,ak st.fr t= .box cs→e.B t<w.heap.size:=by
  intro t cs ht
  have hs:=h.slot t
  rw [ht] at hs
  obtain ⟨o2,h1,_⟩:=hs.2.obj
  exact aN h1
 have lF: ∀t cs,ak st.fr t= .box cs→w'.heap[e.B t]? =w.heap[e.B t]? :=by
  intro t cs ht
  exact cB _ (Nd t cs ht) (fun o ho=>h.bf t cs f o ht ho)
 refine ⟨h.defers,h.size,by show bt e.m f _=bt st.aE f _;rw [h.m],h.key,?_,?_,?_,?_,?_,?_,?_,gK,fun b hb=>h.bH b (by omega)⟩
 ·show (aD (fT f st.fr)).Nodup
  have:aD (fT f st.fr)=aD st.fr:=by simp [aD,fT]
  rw [this];exact h.nodup
 ·intro t
  show bu Z _ _ t _ (ak (fT f st.fr) t)
  rw [dI]
  have hs:=h.slot t
  have uH:=lF t
  generalize ak st.fr t=s at hs uH
  by_cases wi: ∃cs,s= .box cs
  ·obtain ⟨cs,rfl⟩:=wi
   simp only [bu,sS] at hs⊢
   refine ⟨hs.1.fG (Hl f _),hs.2.bH,?_,hs.2.free⟩
   obtain ⟨o2,h1,h2⟩:=hs.2.obj
   refine ⟨o2,by show w'.heap[e.B t]? =_;rw [uH cs rfl];exact h1,?_⟩
   refine (h2.map (fun _ _=>aG.kill f) (fun _ _=>rfl)).on nU ?_
   intro l hl
   obtain ⟨x,_,rfl⟩:=List.mem_map.1 hl
   exact yI f x
  ·have rT:af e (a.tmps.getD t undef) s:=by cases s<;>simp only [bu] at hs<;>first|exact hs|exact absurd ⟨_,rfl⟩ wi
   have h2:=(rT.kill f).on nU (MO f _ s (cu s))
   generalize G0:sS f s=s2 at h2
   cases s2<;>first|exact h2|(exfalso;simp [af] at h2)
 ·intro t
  show bJ (fT f st.fr) (ak (fT f st.fr) t)
  rw [dI]
  have jS:=h.root t
  generalize ak st.fr t=s at jS
  have hk: ∀q,bR (ak (fT f st.fr) q)=bR (ak st.fr q):=fun q=>by rw [dI,wj]
  cases s with
  |ptr q o=>show bR (ak (fT f st.fr) q)=true;rw [hk];exact jS
  |hp q o i=>show bR (ak (fT f st.fr) q)=true;rw [hk];exact jS
  |qB q=>show bR (ak (fT f st.fr) q)=true;rw [hk];exact jS
  |ep g' _ _ _ _=>simp only [sS];cases Nat.beq g' f<;>trivial
  |_=>trivial
 ·intro f2 o2 bN
  have bN:ay (bt st.aE f fo) f2=some o2:=bN
  rw [aP] at bN
  by_cases cY:f2=f
  ·subst cY
   simp at bN
   subst bN
   have:=(dz.to qT).env (e':=e.sH f2 v' fo) rfl rfl
   simpa [Env.sH] using this
  ·simp only [cY,if_false] at bN
   obtain ⟨I2,pw,h1,h2,h3,h4,h5⟩:=(h.dS f2 o2 bN).row
   refine ⟨I2,pw,h1,h2,?_,h4,?_⟩
   ·show w'.ownsRow 0 o2.ty I2.size (if f2=f then v' else e.E f2) o2.xs.length pw
    rw [if_neg cY]
    refine ⟨h3.1,?_⟩
    rcases h3.2 with h6|⟨g,cap,c9,g1,g2,g3,g4⟩
    ·exact .inl h6
    ·refine .inr ⟨g,cap,c9,g1,g2,?_,g4⟩
     rw [cB g (aN g3) (fun o ho hk=>cY (h.ff f2 f o2 o g bN ho (by rw [g1];rfl) hk))];exact g3
   ·intro aM hb
    have hb:(if f2=f then v' else e.E f2).ownBlock=some aM:=hb
    rw [if_neg cY] at hb
    exact h5 aM hb
 ·intro t t' c1 c2 h1 h2 cm
  have h1:ak (fT f st.fr) t= .box c1:=h1
  have h2:ak (fT f st.fr) t'= .box c2:=h2
  rw [dI] at h1 h2
  obtain ⟨d1,g1,_⟩:=np h1
  obtain ⟨d2,g2,_⟩:=np h2
  exact h.bb t t' d1 d2 g1 g2 cm
 ·intro t c1 f2 o2 h1 h2
  have h1:ak (fT f st.fr) t= .box c1:=h1
  have h2:ay (bt st.aE f fo) f2=some o2:=h2
  rw [dI] at h1
  rw [aP] at h2
  obtain ⟨d1,g1,_⟩:=np h1
  show (if f2=f then v' else e.E f2).ownBlock≠some (e.B t)
  by_cases cY:f2=f
  ·rw [if_pos cY]
   intro hb
   rcases lH _ hb with h3|⟨o,h3,h4⟩
   ·have:=Nd t d1 g1;omega
   ·exact h.bf t d1 f o g1 h3 h4
  ·rw [if_neg cY]
   simp only [cY,if_false] at h2
   exact h.bf t d1 f2 o2 g1 h2
 ·intro f1 f2 o1 o2 k h1 h2 h3 h4
  have h1:ay (bt st.aE f fo) f1=some o1:=h1
  have h2:ay (bt st.aE f fo) f2=some o2:=h2
  have h3:(if f1=f then v' else e.E f1).ownBlock=some k:=h3
  have h4:(if f2=f then v' else e.E f2).ownBlock=some k:=h4
  rw [aP] at h1 h2
  have nT: ∀g og,ay st.aE g=some og→(e.E g).ownBlock=some k→k<w.heap.size:=by
   intro g og hg hk
   obtain ⟨I2,pw,_,_,g3,_⟩:=(h.dS g og hg).row
   rcases g3.2 with ⟨g5,_⟩|⟨b,cap,c9,g5,_,g6,_⟩
   ·rw [g5] at hk;simp [Value.ownBlock] at hk
   ·rw [g5] at hk;simp only [Value.ownBlock,Option.some.injEq] at hk;subst hk;exact aN g6
  by_cases DD:f1=f
  ·by_cases sZ:f2=f
   ·rw [DD,sZ]
   ·rw [if_pos DD] at h3
    rw [if_neg sZ] at h4
    simp only [sZ,if_false] at h2
    rcases lH k h3 with h5|⟨o,h5,h6⟩
    ·have:=nT f2 o2 h2 h4;omega
    ·exact DD.trans (h.ff f f2 o o2 k h5 h2 h6 h4)
  ·rw [if_neg DD] at h3
   simp only [DD,if_false] at h1
   by_cases sZ:f2=f
   ·rw [if_pos sZ] at h4
    rcases lH k h4 with h5|⟨o,h5,h6⟩
    ·have:=nT f1 o1 h1 h3;omega
    ·exact (h.ff f1 f o1 o k h1 h5 h3 h6).trans sZ.symm
   ·rw [if_neg sZ] at h4
    simp only [sZ,if_false] at h2
    exact h.ff f1 f2 o1 o2 k h1 h2 h3 h4
theorem kb {f:Nat} {fo:jr} (hK:ei st f fo K=some r):K (st.sH f fo)=some r:=by
 unfold Dn.ei at hK
 cases hn:aV st.bL f with
 |true=>simp [hn] at hK
 |false=>simpa [hn,ML,ju,St.sH] using hK
theorem bn.Tz {f:Nat} {fo:jr} (h:bn c Z e st a w) (hK:Dn.ei st f fo K=some r):f∉Z.bL:=by
 intro hm
 rw [←h.defers.2.2.1,←aW] at hm
 simp [Dn.ei,hm] at hK
theorem ot {f:Nat} {fo:jr} {v:Value} (h1:v.oneCell'=true):af (e.sH f v fo) v (.sc (.own f)):=by
 simp only [af]
 exact ⟨v,rfl,h1,fun o ho=>by simp [Env.sH]⟩
end
end Dn
/-
  What is appended. Conditions: none.
-/
set_option linter.unusedSimpArgs false
set_option linter.unusedVariables false
namespace Dn
open Go
section
variable {P:Program} {c:Ctx} {Z:aX} {e e':Env} {st:St} {a:Act} {w w':World} {R:Type} {K:St→Option R} {r:R} {Q:Exit→Act→World→Prop} {o:Oper}
theorem ou {t:TypeId} {I:TI} (hr:jV c.ti P t I) (hc:I.bX=[]): ∃i z,P.info? t=some i∧i.size=I.size∧i.bytes=I.bytes∧i.zero=some z∧z.cells.size=I.size:=by
 obtain ⟨d,i,h1,h2,h3,h4⟩:=hr
 obtain ⟨h5,h6⟩:=h3 hc
 cases d<;>simp only [mn] at h4
 case struct fs=>obtain ⟨_,_,_,_,_,_,cs,hz,_,hs⟩:=h4;exact ⟨i,_,h2,h5,h6,hz,by simpa [Value.cells] using hs⟩
 case tuple ts=>exact absurd hc h4.2.1
 case slice el=>obtain ⟨_,_,hs,_,_,hz,_⟩:=h4;exact ⟨i,_,h2,h5,h6,hz,by rw [hs];rfl⟩
 case array n el=>obtain ⟨_,_,hs,_,_,_,_,_,hz⟩:=h4;exact ⟨i,_,h2,h5,h6,hz,by rw [hs];simp [Value.cells,bZ]⟩
 case bool=>obtain ⟨_,_,hs,_,_,hz⟩:=h4;exact ⟨i,_,h2,h5,h6,hz,by rw [hs];rfl⟩
 case int k=>obtain ⟨_,_,hs,_,_,hz⟩:=h4;exact ⟨i,_,h2,h5,h6,hz,by rw [hs];rfl⟩
 case string=>obtain ⟨_,_,hs,_,_,b,hz,_⟩:=h4;exact ⟨i,_,h2,h5,h6,hz,by rw [hs];rfl⟩
 all_goals
  obtain ⟨_,_,hs,_,v,hz,hv,_⟩:=h4
  refine ⟨i,v,h2,h5,h6,hz,?_⟩
  rw [hs]
  cases v<;>simp_all [Value.cells,Value.oneCell']
structure Src (e:Env) (w:World) (size:Nat) (v:Value) (ys:List MV) (news:List Value):Prop where
 Sh:aQ e.key e.φ size news ys
 val: ∃ad cap,v= .slice ad ys.length cap∧(ad=none→ys=[])∧ ∀x,ad=some x→ ∀(j:Nat) (u:Value),news[j]? =some u→w.cell? (x.add j)=some u
theorem aQ.yY {key:Nat→Nat} {φ:Ph} {size:Nat} {xs:List MV}: ∀{cs:List Value},aQ key φ size cs xs→ ∀u∈cs,u.oneCell'=true:=by
 induction xs with
 |nil=>intro cs h;cases h;simp
 |cons x xs ih=>
  intro cs h u hu
  obtain ⟨v,q,rfl,_,h2,h3⟩:=h
  rcases List.mem_append.1 hu with hu|hu
  ·exact h2.cells u hu
  ·exact ih h3 u hu
theorem aQ.append {key:Nat→Nat} {φ:Ph} {size:Nat} {xs ys:List MV}: ∀{cs ds:List Value},aQ key φ size cs xs→aQ key φ size ds ys→aQ key φ size (cs++ds) (xs++ys):=by
 induction xs with
 |nil=>intro cs ds h h';cases h;simpa using h'
 |cons x xs ih=>intro cs ds h h';obtain ⟨v,q,rfl,h1,h2,h3⟩:=h;exact ⟨v,q++ds,by simp,h1,h2,ih h3 h'⟩
theorem yZ {key:Nat→Nat} {φ:Ph} {size:Nat} {xs:List MV}: ∀{f:Nat→List Value},(∀i,i<xs.length→(f i).length=size)→(∀(i:Nat) (h:i<xs.length),gE key φ (f i) xs[i])→
 ∃cs,aQ key φ size cs xs∧ ∀(i j:Nat),i<xs.length→j<size→cs[i *size+j]? =(f i)[j]? :=by
 induction xs with
 |nil=>intro f _ _;exact ⟨[],rfl,fun i j hi=>by simp at hi⟩
 |cons x xs ih=>
  intro f h1 h2
  obtain ⟨cs,h3,h4⟩:=ih (f:=fun i=>f (i+1)) (fun i hi=>h1 (i+1) (by simpa using hi)) (fun i hi=>h2 (i+1) (by simpa using hi))
  have hl:=h1 0 (by simp)
  refine ⟨f 0++cs,⟨f 0,cs,rfl,hl,h2 0 (by simp),h3⟩,?_⟩
  intro i j hi hj
  cases i with
  |zero=>rw [Nat.zero_mul,Nat.zero_add,List.getElem?_append_left (by omega)]
  |succ i=>
   rw [Nat.succ_mul,List.getElem?_append_right (by omega),show i *size+size+j-(f 0).length=i *size+j by omega]
   exact h4 i j (by simpa using hi) hj
theorem xh {I E:TI} {x:Slot} {v:Value} {K':List MV→Option R} (h:bn c Z e st a w) (hE:c.ti I.elem=some E) (dk:0<E.size) (hx:af e v x) (hK:Dm I E st x K'=some r):
 ∃ys news,Src e w E.size v ys news∧K' ys=some r:=by
 unfold Dm at hK
 split at hK
 ·rename_i xs
  obtain ⟨hw,hK⟩:=ct hK
  simp only [af,aG] at hx
  obtain ⟨_,hx⟩:=hx
  generalize hv:[v]=vs at hx
  cases hx with
  |list ad cap _ aM off Ca f g1 g2 g3 g4 g5=>
  simp at hv
  have L7: ∀i,i<xs.length→(f i).length=E.size:=by
   intro i hi
   rw [(g5 i hi).width]
   exact uF hw _ (List.getElem_mem hi)
  obtain ⟨cs,h1,h2⟩:=yZ L7 g5
  refine ⟨xs,cs,⟨h1,ad,cap,hv,?_,?_⟩,hK⟩
  ·intro hn
   cases xs with
   |nil=>rfl
   |cons y ys=>have:=g2 (by simp);rw [hn] at this;cases this
  ·intro x hx j u hj
   have Bb:j<cs.length:=(List.getElem?_eq_some_iff.1 hj).1
   rw [h1.length] at Bb
   have y8:0<xs.length:=by
    cases xs with
    |nil=>simp at Bb
    |cons y ys=>simp
   have Qr:=g2 y8
   rw [hx] at Qr
   cases Qr
   have hq:j/E.size<xs.length:=(Nat.div_lt_iff_lt_mul dk).2 Bb
   have hm:=Nat.mod_lt j dk
   have GV:j=j/E.size *E.size+j%E.size:=by rw [Nat.mul_comm];exact (Nat.div_add_mod j E.size).symm
   have e1:=h2 (j/E.size) (j%E.size) hq hm
   rw [←GV,hj] at e1
   have Nf:Ca=E.size:=by rw [←g3 0 y8,L7 0 y8]
   have e2:=g4 (j/E.size) (j%E.size) hq (by rw [Nf];exact hm)
   rw [←e1,Nf,Nat.add_assoc,←GV] at e2
   have:=h.jb _ _ _ e2
   rw [Addr.add_mid];exact this
 ·simp only [af] at hx
  have hx:[v]=[Value.slice none 0 0]:=hx
  simp at hx
  exact ⟨[],[],⟨rfl,none,0,hx,fun _=>rfl,by simp⟩,hK⟩
 ·rename_i f
  cases hf:ay st.aE f with
  |none=>simp [hf] at hK
  |some fo=>
   simp only [hf] at hK
   cases hb:Nat.beq fo.ty I.elem with
   |false=>simp [hb] at hK
   |true=>
    simp only [hb,cond_true] at hK
    have eH:=Nat.eq_of_beq_eq_true hb
    obtain ⟨hv,_⟩:=lJ h hx hf
    obtain ⟨J,cells,hJ,_,cC,jz,_⟩:=(h.dS f fo hf).row
    rw [eH,hE] at hJ
    cases hJ
    refine ⟨fo.xs,cells,⟨jz,?_⟩,hK⟩
    rcases cC.2 with ⟨h1,h2⟩|⟨g,cap,c9,h1,_⟩
    ·exact ⟨none,0,by rw [hv,h1,h2],fun _=>List.eq_nil_of_length_eq_zero h2,by simp⟩
    ·refine ⟨some ⟨g,0,none⟩,cap,by rw [hv,h1],by simp,?_⟩
     intro x hx j u hj
     cases hx
     exact cC.cells (g:=g) (by rw [h1];rfl) j u hj
 ·simp at hK
end
end Dn
/-
  Appends. Conditions: none.
-/
set_option linter.unusedSimpArgs false
set_option linter.unusedVariables false
namespace Dn
open Go
section
variable {P:Program} {c:Ctx} {Z:aX} {e e':Env} {st:St} {a:Act} {w w':World} {R:Type} {K:St→Option R} {r:R} {Q:Exit→Act→World→Prop} {o:Oper}
structure WX (w w':World) (el:TypeId) (size:Nat) (v v':Value) (n m:Nat) (cells news:List Value):Prop where
 own:w'.ownsRow 0 el size v' (n+m) (cells++news)
 size:w.heap.size≤w'.heap.size
 nT: ∀k,k<w.heap.size→some k≠v.ownBlock→w'.heap[k]? =w.heap[k]?
 cell: ∀(k off:Nat) (u:Value),v.ownBlock=some k→off<cells.length→w.cell? ⟨k,off,none⟩=some u→w'.cell? ⟨k,off,none⟩=some u
 place:v'.ownBlock=v.ownBlock∨v'.ownBlock=some w.heap.size
 rest:Rest w w'
structure Si (P:Program) (w:World) (u el:TypeId) (size:Nat) (x:Value) (m:Nat) (news:List Value):Prop where
 ty:P.underlying u=some (.slice el)∨P.underlying u=some .string
 len:Builtin.lenOf x=pure m
 now:(Builtin.firstCells size m x).run P w= .ok news.toArray w
 drew:(Builtin.firstCells size m x).run P w.drew= .ok news.toArray w.drew
 one: ∀y∈news,y.oneCell'=true
 nl:news.length=m *size
theorem Src.apx {ys:List MV} {news:List Value} {x:Value} {u el:TypeId} {size:Nat} (hu:P.underlying u=some (.slice el)) (h:Src e w size x ys news):Si P w u el size x ys.length news:=by
 obtain ⟨ad,cap,hx,xi,Jg⟩:=h.val
 have Cj:=h.Sh.length
 subst hx
 cases ad with
 |none=>
  have hys:=xi rfl
  subst hys
  have:news=[]:=List.eq_nil_of_length_eq_zero (by simpa using Cj)
  subst this
  exact ⟨.inl hu,rfl,run_firstCells_none w _ _ _ _,run_firstCells_none w.drew _ _ _ _,h.Sh.yY,Cj⟩
 |some ad=>exact ⟨.inl hu,rfl,run_firstCells_some w _ _ _ _ _ _ Cj (Jg ad rfl),run_firstCells_some w.drew _ _ _ _ _ _ Cj (by simpa using Jg ad rfl),h.Sh.yY,Cj⟩
theorem Si.str {u el:TypeId} (hu:P.underlying u=some .string) (b:ByteArray):Si P w u el 1 (.string b) b.size (b.data.toList.map fun x=> .int .u8 (x.toNat:Int)):=by
 have hf: ∀w',(Builtin.firstCells 1 b.size (.string b)).run P w'= .ok (b.data.toList.map fun x=>Value.int .u8 (x.toNat:Int)).toArray w':=by
  intro w'
  have he:b.extract 0 b.size=b:=by
   apply ByteArray.ext
   rw [ByteArray.data_extract]
   exact Array.extract_eq_self_of_le (Nat.le_refl _)
  simp only [Builtin.firstCells,he,Sem.run_pure]
  congr 1
  apply Array.ext'
  simp
 exact ⟨.inr hu,rfl,hf w,hf w.drew,by simp [Value.oneCell'],by simp⟩
section
variable {t u ty el:TypeId} {i:TypeInfo} {z x:Value} {m:Nat} {news:List Value} (ht:P.underlying t=some (.slice el)) (hi:P.info? el=some i) (hz:i.zero=some z) (hx:Si P w u el i.size x m news)
include ht hi hx
theorem Qs (h0:m=0):(Builtin.append_ #[t,u] ty #[.slice none 0 0,x]).run P w= .ok (.slice none 0 0) w:=by
 subst h0
 have hn:=hx.now
 have hl:=hx.len
 rcases hx.ty with hu|hu<;>simp [Builtin.append_,run_underlying ht,run_underlying hu,Go.sizeOf,typeInfo,hi,hl,hn]
theorem Qt {g kc qD:Nat} {c9:Array Value} (hg:w.heap[g]? =some (.cells c9 el (0,0))) (nq:kc+m≤qD) (DA:kc *i.size+news.length≤c9.size):
 (Builtin.append_ #[t,u] ty #[.slice (some ⟨g,0,none⟩) kc qD,x]).run P w=
  .ok (.slice (some ⟨g,0,none⟩) (kc+m) qD) (w.setRow g (c9.toList.take (kc *i.size)++news++c9.toList.drop (kc *i.size+news.length)).toArray):=by
 have c8:=run_storeCells_at P g (kc *i.size) el news 0 c9 w hg (by simpa using DA) hx.one
 simp only [Nat.add_zero] at c8
 have hn:=hx.now
 have hl:=hx.len
 rcases hx.ty with hu|hu<;>simp [Builtin.append_,run_underlying ht,run_underlying hu,Go.sizeOf,typeInfo,hi,hl,nq,hn,Addr.add_lit,c8]
include hz
theorem Ng (h0:0<m) (Zt:(m:Int)≤9223372036854775807) (h48:m *i.bytes≤281474976710656):
 (Builtin.append_ #[t,u] ty #[.slice none 0 0,x]).run P w= .ok (.slice (some ⟨w.heap.size,0,none⟩) m (grownCap w m 0 el)) (w.drew.alloc (.cells (news.toArray++Builtin.zeroCells z.cells (grownCap w m 0 el-m)) el)):=by
 have cm:m≠0:=by omega
 have TA: ¬(9223372036854775807<(m:Int)):=by omega
 have TB: ¬(281474976710656<Builtin.nextslicecap m 0 *i.bytes):=by rw [nextslicecap_zero h0];omega
 have hn:=hx.drew
 have hl:=hx.len
 rcases hx.ty with hu|hu<;>simp [Builtin.append_,run_underlying ht,run_underlying hu,Go.sizeOf,typeInfo,zeroValue,hi,hz,hl,cm,TA,TB,Question.forced,run_firstCells_none,hn,newRow,grownCap]
theorem Jh {b:Addr} {kc qD:Nat} {Qu:List Value} (hlo:Qu.length=kc *i.size) (holds: ∀j v,Qu[j]? =some v→w.cell? (b.add j)=some v) (hg:qD<kc+m) (Zt:((kc+m:Nat):Int)≤9223372036854775807)
 (DA:Builtin.nextslicecap (kc+m) qD *i.bytes≤281474976710656):
 (Builtin.append_ #[t,u] ty #[.slice (some b) kc qD,x]).run P w=
  .ok (.slice (some ⟨w.heap.size,0,none⟩) (kc+m) (grownCap w (kc+m) qD el)) (w.drew.alloc (.cells (Qu.toArray++news.toArray++Builtin.zeroCells z.cells (grownCap w (kc+m) qD el-(kc+m))) el)):=by
 have cm: ¬(kc+m≤qD):=by omega
 have TA: ¬(9223372036854775807<((kc:Int)+(m:Int))):=by omega
 have TB: ¬(281474976710656<Builtin.nextslicecap (kc+m) qD *i.bytes):=by omega
 have hfo:=run_firstCells_some (P:=P) w.drew i.size kc b kc qD Qu hlo (by simpa using holds)
 have hn:=hx.drew
 have hl:=hx.len
 rcases hx.ty with hu|hu<;>(simp [Builtin.append_,run_underlying ht,run_underlying hu,Go.sizeOf,typeInfo,zeroValue,hi,hz,hl,cm,TA,TB,Question.forced,hn,hfo,newRow,grownCap];congr 2;apply Array.ext';simp [List.append_assoc])
end
theorem tH {t u ty:TypeId} {I E:TI} {v x:Value} {n m:Nat} {cells news:List Value} (hu:P.underlying t=some (.slice I.elem)) (hE:c.ti I.elem=some E) (nV:E.bX=[]) (dk:0<E.size)
 (hT:fI P c.ti) (ov:1≤E.bytes) (cC:w.ownsRow 0 I.elem E.size v n cells) (hx:Si P w u I.elem E.size x m news) (eY:(n+m) *E.bytes≤2^46):
 ∃v' w',(Builtin.append_ #[t,u] ty #[v,x]).run P w= .ok v' w'∧WX w w' I.elem E.size v v' n m cells news:=by
 obtain ⟨i,z,hi,hs,Nh,hz,L9⟩:=ou (hT _ E hE) nV
 rw [←hs] at hx cC L9 dk⊢
 rw [←Nh] at eY ov
 have hle:n+m≤2^46:=Nat.le_trans (Nat.le_mul_of_pos_right _ ov) eY
 have TD:n+m≤Go.maxLen:=by unfold Go.maxLen;omega
 have Cj:=hx.nl
 have hlen:(cells++news).length=(n+m) *i.size:=by rw [List.length_append,cC.1,Cj,Nat.add_mul]
 have grown: ∀(nT:Nat),nT<n+m→
  (w.drew.alloc (.cells (cells.toArray++news.toArray++Builtin.zeroCells z.cells (grownCap w (n+m) nT I.elem-(n+m))) I.elem)).ownsRow 0 I.elem i.size
   (.slice (some ⟨w.heap.size,0,none⟩) (n+m) (grownCap w (n+m) nT I.elem)) (n+m) (cells++news):=by
  intro nT ho
  refine ⟨hlen,.inr ⟨w.heap.size,_,_,rfl,Nat.zero_le _,eB w.drew _,grownCap_ge w (n+m) nT I.elem,grownCap_le_maxLen w (n+m) nT I.elem TD,?_,?_⟩⟩
  ·have Hy:=grownCap_ge w (n+m) nT I.elem
   simp only [Array.size_append,List.size_toArray,size_zeroCells,L9,cC.1,Cj,←Nat.add_mul]
   congr 1
   omega
  ·simp only [Array.toList_append,List.append_assoc]
   rw [←List.append_assoc,←hlen]
   exact List.take_left
 have rest: ∀cs:Array Value,Rest w (w.drew.alloc (.cells cs I.elem)):=fun cs=>⟨rfl,rfl,rfl,fun p=>(Rest.alloc w.drew cs I.elem).2.2.2 p⟩
 rcases cC.2 with ⟨rfl,rfl⟩|⟨g,cap,c9,rfl,_,hg,WY,EM,qR,Je⟩
 ·have hcn:cells=[]:=List.eq_nil_of_length_eq_zero (by simpa using cC.1)
  subst hcn
  by_cases hm:m=0
  ·have hnn:news=[]:=List.eq_nil_of_length_eq_zero (by rw [Cj,hm,Nat.zero_mul])
   subst hnn
   refine ⟨_,_,Qs hu hi hx hm,⟨?_,Nat.le_refl _,fun _ _ _=>rfl,(fun _ _ _ hk=>by cases hk),.inl rfl,.refl _⟩⟩
   rw [hm];exact World.ownsRow_nil w 0 I.elem i.size
  ·simp only [Nat.zero_add] at eY hle TD
   have hr:=Ng (ty:=ty) hu hi hz hx (by omega) (by omega) (by omega)
   have G3:=grown 0 (by omega)
   simp only [Nat.zero_add,List.nil_append,Array.empty_append] at G3⊢
   exact ⟨_,_,hr,⟨by simpa using G3,by simp,fun k hk _=>kA w.drew _ k hk,(fun _ _ _ hk=>by cases hk),.inr rfl,rest _⟩⟩
 ·by_cases nq:n+m≤cap
  ·have DA:n *i.size+news.length≤c9.size:=by rw [Cj,qR,←Nat.add_mul];exact Nat.mul_le_mul_right _ nq
   have hr:=Qt (ty:=ty) hu hi hx hg nq DA
   have Hz:=setRow_heap w g c9 (c9.toList.take (n *i.size)++news++c9.toList.drop (n *i.size+news.length)).toArray I.elem _ hg
   refine ⟨_,_,hr,⟨⟨hlen,.inr ⟨g,cap,_,rfl,Nat.zero_le _,Hz,nq,EM,?_,?_⟩⟩,by simp,fun k _ hk=>setRow_other w g k _ (fun he=>hk (by simp [Value.ownBlock,he])),?_,.inl rfl,Rest.setRow w g _⟩⟩
   ·simp only [List.size_toArray,List.length_append,List.length_take,List.length_drop,Array.length_toList]
    omega
   ·rw [Je,←hlen]
    exact List.take_left
   ·intro k off y hk yR hc
    have hkg:k=g:=by simp [Value.ownBlock] at hk;exact hk.symm
    subst hkg
    rw [cell_of hg] at hc
    rw [cell_of Hz]
    have WZ:off<(c9.toList.take (n *i.size)).length:=by rw [Je];exact yR
    rw [List.getElem?_toArray,List.append_assoc,List.getElem?_append_left WZ,List.getElem?_take]
    have:off<n *i.size:=by rw [←cC.1];exact yR
    rw [if_pos this];simpa using hc
  ·have holds: ∀j y,cells[j]? =some y→w.cell? ((⟨g,0,none⟩:Addr).add j)=some y:=cC.cells (g:=g) rfl
   have hr:=Jh (ty:=ty) (qD:=cap) hu hi hz hx cC.1 holds (by omega) (by omega) (growslice_fits (by omega) (by omega))
   refine ⟨_,_,hr,⟨grown cap (by omega),by simp,fun k hk _=>kA w.drew _ k hk,?_,.inr rfl,rest _⟩⟩
   intro k off y hk yR hc
   have hkg:k=g:=by simp [Value.ownBlock] at hk;exact hk.symm
   subst hkg
   rw [World.cell?_of_block (kA w.drew _ k (aN hg))]
   exact hc
theorem Fj {t u ty:TypeId} {I E:TI} {ad:Option Addr} {x:Value} {n m:Nat} {cells news:List Value} (hu:P.underlying t=some (.slice I.elem)) (hE:c.ti I.elem=some E) (nV:E.bX=[])
 (hT:fI P c.ti) (ov:1≤E.bytes) (lj:cells.length=n *E.size) (Ni:ad=none→n=0) (aT: ∀y,ad=some y→ ∀(j:Nat) (v:Value),cells[j]? =some v→w.cell? (y.add j)=some v)
 (hx:Si P w u I.elem E.size x m news) (hm:0<m) (eY:(n+m) *E.bytes≤2^46):
 ∃v' w',(Builtin.append_ #[t,u] ty #[.slice ad n n,x]).run P w= .ok v' w'∧w'.ownsRow 0 I.elem E.size v' (n+m) (cells++news)∧v'.ownBlock=some w.heap.size∧cy w w':=by
 obtain ⟨i,z,hi,hs,Nh,hz,L9⟩:=ou (hT _ E hE) nV
 rw [←hs] at hx lj L9⊢
 rw [←Nh] at eY ov
 have hle:n+m≤2^46:=Nat.le_trans (Nat.le_mul_of_pos_right _ ov) eY
 have TD:n+m≤Go.maxLen:=by unfold Go.maxLen;omega
 have Cj:=hx.nl
 have hlen:(cells++news).length=(n+m) *i.size:=by rw [List.length_append,lj,Cj,Nat.add_mul]
 have grown: ∀(nT:Nat),nT<n+m→
  (w.drew.alloc (.cells (cells.toArray++news.toArray++Builtin.zeroCells z.cells (grownCap w (n+m) nT I.elem-(n+m))) I.elem)).ownsRow 0 I.elem i.size
   (.slice (some ⟨w.heap.size,0,none⟩) (n+m) (grownCap w (n+m) nT I.elem)) (n+m) (cells++news):=by
  intro nT ho
  refine ⟨hlen,.inr ⟨w.heap.size,_,_,rfl,Nat.zero_le _,eB w.drew _,grownCap_ge w (n+m) nT I.elem,grownCap_le_maxLen w (n+m) nT I.elem TD,?_,?_⟩⟩
  ·have Hy:=grownCap_ge w (n+m) nT I.elem
   simp only [Array.size_append,List.size_toArray,size_zeroCells,L9,lj,Cj,←Nat.add_mul]
   congr 1
   omega
  ·simp only [Array.toList_append,List.append_assoc]
   rw [←List.append_assoc,←hlen]
   exact List.take_left
 have rest: ∀cs:Array Value,Rest w (w.drew.alloc (.cells cs I.elem)):=fun cs=>⟨rfl,rfl,rfl,fun p=>(Rest.alloc w.drew cs I.elem).2.2.2 p⟩
 have G3: ∀cs:Array Value,cy w (w.drew.alloc (.cells cs I.elem)):=fun cs=>⟨by simp,fun k hk=>kA w.drew _ k hk,rest cs⟩
 cases ad with
 |none=>
  have hn:=Ni rfl
  subst hn
  have hcn:cells=[]:=List.eq_nil_of_length_eq_zero (by simpa using lj)
  subst hcn
  simp only [Nat.zero_add] at eY hle TD
  have hr:=Ng (ty:=ty) hu hi hz hx (by omega) (by omega) (by omega)
  have Ma:=grown 0 (by omega)
  simp only [Nat.zero_add,List.nil_append,Array.empty_append] at Ma⊢
  exact ⟨_,_,hr,by simpa using Ma,rfl,G3 _⟩
 |some b=>
  have hr:=Jh (ty:=ty) (qD:=n) hu hi hz hx lj (fun j v hj=>aT b rfl j v hj) (by omega) (by omega) (growslice_fits (by omega) (by omega))
  exact ⟨_,_,hr,grown n (by omega),rfl,G3 _⟩
end
end Dn
/-
  Appends, the operation. Conditions: none.
-/
set_option linter.unusedSimpArgs false
set_option linter.unusedVariables false
namespace Dn
open Go
section
variable {P:Program} {c:Ctx} {Z:aX} {e e':Env} {st:St} {a:Act} {w w':World} {R:Type} {K:St→Option R} {r:R} {Q:Exit→Act→World→Prop} {o:Oper}
theorem y9 {base:Nat} {t:TypeId} {size n:Nat} {v:Value} {xs:List Value} (h:w.ownsRow base t size v n xs):v.oneCell'=true:=by
 rcases h.2 with ⟨rfl,_⟩|⟨g,cap,c9,rfl,_⟩<;>rfl
theorem Ji {E:TI} {t:TypeId} (hr:jV c.ti P t E) (h:Kh E=true):P.underlying t=some (.int .u8)∧E.size=1:=by
 unfold Kh at h
 split at h
 ·rename_i k c8 hl
  have:=of_decide_eq_true h;subst this
  obtain ⟨d,i,h1,h2,h3,h4⟩:=hr
  cases d<;>simp only [mn,hl,c8] at h4<;>first|(exfalso;simp_all;done)|skip
  obtain ⟨_,_,h5,h6,_⟩:=h4
  simp only [List.cons.injEq,Kd.i.injEq,and_true] at h6
  subst h6
  exact ⟨h1,h5⟩
 ·cases h
theorem Jj {key:Nat→Nat} {φ:Ph}: ∀l:List UInt8,aQ key φ 1 (l.map fun x=>Value.int .u8 (x.toNat:Int)) (E0 l)
 |[]=>rfl
 |b::l=>⟨[.int .u8 (b.toNat:Int)],_,rfl,rfl,.i .u8 _,Jj l⟩
theorem Fk {cl:Call} {s x:Operand} {t u:TypeId} {I E:TI} {ys:List MV} {news:List Value} (ho:o.op= .call cl) (hb:cl.callee= .builtin .append) (ha:cl.args.toList=[s,x]) (EO:cl.argTypes.toList=[t,u])
 (hI:c.tv t=some I) (hL:I.rN=true) (hE:c.tv I.elem=some E) (hT:fI P c.ti) (h:bn c Z e st a w) (qU:Si P w u I.elem E.size (a.eval x) ys.length news) (lH:aQ e.key e.φ E.size news ys)
 (hK:Ki (o.dst.getD 0) st I E (aw c st s) ys (fun sl st=>aL c st o.dst sl K)=some r):o.wp P a w (Out c Z K r e.φ w) Q:=by
 obtain ⟨jy,hc⟩:=bl hI
 obtain ⟨lS,nV⟩:=bl hE
 obtain ⟨hu,E2,qJ,_,dk⟩:=TI.iq (hT t I jy) hL
 rw [lS] at qJ
 cases qJ
 have ha':cl.args= #[s,x]:=by rw [←Array.toList_inj,ha]
 have W0:cl.argTypes= #[t,u]:=by rw [←Array.toList_inj,EO]
 obtain ⟨hs,_⟩:=h.eval s
 have go: ∀(f:Nat) (cK:Bool) (xs:List MV) (cells:List Value),1≤E.bytes→(xs.length+ys.length) *E.bytes≤2^46→w.ownsRow 0 I.elem E.size (a.eval s) xs.length cells→aQ e.key e.φ E.size cells xs→
  (∀aM,(a.eval s).ownBlock=some aM→((f∈Z.bL∧Z.Pr aM)∨Z.In aM)∧(∃o,ay st.aE f=some o∧(e.E f).ownBlock=some aM)∧ ∀off u,e.φ aM off=some u→cK=true∧off<xs.length *E.size)→
  ei st f ⟨I.elem,cK,xs++ys⟩ (fun st=>aL c st o.dst (.sc (.own f)) K)=some r→o.wp P a w (Out c Z K r e.φ w) Q:=by
  intro f cK xs cells ov eY cC jz wg hK
  obtain ⟨v',w',bw,ox⟩:=tH (P:=P) (ty:=o.type) hu lS nV dk hT ov cC qU eY
  have hlen:cells.length=xs.length *E.size:=jz.length
  have qT:=h.Tz hK
  have hK:=kb hK
  have dz:b9 c Z.nc e w' v' ⟨I.elem,cK,xs++ys⟩:=by
   refine ⟨E,cells++news,lS,nV,by simpa using ox.own,jz.append lH,?_⟩
   intro aM fK
   rcases ox.place with h1|h1
   ·rw [h1] at fK
    obtain ⟨h2,_,h3⟩:=wg aM fK
    refine ⟨EK h2 qT,fun off u hu=> ?_,fun hc=>False.elim hc⟩
    obtain ⟨h4,h5⟩:=h3 off u hu
    refine ⟨h4,Nat.lt_of_lt_of_le h5 ?_⟩
    simp only [List.length_append]
    exact Nat.mul_le_mul_right _ (Nat.le_add_right _ _)
   ·rw [h1] at fK
    cases fK
    refine ⟨h.bH _ (Nat.le_refl _),fun off u hu=> ?_,fun hc=>False.elim hc⟩
    have:=World.block_lt_of_cell? w _ (h.jb _ _ _ hu)
    simp at this
  have j9:=h.ei (f:=f) qT dz ox.size
   (fun b Fl cm=>ox.nT b Fl (fun hk=>by obtain ⟨_,⟨o2,h1,h2⟩,_⟩:=wg b hk.symm;exact cm o2 h1 h2))
   (fun b off u hu=>by
    have Zu:=h.jb b off u hu
    by_cases hk:(a.eval s).ownBlock=some b
    ·obtain ⟨_,_,h3⟩:=wg b hk
     exact ox.cell b off u hk (by rw [hlen];exact (h3 off u hu).2) Zu
    ·rw [World.cell?_of_block (ox.nT b (World.block_lt_of_cell? w _ Zu) (fun EP=>hk EP.symm))];exact Zu)
   (fun b fK=>by
    rcases ox.place with h1|h1
    ·rw [h1] at fK;exact .inr (wg b fK).2.1
    ·rw [h1] at fK;cases fK;exact .inl (Nat.le_refl _))
  refine fin (v:=v') (s:= .sc (.own f)) ?_ j9 ?_ (.of (ot (y9 ox.own)) trivial) hK
  ·simp [execOp,ho,resolve,hb,invoke,builtin,ha',W0,bw]
  ·exact ⟨.refl _,fun b hz Fl=>ox.nT b Fl (fun hk=>hz (EK (wg b hk.symm).1 qT)),fun _ _ _=>rfl,ox.size,ox.rest⟩
 generalize aw c st s=ss at hs hK
 unfold Ki at hK
 cases ov:Nat.ble 1 E.bytes with
 |false=>simp [ov] at hK
 |true=>
  simp only [ov,cond_true] at hK
  have ov:=Nat.le_of_ble_eq_true ov
  split at hK
  ·obtain ⟨eY,hK⟩:=ct hK
   have eY:=of_decide_eq_true eY
   simp only [af] at hs
   have hs:[a.eval s]=[Value.slice none 0 0]:=hs
   simp at hs
   refine go (o.dst.getD 0) false [] [] ov (by simpa using eY) (by rw [hs];exact World.ownsRow_nil w 0 I.elem E.size) rfl ?_ (by simpa using hK)
   intro aM fK
   rw [hs] at fK
   simp [Value.ownBlock] at fK
  ·rename_i f
   cases hf:ay st.aE f with
   |none=>simp [hf] at hK
   |some fo=>
    simp only [hf] at hK
    obtain ⟨eY,hK⟩:=ct hK
    have eY:=of_decide_eq_true eY
    cases eH:Nat.beq fo.ty I.elem with
    |false=>simp [eH] at hK
    |true=>
     simp only [eH,cond_true] at hK
     have eH:=Nat.eq_of_beq_eq_true eH
     obtain ⟨hv,_⟩:=lJ h hs hf
     obtain ⟨J,cells,hJ,_,cC,jz,h5⟩:=(h.dS f fo hf).row
     rw [eH,lS] at hJ
     cases hJ
     refine go f fo.cK fo.xs cells ov eY (by rw [hv,←eH];exact cC) jz ?_ (by rw [←eH];exact hK)
     intro aM fK
     rw [hv] at fK
     exact ⟨(h5 aM fK).1,⟨fo,hf,fK⟩,(h5 aM fK).2.1⟩
  ·rename_i xs
   obtain ⟨hw,hK⟩:=ct hK
   obtain ⟨eY,hK⟩:=ct hK
   obtain ⟨hm,eY⟩:=of_decide_eq_true eY
   simp only [af,aG] at hs
   obtain ⟨_,hs⟩:=hs
   generalize hv:[a.eval s]=vs at hs
   cases hs with
   |clip ad _ hl=>
   simp at hv
   have gJ:af e (a.eval s) (.sc (.p (.list xs))):=by simp only [af,aG];rw [hv];exact ⟨rfl,hl⟩
   obtain ⟨ys',cells,hsr,hy⟩:=xh (I:=I) (K':=some) (r:=xs) h lS dk gJ (by show cE (lc E.size xs) (some xs)=some xs;rw [hw];rfl)
   cases hy
   obtain ⟨Zo,M1,L4,EN,GZ⟩:=hsr.val
   rw [hv] at L4
   simp only [Value.slice.injEq] at L4
   obtain ⟨rfl,_,_⟩:=L4
   obtain ⟨v',w',bw,cC,fK,hg⟩:=Fj (P:=P) (ty:=o.type) hu lS nV hT ov hsr.Sh.length (fun hn=>by rw [EN hn];rfl) GZ qU hm eY
   have qT:=h.Tz hK
   have hK:=kb hK
   have dz:b9 c Z.nc e w' v' ⟨I.elem,false,xs++ys⟩:=by
    refine ⟨E,cells++news,lS,nV,by simpa using cC,hsr.Sh.append lH,?_⟩
    intro aM oe
    rw [fK] at oe
    cases oe
    refine ⟨h.bH _ (Nat.le_refl _),fun off u hu=> ?_,fun hc=>False.elim hc⟩
    have:=World.block_lt_of_cell? w _ (h.jb _ _ _ hu)
    simp at this
   have j9:=h.ei (f:=o.dst.getD 0) qT dz hg.size (fun b Fl _=>hg.nT b Fl) (fun b off u hu=>hg.cell (h.jb b off u hu))
    (fun b oe=>by rw [fK] at oe;cases oe;exact .inl (Nat.le_refl _))
   refine fin (v:=v') (s:= .sc (.own (o.dst.getD 0))) ?_ j9 (hg.trans h.bH _) (.of (ot (y9 cC)) trivial) hK
   simp [execOp,ho,resolve,hb,invoke,builtin,ha',W0,hv,bw]
  ·simp at hK
theorem KA {cl:Call} {s x:Operand} {t u:TypeId} {I E:TI} (ho:o.op= .call cl) (hb:cl.callee= .builtin .append) (ha:cl.args.toList=[s,x]) (EO:cl.argTypes.toList=[t,u])
 (hI:c.tv t=some I) (hL:I.rN=true) (hE:c.tv I.elem=some E) (hT:fI P c.ti) (h:bn c Z e st a w)
 (hK:(bif Nat.beq t u then Dm I E st (aw c st x) fun ys=>Ki (o.dst.getD 0) st I E (aw c st s) ys (fun sl st=>aL c st o.dst sl K)
  else G6 c u E (aw c st x) fun ys=>Ki (o.dst.getD 0) st I E (aw c st s) ys (fun sl st=>aL c st o.dst sl K))=some r):o.wp P a w (Out c Z K r e.φ w) Q:=by
 obtain ⟨jy,_⟩:=bl hI
 obtain ⟨lS,_⟩:=bl hE
 obtain ⟨hu,E2,qJ,_,dk⟩:=TI.iq (hT t I jy) hL
 rw [lS] at qJ
 cases qJ
 obtain ⟨hx,_⟩:=h.eval x
 cases oe:Nat.beq t u with
 |true=>
  simp only [oe,cond_true] at hK
  obtain rfl:=Nat.eq_of_beq_eq_true oe
  obtain ⟨ys,news,qU,hK⟩:=xh h lS dk hx hK
  exact Fk ho hb ha EO hI hL hE hT h (qU.apx hu) qU.Sh hK
 |false=>
  simp only [oe,cond_false] at hK
  unfold G6 at hK
  split at hK
  ·rename_i T l hTu TE
   cases Nj:T.LZ&&Kh E with
   |false=>simp [Nj] at hK
   |true=>
    simp only [Nj,cond_true] at hK
    simp only [Bool.and_eq_true] at Nj
    obtain ⟨hTi,_⟩:=bl hTu
    have hd:=TI.yU (hT u T hTi) Nj.1
    obtain ⟨he,lh⟩:=Ji (hT _ E lS) Nj.2
    rw [TE] at hx
    obtain ⟨b,TF,rfl⟩:=xf hx
    refine Fk ho hb ha EO hI hL hE hT h (news:=b.data.toList.map fun x=> .int .u8 (x.toNat:Int)) ?_ ?_ hK
    ·rw [lh,TF]
     have:=Si.str (w:=w) (el:=I.elem) hd b
     rwa [show (E0 b.data.toList).length=b.size by unfold E0;rw [List.length_map];rfl]
    ·rw [lh];exact Jj _
  ·cases hK
end
end Dn
