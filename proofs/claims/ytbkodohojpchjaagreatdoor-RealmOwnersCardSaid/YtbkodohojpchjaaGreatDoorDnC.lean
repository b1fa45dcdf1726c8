import Derived.Test.YtbkodohojpchjaaGreatDoorDnB
import Derived.Laws.CopyRow
import Derived.Lib.AppendZerosOnto
import Derived.Lib.Overlaps
import Derived.Laws.Externs
import Derived.Lib.SlTrimSet
import Derived.Lib.Bytealg
/-
  A program's type table, looked through. Conditions: none.
-/
set_option linter.unusedSimpArgs false
set_option linter.unusedVariables false
set_option linter.constructorNameAsVariable false
namespace Dn
open Go
theorem R7 {a b:Kd} (h:WJ a b=true):a=b:=by
 cases a<;>cases b<;>simp [WJ,kB] at h<;>first|rfl|(subst h;rfl)
def kq:List Kd→Kd→Bool
 |[k],k'=>WJ k k'
 |_,_=>false
theorem dD {l:List Kd} {k:Kd} (h:kq l k=true):l=[k]:=by
 cases l with
 |nil=>simp [kq] at h
 |cons a l=>cases l with
  |nil=>simp only [kq] at h;rw [R7 h]
  |cons=>simp [kq] at h
def Bu:List Nat→List Nat→Bool
 |[],[]=>true
 |a::l,b::m=>Nat.beq a b&&Bu l m
 |_,_=>false
theorem Dk {l m:List Nat} (h:Bu l m=true):l=m:=by
 induction l generalizing m with
 |nil=>cases m<;>simp [Bu] at h;rfl
 |cons a l ih=>
  cases m with
  |nil=>simp [Bu] at h
  |cons b m=>
   simp only [Bu,Bool.and_eq_true] at h
   rw [Nat.eq_of_beq_eq_true h.1,ih h.2]
def uk {α:Type}:List α→Bool
 |[]=>true
 |_=>false
theorem n6 {α:Type} {l:List α} (h:uk l=true):l=[]:=by cases l<;>simp [uk] at h;rfl
def HY (ti:Nat→Option TI) (t:Nat):Bool:=match ti t with|some J=>uk J.ct&&Nat.ble 1 J.size|none=>false
theorem GC {ti:Nat→Option TI} {t:Nat} (h:HY ti t=true): ∃J,ti t=some J∧J.ct=[]∧0<J.size:=by
 unfold HY at h
 cases hJ:ti t with
 |none=>simp [hJ] at h
 |some J=>
  simp only [hJ,Bool.and_eq_true] at h
  exact ⟨J,rfl,n6 h.1,Nat.le_of_ble_eq_true h.2⟩
def Dl:List Value→Nat→Bool
 |[],n=>Nat.beq n 0
 | .int .u8 k::r,n+1=>decide (k=0)&&Dl r n
 |_,_=>false
theorem JM {l:List Value} {n:Nat} (h:Dl l n=true):l=List.replicate n (.int .u8 0):=by
 induction l generalizing n with
 |nil=>have:=Nat.eq_of_beq_eq_true h;subst this;rfl
 |cons v l ih=>
  cases n with
  |zero=>cases v<;>simp [Dl] at h
  |succ n=>
   unfold Dl at h
   split at h
   ·rename_i h1;simp at h1
   ·rename_i k _ _ h1 h2
    simp only [List.cons.injEq] at h1
    obtain ⟨rfl,rfl⟩:=h1
    cases h2
    simp only [Bool.and_eq_true,decide_eq_true_eq] at h
    rw [h.1,ih h.2];rfl
   ·cases h
def Ay:List aD→aD→Bool
 |[.nil],.nil=>true
 |[.p (.b false)],.p (.b false)=>true
 |[.p (.i k n)],.p (.i k' m)=>kB k k'&&decide (n=m)
 |[.p (.s [])],.p (.s [])=>true
 |_,_=>false
theorem xe {l:List aD} {x:aD} (h:Ay l x=true):l=[x]:=by
 unfold Ay at h
 split at h<;>first|rfl|skip
 ·simp [kB] at h;rw [h.1,h.2]
 ·cases h
def R8:List aD→Bool
 |[.hs x]=>decide (x=kg.zero)
 |_=>false
theorem R9 {l:List aD} (h:R8 l=true):l=[.hs kg.zero]:=by
 unfold R8 at h
 split at h
 ·rw [of_decide_eq_true h]
 ·cases h
def Sa (ti:Nat→Option TI) (P:Program) (I:TI) (z:Option Value):TypeDesc→Bool
 | .struct fs=>I.st&&uk I.ct&&Nat.ble 1 I.size&&Nat.beq (BU I.lay) I.size&&Bu (fs.toList.map (·.offset)) I.vr&&Bu (fs.toList.map (·.type)) I.Oh&&
  (fs.toList.all fun f=>HY ti f.type)&&(match z with|some (.agg cs)=>rB I.zero cs.toList&&Nat.beq cs.size I.size|_=>false)
 | .tuple ts=>Bu I.ct ts.toList&&!uk I.ct&&uk I.lay&&!I.st
 | .slice el=>!I.st&&uk I.ct&&Nat.beq I.size 1&&Nat.beq I.elem el&&HY ti el&&(match z with|some (.slice none 0 0)=>true|_=>false)&&Ay I.zero .nil&&kq I.lay .l
 | .array n el=>!I.st&&uk I.ct&&Nat.beq I.size 32&&Nat.beq n 32&&Nat.beq I.elem el&&(match P.underlying el with|some (.int .u8)=>true|_=>false)&&(match P.info? el with|some i=>Nat.beq i.size 1|none=>false)&&
  kq I.lay .h&&R8 I.zero&&(match z with|some (.agg cs)=>Dl cs.toList 32|_=>false)
 | .bool=>!I.st&&uk I.ct&&Nat.beq I.size 1&&kq I.lay .b&&Ay I.zero (.p (.b false))&&(match z with|some (.bool false)=>true|_=>false)
 | .int k=>!I.st&&uk I.ct&&Nat.beq I.size 1&&kq I.lay (.i k)&&Ay I.zero (.p (.i k 0))&&(match z with|some (.int k' n)=>kB k' k&&decide (n=0)|_=>false)
 | .string=>!I.st&&uk I.ct&&Nat.beq I.size 1&&kq I.lay .s&&Ay I.zero (.p (.s []))&&(match z with|some (.string b)=>uk b.data.toList|_=>false)
 |_=>!I.st&&uk I.ct&&Nat.beq I.size 1&&kq I.lay .raw&&(match z with|some v=>v.oneCell'&&rB I.zero [v]|none=>false)
theorem Sb {ti:Nat→Option TI} {P:Program} {I:TI} {z:Option Value} {d:TypeDesc} (h:Sa ti P I z d=true):qj ti P I z d:=by
 cases d<;>simp only [Sa,Bool.and_eq_true,Bool.not_eq_true'] at h<;>simp only [qj]
 case struct fs=>
  obtain ⟨⟨⟨⟨⟨⟨⟨h1,h2⟩,h3⟩,h4⟩,h5⟩,h6⟩,h7⟩,h8⟩:=h
  refine ⟨h1,n6 h2,⟨Nat.le_of_ble_eq_true h3,Nat.eq_of_beq_eq_true h4⟩,Dk h5,Dk h6,fun k f hk=> ?_,?_⟩
  ·exact GC (List.all_eq_true.1 h7 f (by
    have:fs.toList[k]? =some f:=by simpa using hk
    exact List.mem_of_getElem? this))
  ·split at h8
   ·rename_i cs
    simp only [Bool.and_eq_true] at h8
    exact ⟨cs,rfl,h8.1,Nat.eq_of_beq_eq_true h8.2⟩
   ·cases h8
 case tuple ts=>
  obtain ⟨⟨⟨h1,h2⟩,h3⟩,h4⟩:=h
  exact ⟨Dk h1,fun he=>(by rw [he] at h2;simp [uk] at h2),n6 h3,h4⟩
 case slice el=>
  obtain ⟨⟨⟨⟨⟨⟨⟨h1,h2⟩,h3⟩,h4⟩,h5⟩,h6⟩,h7⟩,h8⟩:=h
  refine ⟨h1,n6 h2,Nat.eq_of_beq_eq_true h3,Nat.eq_of_beq_eq_true h4,GC h5,?_,xe h7,.l,dD h8,rfl⟩
  split at h6
  ·rfl
  ·cases h6
 case array n el=>
  obtain ⟨⟨⟨⟨⟨⟨⟨⟨⟨h1,h2⟩,h3⟩,h4⟩,h5⟩,h6⟩,h7⟩,h8⟩,h9⟩,Nz⟩:=h
  refine ⟨h1,n6 h2,Nat.eq_of_beq_eq_true h3,Nat.eq_of_beq_eq_true h4,Nat.eq_of_beq_eq_true h5,?_,dD h8,R9 h9,?_⟩
  ·split at h6
   ·rename_i hu
    split at h7
    ·rename_i i hi;exact ⟨i,hu,hi,Nat.eq_of_beq_eq_true h7⟩
    ·cases h7
   ·cases h6
  ·split at Nz
   ·rename_i cs
    have:=JM Nz
    congr 1
    congr 1
    apply Array.toList_inj.1
    rw [this];rfl
   ·cases Nz
 case bool=>
  obtain ⟨⟨⟨⟨⟨h1,h2⟩,h3⟩,h4⟩,h5⟩,h6⟩:=h
  refine ⟨h1,n6 h2,Nat.eq_of_beq_eq_true h3,dD h4,xe h5,?_⟩
  split at h6
  ·rfl
  ·cases h6
 case int k=>
  obtain ⟨⟨⟨⟨⟨h1,h2⟩,h3⟩,h4⟩,h5⟩,h6⟩:=h
  refine ⟨h1,n6 h2,Nat.eq_of_beq_eq_true h3,dD h4,xe h5,?_⟩
  split at h6
  ·simp only [kB,Bool.and_eq_true,decide_eq_true_eq] at h6
   rw [h6.1,h6.2]
  ·cases h6
 case string=>
  obtain ⟨⟨⟨⟨⟨h1,h2⟩,h3⟩,h4⟩,h5⟩,h6⟩:=h
  refine ⟨h1,n6 h2,Nat.eq_of_beq_eq_true h3,dD h4,xe h5,?_⟩
  split at h6
  ·rename_i b;exact ⟨b,rfl,n6 h6⟩
  ·cases h6
 all_goals
  obtain ⟨⟨⟨⟨h1,h2⟩,h3⟩,h4⟩,h5⟩:=h
  refine ⟨h1,n6 h2,Nat.eq_of_beq_eq_true h3,dD h4,?_⟩
  split at h5
  ·rename_i v
   simp only [Bool.and_eq_true] at h5
   exact ⟨v,rfl,h5.1,h5.2⟩
  ·cases h5
def YD (ti:Nat→Option TI) (P:Program) (t:Nat) (I:TI):Bool:=
 match P.underlying t,P.info? t with
 |some d,some i=>(!uk I.ct||(Nat.beq i.size I.size&&Nat.beq i.bytes I.bytes))&&Sa ti P I i.zero d
 |_,_=>false
theorem U7 {ti:Nat→Option TI} {P:Program} {t:Nat} {I:TI} (h:YD ti P t I=true):mI ti P t I:=by
 unfold YD at h
 split at h
 ·rename_i d i hu hi
  simp only [Bool.and_eq_true,Bool.or_eq_true,Bool.not_eq_true'] at h
  refine ⟨d,i,hu,hi,fun hc=> ?_,Sb h.2⟩
  rcases h.1 with h1|h1
  ·rw [hc] at h1;simp [uk] at h1
  ·exact ⟨Nat.eq_of_beq_eq_true h1.1,Nat.eq_of_beq_eq_true h1.2⟩
 ·cases h
def u7:List (Nat×TI)→Nat→Option TI
 |[],_=>none
 |(k,s)::r,t=>bif Nat.beq k t then some s else u7 r t
def afu (P:Program) (Ud:List (Nat×TI)):Bool:=Ud.all fun p=>YD (u7 Ud) P p.1 p.2
theorem GD {l:List (Nat×TI)} {t:Nat} {I:TI} (h:u7 l t=some I):(t,I)∈l:=by
 induction l with
 |nil=>simp [u7] at h
 |cons p l ih=>
  obtain ⟨k,s⟩:=p
  simp only [u7,eh] at h
  by_cases hk:k=t
  ·subst hk;simp at h;subst h;simp
  ·simp only [hk,decide_false,cond_false] at h
   exact List.mem_cons_of_mem _ (ih h)
theorem U8 {P:Program} {Ud:List (Nat×TI)} (h:afu P Ud=true):kn P (u7 Ud):=fun t I hI=>U7 (List.all_eq_true.1 h (t,I) (GD hI))
end Dn
/-
  Comparing values of plain types. Conditions: none.
-/
set_option linter.unusedSimpArgs false
set_option linter.unusedVariables false
set_option linter.constructorNameAsVariable false
namespace Dn
open Go
def U9:List Kd→List Kd
 |[]=>[]
 | .h::r=>List.replicate 32 (.i .u8)++U9 r
 |k::r=>k::U9 r
def HZ:Kd→Value→Bool
 | .b,.bool _=>true
 | .i k,.int k' _=>decide (k'=k)
 | .s,.string _=>true
 |_,_=>false
def iL:List Kd→List Value→Prop
 |[],vs=>vs=[]
 |k::ks,vs=> ∃v r,vs=v::r∧HZ k v=true∧iL ks r
def Sc:Value→Value→Bool
 | .bool a,.bool b=>decide (a=b)
 | .int _ a,.int _ b=>decide (a=b)
 | .string a,.string b=>decide (a.data.toList=b.data.toList)
 |_,_=>false
def jS:List Value→List Value→Bool
 |[],[]=>true
 |x::xs,y::ys=>Sc x y&&jS xs ys
 |_,_=>false
theorem rN {xs ys us vs:List Value} (h:xs.length=ys.length):jS (xs++us) (ys++vs)=(jS xs ys&&jS us vs):=by
 induction xs generalizing ys with
 |nil=>cases ys with|nil=>simp [jS]|cons=>simp at h
 |cons x xs ih=>cases ys with|nil=>simp at h|cons y ys=>simp only [List.cons_append,jS,ih (by simpa using h),Bool.and_assoc]
theorem iL.length {ks:List Kd}: ∀{vs:List Value},iL ks vs→vs.length=ks.length:=by
 induction ks with
 |nil=>intro vs h;cases h;rfl
 |cons k ks ih=>intro vs h;obtain ⟨v,r,rfl,_,h2⟩:=h;simp [ih h2]
theorem iL.append {ks js:List Kd}: ∀{vs us:List Value},iL ks vs→iL js us→iL (ks++js) (vs++us):=by
 induction ks with
 |nil=>intro vs us h h';cases h;simpa using h'
 |cons k ks ih=>intro vs us h h';obtain ⟨v,r,rfl,h1,h2⟩:=h;exact ⟨v,r++us,rfl,h1,ih h2 h'⟩
theorem iL.split {ks js:List Kd}: ∀{vs:List Value},iL (ks++js) vs→iL ks (vs.take ks.length)∧iL js (vs.drop ks.length):=by
 induction ks with
 |nil=>intro vs h;exact ⟨by simp [iL],by simpa using h⟩
 |cons k ks ih=>
  intro vs h
  obtain ⟨v,r,rfl,h1,h2⟩:=h
  obtain ⟨h3,h4⟩:=ih h2
  exact ⟨⟨v,_,rfl,h1,h3⟩,by simpa using h4⟩
theorem Dm (x:kg):iL (List.replicate 32 (.i .u8)) (bh x):=by
 have: ∀(l:List UInt8),iL (List.replicate l.length (.i .u8)) (l.map fun b=>Value.int .u8 (b.toNat:Int)):=by
  intro l
  induction l with
  |nil=>rfl
  |cons b l ih=>exact ⟨_,_,rfl,by simp [HZ],ih⟩
 have h:=this x.l
 rw [x.h] at h
 exact h
theorem GF (x y:kg):jS (bh x) (bh y)=decide (x=y):=by
 have: ∀(l m:List UInt8),l.length=m.length→jS (l.map fun b=>Value.int .u8 (b.toNat:Int)) (m.map fun b=>Value.int .u8 (b.toNat:Int))=decide (l=m):=by
  intro l
  induction l with
  |nil=>intro m h;cases m with|nil=>rfl|cons=>simp at h
  |cons b l ih=>
   intro m h
   cases m with
   |nil=>simp at h
   |cons b' m=>
    simp only [List.map_cons,jS,Sc,ih m (by simpa using h),List.cons.injEq]
    have:((b.toNat:Int)=(b'.toNat:Int))↔b=b':=by
     constructor
     ·intro he;apply UInt8.toNat_inj.1;omega
     ·intro he;rw [he]
    simp [this]
 rw [bh,bh,this x.l y.l (by rw [x.h,y.h])]
 by_cases h:x=y
 ·subst h;simp
 ·have:x.l≠y.l:=fun he=>h (kg.ext' he)
  simp [h,this]
section
variable {e:Env}
theorem GG {lay:List Kd}: ∀{ls:List aD} {vs:List Value},ar e vs ls→eg lay ls=true→iL (U9 lay) vs:=by
 induction lay with
 |nil=>
  intro ls vs h hf
  cases ls with
  |nil=>cases h;rfl
  |cons=>simp [eg] at hf
 |cons k lay ih=>
  intro ls vs h hf
  cases ls with
  |nil=>simp [eg] at hf
  |cons l ls=>
   simp only [eg] at hf
   cases h1:ml k l with
   |false=>simp [h1] at hf
   |true=>
    simp only [h1,cond_true] at hf
    obtain ⟨v,u,rfl,g1,g2⟩:=h
    have hr:=ih g2 hf
    have one: ∀m:MV,∀kd:Kd,l= .p m→(∀w:List Value,kS e.key e.φ w m→ ∃x,w=[x]∧HZ kd x=true)→iL (kd::U9 lay) (v++u):=by
     intro m kd hl hm
     subst hl
     obtain ⟨x,rfl,hx⟩:=hm v g1.2
     exact ⟨x,u,rfl,hx,hr⟩
    cases k<;>cases l<;>simp only [ml] at h1<;>try (cases h1;done)
    ·rename_i m
     cases m<;>simp only [ml] at h1<;>try (cases h1;done)
     exact one _ _ rfl (fun w hw=>by cases hw;exact ⟨_,rfl,rfl⟩)
    ·rename_i k m
     cases m<;>simp only [ml] at h1<;>try (cases h1;done)
     exact one _ _ rfl (fun w hw=>by cases hw;exact ⟨_,rfl,h1⟩)
    ·rename_i m
     cases m<;>simp only [ml] at h1<;>try (cases h1;done)
     exact one _ _ rfl (fun w hw=>by cases hw;exact ⟨_,rfl,rfl⟩)
    ·rename_i x
     have g1:v=bh x:=g1
     subst g1
     exact (Dm x).append hr
theorem Fq {l l':aD} {v v':List Value} {b:Bool} (h:aS e v l) (h':aS e v' l') (hb:Ah l l'=some b):jS v v'=b∧v.length=v'.length:=by
 unfold Ah at hb
 split at hb
 ·obtain ⟨_,h⟩:=h;obtain ⟨_,h'⟩:=h'
  cases h;cases h'
  simp at hb;exact ⟨by simp [jS,Sc,←hb],rfl⟩
 ·obtain ⟨_,h⟩:=h;obtain ⟨_,h'⟩:=h'
  cases h;cases h'
  rename_i k x k' y _ _
  cases hk:decide (k=k') with
  |false=>simp [hk] at hb
  |true=>simp [hk] at hb;exact ⟨by simp [jS,Sc,←hb],rfl⟩
 ·obtain ⟨_,h⟩:=h;obtain ⟨_,h'⟩:=h'
  cases h;cases h'
  simp at hb;exact ⟨by simp [jS,Sc,←hb],rfl⟩
 ·rename_i x y
  have h:v=bh x:=h
  have h':v'=bh y:=h'
  subst h;subst h'
  simp at hb
  exact ⟨by rw [GF,←hb],by rw [cw,cw]⟩
 ·cases hb
theorem Sd {ls:List aD}: ∀{u6:List aD} {vs K6:List Value} {b:Bool},ar e vs ls→ar e K6 u6→iJ ls u6=some b→jS vs K6=b:=by
 induction ls with
 |nil=>
  intro u6 vs K6 b h h' hb
  cases u6 with
  |nil=>cases h;cases h';simp [iJ] at hb;subst hb;rfl
  |cons l' u6=>simp [iJ] at hb
 |cons l ls ih=>
  intro u6 vs K6 b h h' hb
  cases u6 with
  |nil=>simp [iJ] at hb
  |cons l' u6=>
   obtain ⟨v,u,rfl,h1,h2⟩:=h
   obtain ⟨v',u',rfl,E8,Jj⟩:=h'
   have two: ∀x y,Ah l l'=some x→iJ ls u6=some y→b=(x&&y)→jS (v++u) (v'++u')=b:=by
    intro x y hx hy K9
    obtain ⟨g1,g2⟩:=Fq h1 E8 hx
    rw [rN g2,g1,ih h2 Jj hy,K9]
   cases ls with
   |nil=>
    cases u6 with
    |nil=>
     have hb:Ah l l'=some b:=hb
     exact two b true hb rfl (by simp)
    |cons p q=>
     simp only [iJ] at hb
     split at hb
     ·rename_i x y hx hy;exact two x y hx hy (by simpa using hb.symm)
     ·cases hb
   |cons p q=>
    simp only [iJ] at hb
    split at hb
    ·rename_i x y hx hy;exact two x y hx hy (by simpa using hb.symm)
    ·cases hb
end
def sn (F:TypeId→Option (List Kd)) (P:Program):List Field→Nat→Nat→Option (List Kd)
 |[],o,n=>bif Nat.beq o n then some [] else none
 |f::fs,o,n=>match F f.type with
  |some ks=>bif Nat.beq f.offset o&&Nat.beq ks.length (P.cellsOf f.type)&&!(f.name== "_") then (match sn F P fs (o+ks.length) n with|some r=>some (ks++r)|none=>none) else none
  |none=>none
def JO:Nat→List Kd→List Kd
 |0,_=>[]
 |n+1,ks=>ks++JO n ks
def lX (P:Program):Nat→TypeId→Option (List Kd)
 |0,_=>none
 |d+1,t=>match P.underlying t with
  |some .bool=>some [.b]
  |some (.int k)=>some [.i k]
  |some .string=>some [.s]
  |some (.array n e)=>match lX P d e with
   |some ks=>bif Nat.beq ks.length (P.cellsOf e)&&(match P.info? e with|some _=>true|none=>false) then some (JO n ks) else none
   |none=>none
  |some (.struct fs)=>bif P.stoodInHeld t then none else sn (lX P d) P fs.toList 0 (P.cellsOf t)
  |_=>none
def Fs:TypeDesc→Bool
 | .struct _=>true
 | .array _ _=>true
 |_=>false
theorem Dp {F:TypeId→Option (List Kd)} {P:Program}: ∀(fs:List Field) (o n:Nat) (ks:List Kd),sn F P fs o n=some ks→o+ks.length=n:=by
 intro fs
 induction fs with
 |nil=>
  intro o n ks hk
  simp only [sn] at hk
  cases hb:Nat.beq o n with
  |false=>simp [hb] at hk
  |true=>simp [hb] at hk;subst hk;simpa using Nat.eq_of_beq_eq_true hb
 |cons f fs ihf=>
  intro o n ks hk
  simp only [sn] at hk
  cases hf:F f.type with
  |none=>simp [hf] at hk
  |some js=>
   simp only [hf] at hk
   cases hc:Nat.beq f.offset o&&Nat.beq js.length (P.cellsOf f.type)&&!(f.name== "_") with
   |false=>simp [hc] at hk
   |true=>
    simp only [hc,cond_true] at hk
    cases hr:sn F P fs (o+js.length) n with
    |none=>simp [hr] at hk
    |some rs=>
     simp only [hr,Option.some.injEq] at hk
     subst hk
     have:=ihf _ _ _ hr
     simp only [List.length_append];omega
def rh (P:Program) (t:TypeId) (v:Value) (cs:List Value):Prop:=
 match P.underlying t with
 |some (.struct _)|some (.array _ _)=>v= .agg cs.toArray
 |_=>cs=[v]
theorem JP (n:Nat) (ks:List Kd):(JO n ks).length=n *ks.length:=by
 induction n with
 |zero=>simp [JO]
 |succ n ih=>simp only [JO,List.length_append,ih,Nat.succ_mul];omega
section
variable {P:Program} {w:World}
theorem xf {t:TypeId} {xs:Array Value} {off:Nat} {n:Nat} {d:TypeDesc} (hu:P.underlying t=some d) (hn:P.cellsOf t=n) (iB:Fs d=false→n=1) (hl:off+n≤xs.size):
 ∃v,(Go.part t xs off).run P w= .ok v w∧rh P t v ((xs.toList.drop off).take n):=by
 obtain ⟨i,hi⟩:=info_of_underlying hu
 have qk:i.size=n:=by rw [←hn];simp [Program.cellsOf,hi]
 cases hd:Fs d with
 |true=>
  refine ⟨.agg (xs.extract off (off+n)),?_,?_⟩
  ·cases d<;>simp [Fs] at hd<;>simp [Go.part,isAgg,run_underlying hu,Go.sizeOf,typeInfo,hi,qk]
  ·have he:(xs.extract off (off+n))=((xs.toList.drop off).take n).toArray:=by
    apply Array.toList_inj.1
    rw [Array.toList_extract];simp [List.extract]
   unfold rh
   cases d<;>simp [Fs] at hd<;>simp only [hu]<;>rw [he]
 |false=>
  have HE:=iB hd
  subst HE
  have cz:off<xs.size:=by omega
  refine ⟨xs[off],?_,?_⟩
  ·cases d<;>simp [Fs] at hd<;>simp [Go.part,isAgg,run_underlying hu,cz]
  ·have he:(xs.toList.drop off).take 1=[xs[off]]:=by
    rw [List.take_one,List.head?_drop];simp [cz]
   unfold rh
   cases d<;>simp [Fs] at hd<;>simp only [hu]<;>exact he
theorem OZ {F:TypeId→Option (List Kd)} {dd:Nat} {xs ys:Array Value}: ∀(fs:List Field) (o n:Nat) (ks:List Kd),sn F P fs o n=some ks→xs.size=n→ys.size=n→iL ks (xs.toList.drop o)→iL ks (ys.toList.drop o)→
 (∀f∈fs,∀js,F f.type=some js→(∃d,P.underlying f.type=some d∧(Fs d=false→js.length=1))∧
  ∀(x y:Value) (us vs:List Value),rh P f.type x us→rh P f.type y vs→iL js us→iL js vs→(Op.equalIn dd f.type x y).run P w= .ok (jS us vs) w)→
 (Op.eqFields dd xs ys fs).run P w= .ok (jS (xs.toList.drop o) (ys.toList.drop o)) w:=by
 intro fs
 induction fs with
 |nil=>
  intro o n ks hk hx hy _ _ _
  simp only [sn] at hk
  cases hb:Nat.beq o n with
  |false=>simp [hb] at hk
  |true=>
   have hb:=Nat.eq_of_beq_eq_true hb
   have h1:xs.toList.drop o=[]:=List.drop_eq_nil_of_le (by simp [hx,hb])
   have h2:ys.toList.drop o=[]:=List.drop_eq_nil_of_le (by simp [hy,hb])
   rw [h1,h2]
   simp [Op.eqFields,jS]
 |cons f fs ih=>
  intro o n ks hk hx hy fx fy hF
  simp only [sn] at hk
  cases hf:F f.type with
  |none=>simp [hf] at hk
  |some js=>
   simp only [hf] at hk
   cases hc:Nat.beq f.offset o&&Nat.beq js.length (P.cellsOf f.type)&&!(f.name== "_") with
   |false=>simp [hc] at hk
   |true=>
    simp only [hc,cond_true] at hk
    simp only [Bool.and_eq_true,Bool.not_eq_true'] at hc
    obtain ⟨⟨h1,h2⟩,h3⟩:=hc
    have h1:=Nat.eq_of_beq_eq_true h1
    have h2:=Nat.eq_of_beq_eq_true h2
    have h3:f.name≠ "_" :=by intro he;rw [he] at h3;simp at h3
    cases hr:sn F P fs (o+js.length) n with
    |none=>simp [hr] at hk
    |some rs=>
     simp only [hr,Option.some.injEq] at hk
     subst hk
     obtain ⟨fx1,fx2⟩:=fx.split
     obtain ⟨fy1,fy2⟩:=fy.split
     rw [List.drop_drop] at fx2 fy2
     have lx:=fx.length
     have ly:=fy.length
     simp only [List.length_drop,List.length_append,Array.length_toList] at lx ly
     obtain ⟨⟨d,hu,iB⟩,iH⟩:=hF f (by simp) js hf
     by_cases hz:o+js.length≤xs.size∧o+js.length≤ys.size
     ·obtain ⟨x,px,wx⟩:=xf (w:=w) (xs:=xs) (off:=f.offset) hu h2.symm iB (by rw [h1];exact hz.1)
      obtain ⟨y,py,wy⟩:=xf (w:=w) (xs:=ys) (off:=f.offset) hu h2.symm iB (by rw [h1];exact hz.2)
      rw [h1] at wx wy
      have he:=iH x y _ _ wx wy fx1 fy1
      have yf:=ih (o+js.length) n rs hr hx hy fx2 fy2 (fun g hg=>hF g (by simp [hg]))
      simp only [Op.eqFields,h3,ne_eq,not_false_eq_true,if_true,Sem.run_bind,px,py,he,Result.andThen_ok]
      have Dc:jS (xs.toList.drop o) (ys.toList.drop o)=(jS ((xs.toList.drop o).take js.length) ((ys.toList.drop o).take js.length)&&jS (xs.toList.drop (o+js.length)) (ys.toList.drop (o+js.length))):=by
       rw [←List.drop_drop,←List.drop_drop,←rN (by rw [fx1.length,fy1.length]),List.take_append_drop,List.take_append_drop]
      rw [Dc]
      cases jS ((xs.toList.drop o).take js.length) ((ys.toList.drop o).take js.length)
      ·simp
      ·simpa using yf
     ·exfalso
      have:=Dp _ _ _ _ hr
      omega
theorem Se {e:TypeId} {dd:Nat} {xs ys:Array Value} {js:List Kd} (Fa:js.length=P.cellsOf e) (hd: ∃d,P.underlying e=some d∧(Fs d=false→js.length=1))
 (iH: ∀(x y:Value) (us vs:List Value),rh P e x us→rh P e y vs→iL js us→iL js vs→(Op.equalIn dd e x y).run P w= .ok (jS us vs) w):
 ∀(m i:Nat),xs.size=(i+m) *js.length→ys.size=(i+m) *js.length→iL (JO m js) (xs.toList.drop (i *js.length))→iL (JO m js) (ys.toList.drop (i *js.length))→
 (Op.eqItems dd e (P.cellsOf e) xs ys (List.range' i m)).run P w= .ok (jS (xs.toList.drop (i *js.length)) (ys.toList.drop (i *js.length))) w:=by
 intro m
 induction m with
 |zero=>
  intro i hx hy _ _
  have h1:xs.toList.drop (i *js.length)=[]:=List.drop_eq_nil_of_le (by simp [hx])
  have h2:ys.toList.drop (i *js.length)=[]:=List.drop_eq_nil_of_le (by simp [hy])
  rw [h1,h2]
  simp [Op.eqItems,jS]
 |succ m ih=>
  intro i hx hy fx fy
  simp only [JO] at fx fy
  obtain ⟨fx1,fx2⟩:=fx.split
  obtain ⟨fy1,fy2⟩:=fy.split
  have hmul:i *js.length+js.length=(i+1) *js.length:=by rw [Nat.succ_mul]
  rw [List.drop_drop,hmul] at fx2 fy2
  obtain ⟨d,hu,iB⟩:=hd
  have hle:(i+1) *js.length≤(i+(m+1)) *js.length:=Nat.mul_le_mul_right _ (by omega)
  obtain ⟨x,px,wx⟩:=xf (w:=w) (xs:=xs) (off:=i *js.length) hu Fa.symm iB (by omega)
  obtain ⟨y,py,wy⟩:=xf (w:=w) (xs:=ys) (off:=i *js.length) hu Fa.symm iB (by omega)
  have he:=iH x y _ _ wx wy fx1 fy1
  have yf:=ih (i+1) (by rw [hx];congr 1;omega) (by rw [hy];congr 1;omega) fx2 fy2
  rw [List.range'_succ]
  simp only [Op.eqItems,Sem.run_bind,←Fa,px,py,he,Result.andThen_ok]
  have Dc:jS (xs.toList.drop (i *js.length)) (ys.toList.drop (i *js.length))=(jS ((xs.toList.drop (i *js.length)).take js.length) ((ys.toList.drop (i *js.length)).take js.length)&&jS (xs.toList.drop ((i+1) *js.length)) (ys.toList.drop ((i+1) *js.length))):=by
   rw [←hmul,←List.drop_drop,←List.drop_drop,←rN (by rw [fx1.length,fy1.length]),List.take_append_drop,List.take_append_drop]
  rw [Dc]
  cases jS ((xs.toList.drop (i *js.length)).take js.length) ((ys.toList.drop (i *js.length)).take js.length)
  ·simp
  ·rw [←Fa] at yf;simpa using yf
theorem GH: ∀(d:Nat) (t:TypeId) (ks:List Kd),lX P d t=some ks→ ∃k,P.underlying t=some k∧(Fs k=false→ks.length=1):=by
 intro d t ks h
 cases d with
 |zero=>simp [lX] at h
 |succ d=>
  simp only [lX] at h
  cases hu:P.underlying t with
  |none=>simp [hu] at h
  |some k=>
   refine ⟨k,rfl,fun ha=> ?_⟩
   cases k<;>simp only [hu] at h<;>first
    |(simp only [Option.some.injEq] at h;subst h;rfl)
    |(cases h;done)
    |(simp [Fs] at ha;done)
theorem Bv: ∀(d:Nat) (t:TypeId) (ks:List Kd),lX P d t=some ks→ ∀(m:Nat) (x y:Value) (us vs:List Value),rh P t x us→rh P t y vs→iL ks us→iL ks vs→
 (Op.equalIn (m+d) t x y).run P w= .ok (jS us vs) w:=by
 intro d
 induction d with
 |zero=>intro t ks h;simp [lX] at h
 |succ d ih=>
  intro t ks h m x y us vs hx hy fx fy
  simp only [lX] at h
  have hmd:m+(d+1)=(m+d)+1:=rfl
  rw [hmd]
  cases hu:P.underlying t with
  |none=>simp [hu] at h
  |some k=>
   cases k<;>simp only [hu] at h<;>try (cases h;done)
   case bool=>
    simp only [Option.some.injEq] at h;subst h
    simp only [rh,hu] at hx hy
    subst hx;subst hy
    obtain ⟨v,r,h1,h2,h3⟩:=fx
    obtain ⟨v',r',E8,Jj,WT⟩:=fy
    simp at h1 E8
    obtain ⟨rfl,_⟩:=h1
    obtain ⟨rfl,_⟩:=E8
    cases x<;>simp [HZ] at h2
    cases y<;>simp [HZ] at Jj
    rename_i a b
    rw [run_equalIn_bool' w _ t a b hu]
    simp [jS,Sc]
    cases a<;>cases b<;>rfl
   case int k=>
    simp only [Option.some.injEq] at h;subst h
    simp only [rh,hu] at hx hy
    subst hx;subst hy
    obtain ⟨v,r,h1,h2,h3⟩:=fx
    obtain ⟨v',r',E8,Jj,WT⟩:=fy
    simp at h1 E8
    obtain ⟨rfl,_⟩:=h1
    obtain ⟨rfl,_⟩:=E8
    cases x<;>simp [HZ] at h2
    cases y<;>simp [HZ] at Jj
    subst h2;subst Jj
    rw [run_equalIn_int w _ t _ _ _ _ hu]
    simp only [jS,Sc,Bool.and_true]
    congr 1
   case string=>
    simp only [Option.some.injEq] at h;subst h
    simp only [rh,hu] at hx hy
    subst hx;subst hy
    obtain ⟨v,r,h1,h2,h3⟩:=fx
    obtain ⟨v',r',E8,Jj,WT⟩:=fy
    simp at h1 E8
    obtain ⟨rfl,_⟩:=h1
    obtain ⟨rfl,_⟩:=E8
    cases x<;>simp [HZ] at h2
    cases y<;>simp [HZ] at Jj
    rw [run_equalIn_string w _ t _ _ hu]
    simp only [jS,Sc,Bool.and_true,toList_data]
    congr 1
    exact Bool.beq_eq_decide_eq _ _
   case array n e=>
    cases Z7:lX P d e with
    |none=>simp [Z7] at h
    |some js=>
     simp only [Z7] at h
     cases hc:Nat.beq js.length (P.cellsOf e)&&(match P.info? e with|some _=>true|none=>false) with
     |false=>simp [hc] at h
     |true=>
      simp only [hc,cond_true,Option.some.injEq] at h
      subst h
      simp only [Bool.and_eq_true] at hc
      have Fa:=Nat.eq_of_beq_eq_true hc.1
      obtain ⟨i,hi⟩: ∃i,P.info? e=some i:=by
       cases hi:P.info? e with
       |none=>rw [hi] at hc;simp at hc
       |some i=>exact ⟨i,rfl⟩
      simp only [rh,hu] at hx hy
      subst hx;subst hy
      rw [run_equalIn_array w (m+d) us.toArray vs.toArray hu hi,List.range_eq_range']
      have l1:=fx.length
      have l2:=fy.length
      rw [JP] at l1 l2
      have:=Se (w:=w) (xs:=us.toArray) (ys:=vs.toArray) (js:=js) (dd:=m+d) Fa (GH d e js Z7) (fun x y us vs a b c d'=>ih e js Z7 m x y us vs a b c d') n 0 (by simpa using l1) (by simpa using l2) (by simpa using fx) (by simpa using fy)
      simpa using this
   case struct fs=>
    cases dM:P.stoodInHeld t with
    |true=>simp [dM] at h
    |false=>
     simp only [dM,cond_false] at h
     simp only [rh,hu] at hx hy
     subst hx;subst hy
     have RO:P.fieldsOf t=fs:=by simp [Program.fieldsOf,hu]
     rw [run_equalIn_struct w (m+d) t us.toArray vs.toArray (by rw [RO];exact hu) dM,RO]
     have hl:=Dp _ _ _ _ h
     have:=OZ (w:=w) (dd:=m+d) (xs:=us.toArray) (ys:=vs.toArray) fs.toList 0 (P.cellsOf t) ks h (by simp [fx.length];omega) (by simp [fy.length];omega) (by simpa using fx) (by simpa using fy)
      (fun f hf js hjs=>⟨GH d f.type js hjs,fun x y us vs a b c d'=>ih f.type js hjs m x y us vs a b c d'⟩)
     simpa using this
end
theorem NA {l m:List Kd} (h:BT l m=true):l=m:=by
 induction l generalizing m with
 |nil=>cases m<;>simp [BT] at h;rfl
 |cons a l ih=>
  cases m with
  |nil=>simp [BT] at h
  |cons b m=>
   simp only [BT,Bool.and_eq_true] at h
   rw [R7 h.1,ih h.2]
def LY:List Kd→Bool
 |[]=>true
 | .l::_=>false
 | .raw::_=>false
 |_::r=>LY r
def eqB (P:Program) (t:Nat) (I:TI):Bool:=
 !LY I.lay||!uk I.ct||((match lX P 20 t with|some ks=>BT ks (U9 I.lay)|none=>false)&&!P.eqGuardType P.depth t&&
  (match P.underlying t with|some (.struct _)=>I.st|some (.array _ _)=>!I.st&&kq I.lay .h|some .bool=>!I.st&&kq I.lay .b|some (.int k)=>!I.st&&kq I.lay (.i k)|some .string=>!I.st&&kq I.lay .s|_=>false))
def YE (P:Program) (Ud:List (Nat×TI)):Bool:=Ud.all fun p=>eqB P p.1 p.2
theorem O0 {lay:List Kd}: ∀{ls:List aD},eg lay ls=true→LY lay=true:=by
 induction lay with
 |nil=>intro ls _;rfl
 |cons k lay ih=>
  intro ls h
  cases ls with
  |nil=>simp [eg] at h
  |cons l ls=>
   simp only [eg] at h
   cases h1:ml k l with
   |false=>simp [h1] at h
   |true=>
    simp only [h1,cond_true] at h
    have:=ih h
    cases k<;>first|exact this|(cases l<;>simp [ml] at h1)
theorem O1 {t:TypeId} {x y:Value} (h:(∃b,x= .bool b)∨ ∃cs,x= .agg cs) (op:BinOp):
 (op= .eql→binOp op t x y=(do pure (.bool (←Op.equal t x y))))∧(op= .neq→binOp op t x y=(do pure (.bool (!(←Op.equal t x y))))):=by
 rcases h with ⟨b,rfl⟩|⟨cs,rfl⟩<;>refine ⟨?_,?_⟩<;>rintro rfl<;>cases y<;>rfl
theorem O2 {P:Program} {Ud:List (Nat×TI)} (h:YE P Ud=true):Lv P (u7 Ud):=by
 intro t I hI hc e w vx vy sx sy b rx ry fx fy YF YG hb n1 n2
 have hr:=List.all_eq_true.1 h (t,I) (GD hI)
 simp only [eqB,O0 fx,Bool.not_true,Bool.false_or] at hr
 rw [hc] at hr
 simp only [uk,Bool.not_true,Bool.false_or,Bool.and_eq_true,Bool.not_eq_true'] at hr
 obtain ⟨⟨hk,hg⟩,hd⟩:=hr
 cases OA:lX P 20 t with
 |none=>simp [OA] at hk
 |some ks=>
  simp only [OA] at hk
  have hk:=NA hk
  subst hk
  have cells: ∀(v:Value) (s:Slot),ab e v s→eg I.lay (aH s)=true→lr I.st s=true→(∃us,rh P t v us∧ar e us (aH s))∧((∃b,v= .bool b)∨(∃cs,v= .agg cs)∨(∃k n,s= .sc (.p (.i k n)))∨ ∃l,s= .sc (.p (.s l))):=by
   intro v s hv hf hs
   cases s<;>simp only [lr] at hs<;>try (cases hs;done)
   ·rename_i l
    have dM:I.st=false:=by simpa using hs
    cases hu:P.underlying t with
    |none=>simp [hu] at hd
    |some d=>
     simp only [hu] at hd
     cases d<;>simp only [dM,Bool.not_false,Bool.true_and] at hd<;>try (cases hd;done)
     ·have hl:=dD hd
      rw [hl] at hf
      simp only [aH,eg] at hf
      cases l<;>simp [ml] at hf
      rename_i m
      cases m<;>simp [ml] at hf
      have:=Bf hv
      exact ⟨⟨[v],by simp [rh,hu],[v],[],rfl,hv,rfl⟩,.inl ⟨_,this⟩⟩
     ·have hl:=dD hd
      rw [hl] at hf
      simp only [aH,eg] at hf
      cases l<;>simp [ml] at hf
      rename_i m
      cases m<;>simp [ml] at hf
      exact ⟨⟨[v],by simp [rh,hu],[v],[],rfl,hv,rfl⟩,.inr (.inr (.inl ⟨_,_,rfl⟩))⟩
     ·have hl:=dD hd
      rw [hl] at hf
      simp only [aH,eg] at hf
      cases l<;>simp [ml] at hf
      rename_i m
      cases m<;>simp [ml] at hf
      exact ⟨⟨[v],by simp [rh,hu],[v],[],rfl,hv,rfl⟩,.inr (.inr (.inr ⟨_,rfl⟩))⟩
     ·have hl:=dD hd
      rw [hl] at hf
      simp only [aH,eg] at hf
      cases l<;>simp [ml] at hf
      rename_i x
      have hv:v= .agg (bh x).toArray:=hv
      exact ⟨⟨bh x,by simp [rh,hu,hv],bh x,[],by simp,rfl,rfl⟩,.inr (.inl ⟨_,hv⟩)⟩
   ·rename_i cs
    cases hu:P.underlying t with
    |none=>simp [hu] at hd
    |some d=>
     simp only [hu] at hd
     cases d<;>simp only [hs,Bool.not_true,Bool.false_and] at hd<;>try (cases hd;done)
     obtain ⟨arr,hv,pF⟩:=hv
     exact ⟨⟨arr.toList,by simp [rh,hu,hv],pF⟩,.inr (.inl ⟨_,hv⟩)⟩
  obtain ⟨⟨us,wx,lx⟩,kx⟩:=cells vx sx rx fx YF
  obtain ⟨⟨vs,wy,ly⟩,ky⟩:=cells vy sy ry fy YG
  have iH:(Op.equal t vx vy).run P w= .ok b w:=by
   have:=Bv (P:=P) (w:=w) 20 t _ OA 9980 vx vy us vs wx wy (GG lx fx) (GG ly fy)
   rw [Sd lx ly hb] at this
   exact this
  refine ⟨iH,fun x y op=> ?_⟩
  have hxk:(∃b,vx= .bool b)∨ ∃cs,vx= .agg cs:=by
   rcases kx with h1|h1|⟨k,n,h1⟩|⟨l,h1⟩
   ·exact .inl h1
   ·exact .inr h1
   ·exfalso
    subst h1
    cases hu:P.underlying t with
    |none=>simp [hu] at hd
    |some d=>
     simp only [aH] at fx fy hb
     cases Sf:I.lay with
     |nil=>rw [Sf] at fx;simp [eg] at fx
     |cons k0 r0=>
      rw [Sf] at fx fy
      simp only [eg] at fx
      cases k0<;>simp [ml] at fx
      obtain ⟨O3,YH⟩:=fx
      have YH:r0=[]:=by cases r0<;>simp [eg] at YH;rfl
      subst YH
      cases sy<;>simp only [lr] at YF YG<;>try (cases YG;done)
      ·rename_i l
       simp only [aH,eg] at fy
       cases l<;>simp [ml] at fy
       rename_i m
       cases m<;>simp [ml] at fy
       exact n1 _ _ _ _ rfl rfl
      ·rw [YG] at YF;cases YF
   ·exfalso
    subst h1
    simp only [aH] at fx fy hb
    cases Sf:I.lay with
    |nil=>rw [Sf] at fx;simp [eg] at fx
    |cons k0 r0=>
     rw [Sf] at fx fy
     simp only [eg] at fx
     cases k0<;>simp [ml] at fx
     have YH:r0=[]:=by cases r0<;>simp [eg] at fx;rfl
     subst YH
     cases sy<;>simp only [lr] at YF YG<;>try (cases YG;done)
     ·rename_i l
      simp only [aH,eg] at fy
      cases l<;>simp [ml] at fy
      rename_i m
      cases m<;>simp [ml] at fy
      exact n2 _ _ rfl rfl
     ·rw [YG] at YF;cases YF
  refine ⟨?_,O1 hxk op⟩
  have X4:P.eqGuardType P.depth t=false:=hg
  rcases hxk with ⟨bb,rfl⟩|⟨cs,rfl⟩
  ·cases op<;>rfl
  ·cases vy<;>cases op<;>first|rfl|(simp [eqGuard,X4])
end Dn
/-
  A program's types of maps, looked through. Conditions: none.
-/
set_option linter.unusedSimpArgs false
set_option linter.unusedVariables false
set_option linter.constructorNameAsVariable false
namespace Dn
open Go
theorem H0 {lay:List Kd}: ∀{ks:List MV},cY lay ks=true→iL (U9 lay) (ks.flatMap Ad):=by
 induction lay with
 |nil=>intro ks h;cases ks with|nil=>rfl|cons=>simp [cY] at h
 |cons k lay ih=>
  intro ks h
  cases ks with
  |nil=>simp [cY] at h
  |cons m ks=>
   simp only [cY,Bool.and_eq_true] at h
   have h2:=ih h.2
   have h1:=h.1
   cases k<;>cases m<;>simp only [Al] at h1<;>try (cases h1;done)
   ·exact ⟨_,_,rfl,rfl,h2⟩
   ·exact ⟨_,_,rfl,h1,h2⟩
   ·exact ⟨_,_,rfl,rfl,h2⟩
   ·exact (Dm _).append h2
theorem Va {lay:List Kd}: ∀{a b:List MV},cY lay a=true→cY lay b=true→jS (a.flatMap Ad) (b.flatMap Ad)=dQ b a:=by
 induction lay with
 |nil=>
  intro a b ha hb
  cases a<;>cases b<;>simp [cY] at ha hb
  rfl
 |cons k lay ih=>
  intro a b ha hb
  cases a with
  |nil=>simp [cY] at ha
  |cons x a=>
   cases b with
   |nil=>simp [cY] at hb
   |cons y b=>
    simp only [cY,Bool.and_eq_true] at ha hb
    have ih:=ih ha.2 hb.2
    have h1:=ha.1
    have h2:=hb.1
    cases k<;>cases x<;>simp only [Al] at h1<;>try (cases h1;done)
    all_goals cases y<;>simp only [Al] at h2<;>try (cases h2;done)
    ·rename_i p q
     simp only [List.flatMap_cons,Ad,List.cons_append,List.nil_append,jS,Sc,dQ,CB,ih]
     congr 1;rw [decide_eq_decide];exact eq_comm
    ·rename_i k1 p k2 q
     have e1:=of_decide_eq_true h1
     have e2:=of_decide_eq_true h2
     subst e1;subst e2
     simp only [List.flatMap_cons,Ad,List.cons_append,List.nil_append,jS,Sc,dQ,CB,ih,decide_true,Bool.true_and]
     congr 1;rw [decide_eq_decide];exact eq_comm
    ·rename_i p q
     simp only [List.flatMap_cons,Ad,List.cons_append,List.nil_append,jS,Sc,dQ,CB,ih]
     congr 1;rw [decide_eq_decide];simp [eq_comm]
    ·rename_i p q
     simp only [List.flatMap_cons,Ad,dQ,CB]
     rw [rN (by rw [cw,cw]),GF,ih]
     congr 1;rw [decide_eq_decide];exact eq_comm
def Az:TypeDesc→Bool
 | .bool| .int _| .string=>true
 |_=>false
def abq (P:Program) (n:Nat) (fs:List Field):Bool:=fs.all fun f=>(match P.underlying f.type with|some d=>Az d|none=>false)&&Nat.ble (f.offset+1) n
def Xe (P:Program) (kt:Nat) (I:TI):Bool:=match P.underlying kt with
 |some .bool=>!I.st&&kq I.lay .b
 |some (.int k)=>!I.st&&kq I.lay (.i k)
 |some .string=>!I.st&&kq I.lay .s
 |some (.struct fs)=>I.st&&(match lX P 20 kt with|some ks=>BT ks (U9 I.lay)|none=>false)&&abq P (U9 I.lay).length fs.toList
 |_=>false
def Xf (b:Bool):Option Value→Bool
 |some (.bool false)=>b
 |some (.int .i64 n)=>!b&&decide (n=0)
 |_=>false
def abr (P:Program) (ti:Nat→Option TI) (t kt:Nat) (b:Bool):Bool:=match P.underlying t with
 |some (.map kt' el)=>Nat.beq kt' kt&&(match P.info? el with|some i=>Xf b i.zero|none=>false)&&(match ti kt with|some I=>uk I.ct&&Xe P kt I|none=>false)
 |_=>false
def Dq:List (Nat×(Nat×Bool))→Nat→Option (Nat×Bool)
 |[],_=>none
 |(k,s)::r,t=>bif Nat.beq k t then some s else Dq r t
theorem O4 {l:List (Nat×(Nat×Bool))} {t:Nat} {I:Nat×Bool} (h:Dq l t=some I):(t,I)∈l:=by
 induction l with
 |nil=>simp [Dq] at h
 |cons p l ih=>
  obtain ⟨k,s⟩:=p
  simp only [Dq,eh] at h
  by_cases hk:k=t
  ·subst hk;simp at h;subst h;simp
  ·simp only [hk,decide_false,cond_false] at h
   exact List.mem_cons_of_mem _ (ih h)
def Vb (P:Program) (ti:Nat→Option TI) (l:List (Nat×(Nat×Bool))):Bool:=l.all fun p=>abr P ti p.1 p.2.1 p.2.2
theorem xg {k:Kd} {ks:List MV} (h:cY [k] ks=true): ∃m,ks=[m]∧Al k m=true:=by
 cases ks with
 |nil=>simp [cY] at h
 |cons m r=>
  cases r with
  |cons=>simp [cY] at h
  |nil=>exact ⟨m,rfl,by simpa [cY] using h⟩
theorem jm {P:Program} {t:TypeId} {d:TypeDesc} (hu:P.underlying t=some d) (hd:Az d=true) (em:Bool) (n:Nat) (v:Value) (w:World):(Instr.checkKey em (n+1) t v).run P w= .ok () w:=by
 rw [Instr.checkKey]
 simp only [Sem.run_bind,run_underlying hu,Result.andThen]
 cases d<;>simp [Az] at hd<;>cases v<;>rfl
theorem Dr {P:Program} {t:TypeId} {d:TypeDesc} (hu:P.underlying t=some d) (hd:Az d=true) {xs:Array Value} {off:Nat} (h:off<xs.size) (w:World):(Go.part t xs off).run P w= .ok xs[off] w:=by
 cases d<;>simp [Az] at hd<;>simp [Go.part,isAgg,run_underlying hu,h]
theorem LZ {P:Program} {c:Ctx} {l:List (Nat×(Nat×Bool))} (h:Vb P c.ti l=true) (hm: ∀t p,c.mt t=some p→Dq l t=some p):As P c:=by
 intro t s hs
 unfold tR at hs
 cases Nu:c.mt t with
 |none=>simp [Nu] at hs
 |some p=>
  obtain ⟨kt,b⟩:=p
  simp only [Nu] at hs
  cases hI:c.tv kt with
  |none=>simp [hI] at hs
  |some I=>
   simp only [hI] at hs
   cases hit:BS ⟨I.st,I.lay,b⟩ with
   |true=>simp [hit] at hs
   |false=>
   simp only [hit,cond_false,Option.some.injEq] at hs
   subst hs
   obtain ⟨K5,M7⟩:=bE hI
   have hb:=List.all_eq_true.1 h _ (O4 (hm t _ Nu))
   simp only [abr] at hb
   split at hb
   ·rename_i kt' el hu
    simp only [Bool.and_eq_true] at hb
    obtain ⟨⟨vY,uX⟩,hb3⟩:=hb
    have vY:=Nat.eq_of_beq_eq_true vY
    subst vY
    split at uX
    ·rename_i inf afv
     rw [K5] at hb3
     simp only [Bool.and_eq_true] at hb3
     have hk:=hb3.2
     have hz: ∀w:World,(zeroValue el).run P w= .ok (xy b (iy b)) w:=by
      intro w
      have:inf.zero=some (xy b (iy b)):=by
       generalize inf.zero=z at uX
       unfold Xf at uX
       split at uX
       ·subst uX;rfl
       ·simp only [Bool.and_eq_true,Bool.not_eq_true'] at uX
        obtain ⟨h1,h2⟩:=uX
        subst h1
        rw [of_decide_eq_true h2];rfl
       ·cases uX
      simp [zeroValue,typeInfo,afv,this]
     unfold Xe at hk
     refine ⟨kt',el,hu,hz,?_⟩
     split at hk
     ·rename_i hd
      simp only [Bool.and_eq_true,Bool.not_eq_true'] at hk
      have hl:=dD hk.2
      refine ⟨fun em ks w hf=>jm hd rfl em 9999 _ w,_,hd,.inl fun a b' ha Am=> ?_⟩
      rw [hl] at ha Am
      obtain ⟨x,rfl,hx⟩:=xg ha
      obtain ⟨y,rfl,hy⟩:=xg Am
      cases x<;>simp [Al] at hx
      cases y<;>simp [Al] at hy
      rename_i p q
      simp only [hk.1,e8,Instr.sameNow,dQ,CB,Bool.and_true]
      congr 1;rw [Bool.eq_iff_iff];simp only [beq_iff_eq,decide_eq_true_eq];exact eq_comm
     ·rename_i k hd
      simp only [Bool.and_eq_true,Bool.not_eq_true'] at hk
      have hl:=dD hk.2
      refine ⟨fun em ks w hf=>jm hd rfl em 9999 _ w,_,hd,.inl fun a b' ha Am=> ?_⟩
      rw [hl] at ha Am
      obtain ⟨x,rfl,hx⟩:=xg ha
      obtain ⟨y,rfl,hy⟩:=xg Am
      cases x<;>simp [Al] at hx
      cases y<;>simp [Al] at hy
      subst hx;subst hy
      rename_i p q
      simp only [hk.1,e8,Instr.sameNow,dQ,CB,Bool.and_true,if_true,decide_true,Bool.true_and]
      congr 1;rw [Bool.eq_iff_iff];simp only [beq_iff_eq,decide_eq_true_eq];exact eq_comm
     ·rename_i hd
      simp only [Bool.and_eq_true,Bool.not_eq_true'] at hk
      have hl:=dD hk.2
      refine ⟨fun em ks w hf=>jm hd rfl em 9999 _ w,_,hd,.inl fun a b' ha Am=> ?_⟩
      rw [hl] at ha Am
      obtain ⟨x,rfl,hx⟩:=xg ha
      obtain ⟨y,rfl,hy⟩:=xg Am
      cases x<;>simp [Al] at hx
      cases y<;>simp [Al] at hy
      rename_i p q
      simp only [hk.1,e8,Instr.sameNow,dQ,CB,Bool.and_true]
      congr 1;rw [beq_toListBytes,ByteArray.toList_eq,ByteArray.toList_eq,Bool.eq_iff_iff];simp only [beq_iff_eq,decide_eq_true_eq,List.toList_toArray];exact eq_comm
     ·rename_i fs hd
      simp only [Bool.and_eq_true] at hk
      obtain ⟨⟨dM,Ub⟩,RO⟩:=hk
      split at Ub
      ·rename_i ks OA
       have Ub:=NA Ub
       subst Ub
       have hkv: ∀q,e8 true q= .agg (q.flatMap Ad).toArray:=by intro q;rfl
       refine ⟨fun em q w hf=> ?_,_,hd,.inr fun x y hx hy=>⟨?_,fun w=> ?_⟩⟩
       ·have hlen:(q.flatMap Ad).length=(U9 I.lay).length:=(H0 hf).length
        rw [dM,hkv,show (10000:Nat)=9999+1 from rfl,Instr.checkKey]
        simp only [Sem.run_bind,run_underlying hd,Result.andThen_ok]
        rw [←Array.forIn_toList]
        have each: ∀f∈fs.toList,(∃d,P.underlying f.type=some d∧Az d=true)∧f.offset<(q.flatMap Ad).toArray.size:=by
         intro f hf
         have:=List.all_eq_true.1 RO f hf
         simp only [Bool.and_eq_true] at this
         obtain ⟨h1,h2⟩:=this
         split at h1
         ·rename_i d hd;exact ⟨⟨d,hd,h1⟩,by have:=Nat.le_of_ble_eq_true h2;simp only [List.size_toArray];omega⟩
         ·cases h1
        clear RO
        generalize fs.toList=L at each
        generalize (q.flatMap Ad).toArray=xs at each
        induction L with
        |nil=>simp
        |cons f L ih=>
         obtain ⟨⟨d,h1,h2⟩,h3⟩:=each f (by simp)
         have vY:=jm h1 h2 em 9998 xs[f.offset] w
         have uX:=Dr (P:=P) h1 h2 h3 w
         by_cases hn:f.name= "_"
         ·simp only [List.forIn_cons,Sem.run_bind,hn,ne_eq,not_true_eq_false,if_false,Result.andThen_ok,Sem.run_pure]
          exact ih (fun y hy=>each y (by simp [hy]))
         ·simp only [List.forIn_cons,Sem.run_bind,hn,ne_eq,not_false_eq_true,if_true,Result.andThen_ok,vY,uX,Sem.run_pure]
          exact ih (fun y hy=>each y (by simp [hy]))
       ·rw [dM,hkv,hkv];rfl
       ·rw [dM,hkv,hkv]
        have:=Bv (P:=P) (w:=w) 20 kt' _ OA 9980 (.agg (x.flatMap Ad).toArray) (.agg (y.flatMap Ad).toArray) (x.flatMap Ad) (y.flatMap Ad) (by simp [rh,hd]) (by simp [rh,hd]) (H0 hx) (H0 hy)
        rw [Va hx hy] at this
        exact this
      ·cases Ub
     ·cases hk
    ·cases uX
   ·cases hb
end Dn
/-
  Functions that are handed a variable do what their abstract run says. Conditions: none.
-/
set_option linter.unusedSimpArgs false
set_option linter.unusedVariables false
namespace Dn
open Go
section
variable {P:Program} {c:Ctx} {Z:bC} {e e':Env} {st bQ:St} {a a':Act} {w w':World} {R:Type} {r:R}
theorem O5 {rs:List ResultVar} (hT:kn P c.ti): ∀{e:Env} {st:St} {K:List MV→St→Option R},bN c Z e st a w→Ol c st rs K=some r→
 ∃e' bQ ms vs,bN c Z e' bQ a w∧Ext Z.In e e'∧(rs.mapM (pi a.tmps)).run P w= .ok vs w∧bW e'.key e'.φ vs ms∧K ms bQ=some r:=by
 induction rs with
 |nil=>intro e st K h hK;exact ⟨e,st,[],[],h,.refl _ _,by simp,rfl,hK⟩
 |cons x rs ih=>
  intro e st K h hK
  have go: ∀(s:Slot) (v:Value),ab e v s→(pi a.tmps x).run P w= .ok v w→(lq st s fun m st=>Ol c st rs fun ms st=>K (m::ms) st)=some r→
   ∃e' bQ ms vs,bN c Z e' bQ a w∧Ext Z.In e e'∧((x::rs).mapM (pi a.tmps)).run P w= .ok vs w∧bW e'.key e'.φ vs ms∧K ms bQ=some r:=by
   intro s v hs bJ hK
   obtain ⟨e1,eE,m,h1,h2,h3,h4,hK⟩:=mJ h hs hK
   obtain ⟨e2,eZ,ms,vs,q1,q2,q3,q4,hK⟩:=ih h1 hK
   refine ⟨e2,eZ,m::ms,v::vs,q1,h2.trans q2,?_,⟨v,vs,rfl,?_,q4⟩,hK⟩
   ·simp [List.mapM_cons,bJ,q3]
   ·have:=h4.mono q2.on.φ
    rw [←q2.on.key] at this;exact this
  simp only [Ol] at hK
  cases x with
  |tmp t=>
   simp only at hK
   have hs:=h.slot t
   by_cases hb: ∃cs,aj st.fr t= .box cs
   ·obtain ⟨cs,hb⟩:=hb
    rw [hb] at hK
    simp [lq] at hK
   ·refine go (aj st.fr t) (a.tmps.getD t undef) ?_ rfl hK
    generalize aj st.fr t=s at hs hb
    cases s<;>first|exact hs|exact absurd ⟨_,rfl⟩ hb
  |cell b t=>
   simp only at hK
   have hs:=h.slot b
   split at hK
   ·rename_i I cs hI hb
    obtain ⟨K5,M7⟩:=bE hI
    rw [hb] at hs
    obtain ⟨hv,BZ⟩:=hs
    cases Au:et cs||xS b with
    |true=>simp [Au] at hK
    |false=>
    obtain ⟨uW,hpb⟩:=Bool.or_eq_false_iff.1 Au
    simp only [Au,cond_false] at hK
    have hv:=hv.1 hpb
    rw [tY uW] at hv
    obtain ⟨arr,T,cF,pF⟩:=BZ.cells uW
    have hm:w.rangeAt (e.B b) 0 arr.toList:=by
     intro j v hj
     rw [Nat.zero_add,cell_of cF];simpa using hj
    obtain ⟨v,s,h1,h2,h3,h4⟩:=kU (P:=P) (st:=st) (s:= .skip) (hT t I K5) M7 pF hm hK
    refine go s v h2 ?_ h4
    simpa [pi,hv,asAddr,Instr.loadAt,Instr.sureAddr] using h1 w hm
   ·simp at hK
theorem Ds {key:Nat→Nat} {φ:Ph} {v:Value} {m:MV} (h:eN key φ v (.cell m)):False:=by
 have:=h.1
 simp [MV.one] at this
theorem abv (off pos:Nat):xS (1000000+off *1000+pos)=true:=Nat.ble_eq_true_of_le (by omega)
theorem Sg {f pos:Nat} {ks:List LK} {fn:Func} {bS:List (List Kd)} {ms:List MV} {m:MV} (hG:Good P c) (hD:Nv P c) (hf:P.funcs[f]? =some fn) (zp:(fn.name== "runtime.NumGoroutine")=false)
 (hn:c.n=fn.ntmps) (W6:fn.ntmps≤1000000) (qk:fn.params.size+bS.length≤fn.ntmps) (hg:c.dP (c.key f)=true) (xB:c.sig (c.key f)=some (pos,ks)) (hb:F9 c bS pos ks fn ms=some m):kp P c f ms m:=by
 intro φ w Z vs hz eP iZ
 unfold F9 at hb
 cases oJ:fn.body with
 |none=>simp [oJ] at hb
 |some b=>
 simp only [oJ] at hb
 split at hb
 rotate_left
 ·simp at hb
 rename_i b' off ls Am Au
 cases Am
 cases ll:!gp c ks||!Nat.ble pos 999 with
 |true=>simp [ll] at hb
 |false=>
 simp only [ll,cond_false] at hb
 simp only [Bool.or_eq_false_iff,Bool.not_eq_false'] at ll
 obtain ⟨jb,dZ⟩:=ll
 have dZ:=Nat.le_of_ble_eq_true dZ
 simp only [ew,hg,if_true] at eP
 have hC:W0 c Z φ w (c.key f) vs ms:=by
  rcases eP with ⟨v0,v1,v2,xs,m1,ys,_,rfl,_,h4,_⟩|⟨v0,v1,v2,xs,m1,m2,_,rfl,_,_,h4,h5⟩|h
  ·exfalso
   rcases pos with _|_|_|pos<;>simp at Au
   subst Au
   exact Ds h4
  ·exfalso
   rcases pos with _|_|_|pos<;>simp at Au
   ·subst Au;exact Ds h4
   ·subst Au;exact Ds h5
  ·exact h
 obtain ⟨pos',Fo,Ok,u6,a7,w9,ZZ,YI,s8,pE⟩:=hC
 rw [xB] at w9
 simp only [Option.some.injEq,Prod.mk.injEq] at w9
 obtain ⟨rfl,rfl⟩:=w9
 rw [Au] at YI
 simp only [Option.some.injEq,MV.cell.injEq,MV.func.injEq] at YI
 obtain ⟨rfl,rfl⟩:=YI
 obtain ⟨cs,mm,E,arr,T,v7,cF,hzb,pG,pF,fB,ea⟩:=pE
 let e:Env:=⟨c.key,φ,E,fun _=>a7,mm⟩
 have bJ:(callFunc f vs.toArray).run P w= .ok (.enter f vs.toArray) w:=by
  have CP: ¬fn.name= "runtime.NumGoroutine" :=by simpa using zp
  simp [callFunc,hf,CP,oJ]
 unfold fe
 rw [bJ]
 refine calls_of_wp hf oJ ?_
 have s8:bW e.key e.φ vs (ms.set pos (.rp [])):=s8
 obtain ⟨fr,rest,kO,rf,hb,rfl,l1,a2,k1,s1⟩:=Bt s8 hb
 obtain ⟨nJ,hb,l2,k2,s2⟩:=GA a2 hb
 simp only [tU] at hb
 obtain ⟨fa,abw,wX,g1,hb⟩:=jd hb
 cases abw with
 |cons=>simp [gN] at hb
 |nil=>
 simp only [gN] at hb
 have iH:cs=fa∧mm=wX.aO:=by
  unfold Ng at v7
  rw [g1] at v7
  simp only [gN,Option.some.injEq,Prod.mk.injEq] at v7
  exact ⟨v7.1.symm,v7.2.symm⟩
 obtain ⟨rfl,ZR⟩:=iH
 rw [←ZR] at hb
 have htn:(kO++rf).toArray.size=fn.params.size+bS.length:=by simp [l1,l2]
 let a:Act:={tmps:=(kO++rf).toArray++Array.replicate (fn.ntmps-(kO++rf).toArray.size) undef,defers:=[]}
 have Gh: ∀(t:Nat) (v:Value),(kO++rf)[t]? =some v→a.tmps.getD t undef=v:=by
  intro t v ht
  have cz:t<(kO++rf).length:=(List.getElem?_eq_some_iff.1 ht).1
  rw [Array.getD_eq_getD_getElem?]
  show (((kO++rf).toArray++Array.replicate _ undef)[t]?).getD undef=v
  rw [Array.getElem?_append_left (by simpa using cz)]
  simp only [List.getElem?_toArray]
  rw [ht];rfl
 have Dj: ∀t,cX (aj (fr++nJ) t)=false∧(∀cs,aj (fr++nJ) t≠ .box cs)∧ab e (a.tmps.getD t undef) (aj (fr++nJ) t):=by
  intro t
  rw [vQ]
  by_cases h1:t∈aL fr
  ·simp only [h1,if_true]
   obtain ⟨g1,g2,v,g3,g4⟩:=s1 _ (zo h1)
   refine ⟨g1,?_,?_⟩
   ·intro cs hc;simp only [hc,cu] at g2;cases g2
   ·rw [Gh t v ?_];exact g4
    have cz:t<kO.length:=(List.getElem?_eq_some_iff.1 g3).1
    rw [List.getElem?_append_left cz];exact g3
  ·simp only [h1,if_false]
   by_cases h2:t∈aL nJ
   ·obtain ⟨g1,g2,v,g3,g4⟩:=s2 _ (zo h2)
    refine ⟨g1,g2,?_⟩
    rw [Gh t v ?_];exact g4
    have hk:=h2
    rw [k2,List.mem_range'] at hk
    obtain ⟨i,hi,he⟩:=hk
    have ze:fn.params.size=kO.length:=by rw [l1];simp
    rw [List.getElem?_append_right (by omega),←ze];exact g3
   ·rw [p0 _ _ h2]
    exact ⟨rfl,fun cs hc=>(by cases hc),by simp [ab]⟩
 obtain ⟨q,hq⟩: ∃q,q=1000000+off *1000+pos:=⟨_,rfl⟩
 have LQ:xS q=true:=by rw [hq];exact abv off pos
 have hpo:posOf q=pos:=by rw [hq];unfold posOf;omega
 have hof:I3 q=off:=by rw [hq];unfold I3;omega
 rw [←hq] at hb
 let Zc:bC:={bC.plain Z with b4:=[pos],T:=fun _=> .pointer (some ⟨a7,off,none⟩)}
 have abx:a.tmps.getD pos undef= .pointer (some ⟨a7,off,none⟩):=Gh pos _ ZZ
 have ON: ∀t,aj ((q,Slot.box cs)::(fr++nJ)) t=if t=q then .box cs else aj (fr++nJ) t:=by
  intro t
  simp only [aj,eh]
  by_cases O6:t=q
  ·subst O6;simp
  ·have: ¬q=t:=fun h=>O6 h.symm
   simp [O6,this]
 have NB:aL (fr++nJ)=List.range' 0 (fn.params.toList.length+bS.length):=by
  have:aL (fr++nJ)=aL fr++aL nJ:=by simp [aL]
  rw [this,k1,k2]
  have:=List.range'_append_1 (s:=0) (m:=fn.params.toList.length) (n:=bS.length)
  simpa using this
 have Xg: ∀t ds,aj ((q,Slot.box cs)::(fr++nJ)) t= .box ds→t=q:=by
  intro t ds ht
  rw [ON] at ht
  by_cases O6:t=q
  ·exact O6
  ·rw [if_neg O6] at ht;exact absurd ht ((Dj t).2.1 ds)
 have pg:bN c Zc e ⟨[pos],[],(q,.box cs)::(fr++nJ),mm⟩ a w:=by
  refine ⟨⟨rfl,rfl,rfl,fun t ht=> ?_⟩,?_,rfl,rfl,?_,?_,?_,fun f o ho=> ?_,fun t t' cs fa h1 h2 cI=> ?_,fun t ds f o h1 ho=> ?_,fun f f' o o' k h1 h2 h3 h4=>ea f f' o o' k h1 h2 h3 h4,iZ,hz⟩
  ·have:t=pos:=by simpa [Zc] using ht
   rw [this];exact abx
  ·show ((kO++rf).toArray++Array.replicate (fn.ntmps-(kO++rf).toArray.size) undef).size=c.n
   rw [Array.size_append,Array.size_replicate,htn,hn];omega
  ·show (aL ((q,Slot.box cs)::(fr++nJ))).Nodup
   show (q::aL (fr++nJ)).Nodup
   rw [NB]
   refine List.nodup_cons.2 ⟨fun hm=> ?_,List.nodup_range'⟩
   rw [List.mem_range'] at hm
   obtain ⟨i,hi,he⟩:=hm
   have:fn.params.toList.length=fn.params.size:=by simp
   omega
  ·intro t
   show bL Zc e w t _ (aj ((q,Slot.box cs)::(fr++nJ)) t)
   rw [ON]
   by_cases O6:t=q
   ·rw [if_pos O6,O6]
    exact ⟨⟨fun hp=>(by rw [LQ] at hp;cases hp),fun _=>⟨by rw [hpo];simp [Zc],by rw [hof]⟩⟩,⟨.inr hzb,⟨_,cF,rfl,pF⟩,pG⟩⟩
   ·rw [if_neg O6]
    obtain ⟨g1,g2,g3⟩:=Dj t
    generalize aj (fr++nJ) t=s at g1 g2 g3
    cases s<;>first|exact g3|exact absurd rfl (g2 _)
  ·intro t
   show b6 _ (aj ((q,Slot.box cs)::(fr++nJ)) t)
   rw [ON]
   by_cases O6:t=q
   ·rw [if_pos O6];trivial
   ·rw [if_neg O6];exact s7 (Dj t).1
  ·obtain ⟨I,cells,q1,q2,q3,q4,q5⟩:=(fB f o ho).1.row
   exact ⟨I,cells,q1,q2,q3,q4,fun b hb=>⟨.inr (q5 b hb).1,(q5 b hb).2.1,fun hc=>by simp [Zc,bC.fz,bC.plain] at hc⟩⟩
  ·exact absurd ((Xg t _ h1).trans (Xg t' _ h2).symm) cI
  ·exact (fB f o ho).2
 refine Nw hG hD b pg hb ?_
 intro n e' bQ a' w' h' t' hK
 cases hle:Nat.ble n 1 with
 |false=>simp [hle] at hK
 |true=>
  simp only [hle,cond_true] at hK
  obtain ⟨e2,eZ,ns,us,q1,q2,q3,q4,hK⟩:=O5 (P:=P) hG.ti h' hK
  split at hK
  rotate_left
  ·simp at hK
  rename_i tL xZ
  cases M8:et tL with
  |true=>simp [M8] at hK
  |false=>
  simp only [M8,cond_false] at hK
  obtain ⟨outs,ps,ht,hK⟩:=yE hK
  simp only [Option.some.injEq] at hK
  have v8:(results fn a'.tmps).run P w'= .ok (if h:us.toArray.size=1 then us.toArray[0] else .tuple us.toArray) w':=by
   have hm:(fn.results.mapM (pi a'.tmps)).run P w'= .ok us.toArray w':=by
    rw [Array.mapM_eq_mapM_toList]
    simp [q3]
   have M8:results fn a'.tmps=(do let vs←fn.results.mapM (pi a'.tmps);pure (if h:vs.size=1 then vs[0] else .tuple vs)):=by
    unfold results
    congr 1
   rw [M8]
   simp [hm]
  have aby:=q1.slot q
  rw [xZ] at aby
  obtain ⟨_,hT⟩:=aby.1.2 LQ
  have hB:e2.B q=a7:=by
   have hT:Value.pointer (some ⟨a7,off,none⟩)= .pointer (some ⟨e2.B q,I3 q,none⟩):=hT
   simp only [Value.pointer.injEq,Option.some.injEq,Addr.mk.injEq] at hT
   exact hT.1.symm
  have abz:br eZ.b4 q=false:=by
   rw [q1.defers.2.1]
   cases hh:br Zc.b4 q with
   |false=>rfl
   |true=>
    have:=(bt _ _).1 hh
    have:q=pos:=by simpa [Zc] using this
    omega
  have hco:=(C3 q1 xZ M8 jb ht).wide (zn q1 xZ abz ht)
  have HK:e2.key=c.key:=q1.key
  have JK: ∃φ',Trans Z φ w φ' w'∧yC φ' w'∧ya c Z φ' w' (c.key f) (kO++rf) (if h:us.toArray.size=1 then us.toArray[0] else .tuple us.toArray) m:=by
   refine ⟨e2.φ,t'.trans q2.tr,q1.nx,?_⟩
   rw [HK] at q4
   subst hK
   refine ⟨?_,pos,ks,a7,off,xB,ZZ,by rw [←hB];exact hco⟩
   by_cases UT: ∃m',ns=[m']
   ·obtain ⟨m',rfl⟩:=UT
    obtain ⟨v,u,rfl,g1,g2⟩:=q4
    have g2:u=[]:=g2
    subst g2
    simp only [List.size_toArray,List.length_singleton,dite_true]
    cases m'<;>first|exact g1|exact absurd g1.1 (by simp [MV.one])
   ·have hm:aar ns= .cH ns:=by
     cases ns with
     |nil=>rfl
     |cons x l=>
      cases l with
      |nil=>exact absurd ⟨x,rfl⟩ UT
      |cons=>rfl
    have cI:us.toArray.size≠1:=by
     intro h1
     have:=q4.length
     rw [List.size_toArray] at h1
     rw [h1] at this
     obtain ⟨m1,h2⟩:=List.length_eq_one_iff.1 this.symm
     exact UT ⟨m1,h2⟩
    rw [hm,dif_neg cI]
    exact ⟨us.toArray,rfl,by simpa using q4⟩
  match n,hle with
  |0,_=>exact ⟨h'.defers.1,_,v8,_,rfl,JK⟩
  |1,_=>exact ⟨h'.defers.1,_,v8,_,rfl,JK⟩
  |n+2,hle=>simp [Nat.ble] at hle
end
end Dn
/-
  Operations whose order is open. Conditions: none.
-/
set_option linter.unusedSimpArgs false
set_option linter.unusedVariables false
namespace Dn
open Go
section
variable {P:Program} {c:Ctx} {ops:Array Oper} {N:Act→World→Prop}
def pO (N:Act→World→Prop):Exit→Act→World→Prop
 | .normal,a,w=>N a w
 |_,_,_=>False
def ul (c:Ctx) (oi:Oper) (ops:Array Oper) (i:Nat):Bool:=match ops[i]? with|some o=>QP c o||xU oi o|none=>true
def Ft (P:Program) (c:Ctx) (ops:Array Oper) (N:Act→World→Prop) (φ:Ph):Nat→Array Bool→Act→World→Prop
 |0,listed,a,w=>Region.ready .any ops listed=[]∧N a w
 |fuel+1,listed,a,w=>(Region.ready .any ops listed=[]→N a w)∧
  ∀i∈Region.ready .any ops listed,wpOp P ops (pO N) i (fun a' w'=>((∀oi,ul c oi ops i=true→eF c oi w w')∧yC φ w')∧Ft P c ops N φ fuel (listed.setIfInBounds i true) a' w') a w
theorem O7 {φ φ':Ph} (hp:pK φ φ'): ∀(fuel:Nat) (listed:Array Bool) (a:Act) (w:World),Ft P c ops N φ' fuel listed a w→Ft P c ops N φ fuel listed a w:=by
 intro fuel
 induction fuel with
 |zero=>intro listed a w h;exact h
 |succ fuel ih=>intro listed a w h;exact ⟨h.1,fun i hi=>wpOp_mono (fun a w h=>⟨⟨h.1.1,fun b o v hv=>h.1.2 b o v (hp b o v hv)⟩,ih _ _ _ h.2⟩) (h.2 i hi)⟩
theorem Sh {φ:Ph}: ∀(fuel:Nat) (listed:Array Bool) (a:Act) (w:World),Ft P c ops N φ fuel listed a w→wpAny P .any ops (pO N) fuel listed a w:=by
 intro fuel
 induction fuel with
 |zero=>intro listed a w h;exact h
 |succ fuel ih=>intro listed a w h;exact ⟨h.1,fun i hi=>wpOp_mono (fun a w h=>ih _ _ _ h.2) (h.2 i hi)⟩
theorem L0 {oi oj p:Oper} {w w':World} (h1:xU oi p=true) (h2:xU oj p=true) (h:eF c oi w w'):eF c oj w w':=by
 unfold xU at h1 h2
 split at h1
 ·rename_i t t' g1 g2
  split at h2
  ·rename_i u u' g3 g4
   rw [g2] at g4
   cases g4
   have e1:=Nat.eq_of_beq_eq_true h1
   have e2:=Nat.eq_of_beq_eq_true h2
   subst e1;subst e2
   simpa [eF,OO,g1,g3] using h
  ·cases h2
 ·cases h1
theorem YJ {j:Nat} {oi oj:Oper} {v:Value} (hj:ops[j]? =some oj) (sZ:oi.apart ops oj=true)
 (hsi: ∀cs b,oi.op≠ .select cs b) (Z8: ∀cs b,oj.op≠ .select cs b) {K:Act→World→Prop} {a:Act} {w:World} (h:wpOp P ops (pO N) j K (a.put oi.dst v) w):
 wpOp P ops (pO N) j (fun a' w'=>(execOp a'.eval oi=execOp a.eval oi∧Region.wanted oi (yielded ops a'.tmps)=Region.wanted oi (yielded ops a.tmps))∧K (a'.put oi.dst v) w') a w:=by
 obtain ⟨h1,h2,h3⟩:=Oper.apart_spec sZ
 have keep: ∀(a:Act) (u:Value),execOp (a.put oj.dst u).eval oi=execOp a.eval oi∧Region.wanted oi (yielded ops (a.put oj.dst u).tmps)=Region.wanted oi (yielded ops a.tmps):=
  fun a u=>⟨execOp_put oi hsi a oj.dst u h3,wanted_put oi a oj.dst u h3⟩
 unfold wpOp at *
 simp only [hj] at *
 rw [wanted_put oj a oi.dst v h1] at h
 split
 ·rename_i hw
  simp only [hw,if_true] at h
  rcases h with h|⟨abA,Si⟩
  case inr=>obtain ⟨_,_,hf⟩:=Si;exact hf.elim
  refine .inl ?_
  unfold Oper.wp at *
  rw [execOp_put oj Z8 a oi.dst v h1] at h
  generalize (execOp a.eval oj).run P w=r at *
  cases r with
  |ok n w'=>
   cases n<;>simp only [Oper.upon] at h⊢
   case value u=>exact ⟨keep a u,by rw [←Act.put_comm a v u h2];exact h⟩
   case skip=>exact ⟨keep a _,by rw [←Act.put_comm a v undef h2];exact h⟩
   case defer d=>
    refine ⟨keep _ _,?_⟩
    rw [←Act.put_comm _ v undef h2,←Act.put_defers]
    exact h
   case enter f args=>
    refine Calls.mono h fun x wZ he=> ?_
    cases x with
    |returned u=>exact ⟨keep a u,by rw [←Act.put_comm a v u h2];exact he⟩
    |panicked c=>exact he
    |outgrown=>exact he
   case row row args=>exact Rows.mono h fun u wZ he=>⟨keep a u,by rw [←Act.put_comm a v u h2];exact he⟩
  |halt x w'=>
   cases x<;>simp only [Oper.upon] at h⊢
   case panic u=>exact h
 ·rename_i hw
  simp only [hw] at h
  exact ⟨keep a _,by rw [←Act.put_comm a v undef h2];exact h⟩
def NC (P:Program) (c:Ctx) (ops:Array Oper) (φ:Ph) (o:Oper) (v:Value) (a:Act) (w:World):Prop:=
 (Region.wanted o (yielded ops a.tmps)=true∧ ∀w',(kQ c o=true→(still c o=false→eF c o w w')∧yC φ w')→(execOp a.eval o).run P w'= .ok (.value v) w')∨
 (Region.wanted o (yielded ops a.tmps)=false∧v=undef)
theorem Dt {φ:Ph} {i:Nat} {oi:Oper} {v:Value} {D:List Nat} (hD: ∀j oj,j∈D→j≠i→ops[j]? =some oj→ ∃e∈oj.after,Region.binds .any e=true∧e.on∈D) (hi:ops[i]? =some oi) (JQ: ∀(j:Nat) (o:Oper) cs b,ops[j]? =some o→o.op≠ .select cs b):
 ∀(fuel:Nat) (listed:Array Bool) (a:Act) (w:World),
  (∀j oj,ops[j]? =some oj→j∉D→j≠i→listed.getD j true=false→oi.apart ops oj=true∧(kQ c oi=true→still c oi=false→ul c oi ops j=true))→(∀d∈D,listed.getD d false=false)→
  i∈Region.ready .any ops listed→NC P c ops φ oi v a w→yC φ w→
  Ft P c ops N φ fuel (listed.setIfInBounds i true) (a.put oi.dst v) w→Ft P c ops N φ (fuel+1) listed a w:=by
 have self: ∀(fuel:Nat) (listed:Array Bool) (a:Act) (w:World),NC P c ops φ oi v a w→yC φ w→Ft P c ops N φ fuel (listed.setIfInBounds i true) (a.put oi.dst v) w→
  wpOp P ops (pO N) i (fun a' w'=>((∀oi,ul c oi ops i=true→eF c oi w w')∧yC φ w')∧Ft P c ops N φ fuel (listed.setIfInBounds i true) a' w') a w:=by
  intro fuel listed a w hy hm H
  unfold wpOp
  simp only [hi]
  rcases hy with ⟨hw,hv⟩|⟨hw,rfl⟩
  ·simp only [hw,if_true,Oper.wp,hv w (fun _=>⟨fun _=>(dc.refl w).for,hm⟩),Oper.upon]
   exact .inl ⟨⟨fun _ _=>(dc.refl w).for,hm⟩,H⟩
  ·simp only [hw,Bool.false_eq_true,if_false]
   exact ⟨⟨fun _ _=>(dc.refl w).for,hm⟩,H⟩
 intro fuel
 induction fuel with
 |zero=>
  intro listed a w _ _ hr hy hm H
  refine ⟨fun h=>(by rw [h] at hr;cases hr),fun j hj=> ?_⟩
  by_cases Qw:j=i
  ·subst Qw;exact self 0 listed a w hy hm H
  ·have:=ready_mono hj Qw
   rw [H.1] at this
   cases this
 |succ fuel ih=>
  intro listed a w pG B1 hr hy hm H
  refine ⟨fun h=>(by rw [h] at hr;cases hr),fun j hj=> ?_⟩
  by_cases Qw:j=i
  ·subst Qw;exact self (fuel+1) listed a w hy hm H
  ·have h1:=H.2 j (ready_mono hj Qw)
   obtain ⟨Vc,oj,Xh,pL⟩:=mem_ready.1 hj
   have hjD:j∉D:=by
    intro hjd
    obtain ⟨e,he,hb,si⟩:=hD j oj hjd Qw Xh
    have h1:=pL e he hb
    rw [B1 e.on si] at h1;cases h1
   obtain ⟨sZ,Z9⟩:=pG j oj Xh hjD Qw Vc
   have h2:=YJ Xh sZ (fun cs b=>JQ i oi cs b hi) (fun cs b=>JQ j oj cs b Xh) h1
   have abB: ∀d∈D,(listed.setIfInBounds j true).getD d false=false:=by
    intro d hd
    rw [getD_set_ne false (fun he=>hjD (by rw [he];exact hd))];exact B1 d hd
   have YK: ∀k ok,ops[k]? =some ok→k∉D→k≠i→(listed.setIfInBounds j true).getD k true=false→oi.apart ops ok=true∧(kQ c oi=true→still c oi=false→ul c oi ops k=true):=fun k ok hk hkD Vd Yz=>by
    refine pG k ok hk hkD Vd ?_
    by_cases Xi:j=k
    ·subst Xi;exact Vc
    ·rw [getD_set_ne true Xi] at Yz;exact Yz
   refine wpOp_mono (fun a' w' h3=>⟨h3.2.1,ih (listed.setIfInBounds j true) a' w' YK abB (ready_mono hr (Ne.symm Qw)) ?_ h3.2.1.2 ?_⟩) h2
   ·obtain ⟨⟨he,YL⟩,⟨hg,_⟩,_⟩:=h3
    rcases hy with ⟨hw,hv⟩|⟨hw,rfl⟩
    ·refine .inl ⟨by rw [YL];exact hw,fun wZ Sj=> ?_⟩
     rw [he]
     exact hv wZ (fun hl=>⟨fun hs=>(hg oi (Z9 hl hs)).trans ((Sj hl).1 hs),(Sj hl).2⟩)
    ·exact .inr ⟨by rw [YL];exact hw,rfl⟩
   ·rw [Array.setIfInBounds_comm _ _ Qw]
    exact h3.2.2
variable {Z:bC} {R:Type} {K:St→Option R} {r:R}
theorem O8 (op:Op):Lj op=op.operands.toList:=by
 cases op<;>first|rfl|simp [Lj,Op.operands,Call.operands]
 all_goals first|rfl|(rename_i c;cases c.callee<;>simp)
theorem Sk (l:List Operand):Jb l=l.filterMap fun| .tmp t=>some t|_=>none:=by
 induction l with
 |nil=>rfl
 |cons x l ih=>cases x<;>simp [Jb,ih]
theorem GI (o:Oper):Hw ops.toList o=o.looksAt ops:=by
 unfold Hw Oper.looksAt
 rw [O8,Sk]
 congr 1
 cases o.guard with
 |none=>rfl
 |some g=>
  obtain ⟨g,wnt⟩:=g
  simp only [Array.getElem?_toList]
  cases ops[g]? <;>rfl
theorem xh {x y:Oper} (h:Hx ops.toList x y=true):x.apart ops y=true:=by
 unfold Hx at h
 unfold Oper.apart
 rw [GI,GI] at h
 have hn: ∀(l:List Nat) (d:Nat),br l d=l.contains d:=by
  intro l d
  have:=bt l d
  cases h1:br l d<;>cases h2:l.contains d<;>simp_all
 cases hx:x.dst<;>cases hy:y.dst<;>simp_all [bne,eh]
theorem s9 (e:Edge):CD e=Region.binds .any e:=by
 unfold CD Region.binds
 cases e.ground<;>rfl
structure Sl (ops:Array Oper) (listed:Array Bool) (pre:List Nat):Prop where
 size:listed.size=ops.size
 mem: ∀i,i<ops.size→(listed.getD i true=true↔i∈pre)
theorem Sl.set {listed:Array Bool} {pre:List Nat} {x:Nat} (h:Sl ops listed pre) (hx:x<ops.size):Sl ops (listed.setIfInBounds x true) (x::pre):=by
 refine ⟨by simpa using h.size,fun i hi=> ?_⟩
 by_cases L2:x=i
 ·subst L2
  have:x<listed.size:=by rw [h.size];exact hx
  simp [this]
 ·rw [getD_set_ne true L2,h.mem i hi]
  simp only [List.mem_cons]
  exact ⟨.inr,fun hh=>hh.resolve_left (fun he=>L2 he.symm)⟩
theorem Sl.zr {listed:Array Bool} {pre:List Nat} {i:Nat} (h:Sl ops listed pre) (hi:i<ops.size):listed.getD i true=false↔i∉pre:=by
 rw [←h.mem i hi];cases listed.getD i true<;>simp
theorem Sl.done {listed:Array Bool} {pre:List Nat} {i:Nat} (h:Sl ops listed pre) (hi:i<ops.size):listed.getD i false=true↔i∈pre:=by
 rw [←h.mem i hi]
 have hl:i<listed.size:=by rw [h.size];exact hi
 simp [hl]
theorem wb: ∀(rest pre:List Nat),sS c ops.toList pre rest=true→ ∀z∈rest,z∉pre:=by
 intro rest
 induction rest with
 |nil=>intro pre _ z hz;cases hz
 |cons y rest ihr=>
  intro pre hd z hz
  simp only [sS] at hd
  cases hy:ops.toList[y]? with
  |none=>simp [hy] at hd
  |some oy=>
   simp only [hy,Bool.and_eq_true,Bool.not_eq_true'] at hd
   rcases List.mem_cons.1 hz with rfl|hz
   ·rw [←bt,hd.1.1.1.2];simp
   ·exact fun hzp=>ihr (y::pre) hd.2 z hz (by simp [hzp])
theorem Fu {o:Oper} {x:Nat}: ∀(rest D0:List Nat),qf c ops.toList o D0 rest=true→(∀y,y∈D0→y≠x→ ∃p,ops[y]? =some p∧ ∃e∈p.after,Region.binds .any e=true∧e.on∈D0)→
 ∃D:List Nat,(∀y∈D0,y∈D)∧(∀y∈D,y∈D0∨y∈rest)∧(∀j oj,j∈D→j≠x→ops[j]? =some oj→ ∃e∈oj.after,Region.binds .any e=true∧e.on∈D)∧
  (∀y∈rest,y∉D→ ∃p,ops[y]? =some p∧o.apart ops p=true∧(kQ c o=true→still c o=false→(QP c p||xU o p)=true)):=by
 intro rest
 induction rest with
 |nil=>
  intro D0 _ h0
  refine ⟨D0,fun y hy=>hy,fun y hy=> .inl hy,fun j oj hj cI ho=> ?_,fun y hy=>by cases hy⟩
  obtain ⟨p,hp,he⟩:=h0 j hj cI
  rw [ho] at hp;cases hp;exact he
 |cons y rest ih=>
  intro D0 h h0
  simp only [qf] at h
  cases hy:ops.toList[y]? with
  |none=>simp [hy] at h
  |some p=>
   simp only [hy] at h
   have hy':ops[y]? =some p:=by simpa using hy
   cases he:yt p (br D0) with
   |true=>
    simp only [he,cond_true] at h
    obtain ⟨D,D1,D2,D3,D4⟩:=ih (y::D0) h (by
     intro z hz cI
     rcases List.mem_cons.1 hz with rfl|hz
     ·unfold yt at he
      obtain ⟨ed,Ve,hb⟩:=List.any_eq_true.1 he
      simp only [Bool.and_eq_true,s9] at hb
      exact ⟨p,hy',ed,by simpa using Ve,hb.1,by simp [(bt _ _).1 hb.2]⟩
     ·obtain ⟨q,hq,ed,h1,h2,h3⟩:=h0 z hz cI
      exact ⟨q,hq,ed,h1,h2,by simp [h3]⟩)
    refine ⟨D,fun z hz=>D1 z (by simp [hz]),fun z hz=> ?_,D3,fun z hz hzD=> ?_⟩
    ·rcases D2 z hz with h1|h1
     ·rcases List.mem_cons.1 h1 with h1|h1
      ·exact .inr (by simp [h1])
      ·exact .inl h1
     ·exact .inr (by simp [h1])
    ·rcases List.mem_cons.1 hz with rfl|hz
     ·exact absurd (D1 z (by simp)) hzD
     ·exact D4 z hz hzD
   |false=>
    simp only [he,cond_false,Bool.and_eq_true,Bool.or_eq_true,Bool.not_eq_true'] at h
    obtain ⟨⟨h1,h2⟩,h3⟩:=h
    obtain ⟨D,D1,D2,D3,D4⟩:=ih D0 h3 h0
    refine ⟨D,D1,fun z hz=>(D2 z hz).imp id (fun h=>by simp [h]),D3,fun z hz hzD=> ?_⟩
    rcases List.mem_cons.1 hz with rfl|hz
    ·refine ⟨p,hy',xh h1,fun hl hs=> ?_⟩
     rcases h2 with ((h2|h2)|h2)|h2
     ·rw [hl] at h2;cases h2
     ·simp [h2]
     ·rw [hs] at h2;cases h2
     ·simp [h2]
    ·exact D4 z hz hzD
def bC.outs (Z:bC) (bs:List Nat):bC:={Z with In:=fun b=>Z.In b∧b∉bs,Pr:=fun b=>Z.Pr b∧b∉bs}
theorem bN.Bw {Z Z':bC} {e:Env} {st:St} {a:Act} {w:World} (h:bN c Z e st a w) (hI: ∀b,Z.In b→Z'.In b) (hP: ∀b,Z.Pr b→Z'.Pr b) (h1:Z'.b4=Z.b4) (h2:Z'.b5=Z.b5) (h3:Z'.T=Z.T) (h4:Z'.cov=Z.cov):bN c Z' e st a w:=by
 refine ⟨by rw [h1,h2,h3];exact h.defers,h.size,h.m,h.key,h.nodup,fun t=> ?_,h.root,fun f o ho=> ?_,h.bb,h.bf,h.ff,h.nx,fun b hb=>hI b (h.b3 b hb)⟩
 ·have hs:=h.slot t
  generalize aj st.fr t=s at hs
  cases s<;>simp only [bL] at hs⊢ <;>first|exact hs|skip
  exact ⟨⟨hs.1.1,fun hp=>by rw [h1,h3];exact hs.1.2 hp⟩,⟨by rcases hs.2.b3 with ⟨x,y⟩|x;exact .inl ⟨by rw [h1];exact x,hP _ y⟩;exact .inr (hI _ x),hs.2.obj,hs.2.free⟩⟩
 ·obtain ⟨I,cells,g1,g2,g3,g4,g5⟩:=(h.iF f o ho).row
  refine ⟨I,cells,g1,g2,g3,g4,fun a7 hb=> ?_⟩
  obtain ⟨k1,k2,k3⟩:=g5 a7 hb
  refine ⟨?_,k2,fun hc hz j hj=>k3 (by have hc:f∈Z'.b5:=hc;rw [h2] at hc;exact hc) hz j hj⟩
  rcases k1 with ⟨x,y⟩|x
  ·exact .inl ⟨by rw [h2];exact x,hP _ y⟩
  ·exact .inr (hI _ x)
theorem bN.narrow {e:Env} {st:St} {a:Act} {w w':World} {bs:List Nat} (h:bN c (Z.outs bs) e st a w) (g:dc w w') (hs:w.heap.size<w'.heap.size):bN c (Z.outs (w.heap.size::bs)) e st a w':=by
 have h':=h.grow g
 have s4: ∀b,b<w.heap.size→(Z.outs bs).In b→(Z.outs (w.heap.size::bs)).In b:=fun b hb hi=>⟨hi.1,by simp only [List.mem_cons,not_or];exact ⟨by omega,hi.2⟩⟩
 have CW: ∀b,b<w.heap.size→(Z.outs bs).Pr b→(Z.outs (w.heap.size::bs)).Pr b:=fun b hb hi=>⟨hi.1,by simp only [List.mem_cons,not_or];exact ⟨by omega,hi.2⟩⟩
 refine ⟨h'.defers,h'.size,h'.m,h'.key,h'.nodup,fun t=> ?_,h'.root,fun f o ho=> ?_,h'.bb,h'.bf,h'.ff,h'.nx,fun b hb=> ?_⟩
 ·have hs:=h.slot t
  have w9:=h'.slot t
  generalize aj st.fr t=s at hs w9
  cases s<;>simp only [bL] at hs w9⊢ <;>first|exact w9|skip
  obtain ⟨o2,k1,_⟩:=hs.2.obj
  have hl:=bm k1
  exact ⟨w9.1,⟨by rcases w9.2.b3 with ⟨x,y⟩|x;exact .inl ⟨x,CW _ hl y⟩;exact .inr (s4 _ hl x),w9.2.obj,w9.2.free⟩⟩
 ·obtain ⟨I,cells,g1,g2,g3,g4,g5⟩:=(h'.iF f o ho).row
  refine ⟨I,cells,g1,g2,g3,g4,fun a7 hb=> ?_⟩
  obtain ⟨k1,k2,k3⟩:=g5 a7 hb
  refine ⟨?_,k2,k3⟩
  have hl:a7<w.heap.size:=by
   obtain ⟨I',Q9,l1,l2,l3,l4,l5⟩:=(h.iF f o ho).row
   rcases l3.2 with ⟨hv,_⟩|⟨gg,cap,cW,hv,_,hg,_⟩
   ·rw [hv] at hb;simp [Value.ownBlock] at hb
   ·rw [hv] at hb
    simp only [Value.ownBlock,Option.some.injEq] at hb
    have:=bm hg
    omega
  rcases k1 with ⟨x,y⟩|x
  ·exact .inl ⟨x,CW _ hl y⟩
  ·exact .inr (s4 _ hl x)
 ·refine ⟨(h.b3 b (by omega)).1,?_⟩
  simp only [List.mem_cons,not_or]
  exact ⟨by omega,(h.b3 b (by omega)).2⟩
def Vf (b:Nat):Value:= .pointer (some ⟨b,0,none⟩)
def ta (ops:Array Oper) (i:Nat):Option Nat:=match ops[i]? with
 |some o=>o.dst
 |none=>none
def sr (ops:Array Oper):List (Nat×Nat)→Act→Act
 |[],a=>a
 |p::r,a=>(sr ops r a).put (ta ops p.1) (Vf p.2)
structure Vg (c:Ctx) (Z:bC) (ops:Array Oper) (e:Env) (w:World) (p:Nat×Nat):Prop where
 row: ∃o t I d arr T,ops[p.1]? =some o∧Jc o=true∧o.op= .alloc t∧c.tv t=some I∧o.dst=some d∧w.heap[p.2]? =some (.cells arr T (0,0))∧ ∀e':Env,ar e' arr.toList I.zero
 free: ∀off,e.φ p.2 off=none
 b3:Z.In p.2
theorem xi {o:Oper} (h:Jc o=true): ∃t d,o.op= .alloc t∧o.dst=some d∧o.guard=none∧ ∀e∈o.after,Region.binds .any e=false:=by
 unfold Jc at h
 split at h
 ·rename_i t d h1 h2 h3
  refine ⟨t,d,h1,h2,h3,fun e he=> ?_⟩
  have:=List.all_eq_true.1 h e (by simpa using he)
  simpa [s9] using this
 ·cases h
theorem yF {t:TypeId} {I:TI} (hI:c.tv t=some I) (hT:kn P c.ti): ∃i z,P.info? t=some i∧i.zero=some z∧ ∀e:Env,ar e z.cells.toList I.zero:=by
 obtain ⟨rc,hc⟩:=bE hI
 obtain ⟨d,i,h1,h2,h3,h4⟩:=hT t I rc
 suffices hz: ∃z,i.zero=some z∧ ∀e:Env,ar e z.cells.toList I.zero by
  obtain ⟨z,h5,h6⟩:=hz
  exact ⟨i,z,h2,h5,h6⟩
 cases d<;>simp only [qj] at h4
 case struct fs=>obtain ⟨_,_,_,_,_,_,cs,hz,hl,_⟩:=h4;exact ⟨_,hz,fun e=>by simpa [Value.cells] using ko hl⟩
 case tuple ts=>exact absurd hc h4.2.1
 case slice el=>obtain ⟨_,_,_,_,_,hz,hl,_⟩:=h4;exact ⟨_,hz,fun e=>by rw [hl];exact ⟨[.slice none 0 0],[],rfl,rfl,rfl⟩⟩
 case array n el=>obtain ⟨_,_,_,_,_,_,_,hl,hz⟩:=h4;exact ⟨_,hz,fun e=>by rw [hl];exact ⟨bh kg.zero,[],by simp [Value.cells],rfl,rfl⟩⟩
 case bool=>obtain ⟨_,_,_,_,hl,hz⟩:=h4;exact ⟨_,hz,fun e=>by rw [hl];exact ⟨[.bool false],[],rfl,⟨rfl,.b _⟩,rfl⟩⟩
 case int k=>obtain ⟨_,_,_,_,hl,hz⟩:=h4;exact ⟨_,hz,fun e=>by rw [hl];exact ⟨[.int k 0],[],rfl,⟨rfl,.i _ _⟩,rfl⟩⟩
 case string=>
  obtain ⟨_,_,_,_,hl,b,hz,hb⟩:=h4
  refine ⟨_,hz,fun e=>by rw [hl];refine ⟨[.string b],[],rfl,⟨rfl,?_⟩,rfl⟩;rw [←hb];exact .s b⟩
 all_goals
  obtain ⟨_,_,_,_,v,hz,hv,hl⟩:=h4
  refine ⟨v,hz,fun e=> ?_⟩
  have:v.cells.toList=[v]:=by cases v<;>simp_all [Value.cells,Value.oneCell']
  rw [this];exact ko hl
theorem Bx {o:Oper} (hs: ∀cs b,o.op≠ .select cs b) (a:Act): ∀(pd:List (Nat×Nat)),(∀p∈pd,∀d,ta ops p.1=some d→d∉o.looksAt ops)→
 execOp (sr ops pd a).eval o=execOp a.eval o∧Region.wanted o (yielded ops (sr ops pd a).tmps)=Region.wanted o (yielded ops a.tmps)
 |[],_=>⟨rfl,rfl⟩
 |p::r,h=>by
  obtain ⟨h1,h2⟩:=Bx hs a r (fun q hq=>h q (by simp [hq]))
  have hp:=h p (by simp)
  exact ⟨(execOp_put o hs _ _ _ hp).trans h1,(wanted_put o _ _ _ hp).trans h2⟩
theorem zt (a:Act) (y:Option Nat) (v:Value): ∀(pd:List (Nat×Nat)),(∀p∈pd,∀d,ta ops p.1=some d→y≠some d)→(sr ops pd a).put y v=sr ops pd (a.put y v)
 |[],_=>rfl
 |p::r,h=>by
  simp only [sr]
  rw [Act.put_comm _ _ _ (fun d hd=>h p (by simp) d hd),zt a y v r (fun q hq=>h q (by simp [hq]))]
theorem Vh {j:Nat} {oj:Oper} {x:Option Nat} {v:Value} (hj:ops[j]? =some oj) (h1: ∀d,x=some d→d∉oj.looksAt ops) (h2: ∀d,x=some d→oj.dst≠some d)
 (Z8: ∀cs b,oj.op≠ .select cs b) {K:Act→World→Prop} {a:Act} {w:World} (h:wpOp P ops (pO N) j K a w):
 wpOp P ops (pO N) j (fun a' w'=> ∃a'',a'=a''.put x v∧K a'' w') (a.put x v) w:=by
 unfold wpOp at *
 simp only [hj] at *
 rw [wanted_put oj a x v h1]
 split
 ·rename_i hw
  simp only [hw,if_true] at h
  rcases h with h|⟨abA,Si⟩
  case inr=>obtain ⟨_,_,hf⟩:=Si;exact hf.elim
  refine .inl ?_
  unfold Oper.wp at *
  rw [execOp_put oj Z8 a x v h1]
  generalize (execOp a.eval oj).run P w=r at *
  cases r with
  |ok n w'=>
   cases n<;>simp only [Oper.upon] at h⊢
   case value u=>exact ⟨_,Act.put_comm a v u h2,h⟩
   case skip=>exact ⟨_,Act.put_comm a v undef h2,h⟩
   case defer d=>
    refine ⟨{a.put oj.dst undef with defers:=d::(a.put oj.dst undef).defers},?_,by simpa [Act.put_defers] using h⟩
    have:=Act.put_comm a v undef h2
    cases x<;>cases hd:oj.dst<;>simp_all [Act.put]
   case enter f args=>
    refine Calls.mono h fun y wZ he=> ?_
    cases y with
    |returned u=>exact ⟨_,Act.put_comm a v u h2,he⟩
    |panicked c=>exact he
    |outgrown=>exact he
   case row row args=>exact Rows.mono h fun u wZ he=>⟨_,Act.put_comm a v u h2,he⟩
  |halt y w'=>
   cases y<;>simp only [Oper.upon] at h⊢
   case panic u=>exact h
 ·rename_i hw
  simp only [hw] at h
  exact ⟨_,Act.put_comm a v undef h2,h⟩
theorem ND {j:Nat} {oj:Oper} (hj:ops[j]? =some oj) (Z8: ∀cs b,oj.op≠ .select cs b) {K:Act→World→Prop} {a:Act} {w:World} (h:wpOp P ops (pO N) j K a w): ∀(pd:List (Nat×Nat)),
 (∀p∈pd,∀d,ta ops p.1=some d→d∉oj.looksAt ops∧oj.dst≠some d)→wpOp P ops (pO N) j (fun a' w'=> ∃a'',a'=sr ops pd a''∧K a'' w') (sr ops pd a) w
 |[],_=>wpOp_mono (fun a' w' hk=>⟨a',rfl,hk⟩) h
 |p::r,hp=>by
  have h1:=ND hj Z8 h r (fun q hq=>hp q (by simp [hq]))
  have h2:=Vh (v:=Vf p.2) hj (fun d hd=>(hp p (by simp) d hd).1) (fun d hd=>(hp p (by simp) d hd).2) Z8 h1
  refine wpOp_mono ?_ h2
  rintro a' w' ⟨a1,rfl,a2,rfl,hk⟩
  exact ⟨a2,rfl,hk⟩
theorem AA: ∀{l m:List Nat},l.Nodup→(∀x∈l,x∈m)→l.length≤m.length
 |[],m,_,_=>Nat.zero_le _
 |x::l,m,hn,hs=>by
  have hn:=List.nodup_cons.1 hn
  have h1:l.length≤(m.erase x).length:=AA hn.2 fun y hy=>(List.mem_erase_of_ne (fun he=>hn.1 (by rw [←he];exact hy))).2 (hs y (by simp [hy]))
  have h2:=List.length_erase_of_mem (hs x (by simp))
  have h3:0<m.length:=List.length_pos_of_mem (hs x (by simp))
  simp only [List.length_cons];omega
theorem JR {x b:Nat} {o:Oper} (hdo:ta ops x=o.dst) (a:Act) (pr:List (Nat×Nat)): ∀(pl:List (Nat×Nat)),(∀p∈pl++pr,∀dd,ta ops p.1=some dd→o.dst≠some dd)→sr ops (pl++(x,b)::pr) a=sr ops (pl++pr) (a.put o.dst (Vf b))
 |[],h=>by
  simp only [List.nil_append,sr,hdo]
  exact zt a o.dst (Vf b) pr (fun p hp=>h p (by simp [hp]))
 |q::pl,h=>by
  simp only [List.cons_append,sr]
  rw [JR hdo a pr pl (fun p hp=>h p (by simp only [List.cons_append,List.mem_cons];exact .inr hp))]
theorem Sl.congr {listed:Array Bool} {l l':List Nat} (h:Sl ops listed l) (he: ∀i,i∈l↔i∈l'):Sl ops listed l':=⟨h.size,fun i hi=>by rw [h.mem i hi,he]⟩
theorem JS {o:Oper}: ∀(rest D:List Nat),qf c ops.toList o D rest=true→ ∀y∈rest,∀p,ops[y]? =some p→Jc p=true→o.apart ops p=true:=by
 intro rest
 induction rest with
 |nil=>intro D _ y hy;cases hy
 |cons z rest ih=>
  intro D h y hy p hp B0
  simp only [qf] at h
  cases hz:ops.toList[z]? with
  |none=>simp [hz] at h
  |some q=>
   simp only [hz] at h
   cases he:yt q (br D) with
   |true=>
    simp only [he,cond_true] at h
    rcases List.mem_cons.1 hy with rfl|hy
    ·exfalso
     have ZW:ops[y]? =some q:=by simpa using hz
     rw [ZW] at hp;cases hp
     obtain ⟨_,_,_,_,_,cI⟩:=xi B0
     unfold yt at he
     obtain ⟨ed,Ve,hb⟩:=List.any_eq_true.1 he
     simp only [Bool.and_eq_true,s9] at hb
     rw [cI ed (by simpa using Ve)] at hb
     exact absurd hb.1 (by simp)
    ·exact ih _ h y hy p hp B0
   |false=>
    simp only [he,cond_false,Bool.and_eq_true] at h
    rcases List.mem_cons.1 hy with rfl|hy
    ·have ZW:ops[y]? =some q:=by simpa using hz
     rw [ZW] at hp;cases hp
     exact xh h.1.1
    ·exact ih _ h.2 y hy p hp B0
theorem Du {o p:Oper} {y:Nat} (hp:ops[y]? =some p) (h:p.apart ops o=true∨o.apart ops p=true): ∀d,ta ops y=some d→d∉o.looksAt ops∧o.dst≠some d:=by
 intro d hd
 have hd:p.dst=some d:=by simpa [ta,hp] using hd
 rcases h with h|h
 ·obtain ⟨h1,h2,h3⟩:=Oper.apart_spec h
  exact ⟨h1 d hd,h2 d hd⟩
 ·obtain ⟨h1,h2,h3⟩:=Oper.apart_spec h
  exact ⟨h3 d hd,fun he=>h2 d he hd⟩
theorem Vg.later {Z:bC} {bs:List Nat} {e e':Env} {w w':World} {p:Nat×Nat} (h:Vg c Z ops e w p) (hb:p.2∈bs) (t:Trans (Z.outs bs).In e.φ w e'.φ w'):Vg c Z ops e' w' p:=by
 obtain ⟨o,ty,I,d,arr,T,h1,h2,h3,h4,h5,h6,h7⟩:=h.row
 have hn: ¬(Z.outs bs).In p.2:=fun hh=>hh.2 hb
 exact ⟨⟨o,ty,I,d,arr,T,h1,h2,h3,h4,h5,by rw [t.heap _ hn (bm h6)];exact h6,h7⟩,fun off=>by rw [t.free _ off hn];exact h.free off,h.b3⟩
theorem Trans.wide {Z Z':Nat→Prop} {φ φ':Ph} {w w':World} (t:Trans Z φ w φ' w') (h: ∀b,Z b→Z' b):Trans Z' φ w φ' w':=
 ⟨t.ph,fun b hb hl=>t.heap b (fun hz=>hb (h b hz)) hl,fun b o hb=>t.free b o (fun hz=>hb (h b hz)),t.size,t.rest⟩
theorem Vi (hG:Good P c) (JQ: ∀(j:Nat) (o:Oper) cs b,ops[j]? =some o→o.op≠ .select cs b) {φ0:Ph} {w0:World} (hN: ∀a' w',Out c Z K r φ0 w0 a' w'→N a' w'):
 ∀(m:Nat) (rest pre:List Nat) (pd:List (Nat×Nat)) (l:List Oper) (listed:Array Bool) (e:Env) (st:St) (a:Act) (w:World),2 *rest.length-pd.length≤m→bN c (Z.outs (pd.map (·.2))) e st a w→tS c ops.toList l st K=some r→Trans Z.In φ0 w0 e.φ w→kR ops.toList rest=some l→
  sS c ops.toList pre rest=true→Sl ops listed (pd.map (·.1)++pre)→(∀i,i<ops.size→i∈pre∨i∈rest)→(∀i∈pre,i<ops.size)→(∀p∈pd,p.1∈rest)→(pd.map (·.1)).Nodup→(pd.map (·.2)).Nodup→(∀p∈pd,Vg c Z ops e w p)→
  pd.length≤rest.length→Ft P c ops N e.φ (rest.length-pd.length) listed (sr ops pd a) w:=by
 intro m
 induction m with
 |zero=>
  intro rest pre pd l listed e st a w hm h hK ht hp hd hL pL Sn CW HE CP Qs hle
  cases rest with
  |cons x rest=>simp only [List.length_cons] at hm hle;omega
  |nil=>
   cases pd with
   |cons p pd=>simp at hle
   |nil=>
    cases hp
    have h':bN c Z e st a w:=h.Bw (fun b hb=>hb.1) (fun b hb=>hb.1) rfl rfl rfl rfl
    refine ⟨?_,hN a w ⟨e,st,h',ht,hK⟩⟩
    cases hr:Region.ready .any ops listed with
    |nil=>rfl
    |cons i is=>
     have hi:i∈Region.ready .any ops listed:=by rw [hr];simp
     obtain ⟨h1,o,ho,_⟩:=mem_ready.1 hi
     have cz:i<ops.size:=(Array.getElem?_eq_some_iff.1 ho).1
     exact absurd (by simpa using (pL i cz).resolve_right (by simp)) ((hL.zr cz).1 h1)
 |succ m ihm=>
  intro rest pre pd l listed e st a w hm h hK ht hp hd hL pL Sn CW HE CP Qs hle
  cases rest with
  |nil=>
   cases pd with
   |cons p pd=>simp at hle
   |nil=>exact ihm [] pre [] l listed e st a w (by simp) h hK ht hp hd hL pL Sn CW HE CP Qs hle
  |cons x rest=>
   simp only [kR] at hp
   cases hox:ops.toList[x]? with
   |none=>simp [hox] at hp
   |some o=>
    cases Ue:kR ops.toList rest with
    |none=>simp [hox,Ue] at hp
    |some l'=>
     simp only [hox,Ue,Option.some.injEq] at hp
     subst hp
     have hx:ops[x]? =some o:=by simpa using hox
     have YM:x<ops.size:=(Array.getElem?_eq_some_iff.1 hx).1
     have hd0:=hd
     simp only [sS,hox] at hd
     simp only [Bool.and_eq_true,Bool.not_eq_true'] at hd
     obtain ⟨⟨⟨⟨d1,d2⟩,d3⟩,d4⟩,d5⟩:=hd
     have Xj:x∉pre:=by rw [←bt,d2];simp
     have afw:x∉rest:=by rw [←bt,d3];simp
     have NE: ∀i,i<ops.size→i∈x::pre∨i∈rest:=by
      intro i hi
      rcases pL i hi with h1|h1
      ·exact .inl (by simp [h1])
      ·rcases List.mem_cons.1 h1 with h1|h1
       ·exact .inl (by simp [h1])
       ·exact .inr h1
     have Xk: ∀i∈x::pre,i<ops.size:=by
      intro i hi
      rcases List.mem_cons.1 hi with rfl|hi
      ·exact YM
      ·exact Sn i hi
     have YN:=hK
     simp only [tS] at hK
     have So: ∀p∈pd,∃q,ops[p.1]? =some q∧Jc q=true:=fun p hp=>by
      obtain ⟨q,_,_,_,_,_,h1,h2,_⟩:=(Qs p hp).row
      exact ⟨q,h1,h2⟩
     unfold M4 at hK
     obtain ⟨bQ,go,h',hK,hw⟩:=JF h hK
     have Xl: ∀cs b,o.op≠ .select cs b:=fun cs b=>JQ x o cs b hx
     by_cases hxp:x∈pd.map (·.1)
     ·
      obtain ⟨⟨x',b⟩,hpx,hxe⟩:=List.mem_map.1 hxp
      have hxe:x'=x:=hxe
      subst hxe
      obtain ⟨o',t,I,d,arr,T,k1,k2,k3,k4,k5,k6,k7⟩:=(Qs _ hpx).row
      rw [hx] at k1;cases k1
      obtain ⟨_,_,_,_,hgn,cI⟩:=xi k2
      have hgo:go=true:=by
       rw [←hw];simp [Region.wanted,hgn]
      subst hgo
      have Jf:(nH o&&!lu c o)=false:=by simp [nH,k3]
      simp only [Jf,cond_false] at d4
      obtain ⟨pl,pr,rfl⟩:=List.append_of_mem hpx
      have hbn:b∉(pl++pr).map (·.2):=by
       have:((pl++(x',b)::pr).map (·.2)).Nodup:=CP
       simp only [List.map_append,List.map_cons,List.nodup_append,List.nodup_cons,List.mem_cons] at this
       simp only [List.map_append,List.mem_append,not_or]
       exact ⟨fun hm=>this.2.2 b hm b (by simp) rfl,this.2.1.1⟩
      have hxn:x'∉(pl++pr).map (·.1):=by
       have:((pl++(x',b)::pr).map (·.1)).Nodup:=HE
       simp only [List.map_append,List.map_cons,List.nodup_append,List.nodup_cons,List.mem_cons] at this
       simp only [List.map_append,List.mem_append,not_or]
       exact ⟨fun hm=>this.2.2 x' hm x' (by simp) rfl,this.2.1.1⟩
      have JT: ∀p∈pl++pr,p∈pl++(x',b)::pr:=fun p hp=>by
       simp only [List.mem_append,List.mem_cons] at hp⊢
       rcases hp with hp|hp
       ·exact .inl hp
       ·exact .inr (.inr hp)
      have pg:bN c (Z.outs ((pl++pr).map (·.2))) e bQ a w:=by
       refine h'.Bw (fun u hu=>⟨hu.1,fun hm=>hu.2 ?_⟩) (fun u hu=>⟨hu.1,fun hm=>hu.2 ?_⟩) rfl rfl rfl rfl<;>
       ·obtain ⟨p,hp,rfl⟩:=List.mem_map.1 hm
        exact List.mem_map.2 ⟨p,JT p hp,rfl⟩
      have Vj:b∈(pl++(x',b)::pr).map (·.2):=by simp
      have ki:pe (Z.outs ((pl++pr).map (·.2))) e w bQ (Vf b) (.box I.zero):=by
       refine ⟨b,by rw [tY (k7 e).vU];rfl,⟨⟨(Qs _ hpx).b3,hbn⟩,⟨_,k6,rfl,k7 e⟩,(Qs _ hpx).free⟩,fun t' fa yx Af=> ?_,fun f o' yv Af=> ?_⟩
       ·have hs:=h'.slot t'
        rw [yx] at hs
        rcases hs.2.b3 with ⟨_,u⟩|u
        ·exact u.2 (by rw [Af];exact Vj)
        ·exact u.2 (by rw [Af];exact Vj)
       ·obtain ⟨I',cells,g1,g2,g3,g4,g5⟩:=(h'.iF f o' yv).row
        rcases (g5 b Af).1 with ⟨_,u⟩|u
        ·exact u.2 Vj
        ·exact u.2 Vj
      simp only [cond_true,ZO,k3,k4] at hK
      obtain ⟨e2,eZ,j1,j2,j3⟩:=dj pg ki hK
      have YO:sr ops (pl++(x',b)::pr) a=sr ops (pl++pr) (a.put o.dst (Vf b)):=by
       have sZ: ∀p∈pl++pr,∀dd,ta ops p.1=some dd→o.dst≠some dd:=by
        intro p hp dd hdd
        obtain ⟨q,hq,B0⟩:=So p (JT p hp)
        have L3:p.1∈rest:=by
         rcases List.mem_cons.1 (CW p (JT p hp)) with he|he
         ·exact absurd (List.mem_map.2 ⟨p,hp,he⟩) hxn
         ·exact he
        have:=List.all_eq_true.1 d4 p.1 L3
        have hq':ops.toList[p.1]? =some q:=by simpa using hq
        simp only [hq',B0,cond_true,Bool.and_eq_true] at this
        exact (Du hq (.inl (xh this.1)) dd hdd).2
       exact JR (by simp [ta,hx]) a pr pl sZ
      rw [YO,←j3]
      have hlen:(x'::rest).length-(pl++(x',b)::pr).length=rest.length-(pl++pr).length:=by simp only [List.length_cons,List.length_append];omega
      rw [hlen]
      refine ihm rest (x'::pre) (pl++pr) l' listed e2 eZ _ w ?_ j1 j2 (by rw [j3];exact ht) Ue d5 ?_ NE Xk ?_ ?_ ?_ ?_ ?_
      ·simp only [List.length_cons,List.length_append] at hm⊢;omega
      ·refine hL.congr (fun i=> ?_)
       simp only [List.map_append,List.map_cons,List.mem_append,List.mem_cons]
       constructor
       ·rintro ((h1|h1|h1)|h1)
        ·exact .inl (.inl h1)
        ·exact .inr (.inl h1)
        ·exact .inl (.inr h1)
        ·exact .inr (.inr h1)
       ·rintro ((h1|h1)|h1|h1)
        ·exact .inl (.inl h1)
        ·exact .inl (.inr (.inr h1))
        ·exact .inl (.inr (.inl h1))
        ·exact .inr h1
      ·intro p hp
       rcases List.mem_cons.1 (CW p (JT p hp)) with he|he
       ·exact absurd (List.mem_map.2 ⟨p,hp,he⟩) hxn
       ·exact he
      ·have:((pl++(x',b)::pr).map (·.1)).Nodup:=HE
       refine List.Nodup.sublist ?_ this
       exact List.Sublist.map _ (List.Sublist.append_left (List.sublist_cons_self _ _) pl)
      ·have:((pl++(x',b)::pr).map (·.2)).Nodup:=CP
       refine List.Nodup.sublist ?_ this
       exact List.Sublist.map _ (List.Sublist.append_left (List.sublist_cons_self _ _) pl)
      ·intro p hp
       obtain ⟨q1,q2,q3⟩:=Qs p (JT p hp)
       exact ⟨q1,fun off=>by rw [j3];exact q2 off,q3⟩
      ·simp only [List.length_cons,List.length_append] at hle⊢;omega
     ·have L3: ∀p∈pd,p.1∈rest:=fun p hp=>by
       rcases List.mem_cons.1 (CW p hp) with he|he
       ·exact absurd (List.mem_map.2 ⟨p,hp,he⟩) hxp
       ·exact he
      have hlr:pd.length≤rest.length:=by
       have h1:(pd.map (·.1)).length≤rest.length:=AA HE (fun i hi=>by obtain ⟨p,hp,rfl⟩:=List.mem_map.1 hi;exact L3 p hp)
       simpa using h1
      have abE:(x::rest).length-pd.length=(rest.length-pd.length)+1:=by simp only [List.length_cons];omega
      rw [abE]
      have Yz:x∉pd.map (·.1)++pre:=by simp only [List.mem_append,not_or];exact ⟨hxp,Xj⟩
      have H2:x∈Region.ready .any ops listed:=by
       refine mem_ready.2 ⟨(hL.zr YM).2 Yz,o,hx,fun ed Ve hb=> ?_⟩
       have:=List.all_eq_true.1 d1 ed (by simpa using Ve)
       simp only [s9,hb,Bool.not_true,Bool.false_or] at this
       have hm:=(bt _ _).1 this
       exact (hL.done (Sn _ hm)).2 (by simp [hm])
      have next: ∀(e':Env) (eZ:St) (a':Act) (w':World),bN c (Z.outs (pd.map (·.2))) e' eZ a' w'→Trans (Z.outs (pd.map (·.2))).In e.φ w e'.φ w'→tS c ops.toList l' eZ K=some r→Ft P c ops N e.φ (rest.length-pd.length) (listed.setIfInBounds x true) (sr ops pd a') w':=by
       intro e' eZ a' w' h1 t1 pf
       refine O7 t1.ph _ _ _ _ ?_
       refine ihm rest (x::pre) pd l' _ e' eZ a' w' ?_ h1 pf (ht.trans (t1.wide fun b hb=>hb.1)) Ue d5 ((hL.set YM).congr fun i=> ?_) NE Xk L3 HE CP (fun p hp=>(Qs p hp).later (List.mem_map.2 ⟨p,hp,rfl⟩) t1) hlr
       ·simp only [List.length_cons] at hm;omega
       ·simp only [List.mem_cons,List.mem_append]
        constructor
        ·rintro (h1|h1|h1)
         ·exact .inr (.inl h1)
         ·exact .inl h1
         ·exact .inr (.inr h1)
        ·rintro (h1|h1|h1)
         ·exact .inr (.inl h1)
         ·exact .inl h1
         ·exact .inr (.inr h1)
      cases Jf:nH o&&!lu c o with
      |true=>
       simp only [Jf,cond_true] at d4
       have sZ: ∀p∈pd,∀dd,ta ops p.1=some dd→dd∉o.looksAt ops∧o.dst≠some dd:=by
        intro p hp
        obtain ⟨q,hq,B0⟩:=So p hp
        exact Du hq (.inr (JS rest [x] d4 p.1 (L3 p hp) q hq B0))
       obtain ⟨hex,YL⟩:=Bx Xl a pd (fun p hp d hd=>(sZ p hp d hd).1)
       obtain ⟨D,D1,D2,D3,D4⟩:=Fu rest [x] d4 (fun y hy cI=>absurd (by simpa using hy) cI)
       have pG: ∀j oj,ops[j]? =some oj→j∉D→j≠x→listed.getD j true=false→o.apart ops oj=true∧(kQ c o=true→still c o=false→ul c o ops j=true):=by
        intro j oj Xh hjD hjx Vc
        have abF:j<ops.size:=(Array.getElem?_eq_some_iff.1 Xh).1
        have hjr:j∈rest:=by
         rcases NE j abF with h1|h1
         ·rcases List.mem_cons.1 h1 with h1|h1
          ·exact absurd h1 hjx
          ·exact absurd (by simp [h1]) ((hL.zr abF).1 Vc)
         ·exact h1
        obtain ⟨p,Ra,Gf,hp3⟩:=D4 j hjr hjD
        rw [Xh] at Ra
        cases Ra
        exact ⟨Gf,fun hl hs=>by simp [ul,Xh,hp3 hl hs]⟩
       have B1: ∀d∈D,listed.getD d false=false:=by
        have afy: ∀p∈pd,p.1∉D:=by
         intro p hp hpD
         obtain ⟨q,hq,B0⟩:=So p hp
         obtain ⟨ed,Ve,hb,_⟩:=D3 p.1 q hpD (fun he=>hxp (List.mem_map.2 ⟨p,hp,he⟩)) hq
         obtain ⟨_,_,_,_,_,cI⟩:=xi B0
         rw [cI ed Ve] at hb;cases hb
        intro d hd
        have hdn:d∉pd.map (·.1)++pre:=by
         simp only [List.mem_append,not_or]
         constructor
         ·intro hm
          obtain ⟨p,hp,rfl⟩:=List.mem_map.1 hm
          exact afy p hp hd
         ·rcases D2 d hd with h1|h1
          ·have h1:d=x:=by simpa using h1
           rw [h1];exact Xj
          ·exact fun hp=>wb rest (x::pre) d5 d h1 (by simp [hp])
        by_cases Ny:d<ops.size
        ·cases hg:listed.getD d false with
         |false=>rfl
         |true=>exact absurd ((hL.done Ny).1 hg) hdn
        ·have hl: ¬d<listed.size:=by rw [hL.size];exact Ny
         simp [hl]
       cases go with
       |true=>
        simp only [cond_true] at hK
        obtain ⟨v,hv,e2,eZ,k1,k2,k3⟩:=(LP (Q:=pO N) hG h' hK).ae9 (by simp only [Bool.and_eq_true] at Jf;exact Jf.1) (by simp only [Bool.and_eq_true,Bool.not_eq_true'] at Jf;exact Jf.2)
        refine Dt D3 hx JQ (rest.length-pd.length) listed _ w pG B1 H2 (.inl ⟨by rw [YL];exact hw,fun w' hg=>by rw [hex];exact hv w' hg⟩) h.nx ?_
        rw [zt a o.dst v pd (fun p hp d hd=>(sZ p hp d hd).2)]
        exact next e2 eZ _ w k1 k2 k3
       |false=>
        simp only [cond_false] at hK
        obtain ⟨e2,eZ,k1,k2,k3⟩:=dj (v:=undef) (s:= .skip) h' ⟨rfl,trivial⟩ hK
        refine Dt D3 hx JQ (rest.length-pd.length) listed _ w pG B1 H2 (.inr ⟨by rw [YL];exact hw,rfl⟩) h.nx ?_
        rw [zt a o.dst undef pd (fun p hp d hd=>(sZ p hp d hd).2)]
        exact next e2 eZ _ w k1 (by rw [k3];exact .refl _ _ _) k2
      |false=>
       simp only [Jf,cond_false] at d4
       have sZ: ∀p∈pd,∀dd,ta ops p.1=some dd→dd∉o.looksAt ops∧o.dst≠some dd:=by
        intro p hp
        obtain ⟨q,hq,B0⟩:=So p hp
        have:=List.all_eq_true.1 d4 p.1 (L3 p hp)
        have hq':ops.toList[p.1]? =some q:=by simpa using hq
        simp only [hq',B0,cond_true,Bool.and_eq_true] at this
        exact Du hq (.inl (xh this.1))
       refine ⟨fun YH=>(by rw [YH] at H2;cases H2),fun i hi=> ?_⟩
       obtain ⟨afz,oi,Vk,YP⟩:=mem_ready.1 hi
       have YQ:i<ops.size:=(Array.getElem?_eq_some_iff.1 Vk).1
       have s4:=(hL.zr YQ).1 afz
       simp only [List.mem_append,not_or] at s4
       by_cases L2:i=x
       ·subst L2
        rw [hx] at Vk;cases Vk
        have pg:wpOp P ops (pO N) i (fun a' w'=>(∀oi,ul c oi ops i=true→eF c oi w w')∧ ∃e2 eZ,bN c (Z.outs (pd.map (·.2))) e2 eZ a' w'∧Trans (Z.outs (pd.map (·.2))).In e.φ w e2.φ w'∧tS c ops.toList l' eZ K=some r) a w:=by
         unfold wpOp
         simp only [hx]
         rw [hw]
         cases go with
         |true=>
          simp only [cond_true] at hK
          simp only [if_true]
          left
          have hd:=LP (Q:=pO N) hG h' hK
          cases Z9:QP c o with
          |true=>
           simp only [QP,Bool.or_eq_true] at Z9
           refine Oper.wp_mono ?_ (hd.afa Z9)
           rintro a' w' ⟨hg,e2,eZ,k1,k2,k3⟩
           exact ⟨fun _ _=>hg.for,e2,eZ,k1,k2,k3⟩
          |false=>
           by_cases T9: ∃oi,xU oi o=true
           ·obtain ⟨oi0,T9⟩:=T9
            refine Oper.wp_mono ?_ (aa8 (Q:=pO N) hG h' hK T9)
            rintro a' w' ⟨hg,e2,eZ,k1,k2,k3⟩
            refine ⟨fun oi hh=> ?_,e2,eZ,k1,k2,k3⟩
            have Vk:xU oi o=true:=by simpa [ul,hx,Z9] using hh
            exact L0 T9 Vk hg
           ·refine Oper.wp_mono ?_ hd.wp
            rintro a' w' ⟨e2,eZ,k1,k2,k3⟩
            exact ⟨fun oi hh=>absurd ⟨oi,by simpa [ul,hx,Z9] using hh⟩ T9,e2,eZ,k1,k2,k3⟩
         |false=>
          simp only [cond_false] at hK
          simp only [Bool.false_eq_true,if_false]
          obtain ⟨e2,eZ,k1,k2,k3⟩:=dj (v:=undef) (s:= .skip) h' ⟨rfl,trivial⟩ hK
          exact ⟨fun _ _=>(dc.refl w).for,e2,eZ,k1,by rw [k3];exact .refl _ _ _,k2⟩
        refine wpOp_mono ?_ (ND hx Xl pg pd sZ)
        rintro a' w' ⟨a2,rfl,hg,e2,eZ,k1,k2,k3⟩
        exact ⟨⟨hg,fun b o v hv=>k1.nx b o v (k2.ph b o v hv)⟩,next e2 eZ a2 w' k1 k2 k3⟩
       ·have hir:i∈rest:=by
         rcases NE i YQ with h1|h1
         ·rcases List.mem_cons.1 h1 with h1|h1
          ·exact absurd h1 L2
          ·exact absurd h1 s4.2
         ·exact h1
        have L4:=List.all_eq_true.1 d4 i hir
        have afB:ops.toList[i]? =some oi:=by simpa using Vk
        simp only [afB] at L4
        cases B0:Jc oi with
        |false=>
         exfalso
         simp only [B0,cond_false] at L4
         unfold yt at L4
         obtain ⟨ed,Ve,hb⟩:=List.any_eq_true.1 L4
         simp only [Bool.and_eq_true,s9,Bool.or_eq_true,Bool.not_eq_true'] at hb
         obtain ⟨vY,uX⟩:=hb
         have Sp:=YP ed (by simpa using Ve) vY
         have Cs:ed.on∉pd.map (·.1)++pre:=by
          rcases uX with uX|⟨uX,hb3⟩
          ·rw [Nat.eq_of_beq_eq_true uX];exact Yz
          ·simp only [List.mem_append,not_or]
           refine ⟨fun hm=> ?_,fun hp=>wb rest (x::pre) d5 _ ((bt _ _).1 uX) (by simp [hp])⟩
           obtain ⟨p,hp,he⟩:=List.mem_map.1 hm
           obtain ⟨q,hq,hqa⟩:=So p hp
           have hq':ops.toList[ed.on]? =some q:=by rw [←he];simpa using hq
           simp [aap,hq',hqa] at hb3
         by_cases si:ed.on<ops.size
         ·exact Cs ((hL.done si).1 Sp)
         ·have:listed.getD ed.on false=false:=by
           have hl: ¬ed.on<listed.size:=by rw [hL.size];exact si
           simp [hl]
          rw [this] at Sp;cases Sp
        |true=>
         obtain ⟨t,d,q1,q2,q3,q4⟩:=xi B0
         have hI: ∃I,c.tv t=some I:=by
          simp only [B0,cond_true,Bool.and_eq_true,aao,q1] at L4
          cases htv:c.tv t with
          |none=>rw [htv] at L4;exact absurd L4.2 (by simp)
          |some I=>exact ⟨I,rfl⟩
         obtain ⟨I,hI⟩:=hI
         obtain ⟨inf,z,hz1,Q2,hz3⟩:=yF hI hG.ti
         have hg:dc w (w.alloc (.cells z.cells t)):= .alloc w _ _
         unfold wpOp
         simp only [Vk]
         have YL:Region.wanted oi (yielded ops (sr ops pd a).tmps)=true:=by simp [Region.wanted,q3]
         simp only [YL,if_true]
         left
         have bJ:(execOp (sr ops pd a).eval oi).run P w= .ok (.value (Vf w.heap.size)) (w.alloc (.cells z.cells t)):=by
          simp [execOp,q1,Instr.alloc,zeroValue,typeInfo,hz1,Q2,newVar,newRow,newObj,Sem.run,Vf]
         unfold Oper.wp
         rw [bJ]
         simp only [Oper.upon]
         refine ⟨⟨fun _ _=>hg.for,(h.grow hg).nx⟩,?_⟩
         have qk:w.heap.size<(w.alloc (.cells z.cells t)).heap.size:=by simp
         have afC: ∀p∈pd,p.2<w.heap.size:=fun p hp=>by
          obtain ⟨_,_,_,_,_,_,_,_,_,_,_,k6,_⟩:=(Qs p hp).row
          exact bm k6
         have YO:(sr ops pd a).put oi.dst (Vf w.heap.size)=sr ops ((i,w.heap.size)::pd) a:=by simp [sr,ta,Vk]
         rw [YO]
         have cz:pd.length<rest.length:=by
          have h1:(i::pd.map (·.1)).length≤rest.length:=by
           refine AA (List.nodup_cons.2 ⟨s4.1,HE⟩) ?_
           intro j hj
           rcases List.mem_cons.1 hj with rfl|hj
           ·exact hir
           ·obtain ⟨p,hp,rfl⟩:=List.mem_map.1 hj;exact L3 p hp
          simp only [List.length_cons,List.length_map] at h1;omega
         have xZ:rest.length-pd.length=(x::rest).length-((i,w.heap.size)::pd).length:=by simp only [List.length_cons];omega
         rw [xZ]
         refine ihm (x::rest) pre ((i,w.heap.size)::pd) (o::l') _ e st a _ ?_ (h.narrow hg qk) ?_ (ht.trans (hg.trans (fun b hb=>(h.b3 b hb).1) _)) ?_ hd0 ?_ pL Sn ?_ ?_ ?_ ?_ ?_
         ·simp only [List.length_cons] at hm⊢;omega
         ·exact YN
         ·simp [kR,hox,Ue]
         ·refine (hL.set YQ).congr (fun j=> ?_)
          simp
         ·intro p hp
          rcases List.mem_cons.1 hp with rfl|hp
          ·exact List.mem_cons_of_mem _ hir
          ·exact CW p hp
         ·exact List.nodup_cons.2 ⟨s4.1,HE⟩
         ·refine List.nodup_cons.2 ⟨fun hm=> ?_,CP⟩
          obtain ⟨p,hp,he⟩:=List.mem_map.1 hm
          have:=afC p hp
          have he:p.2=w.heap.size:=he
          omega
         ·intro p hp
          rcases List.mem_cons.1 hp with rfl|hp
          ·refine ⟨⟨oi,t,I,d,z.cells,t,Vk,B0,q1,hI,q2,jW w _,hz3⟩,fun off=> ?_,(h.b3 _ (Nat.le_refl _)).1⟩
           cases hp:e.φ w.heap.size off with
           |none=>rfl
           |some v=>
            have:=World.block_lt_of_cell? w _ (h.nx _ _ _ hp)
            simp at this
          ·obtain ⟨⟨o1,t1,I1,d1,afD,T1,k1,k2,k3,k4,k5,k6,k7⟩,q5,q6⟩:=Qs p hp
           exact ⟨⟨o1,t1,I1,d1,afD,T1,k1,k2,k3,k4,k5,by rw [hg.Ae _ (bm k6)];exact k6,k7⟩,q5,q6⟩
         ·simp only [List.length_cons];omega
theorem Dv (hG:Good P c) {ops:Array Oper} {l:List Oper} {ord:List Nat} (hd:qg c ops ord=true) (hp:kR ops.toList ord=some l) {Z:bC} {e:Env} {st:St} {a:Act} {w:World} {R:Type} {K:St→Option R} {r:R} (h:bN c Z e st a w) (hK:tS c ops.toList l st K=some r):
 wpAny P .any ops (pO fun a' w'=>Out c Z K r e.φ w a' w') ops.size (Array.replicate ops.size false) a {w with drawn:=w.drawn+1}:=by
 simp only [qg,Bool.and_eq_true] at hd
 obtain ⟨⟨⟨UT,hl0⟩,pL⟩,hd⟩:=hd
 have JQ: ∀(j:Nat) (o:Oper) cs b,ops[j]? =some o→o.op≠ .select cs b:=by
  intro j o cs b ho he
  have:=List.all_eq_true.1 UT o (List.mem_of_getElem? (by simpa using ho:ops.toList[j]? =some o))
  simp [he] at this
 have Xm:dc w {w with drawn:=w.drawn+1}:=⟨Nat.le_refl _,fun _ _=>rfl,rfl,rfl,rfl,fun _=>rfl⟩
 ·refine Sh (c:=c) (φ:=e.φ) _ _ _ _ ?_
  have hlen:ord.length=ops.size:=by have:=Nat.eq_of_beq_eq_true hl0;simpa using this
  rw [←hlen]
  have h0:bN c (Z.outs []) e st a {w with drawn:=w.drawn+1}:=(h.grow Xm).Bw (fun b hb=>⟨hb,by simp⟩) (fun b hb=>⟨hb,by simp⟩) rfl rfl rfl rfl
  refine Vi hG JQ (fun a' w' h=>h) (2 *ord.length) ord [] [] l _ e st a _ (by simp) h0 hK (Xm.trans h.b3 e.φ) hp hd ⟨by simp [hlen],fun i hi=> ?_⟩ (fun i hi=> .inr ((bt _ _).1 (List.all_eq_true.1 pL i (by simpa using hi)))) (by simp) (by simp) (by simp) (by simp) (by simp) (by simp)
  simp [hlen,hi]
end
end Dn
/-
  What is asked of slices.DeleteFunc, and of the function that it is handed. Conditions: none.
-/
set_option linter.unusedSimpArgs false
set_option linter.unusedVariables false
namespace Dn
open Go
theorem Bz {S:Type} {step:S→MV→Option (Bool×S)}: ∀{xs zs:List MV} {s:S},lF step s (xs++zs)=(match lF step s xs with|some (ys,s1)=>(match lF step s1 zs with|some (us,s2)=>some (ys++us,s2)|none=>none)|none=>none):=by
 intro xs
 induction xs with
 |nil=>intro zs s;simp only [List.nil_append,lF];cases lF step s zs<;>rfl
 |cons x xs ih=>
  intro zs s
  simp only [List.cons_append,lF]
  cases step s x with
  |none=>rfl
  |some p=>
   obtain ⟨b,s1⟩:=p
   simp only [ih]
   cases lF step s1 xs with
   |none=>rfl
   |some q=>
    obtain ⟨ys,s2⟩:=q
    dsimp only
    cases lF step s2 zs with
    |none=>rfl
    |some q2=>cases b<;>rfl
theorem NF {S:Type} {step:S→MV→Option (Bool×S)} {xs:List MV} {s s':S} {ys:List MV} (h:lF step s xs=some (ys,s')) {k:Nat} (hk:k<xs.length):
 ∃yk sk b Vl,lF step s (xs.take k)=some (yk,sk)∧step sk xs[k]=some (b,Vl)∧lF step s (xs.take (k+1))=some (bif b then yk else yk++[xs[k]],Vl):=by
 have e:xs=xs.take k++xs[k]::xs.drop (k+1):=by simp
 rw [e,Bz] at h
 cases h1:lF step s (xs.take k) with
 |none=>simp [h1] at h
 |some p=>
  obtain ⟨yk,sk⟩:=p
  simp only [h1,lF] at h
  cases h2:step sk xs[k] with
  |none=>simp [h2] at h
  |some q=>
   obtain ⟨b,Vl⟩:=q
   refine ⟨yk,sk,b,Vl,rfl,h2,?_⟩
   have e2:xs.take (k+1)=xs.take k++[xs[k]]:=by rw [List.take_add_one,List.getElem?_eq_getElem hk];rfl
   rw [e2,Bz,h1]
   simp only [lF,h2]
   cases b<;>simp
theorem Sq {S:Type} {step:S→MV→Option (Bool×S)}: ∀{xs:List MV} {s s':S} {ys:List MV},lF step s xs=some (ys,s')→ys.length≤xs.length:=by
 intro xs
 induction xs with
 |nil=>intro s s' ys h;simp [lF] at h;simp [h.1]
 |cons x xs ih=>
  intro s s' ys h
  simp only [lF] at h
  cases h1:step s x with
  |none=>simp [h1] at h
  |some p=>
   obtain ⟨b,s1⟩:=p
   simp only [h1] at h
   cases h2:lF step s1 xs with
   |none=>simp [h2] at h
   |some q=>
    obtain ⟨zs,s2⟩:=q
    simp only [h2,Option.some.injEq,Prod.mk.injEq] at h
    have:=ih h2
    rw [←h.1]
    cases b<;>simp<;>omega
structure um (P:Program) (c:Ctx) (g:Nat) (lb:Array Value) {S:Type} (Inv:S→(Nat→Prop)→Ph→World→Prop) (step:S→MV→Option (Bool×S)):Prop where
 call: ∀{s Z φ W v x b s'},Inv s Z φ W→(∀b,W.heap.size≤b→Z b)→yC φ W→eN c.key φ v x→step s x=some (b,s')→
  fe P g (#[v]++lb) W fun r W'=>r= .bool b∧ ∃φ',Trans Z φ W φ' W'∧yC φ' W'∧Inv s' Z φ' W'
 frame: ∀{s Z φ W W'},Inv s Z φ W→W.heap.size≤W'.heap.size→(∀b,Z b→b<W.heap.size→W'.heap[b]? =W.heap[b]?)→Inv s (fun b=>Z b∧b<W.heap.size) φ W'
 mono: ∀{s Z Z' φ W},Inv s Z φ W→(∀b,Z b→Z' b)→Inv s Z' φ W
structure xC (c:Ctx) (ob:Option Nat) {S:Type} (Inv:S→(Nat→Prop)→Ph→World→Prop) (Z0:Nat→Prop) (φ0:Ph) (w0:World) (s:S) (Z:Nat→Prop) (φ:Ph) (W:World):Prop where
 inv:Inv s Z φ W
 new: ∀b,W.heap.size≤b→Z b
 sub: ∀b,Z b→Z0 b∨w0.heap.size≤b
 nx:yC φ W
 tr:Trans (fun b=>(Z0 b∨w0.heap.size≤b)∨ob=some b) φ0 w0 φ W
 free: ∀b off,ob=some b→φ b off=none
structure H3 (P:Program) (c:Ctx) (h el:Nat):Prop where
 run: ∀{S:Type} {Inv:S→(Nat→Prop)→Ph→World→Prop} {step:S→MV→Option (Bool×S)} {g:Nat} {lb:Array Value},um P c g lb Inv step→
  ∀{v0:Value} {xs ys:List MV} {w:World} {Z0:Nat→Prop} {φ0:Ph} {s0 s':S},(∀x∈xs,∃ms,x= .agg ms)→cQ c (bC.plain fun b=>v0.ownBlock=some b) (nO c.key φ0) w v0 ⟨el,false,xs⟩→(∀b,v0.ownBlock=some b→ ¬Z0 b)→
  Inv s0 Z0 φ0 w→(∀b,w.heap.size≤b→Z0 b)→yC φ0 w→lF step s0 xs=some (ys,s')→
  fe P h #[v0,.func (.func g) #[] lb] w fun v W=> ∃Z φ,xC c v0.ownBlock Inv Z0 φ0 w s' Z φ W∧cQ c (bC.plain fun b=>v0.ownBlock=some b) (nO c.key φ) W v ⟨el,false,ys⟩∧ ∀b,v.ownBlock=some b→v0.ownBlock=some b
def uo (P:Program) (c:Ctx):Prop:= ∀h,c.Hq h=true→H3 P c h (c.ra (c.key h))
end Dn
/-
  Regions with a call of slices.DeleteFunc. Conditions: none.
-/
set_option linter.unusedSimpArgs false
set_option linter.unusedVariables false
namespace Dn
open Go
section
variable {P:Program} {c:Ctx} {Z:bC} {Z':Nat→Prop} {e e':Env} {st bQ:St} {a:Act} {w w':World} {R:Type} {K:St→Option R} {r:R} {Q:Exit→Act→World→Prop} {o:Oper} {root:Nat} {cs:List aD} {ks:List LK} {ls outs:List MV} {ps:List (Nat×Nat)} {φ':Ph}
theorem O9 (h:bN c Z e st a w) (hf:aj st.fr root= .box cs) (hm:et cs=false) (hr:br st.b4 root=false) (ht:TC st [] ks cs ls ps) (hZ: ∀b,Z' b↔w.heap.size≤b∨gone e root ps b) {X:Nat→Prop} (hXb: ∀t fa,aj st.fr t= .box fa→ ¬X (e.B t)) (hXf: ∀f o b,aG st.aO f=some o→(e.E f).ownBlock=some b→ ¬X b) (uh:Trans (fun b=>Z' b∨X b) e.φ w φ' w') (hi:yC φ' w')
 (hc:mV c Z' φ' w' (e.B root) ks outs) (hK:F6 st root ks ps outs K=some r): ∃e' bQ,bN c Z e' bQ a w'∧e'.φ=φ'∧(∀b,X b→ ¬Z' b→(∀t fa,aj bQ.fr t= .box fa→e'.B t≠b)∧ ∀f o,aG bQ.aO f=some o→(e'.E f).ownBlock≠some b)∧K bQ=some r:=by
 unfold F6 at hK
 obtain ⟨tL,rest,wX,g1,hK⟩:=jd hK
 cases rest with
 |cons=>simp [gN] at hK
 |nil=>
 simp only [gN,JA] at hK
 cases ll:F5 (bc ks) (jE (dJ ps) st.aO)||meets (bc ks) st.b5 with
 |true=>simp [ll] at hK
 |false=>
 simp only [ll,cond_false,Nq,kT,tU] at hK
 obtain ⟨LN,Db⟩:=Bool.or_eq_false_iff.1 ll
 have LN:=C8 LN
 have Db:=C9 Db
 obtain ⟨qm,m3,E,arr,T,v7,cF,hzb,pG,pF,fB,ea⟩:=hc
 have iH:qm=tL∧m3=wX.aO:=by
  unfold Ng at v7
  rw [g1] at v7
  simp only [gN,Option.some.injEq,Prod.mk.injEq] at v7
  exact ⟨v7.1.symm,v7.2.symm⟩
 obtain ⟨rfl,rfl⟩:=iH
 have dg:=vZ g1
 have eQ: ∀f o,aG wX.aO f=some o→f∈bc ks:=fun f o ho=>(zm g1 f o ho).resolve_left (by simp [aG])
 have hs:=h.slot root
 rw [hf] at hs
 have s4: ∀b,Z' b→Z.In b:=by
  intro b hb
  rcases (hZ b).1 hb with hb|hb
  ·exact h.b3 b hb
  ·exact zn h hf hr ht b hb
 have JD: ∀t fa,aj st.fr t= .box fa→t≠root→ ¬Z' (e.B t):=by
  intro t fa RJ cI hz
  rcases (hZ _).1 hz with hz|hz|⟨x,g,hp,hz⟩
  ·have:=uf h RJ;omega
  ·exact h.bb t root fa cs RJ hf cI hz
  ·obtain ⟨o,ho,_⟩:=ht.aO x g hp
   exact h.bf t fa g o RJ ho hz
 have hold: ∀f o,aG (jE (dJ ps) st.aO) f=some o→aG st.aO f=some o∧f∉dJ ps:=by
  intro f o ho
  rw [C4] at ho
  cases hn:br (dJ ps) f with
  |true=>simp [hn] at ho
  |false=>
   simp only [hn,Bool.false_eq_true,if_false] at ho
   exact ⟨ho,fun hm=>by rw [(bt _ _).2 hm] at hn;cases hn⟩
 have Bp: ∀f o b,aG (jE (dJ ps) st.aO) f=some o→(e.E f).ownBlock=some b→ ¬Z' b:=by
  intro f o b ho hb hz
  obtain ⟨yv,X3⟩:=hold f o ho
  rcases (hZ _).1 hz with hz|hz|⟨x,g,hp,hz⟩
  ·have:=ug h yv hb;omega
  ·exact h.bf root cs f o hf yv (by rw [hb,hz])
  ·obtain ⟨o2,cf,_⟩:=ht.aO x g hp
   have:=h.ff f g o o2 b yv cf hb hz
   subst this
   exact X3 (Bn.2 ⟨x,hp⟩)
 have YR: ∀t fa,aj st.fr t= .box fa→t≠root→ ¬(Z' (e.B t)∨X (e.B t)):=fun t fa h1 h2 h3=>h3.elim (JD t fa h1 h2) (hXb t fa h1)
 have Sr: ∀f o b,aG (jE (dJ ps) st.aO) f=some o→(e.E f).ownBlock=some b→ ¬(Z' b∨X b):=fun f o b h1 h2 h3=>h3.elim (Bp f o b h1 h2) (hXf f o b (hold f o h1).1 h2)
 let E2:Nat→Value:=fun f=>if br (bc ks) f=true then E f else e.E f
 have vI: ∀f,f∈bc ks→E2 f=E f:=fun f hf=>by show (if _ then _ else _)=_;rw [if_pos ((bt _ _).2 hf)]
 have IX: ∀f,f∉bc ks→E2 f=e.E f:=fun f hf=>by show (if _ then _ else _)=_;rw [if_neg (fun hq=>hf ((bt _ _).1 hq))]
 have nz: ∀f o,aG (wX.aO++jE (dJ ps) st.aO) f=some o→(f∈bc ks∧aG wX.aO f=some o)∨(f∉bc ks∧aG (jE (dJ ps) st.aO) f=some o):=by
  intro f o ho
  rw [Gv] at ho
  cases hq:aG wX.aO f with
  |some o2=>simp only [hq,Option.some.injEq] at ho;exact .inl ⟨eQ f o2 hq,by rw [ho]⟩
  |none=>
   simp only [hq] at ho
   refine .inr ⟨fun hm=> ?_,ho⟩
   rw [LN f hm] at ho;cases ho
 let e2:Env:=⟨e.key,φ',E2,e.B,wX.aO++jE (dJ ps) st.aO⟩
 have si:jX (fun g=>True∧g∉bc ks) (fun _=>True) e e2:=by
  refine ⟨rfl,uh.ph,fun _ _=>rfl,fun f o' yv hS=> ?_⟩
  rcases nz f o' yv with ⟨h1,_⟩|⟨h1,h2⟩
  ·exact absurd h1 hS.2
  ·exact ⟨o',by rw [h.m];exact (hold f o' h2).1,IX f h1,rfl⟩
 have RL:ar e2 arr.toList qm:=by
  have Yo:jX (fun f=>f∈bc ks) (fun _=>True) ⟨c.key,φ',E,fun _=>e.B root,wX.aO⟩ ⟨c.key,φ',E2,fun _=>e.B root,wX.aO++jE (dJ ps) st.aO⟩:=by
   refine ⟨rfl,.refl _,fun _ _=>rfl,fun f o' yv hS=> ?_⟩
   rcases nz f o' yv with ⟨h1,h2⟩|⟨h1,_⟩
   ·exact ⟨o',h2,vI f h1,rfl⟩
   ·exact absurd hS h1
  have h1:=pF.on Yo dg
  have Yp:jX (fun _=>True) (fun _=>False) ⟨c.key,φ',E2,fun _=>e.B root,wX.aO++jE (dJ ps) st.aO⟩ e2:=⟨h.key,.refl _,fun _ h=>h.elim,fun f o ho _=>⟨o,ho,rfl,rfl⟩⟩
  exact h1.on Yp (fun _ _ _ _=>trivial)
 have hm3:et qm=false:=RL.vU
 have ON: ∀t,aj (bV (lH (bc ks) st.fr) root (.box qm)) t=if t=root then .box qm else zl (bc ks) (aj st.fr t):=fun t=>by rw [bD,C5]
 have sm: ∀t ds,aj (bV (lH (bc ks) st.fr) root (.box qm)) t= .box ds→ ∃ds0,aj st.fr t= .box ds0:=by
  intro t ds hb
  rw [ON] at hb
  by_cases uh:t=root
  ·exact ⟨cs,by rw [uh];exact hf⟩
  ·rw [if_neg uh] at hb
   obtain ⟨d0,h1,_⟩:=rI _ hb
   exact ⟨d0,h1⟩
 refine ⟨e2,⟨st.b4,st.b5,bV (lH (bc ks) st.fr) root (.box qm),wX.aO++jE (dJ ps) st.aO⟩,⟨h.defers,h.size,rfl,h.key,?_,?_,?_,?_,?_,?_,?_,hi,fun b hb=>h.b3 b (Nat.le_trans uh.size hb)⟩,rfl,fun b hb Uf=>⟨fun t ds RJ he=> ?_,fun f o ho he=> ?_⟩,hK⟩
 rotate_left 7
 ·obtain ⟨d0,k1⟩:=sm t ds RJ
  exact hXb t d0 k1 (by have he:e.B t=b:=he;rw [he];exact hb)
 ·have he:(E2 f).ownBlock=some b:=he
  rcases nz f o ho with ⟨k1,k2⟩|⟨k1,k2⟩
  ·rw [vI f k1] at he
   obtain ⟨I,cells,_,_,_,_,q5⟩:=(fB f o k2).1.row
   exact Uf (q5 _ he).1
  ·rw [IX f k1] at he
   exact hXf f o b (hold f o k2).1 he hb
 ·show (aL (bV (lH (bc ks) st.fr) root (.box qm))).Nodup
  refine dB ?_
  rw [C6];exact h.nodup
 ·intro t
  show bL Z e2 w' t _ (aj (bV (lH (bc ks) st.fr) root (.box qm)) t)
  rw [ON]
  by_cases qn:t=root
  ·subst qn
   rw [if_pos rfl]
   exact ⟨hs.1.kj (by rw [tX hm,tX hm3]),hs.2.b3,⟨_,cF,rfl,RL⟩,pG⟩
  ·rw [if_neg qn]
   have dM:=h.slot t
   have Ut:=YR t
   generalize aj st.fr t=s at dM Ut
   by_cases Aq: ∃ds,s= .box ds
   ·obtain ⟨ds,rfl⟩:=Aq
    rw [JB]
    have hz:=Ut ds rfl qn
    obtain ⟨o2,h1,h2⟩:=dM.2.obj
    refine ⟨dM.1.kj (Gu _ _),dM.2.b3,⟨o2,by show w'.heap[e.B t]? =_;rw [uh.heap _ hz (bm h1)];exact h1,?_⟩,fun off=>by show φ' (e.B t) off=none;rw [uh.free _ off hz];exact dM.2.free off⟩
    exact (JC h2).on si (Ns _ (fun l _ f _=>trivial))
   ·have Yq:ab e (a.tmps.getD t undef) s:=by cases s<;>simp only [bL] at dM<;>first|exact dM|exact absurd ⟨_,rfl⟩ Aq
    have h2:=(Yq.W7 (bc ks)).on si (Nr _ (dk s))
    have RM: ∀ds,zl (bc ks) s≠ .box ds:=fun ds hq=>by
     obtain ⟨d0,h1,_⟩:=rI _ hq
     exact Aq ⟨d0,h1⟩
    generalize zl (bc ks) s=s2 at h2 RM
    cases s2<;>first|exact h2|exact absurd rfl (RM _)
 ·intro t
  show b6 (bV (lH (bc ks) st.fr) root (.box qm)) (aj (bV (lH (bc ks) st.fr) root (.box qm)) t)
  have Rq: ∀q,cu (aj st.fr q)=true→cu (aj (bV (lH (bc ks) st.fr) root (.box qm)) q)=true:=by
   intro q hq
   rw [ON]
   by_cases WZ:q=root
   ·rw [if_pos WZ];rfl
   ·rw [if_neg WZ];exact Da _ hq
  rw [ON]
  by_cases qn:t=root
  ·rw [if_pos qn];trivial
  ·rw [if_neg qn]
   refine Bo _ ?_
   have n4:=h.root t
   generalize aj st.fr t=s at n4
   cases s with
   |ptr q o=>exact Rq q n4
   |hp q o i=>exact Rq q n4
   |vK q=>exact Rq q n4
   |_=>trivial
 ·intro f o ho
  rcases nz f o ho with ⟨h1,h2⟩|⟨h1,h2⟩
  ·have hfm:=(fB f o h2).1
   have yz:f∉Z.b5:=by rw [←h.defers.2.2.1];exact Db f h1
   refine cQ.to ?_ yz
   obtain ⟨I,cells,q1,q2,q3,q4,q5⟩:=hfm.row
   refine ⟨I,cells,q1,q2,?_,?_,fun b hb=> ?_⟩
   ·show w'.ownsRow 0 o.ty I.size (E2 f) o.xs.length cells
    rw [vI f h1];exact q3
   ·show aW e.key φ' I.size cells o.xs
    rw [h.key];exact q4
   ·have hb:(E2 f).ownBlock=some b:=hb
    rw [vI f h1] at hb
    exact ⟨s4 b (q5 b hb).1,(q5 b hb).2.1,fun hc=>hc.elim⟩
  ·obtain ⟨yv,X3⟩:=hold f o h2
   obtain ⟨I,cells,q1,q2,q3,q4,q5⟩:=(h.iF f o yv).row
   refine ⟨I,cells,q1,q2,?_,q4.mono uh.ph,?_⟩
   ·show w'.ownsRow 0 o.ty I.size (E2 f) o.xs.length cells
    rw [IX f h1]
    refine ⟨q3.1,?_⟩
    rcases q3.2 with h6|⟨g,cap,cW,k1,k2,k3,k4⟩
    ·exact .inl h6
    ·refine .inr ⟨g,cap,cW,k1,k2,?_,k4⟩
     rw [uh.heap g (Sr f o g h2 (by rw [k1];rfl)) (bm k3)];exact k3
   ·intro a7 hb
    have hb:(E2 f).ownBlock=some a7:=hb
    rw [IX f h1] at hb
    refine ⟨(q5 a7 hb).1,fun off u hu=>(q5 a7 hb).2.1 off u ?_,fun k1 k2 j hj=>uh.ph.wY ((q5 a7 hb).2.2 k1 k2 j hj) hj⟩
    have hu:φ' a7 off=some u:=hu
    rw [uh.free _ off (Sr f o a7 h2 hb)] at hu;exact hu
 ·intro t t' c1 c2 h1 h2 cI
  obtain ⟨d1,k1⟩:=sm t c1 h1
  obtain ⟨d2,k2⟩:=sm t' c2 h2
  exact h.bb t t' d1 d2 k1 k2 cI
 ·intro t c1 f o h1 h2
  show (E2 f).ownBlock≠some (e.B t)
  rcases nz f o h2 with ⟨k1,k2⟩|⟨k1,k2⟩
  ·rw [vI f k1]
   by_cases qn:t=root
   ·rw [qn];exact (fB f o k2).2
   ·obtain ⟨d1,k3⟩:=sm t c1 h1
    intro hq
    obtain ⟨I,cells,_,_,_,_,q5⟩:=(fB f o k2).1.row
    exact JD t d1 k3 qn (q5 _ hq).1
  ·rw [IX f k1]
   obtain ⟨d1,k3⟩:=sm t c1 h1
   exact h.bf t d1 f o k3 (hold f o k2).1
 ·intro f f' o o' k h1 h2 h3 h4
  have h3:(E2 f).ownBlock=some k:=h3
  have h4:(E2 f').ownBlock=some k:=h4
  rcases nz f o h1 with ⟨k1,k2⟩|⟨k1,k2⟩<;>rcases nz f' o' h2 with ⟨k3,k4⟩|⟨k3,k4⟩
  ·rw [vI f k1] at h3
   rw [vI f' k3] at h4
   exact ea f f' o o' k k2 k4 h3 h4
  ·rw [vI f k1] at h3
   rw [IX f' k3] at h4
   obtain ⟨I,cells,_,_,_,_,q5⟩:=(fB f o k2).1.row
   exact absurd (q5 _ h3).1 (Bp f' o' k k4 h4)
  ·rw [IX f k1] at h3
   rw [vI f' k3] at h4
   obtain ⟨I,cells,_,_,_,_,q5⟩:=(fB f' o' k4).1.row
   exact absurd (q5 _ h4).1 (Bp f o k k2 h3)
  ·rw [IX f k1] at h3
   rw [IX f' k3] at h4
   exact h.ff f f' o o' k (hold f o k2).1 (hold f' o' k4).1 h3 h4
end
end Dn
/-
  A call of slices.DeleteFunc. Conditions: none.
-/
set_option linter.unusedSimpArgs false
set_option linter.unusedVariables false
namespace Dn
open Go
section
variable {P:Program} {c:Ctx} {Z:bC} {e e':Env} {st bQ:St} {a:Act} {w w':World} {R:Type} {K:St→Option R} {r:R} {Q:Exit→Act→World→Prop} {o:Oper}
theorem fe.imp {P:Program} {f:FuncId} {args:Array Value} {w:World} {R R':Value→World→Prop} (hc:fe P f args w R) (h: ∀v w',R v w'→R' v w'):fe P f args w R':=by
 unfold fe at hc⊢
 split
 ·rename_i iH
  rw [iH] at hc
  exact Calls.mono hc (fun x wZ ⟨v,e,hr⟩=>⟨v,e,h v wZ hr⟩)
 ·rename_i iH
  rw [iH] at hc
  exact h _ _ hc
 ·rename_i h1 h2
  split at hc
  ·rename_i iH;exact absurd iH (h1 _ _ _)
  ·rename_i iH;exact absurd iH (h2 _ _)
  ·exact hc
theorem Trans.Bw {I J:Nat→Prop} {φ φ':Ph} (h:Trans I φ w φ' w') (hs: ∀b,I b→J b):Trans J φ w φ' w':=
 ⟨h.ph,fun b hb=>h.heap b (fun hz=>hb (hs b hz)),fun b o hb=>h.free b o (fun hz=>hb (hs b hz)),h.size,h.rest⟩
theorem JU {key:Nat→Nat} {φ:Ph} {v:Value} {b:Bool} (h:eN key φ v (.b b)):v= .bool b:=by
 obtain ⟨_,h⟩:=h
 generalize xA:[v]=l at h
 cases h;simpa using xA
theorem L5 (hS:Sound P c) {f:Nat} (hg:c.dP (c.key f)=false) {lb:Array Value} {ms:List MV}:um P c f lb (fun (_:Unit) (_:Nat→Prop) φ (_:World)=>bW c.key φ lb.toList ms) (QQ c.g (c.key f) ms):=by
 refine ⟨?_,fun h _ _=>h,fun h _=>h⟩
 intro s Z φ W v x b s' hinv ki iZ L6 dM
 unfold QQ at dM
 split at dM
 ·rename_i b' hx
  simp only [Option.some.injEq,Prod.mk.injEq] at dM
  obtain ⟨rfl,_⟩:=dM
  have eP:ew c (fun b=>W.heap.size≤b) φ W (c.key f) (v::lb.toList) (x::ms):=by
   simp only [ew,hg,Bool.false_eq_true,if_false]
   exact ⟨v,lb.toList,rfl,L6,hinv⟩
  have:=hS f (x::ms) (.b b') hx φ W (fun b=>W.heap.size≤b) _ (fun b hb=>hb) eP iZ
  have e1:(v::lb.toList).toArray= #[v]++lb:=by apply Array.toList_inj.1;simp
  rw [e1] at this
  refine this.imp ?_
  rintro v' w' ⟨φ',t1,t2,t3⟩
  exact ⟨JU t3,φ',t1.Bw ki,t2,hinv.mono t1.ph⟩
 ·cases dM
theorem Pa (hS:Sound P c) {f pos a7:Nat} {ks:List LK} {ms:List MV} {lb0:List Value} (hg:c.dP (c.key f)=true) (xB:c.sig (c.key f)=some (pos,ks)) (dZ:pos=ms.length+1):
 um P c f (lb0++[Value.pointer (some ⟨a7,0,none⟩)]).toArray (fun ls Z φ W=>mV c Z φ W a7 ks ls∧bW c.key φ lb0 ms) (F8 c.g (c.key f) ms):=by
 refine ⟨?_,?_,fun h hz=>⟨h.1.wide hz,h.2⟩⟩
 ·intro ls Z φ W v x b s' hinv ki iZ L6 dM
  obtain ⟨pE,s8⟩:=hinv
  unfold F8 at dM
  split at dM
  ·rename_i b' outs hx
   simp only [Option.some.injEq,Prod.mk.injEq] at dM
   obtain ⟨rfl,rfl⟩:=dM
   have hl:=s8.length
   have eP:ew c Z φ W (c.key f) (v::(lb0++[Value.pointer (some ⟨a7,0,none⟩)])) (x::(ms++[.cell (.func 0 ls)])):=by
    simp only [ew,hg,if_true]
    refine .inr (.inr ⟨pos,ks,0,ls,a7,xB,?_,?_,?_,pE⟩)
    ·rw [dZ,List.getElem?_cons_succ,←hl,List.getElem?_append_right (Nat.le_refl _)];simp
    ·rw [dZ,List.getElem?_cons_succ,List.getElem?_append_right (Nat.le_refl _)];simp
    ·rw [dZ,List.set_cons_succ,List.set_append_right _ _ (Nat.le_refl _),Nat.sub_self]
     exact ⟨v,_,rfl,L6,s8.append ⟨_,[],rfl,⟨rfl,.rp a7 0 [] [] .nil (by simp)⟩,rfl⟩⟩
   have:=hS f _ _ hx φ W Z _ ki eP iZ
   have e1:(v::(lb0++[Value.pointer (some ⟨a7,0,none⟩)])).toArray= #[v]++(lb0++[Value.pointer (some ⟨a7,0,none⟩)]).toArray:=by apply Array.toList_inj.1;simp
   rw [e1] at this
   refine this.imp ?_
   rintro v' w' ⟨φ',t1,t2,v8,pos',Fo,afE,Ok,w9,Qm,hc⟩
   rw [xB] at w9
   simp only [Option.some.injEq,Prod.mk.injEq] at w9
   obtain ⟨rfl,rfl⟩:=w9
   have hb:afE=a7:=by
    rw [dZ,List.getElem?_cons_succ,←hl,List.getElem?_append_right (Nat.le_refl _)] at Qm
    simp at Qm
    exact Qm.1.symm
   subst hb
   exact ⟨JU v8,φ',t1,t2,hc,s8.mono t1.ph⟩
  ·cases dM
 ·intro ls Z φ W W' hinv qk sX
  obtain ⟨⟨cs,m,E,arr,T,k1,k2,k3,k4,k5,k6,k7⟩,s8⟩:=hinv
  have cz:=bm k2
  refine ⟨⟨cs,m,E,arr,T,k1,(sX a7 k3 cz).trans k2,⟨k3,cz⟩,k4,k5,fun f' o' ho=>⟨?_,(k6 f' o' ho).2⟩,k7⟩,s8⟩
  obtain ⟨I,cells,q1,q2,q3,q4,q5⟩:=(k6 f' o' ho).1.row
  refine ⟨I,cells,q1,q2,⟨q3.1,?_⟩,q4,fun b hb=>⟨⟨(q5 b hb).1,HL q3 hb⟩,(q5 b hb).2⟩⟩
  rcases q3.2 with h6|⟨g,cap,cW,r1,r2,r3,r4⟩
  ·exact .inl h6
  ·exact .inr ⟨g,cap,cW,r1,r2,(sX g (q5 g (by rw [r1];rfl)).1 (bm r3)).trans r3,r4⟩
theorem NG {xs:List MV} (h:xs.all Lk=true): ∀x∈xs,∃ms,x= .agg ms:=by
 intro x hx
 have:=List.all_eq_true.1 h x hx
 cases x<;>simp [Lk] at this
 exact ⟨_,rfl⟩
theorem put_comm {a:Act} {x y:Nat} (h:x≠y) (v u:Value):(a.put (some x) v).put (some y) u=(a.put (some y) u).put (some x) v:=by
 show ({a with tmps:=(a.tmps.setIfInBounds x v).setIfInBounds y u}:Act)={a with tmps:=(a.tmps.setIfInBounds y u).setIfInBounds x v}
 rw [Array.setIfInBounds_comm v u h]
theorem NH {y d:Nat} {o1 o2:Oper} {h:Nat} {v0 v' fv:Value} {ys:List MV} {φ0:Ph} {w0:World} (hs:bN c Z e st a w) (h1:o1.dst=some y) (h2:o2.dst=some d) (hyd:d≠y) (s4: ∀b,v0.ownBlock=some b→Z.In b)
 (fB:cQ c (bC.plain fun b=>v0.ownBlock=some b) (nO c.key e.φ) w v' ⟨c.ra (c.key h),false,ys⟩) (dg: ∀b,v'.ownBlock=some b→v0.ownBlock=some b) (sZ: ∀b,v0.ownBlock=some b→(∀t fa,aj st.fr t= .box fa→e.B t≠b)∧ ∀f o,aG st.aO f=some o→(e.E f).ownBlock≠some b)
 (ht:Trans Z φ0 w0 e.φ w)
 (hK:(jg st (o2.dst.getD 0) ⟨c.ra (c.key h),false,ys⟩ fun st=>bk c st o2.dst (.sc (.own (o2.dst.getD 0))) fun st=>bk c st o1.dst (.sc .un) K)=some r):Out c Z K r φ0 w0 ((a.put o1.dst fv).put o2.dst v') w:=by
 have yz:=hs.ZS hK
 have pf:=p7 hK
 have xZ:cQ c Z.nc e w v' ⟨c.ra (c.key h),false,ys⟩:=by
  obtain ⟨I,cells,g1,g2,g3,g4,g5⟩:=fB.row
  refine ⟨I,cells,g1,g2,g3,by rw [hs.key];exact g4,fun a7 hb=>⟨s4 a7 (dg a7 hb),(g5 a7 hb).2.1,fun hc=>hc.elim⟩⟩
 have Jk:=hs.LG yz xZ fun b hb=>sZ b (dg b hb)
 obtain ⟨I,cells,g1,g2,g3,g4,g5⟩:=fB.row
 have iB:v'.oneCell'=true:=by
  rcases g3.2 with ⟨rfl,_⟩|⟨g,cap,cW,rfl,_⟩<;>rfl
 obtain ⟨e3,pa,q1,q2,q3⟩:=dj (v:=v') (s:= .sc (.own (o2.dst.getD 0))) Jk (.of (vW iB) trivial) pf
 obtain ⟨e4,st4,q4,q5,q6⟩:=dj (v:=fv) (s:= .sc .un) q1 (.of (by simp [ab]) trivial) q2
 rw [h1,h2] at q4
 rw [put_comm hyd] at q4
 rw [h1,h2]
 exact ⟨e4,st4,q4,by rw [q6,q3];exact ht,q5⟩
theorem Vm (hS:Sound P c) {h f x y d:Nat} {bS:Array Operand} {cl:Call} {o1 o2:Oper} (hd:H3 P c h (c.ra (c.key h))) (h1:o1.op= .makeFunc (.func f) #[] bS) (h2:o2.op= .call cl) (nM:cl.callee= .value (.func h)) (eP:cl.args.toList=[.tmp x,.tmp y])
 (hd1:o1.dst=some y) (Ug:o2.dst=some d) (K9:x≠y) (hyd:d≠y) (hyn:y<c.n) (pg:bN c Z e st a w) (hK:QR c h f bS.toList (.tmp x) o1 o2 st K=some r):
 o1.wp P a w (fun a1 w1=>o2.wp P a1 w1 (Out c Z K r e.φ w) Q) Q:=by
 have abJ:(execOp a.eval o1).run P w= .ok (.value (.func (.func f) #[] (bS.map a.eval))) w:=by simp [execOp,h1,Instr.makeFunc]
 unfold Oper.wp
 rw [abJ,Oper.upon_value]
 have E9: ∀v:Value,(a.put o1.dst v).eval (.tmp x)=a.eval (.tmp x)∧(a.put o1.dst v).eval (.tmp y)=v:=by
  intro v
  rw [hd1]
  have hy:y<a.tmps.size:=by rw [pg.size];exact hyn
  constructor
  ·show (a.put (some y) v).tmps.getD x undef=a.tmps.getD x undef
   rw [Act.vT hy,if_neg K9]
  ·show (a.put (some y) v).tmps.getD y undef=v
   rw [Act.vT hy,if_pos rfl]
 have YS: ∀v:Value,cl.args.map (a.put o1.dst v).eval= #[a.eval (.tmp x),v]:=by
  intro v
  apply Array.toList_inj.1
  rw [Array.toList_map,eP]
  simp [(E9 v).1,(E9 v).2]
 have GJ: ∀v:Value,(execOp (a.put o1.dst v).eval o2).run P w=(callFunc h #[a.eval (.tmp x),v]).run P w:=by
  intro v
  have:=YS v
  simp [execOp,h2,resolve,nM,this,Act.eval,Deferred.ofValue,invoke]
 unfold QR at hK
 cases xB:c.sig (c.key f) with
 |none=>
  simp only [xB] at hK
  cases hg:c.dP (c.key f) with
  |true=>simp [hg] at hK
  |false=>
  simp only [hg,cond_false] at hK
  obtain ⟨e1,eE,ms,s1,x1,r1,pf,iB⟩:=ud pg hK
  obtain ⟨e2,eZ,xs,G,vt⟩:=ql s1 (s1.eval (.tmp x)).1 pf
  simp only [gF] at vt
  obtain ⟨Dw,CX⟩:=dR vt
  obtain ⟨p,hp,T8⟩:=n5 CX
  obtain ⟨ys,u⟩:=p
  have s8:bW c.key e1.φ (bS.map a.eval).toList ms:=by
   have:=gn.one r1 iB
   rw [s1.key] at this
   simpa using this
  have B1: ∀b,(a.eval (.tmp x)).ownBlock=some b→ ¬w.heap.size≤b:=by
   intro b hb
   obtain ⟨I,cells,_,_,g3,_⟩:=G.row.row
   have:=HL g3 hb
   omega
  have uY:=hd.run (L5 hS hg) (NG Dw) G.row B1 s8 (fun b hb=>hb) s1.nx hp
  refine s6 (GJ _) uY ?_
  rintro v' w' ⟨Zw,φ',hW,fB,dg⟩
  have Vn: ∀b,((w.heap.size≤b∨w.heap.size≤b)∨(a.eval (.tmp x)).ownBlock=some b)→Z.In b:=by
   rintro b ((hb|hb)|hb)
   ·exact s1.b3 b hb
   ·exact s1.b3 b hb
   ·exact G.In b hb
  have hzb: ∀t cs,aj eZ.fr t= .box cs→ ¬((w.heap.size≤e2.B t∨w.heap.size≤e2.B t)∨(a.eval (.tmp x)).ownBlock=some (e2.B t)):=by
   rintro t cs ht ((hb|hb)|hb)
   ·have:=uf G.s5 ht;omega
   ·have:=uf G.s5 ht;omega
   ·exact G.box t cs ht hb
  have hzf: ∀f o k,aG eZ.aO f=some o→(e2.E f).ownBlock=some k→ ¬((w.heap.size≤k∨w.heap.size≤k)∨(a.eval (.tmp x)).ownBlock=some k):=by
   rintro f o k ho hk ((hb|hb)|hb)
   ·have:=ug G.s5 ho hk;omega
   ·have:=ug G.s5 ho hk;omega
   ·exact G.iF f o k ho hk hb
  have uh:=hW.tr
  rw [←G.φ] at uh
  have Yg:=G.s5.called Vn hzb hzf uh hW.nx
  have qn:Trans Z e.φ w φ' w':=x1.tr.trans (hW.tr.Bw Vn)
  exact NH (e:={e2 with φ:=φ'}) Yg hd1 Ug hyd G.In fB dg (fun b hb=>⟨fun t fa ht he=>G.box t fa ht (by rw [hb,←he]),fun f o ho hk=>G.iF f o b ho hk hb⟩) qn T8
 |some sg=>
  obtain ⟨pos,ks⟩:=sg
  simp only [xB] at hK
  obtain ⟨e1,eE,ms,s1,x1,r1,pf,iB⟩:=ud pg hK
  obtain ⟨e2,eZ,xs,G,vt⟩:=ql s1 (s1.eval (.tmp x)).1 pf
  simp only [gF] at vt
  obtain ⟨Dw,CX⟩:=dR vt
  cases JV:bS.toList.getLast? with
  |none=>simp [JV] at CX
  |some y0=>
  simp only [JV] at CX
  split at CX
  rotate_left
  ·cases CX
  rename_i root LU
  split at CX
  rotate_left
  ·cases CX
  rename_i cs hf
  cases ll:et cs||br eZ.b4 root||!gp c ks||!Nat.beq pos (ms.length+1)||!c.dP (c.key f) with
  |true=>simp [ll] at CX
  |false=>
  simp only [ll,cond_false] at CX
  simp only [Bool.or_eq_false_iff,Bool.not_eq_false'] at ll
  obtain ⟨⟨⟨⟨hm,hr⟩,jb⟩,dZ⟩,hg⟩:=ll
  have dZ:=Nat.eq_of_beq_eq_true dZ
  obtain ⟨ls,ps,ht,T8⟩:=yE CX
  obtain ⟨p,hp,Z3⟩:=n5 T8
  obtain ⟨ys,outs⟩:=p
  have hy0:a.eval y0= .pointer (some ⟨e2.B root,0,none⟩):=by
   have:=(G.s5.eval y0).1
   rw [LU] at this
   exact this
  have abK:(bS.map a.eval)=((bS.toList.dropLast.map a.eval)++[Value.pointer (some ⟨e2.B root,0,none⟩)]).toArray:=by
   apply Array.toList_inj.1
   rw [Array.toList_map]
   have cI:bS.toList≠[]:=by intro e;rw [e] at JV;simp at JV
   have h3:bS.toList=bS.toList.dropLast++[y0]:=by
    have h4:=List.dropLast_concat_getLast cI
    have h5:=List.getLast?_eq_some_getLast cI
    rw [JV] at h5
    rw [Option.some.inj h5]
    exact h4.symm
   rw [h3]
   simp [hy0]
  have s8:bW c.key e2.φ (bS.toList.dropLast.map a.eval) ms:=by
   have:=gn.one r1 iB
   rw [s1.key,←G.φ] at this
   exact this
  have zu:cQ c (bC.plain fun b=>(a.eval (.tmp x)).ownBlock=some b) (nO c.key e2.φ) w (a.eval (.tmp x)) ⟨c.ra (c.key h),false,xs⟩:=by rw [G.φ];exact G.row
  let Z2:Nat→Prop:=fun b=>w.heap.size≤b∨gone e2 root ps b
  have hgx: ∀b,(a.eval (.tmp x)).ownBlock=some b→ ¬gone e2 root ps b:=by
   rintro b hb (rfl|⟨q,g,hp,hq⟩)
   ·exact G.box root cs hf hb
   ·obtain ⟨o,ho,_⟩:=ht.aO q g hp
    exact G.iF g o b ho hq hb
  have cz: ∀b,(a.eval (.tmp x)).ownBlock=some b→b<w.heap.size:=by
   intro b hb
   obtain ⟨I,cells,_,_,g3,_⟩:=G.row.row
   exact HL g3 hb
  have B1: ∀b,(a.eval (.tmp x)).ownBlock=some b→ ¬Z2 b:=by
   rintro b hb (h'|h')
   ·have:=cz b hb;omega
   ·exact hgx b hb h'
  have pE:mV c Z2 e2.φ w (e2.B root) ks ls:=(C3 G.s5 hf hm jb ht).wide fun b hb=> .inr hb
  have uY:=hd.run (Pa hS hg xB dZ) (NG Dw) zu B1 ⟨pE,s8⟩ (fun b hb=> .inl hb) G.s5.nx hp
  rw [←abK] at uY
  refine s6 (GJ _) uY ?_
  rintro v' w' ⟨Zw,φ',hW,fB,dg⟩
  have hZ2: ∀b,Z2 b∨w.heap.size≤b→Z2 b:=fun b hb=>hb.elim id .inl
  have Vn: ∀b,Z2 b→Z.In b:=fun b hb=>hb.elim (G.s5.b3 b) (zn G.s5 hf hr ht b)
  have uh:Trans (fun b=>Z2 b∨(a.eval (.tmp x)).ownBlock=some b) e2.φ w φ' w':=hW.tr.Bw fun b hb=>hb.elim (fun h=> .inl (hZ2 b h)) .inr
  have YT:mV c Z2 φ' w' (e2.B root) ks outs:=hW.inv.1.wide fun b hb=>hZ2 b (hW.sub b hb)
  obtain ⟨e3,pa,h3,Yr,hX,Ys⟩:=O9 G.s5 hf hm hr ht (fun b=>Iff.rfl) (X:=fun b=>(a.eval (.tmp x)).ownBlock=some b) (fun t fa yx hb=>G.box t fa yx hb) (fun f o b ho hk hb=>G.iF f o b ho hk hb) uh hW.nx YT Z3
  have qn:Trans Z e.φ w φ' w':=by
   have t2:Trans Z e2.φ w φ' w':=uh.Bw fun b hb=>hb.elim (Vn b) (G.In b)
   rw [G.φ] at t2
   exact x1.tr.trans t2
  subst Yr
  exact NH h3 hd1 Ug hyd G.In fB dg (fun b hb=>hX b hb (B1 b hb)) qn Ys
end
end Dn
/-
  Regions in the order of their text. Conditions: none.
-/
set_option linter.unusedSimpArgs false
set_option linter.unusedVariables false
namespace Dn
open Go
section
variable {P:Program} {c:Ctx} {Z:bC} {e:Env} {st:St} {a:Act} {w:World} {R:Type} {K:St→Option R} {r:R} {Q:Exit→Act→World→Prop} {ops:Array Oper}
theorem JW (hG:Good P c) {is:List Nat} {rest:List Nat}: ∀{os:List Oper} {e:Env} {st:St} {a:Act} {w:World},is.map (ops[·]?)=os.map some→bN c Z e st a w→tS c ops.toList os st K=some r→
 ∀{φ0:Ph} {w0:World},Trans Z φ0 w0 e.φ w→(∀a' w',Out c Z K r φ0 w0 a' w'→wpOps P ops Q rest a' w')→wpOps P ops Q (is++rest) a w:=by
 induction is with
 |nil=>
  intro os e st a w hm h hK φ0 w0 ht hQ
  cases os with
  |nil=>exact hQ a w ⟨e,st,h,ht,hK⟩
  |cons=>simp at hm
 |cons i is ih=>
  intro os e st a w hm h hK φ0 w0 ht hQ
  cases os with
  |nil=>simp at hm
  |cons o os=>
   simp only [List.map_cons,List.cons.injEq] at hm
   simp only [tS] at hK
   rw [List.cons_append,wpOps_cons]
   refine wpOp_mono ?_ (Nt hG hm.1 h hK)
   rintro a' w' ⟨e2,eZ,h1,h2,h3⟩
   exact ih hm.2 h1 h3 (ht.trans h2) hQ
structure Xn (c:Ctx) (l pre:List Oper) (f:Nat) (bS:List Operand) (h:Nat) (x:Operand) (o1 o2:Oper) (post:List Oper):Prop where
 eq:l=pre++o1::o2::post
 is: ∃(cs:Array Operand) (cl:Call) (x' y d:Nat),cs.toList=bS∧o1.op= .makeFunc (.func f) #[] cs∧o2.op= .call cl∧cl.callee= .value (.func h)∧cl.args.toList=[.tmp x',.tmp y]∧x= .tmp x'∧o1.dst=some y∧o2.dst=some d∧c.Hq h=true∧x'≠y∧d≠y∧y<c.n
theorem L7: ∀{l pre Pb:List Oper} {f:Nat} {bS:List Operand} {h:Nat} {x:Operand} {o1 o2:Oper} {post:List Oper},y7 c pre l=some (Pb,f,bS,h,x,o1,o2,post)→Xn c (pre.reverse++l) Pb f bS h x o1 o2 post:=by
 intro l
 induction l with
 |nil=>intro pre Pb f bS h x o1 o2 post hd;simp [y7] at hd
 |cons p1 l ih=>
  intro pre Pb f bS h x o1 o2 post hd
  cases l with
  |nil=>simp [y7] at hd
  |cons p2 r=>
   have YU:y7 c (p1::pre) (p2::r)=some (Pb,f,bS,h,x,o1,o2,post)→Xn c (pre.reverse++p1::p2::r) Pb f bS h x o1 o2 post:=by
    intro hq
    have:=ih hq
    simpa using this
   unfold y7 at hd
   split at hd
   ·rename_i f' first cs cl h1 h2
    split at hd
    ·rename_i h' x' y' d' k1 k2 k3 k4
     cases hb:c.Hq h'&&Nat.beq y' d'&&!Nat.beq x' d'&&!Nat.ble c.n d'&&!Nat.beq (p2.dst.getD d') d' with
     |false=>simp only [hb,cond_false] at hd;exact YU hd
     |true=>
      simp only [hb,cond_true,Option.some.injEq,Prod.mk.injEq] at hd
      obtain ⟨rfl,rfl,rfl,rfl,rfl,rfl,rfl,rfl⟩:=hd
      simp only [Bool.and_eq_true,Bool.not_eq_true',eh,decide_eq_true_eq,decide_eq_false_iff_not] at hb
      obtain ⟨⟨⟨⟨q1,rfl⟩,q3⟩,q4⟩,q5⟩:=hb
      have hf:first= #[]:=by apply Array.toList_inj.1;simpa using k3
      subst hf
      have Ug: ∃d,p2.dst=some d∧d≠y':=by
       cases hp:p2.dst with
       |none=>rw [hp] at q5;simp at q5
       |some d=>rw [hp] at q5;exact ⟨d,rfl,q5⟩
      obtain ⟨d,Ug,hd3⟩:=Ug
      refine ⟨rfl,cs,cl,x',y',d,rfl,h1,h2,k1,k2,rfl,k4,Ug,q1,q3,hd3,?_⟩
      rcases Nat.lt_or_ge y' c.n with cz|Qu
      ·exact cz
      ·have ajn:=Nat.ble_eq_true_of_le Qu
       simp_all
    ·exact YU hd
   ·exact YU hd
theorem JX: ∀{l:List Oper},CE l=true→ ∀o∈l,o.guard=none:=by
 intro l
 induction l with
 |nil=>intro _ o ho;cases ho
 |cons p l ih=>
  intro h o ho
  unfold CE at h
  cases hg:p.guard with
  |none=>
   rw [hg] at h
   rcases List.mem_cons.1 ho with rfl|ho
   ·exact hg
   ·exact ih h o ho
  |some=>rw [hg] at h;cases h
theorem Pc (hG:Good P c) (H4:uo P c) (id:Nat) (ops:Array Oper):JJ P c id ops:=by
 intro Z e st a w R K r Q h hK hQ
 unfold QS at hK
 split at hK
 rotate_left
 ·exact Gy (OV hG id ops) h hK hQ
 rename_i pre f bS hh x o1 o2 post hda
 obtain ⟨iH,cs,cl,x',y,d,rfl,k1,k2,k3,k4,rfl,k5,k6,k7,k8,k9,k10⟩:=L7 hda
 simp only [List.reverse_nil,List.nil_append] at iH
 cases K4:CE ops.toList with
 |false=>simp [K4] at hK
 |true=>
 simp only [K4,cond_true] at hK
 obtain ⟨std,hdr,hK⟩:=rH h hK
 have hgd:=JX K4
 have IY:o1.guard=none:=hgd o1 (by rw [iH];simp)
 have Sj:o2.guard=none:=hgd o2 (by rw [iH];simp)
 refine wp_region ?_
 have qk:ops.size=pre.length+(post.length+2):=by rw [←Array.length_toList,iH];simp
 have nz: ∀i,ops[i]? =(pre++o1::o2::post)[i]? :=fun i=>by rw [←iH,Array.getElem?_toList]
 have YV:List.range ops.size=List.range pre.length++(pre.length::(pre.length+1)::((List.range post.length).map (· +(pre.length+2)))):=by
  rw [qk,List.range_add]
  congr 1
  rw [show post.length+2=2+post.length by omega,List.range_add]
  simp [List.range_succ]
  intros;omega
 rw [YV]
 refine JW hG (os:=pre) ?_ hdr hK (.refl _ _ _) ?_
 ·apply List.ext_getElem?
  intro i
  simp only [List.getElem?_map]
  by_cases hi:i<pre.length
  ·rw [List.getElem?_range hi]
   simp only [Option.map_some,nz,List.getElem?_append_left hi]
   rw [List.getElem?_eq_getElem hi];rfl
  ·rw [List.getElem?_eq_none (by simp;omega),List.getElem?_eq_none (by omega)];rfl
 ·rintro a1 w1 ⟨e1,eE,s1,t1,pf⟩
  have hw:=Vm hG.fn (H4 hh k7) k1 k2 k3 k4 k5 k6 k8 k9 k10 s1 pf (P:=P) (Q:=Q)
  have sO:ops[pre.length]? =some o1:=by rw [nz];simp
  have Qt:ops[pre.length+1]? =some o2:=by rw [nz,List.getElem?_append_right (by omega)];simp
  rw [wpOps_cons]
  unfold wpOp
  simp only [sO,Region.wanted,IY,if_true]
  left
  refine Oper.wp_mono ?_ hw
  intro a2 w2 hw2
  rw [wpOps_cons]
  unfold wpOp
  simp only [Qt,Region.wanted,Sj,if_true]
  left
  refine Oper.wp_mono ?_ hw2
  rintro a3 w3 ⟨e3,pa,s3,t3,CX⟩
  rw [←List.append_nil ((List.range post.length).map (· +(pre.length+2)))]
  refine JW hG (os:=post) ?_ s3 CX (t1.trans t3) ?_
  ·apply List.ext_getElem?
   intro i
   simp only [List.getElem?_map,List.map_map]
   by_cases hi:i<post.length
   ·rw [List.getElem?_range hi]
    simp only [Option.map_some,Function.comp,nz]
    rw [List.getElem?_append_right (by omega),show i+(pre.length+2)-pre.length=i+2 by omega]
    simp [List.getElem?_eq_getElem hi]
   ·rw [List.getElem?_eq_none (by simp;omega),List.getElem?_eq_none (by omega)];rfl
  ·intro a' w' ho
   exact hQ a' w' ho
end
end Dn
/-
  Open order with two operations that may be done either way round. Conditions: none.
-/
set_option linter.unusedSimpArgs false
set_option linter.unusedVariables false
namespace Dn
open Go
section
variable {P:Program} {ops:Array Oper} {Q:Exit→Act→World→Prop}
theorem GK (A B:Nat):(nI ops A B).size=ops.size:=by simp [nI]
theorem Dx (A B i:Nat):(nI ops A B)[i]? =(ops[i]?).map fun o=>if B=i then {o with after:=o.after.push ⟨A,.data⟩} else o:=by
 unfold nI
 rw [Array.getElem?_modify]
 by_cases h:B=i
 ·simp [h]
 ·cases ops[i]? <;>simp [h]
theorem H5 (A B:Nat) (tmps:Array Value):yielded (nI ops A B) tmps=yielded ops tmps:=by
 funext j
 unfold yielded
 rw [Dx]
 cases ops[j]? with
 |none=>rfl
 |some o=>
  have e:(if B=j then {o with after:=o.after.push ⟨A,.data⟩} else o).dst=o.dst:=by split<;>rfl
  simp only [Option.map_some,Option.bind_some,e]
theorem Pd {A B i:Nat} {K:Act→World→Prop} {a:Act} {w:World} (h:wpOp P (nI ops A B) Q i K a w):wpOp P ops Q i K a w:=by
 unfold wpOp at h⊢
 rw [Dx,H5] at h
 cases hi:ops[i]? with
 |none=>rw [hi] at h;exact h
 |some o=>
  rw [hi] at h
  simp only [Option.map_some] at h
  by_cases hb:B=i
  ·rw [if_pos hb] at h;exact h
  ·rw [if_neg hb] at h;exact h
theorem Dy {A B i:Nat} {listed:Array Bool}:i∈Region.ready .any (nI ops A B) listed↔i∈Region.ready .any ops listed∧(i=B→listed.getD A false=true):=by
 unfold Region.ready
 rw [GK]
 simp only [List.mem_filter,List.mem_range,Dx]
 cases hi:ops[i]? with
 |none=>simp
 |some o=>
  by_cases hb:B=i
  ·subst hb
   simp [Array.all_push,Region.binds]
   constructor
   ·rintro ⟨h1,h2,h3,h4⟩;exact ⟨⟨h1,h2,h3⟩,h4⟩
   ·rintro ⟨⟨h1,h2,h3⟩,h4⟩;exact ⟨h1,h2,h3,h4⟩
  ·have Am: ¬i=B:=fun e=>hb e.symm
   simp [hb,Am]
def Ahd (A B:Nat):Bool→List Nat→Prop
 |_,[]=>True
 |la,i::r=>(i=B→la=true)∧Ahd A B (la||decide (i=A)) r
theorem Dz (A B:Nat): ∀L,Ahd A B true L
 |[]=>trivial
 |i::r=>⟨fun _=>rfl,by simpa using Dz A B r⟩
theorem Ss {A B:Nat} (h:A≠B): ∀L,Ahd A B false L∨Ahd B A false L
 |[]=> .inl trivial
 |i::r=>by
  by_cases ha:i=A
  ·subst ha
   exact .inl ⟨fun e=>absurd e h,by simpa using Dz i B r⟩
  ·by_cases hb:i=B
   ·subst hb
    exact .inr ⟨fun e=>absurd e ha,by simpa using Dz i A r⟩
   ·rcases Ss h r with h1|h1
    ·exact .inl ⟨fun e=>absurd e hb,by simpa [ha] using h1⟩
    ·exact .inr ⟨fun e=>absurd e ha,by simpa [hb] using h1⟩
theorem GL {A B:Nat}: ∀(fuel t:Nat) (listed:Array Bool) (a:Act) (w:World),A<listed.size→wpAny P .any (nI ops A B) Q fuel listed a w→
 Ahd A B (listed.getD A false) (Region.linearise.go .any ops fuel t listed [])→wpOps P ops Q (Region.linearise.go .any ops fuel t listed []) a w:=by
 intro fuel
 induction fuel with
 |zero=>intro t listed a w _ h _;simpa [Region.linearise.go,wpOps] using h.2
 |succ fuel ih=>
  intro t listed a w hs h hA
  obtain ⟨h₀,h₁⟩:=h
  simp only [Region.linearise.go] at hA⊢
  change wpOps P ops Q (match (Region.ready .any ops listed)[t%(Region.ready .any ops listed).length]? with
   |some i=>Region.linearise.go .any ops fuel (t/(Region.ready .any ops listed).length) (listed.setIfInBounds i true) [i]
   |none=>[].reverse) a w
  change Ahd A B (listed.getD A false) (match (Region.ready .any ops listed)[t%(Region.ready .any ops listed).length]? with
   |some i=>Region.linearise.go .any ops fuel (t/(Region.ready .any ops listed).length) (listed.setIfInBounds i true) [i]
   |none=>[].reverse) at hA
  cases hi:(Region.ready .any ops listed)[t%(Region.ready .any ops listed).length]? with
  |none=>
   have Yi:Region.ready .any ops listed=[]:=by
    cases hr:Region.ready .any ops listed with
    |nil=>rfl
    |cons x xs=>
     rw [hr] at hi
     have cz:t%(x::xs).length<(x::xs).length:=Nat.mod_lt _ (by simp)
     simp at hi
     simp at cz
     omega
   have abL:Region.ready .any (nI ops A B) listed=[]:=by
    cases hr:Region.ready .any (nI ops A B) listed with
    |nil=>rfl
    |cons x xs=>
     have:x∈Region.ready .any (nI ops A B) listed:=by rw [hr];simp
     have:=(Dy.1 this).1
     rw [Yi] at this;cases this
   simpa [wpOps] using h₀ abL
  |some i=>
   rw [hi] at hA
   simp only [] at hA⊢
   rw [linearise_go_acc,List.reverse_singleton,List.singleton_append] at hA⊢
   obtain ⟨hA1,hA2⟩:=hA
   rw [wpOps_cons]
   have su:=Dy.2 ⟨List.mem_of_getElem? hi,hA1⟩
   refine wpOp_mono (fun a w hw=>ih _ _ a w (by simpa using hs) hw ?_) (Pd (h₁ i su))
   have hg:(listed.setIfInBounds i true).getD A false=(listed.getD A false||decide (i=A)):=by
    rw [Array.getD_eq_getD_getElem?,Array.getD_eq_getD_getElem?,Array.getElem?_setIfInBounds]
    by_cases hia:i=A
    ·subst hia;simp [hs]
    ·simp [hia]
   rw [hg];exact hA2
theorem Fv {id A B:Nat} {a:Act} {w:World} (hm:P.follows .mixedOrders=true) (cI:A≠B) (hA:A<ops.size) (hB:B<ops.size)
 (h1:wpAny P .any (nI ops A B) Q ops.size (Array.replicate ops.size false) a {w with drawn:=w.drawn+1})
 (h2:wpAny P .any (nI ops B A) Q ops.size (Array.replicate ops.size false) a {w with drawn:=w.drawn+1}):(Code.region id ops true).wp P Q a w:=
 wp_region_draw fun t=>by
  simp only [Region.schedule,hm,Bool.true_or,if_true]
  show wpOps P ops Q (Region.linearise.go .any ops ops.size t (Array.replicate ops.size false) []) a _
  rcases Ss cI (Region.linearise.go .any ops ops.size t (Array.replicate ops.size false) []) with h|h
  ·exact GL ops.size t _ a _ (by simpa using hA) h1 (by simpa [hA] using h)
  ·exact GL ops.size t _ a _ (by simpa using hB) h2 (by simpa [hB] using h)
theorem JY {c:Ctx} (hG:Good P c) (JZ:P.follows .mixedOrders=true) (H4:uo P c):Nv P c:=by
 refine ⟨fun id ops=>Pc hG H4 id ops,?_,?_⟩
 ·intro id ops l hd hp Z e st a w R K r Q h hK hQ
  refine Code.wp_mono ?_ (wp_region_any JZ (Dv hG hd hp h hK))
  intro x a' w' hx
  cases x<;>first|exact hQ a' w' hx|exact hx.elim
 ·intro id ops A B o1 o2 l1 l2 cI hA hB hd1 Ug Ra Gf Z e st a w R K r Q h pf vt hQ
  have w1:=Dv hG hd1 Ra h pf
  have w2:=Dv hG Ug Gf h vt
  rw [GK] at w1 w2
  refine Code.wp_mono ?_ (Fv JZ cI hA hB w1 w2)
  intro x a' w' hx
  cases x<;>first|exact hQ a' w' hx|exact hx.elim
end
end Dn
/-
  Functions of the library, by hand: copies of slices. Conditions: none.
-/
set_option linter.unusedSimpArgs false
set_option linter.unusedVariables false
namespace Dn
open Go
section
variable {P:Program} {c:Ctx} {Q:Exit→Act→World→Prop} {ops:Array Oper} {o:Oper} {a:Act} {w w':World}
theorem sv {i:Nat} {rest:List Nat} {v:Value} (hi:ops[i]? =some o) (hg:o.guard=none) (bJ:(execOp a.eval o).run P w= .ok (.value v) w')
 (h:wpOps P ops Q rest (a.put o.dst v) w'):wpOps P ops Q (i::rest) a w:=by
 rw [wpOps_cons]
 unfold wpOp
 simp only [hi,Region.wanted,hg,if_true]
 left
 unfold Oper.wp
 rw [bJ,Oper.upon_value];exact h
structure aJ (o:Oper) (d:Nat) (op:Op):Prop where
 dst:o.dst=some d
 op:o.op=op
 guard:o.guard=none
theorem YW {key:Nat→Nat} {φ:Ph} {size:Nat} {v:Value} {xs:List MV} (iZ:yC φ w) (dZ:0<size) (hx:kS key φ [v] (.list xs)) (hw:sP size xs=true): ∃news,Src (nO key φ) w size v xs news:=by
 generalize hv:[v]=vs at hx
 cases hx with
 |list ad cap _ a7 off IR f g1 g2 g3 g4 g5=>
 simp at hv
 have UI: ∀i,i<xs.length→(f i).length=size:=by
  intro i hi
  rw [(g5 i hi).width]
  exact zf hw _ (List.getElem_mem hi)
 obtain ⟨cs,h1,h2⟩:=CU UI g5
 refine ⟨cs,h1,ad,cap,hv,?_,?_⟩
 ·intro hn
  cases xs with
  |nil=>rfl
  |cons y ys=>have:=g2 (by simp);rw [hn] at this;cases this
 ·intro x hx j u hj
  have Fa:j<cs.length:=(List.getElem?_eq_some_iff.1 hj).1
  rw [h1.length] at Fa
  have CV:0<xs.length:=by
   cases xs with
   |nil=>simp at Fa
   |cons y ys=>simp
  have Jq:=g2 CV
  rw [hx] at Jq
  cases Jq
  have hq:j/size<xs.length:=(Nat.div_lt_iff_lt_mul dZ).2 Fa
  have hm:=Nat.mod_lt j dZ
  have Qn:j=j/size *size+j%size:=by rw [Nat.mul_comm];exact (Nat.div_add_mod j size).symm
  have e1:=h2 (j/size) (j%size) hq hm
  rw [←Qn,hj] at e1
  have Rn:IR=size:=by rw [←g3 0 CV,UI 0 CV]
  have e2:=g4 (j/size) (j%size) hq (by rw [Rn];exact hm)
  rw [←e1,Rn,Nat.add_assoc,←Qn] at e2
  have:=iZ _ _ _ e2
  rw [Addr.add_mid];exact this
theorem Pe {t t':TypeId} {el:TypeId} {x:Operand} {ad:Option Addr} {n cap:Nat} (hu:P.underlying t=some (.slice el)) (ho:o.op= .binOp .eql t x (.const (.slice none 0 0)) t') (hx:a.eval x= .slice ad n cap):
 (execOp a.eval o).run P w= .ok (.value (.bool ad.isNone)) w:=by
 have he:a.eval (.const (.slice none 0 0))= .slice none 0 0:=rfl
 have iH: ∀d:Nat,(Op.equalIn (d+1) t (.slice ad n cap) (.slice none 0 0)).run P w= .ok ad.isNone w:=by
  intro d
  cases ad<;>simp [Op.equalIn,run_underlying hu]
 have hb:Go.binOp .eql t (.slice ad n cap) (.slice none 0 0)=(do pure (.bool (←Op.equal t (.slice ad n cap) (.slice none 0 0)))):=rfl
 have hg: ∀(x y:Operand),(eqGuard .eql t x y (.slice ad n cap) (.slice none 0 0)).run P w= .ok () w:=fun _ _=>rfl
 have h2:(Op.equal t (.slice ad n cap) (.slice none 0 0)).run P w= .ok ad.isNone w:=iH 9999
 unfold execOp
 simp only [ho]
 rw [hx,he]
 simp [hg,hb,h2]
theorem zv {f:FuncId} {fn:Func} {t:TypeId} {I E:TI} {i0 i1 i2 i3:Nat} {oA oB oC oD oE oF oG oH:Oper} {xs:List MV} (hT:kn P c.ti) (hI:c.tv t=some I) (hL:I.xT=true) (hE:c.tv I.elem=some E) (vY:1≤E.bytes)
 (AB:c.ra (c.key f)=I.elem) (hg:c.dP (c.key f)=false)
 (hf:P.funcs[f]? =some fn) (zp:(fn.name== "runtime.NumGoroutine")=false) (hn:fn.ntmps=8) (hr:fn.results= #[.tmp 2])
 (oJ:fn.body=some (.seq (.region i0 #[oA] false) (.seq (.seq (.region i1 #[oB,oC] false) (.cond (.tmp 4) (.seq (.region i2 #[oD] false) .ret) .skip)) (.seq (.region i3 #[oE,oF,oG,oH] false) .ret))))
 (hA:aJ oA 2 (.assign (.const (.slice none 0 0)))) (hB:aJ oB 3 (.move (.tmp 0))) (hC:aJ oC 4 (.binOp .eql t (.tmp 3) (.const (.slice none 0 0)) t)) (hD:aJ oD 2 (.assign (.const (.slice none 0 0))))
 (hEo:aJ oE 5 (.buildSlice t 0 #[])) (hF:aJ oF 6 (.move (.tmp 0))) (hG:aJ oG 7 (.call {callee:= .builtin .append,args:= #[.tmp 5,.tmp 6],argTypes:= #[t,t]})) (hH:aJ oH 2 (.assign (.tmp 7)))
 (hw:sP E.size xs=true) (mO:xs.length *E.bytes≤2^46):kp P c f [.list xs] (.fresh xs):=by
 obtain ⟨hIt,Q8⟩:=bE hI
 obtain ⟨mN,nK⟩:=bE hE
 obtain ⟨hu,E2,vI,_,dZ⟩:=TI.mn (hT t I hIt) hL
 rw [mN] at vI
 cases vI
 intro φ W Z vs hz eP iZ
 simp only [ew,hg,Bool.false_eq_true,if_false] at eP
 obtain ⟨v,u,rfl,⟨_,hx⟩,hu0⟩:=eP
 have hu0:u=[]:=hu0
 subst hu0
 obtain ⟨ad,cap,hv,Ap,hnn⟩: ∃ad cap,v= .slice ad xs.length cap∧xs.length≤cap∧(0<xs.length→ad≠none):=by
  have Qq:=hx
  generalize xA:[v]=vs at Qq
  cases Qq with
  |list ad cap _ a7 off IR f g1 g2 g3 g4 g5=>exact ⟨ad,cap,by simpa using xA,g1,fun h0 hn=>by rw [g2 h0] at hn;cases hn⟩
 have bJ:(callFunc f [v].toArray).run P W= .ok (.enter f #[v]) W:=by
  have CP: ¬fn.name= "runtime.NumGoroutine" :=by simpa using zp
  simp [callFunc,hf,CP,oJ]
 unfold fe
 rw [bJ]
 refine calls_of_wp hf oJ ?_
 rw [hn]
 have ha0:({tmps:= #[v]++Array.replicate (8-(#[v]:Array Value).size) undef,defers:=[]}:Act)={tmps:= #[v,undef,undef,undef,undef,undef,undef,undef],defers:=[]}:=rfl
 rw [ha0]
 have afI:List.range (#[oA]:Array Oper).size=[0]:=rfl
 have afJ:List.range (#[oB,oC]:Array Oper).size=[0,1]:=rfl
 have afK:List.range (#[oE,oF,oG,oH]:Array Oper).size=[0,1,2,3]:=rfl
 have afL:List.range (#[oD]:Array Oper).size=[0]:=rfl
 have fin: ∀(a:Act) (W':World) (v':Value) (cells:List Value),a.defers=[]→a.tmps.getD 2 undef=v'→(∃φ',Trans Z φ W φ' W'∧yC φ' W'∧mr c Z φ' W' (c.key f) v' (.fresh xs))→
  bodyPost P fn (fun x wZ=> ∃v,x= .returned v∧ ∃φ',Trans Z φ W φ' wZ∧yC φ' wZ∧mr c Z φ' wZ (c.key f) v (.fresh xs)) .ret a W':=by
  intro a W' v' cells hd h2 h3
  refine ⟨hd,v',?_,v',rfl,h3⟩
  have Jj:a.tmps[2]?.getD undef=v':=by simpa using h2
  simp [results,hr,Jj]
 refine wp_seq (wp_region ?_)
 rw [afI]
 refine sv (o:=oA) rfl hA.guard (v:= .slice none 0 0) (w':=W) (by simp [execOp,hA.op];rfl) ?_
 rw [hA.dst]
 refine wp_seq (wp_seq (wp_region ?_))
 rw [afJ]
 refine sv (o:=oB) rfl hB.guard (v:=v) (w':=W) (by simp [execOp,hB.op];rfl) ?_
 rw [hB.dst]
 refine sv (o:=oC) rfl hC.guard (v:= .bool ad.isNone) (w':=W) (Pe hu hC.op (by rw [←hv];rfl)) ?_
 rw [hC.dst]
 refine wp_cond (t:=ad.isNone) rfl ?_
 cases Jq:ad.isNone with
 |true=>
  have Jq:ad=none:=by simpa using Jq
  have hxs:xs=[]:=by
   cases xs with
   |nil=>rfl
   |cons y ys=>exact absurd Jq (hnn (by simp))
  simp only [if_true]
  refine wp_seq (wp_region ?_)
  rw [afL]
  refine sv (o:=oD) rfl hD.guard (v:= .slice none 0 0) (w':=W) (by simp [execOp,hD.op];rfl) ?_
  rw [hD.dst]
  refine wp_ret ?_
  refine fin _ W (.slice none 0 0) [] rfl rfl ⟨φ,.refl _ _ _,iZ,?_⟩
  show cQ c (bC.plain Z) (nO c.key φ) W _ ⟨c.ra (c.key f),false,xs⟩
  rw [AB,hxs]
  exact ⟨E,[],mN,nK,⟨by simp,.inl ⟨rfl,rfl⟩⟩,rfl,fun a7 hb=>by simp [Value.ownBlock] at hb⟩
 |false=>
  simp only [Bool.false_eq_true,if_false]
  refine wp_skip ?_
  refine wp_seq (wp_region ?_)
  rw [afK]
  have abN:=Nd (P:=P) (c:=c) (w:=W) (t:=t) (I:=I) (vs:=[]) (parts:= #[]) hu mN nK dZ hT (by simp) (by simp) rfl
  simp only [List.length_nil,List.flatMap_nil] at abN
  refine sv (o:=oE) rfl hEo.guard (v:= .slice (some ⟨W.heap.size,0,none⟩) 0 0) (w':=W.alloc (.cells #[] I.elem)) (by simp [execOp,hEo.op,abN]) ?_
  rw [hEo.dst]
  refine sv (o:=oF) rfl hF.guard (v:=v) (w':=W.alloc (.cells #[] I.elem)) (by simp [execOp,hF.op];rfl) ?_
  rw [hF.dst]
  obtain ⟨news,sY⟩:=YW iZ dZ hx hw
  have IY:dc W (W.alloc (.cells #[] I.elem)):= .alloc W _ _
  have abO:Src (nO c.key φ) (W.alloc (.cells #[] I.elem)) E.size v xs news:=by
   obtain ⟨ad',X9,q1,q2,q3⟩:=sY.val
   exact ⟨sY.Yh,ad',X9,q1,q2,fun x hx j u hj=>IY.cell (q3 x hx j u hj)⟩
  have dg:(W.alloc (.cells #[] I.elem)).ownsRow 0 I.elem E.size (.slice (some ⟨W.heap.size,0,none⟩) 0 0) 0 []:=
   ⟨by simp,.inr ⟨W.heap.size,0, #[],rfl,Nat.zero_le _,jW W _,Nat.le_refl _,Nat.zero_le _,by simp,by simp⟩⟩
  obtain ⟨v',W',GJ,sZ⟩:=yB (P:=P) (c:=c) (ty:=oG.type) (e:=nO c.key φ) hu mN nK dZ hT vY dg abO (by simpa using mO)
  refine sv (o:=oG) rfl hG.guard (v:=v') (w':=W') (by
   have e1: ∀(a:Act),a.eval (.tmp 5)= .slice (some ⟨W.heap.size,0,none⟩) 0 0→a.eval (.tmp 6)=v→(execOp a.eval oG).run P (W.alloc (.cells #[] I.elem))= .ok (.value v') W':=by
    intro a h5 h6
    simp [execOp,hG.op,resolve,invoke,builtin,h5,h6,GJ]
   exact e1 _ rfl rfl) ?_
  rw [hG.dst]
  refine sv (o:=oH) rfl hH.guard (v:=v') (w':=W') (by simp [execOp,hH.op];rfl) ?_
  rw [hH.dst]
  refine wp_ret ?_
  refine fin _ W' v' [] rfl rfl ?_
  have qk:W.heap.size≤W'.heap.size:=Nat.le_trans IY.size sZ.size
  have hold: ∀b,b<W.heap.size→W'.heap[b]? =W.heap[b]? :=by
   intro b hb
   rw [sZ.Ae b (Nat.lt_of_lt_of_le hb IY.size) (by simp [Value.ownBlock];omega)]
   exact IY.Ae b hb
  refine ⟨φ,⟨.refl _,fun b _ hb=>hold b hb,fun _ _ _=>rfl,qk,IY.rest.trans sZ.rest⟩,?_,?_⟩
  ·intro b o u hbo
   have h1:=iZ b o u hbo
   rw [World.cell?_of_block (hold b (World.block_lt_of_cell? W _ h1))];exact h1
  ·show cQ c (bC.plain Z) (nO c.key φ) W' v' ⟨c.ra (c.key f),false,xs⟩
   rw [AB]
   refine ⟨E,news,mN,nK,by simpa using sZ.own,sY.Yh,fun a7 hb=> ?_⟩
   have jk:W.heap.size≤a7:=by
    rcases sZ.place with h1|h1
    ·rw [h1] at hb;simp [Value.ownBlock] at hb;omega
    ·rw [h1] at hb
     cases hb
     exact IY.size
   refine ⟨hz a7 jk,fun off u hu=> ?_,fun hc=>hc.elim⟩
   have:=World.block_lt_of_cell? W _ (iZ _ _ _ hu)
   have:a7<W.heap.size:=this
   omega
end
end Dn
/-
  Tables of functions. Conditions: none.
-/
namespace Dn
open Go
structure ap (P:Program) (c:Ctx) (g:Nat→List MV→Option MV):Prop where
 all: ∀f ms r,g (c.key f) ms=some r→kp P c f ms r
abbrev bn (n:Nat) (F:List MV→Option MV) (g:Nat→List MV→Option MV):Nat→List MV→Option MV:=fun k ms=>match Nat.beq k n with|true=>F ms|false=>g k ms
theorem ap.add {P:Program} {c:Ctx} {g:Nat→List MV→Option MV} {n:Nat} {F:List MV→Option MV} (h:ap P c g) (hF: ∀f ms r,c.key f=n→F ms=some r→kp P c f ms r):ap P c (bn n F g):=by
 refine ⟨fun f ms r hr=> ?_⟩
 unfold bn at hr
 cases hk:Nat.beq (c.key f) n with
 |true=>simp only [hk] at hr;exact hF f ms r (Nat.eq_of_beq_eq_true hk) hr
 |false=>simp only [hk] at hr;exact h.all f ms r hr
structure zw (c c':Ctx):Prop where
 ti:c'.ti=c.ti
 key:c'.key=c.key
 dP:c'.dP=c.dP
 fresh:c'.fresh=c.fresh
 ra:c'.ra=c.ra
 fk:c'.fk=c.fk
 mt:c'.mt=c.mt
 sig:c'.sig=c.sig
 Hq:c'.Hq=c.Hq
theorem cQ.nQ {c c':Ctx} (h:c'.ti=c.ti) {Z:bC} {e:Env} {w:World} {v:Value} {o:mQ} (hs:cQ c Z e w v o):cQ c' Z e w v o:=by
 obtain ⟨I,cells,h1,h2⟩:=hs.row
 exact ⟨I,cells,by rw [h];exact h1,h2⟩
theorem mr.nQ {c c':Ctx} (h:zw c c') {Z:Nat→Prop} {φ:Ph} {w:World} {k:Nat} {v:Value} {r:MV} (hs:mr c Z φ w k v r):mr c' Z φ w k v r:=by
 cases r<;>simp only [mr,h.key,h.ra] at hs⊢ <;>first|exact hs|exact hs.nQ h.ti
theorem mV.nQ {c c':Ctx} (h:zw c c') {Z:Nat→Prop} {φ:Ph} {w:World} {a7:Nat} {ks:List LK} {ls:List MV} (hs:mV c Z φ w a7 ks ls):mV c' Z φ w a7 ks ls:=by
 obtain ⟨cs,m,E,arr,T,h1,h2,h3,h4,h5,h6,h7⟩:=hs
 refine ⟨cs,m,E,arr,T,h1,h2,h3,h4,by rw [h.key];exact h5,fun f o ho=>⟨?_,(h6 f o ho).2⟩,h7⟩
 rw [h.key]
 exact (h6 f o ho).1.nQ h.ti
theorem ya.nQ {c c':Ctx} (h:zw c c') {Z:Nat→Prop} {φ:Ph} {w:World} {k:Nat} {vs:List Value} {v:Value} {r:MV} (hs:ya c Z φ w k vs v r):ya c' Z φ w k vs v r:=by
 cases r<;>simp only [ya] at hs⊢ <;>first|exact hs.nQ h|skip
 obtain ⟨h1,pos,ks,a7,off,h2,h3,h4⟩:=hs
 exact ⟨h1.nQ h,pos,ks,a7,off,by rw [h.sig];exact h2,h3,h4.nQ h⟩
theorem ew.nQ {c c':Ctx} (h:zw c c') {Z:Nat→Prop} {φ:Ph} {w:World} {k:Nat} {vs:List Value} {ms:List MV} (hs:ew c' Z φ w k vs ms):ew c Z φ w k vs ms:=by
 unfold ew at hs⊢
 rw [h.dP] at hs
 split
 ·rename_i hg
  rw [if_pos hg] at hs
  rcases hs with ⟨v0,v1,v2,xs,m1,ys,h1,h2,h3,h4,h5,h6⟩|⟨v0,v1,v2,xs,m1,m2,h1,h2,h3,h4,h5,h6⟩|⟨pos,ks,off,ls,a7,h1,h2,h3,h4,h5⟩
  ·rw [h.key,h.ra] at h3 h5
   rw [h.key] at h4
   exact .inl ⟨v0,v1,v2,xs,m1,ys,h1,h2,h3.nQ h.ti.symm,h4,h5.nQ h.ti.symm,h6⟩
  ·rw [h.key,h.ra] at h4
   rw [h.key] at h5 h6
   exact .inr (.inl ⟨v0,v1,v2,xs,m1,m2,h1,h2,h3,h4.nQ h.ti.symm,h5,h6⟩)
  ·refine .inr (.inr ⟨pos,ks,off,ls,a7,by rw [←h.sig];exact h1,h2,h3,by rw [←h.key];exact h4,?_⟩)
   obtain ⟨cs,m,E,arr,T,k1,k2,k3,k4,k5,k6,k7⟩:=h5
   refine ⟨cs,m,E,arr,T,k1,k2,k3,k4,by rw [←h.key];exact k5,fun f o ho=>⟨?_,(k6 f o ho).2⟩,k7⟩
   rw [←h.key]
   exact (k6 f o ho).1.nQ h.ti.symm
 ·rename_i hg
  rw [if_neg hg,h.key] at hs
  exact hs
theorem fe.mono {P:Program} {f:FuncId} {args:Array Value} {w:World} {R R':Value→World→Prop} (hc:fe P f args w R) (h: ∀v w',R v w'→R' v w'):fe P f args w R':=by
 unfold fe at hc⊢
 split
 ·rename_i iH
  rw [iH] at hc
  exact Calls.mono hc (fun x wZ ⟨v,e,hr⟩=>⟨v,e,h v wZ hr⟩)
 ·rename_i iH
  rw [iH] at hc
  exact h _ _ hc
 ·rename_i h1 h2
  split at hc
  ·rename_i iH;exact absurd iH (h1 _ _ _)
  ·rename_i iH;exact absurd iH (h2 _ _)
  ·exact hc
theorem kp.nQ {P:Program} {c c':Ctx} {f:Nat} {ms:List MV} {r:MV} (h:zw c c') (hs:kp P c f ms r):kp P c' f ms r:=by
 intro φ w Z vs hz ha hi
 rw [h.key] at ha
 refine (hs φ w Z vs hz (ha.nQ h) hi).mono ?_
 rintro v w' ⟨φ',h1,h2,h3⟩
 rw [h.key]
 exact ⟨φ',h1,h2,h3.nQ h⟩
theorem zw.symm {c c':Ctx} (h:zw c c'):zw c' c:=⟨h.ti.symm,h.key.symm,h.dP.symm,h.fresh.symm,h.ra.symm,h.fk.symm,h.mt.symm,h.sig.symm,h.Hq.symm⟩
theorem um.nQ {P:Program} {c c':Ctx} (h:zw c c') {g:Nat} {lb:Array Value} {S:Type} {Inv:S→(Nat→Prop)→Ph→World→Prop} {step:S→MV→Option (Bool×S)} (hp:um P c' g lb Inv step):um P c g lb Inv step:=
 ⟨fun h1 h2 h3 h4 h5=>hp.call h1 h2 h3 (by rw [h.key];exact h4) h5,hp.frame,hp.mono⟩
theorem uo.nQ {P:Program} {c c':Ctx} (h:zw c c') (hd:uo P c):uo P c':=by
 intro f hf
 rw [h.Hq] at hf
 have hx:=hd f hf
 refine ⟨?_⟩
 intro S Inv step g lb hp v0 xs ys w Z0 φ0 s0 s' h1 h2 h3 h4 h5 h6 h7
 rw [h.key,h.ra] at h2
 refine (hx.run (hp.nQ h) h1 (h2.nQ h.ti.symm) h3 h4 h5 h6 h7).mono ?_
 rintro v W ⟨Z,φ,hW,hF,hb⟩
 refine ⟨Z,φ,⟨hW.inv,hW.new,hW.sub,hW.nx,hW.tr,hW.free⟩,?_,hb⟩
 rw [h.key,h.ra]
 exact hF.nQ h.ti
def J0 (c:Ctx) (n:Nat) (fn:Func) (bS:List (List Kd)):Bool:=
 !(fn.name== "runtime.NumGoroutine")&&Nat.beq c.n fn.ntmps&&Nat.ble (fn.params.size+bS.length) fn.ntmps&&!c.dP n
theorem ap.body {P:Program} {c c':Ctx} {g:Nat→List MV→Option MV} {n:Nat} {fn:Func} {bS:List (List Kd)} (h:ap P c g) (hl:zw c c') (Xo:c'.g=g) (rc:kn P c.ti) (iH:Lv P c.ti) (HD: ∀t k,c.fk t=some k→P.underlying t=some (.float k)) (Nu:As P c) (JZ:P.follows .mixedOrders=true) (H4:uo P c)
 (hf:P.funcs[n]? =some fn) (hh:J0 c' n fn bS=true) (zh: ∀f,c.key f=f):ap P c (bn n (Ga c' bS none fn) g):=by
 have hG:Good P c':=by
  refine ⟨by rw [hl.ti];exact rc,by rw [hl.ti];exact iH,fun f ms r hr=> ?_,by rw [hl.fk];exact HD,fun t s hs=>Nu t s ?_⟩
  ·rw [Xo,hl.key] at hr
   exact (h.all f ms r hr).nQ hl
  ·rw [←hs];unfold tR Ctx.tv;rw [hl.mt,hl.ti]
 refine h.add (fun f ms r hk hr=> ?_)
 rw [zh] at hk
 subst hk
 simp only [J0,Bool.and_eq_true,Bool.not_eq_true'] at hh
 obtain ⟨⟨⟨h1,h2⟩,h3⟩,h4⟩:=hh
 exact (U4 hG (JY hG JZ (H4.nQ hl)) hf h1 (Nat.eq_of_beq_eq_true h2) (Nat.le_of_ble_eq_true h3) (by rw [hl.key,zh];exact h4) hr).nQ hl.symm
def NI (c:Ctx) (n:Nat) (fn:Func) (bS:List (List Kd)):Bool:=
 !(fn.name== "runtime.NumGoroutine")&&Nat.beq c.n fn.ntmps&&Nat.ble fn.ntmps 1000000&&Nat.ble (fn.params.size+bS.length) fn.ntmps&&c.dP n
theorem ap.La {P:Program} {c:Ctx} {g:Nat→List MV→Option MV} {n pos:Nat} {ks:List LK} {fn:Func} {bS:List (List Kd)} {F:List MV→Option MV} (h:ap P c g) (rc:kn P c.ti) (iH:Lv P c.ti) (HD: ∀t k,c.fk t=some k→P.underlying t=some (.float k)) (Nu:As P c) (JZ:P.follows .mixedOrders=true) (H4:uo P c)
 (hf:P.funcs[n]? =some fn) (xB:c.sig n=some (pos,ks)) (zh: ∀f,c.key f=f) (hF: ∀{ms r},F ms=some r→ ∃c':Ctx,zw c c'∧c'.g=g∧NI c' n fn bS=true∧F9 c' bS pos ks fn ms=some r):ap P c (bn n F g):=by
 refine h.add (fun f ms r hk hr=> ?_)
 rw [zh] at hk
 subst hk
 obtain ⟨c',hl,Xo,hh,hr⟩:=hF hr
 have hG:Good P c':=by
  refine ⟨by rw [hl.ti];exact rc,by rw [hl.ti];exact iH,fun f ms r hr=> ?_,by rw [hl.fk];exact HD,fun t s hs=>Nu t s ?_⟩
  ·rw [Xo,hl.key] at hr
   exact (h.all f ms r hr).nQ hl
  ·rw [←hs];unfold tR Ctx.tv;rw [hl.mt,hl.ti]
 simp only [NI,Bool.and_eq_true,Bool.not_eq_true'] at hh
 obtain ⟨⟨⟨⟨h1,h2⟩,Jj⟩,h3⟩,h4⟩:=hh
 exact (Sg hG (JY hG JZ (H4.nQ hl)) hf h1 (Nat.eq_of_beq_eq_true h2) (Nat.le_of_ble_eq_true Jj) (Nat.le_of_ble_eq_true h3) (by rw [hl.key,zh];exact h4) (by rw [hl.sig,hl.key,zh];exact xB) hr).nQ hl.symm
end Dn
/-
  Steps through a function of the library by hand. Conditions: none.
-/
set_option linter.unusedSimpArgs false
set_option linter.unusedVariables false
namespace Dn
open Go
def wc (σ:Nat→Value) (d:Nat) (v:Value):Nat→Value:=fun t=>bif Nat.beq t d then v else σ t
def ev (σ:Nat→Value):Operand→Value
 | .tmp t=>σ t
 | .const v=>v
 | .global g=> .pointer (some ⟨g,0,none⟩)
 | .func f=> .func (.func f) #[] #[]
structure Tm (a:Act) (n:Nat) (σ:Nat→Value):Prop where
 defers:a.defers=[]
 size:a.tmps.size=n
 get: ∀t,a.tmps.getD t undef=σ t
theorem Tm.eval {a:Act} {n:Nat} {σ:Nat→Value} (h:Tm a n σ):a.eval=ev σ:=by
 funext x
 cases x with
 |tmp t=>exact h.get t
 |_=>rfl
theorem Tm.put {a:Act} {n:Nat} {σ:Nat→Value} (h:Tm a n σ) {d:Nat} (hd:d<n) (v:Value):Tm (a.put (some d) v) n (wc σ d v):=by
 refine ⟨h.defers,by simp [Act.put,h.size],fun t=> ?_⟩
 show (a.tmps.setIfInBounds d v).getD t undef=bif Nat.beq t d then v else σ t
 by_cases ht:t=d
 ·subst ht
  have:t<a.tmps.size:=by rw [h.size];exact hd
  simp [this]
 ·have hb:Nat.beq t d=false:=by
   cases hq:Nat.beq t d with
   |false=>rfl
   |true=>exact absurd (Nat.eq_of_beq_eq_true hq) ht
  rw [hb]
  have:=h.get t
  simp only [Array.getD_eq_getD_getElem?,Array.getElem?_setIfInBounds_ne (Ne.symm ht),cond_false] at this⊢
  exact this
theorem tm3 (v0 v1 v2:Value) (k:Nat):Tm {tmps:= #[v0,v1,v2]++Array.replicate k undef,defers:=[]} (k+3) (wc (wc (wc (fun _=>undef) 0 v0) 1 v1) 2 v2):=by
 refine ⟨rfl,by simp [Nat.add_comm],fun q=> ?_⟩
 by_cases h0:q=0
 ·subst h0;show (#[v0,v1,v2]++Array.replicate k undef).getD 0 undef=v0;simp [Array.getElem?_append]
 by_cases h1:q=1
 ·subst h1;show (#[v0,v1,v2]++Array.replicate k undef).getD 1 undef=v1;simp [Array.getElem?_append]
 by_cases h2:q=2
 ·subst h2;show (#[v0,v1,v2]++Array.replicate k undef).getD 2 undef=v2;simp [Array.getElem?_append]
 have e: ∀{x y:Nat},x≠y→Nat.beq x y=false:=fun {x y} h=>by
  cases hq:Nat.beq x y with
  |false=>rfl
  |true=>exact absurd (Nat.eq_of_beq_eq_true hq) h
 simp only [wc,e h0,e h1,e h2,cond_false]
 have h3:3≤q:=by omega
 simp [Array.getElem?_append,Array.getElem?_replicate,show¬q<3 by omega]
 by_cases hk:q-3<k<;>simp [hk]
section
variable {P:Program} {Q:Exit→Act→World→Prop} {ops:Array Oper} {o:Oper} {a:Act} {w w':World} {n:Nat} {σ:Nat→Value}
theorem Tm.step {i d:Nat} {op:Op} {rest:List Nat} {v:Value} (aA:Tm a n σ) (hi:ops[i]? =some o) (ho:aJ o d op) (hd:d<n) (bJ:(execOp (ev σ) o).run P w= .ok (.value v) w')
 (h: ∀a',Tm a' n (wc σ d v)→wpOps P ops Q rest a' w'):wpOps P ops Q (i::rest) a w:=by
 refine sv hi ho.guard (v:=v) (w':=w') (by rw [aA.eval];exact bJ) ?_
 rw [ho.dst]
 exact h _ (aA.put hd v)
theorem aI {d:Nat} {x:Operand} {e:Operand→Value} (ho:aJ o d (.move x)) (w:World):(execOp e o).run P w= .ok (.value (e x)) w:=by simp [execOp,ho.op]
theorem cy {d:Nat} {x:Operand} {e:Operand→Value} (ho:aJ o d (.assign x)) (w:World):(execOp e o).run P w= .ok (.value (e x)) w:=by simp [execOp,ho.op]
theorem lY {d:Nat} {t el:TypeId} {x:Operand} {e:Operand→Value} {ad:Option Addr} {m c:Nat} (ho:aJ o d (.call {callee:= .builtin .len,args:= #[x],argTypes:= #[t]})) (hu:P.underlying t=some (.slice el)) (hx:e x= .slice ad m c) (w:World):
 (execOp e o).run P w= .ok (.value (.int .i64 m)) w:=by simp [execOp,ho.op,resolve,invoke,builtin,hx,Builtin.len_,goInt,run_underlying hu]
theorem NJ {d:Nat} {t el:TypeId} {x:Operand} {e:Operand→Value} {ad:Option Addr} {m c:Nat} (ho:aJ o d (.call {callee:= .builtin .cap,args:= #[x],argTypes:= #[t]})) (hu:P.underlying t=some (.slice el)) (hx:e x= .slice ad m c) (w:World):
 (execOp e o).run P w= .ok (.value (.int .i64 c)) w:=by simp [execOp,ho.op,resolve,invoke,builtin,hx,Builtin.cap_,goInt,run_underlying hu]
theorem we {d:Nat} {op:BinOp} {t t':TypeId} {x y:Operand} {e:Operand→Value} {k:IntKind} {p q:Int} {v:Value} (ho:aJ o d (.binOp op t x y t')) (hx:e x= .int k p) (hy:e y= .int k q)
 (hv: ∀w:World,(Go.binOp op t (.int k p) (.int k q)).run P w= .ok v w) (w:World):(execOp e o).run P w= .ok (.value v) w:=by
 have hg:(eqGuard op t x y (.int k p) (.int k q)).run P w= .ok () w:=by cases op<;>rfl
 simp [execOp,ho.op,hx,hy,hg,hv]
theorem n7 {d:Nat} {t t':TypeId} {x y:Operand} {e:Operand→Value} {p q:Int} (ho:aJ o d (.binOp .eql t x y t')) (hx:e x= .int .i64 p) (hy:e y= .int .i64 q) (w:World):
 (execOp e o).run P w= .ok (.value (.bool (decide (p=q)))) w:=we ho hx hy (fun w=>by simp [Go.binOp,Op.intCmp];rfl) w
theorem J1 {d:Nat} {t t':TypeId} {x y:Operand} {e:Operand→Value} {p q:Int} (ho:aJ o d (.binOp .gtr t x y t')) (hx:e x= .int .i64 p) (hy:e y= .int .i64 q) (w:World):
 (execOp e o).run P w= .ok (.value (.bool (decide (q<p)))) w:=we ho hx hy (fun w=>by simp [Go.binOp,Op.intCmp]) w
theorem jF {d:Nat} {t t':TypeId} {x y:Operand} {e:Operand→Value} {p q:Nat} (ho:aJ o d (.binOp .add t x y t')) (hx:e x= .int .i64 p) (hy:e y= .int .i64 q) (hl:p+q<2^63) (w:World):
 (execOp e o).run P w= .ok (.value (.int .i64 ((p+q:Nat):Int))) w:=we ho hx hy (fun w=>by
  have:IntKind.i64.wrap ((p:Int)+(q:Int))=((p+q:Nat):Int):=by rw [IntKind.wrap_i64];omega
  simp [Go.binOp,Op.intArith,this]) w
theorem Su {d:Nat} {t t':TypeId} {x y:Operand} {e:Operand→Value} {p q:Nat} (ho:aJ o d (.binOp .sub t x y t')) (hx:e x= .int .i64 p) (hy:e y= .int .i64 q) (hl:p<2^63) (hq:q≤p) (w:World):
 (execOp e o).run P w= .ok (.value (.int .i64 ((p-q:Nat):Int))) w:=we ho hx hy (fun w=>by
  have:IntKind.i64.wrap ((p:Int)-(q:Int))=((p-q:Nat):Int):=by rw [IntKind.wrap_i64];omega
  simp [Go.binOp,Op.intArith,this]) w
theorem NK {d:Nat} {t:TypeId} {x:Operand} {e:Operand→Value} {b:Bool} (ho:aJ o d (.unOp .not t x)) (hx:e x= .bool b) (w:World):
 (execOp e o).run P w= .ok (.value (.bool (!b))) w:=by simp [execOp,ho.op,hx,Op.unary]
theorem wg {d:Nat} {t el:TypeId} {x y:Operand} {e:Operand→Value} {ad:Option Addr} {m c l size:Nat} {i:TypeInfo} (ho:aJ o d (.slice t x (some y) none none)) (hu:P.underlying t=some (.slice el)) (hi:P.info? el=some i) (hs:i.size=size)
 (hx:e x= .slice ad m c) (hy:e y= .int .i64 l) (hl:l≤m) (w:World):(execOp e o).run P w= .ok (.value (.slice (if c=l then ad else ad.map (·.add (l *size))) (m-l) (c-l))) w:=by
 simp [execOp,ho.op,Instr.sliceAt,Instr.slice,run_underlying hu,hx,hy,Go.sizeOf,typeInfo,hi,hs,Instr.sliceBounds,Instr.sliceBound,asIntOf,hl]
theorem zx {d:Nat} {t el:TypeId} {x y:Operand} {e:Operand→Value} {ad:Option Addr} {m c l size:Nat} {i:TypeInfo} (ho:aJ o d (.slice t x none (some y) none)) (hu:P.underlying t=some (.slice el)) (hi:P.info? el=some i) (hs:i.size=size)
 (hx:e x= .slice ad m c) (hy:e y= .int .i64 l) (hl:l≤c) (w:World):(execOp e o).run P w= .ok (.value (.slice ad l c)) w:=by
 have h0: ∀q:Addr,q.add 0=q:=fun q=>by obtain ⟨b,o,s⟩:=q;cases s<;>simp [Addr.add]
 have:(if c=0 then ad else ad.map (·.add (0 *size)))=ad:=by
  cases ad<;>simp [h0]
 simp [execOp,ho.op,Instr.sliceAt,Instr.slice,run_underlying hu,hx,hy,Go.sizeOf,typeInfo,hi,hs,Instr.sliceBounds,Instr.sliceBound,asIntOf,hl]
 cases ad<;>simp [h0]
theorem mK {d:Nat} {t el:TypeId} {x y:Operand} {e:Operand→Value} {g m c l size:Nat} {i:TypeInfo} (ho:aJ o d (.slice t x (some y) none none)) (hu:P.underlying t=some (.slice el)) (hi:P.info? el=some i) (hs:i.size=size)
 (hx:e x= .slice (some ⟨g,0,none⟩) m c) (hy:e y= .int .i64 l) (hl:l≤m) (hc:l<c) (w:World):(execOp e o).run P w= .ok (.value (.slice (some ⟨g,l *size,none⟩) (m-l) (c-l))) w:=by
 rw [wg ho hu hi hs hx hy hl w]
 have: ¬c=l:=by omega
 have h0:(⟨g,0,none⟩:Addr).add (l *size)=⟨g,l *size,none⟩:=by
  have:=Addr.add_mid g 0 (l *size)
  rwa [Nat.zero_add] at this
 simp [this,h0]
theorem Vo {d:Nat} {x y:Operand} {t1 t2:TypeId} {f:FuncId} {e:Operand→Value} {v1 v2 v:Value} (ho:aJ o d (.call {callee:= .value (.func f),args:= #[x,y],argTypes:= #[t1,t2]})) (he:e (.func f)= .func (.func f) #[] #[]) (hx:e x=v1) (hy:e y=v2)
 (h:(callFunc f #[v1,v2]).run P w= .ok (.value v) w'):(execOp e o).run P w= .ok (.value v) w':=by
 simp [execOp,ho.op,resolve,invoke,builtin,he,hx,hy,Deferred.ofValue,h]
theorem DA {d:Nat} {x y:Operand} {t1 t2:TypeId} {e:Operand→Value} {v1 v2 v:Value} (ho:aJ o d (.call {callee:= .builtin .append,args:= #[x,y],argTypes:= #[t1,t2]})) (hx:e x=v1) (hy:e y=v2)
 (h:(Builtin.append_ #[t1,t2] o.type #[v1,v2]).run P w= .ok v w'):(execOp e o).run P w= .ok (.value v) w':=by
 simp [execOp,ho.op,resolve,invoke,builtin,hx,hy,h]
theorem zy {d:Nat} {x y:Operand} {t1 t2:TypeId} {e:Operand→Value} {v1 v2 v:Value} (ho:aJ o d (.call {callee:= .builtin .copy,args:= #[x,y],argTypes:= #[t1,t2]})) (hx:e x=v1) (hy:e y=v2)
 (h:(Builtin.copy_ #[t1,t2] o.type #[v1,v2]).run P w= .ok v w'):(execOp e o).run P w= .ok (.value v) w':=by
 simp [execOp,ho.op,resolve,invoke,builtin,hx,hy,h]
theorem n8 {dT sT ty elem t:TypeId} {g o Vp YX Vq YY size k:Nat} {a:Addr} {cW:Array Value} {cs:List Value} {i:TypeInfo} (hu:P.underlying dT=some (.slice elem)) (hi:P.info? elem=some i) (hs:i.size=size)
 (hg:w.heap[g]? =some (.cells cW t (0,0))) (hk:Nat.min Vq Vp=k) (hn:cs.length=k *size)
 (sY: ∀(j:Nat) v,cs[j]? =some v→w.cell? (a.add j)=some v) (vV:o+cs.length≤cW.size) (h1: ∀v∈cs,v.oneCell'=true):
 (Builtin.copy_ #[dT,sT] ty #[.slice (some ⟨g,o,none⟩) Vp YX,.slice (some a) Vq YY]).run P w=
  .ok (goInt k) (w.setRow g (cW.toList.take o++cs++cW.toList.drop (o+cs.length)).toArray):=by
 have hl:=run_loadCells_list (P:=P) w a cs sY
 have dM:=run_storeCells_at P g o t cs 0 cW w hg (by simpa using vV) h1
 simp only [Nat.add_zero] at dM
 simp [Builtin.copy_,run_underlying hu,Builtin.lenOf,Builtin.firstCells,Go.sizeOf,typeInfo,hi,hs,hk,←hn,hl,dM]
def J3 (ops:Array Oper):Nat→Nat→Array Bool→Bool
 |0,i,listed=>(Region.ready .any ops (listed.setIfInBounds i true)).isEmpty&&(Region.ready .any ops listed==[i])
 |k+1,i,listed=>Region.free .any ops listed i&&(Region.ready .any ops listed).contains i&&J3 ops k (i+1) (listed.setIfInBounds i true)
def NL (ops:Array Oper):Bool:=Region.noSelect ops&&Nat.blt 0 ops.size&&J3 ops (ops.size-1) 0 (Array.replicate ops.size false)
structure NM (ops:Array Oper) (k i:Nat) (listed:Array Bool):Prop where
 sel:Region.noSelect ops=true
 ord:J3 ops k i listed=true
theorem Tm.draw {N:Act→World→Prop} {i d:Nat} {op:Op} {k:Nat} {listed:Array Bool} {v:Value} (aA:Tm a n σ) (hi:ops[i]? =some o) (ho:aJ o d op) (hd:d<n) (hb:NM ops (k+1) i listed) (bJ: ∀w,(execOp (ev σ) o).run P w= .ok (.value v) w)
 (h: ∀a',Tm a' n (wc σ d v)→NM ops k (i+1) (listed.setIfInBounds i true)→wpAny P .any ops (pO N) (k+1) (listed.setIfInBounds i true) a' w):wpAny P .any ops (pO N) (k+2) listed a w:=by
 obtain ⟨hs,hb⟩:=hb
 simp only [J3,Bool.and_eq_true] at hb
 obtain ⟨⟨h1,h2⟩,h3⟩:=hb
 refine wpAny_take hi hs h1 h2 (fun c a w hq=>hq.elim) (v:=v) (.inl ⟨by simp [Region.wanted,ho.guard],fun w=>by rw [aA.eval];exact bJ w⟩) ?_
 rw [ho.dst]
 exact h _ (aA.put hd v) ⟨hs,h3⟩
theorem Tm.last {N:Act→World→Prop} {i d:Nat} {op:Op} {listed:Array Bool} {v:Value} (aA:Tm a n σ) (hi:ops[i]? =some o) (ho:aJ o d op) (hd:d<n) (hb:NM ops 0 i listed) (bJ:(execOp (ev σ) o).run P w= .ok (.value v) w')
 (h: ∀a',Tm a' n (wc σ d v)→N a' w'):wpAny P .any ops (pO N) 1 listed a w:=by
 obtain ⟨hs,hb⟩:=hb
 simp only [J3,Bool.and_eq_true,List.isEmpty_iff,beq_iff_eq] at hb
 obtain ⟨h1,h2⟩:=hb
 refine wpAny_all h2 (by simp) ?_
 intro j hj
 simp only [List.mem_singleton] at hj
 subst hj
 unfold wpOp
 simp only [hi,Region.wanted,ho.guard,if_true]
 left
 unfold Oper.wp
 rw [aA.eval,bJ,Oper.upon_value,ho.dst]
 exact wpAny_done h1 (h _ (aA.put hd v)) 0
theorem NN {id k:Nat} (hm:P.follows .mixedOrders=true) (hb:NL ops=true) (hk:ops.size=k+1) (h:NM ops k 0 (Array.replicate (k+1) false)→wpAny P .any ops (pO fun a w=>Q .normal a w) (k+1) (Array.replicate (k+1) false) a {w with drawn:=w.drawn+1}):
 (Code.region id ops true).wp P Q a w:=by
 simp only [NL,Bool.and_eq_true] at hb
 rw [hk] at hb
 refine Code.wp_mono ?_ (wp_region_any (Q:=pO fun a w=>Q .normal a w) hm (by rw [hk];exact h ⟨hb.1.1,hb.2⟩))
 intro x a' w' hx
 cases x<;>first|exact hx|exact hx.elim
theorem Tm.cond {x:Operand} {b:Bool} {A B:Code} (aA:Tm a n σ) (hx:ev σ x= .bool b) (h:(if b then A else B).wp P Q a w):(Code.cond x A B).wp P Q a w:=by
 refine wp_cond (t:=b) (by rw [aA.eval];exact hx) h
end
end Dn
/-
  slices.Insert of the library, walked. Printed by a program. Conditions: none.
-/
set_option linter.unusedSimpArgs false
set_option linter.unusedVariables false
namespace Dn
open Go
def uq (r:Nat→Nat) (o:Nat→Oper) (tail:Code):Code:=
 .seq (.region (r 0) #[o 0] false) (.seq (.region (r 1) #[o 1,o 2,o 3] false) (.seq (.region (r 2) #[o 4,o 5,o 6] false) (.seq (.seq (.region (r 3) #[o 7,o 8] false) (.cond (.tmp 16) (.seq (.region (r 4) #[o 9,o 10] false) .ret) .skip)) (.seq (.region (r 5) #[o 11,o 12,o 13] false) (.seq (.seq (.region (r 6) #[o 14,o 15,o 16] false) (.cond (.tmp 22) (.seq (.region (r 7) #[o 17,o 18,o 19,o 20] false) .ret) .skip)) (.seq (.seq (.region (r 8) #[o 21,o 22,o 23,o 24,o 25,o 26] false) (.cond (.tmp 31) (.seq (.region (r 9) #[o 27,o 28,o 29,o 30,o 31,o 32,o 33,o 34,o 35,o 36] false) (.seq (.region (r 10) #[o 37,o 38,o 39,o 40,o 41] false) (.seq (.region (r 11) #[o 42,o 43,o 44,o 45,o 46,o 47,o 48,o 49,o 50] true) (.seq (.region (r 12) #[o 51,o 52] false) .ret)))) .skip)) (.seq (.region (r 13) #[o 53,o 54,o 55,o 56,o 57,o 58] false) (.seq (.seq (.region (r 14) #[o 59,o 60,o 61,o 62,o 63,o 64,o 65,o 66] false) (.cond (.tmp 68) (.seq (.region (r 15) #[o 67,o 68,o 69,o 70,o 71,o 72,o 73,o 74,o 75] true) (.seq (.region (r 16) #[o 76,o 77,o 78,o 79,o 80] false) (.seq (.region (r 17) #[o 81,o 82] false) .ret))) .skip)) tail))))))))
structure YZ (t ti tb fo:Nat) (o:Nat→Oper):Prop where
 h0:aJ (o 0) 6 (.assign (.const (.slice none 0 0)))
 h1:aJ (o 1) 10 (.move (.tmp 0))
 h2:aJ (o 2) 11 (.move (.tmp 1))
 h3:aJ (o 3) 12 (.slice t (.tmp 10) (some (.tmp 11)) none none)
 h4:aJ (o 4) 13 (.move (.tmp 2))
 h5:aJ (o 5) 14 (.call {callee:= .builtin .len,args:= #[.tmp 13],argTypes:= #[t]})
 h6:aJ (o 6) 7 (.assign (.tmp 14))
 h7:aJ (o 7) 15 (.move (.tmp 7))
 h8:aJ (o 8) 16 (.binOp .eql ti (.tmp 15) (.const (.int .i64 0)) ti)
 h9:aJ (o 9) 17 (.move (.tmp 0))
 Nz:aJ (o 10) 6 (.assign (.tmp 17))
 L8:aJ (o 11) 18 (.move (.tmp 0))
 L9:aJ (o 12) 19 (.call {callee:= .builtin .len,args:= #[.tmp 18],argTypes:= #[t]})
 Ma:aJ (o 13) 8 (.assign (.tmp 19))
 Mb:aJ (o 14) 20 (.move (.tmp 1))
 Mc:aJ (o 15) 21 (.move (.tmp 8))
 Md:aJ (o 16) 22 (.binOp .eql ti (.tmp 20) (.tmp 21) ti)
 Sv:aJ (o 17) 23 (.move (.tmp 0))
 Xp:aJ (o 18) 24 (.move (.tmp 2))
 Xq:aJ (o 19) 25 (.call {callee:= .builtin .append,args:= #[.tmp 23,.tmp 24],argTypes:= #[t,t]})
 Xr:aJ (o 20) 6 (.assign (.tmp 25))
 Uh:aJ (o 21) 26 (.move (.tmp 8))
 Ui:aJ (o 22) 27 (.move (.tmp 7))
 Uj:aJ (o 23) 28 (.binOp .add ti (.tmp 26) (.tmp 27) ti)
 Uk:aJ (o 24) 29 (.move (.tmp 0))
 Ul:aJ (o 25) 30 (.call {callee:= .builtin .cap,args:= #[.tmp 29],argTypes:= #[t]})
 Um:aJ (o 26) 31 (.binOp .gtr ti (.tmp 28) (.tmp 30) ti)
 Xs:aJ (o 27) 32 (.move (.tmp 0))
 Xt:aJ (o 28) 33 (.move (.tmp 1))
 Xu:aJ (o 29) 34 (.slice t (.tmp 32) none (some (.tmp 33)) none)
 Sw:aJ (o 30) 35 (.move (.tmp 8))
 h31:aJ (o 31) 36 (.move (.tmp 7))
 h32:aJ (o 32) 37 (.binOp .add ti (.tmp 35) (.tmp 36) ti)
 h33:aJ (o 33) 38 (.move (.tmp 1))
 Y0:aJ (o 34) 39 (.binOp .sub ti (.tmp 37) (.tmp 38) ti)
 Y1:aJ (o 35) 40 (.call {callee:= .builtin .append,args:= #[.tmp 34,.tmp 39],argTypes:= #[t,ti]})
 Y2:aJ (o 36) 9 (.assign (.tmp 40))
 h37:aJ (o 37) 41 (.move (.tmp 9))
 h38:aJ (o 38) 42 (.move (.tmp 1))
 h39:aJ (o 39) 43 (.slice t (.tmp 41) (some (.tmp 42)) none none)
 h40:aJ (o 40) 44 (.move (.tmp 2))
 h41:aJ (o 41) 45 (.call {callee:= .builtin .copy,args:= #[.tmp 43,.tmp 44],argTypes:= #[t,t]})
 h42:aJ (o 42) 46 (.move (.tmp 9))
 h43:aJ (o 43) 47 (.move (.tmp 1))
 h44:aJ (o 44) 48 (.move (.tmp 7))
 h45:aJ (o 45) 49 (.binOp .add ti (.tmp 47) (.tmp 48) ti)
 h46:aJ (o 46) 50 (.slice t (.tmp 46) (some (.tmp 49)) none none)
 h47:aJ (o 47) 51 (.move (.tmp 0))
 h48:aJ (o 48) 52 (.move (.tmp 1))
 h49:aJ (o 49) 53 (.slice t (.tmp 51) (some (.tmp 52)) none none)
 h50:aJ (o 50) 54 (.call {callee:= .builtin .copy,args:= #[.tmp 50,.tmp 53],argTypes:= #[t,t]})
 h51:aJ (o 51) 55 (.move (.tmp 9))
 h52:aJ (o 52) 6 (.assign (.tmp 55))
 h53:aJ (o 53) 56 (.move (.tmp 0))
 h54:aJ (o 54) 57 (.move (.tmp 8))
 h55:aJ (o 55) 58 (.move (.tmp 7))
 h56:aJ (o 56) 59 (.binOp .add ti (.tmp 57) (.tmp 58) ti)
 h57:aJ (o 57) 60 (.slice t (.tmp 56) none (some (.tmp 59)) none)
 h58:aJ (o 58) 0 (.assign (.tmp 60))
 h59:aJ (o 59) 61 (.move (.tmp 2))
 h60:aJ (o 60) 62 (.move (.tmp 0))
 h61:aJ (o 61) 63 (.move (.tmp 1))
 h62:aJ (o 62) 64 (.move (.tmp 7))
 h63:aJ (o 63) 65 (.binOp .add ti (.tmp 63) (.tmp 64) ti)
 h64:aJ (o 64) 66 (.slice t (.tmp 62) (some (.tmp 65)) none none)
 h65:aJ (o 65) 67 (.call {callee:= .value (.func fo),args:= #[.tmp 61,.tmp 66],argTypes:= #[t,t]})
 h66:aJ (o 66) 68 (.unOp .not tb (.tmp 67))
 h67:aJ (o 67) 69 (.move (.tmp 0))
 h68:aJ (o 68) 70 (.move (.tmp 1))
 h69:aJ (o 69) 71 (.move (.tmp 7))
 h70:aJ (o 70) 72 (.binOp .add ti (.tmp 70) (.tmp 71) ti)
 h71:aJ (o 71) 73 (.slice t (.tmp 69) (some (.tmp 72)) none none)
 h72:aJ (o 72) 74 (.move (.tmp 0))
 h73:aJ (o 73) 75 (.move (.tmp 1))
 h74:aJ (o 74) 76 (.slice t (.tmp 74) (some (.tmp 75)) none none)
 h75:aJ (o 75) 77 (.call {callee:= .builtin .copy,args:= #[.tmp 73,.tmp 76],argTypes:= #[t,t]})
 h76:aJ (o 76) 78 (.move (.tmp 0))
 h77:aJ (o 77) 79 (.move (.tmp 1))
 h78:aJ (o 78) 80 (.slice t (.tmp 78) (some (.tmp 79)) none none)
 h79:aJ (o 79) 81 (.move (.tmp 2))
 h80:aJ (o 80) 82 (.call {callee:= .builtin .copy,args:= #[.tmp 80,.tmp 81],argTypes:= #[t,t]})
 h81:aJ (o 81) 83 (.move (.tmp 0))
 h82:aJ (o 82) 6 (.assign (.tmp 83))
 d11:NL #[o 42,o 43,o 44,o 45,o 46,o 47,o 48,o 49,o 50]=true
 d15:NL #[o 67,o 68,o 69,o 70,o 71,o 72,o 73,o 74,o 75]=true
structure DB (P:Program) (f t ti tb el fo:Nat) (fn:Func) (r:Nat→Nat) (o:Nat→Oper) (tail:Code):Prop where
 pos:P.funcs[f]? =some fn
 name:(fn.name== "runtime.NumGoroutine")=false
 tmps:fn.ntmps=95
 res:fn.results= #[.tmp 6]
 body:fn.body=some (uq r o tail)
 ops:YZ t ti tb fo o
 mix:P.follows .mixedOrders=true
 tM:P.underlying t=some (.slice el)
section
variable {P:Program} {f t ti tb el fo:Nat} {fn:Func} {r:Nat→Nat} {o:Nat→Oper} {tail:Code} {ie:TypeInfo} {size n m c c2 i g g2:Nat} {ad:Option Addr} {w:World}
theorem H6 {a:Act} {w:World} {σ:Nat→Value} {R:Ending→World→Prop} {v:Value} (hr:fn.results= #[.tmp 6]) (aA:Tm a 95 σ) (h6:σ 6=v) (h:R (.returned v) w):bodyPost P fn R .ret a w:=by
 refine ⟨aA.defers,v,?_,h⟩
 have h2:a.tmps[6]?.getD undef=v:=by have:=aA.get 6;rw [h6] at this;simpa using this
 simp [results,hr,h2]
theorem Vr (hf:DB P f t ti tb el fo fn r o tail) (ny:P.info? el=some ie) (sw:ie.size=size) (hm:0<m) (hn:n≤c) (hc:c<2^63) (ZV:n+m<2^63) (hi:i=n) {v:Value} {w1:World} (bJ: ∀ty,(Builtin.append_ #[t,t] ty #[.slice ad n c,.slice (some ⟨g2,0,none⟩) m c2]).run P w= .ok v w1)
 :Calls P f #[.slice ad n c,.int .i64 ((i:Nat):Int),.slice (some ⟨g2,0,none⟩) m c2] w fun x w'=>x= .returned v∧w'=w1:=by
 refine calls_of_wp hf.pos hf.body ?_
 rw [hf.tmps]
 have key: ∀a:Act,Tm a 95 (wc (wc (wc (fun _=>undef) 0 (.slice ad n c)) 1 (.int .i64 ((i:Nat):Int))) 2 (.slice (some ⟨g2,0,none⟩) m c2))→(uq r o tail).wp P (bodyPost P fn fun x w'=>x= .returned v∧w'=w1) a w:=by
  intro a aA
  unfold uq
  refine wp_seq (wp_region ?_)
  rw [show List.range (#[o 0]:Array Oper).size=[0] from rfl]
  refine aA.step (v:= .slice none 0 0) rfl hf.ops.h0 (by decide) (cy hf.ops.h0 _) (fun a aA=> ?_)
  refine wp_seq (wp_region ?_)
  rw [show List.range (#[o 1,o 2,o 3]:Array Oper).size=[0,1,2] from rfl]
  refine aA.step (v:= .slice ad n c) rfl hf.ops.h1 (by decide) (aI hf.ops.h1 _) (fun a aA=> ?_)
  refine aA.step (v:= .int .i64 ((i:Nat):Int)) rfl hf.ops.h2 (by decide) (aI hf.ops.h2 _) (fun a aA=> ?_)
  refine aA.step (v:= .slice (if c=i then ad else (ad:Option Addr).map (·.add (i *size))) (n-i) (c-i)) rfl hf.ops.h3 (by decide) (wg hf.ops.h3 hf.tM ny sw rfl rfl (by omega) _) (fun a aA=> ?_)
  refine wp_seq (wp_region ?_)
  rw [show List.range (#[o 4,o 5,o 6]:Array Oper).size=[0,1,2] from rfl]
  refine aA.step (v:= .slice (some ⟨g2,0,none⟩) m c2) rfl hf.ops.h4 (by decide) (aI hf.ops.h4 _) (fun a aA=> ?_)
  refine aA.step (v:= .int .i64 ((m:Nat):Int)) rfl hf.ops.h5 (by decide) (lY hf.ops.h5 hf.tM rfl _) (fun a aA=> ?_)
  refine aA.step (v:= .int .i64 ((m:Nat):Int)) rfl hf.ops.h6 (by decide) (cy hf.ops.h6 _) (fun a aA=> ?_)
  refine wp_seq ?_
  refine wp_seq (wp_region ?_)
  rw [show List.range (#[o 7,o 8]:Array Oper).size=[0,1] from rfl]
  refine aA.step (v:= .int .i64 ((m:Nat):Int)) rfl hf.ops.h7 (by decide) (aI hf.ops.h7 _) (fun a aA=> ?_)
  refine aA.step (v:= .bool (decide (((m:Nat):Int)=((0:Nat):Int)))) rfl hf.ops.h8 (by decide) (n7 hf.ops.h8 rfl rfl _) (fun a aA=> ?_)
  refine aA.cond (b:=false) (by show Value.bool (decide (((m:Nat):Int)=((0:Nat):Int)))=_;rw [decide_eq_false (by omega)]) ?_
  simp only [Bool.false_eq_true,if_false]
  refine wp_skip ?_
  refine wp_seq (wp_region ?_)
  rw [show List.range (#[o 11,o 12,o 13]:Array Oper).size=[0,1,2] from rfl]
  refine aA.step (v:= .slice ad n c) rfl hf.ops.L8 (by decide) (aI hf.ops.L8 _) (fun a aA=> ?_)
  refine aA.step (v:= .int .i64 ((n:Nat):Int)) rfl hf.ops.L9 (by decide) (lY hf.ops.L9 hf.tM rfl _) (fun a aA=> ?_)
  refine aA.step (v:= .int .i64 ((n:Nat):Int)) rfl hf.ops.Ma (by decide) (cy hf.ops.Ma _) (fun a aA=> ?_)
  refine wp_seq ?_
  refine wp_seq (wp_region ?_)
  rw [show List.range (#[o 14,o 15,o 16]:Array Oper).size=[0,1,2] from rfl]
  refine aA.step (v:= .int .i64 ((i:Nat):Int)) rfl hf.ops.Mb (by decide) (aI hf.ops.Mb _) (fun a aA=> ?_)
  refine aA.step (v:= .int .i64 ((n:Nat):Int)) rfl hf.ops.Mc (by decide) (aI hf.ops.Mc _) (fun a aA=> ?_)
  refine aA.step (v:= .bool (decide (((i:Nat):Int)=((n:Nat):Int)))) rfl hf.ops.Md (by decide) (n7 hf.ops.Md rfl rfl _) (fun a aA=> ?_)
  refine aA.cond (b:=true) (by show Value.bool (decide (((i:Nat):Int)=((n:Nat):Int)))=_;rw [decide_eq_true (by omega)]) ?_
  simp only [if_true]
  refine wp_seq (wp_region ?_)
  rw [show List.range (#[o 17,o 18,o 19,o 20]:Array Oper).size=[0,1,2,3] from rfl]
  refine aA.step (v:= .slice ad n c) rfl hf.ops.Sv (by decide) (aI hf.ops.Sv _) (fun a aA=> ?_)
  refine aA.step (v:= .slice (some ⟨g2,0,none⟩) m c2) rfl hf.ops.Xp (by decide) (aI hf.ops.Xp _) (fun a aA=> ?_)
  refine aA.step (v:=v) rfl hf.ops.Xq (by decide) (DA hf.ops.Xq rfl rfl (bJ _)) (fun a aA=> ?_)
  refine aA.step (v:=v) rfl hf.ops.Xr (by decide) (cy hf.ops.Xr _) (fun a aA=> ?_)
  refine wp_ret ?_
  show bodyPost P fn (fun x wq=>x= .returned (v)∧wq=w1) .ret a w1
  refine H6 hf.res aA (v:=v) rfl ?_
  exact ⟨rfl,rfl⟩
 exact key _ (tm3 _ _ _ 92)
theorem Sx (hf:DB P f t ti tb el fo fn r o tail) (ny:P.info? el=some ie) (sw:ie.size=size) (hm:0<m) (hn:n≤c) (hc:c<2^63) (ZV:n+m<2^63) (hi:i<n) (rG:c<n+m) {g9 G:Nat} {v1 v2:Value} {w1 w2 w3:World} (hG:n+m≤G) (hA: ∀ty,(Builtin.append_ #[t,ti] ty #[.slice (some ⟨g,0,none⟩) i c,.int .i64 ((n+m-i:Nat):Int)]).run P w= .ok (.slice (some ⟨g9,0,none⟩) (n+m) G) w1)
 (hB: ∀ty,(Builtin.copy_ #[t,t] ty #[.slice (some ⟨g9,i *size,none⟩) (n+m-i) (G-i),.slice (some ⟨g2,0,none⟩) m c2]).run P w1= .ok v1 w2)
 (hC: ∀ty,(Builtin.copy_ #[t,t] ty #[.slice (some ⟨g9,(i+m) *size,none⟩) (n+m-(i+m)) (G-(i+m)),.slice (some ⟨g,i *size,none⟩) (n-i) (c-i)]).run P {w2 with drawn:=w2.drawn+1}= .ok v2 w3)
 :Calls P f #[.slice (some ⟨g,0,none⟩) n c,.int .i64 ((i:Nat):Int),.slice (some ⟨g2,0,none⟩) m c2] w fun x w'=>x= .returned (.slice (some ⟨g9,0,none⟩) (n+m) G)∧w'=w3:=by
 refine calls_of_wp hf.pos hf.body ?_
 rw [hf.tmps]
 have key: ∀a:Act,Tm a 95 (wc (wc (wc (fun _=>undef) 0 (.slice (some ⟨g,0,none⟩) n c)) 1 (.int .i64 ((i:Nat):Int))) 2 (.slice (some ⟨g2,0,none⟩) m c2))→(uq r o tail).wp P (bodyPost P fn fun x w'=>x= .returned (.slice (some ⟨g9,0,none⟩) (n+m) G)∧w'=w3) a w:=by
  intro a aA
  unfold uq
  refine wp_seq (wp_region ?_)
  rw [show List.range (#[o 0]:Array Oper).size=[0] from rfl]
  refine aA.step (v:= .slice none 0 0) rfl hf.ops.h0 (by decide) (cy hf.ops.h0 _) (fun a aA=> ?_)
  refine wp_seq (wp_region ?_)
  rw [show List.range (#[o 1,o 2,o 3]:Array Oper).size=[0,1,2] from rfl]
  refine aA.step (v:= .slice (some ⟨g,0,none⟩) n c) rfl hf.ops.h1 (by decide) (aI hf.ops.h1 _) (fun a aA=> ?_)
  refine aA.step (v:= .int .i64 ((i:Nat):Int)) rfl hf.ops.h2 (by decide) (aI hf.ops.h2 _) (fun a aA=> ?_)
  refine aA.step (v:= .slice (if c=i then (some ⟨g,0,none⟩) else ((some ⟨g,0,none⟩):Option Addr).map (·.add (i *size))) (n-i) (c-i)) rfl hf.ops.h3 (by decide) (wg hf.ops.h3 hf.tM ny sw rfl rfl (by omega) _) (fun a aA=> ?_)
  refine wp_seq (wp_region ?_)
  rw [show List.range (#[o 4,o 5,o 6]:Array Oper).size=[0,1,2] from rfl]
  refine aA.step (v:= .slice (some ⟨g2,0,none⟩) m c2) rfl hf.ops.h4 (by decide) (aI hf.ops.h4 _) (fun a aA=> ?_)
  refine aA.step (v:= .int .i64 ((m:Nat):Int)) rfl hf.ops.h5 (by decide) (lY hf.ops.h5 hf.tM rfl _) (fun a aA=> ?_)
  refine aA.step (v:= .int .i64 ((m:Nat):Int)) rfl hf.ops.h6 (by decide) (cy hf.ops.h6 _) (fun a aA=> ?_)
  refine wp_seq ?_
  refine wp_seq (wp_region ?_)
  rw [show List.range (#[o 7,o 8]:Array Oper).size=[0,1] from rfl]
  refine aA.step (v:= .int .i64 ((m:Nat):Int)) rfl hf.ops.h7 (by decide) (aI hf.ops.h7 _) (fun a aA=> ?_)
  refine aA.step (v:= .bool (decide (((m:Nat):Int)=((0:Nat):Int)))) rfl hf.ops.h8 (by decide) (n7 hf.ops.h8 rfl rfl _) (fun a aA=> ?_)
  refine aA.cond (b:=false) (by show Value.bool (decide (((m:Nat):Int)=((0:Nat):Int)))=_;rw [decide_eq_false (by omega)]) ?_
  simp only [Bool.false_eq_true,if_false]
  refine wp_skip ?_
  refine wp_seq (wp_region ?_)
  rw [show List.range (#[o 11,o 12,o 13]:Array Oper).size=[0,1,2] from rfl]
  refine aA.step (v:= .slice (some ⟨g,0,none⟩) n c) rfl hf.ops.L8 (by decide) (aI hf.ops.L8 _) (fun a aA=> ?_)
  refine aA.step (v:= .int .i64 ((n:Nat):Int)) rfl hf.ops.L9 (by decide) (lY hf.ops.L9 hf.tM rfl _) (fun a aA=> ?_)
  refine aA.step (v:= .int .i64 ((n:Nat):Int)) rfl hf.ops.Ma (by decide) (cy hf.ops.Ma _) (fun a aA=> ?_)
  refine wp_seq ?_
  refine wp_seq (wp_region ?_)
  rw [show List.range (#[o 14,o 15,o 16]:Array Oper).size=[0,1,2] from rfl]
  refine aA.step (v:= .int .i64 ((i:Nat):Int)) rfl hf.ops.Mb (by decide) (aI hf.ops.Mb _) (fun a aA=> ?_)
  refine aA.step (v:= .int .i64 ((n:Nat):Int)) rfl hf.ops.Mc (by decide) (aI hf.ops.Mc _) (fun a aA=> ?_)
  refine aA.step (v:= .bool (decide (((i:Nat):Int)=((n:Nat):Int)))) rfl hf.ops.Md (by decide) (n7 hf.ops.Md rfl rfl _) (fun a aA=> ?_)
  refine aA.cond (b:=false) (by show Value.bool (decide (((i:Nat):Int)=((n:Nat):Int)))=_;rw [decide_eq_false (by omega)]) ?_
  simp only [Bool.false_eq_true,if_false]
  refine wp_skip ?_
  refine wp_seq ?_
  refine wp_seq (wp_region ?_)
  rw [show List.range (#[o 21,o 22,o 23,o 24,o 25,o 26]:Array Oper).size=[0,1,2,3,4,5] from rfl]
  refine aA.step (v:= .int .i64 ((n:Nat):Int)) rfl hf.ops.Uh (by decide) (aI hf.ops.Uh _) (fun a aA=> ?_)
  refine aA.step (v:= .int .i64 ((m:Nat):Int)) rfl hf.ops.Ui (by decide) (aI hf.ops.Ui _) (fun a aA=> ?_)
  refine aA.step (v:= .int .i64 ((n+m:Nat):Int)) rfl hf.ops.Uj (by decide) (jF hf.ops.Uj rfl rfl (by omega) _) (fun a aA=> ?_)
  refine aA.step (v:= .slice (some ⟨g,0,none⟩) n c) rfl hf.ops.Uk (by decide) (aI hf.ops.Uk _) (fun a aA=> ?_)
  refine aA.step (v:= .int .i64 ((c:Nat):Int)) rfl hf.ops.Ul (by decide) (NJ hf.ops.Ul hf.tM rfl _) (fun a aA=> ?_)
  refine aA.step (v:= .bool (decide (((c:Nat):Int)<(((n+m):Nat):Int)))) rfl hf.ops.Um (by decide) (J1 hf.ops.Um rfl rfl _) (fun a aA=> ?_)
  refine aA.cond (b:=true) (by show Value.bool (decide (((c:Nat):Int)<((n+m:Nat):Int)))=_;rw [decide_eq_true (by omega)]) ?_
  simp only [if_true]
  refine wp_seq (wp_region ?_)
  rw [show List.range (#[o 27,o 28,o 29,o 30,o 31,o 32,o 33,o 34,o 35,o 36]:Array Oper).size=[0,1,2,3,4,5,6,7,8,9] from rfl]
  refine aA.step (v:= .slice (some ⟨g,0,none⟩) n c) rfl hf.ops.Xs (by decide) (aI hf.ops.Xs _) (fun a aA=> ?_)
  refine aA.step (v:= .int .i64 ((i:Nat):Int)) rfl hf.ops.Xt (by decide) (aI hf.ops.Xt _) (fun a aA=> ?_)
  refine aA.step (v:= .slice (some ⟨g,0,none⟩) i c) rfl hf.ops.Xu (by decide) (zx hf.ops.Xu hf.tM ny sw rfl rfl (by omega) _) (fun a aA=> ?_)
  refine aA.step (v:= .int .i64 ((n:Nat):Int)) rfl hf.ops.Sw (by decide) (aI hf.ops.Sw _) (fun a aA=> ?_)
  refine aA.step (v:= .int .i64 ((m:Nat):Int)) rfl hf.ops.h31 (by decide) (aI hf.ops.h31 _) (fun a aA=> ?_)
  refine aA.step (v:= .int .i64 ((n+m:Nat):Int)) rfl hf.ops.h32 (by decide) (jF hf.ops.h32 rfl rfl (by omega) _) (fun a aA=> ?_)
  refine aA.step (v:= .int .i64 ((i:Nat):Int)) rfl hf.ops.h33 (by decide) (aI hf.ops.h33 _) (fun a aA=> ?_)
  refine aA.step (v:= .int .i64 (((n+m)-i:Nat):Int)) rfl hf.ops.Y0 (by decide) (Su hf.ops.Y0 rfl rfl (by omega) (by omega) _) (fun a aA=> ?_)
  refine aA.step (v:= .slice (some ⟨g9,0,none⟩) (n+m) G) rfl hf.ops.Y1 (by decide) (DA hf.ops.Y1 rfl rfl (hA _)) (fun a aA=> ?_)
  refine aA.step (v:= .slice (some ⟨g9,0,none⟩) (n+m) G) rfl hf.ops.Y2 (by decide) (cy hf.ops.Y2 _) (fun a aA=> ?_)
  refine wp_seq (wp_region ?_)
  rw [show List.range (#[o 37,o 38,o 39,o 40,o 41]:Array Oper).size=[0,1,2,3,4] from rfl]
  refine aA.step (v:= .slice (some ⟨g9,0,none⟩) (n+m) G) rfl hf.ops.h37 (by decide) (aI hf.ops.h37 _) (fun a aA=> ?_)
  refine aA.step (v:= .int .i64 ((i:Nat):Int)) rfl hf.ops.h38 (by decide) (aI hf.ops.h38 _) (fun a aA=> ?_)
  refine aA.step (v:= .slice (some ⟨g9,i *size,none⟩) (n+m-i) (G-i)) rfl hf.ops.h39 (by decide) (mK hf.ops.h39 hf.tM ny sw rfl rfl (by omega) (by omega) _) (fun a aA=> ?_)
  refine aA.step (v:= .slice (some ⟨g2,0,none⟩) m c2) rfl hf.ops.h40 (by decide) (aI hf.ops.h40 _) (fun a aA=> ?_)
  refine aA.step (v:=v1) rfl hf.ops.h41 (by decide) (zy hf.ops.h41 rfl rfl (hB _)) (fun a aA=> ?_)
  refine wp_seq (NN hf.mix hf.ops.d11 (k:=8) rfl fun fC=> ?_)
  refine aA.draw (v:= .slice (some ⟨g9,0,none⟩) (n+m) G) rfl hf.ops.h42 (by decide) fC (fun w=>aI hf.ops.h42 _) (fun a aA fC=> ?_)
  refine aA.draw (v:= .int .i64 ((i:Nat):Int)) rfl hf.ops.h43 (by decide) fC (fun w=>aI hf.ops.h43 _) (fun a aA fC=> ?_)
  refine aA.draw (v:= .int .i64 ((m:Nat):Int)) rfl hf.ops.h44 (by decide) fC (fun w=>aI hf.ops.h44 _) (fun a aA fC=> ?_)
  refine aA.draw (v:= .int .i64 ((i+m:Nat):Int)) rfl hf.ops.h45 (by decide) fC (fun w=>jF hf.ops.h45 rfl rfl (by omega) _) (fun a aA fC=> ?_)
  refine aA.draw (v:= .slice (some ⟨g9,(i+m) *size,none⟩) (n+m-(i+m)) (G-(i+m))) rfl hf.ops.h46 (by decide) fC (fun w=>mK hf.ops.h46 hf.tM ny sw rfl rfl (by omega) (by omega) _) (fun a aA fC=> ?_)
  refine aA.draw (v:= .slice (some ⟨g,0,none⟩) n c) rfl hf.ops.h47 (by decide) fC (fun w=>aI hf.ops.h47 _) (fun a aA fC=> ?_)
  refine aA.draw (v:= .int .i64 ((i:Nat):Int)) rfl hf.ops.h48 (by decide) fC (fun w=>aI hf.ops.h48 _) (fun a aA fC=> ?_)
  refine aA.draw (v:= .slice (some ⟨g,i *size,none⟩) (n-i) (c-i)) rfl hf.ops.h49 (by decide) fC (fun w=>mK hf.ops.h49 hf.tM ny sw rfl rfl (by omega) (by omega) _) (fun a aA fC=> ?_)
  refine aA.last (v:=v2) rfl hf.ops.h50 (by decide) fC (zy hf.ops.h50 rfl rfl (hC _)) (fun a aA=> ?_)
  refine wp_seq (wp_region ?_)
  rw [show List.range (#[o 51,o 52]:Array Oper).size=[0,1] from rfl]
  refine aA.step (v:= .slice (some ⟨g9,0,none⟩) (n+m) G) rfl hf.ops.h51 (by decide) (aI hf.ops.h51 _) (fun a aA=> ?_)
  refine aA.step (v:= .slice (some ⟨g9,0,none⟩) (n+m) G) rfl hf.ops.h52 (by decide) (cy hf.ops.h52 _) (fun a aA=> ?_)
  refine wp_ret ?_
  show bodyPost P fn (fun x wq=>x= .returned (.slice (some ⟨g9,0,none⟩) (n+m) G)∧wq=w3) .ret a w3
  refine H6 hf.res aA (v:= .slice (some ⟨g9,0,none⟩) (n+m) G) rfl ?_
  exact ⟨rfl,rfl⟩
 exact key _ (tm3 _ _ _ 92)
theorem Sy (hf:DB P f t ti tb el fo fn r o tail) (ny:P.info? el=some ie) (sw:ie.size=size) (hm:0<m) (hn:n≤c) (hc:c<2^63) (ZV:n+m<2^63) (hi:i<n) (rG:n+m≤c) {v1 v2:Value} {w1 w2:World} (hO:(callFunc fo #[.slice (some ⟨g2,0,none⟩) m c2,.slice (some ⟨g,(i+m) *size,none⟩) (n+m-(i+m)) (c-(i+m))]).run P w= .ok (.value (.bool false)) w)
 (hB: ∀ty,(Builtin.copy_ #[t,t] ty #[.slice (some ⟨g,(i+m) *size,none⟩) (n+m-(i+m)) (c-(i+m)),.slice (some ⟨g,i *size,none⟩) (n+m-i) (c-i)]).run P {w with drawn:=w.drawn+1}= .ok v1 w1)
 (hC: ∀ty,(Builtin.copy_ #[t,t] ty #[.slice (some ⟨g,i *size,none⟩) (n+m-i) (c-i),.slice (some ⟨g2,0,none⟩) m c2]).run P w1= .ok v2 w2)
 :Calls P f #[.slice (some ⟨g,0,none⟩) n c,.int .i64 ((i:Nat):Int),.slice (some ⟨g2,0,none⟩) m c2] w fun x w'=>x= .returned (.slice (some ⟨g,0,none⟩) (n+m) c)∧w'=w2:=by
 refine calls_of_wp hf.pos hf.body ?_
 rw [hf.tmps]
 have key: ∀a:Act,Tm a 95 (wc (wc (wc (fun _=>undef) 0 (.slice (some ⟨g,0,none⟩) n c)) 1 (.int .i64 ((i:Nat):Int))) 2 (.slice (some ⟨g2,0,none⟩) m c2))→(uq r o tail).wp P (bodyPost P fn fun x w'=>x= .returned (.slice (some ⟨g,0,none⟩) (n+m) c)∧w'=w2) a w:=by
  intro a aA
  unfold uq
  refine wp_seq (wp_region ?_)
  rw [show List.range (#[o 0]:Array Oper).size=[0] from rfl]
  refine aA.step (v:= .slice none 0 0) rfl hf.ops.h0 (by decide) (cy hf.ops.h0 _) (fun a aA=> ?_)
  refine wp_seq (wp_region ?_)
  rw [show List.range (#[o 1,o 2,o 3]:Array Oper).size=[0,1,2] from rfl]
  refine aA.step (v:= .slice (some ⟨g,0,none⟩) n c) rfl hf.ops.h1 (by decide) (aI hf.ops.h1 _) (fun a aA=> ?_)
  refine aA.step (v:= .int .i64 ((i:Nat):Int)) rfl hf.ops.h2 (by decide) (aI hf.ops.h2 _) (fun a aA=> ?_)
  refine aA.step (v:= .slice (if c=i then (some ⟨g,0,none⟩) else ((some ⟨g,0,none⟩):Option Addr).map (·.add (i *size))) (n-i) (c-i)) rfl hf.ops.h3 (by decide) (wg hf.ops.h3 hf.tM ny sw rfl rfl (by omega) _) (fun a aA=> ?_)
  refine wp_seq (wp_region ?_)
  rw [show List.range (#[o 4,o 5,o 6]:Array Oper).size=[0,1,2] from rfl]
  refine aA.step (v:= .slice (some ⟨g2,0,none⟩) m c2) rfl hf.ops.h4 (by decide) (aI hf.ops.h4 _) (fun a aA=> ?_)
  refine aA.step (v:= .int .i64 ((m:Nat):Int)) rfl hf.ops.h5 (by decide) (lY hf.ops.h5 hf.tM rfl _) (fun a aA=> ?_)
  refine aA.step (v:= .int .i64 ((m:Nat):Int)) rfl hf.ops.h6 (by decide) (cy hf.ops.h6 _) (fun a aA=> ?_)
  refine wp_seq ?_
  refine wp_seq (wp_region ?_)
  rw [show List.range (#[o 7,o 8]:Array Oper).size=[0,1] from rfl]
  refine aA.step (v:= .int .i64 ((m:Nat):Int)) rfl hf.ops.h7 (by decide) (aI hf.ops.h7 _) (fun a aA=> ?_)
  refine aA.step (v:= .bool (decide (((m:Nat):Int)=((0:Nat):Int)))) rfl hf.ops.h8 (by decide) (n7 hf.ops.h8 rfl rfl _) (fun a aA=> ?_)
  refine aA.cond (b:=false) (by show Value.bool (decide (((m:Nat):Int)=((0:Nat):Int)))=_;rw [decide_eq_false (by omega)]) ?_
  simp only [Bool.false_eq_true,if_false]
  refine wp_skip ?_
  refine wp_seq (wp_region ?_)
  rw [show List.range (#[o 11,o 12,o 13]:Array Oper).size=[0,1,2] from rfl]
  refine aA.step (v:= .slice (some ⟨g,0,none⟩) n c) rfl hf.ops.L8 (by decide) (aI hf.ops.L8 _) (fun a aA=> ?_)
  refine aA.step (v:= .int .i64 ((n:Nat):Int)) rfl hf.ops.L9 (by decide) (lY hf.ops.L9 hf.tM rfl _) (fun a aA=> ?_)
  refine aA.step (v:= .int .i64 ((n:Nat):Int)) rfl hf.ops.Ma (by decide) (cy hf.ops.Ma _) (fun a aA=> ?_)
  refine wp_seq ?_
  refine wp_seq (wp_region ?_)
  rw [show List.range (#[o 14,o 15,o 16]:Array Oper).size=[0,1,2] from rfl]
  refine aA.step (v:= .int .i64 ((i:Nat):Int)) rfl hf.ops.Mb (by decide) (aI hf.ops.Mb _) (fun a aA=> ?_)
  refine aA.step (v:= .int .i64 ((n:Nat):Int)) rfl hf.ops.Mc (by decide) (aI hf.ops.Mc _) (fun a aA=> ?_)
  refine aA.step (v:= .bool (decide (((i:Nat):Int)=((n:Nat):Int)))) rfl hf.ops.Md (by decide) (n7 hf.ops.Md rfl rfl _) (fun a aA=> ?_)
  refine aA.cond (b:=false) (by show Value.bool (decide (((i:Nat):Int)=((n:Nat):Int)))=_;rw [decide_eq_false (by omega)]) ?_
  simp only [Bool.false_eq_true,if_false]
  refine wp_skip ?_
  refine wp_seq ?_
  refine wp_seq (wp_region ?_)
  rw [show List.range (#[o 21,o 22,o 23,o 24,o 25,o 26]:Array Oper).size=[0,1,2,3,4,5] from rfl]
  refine aA.step (v:= .int .i64 ((n:Nat):Int)) rfl hf.ops.Uh (by decide) (aI hf.ops.Uh _) (fun a aA=> ?_)
  refine aA.step (v:= .int .i64 ((m:Nat):Int)) rfl hf.ops.Ui (by decide) (aI hf.ops.Ui _) (fun a aA=> ?_)
  refine aA.step (v:= .int .i64 ((n+m:Nat):Int)) rfl hf.ops.Uj (by decide) (jF hf.ops.Uj rfl rfl (by omega) _) (fun a aA=> ?_)
  refine aA.step (v:= .slice (some ⟨g,0,none⟩) n c) rfl hf.ops.Uk (by decide) (aI hf.ops.Uk _) (fun a aA=> ?_)
  refine aA.step (v:= .int .i64 ((c:Nat):Int)) rfl hf.ops.Ul (by decide) (NJ hf.ops.Ul hf.tM rfl _) (fun a aA=> ?_)
  refine aA.step (v:= .bool (decide (((c:Nat):Int)<(((n+m):Nat):Int)))) rfl hf.ops.Um (by decide) (J1 hf.ops.Um rfl rfl _) (fun a aA=> ?_)
  refine aA.cond (b:=false) (by show Value.bool (decide (((c:Nat):Int)<((n+m:Nat):Int)))=_;rw [decide_eq_false (by omega)]) ?_
  simp only [Bool.false_eq_true,if_false]
  refine wp_skip ?_
  refine wp_seq (wp_region ?_)
  rw [show List.range (#[o 53,o 54,o 55,o 56,o 57,o 58]:Array Oper).size=[0,1,2,3,4,5] from rfl]
  refine aA.step (v:= .slice (some ⟨g,0,none⟩) n c) rfl hf.ops.h53 (by decide) (aI hf.ops.h53 _) (fun a aA=> ?_)
  refine aA.step (v:= .int .i64 ((n:Nat):Int)) rfl hf.ops.h54 (by decide) (aI hf.ops.h54 _) (fun a aA=> ?_)
  refine aA.step (v:= .int .i64 ((m:Nat):Int)) rfl hf.ops.h55 (by decide) (aI hf.ops.h55 _) (fun a aA=> ?_)
  refine aA.step (v:= .int .i64 ((n+m:Nat):Int)) rfl hf.ops.h56 (by decide) (jF hf.ops.h56 rfl rfl (by omega) _) (fun a aA=> ?_)
  refine aA.step (v:= .slice (some ⟨g,0,none⟩) (n+m) c) rfl hf.ops.h57 (by decide) (zx hf.ops.h57 hf.tM ny sw rfl rfl (by omega) _) (fun a aA=> ?_)
  refine aA.step (v:= .slice (some ⟨g,0,none⟩) (n+m) c) rfl hf.ops.h58 (by decide) (cy hf.ops.h58 _) (fun a aA=> ?_)
  refine wp_seq ?_
  refine wp_seq (wp_region ?_)
  rw [show List.range (#[o 59,o 60,o 61,o 62,o 63,o 64,o 65,o 66]:Array Oper).size=[0,1,2,3,4,5,6,7] from rfl]
  refine aA.step (v:= .slice (some ⟨g2,0,none⟩) m c2) rfl hf.ops.h59 (by decide) (aI hf.ops.h59 _) (fun a aA=> ?_)
  refine aA.step (v:= .slice (some ⟨g,0,none⟩) (n+m) c) rfl hf.ops.h60 (by decide) (aI hf.ops.h60 _) (fun a aA=> ?_)
  refine aA.step (v:= .int .i64 ((i:Nat):Int)) rfl hf.ops.h61 (by decide) (aI hf.ops.h61 _) (fun a aA=> ?_)
  refine aA.step (v:= .int .i64 ((m:Nat):Int)) rfl hf.ops.h62 (by decide) (aI hf.ops.h62 _) (fun a aA=> ?_)
  refine aA.step (v:= .int .i64 ((i+m:Nat):Int)) rfl hf.ops.h63 (by decide) (jF hf.ops.h63 rfl rfl (by omega) _) (fun a aA=> ?_)
  refine aA.step (v:= .slice (some ⟨g,(i+m) *size,none⟩) (n+m-(i+m)) (c-(i+m))) rfl hf.ops.h64 (by decide) (mK hf.ops.h64 hf.tM ny sw rfl rfl (by omega) (by omega) _) (fun a aA=> ?_)
  refine aA.step (v:= .bool false) rfl hf.ops.h65 (by decide) (Vo hf.ops.h65 rfl rfl rfl hO) (fun a aA=> ?_)
  refine aA.step (v:= .bool (!false)) rfl hf.ops.h66 (by decide) (NK hf.ops.h66 rfl _) (fun a aA=> ?_)
  refine aA.cond (b:=true) rfl ?_
  simp only [if_true]
  refine wp_seq (NN hf.mix hf.ops.d15 (k:=8) rfl fun fC=> ?_)
  refine aA.draw (v:= .slice (some ⟨g,0,none⟩) (n+m) c) rfl hf.ops.h67 (by decide) fC (fun w=>aI hf.ops.h67 _) (fun a aA fC=> ?_)
  refine aA.draw (v:= .int .i64 ((i:Nat):Int)) rfl hf.ops.h68 (by decide) fC (fun w=>aI hf.ops.h68 _) (fun a aA fC=> ?_)
  refine aA.draw (v:= .int .i64 ((m:Nat):Int)) rfl hf.ops.h69 (by decide) fC (fun w=>aI hf.ops.h69 _) (fun a aA fC=> ?_)
  refine aA.draw (v:= .int .i64 ((i+m:Nat):Int)) rfl hf.ops.h70 (by decide) fC (fun w=>jF hf.ops.h70 rfl rfl (by omega) _) (fun a aA fC=> ?_)
  refine aA.draw (v:= .slice (some ⟨g,(i+m) *size,none⟩) (n+m-(i+m)) (c-(i+m))) rfl hf.ops.h71 (by decide) fC (fun w=>mK hf.ops.h71 hf.tM ny sw rfl rfl (by omega) (by omega) _) (fun a aA fC=> ?_)
  refine aA.draw (v:= .slice (some ⟨g,0,none⟩) (n+m) c) rfl hf.ops.h72 (by decide) fC (fun w=>aI hf.ops.h72 _) (fun a aA fC=> ?_)
  refine aA.draw (v:= .int .i64 ((i:Nat):Int)) rfl hf.ops.h73 (by decide) fC (fun w=>aI hf.ops.h73 _) (fun a aA fC=> ?_)
  refine aA.draw (v:= .slice (some ⟨g,i *size,none⟩) (n+m-i) (c-i)) rfl hf.ops.h74 (by decide) fC (fun w=>mK hf.ops.h74 hf.tM ny sw rfl rfl (by omega) (by omega) _) (fun a aA fC=> ?_)
  refine aA.last (v:=v1) rfl hf.ops.h75 (by decide) fC (zy hf.ops.h75 rfl rfl (hB _)) (fun a aA=> ?_)
  refine wp_seq (wp_region ?_)
  rw [show List.range (#[o 76,o 77,o 78,o 79,o 80]:Array Oper).size=[0,1,2,3,4] from rfl]
  refine aA.step (v:= .slice (some ⟨g,0,none⟩) (n+m) c) rfl hf.ops.h76 (by decide) (aI hf.ops.h76 _) (fun a aA=> ?_)
  refine aA.step (v:= .int .i64 ((i:Nat):Int)) rfl hf.ops.h77 (by decide) (aI hf.ops.h77 _) (fun a aA=> ?_)
  refine aA.step (v:= .slice (some ⟨g,i *size,none⟩) (n+m-i) (c-i)) rfl hf.ops.h78 (by decide) (mK hf.ops.h78 hf.tM ny sw rfl rfl (by omega) (by omega) _) (fun a aA=> ?_)
  refine aA.step (v:= .slice (some ⟨g2,0,none⟩) m c2) rfl hf.ops.h79 (by decide) (aI hf.ops.h79 _) (fun a aA=> ?_)
  refine aA.step (v:=v2) rfl hf.ops.h80 (by decide) (zy hf.ops.h80 rfl rfl (hC _)) (fun a aA=> ?_)
  refine wp_seq (wp_region ?_)
  rw [show List.range (#[o 81,o 82]:Array Oper).size=[0,1] from rfl]
  refine aA.step (v:= .slice (some ⟨g,0,none⟩) (n+m) c) rfl hf.ops.h81 (by decide) (aI hf.ops.h81 _) (fun a aA=> ?_)
  refine aA.step (v:= .slice (some ⟨g,0,none⟩) (n+m) c) rfl hf.ops.h82 (by decide) (cy hf.ops.h82 _) (fun a aA=> ?_)
  refine wp_ret ?_
  show bodyPost P fn (fun x wq=>x= .returned (.slice (some ⟨g,0,none⟩) (n+m) c)∧wq=w2) .ret a w2
  refine H6 hf.res aA (v:= .slice (some ⟨g,0,none⟩) (n+m) c) rfl ?_
  exact ⟨rfl,rfl⟩
 exact key _ (tm3 _ _ _ 92)
end
end Dn
/-
  What slices.Insert does to a slice of its own. Conditions: none.
-/
set_option linter.unusedSimpArgs false
set_option linter.unusedVariables false
namespace Dn
open Go
section
variable {key:Nat→Nat} {φ:Ph} {size:Nat}
theorem aW.take {xs:List MV}: ∀{cs:List Value} (i:Nat),aW key φ size cs xs→aW key φ size (cs.take (i *size)) (xs.take i):=by
 induction xs with
 |nil=>intro cs i h;cases h;simp [aW]
 |cons x xs ih=>
  intro cs i h
  obtain ⟨v,q,rfl,h1,h2,h3⟩:=h
  cases i with
  |zero=>simp [aW]
  |succ i=>
   refine ⟨v,q.take (i *size),?_,h1,h2,ih i h3⟩
   rw [Nat.add_mul,Nat.one_mul,Nat.add_comm,List.take_append,h1]
   congr 1
   ·exact List.take_of_length_le (by omega)
   ·congr 1;omega
theorem aW.drop {xs:List MV}: ∀{cs:List Value} (i:Nat),aW key φ size cs xs→aW key φ size (cs.drop (i *size)) (xs.drop i):=by
 induction xs with
 |nil=>intro cs i h;cases h;simp [aW]
 |cons x xs ih=>
  intro cs i h
  cases i with
  |zero=>simpa using h
  |succ i=>
   obtain ⟨v,q,rfl,h1,h2,h3⟩:=h
   have:=ih i h3
   rw [Nat.add_mul,Nat.one_mul,Nat.add_comm,List.drop_append,h1,List.drop_of_length_le (by omega),List.nil_append,Nat.add_sub_cancel_left]
   simpa using this
end
section
variable {P:Program} {c:Ctx} {f:Nat} {W W':World} {φ:Ph} {Z:Nat→Prop} {v0 v':Value}
theorem Cu {ty:Nat} {E:TI} {n:Nat} {cells:List Value} {rs:List MV} (hz: ∀b,W.heap.size≤b→Z b) (iZ:yC φ W) (hE:c.ti ty=some E) (nK:E.ct=[]) (AB:c.ra (c.key f)=ty)
 (hold: ∀b,b<W.heap.size→some b≠v0.ownBlock→W'.heap[b]? =W.heap[b]?) (qk:W.heap.size≤W'.heap.size) (yf:Rest W W')
 (Nn: ∀b,v0.ownBlock=some b→Z b∧ ∀off,φ b off=none) (dg:W'.ownsRow 0 ty E.size v' n cells) (hn:rs.length=n) (iA:aW c.key φ E.size cells rs)
 (LD: ∀b,v'.ownBlock=some b→v0.ownBlock=some b∨W.heap.size≤b): ∃φ',Trans Z φ W φ' W'∧yC φ' W'∧mr c Z φ' W' (c.key f) v' (.fresh rs):=by
 refine ⟨φ,⟨.refl _,?_,fun _ _ _=>rfl,qk,yf⟩,?_,?_⟩
 ·intro b hb cz
  exact hold b cz (fun he=>hb (Nn b he.symm).1)
 ·intro b off u hbo
  have h1:=iZ b off u hbo
  have cz:=World.block_lt_of_cell? W _ h1
  rw [World.cell?_of_block (hold b cz (fun he=>by rw [(Nn b he.symm).2 off] at hbo;cases hbo))]
  exact h1
 ·show cQ c (bC.plain Z) (nO c.key φ) W' v' ⟨c.ra (c.key f),false,rs⟩
  rw [AB]
  refine ⟨E,cells,hE,nK,by rw [hn];exact dg,iA,fun a7 hb=> ?_⟩
  rcases LD a7 hb with h|h
  ·exact ⟨(Nn a7 h).1,fun off u hu=>(by have hu:φ a7 off=some u:=hu;rw [(Nn a7 h).2 off] at hu;cases hu),fun hc=>hc.elim⟩
  ·refine ⟨hz a7 h,fun off u hu=> ?_,fun hc=>hc.elim⟩
   have:=World.block_lt_of_cell? W _ (iZ _ _ _ hu)
   exact absurd this (by show¬a7<W.heap.size;omega)
theorem Vs {A cW:List Value} {cells news:List Value} {p q r:Nat} (hA:A.length=cW.length) (hp:p+news.length=q) (hc:cells.length=r) (CW:p≤r) (vV:r+news.length≤cW.length)
 (h1:A.take p=cells.take p) (h2:(A.drop q).take (r-p)=cells.drop p):(A.take p++news++A.drop q).take (r+news.length)=cells.take p++news++cells.drop p:=by
 have hl:(A.take p).length=p:=by rw [List.length_take];omega
 rw [List.take_append,List.length_append,hl,hp,List.take_of_length_le (by rw [List.length_append,hl];omega),h1]
 congr 1
 rw [show r+news.length-q=r-p by omega]
 exact h2
theorem AD {t ti tb el fo:Nat} {fn:Func} {r:Nat→Nat} {o:Nat→Oper} {tail:Code} {I E:TI} {xs ys:List MV} {i:Nat} (hf:DB P f t ti tb el fo fn r o tail) (hT:kn P c.ti) (hI:c.tv t=some I) (hL:I.xT=true) (hE:c.tv I.elem=some E) (vY:1≤E.bytes)
 (T6:el=I.elem) (rc:P.underlying ti=some (.int .i64)) (AB:c.ra (c.key f)=I.elem) (hg:c.dP (c.key f)=true)
 (hov: ∀args w,(callFunc fo args).run P w=((Extern.SlicesOverlaps.overlaps #[t,t] #[tb] args).run P w).andThen fun v w'=> .ok (.value v) w')
 (hi:i≤xs.length) (hys:ys≠[]) (mO:(xs.length+ys.length) *E.bytes≤2^46):kp P c f [.fresh xs,.i .i64 i,.fresh ys] (.fresh (xs.take i++ys++xs.drop i)):=by
 subst T6
 obtain ⟨hIt,Q8⟩:=bE hI
 obtain ⟨mN,nK⟩:=bE hE
 obtain ⟨hu,E2,vI,_,dZ⟩:=TI.mn (hT t I hIt) hL
 rw [mN] at vI
 cases vI
 obtain ⟨ie,z,ny,sw,OC,Vt,IW⟩:=nN (hT _ E mN) nK
 intro φ W Z vs hz eP iZ
 simp only [ew,hg,if_true] at eP
 obtain ⟨v0,v1,v2,xs',m1,ys',rfl,Jz,F0,A1,F2,cI⟩:=eP.resolve_right (by
  rintro (⟨_,_,_,_,_,m2,_,h1,h2,_⟩|⟨pos,_,_,_,_,_,_,h1,_⟩)
  ·simp only [List.cons.injEq,and_true] at h1
   rw [←h1.2.2] at h2;simp [MV.one] at h2
  ·rcases pos with _|_|_|pos<;>simp at h1)
 simp only [List.cons.injEq,MV.fresh.injEq,and_true] at Jz
 obtain ⟨rfl,rfl,rfl⟩:=Jz
 have Oq:v1= .int .i64 (i:Int):=by
  obtain ⟨_,h⟩:=A1
  generalize xA:[v1]=l at h
  cases h;simpa using xA
 subst Oq
 rw [AB] at F0 F2
 obtain ⟨I0,cells,Vu,_,tc,rO,GM⟩:=F0
 have Vu:c.ti I.elem=some I0:=Vu
 rw [mN] at Vu
 cases Vu
 obtain ⟨I2,news,M7,_,Gj,zd,ahN⟩:=F2
 have M7:c.ti I.elem=some I2:=M7
 rw [mN] at M7
 cases M7
 have tc:W.ownsRow 0 I.elem E.size v0 xs.length cells:=tc
 have Gj:W.ownsRow 0 I.elem E.size v2 ys.length news:=Gj
 have rO:aW c.key φ E.size cells xs:=rO
 have zd:aW c.key φ E.size news ys:=zd
 have Nn: ∀b,v0.ownBlock=some b→Z b∧ ∀off,φ b off=none:=by
  intro b hb
  refine ⟨(GM b hb).1,fun off=> ?_⟩
  cases h:φ b off with
  |none=>rfl
  |some u=>have:=((GM b hb).2.1 off u h).1;cases this
 have hm:0<ys.length:=List.length_pos_iff.2 hys
 have Cs:news.length=ys.length *E.size:=zd.length
 have nM:cells.length=xs.length *E.size:=rO.length
 have hlen:xs.length+ys.length≤2^46:=Nat.le_trans (Nat.le_mul_of_pos_right _ vY) mO
 obtain ⟨g2,c2,sW,rfl,Sj,ajv,hc2,Jk,ab2⟩: ∃g2 c2 sW,v2= .slice (some ⟨g2,0,none⟩) ys.length c2∧W.heap[g2]? =some (.cells sW I.elem (0,0))∧ys.length≤c2∧c2≤maxLen∧sW.size=c2 *E.size∧sW.toList.take (ys.length *E.size)=news:=by
  rcases Gj.2 with ⟨_,h0⟩|⟨g2,c2,sW,h1,_,h3,h4,h5,h6,h7⟩
  ·omega
  ·exact ⟨g2,c2,sW,h1,h3,h4,h5,h6,h7⟩
 have afN:=bm Sj
 have Sz: ∀{w:World},(w.heap[g2]? =W.heap[g2]?)→ ∀(j:Nat) (u:Value),news[j]? =some u→w.cell? ((⟨g2,0,none⟩:Addr).add j)=some u:=by
  intro w hw j u hj
  have:=Gj.cells (g:=g2) rfl j u hj
  rw [Addr.add_mid] at this⊢
  rw [World.cell?_of_block hw];exact this
 have bh: ∀g,v0.ownBlock=some g→ ∀{w:World},(w.heap[g]? =W.heap[g]?)→ ∀(j:Nat) (u:Value),cells[j]? =some u→w.cell? ((⟨g,0,none⟩:Addr).add j)=some u:=by
  intro g hg w hw j u hj
  have:=tc.cells (g:=g) hg j u hj
  rw [Addr.add_mid] at this⊢
  rw [World.cell?_of_block hw];exact this
 have bJ:(callFunc f [v0,.int .i64 (i:Int),.slice (some ⟨g2,0,none⟩) ys.length c2].toArray).run P W= .ok (.enter f #[v0,.int .i64 (i:Int),.slice (some ⟨g2,0,none⟩) ys.length c2]) W:=by
  have CP: ¬fn.name= "runtime.NumGoroutine" :=by simpa using hf.name
  simp [callFunc,hf.pos,CP,hf.body]
 unfold fe
 rw [bJ]
 have Xv:(xs.take i++ys++xs.drop i).length=xs.length+ys.length:=by simp;omega
 have DC:aW c.key φ E.size (cells.take (i *E.size)++news++cells.drop (i *E.size)) (xs.take i++ys++xs.drop i):=((rO.take i).append zd).append (rO.drop i)
 by_cases s4:i=xs.length
 ·
  have sY:Src (nO c.key φ) W E.size (.slice (some ⟨g2,0,none⟩) ys.length c2) ys news:=⟨zd,_,_,rfl,by simp,fun x hx j u hj=>by cases hx;exact Sz rfl j u hj⟩
  have v8:cells.take (i *E.size)++news++cells.drop (i *E.size)=cells++news:=by
   rw [s4,←nM,List.take_length,List.drop_length,List.append_nil]
  rw [v8] at DC
  have fin: ∀v' W',aaK W W' I.elem E.size v0 v' xs.length ys.length cells news→ ∃φ',Trans Z φ W φ' W'∧yC φ' W'∧mr c Z φ' W' (c.key f) v' (.fresh (xs.take i++ys++xs.drop i)):=by
   intro v' W' sZ
   refine Cu (v0:=v0) hz iZ mN nK AB sZ.Ae sZ.size sZ.rest Nn sZ.own Xv DC ?_
   intro b hb
   rcases sZ.place with h|h
   ·left;rw [←h];exact hb
   ·right;rw [h] at hb;cases hb;exact Nat.le_refl _
  obtain ⟨v',W',hr,sZ⟩:=yB (P:=P) (c:=c) (ty:=0) (e:=nO c.key φ) hu mN nK dZ hT vY tc sY mO
  have ZQ: ∀ty,(Builtin.append_ #[t,t] ty #[v0,.slice (some ⟨g2,0,none⟩) ys.length c2]).run P W= .ok v' W':=fun ty=>hr
  have afO: ∃ad c0,v0= .slice ad xs.length c0∧xs.length≤c0∧c0≤maxLen:=by
   rcases tc.2 with ⟨h1,h0⟩|⟨g,c0,cW,h1,_,h3,h4,h5,_⟩
   ·exact ⟨none,0,by rw [h1,h0],by omega,by omega⟩
   ·exact ⟨_,c0,h1,h4,h5⟩
  obtain ⟨ad,c0,rfl,Gn,Cr⟩:=afO
  refine (Vr hf ny sw hm Gn (by unfold maxLen at Cr;omega) (by omega) s4 ZQ).mono ?_
  rintro x wZ ⟨rfl,rfl⟩
  exact ⟨_,rfl,fin _ _ sZ⟩
 ·have s4:i<xs.length:=by omega
  obtain ⟨g,c0,cW,rfl,hgc,Gn,Cr,re,Lz⟩: ∃g c0 cW,v0= .slice (some ⟨g,0,none⟩) xs.length c0∧W.heap[g]? =some (.cells cW I.elem (0,0))∧xs.length≤c0∧c0≤maxLen∧cW.size=c0 *E.size∧cW.toList.take (xs.length *E.size)=cells:=by
   rcases tc.2 with ⟨_,h0⟩|⟨g,c0,cW,h1,_,h3,h4,h5,h6,h7⟩
   ·omega
   ·exact ⟨g,c0,cW,h1,h3,h4,h5,h6,h7⟩
  have Ua:=bm hgc
  have Xo:g≠g2:=fun h=>cI g rfl (by rw [h];rfl)
  have sO:i *E.size≤xs.length *E.size:=Nat.mul_le_mul_right _ hi
  have him:(i+ys.length) *E.size=i *E.size+news.length:=by rw [Nat.add_mul,Cs]
  have ZV:(xs.length+ys.length) *E.size=xs.length *E.size+news.length:=by rw [Nat.add_mul,Cs]
  have Ny:(cells.drop (i *E.size)).length=(xs.length-i) *E.size:=by rw [List.length_drop,nM,Nat.sub_mul]
  have ajw:(xs.length-i) *E.size=xs.length *E.size-i *E.size:=Nat.sub_mul _ _ _
  have Xw: ∀{w:World},(w.heap[g]? =W.heap[g]?)→ ∀(j:Nat) (u:Value),(cells.drop (i *E.size))[j]? =some u→w.cell? ((⟨g,i *E.size,none⟩:Addr).add j)=some u:=by
   intro w hw j u hj
   rw [List.getElem?_drop] at hj
   have:=bh g rfl hw _ u hj
   rw [Addr.add_mid] at this⊢
   rwa [Nat.zero_add] at this
  have WS: ∀u∈cells.drop (i *E.size),u.oneCell'=true:=fun u hu=>rO.vX u (List.mem_of_mem_drop hu)
  have ab4:Rest W {W with drawn:=W.drawn+1}:=⟨rfl,rfl,rfl,fun _=>rfl⟩
  by_cases rG:c0<xs.length+ys.length
  ·have hk:i+(xs.length+ys.length-i)=xs.length+ys.length:=by omega
   obtain ⟨G,hG⟩: ∃G,G=grownCap W (xs.length+ys.length) c0 I.elem:=⟨_,rfl⟩
   have hGn:xs.length+ys.length≤G:=by rw [hG];exact grownCap_ge W _ _ _
   have hGm:G≤maxLen:=by rw [hG];exact grownCap_le_maxLen W _ _ _ (by unfold maxLen;omega)
   obtain ⟨H7,Y3⟩: ∃H7:Array Value,H7=(cells.take (i *E.size)).toArray++Builtin.zeroCells z.cells (xs.length+ys.length-i)++Builtin.zeroCells z.cells (G-(xs.length+ys.length)):=⟨_,rfl⟩
   have hRl:H7.size=G *E.size:=by
    rw [Y3]
    simp only [Array.size_append,List.size_toArray,List.length_take,Builtin.zeroCells,Array.size_map,Array.size_range,IW]
    rw [Nat.min_eq_left (by rw [nM];exact sO),←Nat.add_mul,←Nat.add_mul]
    congr 1;omega
   have hRt:H7.toList.take (i *E.size)=cells.take (i *E.size):=by
    rw [Y3]
    simp only [Array.toList_append,List.append_assoc]
    have hl:(cells.take (i *E.size)).length=i *E.size:=by rw [List.length_take,nM];exact Nat.min_eq_left sO
    rw [List.take_append_of_le_length (by omega),List.take_of_length_le (by omega)]
   have hA: ∀ty,(Builtin.append_ #[t,ti] ty #[.slice (some ⟨g,0,none⟩) i c0,.int .i64 ((xs.length+ys.length-i:Nat):Int)]).run P W= .ok (.slice (some ⟨W.heap.size,0,none⟩) (xs.length+ys.length) G) (W.drew.alloc (.cells H7 I.elem)):=fun ty=>by
    have hold:(Builtin.firstCells ie.size i (.slice (some ⟨g,0,none⟩) i c0)).run P W.drew= .ok (cells.take (i *E.size)).toArray W.drew:=by
     refine run_firstCells_some W.drew ie.size i ⟨g,0,none⟩ i c0 _ (by rw [sw,List.length_take,nM];exact Nat.min_eq_left sO) (fun j v hj=> ?_)
     rw [List.getElem?_take] at hj
     split at hj
     ·exact bh g rfl rfl j v hj
     ·cases hj
    have h:=Lib.run_append_grow_zeros W t ti ty I.elem ie z .i64 .i64 hu rc ny Vt (some ⟨g,0,none⟩) i c0 (cells.take (i *E.size)) hold (xs.length+ys.length-i) (by omega) (by rw [sw];exact dZ) (by omega) (by omega)
     (by rw [OC];exact Nat.le_trans (Nat.mul_le_mul_right _ (by omega:xs.length+ys.length-i≤xs.length+ys.length)) (Nat.le_trans mO (by omega))) (by rw [OC,hk];exact growslice_fits rG (Nat.le_trans mO (by omega)))
    rw [hk,←hG,←Y3] at h
    exact h
   have hg9:(W.drew.alloc (.cells H7 I.elem)).heap[W.heap.size]? =some (.cells H7 I.elem (0,0)):=jW W.drew _
   have B0: ∀b,b<W.heap.size→(W.drew.alloc (.cells H7 I.elem)).heap[b]? =W.heap[b]? :=fun b hb=>y8 W.drew _ b hb
   have hnG:(xs.length+ys.length) *E.size≤H7.size:=by rw [hRl];exact Nat.mul_le_mul_right _ hGn
   obtain ⟨RA,hRA⟩: ∃RA:List Value,RA=H7.toList.take (i *E.size)++news++H7.toList.drop (i *E.size+news.length):=⟨_,rfl⟩
   have ab5:RA.length=H7.size:=by
    rw [hRA]
    simp only [List.length_append,List.length_take,List.length_drop,Array.length_toList]
    omega
   have hB: ∀ty,(Builtin.copy_ #[t,t] ty #[.slice (some ⟨W.heap.size,i *E.size,none⟩) (xs.length+ys.length-i) (G-i),.slice (some ⟨g2,0,none⟩) ys.length c2]).run P (W.drew.alloc (.cells H7 I.elem))=
    .ok (goInt ((ys.length:Nat):Int)) (World.setRow (W.drew.alloc (.cells H7 I.elem)) W.heap.size RA.toArray):=fun ty=>by
    rw [hRA]
    exact n8 (size:=E.size) hu ny sw hg9 (by simp only [Nat.min_def];split<;>omega) Cs (Sz (B0 g2 afN)) (by omega) zd.vX
   have Y4:=setRow_heap (W.drew.alloc (.cells H7 I.elem)) W.heap.size H7 RA.toArray I.elem (0,0) hg9
   obtain ⟨W2,Pf⟩: ∃W2,W2=World.setRow (W.drew.alloc (.cells H7 I.elem)) W.heap.size RA.toArray:=⟨_,rfl⟩
   have Vv: ∀b,b<W.heap.size→W2.heap[b]? =W.heap[b]? :=fun b hb=>by rw [Pf,setRow_other _ _ _ _ (by omega)];exact B0 b hb
   have Me:Rest W W2:=by
    rw [Pf]
    exact (show Rest W W.drew from ⟨rfl,rfl,rfl,fun _=>rfl⟩).trans ((Rest.alloc W.drew H7 I.elem).trans (Rest.setRow _ _ _))
   have ajz:W2.heap.size=W.heap.size+1:=by rw [Pf,setRow_size];exact Array.size_push _
   rw [←Pf] at hB Y4
   have hC:=fun ty=>n8 (P:=P) (dT:=t) (sT:=t) (ty:=ty) (size:=E.size) (Vp:=xs.length+ys.length-(i+ys.length)) (YX:=G-(i+ys.length)) (Vq:=xs.length-i) (YY:=c0-i) (k:=xs.length-i) (o:=(i+ys.length) *E.size) (a:=⟨g,i *E.size,none⟩) (w:={W2 with drawn:=W2.drawn+1}) hu ny sw Y4 (by simp only [Nat.min_def];split<;>omega) Ny
    (Xw (Vv g Ua)) (by simp only [List.size_toArray];rw [ab5,him,Ny];omega) WS
   refine (Sx hf ny sw hm Gn (by unfold maxLen at Cr;omega) (by omega) s4 rG hGn hA hB hC).mono ?_
   rintro x wZ ⟨rfl,rfl⟩
   refine ⟨_,rfl,?_⟩
   refine Cu (v0:= .slice (some ⟨g,0,none⟩) xs.length c0) (n:=xs.length+ys.length) (cells:=cells.take (i *E.size)++news++cells.drop (i *E.size)) hz iZ mN nK AB ?_ ?_ ?_ Nn ?_ Xv DC (fun b hb=> .inr (by cases hb;exact Nat.le_refl _))
   ·intro b hb cI
    rw [setRow_other _ _ _ _ (by omega)]
    exact Vv b hb
   ·rw [setRow_size];show W.heap.size≤W2.heap.size;omega
   ·exact Me.trans ((show Rest W2 {W2 with drawn:=W2.drawn+1} from ⟨rfl,rfl,rfl,fun _=>rfl⟩).trans (Rest.setRow _ _ _))
   ·refine ⟨by rw [DC.length,Xv],.inr ⟨W.heap.size,G,_,rfl,Nat.zero_le _,setRow_heap {W2 with drawn:=W2.drawn+1} W.heap.size RA.toArray _ I.elem (0,0) Y4,hGn,hGm,?_,?_⟩⟩
    ·simp only [List.size_toArray,List.length_append,List.length_take,List.length_drop]
     rw [ab5,←hRl]
     omega
    ·have afS:RA.take ((i+ys.length) *E.size)=cells.take (i *E.size)++news:=by
      have hl:(H7.toList.take (i *E.size)++news).length=(i+ys.length) *E.size:=by rw [List.length_append,List.length_take,Array.length_toList,him];omega
      rw [hRA,List.take_append_of_le_length (by omega),List.take_of_length_le (by omega),hRt]
     rw [afS]
     have vS:(cells.take (i *E.size)++news++cells.drop (i *E.size)).length=(xs.length+ys.length) *E.size:=by rw [DC.length,Xv]
     rw [←vS]
     exact List.take_left
  ·have rG:xs.length+ys.length≤c0:=by omega
   have hcz:cW.toList.length=cW.size:=Array.length_toList
   have vV:(xs.length+ys.length) *E.size≤cW.size:=by rw [re];exact Nat.mul_le_mul_right _ rG
   have hO:(callFunc fo #[.slice (some ⟨g2,0,none⟩) ys.length c2,.slice (some ⟨g,(i+ys.length) *E.size,none⟩) (xs.length+ys.length-(i+ys.length)) (c0-(i+ys.length))]).run P W= .ok (.value (.bool false)) W:=by
    rw [hov,Lib.run_overlaps_apart W t tb I.elem hu E.size (fun w=>by simp [Go.sizeOf,typeInfo,ny,sw]) ⟨g2,0,none⟩ ⟨g,(i+ys.length) *E.size,none⟩ _ _ _ _ (Ne.symm Xo) I.elem I.elem sW.size cW.size (by simp [World.shape?,Sj]) (by simp [World.shape?,hgc])
     (by rw [re];exact Nat.ne_of_gt (Nat.mul_pos (by omega) dZ)) (by simp [World.frozen?,Sj]) (by simp [World.frozen?,Sj])]
    rfl
   let R1:List Value:=cW.toList.take ((i+ys.length) *E.size)++cells.drop (i *E.size)++cW.toList.drop ((i+ys.length) *E.size+(cells.drop (i *E.size)).length)
   have hR1:R1.length=cW.size:=by
    simp only [R1,List.length_append,List.length_take,List.length_drop,Array.length_toList]
    rw [Ny] at *
    omega
   have hB: ∀ty,(Builtin.copy_ #[t,t] ty #[.slice (some ⟨g,(i+ys.length) *E.size,none⟩) (xs.length+ys.length-(i+ys.length)) (c0-(i+ys.length)),.slice (some ⟨g,i *E.size,none⟩) (xs.length+ys.length-i) (c0-i)]).run P {W with drawn:=W.drawn+1}=
    .ok (goInt ((xs.length-i:Nat):Int)) (World.setRow {W with drawn:=W.drawn+1} g R1.toArray):=fun ty=>
    n8 (size:=E.size) hu ny sw (w:={W with drawn:=W.drawn+1}) hgc (by simp only [Nat.min_def];split<;>omega) Ny (Xw rfl) (by rw [him,Ny];omega) WS
   have afU:(World.setRow {W with drawn:=W.drawn+1} g R1.toArray).heap[g]? =some (.cells R1.toArray I.elem (0,0)):=setRow_heap {W with drawn:=W.drawn+1} g cW R1.toArray I.elem (0,0) hgc
   have Vv: ∀b,b≠g→(World.setRow {W with drawn:=W.drawn+1} g R1.toArray).heap[b]? =W.heap[b]? :=fun b hb=>setRow_other {W with drawn:=W.drawn+1} g b R1.toArray hb
   have hC:=fun ty=>n8 (P:=P) (dT:=t) (sT:=t) (ty:=ty) (size:=E.size) (Vp:=xs.length+ys.length-i) (YX:=c0-i) (Vq:=ys.length) (YY:=c2) (k:=ys.length) (o:=i *E.size) (a:=⟨g2,0,none⟩) hu ny sw afU (by simp only [Nat.min_def];split<;>omega) Cs
    (Sz (Vv g2 (Ne.symm Xo))) (by simp only [List.size_toArray];rw [hR1];omega) zd.vX
   refine (Sy hf ny sw hm Gn (by unfold maxLen at Cr;omega) (by omega) s4 rG hO hB hC).mono ?_
   rintro x wZ ⟨rfl,rfl⟩
   refine ⟨_,rfl,?_⟩
   rw [setRow_setRow]
   have yf:Rest W (World.setRow {W with drawn:=W.drawn+1} g (R1.toArray.toList.take (i *E.size)++news++R1.toArray.toList.drop (i *E.size+news.length)).toArray):=ab4.trans (Rest.setRow _ _ _)
   refine Cu (v0:= .slice (some ⟨g,0,none⟩) xs.length c0) (n:=xs.length+ys.length) (cells:=cells.take (i *E.size)++news++cells.drop (i *E.size)) hz iZ mN nK AB ?_ (by simp) yf Nn ?_ Xv DC (fun b hb=> .inl hb)
   ·intro b hb cI
    refine setRow_other {W with drawn:=W.drawn+1} g b _ (fun h=>cI ?_)
    rw [h];rfl
   ·refine ⟨by rw [DC.length,Xv],.inr ⟨g,c0,_,rfl,Nat.zero_le _,setRow_heap {W with drawn:=W.drawn+1} g cW _ I.elem (0,0) hgc,rG,Cr,?_,?_⟩⟩
    ·simp only [List.size_toArray,List.length_append,List.length_take,List.length_drop]
     rw [hR1,←re]
     omega
    ·rw [ZV]
     refine Vs (cW:=cW.toList) (r:=xs.length *E.size) (by simpa using hR1) rfl nM sO (by simp only [Array.length_toList];omega) ?_ ?_
     ·show R1.take (i *E.size)=_
      rw [←Lz,List.take_take,Nat.min_eq_left sO]
      simp only [R1]
      rw [List.append_assoc,List.take_append_of_le_length (by rw [List.length_take,hcz];omega),List.take_take,Nat.min_eq_left (by omega)]
     ·show (R1.drop (i *E.size+news.length)).take _=_
      simp only [R1]
      have hl:(cW.toList.take ((i+ys.length) *E.size)).length=i *E.size+news.length:=by rw [List.length_take,hcz];omega
      rw [List.append_assoc,←hl,List.drop_left,List.take_append_of_le_length (by omega),List.take_of_length_le (by omega)]
end
end Dn
/-
  slices.Delete of the library, walked. Conditions: none.
-/
set_option linter.unusedSimpArgs false
set_option linter.unusedVariables false
namespace Dn
open Go
structure BA (o:Oper) (op:Op):Prop where
 dst:o.dst=none
 op:o.op=op
 guard:o.guard=none
section
variable {P:Program} {Q:Exit→Act→World→Prop} {ops:Array Oper} {o:Oper} {a:Act} {w w':World} {n:Nat} {σ:Nat→Value}
theorem Tm.Xx {i:Nat} {op:Op} {rest:List Nat} {v:Value} (aA:Tm a n σ) (hi:ops[i]? =some o) (ho:BA o op) (bJ:(execOp (ev σ) o).run P w= .ok (.value v) w')
 (h:wpOps P ops Q rest a w'):wpOps P ops Q (i::rest) a w:=by
 refine sv hi ho.guard (v:=v) (w':=w') (by rw [aA.eval];exact bJ) ?_
 rw [ho.dst];exact h
def DD (ops:Array Oper):Nat→Nat→Array Bool→Bool
 |0,i,listed=>(Region.ready .any ops listed==[i])&&(Region.ready .any ops (listed.setIfInBounds i true)==[i+1])&&(Region.ready .any ops ((listed.setIfInBounds i true).setIfInBounds (i+1) true)).isEmpty
 |k+1,i,listed=>Region.free .any ops listed i&&(Region.ready .any ops listed).contains i&&DD ops k (i+1) (listed.setIfInBounds i true)
def Mf (ops:Array Oper):Bool:=Region.noSelect ops&&Nat.blt 1 ops.size&&DD ops (ops.size-2) 0 (Array.replicate ops.size false)
structure H8 (ops:Array Oper) (k i:Nat) (listed:Array Bool):Prop where
 sel:Region.noSelect ops=true
 ord:DD ops k i listed=true
theorem Tm.GN {N:Act→World→Prop} {i d:Nat} {op:Op} {k:Nat} {listed:Array Bool} {v:Value} (aA:Tm a n σ) (hi:ops[i]? =some o) (ho:aJ o d op) (hd:d<n) (hb:H8 ops (k+1) i listed) (bJ: ∀w,(execOp (ev σ) o).run P w= .ok (.value v) w)
 (h: ∀a',Tm a' n (wc σ d v)→H8 ops k (i+1) (listed.setIfInBounds i true)→wpAny P .any ops (pO N) (k+2) (listed.setIfInBounds i true) a' w):wpAny P .any ops (pO N) (k+3) listed a w:=by
 obtain ⟨hs,hb⟩:=hb
 simp only [DD,Bool.and_eq_true] at hb
 obtain ⟨⟨h1,h2⟩,h3⟩:=hb
 refine wpAny_take hi hs h1 h2 (fun c a w hq=>hq.elim) (v:=v) (.inl ⟨by simp [Region.wanted,ho.guard],fun w=>by rw [aA.eval];exact bJ w⟩) ?_
 rw [ho.dst]
 exact h _ (aA.put hd v) ⟨hs,h3⟩
theorem Tm.ab6 {N:Act→World→Prop} {i d d2:Nat} {op op2:Op} {o2:Oper} {listed:Array Bool} {v v2:Value} (aA:Tm a n σ) (hi:ops[i]? =some o) (ho:aJ o d op) (hd:d<n) (Qt:ops[i+1]? =some o2) (cf:aJ o2 d2 op2) (Ug:d2<n) (hb:H8 ops 0 i listed)
 (bJ:(execOp (ev σ) o).run P w= .ok (.value v) w') (GJ:(execOp (ev (wc σ d v)) o2).run P w'= .ok (.value v2) w')
 (h: ∀a',Tm a' n (wc (wc σ d v) d2 v2)→N a' w'):wpAny P .any ops (pO N) 2 listed a w:=by
 obtain ⟨hs,hb⟩:=hb
 simp only [DD,Bool.and_eq_true,List.isEmpty_iff,beq_iff_eq] at hb
 obtain ⟨⟨h1,h2⟩,h3⟩:=hb
 refine wpAny_all h1 (by simp) ?_
 intro j hj
 simp only [List.mem_singleton] at hj
 subst hj
 unfold wpOp
 simp only [hi,Region.wanted,ho.guard,if_true]
 left
 unfold Oper.wp
 rw [aA.eval,bJ,Oper.upon_value,ho.dst]
 have SA:=aA.put hd v
 refine wpAny_all h2 (by simp) ?_
 intro q hq
 simp only [List.mem_singleton] at hq
 subst hq
 unfold wpOp
 simp only [Qt,Region.wanted,cf.guard,if_true]
 left
 unfold Oper.wp
 rw [SA.eval,GJ,Oper.upon_value,cf.dst]
 exact wpAny_done h3 (h _ (SA.put Ug v2)) 0
theorem SB {id k:Nat} (hm:P.follows .mixedOrders=true) (hb:Mf ops=true) (hk:ops.size=k+2) (h:H8 ops k 0 (Array.replicate (k+2) false)→wpAny P .any ops (pO fun a w=>Q .normal a w) (k+2) (Array.replicate (k+2) false) a {w with drawn:=w.drawn+1}):
 (Code.region id ops true).wp P Q a w:=by
 simp only [Mf,Bool.and_eq_true] at hb
 rw [hk] at hb
 refine Code.wp_mono ?_ (wp_region_any (Q:=pO fun a w=>Q .normal a w) hm (by rw [hk];exact h ⟨hb.1.1,hb.2⟩))
 intro x a' w' hx
 cases x<;>first|exact hx|exact hx.elim
theorem GO {d:Nat} {t el:TypeId} {x y z m3:Operand} {e:Operand→Value} {ad:Option Addr} {m c l h k:Nat} {i:TypeInfo} (ho:aJ o d (.slice t x (some y) (some z) (some m3))) (hu:P.underlying t=some (.slice el)) (hi:P.info? el=some i)
 (hx:e x= .slice ad m c) (hy:e y= .int .i64 l) (hz:e z= .int .i64 h) (hm:e m3= .int .i64 k) (h1:l≤h) (h2:h≤k) (h3:k≤c) (w:World):(execOp e o).run P w= .ok (.value (.slice (if k=l then ad else ad.map (·.add (l *i.size))) (h-l) (k-l))) w:=by
 simp [execOp,ho.op,Instr.sliceAt,Instr.slice,run_underlying hu,hx,hy,hz,hm,Go.sizeOf,typeInfo,hi,Instr.sliceBounds,Instr.sliceBound,asIntOf,h1,h2,h3]
theorem J4 {d:Nat} {t el:TypeId} {x y z:Operand} {e:Operand→Value} {ad:Option Addr} {m c l h size:Nat} {i:TypeInfo} (ho:aJ o d (.slice t x (some y) (some z) none)) (hu:P.underlying t=some (.slice el)) (hi:P.info? el=some i) (hs:i.size=size)
 (hx:e x= .slice ad m c) (hy:e y= .int .i64 l) (hz:e z= .int .i64 h) (h1:l≤h) (h2:h≤c) (w:World):(execOp e o).run P w= .ok (.value (.slice (if c=l then ad else ad.map (·.add (l *size))) (h-l) (c-l))) w:=by
 simp [execOp,ho.op,Instr.sliceAt,Instr.slice,run_underlying hu,hx,hy,hz,Go.sizeOf,typeInfo,hi,hs,Instr.sliceBounds,Instr.sliceBound,asIntOf,h1,h2]
theorem NO {x:Operand} {t1:TypeId} {e:Operand→Value} {v1 v:Value} (ho:BA o (.call {callee:= .builtin .clear,args:= #[x],argTypes:= #[t1]})) (hx:e x=v1)
 (h:(Builtin.clear_ #[t1] o.type #[v1]).run P w= .ok v w'):(execOp e o).run P w= .ok (.value v) w':=by
 simp [execOp,ho.op,resolve,invoke,builtin,hx,h]
theorem wh {t ty elem t2:TypeId} {g off n c size:Nat} {z:Value} {cW:Array Value} {i:TypeInfo} (hu:P.underlying t=some (.slice elem)) (hi:P.info? elem=some i) (hz:i.zero=some z) (IW:z.cells.size=size) (h1: ∀v∈z.cells.toList,v.oneCell'=true)
 (hg:w.heap[g]? =some (.cells cW t2 (0,0))) (hn:0<n) (vV:off+n *size≤cW.size):
 ∃zs:List Value,zs.length=n *size∧(Builtin.clear_ #[t] ty #[.slice (some ⟨g,off,none⟩) n c]).run P w= .ok (.tuple #[]) (w.setRow g (cW.toList.take off++zs++cW.toList.drop (off+zs.length)).toArray):=by
 refine ⟨(Builtin.zeroCells z.cells n).toList,?_,?_⟩
 ·simp [Builtin.zeroCells,IW]
 ·have hl:(Builtin.zeroCells z.cells n).toList.length=n *size:=by simp [Builtin.zeroCells,IW]
  have dM:=run_storeCells_at P g off t2 (Builtin.zeroCells z.cells n).toList 0 cW w hg (by rw [hl];simpa using vV) (by
   intro v hv
   simp only [Builtin.zeroCells,Array.toList_map,List.mem_map,Array.mem_toList_iff,Array.mem_range] at hv
   obtain ⟨j,hj,rfl⟩:=hv
   have dZ:0<z.cells.size:=by
    rcases Nat.eq_zero_or_pos z.cells.size with h0|h0
    ·rw [h0] at hj;omega
    ·exact h0
   have cz:j%z.cells.size<z.cells.size:=Nat.mod_lt _ dZ
   rw [getElem!_pos z.cells _ cz]
   exact h1 _ (by simp))
  simp only [Nat.add_zero] at dM
  obtain ⟨m,rfl⟩: ∃m,n=m+1:=⟨n-1,by omega⟩
  simp [Builtin.clear_,run_underlying hu,zeroValue,typeInfo,hi,hz,dM]
end
theorem td {w:World} {g:Nat} {cW:Array Value} {t:TypeId} {fr:Nat×Nat} (cs:Array Value) (hg:w.heap[g]? =some (.cells cW t fr)):(w.setRow g cs).heap[g]? =some (.cells cs t fr):=by
 simp [World.setRow,Array.getElem?_modify,hg]
def zz (r:Nat→Nat) (o:Nat→Oper):Code:=
 .seq (.region (r 0) #[o 0] false) (.seq (.region (r 1) #[o 1,o 2,o 3,o 4,o 5,o 6] false) (.seq (.seq (.region (r 2) #[o 7,o 8,o 9] false) (.cond (.tmp 16) (.seq (.region (r 3) #[o 10,o 11] false) .ret) .skip)) (.seq (.region (r 4) #[o 12,o 13,o 14] false) (.seq (.region (r 5) #[o 15,o 16,o 17,o 18,o 19,o 20,o 21,o 22] true) (.seq (.region (r 6) #[o 23,o 24,o 25,o 26,o 27,o 28] false) (.seq (.region (r 7) #[o 29,o 30] false) .ret))))))
structure Y5 (t ti:Nat) (o:Nat→Oper):Prop where
 h0:aJ (o 0) 6 (.assign (.const (.slice none 0 0)))
 h1:aJ (o 1) 8 (.move (.tmp 0))
 h2:aJ (o 2) 9 (.move (.tmp 1))
 h3:aJ (o 3) 10 (.move (.tmp 2))
 h4:aJ (o 4) 11 (.move (.tmp 0))
 h5:aJ (o 5) 12 (.call {callee:= .builtin .len,args:= #[.tmp 11],argTypes:= #[t]})
 h6:aJ (o 6) 13 (.slice t (.tmp 8) (some (.tmp 9)) (some (.tmp 10)) (some (.tmp 12)))
 h7:aJ (o 7) 14 (.move (.tmp 1))
 h8:aJ (o 8) 15 (.move (.tmp 2))
 h9:aJ (o 9) 16 (.binOp .eql ti (.tmp 14) (.tmp 15) ti)
 Nz:aJ (o 10) 17 (.move (.tmp 0))
 L8:aJ (o 11) 6 (.assign (.tmp 17))
 L9:aJ (o 12) 18 (.move (.tmp 0))
 Ma:aJ (o 13) 19 (.call {callee:= .builtin .len,args:= #[.tmp 18],argTypes:= #[t]})
 Mb:aJ (o 14) 7 (.assign (.tmp 19))
 Mc:aJ (o 15) 20 (.move (.tmp 0))
 Md:aJ (o 16) 21 (.move (.tmp 1))
 Sv:aJ (o 17) 22 (.slice t (.tmp 20) none (some (.tmp 21)) none)
 Xp:aJ (o 18) 23 (.move (.tmp 0))
 Xq:aJ (o 19) 24 (.move (.tmp 2))
 Xr:aJ (o 20) 25 (.slice t (.tmp 23) (some (.tmp 24)) none none)
 Uh:aJ (o 21) 26 (.call {callee:= .builtin .append,args:= #[.tmp 22,.tmp 25],argTypes:= #[t,t]})
 Ui:aJ (o 22) 0 (.assign (.tmp 26))
 Uj:aJ (o 23) 27 (.move (.tmp 0))
 Uk:aJ (o 24) 28 (.move (.tmp 0))
 Ul:aJ (o 25) 29 (.call {callee:= .builtin .len,args:= #[.tmp 28],argTypes:= #[t]})
 Um:aJ (o 26) 30 (.move (.tmp 7))
 Xs:aJ (o 27) 31 (.slice t (.tmp 27) (some (.tmp 29)) (some (.tmp 30)) none)
 Xt:BA (o 28) (.call {callee:= .builtin .clear,args:= #[.tmp 31],argTypes:= #[t]})
 Xu:aJ (o 29) 32 (.move (.tmp 0))
 Sw:aJ (o 30) 6 (.assign (.tmp 32))
 d5:Mf #[o 15,o 16,o 17,o 18,o 19,o 20,o 21,o 22]=true
structure J5 (P:Program) (f t ti el:Nat) (fn:Func) (r:Nat→Nat) (o:Nat→Oper):Prop where
 pos:P.funcs[f]? =some fn
 name:(fn.name== "runtime.NumGoroutine")=false
 tmps:fn.ntmps=33
 res:fn.results= #[.tmp 6]
 body:fn.body=some (zz r o)
 ops:Y5 t ti o
 mix:P.follows .mixedOrders=true
 tM:P.underlying t=some (.slice el)
section
variable {P:Program} {f t ti el:Nat} {fn:Func} {r:Nat→Nat} {o:Nat→Oper} {ie:TypeInfo} {size n c i j g:Nat} {ad:Option Addr} {w:World}
theorem NP {a:Act} {w:World} {σ:Nat→Value} {R:Ending→World→Prop} {v:Value} (hr:fn.results= #[.tmp 6]) (aA:Tm a 33 σ) (h6:σ 6=v) (h:R (.returned v) w):bodyPost P fn R .ret a w:=by
 refine ⟨aA.defers,v,?_,h⟩
 have h2:a.tmps[6]?.getD undef=v:=by have:=aA.get 6;rw [h6] at this;simpa using this
 simp [results,hr,h2]
theorem SC (hf:J5 P f t ti el fn r o) (ny:P.info? el=some ie) (hn:n≤c) (hi:i≤n):
 Calls P f #[.slice ad n c,.int .i64 ((i:Nat):Int),.int .i64 ((i:Nat):Int)] w fun x w'=>x= .returned (.slice ad n c)∧w'=w:=by
 refine calls_of_wp hf.pos hf.body ?_
 rw [hf.tmps]
 have key: ∀a:Act,Tm a 33 (wc (wc (wc (fun _=>undef) 0 (.slice ad n c)) 1 (.int .i64 ((i:Nat):Int))) 2 (.int .i64 ((i:Nat):Int)))→(zz r o).wp P (bodyPost P fn fun x w'=>x= .returned (.slice ad n c)∧w'=w) a w:=by
  intro a aA
  unfold zz
  refine wp_seq (wp_region ?_)
  rw [show List.range (#[o 0]:Array Oper).size=[0] from rfl]
  refine aA.step (v:= .slice none 0 0) rfl hf.ops.h0 (by decide) (cy hf.ops.h0 _) (fun a aA=> ?_)
  refine wp_seq (wp_region ?_)
  rw [show List.range (#[o 1,o 2,o 3,o 4,o 5,o 6]:Array Oper).size=[0,1,2,3,4,5] from rfl]
  refine aA.step (v:= .slice ad n c) rfl hf.ops.h1 (by decide) (aI hf.ops.h1 _) (fun a aA=> ?_)
  refine aA.step (v:= .int .i64 ((i:Nat):Int)) rfl hf.ops.h2 (by decide) (aI hf.ops.h2 _) (fun a aA=> ?_)
  refine aA.step (v:= .int .i64 ((i:Nat):Int)) rfl hf.ops.h3 (by decide) (aI hf.ops.h3 _) (fun a aA=> ?_)
  refine aA.step (v:= .slice ad n c) rfl hf.ops.h4 (by decide) (aI hf.ops.h4 _) (fun a aA=> ?_)
  refine aA.step (v:= .int .i64 ((n:Nat):Int)) rfl hf.ops.h5 (by decide) (lY hf.ops.h5 hf.tM rfl _) (fun a aA=> ?_)
  refine aA.step rfl hf.ops.h6 (by decide) (GO hf.ops.h6 hf.tM ny rfl rfl rfl rfl (Nat.le_refl _) hi hn _) (fun a aA=> ?_)
  refine wp_seq ?_
  refine wp_seq (wp_region ?_)
  rw [show List.range (#[o 7,o 8,o 9]:Array Oper).size=[0,1,2] from rfl]
  refine aA.step (v:= .int .i64 ((i:Nat):Int)) rfl hf.ops.h7 (by decide) (aI hf.ops.h7 _) (fun a aA=> ?_)
  refine aA.step (v:= .int .i64 ((i:Nat):Int)) rfl hf.ops.h8 (by decide) (aI hf.ops.h8 _) (fun a aA=> ?_)
  refine aA.step (v:= .bool (decide (((i:Nat):Int)=((i:Nat):Int)))) rfl hf.ops.h9 (by decide) (n7 hf.ops.h9 rfl rfl _) (fun a aA=> ?_)
  refine aA.cond (b:=true) (by show Value.bool (decide (((i:Nat):Int)=((i:Nat):Int)))=_;rw [decide_eq_true rfl]) ?_
  simp only [if_true]
  refine wp_seq (wp_region ?_)
  rw [show List.range (#[o 10,o 11]:Array Oper).size=[0,1] from rfl]
  refine aA.step (v:= .slice ad n c) rfl hf.ops.Nz (by decide) (aI hf.ops.Nz _) (fun a aA=> ?_)
  refine aA.step (v:= .slice ad n c) rfl hf.ops.L8 (by decide) (cy hf.ops.L8 _) (fun a aA=> ?_)
  refine wp_ret ?_
  show bodyPost P fn (fun x wq=>x= .returned (.slice ad n c)∧wq=w) .ret a w
  refine NP hf.res aA (v:= .slice ad n c) rfl ?_
  exact ⟨rfl,rfl⟩
 exact key _ (tm3 _ _ _ 30)
theorem SD (hf:J5 P f t ti el fn r o) (ny:P.info? el=some ie) (sw:ie.size=size) (hn:n≤c) (Na:i<j) (hj:j≤n) {w1 w2:World}
 (hA: ∀ty,(Builtin.append_ #[t,t] ty #[.slice (some ⟨g,0,none⟩) i c,.slice (if c=j then (some ⟨g,0,none⟩:Option Addr) else some ⟨g,j *size,none⟩) (n-j) (c-j)]).run P {w with drawn:=w.drawn+1}= .ok (.slice (some ⟨g,0,none⟩) (i+(n-j)) c) w1)
 (hC: ∀ty,(Builtin.clear_ #[t] ty #[.slice (some ⟨g,(i+(n-j)) *size,none⟩) (n-(i+(n-j))) (c-(i+(n-j)))]).run P w1= .ok (.tuple #[]) w2):
 Calls P f #[.slice (some ⟨g,0,none⟩) n c,.int .i64 ((i:Nat):Int),.int .i64 ((j:Nat):Int)] w fun x w'=>x= .returned (.slice (some ⟨g,0,none⟩) (i+(n-j)) c)∧w'=w2:=by
 refine calls_of_wp hf.pos hf.body ?_
 rw [hf.tmps]
 have h0: ∀l:Nat,(⟨g,0,none⟩:Addr).add l=⟨g,l,none⟩:=fun l=>by
  have:=Addr.add_mid g 0 l
  rwa [Nat.zero_add] at this
 have key: ∀a:Act,Tm a 33 (wc (wc (wc (fun _=>undef) 0 (.slice (some ⟨g,0,none⟩) n c)) 1 (.int .i64 ((i:Nat):Int))) 2 (.int .i64 ((j:Nat):Int)))→(zz r o).wp P (bodyPost P fn fun x w'=>x= .returned (.slice (some ⟨g,0,none⟩) (i+(n-j)) c)∧w'=w2) a w:=by
  intro a aA
  unfold zz
  refine wp_seq (wp_region ?_)
  rw [show List.range (#[o 0]:Array Oper).size=[0] from rfl]
  refine aA.step (v:= .slice none 0 0) rfl hf.ops.h0 (by decide) (cy hf.ops.h0 _) (fun a aA=> ?_)
  refine wp_seq (wp_region ?_)
  rw [show List.range (#[o 1,o 2,o 3,o 4,o 5,o 6]:Array Oper).size=[0,1,2,3,4,5] from rfl]
  refine aA.step (v:= .slice (some ⟨g,0,none⟩) n c) rfl hf.ops.h1 (by decide) (aI hf.ops.h1 _) (fun a aA=> ?_)
  refine aA.step (v:= .int .i64 ((i:Nat):Int)) rfl hf.ops.h2 (by decide) (aI hf.ops.h2 _) (fun a aA=> ?_)
  refine aA.step (v:= .int .i64 ((j:Nat):Int)) rfl hf.ops.h3 (by decide) (aI hf.ops.h3 _) (fun a aA=> ?_)
  refine aA.step (v:= .slice (some ⟨g,0,none⟩) n c) rfl hf.ops.h4 (by decide) (aI hf.ops.h4 _) (fun a aA=> ?_)
  refine aA.step (v:= .int .i64 ((n:Nat):Int)) rfl hf.ops.h5 (by decide) (lY hf.ops.h5 hf.tM rfl _) (fun a aA=> ?_)
  refine aA.step rfl hf.ops.h6 (by decide) (GO hf.ops.h6 hf.tM ny rfl rfl rfl rfl (Nat.le_of_lt Na) hj hn _) (fun a aA=> ?_)
  refine wp_seq ?_
  refine wp_seq (wp_region ?_)
  rw [show List.range (#[o 7,o 8,o 9]:Array Oper).size=[0,1,2] from rfl]
  refine aA.step (v:= .int .i64 ((i:Nat):Int)) rfl hf.ops.h7 (by decide) (aI hf.ops.h7 _) (fun a aA=> ?_)
  refine aA.step (v:= .int .i64 ((j:Nat):Int)) rfl hf.ops.h8 (by decide) (aI hf.ops.h8 _) (fun a aA=> ?_)
  refine aA.step (v:= .bool (decide (((i:Nat):Int)=((j:Nat):Int)))) rfl hf.ops.h9 (by decide) (n7 hf.ops.h9 rfl rfl _) (fun a aA=> ?_)
  refine aA.cond (b:=false) (by show Value.bool (decide (((i:Nat):Int)=((j:Nat):Int)))=_;rw [decide_eq_false (by omega)]) ?_
  simp only [Bool.false_eq_true,if_false]
  refine wp_skip ?_
  refine wp_seq (wp_region ?_)
  rw [show List.range (#[o 12,o 13,o 14]:Array Oper).size=[0,1,2] from rfl]
  refine aA.step (v:= .slice (some ⟨g,0,none⟩) n c) rfl hf.ops.L9 (by decide) (aI hf.ops.L9 _) (fun a aA=> ?_)
  refine aA.step (v:= .int .i64 ((n:Nat):Int)) rfl hf.ops.Ma (by decide) (lY hf.ops.Ma hf.tM rfl _) (fun a aA=> ?_)
  refine aA.step (v:= .int .i64 ((n:Nat):Int)) rfl hf.ops.Mb (by decide) (cy hf.ops.Mb _) (fun a aA=> ?_)
  refine wp_seq (SB hf.mix hf.ops.d5 (k:=6) rfl fun fC=> ?_)
  refine aA.GN (v:= .slice (some ⟨g,0,none⟩) n c) rfl hf.ops.Mc (by decide) fC (fun w=>aI hf.ops.Mc _) (fun a aA fC=> ?_)
  refine aA.GN (v:= .int .i64 ((i:Nat):Int)) rfl hf.ops.Md (by decide) fC (fun w=>aI hf.ops.Md _) (fun a aA fC=> ?_)
  refine aA.GN (v:= .slice (some ⟨g,0,none⟩) i c) rfl hf.ops.Sv (by decide) fC (fun w=>zx hf.ops.Sv hf.tM ny sw rfl rfl (by omega) _) (fun a aA fC=> ?_)
  refine aA.GN (v:= .slice (some ⟨g,0,none⟩) n c) rfl hf.ops.Xp (by decide) fC (fun w=>aI hf.ops.Xp _) (fun a aA fC=> ?_)
  refine aA.GN (v:= .int .i64 ((j:Nat):Int)) rfl hf.ops.Xq (by decide) fC (fun w=>aI hf.ops.Xq _) (fun a aA fC=> ?_)
  refine aA.GN (v:= .slice (if c=j then (some ⟨g,0,none⟩:Option Addr) else some ⟨g,j *size,none⟩) (n-j) (c-j)) rfl hf.ops.Xr (by decide) fC (fun w=>by
   refine (wg (P:=P) hf.ops.Xr hf.tM ny sw (ad:=some ⟨g,0,none⟩) (m:=n) (c:=c) (l:=j) rfl rfl hj w).trans ?_
   rw [show (some (⟨g,0,none⟩:Addr)).map (·.add (j *size))=some ⟨g,j *size,none⟩ from congrArg some (h0 _)]) (fun a aA fC=> ?_)
  refine aA.ab6 (v:= .slice (some ⟨g,0,none⟩) (i+(n-j)) c) (v2:= .slice (some ⟨g,0,none⟩) (i+(n-j)) c) rfl hf.ops.Uh (by decide) rfl hf.ops.Ui (by decide) fC (DA hf.ops.Uh rfl rfl (hA _)) (cy hf.ops.Ui _) (fun a aA=> ?_)
  refine wp_seq (wp_region ?_)
  rw [show List.range (#[o 23,o 24,o 25,o 26,o 27,o 28]:Array Oper).size=[0,1,2,3,4,5] from rfl]
  refine aA.step (v:= .slice (some ⟨g,0,none⟩) (i+(n-j)) c) rfl hf.ops.Uj (by decide) (aI hf.ops.Uj _) (fun a aA=> ?_)
  refine aA.step (v:= .slice (some ⟨g,0,none⟩) (i+(n-j)) c) rfl hf.ops.Uk (by decide) (aI hf.ops.Uk _) (fun a aA=> ?_)
  refine aA.step (v:= .int .i64 ((i+(n-j):Nat):Int)) rfl hf.ops.Ul (by decide) (lY hf.ops.Ul hf.tM rfl _) (fun a aA=> ?_)
  refine aA.step (v:= .int .i64 ((n:Nat):Int)) rfl hf.ops.Um (by decide) (aI hf.ops.Um _) (fun a aA=> ?_)
  refine aA.step (v:= .slice (some ⟨g,(i+(n-j)) *size,none⟩) (n-(i+(n-j))) (c-(i+(n-j)))) rfl hf.ops.Xs (by decide) (by
   refine (J4 (P:=P) hf.ops.Xs hf.tM ny sw (ad:=some ⟨g,0,none⟩) (m:=i+(n-j)) (c:=c) (l:=i+(n-j)) (h:=n) rfl rfl rfl (by omega) (by omega) w1).trans ?_
   rw [if_neg (show¬c=i+(n-j) by omega)]
   rw [show (some (⟨g,0,none⟩:Addr)).map (·.add ((i+(n-j)) *size))=some ⟨g,(i+(n-j)) *size,none⟩ from congrArg some (h0 _)]) (fun a aA=> ?_)
  refine aA.Xx (v:= .tuple #[]) rfl hf.ops.Xt (NO hf.ops.Xt rfl (hC _)) ?_
  refine wp_seq (wp_region ?_)
  rw [show List.range (#[o 29,o 30]:Array Oper).size=[0,1] from rfl]
  refine aA.step (v:= .slice (some ⟨g,0,none⟩) (i+(n-j)) c) rfl hf.ops.Xu (by decide) (aI hf.ops.Xu _) (fun a aA=> ?_)
  refine aA.step (v:= .slice (some ⟨g,0,none⟩) (i+(n-j)) c) rfl hf.ops.Sw (by decide) (cy hf.ops.Sw _) (fun a aA=> ?_)
  refine wp_ret ?_
  show bodyPost P fn (fun x wq=>x= .returned (.slice (some ⟨g,0,none⟩) (i+(n-j)) c)∧wq=w2) .ret a w2
  refine NP hf.res aA (v:= .slice (some ⟨g,0,none⟩) (i+(n-j)) c) rfl ?_
  exact ⟨rfl,rfl⟩
 exact key _ (tm3 _ _ _ 30)
end
section
variable {P:Program} {c:Ctx} {f:Nat}
theorem GP {t ti el:Nat} {fn:Func} {r:Nat→Nat} {o:Nat→Oper} {I E:TI} {xs:List MV} {i j:Nat} (hf:J5 P f t ti el fn r o) (hT:kn P c.ti) (hI:c.tv t=some I) (hL:I.xT=true) (hE:c.tv I.elem=some E)
 (T6:el=I.elem) (AB:c.ra (c.key f)=I.elem) (hg:c.dP (c.key f)=true) (Na:i≤j) (hj:j≤xs.length):kp P c f [.fresh xs,.i .i64 i,.i .i64 j] (.fresh (xs.take i++xs.drop j)):=by
 subst T6
 obtain ⟨hIt,Q8⟩:=bE hI
 obtain ⟨mN,nK⟩:=bE hE
 obtain ⟨hu,E2,vI,_,dZ⟩:=TI.mn (hT t I hIt) hL
 rw [mN] at vI
 cases vI
 obtain ⟨ie,z,ny,sw,OC,Vt,IW⟩:=nN (hT _ E mN) nK
 obtain ⟨ie2,z2,SE,Q2,hzr⟩:=yF hE hT
 rw [ny] at SE
 cases SE
 rw [Vt] at Q2
 cases Q2
 have hz1: ∀v∈z.cells.toList,v.oneCell'=true:=(hzr (nO c.key fun _ _=>none)).cells
 intro φ W Z vs hz eP iZ
 simp only [ew,hg,if_true] at eP
 obtain ⟨v0,v1,v2,xs',m1,m2,rfl,Jz,ahQ,F0,A1,A2⟩:=(eP.resolve_left (by
  rintro ⟨_,_,_,_,_,ys,_,h1,_⟩
  simp only [List.cons.injEq,and_true] at h1
  exact absurd h1.2.2 (by simp))).resolve_right (by
  rintro ⟨pos,_,_,_,_,_,_,h1,_⟩
  rcases pos with _|_|_|pos<;>simp at h1)
 simp only [List.cons.injEq,MV.fresh.injEq,and_true] at Jz
 obtain ⟨rfl,rfl,rfl⟩:=Jz
 have num: ∀{v:Value} {n:Nat},eN c.key φ v (.i .i64 (n:Int))→v= .int .i64 (n:Int):=by
  intro v n h
  obtain ⟨_,h⟩:=h
  generalize xA:[v]=l at h
  cases h;simpa using xA
 have Oq:=num A1
 have T7:=num A2
 subst Oq
 subst T7
 rw [AB] at F0
 obtain ⟨I0,cells,Vu,_,tc,rO,GM⟩:=F0
 have Vu:c.ti I.elem=some I0:=Vu
 rw [mN] at Vu
 cases Vu
 have tc:W.ownsRow 0 I.elem E.size v0 xs.length cells:=tc
 have rO:aW c.key φ E.size cells xs:=rO
 have Nn: ∀b,v0.ownBlock=some b→Z b∧ ∀off,φ b off=none:=by
  intro b hb
  refine ⟨(GM b hb).1,fun off=> ?_⟩
  cases h:φ b off with
  |none=>rfl
  |some u=>have:=((GM b hb).2.1 off u h).1;cases this
 have nM:cells.length=xs.length *E.size:=rO.length
 have bJ:(callFunc f [v0,.int .i64 (i:Int),.int .i64 (j:Int)].toArray).run P W= .ok (.enter f #[v0,.int .i64 (i:Int),.int .i64 (j:Int)]) W:=by
  have CP: ¬fn.name= "runtime.NumGoroutine" :=by simpa using hf.name
  simp [callFunc,hf.pos,CP,hf.body]
 unfold fe
 rw [bJ]
 rcases Nat.lt_or_ge i j with cz|Qu
 ·
  obtain ⟨g,cp,cW,rfl,_,Qv,Gn,Cr,re,Lz⟩: ∃g cp cW,v0= .slice (some ⟨g,0,none⟩) xs.length cp∧0≤g∧W.heap[g]? =some (.cells cW I.elem (0,0))∧xs.length≤cp∧cp≤maxLen∧cW.size=cp *E.size∧cW.toList.take (xs.length *E.size)=cells:=by
   rcases tc.2 with ⟨_,h0⟩|h
   ·omega
   ·exact h
  have hl0:cells.length≤cW.size:=by rw [nM,re];exact Nat.mul_le_mul_right _ Gn
  obtain ⟨news,Bj⟩: ∃news,news=cells.drop (j *E.size):=⟨_,rfl⟩
  have Cs:news.length=(xs.length-j) *E.size:=by rw [Bj,List.length_drop,nM,Nat.sub_mul]
  have HE: ∀u∈news,u.oneCell'=true:=fun u hu=>rO.vX u (by rw [Bj] at hu;exact List.mem_of_mem_drop hu)
  have hmul: ∀{a b:Nat},a≤b→a *E.size≤b *E.size:=fun h=>Nat.mul_le_mul_right _ h
  have ajC:i *E.size≤j *E.size:=hmul (by omega)
  have hjn:j *E.size≤xs.length *E.size:=hmul hj
  have ajE:xs.length *E.size≤cp *E.size:=hmul Gn
  have hlo:(i+(xs.length-j)) *E.size=i *E.size+news.length:=by rw [Nat.add_mul,Cs]
  have BV:news.length+j *E.size=xs.length *E.size:=by rw [Cs,Nat.sub_mul];omega
  obtain ⟨wi,NQ⟩: ∃wi:Array Value,wi=(cW.toList.take (i *E.size)++news++cW.toList.drop (i *E.size+news.length)).toArray:=⟨_,rfl⟩
  have ab7:cW.toList.length=cW.size:=Array.length_toList
  have Xy:wi.toList.length=wi.size:=Array.length_toList
  have hA: ∀ty,(Builtin.append_ #[t,t] ty #[.slice (some ⟨g,0,none⟩) i cp,.slice (if cp=j then (some ⟨g,0,none⟩:Option Addr) else some ⟨g,j *E.size,none⟩) (xs.length-j) (cp-j)]).run P {W with drawn:=W.drawn+1}= .ok (.slice (some ⟨g,0,none⟩) (i+(xs.length-j)) cp) (({W with drawn:=W.drawn+1}:World).setRow g wi):=by
   intro ty
   have vV:i *ie.size+news.length≤cW.size:=by rw [sw,re];omega
   by_cases hcj:cp=j
   ·rw [if_pos hcj]
    refine run_append_room (P:=P) (w:={W with drawn:=W.drawn+1}) t ty I.elem ie hu ny g i cp cW Qv ⟨g,0,none⟩ (xs.length-j) (cp-j) news (by rw [sw];exact Cs) ?_ HE (by omega) vV|>.trans ?_
    ·intro q u hq
     have:=(List.getElem?_eq_some_iff.1 hq).1
     rw [Cs,show xs.length-j=0 by omega] at this
     omega
    ·rw [sw,NQ]
   ·rw [if_neg hcj]
    refine run_append_room (P:=P) (w:={W with drawn:=W.drawn+1}) t ty I.elem ie hu ny g i cp cW Qv ⟨g,j *E.size,none⟩ (xs.length-j) (cp-j) news (by rw [sw];exact Cs) ?_ HE (by omega) vV|>.trans ?_
    ·intro q u hq
     have h1:=tc.cells (g:=g) rfl (j *E.size+q) u (by rw [Bj,List.getElem?_drop] at hq;exact hq)
     rw [Addr.add_mid] at h1⊢
     rw [Nat.zero_add] at h1
     exact h1
    ·rw [sw,NQ]
  have K8:wi.size=cW.size:=by
   rw [NQ]
   simp only [List.size_toArray,List.length_append,List.length_take,List.length_drop,ab7]
   omega
  have IY:(({W with drawn:=W.drawn+1}:World).setRow g wi).heap[g]? =some (.cells wi I.elem (0,0)):=td _ Qv
  obtain ⟨zs,hzl,hC0⟩:=wh (P:=P) (t:=t) (ty:=0) (c:=cp-(i+(xs.length-j))) (w:=({W with drawn:=W.drawn+1}:World).setRow g wi) (off:=(i+(xs.length-j)) *E.size) (n:=xs.length-(i+(xs.length-j))) hu ny Vt IW hz1 IY (by omega) (by rw [K8,re,←Nat.add_mul];exact hmul (by omega))
  obtain ⟨sW,Jo⟩: ∃sW:Array Value,sW=(wi.toList.take ((i+(xs.length-j)) *E.size)++zs++wi.toList.drop ((i+(xs.length-j)) *E.size+zs.length)).toArray:=⟨_,rfl⟩
  rw [←Jo] at hC0
  have hC: ∀ty,(Builtin.clear_ #[t] ty #[.slice (some ⟨g,(i+(xs.length-j)) *E.size,none⟩) (xs.length-(i+(xs.length-j))) (cp-(i+(xs.length-j)))]).run P (({W with drawn:=W.drawn+1}:World).setRow g wi)= .ok (.tuple #[]) ((({W with drawn:=W.drawn+1}:World).setRow g wi).setRow g sW):=fun ty=>hC0
  refine (SD (w:=W) hf ny sw Gn cz hj hA hC).mono ?_
  rintro x w' ⟨rfl,rfl⟩
  refine ⟨_,rfl,?_⟩
  have afW:zs.length=(j-i) *E.size:=by rw [hzl];congr 1;omega
  have hc2:sW.size=cW.size:=by
   rw [Jo]
   simp only [List.size_toArray,List.length_append,List.length_take,List.length_drop,Xy,K8]
   rw [afW,Nat.sub_mul,hlo]
   omega
  have ab2:sW.toList.take ((i+(xs.length-j)) *E.size)=cells.take (i *E.size)++cells.drop (j *E.size):=by
   rw [Jo]
   have l1:(wi.toList.take ((i+(xs.length-j)) *E.size)).length=(i+(xs.length-j)) *E.size:=by
    rw [List.length_take,Xy,K8,re,hlo];omega
   rw [show∀l:List Value,l.toArray.toList=l from fun _=>rfl,List.append_assoc,List.take_append_of_le_length (by rw [l1];exact Nat.le_refl _),List.take_of_length_le (by rw [l1];exact Nat.le_refl _),hlo,NQ]
   have l2:(cW.toList.take (i *E.size)).length=i *E.size:=by rw [List.length_take,ab7,re];omega
   rw [show∀l:List Value,l.toArray.toList=l from fun _=>rfl,List.take_append_of_le_length (by rw [List.length_append,l2];exact Nat.le_refl _),List.take_of_length_le (by rw [List.length_append,l2];exact Nat.le_refl _),Bj]
   congr 1
   rw [←Lz,List.take_take,Nat.min_eq_left (by omega)]
  have e2:(({W with drawn:=W.drawn+1}:World).setRow g wi).setRow g sW=({W with drawn:=W.drawn+1}:World).setRow g sW:=setRow_setRow _ _ _ _
  have Sj:((({W with drawn:=W.drawn+1}:World).setRow g wi).setRow g sW).heap[g]? =some (.cells sW I.elem (0,0)):=td _ IY
  have Xv:(xs.take i++xs.drop j).length=i+(xs.length-j):=by rw [List.length_append,List.length_take,List.length_drop];omega
  refine Cu (n:=i+(xs.length-j)) (cells:=cells.take (i *E.size)++cells.drop (j *E.size)) hz iZ mN nK AB ?_ ?_ ?_ Nn ?_ Xv ((rO.take i).append (rO.drop j)) ?_
  ·intro b _ cI
   have Z4:b≠g:=fun e=>cI (by rw [e];rfl)
   rw [setRow_other _ _ _ _ Z4,setRow_other _ _ _ _ Z4]
  ·simp [World.setRow]
  ·have r1:Rest W ({W with drawn:=W.drawn+1}:World):=⟨rfl,rfl,rfl,fun _=>rfl⟩
   exact (r1.trans (Rest.setRow _ g wi)).trans (Rest.setRow _ g sW)
  ·refine ⟨?_,.inr ⟨g,cp,sW,rfl,Nat.zero_le _,Sj,by omega,Cr,by rw [hc2,re],ab2⟩⟩
   rw [List.length_append,List.length_take,List.length_drop,nM,hlo,Cs,Nat.sub_mul];omega
  ·intro b hb;exact .inl hb
 ·
  have Qw:j=i:=by omega
  subst Qw
  obtain ⟨ad,cp,hv,Gn⟩: ∃ad cp,v0= .slice ad xs.length cp∧xs.length≤cp:=by
   rcases tc.2 with ⟨h1,h2⟩|⟨g,cp,cW,h1,_,_,h4,_⟩
   ·exact ⟨none,0,by rw [h1,h2],by omega⟩
   ·exact ⟨_,cp,h1,h4⟩
  have hvv:=hv
  subst hv
  refine (SC (w:=W) (ad:=ad) hf ny Gn hj).mono ?_
  rintro x w' ⟨rfl,rfl⟩
  refine ⟨_,rfl,φ,⟨.refl _,fun _ _ _=>rfl,fun _ _ _=>rfl,Nat.le_refl _,.refl _⟩,iZ,?_⟩
  show cQ c (bC.plain Z) (nO c.key φ) w' _ ⟨c.ra (c.key f),false,xs.take j++xs.drop j⟩
  rw [AB,List.take_append_drop]
  exact ⟨E,cells,mN,nK,tc,rO,GM⟩
end
def n9:List MV→Option MV
 |[.fresh xs,.i .i64 i,.i .i64 j]=>bif decide (0≤i)&&(decide (i≤j)&&decide (j≤(xs.length:Int))) then some (.fresh (xs.take i.toNat++xs.drop j.toNat)) else none
 |_=>none
theorem zA {ms:List MV} {r:MV} (h:n9 ms=some r): ∃xs i j,ms=[.fresh xs,.i .i64 ((i:Nat):Int),.i .i64 ((j:Nat):Int)]∧r= .fresh (xs.take i++xs.drop j)∧i≤j∧j≤xs.length:=by
 unfold n9 at h
 split at h
 ·rename_i xs i j
  cases hb:decide (0≤i)&&(decide (i≤j)&&decide (j≤(xs.length:Int))) with
  |false=>rw [hb] at h;cases h
  |true=>
   simp only [hb,cond_true,Option.some.injEq] at h
   simp only [Bool.and_eq_true,decide_eq_true_eq] at hb
   obtain ⟨h1,h2,h3⟩:=hb
   refine ⟨xs,i.toNat,j.toNat,?_,h.symm,by omega,by omega⟩
   rw [Int.toNat_of_nonneg h1,Int.toNat_of_nonneg (by omega)]
 ·cases h
end Dn
/-
  Functions of the library as table entries. Conditions: none.
-/
set_option linter.unusedVariables false
namespace Dn
open Go
def fD (size bytes:Nat):List MV→Option MV
 |[.list xs]=>bif sP size xs&&Nat.ble (xs.length *bytes) (2^46) then some (.fresh xs) else none
 |_=>none
def jn (bytes:Nat):List MV→Option MV
 |[.fresh xs,.i .i64 i,.fresh ys]=>bif decide (0≤i)&&(Nat.ble i.toNat xs.length&&(!ys.isEmpty&&Nat.ble ((xs.length+ys.length) *bytes) (2^46))) then some (.fresh (xs.take i.toNat++ys++xs.drop i.toNat)) else none
 |_=>none
theorem rP {size bytes:Nat} {ms:List MV} {r:MV} (h:fD size bytes ms=some r): ∃xs,ms=[.list xs]∧r= .fresh xs∧sP size xs=true∧xs.length *bytes≤2^46:=by
 unfold fD at h
 split at h
 ·rename_i xs
  cases hb:sP size xs&&Nat.ble (xs.length *bytes) (2^46) with
  |false=>simp [hb] at h
  |true=>
   simp only [hb,cond_true,Option.some.injEq] at h
   simp only [Bool.and_eq_true] at hb
   exact ⟨xs,rfl,h.symm,hb.1,Nat.le_of_ble_eq_true hb.2⟩
 ·cases h
theorem ur {bytes:Nat} {ms:List MV} {r:MV} (h:jn bytes ms=some r): ∃xs ys i,ms=[.fresh xs,.i .i64 ((i:Nat):Int),.fresh ys]∧r= .fresh (xs.take i++ys++xs.drop i)∧i≤xs.length∧ys≠[]∧(xs.length+ys.length) *bytes≤2^46:=by
 unfold jn at h
 split at h
 ·rename_i xs i ys
  cases hb:decide (0≤i)&&(Nat.ble i.toNat xs.length&&(!ys.isEmpty&&Nat.ble ((xs.length+ys.length) *bytes) (2^46))) with
  |false=>rw [hb] at h;cases h
  |true=>
   simp only [hb,cond_true,Option.some.injEq] at h
   simp only [Bool.and_eq_true,decide_eq_true_eq,Bool.not_eq_true'] at hb
   obtain ⟨h1,h2,h3,h4⟩:=hb
   refine ⟨xs,ys,i.toNat,?_,h.symm,Nat.le_of_ble_eq_true h2,?_,Nat.le_of_ble_eq_true h4⟩
   ·rw [Int.toNat_of_nonneg h1]
   ·intro hy;subst hy;simp at h3
 ·cases h
theorem ap.none (P:Program) (c:Ctx):ap P c (fun _ _=>Option.none):=⟨fun f ms r h=>by cases h⟩
theorem ap.B2 {P:Program} {c:Ctx} {g:Nat→List MV→Option MV} {n:Nat} {F:List MV→Option MV} (h:ap P c g) (zh: ∀f,c.key f=f) (hF: ∀ms r,F ms=some r→kp P c n ms r):ap P c (bn n F g):=
 h.add (fun f ms r hk hr=>by
  rw [zh] at hk
  rw [hk]
  exact hF ms r hr)
def uu:Code→List Oper
 | .region _ ops _=>ops.toList
 | .seq x y=>uu x++uu y
 | .cond _ x y=>uu x++uu y
 | .block _ x=>uu x
 | .loop x=>uu x
 |_=>[]
def iC (fn:Func) (d:Oper) (k:Nat):Oper:=match fn.body with|some c=>(uu c).getD k d|none=>d
def H9 (o:Nat→Oper):Code:= .seq (.region 18 #[o 83,o 84,o 85,o 86,o 87] false) (.seq (.region 19 #[o 88,o 89,o 90,o 91,o 92] false) (.seq (.region 20 #[o 93,o 94] false) .ret))
def iD:Oper:={dst:=none,op:= .move (.tmp 0),type:=0,pos:= "",after:= #[],guard:=none}
end Dn
/-
  Reasoning about functions on values. Conditions: none.
-/
set_option linter.unusedVariables false
namespace Dn
open Go
section
variable {R:Type}
@[simp] theorem ajF (k : IntKind) (x : Int) (K : Int → Option R) : gI k (.i k x) K = K x := by simp [gI]
@[simp] theorem aM {α : Type} (a : α) (K : α → Option R) : bd (some a) K = K a := (rfl)
@[simp] theorem ahT (a b : Nat) : Nat.beq a b = decide (a = b) := eh a b
@[simp] theorem ab8 (K : Option R) : dy true K = K := (rfl)
@[simp] theorem ab9 (x y : Option R) : bp true x y = x := (rfl)
@[simp] theorem aae (x y : Option R) : bp false x y = y := (rfl)
end
theorem Vw {x:Int} (h1: -9223372036854775808≤x) (h2:x≤9223372036854775807):IntKind.wrap .i64 x=x:=by rw [IntKind.wrap_i64];omega
theorem SF {i j:Nat} (h:i+j<2^62):IntKind.wrap .i64 (Int.fdiv (IntKind.wrap .u64 (IntKind.wrap .i64 ((i:Int)+(j:Int)))) (2^min (Int.toNat 1) (IntKind.bits .u64)))=(((i+j)/2:Nat):Int):=by
 have h1:IntKind.wrap .i64 ((i:Int)+(j:Int))=((i+j:Nat):Int):=by rw [IntKind.wrap_i64];omega
 have h2:IntKind.wrap .u64 ((i+j:Nat):Int)=((i+j:Nat):Int):=by
  have:IntKind.wrap .u64 ((i+j:Nat):Int)=((i+j:Nat):Int)%18446744073709551616:=by simp [IntKind.wrap,IntKind.signed,IntKind.bits]
  rw [this];omega
 have h3:(2:Int)^min (Int.toNat 1) (IntKind.bits .u64)=2:=by decide
 rw [h1,h2,h3,Int.fdiv_eq_ediv_of_nonneg _ (by omega)]
 rw [IntKind.wrap_i64];omega
section
variable {σ R:Type} {body:σ→Option (Sum σ R)}
theorem GQ {n:Nat} {s:σ} {r:R} (h:iter body n s=some r): ∀{m:Nat},n≤m→iter body m s=some r:=by
 induction n generalizing s with
 |zero=>cases h
 |succ n ih=>
  intro m hm
  obtain ⟨m,rfl⟩: ∃k,m=k+1:=⟨m-1,by omega⟩
  simp only [iter] at h⊢
  cases hb:body s with
  |none=>rw [hb] at h;cases h
  |some x=>
   rw [hb] at h
   cases x with
   |inl s'=>exact ih h (by omega)
   |inr r'=>exact h
theorem pP {n:Nat} {s:σ} {r:R} (h:iter body n s=some r):Loop body s=some r:=by
 have he: ∃r n,iter body n s=some r:=⟨r,n,h⟩
 unfold Loop
 rw [dif_pos he]
 obtain ⟨m,hm⟩:=Classical.choose_spec he
 have h1:=GQ h (Nat.le_max_left n m)
 have h2:=GQ hm (Nat.le_max_right n m)
 rw [h1] at h2
 exact h2.symm
theorem SG (I:σ→Prop) (μ:σ→Nat) (Q:R→Prop) (h: ∀s,I s→(∃s',body s=some (.inl s')∧I s'∧μ s'<μ s)∨(∃r,body s=some (.inr r)∧Q r)) {s:σ} (hs:I s): ∃r,Loop body s=some r∧Q r:=by
 have key: ∀k s,I s→μ s<k→ ∃r,iter body k s=some r∧Q r:=by
  intro k
  induction k with
  |zero=>intro s _ h;omega
  |succ k ih=>
   intro s hs hk
   rcases h s hs with ⟨s',e,hi,hm⟩|⟨r,e,hq⟩
   ·obtain ⟨r,e2,hq⟩:=ih s' hi (by omega)
    exact ⟨r,by simp only [iter,e];exact e2,hq⟩
   ·exact ⟨r,by simp only [iter,e],hq⟩
 obtain ⟨r,e,hq⟩:=key (μ s+1) s hs (by omega)
 exact ⟨r,pP e,hq⟩
theorem SH (S:Nat→σ) (N:Nat) (Q:R→Prop) (P:Nat→Prop) (h0:P 0) (h: ∀k,k<N→P k→(body (S k)=some (.inl (S (k+1)))∧P (k+1))∨(∃r,body (S k)=some (.inr r)∧Q r)) (he:P N→ ∃r,body (S N)=some (.inr r)∧Q r): ∃r,Loop body (S 0)=some r∧Q r:=by
 have key: ∀d k,k+d=N→P k→ ∃r,iter body (d+1) (S k)=some r∧Q r:=by
  intro d
  induction d with
  |zero=>
   intro k hk hp
   have:k=N:=by omega
   subst this
   obtain ⟨r,e,hq⟩:=he hp
   exact ⟨r,by simp only [iter,e],hq⟩
  |succ d ih=>
   intro k hk hp
   rcases h k (by omega) hp with ⟨e,HG⟩|⟨r,e,hq⟩
   ·obtain ⟨r,e2,hq⟩:=ih (k+1) (by omega) HG
    exact ⟨r,by rw [iter,e];exact e2,hq⟩
   ·exact ⟨r,by rw [iter,e],hq⟩
 obtain ⟨r,e,hq⟩:=key N 0 (by omega) h0
 exact ⟨r,pP e,hq⟩
end
end Dn
/-
  From functions on plain values to functions on typed values. Conditions: none.
-/
set_option linter.unusedVariables false
namespace Dn
open Go
def cB {R:Type} (l:List MV) (K:Nat→Option R):Option R:=K l.length
def ix {α R:Type} (l:List α) (i:Int) (K:α→Option R):Option R:=
 match (if 0≤i then l[i.toNat]? else none) with|some x=>K x|none=>none
def jo {α:Type} (bytes:Nat) (l:List α):Option (List α):=if l.length *bytes≤2^46 then some l else none
def xj {α:Type} (xs:List α) (i j:Int):Option (List α):=if 0≤i∧i≤j∧j≤(xs.length:Int) then some (xs.take i.toNat++xs.drop j.toNat) else none
def pQ {α:Type} (bytes:Nat) (xs:List α) (i:Int) (ys:List α):Option (List α):=
 if 0≤i∧i.toNat≤xs.length∧ys≠[]∧(xs.length+ys.length) *bytes≤2^46 then some (xs.take i.toNat++ys++xs.drop i.toNat) else none
@[reducible] def aca {α : Type} (f : α → MV) (l : List α) : MV := .list (l.map f)
@[reducible] def Pg {α : Type} (f : α → MV) (l : List α) : MV := .fresh (l.map f)
def Sm {A B:Type} (g:B→A) (x:Option A) (y:Option B):Prop:=x=y.map g
section
variable {A B A' B' α:Type} {g:B→A} {T:Option B}
theorem Sm.at {x x':Option A} (e:x=x') (h:Sm g x' T):Sm g x T:=e▸h
theorem aT {l:List MV} {K:List MV→Option A} (h:Sm g (K l) T):Sm g (gA (.agg l) K) T:=h
theorem aU {x:Bool} {K:Bool→Option A} (h:Sm g (K x) T):Sm g (gB (.b x) K) T:=h
theorem bI {x:List UInt8} {K:List UInt8→Option A} (h:Sm g (K x) T):Sm g (gS (.s x) K) T:=h
theorem aX {x:List MV} {K:List MV→Option A} (h:Sm g (K x) T):Sm g (gL (.list x) K) T:=h
theorem GR {x:MV} {outs:List MV} {K:MV→List MV→Option A} (h:Sm g (K x outs) T):Sm g (gW (.dL x outs) K) T:=h
theorem cO {x:List MV} {K:List MV→Option A} (h:Sm g (K x) T):Sm g (gT (.cH x) K) T:=h
theorem qp {x:List MV} {K:List MV→Option A} (h:Sm g (K x) T):Sm g (gF (.fresh x) K) T:=h
theorem DE {x:List MV} {K:List MV→Option A} (h:Sm g (K x) T):Sm g (gP (.rp x) K) T:=h
theorem qq {f:Nat} {x:List MV} {K:Nat→List MV→Option A} (h:Sm g (K f x) T):Sm g (K3 (.func f x) K) T:=h
theorem qt {f:Nat} {x:List MV} {K:MV→Option A} (h:Sm g (K (.func f x)) T):Sm g (gR (.func f x) K) T:=h
theorem aF {k:IntKind} {n:Int} {K:Int→Option A} (h:Sm g (K n) T):Sm g (gI k (.i k n) K) T:=by simpa using h
theorem ah {m:MV} {r:List MV} {K:MV→List MV→Option A} (h:Sm g (K m r) T):Sm g (gC (m::r) K) T:=h
theorem au {K:Option A} (h:Sm g K T):Sm g (gN [] K) T:=h
theorem al {x:Option A'} {y:Option B'} {f:B'→A'} {K:A'→Option A} {K':B'→Option B} (h:Sm f x y) (hk: ∀b,Sm g (K (f b)) (K' b)):Sm g (bd x K) (bd y K'):=by
 unfold Sm at h;subst h
 cases y with
 |none=>rfl
 |some b=>exact hk b
theorem aR {p:Prop} [Decidable p] {X Y:Option A} {X' Y':Option B} (h1:Sm g X X') (h2:Sm g Y Y'):Sm g (bp (decide p) X Y) (if p then X' else Y'):=by
 by_cases h:p<;>simpa [h] using (by assumption)
theorem aN {c:Bool} {X Y:Option A} {X' Y':Option B} (h1:Sm g X X') (h2:Sm g Y Y'):Sm g (bp c X Y) (if c then X' else Y'):=by
 cases c<;>simpa using (by assumption)
theorem fg {p:Prop} [Decidable p] {X:Option A} {X':Option B} (h1:Sm g X X'):Sm g (dy (decide p) X) (if p then X' else none):=by
 by_cases h:p
 ·simpa [h] using h1
 ·simp [h,dy,Sm]
theorem cc {c:Bool} {X:Option A} (hc:c=true) (h:Sm g X T):Sm g (dy c X) T:=by subst hc;exact h
theorem im {c:Bool} {X Y:Option A} (hc:c=true) (h:Sm g X T):Sm g (bp c X Y) T:=by subst hc;exact h
theorem iq {c:Bool} {X Y:Option A} (hc:c=false) (h:Sm g Y T):Sm g (bp c X Y) T:=by subst hc;exact h
theorem a8 {l:List MV} {n:Nat} {K:Nat→Option A} (e:l.length=n) (h:Sm g (K n) T):Sm g (cB l K) T:=by subst e;exact h
theorem bM {l:List MV} {M:List α} {f:α→MV} {i:Int} {K:MV→Option A} {K':α→Option B} (e:l=M.map f) (h: ∀y,Sm g (K (f y)) (K' y)):Sm g (idx l i K) (ix M i K'):=by
 subst e
 unfold idx XQ ix
 by_cases hi:0≤i
 ·simp only [hi,if_true,List.getElem?_map]
  cases M[i.toNat]? with
  |none=>rfl
  |some y=>exact h y
 ·simp only [hi,if_false];rfl
theorem Cv {X:Option A} {T:Option B} (h:Sm g X T):Sm g (both X X) T:=by
 have e:both X X=X:=by unfold both;rw [if_pos rfl]
 rw [e];exact h
theorem aa {d:A} {a:B} (e:d=g a):Sm g (some d) (some a):=by subst e;rfl
theorem Vx:Sm g none none:=rfl
theorem Vy {p k:Nat} {K:Nat→Option A} {X:Option B} (h:k=p→Sm g (K p) X):Sm g (Fb [p] k K) (if k=p then X else none):=by
 by_cases hk:k=p
 ·subst hk
  rw [if_pos rfl]
  unfold Fb
  rw [show Nat.beq k k=true from Nat.beq_refl k]
  exact h rfl
 ·rw [if_neg hk]
  unfold Fb
  rw [show Nat.beq k p=false from by simpa using hk]
  rfl
theorem oa {p q k:Nat} {r:List Nat} {K:Nat→Option A} {X Y:Option B} (h:k=p→Sm g (K p) X) (h2:Sm g (Fb (q::r) k K) Y):Sm g (Fb (p::q::r) k K) (if k=p then X else Y):=by
 by_cases hk:k=p
 ·subst hk
  rw [if_pos rfl]
  unfold Fb
  rw [show Nat.beq k k=true from Nat.beq_refl k]
  exact h rfl
 ·rw [if_neg hk]
  unfold Fb
  rw [show Nat.beq k p=false from by simpa using hk]
  exact h2
theorem NR {n:Nat} {l:List MV} {M:List α} {f:α→MV} (e:l=M.map f) (h: ∀x,(f x).w=n):sP n l=true:=by
 subst e
 unfold sP
 rw [List.all_map,List.all_eq_true]
 intro x _
 simp [h x]
theorem J6 {σ σ' ρ ρ':Type} {e:σ'→σ} {f:ρ'→ρ} {K:σ→Option (Sum σ ρ)} {K':σ'→Option (Sum σ' ρ')} (h: ∀s,Sm (Sum.map e f) (K (e s)) (K' s)) (n:Nat) (s:σ'):iter K n (e s)=(iter K' n s).map f:=by
 induction n generalizing s with
 |zero=>rfl
 |succ n ih=>
  have:=h s
  unfold Sm at this
  simp only [iter,this]
  cases K' s with
  |none=>rfl
  |some x=>cases x with
   |inl s'=>exact ih s'
   |inr r=>rfl
theorem GS {σ ρ:Type} {K:σ→Option (Sum σ ρ)} {s:σ} (h: ∀n,iter K n s=none):Loop K s=none:=by
 unfold Loop
 rw [dif_neg]
 rintro ⟨r,n,e⟩
 rw [h] at e;cases e
theorem cC {σ σ' ρ ρ':Type} {K:σ→Option (Sum σ ρ)} {K':σ'→Option (Sum σ' ρ')} {d0:σ} {s0:σ'} (e:σ'→σ) (f:ρ'→ρ) (e0:d0=e s0) (h: ∀s,Sm (Sum.map e f) (K (e s)) (K' s)):Sm f (Loop K d0) (Loop K' s0):=by
 subst e0
 unfold Sm
 by_cases hx: ∃r n,iter K' n s0=some r
 ·obtain ⟨r,n,hn⟩:=hx
  rw [pP hn]
  have:iter K n (e s0)=some (f r):=by rw [J6 h,hn];rfl
  rw [pP this];rfl
 ·have h1: ∀n,iter K' n s0=none:=fun n=>by
   cases hn:iter K' n s0 with
   |none=>rfl
   |some r=>exact absurd ⟨r,n,hn⟩ hx
  rw [GS h1,GS fun n=>by rw [J6 h,h1];rfl];rfl
theorem pR {size bytes:Nat} {f:α→MV} (hw: ∀x,(f x).w=size) (l:List α):Sm (Pg f) (fD size bytes [.list (l.map f)]) (jo bytes l):=by
 unfold Sm fD jo
 simp only [NR (rfl:l.map f=l.map f) hw,Bool.true_and,List.length_map]
 by_cases h:l.length *bytes≤2^46
 ·rw [show Nat.ble (l.length *bytes) (2^46)=true from Nat.ble_eq_true_of_le h,if_pos h];rfl
 ·rw [show Nat.ble (l.length *bytes) (2^46)=false from by rw [Bool.eq_false_iff];intro hb;exact h (Nat.le_of_ble_eq_true hb),if_neg h];rfl
theorem J7 {f:α→MV} (xs:List α) (i j:Int):Sm (Pg f) (n9 [.fresh (xs.map f),.i .i64 i,.i .i64 j]) (xj xs i j):=by
 unfold Sm n9 xj
 simp only [List.length_map]
 by_cases h1:0≤i<;>by_cases h2:i≤j<;>by_cases h3:j≤(xs.length:Int)<;>simp [h1,h2,h3,Pg]
theorem DF {bytes:Nat} {f:α→MV} (xs:List α) (i:Int) (ys:List α):Sm (Pg f) (jn bytes [.fresh (xs.map f),.i .i64 i,.fresh (ys.map f)]) (pQ bytes xs i ys):=by
 unfold Sm jn pQ
 simp only [List.length_map]
 have hb: ∀a b:Nat,Nat.ble a b=decide (a≤b):=fun a b=>by
  by_cases h:a≤b
  ·rw [Nat.ble_eq_true_of_le h,decide_eq_true h]
  ·rw [decide_eq_false h,Bool.eq_false_iff];intro hh;exact h (Nat.le_of_ble_eq_true hh)
 rw [hb,hb]
 have he:(ys.map f).isEmpty=decide (ys=[]):=by cases ys<;>simp
 rw [he]
 by_cases h1:0≤i<;>by_cases h2:i.toNat≤xs.length<;>by_cases h3:ys=[]<;>by_cases h4:(xs.length+ys.length) *bytes≤2^46<;>simp [h1,h2,h3,h4,Pg]
end
abbrev Mg (f:Option MV):List MV→Option MV|[]=>f|_=>none
abbrev te (f:MV→Option MV):List MV→Option MV|[a]=>f a|_=>none
abbrev fh (f:MV→MV→Option MV):List MV→Option MV|[a,b]=>f a b|_=>none
abbrev Fw (f:MV→MV→MV→Option MV):List MV→Option MV|[a,b,c]=>f a b c|_=>none
abbrev Vz (f:MV→MV→MV→MV→Option MV):List MV→Option MV|[a,b,c,d]=>f a b c d|_=>none
abbrev Y6 (f:MV→MV→MV→MV→MV→Option MV):List MV→Option MV|[a,b,c,d,e]=>f a b c d e|_=>none
theorem zB {f:Option MV} {B:List MV→Option MV} (h:B []=f) {ms:List MV} {r:MV} (e:Mg f ms=some r):B ms=some r:=by
 unfold Mg at e;split at e
 ·rw [h];exact e
 ·cases e
theorem gd {f:MV→Option MV} {B:List MV→Option MV} (h: ∀a,B [a]=f a) {ms:List MV} {r:MV} (e:te f ms=some r):B ms=some r:=by
 unfold te at e;split at e
 ·rw [h];exact e
 ·cases e
theorem bu {f:MV→MV→Option MV} {B:List MV→Option MV} (h: ∀a b,B [a,b]=f a b) {ms:List MV} {r:MV} (e:fh f ms=some r):B ms=some r:=by
 unfold fh at e;split at e
 ·rw [h];exact e
 ·cases e
theorem rQ {f:MV→MV→MV→Option MV} {B:List MV→Option MV} (h: ∀a b c,B [a,b,c]=f a b c) {ms:List MV} {r:MV} (e:Fw f ms=some r):B ms=some r:=by
 unfold Fw at e;split at e
 ·rw [h];exact e
 ·cases e
theorem NS {f:MV→MV→MV→MV→Option MV} {B:List MV→Option MV} (h: ∀a b c d,B [a,b,c,d]=f a b c d) {ms:List MV} {r:MV} (e:Vz f ms=some r):B ms=some r:=by
 unfold Vz at e;split at e
 ·rw [h];exact e
 ·cases e
theorem VA {f:MV→MV→MV→MV→MV→Option MV} {B:List MV→Option MV} (h: ∀a b c d i,B [a,b,c,d,i]=f a b c d i) {ms:List MV} {r:MV} (e:Y6 f ms=some r):B ms=some r:=by
 unfold Y6 at e;split at e
 ·rw [h];exact e
 ·cases e
theorem ap.fn {P:Program} {c c':Ctx} {g:Nat→List MV→Option MV} {n:Nat} {fn:Func} {bS:List (List Kd)} {F:List MV→Option MV} (h:ap P c g) (hl:zw c c') (Xo:c'.g=g) (rc:kn P c.ti) (iH:Lv P c.ti) (HD: ∀t k,c.fk t=some k→P.underlying t=some (.float k)) (Nu:As P c) (JZ:P.follows .mixedOrders=true) (H4:uo P c)
 (hf:P.funcs[n]? =some fn) (hh:J0 c' n fn bS=true) (zh: ∀f,c.key f=f) (hF: ∀{ms r},F ms=some r→Ga c' bS Option.none fn ms=some r):ap P c (bn n F g):=by
 have hb:=ap.body h hl Xo rc iH HD Nu JZ H4 hf hh zh
 refine h.add (fun f ms r hk hr=> ?_)
 refine hb.all f ms r ?_
 unfold bn
 rw [hk]
 simp [hF hr]
def zC {α σ:Type} (p:α→σ→Option (Bool×σ)):σ→List α→Option (List α×σ)
 |s,[]=>some ([],s)
 |s,x::xs=>bd (p x s) fun q=>bd (zC p q.2 xs) fun r=>some (if q.1 then r.1 else x::r.1,r.2)
theorem SI {l:List MV} {α:Type} {M:List α} {f:α→MV} (e:l=M.map f) (h: ∀x,Lk (f x)=true):l.all Lk=true:=by
 subst e
 rw [List.all_map,List.all_eq_true]
 intro x _
 exact h x
theorem SJ {α σ:Type} {f:α→MV} {lv:σ→List MV} {g:Nat→List MV→Option MV} {k:Nat} {bS:List MV} {p:α→σ→Option (Bool×σ)} (h: ∀x s,Sm (fun r=>MV.dL (.b r.1) (lv r.2)) (g k (f x::(bS++[.cell (.func 0 (lv s))]))) (p x s)): ∀(s:σ) (L:List α),Sm (fun r=>(r.1.map f,lv r.2)) (lF (F8 g k bS) (lv s) (L.map f)) (zC p s L)
 |s,[]=>rfl
 |s,x::xs=>by
  have hx:=h x s
  unfold Sm at hx⊢
  simp only [List.map_cons,lF,F8,zC,hx]
  cases p x s with
  |none=>rfl
  |some q=>
   have ih:=SJ h q.2 xs
   unfold Sm at ih
   simp only [Option.map_some,ih]
   show _=Option.map _ (bd (zC p q.2 xs) fun r=>_)
   cases zC p q.2 xs with
   |none=>rfl
   |some r=>obtain ⟨b,s'⟩:=q;cases b<;>rfl
end Dn
/-
  What functions of package strings yield: plain and typed. Conditions: none.
-/
set_option linter.unusedSimpArgs false
set_option linter.unusedVariables false
namespace Dn
open Go
def dA (c:UInt8):List UInt8→List (List UInt8)
 |[]=>[[]]
 |x::l=>if x=c then []::dA c l else match dA c l with
  |p::r=>(x::p)::r
  |[]=>[[x]]
def DG:List MV→Option MV
 |[.s a,.s b]=>bif (Nat.ble 1 a.length&&Nat.ble a.length (2^46))&&(Nat.ble 2 b.length&&(Nat.ble b.length 1000&&b.all fun x=>decide (x.toNat<128))) then some (.s (Lib.trimS a b)) else none
 |_=>none
def qu:List MV→Option MV
 |[.s a,.i .i32 r]=>bif decide (0≤r∧r<128) then some (.b (decide (0≤Lib.indexByte a r.toNat.toUInt8))) else none
 |_=>none
def wj:List MV→Option MV
 |[.s a,.s [c]]=>bif Nat.ble a.length 4294967280 then some (.fresh ((dA c a).map MV.s)) else none
 |_=>none
def GU (a b:List UInt8):Option (List UInt8):=bif (Nat.ble 1 a.length&&Nat.ble a.length (2^46))&&(Nat.ble 2 b.length&&(Nat.ble b.length 1000&&b.all fun x=>decide (x.toNat<128))) then some (Lib.trimS a b) else none
def zD (a:List UInt8) (r:Int):Option Bool:=bif decide (0≤r∧r<128) then some (decide (0≤Lib.indexByte a r.toNat.toUInt8)) else none
def Ia (a s:List UInt8):Option (List (List UInt8)):=match s with
 |[c]=>bif Nat.ble a.length 4294967280 then some (dA c a) else none
 |_=>none
theorem Y7 (a b:List UInt8):Sm MV.s (DG [.s a,.s b]) (GU a b):=by
 unfold Sm DG GU
 dsimp only
 cases (Nat.ble 1 a.length&&Nat.ble a.length (2^46))&&(Nat.ble 2 b.length&&(Nat.ble b.length 1000&&b.all fun x=>decide (x.toNat<128)))<;>rfl
theorem Pj (a:List UInt8) (r:Int):Sm MV.b (qu [.s a,.i .i32 r]) (zD a r):=by
 unfold Sm qu zD
 dsimp only
 cases decide (0≤r∧r<128)<;>rfl
theorem VB (a s:List UInt8):Sm (Pg MV.s) (wj [.s a,.s s]) (Ia a s):=by
 unfold Sm Ia
 split
 ·rename_i c
  unfold wj
  dsimp only
  cases Nat.ble a.length 4294967280<;>rfl
 ·rename_i h
  unfold wj
  split
  ·rename_i h2
   simp only [List.cons.injEq,MV.s.injEq,and_true] at h2
   exact absurd h2.2 (h _)
  ·rfl
end Dn
