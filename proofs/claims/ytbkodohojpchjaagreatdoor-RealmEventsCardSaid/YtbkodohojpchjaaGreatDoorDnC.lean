import Derived.Test.YtbkodohojpchjaaGreatDoorDnB
import Derived.Laws.CopyRow
import Derived.Lib.AppendZerosOnto
import Derived.Lib.Overlaps
import Derived.Laws.Externs
import Derived.Lib.SlTrimSet
import Derived.Lib.Bytealg
/-
  A program's type table, looked through. Conditions: none.
-/
set_option linter.unusedSimpArgs false
set_option linter.unusedVariables false
set_option linter.constructorNameAsVariable false
namespace Dn
open Go
theorem QS {a b:Kd} (h:VA a b=true):a=b:=by
 cases a<;>cases b<;>simp [VA,kB] at h<;>first|rfl|(subst h;rfl)
def j9:List Kd→Kd→Bool
 |[k],k'=>VA k k'
 |_,_=>false
theorem dy {l:List Kd} {k:Kd} (h:j9 l k=true):l=[k]:=by
 cases l with
 |nil=>simp [j9] at h
 |cons a l=>cases l with
  |nil=>simp only [j9] at h;rw [QS h]
  |cons=>simp [j9] at h
def AO:List Nat→List Nat→Bool
 |[],[]=>true
 |a::l,b::m=>Nat.beq a b&&AO l m
 |_,_=>false
theorem CB {l m:List Nat} (h:AO l m=true):l=m:=by
 induction l generalizing m with
 |nil=>cases m<;>simp [AO] at h;rfl
 |cons a l ih=>
  cases m with
  |nil=>simp [AO] at h
  |cons b m=>
   simp only [AO,Bool.and_eq_true] at h
   rw [Nat.eq_of_beq_eq_true h.1,ih h.2]
def tx {α:Type}:List α→Bool
 |[]=>true
 |_=>false
theorem nK {α:Type} {l:List α} (h:tx l=true):l=[]:=by cases l<;>simp [tx] at h;rfl
def GZ (ti:Nat→Option TI) (t:Nat):Bool:=match ti t with|some J=>tx J.cq&&Nat.ble 1 J.size|none=>false
theorem Fz {ti:Nat→Option TI} {t:Nat} (h:GZ ti t=true): ∃J,ti t=some J∧J.cq=[]∧0<J.size:=by
 unfold GZ at h
 cases hJ:ti t with
 |none=>simp [hJ] at h
 |some J=>
  simp only [hJ,Bool.and_eq_true] at h
  exact ⟨J,rfl,nK h.1,Nat.le_of_ble_eq_true h.2⟩
def CC:List Value→Nat→Bool
 |[],n=>Nat.beq n 0
 | .int .u8 k::r,n+1=>decide (k=0)&&CC r n
 |_,_=>false
theorem II {l:List Value} {n:Nat} (h:CC l n=true):l=List.replicate n (.int .u8 0):=by
 induction l generalizing n with
 |nil=>have:=Nat.eq_of_beq_eq_true h;subst this;rfl
 |cons v l ih=>
  cases n with
  |zero=>cases v<;>simp [CC] at h
  |succ n=>
   unfold CC at h
   split at h
   ·rename_i h1;simp at h1
   ·rename_i k _ _ h1 h2
    simp only [List.cons.injEq] at h1
    obtain ⟨rfl,rfl⟩:=h1
    cases h2
    simp only [Bool.and_eq_true,decide_eq_true_eq] at h
    rw [h.1,ih h.2];rfl
   ·cases h
def zQ:List aC→aC→Bool
 |[.nil],.nil=>true
 |[.p (.b false)],.p (.b false)=>true
 |[.p (.i k n)],.p (.i k' m)=>kB k k'&&decide (n=m)
 |[.p (.s [])],.p (.s [])=>true
 |_,_=>false
theorem we {l:List aC} {x:aC} (h:zQ l x=true):l=[x]:=by
 unfold zQ at h
 split at h<;>first|rfl|skip
 ·simp [kB] at h;rw [h.1,h.2]
 ·cases h
def QT:List aC→Bool
 |[.hs x]=>decide (x=jV.zero)
 |_=>false
theorem QU {l:List aC} (h:QT l=true):l=[.hs jV.zero]:=by
 unfold QT at h
 split at h
 ·rw [of_decide_eq_true h]
 ·cases h
def QV (ti:Nat→Option TI) (P:Program) (I:TI) (z:Option Value):TypeDesc→Bool
 | .struct fs=>I.st&&tx I.cq&&Nat.ble 1 I.size&&Nat.beq (Bg I.lay) I.size&&AO (fs.toList.map (·.offset)) I.xv&&AO (fs.toList.map (·.type)) I.M8&&
  (fs.toList.all fun f=>GZ ti f.type)&&(match z with|some (.agg cs)=>qK I.zero cs.toList&&Nat.beq cs.size I.size|_=>false)
 | .tuple ts=>AO I.cq ts.toList&&!tx I.cq&&tx I.lay&&!I.st
 | .slice el=>!I.st&&tx I.cq&&Nat.beq I.size 1&&Nat.beq I.elem el&&GZ ti el&&(match z with|some (.slice none 0 0)=>true|_=>false)&&zQ I.zero .nil&&j9 I.lay .l
 | .array n el=>!I.st&&tx I.cq&&Nat.beq I.size 32&&Nat.beq n 32&&Nat.beq I.elem el&&(match P.underlying el with|some (.int .u8)=>true|_=>false)&&(match P.info? el with|some i=>Nat.beq i.size 1|none=>false)&&
  j9 I.lay .h&&QT I.zero&&(match z with|some (.agg cs)=>CC cs.toList 32|_=>false)
 | .bool=>!I.st&&tx I.cq&&Nat.beq I.size 1&&j9 I.lay .b&&zQ I.zero (.p (.b false))&&(match z with|some (.bool false)=>true|_=>false)
 | .int k=>!I.st&&tx I.cq&&Nat.beq I.size 1&&j9 I.lay (.i k)&&zQ I.zero (.p (.i k 0))&&(match z with|some (.int k' n)=>kB k' k&&decide (n=0)|_=>false)
 | .string=>!I.st&&tx I.cq&&Nat.beq I.size 1&&j9 I.lay .s&&zQ I.zero (.p (.s []))&&(match z with|some (.string b)=>tx b.data.toList|_=>false)
 |_=>!I.st&&tx I.cq&&Nat.beq I.size 1&&j9 I.lay .raw&&(match z with|some v=>v.oneCell'&&qK I.zero [v]|none=>false)
theorem QW {ti:Nat→Option TI} {P:Program} {I:TI} {z:Option Value} {d:TypeDesc} (h:QV ti P I z d=true):pH ti P I z d:=by
 cases d<;>simp only [QV,Bool.and_eq_true,Bool.not_eq_true'] at h<;>simp only [pH]
 case struct fs=>
  obtain ⟨⟨⟨⟨⟨⟨⟨h1,h2⟩,h3⟩,h4⟩,h5⟩,h6⟩,h7⟩,h8⟩:=h
  refine ⟨h1,nK h2,⟨Nat.le_of_ble_eq_true h3,Nat.eq_of_beq_eq_true h4⟩,CB h5,CB h6,fun k f hk=> ?_,?_⟩
  ·exact Fz (List.all_eq_true.1 h7 f (by
    have:fs.toList[k]? =some f:=by simpa using hk
    exact List.mem_of_getElem? this))
  ·split at h8
   ·rename_i cs
    simp only [Bool.and_eq_true] at h8
    exact ⟨cs,rfl,h8.1,Nat.eq_of_beq_eq_true h8.2⟩
   ·cases h8
 case tuple ts=>
  obtain ⟨⟨⟨h1,h2⟩,h3⟩,h4⟩:=h
  exact ⟨CB h1,fun he=>(by rw [he] at h2;simp [tx] at h2),nK h3,h4⟩
 case slice el=>
  obtain ⟨⟨⟨⟨⟨⟨⟨h1,h2⟩,h3⟩,h4⟩,h5⟩,h6⟩,h7⟩,h8⟩:=h
  refine ⟨h1,nK h2,Nat.eq_of_beq_eq_true h3,Nat.eq_of_beq_eq_true h4,Fz h5,?_,we h7,.l,dy h8,rfl⟩
  split at h6
  ·rfl
  ·cases h6
 case array n el=>
  obtain ⟨⟨⟨⟨⟨⟨⟨⟨⟨h1,h2⟩,h3⟩,h4⟩,h5⟩,h6⟩,h7⟩,h8⟩,h9⟩,Mk⟩:=h
  refine ⟨h1,nK h2,Nat.eq_of_beq_eq_true h3,Nat.eq_of_beq_eq_true h4,Nat.eq_of_beq_eq_true h5,?_,dy h8,QU h9,?_⟩
  ·split at h6
   ·rename_i hu
    split at h7
    ·rename_i i hi;exact ⟨i,hu,hi,Nat.eq_of_beq_eq_true h7⟩
    ·cases h7
   ·cases h6
  ·split at Mk
   ·rename_i cs
    have:=II Mk
    congr 1
    congr 1
    apply Array.toList_inj.1
    rw [this];rfl
   ·cases Mk
 case bool=>
  obtain ⟨⟨⟨⟨⟨h1,h2⟩,h3⟩,h4⟩,h5⟩,h6⟩:=h
  refine ⟨h1,nK h2,Nat.eq_of_beq_eq_true h3,dy h4,we h5,?_⟩
  split at h6
  ·rfl
  ·cases h6
 case int k=>
  obtain ⟨⟨⟨⟨⟨h1,h2⟩,h3⟩,h4⟩,h5⟩,h6⟩:=h
  refine ⟨h1,nK h2,Nat.eq_of_beq_eq_true h3,dy h4,we h5,?_⟩
  split at h6
  ·simp only [kB,Bool.and_eq_true,decide_eq_true_eq] at h6
   rw [h6.1,h6.2]
  ·cases h6
 case string=>
  obtain ⟨⟨⟨⟨⟨h1,h2⟩,h3⟩,h4⟩,h5⟩,h6⟩:=h
  refine ⟨h1,nK h2,Nat.eq_of_beq_eq_true h3,dy h4,we h5,?_⟩
  split at h6
  ·rename_i b;exact ⟨b,rfl,nK h6⟩
  ·cases h6
 all_goals
  obtain ⟨⟨⟨⟨h1,h2⟩,h3⟩,h4⟩,h5⟩:=h
  refine ⟨h1,nK h2,Nat.eq_of_beq_eq_true h3,dy h4,?_⟩
  split at h5
  ·rename_i v
   simp only [Bool.and_eq_true] at h5
   exact ⟨v,rfl,h5.1,h5.2⟩
  ·cases h5
def Xu (ti:Nat→Option TI) (P:Program) (t:Nat) (I:TI):Bool:=
 match P.underlying t,P.info? t with
 |some d,some i=>(!tx I.cq||(Nat.beq i.size I.size&&Nat.beq i.bytes I.bytes))&&QV ti P I i.zero d
 |_,_=>false
theorem T4 {ti:Nat→Option TI} {P:Program} {t:Nat} {I:TI} (h:Xu ti P t I=true):mf ti P t I:=by
 unfold Xu at h
 split at h
 ·rename_i d i hu hi
  simp only [Bool.and_eq_true,Bool.or_eq_true,Bool.not_eq_true'] at h
  refine ⟨d,i,hu,hi,fun hc=> ?_,QW h.2⟩
  rcases h.1 with h1|h1
  ·rw [hc] at h1;simp [tx] at h1
  ·exact ⟨Nat.eq_of_beq_eq_true h1.1,Nat.eq_of_beq_eq_true h1.2⟩
 ·cases h
def uo:List (Nat×TI)→Nat→Option TI
 |[],_=>none
 |(k,s)::r,t=>bif Nat.beq k t then some s else uo r t
def aeF (P:Program) (S5:List (Nat×TI)):Bool:=S5.all fun p=>Xu (uo S5) P p.1 p.2
theorem FA {l:List (Nat×TI)} {t:Nat} {I:TI} (h:uo l t=some I):(t,I)∈l:=by
 induction l with
 |nil=>simp [uo] at h
 |cons p l ih=>
  obtain ⟨k,s⟩:=p
  simp only [uo,eC] at h
  by_cases hk:k=t
  ·subst hk;simp at h;subst h;simp
  ·simp only [hk,decide_false,cond_false] at h
   exact List.mem_cons_of_mem _ (ih h)
theorem T5 {P:Program} {S5:List (Nat×TI)} (h:aeF P S5=true):j6 P (uo S5):=fun t I hI=>T4 (List.all_eq_true.1 h (t,I) (FA hI))
end Dn
/-
  Comparing values of plain types. Conditions: none.
-/
set_option linter.unusedSimpArgs false
set_option linter.unusedVariables false
set_option linter.constructorNameAsVariable false
namespace Dn
open Go
def T6:List Kd→List Kd
 |[]=>[]
 | .h::r=>List.replicate 32 (.i .u8)++T6 r
 |k::r=>k::T6 r
def G0:Kd→Value→Bool
 | .b,.bool _=>true
 | .i k,.int k' _=>decide (k'=k)
 | .s,.string _=>true
 |_,_=>false
def ic:List Kd→List Value→Prop
 |[],vs=>vs=[]
 |k::ks,vs=> ∃v r,vs=v::r∧G0 k v=true∧ic ks r
def QX:Value→Value→Bool
 | .bool a,.bool b=>decide (a=b)
 | .int _ a,.int _ b=>decide (a=b)
 | .string a,.string b=>decide (a.data.toList=b.data.toList)
 |_,_=>false
def jA:List Value→List Value→Bool
 |[],[]=>true
 |x::xs,y::ys=>QX x y&&jA xs ys
 |_,_=>false
theorem qW {xs ys us vs:List Value} (h:xs.length=ys.length):jA (xs++us) (ys++vs)=(jA xs ys&&jA us vs):=by
 induction xs generalizing ys with
 |nil=>cases ys with|nil=>simp [jA]|cons=>simp at h
 |cons x xs ih=>cases ys with|nil=>simp at h|cons y ys=>simp only [List.cons_append,jA,ih (by simpa using h),Bool.and_assoc]
theorem ic.length {ks:List Kd}: ∀{vs:List Value},ic ks vs→vs.length=ks.length:=by
 induction ks with
 |nil=>intro vs h;cases h;rfl
 |cons k ks ih=>intro vs h;obtain ⟨v,r,rfl,_,h2⟩:=h;simp [ih h2]
theorem ic.append {ks js:List Kd}: ∀{vs us:List Value},ic ks vs→ic js us→ic (ks++js) (vs++us):=by
 induction ks with
 |nil=>intro vs us h h';cases h;simpa using h'
 |cons k ks ih=>intro vs us h h';obtain ⟨v,r,rfl,h1,h2⟩:=h;exact ⟨v,r++us,rfl,h1,ih h2 h'⟩
theorem ic.split {ks js:List Kd}: ∀{vs:List Value},ic (ks++js) vs→ic ks (vs.take ks.length)∧ic js (vs.drop ks.length):=by
 induction ks with
 |nil=>intro vs h;exact ⟨by simp [ic],by simpa using h⟩
 |cons k ks ih=>
  intro vs h
  obtain ⟨v,r,rfl,h1,h2⟩:=h
  obtain ⟨h3,h4⟩:=ih h2
  exact ⟨⟨v,_,rfl,h1,h3⟩,by simpa using h4⟩
theorem CD (x:jV):ic (List.replicate 32 (.i .u8)) (bh x):=by
 have: ∀(l:List UInt8),ic (List.replicate l.length (.i .u8)) (l.map fun b=>Value.int .u8 (b.toNat:Int)):=by
  intro l
  induction l with
  |nil=>rfl
  |cons b l ih=>exact ⟨_,_,rfl,by simp [G0],ih⟩
 have h:=this x.l
 rw [x.h] at h
 exact h
theorem FB (x y:jV):jA (bh x) (bh y)=decide (x=y):=by
 have: ∀(l m:List UInt8),l.length=m.length→jA (l.map fun b=>Value.int .u8 (b.toNat:Int)) (m.map fun b=>Value.int .u8 (b.toNat:Int))=decide (l=m):=by
  intro l
  induction l with
  |nil=>intro m h;cases m with|nil=>rfl|cons=>simp at h
  |cons b l ih=>
   intro m h
   cases m with
   |nil=>simp at h
   |cons b' m=>
    simp only [List.map_cons,jA,QX,ih m (by simpa using h),List.cons.injEq]
    have:((b.toNat:Int)=(b'.toNat:Int))↔b=b':=by
     constructor
     ·intro he;apply UInt8.toNat_inj.1;omega
     ·intro he;rw [he]
    simp [this]
 rw [bh,bh,this x.l y.l (by rw [x.h,y.h])]
 by_cases h:x=y
 ·subst h;simp
 ·have:x.l≠y.l:=fun he=>h (jV.ext' he)
  simp [h,this]
section
variable {e:Env}
theorem FC {lay:List Kd}: ∀{ls:List aC} {vs:List Value},aq e vs ls→dX lay ls=true→ic (T6 lay) vs:=by
 induction lay with
 |nil=>
  intro ls vs h hf
  cases ls with
  |nil=>cases h;rfl
  |cons=>simp [dX] at hf
 |cons k lay ih=>
  intro ls vs h hf
  cases ls with
  |nil=>simp [dX] at hf
  |cons l ls=>
   simp only [dX] at hf
   cases h1:lN k l with
   |false=>simp [h1] at hf
   |true=>
    simp only [h1,cond_true] at hf
    obtain ⟨v,u,rfl,g1,g2⟩:=h
    have hr:=ih g2 hf
    have one: ∀m:MV,∀kd:Kd,l= .p m→(∀w:List Value,kD e.key e.φ w m→ ∃x,w=[x]∧G0 kd x=true)→ic (kd::T6 lay) (v++u):=by
     intro m kd hl hm
     subst hl
     obtain ⟨x,rfl,hx⟩:=hm v g1.2
     exact ⟨x,u,rfl,hx,hr⟩
    cases k<;>cases l<;>simp only [lN] at h1<;>try (cases h1;done)
    ·rename_i m
     cases m<;>simp only [lN] at h1<;>try (cases h1;done)
     exact one _ _ rfl (fun w hw=>by cases hw;exact ⟨_,rfl,rfl⟩)
    ·rename_i k m
     cases m<;>simp only [lN] at h1<;>try (cases h1;done)
     exact one _ _ rfl (fun w hw=>by cases hw;exact ⟨_,rfl,h1⟩)
    ·rename_i m
     cases m<;>simp only [lN] at h1<;>try (cases h1;done)
     exact one _ _ rfl (fun w hw=>by cases hw;exact ⟨_,rfl,rfl⟩)
    ·rename_i x
     have g1:v=bh x:=g1
     subst g1
     exact (CD x).append hr
theorem EA {l l':aC} {v v':List Value} {b:Bool} (h:aN e v l) (h':aN e v' l') (hb:zy l l'=some b):jA v v'=b∧v.length=v'.length:=by
 unfold zy at hb
 split at hb
 ·obtain ⟨_,h⟩:=h;obtain ⟨_,h'⟩:=h'
  cases h;cases h'
  simp at hb;exact ⟨by simp [jA,QX,←hb],rfl⟩
 ·obtain ⟨_,h⟩:=h;obtain ⟨_,h'⟩:=h'
  cases h;cases h'
  rename_i k x k' y _ _
  cases hk:decide (k=k') with
  |false=>simp [hk] at hb
  |true=>simp [hk] at hb;exact ⟨by simp [jA,QX,←hb],rfl⟩
 ·obtain ⟨_,h⟩:=h;obtain ⟨_,h'⟩:=h'
  cases h;cases h'
  simp at hb;exact ⟨by simp [jA,QX,←hb],rfl⟩
 ·rename_i x y
  have h:v=bh x:=h
  have h':v'=bh y:=h'
  subst h;subst h'
  simp at hb
  exact ⟨by rw [FB,←hb],by rw [cu,cu]⟩
 ·cases hb
theorem QY {ls:List aC}: ∀{um:List aC} {vs JW:List Value} {b:Bool},aq e vs ls→aq e JW um→ia ls um=some b→jA vs JW=b:=by
 induction ls with
 |nil=>
  intro um vs JW b h h' hb
  cases um with
  |nil=>cases h;cases h';simp [ia] at hb;subst hb;rfl
  |cons l' um=>simp [ia] at hb
 |cons l ls ih=>
  intro um vs JW b h h' hb
  cases um with
  |nil=>simp [ia] at hb
  |cons l' um=>
   obtain ⟨v,u,rfl,h1,h2⟩:=h
   obtain ⟨v',u',rfl,Ef,Ie⟩:=h'
   have two: ∀x y,zy l l'=some x→ia ls um=some y→b=(x&&y)→jA (v++u) (v'++u')=b:=by
    intro x y hx hy JZ
    obtain ⟨g1,g2⟩:=EA h1 Ef hx
    rw [qW g2,g1,ih h2 Ie hy,JZ]
   cases ls with
   |nil=>
    cases um with
    |nil=>
     have hb:zy l l'=some b:=hb
     exact two b true hb rfl (by simp)
    |cons p q=>
     simp only [ia] at hb
     split at hb
     ·rename_i x y hx hy;exact two x y hx hy (by simpa using hb.symm)
     ·cases hb
   |cons p q=>
    simp only [ia] at hb
    split at hb
    ·rename_i x y hx hy;exact two x y hx hy (by simpa using hb.symm)
    ·cases hb
end
def rF (F:TypeId→Option (List Kd)) (P:Program):List Field→Nat→Nat→Option (List Kd)
 |[],o,n=>bif Nat.beq o n then some [] else none
 |f::fs,o,n=>match F f.type with
  |some ks=>bif Nat.beq f.offset o&&Nat.beq ks.length (P.cellsOf f.type)&&!(f.name== "_") then (match rF F P fs (o+ks.length) n with|some r=>some (ks++r)|none=>none) else none
  |none=>none
def IK:Nat→List Kd→List Kd
 |0,_=>[]
 |n+1,ks=>ks++IK n ks
def lD (P:Program):Nat→TypeId→Option (List Kd)
 |0,_=>none
 |d+1,t=>match P.underlying t with
  |some .bool=>some [.b]
  |some (.int k)=>some [.i k]
  |some .string=>some [.s]
  |some (.array n e)=>match lD P d e with
   |some ks=>bif Nat.beq ks.length (P.cellsOf e)&&(match P.info? e with|some _=>true|none=>false) then some (IK n ks) else none
   |none=>none
  |some (.struct fs)=>bif P.stoodInHeld t then none else rF (lD P d) P fs.toList 0 (P.cellsOf t)
  |_=>none
def EB:TypeDesc→Bool
 | .struct _=>true
 | .array _ _=>true
 |_=>false
theorem CE {F:TypeId→Option (List Kd)} {P:Program}: ∀(fs:List Field) (o n:Nat) (ks:List Kd),rF F P fs o n=some ks→o+ks.length=n:=by
 intro fs
 induction fs with
 |nil=>
  intro o n ks hk
  simp only [rF] at hk
  cases hb:Nat.beq o n with
  |false=>simp [hb] at hk
  |true=>simp [hb] at hk;subst hk;simpa using Nat.eq_of_beq_eq_true hb
 |cons f fs ihf=>
  intro o n ks hk
  simp only [rF] at hk
  cases hf:F f.type with
  |none=>simp [hf] at hk
  |some js=>
   simp only [hf] at hk
   cases hc:Nat.beq f.offset o&&Nat.beq js.length (P.cellsOf f.type)&&!(f.name== "_") with
   |false=>simp [hc] at hk
   |true=>
    simp only [hc,cond_true] at hk
    cases hr:rF F P fs (o+js.length) n with
    |none=>simp [hr] at hk
    |some rs=>
     simp only [hr,Option.some.injEq] at hk
     subst hk
     have:=ihf _ _ _ hr
     simp only [List.length_append];omega
def qz (P:Program) (t:TypeId) (v:Value) (cs:List Value):Prop:=
 match P.underlying t with
 |some (.struct _)|some (.array _ _)=>v= .agg cs.toArray
 |_=>cs=[v]
theorem IL (n:Nat) (ks:List Kd):(IK n ks).length=n *ks.length:=by
 induction n with
 |zero=>simp [IK]
 |succ n ih=>simp only [IK,List.length_append,ih,Nat.succ_mul];omega
section
variable {P:Program} {w:World}
theorem wg {t:TypeId} {xs:Array Value} {off:Nat} {n:Nat} {d:TypeDesc} (hu:P.underlying t=some d) (hn:P.cellsOf t=n) (gU:EB d=false→n=1) (hl:off+n≤xs.size):
 ∃v,(Go.part t xs off).run P w= .ok v w∧qz P t v ((xs.toList.drop off).take n):=by
 obtain ⟨i,hi⟩:=info_of_underlying hu
 have pI:i.size=n:=by rw [←hn];simp [Program.cellsOf,hi]
 cases hd:EB d with
 |true=>
  refine ⟨.agg (xs.extract off (off+n)),?_,?_⟩
  ·cases d<;>simp [EB] at hd<;>simp [Go.part,isAgg,run_underlying hu,Go.sizeOf,typeInfo,hi,pI]
  ·have he:(xs.extract off (off+n))=((xs.toList.drop off).take n).toArray:=by
    apply Array.toList_inj.1
    rw [Array.toList_extract];simp [List.extract]
   unfold qz
   cases d<;>simp [EB] at hd<;>simp only [hu]<;>rw [he]
 |false=>
  have GF:=gU hd
  subst GF
  have dx:off<xs.size:=by omega
  refine ⟨xs[off],?_,?_⟩
  ·cases d<;>simp [EB] at hd<;>simp [Go.part,isAgg,run_underlying hu,dx]
  ·have he:(xs.toList.drop off).take 1=[xs[off]]:=by
    rw [List.take_one,List.head?_drop];simp [dx]
   unfold qz
   cases d<;>simp [EB] at hd<;>simp only [hu]<;>exact he
theorem NP {F:TypeId→Option (List Kd)} {dd:Nat} {xs ys:Array Value}: ∀(fs:List Field) (o n:Nat) (ks:List Kd),rF F P fs o n=some ks→xs.size=n→ys.size=n→ic ks (xs.toList.drop o)→ic ks (ys.toList.drop o)→
 (∀f∈fs,∀js,F f.type=some js→(∃d,P.underlying f.type=some d∧(EB d=false→js.length=1))∧
  ∀(x y:Value) (us vs:List Value),qz P f.type x us→qz P f.type y vs→ic js us→ic js vs→(Op.equalIn dd f.type x y).run P w= .ok (jA us vs) w)→
 (Op.eqFields dd xs ys fs).run P w= .ok (jA (xs.toList.drop o) (ys.toList.drop o)) w:=by
 intro fs
 induction fs with
 |nil=>
  intro o n ks hk hx hy _ _ _
  simp only [rF] at hk
  cases hb:Nat.beq o n with
  |false=>simp [hb] at hk
  |true=>
   have hb:=Nat.eq_of_beq_eq_true hb
   have h1:xs.toList.drop o=[]:=List.drop_eq_nil_of_le (by simp [hx,hb])
   have h2:ys.toList.drop o=[]:=List.drop_eq_nil_of_le (by simp [hy,hb])
   rw [h1,h2]
   simp [Op.eqFields,jA]
 |cons f fs ih=>
  intro o n ks hk hx hy fx fy hF
  simp only [rF] at hk
  cases hf:F f.type with
  |none=>simp [hf] at hk
  |some js=>
   simp only [hf] at hk
   cases hc:Nat.beq f.offset o&&Nat.beq js.length (P.cellsOf f.type)&&!(f.name== "_") with
   |false=>simp [hc] at hk
   |true=>
    simp only [hc,cond_true] at hk
    simp only [Bool.and_eq_true,Bool.not_eq_true'] at hc
    obtain ⟨⟨h1,h2⟩,h3⟩:=hc
    have h1:=Nat.eq_of_beq_eq_true h1
    have h2:=Nat.eq_of_beq_eq_true h2
    have h3:f.name≠ "_" :=by intro he;rw [he] at h3;simp at h3
    cases hr:rF F P fs (o+js.length) n with
    |none=>simp [hr] at hk
    |some rs=>
     simp only [hr,Option.some.injEq] at hk
     subst hk
     obtain ⟨fx1,fx2⟩:=fx.split
     obtain ⟨fy1,fy2⟩:=fy.split
     rw [List.drop_drop] at fx2 fy2
     have lx:=fx.length
     have ly:=fy.length
     simp only [List.length_drop,List.length_append,Array.length_toList] at lx ly
     obtain ⟨⟨d,hu,gU⟩,iB⟩:=hF f (by simp) js hf
     by_cases hz:o+js.length≤xs.size∧o+js.length≤ys.size
     ·obtain ⟨x,px,wx⟩:=wg (w:=w) (xs:=xs) (off:=f.offset) hu h2.symm gU (by rw [h1];exact hz.1)
      obtain ⟨y,py,wy⟩:=wg (w:=w) (xs:=ys) (off:=f.offset) hu h2.symm gU (by rw [h1];exact hz.2)
      rw [h1] at wx wy
      have he:=iB x y _ _ wx wy fx1 fy1
      have xk:=ih (o+js.length) n rs hr hx hy fx2 fy2 (fun g hg=>hF g (by simp [hg]))
      simp only [Op.eqFields,h3,ne_eq,not_false_eq_true,if_true,Sem.run_bind,px,py,he,Result.andThen_ok]
      have Ct:jA (xs.toList.drop o) (ys.toList.drop o)=(jA ((xs.toList.drop o).take js.length) ((ys.toList.drop o).take js.length)&&jA (xs.toList.drop (o+js.length)) (ys.toList.drop (o+js.length))):=by
       rw [←List.drop_drop,←List.drop_drop,←qW (by rw [fx1.length,fy1.length]),List.take_append_drop,List.take_append_drop]
      rw [Ct]
      cases jA ((xs.toList.drop o).take js.length) ((ys.toList.drop o).take js.length)
      ·simp
      ·simpa using xk
     ·exfalso
      have:=CE _ _ _ _ hr
      omega
theorem QZ {e:TypeId} {dd:Nat} {xs ys:Array Value} {js:List Kd} (Eh:js.length=P.cellsOf e) (hd: ∃d,P.underlying e=some d∧(EB d=false→js.length=1))
 (iB: ∀(x y:Value) (us vs:List Value),qz P e x us→qz P e y vs→ic js us→ic js vs→(Op.equalIn dd e x y).run P w= .ok (jA us vs) w):
 ∀(m i:Nat),xs.size=(i+m) *js.length→ys.size=(i+m) *js.length→ic (IK m js) (xs.toList.drop (i *js.length))→ic (IK m js) (ys.toList.drop (i *js.length))→
 (Op.eqItems dd e (P.cellsOf e) xs ys (List.range' i m)).run P w= .ok (jA (xs.toList.drop (i *js.length)) (ys.toList.drop (i *js.length))) w:=by
 intro m
 induction m with
 |zero=>
  intro i hx hy _ _
  have h1:xs.toList.drop (i *js.length)=[]:=List.drop_eq_nil_of_le (by simp [hx])
  have h2:ys.toList.drop (i *js.length)=[]:=List.drop_eq_nil_of_le (by simp [hy])
  rw [h1,h2]
  simp [Op.eqItems,jA]
 |succ m ih=>
  intro i hx hy fx fy
  simp only [IK] at fx fy
  obtain ⟨fx1,fx2⟩:=fx.split
  obtain ⟨fy1,fy2⟩:=fy.split
  have hmul:i *js.length+js.length=(i+1) *js.length:=by rw [Nat.succ_mul]
  rw [List.drop_drop,hmul] at fx2 fy2
  obtain ⟨d,hu,gU⟩:=hd
  have hle:(i+1) *js.length≤(i+(m+1)) *js.length:=Nat.mul_le_mul_right _ (by omega)
  obtain ⟨x,px,wx⟩:=wg (w:=w) (xs:=xs) (off:=i *js.length) hu Eh.symm gU (by omega)
  obtain ⟨y,py,wy⟩:=wg (w:=w) (xs:=ys) (off:=i *js.length) hu Eh.symm gU (by omega)
  have he:=iB x y _ _ wx wy fx1 fy1
  have xk:=ih (i+1) (by rw [hx];congr 1;omega) (by rw [hy];congr 1;omega) fx2 fy2
  rw [List.range'_succ]
  simp only [Op.eqItems,Sem.run_bind,←Eh,px,py,he,Result.andThen_ok]
  have Ct:jA (xs.toList.drop (i *js.length)) (ys.toList.drop (i *js.length))=(jA ((xs.toList.drop (i *js.length)).take js.length) ((ys.toList.drop (i *js.length)).take js.length)&&jA (xs.toList.drop ((i+1) *js.length)) (ys.toList.drop ((i+1) *js.length))):=by
   rw [←hmul,←List.drop_drop,←List.drop_drop,←qW (by rw [fx1.length,fy1.length]),List.take_append_drop,List.take_append_drop]
  rw [Ct]
  cases jA ((xs.toList.drop (i *js.length)).take js.length) ((ys.toList.drop (i *js.length)).take js.length)
  ·simp
  ·rw [←Eh] at xk;simpa using xk
theorem FD: ∀(d:Nat) (t:TypeId) (ks:List Kd),lD P d t=some ks→ ∃k,P.underlying t=some k∧(EB k=false→ks.length=1):=by
 intro d t ks h
 cases d with
 |zero=>simp [lD] at h
 |succ d=>
  simp only [lD] at h
  cases hu:P.underlying t with
  |none=>simp [hu] at h
  |some k=>
   refine ⟨k,rfl,fun ha=> ?_⟩
   cases k<;>simp only [hu] at h<;>first
    |(simp only [Option.some.injEq] at h;subst h;rfl)
    |(cases h;done)
    |(simp [EB] at ha;done)
theorem AP: ∀(d:Nat) (t:TypeId) (ks:List Kd),lD P d t=some ks→ ∀(m:Nat) (x y:Value) (us vs:List Value),qz P t x us→qz P t y vs→ic ks us→ic ks vs→
 (Op.equalIn (m+d) t x y).run P w= .ok (jA us vs) w:=by
 intro d
 induction d with
 |zero=>intro t ks h;simp [lD] at h
 |succ d ih=>
  intro t ks h m x y us vs hx hy fx fy
  simp only [lD] at h
  have hmd:m+(d+1)=(m+d)+1:=rfl
  rw [hmd]
  cases hu:P.underlying t with
  |none=>simp [hu] at h
  |some k=>
   cases k<;>simp only [hu] at h<;>try (cases h;done)
   case bool=>
    simp only [Option.some.injEq] at h;subst h
    simp only [qz,hu] at hx hy
    subst hx;subst hy
    obtain ⟨v,r,h1,h2,h3⟩:=fx
    obtain ⟨v',r',Ef,Ie,VK⟩:=fy
    simp at h1 Ef
    obtain ⟨rfl,_⟩:=h1
    obtain ⟨rfl,_⟩:=Ef
    cases x<;>simp [G0] at h2
    cases y<;>simp [G0] at Ie
    rename_i a b
    rw [run_equalIn_bool' w _ t a b hu]
    simp [jA,QX]
    cases a<;>cases b<;>rfl
   case int k=>
    simp only [Option.some.injEq] at h;subst h
    simp only [qz,hu] at hx hy
    subst hx;subst hy
    obtain ⟨v,r,h1,h2,h3⟩:=fx
    obtain ⟨v',r',Ef,Ie,VK⟩:=fy
    simp at h1 Ef
    obtain ⟨rfl,_⟩:=h1
    obtain ⟨rfl,_⟩:=Ef
    cases x<;>simp [G0] at h2
    cases y<;>simp [G0] at Ie
    subst h2;subst Ie
    rw [run_equalIn_int w _ t _ _ _ _ hu]
    simp only [jA,QX,Bool.and_true]
    congr 1
   case string=>
    simp only [Option.some.injEq] at h;subst h
    simp only [qz,hu] at hx hy
    subst hx;subst hy
    obtain ⟨v,r,h1,h2,h3⟩:=fx
    obtain ⟨v',r',Ef,Ie,VK⟩:=fy
    simp at h1 Ef
    obtain ⟨rfl,_⟩:=h1
    obtain ⟨rfl,_⟩:=Ef
    cases x<;>simp [G0] at h2
    cases y<;>simp [G0] at Ie
    rw [run_equalIn_string w _ t _ _ hu]
    simp only [jA,QX,Bool.and_true,toList_data]
    congr 1
    exact Bool.beq_eq_decide_eq _ _
   case array n e=>
    cases hke:lD P d e with
    |none=>simp [hke] at h
    |some js=>
     simp only [hke] at h
     cases hc:Nat.beq js.length (P.cellsOf e)&&(match P.info? e with|some _=>true|none=>false) with
     |false=>simp [hc] at h
     |true=>
      simp only [hc,cond_true,Option.some.injEq] at h
      subst h
      simp only [Bool.and_eq_true] at hc
      have Eh:=Nat.eq_of_beq_eq_true hc.1
      obtain ⟨i,hi⟩: ∃i,P.info? e=some i:=by
       cases hi:P.info? e with
       |none=>rw [hi] at hc;simp at hc
       |some i=>exact ⟨i,rfl⟩
      simp only [qz,hu] at hx hy
      subst hx;subst hy
      rw [run_equalIn_array w (m+d) us.toArray vs.toArray hu hi,List.range_eq_range']
      have l1:=fx.length
      have l2:=fy.length
      rw [IL] at l1 l2
      have:=QZ (w:=w) (xs:=us.toArray) (ys:=vs.toArray) (js:=js) (dd:=m+d) Eh (FD d e js hke) (fun x y us vs a b c d'=>ih e js hke m x y us vs a b c d') n 0 (by simpa using l1) (by simpa using l2) (by simpa using fx) (by simpa using fy)
      simpa using this
   case struct fs=>
    cases dH:P.stoodInHeld t with
    |true=>simp [dH] at h
    |false=>
     simp only [dH,cond_false] at h
     simp only [qz,hu] at hx hy
     subst hx;subst hy
     have QA:P.fieldsOf t=fs:=by simp [Program.fieldsOf,hu]
     rw [run_equalIn_struct w (m+d) t us.toArray vs.toArray (by rw [QA];exact hu) dH,QA]
     have hl:=CE _ _ _ _ h
     have:=NP (w:=w) (dd:=m+d) (xs:=us.toArray) (ys:=vs.toArray) fs.toList 0 (P.cellsOf t) ks h (by simp [fx.length];omega) (by simp [fy.length];omega) (by simpa using fx) (by simpa using fy)
      (fun f hf js hjs=>⟨FD d f.type js hjs,fun x y us vs a b c d'=>ih f.type js hjs m x y us vs a b c d'⟩)
     simpa using this
end
theorem Ml {l m:List Kd} (h:Bf l m=true):l=m:=by
 induction l generalizing m with
 |nil=>cases m<;>simp [Bf] at h;rfl
 |cons a l ih=>
  cases m with
  |nil=>simp [Bf] at h
  |cons b m=>
   simp only [Bf,Bool.and_eq_true] at h
   rw [QS h.1,ih h.2]
def KO:List Kd→Bool
 |[]=>true
 | .l::_=>false
 | .raw::_=>false
 |_::r=>KO r
def eqB (P:Program) (t:Nat) (I:TI):Bool:=
 !KO I.lay||!tx I.cq||((match lD P 20 t with|some ks=>Bf ks (T6 I.lay)|none=>false)&&!P.eqGuardType P.depth t&&
  (match P.underlying t with|some (.struct _)=>I.st|some (.array _ _)=>!I.st&&j9 I.lay .h|some .bool=>!I.st&&j9 I.lay .b|some (.int k)=>!I.st&&j9 I.lay (.i k)|some .string=>!I.st&&j9 I.lay .s|_=>false))
def Xv (P:Program) (S5:List (Nat×TI)):Bool:=S5.all fun p=>eqB P p.1 p.2
theorem NQ {lay:List Kd}: ∀{ls:List aC},dX lay ls=true→KO lay=true:=by
 induction lay with
 |nil=>intro ls _;rfl
 |cons k lay ih=>
  intro ls h
  cases ls with
  |nil=>simp [dX] at h
  |cons l ls=>
   simp only [dX] at h
   cases h1:lN k l with
   |false=>simp [h1] at h
   |true=>
    simp only [h1,cond_true] at h
    have:=ih h
    cases k<;>first|exact this|(cases l<;>simp [lN] at h1)
theorem NR {t:TypeId} {x y:Value} (h:(∃b,x= .bool b)∨ ∃cs,x= .agg cs) (op:BinOp):
 (op= .eql→binOp op t x y=(do pure (.bool (←Op.equal t x y))))∧(op= .neq→binOp op t x y=(do pure (.bool (!(←Op.equal t x y))))):=by
 rcases h with ⟨b,rfl⟩|⟨cs,rfl⟩<;>refine ⟨?_,?_⟩<;>rintro rfl<;>cases y<;>rfl
theorem NS {P:Program} {S5:List (Nat×TI)} (h:Xv P S5=true):Kp P (uo S5):=by
 intro t I hI hc e w vx vy sx sy b rx ry fx fy Xw Xx hb n1 n2
 have hr:=List.all_eq_true.1 h (t,I) (FA hI)
 simp only [eqB,NQ fx,Bool.not_true,Bool.false_or] at hr
 rw [hc] at hr
 simp only [tx,Bool.not_true,Bool.false_or,Bool.and_eq_true,Bool.not_eq_true'] at hr
 obtain ⟨⟨hk,hg⟩,hd⟩:=hr
 cases Nr:lD P 20 t with
 |none=>simp [Nr] at hk
 |some ks=>
  simp only [Nr] at hk
  have hk:=Ml hk
  subst hk
  have cells: ∀(v:Value) (s:Slot),ab e v s→dX I.lay (aF s)=true→kV I.st s=true→(∃us,qz P t v us∧aq e us (aF s))∧((∃b,v= .bool b)∨(∃cs,v= .agg cs)∨(∃k n,s= .sc (.p (.i k n)))∨ ∃l,s= .sc (.p (.s l))):=by
   intro v s hv hf hs
   cases s<;>simp only [kV] at hs<;>try (cases hs;done)
   ·rename_i l
    have dH:I.st=false:=by simpa using hs
    cases hu:P.underlying t with
    |none=>simp [hu] at hd
    |some d=>
     simp only [hu] at hd
     cases d<;>simp only [dH,Bool.not_false,Bool.true_and] at hd<;>try (cases hd;done)
     ·have hl:=dy hd
      rw [hl] at hf
      simp only [aF,dX] at hf
      cases l<;>simp [lN] at hf
      rename_i m
      cases m<;>simp [lN] at hf
      have:=Ay hv
      exact ⟨⟨[v],by simp [qz,hu],[v],[],rfl,hv,rfl⟩,.inl ⟨_,this⟩⟩
     ·have hl:=dy hd
      rw [hl] at hf
      simp only [aF,dX] at hf
      cases l<;>simp [lN] at hf
      rename_i m
      cases m<;>simp [lN] at hf
      exact ⟨⟨[v],by simp [qz,hu],[v],[],rfl,hv,rfl⟩,.inr (.inr (.inl ⟨_,_,rfl⟩))⟩
     ·have hl:=dy hd
      rw [hl] at hf
      simp only [aF,dX] at hf
      cases l<;>simp [lN] at hf
      rename_i m
      cases m<;>simp [lN] at hf
      exact ⟨⟨[v],by simp [qz,hu],[v],[],rfl,hv,rfl⟩,.inr (.inr (.inr ⟨_,rfl⟩))⟩
     ·have hl:=dy hd
      rw [hl] at hf
      simp only [aF,dX] at hf
      cases l<;>simp [lN] at hf
      rename_i x
      have hv:v= .agg (bh x).toArray:=hv
      exact ⟨⟨bh x,by simp [qz,hu,hv],bh x,[],by simp,rfl,rfl⟩,.inr (.inl ⟨_,hv⟩)⟩
   ·rename_i cs
    cases hu:P.underlying t with
    |none=>simp [hu] at hd
    |some d=>
     simp only [hu] at hd
     cases d<;>simp only [hs,Bool.not_true,Bool.false_and] at hd<;>try (cases hd;done)
     obtain ⟨arr,hv,oW⟩:=hv
     exact ⟨⟨arr.toList,by simp [qz,hu,hv],oW⟩,.inr (.inl ⟨_,hv⟩)⟩
  obtain ⟨⟨us,wx,lx⟩,kx⟩:=cells vx sx rx fx Xw
  obtain ⟨⟨vs,wy,ly⟩,ky⟩:=cells vy sy ry fy Xx
  have iB:(Op.equal t vx vy).run P w= .ok b w:=by
   have:=AP (P:=P) (w:=w) 20 t _ Nr 9980 vx vy us vs wx wy (FC lx fx) (FC ly fy)
   rw [QY lx ly hb] at this
   exact this
  refine ⟨iB,fun x y op=> ?_⟩
  have hxk:(∃b,vx= .bool b)∨ ∃cs,vx= .agg cs:=by
   rcases kx with h1|h1|⟨k,n,h1⟩|⟨l,h1⟩
   ·exact .inl h1
   ·exact .inr h1
   ·exfalso
    subst h1
    cases hu:P.underlying t with
    |none=>simp [hu] at hd
    |some d=>
     simp only [aF] at fx fy hb
     cases Q0:I.lay with
     |nil=>rw [Q0] at fx;simp [dX] at fx
     |cons k0 r0=>
      rw [Q0] at fx fy
      simp only [dX] at fx
      cases k0<;>simp [lN] at fx
      obtain ⟨Xy,Xz⟩:=fx
      have Xz:r0=[]:=by cases r0<;>simp [dX] at Xz;rfl
      subst Xz
      cases sy<;>simp only [kV] at Xw Xx<;>try (cases Xx;done)
      ·rename_i l
       simp only [aF,dX] at fy
       cases l<;>simp [lN] at fy
       rename_i m
       cases m<;>simp [lN] at fy
       exact n1 _ _ _ _ rfl rfl
      ·rw [Xx] at Xw;cases Xw
   ·exfalso
    subst h1
    simp only [aF] at fx fy hb
    cases Q0:I.lay with
    |nil=>rw [Q0] at fx;simp [dX] at fx
    |cons k0 r0=>
     rw [Q0] at fx fy
     simp only [dX] at fx
     cases k0<;>simp [lN] at fx
     have Xz:r0=[]:=by cases r0<;>simp [dX] at fx;rfl
     subst Xz
     cases sy<;>simp only [kV] at Xw Xx<;>try (cases Xx;done)
     ·rename_i l
      simp only [aF,dX] at fy
      cases l<;>simp [lN] at fy
      rename_i m
      cases m<;>simp [lN] at fy
      exact n2 _ _ rfl rfl
     ·rw [Xx] at Xw;cases Xw
  refine ⟨?_,NR hxk op⟩
  have WR:P.eqGuardType P.depth t=false:=hg
  rcases hxk with ⟨bb,rfl⟩|⟨cs,rfl⟩
  ·cases op<;>rfl
  ·cases vy<;>cases op<;>first|rfl|(simp [eqGuard,WR])
end Dn
/-
  A program's types of maps, looked through. Conditions: none.
-/
set_option linter.unusedSimpArgs false
set_option linter.unusedVariables false
set_option linter.constructorNameAsVariable false
namespace Dn
open Go
theorem G3 {lay:List Kd}: ∀{ks:List MV},cO lay ks=true→ic (T6 lay) (ks.flatMap zu):=by
 induction lay with
 |nil=>intro ks h;cases ks with|nil=>rfl|cons=>simp [cO] at h
 |cons k lay ih=>
  intro ks h
  cases ks with
  |nil=>simp [cO] at h
  |cons m ks=>
   simp only [cO,Bool.and_eq_true] at h
   have h2:=ih h.2
   have h1:=h.1
   cases k<;>cases m<;>simp only [zD] at h1<;>try (cases h1;done)
   ·exact ⟨_,_,rfl,rfl,h2⟩
   ·exact ⟨_,_,rfl,h1,h2⟩
   ·exact ⟨_,_,rfl,rfl,h2⟩
   ·exact (CD _).append h2
theorem T7 {lay:List Kd}: ∀{a b:List MV},cO lay a=true→cO lay b=true→jA (a.flatMap zu) (b.flatMap zu)=gK b a:=by
 induction lay with
 |nil=>
  intro a b ha hb
  cases a<;>cases b<;>simp [cO] at ha hb
  rfl
 |cons k lay ih=>
  intro a b ha hb
  cases a with
  |nil=>simp [cO] at ha
  |cons x a=>
   cases b with
   |nil=>simp [cO] at hb
   |cons y b=>
    simp only [cO,Bool.and_eq_true] at ha hb
    have ih:=ih ha.2 hb.2
    have h1:=ha.1
    have h2:=hb.1
    cases k<;>cases x<;>simp only [zD] at h1<;>try (cases h1;done)
    all_goals cases y<;>simp only [zD] at h2<;>try (cases h2;done)
    ·rename_i p q
     simp only [List.flatMap_cons,zu,List.cons_append,List.nil_append,jA,QX,gK,Em,ih]
     congr 1;rw [decide_eq_decide];exact eq_comm
    ·rename_i k1 p k2 q
     have e1:=of_decide_eq_true h1
     have e2:=of_decide_eq_true h2
     subst e1;subst e2
     simp only [List.flatMap_cons,zu,List.cons_append,List.nil_append,jA,QX,gK,Em,ih,decide_true,Bool.true_and]
     congr 1;rw [decide_eq_decide];exact eq_comm
    ·rename_i p q
     simp only [List.flatMap_cons,zu,List.cons_append,List.nil_append,jA,QX,gK,Em,ih]
     congr 1;rw [decide_eq_decide];simp [eq_comm]
    ·rename_i p q
     simp only [List.flatMap_cons,zu,gK,Em]
     rw [qW (by rw [cu,cu]),FB,ih]
     congr 1;rw [decide_eq_decide];exact eq_comm
def zR:TypeDesc→Bool
 | .bool| .int _| .string=>true
 |_=>false
def aan (P:Program) (n:Nat) (fs:List Field):Bool:=fs.all fun f=>(match P.underlying f.type with|some d=>zR d|none=>false)&&Nat.ble (f.offset+1) n
def V1 (P:Program) (kt:Nat) (I:TI):Bool:=match P.underlying kt with
 |some .bool=>!I.st&&j9 I.lay .b
 |some (.int k)=>!I.st&&j9 I.lay (.i k)
 |some .string=>!I.st&&j9 I.lay .s
 |some (.struct fs)=>I.st&&(match lD P 20 kt with|some ks=>Bf ks (T6 I.lay)|none=>false)&&aan P (T6 I.lay).length fs.toList
 |_=>false
def V2 (b:Bool):Option Value→Bool
 |some (.bool false)=>b
 |some (.int .i64 n)=>!b&&decide (n=0)
 |_=>false
def aao (P:Program) (ti:Nat→Option TI) (t kt:Nat) (b:Bool):Bool:=match P.underlying t with
 |some (.map kt' el)=>Nat.beq kt' kt&&(match P.info? el with|some i=>V2 b i.zero|none=>false)&&(match ti kt with|some I=>tx I.cq&&V1 P kt I|none=>false)
 |_=>false
def CF:List (Nat×(Nat×Bool))→Nat→Option (Nat×Bool)
 |[],_=>none
 |(k,s)::r,t=>bif Nat.beq k t then some s else CF r t
theorem NT {l:List (Nat×(Nat×Bool))} {t:Nat} {I:Nat×Bool} (h:CF l t=some I):(t,I)∈l:=by
 induction l with
 |nil=>simp [CF] at h
 |cons p l ih=>
  obtain ⟨k,s⟩:=p
  simp only [CF,eC] at h
  by_cases hk:k=t
  ·subst hk;simp at h;subst h;simp
  ·simp only [hk,decide_false,cond_false] at h
   exact List.mem_cons_of_mem _ (ih h)
def T8 (P:Program) (ti:Nat→Option TI) (l:List (Nat×(Nat×Bool))):Bool:=l.all fun p=>aao P ti p.1 p.2.1 p.2.2
theorem wh {k:Kd} {ks:List MV} (h:cO [k] ks=true): ∃m,ks=[m]∧zD k m=true:=by
 cases ks with
 |nil=>simp [cO] at h
 |cons m r=>
  cases r with
  |cons=>simp [cO] at h
  |nil=>exact ⟨m,rfl,by simpa [cO] using h⟩
theorem iN {P:Program} {t:TypeId} {d:TypeDesc} (hu:P.underlying t=some d) (hd:zR d=true) (em:Bool) (n:Nat) (v:Value) (w:World):(Instr.checkKey em (n+1) t v).run P w= .ok () w:=by
 rw [Instr.checkKey]
 simp only [Sem.run_bind,run_underlying hu,Result.andThen]
 cases d<;>simp [zR] at hd<;>cases v<;>rfl
theorem CG {P:Program} {t:TypeId} {d:TypeDesc} (hu:P.underlying t=some d) (hd:zR d=true) {xs:Array Value} {off:Nat} (h:off<xs.size) (w:World):(Go.part t xs off).run P w= .ok xs[off] w:=by
 cases d<;>simp [zR] at hd<;>simp [Go.part,isAgg,run_underlying hu,h]
theorem KP {P:Program} {c:Ctx} {l:List (Nat×(Nat×Bool))} (h:T8 P c.ti l=true) (hm: ∀t p,c.mt t=some p→CF l t=some p):zK P c:=by
 intro t s hs
 unfold s8 at hs
 cases Mg:c.mt t with
 |none=>simp [Mg] at hs
 |some p=>
  obtain ⟨kt,b⟩:=p
  simp only [Mg] at hs
  cases hI:c.tv kt with
  |none=>simp [hI] at hs
  |some I=>
   simp only [hI] at hs
   cases hit:Be ⟨I.st,I.lay,b⟩ with
   |true=>simp [hit] at hs
   |false=>
   simp only [hit,cond_false,Option.some.injEq] at hs
   subst hs
   obtain ⟨JV,LV⟩:=bD hI
   have hb:=List.all_eq_true.1 h _ (NT (hm t _ Mg))
   simp only [aao] at hb
   split at hb
   ·rename_i kt' el hu
    simp only [Bool.and_eq_true] at hb
    obtain ⟨⟨vi,ui⟩,hb3⟩:=hb
    have vi:=Nat.eq_of_beq_eq_true vi
    subst vi
    split at ui
    ·rename_i inf aeG
     rw [JV] at hb3
     simp only [Bool.and_eq_true] at hb3
     have hk:=hb3.2
     have hz: ∀w:World,(zeroValue el).run P w= .ok (wI b (gM b)) w:=by
      intro w
      have:inf.zero=some (wI b (gM b)):=by
       generalize inf.zero=z at ui
       unfold V2 at ui
       split at ui
       ·subst ui;rfl
       ·simp only [Bool.and_eq_true,Bool.not_eq_true'] at ui
        obtain ⟨h1,h2⟩:=ui
        subst h1
        rw [of_decide_eq_true h2];rfl
       ·cases ui
      simp [zeroValue,typeInfo,aeG,this]
     unfold V1 at hk
     refine ⟨kt',el,hu,hz,?_⟩
     split at hk
     ·rename_i hd
      simp only [Bool.and_eq_true,Bool.not_eq_true'] at hk
      have hl:=dy hk.2
      refine ⟨fun em ks w hf=>iN hd rfl em 9999 _ w,_,hd,.inl fun a b' ha zE=> ?_⟩
      rw [hl] at ha zE
      obtain ⟨x,rfl,hx⟩:=wh ha
      obtain ⟨y,rfl,hy⟩:=wh zE
      cases x<;>simp [zD] at hx
      cases y<;>simp [zD] at hy
      rename_i p q
      simp only [hk.1,eP,Instr.sameNow,gK,Em,Bool.and_true]
      congr 1;rw [Bool.eq_iff_iff];simp only [beq_iff_eq,decide_eq_true_eq];exact eq_comm
     ·rename_i k hd
      simp only [Bool.and_eq_true,Bool.not_eq_true'] at hk
      have hl:=dy hk.2
      refine ⟨fun em ks w hf=>iN hd rfl em 9999 _ w,_,hd,.inl fun a b' ha zE=> ?_⟩
      rw [hl] at ha zE
      obtain ⟨x,rfl,hx⟩:=wh ha
      obtain ⟨y,rfl,hy⟩:=wh zE
      cases x<;>simp [zD] at hx
      cases y<;>simp [zD] at hy
      subst hx;subst hy
      rename_i p q
      simp only [hk.1,eP,Instr.sameNow,gK,Em,Bool.and_true,if_true,decide_true,Bool.true_and]
      congr 1;rw [Bool.eq_iff_iff];simp only [beq_iff_eq,decide_eq_true_eq];exact eq_comm
     ·rename_i hd
      simp only [Bool.and_eq_true,Bool.not_eq_true'] at hk
      have hl:=dy hk.2
      refine ⟨fun em ks w hf=>iN hd rfl em 9999 _ w,_,hd,.inl fun a b' ha zE=> ?_⟩
      rw [hl] at ha zE
      obtain ⟨x,rfl,hx⟩:=wh ha
      obtain ⟨y,rfl,hy⟩:=wh zE
      cases x<;>simp [zD] at hx
      cases y<;>simp [zD] at hy
      rename_i p q
      simp only [hk.1,eP,Instr.sameNow,gK,Em,Bool.and_true]
      congr 1;rw [beq_toListBytes,ByteArray.toList_eq,ByteArray.toList_eq,Bool.eq_iff_iff];simp only [beq_iff_eq,decide_eq_true_eq,List.toList_toArray];exact eq_comm
     ·rename_i fs hd
      simp only [Bool.and_eq_true] at hk
      obtain ⟨⟨dH,S3⟩,QA⟩:=hk
      split at S3
      ·rename_i ks Nr
       have S3:=Ml S3
       subst S3
       have hkv: ∀q,eP true q= .agg (q.flatMap zu).toArray:=by intro q;rfl
       refine ⟨fun em q w hf=> ?_,_,hd,.inr fun x y hx hy=>⟨?_,fun w=> ?_⟩⟩
       ·have hlen:(q.flatMap zu).length=(T6 I.lay).length:=(G3 hf).length
        rw [dH,hkv,show (10000:Nat)=9999+1 from rfl,Instr.checkKey]
        simp only [Sem.run_bind,run_underlying hd,Result.andThen_ok]
        rw [←Array.forIn_toList]
        have each: ∀f∈fs.toList,(∃d,P.underlying f.type=some d∧zR d=true)∧f.offset<(q.flatMap zu).toArray.size:=by
         intro f hf
         have:=List.all_eq_true.1 QA f hf
         simp only [Bool.and_eq_true] at this
         obtain ⟨h1,h2⟩:=this
         split at h1
         ·rename_i d hd;exact ⟨⟨d,hd,h1⟩,by have:=Nat.le_of_ble_eq_true h2;simp only [List.size_toArray];omega⟩
         ·cases h1
        clear QA
        generalize fs.toList=L at each
        generalize (q.flatMap zu).toArray=xs at each
        induction L with
        |nil=>simp
        |cons f L ih=>
         obtain ⟨⟨d,h1,h2⟩,h3⟩:=each f (by simp)
         have vi:=iN h1 h2 em 9998 xs[f.offset] w
         have ui:=CG (P:=P) h1 h2 h3 w
         by_cases hn:f.name= "_"
         ·simp only [List.forIn_cons,Sem.run_bind,hn,ne_eq,not_true_eq_false,if_false,Result.andThen_ok,Sem.run_pure]
          exact ih (fun y hy=>each y (by simp [hy]))
         ·simp only [List.forIn_cons,Sem.run_bind,hn,ne_eq,not_false_eq_true,if_true,Result.andThen_ok,vi,ui,Sem.run_pure]
          exact ih (fun y hy=>each y (by simp [hy]))
       ·rw [dH,hkv,hkv];rfl
       ·rw [dH,hkv,hkv]
        have:=AP (P:=P) (w:=w) 20 kt' _ Nr 9980 (.agg (x.flatMap zu).toArray) (.agg (y.flatMap zu).toArray) (x.flatMap zu) (y.flatMap zu) (by simp [qz,hd]) (by simp [qz,hd]) (G3 hx) (G3 hy)
        rw [T7 hx hy] at this
        exact this
      ·cases S3
     ·cases hk
    ·cases ui
   ·cases hb
end Dn
/-
  Functions that are handed a variable do what their abstract run says. Conditions: none.
-/
set_option linter.unusedSimpArgs false
set_option linter.unusedVariables false
namespace Dn
open Go
section
variable {P:Program} {c:Ctx} {Z:bw} {e e':Env} {st bN:St} {a a':Act} {w w':World} {R:Type} {r:R}
theorem NU {rs:List ResultVar} (hT:j6 P c.ti): ∀{e:Env} {st:St} {K:List MV→St→Option R},bK c Z e st a w→Nc c st rs K=some r→
 ∃e' bN ms vs,bK c Z e' bN a w∧Ext Z.In e e'∧(rs.mapM (ov a.tmps)).run P w= .ok vs w∧bU e'.key e'.φ vs ms∧K ms bN=some r:=by
 induction rs with
 |nil=>intro e st K h hK;exact ⟨e,st,[],[],h,.refl _ _,by simp,rfl,hK⟩
 |cons x rs ih=>
  intro e st K h hK
  have go: ∀(s:Slot) (v:Value),ab e v s→(ov a.tmps x).run P w= .ok v w→(kU st s fun m st=>Nc c st rs fun ms st=>K (m::ms) st)=some r→
   ∃e' bN ms vs,bK c Z e' bN a w∧Ext Z.In e e'∧((x::rs).mapM (ov a.tmps)).run P w= .ok vs w∧bU e'.key e'.φ vs ms∧K ms bN=some r:=by
   intro s v hs bH hK
   obtain ⟨e1,dR,m,h1,h2,h3,h4,hK⟩:=mg h hs hK
   obtain ⟨e2,dY,ms,vs,q1,q2,q3,q4,hK⟩:=ih h1 hK
   refine ⟨e2,dY,m::ms,v::vs,q1,h2.trans q2,?_,⟨v,vs,rfl,?_,q4⟩,hK⟩
   ·simp [List.mapM_cons,bH,q3]
   ·have:=h4.mono q2.on.φ
    rw [←q2.on.key] at this;exact this
  simp only [Nc] at hK
  cases x with
  |tmp t=>
   simp only at hK
   have hs:=h.slot t
   by_cases hb: ∃cs,aj st.fr t= .box cs
   ·obtain ⟨cs,hb⟩:=hb
    rw [hb] at hK
    simp [kU] at hK
   ·refine go (aj st.fr t) (a.tmps.getD t undef) ?_ rfl hK
    generalize aj st.fr t=s at hs hb
    cases s<;>first|exact hs|exact absurd ⟨_,rfl⟩ hb
  |cell b t=>
   simp only at hK
   have hs:=h.slot b
   split at hK
   ·rename_i I cs hI hb
    obtain ⟨JV,LV⟩:=bD hI
    rw [hb] at hs
    obtain ⟨hv,Bk⟩:=hs
    cases zM:ee cs||wZ b with
    |true=>simp [zM] at hK
    |false=>
    obtain ⟨uh,hpb⟩:=Bool.or_eq_false_iff.1 zM
    simp only [zM,cond_false] at hK
    have hv:=hv.1 hpb
    rw [tg uh] at hv
    obtain ⟨arr,T,cB,oW⟩:=Bk.cells uh
    have hm:w.rangeAt (e.B b) 0 arr.toList:=by
     intro j v hj
     rw [Nat.zero_add,cell_of cB];simpa using hj
    obtain ⟨v,s,h1,h2,h3,h4⟩:=kF (P:=P) (st:=st) (s:= .skip) (hT t I JV) LV oW hm hK
    refine go s v h2 ?_ h4
    simpa [ov,hv,asAddr,Instr.loadAt,Instr.sureAddr] using h1 w hm
   ·simp at hK
theorem CH {key:Nat→Nat} {φ:Ph} {v:Value} {m:MV} (h:eB key φ v (.cell m)):False:=by
 have:=h.1
 simp [MV.one] at this
theorem aar (off pos:Nat):wZ (1000000+off *1000+pos)=true:=Nat.ble_eq_true_of_le (by omega)
theorem Q1 {f pos:Nat} {ks:List LK} {fn:Func} {bQ:List (List Kd)} {ms:List MV} {m:MV} (hG:Good P c) (hD:Mh P c) (hf:P.funcs[f]? =some fn) (yC:(fn.name== "runtime.NumGoroutine")=false)
 (hn:c.n=fn.ntmps) (VT:fn.ntmps≤1000000) (pI:fn.params.size+bQ.length≤fn.ntmps) (hg:c.dJ (c.key f)=true) (wL:c.sig (c.key f)=some (pos,ks)) (hb:E5 c bQ pos ks fn ms=some m):j8 P c f ms m:=by
 intro φ w Z vs hz eE iC
 unfold E5 at hb
 cases n0:fn.body with
 |none=>simp [n0] at hb
 |some b=>
 simp only [n0] at hb
 split at hb
 rotate_left
 ·simp at hb
 rename_i b' off ls zE zM
 cases zE
 cases kR:!fR c ks||!Nat.ble pos 999 with
 |true=>simp [kR] at hb
 |false=>
 simp only [kR,cond_false] at hb
 simp only [Bool.or_eq_false_iff,Bool.not_eq_false'] at kR
 obtain ⟨iD,dS⟩:=kR
 have dS:=Nat.le_of_ble_eq_true dS
 simp only [eg,hg,if_true] at eE
 have hC:VR c Z φ w (c.key f) vs ms:=by
  rcases eE with ⟨v0,v1,v2,xs,m1,ys,_,rfl,_,h4,_⟩|⟨v0,v1,v2,xs,m1,m2,_,rfl,_,_,h4,h5⟩|h
  ·exfalso
   rcases pos with _|_|_|pos<;>simp at zM
   subst zM
   exact CH h4
  ·exfalso
   rcases pos with _|_|_|pos<;>simp at zM
   ·subst zM;exact CH h4
   ·subst zM;exact CH h5
  ·exact h
 obtain ⟨pos',ks',Nb,um,aX,vZ,YT,XA,su,oV⟩:=hC
 rw [wL] at vZ
 simp only [Option.some.injEq,Prod.mk.injEq] at vZ
 obtain ⟨rfl,rfl⟩:=vZ
 rw [zM] at XA
 simp only [Option.some.injEq,MV.cell.injEq,MV.func.injEq] at XA
 obtain ⟨rfl,rfl⟩:=XA
 obtain ⟨cs,mm,E,arr,T,vk,cB,ZW,oX,oW,e9,dU⟩:=oV
 let e:Env:=⟨c.key,φ,E,fun _=>aX,mm⟩
 have bH:(callFunc f vs.toArray).run P w= .ok (.enter f vs.toArray) w:=by
  have B9: ¬fn.name= "runtime.NumGoroutine" :=by simpa using yC
  simp [callFunc,hf,B9,n0]
 unfold eU
 rw [bH]
 refine calls_of_wp hf n0 ?_
 have su:bU e.key e.φ vs (ms.set pos (.rp [])):=su
 obtain ⟨fr,rest,mh,rE,hb,rfl,l1,a2,k1,s1⟩:=AN su hb
 obtain ⟨np,hb,l2,k2,s2⟩:=Fx a2 hb
 simp only [tc] at hb
 obtain ⟨eR,aas,vU,g1,hb⟩:=iG hb
 cases aas with
 |cons=>simp [gN] at hb
 |nil=>
 simp only [gN] at hb
 have iB:cs=eR∧mm=vU.aL:=by
  unfold L3 at vk
  rw [g1] at vk
  simp only [gN,Option.some.injEq,Prod.mk.injEq] at vk
  exact ⟨vk.1.symm,vk.2.symm⟩
 obtain ⟨rfl,YM⟩:=iB
 rw [←YM] at hb
 have htn:(mh++rE).toArray.size=fn.params.size+bQ.length:=by simp [l1,l2]
 let a:Act:={tmps:=(mh++rE).toArray++Array.replicate (fn.ntmps-(mh++rE).toArray.size) undef,defers:=[]}
 have HP: ∀(t:Nat) (v:Value),(mh++rE)[t]? =some v→a.tmps.getD t undef=v:=by
  intro t v ht
  have dx:t<(mh++rE).length:=(List.getElem?_eq_some_iff.1 ht).1
  rw [Array.getD_eq_getD_getElem?]
  show (((mh++rE).toArray++Array.replicate _ undef)[t]?).getD undef=v
  rw [Array.getElem?_append_left (by simpa using dx)]
  simp only [List.getElem?_toArray]
  rw [ht];rfl
 have CA: ∀t,cN (aj (fr++np) t)=false∧(∀cs,aj (fr++np) t≠ .box cs)∧ab e (a.tmps.getD t undef) (aj (fr++np) t):=by
  intro t
  rw [u9]
  by_cases h1:t∈aK fr
  ·simp only [h1,if_true]
   obtain ⟨g1,g2,v,g3,g4⟩:=s1 _ (yB h1)
   refine ⟨g1,?_,?_⟩
   ·intro cs hc;simp only [hc,cr] at g2;cases g2
   ·rw [HP t v ?_];exact g4
    have dx:t<mh.length:=(List.getElem?_eq_some_iff.1 g3).1
    rw [List.getElem?_append_left dx];exact g3
  ·simp only [h1,if_false]
   by_cases h2:t∈aK np
   ·obtain ⟨g1,g2,v,g3,g4⟩:=s2 _ (yB h2)
    refine ⟨g1,g2,?_⟩
    rw [HP t v ?_];exact g4
    have hk:=h2
    rw [k2,List.mem_range'] at hk
    obtain ⟨i,hi,he⟩:=hk
    have yr:fn.params.size=mh.length:=by rw [l1];simp
    rw [List.getElem?_append_right (by omega),←yr];exact g3
   ·rw [pq _ _ h2]
    exact ⟨rfl,fun cs hc=>(by cases hc),by simp [ab]⟩
 obtain ⟨q,hq⟩: ∃q,q=1000000+off *1000+pos:=⟨_,rfl⟩
 have KI:wZ q=true:=by rw [hq];exact aar off pos
 have hpo:posOf q=pos:=by rw [hq];unfold posOf;omega
 have hof:HU q=off:=by rw [hq];unfold HU;omega
 rw [←hq] at hb
 let Zc:bw:={bw.plain Z with b4:=[pos],T:=fun _=> .pointer (some ⟨aX,off,none⟩)}
 have aat:a.tmps.getD pos undef= .pointer (some ⟨aX,off,none⟩):=HP pos _ YT
 have ND: ∀t,aj ((q,Slot.box cs)::(fr++np)) t=if t=q then .box cs else aj (fr++np) t:=by
  intro t
  simp only [aj,eC]
  by_cases NV:t=q
  ·subst NV;simp
  ·have: ¬q=t:=fun h=>NV h.symm
   simp [NV,this]
 have Mm:aK (fr++np)=List.range' 0 (fn.params.toList.length+bQ.length):=by
  have:aK (fr++np)=aK fr++aK np:=by simp [aK]
  rw [this,k1,k2]
  have:=List.range'_append_1 (s:=0) (m:=fn.params.toList.length) (n:=bQ.length)
  simpa using this
 have V3: ∀t ds,aj ((q,Slot.box cs)::(fr++np)) t= .box ds→t=q:=by
  intro t ds ht
  rw [ND] at ht
  by_cases NV:t=q
  ·exact NV
  ·rw [if_neg NV] at ht;exact absurd ht ((CA t).2.1 ds)
 have ou:bK c Zc e ⟨[pos],[],(q,.box cs)::(fr++np),mm⟩ a w:=by
  refine ⟨⟨rfl,rfl,rfl,fun t ht=> ?_⟩,?_,rfl,rfl,?_,?_,?_,fun f o ho=> ?_,fun t t' cs eR h1 h2 cG=> ?_,fun t ds f o h1 ho=> ?_,fun f f' o o' k h1 h2 h3 h4=>dU f f' o o' k h1 h2 h3 h4,iC,hz⟩
  ·have:t=pos:=by simpa [Zc] using ht
   rw [this];exact aat
  ·show ((mh++rE).toArray++Array.replicate (fn.ntmps-(mh++rE).toArray.size) undef).size=c.n
   rw [Array.size_append,Array.size_replicate,htn,hn];omega
  ·show (aK ((q,Slot.box cs)::(fr++np))).Nodup
   show (q::aK (fr++np)).Nodup
   rw [Mm]
   refine List.nodup_cons.2 ⟨fun hm=> ?_,List.nodup_range'⟩
   rw [List.mem_range'] at hm
   obtain ⟨i,hi,he⟩:=hm
   have:fn.params.toList.length=fn.params.size:=by simp
   omega
  ·intro t
   show bI Zc e w t _ (aj ((q,Slot.box cs)::(fr++np)) t)
   rw [ND]
   by_cases NV:t=q
   ·rw [if_pos NV,NV]
    exact ⟨⟨fun hp=>(by rw [KI] at hp;cases hp),fun _=>⟨by rw [hpo];simp [Zc],by rw [hof]⟩⟩,⟨.inr ZW,⟨_,cB,rfl,oW⟩,oX⟩⟩
   ·rw [if_neg NV]
    obtain ⟨g1,g2,g3⟩:=CA t
    generalize aj (fr++np) t=s at g1 g2 g3
    cases s<;>first|exact g3|exact absurd rfl (g2 _)
  ·intro t
   show b6 _ (aj ((q,Slot.box cs)::(fr++np)) t)
   rw [ND]
   by_cases NV:t=q
   ·rw [if_pos NV];trivial
   ·rw [if_neg NV];exact sr (CA t).1
  ·obtain ⟨I,cells,q1,q2,q3,q4,q5⟩:=(e9 f o ho).1.row
   exact ⟨I,cells,q1,q2,q3,q4,fun b hb=>⟨.inr (q5 b hb).1,(q5 b hb).2.1,fun hc=>by simp [Zc,bw.fz,bw.plain] at hc⟩⟩
  ·exact absurd ((V3 t _ h1).trans (V3 t' _ h2).symm) cG
  ·exact (e9 f o ho).2
 refine Mi hG hD b ou hb ?_
 intro n e' bN a' w' h' t' hK
 cases hle:Nat.ble n 1 with
 |false=>simp [hle] at hK
 |true=>
  simp only [hle,cond_true] at hK
  obtain ⟨e2,dY,ns,us,q1,q2,q3,q4,hK⟩:=NU (P:=P) hG.ti h' hK
  split at hK
  rotate_left
  ·simp at hK
  rename_i vX xe
  cases LW:ee vX with
  |true=>simp [LW] at hK
  |false=>
  simp only [LW,cond_false] at hK
  obtain ⟨outs,ps,ht,hK⟩:=xK hK
  simp only [Option.some.injEq] at hK
  have vl:(results fn a'.tmps).run P w'= .ok (if h:us.toArray.size=1 then us.toArray[0] else .tuple us.toArray) w':=by
   have hm:(fn.results.mapM (ov a'.tmps)).run P w'= .ok us.toArray w':=by
    rw [Array.mapM_eq_mapM_toList]
    simp [q3]
   have LW:results fn a'.tmps=(do let vs←fn.results.mapM (ov a'.tmps);pure (if h:vs.size=1 then vs[0] else .tuple vs)):=by
    unfold results
    congr 1
   rw [LW]
   simp [hm]
  have aau:=q1.slot q
  rw [xe] at aau
  obtain ⟨_,hT⟩:=aau.1.2 KI
  have hB:e2.B q=aX:=by
   have hT:Value.pointer (some ⟨aX,off,none⟩)= .pointer (some ⟨e2.B q,HU q,none⟩):=hT
   simp only [Value.pointer.injEq,Option.some.injEq,Addr.mk.injEq] at hT
   exact hT.1.symm
  have aav:bp dY.b4 q=false:=by
   rw [q1.defers.2.1]
   cases hh:bp Zc.b4 q with
   |false=>rfl
   |true=>
    have:=(bq _ _).1 hh
    have:q=pos:=by simpa [Zc] using this
    omega
  have hco:=(Ck q1 xe LW iD ht).wide (yA q1 xe aav ht)
  have JY:e2.key=c.key:=q1.key
  have IG: ∃φ',Trans Z φ w φ' w'∧xI φ' w'∧xf c Z φ' w' (c.key f) (mh++rE) (if h:us.toArray.size=1 then us.toArray[0] else .tuple us.toArray) m:=by
   refine ⟨e2.φ,t'.trans q2.tr,q1.mZ,?_⟩
   rw [JY] at q4
   subst hK
   refine ⟨?_,pos,ks,aX,off,wL,YT,by rw [←hB];exact hco⟩
   by_cases TQ: ∃m',ns=[m']
   ·obtain ⟨m',rfl⟩:=TQ
    obtain ⟨v,u,rfl,g1,g2⟩:=q4
    have g2:u=[]:=g2
    subst g2
    simp only [List.size_toArray,List.length_singleton,dite_true]
    cases m'<;>first|exact g1|exact absurd g1.1 (by simp [MV.one])
   ·have hm:Zj ns= .cC ns:=by
     cases ns with
     |nil=>rfl
     |cons x l=>
      cases l with
      |nil=>exact absurd ⟨x,rfl⟩ TQ
      |cons=>rfl
    have cG:us.toArray.size≠1:=by
     intro h1
     have:=q4.length
     rw [List.size_toArray] at h1
     rw [h1] at this
     obtain ⟨m1,h2⟩:=List.length_eq_one_iff.1 this.symm
     exact TQ ⟨m1,h2⟩
    rw [hm,dif_neg cG]
    exact ⟨us.toArray,rfl,by simpa using q4⟩
  match n,hle with
  |0,_=>exact ⟨h'.defers.1,_,vl,_,rfl,IG⟩
  |1,_=>exact ⟨h'.defers.1,_,vl,_,rfl,IG⟩
  |n+2,hle=>simp [Nat.ble] at hle
end
end Dn
/-
  Operations whose order is open. Conditions: none.
-/
set_option linter.unusedSimpArgs false
set_option linter.unusedVariables false
namespace Dn
open Go
section
variable {P:Program} {c:Ctx} {ops:Array Oper} {N:Act→World→Prop}
def o9 (N:Act→World→Prop):Exit→Act→World→Prop
 | .normal,a,w=>N a w
 |_,_,_=>False
def tz (c:Ctx) (oi:Oper) (ops:Array Oper) (i:Nat):Bool:=match ops[i]? with|some o=>PD c o||w9 oi o|none=>true
def EC (P:Program) (c:Ctx) (ops:Array Oper) (N:Act→World→Prop) (φ:Ph):Nat→Array Bool→Act→World→Prop
 |0,listed,a,w=>Region.ready .any ops listed=[]∧N a w
 |fuel+1,listed,a,w=>(Region.ready .any ops listed=[]→N a w)∧
  ∀i∈Region.ready .any ops listed,wpOp P ops (o9 N) i (fun a' w'=>((∀oi,tz c oi ops i=true→eo c oi w w')∧xI φ w')∧EC P c ops N φ fuel (listed.setIfInBounds i true) a' w') a w
theorem NW {φ φ':Ph} (hp:o6 φ φ'): ∀(fuel:Nat) (listed:Array Bool) (a:Act) (w:World),EC P c ops N φ' fuel listed a w→EC P c ops N φ fuel listed a w:=by
 intro fuel
 induction fuel with
 |zero=>intro listed a w h;exact h
 |succ fuel ih=>intro listed a w h;exact ⟨h.1,fun i hi=>wpOp_mono (fun a w h=>⟨⟨h.1.1,fun b o v hv=>h.1.2 b o v (hp b o v hv)⟩,ih _ _ _ h.2⟩) (h.2 i hi)⟩
theorem Q2 {φ:Ph}: ∀(fuel:Nat) (listed:Array Bool) (a:Act) (w:World),EC P c ops N φ fuel listed a w→wpAny P .any ops (o9 N) fuel listed a w:=by
 intro fuel
 induction fuel with
 |zero=>intro listed a w h;exact h
 |succ fuel ih=>intro listed a w h;exact ⟨h.1,fun i hi=>wpOp_mono (fun a w h=>ih _ _ _ h.2) (h.2 i hi)⟩
theorem KQ {oi oj p:Oper} {w w':World} (h1:w9 oi p=true) (h2:w9 oj p=true) (h:eo c oi w w'):eo c oj w w':=by
 unfold w9 at h1 h2
 split at h1
 ·rename_i t t' g1 g2
  split at h2
  ·rename_i u u' g3 g4
   rw [g2] at g4
   cases g4
   have e1:=Nat.eq_of_beq_eq_true h1
   have e2:=Nat.eq_of_beq_eq_true h2
   subst e1;subst e2
   simpa [eo,NE,g1,g3] using h
  ·cases h2
 ·cases h1
theorem XB {j:Nat} {oi oj:Oper} {v:Value} (hj:ops[j]? =some oj) (se:oi.apart ops oj=true)
 (hsi: ∀cs b,oi.op≠ .select cs b) (YY: ∀cs b,oj.op≠ .select cs b) {K:Act→World→Prop} {a:Act} {w:World} (h:wpOp P ops (o9 N) j K (a.put oi.dst v) w):
 wpOp P ops (o9 N) j (fun a' w'=>(execOp a'.eval oi=execOp a.eval oi∧Region.wanted oi (yielded ops a'.tmps)=Region.wanted oi (yielded ops a.tmps))∧K (a'.put oi.dst v) w') a w:=by
 obtain ⟨h1,h2,h3⟩:=Oper.apart_spec se
 have keep: ∀(a:Act) (u:Value),execOp (a.put oj.dst u).eval oi=execOp a.eval oi∧Region.wanted oi (yielded ops (a.put oj.dst u).tmps)=Region.wanted oi (yielded ops a.tmps):=
  fun a u=>⟨execOp_put oi hsi a oj.dst u h3,wanted_put oi a oj.dst u h3⟩
 unfold wpOp at *
 simp only [hj] at *
 rw [wanted_put oj a oi.dst v h1] at h
 split
 ·rename_i hw
  simp only [hw,if_true] at h
  rcases h with h|⟨aaw,Q3⟩
  case inr=>obtain ⟨_,_,hf⟩:=Q3;exact hf.elim
  refine .inl ?_
  unfold Oper.wp at *
  rw [execOp_put oj YY a oi.dst v h1] at h
  generalize (execOp a.eval oj).run P w=r at *
  cases r with
  |ok n w'=>
   cases n<;>simp only [Oper.upon] at h⊢
   case value u=>exact ⟨keep a u,by rw [←Act.put_comm a v u h2];exact h⟩
   case skip=>exact ⟨keep a _,by rw [←Act.put_comm a v undef h2];exact h⟩
   case defer d=>
    refine ⟨keep _ _,?_⟩
    rw [←Act.put_comm _ v undef h2,←Act.put_defers]
    exact h
   case enter f args=>
    refine Calls.mono h fun x vW he=> ?_
    cases x with
    |returned u=>exact ⟨keep a u,by rw [←Act.put_comm a v u h2];exact he⟩
    |panicked c=>exact he
    |outgrown=>exact he
   case row row args=>exact Rows.mono h fun u vW he=>⟨keep a u,by rw [←Act.put_comm a v u h2];exact he⟩
  |halt x w'=>
   cases x<;>simp only [Oper.upon] at h⊢
   case panic u=>exact h
 ·rename_i hw
  simp only [hw] at h
  exact ⟨keep a _,by rw [←Act.put_comm a v undef h2];exact h⟩
def Mn (P:Program) (c:Ctx) (ops:Array Oper) (φ:Ph) (o:Oper) (v:Value) (a:Act) (w:World):Prop:=
 (Region.wanted o (yielded ops a.tmps)=true∧ ∀w',(kA c o=true→(still c o=false→eo c o w w')∧xI φ w')→(execOp a.eval o).run P w'= .ok (.value v) w')∨
 (Region.wanted o (yielded ops a.tmps)=false∧v=undef)
theorem CI {φ:Ph} {i:Nat} {oi:Oper} {v:Value} {D:List Nat} (hD: ∀j oj,j∈D→j≠i→ops[j]? =some oj→ ∃e∈oj.after,Region.binds .any e=true∧e.on∈D) (hi:ops[i]? =some oi) (IM: ∀(j:Nat) (o:Oper) cs b,ops[j]? =some o→o.op≠ .select cs b):
 ∀(fuel:Nat) (listed:Array Bool) (a:Act) (w:World),
  (∀j oj,ops[j]? =some oj→j∉D→j≠i→listed.getD j true=false→oi.apart ops oj=true∧(kA c oi=true→still c oi=false→tz c oi ops j=true))→(∀d∈D,listed.getD d false=false)→
  i∈Region.ready .any ops listed→Mn P c ops φ oi v a w→xI φ w→
  EC P c ops N φ fuel (listed.setIfInBounds i true) (a.put oi.dst v) w→EC P c ops N φ (fuel+1) listed a w:=by
 have self: ∀(fuel:Nat) (listed:Array Bool) (a:Act) (w:World),Mn P c ops φ oi v a w→xI φ w→EC P c ops N φ fuel (listed.setIfInBounds i true) (a.put oi.dst v) w→
  wpOp P ops (o9 N) i (fun a' w'=>((∀oi,tz c oi ops i=true→eo c oi w w')∧xI φ w')∧EC P c ops N φ fuel (listed.setIfInBounds i true) a' w') a w:=by
  intro fuel listed a w hy hm H
  unfold wpOp
  simp only [hi]
  rcases hy with ⟨hw,hv⟩|⟨hw,rfl⟩
  ·simp only [hw,if_true,Oper.wp,hv w (fun _=>⟨fun _=>(cZ.refl w).for,hm⟩),Oper.upon]
   exact .inl ⟨⟨fun _ _=>(cZ.refl w).for,hm⟩,H⟩
  ·simp only [hw,Bool.false_eq_true,if_false]
   exact ⟨⟨fun _ _=>(cZ.refl w).for,hm⟩,H⟩
 intro fuel
 induction fuel with
 |zero=>
  intro listed a w _ _ hr hy hm H
  refine ⟨fun h=>(by rw [h] at hr;cases hr),fun j hj=> ?_⟩
  by_cases Pj:j=i
  ·subst Pj;exact self 0 listed a w hy hm H
  ·have:=ready_mono hj Pj
   rw [H.1] at this
   cases this
 |succ fuel ih=>
  intro listed a w oX Bm hr hy hm H
  refine ⟨fun h=>(by rw [h] at hr;cases hr),fun j hj=> ?_⟩
  by_cases Pj:j=i
  ·subst Pj;exact self (fuel+1) listed a w hy hm H
  ·have h1:=H.2 j (ready_mono hj Pj)
   obtain ⟨T9,oj,V4,rC⟩:=mem_ready.1 hj
   have hjD:j∉D:=by
    intro hjd
    obtain ⟨e,he,hb,rB⟩:=hD j oj hjd Pj V4
    have h1:=rC e he hb
    rw [Bm e.on rB] at h1;cases h1
   obtain ⟨se,YZ⟩:=oX j oj V4 hjD Pj T9
   have h2:=XB V4 se (fun cs b=>IM i oi cs b hi) (fun cs b=>IM j oj cs b V4) h1
   have aax: ∀d∈D,(listed.setIfInBounds j true).getD d false=false:=by
    intro d hd
    rw [getD_set_ne false (fun he=>hjD (by rw [he];exact hd))];exact Bm d hd
   have XC: ∀k ok,ops[k]? =some ok→k∉D→k≠i→(listed.setIfInBounds j true).getD k true=false→oi.apart ops ok=true∧(kA c oi=true→still c oi=false→tz c oi ops k=true):=fun k ok hk hkD Ua Xq=>by
    refine oX k ok hk hkD Ua ?_
    by_cases hjk:j=k
    ·subst hjk;exact T9
    ·rw [getD_set_ne true hjk] at Xq;exact Xq
   refine wpOp_mono (fun a' w' h3=>⟨h3.2.1,ih (listed.setIfInBounds j true) a' w' XC aax (ready_mono hr (Ne.symm Pj)) ?_ h3.2.1.2 ?_⟩) h2
   ·obtain ⟨⟨he,XD⟩,⟨hg,_⟩,_⟩:=h3
    rcases hy with ⟨hw,hv⟩|⟨hw,rfl⟩
    ·refine .inl ⟨by rw [XD];exact hw,fun vW Q4=> ?_⟩
     rw [he]
     exact hv vW (fun hl=>⟨fun hs=>(hg oi (YZ hl hs)).trans ((Q4 hl).1 hs),(Q4 hl).2⟩)
    ·exact .inr ⟨by rw [XD];exact hw,rfl⟩
   ·rw [Array.setIfInBounds_comm _ _ Pj]
    exact h3.2.2
variable {Z:bw} {R:Type} {K:St→Option R} {r:R}
theorem NX (op:Op):Kc op=op.operands.toList:=by
 cases op<;>first|rfl|simp [Kc,Op.operands,Call.operands]
 all_goals first|rfl|(rename_i c;cases c.callee<;>simp)
theorem Q5 (l:List Operand):H3 l=l.filterMap fun| .tmp t=>some t|_=>none:=by
 induction l with
 |nil=>rfl
 |cons x l ih=>cases x<;>simp [H3,ih]
theorem FE (o:Oper):Gw ops.toList o=o.looksAt ops:=by
 unfold Gw Oper.looksAt
 rw [NX,Q5]
 congr 1
 cases o.guard with
 |none=>rfl
 |some g=>
  obtain ⟨g,wnt⟩:=g
  simp only [Array.getElem?_toList]
  cases ops[g]? <;>rfl
theorem wi {x y:Oper} (h:Gx ops.toList x y=true):x.apart ops y=true:=by
 unfold Gx at h
 unfold Oper.apart
 rw [FE,FE] at h
 have hn: ∀(l:List Nat) (d:Nat),bp l d=l.contains d:=by
  intro l d
  have:=bq l d
  cases h1:bp l d<;>cases h2:l.contains d<;>simp_all
 cases hx:x.dst<;>cases hy:y.dst<;>simp_all [bne,eC]
theorem sv (e:Edge):BW e=Region.binds .any e:=by
 unfold BW Region.binds
 cases e.ground<;>rfl
structure Q6 (ops:Array Oper) (listed:Array Bool) (pre:List Nat):Prop where
 size:listed.size=ops.size
 mem: ∀i,i<ops.size→(listed.getD i true=true↔i∈pre)
theorem Q6.set {listed:Array Bool} {pre:List Nat} {x:Nat} (h:Q6 ops listed pre) (hx:x<ops.size):Q6 ops (listed.setIfInBounds x true) (x::pre):=by
 refine ⟨by simpa using h.size,fun i hi=> ?_⟩
 by_cases Pk:x=i
 ·subst Pk
  have:x<listed.size:=by rw [h.size];exact hx
  simp [this]
 ·rw [getD_set_ne true Pk,h.mem i hi]
  simp only [List.mem_cons]
  exact ⟨.inr,fun hh=>hh.resolve_left (fun he=>Pk he.symm)⟩
theorem Q6.yE {listed:Array Bool} {pre:List Nat} {i:Nat} (h:Q6 ops listed pre) (hi:i<ops.size):listed.getD i true=false↔i∉pre:=by
 rw [←h.mem i hi];cases listed.getD i true<;>simp
theorem Q6.done {listed:Array Bool} {pre:List Nat} {i:Nat} (h:Q6 ops listed pre) (hi:i<ops.size):listed.getD i false=true↔i∈pre:=by
 rw [←h.mem i hi]
 have hl:i<listed.size:=by rw [h.size];exact hi
 simp [hl]
theorem vn: ∀(rest pre:List Nat),r7 c ops.toList pre rest=true→ ∀z∈rest,z∉pre:=by
 intro rest
 induction rest with
 |nil=>intro pre _ z hz;cases hz
 |cons y rest ihr=>
  intro pre hd z hz
  simp only [r7] at hd
  cases hy:ops.toList[y]? with
  |none=>simp [hy] at hd
  |some oy=>
   simp only [hy,Bool.and_eq_true,Bool.not_eq_true'] at hd
   rcases List.mem_cons.1 hz with rfl|hz
   ·rw [←bq,hd.1.1.1.2];simp
   ·exact fun hzp=>ihr (y::pre) hd.2 z hz (by simp [hzp])
theorem ED {o:Oper} {x:Nat}: ∀(rest D0:List Nat),pD c ops.toList o D0 rest=true→(∀y,y∈D0→y≠x→ ∃p,ops[y]? =some p∧ ∃e∈p.after,Region.binds .any e=true∧e.on∈D0)→
 ∃D:List Nat,(∀y∈D0,y∈D)∧(∀y∈D,y∈D0∨y∈rest)∧(∀j oj,j∈D→j≠x→ops[j]? =some oj→ ∃e∈oj.after,Region.binds .any e=true∧e.on∈D)∧
  (∀y∈rest,y∉D→ ∃p,ops[y]? =some p∧o.apart ops p=true∧(kA c o=true→still c o=false→(PD c p||w9 o p)=true)):=by
 intro rest
 induction rest with
 |nil=>
  intro D0 _ h0
  refine ⟨D0,fun y hy=>hy,fun y hy=> .inl hy,fun j oj hj cG ho=> ?_,fun y hy=>by cases hy⟩
  obtain ⟨p,hp,he⟩:=h0 j hj cG
  rw [ho] at hp;cases hp;exact he
 |cons y rest ih=>
  intro D0 h h0
  simp only [pD] at h
  cases hy:ops.toList[y]? with
  |none=>simp [hy] at h
  |some p=>
   simp only [hy] at h
   have hy':ops[y]? =some p:=by simpa using hy
   cases he:xy p (bp D0) with
   |true=>
    simp only [he,cond_true] at h
    obtain ⟨D,D1,D2,D3,D4⟩:=ih (y::D0) h (by
     intro z hz cG
     rcases List.mem_cons.1 hz with rfl|hz
     ·unfold xy at he
      obtain ⟨ed,Ub,hb⟩:=List.any_eq_true.1 he
      simp only [Bool.and_eq_true,sv] at hb
      exact ⟨p,hy',ed,by simpa using Ub,hb.1,by simp [(bq _ _).1 hb.2]⟩
     ·obtain ⟨q,hq,ed,h1,h2,h3⟩:=h0 z hz cG
      exact ⟨q,hq,ed,h1,h2,by simp [h3]⟩)
    refine ⟨D,fun z hz=>D1 z (by simp [hz]),fun z hz=> ?_,D3,fun z hz hzD=> ?_⟩
    ·rcases D2 z hz with h1|h1
     ·rcases List.mem_cons.1 h1 with h1|h1
      ·exact .inr (by simp [h1])
      ·exact .inl h1
     ·exact .inr (by simp [h1])
    ·rcases List.mem_cons.1 hz with rfl|hz
     ·exact absurd (D1 z (by simp)) hzD
     ·exact D4 z hz hzD
   |false=>
    simp only [he,cond_false,Bool.and_eq_true,Bool.or_eq_true,Bool.not_eq_true'] at h
    obtain ⟨⟨h1,h2⟩,h3⟩:=h
    obtain ⟨D,D1,D2,D3,D4⟩:=ih D0 h3 h0
    refine ⟨D,D1,fun z hz=>(D2 z hz).imp id (fun h=>by simp [h]),D3,fun z hz hzD=> ?_⟩
    rcases List.mem_cons.1 hz with rfl|hz
    ·refine ⟨p,hy',wi h1,fun hl hs=> ?_⟩
     rcases h2 with ((h2|h2)|h2)|h2
     ·rw [hl] at h2;cases h2
     ·simp [h2]
     ·rw [hs] at h2;cases h2
     ·simp [h2]
    ·exact D4 z hz hzD
def bw.outs (Z:bw) (bs:List Nat):bw:={Z with In:=fun b=>Z.In b∧b∉bs,Pr:=fun b=>Z.Pr b∧b∉bs}
theorem bK.AQ {Z Z':bw} {e:Env} {st:St} {a:Act} {w:World} (h:bK c Z e st a w) (hI: ∀b,Z.In b→Z'.In b) (hP: ∀b,Z.Pr b→Z'.Pr b) (h1:Z'.b4=Z.b4) (h2:Z'.b5=Z.b5) (h3:Z'.T=Z.T) (h4:Z'.Zl=Z.Zl):bK c Z' e st a w:=by
 refine ⟨by rw [h1,h2,h3];exact h.defers,h.size,h.m,h.key,h.nodup,fun t=> ?_,h.root,fun f o ho=> ?_,h.bb,h.bf,h.ff,h.mZ,fun b hb=>hI b (h.b3 b hb)⟩
 ·have hs:=h.slot t
  generalize aj st.fr t=s at hs
  cases s<;>simp only [bI] at hs⊢ <;>first|exact hs|skip
  exact ⟨⟨hs.1.1,fun hp=>by rw [h1,h3];exact hs.1.2 hp⟩,⟨by rcases hs.2.b3 with ⟨x,y⟩|x;exact .inl ⟨by rw [h1];exact x,hP _ y⟩;exact .inr (hI _ x),hs.2.obj,hs.2.free⟩⟩
 ·obtain ⟨I,cells,g1,g2,g3,g4,g5⟩:=(h.gY f o ho).row
  refine ⟨I,cells,g1,g2,g3,g4,fun aX hb=> ?_⟩
  obtain ⟨k1,k2,k3⟩:=g5 aX hb
  refine ⟨?_,k2,fun hc hz j hj=>k3 (by have hc:f∈Z'.b5:=hc;rw [h2] at hc;exact hc) hz j hj⟩
  rcases k1 with ⟨x,y⟩|x
  ·exact .inl ⟨by rw [h2];exact x,hP _ y⟩
  ·exact .inr (hI _ x)
theorem bK.narrow {e:Env} {st:St} {a:Act} {w w':World} {bs:List Nat} (h:bK c (Z.outs bs) e st a w) (g:cZ w w') (hs:w.heap.size<w'.heap.size):bK c (Z.outs (w.heap.size::bs)) e st a w':=by
 have h':=h.grow g
 have sf: ∀b,b<w.heap.size→(Z.outs bs).In b→(Z.outs (w.heap.size::bs)).In b:=fun b hb hi=>⟨hi.1,by simp only [List.mem_cons,not_or];exact ⟨by omega,hi.2⟩⟩
 have Cf: ∀b,b<w.heap.size→(Z.outs bs).Pr b→(Z.outs (w.heap.size::bs)).Pr b:=fun b hb hi=>⟨hi.1,by simp only [List.mem_cons,not_or];exact ⟨by omega,hi.2⟩⟩
 refine ⟨h'.defers,h'.size,h'.m,h'.key,h'.nodup,fun t=> ?_,h'.root,fun f o ho=> ?_,h'.bb,h'.bf,h'.ff,h'.mZ,fun b hb=> ?_⟩
 ·have hs:=h.slot t
  have vZ:=h'.slot t
  generalize aj st.fr t=s at hs vZ
  cases s<;>simp only [bI] at hs vZ⊢ <;>first|exact vZ|skip
  obtain ⟨o2,k1,_⟩:=hs.2.obj
  have hl:=bm k1
  exact ⟨vZ.1,⟨by rcases vZ.2.b3 with ⟨x,y⟩|x;exact .inl ⟨x,Cf _ hl y⟩;exact .inr (sf _ hl x),vZ.2.obj,vZ.2.free⟩⟩
 ·obtain ⟨I,cells,g1,g2,g3,g4,g5⟩:=(h'.gY f o ho).row
  refine ⟨I,cells,g1,g2,g3,g4,fun aX hb=> ?_⟩
  obtain ⟨k1,k2,k3⟩:=g5 aX hb
  refine ⟨?_,k2,k3⟩
  have hl:aX<w.heap.size:=by
   obtain ⟨I',PX,l1,l2,l3,l4,l5⟩:=(h.gY f o ho).row
   rcases l3.2 with ⟨hv,_⟩|⟨gg,cap,cM,hv,_,hg,_⟩
   ·rw [hv] at hb;simp [Value.ownBlock] at hb
   ·rw [hv] at hb
    simp only [Value.ownBlock,Option.some.injEq] at hb
    have:=bm hg
    omega
  rcases k1 with ⟨x,y⟩|x
  ·exact .inl ⟨x,Cf _ hl y⟩
  ·exact .inr (sf _ hl x)
 ·refine ⟨(h.b3 b (by omega)).1,?_⟩
  simp only [List.mem_cons,not_or]
  exact ⟨by omega,(h.b3 b (by omega)).2⟩
def Uc (b:Nat):Value:= .pointer (some ⟨b,0,none⟩)
def sw (ops:Array Oper) (i:Nat):Option Nat:=match ops[i]? with
 |some o=>o.dst
 |none=>none
def rG (ops:Array Oper):List (Nat×Nat)→Act→Act
 |[],a=>a
 |p::r,a=>(rG ops r a).put (sw ops p.1) (Uc p.2)
structure Ud (c:Ctx) (Z:bw) (ops:Array Oper) (e:Env) (w:World) (p:Nat×Nat):Prop where
 row: ∃o t I d arr T,ops[p.1]? =some o∧H4 o=true∧o.op= .alloc t∧c.tv t=some I∧o.dst=some d∧w.heap[p.2]? =some (.cells arr T (0,0))∧ ∀e':Env,aq e' arr.toList I.zero
 free: ∀off,e.φ p.2 off=none
 b3:Z.In p.2
theorem wj {o:Oper} (h:H4 o=true): ∃t d,o.op= .alloc t∧o.dst=some d∧o.guard=none∧ ∀e∈o.after,Region.binds .any e=false:=by
 unfold H4 at h
 split at h
 ·rename_i t d h1 h2 h3
  refine ⟨t,d,h1,h2,h3,fun e he=> ?_⟩
  have:=List.all_eq_true.1 h e (by simpa using he)
  simpa [sv] using this
 ·cases h
theorem xL {t:TypeId} {I:TI} (hI:c.tv t=some I) (hT:j6 P c.ti): ∃i z,P.info? t=some i∧i.zero=some z∧ ∀e:Env,aq e z.cells.toList I.zero:=by
 obtain ⟨qw,hc⟩:=bD hI
 obtain ⟨d,i,h1,h2,h3,h4⟩:=hT t I qw
 suffices hz: ∃z,i.zero=some z∧ ∀e:Env,aq e z.cells.toList I.zero by
  obtain ⟨z,h5,h6⟩:=hz
  exact ⟨i,z,h2,h5,h6⟩
 cases d<;>simp only [pH] at h4
 case struct fs=>obtain ⟨_,_,_,_,_,_,cs,hz,hl,_⟩:=h4;exact ⟨_,hz,fun e=>by simpa [Value.cells] using j7 hl⟩
 case tuple ts=>exact absurd hc h4.2.1
 case slice el=>obtain ⟨_,_,_,_,_,hz,hl,_⟩:=h4;exact ⟨_,hz,fun e=>by rw [hl];exact ⟨[.slice none 0 0],[],rfl,rfl,rfl⟩⟩
 case array n el=>obtain ⟨_,_,_,_,_,_,_,hl,hz⟩:=h4;exact ⟨_,hz,fun e=>by rw [hl];exact ⟨bh jV.zero,[],by simp [Value.cells],rfl,rfl⟩⟩
 case bool=>obtain ⟨_,_,_,_,hl,hz⟩:=h4;exact ⟨_,hz,fun e=>by rw [hl];exact ⟨[.bool false],[],rfl,⟨rfl,.b _⟩,rfl⟩⟩
 case int k=>obtain ⟨_,_,_,_,hl,hz⟩:=h4;exact ⟨_,hz,fun e=>by rw [hl];exact ⟨[.int k 0],[],rfl,⟨rfl,.i _ _⟩,rfl⟩⟩
 case string=>
  obtain ⟨_,_,_,_,hl,b,hz,hb⟩:=h4
  refine ⟨_,hz,fun e=>by rw [hl];refine ⟨[.string b],[],rfl,⟨rfl,?_⟩,rfl⟩;rw [←hb];exact .s b⟩
 all_goals
  obtain ⟨_,_,_,_,v,hz,hv,hl⟩:=h4
  refine ⟨v,hz,fun e=> ?_⟩
  have:v.cells.toList=[v]:=by cases v<;>simp_all [Value.cells,Value.oneCell']
  rw [this];exact j7 hl
theorem AR {o:Oper} (hs: ∀cs b,o.op≠ .select cs b) (a:Act): ∀(pd:List (Nat×Nat)),(∀p∈pd,∀d,sw ops p.1=some d→d∉o.looksAt ops)→
 execOp (rG ops pd a).eval o=execOp a.eval o∧Region.wanted o (yielded ops (rG ops pd a).tmps)=Region.wanted o (yielded ops a.tmps)
 |[],_=>⟨rfl,rfl⟩
 |p::r,h=>by
  obtain ⟨h1,h2⟩:=AR hs a r (fun q hq=>h q (by simp [hq]))
  have hp:=h p (by simp)
  exact ⟨(execOp_put o hs _ _ _ hp).trans h1,(wanted_put o _ _ _ hp).trans h2⟩
theorem yF (a:Act) (y:Option Nat) (v:Value): ∀(pd:List (Nat×Nat)),(∀p∈pd,∀d,sw ops p.1=some d→y≠some d)→(rG ops pd a).put y v=rG ops pd (a.put y v)
 |[],_=>rfl
 |p::r,h=>by
  simp only [rG]
  rw [Act.put_comm _ _ _ (fun d hd=>h p (by simp) d hd),yF a y v r (fun q hq=>h q (by simp [hq]))]
theorem Ue {j:Nat} {oj:Oper} {x:Option Nat} {v:Value} (hj:ops[j]? =some oj) (h1: ∀d,x=some d→d∉oj.looksAt ops) (h2: ∀d,x=some d→oj.dst≠some d)
 (YY: ∀cs b,oj.op≠ .select cs b) {K:Act→World→Prop} {a:Act} {w:World} (h:wpOp P ops (o9 N) j K a w):
 wpOp P ops (o9 N) j (fun a' w'=> ∃a'',a'=a''.put x v∧K a'' w') (a.put x v) w:=by
 unfold wpOp at *
 simp only [hj] at *
 rw [wanted_put oj a x v h1]
 split
 ·rename_i hw
  simp only [hw,if_true] at h
  rcases h with h|⟨aaw,Q3⟩
  case inr=>obtain ⟨_,_,hf⟩:=Q3;exact hf.elim
  refine .inl ?_
  unfold Oper.wp at *
  rw [execOp_put oj YY a x v h1]
  generalize (execOp a.eval oj).run P w=r at *
  cases r with
  |ok n w'=>
   cases n<;>simp only [Oper.upon] at h⊢
   case value u=>exact ⟨_,Act.put_comm a v u h2,h⟩
   case skip=>exact ⟨_,Act.put_comm a v undef h2,h⟩
   case defer d=>
    refine ⟨{a.put oj.dst undef with defers:=d::(a.put oj.dst undef).defers},?_,by simpa [Act.put_defers] using h⟩
    have:=Act.put_comm a v undef h2
    cases x<;>cases hd:oj.dst<;>simp_all [Act.put]
   case enter f args=>
    refine Calls.mono h fun y vW he=> ?_
    cases y with
    |returned u=>exact ⟨_,Act.put_comm a v u h2,he⟩
    |panicked c=>exact he
    |outgrown=>exact he
   case row row args=>exact Rows.mono h fun u vW he=>⟨_,Act.put_comm a v u h2,he⟩
  |halt y w'=>
   cases y<;>simp only [Oper.upon] at h⊢
   case panic u=>exact h
 ·rename_i hw
  simp only [hw] at h
  exact ⟨_,Act.put_comm a v undef h2,h⟩
theorem Mo {j:Nat} {oj:Oper} (hj:ops[j]? =some oj) (YY: ∀cs b,oj.op≠ .select cs b) {K:Act→World→Prop} {a:Act} {w:World} (h:wpOp P ops (o9 N) j K a w): ∀(pd:List (Nat×Nat)),
 (∀p∈pd,∀d,sw ops p.1=some d→d∉oj.looksAt ops∧oj.dst≠some d)→wpOp P ops (o9 N) j (fun a' w'=> ∃a'',a'=rG ops pd a''∧K a'' w') (rG ops pd a) w
 |[],_=>wpOp_mono (fun a' w' hk=>⟨a',rfl,hk⟩) h
 |p::r,hp=>by
  have h1:=Mo hj YY h r (fun q hq=>hp q (by simp [hq]))
  have h2:=Ue (v:=Uc p.2) hj (fun d hd=>(hp p (by simp) d hd).1) (fun d hd=>(hp p (by simp) d hd).2) YY h1
  refine wpOp_mono ?_ h2
  rintro a' w' ⟨a1,rfl,a2,rfl,hk⟩
  exact ⟨a2,rfl,hk⟩
theorem zS: ∀{l m:List Nat},l.Nodup→(∀x∈l,x∈m)→l.length≤m.length
 |[],m,_,_=>Nat.zero_le _
 |x::l,m,hn,hs=>by
  have hn:=List.nodup_cons.1 hn
  have h1:l.length≤(m.erase x).length:=zS hn.2 fun y hy=>(List.mem_erase_of_ne (fun he=>hn.1 (by rw [←he];exact hy))).2 (hs y (by simp [hy]))
  have h2:=List.length_erase_of_mem (hs x (by simp))
  have h3:0<m.length:=List.length_pos_of_mem (hs x (by simp))
  simp only [List.length_cons];omega
theorem IP {x b:Nat} {o:Oper} (hdo:sw ops x=o.dst) (a:Act) (pr:List (Nat×Nat)): ∀(pl:List (Nat×Nat)),(∀p∈pl++pr,∀dd,sw ops p.1=some dd→o.dst≠some dd)→rG ops (pl++(x,b)::pr) a=rG ops (pl++pr) (a.put o.dst (Uc b))
 |[],h=>by
  simp only [List.nil_append,rG,hdo]
  exact yF a o.dst (Uc b) pr (fun p hp=>h p (by simp [hp]))
 |q::pl,h=>by
  simp only [List.cons_append,rG]
  rw [IP hdo a pr pl (fun p hp=>h p (by simp only [List.cons_append,List.mem_cons];exact .inr hp))]
theorem Q6.congr {listed:Array Bool} {l l':List Nat} (h:Q6 ops listed l) (he: ∀i,i∈l↔i∈l'):Q6 ops listed l':=⟨h.size,fun i hi=>by rw [h.mem i hi,he]⟩
theorem IQ {o:Oper}: ∀(rest D:List Nat),pD c ops.toList o D rest=true→ ∀y∈rest,∀p,ops[y]? =some p→H4 p=true→o.apart ops p=true:=by
 intro rest
 induction rest with
 |nil=>intro D _ y hy;cases hy
 |cons z rest ih=>
  intro D h y hy p hp Bl
  simp only [pD] at h
  cases hz:ops.toList[z]? with
  |none=>simp [hz] at h
  |some q=>
   simp only [hz] at h
   cases he:xy q (bp D) with
   |true=>
    simp only [he,cond_true] at h
    rcases List.mem_cons.1 hy with rfl|hy
    ·exfalso
     have YQ:ops[y]? =some q:=by simpa using hz
     rw [YQ] at hp;cases hp
     obtain ⟨_,_,_,_,_,cG⟩:=wj Bl
     unfold xy at he
     obtain ⟨ed,Ub,hb⟩:=List.any_eq_true.1 he
     simp only [Bool.and_eq_true,sv] at hb
     rw [cG ed (by simpa using Ub)] at hb
     exact absurd hb.1 (by simp)
    ·exact ih _ h y hy p hp Bl
   |false=>
    simp only [he,cond_false,Bool.and_eq_true] at h
    rcases List.mem_cons.1 hy with rfl|hy
    ·have YQ:ops[y]? =some q:=by simpa using hz
     rw [YQ] at hp;cases hp
     exact wi h.1.1
    ·exact ih _ h.2 y hy p hp Bl
theorem CJ {o p:Oper} {y:Nat} (hp:ops[y]? =some p) (h:p.apart ops o=true∨o.apart ops p=true): ∀d,sw ops y=some d→d∉o.looksAt ops∧o.dst≠some d:=by
 intro d hd
 have hd:p.dst=some d:=by simpa [sw,hp] using hd
 rcases h with h|h
 ·obtain ⟨h1,h2,h3⟩:=Oper.apart_spec h
  exact ⟨h1 d hd,h2 d hd⟩
 ·obtain ⟨h1,h2,h3⟩:=Oper.apart_spec h
  exact ⟨h3 d hd,fun he=>h2 d he hd⟩
theorem Ud.later {Z:bw} {bs:List Nat} {e e':Env} {w w':World} {p:Nat×Nat} (h:Ud c Z ops e w p) (hb:p.2∈bs) (t:Trans (Z.outs bs).In e.φ w e'.φ w'):Ud c Z ops e' w' p:=by
 obtain ⟨o,ty,I,d,arr,T,h1,h2,h3,h4,h5,h6,h7⟩:=h.row
 have hn: ¬(Z.outs bs).In p.2:=fun hh=>hh.2 hb
 exact ⟨⟨o,ty,I,d,arr,T,h1,h2,h3,h4,h5,by rw [t.heap _ hn (bm h6)];exact h6,h7⟩,fun off=>by rw [t.free _ off hn];exact h.free off,h.b3⟩
theorem Trans.wide {Z Z':Nat→Prop} {φ φ':Ph} {w w':World} (t:Trans Z φ w φ' w') (h: ∀b,Z b→Z' b):Trans Z' φ w φ' w':=
 ⟨t.ph,fun b hb hl=>t.heap b (fun hz=>hb (h b hz)) hl,fun b o hb=>t.free b o (fun hz=>hb (h b hz)),t.size,t.rest⟩
theorem Uf (hG:Good P c) (IM: ∀(j:Nat) (o:Oper) cs b,ops[j]? =some o→o.op≠ .select cs b) {φ0:Ph} {w0:World} (hN: ∀a' w',Out c Z K r φ0 w0 a' w'→N a' w'):
 ∀(m:Nat) (rest pre:List Nat) (pd:List (Nat×Nat)) (l:List Oper) (listed:Array Bool) (e:Env) (st:St) (a:Act) (w:World),2 *rest.length-pd.length≤m→bK c (Z.outs (pd.map (·.2))) e st a w→s9 c ops.toList l st K=some r→Trans Z.In φ0 w0 e.φ w→kC ops.toList rest=some l→
  r7 c ops.toList pre rest=true→Q6 ops listed (pd.map (·.1)++pre)→(∀i,i<ops.size→i∈pre∨i∈rest)→(∀i∈pre,i<ops.size)→(∀p∈pd,p.1∈rest)→(pd.map (·.1)).Nodup→(pd.map (·.2)).Nodup→(∀p∈pd,Ud c Z ops e w p)→
  pd.length≤rest.length→EC P c ops N e.φ (rest.length-pd.length) listed (rG ops pd a) w:=by
 intro m
 induction m with
 |zero=>
  intro rest pre pd l listed e st a w hm h hK ht hp hd hL rC Q7 Cf GF B9 Pd hle
  cases rest with
  |cons x rest=>simp only [List.length_cons] at hm hle;omega
  |nil=>
   cases pd with
   |cons p pd=>simp at hle
   |nil=>
    cases hp
    have h':bK c Z e st a w:=h.AQ (fun b hb=>hb.1) (fun b hb=>hb.1) rfl rfl rfl rfl
    refine ⟨?_,hN a w ⟨e,st,h',ht,hK⟩⟩
    cases hr:Region.ready .any ops listed with
    |nil=>rfl
    |cons i is=>
     have hi:i∈Region.ready .any ops listed:=by rw [hr];simp
     obtain ⟨h1,o,ho,_⟩:=mem_ready.1 hi
     have dx:i<ops.size:=(Array.getElem?_eq_some_iff.1 ho).1
     exact absurd (by simpa using (rC i dx).resolve_right (by simp)) ((hL.yE dx).1 h1)
 |succ m ihm=>
  intro rest pre pd l listed e st a w hm h hK ht hp hd hL rC Q7 Cf GF B9 Pd hle
  cases rest with
  |nil=>
   cases pd with
   |cons p pd=>simp at hle
   |nil=>exact ihm [] pre [] l listed e st a w (by simp) h hK ht hp hd hL rC Q7 Cf GF B9 Pd hle
  |cons x rest=>
   simp only [kC] at hp
   cases Y0:ops.toList[x]? with
   |none=>simp [Y0] at hp
   |some o=>
    cases S6:kC ops.toList rest with
    |none=>simp [Y0,S6] at hp
    |some l'=>
     simp only [Y0,S6,Option.some.injEq] at hp
     subst hp
     have hx:ops[x]? =some o:=by simpa using Y0
     have XE:x<ops.size:=(Array.getElem?_eq_some_iff.1 hx).1
     have hd0:=hd
     simp only [r7,Y0] at hd
     simp only [Bool.and_eq_true,Bool.not_eq_true'] at hd
     obtain ⟨⟨⟨⟨d1,d2⟩,d3⟩,d4⟩,d5⟩:=hd
     have V5:x∉pre:=by rw [←bq,d2];simp
     have aeH:x∉rest:=by rw [←bq,d3];simp
     have Mp: ∀i,i<ops.size→i∈x::pre∨i∈rest:=by
      intro i hi
      rcases rC i hi with h1|h1
      ·exact .inl (by simp [h1])
      ·rcases List.mem_cons.1 h1 with h1|h1
       ·exact .inl (by simp [h1])
       ·exact .inr h1
     have V6: ∀i∈x::pre,i<ops.size:=by
      intro i hi
      rcases List.mem_cons.1 hi with rfl|hi
      ·exact XE
      ·exact Q7 i hi
     have XF:=hK
     simp only [s9] at hK
     have Q8: ∀p∈pd,∃q,ops[p.1]? =some q∧H4 q=true:=fun p hp=>by
      obtain ⟨q,_,_,_,_,_,h1,h2,_⟩:=(Pd p hp).row
      exact ⟨q,h1,h2⟩
     unfold LR at hK
     obtain ⟨bN,go,h',hK,hw⟩:=IB h hK
     have V7: ∀cs b,o.op≠ .select cs b:=fun cs b=>IM x o cs b hx
     by_cases Y1:x∈pd.map (·.1)
     ·
      obtain ⟨⟨x',b⟩,hpx,hxe⟩:=List.mem_map.1 Y1
      have hxe:x'=x:=hxe
      subst hxe
      obtain ⟨o',t,I,d,arr,T,k1,k2,k3,k4,k5,k6,k7⟩:=(Pd _ hpx).row
      rw [hx] at k1;cases k1
      obtain ⟨_,_,_,_,hgn,cG⟩:=wj k2
      have hgo:go=true:=by
       rw [←hw];simp [Region.wanted,hgn]
      subst hgo
      have H8:(nm o&&!kW c o)=false:=by simp [nm,k3]
      simp only [H8,cond_false] at d4
      obtain ⟨pl,pr,rfl⟩:=List.append_of_mem hpx
      have hbn:b∉(pl++pr).map (·.2):=by
       have:((pl++(x',b)::pr).map (·.2)).Nodup:=B9
       simp only [List.map_append,List.map_cons,List.nodup_append,List.nodup_cons,List.mem_cons] at this
       simp only [List.map_append,List.mem_append,not_or]
       exact ⟨fun hm=>this.2.2 b hm b (by simp) rfl,this.2.1.1⟩
      have hxn:x'∉(pl++pr).map (·.1):=by
       have:((pl++(x',b)::pr).map (·.1)).Nodup:=GF
       simp only [List.map_append,List.map_cons,List.nodup_append,List.nodup_cons,List.mem_cons] at this
       simp only [List.map_append,List.mem_append,not_or]
       exact ⟨fun hm=>this.2.2 x' hm x' (by simp) rfl,this.2.1.1⟩
      have IR: ∀p∈pl++pr,p∈pl++(x',b)::pr:=fun p hp=>by
       simp only [List.mem_append,List.mem_cons] at hp⊢
       rcases hp with hp|hp
       ·exact .inl hp
       ·exact .inr (.inr hp)
      have ou:bK c (Z.outs ((pl++pr).map (·.2))) e bN a w:=by
       refine h'.AQ (fun u hu=>⟨hu.1,fun hm=>hu.2 ?_⟩) (fun u hu=>⟨hu.1,fun hm=>hu.2 ?_⟩) rfl rfl rfl rfl<;>
       ·obtain ⟨p,hp,rfl⟩:=List.mem_map.1 hm
        exact List.mem_map.2 ⟨p,IR p hp,rfl⟩
      have Ug:b∈(pl++(x',b)::pr).map (·.2):=by simp
      have jX:oq (Z.outs ((pl++pr).map (·.2))) e w bN (Uc b) (.box I.zero):=by
       refine ⟨b,by rw [tg (k7 e).ve];rfl,⟨⟨(Pd _ hpx).b3,hbn⟩,⟨_,k6,rfl,k7 e⟩,(Pd _ hpx).free⟩,fun t' eR xC zw=> ?_,fun f o' xA zw=> ?_⟩
       ·have hs:=h'.slot t'
        rw [xC] at hs
        rcases hs.2.b3 with ⟨_,u⟩|u
        ·exact u.2 (by rw [zw];exact Ug)
        ·exact u.2 (by rw [zw];exact Ug)
       ·obtain ⟨I',cells,g1,g2,g3,g4,g5⟩:=(h'.gY f o' xA).row
        rcases (g5 b zw).1 with ⟨_,u⟩|u
        ·exact u.2 Ug
        ·exact u.2 Ug
      simp only [cond_true,YJ,k3,k4] at hK
      obtain ⟨e2,dY,j1,j2,j3⟩:=dc ou jX hK
      have XG:rG ops (pl++(x',b)::pr) a=rG ops (pl++pr) (a.put o.dst (Uc b)):=by
       have se: ∀p∈pl++pr,∀dd,sw ops p.1=some dd→o.dst≠some dd:=by
        intro p hp dd hdd
        obtain ⟨q,hq,Bl⟩:=Q8 p (IR p hp)
        have KR:p.1∈rest:=by
         rcases List.mem_cons.1 (Cf p (IR p hp)) with he|he
         ·exact absurd (List.mem_map.2 ⟨p,hp,he⟩) hxn
         ·exact he
        have:=List.all_eq_true.1 d4 p.1 KR
        have hq':ops.toList[p.1]? =some q:=by simpa using hq
        simp only [hq',Bl,cond_true,Bool.and_eq_true] at this
        exact (CJ hq (.inl (wi this.1)) dd hdd).2
       exact IP (by simp [sw,hx]) a pr pl se
      rw [XG,←j3]
      have hlen:(x'::rest).length-(pl++(x',b)::pr).length=rest.length-(pl++pr).length:=by simp only [List.length_cons,List.length_append];omega
      rw [hlen]
      refine ihm rest (x'::pre) (pl++pr) l' listed e2 dY _ w ?_ j1 j2 (by rw [j3];exact ht) S6 d5 ?_ Mp V6 ?_ ?_ ?_ ?_ ?_
      ·simp only [List.length_cons,List.length_append] at hm⊢;omega
      ·refine hL.congr (fun i=> ?_)
       simp only [List.map_append,List.map_cons,List.mem_append,List.mem_cons]
       constructor
       ·rintro ((h1|h1|h1)|h1)
        ·exact .inl (.inl h1)
        ·exact .inr (.inl h1)
        ·exact .inl (.inr h1)
        ·exact .inr (.inr h1)
       ·rintro ((h1|h1)|h1|h1)
        ·exact .inl (.inl h1)
        ·exact .inl (.inr (.inr h1))
        ·exact .inl (.inr (.inl h1))
        ·exact .inr h1
      ·intro p hp
       rcases List.mem_cons.1 (Cf p (IR p hp)) with he|he
       ·exact absurd (List.mem_map.2 ⟨p,hp,he⟩) hxn
       ·exact he
      ·have:((pl++(x',b)::pr).map (·.1)).Nodup:=GF
       refine List.Nodup.sublist ?_ this
       exact List.Sublist.map _ (List.Sublist.append_left (List.sublist_cons_self _ _) pl)
      ·have:((pl++(x',b)::pr).map (·.2)).Nodup:=B9
       refine List.Nodup.sublist ?_ this
       exact List.Sublist.map _ (List.Sublist.append_left (List.sublist_cons_self _ _) pl)
      ·intro p hp
       obtain ⟨q1,q2,q3⟩:=Pd p (IR p hp)
       exact ⟨q1,fun off=>by rw [j3];exact q2 off,q3⟩
      ·simp only [List.length_cons,List.length_append] at hle⊢;omega
     ·have KR: ∀p∈pd,p.1∈rest:=fun p hp=>by
       rcases List.mem_cons.1 (Cf p hp) with he|he
       ·exact absurd (List.mem_map.2 ⟨p,hp,he⟩) Y1
       ·exact he
      have ZK:pd.length≤rest.length:=by
       have h1:(pd.map (·.1)).length≤rest.length:=zS GF (fun i hi=>by obtain ⟨p,hp,rfl⟩:=List.mem_map.1 hi;exact KR p hp)
       simpa using h1
      have aaA:(x::rest).length-pd.length=(rest.length-pd.length)+1:=by simp only [List.length_cons];omega
      rw [aaA]
      have Xq:x∉pd.map (·.1)++pre:=by simp only [List.mem_append,not_or];exact ⟨Y1,V5⟩
      have G4:x∈Region.ready .any ops listed:=by
       refine mem_ready.2 ⟨(hL.yE XE).2 Xq,o,hx,fun ed Ub hb=> ?_⟩
       have:=List.all_eq_true.1 d1 ed (by simpa using Ub)
       simp only [sv,hb,Bool.not_true,Bool.false_or] at this
       have hm:=(bq _ _).1 this
       exact (hL.done (Q7 _ hm)).2 (by simp [hm])
      have next: ∀(e':Env) (dY:St) (a':Act) (w':World),bK c (Z.outs (pd.map (·.2))) e' dY a' w'→Trans (Z.outs (pd.map (·.2))).In e.φ w e'.φ w'→s9 c ops.toList l' dY K=some r→EC P c ops N e.φ (rest.length-pd.length) (listed.setIfInBounds x true) (rG ops pd a') w':=by
       intro e' dY a' w' h1 t1 ot
       refine NW t1.ph _ _ _ _ ?_
       refine ihm rest (x::pre) pd l' _ e' dY a' w' ?_ h1 ot (ht.trans (t1.wide fun b hb=>hb.1)) S6 d5 ((hL.set XE).congr fun i=> ?_) Mp V6 KR GF B9 (fun p hp=>(Pd p hp).later (List.mem_map.2 ⟨p,hp,rfl⟩) t1) ZK
       ·simp only [List.length_cons] at hm;omega
       ·simp only [List.mem_cons,List.mem_append]
        constructor
        ·rintro (h1|h1|h1)
         ·exact .inr (.inl h1)
         ·exact .inl h1
         ·exact .inr (.inr h1)
        ·rintro (h1|h1|h1)
         ·exact .inr (.inl h1)
         ·exact .inl h1
         ·exact .inr (.inr h1)
      cases H8:nm o&&!kW c o with
      |true=>
       simp only [H8,cond_true] at d4
       have se: ∀p∈pd,∀dd,sw ops p.1=some dd→dd∉o.looksAt ops∧o.dst≠some dd:=by
        intro p hp
        obtain ⟨q,hq,Bl⟩:=Q8 p hp
        exact CJ hq (.inr (IQ rest [x] d4 p.1 (KR p hp) q hq Bl))
       obtain ⟨hex,XD⟩:=AR V7 a pd (fun p hp d hd=>(se p hp d hd).1)
       obtain ⟨D,D1,D2,D3,D4⟩:=ED rest [x] d4 (fun y hy cG=>absurd (by simpa using hy) cG)
       have oX: ∀j oj,ops[j]? =some oj→j∉D→j≠x→listed.getD j true=false→o.apart ops oj=true∧(kA c o=true→still c o=false→tz c o ops j=true):=by
        intro j oj V4 hjD hjx T9
        have aaB:j<ops.size:=(Array.getElem?_eq_some_iff.1 V4).1
        have hjr:j∈rest:=by
         rcases Mp j aaB with h1|h1
         ·rcases List.mem_cons.1 h1 with h1|h1
          ·exact absurd h1 hjx
          ·exact absurd (by simp [h1]) ((hL.yE aaB).1 T9)
         ·exact h1
        obtain ⟨p,PY,Fb,hp3⟩:=D4 j hjr hjD
        rw [V4] at PY
        cases PY
        exact ⟨Fb,fun hl hs=>by simp [tz,V4,hp3 hl hs]⟩
       have Bm: ∀d∈D,listed.getD d false=false:=by
        have aeJ: ∀p∈pd,p.1∉D:=by
         intro p hp hpD
         obtain ⟨q,hq,Bl⟩:=Q8 p hp
         obtain ⟨ed,Ub,hb,_⟩:=D3 p.1 q hpD (fun he=>Y1 (List.mem_map.2 ⟨p,hp,he⟩)) hq
         obtain ⟨_,_,_,_,_,cG⟩:=wj Bl
         rw [cG ed Ub] at hb;cases hb
        intro d hd
        have Zm:d∉pd.map (·.1)++pre:=by
         simp only [List.mem_append,not_or]
         constructor
         ·intro hm
          obtain ⟨p,hp,rfl⟩:=List.mem_map.1 hm
          exact aeJ p hp hd
         ·rcases D2 d hd with h1|h1
          ·have h1:d=x:=by simpa using h1
           rw [h1];exact V5
          ·exact fun hp=>vn rest (x::pre) d5 d h1 (by simp [hp])
        by_cases Mj:d<ops.size
        ·cases hg:listed.getD d false with
         |false=>rfl
         |true=>exact absurd ((hL.done Mj).1 hg) Zm
        ·have hl: ¬d<listed.size:=by rw [hL.size];exact Mj
         simp [hl]
       cases go with
       |true=>
        simp only [cond_true] at hK
        obtain ⟨v,hv,e2,dY,k1,k2,k3⟩:=(KH (Q:=o9 N) hG h' hK).aek (by simp only [Bool.and_eq_true] at H8;exact H8.1) (by simp only [Bool.and_eq_true,Bool.not_eq_true'] at H8;exact H8.2)
        refine CI D3 hx IM (rest.length-pd.length) listed _ w oX Bm G4 (.inl ⟨by rw [XD];exact hw,fun w' hg=>by rw [hex];exact hv w' hg⟩) h.mZ ?_
        rw [yF a o.dst v pd (fun p hp d hd=>(se p hp d hd).2)]
        exact next e2 dY _ w k1 k2 k3
       |false=>
        simp only [cond_false] at hK
        obtain ⟨e2,dY,k1,k2,k3⟩:=dc (v:=undef) (s:= .skip) h' ⟨rfl,trivial⟩ hK
        refine CI D3 hx IM (rest.length-pd.length) listed _ w oX Bm G4 (.inr ⟨by rw [XD];exact hw,rfl⟩) h.mZ ?_
        rw [yF a o.dst undef pd (fun p hp d hd=>(se p hp d hd).2)]
        exact next e2 dY _ w k1 (by rw [k3];exact .refl _ _ _) k2
      |false=>
       simp only [H8,cond_false] at d4
       have se: ∀p∈pd,∀dd,sw ops p.1=some dd→dd∉o.looksAt ops∧o.dst≠some dd:=by
        intro p hp
        obtain ⟨q,hq,Bl⟩:=Q8 p hp
        have:=List.all_eq_true.1 d4 p.1 (KR p hp)
        have hq':ops.toList[p.1]? =some q:=by simpa using hq
        simp only [hq',Bl,cond_true,Bool.and_eq_true] at this
        exact CJ hq (.inl (wi this.1))
       refine ⟨fun Xz=>(by rw [Xz] at G4;cases G4),fun i hi=> ?_⟩
       obtain ⟨aeK,oi,Uh,XH⟩:=mem_ready.1 hi
       have XI:i<ops.size:=(Array.getElem?_eq_some_iff.1 Uh).1
       have sf:=(hL.yE XI).1 aeK
       simp only [List.mem_append,not_or] at sf
       by_cases Pk:i=x
       ·subst Pk
        rw [hx] at Uh;cases Uh
        have ou:wpOp P ops (o9 N) i (fun a' w'=>(∀oi,tz c oi ops i=true→eo c oi w w')∧ ∃e2 dY,bK c (Z.outs (pd.map (·.2))) e2 dY a' w'∧Trans (Z.outs (pd.map (·.2))).In e.φ w e2.φ w'∧s9 c ops.toList l' dY K=some r) a w:=by
         unfold wpOp
         simp only [hx]
         rw [hw]
         cases go with
         |true=>
          simp only [cond_true] at hK
          simp only [if_true]
          left
          have hd:=KH (Q:=o9 N) hG h' hK
          cases YZ:PD c o with
          |true=>
           simp only [PD,Bool.or_eq_true] at YZ
           refine Oper.wp_mono ?_ (hd.ael YZ)
           rintro a' w' ⟨hg,e2,dY,k1,k2,k3⟩
           exact ⟨fun _ _=>hg.for,e2,dY,k1,k2,k3⟩
          |false=>
           by_cases S0: ∃oi,w9 oi o=true
           ·obtain ⟨oi0,S0⟩:=S0
            refine Oper.wp_mono ?_ (Z4 (Q:=o9 N) hG h' hK S0)
            rintro a' w' ⟨hg,e2,dY,k1,k2,k3⟩
            refine ⟨fun oi hh=> ?_,e2,dY,k1,k2,k3⟩
            have Uh:w9 oi o=true:=by simpa [tz,hx,YZ] using hh
            exact KQ S0 Uh hg
           ·refine Oper.wp_mono ?_ hd.wp
            rintro a' w' ⟨e2,dY,k1,k2,k3⟩
            exact ⟨fun oi hh=>absurd ⟨oi,by simpa [tz,hx,YZ] using hh⟩ S0,e2,dY,k1,k2,k3⟩
         |false=>
          simp only [cond_false] at hK
          simp only [Bool.false_eq_true,if_false]
          obtain ⟨e2,dY,k1,k2,k3⟩:=dc (v:=undef) (s:= .skip) h' ⟨rfl,trivial⟩ hK
          exact ⟨fun _ _=>(cZ.refl w).for,e2,dY,k1,by rw [k3];exact .refl _ _ _,k2⟩
        refine wpOp_mono ?_ (Mo hx V7 ou pd se)
        rintro a' w' ⟨a2,rfl,hg,e2,dY,k1,k2,k3⟩
        exact ⟨⟨hg,fun b o v hv=>k1.mZ b o v (k2.ph b o v hv)⟩,next e2 dY a2 w' k1 k2 k3⟩
       ·have hir:i∈rest:=by
         rcases Mp i XI with h1|h1
         ·rcases List.mem_cons.1 h1 with h1|h1
          ·exact absurd h1 Pk
          ·exact absurd h1 sf.2
         ·exact h1
        have KS:=List.all_eq_true.1 d4 i hir
        have aeM:ops.toList[i]? =some oi:=by simpa using Uh
        simp only [aeM] at KS
        cases Bl:H4 oi with
        |false=>
         exfalso
         simp only [Bl,cond_false] at KS
         unfold xy at KS
         obtain ⟨ed,Ub,hb⟩:=List.any_eq_true.1 KS
         simp only [Bool.and_eq_true,sv,Bool.or_eq_true,Bool.not_eq_true'] at hb
         obtain ⟨vi,ui⟩:=hb
         have Q9:=XH ed (by simpa using Ub) vi
         have BL:ed.on∉pd.map (·.1)++pre:=by
          rcases ui with ui|⟨ui,hb3⟩
          ·rw [Nat.eq_of_beq_eq_true ui];exact Xq
          ·simp only [List.mem_append,not_or]
           refine ⟨fun hm=> ?_,fun hp=>vn rest (x::pre) d5 _ ((bq _ _).1 ui) (by simp [hp])⟩
           obtain ⟨p,hp,he⟩:=List.mem_map.1 hm
           obtain ⟨q,hq,hqa⟩:=Q8 p hp
           have hq':ops.toList[ed.on]? =some q:=by rw [←he];simpa using hq
           simp [Zg,hq',hqa] at hb3
         by_cases rB:ed.on<ops.size
         ·exact BL ((hL.done rB).1 Q9)
         ·have:listed.getD ed.on false=false:=by
           have hl: ¬ed.on<listed.size:=by rw [hL.size];exact rB
           simp [hl]
          rw [this] at Q9;cases Q9
        |true=>
         obtain ⟨t,d,q1,q2,q3,q4⟩:=wj Bl
         have hI: ∃I,c.tv t=some I:=by
          simp only [Bl,cond_true,Bool.and_eq_true,Zf,q1] at KS
          cases htv:c.tv t with
          |none=>rw [htv] at KS;exact absurd KS.2 (by simp)
          |some I=>exact ⟨I,rfl⟩
         obtain ⟨I,hI⟩:=hI
         obtain ⟨inf,z,hz1,PQ,hz3⟩:=xL hI hG.ti
         have hg:cZ w (w.alloc (.cells z.cells t)):= .alloc w _ _
         unfold wpOp
         simp only [Uh]
         have XD:Region.wanted oi (yielded ops (rG ops pd a).tmps)=true:=by simp [Region.wanted,q3]
         simp only [XD,if_true]
         left
         have bH:(execOp (rG ops pd a).eval oi).run P w= .ok (.value (Uc w.heap.size)) (w.alloc (.cells z.cells t)):=by
          simp [execOp,q1,Instr.alloc,zeroValue,typeInfo,hz1,PQ,newVar,newRow,newObj,Sem.run,Uc]
         unfold Oper.wp
         rw [bH]
         simp only [Oper.upon]
         refine ⟨⟨fun _ _=>hg.for,(h.grow hg).mZ⟩,?_⟩
         have pI:w.heap.size<(w.alloc (.cells z.cells t)).heap.size:=by simp
         have aeN: ∀p∈pd,p.2<w.heap.size:=fun p hp=>by
          obtain ⟨_,_,_,_,_,_,_,_,_,_,_,k6,_⟩:=(Pd p hp).row
          exact bm k6
         have XG:(rG ops pd a).put oi.dst (Uc w.heap.size)=rG ops ((i,w.heap.size)::pd) a:=by simp [rG,sw,Uh]
         rw [XG]
         have dx:pd.length<rest.length:=by
          have h1:(i::pd.map (·.1)).length≤rest.length:=by
           refine zS (List.nodup_cons.2 ⟨sf.1,GF⟩) ?_
           intro j hj
           rcases List.mem_cons.1 hj with rfl|hj
           ·exact hir
           ·obtain ⟨p,hp,rfl⟩:=List.mem_map.1 hj;exact KR p hp
          simp only [List.length_cons,List.length_map] at h1;omega
         have xe:rest.length-pd.length=(x::rest).length-((i,w.heap.size)::pd).length:=by simp only [List.length_cons];omega
         rw [xe]
         refine ihm (x::rest) pre ((i,w.heap.size)::pd) (o::l') _ e st a _ ?_ (h.narrow hg pI) ?_ (ht.trans (hg.trans (fun b hb=>(h.b3 b hb).1) _)) ?_ hd0 ?_ rC Q7 ?_ ?_ ?_ ?_ ?_
         ·simp only [List.length_cons] at hm⊢;omega
         ·exact XF
         ·simp [kC,Y0,S6]
         ·refine (hL.set XI).congr (fun j=> ?_)
          simp
         ·intro p hp
          rcases List.mem_cons.1 hp with rfl|hp
          ·exact List.mem_cons_of_mem _ hir
          ·exact Cf p hp
         ·exact List.nodup_cons.2 ⟨sf.1,GF⟩
         ·refine List.nodup_cons.2 ⟨fun hm=> ?_,B9⟩
          obtain ⟨p,hp,he⟩:=List.mem_map.1 hm
          have:=aeN p hp
          have he:p.2=w.heap.size:=he
          omega
         ·intro p hp
          rcases List.mem_cons.1 hp with rfl|hp
          ·refine ⟨⟨oi,t,I,d,z.cells,t,Uh,Bl,q1,hI,q2,jF w _,hz3⟩,fun off=> ?_,(h.b3 _ (Nat.le_refl _)).1⟩
           cases hp:e.φ w.heap.size off with
           |none=>rfl
           |some v=>
            have:=World.block_lt_of_cell? w _ (h.mZ _ _ _ hp)
            simp at this
          ·obtain ⟨⟨o1,t1,I1,d1,aeO,T1,k1,k2,k3,k4,k5,k6,k7⟩,q5,q6⟩:=Pd p hp
           exact ⟨⟨o1,t1,I1,d1,aeO,T1,k1,k2,k3,k4,k5,by rw [hg.zv _ (bm k6)];exact k6,k7⟩,q5,q6⟩
         ·simp only [List.length_cons];omega
theorem CK (hG:Good P c) {ops:Array Oper} {l:List Oper} {ord:List Nat} (hd:pE c ops ord=true) (hp:kC ops.toList ord=some l) {Z:bw} {e:Env} {st:St} {a:Act} {w:World} {R:Type} {K:St→Option R} {r:R} (h:bK c Z e st a w) (hK:s9 c ops.toList l st K=some r):
 wpAny P .any ops (o9 fun a' w'=>Out c Z K r e.φ w a' w') ops.size (Array.replicate ops.size false) a {w with drawn:=w.drawn+1}:=by
 simp only [pE,Bool.and_eq_true] at hd
 obtain ⟨⟨⟨TQ,Zz⟩,rC⟩,hd⟩:=hd
 have IM: ∀(j:Nat) (o:Oper) cs b,ops[j]? =some o→o.op≠ .select cs b:=by
  intro j o cs b ho he
  have:=List.all_eq_true.1 TQ o (List.mem_of_getElem? (by simpa using ho:ops.toList[j]? =some o))
  simp [he] at this
 have V8:cZ w {w with drawn:=w.drawn+1}:=⟨Nat.le_refl _,fun _ _=>rfl,rfl,rfl,rfl,fun _=>rfl⟩
 ·refine Q2 (c:=c) (φ:=e.φ) _ _ _ _ ?_
  have hlen:ord.length=ops.size:=by have:=Nat.eq_of_beq_eq_true Zz;simpa using this
  rw [←hlen]
  have h0:bK c (Z.outs []) e st a {w with drawn:=w.drawn+1}:=(h.grow V8).AQ (fun b hb=>⟨hb,by simp⟩) (fun b hb=>⟨hb,by simp⟩) rfl rfl rfl rfl
  refine Uf hG IM (fun a' w' h=>h) (2 *ord.length) ord [] [] l _ e st a _ (by simp) h0 hK (V8.trans h.b3 e.φ) hp hd ⟨by simp [hlen],fun i hi=> ?_⟩ (fun i hi=> .inr ((bq _ _).1 (List.all_eq_true.1 rC i (by simpa using hi)))) (by simp) (by simp) (by simp) (by simp) (by simp) (by simp)
  simp [hlen,hi]
end
end Dn
/-
  What is asked of slices.DeleteFunc, and of the function that it is handed. Conditions: none.
-/
set_option linter.unusedSimpArgs false
set_option linter.unusedVariables false
namespace Dn
open Go
theorem AU {S:Type} {step:S→MV→Option (Bool×S)}: ∀{xs zs:List MV} {s:S},lj step s (xs++zs)=(match lj step s xs with|some (ys,s1)=>(match lj step s1 zs with|some (us,s2)=>some (ys++us,s2)|none=>none)|none=>none):=by
 intro xs
 induction xs with
 |nil=>intro zs s;simp only [List.nil_append,lj];cases lj step s zs<;>rfl
 |cons x xs ih=>
  intro zs s
  simp only [List.cons_append,lj]
  cases step s x with
  |none=>rfl
  |some p=>
   obtain ⟨b,s1⟩:=p
   simp only [ih]
   cases lj step s1 xs with
   |none=>rfl
   |some q=>
    obtain ⟨ys,s2⟩:=q
    dsimp only
    cases lj step s2 zs with
    |none=>rfl
    |some q2=>cases b<;>rfl
theorem Mq {S:Type} {step:S→MV→Option (Bool×S)} {xs:List MV} {s s':S} {ys:List MV} (h:lj step s xs=some (ys,s')) {k:Nat} (hk:k<xs.length):
 ∃yk sk b Ui,lj step s (xs.take k)=some (yk,sk)∧step sk xs[k]=some (b,Ui)∧lj step s (xs.take (k+1))=some (bif b then yk else yk++[xs[k]],Ui):=by
 have e:xs=xs.take k++xs[k]::xs.drop (k+1):=by simp
 rw [e,AU] at h
 cases h1:lj step s (xs.take k) with
 |none=>simp [h1] at h
 |some p=>
  obtain ⟨yk,sk⟩:=p
  simp only [h1,lj] at h
  cases h2:step sk xs[k] with
  |none=>simp [h2] at h
  |some q=>
   obtain ⟨b,Ui⟩:=q
   refine ⟨yk,sk,b,Ui,rfl,h2,?_⟩
   have e2:xs.take (k+1)=xs.take k++[xs[k]]:=by rw [List.take_add_one,List.getElem?_eq_getElem hk];rfl
   rw [e2,AU,h1]
   simp only [lj,h2]
   cases b<;>simp
theorem Ra {S:Type} {step:S→MV→Option (Bool×S)}: ∀{xs:List MV} {s s':S} {ys:List MV},lj step s xs=some (ys,s')→ys.length≤xs.length:=by
 intro xs
 induction xs with
 |nil=>intro s s' ys h;simp [lj] at h;simp [h.1]
 |cons x xs ih=>
  intro s s' ys h
  simp only [lj] at h
  cases h1:step s x with
  |none=>simp [h1] at h
  |some p=>
   obtain ⟨b,s1⟩:=p
   simp only [h1] at h
   cases h2:lj step s1 xs with
   |none=>simp [h2] at h
   |some q=>
    obtain ⟨zs,s2⟩:=q
    simp only [h2,Option.some.injEq,Prod.mk.injEq] at h
    have:=ih h2
    rw [←h.1]
    cases b<;>simp<;>omega
structure tA (P:Program) (c:Ctx) (g:Nat) (lb:Array Value) {S:Type} (Inv:S→(Nat→Prop)→Ph→World→Prop) (step:S→MV→Option (Bool×S)):Prop where
 call: ∀{s Z φ W v x b s'},Inv s Z φ W→(∀b,W.heap.size≤b→Z b)→xI φ W→eB c.key φ v x→step s x=some (b,s')→
  eU P g (#[v]++lb) W fun r W'=>r= .bool b∧ ∃φ',Trans Z φ W φ' W'∧xI φ' W'∧Inv s' Z φ' W'
 frame: ∀{s Z φ W W'},Inv s Z φ W→W.heap.size≤W'.heap.size→(∀b,Z b→b<W.heap.size→W'.heap[b]? =W.heap[b]?)→Inv s (fun b=>Z b∧b<W.heap.size) φ W'
 mono: ∀{s Z Z' φ W},Inv s Z φ W→(∀b,Z b→Z' b)→Inv s Z' φ W
structure wM (c:Ctx) (ob:Option Nat) {S:Type} (Inv:S→(Nat→Prop)→Ph→World→Prop) (Z0:Nat→Prop) (φ0:Ph) (w0:World) (s:S) (Z:Nat→Prop) (φ:Ph) (W:World):Prop where
 inv:Inv s Z φ W
 new: ∀b,W.heap.size≤b→Z b
 sub: ∀b,Z b→Z0 b∨w0.heap.size≤b
 mZ:xI φ W
 tr:Trans (fun b=>(Z0 b∨w0.heap.size≤b)∨ob=some b) φ0 w0 φ W
 free: ∀b off,ob=some b→φ b off=none
structure G5 (P:Program) (c:Ctx) (h el:Nat):Prop where
 run: ∀{S:Type} {Inv:S→(Nat→Prop)→Ph→World→Prop} {step:S→MV→Option (Bool×S)} {g:Nat} {lb:Array Value},tA P c g lb Inv step→
  ∀{v0:Value} {xs ys:List MV} {w:World} {Z0:Nat→Prop} {φ0:Ph} {s0 s':S},(∀x∈xs,∃ms,x= .agg ms)→cF c (bw.plain fun b=>v0.ownBlock=some b) (nv c.key φ0) w v0 ⟨el,false,xs⟩→(∀b,v0.ownBlock=some b→ ¬Z0 b)→
  Inv s0 Z0 φ0 w→(∀b,w.heap.size≤b→Z0 b)→xI φ0 w→lj step s0 xs=some (ys,s')→
  eU P h #[v0,.func (.func g) #[] lb] w fun v W=> ∃Z φ,wM c v0.ownBlock Inv Z0 φ0 w s' Z φ W∧cF c (bw.plain fun b=>v0.ownBlock=some b) (nv c.key φ) W v ⟨el,false,ys⟩∧ ∀b,v.ownBlock=some b→v0.ownBlock=some b
def tB (P:Program) (c:Ctx):Prop:= ∀h,c.Gq h=true→G5 P c h (c.qv (c.key h))
end Dn
/-
  Regions with a call of slices.DeleteFunc. Conditions: none.
-/
set_option linter.unusedSimpArgs false
set_option linter.unusedVariables false
namespace Dn
open Go
section
variable {P:Program} {c:Ctx} {Z:bw} {Z':Nat→Prop} {e e':Env} {st bN:St} {a:Act} {w w':World} {R:Type} {K:St→Option R} {r:R} {Q:Exit→Act→World→Prop} {o:Oper} {root:Nat} {cs:List aC} {ks:List LK} {ls outs:List MV} {ps:List (Nat×Nat)} {φ':Ph}
theorem NY (h:bK c Z e st a w) (hf:aj st.fr root= .box cs) (hm:ee cs=false) (hr:bp st.b4 root=false) (ht:TC st [] ks cs ls ps) (hZ: ∀b,Z' b↔w.heap.size≤b∨gone e root ps b) {X:Nat→Prop} (hXb: ∀t eR,aj st.fr t= .box eR→ ¬X (e.B t)) (hXf: ∀f o b,aE st.aL f=some o→(e.E f).ownBlock=some b→ ¬X b) (uH:Trans (fun b=>Z' b∨X b) e.φ w φ' w') (hi:xI φ' w')
 (hc:mB c Z' φ' w' (e.B root) ks outs) (hK:E0 st root ks ps outs K=some r): ∃e' bN,bK c Z e' bN a w'∧e'.φ=φ'∧(∀b,X b→ ¬Z' b→(∀t eR,aj bN.fr t= .box eR→e'.B t≠b)∧ ∀f o,aE bN.aL f=some o→(e'.E f).ownBlock≠some b)∧K bN=some r:=by
 unfold E0 at hK
 obtain ⟨vX,rest,vU,g1,hK⟩:=iG hK
 cases rest with
 |cons=>simp [gN] at hK
 |nil=>
 simp only [gN,Iw] at hK
 cases kR:EZ (bc ks) (jg (dE ps) st.aL)||meets (bc ks) st.b5 with
 |true=>simp [kR] at hK
 |false=>
 simp only [kR,cond_false,Mc,kE,tc] at hK
 obtain ⟨KF,Cs⟩:=Bool.or_eq_false_iff.1 kR
 have KF:=Cp KF
 have Cs:=Cq Cs
 obtain ⟨qy,m3,E,arr,T,vk,cB,ZW,oX,oW,e9,dU⟩:=hc
 have iB:qy=vX∧m3=vU.aL:=by
  unfold L3 at vk
  rw [g1] at vk
  simp only [gN,Option.some.injEq,Prod.mk.injEq] at vk
  exact ⟨vk.1.symm,vk.2.symm⟩
 obtain ⟨rfl,rfl⟩:=iB
 have dk:=vj g1
 have eF: ∀f o,aE vU.aL f=some o→f∈bc ks:=fun f o ho=>(yz g1 f o ho).resolve_left (by simp [aE])
 have hs:=h.slot root
 rw [hf] at hs
 have sf: ∀b,Z' b→Z.In b:=by
  intro b hb
  rcases (hZ b).1 hb with hb|hb
  ·exact h.b3 b hb
  ·exact yA h hf hr ht b hb
 have Iz: ∀t eR,aj st.fr t= .box eR→t≠root→ ¬Z' (e.B t):=by
  intro t eR Qw cG hz
  rcases (hZ _).1 hz with hz|hz|⟨x,g,hp,hz⟩
  ·have:=tq h Qw;omega
  ·exact h.bb t root eR cs Qw hf cG hz
  ·obtain ⟨o,ho,_⟩:=ht.aL x g hp
   exact h.bf t eR g o Qw ho hz
 have hold: ∀f o,aE (jg (dE ps) st.aL) f=some o→aE st.aL f=some o∧f∉dE ps:=by
  intro f o ho
  rw [Cl] at ho
  cases hn:bp (dE ps) f with
  |true=>simp [hn] at ho
  |false=>
   simp only [hn,Bool.false_eq_true,if_false] at ho
   exact ⟨ho,fun hm=>by rw [(bq _ _).2 hm] at hn;cases hn⟩
 have AJ: ∀f o b,aE (jg (dE ps) st.aL) f=some o→(e.E f).ownBlock=some b→ ¬Z' b:=by
  intro f o b ho hb hz
  obtain ⟨xA,WQ⟩:=hold f o ho
  rcases (hZ _).1 hz with hz|hz|⟨x,g,hp,hz⟩
  ·have:=tt h xA hb;omega
  ·exact h.bf root cs f o hf xA (by rw [hb,hz])
  ·obtain ⟨o2,cc,_⟩:=ht.aL x g hp
   have:=h.ff f g o o2 b xA cc hb hz
   subst this
   exact WQ (AG.2 ⟨x,hp⟩)
 have XJ: ∀t eR,aj st.fr t= .box eR→t≠root→ ¬(Z' (e.B t)∨X (e.B t)):=fun t eR h1 h2 h3=>h3.elim (Iz t eR h1 h2) (hXb t eR h1)
 have Rb: ∀f o b,aE (jg (dE ps) st.aL) f=some o→(e.E f).ownBlock=some b→ ¬(Z' b∨X b):=fun f o b h1 h2 h3=>h3.elim (AJ f o b h1 h2) (hXf f o b (hold f o h1).1 h2)
 let E2:Nat→Value:=fun f=>if bp (bc ks) f=true then E f else e.E f
 have uW: ∀f,f∈bc ks→E2 f=E f:=fun f hf=>by show (if _ then _ else _)=_;rw [if_pos ((bq _ _).2 hf)]
 have HR: ∀f,f∉bc ks→E2 f=e.E f:=fun f hf=>by show (if _ then _ else _)=_;rw [if_neg (fun hq=>hf ((bq _ _).1 hq))]
 have nb: ∀f o,aE (vU.aL++jg (dE ps) st.aL) f=some o→(f∈bc ks∧aE vU.aL f=some o)∨(f∉bc ks∧aE (jg (dE ps) st.aL) f=some o):=by
  intro f o ho
  rw [Ft] at ho
  cases hq:aE vU.aL f with
  |some o2=>simp only [hq,Option.some.injEq] at ho;exact .inl ⟨eF f o2 hq,by rw [ho]⟩
  |none=>
   simp only [hq] at ho
   refine .inr ⟨fun hm=> ?_,ho⟩
   rw [KF f hm] at ho;cases ho
 let e2:Env:=⟨e.key,φ',E2,e.B,vU.aL++jg (dE ps) st.aL⟩
 have rB:jG (fun g=>True∧g∉bc ks) (fun _=>True) e e2:=by
  refine ⟨rfl,uH.ph,fun _ _=>rfl,fun f o' xA hS=> ?_⟩
  rcases nb f o' xA with ⟨h1,_⟩|⟨h1,h2⟩
  ·exact absurd h1 hS.2
  ·exact ⟨o',by rw [h.m];exact (hold f o' h2).1,HR f h1,rfl⟩
 have Qx:aq e2 arr.toList qy:=by
  have Xf:jG (fun f=>f∈bc ks) (fun _=>True) ⟨c.key,φ',E,fun _=>e.B root,vU.aL⟩ ⟨c.key,φ',E2,fun _=>e.B root,vU.aL++jg (dE ps) st.aL⟩:=by
   refine ⟨rfl,.refl _,fun _ _=>rfl,fun f o' xA hS=> ?_⟩
   rcases nb f o' xA with ⟨h1,h2⟩|⟨h1,_⟩
   ·exact ⟨o',h2,uW f h1,rfl⟩
   ·exact absurd hS h1
  have h1:=oW.on Xf dk
  have Xg:jG (fun _=>True) (fun _=>False) ⟨c.key,φ',E2,fun _=>e.B root,vU.aL++jg (dE ps) st.aL⟩ e2:=⟨h.key,.refl _,fun _ h=>h.elim,fun f o ho _=>⟨o,ho,rfl,rfl⟩⟩
  exact h1.on Xg (fun _ _ _ _=>trivial)
 have hm3:ee qy=false:=Qx.ve
 have ND: ∀t,aj (bT (ll (bc ks) st.fr) root (.box qy)) t=if t=root then .box qy else yy (bc ks) (aj st.fr t):=fun t=>by rw [bA,Cm]
 have rD: ∀t ds,aj (bT (ll (bc ks) st.fr) root (.box qy)) t= .box ds→ ∃ds0,aj st.fr t= .box ds0:=by
  intro t ds hb
  rw [ND] at hb
  by_cases uH:t=root
  ·exact ⟨cs,by rw [uH];exact hf⟩
  ·rw [if_neg uH] at hb
   obtain ⟨d0,h1,_⟩:=qR _ hb
   exact ⟨d0,h1⟩
 refine ⟨e2,⟨st.b4,st.b5,bT (ll (bc ks) st.fr) root (.box qy),vU.aL++jg (dE ps) st.aL⟩,⟨h.defers,h.size,rfl,h.key,?_,?_,?_,?_,?_,?_,?_,hi,fun b hb=>h.b3 b (Nat.le_trans uH.size hb)⟩,rfl,fun b hb S7=>⟨fun t ds Qw he=> ?_,fun f o ho he=> ?_⟩,hK⟩
 rotate_left 7
 ·obtain ⟨d0,k1⟩:=rD t ds Qw
  exact hXb t d0 k1 (by have he:e.B t=b:=he;rw [he];exact hb)
 ·have he:(E2 f).ownBlock=some b:=he
  rcases nb f o ho with ⟨k1,k2⟩|⟨k1,k2⟩
  ·rw [uW f k1] at he
   obtain ⟨I,cells,_,_,_,_,q5⟩:=(e9 f o k2).1.row
   exact S7 (q5 _ he).1
  ·rw [HR f k1] at he
   exact hXf f o b (hold f o k2).1 he hb
 ·show (aK (bT (ll (bc ks) st.fr) root (.box qy))).Nodup
  refine dw ?_
  rw [Cn];exact h.nodup
 ·intro t
  show bI Z e2 w' t _ (aj (bT (ll (bc ks) st.fr) root (.box qy)) t)
  rw [ND]
  by_cases pK:t=root
  ·subst pK
   rw [if_pos rfl]
   exact ⟨hs.1.jY (by rw [tf hm,tf hm3]),hs.2.b3,⟨_,cB,rfl,Qx⟩,oX⟩
  ·rw [if_neg pK]
   have dH:=h.slot t
   have Tl:=XJ t
   generalize aj st.fr t=s at dH Tl
   by_cases zI: ∃ds,s= .box ds
   ·obtain ⟨ds,rfl⟩:=zI
    rw [Ix]
    have hz:=Tl ds rfl pK
    obtain ⟨o2,h1,h2⟩:=dH.2.obj
    refine ⟨dH.1.jY (Fs _ _),dH.2.b3,⟨o2,by show w'.heap[e.B t]? =_;rw [uH.heap _ hz (bm h1)];exact h1,?_⟩,fun off=>by show φ' (e.B t) off=none;rw [uH.free _ off hz];exact dH.2.free off⟩
    exact (Iy h2).on rB (Me _ (fun l _ f _=>trivial))
   ·have Xh:ab e (a.tmps.getD t undef) s:=by cases s<;>simp only [bI] at dH<;>first|exact dH|exact absurd ⟨_,rfl⟩ zI
    have h2:=(Xh.VU (bc ks)).on rB (Md _ (df s))
    have Qy: ∀ds,yy (bc ks) s≠ .box ds:=fun ds hq=>by
     obtain ⟨d0,h1,_⟩:=qR _ hq
     exact zI ⟨d0,h1⟩
    generalize yy (bc ks) s=s2 at h2 Qy
    cases s2<;>first|exact h2|exact absurd rfl (Qy _)
 ·intro t
  show b6 (bT (ll (bc ks) st.fr) root (.box qy)) (aj (bT (ll (bc ks) st.fr) root (.box qy)) t)
  have Qc: ∀q,cr (aj st.fr q)=true→cr (aj (bT (ll (bc ks) st.fr) root (.box qy)) q)=true:=by
   intro q hq
   rw [ND]
   by_cases VQ:q=root
   ·rw [if_pos VQ];rfl
   ·rw [if_neg VQ];exact Cr _ hq
  rw [ND]
  by_cases pK:t=root
  ·rw [if_pos pK];trivial
  ·rw [if_neg pK]
   refine AH _ ?_
   have nI:=h.root t
   generalize aj st.fr t=s at nI
   cases s with
   |ptr q o=>exact Qc q nI
   |hp q o i=>exact Qc q nI
   |uY q=>exact Qc q nI
   |_=>trivial
 ·intro f o ho
  rcases nb f o ho with ⟨h1,h2⟩|⟨h1,h2⟩
  ·have hfm:=(e9 f o h2).1
   have xF:f∉Z.b5:=by rw [←h.defers.2.2.1];exact Cs f h1
   refine cF.to ?_ xF
   obtain ⟨I,cells,q1,q2,q3,q4,q5⟩:=hfm.row
   refine ⟨I,cells,q1,q2,?_,?_,fun b hb=> ?_⟩
   ·show w'.ownsRow 0 o.ty I.size (E2 f) o.xs.length cells
    rw [uW f h1];exact q3
   ·show aS e.key φ' I.size cells o.xs
    rw [h.key];exact q4
   ·have hb:(E2 f).ownBlock=some b:=hb
    rw [uW f h1] at hb
    exact ⟨sf b (q5 b hb).1,(q5 b hb).2.1,fun hc=>hc.elim⟩
  ·obtain ⟨xA,WQ⟩:=hold f o h2
   obtain ⟨I,cells,q1,q2,q3,q4,q5⟩:=(h.gY f o xA).row
   refine ⟨I,cells,q1,q2,?_,q4.mono uH.ph,?_⟩
   ·show w'.ownsRow 0 o.ty I.size (E2 f) o.xs.length cells
    rw [HR f h1]
    refine ⟨q3.1,?_⟩
    rcases q3.2 with h6|⟨g,cap,cM,k1,k2,k3,k4⟩
    ·exact .inl h6
    ·refine .inr ⟨g,cap,cM,k1,k2,?_,k4⟩
     rw [uH.heap g (Rb f o g h2 (by rw [k1];rfl)) (bm k3)];exact k3
   ·intro aX hb
    have hb:(E2 f).ownBlock=some aX:=hb
    rw [HR f h1] at hb
    refine ⟨(q5 aX hb).1,fun off u hu=>(q5 aX hb).2.1 off u ?_,fun k1 k2 j hj=>uH.ph.vV ((q5 aX hb).2.2 k1 k2 j hj) hj⟩
    have hu:φ' aX off=some u:=hu
    rw [uH.free _ off (Rb f o aX h2 hb)] at hu;exact hu
 ·intro t t' c1 c2 h1 h2 cG
  obtain ⟨d1,k1⟩:=rD t c1 h1
  obtain ⟨d2,k2⟩:=rD t' c2 h2
  exact h.bb t t' d1 d2 k1 k2 cG
 ·intro t c1 f o h1 h2
  show (E2 f).ownBlock≠some (e.B t)
  rcases nb f o h2 with ⟨k1,k2⟩|⟨k1,k2⟩
  ·rw [uW f k1]
   by_cases pK:t=root
   ·rw [pK];exact (e9 f o k2).2
   ·obtain ⟨d1,k3⟩:=rD t c1 h1
    intro hq
    obtain ⟨I,cells,_,_,_,_,q5⟩:=(e9 f o k2).1.row
    exact Iz t d1 k3 pK (q5 _ hq).1
  ·rw [HR f k1]
   obtain ⟨d1,k3⟩:=rD t c1 h1
   exact h.bf t d1 f o k3 (hold f o k2).1
 ·intro f f' o o' k h1 h2 h3 h4
  have h3:(E2 f).ownBlock=some k:=h3
  have h4:(E2 f').ownBlock=some k:=h4
  rcases nb f o h1 with ⟨k1,k2⟩|⟨k1,k2⟩<;>rcases nb f' o' h2 with ⟨k3,k4⟩|⟨k3,k4⟩
  ·rw [uW f k1] at h3
   rw [uW f' k3] at h4
   exact dU f f' o o' k k2 k4 h3 h4
  ·rw [uW f k1] at h3
   rw [HR f' k3] at h4
   obtain ⟨I,cells,_,_,_,_,q5⟩:=(e9 f o k2).1.row
   exact absurd (q5 _ h3).1 (AJ f' o' k k4 h4)
  ·rw [HR f k1] at h3
   rw [uW f' k3] at h4
   obtain ⟨I,cells,_,_,_,_,q5⟩:=(e9 f' o' k4).1.row
   exact absurd (q5 _ h4).1 (AJ f o k k2 h3)
  ·rw [HR f k1] at h3
   rw [HR f' k3] at h4
   exact h.ff f f' o o' k (hold f o k2).1 (hold f' o' k4).1 h3 h4
end
end Dn
/-
  A call of slices.DeleteFunc. Conditions: none.
-/
set_option linter.unusedSimpArgs false
set_option linter.unusedVariables false
namespace Dn
open Go
section
variable {P:Program} {c:Ctx} {Z:bw} {e e':Env} {st bN:St} {a:Act} {w w':World} {R:Type} {K:St→Option R} {r:R} {Q:Exit→Act→World→Prop} {o:Oper}
theorem eU.imp {P:Program} {f:FuncId} {args:Array Value} {w:World} {R R':Value→World→Prop} (hc:eU P f args w R) (h: ∀v w',R v w'→R' v w'):eU P f args w R':=by
 unfold eU at hc⊢
 split
 ·rename_i iB
  rw [iB] at hc
  exact Calls.mono hc (fun x vW ⟨v,e,hr⟩=>⟨v,e,h v vW hr⟩)
 ·rename_i iB
  rw [iB] at hc
  exact h _ _ hc
 ·rename_i h1 h2
  split at hc
  ·rename_i iB;exact absurd iB (h1 _ _ _)
  ·rename_i iB;exact absurd iB (h2 _ _)
  ·exact hc
theorem Trans.AQ {I J:Nat→Prop} {φ φ':Ph} (h:Trans I φ w φ' w') (hs: ∀b,I b→J b):Trans J φ w φ' w':=
 ⟨h.ph,fun b hb=>h.heap b (fun hz=>hb (hs b hz)),fun b o hb=>h.free b o (fun hz=>hb (hs b hz)),h.size,h.rest⟩
theorem IU {key:Nat→Nat} {φ:Ph} {v:Value} {b:Bool} (h:eB key φ v (.b b)):v= .bool b:=by
 obtain ⟨_,h⟩:=h
 generalize wK:[v]=l at h
 cases h;simpa using wK
theorem KT (hS:Sound P c) {f:Nat} (hg:c.dJ (c.key f)=false) {lb:Array Value} {ms:List MV}:tA P c f lb (fun (_:Unit) (_:Nat→Prop) φ (_:World)=>bU c.key φ lb.toList ms) (PE c.g (c.key f) ms):=by
 refine ⟨?_,fun h _ _=>h,fun h _=>h⟩
 intro s Z φ W v x b s' hinv jX iC KU dH
 unfold PE at dH
 split at dH
 ·rename_i b' hx
  simp only [Option.some.injEq,Prod.mk.injEq] at dH
  obtain ⟨rfl,_⟩:=dH
  have eE:eg c (fun b=>W.heap.size≤b) φ W (c.key f) (v::lb.toList) (x::ms):=by
   simp only [eg,hg,Bool.false_eq_true,if_false]
   exact ⟨v,lb.toList,rfl,KU,hinv⟩
  have:=hS f (x::ms) (.b b') hx φ W (fun b=>W.heap.size≤b) _ (fun b hb=>hb) eE iC
  have e1:(v::lb.toList).toArray= #[v]++lb:=by apply Array.toList_inj.1;simp
  rw [e1] at this
  refine this.imp ?_
  rintro v' w' ⟨φ',t1,t2,t3⟩
  exact ⟨IU t3,φ',t1.AQ jX,t2,hinv.mono t1.ph⟩
 ·cases dH
theorem NZ (hS:Sound P c) {f pos aX:Nat} {ks:List LK} {ms:List MV} {lb0:List Value} (hg:c.dJ (c.key f)=true) (wL:c.sig (c.key f)=some (pos,ks)) (dS:pos=ms.length+1):
 tA P c f (lb0++[Value.pointer (some ⟨aX,0,none⟩)]).toArray (fun ls Z φ W=>mB c Z φ W aX ks ls∧bU c.key φ lb0 ms) (E4 c.g (c.key f) ms):=by
 refine ⟨?_,?_,fun h hz=>⟨h.1.wide hz,h.2⟩⟩
 ·intro ls Z φ W v x b s' hinv jX iC KU dH
  obtain ⟨oV,su⟩:=hinv
  unfold E4 at dH
  split at dH
  ·rename_i b' outs hx
   simp only [Option.some.injEq,Prod.mk.injEq] at dH
   obtain ⟨rfl,rfl⟩:=dH
   have hl:=su.length
   have eE:eg c Z φ W (c.key f) (v::(lb0++[Value.pointer (some ⟨aX,0,none⟩)])) (x::(ms++[.cell (.func 0 ls)])):=by
    simp only [eg,hg,if_true]
    refine .inr (.inr ⟨pos,ks,0,ls,aX,wL,?_,?_,?_,oV⟩)
    ·rw [dS,List.getElem?_cons_succ,←hl,List.getElem?_append_right (Nat.le_refl _)];simp
    ·rw [dS,List.getElem?_cons_succ,List.getElem?_append_right (Nat.le_refl _)];simp
    ·rw [dS,List.set_cons_succ,List.set_append_right _ _ (Nat.le_refl _),Nat.sub_self]
     exact ⟨v,_,rfl,KU,su.append ⟨_,[],rfl,⟨rfl,.rp aX 0 [] [] .nil (by simp)⟩,rfl⟩⟩
   have:=hS f _ _ hx φ W Z _ jX eE iC
   have e1:(v::(lb0++[Value.pointer (some ⟨aX,0,none⟩)])).toArray= #[v]++(lb0++[Value.pointer (some ⟨aX,0,none⟩)]).toArray:=by apply Array.toList_inj.1;simp
   rw [e1] at this
   refine this.imp ?_
   rintro v' w' ⟨φ',t1,t2,vl,pos',ks',aeP,Nb,vZ,O6,hc⟩
   rw [wL] at vZ
   simp only [Option.some.injEq,Prod.mk.injEq] at vZ
   obtain ⟨rfl,rfl⟩:=vZ
   have hb:aeP=aX:=by
    rw [dS,List.getElem?_cons_succ,←hl,List.getElem?_append_right (Nat.le_refl _)] at O6
    simp at O6
    exact O6.1.symm
   subst hb
   exact ⟨IU vl,φ',t1,t2,hc,su.mono t1.ph⟩
  ·cases dH
 ·intro ls Z φ W W' hinv pI sb
  obtain ⟨⟨cs,m,E,arr,T,k1,k2,k3,k4,k5,k6,k7⟩,su⟩:=hinv
  have dx:=bm k2
  refine ⟨⟨cs,m,E,arr,T,k1,(sb aX k3 dx).trans k2,⟨k3,dx⟩,k4,k5,fun f' o' ho=>⟨?_,(k6 f' o' ho).2⟩,k7⟩,su⟩
  obtain ⟨I,cells,q1,q2,q3,q4,q5⟩:=(k6 f' o' ho).1.row
  refine ⟨I,cells,q1,q2,⟨q3.1,?_⟩,q4,fun b hb=>⟨⟨(q5 b hb).1,GL q3 hb⟩,(q5 b hb).2⟩⟩
  rcases q3.2 with h6|⟨g,cap,cM,r1,r2,r3,r4⟩
  ·exact .inl h6
  ·exact .inr ⟨g,cap,cM,r1,r2,(sb g (q5 g (by rw [r1];rfl)).1 (bm r3)).trans r3,r4⟩
theorem Mr {xs:List MV} (h:xs.all Ke=true): ∀x∈xs,∃ms,x= .agg ms:=by
 intro x hx
 have:=List.all_eq_true.1 h x hx
 cases x<;>simp [Ke] at this
 exact ⟨_,rfl⟩
theorem put_comm {a:Act} {x y:Nat} (h:x≠y) (v u:Value):(a.put (some x) v).put (some y) u=(a.put (some y) u).put (some x) v:=by
 show ({a with tmps:=(a.tmps.setIfInBounds x v).setIfInBounds y u}:Act)={a with tmps:=(a.tmps.setIfInBounds y u).setIfInBounds x v}
 rw [Array.setIfInBounds_comm v u h]
theorem Ms {y d:Nat} {o1 o2:Oper} {h:Nat} {v0 v' fv:Value} {ys:List MV} {φ0:Ph} {w0:World} (hs:bK c Z e st a w) (h1:o1.dst=some y) (h2:o2.dst=some d) (hyd:d≠y) (sf: ∀b,v0.ownBlock=some b→Z.In b)
 (e9:cF c (bw.plain fun b=>v0.ownBlock=some b) (nv c.key e.φ) w v' ⟨c.qv (c.key h),false,ys⟩) (dk: ∀b,v'.ownBlock=some b→v0.ownBlock=some b) (se: ∀b,v0.ownBlock=some b→(∀t eR,aj st.fr t= .box eR→e.B t≠b)∧ ∀f o,aE st.aL f=some o→(e.E f).ownBlock≠some b)
 (ht:Trans Z φ0 w0 e.φ w)
 (hK:(iI st (o2.dst.getD 0) ⟨c.qv (c.key h),false,ys⟩ fun st=>bj c st o2.dst (.sc (.own (o2.dst.getD 0))) fun st=>bj c st o1.dst (.sc .un) K)=some r):Out c Z K r φ0 w0 ((a.put o1.dst fv).put o2.dst v') w:=by
 have xF:=hs.YN hK
 have ot:=pu hK
 have xe:cF c Z.nc e w v' ⟨c.qv (c.key h),false,ys⟩:=by
  obtain ⟨I,cells,g1,g2,g3,g4,g5⟩:=e9.row
  refine ⟨I,cells,g1,g2,g3,by rw [hs.key];exact g4,fun aX hb=>⟨sf aX (dk aX hb),(g5 aX hb).2.1,fun hc=>hc.elim⟩⟩
 have Ig:=hs.Kz xF xe fun b hb=>se b (dk b hb)
 obtain ⟨I,cells,g1,g2,g3,g4,g5⟩:=e9.row
 have gU:v'.oneCell'=true:=by
  rcases g3.2 with ⟨rfl,_⟩|⟨g,cap,cM,rfl,_⟩<;>rfl
 obtain ⟨e3,mA,q1,q2,q3⟩:=dc (v:=v') (s:= .sc (.own (o2.dst.getD 0))) Ig (.of (vg gU) trivial) ot
 obtain ⟨e4,ZY,q4,q5,q6⟩:=dc (v:=fv) (s:= .sc .un) q1 (.of (by simp [ab]) trivial) q2
 rw [h1,h2] at q4
 rw [put_comm hyd] at q4
 rw [h1,h2]
 exact ⟨e4,ZY,q4,by rw [q6,q3];exact ht,q5⟩
theorem Uj (hS:Sound P c) {h f x y d:Nat} {bQ:Array Operand} {cl:Call} {o1 o2:Oper} (hd:G5 P c h (c.qv (c.key h))) (h1:o1.op= .makeFunc (.func f) #[] bQ) (h2:o2.op= .call cl) (nt:cl.callee= .value (.func h)) (eE:cl.args.toList=[.tmp x,.tmp y])
 (hd1:o1.dst=some y) (S8:o2.dst=some d) (JZ:x≠y) (hyd:d≠y) (hyn:y<c.n) (ou:bK c Z e st a w) (hK:PF c h f bQ.toList (.tmp x) o1 o2 st K=some r):
 o1.wp P a w (fun a1 w1=>o2.wp P a1 w1 (Out c Z K r e.φ w) Q) Q:=by
 have aaF:(execOp a.eval o1).run P w= .ok (.value (.func (.func f) #[] (bQ.map a.eval))) w:=by simp [execOp,h1,Instr.makeFunc]
 unfold Oper.wp
 rw [aaF,Oper.upon_value]
 have Eg: ∀v:Value,(a.put o1.dst v).eval (.tmp x)=a.eval (.tmp x)∧(a.put o1.dst v).eval (.tmp y)=v:=by
  intro v
  rw [hd1]
  have hy:y<a.tmps.size:=by rw [ou.size];exact hyn
  constructor
  ·show (a.put (some y) v).tmps.getD x undef=a.tmps.getD x undef
   rw [Act.vd hy,if_neg JZ]
  ·show (a.put (some y) v).tmps.getD y undef=v
   rw [Act.vd hy,if_pos rfl]
 have XK: ∀v:Value,cl.args.map (a.put o1.dst v).eval= #[a.eval (.tmp x),v]:=by
  intro v
  apply Array.toList_inj.1
  rw [Array.toList_map,eE]
  simp [(Eg v).1,(Eg v).2]
 have FF: ∀v:Value,(execOp (a.put o1.dst v).eval o2).run P w=(callFunc h #[a.eval (.tmp x),v]).run P w:=by
  intro v
  have:=XK v
  simp [execOp,h2,resolve,nt,this,Act.eval,Deferred.ofValue,invoke]
 unfold PF at hK
 cases wL:c.sig (c.key f) with
 |none=>
  simp only [wL] at hK
  cases hg:c.dJ (c.key f) with
  |true=>simp [hg] at hK
  |false=>
  simp only [hg,cond_false] at hK
  obtain ⟨e1,dR,ms,s1,x1,r1,ot,gU⟩:=tm ou hK
  obtain ⟨e2,dY,xs,G,uG⟩:=pJ s1 (s1.eval (.tmp x)).1 ot
  simp only [gF] at uG
  obtain ⟨CL,Cg⟩:=dK uG
  obtain ⟨p,hp,SZ⟩:=nJ Cg
  obtain ⟨ys,u⟩:=p
  have su:bU c.key e1.φ (bQ.map a.eval).toList ms:=by
   have:=fP.one r1 gU
   rw [s1.key] at this
   simpa using this
  have Bm: ∀b,(a.eval (.tmp x)).ownBlock=some b→ ¬w.heap.size≤b:=by
   intro b hb
   obtain ⟨I,cells,_,_,g3,_⟩:=G.row.row
   have:=GL g3 hb
   omega
  have uj:=hd.run (KT hS hg) (Mr CL) G.row Bm su (fun b hb=>hb) s1.mZ hp
  refine sm (FF _) uj ?_
  rintro v' w' ⟨Zw,φ',hW,e9,dk⟩
  have Uk: ∀b,((w.heap.size≤b∨w.heap.size≤b)∨(a.eval (.tmp x)).ownBlock=some b)→Z.In b:=by
   rintro b ((hb|hb)|hb)
   ·exact s1.b3 b hb
   ·exact s1.b3 b hb
   ·exact G.In b hb
  have ZW: ∀t cs,aj dY.fr t= .box cs→ ¬((w.heap.size≤e2.B t∨w.heap.size≤e2.B t)∨(a.eval (.tmp x)).ownBlock=some (e2.B t)):=by
   rintro t cs ht ((hb|hb)|hb)
   ·have:=tq G.si ht;omega
   ·have:=tq G.si ht;omega
   ·exact G.box t cs ht hb
  have hzf: ∀f o k,aE dY.aL f=some o→(e2.E f).ownBlock=some k→ ¬((w.heap.size≤k∨w.heap.size≤k)∨(a.eval (.tmp x)).ownBlock=some k):=by
   rintro f o k ho hk ((hb|hb)|hb)
   ·have:=tt G.si ho hk;omega
   ·have:=tt G.si ho hk;omega
   ·exact G.gY f o k ho hk hb
  have uH:=hW.tr
  rw [←G.φ] at uH
  have W7:=G.si.called Uk ZW hzf uH hW.mZ
  have pK:Trans Z e.φ w φ' w':=x1.tr.trans (hW.tr.AQ Uk)
  exact Ms (e:={e2 with φ:=φ'}) W7 hd1 S8 hyd G.In e9 dk (fun b hb=>⟨fun t eR ht he=>G.box t eR ht (by rw [hb,←he]),fun f o ho hk=>G.gY f o b ho hk hb⟩) pK SZ
 |some sg=>
  obtain ⟨pos,ks⟩:=sg
  simp only [wL] at hK
  obtain ⟨e1,dR,ms,s1,x1,r1,ot,gU⟩:=tm ou hK
  obtain ⟨e2,dY,xs,G,uG⟩:=pJ s1 (s1.eval (.tmp x)).1 ot
  simp only [gF] at uG
  obtain ⟨CL,Cg⟩:=dK uG
  cases IV:bQ.toList.getLast? with
  |none=>simp [IV] at Cg
  |some y0=>
  simp only [IV] at Cg
  split at Cg
  rotate_left
  ·cases Cg
  rename_i root KK
  split at Cg
  rotate_left
  ·cases Cg
  rename_i cs hf
  cases kR:ee cs||bp dY.b4 root||!fR c ks||!Nat.beq pos (ms.length+1)||!c.dJ (c.key f) with
  |true=>simp [kR] at Cg
  |false=>
  simp only [kR,cond_false] at Cg
  simp only [Bool.or_eq_false_iff,Bool.not_eq_false'] at kR
  obtain ⟨⟨⟨⟨hm,hr⟩,iD⟩,dS⟩,hg⟩:=kR
  have dS:=Nat.eq_of_beq_eq_true dS
  obtain ⟨ls,ps,ht,SZ⟩:=xK Cg
  obtain ⟨p,hp,YU⟩:=nJ SZ
  obtain ⟨ys,outs⟩:=p
  have hy0:a.eval y0= .pointer (some ⟨e2.B root,0,none⟩):=by
   have:=(G.si.eval y0).1
   rw [KK] at this
   exact this
  have aaG:(bQ.map a.eval)=((bQ.toList.dropLast.map a.eval)++[Value.pointer (some ⟨e2.B root,0,none⟩)]).toArray:=by
   apply Array.toList_inj.1
   rw [Array.toList_map]
   have cG:bQ.toList≠[]:=by intro e;rw [e] at IV;simp at IV
   have h3:bQ.toList=bQ.toList.dropLast++[y0]:=by
    have h4:=List.dropLast_concat_getLast cG
    have h5:=List.getLast?_eq_some_getLast cG
    rw [IV] at h5
    rw [Option.some.inj h5]
    exact h4.symm
   rw [h3]
   simp [hy0]
  have su:bU c.key e2.φ (bQ.toList.dropLast.map a.eval) ms:=by
   have:=fP.one r1 gU
   rw [s1.key,←G.φ] at this
   exact this
  have yG:cF c (bw.plain fun b=>(a.eval (.tmp x)).ownBlock=some b) (nv c.key e2.φ) w (a.eval (.tmp x)) ⟨c.qv (c.key h),false,xs⟩:=by rw [G.φ];exact G.row
  let Z2:Nat→Prop:=fun b=>w.heap.size≤b∨gone e2 root ps b
  have hgx: ∀b,(a.eval (.tmp x)).ownBlock=some b→ ¬gone e2 root ps b:=by
   rintro b hb (rfl|⟨q,g,hp,hq⟩)
   ·exact G.box root cs hf hb
   ·obtain ⟨o,ho,_⟩:=ht.aL q g hp
    exact G.gY g o b ho hq hb
  have dx: ∀b,(a.eval (.tmp x)).ownBlock=some b→b<w.heap.size:=by
   intro b hb
   obtain ⟨I,cells,_,_,g3,_⟩:=G.row.row
   exact GL g3 hb
  have Bm: ∀b,(a.eval (.tmp x)).ownBlock=some b→ ¬Z2 b:=by
   rintro b hb (h'|h')
   ·have:=dx b hb;omega
   ·exact hgx b hb h'
  have oV:mB c Z2 e2.φ w (e2.B root) ks ls:=(Ck G.si hf hm iD ht).wide fun b hb=> .inr hb
  have uj:=hd.run (NZ hS hg wL dS) (Mr CL) yG Bm ⟨oV,su⟩ (fun b hb=> .inl hb) G.si.mZ hp
  rw [←aaG] at uj
  refine sm (FF _) uj ?_
  rintro v' w' ⟨Zw,φ',hW,e9,dk⟩
  have hZ2: ∀b,Z2 b∨w.heap.size≤b→Z2 b:=fun b hb=>hb.elim id .inl
  have Uk: ∀b,Z2 b→Z.In b:=fun b hb=>hb.elim (G.si.b3 b) (yA G.si hf hr ht b)
  have uH:Trans (fun b=>Z2 b∨(a.eval (.tmp x)).ownBlock=some b) e2.φ w φ' w':=hW.tr.AQ fun b hb=>hb.elim (fun h=> .inl (hZ2 b h)) .inr
  have XL:mB c Z2 φ' w' (e2.B root) ks outs:=hW.inv.1.wide fun b hb=>hZ2 b (hW.sub b hb)
  obtain ⟨e3,mA,h3,Xi,hX,Xj⟩:=NY G.si hf hm hr ht (fun b=>Iff.rfl) (X:=fun b=>(a.eval (.tmp x)).ownBlock=some b) (fun t eR xC hb=>G.box t eR xC hb) (fun f o b ho hk hb=>G.gY f o b ho hk hb) uH hW.mZ XL YU
  have pK:Trans Z e.φ w φ' w':=by
   have t2:Trans Z e2.φ w φ' w':=uH.AQ fun b hb=>hb.elim (Uk b) (G.In b)
   rw [G.φ] at t2
   exact x1.tr.trans t2
  subst Xi
  exact Ms h3 hd1 S8 hyd G.In e9 dk (fun b hb=>hX b hb (Bm b hb)) pK Xj
end
end Dn
/-
  Regions in the order of their text. Conditions: none.
-/
set_option linter.unusedSimpArgs false
set_option linter.unusedVariables false
namespace Dn
open Go
section
variable {P:Program} {c:Ctx} {Z:bw} {e:Env} {st:St} {a:Act} {w:World} {R:Type} {K:St→Option R} {r:R} {Q:Exit→Act→World→Prop} {ops:Array Oper}
theorem IW (hG:Good P c) {is:List Nat} {rest:List Nat}: ∀{os:List Oper} {e:Env} {st:St} {a:Act} {w:World},is.map (ops[·]?)=os.map some→bK c Z e st a w→s9 c ops.toList os st K=some r→
 ∀{φ0:Ph} {w0:World},Trans Z φ0 w0 e.φ w→(∀a' w',Out c Z K r φ0 w0 a' w'→wpOps P ops Q rest a' w')→wpOps P ops Q (is++rest) a w:=by
 induction is with
 |nil=>
  intro os e st a w hm h hK φ0 w0 ht hQ
  cases os with
  |nil=>exact hQ a w ⟨e,st,h,ht,hK⟩
  |cons=>simp at hm
 |cons i is ih=>
  intro os e st a w hm h hK φ0 w0 ht hQ
  cases os with
  |nil=>simp at hm
  |cons o os=>
   simp only [List.map_cons,List.cons.injEq] at hm
   simp only [s9] at hK
   rw [List.cons_append,wpOps_cons]
   refine wpOp_mono ?_ (Mf hG hm.1 h hK)
   rintro a' w' ⟨e2,dY,h1,h2,h3⟩
   exact ih hm.2 h1 h3 (ht.trans h2) hQ
structure V9 (c:Ctx) (l pre:List Oper) (f:Nat) (bQ:List Operand) (h:Nat) (x:Operand) (o1 o2:Oper) (post:List Oper):Prop where
 eq:l=pre++o1::o2::post
 is: ∃(cs:Array Operand) (cl:Call) (x' y d:Nat),cs.toList=bQ∧o1.op= .makeFunc (.func f) #[] cs∧o2.op= .call cl∧cl.callee= .value (.func h)∧cl.args.toList=[.tmp x',.tmp y]∧x= .tmp x'∧o1.dst=some y∧o2.dst=some d∧c.Gq h=true∧x'≠y∧d≠y∧y<c.n
theorem KV: ∀{l pre N0:List Oper} {f:Nat} {bQ:List Operand} {h:Nat} {x:Operand} {o1 o2:Oper} {post:List Oper},yl c pre l=some (N0,f,bQ,h,x,o1,o2,post)→V9 c (pre.reverse++l) N0 f bQ h x o1 o2 post:=by
 intro l
 induction l with
 |nil=>intro pre N0 f bQ h x o1 o2 post hd;simp [yl] at hd
 |cons p1 l ih=>
  intro pre N0 f bQ h x o1 o2 post hd
  cases l with
  |nil=>simp [yl] at hd
  |cons p2 r=>
   have XM:yl c (p1::pre) (p2::r)=some (N0,f,bQ,h,x,o1,o2,post)→V9 c (pre.reverse++p1::p2::r) N0 f bQ h x o1 o2 post:=by
    intro hq
    have:=ih hq
    simpa using this
   unfold yl at hd
   split at hd
   ·rename_i f' first cs cl h1 h2
    split at hd
    ·rename_i h' x' y' d' k1 k2 k3 k4
     cases hb:c.Gq h'&&Nat.beq y' d'&&!Nat.beq x' d'&&!Nat.ble c.n d'&&!Nat.beq (p2.dst.getD d') d' with
     |false=>simp only [hb,cond_false] at hd;exact XM hd
     |true=>
      simp only [hb,cond_true,Option.some.injEq,Prod.mk.injEq] at hd
      obtain ⟨rfl,rfl,rfl,rfl,rfl,rfl,rfl,rfl⟩:=hd
      simp only [Bool.and_eq_true,Bool.not_eq_true',eC,decide_eq_true_eq,decide_eq_false_iff_not] at hb
      obtain ⟨⟨⟨⟨q1,rfl⟩,q3⟩,q4⟩,q5⟩:=hb
      have hf:first= #[]:=by apply Array.toList_inj.1;simpa using k3
      subst hf
      have S8: ∃d,p2.dst=some d∧d≠y':=by
       cases hp:p2.dst with
       |none=>rw [hp] at q5;simp at q5
       |some d=>rw [hp] at q5;exact ⟨d,rfl,q5⟩
      obtain ⟨d,S8,hd3⟩:=S8
      refine ⟨rfl,cs,cl,x',y',d,rfl,h1,h2,k1,k2,rfl,k4,S8,q1,q3,hd3,?_⟩
      rcases Nat.lt_or_ge y' c.n with dx|Pf
      ·exact dx
      ·have aiR:=Nat.ble_eq_true_of_le Pf
       simp_all
    ·exact XM hd
   ·exact XM hd
theorem IX: ∀{l:List Oper},BX l=true→ ∀o∈l,o.guard=none:=by
 intro l
 induction l with
 |nil=>intro _ o ho;cases ho
 |cons p l ih=>
  intro h o ho
  unfold BX at h
  cases hg:p.guard with
  |none=>
   rw [hg] at h
   rcases List.mem_cons.1 ho with rfl|ho
   ·exact hg
   ·exact ih h o ho
  |some=>rw [hg] at h;cases h
theorem N1 (hG:Good P c) (G6:tB P c) (id:Nat) (ops:Array Oper):IF P c id ops:=by
 intro Z e st a w R K r Q h hK hQ
 unfold PG at hK
 split at hK
 rotate_left
 ·exact Fv (NL hG id ops) h hK hQ
 rename_i pre f bQ hh x o1 o2 post hda
 obtain ⟨iB,cs,cl,x',y,d,rfl,k1,k2,k3,k4,rfl,k5,k6,k7,k8,k9,Y2⟩:=KV hda
 simp only [List.reverse_nil,List.nil_append] at iB
 cases H7:BX ops.toList with
 |false=>simp [H7] at hK
 |true=>
 simp only [H7,cond_true] at hK
 obtain ⟨std,hdr,hK⟩:=qQ h hK
 have hgd:=IX H7
 have HS:o1.guard=none:=hgd o1 (by rw [iB];simp)
 have Q4:o2.guard=none:=hgd o2 (by rw [iB];simp)
 refine wp_region ?_
 have pI:ops.size=pre.length+(post.length+2):=by rw [←Array.length_toList,iB];simp
 have nb: ∀i,ops[i]? =(pre++o1::o2::post)[i]? :=fun i=>by rw [←iB,Array.getElem?_toList]
 have XN:List.range ops.size=List.range pre.length++(pre.length::(pre.length+1)::((List.range post.length).map (· +(pre.length+2)))):=by
  rw [pI,List.range_add]
  congr 1
  rw [show post.length+2=2+post.length by omega,List.range_add]
  simp [List.range_succ]
  intros;omega
 rw [XN]
 refine IW hG (os:=pre) ?_ hdr hK (.refl _ _ _) ?_
 ·apply List.ext_getElem?
  intro i
  simp only [List.getElem?_map]
  by_cases hi:i<pre.length
  ·rw [List.getElem?_range hi]
   simp only [Option.map_some,nb,List.getElem?_append_left hi]
   rw [List.getElem?_eq_getElem hi];rfl
  ·rw [List.getElem?_eq_none (by simp;omega),List.getElem?_eq_none (by omega)];rfl
 ·rintro a1 w1 ⟨e1,dR,s1,t1,ot⟩
  have hw:=Uj hG.fn (G6 hh k7) k1 k2 k3 k4 k5 k6 k8 k9 Y2 s1 ot (P:=P) (Q:=Q)
  have rY:ops[pre.length]? =some o1:=by rw [nb];simp
  have Pe:ops[pre.length+1]? =some o2:=by rw [nb,List.getElem?_append_right (by omega)];simp
  rw [wpOps_cons]
  unfold wpOp
  simp only [rY,Region.wanted,HS,if_true]
  left
  refine Oper.wp_mono ?_ hw
  intro a2 w2 hw2
  rw [wpOps_cons]
  unfold wpOp
  simp only [Pe,Region.wanted,Q4,if_true]
  left
  refine Oper.wp_mono ?_ hw2
  rintro a3 w3 ⟨e3,mA,s3,t3,Cg⟩
  rw [←List.append_nil ((List.range post.length).map (· +(pre.length+2)))]
  refine IW hG (os:=post) ?_ s3 Cg (t1.trans t3) ?_
  ·apply List.ext_getElem?
   intro i
   simp only [List.getElem?_map,List.map_map]
   by_cases hi:i<post.length
   ·rw [List.getElem?_range hi]
    simp only [Option.map_some,Function.comp,nb]
    rw [List.getElem?_append_right (by omega),show i+(pre.length+2)-pre.length=i+2 by omega]
    simp [List.getElem?_eq_getElem hi]
   ·rw [List.getElem?_eq_none (by simp;omega),List.getElem?_eq_none (by omega)];rfl
  ·intro a' w' ho
   exact hQ a' w' ho
end
end Dn
/-
  Open order with two operations that may be done either way round. Conditions: none.
-/
set_option linter.unusedSimpArgs false
set_option linter.unusedVariables false
namespace Dn
open Go
section
variable {P:Program} {ops:Array Oper} {Q:Exit→Act→World→Prop}
theorem FG (A B:Nat):(nn ops A B).size=ops.size:=by simp [nn]
theorem CM (A B i:Nat):(nn ops A B)[i]? =(ops[i]?).map fun o=>if B=i then {o with after:=o.after.push ⟨A,.data⟩} else o:=by
 unfold nn
 rw [Array.getElem?_modify]
 by_cases h:B=i
 ·simp [h]
 ·cases ops[i]? <;>simp [h]
theorem G7 (A B:Nat) (tmps:Array Value):yielded (nn ops A B) tmps=yielded ops tmps:=by
 funext j
 unfold yielded
 rw [CM]
 cases ops[j]? with
 |none=>rfl
 |some o=>
  have e:(if B=j then {o with after:=o.after.push ⟨A,.data⟩} else o).dst=o.dst:=by split<;>rfl
  simp only [Option.map_some,Option.bind_some,e]
theorem N2 {A B i:Nat} {K:Act→World→Prop} {a:Act} {w:World} (h:wpOp P (nn ops A B) Q i K a w):wpOp P ops Q i K a w:=by
 unfold wpOp at h⊢
 rw [CM,G7] at h
 cases hi:ops[i]? with
 |none=>rw [hi] at h;exact h
 |some o=>
  rw [hi] at h
  simp only [Option.map_some] at h
  by_cases hb:B=i
  ·rw [if_pos hb] at h;exact h
  ·rw [if_neg hb] at h;exact h
theorem CN {A B i:Nat} {listed:Array Bool}:i∈Region.ready .any (nn ops A B) listed↔i∈Region.ready .any ops listed∧(i=B→listed.getD A false=true):=by
 unfold Region.ready
 rw [FG]
 simp only [List.mem_filter,List.mem_range,CM]
 cases hi:ops[i]? with
 |none=>simp
 |some o=>
  by_cases hb:B=i
  ·subst hb
   simp [Array.all_push,Region.binds]
   constructor
   ·rintro ⟨h1,h2,h3,h4⟩;exact ⟨⟨h1,h2,h3⟩,h4⟩
   ·rintro ⟨⟨h1,h2,h3⟩,h4⟩;exact ⟨h1,h2,h3,h4⟩
  ·have zE: ¬i=B:=fun e=>hb e.symm
   simp [hb,zE]
def Y3 (A B:Nat):Bool→List Nat→Prop
 |_,[]=>True
 |la,i::r=>(i=B→la=true)∧Y3 A B (la||decide (i=A)) r
theorem CO (A B:Nat): ∀L,Y3 A B true L
 |[]=>trivial
 |i::r=>⟨fun _=>rfl,by simpa using CO A B r⟩
theorem Rc {A B:Nat} (h:A≠B): ∀L,Y3 A B false L∨Y3 B A false L
 |[]=> .inl trivial
 |i::r=>by
  by_cases ha:i=A
  ·subst ha
   exact .inl ⟨fun e=>absurd e h,by simpa using CO i B r⟩
  ·by_cases hb:i=B
   ·subst hb
    exact .inr ⟨fun e=>absurd e ha,by simpa using CO i A r⟩
   ·rcases Rc h r with h1|h1
    ·exact .inl ⟨fun e=>absurd e hb,by simpa [ha] using h1⟩
    ·exact .inr ⟨fun e=>absurd e ha,by simpa [hb] using h1⟩
theorem FH {A B:Nat}: ∀(fuel t:Nat) (listed:Array Bool) (a:Act) (w:World),A<listed.size→wpAny P .any (nn ops A B) Q fuel listed a w→
 Y3 A B (listed.getD A false) (Region.linearise.go .any ops fuel t listed [])→wpOps P ops Q (Region.linearise.go .any ops fuel t listed []) a w:=by
 intro fuel
 induction fuel with
 |zero=>intro t listed a w _ h _;simpa [Region.linearise.go,wpOps] using h.2
 |succ fuel ih=>
  intro t listed a w hs h hA
  obtain ⟨h₀,h₁⟩:=h
  simp only [Region.linearise.go] at hA⊢
  change wpOps P ops Q (match (Region.ready .any ops listed)[t%(Region.ready .any ops listed).length]? with
   |some i=>Region.linearise.go .any ops fuel (t/(Region.ready .any ops listed).length) (listed.setIfInBounds i true) [i]
   |none=>[].reverse) a w
  change Y3 A B (listed.getD A false) (match (Region.ready .any ops listed)[t%(Region.ready .any ops listed).length]? with
   |some i=>Region.linearise.go .any ops fuel (t/(Region.ready .any ops listed).length) (listed.setIfInBounds i true) [i]
   |none=>[].reverse) at hA
  cases hi:(Region.ready .any ops listed)[t%(Region.ready .any ops listed).length]? with
  |none=>
   have W9:Region.ready .any ops listed=[]:=by
    cases hr:Region.ready .any ops listed with
    |nil=>rfl
    |cons x xs=>
     rw [hr] at hi
     have dx:t%(x::xs).length<(x::xs).length:=Nat.mod_lt _ (by simp)
     simp at hi
     simp at dx
     omega
   have aaH:Region.ready .any (nn ops A B) listed=[]:=by
    cases hr:Region.ready .any (nn ops A B) listed with
    |nil=>rfl
    |cons x xs=>
     have:x∈Region.ready .any (nn ops A B) listed:=by rw [hr];simp
     have:=(CN.1 this).1
     rw [W9] at this;cases this
   simpa [wpOps] using h₀ aaH
  |some i=>
   rw [hi] at hA
   simp only [] at hA⊢
   rw [linearise_go_acc,List.reverse_singleton,List.singleton_append] at hA⊢
   obtain ⟨hA1,hA2⟩:=hA
   rw [wpOps_cons]
   have vo:=CN.2 ⟨List.mem_of_getElem? hi,hA1⟩
   refine wpOp_mono (fun a w hw=>ih _ _ a w (by simpa using hs) hw ?_) (N2 (h₁ i vo))
   have hg:(listed.setIfInBounds i true).getD A false=(listed.getD A false||decide (i=A)):=by
    rw [Array.getD_eq_getD_getElem?,Array.getD_eq_getD_getElem?,Array.getElem?_setIfInBounds]
    by_cases hia:i=A
    ·subst hia;simp [hs]
    ·simp [hia]
   rw [hg];exact hA2
theorem EE {id A B:Nat} {a:Act} {w:World} (hm:P.follows .mixedOrders=true) (cG:A≠B) (hA:A<ops.size) (hB:B<ops.size)
 (h1:wpAny P .any (nn ops A B) Q ops.size (Array.replicate ops.size false) a {w with drawn:=w.drawn+1})
 (h2:wpAny P .any (nn ops B A) Q ops.size (Array.replicate ops.size false) a {w with drawn:=w.drawn+1}):(Code.region id ops true).wp P Q a w:=
 wp_region_draw fun t=>by
  simp only [Region.schedule,hm,Bool.true_or,if_true]
  show wpOps P ops Q (Region.linearise.go .any ops ops.size t (Array.replicate ops.size false) []) a _
  rcases Rc cG (Region.linearise.go .any ops ops.size t (Array.replicate ops.size false) []) with h|h
  ·exact FH ops.size t _ a _ (by simpa using hA) h1 (by simpa [hA] using h)
  ·exact FH ops.size t _ a _ (by simpa using hB) h2 (by simpa [hB] using h)
theorem IY {c:Ctx} (hG:Good P c) (IZ:P.follows .mixedOrders=true) (G6:tB P c):Mh P c:=by
 refine ⟨fun id ops=>N1 hG G6 id ops,?_,?_⟩
 ·intro id ops l hd hp Z e st a w R K r Q h hK hQ
  refine Code.wp_mono ?_ (wp_region_any IZ (CK hG hd hp h hK))
  intro x a' w' hx
  cases x<;>first|exact hQ a' w' hx|exact hx.elim
 ·intro id ops A B o1 o2 l1 l2 cG hA hB hd1 S8 PY Fb Z e st a w R K r Q h ot uG hQ
  have w1:=CK hG hd1 PY h ot
  have w2:=CK hG S8 Fb h uG
  rw [FG] at w1 w2
  refine Code.wp_mono ?_ (EE IZ cG hA hB w1 w2)
  intro x a' w' hx
  cases x<;>first|exact hQ a' w' hx|exact hx.elim
end
end Dn
/-
  Functions of the library, by hand: copies of slices. Conditions: none.
-/
set_option linter.unusedSimpArgs false
set_option linter.unusedVariables false
namespace Dn
open Go
section
variable {P:Program} {c:Ctx} {Q:Exit→Act→World→Prop} {ops:Array Oper} {o:Oper} {a:Act} {w w':World}
theorem rH {i:Nat} {rest:List Nat} {v:Value} (hi:ops[i]? =some o) (hg:o.guard=none) (bH:(execOp a.eval o).run P w= .ok (.value v) w')
 (h:wpOps P ops Q rest (a.put o.dst v) w'):wpOps P ops Q (i::rest) a w:=by
 rw [wpOps_cons]
 unfold wpOp
 simp only [hi,Region.wanted,hg,if_true]
 left
 unfold Oper.wp
 rw [bH,Oper.upon_value];exact h
structure aI (o:Oper) (d:Nat) (op:Op):Prop where
 dst:o.dst=some d
 op:o.op=op
 guard:o.guard=none
theorem XO {key:Nat→Nat} {φ:Ph} {size:Nat} {v:Value} {xs:List MV} (iC:xI φ w) (dS:0<size) (hx:kD key φ [v] (.list xs)) (hw:rZ size xs=true): ∃news,Src (nv key φ) w size v xs news:=by
 generalize hv:[v]=vs at hx
 cases hx with
 |list ad cap _ aX off HM f g1 g2 g3 g4 g5=>
 simp at hv
 have TB: ∀i,i<xs.length→(f i).length=size:=by
  intro i hi
  rw [(g5 i hi).width]
  exact yt hw _ (List.getElem_mem hi)
 obtain ⟨cs,h1,h2⟩:=Cd TB g5
 refine ⟨cs,h1,ad,cap,hv,?_,?_⟩
 ·intro hn
  cases xs with
  |nil=>rfl
  |cons y ys=>have:=g2 (by simp);rw [hn] at this;cases this
 ·intro x hx j u hj
  have Eh:j<cs.length:=(List.getElem?_eq_some_iff.1 hj).1
  rw [h1.length] at Eh
  have Ce:0<xs.length:=by
   cases xs with
   |nil=>simp at Eh
   |cons y ys=>simp
  have Im:=g2 Ce
  rw [hx] at Im
  cases Im
  have hq:j/size<xs.length:=(Nat.div_lt_iff_lt_mul dS).2 Eh
  have hm:=Nat.mod_lt j dS
  have O7:j=j/size *size+j%size:=by rw [Nat.mul_comm];exact (Nat.div_add_mod j size).symm
  have e1:=h2 (j/size) (j%size) hq hm
  rw [←O7,hj] at e1
  have Qa:HM=size:=by rw [←g3 0 Ce,TB 0 Ce]
  have e2:=g4 (j/size) (j%size) hq (by rw [Qa];exact hm)
  rw [←e1,Qa,Nat.add_assoc,←O7] at e2
  have:=iC _ _ _ e2
  rw [Addr.add_mid];exact this
theorem N3 {t t':TypeId} {el:TypeId} {x:Operand} {ad:Option Addr} {n cap:Nat} (hu:P.underlying t=some (.slice el)) (ho:o.op= .binOp .eql t x (.const (.slice none 0 0)) t') (hx:a.eval x= .slice ad n cap):
 (execOp a.eval o).run P w= .ok (.value (.bool ad.isNone)) w:=by
 have he:a.eval (.const (.slice none 0 0))= .slice none 0 0:=rfl
 have iB: ∀d:Nat,(Op.equalIn (d+1) t (.slice ad n cap) (.slice none 0 0)).run P w= .ok ad.isNone w:=by
  intro d
  cases ad<;>simp [Op.equalIn,run_underlying hu]
 have hb:Go.binOp .eql t (.slice ad n cap) (.slice none 0 0)=(do pure (.bool (←Op.equal t (.slice ad n cap) (.slice none 0 0)))):=rfl
 have hg: ∀(x y:Operand),(eqGuard .eql t x y (.slice ad n cap) (.slice none 0 0)).run P w= .ok () w:=fun _ _=>rfl
 have h2:(Op.equal t (.slice ad n cap) (.slice none 0 0)).run P w= .ok ad.isNone w:=iB 9999
 unfold execOp
 simp only [ho]
 rw [hx,he]
 simp [hg,hb,h2]
theorem yH {f:FuncId} {fn:Func} {t:TypeId} {I E:TI} {i0 i1 i2 i3:Nat} {oA oB oC oD oE oF oG oH:Oper} {xs:List MV} (hT:j6 P c.ti) (hI:c.tv t=some I) (hL:I.w8=true) (hE:c.tv I.elem=some E) (vi:1≤E.bytes)
 (zT:c.qv (c.key f)=I.elem) (hg:c.dJ (c.key f)=false)
 (hf:P.funcs[f]? =some fn) (yC:(fn.name== "runtime.NumGoroutine")=false) (hn:fn.ntmps=8) (hr:fn.results= #[.tmp 2])
 (n0:fn.body=some (.seq (.region i0 #[oA] false) (.seq (.seq (.region i1 #[oB,oC] false) (.cond (.tmp 4) (.seq (.region i2 #[oD] false) .ret) .skip)) (.seq (.region i3 #[oE,oF,oG,oH] false) .ret))))
 (hA:aI oA 2 (.assign (.const (.slice none 0 0)))) (hB:aI oB 3 (.move (.tmp 0))) (hC:aI oC 4 (.binOp .eql t (.tmp 3) (.const (.slice none 0 0)) t)) (hD:aI oD 2 (.assign (.const (.slice none 0 0))))
 (hEo:aI oE 5 (.buildSlice t 0 #[])) (hF:aI oF 6 (.move (.tmp 0))) (hG:aI oG 7 (.call {callee:= .builtin .append,args:= #[.tmp 5,.tmp 6],argTypes:= #[t,t]})) (hH:aI oH 2 (.assign (.tmp 7)))
 (hw:rZ E.size xs=true) (mq:xs.length *E.bytes≤2^46):j8 P c f [.list xs] (.fresh xs):=by
 obtain ⟨hIt,PW⟩:=bD hI
 obtain ⟨mn,nq⟩:=bD hE
 obtain ⟨hu,E2,uW,_,dS⟩:=TI.lP (hT t I hIt) hL
 rw [mn] at uW
 cases uW
 intro φ W Z vs hz eE iC
 simp only [eg,hg,Bool.false_eq_true,if_false] at eE
 obtain ⟨v,u,rfl,⟨_,hx⟩,hu0⟩:=eE
 have hu0:u=[]:=hu0
 subst hu0
 obtain ⟨ad,cap,hv,zH,hnn⟩: ∃ad cap,v= .slice ad xs.length cap∧xs.length≤cap∧(0<xs.length→ad≠none):=by
  have Pb:=hx
  generalize wK:[v]=vs at Pb
  cases Pb with
  |list ad cap _ aX off HM f g1 g2 g3 g4 g5=>exact ⟨ad,cap,by simpa using wK,g1,fun h0 hn=>by rw [g2 h0] at hn;cases hn⟩
 have bH:(callFunc f [v].toArray).run P W= .ok (.enter f #[v]) W:=by
  have B9: ¬fn.name= "runtime.NumGoroutine" :=by simpa using yC
  simp [callFunc,hf,B9,n0]
 unfold eU
 rw [bH]
 refine calls_of_wp hf n0 ?_
 rw [hn]
 have ha0:({tmps:= #[v]++Array.replicate (8-(#[v]:Array Value).size) undef,defers:=[]}:Act)={tmps:= #[v,undef,undef,undef,undef,undef,undef,undef],defers:=[]}:=rfl
 rw [ha0]
 have aeT:List.range (#[oA]:Array Oper).size=[0]:=rfl
 have aeU:List.range (#[oB,oC]:Array Oper).size=[0,1]:=rfl
 have aeV:List.range (#[oE,oF,oG,oH]:Array Oper).size=[0,1,2,3]:=rfl
 have aeW:List.range (#[oD]:Array Oper).size=[0]:=rfl
 have fin: ∀(a:Act) (W':World) (v':Value) (cells:List Value),a.defers=[]→a.tmps.getD 2 undef=v'→(∃φ',Trans Z φ W φ' W'∧xI φ' W'∧lR c Z φ' W' (c.key f) v' (.fresh xs))→
  bodyPost P fn (fun x vW=> ∃v,x= .returned v∧ ∃φ',Trans Z φ W φ' vW∧xI φ' vW∧lR c Z φ' vW (c.key f) v (.fresh xs)) .ret a W':=by
  intro a W' v' cells hd h2 h3
  refine ⟨hd,v',?_,v',rfl,h3⟩
  have Ie:a.tmps[2]?.getD undef=v':=by simpa using h2
  simp [results,hr,Ie]
 refine wp_seq (wp_region ?_)
 rw [aeT]
 refine rH (o:=oA) rfl hA.guard (v:= .slice none 0 0) (w':=W) (by simp [execOp,hA.op];rfl) ?_
 rw [hA.dst]
 refine wp_seq (wp_seq (wp_region ?_))
 rw [aeU]
 refine rH (o:=oB) rfl hB.guard (v:=v) (w':=W) (by simp [execOp,hB.op];rfl) ?_
 rw [hB.dst]
 refine rH (o:=oC) rfl hC.guard (v:= .bool ad.isNone) (w':=W) (N3 hu hC.op (by rw [←hv];rfl)) ?_
 rw [hC.dst]
 refine wp_cond (t:=ad.isNone) rfl ?_
 cases Im:ad.isNone with
 |true=>
  have Im:ad=none:=by simpa using Im
  have hxs:xs=[]:=by
   cases xs with
   |nil=>rfl
   |cons y ys=>exact absurd Im (hnn (by simp))
  simp only [if_true]
  refine wp_seq (wp_region ?_)
  rw [aeW]
  refine rH (o:=oD) rfl hD.guard (v:= .slice none 0 0) (w':=W) (by simp [execOp,hD.op];rfl) ?_
  rw [hD.dst]
  refine wp_ret ?_
  refine fin _ W (.slice none 0 0) [] rfl rfl ⟨φ,.refl _ _ _,iC,?_⟩
  show cF c (bw.plain Z) (nv c.key φ) W _ ⟨c.qv (c.key f),false,xs⟩
  rw [zT,hxs]
  exact ⟨E,[],mn,nq,⟨by simp,.inl ⟨rfl,rfl⟩⟩,rfl,fun aX hb=>by simp [Value.ownBlock] at hb⟩
 |false=>
  simp only [Bool.false_eq_true,if_false]
  refine wp_skip ?_
  refine wp_seq (wp_region ?_)
  rw [aeV]
  have aaJ:=L0 (P:=P) (c:=c) (w:=W) (t:=t) (I:=I) (vs:=[]) (parts:= #[]) hu mn nq dS hT (by simp) (by simp) rfl
  simp only [List.length_nil,List.flatMap_nil] at aaJ
  refine rH (o:=oE) rfl hEo.guard (v:= .slice (some ⟨W.heap.size,0,none⟩) 0 0) (w':=W.alloc (.cells #[] I.elem)) (by simp [execOp,hEo.op,aaJ]) ?_
  rw [hEo.dst]
  refine rH (o:=oF) rfl hF.guard (v:=v) (w':=W.alloc (.cells #[] I.elem)) (by simp [execOp,hF.op];rfl) ?_
  rw [hF.dst]
  obtain ⟨news,sd⟩:=XO iC dS hx hw
  have HS:cZ W (W.alloc (.cells #[] I.elem)):= .alloc W _ _
  have aaK:Src (nv c.key φ) (W.alloc (.cells #[] I.elem)) E.size v xs news:=by
   obtain ⟨ad',WW,q1,q2,q3⟩:=sd.val
   exact ⟨sd.W8,ad',WW,q1,q2,fun x hx j u hj=>HS.cell (q3 x hx j u hj)⟩
  have dk:(W.alloc (.cells #[] I.elem)).ownsRow 0 I.elem E.size (.slice (some ⟨W.heap.size,0,none⟩) 0 0) 0 []:=
   ⟨by simp,.inr ⟨W.heap.size,0, #[],rfl,Nat.zero_le _,jF W _,Nat.le_refl _,Nat.zero_le _,by simp,by simp⟩⟩
  obtain ⟨v',W',FF,se⟩:=xH (P:=P) (c:=c) (ty:=oG.type) (e:=nv c.key φ) hu mn nq dS hT vi dk aaK (by simpa using mq)
  refine rH (o:=oG) rfl hG.guard (v:=v') (w':=W') (by
   have e1: ∀(a:Act),a.eval (.tmp 5)= .slice (some ⟨W.heap.size,0,none⟩) 0 0→a.eval (.tmp 6)=v→(execOp a.eval oG).run P (W.alloc (.cells #[] I.elem))= .ok (.value v') W':=by
    intro a h5 h6
    simp [execOp,hG.op,resolve,invoke,builtin,h5,h6,FF]
   exact e1 _ rfl rfl) ?_
  rw [hG.dst]
  refine rH (o:=oH) rfl hH.guard (v:=v') (w':=W') (by simp [execOp,hH.op];rfl) ?_
  rw [hH.dst]
  refine wp_ret ?_
  refine fin _ W' v' [] rfl rfl ?_
  have pI:W.heap.size≤W'.heap.size:=Nat.le_trans HS.size se.size
  have hold: ∀b,b<W.heap.size→W'.heap[b]? =W.heap[b]? :=by
   intro b hb
   rw [se.zv b (Nat.lt_of_lt_of_le hb HS.size) (by simp [Value.ownBlock];omega)]
   exact HS.zv b hb
  refine ⟨φ,⟨.refl _,fun b _ hb=>hold b hb,fun _ _ _=>rfl,pI,HS.rest.trans se.rest⟩,?_,?_⟩
  ·intro b o u hbo
   have h1:=iC b o u hbo
   rw [World.cell?_of_block (hold b (World.block_lt_of_cell? W _ h1))];exact h1
  ·show cF c (bw.plain Z) (nv c.key φ) W' v' ⟨c.qv (c.key f),false,xs⟩
   rw [zT]
   refine ⟨E,news,mn,nq,by simpa using se.own,sd.W8,fun aX hb=> ?_⟩
   have iM:W.heap.size≤aX:=by
    rcases se.place with h1|h1
    ·rw [h1] at hb;simp [Value.ownBlock] at hb;omega
    ·rw [h1] at hb
     cases hb
     exact HS.size
   refine ⟨hz aX iM,fun off u hu=> ?_,fun hc=>hc.elim⟩
   have:=World.block_lt_of_cell? W _ (iC _ _ _ hu)
   have:aX<W.heap.size:=this
   omega
end
end Dn
/-
  Tables of functions. Conditions: none.
-/
namespace Dn
open Go
structure ap (P:Program) (c:Ctx) (g:Nat→List MV→Option MV):Prop where
 all: ∀f ms r,g (c.key f) ms=some r→j8 P c f ms r
abbrev br (n:Nat) (F:List MV→Option MV) (g:Nat→List MV→Option MV):Nat→List MV→Option MV:=fun k ms=>match Nat.beq k n with|true=>F ms|false=>g k ms
theorem ap.add {P:Program} {c:Ctx} {g:Nat→List MV→Option MV} {n:Nat} {F:List MV→Option MV} (h:ap P c g) (hF: ∀f ms r,c.key f=n→F ms=some r→j8 P c f ms r):ap P c (br n F g):=by
 refine ⟨fun f ms r hr=> ?_⟩
 unfold br at hr
 cases hk:Nat.beq (c.key f) n with
 |true=>simp only [hk] at hr;exact hF f ms r (Nat.eq_of_beq_eq_true hk) hr
 |false=>simp only [hk] at hr;exact h.all f ms r hr
structure yI (c c':Ctx):Prop where
 ti:c'.ti=c.ti
 key:c'.key=c.key
 dJ:c'.dJ=c.dJ
 fresh:c'.fresh=c.fresh
 qv:c'.qv=c.qv
 fk:c'.fk=c.fk
 mt:c'.mt=c.mt
 sig:c'.sig=c.sig
 Gq:c'.Gq=c.Gq
theorem cF.nx {c c':Ctx} (h:c'.ti=c.ti) {Z:bw} {e:Env} {w:World} {v:Value} {o:mr} (hs:cF c Z e w v o):cF c' Z e w v o:=by
 obtain ⟨I,cells,h1,h2⟩:=hs.row
 exact ⟨I,cells,by rw [h];exact h1,h2⟩
theorem lR.nx {c c':Ctx} (h:yI c c') {Z:Nat→Prop} {φ:Ph} {w:World} {k:Nat} {v:Value} {r:MV} (hs:lR c Z φ w k v r):lR c' Z φ w k v r:=by
 cases r<;>simp only [lR,h.key,h.qv] at hs⊢ <;>first|exact hs|exact hs.nx h.ti
theorem mB.nx {c c':Ctx} (h:yI c c') {Z:Nat→Prop} {φ:Ph} {w:World} {aX:Nat} {ks:List LK} {ls:List MV} (hs:mB c Z φ w aX ks ls):mB c' Z φ w aX ks ls:=by
 obtain ⟨cs,m,E,arr,T,h1,h2,h3,h4,h5,h6,h7⟩:=hs
 refine ⟨cs,m,E,arr,T,h1,h2,h3,h4,by rw [h.key];exact h5,fun f o ho=>⟨?_,(h6 f o ho).2⟩,h7⟩
 rw [h.key]
 exact (h6 f o ho).1.nx h.ti
theorem xf.nx {c c':Ctx} (h:yI c c') {Z:Nat→Prop} {φ:Ph} {w:World} {k:Nat} {vs:List Value} {v:Value} {r:MV} (hs:xf c Z φ w k vs v r):xf c' Z φ w k vs v r:=by
 cases r<;>simp only [xf] at hs⊢ <;>first|exact hs.nx h|skip
 obtain ⟨h1,pos,ks,aX,off,h2,h3,h4⟩:=hs
 exact ⟨h1.nx h,pos,ks,aX,off,by rw [h.sig];exact h2,h3,h4.nx h⟩
theorem eg.nx {c c':Ctx} (h:yI c c') {Z:Nat→Prop} {φ:Ph} {w:World} {k:Nat} {vs:List Value} {ms:List MV} (hs:eg c' Z φ w k vs ms):eg c Z φ w k vs ms:=by
 unfold eg at hs⊢
 rw [h.dJ] at hs
 split
 ·rename_i hg
  rw [if_pos hg] at hs
  rcases hs with ⟨v0,v1,v2,xs,m1,ys,h1,h2,h3,h4,h5,h6⟩|⟨v0,v1,v2,xs,m1,m2,h1,h2,h3,h4,h5,h6⟩|⟨pos,ks,off,ls,aX,h1,h2,h3,h4,h5⟩
  ·rw [h.key,h.qv] at h3 h5
   rw [h.key] at h4
   exact .inl ⟨v0,v1,v2,xs,m1,ys,h1,h2,h3.nx h.ti.symm,h4,h5.nx h.ti.symm,h6⟩
  ·rw [h.key,h.qv] at h4
   rw [h.key] at h5 h6
   exact .inr (.inl ⟨v0,v1,v2,xs,m1,m2,h1,h2,h3,h4.nx h.ti.symm,h5,h6⟩)
  ·refine .inr (.inr ⟨pos,ks,off,ls,aX,by rw [←h.sig];exact h1,h2,h3,by rw [←h.key];exact h4,?_⟩)
   obtain ⟨cs,m,E,arr,T,k1,k2,k3,k4,k5,k6,k7⟩:=h5
   refine ⟨cs,m,E,arr,T,k1,k2,k3,k4,by rw [←h.key];exact k5,fun f o ho=>⟨?_,(k6 f o ho).2⟩,k7⟩
   rw [←h.key]
   exact (k6 f o ho).1.nx h.ti.symm
 ·rename_i hg
  rw [if_neg hg,h.key] at hs
  exact hs
theorem eU.mono {P:Program} {f:FuncId} {args:Array Value} {w:World} {R R':Value→World→Prop} (hc:eU P f args w R) (h: ∀v w',R v w'→R' v w'):eU P f args w R':=by
 unfold eU at hc⊢
 split
 ·rename_i iB
  rw [iB] at hc
  exact Calls.mono hc (fun x vW ⟨v,e,hr⟩=>⟨v,e,h v vW hr⟩)
 ·rename_i iB
  rw [iB] at hc
  exact h _ _ hc
 ·rename_i h1 h2
  split at hc
  ·rename_i iB;exact absurd iB (h1 _ _ _)
  ·rename_i iB;exact absurd iB (h2 _ _)
  ·exact hc
theorem j8.nx {P:Program} {c c':Ctx} {f:Nat} {ms:List MV} {r:MV} (h:yI c c') (hs:j8 P c f ms r):j8 P c' f ms r:=by
 intro φ w Z vs hz ha hi
 rw [h.key] at ha
 refine (hs φ w Z vs hz (ha.nx h) hi).mono ?_
 rintro v w' ⟨φ',h1,h2,h3⟩
 rw [h.key]
 exact ⟨φ',h1,h2,h3.nx h⟩
theorem yI.symm {c c':Ctx} (h:yI c c'):yI c' c:=⟨h.ti.symm,h.key.symm,h.dJ.symm,h.fresh.symm,h.qv.symm,h.fk.symm,h.mt.symm,h.sig.symm,h.Gq.symm⟩
theorem tA.nx {P:Program} {c c':Ctx} (h:yI c c') {g:Nat} {lb:Array Value} {S:Type} {Inv:S→(Nat→Prop)→Ph→World→Prop} {step:S→MV→Option (Bool×S)} (hp:tA P c' g lb Inv step):tA P c g lb Inv step:=
 ⟨fun h1 h2 h3 h4 h5=>hp.call h1 h2 h3 (by rw [h.key];exact h4) h5,hp.frame,hp.mono⟩
theorem tB.nx {P:Program} {c c':Ctx} (h:yI c c') (hd:tB P c):tB P c':=by
 intro f hf
 rw [h.Gq] at hf
 have hx:=hd f hf
 refine ⟨?_⟩
 intro S Inv step g lb hp v0 xs ys w Z0 φ0 s0 s' h1 h2 h3 h4 h5 h6 h7
 rw [h.key,h.qv] at h2
 refine (hx.run (hp.nx h) h1 (h2.nx h.ti.symm) h3 h4 h5 h6 h7).mono ?_
 rintro v W ⟨Z,φ,hW,hF,hb⟩
 refine ⟨Z,φ,⟨hW.inv,hW.new,hW.sub,hW.mZ,hW.tr,hW.free⟩,?_,hb⟩
 rw [h.key,h.qv]
 exact hF.nx h.ti
def I3 (c:Ctx) (n:Nat) (fn:Func) (bQ:List (List Kd)):Bool:=
 !(fn.name== "runtime.NumGoroutine")&&Nat.beq c.n fn.ntmps&&Nat.ble (fn.params.size+bQ.length) fn.ntmps&&!c.dJ n
theorem ap.body {P:Program} {c c':Ctx} {g:Nat→List MV→Option MV} {n:Nat} {fn:Func} {bQ:List (List Kd)} (h:ap P c g) (hl:yI c c') (Wa:c'.g=g) (qw:j6 P c.ti) (iB:Kp P c.ti) (GD: ∀t k,c.fk t=some k→P.underlying t=some (.float k)) (Mg:zK P c) (IZ:P.follows .mixedOrders=true) (G6:tB P c)
 (hf:P.funcs[n]? =some fn) (hh:I3 c' n fn bQ=true) (yv: ∀f,c.key f=f):ap P c (br n (E6 c' bQ none fn) g):=by
 have hG:Good P c':=by
  refine ⟨by rw [hl.ti];exact qw,by rw [hl.ti];exact iB,fun f ms r hr=> ?_,by rw [hl.fk];exact GD,fun t s hs=>Mg t s ?_⟩
  ·rw [Wa,hl.key] at hr
   exact (h.all f ms r hr).nx hl
  ·rw [←hs];unfold s8 Ctx.tv;rw [hl.mt,hl.ti]
 refine h.add (fun f ms r hk hr=> ?_)
 rw [yv] at hk
 subst hk
 simp only [I3,Bool.and_eq_true,Bool.not_eq_true'] at hh
 obtain ⟨⟨⟨h1,h2⟩,h3⟩,h4⟩:=hh
 exact (T0 hG (IY hG IZ (G6.nx hl)) hf h1 (Nat.eq_of_beq_eq_true h2) (Nat.le_of_ble_eq_true h3) (by rw [hl.key,yv];exact h4) hr).nx hl.symm
def Mt (c:Ctx) (n:Nat) (fn:Func) (bQ:List (List Kd)):Bool:=
 !(fn.name== "runtime.NumGoroutine")&&Nat.beq c.n fn.ntmps&&Nat.ble fn.ntmps 1000000&&Nat.ble (fn.params.size+bQ.length) fn.ntmps&&c.dJ n
theorem ap.J0 {P:Program} {c:Ctx} {g:Nat→List MV→Option MV} {n pos:Nat} {ks:List LK} {fn:Func} {bQ:List (List Kd)} {F:List MV→Option MV} (h:ap P c g) (qw:j6 P c.ti) (iB:Kp P c.ti) (GD: ∀t k,c.fk t=some k→P.underlying t=some (.float k)) (Mg:zK P c) (IZ:P.follows .mixedOrders=true) (G6:tB P c)
 (hf:P.funcs[n]? =some fn) (wL:c.sig n=some (pos,ks)) (yv: ∀f,c.key f=f) (hF: ∀{ms r},F ms=some r→ ∃c':Ctx,yI c c'∧c'.g=g∧Mt c' n fn bQ=true∧E5 c' bQ pos ks fn ms=some r):ap P c (br n F g):=by
 refine h.add (fun f ms r hk hr=> ?_)
 rw [yv] at hk
 subst hk
 obtain ⟨c',hl,Wa,hh,hr⟩:=hF hr
 have hG:Good P c':=by
  refine ⟨by rw [hl.ti];exact qw,by rw [hl.ti];exact iB,fun f ms r hr=> ?_,by rw [hl.fk];exact GD,fun t s hs=>Mg t s ?_⟩
  ·rw [Wa,hl.key] at hr
   exact (h.all f ms r hr).nx hl
  ·rw [←hs];unfold s8 Ctx.tv;rw [hl.mt,hl.ti]
 simp only [Mt,Bool.and_eq_true,Bool.not_eq_true'] at hh
 obtain ⟨⟨⟨⟨h1,h2⟩,Ie⟩,h3⟩,h4⟩:=hh
 exact (Q1 hG (IY hG IZ (G6.nx hl)) hf h1 (Nat.eq_of_beq_eq_true h2) (Nat.le_of_ble_eq_true Ie) (Nat.le_of_ble_eq_true h3) (by rw [hl.key,yv];exact h4) (by rw [hl.sig,hl.key,yv];exact wL) hr).nx hl.symm
end Dn
/-
  Steps through a function of the library by hand. Conditions: none.
-/
set_option linter.unusedSimpArgs false
set_option linter.unusedVariables false
namespace Dn
open Go
def vp (σ:Nat→Value) (d:Nat) (v:Value):Nat→Value:=fun t=>bif Nat.beq t d then v else σ t
def ev (σ:Nat→Value):Operand→Value
 | .tmp t=>σ t
 | .const v=>v
 | .global g=> .pointer (some ⟨g,0,none⟩)
 | .func f=> .func (.func f) #[] #[]
structure Tm (a:Act) (n:Nat) (σ:Nat→Value):Prop where
 defers:a.defers=[]
 size:a.tmps.size=n
 get: ∀t,a.tmps.getD t undef=σ t
theorem Tm.eval {a:Act} {n:Nat} {σ:Nat→Value} (h:Tm a n σ):a.eval=ev σ:=by
 funext x
 cases x with
 |tmp t=>exact h.get t
 |_=>rfl
theorem Tm.put {a:Act} {n:Nat} {σ:Nat→Value} (h:Tm a n σ) {d:Nat} (hd:d<n) (v:Value):Tm (a.put (some d) v) n (vp σ d v):=by
 refine ⟨h.defers,by simp [Act.put,h.size],fun t=> ?_⟩
 show (a.tmps.setIfInBounds d v).getD t undef=bif Nat.beq t d then v else σ t
 by_cases ht:t=d
 ·subst ht
  have:t<a.tmps.size:=by rw [h.size];exact hd
  simp [this]
 ·have hb:Nat.beq t d=false:=by
   cases hq:Nat.beq t d with
   |false=>rfl
   |true=>exact absurd (Nat.eq_of_beq_eq_true hq) ht
  rw [hb]
  have:=h.get t
  simp only [Array.getD_eq_getD_getElem?,Array.getElem?_setIfInBounds_ne (Ne.symm ht),cond_false] at this⊢
  exact this
theorem tm3 (v0 v1 v2:Value) (k:Nat):Tm {tmps:= #[v0,v1,v2]++Array.replicate k undef,defers:=[]} (k+3) (vp (vp (vp (fun _=>undef) 0 v0) 1 v1) 2 v2):=by
 refine ⟨rfl,by simp [Nat.add_comm],fun q=> ?_⟩
 by_cases h0:q=0
 ·subst h0;show (#[v0,v1,v2]++Array.replicate k undef).getD 0 undef=v0;simp [Array.getElem?_append]
 by_cases h1:q=1
 ·subst h1;show (#[v0,v1,v2]++Array.replicate k undef).getD 1 undef=v1;simp [Array.getElem?_append]
 by_cases h2:q=2
 ·subst h2;show (#[v0,v1,v2]++Array.replicate k undef).getD 2 undef=v2;simp [Array.getElem?_append]
 have e: ∀{x y:Nat},x≠y→Nat.beq x y=false:=fun {x y} h=>by
  cases hq:Nat.beq x y with
  |false=>rfl
  |true=>exact absurd (Nat.eq_of_beq_eq_true hq) h
 simp only [vp,e h0,e h1,e h2,cond_false]
 have h3:3≤q:=by omega
 simp [Array.getElem?_append,Array.getElem?_replicate,show¬q<3 by omega]
 by_cases hk:q-3<k<;>simp [hk]
section
variable {P:Program} {Q:Exit→Act→World→Prop} {ops:Array Oper} {o:Oper} {a:Act} {w w':World} {n:Nat} {σ:Nat→Value}
theorem Tm.step {i d:Nat} {op:Op} {rest:List Nat} {v:Value} (ay:Tm a n σ) (hi:ops[i]? =some o) (ho:aI o d op) (hd:d<n) (bH:(execOp (ev σ) o).run P w= .ok (.value v) w')
 (h: ∀a',Tm a' n (vp σ d v)→wpOps P ops Q rest a' w'):wpOps P ops Q (i::rest) a w:=by
 refine rH hi ho.guard (v:=v) (w':=w') (by rw [ay.eval];exact bH) ?_
 rw [ho.dst]
 exact h _ (ay.put hd v)
theorem aH {d:Nat} {x:Operand} {e:Operand→Value} (ho:aI o d (.move x)) (w:World):(execOp e o).run P w= .ok (.value (e x)) w:=by simp [execOp,ho.op]
theorem cv {d:Nat} {x:Operand} {e:Operand→Value} (ho:aI o d (.assign x)) (w:World):(execOp e o).run P w= .ok (.value (e x)) w:=by simp [execOp,ho.op]
theorem lE {d:Nat} {t el:TypeId} {x:Operand} {e:Operand→Value} {ad:Option Addr} {m c:Nat} (ho:aI o d (.call {callee:= .builtin .len,args:= #[x],argTypes:= #[t]})) (hu:P.underlying t=some (.slice el)) (hx:e x= .slice ad m c) (w:World):
 (execOp e o).run P w= .ok (.value (.int .i64 m)) w:=by simp [execOp,ho.op,resolve,invoke,builtin,hx,Builtin.len_,goInt,run_underlying hu]
theorem Mu {d:Nat} {t el:TypeId} {x:Operand} {e:Operand→Value} {ad:Option Addr} {m c:Nat} (ho:aI o d (.call {callee:= .builtin .cap,args:= #[x],argTypes:= #[t]})) (hu:P.underlying t=some (.slice el)) (hx:e x= .slice ad m c) (w:World):
 (execOp e o).run P w= .ok (.value (.int .i64 c)) w:=by simp [execOp,ho.op,resolve,invoke,builtin,hx,Builtin.cap_,goInt,run_underlying hu]
theorem vq {d:Nat} {op:BinOp} {t t':TypeId} {x y:Operand} {e:Operand→Value} {k:IntKind} {p q:Int} {v:Value} (ho:aI o d (.binOp op t x y t')) (hx:e x= .int k p) (hy:e y= .int k q)
 (hv: ∀w:World,(Go.binOp op t (.int k p) (.int k q)).run P w= .ok v w) (w:World):(execOp e o).run P w= .ok (.value v) w:=by
 have hg:(eqGuard op t x y (.int k p) (.int k q)).run P w= .ok () w:=by cases op<;>rfl
 simp [execOp,ho.op,hx,hy,hg,hv]
theorem nL {d:Nat} {t t':TypeId} {x y:Operand} {e:Operand→Value} {p q:Int} (ho:aI o d (.binOp .eql t x y t')) (hx:e x= .int .i64 p) (hy:e y= .int .i64 q) (w:World):
 (execOp e o).run P w= .ok (.value (.bool (decide (p=q)))) w:=vq ho hx hy (fun w=>by simp [Go.binOp,Op.intCmp];rfl) w
theorem I4 {d:Nat} {t t':TypeId} {x y:Operand} {e:Operand→Value} {p q:Int} (ho:aI o d (.binOp .gtr t x y t')) (hx:e x= .int .i64 p) (hy:e y= .int .i64 q) (w:World):
 (execOp e o).run P w= .ok (.value (.bool (decide (q<p)))) w:=vq ho hx hy (fun w=>by simp [Go.binOp,Op.intCmp]) w
theorem jh {d:Nat} {t t':TypeId} {x y:Operand} {e:Operand→Value} {p q:Nat} (ho:aI o d (.binOp .add t x y t')) (hx:e x= .int .i64 p) (hy:e y= .int .i64 q) (hl:p+q<2^63) (w:World):
 (execOp e o).run P w= .ok (.value (.int .i64 ((p+q:Nat):Int))) w:=vq ho hx hy (fun w=>by
  have:IntKind.i64.wrap ((p:Int)+(q:Int))=((p+q:Nat):Int):=by rw [IntKind.wrap_i64];omega
  simp [Go.binOp,Op.intArith,this]) w
theorem Re {d:Nat} {t t':TypeId} {x y:Operand} {e:Operand→Value} {p q:Nat} (ho:aI o d (.binOp .sub t x y t')) (hx:e x= .int .i64 p) (hy:e y= .int .i64 q) (hl:p<2^63) (hq:q≤p) (w:World):
 (execOp e o).run P w= .ok (.value (.int .i64 ((p-q:Nat):Int))) w:=vq ho hx hy (fun w=>by
  have:IntKind.i64.wrap ((p:Int)-(q:Int))=((p-q:Nat):Int):=by rw [IntKind.wrap_i64];omega
  simp [Go.binOp,Op.intArith,this]) w
theorem Mv {d:Nat} {t:TypeId} {x:Operand} {e:Operand→Value} {b:Bool} (ho:aI o d (.unOp .not t x)) (hx:e x= .bool b) (w:World):
 (execOp e o).run P w= .ok (.value (.bool (!b))) w:=by simp [execOp,ho.op,hx,Op.unary]
theorem vr {d:Nat} {t el:TypeId} {x y:Operand} {e:Operand→Value} {ad:Option Addr} {m c l size:Nat} {i:TypeInfo} (ho:aI o d (.slice t x (some y) none none)) (hu:P.underlying t=some (.slice el)) (hi:P.info? el=some i) (hs:i.size=size)
 (hx:e x= .slice ad m c) (hy:e y= .int .i64 l) (hl:l≤m) (w:World):(execOp e o).run P w= .ok (.value (.slice (if c=l then ad else ad.map (·.add (l *size))) (m-l) (c-l))) w:=by
 simp [execOp,ho.op,Instr.sliceAt,Instr.slice,run_underlying hu,hx,hy,Go.sizeOf,typeInfo,hi,hs,Instr.sliceBounds,Instr.sliceBound,asIntOf,hl]
theorem yJ {d:Nat} {t el:TypeId} {x y:Operand} {e:Operand→Value} {ad:Option Addr} {m c l size:Nat} {i:TypeInfo} (ho:aI o d (.slice t x none (some y) none)) (hu:P.underlying t=some (.slice el)) (hi:P.info? el=some i) (hs:i.size=size)
 (hx:e x= .slice ad m c) (hy:e y= .int .i64 l) (hl:l≤c) (w:World):(execOp e o).run P w= .ok (.value (.slice ad l c)) w:=by
 have h0: ∀q:Addr,q.add 0=q:=fun q=>by obtain ⟨b,o,s⟩:=q;cases s<;>simp [Addr.add]
 have:(if c=0 then ad else ad.map (·.add (0 *size)))=ad:=by
  cases ad<;>simp [h0]
 simp [execOp,ho.op,Instr.sliceAt,Instr.slice,run_underlying hu,hx,hy,Go.sizeOf,typeInfo,hi,hs,Instr.sliceBounds,Instr.sliceBound,asIntOf,hl]
 cases ad<;>simp [h0]
theorem mi {d:Nat} {t el:TypeId} {x y:Operand} {e:Operand→Value} {g m c l size:Nat} {i:TypeInfo} (ho:aI o d (.slice t x (some y) none none)) (hu:P.underlying t=some (.slice el)) (hi:P.info? el=some i) (hs:i.size=size)
 (hx:e x= .slice (some ⟨g,0,none⟩) m c) (hy:e y= .int .i64 l) (hl:l≤m) (hc:l<c) (w:World):(execOp e o).run P w= .ok (.value (.slice (some ⟨g,l *size,none⟩) (m-l) (c-l))) w:=by
 rw [vr ho hu hi hs hx hy hl w]
 have: ¬c=l:=by omega
 have h0:(⟨g,0,none⟩:Addr).add (l *size)=⟨g,l *size,none⟩:=by
  have:=Addr.add_mid g 0 (l *size)
  rwa [Nat.zero_add] at this
 simp [this,h0]
theorem Ul {d:Nat} {x y:Operand} {t1 t2:TypeId} {f:FuncId} {e:Operand→Value} {v1 v2 v:Value} (ho:aI o d (.call {callee:= .value (.func f),args:= #[x,y],argTypes:= #[t1,t2]})) (he:e (.func f)= .func (.func f) #[] #[]) (hx:e x=v1) (hy:e y=v2)
 (h:(callFunc f #[v1,v2]).run P w= .ok (.value v) w'):(execOp e o).run P w= .ok (.value v) w':=by
 simp [execOp,ho.op,resolve,invoke,builtin,he,hx,hy,Deferred.ofValue,h]
theorem CP {d:Nat} {x y:Operand} {t1 t2:TypeId} {e:Operand→Value} {v1 v2 v:Value} (ho:aI o d (.call {callee:= .builtin .append,args:= #[x,y],argTypes:= #[t1,t2]})) (hx:e x=v1) (hy:e y=v2)
 (h:(Builtin.append_ #[t1,t2] o.type #[v1,v2]).run P w= .ok v w'):(execOp e o).run P w= .ok (.value v) w':=by
 simp [execOp,ho.op,resolve,invoke,builtin,hx,hy,h]
theorem yK {d:Nat} {x y:Operand} {t1 t2:TypeId} {e:Operand→Value} {v1 v2 v:Value} (ho:aI o d (.call {callee:= .builtin .copy,args:= #[x,y],argTypes:= #[t1,t2]})) (hx:e x=v1) (hy:e y=v2)
 (h:(Builtin.copy_ #[t1,t2] o.type #[v1,v2]).run P w= .ok v w'):(execOp e o).run P w= .ok (.value v) w':=by
 simp [execOp,ho.op,resolve,invoke,builtin,hx,hy,h]
theorem nM {dT sT ty elem t:TypeId} {g o Um XP Un XQ size k:Nat} {a:Addr} {cM:Array Value} {cs:List Value} {i:TypeInfo} (hu:P.underlying dT=some (.slice elem)) (hi:P.info? elem=some i) (hs:i.size=size)
 (hg:w.heap[g]? =some (.cells cM t (0,0))) (hk:Nat.min Un Um=k) (hn:cs.length=k *size)
 (sd: ∀(j:Nat) v,cs[j]? =some v→w.cell? (a.add j)=some v) (vf:o+cs.length≤cM.size) (h1: ∀v∈cs,v.oneCell'=true):
 (Builtin.copy_ #[dT,sT] ty #[.slice (some ⟨g,o,none⟩) Um XP,.slice (some a) Un XQ]).run P w=
  .ok (goInt k) (w.setRow g (cM.toList.take o++cs++cM.toList.drop (o+cs.length)).toArray):=by
 have hl:=run_loadCells_list (P:=P) w a cs sd
 have dH:=run_storeCells_at P g o t cs 0 cM w hg (by simpa using vf) h1
 simp only [Nat.add_zero] at dH
 simp [Builtin.copy_,run_underlying hu,Builtin.lenOf,Builtin.firstCells,Go.sizeOf,typeInfo,hi,hs,hk,←hn,hl,dH]
def I5 (ops:Array Oper):Nat→Nat→Array Bool→Bool
 |0,i,listed=>(Region.ready .any ops (listed.setIfInBounds i true)).isEmpty&&(Region.ready .any ops listed==[i])
 |k+1,i,listed=>Region.free .any ops listed i&&(Region.ready .any ops listed).contains i&&I5 ops k (i+1) (listed.setIfInBounds i true)
def Mw (ops:Array Oper):Bool:=Region.noSelect ops&&Nat.blt 0 ops.size&&I5 ops (ops.size-1) 0 (Array.replicate ops.size false)
structure Mx (ops:Array Oper) (k i:Nat) (listed:Array Bool):Prop where
 sel:Region.noSelect ops=true
 ord:I5 ops k i listed=true
theorem Tm.draw {N:Act→World→Prop} {i d:Nat} {op:Op} {k:Nat} {listed:Array Bool} {v:Value} (ay:Tm a n σ) (hi:ops[i]? =some o) (ho:aI o d op) (hd:d<n) (hb:Mx ops (k+1) i listed) (bH: ∀w,(execOp (ev σ) o).run P w= .ok (.value v) w)
 (h: ∀a',Tm a' n (vp σ d v)→Mx ops k (i+1) (listed.setIfInBounds i true)→wpAny P .any ops (o9 N) (k+1) (listed.setIfInBounds i true) a' w):wpAny P .any ops (o9 N) (k+2) listed a w:=by
 obtain ⟨hs,hb⟩:=hb
 simp only [I5,Bool.and_eq_true] at hb
 obtain ⟨⟨h1,h2⟩,h3⟩:=hb
 refine wpAny_take hi hs h1 h2 (fun c a w hq=>hq.elim) (v:=v) (.inl ⟨by simp [Region.wanted,ho.guard],fun w=>by rw [ay.eval];exact bH w⟩) ?_
 rw [ho.dst]
 exact h _ (ay.put hd v) ⟨hs,h3⟩
theorem Tm.last {N:Act→World→Prop} {i d:Nat} {op:Op} {listed:Array Bool} {v:Value} (ay:Tm a n σ) (hi:ops[i]? =some o) (ho:aI o d op) (hd:d<n) (hb:Mx ops 0 i listed) (bH:(execOp (ev σ) o).run P w= .ok (.value v) w')
 (h: ∀a',Tm a' n (vp σ d v)→N a' w'):wpAny P .any ops (o9 N) 1 listed a w:=by
 obtain ⟨hs,hb⟩:=hb
 simp only [I5,Bool.and_eq_true,List.isEmpty_iff,beq_iff_eq] at hb
 obtain ⟨h1,h2⟩:=hb
 refine wpAny_all h2 (by simp) ?_
 intro j hj
 simp only [List.mem_singleton] at hj
 subst hj
 unfold wpOp
 simp only [hi,Region.wanted,ho.guard,if_true]
 left
 unfold Oper.wp
 rw [ay.eval,bH,Oper.upon_value,ho.dst]
 exact wpAny_done h1 (h _ (ay.put hd v)) 0
theorem My {id k:Nat} (hm:P.follows .mixedOrders=true) (hb:Mw ops=true) (hk:ops.size=k+1) (h:Mx ops k 0 (Array.replicate (k+1) false)→wpAny P .any ops (o9 fun a w=>Q .normal a w) (k+1) (Array.replicate (k+1) false) a {w with drawn:=w.drawn+1}):
 (Code.region id ops true).wp P Q a w:=by
 simp only [Mw,Bool.and_eq_true] at hb
 rw [hk] at hb
 refine Code.wp_mono ?_ (wp_region_any (Q:=o9 fun a w=>Q .normal a w) hm (by rw [hk];exact h ⟨hb.1.1,hb.2⟩))
 intro x a' w' hx
 cases x<;>first|exact hx|exact hx.elim
theorem Tm.cond {x:Operand} {b:Bool} {A B:Code} (ay:Tm a n σ) (hx:ev σ x= .bool b) (h:(if b then A else B).wp P Q a w):(Code.cond x A B).wp P Q a w:=by
 refine wp_cond (t:=b) (by rw [ay.eval];exact hx) h
end
end Dn
/-
  slices.Insert of the library, walked. Printed by a program. Conditions: none.
-/
set_option linter.unusedSimpArgs false
set_option linter.unusedVariables false
namespace Dn
open Go
def tC (r:Nat→Nat) (o:Nat→Oper) (tail:Code):Code:=
 .seq (.region (r 0) #[o 0] false) (.seq (.region (r 1) #[o 1,o 2,o 3] false) (.seq (.region (r 2) #[o 4,o 5,o 6] false) (.seq (.seq (.region (r 3) #[o 7,o 8] false) (.cond (.tmp 16) (.seq (.region (r 4) #[o 9,o 10] false) .ret) .skip)) (.seq (.region (r 5) #[o 11,o 12,o 13] false) (.seq (.seq (.region (r 6) #[o 14,o 15,o 16] false) (.cond (.tmp 22) (.seq (.region (r 7) #[o 17,o 18,o 19,o 20] false) .ret) .skip)) (.seq (.seq (.region (r 8) #[o 21,o 22,o 23,o 24,o 25,o 26] false) (.cond (.tmp 31) (.seq (.region (r 9) #[o 27,o 28,o 29,o 30,o 31,o 32,o 33,o 34,o 35,o 36] false) (.seq (.region (r 10) #[o 37,o 38,o 39,o 40,o 41] false) (.seq (.region (r 11) #[o 42,o 43,o 44,o 45,o 46,o 47,o 48,o 49,o 50] true) (.seq (.region (r 12) #[o 51,o 52] false) .ret)))) .skip)) (.seq (.region (r 13) #[o 53,o 54,o 55,o 56,o 57,o 58] false) (.seq (.seq (.region (r 14) #[o 59,o 60,o 61,o 62,o 63,o 64,o 65,o 66] false) (.cond (.tmp 68) (.seq (.region (r 15) #[o 67,o 68,o 69,o 70,o 71,o 72,o 73,o 74,o 75] true) (.seq (.region (r 16) #[o 76,o 77,o 78,o 79,o 80] false) (.seq (.region (r 17) #[o 81,o 82] false) .ret))) .skip)) tail))))))))
structure XR (t ti tb fo:Nat) (o:Nat→Oper):Prop where
 h0:aI (o 0) 6 (.assign (.const (.slice none 0 0)))
 h1:aI (o 1) 10 (.move (.tmp 0))
 h2:aI (o 2) 11 (.move (.tmp 1))
 h3:aI (o 3) 12 (.slice t (.tmp 10) (some (.tmp 11)) none none)
 h4:aI (o 4) 13 (.move (.tmp 2))
 h5:aI (o 5) 14 (.call {callee:= .builtin .len,args:= #[.tmp 13],argTypes:= #[t]})
 h6:aI (o 6) 7 (.assign (.tmp 14))
 h7:aI (o 7) 15 (.move (.tmp 7))
 h8:aI (o 8) 16 (.binOp .eql ti (.tmp 15) (.const (.int .i64 0)) ti)
 h9:aI (o 9) 17 (.move (.tmp 0))
 Mk:aI (o 10) 6 (.assign (.tmp 17))
 KW:aI (o 11) 18 (.move (.tmp 0))
 KX:aI (o 12) 19 (.call {callee:= .builtin .len,args:= #[.tmp 18],argTypes:= #[t]})
 KY:aI (o 13) 8 (.assign (.tmp 19))
 KZ:aI (o 14) 20 (.move (.tmp 1))
 K0:aI (o 15) 21 (.move (.tmp 8))
 K1:aI (o 16) 22 (.binOp .eql ti (.tmp 20) (.tmp 21) ti)
 Rf:aI (o 17) 23 (.move (.tmp 0))
 Wb:aI (o 18) 24 (.move (.tmp 2))
 Wc:aI (o 19) 25 (.call {callee:= .builtin .append,args:= #[.tmp 23,.tmp 24],argTypes:= #[t,t]})
 Wd:aI (o 20) 6 (.assign (.tmp 25))
 S9:aI (o 21) 26 (.move (.tmp 8))
 Ta:aI (o 22) 27 (.move (.tmp 7))
 Tb:aI (o 23) 28 (.binOp .add ti (.tmp 26) (.tmp 27) ti)
 Tc:aI (o 24) 29 (.move (.tmp 0))
 Td:aI (o 25) 30 (.call {callee:= .builtin .cap,args:= #[.tmp 29],argTypes:= #[t]})
 Te:aI (o 26) 31 (.binOp .gtr ti (.tmp 28) (.tmp 30) ti)
 We:aI (o 27) 32 (.move (.tmp 0))
 Wf:aI (o 28) 33 (.move (.tmp 1))
 Wg:aI (o 29) 34 (.slice t (.tmp 32) none (some (.tmp 33)) none)
 Rg:aI (o 30) 35 (.move (.tmp 8))
 h31:aI (o 31) 36 (.move (.tmp 7))
 h32:aI (o 32) 37 (.binOp .add ti (.tmp 35) (.tmp 36) ti)
 h33:aI (o 33) 38 (.move (.tmp 1))
 XS:aI (o 34) 39 (.binOp .sub ti (.tmp 37) (.tmp 38) ti)
 XT:aI (o 35) 40 (.call {callee:= .builtin .append,args:= #[.tmp 34,.tmp 39],argTypes:= #[t,ti]})
 XU:aI (o 36) 9 (.assign (.tmp 40))
 h37:aI (o 37) 41 (.move (.tmp 9))
 h38:aI (o 38) 42 (.move (.tmp 1))
 h39:aI (o 39) 43 (.slice t (.tmp 41) (some (.tmp 42)) none none)
 h40:aI (o 40) 44 (.move (.tmp 2))
 h41:aI (o 41) 45 (.call {callee:= .builtin .copy,args:= #[.tmp 43,.tmp 44],argTypes:= #[t,t]})
 h42:aI (o 42) 46 (.move (.tmp 9))
 h43:aI (o 43) 47 (.move (.tmp 1))
 h44:aI (o 44) 48 (.move (.tmp 7))
 h45:aI (o 45) 49 (.binOp .add ti (.tmp 47) (.tmp 48) ti)
 h46:aI (o 46) 50 (.slice t (.tmp 46) (some (.tmp 49)) none none)
 h47:aI (o 47) 51 (.move (.tmp 0))
 h48:aI (o 48) 52 (.move (.tmp 1))
 h49:aI (o 49) 53 (.slice t (.tmp 51) (some (.tmp 52)) none none)
 h50:aI (o 50) 54 (.call {callee:= .builtin .copy,args:= #[.tmp 50,.tmp 53],argTypes:= #[t,t]})
 h51:aI (o 51) 55 (.move (.tmp 9))
 h52:aI (o 52) 6 (.assign (.tmp 55))
 h53:aI (o 53) 56 (.move (.tmp 0))
 h54:aI (o 54) 57 (.move (.tmp 8))
 h55:aI (o 55) 58 (.move (.tmp 7))
 h56:aI (o 56) 59 (.binOp .add ti (.tmp 57) (.tmp 58) ti)
 h57:aI (o 57) 60 (.slice t (.tmp 56) none (some (.tmp 59)) none)
 h58:aI (o 58) 0 (.assign (.tmp 60))
 h59:aI (o 59) 61 (.move (.tmp 2))
 h60:aI (o 60) 62 (.move (.tmp 0))
 h61:aI (o 61) 63 (.move (.tmp 1))
 h62:aI (o 62) 64 (.move (.tmp 7))
 h63:aI (o 63) 65 (.binOp .add ti (.tmp 63) (.tmp 64) ti)
 h64:aI (o 64) 66 (.slice t (.tmp 62) (some (.tmp 65)) none none)
 h65:aI (o 65) 67 (.call {callee:= .value (.func fo),args:= #[.tmp 61,.tmp 66],argTypes:= #[t,t]})
 h66:aI (o 66) 68 (.unOp .not tb (.tmp 67))
 h67:aI (o 67) 69 (.move (.tmp 0))
 h68:aI (o 68) 70 (.move (.tmp 1))
 h69:aI (o 69) 71 (.move (.tmp 7))
 h70:aI (o 70) 72 (.binOp .add ti (.tmp 70) (.tmp 71) ti)
 h71:aI (o 71) 73 (.slice t (.tmp 69) (some (.tmp 72)) none none)
 h72:aI (o 72) 74 (.move (.tmp 0))
 h73:aI (o 73) 75 (.move (.tmp 1))
 h74:aI (o 74) 76 (.slice t (.tmp 74) (some (.tmp 75)) none none)
 h75:aI (o 75) 77 (.call {callee:= .builtin .copy,args:= #[.tmp 73,.tmp 76],argTypes:= #[t,t]})
 h76:aI (o 76) 78 (.move (.tmp 0))
 h77:aI (o 77) 79 (.move (.tmp 1))
 h78:aI (o 78) 80 (.slice t (.tmp 78) (some (.tmp 79)) none none)
 h79:aI (o 79) 81 (.move (.tmp 2))
 h80:aI (o 80) 82 (.call {callee:= .builtin .copy,args:= #[.tmp 80,.tmp 81],argTypes:= #[t,t]})
 h81:aI (o 81) 83 (.move (.tmp 0))
 h82:aI (o 82) 6 (.assign (.tmp 83))
 d11:Mw #[o 42,o 43,o 44,o 45,o 46,o 47,o 48,o 49,o 50]=true
 d15:Mw #[o 67,o 68,o 69,o 70,o 71,o 72,o 73,o 74,o 75]=true
structure CQ (P:Program) (f t ti tb el fo:Nat) (fn:Func) (r:Nat→Nat) (o:Nat→Oper) (tail:Code):Prop where
 pos:P.funcs[f]? =some fn
 name:(fn.name== "runtime.NumGoroutine")=false
 tmps:fn.ntmps=95
 res:fn.results= #[.tmp 6]
 body:fn.body=some (tC r o tail)
 ops:XR t ti tb fo o
 mix:P.follows .mixedOrders=true
 s5:P.underlying t=some (.slice el)
section
variable {P:Program} {f t ti tb el fo:Nat} {fn:Func} {r:Nat→Nat} {o:Nat→Oper} {tail:Code} {ie:TypeInfo} {size n m c c2 i g g2:Nat} {ad:Option Addr} {w:World}
theorem G8 {a:Act} {w:World} {σ:Nat→Value} {R:Ending→World→Prop} {v:Value} (hr:fn.results= #[.tmp 6]) (ay:Tm a 95 σ) (h6:σ 6=v) (h:R (.returned v) w):bodyPost P fn R .ret a w:=by
 refine ⟨ay.defers,v,?_,h⟩
 have h2:a.tmps[6]?.getD undef=v:=by have:=ay.get 6;rw [h6] at this;simpa using this
 simp [results,hr,h2]
theorem Uo (hf:CQ P f t ti tb el fo fn r o tail) (na:P.info? el=some ie) (rI:ie.size=size) (hm:0<m) (hn:n≤c) (hc:c<2^63) (YP:n+m<2^63) (hi:i=n) {v:Value} {w1:World} (bH: ∀ty,(Builtin.append_ #[t,t] ty #[.slice ad n c,.slice (some ⟨g2,0,none⟩) m c2]).run P w= .ok v w1)
 :Calls P f #[.slice ad n c,.int .i64 ((i:Nat):Int),.slice (some ⟨g2,0,none⟩) m c2] w fun x w'=>x= .returned v∧w'=w1:=by
 refine calls_of_wp hf.pos hf.body ?_
 rw [hf.tmps]
 have key: ∀a:Act,Tm a 95 (vp (vp (vp (fun _=>undef) 0 (.slice ad n c)) 1 (.int .i64 ((i:Nat):Int))) 2 (.slice (some ⟨g2,0,none⟩) m c2))→(tC r o tail).wp P (bodyPost P fn fun x w'=>x= .returned v∧w'=w1) a w:=by
  intro a ay
  unfold tC
  refine wp_seq (wp_region ?_)
  rw [show List.range (#[o 0]:Array Oper).size=[0] from rfl]
  refine ay.step (v:= .slice none 0 0) rfl hf.ops.h0 (by decide) (cv hf.ops.h0 _) (fun a ay=> ?_)
  refine wp_seq (wp_region ?_)
  rw [show List.range (#[o 1,o 2,o 3]:Array Oper).size=[0,1,2] from rfl]
  refine ay.step (v:= .slice ad n c) rfl hf.ops.h1 (by decide) (aH hf.ops.h1 _) (fun a ay=> ?_)
  refine ay.step (v:= .int .i64 ((i:Nat):Int)) rfl hf.ops.h2 (by decide) (aH hf.ops.h2 _) (fun a ay=> ?_)
  refine ay.step (v:= .slice (if c=i then ad else (ad:Option Addr).map (·.add (i *size))) (n-i) (c-i)) rfl hf.ops.h3 (by decide) (vr hf.ops.h3 hf.s5 na rI rfl rfl (by omega) _) (fun a ay=> ?_)
  refine wp_seq (wp_region ?_)
  rw [show List.range (#[o 4,o 5,o 6]:Array Oper).size=[0,1,2] from rfl]
  refine ay.step (v:= .slice (some ⟨g2,0,none⟩) m c2) rfl hf.ops.h4 (by decide) (aH hf.ops.h4 _) (fun a ay=> ?_)
  refine ay.step (v:= .int .i64 ((m:Nat):Int)) rfl hf.ops.h5 (by decide) (lE hf.ops.h5 hf.s5 rfl _) (fun a ay=> ?_)
  refine ay.step (v:= .int .i64 ((m:Nat):Int)) rfl hf.ops.h6 (by decide) (cv hf.ops.h6 _) (fun a ay=> ?_)
  refine wp_seq ?_
  refine wp_seq (wp_region ?_)
  rw [show List.range (#[o 7,o 8]:Array Oper).size=[0,1] from rfl]
  refine ay.step (v:= .int .i64 ((m:Nat):Int)) rfl hf.ops.h7 (by decide) (aH hf.ops.h7 _) (fun a ay=> ?_)
  refine ay.step (v:= .bool (decide (((m:Nat):Int)=((0:Nat):Int)))) rfl hf.ops.h8 (by decide) (nL hf.ops.h8 rfl rfl _) (fun a ay=> ?_)
  refine ay.cond (b:=false) (by show Value.bool (decide (((m:Nat):Int)=((0:Nat):Int)))=_;rw [decide_eq_false (by omega)]) ?_
  simp only [Bool.false_eq_true,if_false]
  refine wp_skip ?_
  refine wp_seq (wp_region ?_)
  rw [show List.range (#[o 11,o 12,o 13]:Array Oper).size=[0,1,2] from rfl]
  refine ay.step (v:= .slice ad n c) rfl hf.ops.KW (by decide) (aH hf.ops.KW _) (fun a ay=> ?_)
  refine ay.step (v:= .int .i64 ((n:Nat):Int)) rfl hf.ops.KX (by decide) (lE hf.ops.KX hf.s5 rfl _) (fun a ay=> ?_)
  refine ay.step (v:= .int .i64 ((n:Nat):Int)) rfl hf.ops.KY (by decide) (cv hf.ops.KY _) (fun a ay=> ?_)
  refine wp_seq ?_
  refine wp_seq (wp_region ?_)
  rw [show List.range (#[o 14,o 15,o 16]:Array Oper).size=[0,1,2] from rfl]
  refine ay.step (v:= .int .i64 ((i:Nat):Int)) rfl hf.ops.KZ (by decide) (aH hf.ops.KZ _) (fun a ay=> ?_)
  refine ay.step (v:= .int .i64 ((n:Nat):Int)) rfl hf.ops.K0 (by decide) (aH hf.ops.K0 _) (fun a ay=> ?_)
  refine ay.step (v:= .bool (decide (((i:Nat):Int)=((n:Nat):Int)))) rfl hf.ops.K1 (by decide) (nL hf.ops.K1 rfl rfl _) (fun a ay=> ?_)
  refine ay.cond (b:=true) (by show Value.bool (decide (((i:Nat):Int)=((n:Nat):Int)))=_;rw [decide_eq_true (by omega)]) ?_
  simp only [if_true]
  refine wp_seq (wp_region ?_)
  rw [show List.range (#[o 17,o 18,o 19,o 20]:Array Oper).size=[0,1,2,3] from rfl]
  refine ay.step (v:= .slice ad n c) rfl hf.ops.Rf (by decide) (aH hf.ops.Rf _) (fun a ay=> ?_)
  refine ay.step (v:= .slice (some ⟨g2,0,none⟩) m c2) rfl hf.ops.Wb (by decide) (aH hf.ops.Wb _) (fun a ay=> ?_)
  refine ay.step (v:=v) rfl hf.ops.Wc (by decide) (CP hf.ops.Wc rfl rfl (bH _)) (fun a ay=> ?_)
  refine ay.step (v:=v) rfl hf.ops.Wd (by decide) (cv hf.ops.Wd _) (fun a ay=> ?_)
  refine wp_ret ?_
  show bodyPost P fn (fun x wq=>x= .returned (v)∧wq=w1) .ret a w1
  refine G8 hf.res ay (v:=v) rfl ?_
  exact ⟨rfl,rfl⟩
 exact key _ (tm3 _ _ _ 92)
theorem Rh (hf:CQ P f t ti tb el fo fn r o tail) (na:P.info? el=some ie) (rI:ie.size=size) (hm:0<m) (hn:n≤c) (hc:c<2^63) (YP:n+m<2^63) (hi:i<n) (qP:c<n+m) {g9 G:Nat} {v1 v2:Value} {w1 w2 w3:World} (hG:n+m≤G) (hA: ∀ty,(Builtin.append_ #[t,ti] ty #[.slice (some ⟨g,0,none⟩) i c,.int .i64 ((n+m-i:Nat):Int)]).run P w= .ok (.slice (some ⟨g9,0,none⟩) (n+m) G) w1)
 (hB: ∀ty,(Builtin.copy_ #[t,t] ty #[.slice (some ⟨g9,i *size,none⟩) (n+m-i) (G-i),.slice (some ⟨g2,0,none⟩) m c2]).run P w1= .ok v1 w2)
 (hC: ∀ty,(Builtin.copy_ #[t,t] ty #[.slice (some ⟨g9,(i+m) *size,none⟩) (n+m-(i+m)) (G-(i+m)),.slice (some ⟨g,i *size,none⟩) (n-i) (c-i)]).run P {w2 with drawn:=w2.drawn+1}= .ok v2 w3)
 :Calls P f #[.slice (some ⟨g,0,none⟩) n c,.int .i64 ((i:Nat):Int),.slice (some ⟨g2,0,none⟩) m c2] w fun x w'=>x= .returned (.slice (some ⟨g9,0,none⟩) (n+m) G)∧w'=w3:=by
 refine calls_of_wp hf.pos hf.body ?_
 rw [hf.tmps]
 have key: ∀a:Act,Tm a 95 (vp (vp (vp (fun _=>undef) 0 (.slice (some ⟨g,0,none⟩) n c)) 1 (.int .i64 ((i:Nat):Int))) 2 (.slice (some ⟨g2,0,none⟩) m c2))→(tC r o tail).wp P (bodyPost P fn fun x w'=>x= .returned (.slice (some ⟨g9,0,none⟩) (n+m) G)∧w'=w3) a w:=by
  intro a ay
  unfold tC
  refine wp_seq (wp_region ?_)
  rw [show List.range (#[o 0]:Array Oper).size=[0] from rfl]
  refine ay.step (v:= .slice none 0 0) rfl hf.ops.h0 (by decide) (cv hf.ops.h0 _) (fun a ay=> ?_)
  refine wp_seq (wp_region ?_)
  rw [show List.range (#[o 1,o 2,o 3]:Array Oper).size=[0,1,2] from rfl]
  refine ay.step (v:= .slice (some ⟨g,0,none⟩) n c) rfl hf.ops.h1 (by decide) (aH hf.ops.h1 _) (fun a ay=> ?_)
  refine ay.step (v:= .int .i64 ((i:Nat):Int)) rfl hf.ops.h2 (by decide) (aH hf.ops.h2 _) (fun a ay=> ?_)
  refine ay.step (v:= .slice (if c=i then (some ⟨g,0,none⟩) else ((some ⟨g,0,none⟩):Option Addr).map (·.add (i *size))) (n-i) (c-i)) rfl hf.ops.h3 (by decide) (vr hf.ops.h3 hf.s5 na rI rfl rfl (by omega) _) (fun a ay=> ?_)
  refine wp_seq (wp_region ?_)
  rw [show List.range (#[o 4,o 5,o 6]:Array Oper).size=[0,1,2] from rfl]
  refine ay.step (v:= .slice (some ⟨g2,0,none⟩) m c2) rfl hf.ops.h4 (by decide) (aH hf.ops.h4 _) (fun a ay=> ?_)
  refine ay.step (v:= .int .i64 ((m:Nat):Int)) rfl hf.ops.h5 (by decide) (lE hf.ops.h5 hf.s5 rfl _) (fun a ay=> ?_)
  refine ay.step (v:= .int .i64 ((m:Nat):Int)) rfl hf.ops.h6 (by decide) (cv hf.ops.h6 _) (fun a ay=> ?_)
  refine wp_seq ?_
  refine wp_seq (wp_region ?_)
  rw [show List.range (#[o 7,o 8]:Array Oper).size=[0,1] from rfl]
  refine ay.step (v:= .int .i64 ((m:Nat):Int)) rfl hf.ops.h7 (by decide) (aH hf.ops.h7 _) (fun a ay=> ?_)
  refine ay.step (v:= .bool (decide (((m:Nat):Int)=((0:Nat):Int)))) rfl hf.ops.h8 (by decide) (nL hf.ops.h8 rfl rfl _) (fun a ay=> ?_)
  refine ay.cond (b:=false) (by show Value.bool (decide (((m:Nat):Int)=((0:Nat):Int)))=_;rw [decide_eq_false (by omega)]) ?_
  simp only [Bool.false_eq_true,if_false]
  refine wp_skip ?_
  refine wp_seq (wp_region ?_)
  rw [show List.range (#[o 11,o 12,o 13]:Array Oper).size=[0,1,2] from rfl]
  refine ay.step (v:= .slice (some ⟨g,0,none⟩) n c) rfl hf.ops.KW (by decide) (aH hf.ops.KW _) (fun a ay=> ?_)
  refine ay.step (v:= .int .i64 ((n:Nat):Int)) rfl hf.ops.KX (by decide) (lE hf.ops.KX hf.s5 rfl _) (fun a ay=> ?_)
  refine ay.step (v:= .int .i64 ((n:Nat):Int)) rfl hf.ops.KY (by decide) (cv hf.ops.KY _) (fun a ay=> ?_)
  refine wp_seq ?_
  refine wp_seq (wp_region ?_)
  rw [show List.range (#[o 14,o 15,o 16]:Array Oper).size=[0,1,2] from rfl]
  refine ay.step (v:= .int .i64 ((i:Nat):Int)) rfl hf.ops.KZ (by decide) (aH hf.ops.KZ _) (fun a ay=> ?_)
  refine ay.step (v:= .int .i64 ((n:Nat):Int)) rfl hf.ops.K0 (by decide) (aH hf.ops.K0 _) (fun a ay=> ?_)
  refine ay.step (v:= .bool (decide (((i:Nat):Int)=((n:Nat):Int)))) rfl hf.ops.K1 (by decide) (nL hf.ops.K1 rfl rfl _) (fun a ay=> ?_)
  refine ay.cond (b:=false) (by show Value.bool (decide (((i:Nat):Int)=((n:Nat):Int)))=_;rw [decide_eq_false (by omega)]) ?_
  simp only [Bool.false_eq_true,if_false]
  refine wp_skip ?_
  refine wp_seq ?_
  refine wp_seq (wp_region ?_)
  rw [show List.range (#[o 21,o 22,o 23,o 24,o 25,o 26]:Array Oper).size=[0,1,2,3,4,5] from rfl]
  refine ay.step (v:= .int .i64 ((n:Nat):Int)) rfl hf.ops.S9 (by decide) (aH hf.ops.S9 _) (fun a ay=> ?_)
  refine ay.step (v:= .int .i64 ((m:Nat):Int)) rfl hf.ops.Ta (by decide) (aH hf.ops.Ta _) (fun a ay=> ?_)
  refine ay.step (v:= .int .i64 ((n+m:Nat):Int)) rfl hf.ops.Tb (by decide) (jh hf.ops.Tb rfl rfl (by omega) _) (fun a ay=> ?_)
  refine ay.step (v:= .slice (some ⟨g,0,none⟩) n c) rfl hf.ops.Tc (by decide) (aH hf.ops.Tc _) (fun a ay=> ?_)
  refine ay.step (v:= .int .i64 ((c:Nat):Int)) rfl hf.ops.Td (by decide) (Mu hf.ops.Td hf.s5 rfl _) (fun a ay=> ?_)
  refine ay.step (v:= .bool (decide (((c:Nat):Int)<(((n+m):Nat):Int)))) rfl hf.ops.Te (by decide) (I4 hf.ops.Te rfl rfl _) (fun a ay=> ?_)
  refine ay.cond (b:=true) (by show Value.bool (decide (((c:Nat):Int)<((n+m:Nat):Int)))=_;rw [decide_eq_true (by omega)]) ?_
  simp only [if_true]
  refine wp_seq (wp_region ?_)
  rw [show List.range (#[o 27,o 28,o 29,o 30,o 31,o 32,o 33,o 34,o 35,o 36]:Array Oper).size=[0,1,2,3,4,5,6,7,8,9] from rfl]
  refine ay.step (v:= .slice (some ⟨g,0,none⟩) n c) rfl hf.ops.We (by decide) (aH hf.ops.We _) (fun a ay=> ?_)
  refine ay.step (v:= .int .i64 ((i:Nat):Int)) rfl hf.ops.Wf (by decide) (aH hf.ops.Wf _) (fun a ay=> ?_)
  refine ay.step (v:= .slice (some ⟨g,0,none⟩) i c) rfl hf.ops.Wg (by decide) (yJ hf.ops.Wg hf.s5 na rI rfl rfl (by omega) _) (fun a ay=> ?_)
  refine ay.step (v:= .int .i64 ((n:Nat):Int)) rfl hf.ops.Rg (by decide) (aH hf.ops.Rg _) (fun a ay=> ?_)
  refine ay.step (v:= .int .i64 ((m:Nat):Int)) rfl hf.ops.h31 (by decide) (aH hf.ops.h31 _) (fun a ay=> ?_)
  refine ay.step (v:= .int .i64 ((n+m:Nat):Int)) rfl hf.ops.h32 (by decide) (jh hf.ops.h32 rfl rfl (by omega) _) (fun a ay=> ?_)
  refine ay.step (v:= .int .i64 ((i:Nat):Int)) rfl hf.ops.h33 (by decide) (aH hf.ops.h33 _) (fun a ay=> ?_)
  refine ay.step (v:= .int .i64 (((n+m)-i:Nat):Int)) rfl hf.ops.XS (by decide) (Re hf.ops.XS rfl rfl (by omega) (by omega) _) (fun a ay=> ?_)
  refine ay.step (v:= .slice (some ⟨g9,0,none⟩) (n+m) G) rfl hf.ops.XT (by decide) (CP hf.ops.XT rfl rfl (hA _)) (fun a ay=> ?_)
  refine ay.step (v:= .slice (some ⟨g9,0,none⟩) (n+m) G) rfl hf.ops.XU (by decide) (cv hf.ops.XU _) (fun a ay=> ?_)
  refine wp_seq (wp_region ?_)
  rw [show List.range (#[o 37,o 38,o 39,o 40,o 41]:Array Oper).size=[0,1,2,3,4] from rfl]
  refine ay.step (v:= .slice (some ⟨g9,0,none⟩) (n+m) G) rfl hf.ops.h37 (by decide) (aH hf.ops.h37 _) (fun a ay=> ?_)
  refine ay.step (v:= .int .i64 ((i:Nat):Int)) rfl hf.ops.h38 (by decide) (aH hf.ops.h38 _) (fun a ay=> ?_)
  refine ay.step (v:= .slice (some ⟨g9,i *size,none⟩) (n+m-i) (G-i)) rfl hf.ops.h39 (by decide) (mi hf.ops.h39 hf.s5 na rI rfl rfl (by omega) (by omega) _) (fun a ay=> ?_)
  refine ay.step (v:= .slice (some ⟨g2,0,none⟩) m c2) rfl hf.ops.h40 (by decide) (aH hf.ops.h40 _) (fun a ay=> ?_)
  refine ay.step (v:=v1) rfl hf.ops.h41 (by decide) (yK hf.ops.h41 rfl rfl (hB _)) (fun a ay=> ?_)
  refine wp_seq (My hf.mix hf.ops.d11 (k:=8) rfl fun fa=> ?_)
  refine ay.draw (v:= .slice (some ⟨g9,0,none⟩) (n+m) G) rfl hf.ops.h42 (by decide) fa (fun w=>aH hf.ops.h42 _) (fun a ay fa=> ?_)
  refine ay.draw (v:= .int .i64 ((i:Nat):Int)) rfl hf.ops.h43 (by decide) fa (fun w=>aH hf.ops.h43 _) (fun a ay fa=> ?_)
  refine ay.draw (v:= .int .i64 ((m:Nat):Int)) rfl hf.ops.h44 (by decide) fa (fun w=>aH hf.ops.h44 _) (fun a ay fa=> ?_)
  refine ay.draw (v:= .int .i64 ((i+m:Nat):Int)) rfl hf.ops.h45 (by decide) fa (fun w=>jh hf.ops.h45 rfl rfl (by omega) _) (fun a ay fa=> ?_)
  refine ay.draw (v:= .slice (some ⟨g9,(i+m) *size,none⟩) (n+m-(i+m)) (G-(i+m))) rfl hf.ops.h46 (by decide) fa (fun w=>mi hf.ops.h46 hf.s5 na rI rfl rfl (by omega) (by omega) _) (fun a ay fa=> ?_)
  refine ay.draw (v:= .slice (some ⟨g,0,none⟩) n c) rfl hf.ops.h47 (by decide) fa (fun w=>aH hf.ops.h47 _) (fun a ay fa=> ?_)
  refine ay.draw (v:= .int .i64 ((i:Nat):Int)) rfl hf.ops.h48 (by decide) fa (fun w=>aH hf.ops.h48 _) (fun a ay fa=> ?_)
  refine ay.draw (v:= .slice (some ⟨g,i *size,none⟩) (n-i) (c-i)) rfl hf.ops.h49 (by decide) fa (fun w=>mi hf.ops.h49 hf.s5 na rI rfl rfl (by omega) (by omega) _) (fun a ay fa=> ?_)
  refine ay.last (v:=v2) rfl hf.ops.h50 (by decide) fa (yK hf.ops.h50 rfl rfl (hC _)) (fun a ay=> ?_)
  refine wp_seq (wp_region ?_)
  rw [show List.range (#[o 51,o 52]:Array Oper).size=[0,1] from rfl]
  refine ay.step (v:= .slice (some ⟨g9,0,none⟩) (n+m) G) rfl hf.ops.h51 (by decide) (aH hf.ops.h51 _) (fun a ay=> ?_)
  refine ay.step (v:= .slice (some ⟨g9,0,none⟩) (n+m) G) rfl hf.ops.h52 (by decide) (cv hf.ops.h52 _) (fun a ay=> ?_)
  refine wp_ret ?_
  show bodyPost P fn (fun x wq=>x= .returned (.slice (some ⟨g9,0,none⟩) (n+m) G)∧wq=w3) .ret a w3
  refine G8 hf.res ay (v:= .slice (some ⟨g9,0,none⟩) (n+m) G) rfl ?_
  exact ⟨rfl,rfl⟩
 exact key _ (tm3 _ _ _ 92)
theorem Ri (hf:CQ P f t ti tb el fo fn r o tail) (na:P.info? el=some ie) (rI:ie.size=size) (hm:0<m) (hn:n≤c) (hc:c<2^63) (YP:n+m<2^63) (hi:i<n) (qP:n+m≤c) {v1 v2:Value} {w1 w2:World} (hO:(callFunc fo #[.slice (some ⟨g2,0,none⟩) m c2,.slice (some ⟨g,(i+m) *size,none⟩) (n+m-(i+m)) (c-(i+m))]).run P w= .ok (.value (.bool false)) w)
 (hB: ∀ty,(Builtin.copy_ #[t,t] ty #[.slice (some ⟨g,(i+m) *size,none⟩) (n+m-(i+m)) (c-(i+m)),.slice (some ⟨g,i *size,none⟩) (n+m-i) (c-i)]).run P {w with drawn:=w.drawn+1}= .ok v1 w1)
 (hC: ∀ty,(Builtin.copy_ #[t,t] ty #[.slice (some ⟨g,i *size,none⟩) (n+m-i) (c-i),.slice (some ⟨g2,0,none⟩) m c2]).run P w1= .ok v2 w2)
 :Calls P f #[.slice (some ⟨g,0,none⟩) n c,.int .i64 ((i:Nat):Int),.slice (some ⟨g2,0,none⟩) m c2] w fun x w'=>x= .returned (.slice (some ⟨g,0,none⟩) (n+m) c)∧w'=w2:=by
 refine calls_of_wp hf.pos hf.body ?_
 rw [hf.tmps]
 have key: ∀a:Act,Tm a 95 (vp (vp (vp (fun _=>undef) 0 (.slice (some ⟨g,0,none⟩) n c)) 1 (.int .i64 ((i:Nat):Int))) 2 (.slice (some ⟨g2,0,none⟩) m c2))→(tC r o tail).wp P (bodyPost P fn fun x w'=>x= .returned (.slice (some ⟨g,0,none⟩) (n+m) c)∧w'=w2) a w:=by
  intro a ay
  unfold tC
  refine wp_seq (wp_region ?_)
  rw [show List.range (#[o 0]:Array Oper).size=[0] from rfl]
  refine ay.step (v:= .slice none 0 0) rfl hf.ops.h0 (by decide) (cv hf.ops.h0 _) (fun a ay=> ?_)
  refine wp_seq (wp_region ?_)
  rw [show List.range (#[o 1,o 2,o 3]:Array Oper).size=[0,1,2] from rfl]
  refine ay.step (v:= .slice (some ⟨g,0,none⟩) n c) rfl hf.ops.h1 (by decide) (aH hf.ops.h1 _) (fun a ay=> ?_)
  refine ay.step (v:= .int .i64 ((i:Nat):Int)) rfl hf.ops.h2 (by decide) (aH hf.ops.h2 _) (fun a ay=> ?_)
  refine ay.step (v:= .slice (if c=i then (some ⟨g,0,none⟩) else ((some ⟨g,0,none⟩):Option Addr).map (·.add (i *size))) (n-i) (c-i)) rfl hf.ops.h3 (by decide) (vr hf.ops.h3 hf.s5 na rI rfl rfl (by omega) _) (fun a ay=> ?_)
  refine wp_seq (wp_region ?_)
  rw [show List.range (#[o 4,o 5,o 6]:Array Oper).size=[0,1,2] from rfl]
  refine ay.step (v:= .slice (some ⟨g2,0,none⟩) m c2) rfl hf.ops.h4 (by decide) (aH hf.ops.h4 _) (fun a ay=> ?_)
  refine ay.step (v:= .int .i64 ((m:Nat):Int)) rfl hf.ops.h5 (by decide) (lE hf.ops.h5 hf.s5 rfl _) (fun a ay=> ?_)
  refine ay.step (v:= .int .i64 ((m:Nat):Int)) rfl hf.ops.h6 (by decide) (cv hf.ops.h6 _) (fun a ay=> ?_)
  refine wp_seq ?_
  refine wp_seq (wp_region ?_)
  rw [show List.range (#[o 7,o 8]:Array Oper).size=[0,1] from rfl]
  refine ay.step (v:= .int .i64 ((m:Nat):Int)) rfl hf.ops.h7 (by decide) (aH hf.ops.h7 _) (fun a ay=> ?_)
  refine ay.step (v:= .bool (decide (((m:Nat):Int)=((0:Nat):Int)))) rfl hf.ops.h8 (by decide) (nL hf.ops.h8 rfl rfl _) (fun a ay=> ?_)
  refine ay.cond (b:=false) (by show Value.bool (decide (((m:Nat):Int)=((0:Nat):Int)))=_;rw [decide_eq_false (by omega)]) ?_
  simp only [Bool.false_eq_true,if_false]
  refine wp_skip ?_
  refine wp_seq (wp_region ?_)
  rw [show List.range (#[o 11,o 12,o 13]:Array Oper).size=[0,1,2] from rfl]
  refine ay.step (v:= .slice (some ⟨g,0,none⟩) n c) rfl hf.ops.KW (by decide) (aH hf.ops.KW _) (fun a ay=> ?_)
  refine ay.step (v:= .int .i64 ((n:Nat):Int)) rfl hf.ops.KX (by decide) (lE hf.ops.KX hf.s5 rfl _) (fun a ay=> ?_)
  refine ay.step (v:= .int .i64 ((n:Nat):Int)) rfl hf.ops.KY (by decide) (cv hf.ops.KY _) (fun a ay=> ?_)
  refine wp_seq ?_
  refine wp_seq (wp_region ?_)
  rw [show List.range (#[o 14,o 15,o 16]:Array Oper).size=[0,1,2] from rfl]
  refine ay.step (v:= .int .i64 ((i:Nat):Int)) rfl hf.ops.KZ (by decide) (aH hf.ops.KZ _) (fun a ay=> ?_)
  refine ay.step (v:= .int .i64 ((n:Nat):Int)) rfl hf.ops.K0 (by decide) (aH hf.ops.K0 _) (fun a ay=> ?_)
  refine ay.step (v:= .bool (decide (((i:Nat):Int)=((n:Nat):Int)))) rfl hf.ops.K1 (by decide) (nL hf.ops.K1 rfl rfl _) (fun a ay=> ?_)
  refine ay.cond (b:=false) (by show Value.bool (decide (((i:Nat):Int)=((n:Nat):Int)))=_;rw [decide_eq_false (by omega)]) ?_
  simp only [Bool.false_eq_true,if_false]
  refine wp_skip ?_
  refine wp_seq ?_
  refine wp_seq (wp_region ?_)
  rw [show List.range (#[o 21,o 22,o 23,o 24,o 25,o 26]:Array Oper).size=[0,1,2,3,4,5] from rfl]
  refine ay.step (v:= .int .i64 ((n:Nat):Int)) rfl hf.ops.S9 (by decide) (aH hf.ops.S9 _) (fun a ay=> ?_)
  refine ay.step (v:= .int .i64 ((m:Nat):Int)) rfl hf.ops.Ta (by decide) (aH hf.ops.Ta _) (fun a ay=> ?_)
  refine ay.step (v:= .int .i64 ((n+m:Nat):Int)) rfl hf.ops.Tb (by decide) (jh hf.ops.Tb rfl rfl (by omega) _) (fun a ay=> ?_)
  refine ay.step (v:= .slice (some ⟨g,0,none⟩) n c) rfl hf.ops.Tc (by decide) (aH hf.ops.Tc _) (fun a ay=> ?_)
  refine ay.step (v:= .int .i64 ((c:Nat):Int)) rfl hf.ops.Td (by decide) (Mu hf.ops.Td hf.s5 rfl _) (fun a ay=> ?_)
  refine ay.step (v:= .bool (decide (((c:Nat):Int)<(((n+m):Nat):Int)))) rfl hf.ops.Te (by decide) (I4 hf.ops.Te rfl rfl _) (fun a ay=> ?_)
  refine ay.cond (b:=false) (by show Value.bool (decide (((c:Nat):Int)<((n+m:Nat):Int)))=_;rw [decide_eq_false (by omega)]) ?_
  simp only [Bool.false_eq_true,if_false]
  refine wp_skip ?_
  refine wp_seq (wp_region ?_)
  rw [show List.range (#[o 53,o 54,o 55,o 56,o 57,o 58]:Array Oper).size=[0,1,2,3,4,5] from rfl]
  refine ay.step (v:= .slice (some ⟨g,0,none⟩) n c) rfl hf.ops.h53 (by decide) (aH hf.ops.h53 _) (fun a ay=> ?_)
  refine ay.step (v:= .int .i64 ((n:Nat):Int)) rfl hf.ops.h54 (by decide) (aH hf.ops.h54 _) (fun a ay=> ?_)
  refine ay.step (v:= .int .i64 ((m:Nat):Int)) rfl hf.ops.h55 (by decide) (aH hf.ops.h55 _) (fun a ay=> ?_)
  refine ay.step (v:= .int .i64 ((n+m:Nat):Int)) rfl hf.ops.h56 (by decide) (jh hf.ops.h56 rfl rfl (by omega) _) (fun a ay=> ?_)
  refine ay.step (v:= .slice (some ⟨g,0,none⟩) (n+m) c) rfl hf.ops.h57 (by decide) (yJ hf.ops.h57 hf.s5 na rI rfl rfl (by omega) _) (fun a ay=> ?_)
  refine ay.step (v:= .slice (some ⟨g,0,none⟩) (n+m) c) rfl hf.ops.h58 (by decide) (cv hf.ops.h58 _) (fun a ay=> ?_)
  refine wp_seq ?_
  refine wp_seq (wp_region ?_)
  rw [show List.range (#[o 59,o 60,o 61,o 62,o 63,o 64,o 65,o 66]:Array Oper).size=[0,1,2,3,4,5,6,7] from rfl]
  refine ay.step (v:= .slice (some ⟨g2,0,none⟩) m c2) rfl hf.ops.h59 (by decide) (aH hf.ops.h59 _) (fun a ay=> ?_)
  refine ay.step (v:= .slice (some ⟨g,0,none⟩) (n+m) c) rfl hf.ops.h60 (by decide) (aH hf.ops.h60 _) (fun a ay=> ?_)
  refine ay.step (v:= .int .i64 ((i:Nat):Int)) rfl hf.ops.h61 (by decide) (aH hf.ops.h61 _) (fun a ay=> ?_)
  refine ay.step (v:= .int .i64 ((m:Nat):Int)) rfl hf.ops.h62 (by decide) (aH hf.ops.h62 _) (fun a ay=> ?_)
  refine ay.step (v:= .int .i64 ((i+m:Nat):Int)) rfl hf.ops.h63 (by decide) (jh hf.ops.h63 rfl rfl (by omega) _) (fun a ay=> ?_)
  refine ay.step (v:= .slice (some ⟨g,(i+m) *size,none⟩) (n+m-(i+m)) (c-(i+m))) rfl hf.ops.h64 (by decide) (mi hf.ops.h64 hf.s5 na rI rfl rfl (by omega) (by omega) _) (fun a ay=> ?_)
  refine ay.step (v:= .bool false) rfl hf.ops.h65 (by decide) (Ul hf.ops.h65 rfl rfl rfl hO) (fun a ay=> ?_)
  refine ay.step (v:= .bool (!false)) rfl hf.ops.h66 (by decide) (Mv hf.ops.h66 rfl _) (fun a ay=> ?_)
  refine ay.cond (b:=true) rfl ?_
  simp only [if_true]
  refine wp_seq (My hf.mix hf.ops.d15 (k:=8) rfl fun fa=> ?_)
  refine ay.draw (v:= .slice (some ⟨g,0,none⟩) (n+m) c) rfl hf.ops.h67 (by decide) fa (fun w=>aH hf.ops.h67 _) (fun a ay fa=> ?_)
  refine ay.draw (v:= .int .i64 ((i:Nat):Int)) rfl hf.ops.h68 (by decide) fa (fun w=>aH hf.ops.h68 _) (fun a ay fa=> ?_)
  refine ay.draw (v:= .int .i64 ((m:Nat):Int)) rfl hf.ops.h69 (by decide) fa (fun w=>aH hf.ops.h69 _) (fun a ay fa=> ?_)
  refine ay.draw (v:= .int .i64 ((i+m:Nat):Int)) rfl hf.ops.h70 (by decide) fa (fun w=>jh hf.ops.h70 rfl rfl (by omega) _) (fun a ay fa=> ?_)
  refine ay.draw (v:= .slice (some ⟨g,(i+m) *size,none⟩) (n+m-(i+m)) (c-(i+m))) rfl hf.ops.h71 (by decide) fa (fun w=>mi hf.ops.h71 hf.s5 na rI rfl rfl (by omega) (by omega) _) (fun a ay fa=> ?_)
  refine ay.draw (v:= .slice (some ⟨g,0,none⟩) (n+m) c) rfl hf.ops.h72 (by decide) fa (fun w=>aH hf.ops.h72 _) (fun a ay fa=> ?_)
  refine ay.draw (v:= .int .i64 ((i:Nat):Int)) rfl hf.ops.h73 (by decide) fa (fun w=>aH hf.ops.h73 _) (fun a ay fa=> ?_)
  refine ay.draw (v:= .slice (some ⟨g,i *size,none⟩) (n+m-i) (c-i)) rfl hf.ops.h74 (by decide) fa (fun w=>mi hf.ops.h74 hf.s5 na rI rfl rfl (by omega) (by omega) _) (fun a ay fa=> ?_)
  refine ay.last (v:=v1) rfl hf.ops.h75 (by decide) fa (yK hf.ops.h75 rfl rfl (hB _)) (fun a ay=> ?_)
  refine wp_seq (wp_region ?_)
  rw [show List.range (#[o 76,o 77,o 78,o 79,o 80]:Array Oper).size=[0,1,2,3,4] from rfl]
  refine ay.step (v:= .slice (some ⟨g,0,none⟩) (n+m) c) rfl hf.ops.h76 (by decide) (aH hf.ops.h76 _) (fun a ay=> ?_)
  refine ay.step (v:= .int .i64 ((i:Nat):Int)) rfl hf.ops.h77 (by decide) (aH hf.ops.h77 _) (fun a ay=> ?_)
  refine ay.step (v:= .slice (some ⟨g,i *size,none⟩) (n+m-i) (c-i)) rfl hf.ops.h78 (by decide) (mi hf.ops.h78 hf.s5 na rI rfl rfl (by omega) (by omega) _) (fun a ay=> ?_)
  refine ay.step (v:= .slice (some ⟨g2,0,none⟩) m c2) rfl hf.ops.h79 (by decide) (aH hf.ops.h79 _) (fun a ay=> ?_)
  refine ay.step (v:=v2) rfl hf.ops.h80 (by decide) (yK hf.ops.h80 rfl rfl (hC _)) (fun a ay=> ?_)
  refine wp_seq (wp_region ?_)
  rw [show List.range (#[o 81,o 82]:Array Oper).size=[0,1] from rfl]
  refine ay.step (v:= .slice (some ⟨g,0,none⟩) (n+m) c) rfl hf.ops.h81 (by decide) (aH hf.ops.h81 _) (fun a ay=> ?_)
  refine ay.step (v:= .slice (some ⟨g,0,none⟩) (n+m) c) rfl hf.ops.h82 (by decide) (cv hf.ops.h82 _) (fun a ay=> ?_)
  refine wp_ret ?_
  show bodyPost P fn (fun x wq=>x= .returned (.slice (some ⟨g,0,none⟩) (n+m) c)∧wq=w2) .ret a w2
  refine G8 hf.res ay (v:= .slice (some ⟨g,0,none⟩) (n+m) c) rfl ?_
  exact ⟨rfl,rfl⟩
 exact key _ (tm3 _ _ _ 92)
end
end Dn
/-
  What slices.Insert does to a slice of its own. Conditions: none.
-/
set_option linter.unusedSimpArgs false
set_option linter.unusedVariables false
namespace Dn
open Go
section
variable {key:Nat→Nat} {φ:Ph} {size:Nat}
theorem aS.take {xs:List MV}: ∀{cs:List Value} (i:Nat),aS key φ size cs xs→aS key φ size (cs.take (i *size)) (xs.take i):=by
 induction xs with
 |nil=>intro cs i h;cases h;simp [aS]
 |cons x xs ih=>
  intro cs i h
  obtain ⟨v,q,rfl,h1,h2,h3⟩:=h
  cases i with
  |zero=>simp [aS]
  |succ i=>
   refine ⟨v,q.take (i *size),?_,h1,h2,ih i h3⟩
   rw [Nat.add_mul,Nat.one_mul,Nat.add_comm,List.take_append,h1]
   congr 1
   ·exact List.take_of_length_le (by omega)
   ·congr 1;omega
theorem aS.drop {xs:List MV}: ∀{cs:List Value} (i:Nat),aS key φ size cs xs→aS key φ size (cs.drop (i *size)) (xs.drop i):=by
 induction xs with
 |nil=>intro cs i h;cases h;simp [aS]
 |cons x xs ih=>
  intro cs i h
  cases i with
  |zero=>simpa using h
  |succ i=>
   obtain ⟨v,q,rfl,h1,h2,h3⟩:=h
   have:=ih i h3
   rw [Nat.add_mul,Nat.one_mul,Nat.add_comm,List.drop_append,h1,List.drop_of_length_le (by omega),List.nil_append,Nat.add_sub_cancel_left]
   simpa using this
end
section
variable {P:Program} {c:Ctx} {f:Nat} {W W':World} {φ:Ph} {Z:Nat→Prop} {v0 v':Value}
theorem BN {ty:Nat} {E:TI} {n:Nat} {cells:List Value} {rs:List MV} (hz: ∀b,W.heap.size≤b→Z b) (iC:xI φ W) (hE:c.ti ty=some E) (nq:E.cq=[]) (zT:c.qv (c.key f)=ty)
 (hold: ∀b,b<W.heap.size→some b≠v0.ownBlock→W'.heap[b]? =W.heap[b]?) (pI:W.heap.size≤W'.heap.size) (xk:Rest W W')
 (Ma: ∀b,v0.ownBlock=some b→Z b∧ ∀off,φ b off=none) (dk:W'.ownsRow 0 ty E.size v' n cells) (hn:rs.length=n) (gQ:aS c.key φ E.size cells rs)
 (Kx: ∀b,v'.ownBlock=some b→v0.ownBlock=some b∨W.heap.size≤b): ∃φ',Trans Z φ W φ' W'∧xI φ' W'∧lR c Z φ' W' (c.key f) v' (.fresh rs):=by
 refine ⟨φ,⟨.refl _,?_,fun _ _ _=>rfl,pI,xk⟩,?_,?_⟩
 ·intro b hb dx
  exact hold b dx (fun he=>hb (Ma b he.symm).1)
 ·intro b off u hbo
  have h1:=iC b off u hbo
  have dx:=World.block_lt_of_cell? W _ h1
  rw [World.cell?_of_block (hold b dx (fun he=>by rw [(Ma b he.symm).2 off] at hbo;cases hbo))]
  exact h1
 ·show cF c (bw.plain Z) (nv c.key φ) W' v' ⟨c.qv (c.key f),false,rs⟩
  rw [zT]
  refine ⟨E,cells,hE,nq,by rw [hn];exact dk,gQ,fun aX hb=> ?_⟩
  rcases Kx aX hb with h|h
  ·exact ⟨(Ma aX h).1,fun off u hu=>(by have hu:φ aX off=some u:=hu;rw [(Ma aX h).2 off] at hu;cases hu),fun hc=>hc.elim⟩
  ·refine ⟨hz aX h,fun off u hu=> ?_,fun hc=>hc.elim⟩
   have:=World.block_lt_of_cell? W _ (iC _ _ _ hu)
   exact absurd this (by show¬aX<W.heap.size;omega)
theorem Up {A cM:List Value} {cells news:List Value} {p q r:Nat} (hA:A.length=cM.length) (hp:p+news.length=q) (hc:cells.length=r) (Cf:p≤r) (vf:r+news.length≤cM.length)
 (h1:A.take p=cells.take p) (h2:(A.drop q).take (r-p)=cells.drop p):(A.take p++news++A.drop q).take (r+news.length)=cells.take p++news++cells.drop p:=by
 have hl:(A.take p).length=p:=by rw [List.length_take];omega
 rw [List.take_append,List.length_append,hl,hp,List.take_of_length_le (by rw [List.length_append,hl];omega),h1]
 congr 1
 rw [show r+news.length-q=r-p by omega]
 exact h2
theorem zU {t ti tb el fo:Nat} {fn:Func} {r:Nat→Nat} {o:Nat→Oper} {tail:Code} {I E:TI} {xs ys:List MV} {i:Nat} (hf:CQ P f t ti tb el fo fn r o tail) (hT:j6 P c.ti) (hI:c.tv t=some I) (hL:I.w8=true) (hE:c.tv I.elem=some E) (vi:1≤E.bytes)
 (SX:el=I.elem) (qw:P.underlying ti=some (.int .i64)) (zT:c.qv (c.key f)=I.elem) (hg:c.dJ (c.key f)=true)
 (hov: ∀args w,(callFunc fo args).run P w=((Extern.SlicesOverlaps.overlaps #[t,t] #[tb] args).run P w).andThen fun v w'=> .ok (.value v) w')
 (hi:i≤xs.length) (ZE:ys≠[]) (mq:(xs.length+ys.length) *E.bytes≤2^46):j8 P c f [.fresh xs,.i .i64 i,.fresh ys] (.fresh (xs.take i++ys++xs.drop i)):=by
 subst SX
 obtain ⟨hIt,PW⟩:=bD hI
 obtain ⟨mn,nq⟩:=bD hE
 obtain ⟨hu,E2,uW,_,dS⟩:=TI.lP (hT t I hIt) hL
 rw [mn] at uW
 cases uW
 obtain ⟨ie,z,na,rI,Nt,Uq,HQ⟩:=nu (hT _ E mn) nq
 intro φ W Z vs hz eE iC
 simp only [eg,hg,if_true] at eE
 obtain ⟨v0,v1,v2,xs',m1,ys',rfl,Iv,F0,A1,F2,cG⟩:=eE.resolve_right (by
  rintro (⟨_,_,_,_,_,m2,_,h1,h2,_⟩|⟨pos,_,_,_,_,_,_,h1,_⟩)
  ·simp only [List.cons.injEq,and_true] at h1
   rw [←h1.2.2] at h2;simp [MV.one] at h2
  ·rcases pos with _|_|_|pos<;>simp at h1)
 simp only [List.cons.injEq,MV.fresh.injEq,and_true] at Iv
 obtain ⟨rfl,rfl,rfl⟩:=Iv
 have Nh:v1= .int .i64 (i:Int):=by
  obtain ⟨_,h⟩:=A1
  generalize wK:[v1]=l at h
  cases h;simpa using wK
 subst Nh
 rw [zT] at F0 F2
 obtain ⟨I0,cells,Ur,_,sB,qX,FI⟩:=F0
 have Ur:c.ti I.elem=some I0:=Ur
 rw [mn] at Ur
 cases Ur
 obtain ⟨I2,news,LV,_,Ff,yq,ahf⟩:=F2
 have LV:c.ti I.elem=some I2:=LV
 rw [mn] at LV
 cases LV
 have sB:W.ownsRow 0 I.elem E.size v0 xs.length cells:=sB
 have Ff:W.ownsRow 0 I.elem E.size v2 ys.length news:=Ff
 have qX:aS c.key φ E.size cells xs:=qX
 have yq:aS c.key φ E.size news ys:=yq
 have Ma: ∀b,v0.ownBlock=some b→Z b∧ ∀off,φ b off=none:=by
  intro b hb
  refine ⟨(FI b hb).1,fun off=> ?_⟩
  cases h:φ b off with
  |none=>rfl
  |some u=>have:=((FI b hb).2.1 off u h).1;cases this
 have hm:0<ys.length:=List.length_pos_iff.2 ZE
 have BL:news.length=ys.length *E.size:=yq.length
 have nt:cells.length=xs.length *E.size:=qX.length
 have hlen:xs.length+ys.length≤2^46:=Nat.le_trans (Nat.le_mul_of_pos_right _ vi) mq
 obtain ⟨g2,c2,sa,rfl,Q4,aiZ,ZO,Ig,aaY⟩: ∃g2 c2 sa,v2= .slice (some ⟨g2,0,none⟩) ys.length c2∧W.heap[g2]? =some (.cells sa I.elem (0,0))∧ys.length≤c2∧c2≤maxLen∧sa.size=c2 *E.size∧sa.toList.take (ys.length *E.size)=news:=by
  rcases Ff.2 with ⟨_,h0⟩|⟨g2,c2,sa,h1,_,h3,h4,h5,h6,h7⟩
  ·omega
  ·exact ⟨g2,c2,sa,h1,h3,h4,h5,h6,h7⟩
 have aeY:=bm Q4
 have Rj: ∀{w:World},(w.heap[g2]? =W.heap[g2]?)→ ∀(j:Nat) (u:Value),news[j]? =some u→w.cell? ((⟨g2,0,none⟩:Addr).add j)=some u:=by
  intro w hw j u hj
  have:=Ff.cells (g:=g2) rfl j u hj
  rw [Addr.add_mid] at this⊢
  rw [World.cell?_of_block hw];exact this
 have bh: ∀g,v0.ownBlock=some g→ ∀{w:World},(w.heap[g]? =W.heap[g]?)→ ∀(j:Nat) (u:Value),cells[j]? =some u→w.cell? ((⟨g,0,none⟩:Addr).add j)=some u:=by
  intro g hg w hw j u hj
  have:=sB.cells (g:=g) hg j u hj
  rw [Addr.add_mid] at this⊢
  rw [World.cell?_of_block hw];exact this
 have bH:(callFunc f [v0,.int .i64 (i:Int),.slice (some ⟨g2,0,none⟩) ys.length c2].toArray).run P W= .ok (.enter f #[v0,.int .i64 (i:Int),.slice (some ⟨g2,0,none⟩) ys.length c2]) W:=by
  have B9: ¬fn.name= "runtime.NumGoroutine" :=by simpa using hf.name
  simp [callFunc,hf.pos,B9,hf.body]
 unfold eU
 rw [bH]
 have Wh:(xs.take i++ys++xs.drop i).length=xs.length+ys.length:=by simp;omega
 have CR:aS c.key φ E.size (cells.take (i *E.size)++news++cells.drop (i *E.size)) (xs.take i++ys++xs.drop i):=((qX.take i).append yq).append (qX.drop i)
 by_cases sf:i=xs.length
 ·
  have sd:Src (nv c.key φ) W E.size (.slice (some ⟨g2,0,none⟩) ys.length c2) ys news:=⟨yq,_,_,rfl,by simp,fun x hx j u hj=>by cases hx;exact Rj rfl j u hj⟩
  have vl:cells.take (i *E.size)++news++cells.drop (i *E.size)=cells++news:=by
   rw [sf,←nt,List.take_length,List.drop_length,List.append_nil]
  rw [vl] at CR
  have fin: ∀v' W',ZD W W' I.elem E.size v0 v' xs.length ys.length cells news→ ∃φ',Trans Z φ W φ' W'∧xI φ' W'∧lR c Z φ' W' (c.key f) v' (.fresh (xs.take i++ys++xs.drop i)):=by
   intro v' W' se
   refine BN (v0:=v0) hz iC mn nq zT se.zv se.size se.rest Ma se.own Wh CR ?_
   intro b hb
   rcases se.place with h|h
   ·left;rw [←h];exact hb
   ·right;rw [h] at hb;cases hb;exact Nat.le_refl _
  obtain ⟨v',W',hr,se⟩:=xH (P:=P) (c:=c) (ty:=0) (e:=nv c.key φ) hu mn nq dS hT vi sB sd mq
  have YL: ∀ty,(Builtin.append_ #[t,t] ty #[v0,.slice (some ⟨g2,0,none⟩) ys.length c2]).run P W= .ok v' W':=fun ty=>hr
  have aeZ: ∃ad c0,v0= .slice ad xs.length c0∧xs.length≤c0∧c0≤maxLen:=by
   rcases sB.2 with ⟨h1,h0⟩|⟨g,c0,cM,h1,_,h3,h4,h5,_⟩
   ·exact ⟨none,0,by rw [h1,h0],by omega,by omega⟩
   ·exact ⟨_,c0,h1,h4,h5⟩
  obtain ⟨ad,c0,rfl,Fk,BJ⟩:=aeZ
  refine (Uo hf na rI hm Fk (by unfold maxLen at BJ;omega) (by omega) sf YL).mono ?_
  rintro x vW ⟨rfl,rfl⟩
  exact ⟨_,rfl,fin _ _ se⟩
 ·have sf:i<xs.length:=by omega
  obtain ⟨g,c0,cM,rfl,hgc,Fk,BJ,qx,Kt⟩: ∃g c0 cM,v0= .slice (some ⟨g,0,none⟩) xs.length c0∧W.heap[g]? =some (.cells cM I.elem (0,0))∧xs.length≤c0∧c0≤maxLen∧cM.size=c0 *E.size∧cM.toList.take (xs.length *E.size)=cells:=by
   rcases sB.2 with ⟨_,h0⟩|⟨g,c0,cM,h1,_,h3,h4,h5,h6,h7⟩
   ·omega
   ·exact ⟨g,c0,cM,h1,h3,h4,h5,h6,h7⟩
  have S1:=bm hgc
  have Wa:g≠g2:=fun h=>cG g rfl (by rw [h];rfl)
  have rY:i *E.size≤xs.length *E.size:=Nat.mul_le_mul_right _ hi
  have him:(i+ys.length) *E.size=i *E.size+news.length:=by rw [Nat.add_mul,BL]
  have YP:(xs.length+ys.length) *E.size=xs.length *E.size+news.length:=by rw [Nat.add_mul,BL]
  have Mj:(cells.drop (i *E.size)).length=(xs.length-i) *E.size:=by rw [List.length_drop,nt,Nat.sub_mul]
  have ai0:(xs.length-i) *E.size=xs.length *E.size-i *E.size:=Nat.sub_mul _ _ _
  have Wi: ∀{w:World},(w.heap[g]? =W.heap[g]?)→ ∀(j:Nat) (u:Value),(cells.drop (i *E.size))[j]? =some u→w.cell? ((⟨g,i *E.size,none⟩:Addr).add j)=some u:=by
   intro w hw j u hj
   rw [List.getElem?_drop] at hj
   have:=bh g rfl hw _ u hj
   rw [Addr.add_mid] at this⊢
   rwa [Nat.zero_add] at this
  have VJ: ∀u∈cells.drop (i *E.size),u.oneCell'=true:=fun u hu=>qX.vh u (List.mem_of_mem_drop hu)
  have aa0:Rest W {W with drawn:=W.drawn+1}:=⟨rfl,rfl,rfl,fun _=>rfl⟩
  by_cases qP:c0<xs.length+ys.length
  ·have hk:i+(xs.length+ys.length-i)=xs.length+ys.length:=by omega
   obtain ⟨G,hG⟩: ∃G,G=grownCap W (xs.length+ys.length) c0 I.elem:=⟨_,rfl⟩
   have hGn:xs.length+ys.length≤G:=by rw [hG];exact grownCap_ge W _ _ _
   have hGm:G≤maxLen:=by rw [hG];exact grownCap_le_maxLen W _ _ _ (by unfold maxLen;omega)
   obtain ⟨G9,XV⟩: ∃G9:Array Value,G9=(cells.take (i *E.size)).toArray++Builtin.zeroCells z.cells (xs.length+ys.length-i)++Builtin.zeroCells z.cells (G-(xs.length+ys.length)):=⟨_,rfl⟩
   have hRl:G9.size=G *E.size:=by
    rw [XV]
    simp only [Array.size_append,List.size_toArray,List.length_take,Builtin.zeroCells,Array.size_map,Array.size_range,HQ]
    rw [Nat.min_eq_left (by rw [nt];exact rY),←Nat.add_mul,←Nat.add_mul]
    congr 1;omega
   have hRt:G9.toList.take (i *E.size)=cells.take (i *E.size):=by
    rw [XV]
    simp only [Array.toList_append,List.append_assoc]
    have hl:(cells.take (i *E.size)).length=i *E.size:=by rw [List.length_take,nt];exact Nat.min_eq_left rY
    rw [List.take_append_of_le_length (by omega),List.take_of_length_le (by omega)]
   have hA: ∀ty,(Builtin.append_ #[t,ti] ty #[.slice (some ⟨g,0,none⟩) i c0,.int .i64 ((xs.length+ys.length-i:Nat):Int)]).run P W= .ok (.slice (some ⟨W.heap.size,0,none⟩) (xs.length+ys.length) G) (W.drew.alloc (.cells G9 I.elem)):=fun ty=>by
    have hold:(Builtin.firstCells ie.size i (.slice (some ⟨g,0,none⟩) i c0)).run P W.drew= .ok (cells.take (i *E.size)).toArray W.drew:=by
     refine run_firstCells_some W.drew ie.size i ⟨g,0,none⟩ i c0 _ (by rw [rI,List.length_take,nt];exact Nat.min_eq_left rY) (fun j v hj=> ?_)
     rw [List.getElem?_take] at hj
     split at hj
     ·exact bh g rfl rfl j v hj
     ·cases hj
    have h:=Lib.run_append_grow_zeros W t ti ty I.elem ie z .i64 .i64 hu qw na Uq (some ⟨g,0,none⟩) i c0 (cells.take (i *E.size)) hold (xs.length+ys.length-i) (by omega) (by rw [rI];exact dS) (by omega) (by omega)
     (by rw [Nt];exact Nat.le_trans (Nat.mul_le_mul_right _ (by omega:xs.length+ys.length-i≤xs.length+ys.length)) (Nat.le_trans mq (by omega))) (by rw [Nt,hk];exact growslice_fits qP (Nat.le_trans mq (by omega)))
    rw [hk,←hG,←XV] at h
    exact h
   have hg9:(W.drew.alloc (.cells G9 I.elem)).heap[W.heap.size]? =some (.cells G9 I.elem (0,0)):=jF W.drew _
   have Bl: ∀b,b<W.heap.size→(W.drew.alloc (.cells G9 I.elem)).heap[b]? =W.heap[b]? :=fun b hb=>ym W.drew _ b hb
   have hnG:(xs.length+ys.length) *E.size≤G9.size:=by rw [hRl];exact Nat.mul_le_mul_right _ hGn
   obtain ⟨RA,hRA⟩: ∃RA:List Value,RA=G9.toList.take (i *E.size)++news++G9.toList.drop (i *E.size+news.length):=⟨_,rfl⟩
   have aa1:RA.length=G9.size:=by
    rw [hRA]
    simp only [List.length_append,List.length_take,List.length_drop,Array.length_toList]
    omega
   have hB: ∀ty,(Builtin.copy_ #[t,t] ty #[.slice (some ⟨W.heap.size,i *E.size,none⟩) (xs.length+ys.length-i) (G-i),.slice (some ⟨g2,0,none⟩) ys.length c2]).run P (W.drew.alloc (.cells G9 I.elem))=
    .ok (goInt ((ys.length:Nat):Int)) (World.setRow (W.drew.alloc (.cells G9 I.elem)) W.heap.size RA.toArray):=fun ty=>by
    rw [hRA]
    exact nM (size:=E.size) hu na rI hg9 (by simp only [Nat.min_def];split<;>omega) BL (Rj (Bl g2 aeY)) (by omega) yq.vh
   have XW:=setRow_heap (W.drew.alloc (.cells G9 I.elem)) W.heap.size G9 RA.toArray I.elem (0,0) hg9
   obtain ⟨W2,N4⟩: ∃W2,W2=World.setRow (W.drew.alloc (.cells G9 I.elem)) W.heap.size RA.toArray:=⟨_,rfl⟩
   have Us: ∀b,b<W.heap.size→W2.heap[b]? =W.heap[b]? :=fun b hb=>by rw [N4,setRow_other _ _ _ _ (by omega)];exact Bl b hb
   have K3:Rest W W2:=by
    rw [N4]
    exact (show Rest W W.drew from ⟨rfl,rfl,rfl,fun _=>rfl⟩).trans ((Rest.alloc W.drew G9 I.elem).trans (Rest.setRow _ _ _))
   have ai3:W2.heap.size=W.heap.size+1:=by rw [N4,setRow_size];exact Array.size_push _
   rw [←N4] at hB XW
   have hC:=fun ty=>nM (P:=P) (dT:=t) (sT:=t) (ty:=ty) (size:=E.size) (Um:=xs.length+ys.length-(i+ys.length)) (XP:=G-(i+ys.length)) (Un:=xs.length-i) (XQ:=c0-i) (k:=xs.length-i) (o:=(i+ys.length) *E.size) (a:=⟨g,i *E.size,none⟩) (w:={W2 with drawn:=W2.drawn+1}) hu na rI XW (by simp only [Nat.min_def];split<;>omega) Mj
    (Wi (Us g S1)) (by simp only [List.size_toArray];rw [aa1,him,Mj];omega) VJ
   refine (Rh hf na rI hm Fk (by unfold maxLen at BJ;omega) (by omega) sf qP hGn hA hB hC).mono ?_
   rintro x vW ⟨rfl,rfl⟩
   refine ⟨_,rfl,?_⟩
   refine BN (v0:= .slice (some ⟨g,0,none⟩) xs.length c0) (n:=xs.length+ys.length) (cells:=cells.take (i *E.size)++news++cells.drop (i *E.size)) hz iC mn nq zT ?_ ?_ ?_ Ma ?_ Wh CR (fun b hb=> .inr (by cases hb;exact Nat.le_refl _))
   ·intro b hb cG
    rw [setRow_other _ _ _ _ (by omega)]
    exact Us b hb
   ·rw [setRow_size];show W.heap.size≤W2.heap.size;omega
   ·exact K3.trans ((show Rest W2 {W2 with drawn:=W2.drawn+1} from ⟨rfl,rfl,rfl,fun _=>rfl⟩).trans (Rest.setRow _ _ _))
   ·refine ⟨by rw [CR.length,Wh],.inr ⟨W.heap.size,G,_,rfl,Nat.zero_le _,setRow_heap {W2 with drawn:=W2.drawn+1} W.heap.size RA.toArray _ I.elem (0,0) XW,hGn,hGm,?_,?_⟩⟩
    ·simp only [List.size_toArray,List.length_append,List.length_take,List.length_drop]
     rw [aa1,←hRl]
     omega
    ·have ae3:RA.take ((i+ys.length) *E.size)=cells.take (i *E.size)++news:=by
      have hl:(G9.toList.take (i *E.size)++news).length=(i+ys.length) *E.size:=by rw [List.length_append,List.length_take,Array.length_toList,him];omega
      rw [hRA,List.take_append_of_le_length (by omega),List.take_of_length_le (by omega),hRt]
     rw [ae3]
     have uU:(cells.take (i *E.size)++news++cells.drop (i *E.size)).length=(xs.length+ys.length) *E.size:=by rw [CR.length,Wh]
     rw [←uU]
     exact List.take_left
  ·have qP:xs.length+ys.length≤c0:=by omega
   have hcz:cM.toList.length=cM.size:=Array.length_toList
   have vf:(xs.length+ys.length) *E.size≤cM.size:=by rw [qx];exact Nat.mul_le_mul_right _ qP
   have hO:(callFunc fo #[.slice (some ⟨g2,0,none⟩) ys.length c2,.slice (some ⟨g,(i+ys.length) *E.size,none⟩) (xs.length+ys.length-(i+ys.length)) (c0-(i+ys.length))]).run P W= .ok (.value (.bool false)) W:=by
    rw [hov,Lib.run_overlaps_apart W t tb I.elem hu E.size (fun w=>by simp [Go.sizeOf,typeInfo,na,rI]) ⟨g2,0,none⟩ ⟨g,(i+ys.length) *E.size,none⟩ _ _ _ _ (Ne.symm Wa) I.elem I.elem sa.size cM.size (by simp [World.shape?,Q4]) (by simp [World.shape?,hgc])
     (by rw [qx];exact Nat.ne_of_gt (Nat.mul_pos (by omega) dS)) (by simp [World.frozen?,Q4]) (by simp [World.frozen?,Q4])]
    rfl
   let R1:List Value:=cM.toList.take ((i+ys.length) *E.size)++cells.drop (i *E.size)++cM.toList.drop ((i+ys.length) *E.size+(cells.drop (i *E.size)).length)
   have hR1:R1.length=cM.size:=by
    simp only [R1,List.length_append,List.length_take,List.length_drop,Array.length_toList]
    rw [Mj] at *
    omega
   have hB: ∀ty,(Builtin.copy_ #[t,t] ty #[.slice (some ⟨g,(i+ys.length) *E.size,none⟩) (xs.length+ys.length-(i+ys.length)) (c0-(i+ys.length)),.slice (some ⟨g,i *E.size,none⟩) (xs.length+ys.length-i) (c0-i)]).run P {W with drawn:=W.drawn+1}=
    .ok (goInt ((xs.length-i:Nat):Int)) (World.setRow {W with drawn:=W.drawn+1} g R1.toArray):=fun ty=>
    nM (size:=E.size) hu na rI (w:={W with drawn:=W.drawn+1}) hgc (by simp only [Nat.min_def];split<;>omega) Mj (Wi rfl) (by rw [him,Mj];omega) VJ
   have ae5:(World.setRow {W with drawn:=W.drawn+1} g R1.toArray).heap[g]? =some (.cells R1.toArray I.elem (0,0)):=setRow_heap {W with drawn:=W.drawn+1} g cM R1.toArray I.elem (0,0) hgc
   have Us: ∀b,b≠g→(World.setRow {W with drawn:=W.drawn+1} g R1.toArray).heap[b]? =W.heap[b]? :=fun b hb=>setRow_other {W with drawn:=W.drawn+1} g b R1.toArray hb
   have hC:=fun ty=>nM (P:=P) (dT:=t) (sT:=t) (ty:=ty) (size:=E.size) (Um:=xs.length+ys.length-i) (XP:=c0-i) (Un:=ys.length) (XQ:=c2) (k:=ys.length) (o:=i *E.size) (a:=⟨g2,0,none⟩) hu na rI ae5 (by simp only [Nat.min_def];split<;>omega) BL
    (Rj (Us g2 (Ne.symm Wa))) (by simp only [List.size_toArray];rw [hR1];omega) yq.vh
   refine (Ri hf na rI hm Fk (by unfold maxLen at BJ;omega) (by omega) sf qP hO hB hC).mono ?_
   rintro x vW ⟨rfl,rfl⟩
   refine ⟨_,rfl,?_⟩
   rw [setRow_setRow]
   have xk:Rest W (World.setRow {W with drawn:=W.drawn+1} g (R1.toArray.toList.take (i *E.size)++news++R1.toArray.toList.drop (i *E.size+news.length)).toArray):=aa0.trans (Rest.setRow _ _ _)
   refine BN (v0:= .slice (some ⟨g,0,none⟩) xs.length c0) (n:=xs.length+ys.length) (cells:=cells.take (i *E.size)++news++cells.drop (i *E.size)) hz iC mn nq zT ?_ (by simp) xk Ma ?_ Wh CR (fun b hb=> .inl hb)
   ·intro b hb cG
    refine setRow_other {W with drawn:=W.drawn+1} g b _ (fun h=>cG ?_)
    rw [h];rfl
   ·refine ⟨by rw [CR.length,Wh],.inr ⟨g,c0,_,rfl,Nat.zero_le _,setRow_heap {W with drawn:=W.drawn+1} g cM _ I.elem (0,0) hgc,qP,BJ,?_,?_⟩⟩
    ·simp only [List.size_toArray,List.length_append,List.length_take,List.length_drop]
     rw [hR1,←qx]
     omega
    ·rw [YP]
     refine Up (cM:=cM.toList) (r:=xs.length *E.size) (by simpa using hR1) rfl nt rY (by simp only [Array.length_toList];omega) ?_ ?_
     ·show R1.take (i *E.size)=_
      rw [←Kt,List.take_take,Nat.min_eq_left rY]
      simp only [R1]
      rw [List.append_assoc,List.take_append_of_le_length (by rw [List.length_take,hcz];omega),List.take_take,Nat.min_eq_left (by omega)]
     ·show (R1.drop (i *E.size+news.length)).take _=_
      simp only [R1]
      have hl:(cM.toList.take ((i+ys.length) *E.size)).length=i *E.size+news.length:=by rw [List.length_take,hcz];omega
      rw [List.append_assoc,←hl,List.drop_left,List.take_append_of_le_length (by omega),List.take_of_length_le (by omega)]
end
end Dn
/-
  slices.Delete of the library, walked. Conditions: none.
-/
set_option linter.unusedSimpArgs false
set_option linter.unusedVariables false
namespace Dn
open Go
structure AV (o:Oper) (op:Op):Prop where
 dst:o.dst=none
 op:o.op=op
 guard:o.guard=none
section
variable {P:Program} {Q:Exit→Act→World→Prop} {ops:Array Oper} {o:Oper} {a:Act} {w w':World} {n:Nat} {σ:Nat→Value}
theorem Tm.Wj {i:Nat} {op:Op} {rest:List Nat} {v:Value} (ay:Tm a n σ) (hi:ops[i]? =some o) (ho:AV o op) (bH:(execOp (ev σ) o).run P w= .ok (.value v) w')
 (h:wpOps P ops Q rest a w'):wpOps P ops Q (i::rest) a w:=by
 refine rH hi ho.guard (v:=v) (w':=w') (by rw [ay.eval];exact bH) ?_
 rw [ho.dst];exact h
def CS (ops:Array Oper):Nat→Nat→Array Bool→Bool
 |0,i,listed=>(Region.ready .any ops listed==[i])&&(Region.ready .any ops (listed.setIfInBounds i true)==[i+1])&&(Region.ready .any ops ((listed.setIfInBounds i true).setIfInBounds (i+1) true)).isEmpty
 |k+1,i,listed=>Region.free .any ops listed i&&(Region.ready .any ops listed).contains i&&CS ops k (i+1) (listed.setIfInBounds i true)
def K4 (ops:Array Oper):Bool:=Region.noSelect ops&&Nat.blt 1 ops.size&&CS ops (ops.size-2) 0 (Array.replicate ops.size false)
structure Ha (ops:Array Oper) (k i:Nat) (listed:Array Bool):Prop where
 sel:Region.noSelect ops=true
 ord:CS ops k i listed=true
theorem Tm.FJ {N:Act→World→Prop} {i d:Nat} {op:Op} {k:Nat} {listed:Array Bool} {v:Value} (ay:Tm a n σ) (hi:ops[i]? =some o) (ho:aI o d op) (hd:d<n) (hb:Ha ops (k+1) i listed) (bH: ∀w,(execOp (ev σ) o).run P w= .ok (.value v) w)
 (h: ∀a',Tm a' n (vp σ d v)→Ha ops k (i+1) (listed.setIfInBounds i true)→wpAny P .any ops (o9 N) (k+2) (listed.setIfInBounds i true) a' w):wpAny P .any ops (o9 N) (k+3) listed a w:=by
 obtain ⟨hs,hb⟩:=hb
 simp only [CS,Bool.and_eq_true] at hb
 obtain ⟨⟨h1,h2⟩,h3⟩:=hb
 refine wpAny_take hi hs h1 h2 (fun c a w hq=>hq.elim) (v:=v) (.inl ⟨by simp [Region.wanted,ho.guard],fun w=>by rw [ay.eval];exact bH w⟩) ?_
 rw [ho.dst]
 exact h _ (ay.put hd v) ⟨hs,h3⟩
theorem Tm.aa2 {N:Act→World→Prop} {i d d2:Nat} {op op2:Op} {o2:Oper} {listed:Array Bool} {v v2:Value} (ay:Tm a n σ) (hi:ops[i]? =some o) (ho:aI o d op) (hd:d<n) (Pe:ops[i+1]? =some o2) (cc:aI o2 d2 op2) (S8:d2<n) (hb:Ha ops 0 i listed)
 (bH:(execOp (ev σ) o).run P w= .ok (.value v) w') (FF:(execOp (ev (vp σ d v)) o2).run P w'= .ok (.value v2) w')
 (h: ∀a',Tm a' n (vp (vp σ d v) d2 v2)→N a' w'):wpAny P .any ops (o9 N) 2 listed a w:=by
 obtain ⟨hs,hb⟩:=hb
 simp only [CS,Bool.and_eq_true,List.isEmpty_iff,beq_iff_eq] at hb
 obtain ⟨⟨h1,h2⟩,h3⟩:=hb
 refine wpAny_all h1 (by simp) ?_
 intro j hj
 simp only [List.mem_singleton] at hj
 subst hj
 unfold wpOp
 simp only [hi,Region.wanted,ho.guard,if_true]
 left
 unfold Oper.wp
 rw [ay.eval,bH,Oper.upon_value,ho.dst]
 have Rk:=ay.put hd v
 refine wpAny_all h2 (by simp) ?_
 intro q hq
 simp only [List.mem_singleton] at hq
 subst hq
 unfold wpOp
 simp only [Pe,Region.wanted,cc.guard,if_true]
 left
 unfold Oper.wp
 rw [Rk.eval,FF,Oper.upon_value,cc.dst]
 exact wpAny_done h3 (h _ (Rk.put S8 v2)) 0
theorem Rl {id k:Nat} (hm:P.follows .mixedOrders=true) (hb:K4 ops=true) (hk:ops.size=k+2) (h:Ha ops k 0 (Array.replicate (k+2) false)→wpAny P .any ops (o9 fun a w=>Q .normal a w) (k+2) (Array.replicate (k+2) false) a {w with drawn:=w.drawn+1}):
 (Code.region id ops true).wp P Q a w:=by
 simp only [K4,Bool.and_eq_true] at hb
 rw [hk] at hb
 refine Code.wp_mono ?_ (wp_region_any (Q:=o9 fun a w=>Q .normal a w) hm (by rw [hk];exact h ⟨hb.1.1,hb.2⟩))
 intro x a' w' hx
 cases x<;>first|exact hx|exact hx.elim
theorem FK {d:Nat} {t el:TypeId} {x y z m3:Operand} {e:Operand→Value} {ad:Option Addr} {m c l h k:Nat} {i:TypeInfo} (ho:aI o d (.slice t x (some y) (some z) (some m3))) (hu:P.underlying t=some (.slice el)) (hi:P.info? el=some i)
 (hx:e x= .slice ad m c) (hy:e y= .int .i64 l) (hz:e z= .int .i64 h) (hm:e m3= .int .i64 k) (h1:l≤h) (h2:h≤k) (h3:k≤c) (w:World):(execOp e o).run P w= .ok (.value (.slice (if k=l then ad else ad.map (·.add (l *i.size))) (h-l) (k-l))) w:=by
 simp [execOp,ho.op,Instr.sliceAt,Instr.slice,run_underlying hu,hx,hy,hz,hm,Go.sizeOf,typeInfo,hi,Instr.sliceBounds,Instr.sliceBound,asIntOf,h1,h2,h3]
theorem I6 {d:Nat} {t el:TypeId} {x y z:Operand} {e:Operand→Value} {ad:Option Addr} {m c l h size:Nat} {i:TypeInfo} (ho:aI o d (.slice t x (some y) (some z) none)) (hu:P.underlying t=some (.slice el)) (hi:P.info? el=some i) (hs:i.size=size)
 (hx:e x= .slice ad m c) (hy:e y= .int .i64 l) (hz:e z= .int .i64 h) (h1:l≤h) (h2:h≤c) (w:World):(execOp e o).run P w= .ok (.value (.slice (if c=l then ad else ad.map (·.add (l *size))) (h-l) (c-l))) w:=by
 simp [execOp,ho.op,Instr.sliceAt,Instr.slice,run_underlying hu,hx,hy,hz,Go.sizeOf,typeInfo,hi,hs,Instr.sliceBounds,Instr.sliceBound,asIntOf,h1,h2]
theorem Mz {x:Operand} {t1:TypeId} {e:Operand→Value} {v1 v:Value} (ho:AV o (.call {callee:= .builtin .clear,args:= #[x],argTypes:= #[t1]})) (hx:e x=v1)
 (h:(Builtin.clear_ #[t1] o.type #[v1]).run P w= .ok v w'):(execOp e o).run P w= .ok (.value v) w':=by
 simp [execOp,ho.op,resolve,invoke,builtin,hx,h]
theorem vt {t ty elem t2:TypeId} {g off n c size:Nat} {z:Value} {cM:Array Value} {i:TypeInfo} (hu:P.underlying t=some (.slice elem)) (hi:P.info? elem=some i) (hz:i.zero=some z) (HQ:z.cells.size=size) (h1: ∀v∈z.cells.toList,v.oneCell'=true)
 (hg:w.heap[g]? =some (.cells cM t2 (0,0))) (hn:0<n) (vf:off+n *size≤cM.size):
 ∃zs:List Value,zs.length=n *size∧(Builtin.clear_ #[t] ty #[.slice (some ⟨g,off,none⟩) n c]).run P w= .ok (.tuple #[]) (w.setRow g (cM.toList.take off++zs++cM.toList.drop (off+zs.length)).toArray):=by
 refine ⟨(Builtin.zeroCells z.cells n).toList,?_,?_⟩
 ·simp [Builtin.zeroCells,HQ]
 ·have hl:(Builtin.zeroCells z.cells n).toList.length=n *size:=by simp [Builtin.zeroCells,HQ]
  have dH:=run_storeCells_at P g off t2 (Builtin.zeroCells z.cells n).toList 0 cM w hg (by rw [hl];simpa using vf) (by
   intro v hv
   simp only [Builtin.zeroCells,Array.toList_map,List.mem_map,Array.mem_toList_iff,Array.mem_range] at hv
   obtain ⟨j,hj,rfl⟩:=hv
   have dS:0<z.cells.size:=by
    rcases Nat.eq_zero_or_pos z.cells.size with h0|h0
    ·rw [h0] at hj;omega
    ·exact h0
   have dx:j%z.cells.size<z.cells.size:=Nat.mod_lt _ dS
   rw [getElem!_pos z.cells _ dx]
   exact h1 _ (by simp))
  simp only [Nat.add_zero] at dH
  obtain ⟨m,rfl⟩: ∃m,n=m+1:=⟨n-1,by omega⟩
  simp [Builtin.clear_,run_underlying hu,zeroValue,typeInfo,hi,hz,dH]
end
theorem sC {w:World} {g:Nat} {cM:Array Value} {t:TypeId} {fr:Nat×Nat} (cs:Array Value) (hg:w.heap[g]? =some (.cells cM t fr)):(w.setRow g cs).heap[g]? =some (.cells cs t fr):=by
 simp [World.setRow,Array.getElem?_modify,hg]
def yL (r:Nat→Nat) (o:Nat→Oper):Code:=
 .seq (.region (r 0) #[o 0] false) (.seq (.region (r 1) #[o 1,o 2,o 3,o 4,o 5,o 6] false) (.seq (.seq (.region (r 2) #[o 7,o 8,o 9] false) (.cond (.tmp 16) (.seq (.region (r 3) #[o 10,o 11] false) .ret) .skip)) (.seq (.region (r 4) #[o 12,o 13,o 14] false) (.seq (.region (r 5) #[o 15,o 16,o 17,o 18,o 19,o 20,o 21,o 22] true) (.seq (.region (r 6) #[o 23,o 24,o 25,o 26,o 27,o 28] false) (.seq (.region (r 7) #[o 29,o 30] false) .ret))))))
structure XX (t ti:Nat) (o:Nat→Oper):Prop where
 h0:aI (o 0) 6 (.assign (.const (.slice none 0 0)))
 h1:aI (o 1) 8 (.move (.tmp 0))
 h2:aI (o 2) 9 (.move (.tmp 1))
 h3:aI (o 3) 10 (.move (.tmp 2))
 h4:aI (o 4) 11 (.move (.tmp 0))
 h5:aI (o 5) 12 (.call {callee:= .builtin .len,args:= #[.tmp 11],argTypes:= #[t]})
 h6:aI (o 6) 13 (.slice t (.tmp 8) (some (.tmp 9)) (some (.tmp 10)) (some (.tmp 12)))
 h7:aI (o 7) 14 (.move (.tmp 1))
 h8:aI (o 8) 15 (.move (.tmp 2))
 h9:aI (o 9) 16 (.binOp .eql ti (.tmp 14) (.tmp 15) ti)
 Mk:aI (o 10) 17 (.move (.tmp 0))
 KW:aI (o 11) 6 (.assign (.tmp 17))
 KX:aI (o 12) 18 (.move (.tmp 0))
 KY:aI (o 13) 19 (.call {callee:= .builtin .len,args:= #[.tmp 18],argTypes:= #[t]})
 KZ:aI (o 14) 7 (.assign (.tmp 19))
 K0:aI (o 15) 20 (.move (.tmp 0))
 K1:aI (o 16) 21 (.move (.tmp 1))
 Rf:aI (o 17) 22 (.slice t (.tmp 20) none (some (.tmp 21)) none)
 Wb:aI (o 18) 23 (.move (.tmp 0))
 Wc:aI (o 19) 24 (.move (.tmp 2))
 Wd:aI (o 20) 25 (.slice t (.tmp 23) (some (.tmp 24)) none none)
 S9:aI (o 21) 26 (.call {callee:= .builtin .append,args:= #[.tmp 22,.tmp 25],argTypes:= #[t,t]})
 Ta:aI (o 22) 0 (.assign (.tmp 26))
 Tb:aI (o 23) 27 (.move (.tmp 0))
 Tc:aI (o 24) 28 (.move (.tmp 0))
 Td:aI (o 25) 29 (.call {callee:= .builtin .len,args:= #[.tmp 28],argTypes:= #[t]})
 Te:aI (o 26) 30 (.move (.tmp 7))
 We:aI (o 27) 31 (.slice t (.tmp 27) (some (.tmp 29)) (some (.tmp 30)) none)
 Wf:AV (o 28) (.call {callee:= .builtin .clear,args:= #[.tmp 31],argTypes:= #[t]})
 Wg:aI (o 29) 32 (.move (.tmp 0))
 Rg:aI (o 30) 6 (.assign (.tmp 32))
 d5:K4 #[o 15,o 16,o 17,o 18,o 19,o 20,o 21,o 22]=true
structure I7 (P:Program) (f t ti el:Nat) (fn:Func) (r:Nat→Nat) (o:Nat→Oper):Prop where
 pos:P.funcs[f]? =some fn
 name:(fn.name== "runtime.NumGoroutine")=false
 tmps:fn.ntmps=33
 res:fn.results= #[.tmp 6]
 body:fn.body=some (yL r o)
 ops:XX t ti o
 mix:P.follows .mixedOrders=true
 s5:P.underlying t=some (.slice el)
section
variable {P:Program} {f t ti el:Nat} {fn:Func} {r:Nat→Nat} {o:Nat→Oper} {ie:TypeInfo} {size n c i j g:Nat} {ad:Option Addr} {w:World}
theorem MA {a:Act} {w:World} {σ:Nat→Value} {R:Ending→World→Prop} {v:Value} (hr:fn.results= #[.tmp 6]) (ay:Tm a 33 σ) (h6:σ 6=v) (h:R (.returned v) w):bodyPost P fn R .ret a w:=by
 refine ⟨ay.defers,v,?_,h⟩
 have h2:a.tmps[6]?.getD undef=v:=by have:=ay.get 6;rw [h6] at this;simpa using this
 simp [results,hr,h2]
theorem Rm (hf:I7 P f t ti el fn r o) (na:P.info? el=some ie) (hn:n≤c) (hi:i≤n):
 Calls P f #[.slice ad n c,.int .i64 ((i:Nat):Int),.int .i64 ((i:Nat):Int)] w fun x w'=>x= .returned (.slice ad n c)∧w'=w:=by
 refine calls_of_wp hf.pos hf.body ?_
 rw [hf.tmps]
 have key: ∀a:Act,Tm a 33 (vp (vp (vp (fun _=>undef) 0 (.slice ad n c)) 1 (.int .i64 ((i:Nat):Int))) 2 (.int .i64 ((i:Nat):Int)))→(yL r o).wp P (bodyPost P fn fun x w'=>x= .returned (.slice ad n c)∧w'=w) a w:=by
  intro a ay
  unfold yL
  refine wp_seq (wp_region ?_)
  rw [show List.range (#[o 0]:Array Oper).size=[0] from rfl]
  refine ay.step (v:= .slice none 0 0) rfl hf.ops.h0 (by decide) (cv hf.ops.h0 _) (fun a ay=> ?_)
  refine wp_seq (wp_region ?_)
  rw [show List.range (#[o 1,o 2,o 3,o 4,o 5,o 6]:Array Oper).size=[0,1,2,3,4,5] from rfl]
  refine ay.step (v:= .slice ad n c) rfl hf.ops.h1 (by decide) (aH hf.ops.h1 _) (fun a ay=> ?_)
  refine ay.step (v:= .int .i64 ((i:Nat):Int)) rfl hf.ops.h2 (by decide) (aH hf.ops.h2 _) (fun a ay=> ?_)
  refine ay.step (v:= .int .i64 ((i:Nat):Int)) rfl hf.ops.h3 (by decide) (aH hf.ops.h3 _) (fun a ay=> ?_)
  refine ay.step (v:= .slice ad n c) rfl hf.ops.h4 (by decide) (aH hf.ops.h4 _) (fun a ay=> ?_)
  refine ay.step (v:= .int .i64 ((n:Nat):Int)) rfl hf.ops.h5 (by decide) (lE hf.ops.h5 hf.s5 rfl _) (fun a ay=> ?_)
  refine ay.step rfl hf.ops.h6 (by decide) (FK hf.ops.h6 hf.s5 na rfl rfl rfl rfl (Nat.le_refl _) hi hn _) (fun a ay=> ?_)
  refine wp_seq ?_
  refine wp_seq (wp_region ?_)
  rw [show List.range (#[o 7,o 8,o 9]:Array Oper).size=[0,1,2] from rfl]
  refine ay.step (v:= .int .i64 ((i:Nat):Int)) rfl hf.ops.h7 (by decide) (aH hf.ops.h7 _) (fun a ay=> ?_)
  refine ay.step (v:= .int .i64 ((i:Nat):Int)) rfl hf.ops.h8 (by decide) (aH hf.ops.h8 _) (fun a ay=> ?_)
  refine ay.step (v:= .bool (decide (((i:Nat):Int)=((i:Nat):Int)))) rfl hf.ops.h9 (by decide) (nL hf.ops.h9 rfl rfl _) (fun a ay=> ?_)
  refine ay.cond (b:=true) (by show Value.bool (decide (((i:Nat):Int)=((i:Nat):Int)))=_;rw [decide_eq_true rfl]) ?_
  simp only [if_true]
  refine wp_seq (wp_region ?_)
  rw [show List.range (#[o 10,o 11]:Array Oper).size=[0,1] from rfl]
  refine ay.step (v:= .slice ad n c) rfl hf.ops.Mk (by decide) (aH hf.ops.Mk _) (fun a ay=> ?_)
  refine ay.step (v:= .slice ad n c) rfl hf.ops.KW (by decide) (cv hf.ops.KW _) (fun a ay=> ?_)
  refine wp_ret ?_
  show bodyPost P fn (fun x wq=>x= .returned (.slice ad n c)∧wq=w) .ret a w
  refine MA hf.res ay (v:= .slice ad n c) rfl ?_
  exact ⟨rfl,rfl⟩
 exact key _ (tm3 _ _ _ 30)
theorem Rn (hf:I7 P f t ti el fn r o) (na:P.info? el=some ie) (rI:ie.size=size) (hn:n≤c) (O9:i<j) (hj:j≤n) {w1 w2:World}
 (hA: ∀ty,(Builtin.append_ #[t,t] ty #[.slice (some ⟨g,0,none⟩) i c,.slice (if c=j then (some ⟨g,0,none⟩:Option Addr) else some ⟨g,j *size,none⟩) (n-j) (c-j)]).run P {w with drawn:=w.drawn+1}= .ok (.slice (some ⟨g,0,none⟩) (i+(n-j)) c) w1)
 (hC: ∀ty,(Builtin.clear_ #[t] ty #[.slice (some ⟨g,(i+(n-j)) *size,none⟩) (n-(i+(n-j))) (c-(i+(n-j)))]).run P w1= .ok (.tuple #[]) w2):
 Calls P f #[.slice (some ⟨g,0,none⟩) n c,.int .i64 ((i:Nat):Int),.int .i64 ((j:Nat):Int)] w fun x w'=>x= .returned (.slice (some ⟨g,0,none⟩) (i+(n-j)) c)∧w'=w2:=by
 refine calls_of_wp hf.pos hf.body ?_
 rw [hf.tmps]
 have h0: ∀l:Nat,(⟨g,0,none⟩:Addr).add l=⟨g,l,none⟩:=fun l=>by
  have:=Addr.add_mid g 0 l
  rwa [Nat.zero_add] at this
 have key: ∀a:Act,Tm a 33 (vp (vp (vp (fun _=>undef) 0 (.slice (some ⟨g,0,none⟩) n c)) 1 (.int .i64 ((i:Nat):Int))) 2 (.int .i64 ((j:Nat):Int)))→(yL r o).wp P (bodyPost P fn fun x w'=>x= .returned (.slice (some ⟨g,0,none⟩) (i+(n-j)) c)∧w'=w2) a w:=by
  intro a ay
  unfold yL
  refine wp_seq (wp_region ?_)
  rw [show List.range (#[o 0]:Array Oper).size=[0] from rfl]
  refine ay.step (v:= .slice none 0 0) rfl hf.ops.h0 (by decide) (cv hf.ops.h0 _) (fun a ay=> ?_)
  refine wp_seq (wp_region ?_)
  rw [show List.range (#[o 1,o 2,o 3,o 4,o 5,o 6]:Array Oper).size=[0,1,2,3,4,5] from rfl]
  refine ay.step (v:= .slice (some ⟨g,0,none⟩) n c) rfl hf.ops.h1 (by decide) (aH hf.ops.h1 _) (fun a ay=> ?_)
  refine ay.step (v:= .int .i64 ((i:Nat):Int)) rfl hf.ops.h2 (by decide) (aH hf.ops.h2 _) (fun a ay=> ?_)
  refine ay.step (v:= .int .i64 ((j:Nat):Int)) rfl hf.ops.h3 (by decide) (aH hf.ops.h3 _) (fun a ay=> ?_)
  refine ay.step (v:= .slice (some ⟨g,0,none⟩) n c) rfl hf.ops.h4 (by decide) (aH hf.ops.h4 _) (fun a ay=> ?_)
  refine ay.step (v:= .int .i64 ((n:Nat):Int)) rfl hf.ops.h5 (by decide) (lE hf.ops.h5 hf.s5 rfl _) (fun a ay=> ?_)
  refine ay.step rfl hf.ops.h6 (by decide) (FK hf.ops.h6 hf.s5 na rfl rfl rfl rfl (Nat.le_of_lt O9) hj hn _) (fun a ay=> ?_)
  refine wp_seq ?_
  refine wp_seq (wp_region ?_)
  rw [show List.range (#[o 7,o 8,o 9]:Array Oper).size=[0,1,2] from rfl]
  refine ay.step (v:= .int .i64 ((i:Nat):Int)) rfl hf.ops.h7 (by decide) (aH hf.ops.h7 _) (fun a ay=> ?_)
  refine ay.step (v:= .int .i64 ((j:Nat):Int)) rfl hf.ops.h8 (by decide) (aH hf.ops.h8 _) (fun a ay=> ?_)
  refine ay.step (v:= .bool (decide (((i:Nat):Int)=((j:Nat):Int)))) rfl hf.ops.h9 (by decide) (nL hf.ops.h9 rfl rfl _) (fun a ay=> ?_)
  refine ay.cond (b:=false) (by show Value.bool (decide (((i:Nat):Int)=((j:Nat):Int)))=_;rw [decide_eq_false (by omega)]) ?_
  simp only [Bool.false_eq_true,if_false]
  refine wp_skip ?_
  refine wp_seq (wp_region ?_)
  rw [show List.range (#[o 12,o 13,o 14]:Array Oper).size=[0,1,2] from rfl]
  refine ay.step (v:= .slice (some ⟨g,0,none⟩) n c) rfl hf.ops.KX (by decide) (aH hf.ops.KX _) (fun a ay=> ?_)
  refine ay.step (v:= .int .i64 ((n:Nat):Int)) rfl hf.ops.KY (by decide) (lE hf.ops.KY hf.s5 rfl _) (fun a ay=> ?_)
  refine ay.step (v:= .int .i64 ((n:Nat):Int)) rfl hf.ops.KZ (by decide) (cv hf.ops.KZ _) (fun a ay=> ?_)
  refine wp_seq (Rl hf.mix hf.ops.d5 (k:=6) rfl fun fa=> ?_)
  refine ay.FJ (v:= .slice (some ⟨g,0,none⟩) n c) rfl hf.ops.K0 (by decide) fa (fun w=>aH hf.ops.K0 _) (fun a ay fa=> ?_)
  refine ay.FJ (v:= .int .i64 ((i:Nat):Int)) rfl hf.ops.K1 (by decide) fa (fun w=>aH hf.ops.K1 _) (fun a ay fa=> ?_)
  refine ay.FJ (v:= .slice (some ⟨g,0,none⟩) i c) rfl hf.ops.Rf (by decide) fa (fun w=>yJ hf.ops.Rf hf.s5 na rI rfl rfl (by omega) _) (fun a ay fa=> ?_)
  refine ay.FJ (v:= .slice (some ⟨g,0,none⟩) n c) rfl hf.ops.Wb (by decide) fa (fun w=>aH hf.ops.Wb _) (fun a ay fa=> ?_)
  refine ay.FJ (v:= .int .i64 ((j:Nat):Int)) rfl hf.ops.Wc (by decide) fa (fun w=>aH hf.ops.Wc _) (fun a ay fa=> ?_)
  refine ay.FJ (v:= .slice (if c=j then (some ⟨g,0,none⟩:Option Addr) else some ⟨g,j *size,none⟩) (n-j) (c-j)) rfl hf.ops.Wd (by decide) fa (fun w=>by
   refine (vr (P:=P) hf.ops.Wd hf.s5 na rI (ad:=some ⟨g,0,none⟩) (m:=n) (c:=c) (l:=j) rfl rfl hj w).trans ?_
   rw [show (some (⟨g,0,none⟩:Addr)).map (·.add (j *size))=some ⟨g,j *size,none⟩ from congrArg some (h0 _)]) (fun a ay fa=> ?_)
  refine ay.aa2 (v:= .slice (some ⟨g,0,none⟩) (i+(n-j)) c) (v2:= .slice (some ⟨g,0,none⟩) (i+(n-j)) c) rfl hf.ops.S9 (by decide) rfl hf.ops.Ta (by decide) fa (CP hf.ops.S9 rfl rfl (hA _)) (cv hf.ops.Ta _) (fun a ay=> ?_)
  refine wp_seq (wp_region ?_)
  rw [show List.range (#[o 23,o 24,o 25,o 26,o 27,o 28]:Array Oper).size=[0,1,2,3,4,5] from rfl]
  refine ay.step (v:= .slice (some ⟨g,0,none⟩) (i+(n-j)) c) rfl hf.ops.Tb (by decide) (aH hf.ops.Tb _) (fun a ay=> ?_)
  refine ay.step (v:= .slice (some ⟨g,0,none⟩) (i+(n-j)) c) rfl hf.ops.Tc (by decide) (aH hf.ops.Tc _) (fun a ay=> ?_)
  refine ay.step (v:= .int .i64 ((i+(n-j):Nat):Int)) rfl hf.ops.Td (by decide) (lE hf.ops.Td hf.s5 rfl _) (fun a ay=> ?_)
  refine ay.step (v:= .int .i64 ((n:Nat):Int)) rfl hf.ops.Te (by decide) (aH hf.ops.Te _) (fun a ay=> ?_)
  refine ay.step (v:= .slice (some ⟨g,(i+(n-j)) *size,none⟩) (n-(i+(n-j))) (c-(i+(n-j)))) rfl hf.ops.We (by decide) (by
   refine (I6 (P:=P) hf.ops.We hf.s5 na rI (ad:=some ⟨g,0,none⟩) (m:=i+(n-j)) (c:=c) (l:=i+(n-j)) (h:=n) rfl rfl rfl (by omega) (by omega) w1).trans ?_
   rw [if_neg (show¬c=i+(n-j) by omega)]
   rw [show (some (⟨g,0,none⟩:Addr)).map (·.add ((i+(n-j)) *size))=some ⟨g,(i+(n-j)) *size,none⟩ from congrArg some (h0 _)]) (fun a ay=> ?_)
  refine ay.Wj (v:= .tuple #[]) rfl hf.ops.Wf (Mz hf.ops.Wf rfl (hC _)) ?_
  refine wp_seq (wp_region ?_)
  rw [show List.range (#[o 29,o 30]:Array Oper).size=[0,1] from rfl]
  refine ay.step (v:= .slice (some ⟨g,0,none⟩) (i+(n-j)) c) rfl hf.ops.Wg (by decide) (aH hf.ops.Wg _) (fun a ay=> ?_)
  refine ay.step (v:= .slice (some ⟨g,0,none⟩) (i+(n-j)) c) rfl hf.ops.Rg (by decide) (cv hf.ops.Rg _) (fun a ay=> ?_)
  refine wp_ret ?_
  show bodyPost P fn (fun x wq=>x= .returned (.slice (some ⟨g,0,none⟩) (i+(n-j)) c)∧wq=w2) .ret a w2
  refine MA hf.res ay (v:= .slice (some ⟨g,0,none⟩) (i+(n-j)) c) rfl ?_
  exact ⟨rfl,rfl⟩
 exact key _ (tm3 _ _ _ 30)
end
section
variable {P:Program} {c:Ctx} {f:Nat}
theorem FL {t ti el:Nat} {fn:Func} {r:Nat→Nat} {o:Nat→Oper} {I E:TI} {xs:List MV} {i j:Nat} (hf:I7 P f t ti el fn r o) (hT:j6 P c.ti) (hI:c.tv t=some I) (hL:I.w8=true) (hE:c.tv I.elem=some E)
 (SX:el=I.elem) (zT:c.qv (c.key f)=I.elem) (hg:c.dJ (c.key f)=true) (O9:i≤j) (hj:j≤xs.length):j8 P c f [.fresh xs,.i .i64 i,.i .i64 j] (.fresh (xs.take i++xs.drop j)):=by
 subst SX
 obtain ⟨hIt,PW⟩:=bD hI
 obtain ⟨mn,nq⟩:=bD hE
 obtain ⟨hu,E2,uW,_,dS⟩:=TI.lP (hT t I hIt) hL
 rw [mn] at uW
 cases uW
 obtain ⟨ie,z,na,rI,Nt,Uq,HQ⟩:=nu (hT _ E mn) nq
 obtain ⟨ie2,z2,Ro,PQ,hzr⟩:=xL hE hT
 rw [na] at Ro
 cases Ro
 rw [Uq] at PQ
 cases PQ
 have hz1: ∀v∈z.cells.toList,v.oneCell'=true:=(hzr (nv c.key fun _ _=>none)).cells
 intro φ W Z vs hz eE iC
 simp only [eg,hg,if_true] at eE
 obtain ⟨v0,v1,v2,xs',m1,m2,rfl,Iv,ahi,F0,A1,A2⟩:=(eE.resolve_left (by
  rintro ⟨_,_,_,_,_,ys,_,h1,_⟩
  simp only [List.cons.injEq,and_true] at h1
  exact absurd h1.2.2 (by simp))).resolve_right (by
  rintro ⟨pos,_,_,_,_,_,_,h1,_⟩
  rcases pos with _|_|_|pos<;>simp at h1)
 simp only [List.cons.injEq,MV.fresh.injEq,and_true] at Iv
 obtain ⟨rfl,rfl,rfl⟩:=Iv
 have num: ∀{v:Value} {n:Nat},eB c.key φ v (.i .i64 (n:Int))→v= .int .i64 (n:Int):=by
  intro v n h
  obtain ⟨_,h⟩:=h
  generalize wK:[v]=l at h
  cases h;simpa using wK
 have Nh:=num A1
 have SY:=num A2
 subst Nh
 subst SY
 rw [zT] at F0
 obtain ⟨I0,cells,Ur,_,sB,qX,FI⟩:=F0
 have Ur:c.ti I.elem=some I0:=Ur
 rw [mn] at Ur
 cases Ur
 have sB:W.ownsRow 0 I.elem E.size v0 xs.length cells:=sB
 have qX:aS c.key φ E.size cells xs:=qX
 have Ma: ∀b,v0.ownBlock=some b→Z b∧ ∀off,φ b off=none:=by
  intro b hb
  refine ⟨(FI b hb).1,fun off=> ?_⟩
  cases h:φ b off with
  |none=>rfl
  |some u=>have:=((FI b hb).2.1 off u h).1;cases this
 have nt:cells.length=xs.length *E.size:=qX.length
 have bH:(callFunc f [v0,.int .i64 (i:Int),.int .i64 (j:Int)].toArray).run P W= .ok (.enter f #[v0,.int .i64 (i:Int),.int .i64 (j:Int)]) W:=by
  have B9: ¬fn.name= "runtime.NumGoroutine" :=by simpa using hf.name
  simp [callFunc,hf.pos,B9,hf.body]
 unfold eU
 rw [bH]
 rcases Nat.lt_or_ge i j with dx|Pf
 ·
  obtain ⟨g,cp,cM,rfl,_,Pg,Fk,BJ,qx,Kt⟩: ∃g cp cM,v0= .slice (some ⟨g,0,none⟩) xs.length cp∧0≤g∧W.heap[g]? =some (.cells cM I.elem (0,0))∧xs.length≤cp∧cp≤maxLen∧cM.size=cp *E.size∧cM.toList.take (xs.length *E.size)=cells:=by
   rcases sB.2 with ⟨_,h0⟩|h
   ·omega
   ·exact h
  have Zz:cells.length≤cM.size:=by rw [nt,qx];exact Nat.mul_le_mul_right _ Fk
  obtain ⟨news,AB⟩: ∃news,news=cells.drop (j *E.size):=⟨_,rfl⟩
  have BL:news.length=(xs.length-j) *E.size:=by rw [AB,List.length_drop,nt,Nat.sub_mul]
  have GF: ∀u∈news,u.oneCell'=true:=fun u hu=>qX.vh u (by rw [AB] at hu;exact List.mem_of_mem_drop hu)
  have hmul: ∀{a b:Nat},a≤b→a *E.size≤b *E.size:=fun h=>Nat.mul_le_mul_right _ h
  have ai6:i *E.size≤j *E.size:=hmul (by omega)
  have hjn:j *E.size≤xs.length *E.size:=hmul hj
  have ai8:xs.length *E.size≤cp *E.size:=hmul Fk
  have hlo:(i+(xs.length-j)) *E.size=i *E.size+news.length:=by rw [Nat.add_mul,BL]
  have Bh:news.length+j *E.size=xs.length *E.size:=by rw [BL,Nat.sub_mul];omega
  obtain ⟨vu,MB⟩: ∃vu:Array Value,vu=(cM.toList.take (i *E.size)++news++cM.toList.drop (i *E.size+news.length)).toArray:=⟨_,rfl⟩
  have aa3:cM.toList.length=cM.size:=Array.length_toList
  have Wk:vu.toList.length=vu.size:=Array.length_toList
  have hA: ∀ty,(Builtin.append_ #[t,t] ty #[.slice (some ⟨g,0,none⟩) i cp,.slice (if cp=j then (some ⟨g,0,none⟩:Option Addr) else some ⟨g,j *E.size,none⟩) (xs.length-j) (cp-j)]).run P {W with drawn:=W.drawn+1}= .ok (.slice (some ⟨g,0,none⟩) (i+(xs.length-j)) cp) (({W with drawn:=W.drawn+1}:World).setRow g vu):=by
   intro ty
   have vf:i *ie.size+news.length≤cM.size:=by rw [rI,qx];omega
   by_cases hcj:cp=j
   ·rw [if_pos hcj]
    refine run_append_room (P:=P) (w:={W with drawn:=W.drawn+1}) t ty I.elem ie hu na g i cp cM Pg ⟨g,0,none⟩ (xs.length-j) (cp-j) news (by rw [rI];exact BL) ?_ GF (by omega) vf|>.trans ?_
    ·intro q u hq
     have:=(List.getElem?_eq_some_iff.1 hq).1
     rw [BL,show xs.length-j=0 by omega] at this
     omega
    ·rw [rI,MB]
   ·rw [if_neg hcj]
    refine run_append_room (P:=P) (w:={W with drawn:=W.drawn+1}) t ty I.elem ie hu na g i cp cM Pg ⟨g,j *E.size,none⟩ (xs.length-j) (cp-j) news (by rw [rI];exact BL) ?_ GF (by omega) vf|>.trans ?_
    ·intro q u hq
     have h1:=sB.cells (g:=g) rfl (j *E.size+q) u (by rw [AB,List.getElem?_drop] at hq;exact hq)
     rw [Addr.add_mid] at h1⊢
     rw [Nat.zero_add] at h1
     exact h1
    ·rw [rI,MB]
  have JX:vu.size=cM.size:=by
   rw [MB]
   simp only [List.size_toArray,List.length_append,List.length_take,List.length_drop,aa3]
   omega
  have HS:(({W with drawn:=W.drawn+1}:World).setRow g vu).heap[g]? =some (.cells vu I.elem (0,0)):=sC _ Pg
  obtain ⟨zs,ZC,hC0⟩:=vt (P:=P) (t:=t) (ty:=0) (c:=cp-(i+(xs.length-j))) (w:=({W with drawn:=W.drawn+1}:World).setRow g vu) (off:=(i+(xs.length-j)) *E.size) (n:=xs.length-(i+(xs.length-j))) hu na Uq HQ hz1 HS (by omega) (by rw [JX,qx,←Nat.add_mul];exact hmul (by omega))
  obtain ⟨sa,Ik⟩: ∃sa:Array Value,sa=(vu.toList.take ((i+(xs.length-j)) *E.size)++zs++vu.toList.drop ((i+(xs.length-j)) *E.size+zs.length)).toArray:=⟨_,rfl⟩
  rw [←Ik] at hC0
  have hC: ∀ty,(Builtin.clear_ #[t] ty #[.slice (some ⟨g,(i+(xs.length-j)) *E.size,none⟩) (xs.length-(i+(xs.length-j))) (cp-(i+(xs.length-j)))]).run P (({W with drawn:=W.drawn+1}:World).setRow g vu)= .ok (.tuple #[]) ((({W with drawn:=W.drawn+1}:World).setRow g vu).setRow g sa):=fun ty=>hC0
  refine (Rn (w:=W) hf na rI Fk dx hj hA hC).mono ?_
  rintro x w' ⟨rfl,rfl⟩
  refine ⟨_,rfl,?_⟩
  have ae7:zs.length=(j-i) *E.size:=by rw [ZC];congr 1;omega
  have ZO:sa.size=cM.size:=by
   rw [Ik]
   simp only [List.size_toArray,List.length_append,List.length_take,List.length_drop,Wk,JX]
   rw [ae7,Nat.sub_mul,hlo]
   omega
  have aaY:sa.toList.take ((i+(xs.length-j)) *E.size)=cells.take (i *E.size)++cells.drop (j *E.size):=by
   rw [Ik]
   have l1:(vu.toList.take ((i+(xs.length-j)) *E.size)).length=(i+(xs.length-j)) *E.size:=by
    rw [List.length_take,Wk,JX,qx,hlo];omega
   rw [show∀l:List Value,l.toArray.toList=l from fun _=>rfl,List.append_assoc,List.take_append_of_le_length (by rw [l1];exact Nat.le_refl _),List.take_of_length_le (by rw [l1];exact Nat.le_refl _),hlo,MB]
   have l2:(cM.toList.take (i *E.size)).length=i *E.size:=by rw [List.length_take,aa3,qx];omega
   rw [show∀l:List Value,l.toArray.toList=l from fun _=>rfl,List.take_append_of_le_length (by rw [List.length_append,l2];exact Nat.le_refl _),List.take_of_length_le (by rw [List.length_append,l2];exact Nat.le_refl _),AB]
   congr 1
   rw [←Kt,List.take_take,Nat.min_eq_left (by omega)]
  have e2:(({W with drawn:=W.drawn+1}:World).setRow g vu).setRow g sa=({W with drawn:=W.drawn+1}:World).setRow g sa:=setRow_setRow _ _ _ _
  have Q4:((({W with drawn:=W.drawn+1}:World).setRow g vu).setRow g sa).heap[g]? =some (.cells sa I.elem (0,0)):=sC _ HS
  have Wh:(xs.take i++xs.drop j).length=i+(xs.length-j):=by rw [List.length_append,List.length_take,List.length_drop];omega
  refine BN (n:=i+(xs.length-j)) (cells:=cells.take (i *E.size)++cells.drop (j *E.size)) hz iC mn nq zT ?_ ?_ ?_ Ma ?_ Wh ((qX.take i).append (qX.drop j)) ?_
  ·intro b _ cG
   have YV:b≠g:=fun e=>cG (by rw [e];rfl)
   rw [setRow_other _ _ _ _ YV,setRow_other _ _ _ _ YV]
  ·simp [World.setRow]
  ·have r1:Rest W ({W with drawn:=W.drawn+1}:World):=⟨rfl,rfl,rfl,fun _=>rfl⟩
   exact (r1.trans (Rest.setRow _ g vu)).trans (Rest.setRow _ g sa)
  ·refine ⟨?_,.inr ⟨g,cp,sa,rfl,Nat.zero_le _,Q4,by omega,BJ,by rw [ZO,qx],aaY⟩⟩
   rw [List.length_append,List.length_take,List.length_drop,nt,hlo,BL,Nat.sub_mul];omega
  ·intro b hb;exact .inl hb
 ·
  have Pj:j=i:=by omega
  subst Pj
  obtain ⟨ad,cp,hv,Fk⟩: ∃ad cp,v0= .slice ad xs.length cp∧xs.length≤cp:=by
   rcases sB.2 with ⟨h1,h2⟩|⟨g,cp,cM,h1,_,_,h4,_⟩
   ·exact ⟨none,0,by rw [h1,h2],by omega⟩
   ·exact ⟨_,cp,h1,h4⟩
  have hvv:=hv
  subst hv
  refine (Rm (w:=W) (ad:=ad) hf na Fk hj).mono ?_
  rintro x w' ⟨rfl,rfl⟩
  refine ⟨_,rfl,φ,⟨.refl _,fun _ _ _=>rfl,fun _ _ _=>rfl,Nat.le_refl _,.refl _⟩,iC,?_⟩
  show cF c (bw.plain Z) (nv c.key φ) w' _ ⟨c.qv (c.key f),false,xs.take j++xs.drop j⟩
  rw [zT,List.take_append_drop]
  exact ⟨E,cells,mn,nq,sB,qX,FI⟩
end
def nN:List MV→Option MV
 |[.fresh xs,.i .i64 i,.i .i64 j]=>bif decide (0≤i)&&(decide (i≤j)&&decide (j≤(xs.length:Int))) then some (.fresh (xs.take i.toNat++xs.drop j.toNat)) else none
 |_=>none
theorem yM {ms:List MV} {r:MV} (h:nN ms=some r): ∃xs i j,ms=[.fresh xs,.i .i64 ((i:Nat):Int),.i .i64 ((j:Nat):Int)]∧r= .fresh (xs.take i++xs.drop j)∧i≤j∧j≤xs.length:=by
 unfold nN at h
 split at h
 ·rename_i xs i j
  cases hb:decide (0≤i)&&(decide (i≤j)&&decide (j≤(xs.length:Int))) with
  |false=>rw [hb] at h;cases h
  |true=>
   simp only [hb,cond_true,Option.some.injEq] at h
   simp only [Bool.and_eq_true,decide_eq_true_eq] at hb
   obtain ⟨h1,h2,h3⟩:=hb
   refine ⟨xs,i.toNat,j.toNat,?_,h.symm,by omega,by omega⟩
   rw [Int.toNat_of_nonneg h1,Int.toNat_of_nonneg (by omega)]
 ·cases h
end Dn
/-
  Functions of the library as table entries. Conditions: none.
-/
set_option linter.unusedVariables false
namespace Dn
open Go
def fb (size bytes:Nat):List MV→Option MV
 |[.list xs]=>bif rZ size xs&&Nat.ble (xs.length *bytes) (2^46) then some (.fresh xs) else none
 |_=>none
def iO (bytes:Nat):List MV→Option MV
 |[.fresh xs,.i .i64 i,.fresh ys]=>bif decide (0≤i)&&(Nat.ble i.toNat xs.length&&(!ys.isEmpty&&Nat.ble ((xs.length+ys.length) *bytes) (2^46))) then some (.fresh (xs.take i.toNat++ys++xs.drop i.toNat)) else none
 |_=>none
theorem qY {size bytes:Nat} {ms:List MV} {r:MV} (h:fb size bytes ms=some r): ∃xs,ms=[.list xs]∧r= .fresh xs∧rZ size xs=true∧xs.length *bytes≤2^46:=by
 unfold fb at h
 split at h
 ·rename_i xs
  cases hb:rZ size xs&&Nat.ble (xs.length *bytes) (2^46) with
  |false=>simp [hb] at h
  |true=>
   simp only [hb,cond_true,Option.some.injEq] at h
   simp only [Bool.and_eq_true] at hb
   exact ⟨xs,rfl,h.symm,hb.1,Nat.le_of_ble_eq_true hb.2⟩
 ·cases h
theorem tD {bytes:Nat} {ms:List MV} {r:MV} (h:iO bytes ms=some r): ∃xs ys i,ms=[.fresh xs,.i .i64 ((i:Nat):Int),.fresh ys]∧r= .fresh (xs.take i++ys++xs.drop i)∧i≤xs.length∧ys≠[]∧(xs.length+ys.length) *bytes≤2^46:=by
 unfold iO at h
 split at h
 ·rename_i xs i ys
  cases hb:decide (0≤i)&&(Nat.ble i.toNat xs.length&&(!ys.isEmpty&&Nat.ble ((xs.length+ys.length) *bytes) (2^46))) with
  |false=>rw [hb] at h;cases h
  |true=>
   simp only [hb,cond_true,Option.some.injEq] at h
   simp only [Bool.and_eq_true,decide_eq_true_eq,Bool.not_eq_true'] at hb
   obtain ⟨h1,h2,h3,h4⟩:=hb
   refine ⟨xs,ys,i.toNat,?_,h.symm,Nat.le_of_ble_eq_true h2,?_,Nat.le_of_ble_eq_true h4⟩
   ·rw [Int.toNat_of_nonneg h1]
   ·intro hy;subst hy;simp at h3
 ·cases h
theorem ap.none (P:Program) (c:Ctx):ap P c (fun _ _=>Option.none):=⟨fun f ms r h=>by cases h⟩
theorem ap.Bn {P:Program} {c:Ctx} {g:Nat→List MV→Option MV} {n:Nat} {F:List MV→Option MV} (h:ap P c g) (yv: ∀f,c.key f=f) (hF: ∀ms r,F ms=some r→j8 P c n ms r):ap P c (br n F g):=
 h.add (fun f ms r hk hr=>by
  rw [yv] at hk
  rw [hk]
  exact hF ms r hr)
def tE:Code→List Oper
 | .region _ ops _=>ops.toList
 | .seq x y=>tE x++tE y
 | .cond _ x y=>tE x++tE y
 | .block _ x=>tE x
 | .loop x=>tE x
 |_=>[]
def gV (fn:Func) (d:Oper) (k:Nat):Oper:=match fn.body with|some c=>(tE c).getD k d|none=>d
def Hb (o:Nat→Oper):Code:= .seq (.region 18 #[o 83,o 84,o 85,o 86,o 87] false) (.seq (.region 19 #[o 88,o 89,o 90,o 91,o 92] false) (.seq (.region 20 #[o 93,o 94] false) .ret))
def gX:Oper:={dst:=none,op:= .move (.tmp 0),type:=0,pos:= "",after:= #[],guard:=none}
end Dn
/-
  Reasoning about functions on values. Conditions: none.
-/
set_option linter.unusedVariables false
namespace Dn
open Go
section
variable {R:Type}
@[simp] theorem ai9 (k : IntKind) (x : Int) (K : Int → Option R) : gI k (.i k x) K = K x := by simp [gI]
@[simp] theorem aR {α : Type} (a : α) (K : α → Option R) : bd (some a) K = K a := (rfl)
@[simp] theorem ahl (a b : Nat) : Nat.beq a b = decide (a = b) := eC a b
@[simp] theorem aa4 (K : Option R) : dv true K = K := (rfl)
@[simp] theorem aa5 (x y : Option R) : bC true x y = x := (rfl)
@[simp] theorem Y4 (x y : Option R) : bC false x y = y := (rfl)
end
theorem Ut {x:Int} (h1: -9223372036854775808≤x) (h2:x≤9223372036854775807):IntKind.wrap .i64 x=x:=by rw [IntKind.wrap_i64];omega
theorem Rq {i j:Nat} (h:i+j<2^62):IntKind.wrap .i64 (Int.fdiv (IntKind.wrap .u64 (IntKind.wrap .i64 ((i:Int)+(j:Int)))) (2^min (Int.toNat 1) (IntKind.bits .u64)))=(((i+j)/2:Nat):Int):=by
 have h1:IntKind.wrap .i64 ((i:Int)+(j:Int))=((i+j:Nat):Int):=by rw [IntKind.wrap_i64];omega
 have h2:IntKind.wrap .u64 ((i+j:Nat):Int)=((i+j:Nat):Int):=by
  have:IntKind.wrap .u64 ((i+j:Nat):Int)=((i+j:Nat):Int)%18446744073709551616:=by simp [IntKind.wrap,IntKind.signed,IntKind.bits]
  rw [this];omega
 have h3:(2:Int)^min (Int.toNat 1) (IntKind.bits .u64)=2:=by decide
 rw [h1,h2,h3,Int.fdiv_eq_ediv_of_nonneg _ (by omega)]
 rw [IntKind.wrap_i64];omega
section
variable {σ R:Type} {body:σ→Option (Sum σ R)}
theorem FM {n:Nat} {s:σ} {r:R} (h:iter body n s=some r): ∀{m:Nat},n≤m→iter body m s=some r:=by
 induction n generalizing s with
 |zero=>cases h
 |succ n ih=>
  intro m hm
  obtain ⟨m,rfl⟩: ∃k,m=k+1:=⟨m-1,by omega⟩
  simp only [iter] at h⊢
  cases hb:body s with
  |none=>rw [hb] at h;cases h
  |some x=>
   rw [hb] at h
   cases x with
   |inl s'=>exact ih h (by omega)
   |inr r'=>exact h
theorem pa {n:Nat} {s:σ} {r:R} (h:iter body n s=some r):Loop body s=some r:=by
 have he: ∃r n,iter body n s=some r:=⟨r,n,h⟩
 unfold Loop
 rw [dif_pos he]
 obtain ⟨m,hm⟩:=Classical.choose_spec he
 have h1:=FM h (Nat.le_max_left n m)
 have h2:=FM hm (Nat.le_max_right n m)
 rw [h1] at h2
 exact h2.symm
theorem Rr (I:σ→Prop) (μ:σ→Nat) (Q:R→Prop) (h: ∀s,I s→(∃s',body s=some (.inl s')∧I s'∧μ s'<μ s)∨(∃r,body s=some (.inr r)∧Q r)) {s:σ} (hs:I s): ∃r,Loop body s=some r∧Q r:=by
 have key: ∀k s,I s→μ s<k→ ∃r,iter body k s=some r∧Q r:=by
  intro k
  induction k with
  |zero=>intro s _ h;omega
  |succ k ih=>
   intro s hs hk
   rcases h s hs with ⟨s',e,hi,hm⟩|⟨r,e,hq⟩
   ·obtain ⟨r,e2,hq⟩:=ih s' hi (by omega)
    exact ⟨r,by simp only [iter,e];exact e2,hq⟩
   ·exact ⟨r,by simp only [iter,e],hq⟩
 obtain ⟨r,e,hq⟩:=key (μ s+1) s hs (by omega)
 exact ⟨r,pa e,hq⟩
theorem Rs (S:Nat→σ) (N:Nat) (Q:R→Prop) (P:Nat→Prop) (h0:P 0) (h: ∀k,k<N→P k→(body (S k)=some (.inl (S (k+1)))∧P (k+1))∨(∃r,body (S k)=some (.inr r)∧Q r)) (he:P N→ ∃r,body (S N)=some (.inr r)∧Q r): ∃r,Loop body (S 0)=some r∧Q r:=by
 have key: ∀d k,k+d=N→P k→ ∃r,iter body (d+1) (S k)=some r∧Q r:=by
  intro d
  induction d with
  |zero=>
   intro k hk hp
   have:k=N:=by omega
   subst this
   obtain ⟨r,e,hq⟩:=he hp
   exact ⟨r,by simp only [iter,e],hq⟩
  |succ d ih=>
   intro k hk hp
   rcases h k (by omega) hp with ⟨e,GH⟩|⟨r,e,hq⟩
   ·obtain ⟨r,e2,hq⟩:=ih (k+1) (by omega) GH
    exact ⟨r,by rw [iter,e];exact e2,hq⟩
   ·exact ⟨r,by rw [iter,e],hq⟩
 obtain ⟨r,e,hq⟩:=key N 0 (by omega) h0
 exact ⟨r,pa e,hq⟩
end
end Dn
/-
  From functions on plain values to functions on typed values. Conditions: none.
-/
set_option linter.unusedVariables false
namespace Dn
open Go
def cD {R:Type} (l:List MV) (K:Nat→Option R):Option R:=K l.length
def ix {α R:Type} (l:List α) (i:Int) (K:α→Option R):Option R:=
 match (if 0≤i then l[i.toNat]? else none) with|some x=>K x|none=>none
def iP {α:Type} (bytes:Nat) (l:List α):Option (List α):=if l.length *bytes≤2^46 then some l else none
def wk {α:Type} (xs:List α) (i j:Int):Option (List α):=if 0≤i∧i≤j∧j≤(xs.length:Int) then some (xs.take i.toNat++xs.drop j.toNat) else none
def pc {α:Type} (bytes:Nat) (xs:List α) (i:Int) (ys:List α):Option (List α):=
 if 0≤i∧i.toNat≤xs.length∧ys≠[]∧(xs.length+ys.length) *bytes≤2^46 then some (xs.take i.toNat++ys++xs.drop i.toNat) else none
@[reducible] def aa6 {α : Type} (f : α → MV) (l : List α) : MV := .list (l.map f)
@[reducible] def N5 {α : Type} (f : α → MV) (l : List α) : MV := .fresh (l.map f)
def Sm {A B:Type} (g:B→A) (x:Option A) (y:Option B):Prop:=x=y.map g
section
variable {A B A' B' α:Type} {g:B→A} {T:Option B}
theorem Sm.at {x x':Option A} (e:x=x') (h:Sm g x' T):Sm g x T:=e▸h
theorem aT {l:List MV} {K:List MV→Option A} (h:Sm g (K l) T):Sm g (gA (.agg l) K) T:=h
theorem aZ {x:Bool} {K:Bool→Option A} (h:Sm g (K x) T):Sm g (gB (.b x) K) T:=h
theorem bG {x:List UInt8} {K:List UInt8→Option A} (h:Sm g (K x) T):Sm g (gS (.s x) K) T:=h
theorem a7 {x:List MV} {K:List MV→Option A} (h:Sm g (K x) T):Sm g (gL (.list x) K) T:=h
theorem FN {x:MV} {outs:List MV} {K:MV→List MV→Option A} (h:Sm g (K x outs) T):Sm g (gW (.dG x outs) K) T:=h
theorem cH {x:List MV} {K:List MV→Option A} (h:Sm g (K x) T):Sm g (gT (.cC x) K) T:=h
theorem pM {x:List MV} {K:List MV→Option A} (h:Sm g (K x) T):Sm g (gF (.fresh x) K) T:=h
theorem FO {x:List MV} {K:List MV→Option A} (h:Sm g (K x) T):Sm g (gP (.rp x) K) T:=h
theorem rJ {f:Nat} {x:List MV} {K:Nat→List MV→Option A} (h:Sm g (K f x) T):Sm g (J5 (.func f x) K) T:=h
theorem rK {f:Nat} {x:List MV} {K:MV→Option A} (h:Sm g (K (.func f x)) T):Sm g (gR (.func f x) K) T:=h
theorem aG {k:IntKind} {n:Int} {K:Int→Option A} (h:Sm g (K n) T):Sm g (gI k (.i k n) K) T:=by simpa using h
theorem ah {m:MV} {r:List MV} {K:MV→List MV→Option A} (h:Sm g (K m r) T):Sm g (gC (m::r) K) T:=h
theorem az {K:Option A} (h:Sm g K T):Sm g (gN [] K) T:=h
theorem ao {x:Option A'} {y:Option B'} {f:B'→A'} {K:A'→Option A} {K':B'→Option B} (h:Sm f x y) (hk: ∀b,Sm g (K (f b)) (K' b)):Sm g (bd x K) (bd y K'):=by
 unfold Sm at h;subst h
 cases y with
 |none=>rfl
 |some b=>exact hk b
theorem aU {p:Prop} [Decidable p] {X Y:Option A} {X' Y':Option B} (h1:Sm g X X') (h2:Sm g Y Y'):Sm g (bC (decide p) X Y) (if p then X' else Y'):=by
 by_cases h:p<;>simpa [h] using (by assumption)
theorem aO {c:Bool} {X Y:Option A} {X' Y':Option B} (h1:Sm g X X') (h2:Sm g Y Y'):Sm g (bC c X Y) (if c then X' else Y'):=by
 cases c<;>simpa using (by assumption)
theorem eV {p:Prop} [Decidable p] {X:Option A} {X':Option B} (h1:Sm g X X'):Sm g (dv (decide p) X) (if p then X' else none):=by
 by_cases h:p
 ·simpa [h] using h1
 ·simp [h,dv,Sm]
theorem cw {c:Bool} {X:Option A} (hc:c=true) (h:Sm g X T):Sm g (dv c X) T:=by subst hc;exact h
theorem lc {c:Bool} {X Y:Option A} (hc:c=true) (h:Sm g X T):Sm g (bC c X Y) T:=by subst hc;exact h
theorem lf {c:Bool} {X Y:Option A} (hc:c=false) (h:Sm g Y T):Sm g (bC c X Y) T:=by subst hc;exact h
theorem ba {l:List MV} {n:Nat} {K:Nat→Option A} (e:l.length=n) (h:Sm g (K n) T):Sm g (cD l K) T:=by subst e;exact h
theorem bO {l:List MV} {M:List α} {f:α→MV} {i:Int} {K:MV→Option A} {K':α→Option B} (e:l=M.map f) (h: ∀y,Sm g (K (f y)) (K' y)):Sm g (idx l i K) (ix M i K'):=by
 subst e
 unfold idx WA ix
 by_cases hi:0≤i
 ·simp only [hi,if_true,List.getElem?_map]
  cases M[i.toNat]? with
  |none=>rfl
  |some y=>exact h y
 ·simp only [hi,if_false];rfl
theorem BO {X:Option A} {T:Option B} (h:Sm g X T):Sm g (both X X) T:=by
 have e:both X X=X:=by unfold both;rw [if_pos rfl]
 rw [e];exact h
theorem aa {d:A} {a:B} (e:d=g a):Sm g (some d) (some a):=by subst e;rfl
theorem Uu:Sm g none none:=rfl
theorem Uv {p k:Nat} {K:Nat→Option A} {X:Option B} (h:k=p→Sm g (K p) X):Sm g (Ej [p] k K) (if k=p then X else none):=by
 by_cases hk:k=p
 ·subst hk
  rw [if_pos rfl]
  unfold Ej
  rw [show Nat.beq k k=true from Nat.beq_refl k]
  exact h rfl
 ·rw [if_neg hk]
  unfold Ej
  rw [show Nat.beq k p=false from by simpa using hk]
  rfl
theorem nO {p q k:Nat} {r:List Nat} {K:Nat→Option A} {X Y:Option B} (h:k=p→Sm g (K p) X) (h2:Sm g (Ej (q::r) k K) Y):Sm g (Ej (p::q::r) k K) (if k=p then X else Y):=by
 by_cases hk:k=p
 ·subst hk
  rw [if_pos rfl]
  unfold Ej
  rw [show Nat.beq k k=true from Nat.beq_refl k]
  exact h rfl
 ·rw [if_neg hk]
  unfold Ej
  rw [show Nat.beq k p=false from by simpa using hk]
  exact h2
theorem MC {n:Nat} {l:List MV} {M:List α} {f:α→MV} (e:l=M.map f) (h: ∀x,(f x).w=n):rZ n l=true:=by
 subst e
 unfold rZ
 rw [List.all_map,List.all_eq_true]
 intro x _
 simp [h x]
theorem I8 {σ σ' ρ ρ':Type} {e:σ'→σ} {f:ρ'→ρ} {K:σ→Option (Sum σ ρ)} {K':σ'→Option (Sum σ' ρ')} (h: ∀s,Sm (Sum.map e f) (K (e s)) (K' s)) (n:Nat) (s:σ'):iter K n (e s)=(iter K' n s).map f:=by
 induction n generalizing s with
 |zero=>rfl
 |succ n ih=>
  have:=h s
  unfold Sm at this
  simp only [iter,this]
  cases K' s with
  |none=>rfl
  |some x=>cases x with
   |inl s'=>exact ih s'
   |inr r=>rfl
theorem FP {σ ρ:Type} {K:σ→Option (Sum σ ρ)} {s:σ} (h: ∀n,iter K n s=none):Loop K s=none:=by
 unfold Loop
 rw [dif_neg]
 rintro ⟨r,n,e⟩
 rw [h] at e;cases e
theorem cQ {σ σ' ρ ρ':Type} {K:σ→Option (Sum σ ρ)} {K':σ'→Option (Sum σ' ρ')} {d0:σ} {s0:σ'} (e:σ'→σ) (f:ρ'→ρ) (e0:d0=e s0) (h: ∀s,Sm (Sum.map e f) (K (e s)) (K' s)):Sm f (Loop K d0) (Loop K' s0):=by
 subst e0
 unfold Sm
 by_cases hx: ∃r n,iter K' n s0=some r
 ·obtain ⟨r,n,hn⟩:=hx
  rw [pa hn]
  have:iter K n (e s0)=some (f r):=by rw [I8 h,hn];rfl
  rw [pa this];rfl
 ·have h1: ∀n,iter K' n s0=none:=fun n=>by
   cases hn:iter K' n s0 with
   |none=>rfl
   |some r=>exact absurd ⟨r,n,hn⟩ hx
  rw [FP h1,FP fun n=>by rw [I8 h,h1];rfl];rfl
theorem pe {size bytes:Nat} {f:α→MV} (hw: ∀x,(f x).w=size) (l:List α):Sm (N5 f) (fb size bytes [.list (l.map f)]) (iP bytes l):=by
 unfold Sm fb iP
 simp only [MC (rfl:l.map f=l.map f) hw,Bool.true_and,List.length_map]
 by_cases h:l.length *bytes≤2^46
 ·rw [show Nat.ble (l.length *bytes) (2^46)=true from Nat.ble_eq_true_of_le h,if_pos h];rfl
 ·rw [show Nat.ble (l.length *bytes) (2^46)=false from by rw [Bool.eq_false_iff];intro hb;exact h (Nat.le_of_ble_eq_true hb),if_neg h];rfl
theorem I9 {f:α→MV} (xs:List α) (i j:Int):Sm (N5 f) (nN [.fresh (xs.map f),.i .i64 i,.i .i64 j]) (wk xs i j):=by
 unfold Sm nN wk
 simp only [List.length_map]
 by_cases h1:0≤i<;>by_cases h2:i≤j<;>by_cases h3:j≤(xs.length:Int)<;>simp [h1,h2,h3,N5]
theorem CT {bytes:Nat} {f:α→MV} (xs:List α) (i:Int) (ys:List α):Sm (N5 f) (iO bytes [.fresh (xs.map f),.i .i64 i,.fresh (ys.map f)]) (pc bytes xs i ys):=by
 unfold Sm iO pc
 simp only [List.length_map]
 have hb: ∀a b:Nat,Nat.ble a b=decide (a≤b):=fun a b=>by
  by_cases h:a≤b
  ·rw [Nat.ble_eq_true_of_le h,decide_eq_true h]
  ·rw [decide_eq_false h,Bool.eq_false_iff];intro hh;exact h (Nat.le_of_ble_eq_true hh)
 rw [hb,hb]
 have he:(ys.map f).isEmpty=decide (ys=[]):=by cases ys<;>simp
 rw [he]
 by_cases h1:0≤i<;>by_cases h2:i.toNat≤xs.length<;>by_cases h3:ys=[]<;>by_cases h4:(xs.length+ys.length) *bytes≤2^46<;>simp [h1,h2,h3,h4,N5]
end
abbrev K5 (f:Option MV):List MV→Option MV|[]=>f|_=>none
abbrev wN (f:MV→Option MV):List MV→Option MV|[a]=>f a|_=>none
abbrev fw (f:MV→MV→Option MV):List MV→Option MV|[a,b]=>f a b|_=>none
abbrev EF (f:MV→MV→MV→Option MV):List MV→Option MV|[a,b,c]=>f a b c|_=>none
abbrev Uw (f:MV→MV→MV→MV→Option MV):List MV→Option MV|[a,b,c,d]=>f a b c d|_=>none
abbrev XY (f:MV→MV→MV→MV→MV→Option MV):List MV→Option MV|[a,b,c,d,e]=>f a b c d e|_=>none
theorem yN {f:Option MV} {B:List MV→Option MV} (h:B []=f) {ms:List MV} {r:MV} (e:K5 f ms=some r):B ms=some r:=by
 unfold K5 at e;split at e
 ·rw [h];exact e
 ·cases e
theorem jI {f:MV→Option MV} {B:List MV→Option MV} (h: ∀a,B [a]=f a) {ms:List MV} {r:MV} (e:wN f ms=some r):B ms=some r:=by
 unfold wN at e;split at e
 ·rw [h];exact e
 ·cases e
theorem bx {f:MV→MV→Option MV} {B:List MV→Option MV} (h: ∀a b,B [a,b]=f a b) {ms:List MV} {r:MV} (e:fw f ms=some r):B ms=some r:=by
 unfold fw at e;split at e
 ·rw [h];exact e
 ·cases e
theorem qZ {f:MV→MV→MV→Option MV} {B:List MV→Option MV} (h: ∀a b c,B [a,b,c]=f a b c) {ms:List MV} {r:MV} (e:EF f ms=some r):B ms=some r:=by
 unfold EF at e;split at e
 ·rw [h];exact e
 ·cases e
theorem MD {f:MV→MV→MV→MV→Option MV} {B:List MV→Option MV} (h: ∀a b c d,B [a,b,c,d]=f a b c d) {ms:List MV} {r:MV} (e:Uw f ms=some r):B ms=some r:=by
 unfold Uw at e;split at e
 ·rw [h];exact e
 ·cases e
theorem Ux {f:MV→MV→MV→MV→MV→Option MV} {B:List MV→Option MV} (h: ∀a b c d i,B [a,b,c,d,i]=f a b c d i) {ms:List MV} {r:MV} (e:XY f ms=some r):B ms=some r:=by
 unfold XY at e;split at e
 ·rw [h];exact e
 ·cases e
theorem ap.fn {P:Program} {c c':Ctx} {g:Nat→List MV→Option MV} {n:Nat} {fn:Func} {bQ:List (List Kd)} {F:List MV→Option MV} (h:ap P c g) (hl:yI c c') (Wa:c'.g=g) (qw:j6 P c.ti) (iB:Kp P c.ti) (GD: ∀t k,c.fk t=some k→P.underlying t=some (.float k)) (Mg:zK P c) (IZ:P.follows .mixedOrders=true) (G6:tB P c)
 (hf:P.funcs[n]? =some fn) (hh:I3 c' n fn bQ=true) (yv: ∀f,c.key f=f) (hF: ∀{ms r},F ms=some r→E6 c' bQ Option.none fn ms=some r):ap P c (br n F g):=by
 have hb:=ap.body h hl Wa qw iB GD Mg IZ G6 hf hh yv
 refine h.add (fun f ms r hk hr=> ?_)
 refine hb.all f ms r ?_
 unfold br
 rw [hk]
 simp [hF hr]
def yO {α σ:Type} (p:α→σ→Option (Bool×σ)):σ→List α→Option (List α×σ)
 |s,[]=>some ([],s)
 |s,x::xs=>bd (p x s) fun q=>bd (yO p q.2 xs) fun r=>some (if q.1 then r.1 else x::r.1,r.2)
theorem Rt {l:List MV} {α:Type} {M:List α} {f:α→MV} (e:l=M.map f) (h: ∀x,Ke (f x)=true):l.all Ke=true:=by
 subst e
 rw [List.all_map,List.all_eq_true]
 intro x _
 exact h x
theorem Ru {α σ:Type} {f:α→MV} {lv:σ→List MV} {g:Nat→List MV→Option MV} {k:Nat} {bQ:List MV} {p:α→σ→Option (Bool×σ)} (h: ∀x s,Sm (fun r=>MV.dG (.b r.1) (lv r.2)) (g k (f x::(bQ++[.cell (.func 0 (lv s))]))) (p x s)): ∀(s:σ) (L:List α),Sm (fun r=>(r.1.map f,lv r.2)) (lj (E4 g k bQ) (lv s) (L.map f)) (yO p s L)
 |s,[]=>rfl
 |s,x::xs=>by
  have hx:=h x s
  unfold Sm at hx⊢
  simp only [List.map_cons,lj,E4,yO,hx]
  cases p x s with
  |none=>rfl
  |some q=>
   have ih:=Ru h q.2 xs
   unfold Sm at ih
   simp only [Option.map_some,ih]
   show _=Option.map _ (bd (yO p q.2 xs) fun r=>_)
   cases yO p q.2 xs with
   |none=>rfl
   |some r=>obtain ⟨b,s'⟩:=q;cases b<;>rfl
end Dn
/-
  What functions of package strings yield: plain and typed. Conditions: none.
-/
set_option linter.unusedSimpArgs false
set_option linter.unusedVariables false
namespace Dn
open Go
def du (c:UInt8):List UInt8→List (List UInt8)
 |[]=>[[]]
 |x::l=>if x=c then []::du c l else match du c l with
  |p::r=>(x::p)::r
  |[]=>[[x]]
def CU:List MV→Option MV
 |[.s a,.s b]=>bif (Nat.ble 1 a.length&&Nat.ble a.length (2^46))&&(Nat.ble 2 b.length&&(Nat.ble b.length 1000&&b.all fun x=>decide (x.toNat<128))) then some (.s (Lib.trimS a b)) else none
 |_=>none
def pN:List MV→Option MV
 |[.s a,.i .i32 r]=>bif decide (0≤r∧r<128) then some (.b (decide (0≤Lib.indexByte a r.toNat.toUInt8))) else none
 |_=>none
def vv:List MV→Option MV
 |[.s a,.s [c]]=>bif Nat.ble a.length 4294967280 then some (.fresh ((du c a).map MV.s)) else none
 |_=>none
def FQ (a b:List UInt8):Option (List UInt8):=bif (Nat.ble 1 a.length&&Nat.ble a.length (2^46))&&(Nat.ble 2 b.length&&(Nat.ble b.length 1000&&b.all fun x=>decide (x.toNat<128))) then some (Lib.trimS a b) else none
def yP (a:List UInt8) (r:Int):Option Bool:=bif decide (0≤r∧r<128) then some (decide (0≤Lib.indexByte a r.toNat.toUInt8)) else none
def Hc (a s:List UInt8):Option (List (List UInt8)):=match s with
 |[c]=>bif Nat.ble a.length 4294967280 then some (du c a) else none
 |_=>none
theorem XZ (a b:List UInt8):Sm MV.s (CU [.s a,.s b]) (FQ a b):=by
 unfold Sm CU FQ
 dsimp only
 cases (Nat.ble 1 a.length&&Nat.ble a.length (2^46))&&(Nat.ble 2 b.length&&(Nat.ble b.length 1000&&b.all fun x=>decide (x.toNat<128)))<;>rfl
theorem N6 (a:List UInt8) (r:Int):Sm MV.b (pN [.s a,.i .i32 r]) (yP a r):=by
 unfold Sm pN yP
 dsimp only
 cases decide (0≤r∧r<128)<;>rfl
theorem Uy (a s:List UInt8):Sm (N5 MV.s) (vv [.s a,.s s]) (Hc a s):=by
 unfold Sm Hc
 split
 ·rename_i c
  unfold vv
  dsimp only
  cases Nat.ble a.length 4294967280<;>rfl
 ·rename_i h
  unfold vv
  split
  ·rename_i h2
   simp only [List.cons.injEq,MV.s.injEq,and_true] at h2
   exact absurd h2.2 (h _)
  ·rfl
end Dn
