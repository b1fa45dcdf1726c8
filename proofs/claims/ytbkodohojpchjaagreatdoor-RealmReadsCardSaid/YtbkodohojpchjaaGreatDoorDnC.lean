import Derived.Test.YtbkodohojpchjaaGreatDoorDnB
import Derived.Laws.CopyRow
import Derived.Lib.AppendZerosOnto
import Derived.Lib.Overlaps
import Derived.Laws.Externs
import Derived.Lib.SlTrimSet
import Derived.Lib.Bytealg
/-
  A program's type table, looked through. Conditions: none.
-/
set_option linter.unusedSimpArgs false
set_option linter.unusedVariables false
set_option linter.constructorNameAsVariable false
namespace Dn
open Go
theorem Uy {a b:Kd} (h:ZB a b=true):a=b:=by
 cases a<;>cases b<;>simp [ZB,kB] at h<;>first|rfl|(subst h;rfl)
def kN:List Kd→Kd→Bool
 |[k],k'=>ZB k k'
 |_,_=>false
theorem dX {l:List Kd} {k:Kd} (h:kN l k=true):l=[k]:=by
 cases l with
 |nil=>simp [kN] at h
 |cons a l=>cases l with
  |nil=>simp only [kN] at h;rw [Uy h]
  |cons=>simp [kN] at h
def CQ:List Nat→List Nat→Bool
 |[],[]=>true
 |a::l,b::m=>Nat.beq a b&&CQ l m
 |_,_=>false
theorem EP {l m:List Nat} (h:CQ l m=true):l=m:=by
 induction l generalizing m with
 |nil=>cases m<;>simp [CQ] at h;rfl
 |cons a l ih=>
  cases m with
  |nil=>simp [CQ] at h
  |cons b m=>
   simp only [CQ,Bool.and_eq_true] at h
   rw [Nat.eq_of_beq_eq_true h.1,ih h.2]
def u9 {α:Type}:List α→Bool
 |[]=>true
 |_=>false
theorem oN {α:Type} {l:List α} (h:u9 l=true):l=[]:=by cases l<;>simp [u9] at h;rfl
def JU (ti:Nat→Option TI) (t:Nat):Bool:=match ti t with|some J=>u9 J.cL&&Nat.ble 1 J.size|none=>false
theorem Im {ti:Nat→Option TI} {t:Nat} (h:JU ti t=true): ∃J,ti t=some J∧J.cL=[]∧0<J.size:=by
 unfold JU at h
 cases hJ:ti t with
 |none=>simp [hJ] at h
 |some J=>
  simp only [hJ,Bool.and_eq_true] at h
  exact ⟨J,rfl,oN h.1,Nat.le_of_ble_eq_true h.2⟩
def EQ:List Value→Nat→Bool
 |[],n=>Nat.beq n 0
 | .int .u8 k::r,n+1=>decide (k=0)&&EQ r n
 |_,_=>false
theorem Lz {l:List Value} {n:Nat} (h:EQ l n=true):l=List.replicate n (.int .u8 0):=by
 induction l generalizing n with
 |nil=>have:=Nat.eq_of_beq_eq_true h;subst this;rfl
 |cons v l ih=>
  cases n with
  |zero=>cases v<;>simp [EQ] at h
  |succ n=>
   unfold EQ at h
   split at h
   ·rename_i h1;simp at h1
   ·rename_i k _ _ h1 h2
    simp only [List.cons.injEq] at h1
    obtain ⟨rfl,rfl⟩:=h1
    cases h2
    simp only [Bool.and_eq_true,decide_eq_true_eq] at h
    rw [h.1,ih h.2];rfl
   ·cases h
def BZ:List aI→aI→Bool
 |[.nil],.nil=>true
 |[.p (.b false)],.p (.b false)=>true
 |[.p (.i k n)],.p (.i k' m)=>kB k k'&&decide (n=m)
 |[.p (.s [])],.p (.s [])=>true
 |_,_=>false
theorem xX {l:List aI} {x:aI} (h:BZ l x=true):l=[x]:=by
 unfold BZ at h
 split at h<;>first|rfl|skip
 ·simp [kB] at h;rw [h.1,h.2]
 ·cases h
def Uz:List aI→Bool
 |[.hs x]=>decide (x=kD.zero)
 |_=>false
theorem UA {l:List aI} (h:Uz l=true):l=[.hs kD.zero]:=by
 unfold Uz at h
 split at h
 ·rw [of_decide_eq_true h]
 ·cases h
def UB (ti:Nat→Option TI) (P:Program) (I:TI) (z:Option Value):TypeDesc→Bool
 | .struct fs=>I.st&&u9 I.cL&&Nat.ble 1 I.size&&Nat.beq (Dk I.lay) I.size&&CQ (fs.toList.map (·.offset)) I.wu&&CQ (fs.toList.map (·.type)) I.Qy&&
  (fs.toList.all fun f=>JU ti f.type)&&(match z with|some (.agg cs)=>si I.zero cs.toList&&Nat.beq cs.size I.size|_=>false)
 | .tuple ts=>CQ I.cL ts.toList&&!u9 I.cL&&u9 I.lay&&!I.st
 | .slice el=>!I.st&&u9 I.cL&&Nat.beq I.size 1&&Nat.beq I.elem el&&JU ti el&&(match z with|some (.slice none 0 0)=>true|_=>false)&&BZ I.zero .nil&&kN I.lay .l
 | .array n el=>!I.st&&u9 I.cL&&Nat.beq I.size 32&&Nat.beq n 32&&Nat.beq I.elem el&&(match P.underlying el with|some (.int .u8)=>true|_=>false)&&(match P.info? el with|some i=>Nat.beq i.size 1|none=>false)&&
  kN I.lay .h&&Uz I.zero&&(match z with|some (.agg cs)=>EQ cs.toList 32|_=>false)
 | .bool=>!I.st&&u9 I.cL&&Nat.beq I.size 1&&kN I.lay .b&&BZ I.zero (.p (.b false))&&(match z with|some (.bool false)=>true|_=>false)
 | .int k=>!I.st&&u9 I.cL&&Nat.beq I.size 1&&kN I.lay (.i k)&&BZ I.zero (.p (.i k 0))&&(match z with|some (.int k' n)=>kB k' k&&decide (n=0)|_=>false)
 | .string=>!I.st&&u9 I.cL&&Nat.beq I.size 1&&kN I.lay .s&&BZ I.zero (.p (.s []))&&(match z with|some (.string b)=>u9 b.data.toList|_=>false)
 |_=>!I.st&&u9 I.cL&&Nat.beq I.size 1&&kN I.lay .raw&&(match z with|some v=>v.oneCell'&&si I.zero [v]|none=>false)
theorem UC {ti:Nat→Option TI} {P:Program} {I:TI} {z:Option Value} {d:TypeDesc} (h:UB ti P I z d=true):qS ti P I z d:=by
 cases d<;>simp only [UB,Bool.and_eq_true,Bool.not_eq_true'] at h<;>simp only [qS]
 case struct fs=>
  obtain ⟨⟨⟨⟨⟨⟨⟨h1,h2⟩,h3⟩,h4⟩,h5⟩,h6⟩,h7⟩,h8⟩:=h
  refine ⟨h1,oN h2,⟨Nat.le_of_ble_eq_true h3,Nat.eq_of_beq_eq_true h4⟩,EP h5,EP h6,fun k f hk=> ?_,?_⟩
  ·exact Im (List.all_eq_true.1 h7 f (by
    have:fs.toList[k]? =some f:=by simpa using hk
    exact List.mem_of_getElem? this))
  ·split at h8
   ·rename_i cs
    simp only [Bool.and_eq_true] at h8
    exact ⟨cs,rfl,h8.1,Nat.eq_of_beq_eq_true h8.2⟩
   ·cases h8
 case tuple ts=>
  obtain ⟨⟨⟨h1,h2⟩,h3⟩,h4⟩:=h
  exact ⟨EP h1,fun he=>(by rw [he] at h2;simp [u9] at h2),oN h3,h4⟩
 case slice el=>
  obtain ⟨⟨⟨⟨⟨⟨⟨h1,h2⟩,h3⟩,h4⟩,h5⟩,h6⟩,h7⟩,h8⟩:=h
  refine ⟨h1,oN h2,Nat.eq_of_beq_eq_true h3,Nat.eq_of_beq_eq_true h4,Im h5,?_,xX h7,.l,dX h8,rfl⟩
  split at h6
  ·rfl
  ·cases h6
 case array n el=>
  obtain ⟨⟨⟨⟨⟨⟨⟨⟨⟨h1,h2⟩,h3⟩,h4⟩,h5⟩,h6⟩,h7⟩,h8⟩,h9⟩,PO⟩:=h
  refine ⟨h1,oN h2,Nat.eq_of_beq_eq_true h3,Nat.eq_of_beq_eq_true h4,Nat.eq_of_beq_eq_true h5,?_,dX h8,UA h9,?_⟩
  ·split at h6
   ·rename_i hu
    split at h7
    ·rename_i i hi;exact ⟨i,hu,hi,Nat.eq_of_beq_eq_true h7⟩
    ·cases h7
   ·cases h6
  ·split at PO
   ·rename_i cs
    have:=Lz PO
    congr 1
    congr 1
    apply Array.toList_inj.1
    rw [this];rfl
   ·cases PO
 case bool=>
  obtain ⟨⟨⟨⟨⟨h1,h2⟩,h3⟩,h4⟩,h5⟩,h6⟩:=h
  refine ⟨h1,oN h2,Nat.eq_of_beq_eq_true h3,dX h4,xX h5,?_⟩
  split at h6
  ·rfl
  ·cases h6
 case int k=>
  obtain ⟨⟨⟨⟨⟨h1,h2⟩,h3⟩,h4⟩,h5⟩,h6⟩:=h
  refine ⟨h1,oN h2,Nat.eq_of_beq_eq_true h3,dX h4,xX h5,?_⟩
  split at h6
  ·simp only [kB,Bool.and_eq_true,decide_eq_true_eq] at h6
   rw [h6.1,h6.2]
  ·cases h6
 case string=>
  obtain ⟨⟨⟨⟨⟨h1,h2⟩,h3⟩,h4⟩,h5⟩,h6⟩:=h
  refine ⟨h1,oN h2,Nat.eq_of_beq_eq_true h3,dX h4,xX h5,?_⟩
  split at h6
  ·rename_i b;exact ⟨b,rfl,oN h6⟩
  ·cases h6
 all_goals
  obtain ⟨⟨⟨⟨h1,h2⟩,h3⟩,h4⟩,h5⟩:=h
  refine ⟨h1,oN h2,Nat.eq_of_beq_eq_true h3,dX h4,?_⟩
  split at h5
  ·rename_i v
   simp only [Bool.and_eq_true] at h5
   exact ⟨v,rfl,h5.1,h5.2⟩
  ·cases h5
def abq (ti:Nat→Option TI) (P:Program) (t:Nat) (I:TI):Bool:=
 match P.underlying t,P.info? t with
 |some d,some i=>(!u9 I.cL||(Nat.beq i.size I.size&&Nat.beq i.bytes I.bytes))&&UB ti P I i.zero d
 |_,_=>false
theorem XQ {ti:Nat→Option TI} {P:Program} {t:Nat} {I:TI} (h:abq ti P t I=true):mX ti P t I:=by
 unfold abq at h
 split at h
 ·rename_i d i hu hi
  simp only [Bool.and_eq_true,Bool.or_eq_true,Bool.not_eq_true'] at h
  refine ⟨d,i,hu,hi,fun hc=> ?_,UC h.2⟩
  rcases h.1 with h1|h1
  ·rw [hc] at h1;simp [u9] at h1
  ·exact ⟨Nat.eq_of_beq_eq_true h1.1,Nat.eq_of_beq_eq_true h1.2⟩
 ·cases h
def vY:List (Nat×TI)→Nat→Option TI
 |[],_=>none
 |(k,s)::r,t=>bif Nat.beq k t then some s else vY r t
def ajD (P:Program) (WU:List (Nat×TI)):Bool:=WU.all fun p=>abq (vY WU) P p.1 p.2
theorem Io {l:List (Nat×TI)} {t:Nat} {I:TI} (h:vY l t=some I):(t,I)∈l:=by
 induction l with
 |nil=>simp [vY] at h
 |cons p l ih=>
  obtain ⟨k,s⟩:=p
  simp only [vY,fe] at h
  by_cases hk:k=t
  ·subst hk;simp at h;subst h;simp
  ·simp only [hk,decide_false,cond_false] at h
   exact List.mem_cons_of_mem _ (ih h)
theorem XR {P:Program} {WU:List (Nat×TI)} (h:ajD P WU=true):kK P (vY WU):=fun t I hI=>XQ (List.all_eq_true.1 h (t,I) (Io hI))
end Dn
/-
  Comparing values of plain types. Conditions: none.
-/
set_option linter.unusedSimpArgs false
set_option linter.unusedVariables false
set_option linter.constructorNameAsVariable false
namespace Dn
open Go
def XS:List Kd→List Kd
 |[]=>[]
 | .h::r=>List.replicate 32 (.i .u8)++XS r
 |k::r=>k::XS r
def JV:Kd→Value→Bool
 | .b,.bool _=>true
 | .i k,.int k' _=>decide (k'=k)
 | .s,.string _=>true
 |_,_=>false
def iZ:List Kd→List Value→Prop
 |[],vs=>vs=[]
 |k::ks,vs=> ∃v r,vs=v::r∧JV k v=true∧iZ ks r
def UD:Value→Value→Bool
 | .bool a,.bool b=>decide (a=b)
 | .int _ a,.int _ b=>decide (a=b)
 | .string a,.string b=>decide (a.data.toList=b.data.toList)
 |_,_=>false
def kf:List Value→List Value→Bool
 |[],[]=>true
 |x::xs,y::ys=>UD x y&&kf xs ys
 |_,_=>false
theorem sG {xs ys us vs:List Value} (h:xs.length=ys.length):kf (xs++us) (ys++vs)=(kf xs ys&&kf us vs):=by
 induction xs generalizing ys with
 |nil=>cases ys with|nil=>simp [kf]|cons=>simp at h
 |cons x xs ih=>cases ys with|nil=>simp at h|cons y ys=>simp only [List.cons_append,kf,ih (by simpa using h),Bool.and_assoc]
theorem iZ.length {ks:List Kd}: ∀{vs:List Value},iZ ks vs→vs.length=ks.length:=by
 induction ks with
 |nil=>intro vs h;cases h;rfl
 |cons k ks ih=>intro vs h;obtain ⟨v,r,rfl,_,h2⟩:=h;simp [ih h2]
theorem iZ.append {ks js:List Kd}: ∀{vs us:List Value},iZ ks vs→iZ js us→iZ (ks++js) (vs++us):=by
 induction ks with
 |nil=>intro vs us h h';cases h;simpa using h'
 |cons k ks ih=>intro vs us h h';obtain ⟨v,r,rfl,h1,h2⟩:=h;exact ⟨v,r++us,rfl,h1,ih h2 h'⟩
theorem iZ.split {ks js:List Kd}: ∀{vs:List Value},iZ (ks++js) vs→iZ ks (vs.take ks.length)∧iZ js (vs.drop ks.length):=by
 induction ks with
 |nil=>intro vs h;exact ⟨by simp [iZ],by simpa using h⟩
 |cons k ks ih=>
  intro vs h
  obtain ⟨v,r,rfl,h1,h2⟩:=h
  obtain ⟨h3,h4⟩:=ih h2
  exact ⟨⟨v,_,rfl,h1,h3⟩,by simpa using h4⟩
theorem ER (x:kD):iZ (List.replicate 32 (.i .u8)) (br x):=by
 have: ∀(l:List UInt8),iZ (List.replicate l.length (.i .u8)) (l.map fun b=>Value.int .u8 (b.toNat:Int)):=by
  intro l
  induction l with
  |nil=>rfl
  |cons b l ih=>exact ⟨_,_,rfl,by simp [JV],ih⟩
 have h:=this x.l
 rw [x.h] at h
 exact h
theorem Ip (x y:kD):kf (br x) (br y)=decide (x=y):=by
 have: ∀(l m:List UInt8),l.length=m.length→kf (l.map fun b=>Value.int .u8 (b.toNat:Int)) (m.map fun b=>Value.int .u8 (b.toNat:Int))=decide (l=m):=by
  intro l
  induction l with
  |nil=>intro m h;cases m with|nil=>rfl|cons=>simp at h
  |cons b l ih=>
   intro m h
   cases m with
   |nil=>simp at h
   |cons b' m=>
    simp only [List.map_cons,kf,UD,ih m (by simpa using h),List.cons.injEq]
    have:((b.toNat:Int)=(b'.toNat:Int))↔b=b':=by
     constructor
     ·intro he;apply UInt8.toNat_inj.1;omega
     ·intro he;rw [he]
    simp [this]
 rw [br,br,this x.l y.l (by rw [x.h,y.h])]
 by_cases h:x=y
 ·subst h;simp
 ·have:x.l≠y.l:=fun he=>h (kD.ext' he)
  simp [h,this]
section
variable {e:Env}
theorem Iq {lay:List Kd}: ∀{ls:List aI} {vs:List Value},ax e vs ls→eL lay ls=true→iZ (XS lay) vs:=by
 induction lay with
 |nil=>
  intro ls vs h hf
  cases ls with
  |nil=>cases h;rfl
  |cons=>simp [eL] at hf
 |cons k lay ih=>
  intro ls vs h hf
  cases ls with
  |nil=>simp [eL] at hf
  |cons l ls=>
   simp only [eL] at hf
   cases h1:mJ k l with
   |false=>simp [h1] at hf
   |true=>
    simp only [h1,cond_true] at hf
    obtain ⟨v,u,rfl,g1,g2⟩:=h
    have hr:=ih g2 hf
    have one: ∀m:MV,∀kd:Kd,l= .p m→(∀w:List Value,ln e.key e.φ w m→ ∃x,w=[x]∧JV kd x=true)→iZ (kd::XS lay) (v++u):=by
     intro m kd hl hm
     subst hl
     obtain ⟨x,rfl,hx⟩:=hm v g1.2
     exact ⟨x,u,rfl,hx,hr⟩
    cases k<;>cases l<;>simp only [mJ] at h1<;>try (cases h1;done)
    ·rename_i m
     cases m<;>simp only [mJ] at h1<;>try (cases h1;done)
     exact one _ _ rfl (fun w hw=>by cases hw;exact ⟨_,rfl,rfl⟩)
    ·rename_i k m
     cases m<;>simp only [mJ] at h1<;>try (cases h1;done)
     exact one _ _ rfl (fun w hw=>by cases hw;exact ⟨_,rfl,h1⟩)
    ·rename_i m
     cases m<;>simp only [mJ] at h1<;>try (cases h1;done)
     exact one _ _ rfl (fun w hw=>by cases hw;exact ⟨_,rfl,rfl⟩)
    ·rename_i x
     have g1:v=br x:=g1
     subst g1
     exact (ER x).append hr
theorem Hi {l l':aI} {v v':List Value} {b:Bool} (h:aZ e v l) (h':aZ e v' l') (hb:BF l l'=some b):kf v v'=b∧v.length=v'.length:=by
 unfold BF at hb
 split at hb
 ·obtain ⟨_,h⟩:=h;obtain ⟨_,h'⟩:=h'
  cases h;cases h'
  simp at hb;exact ⟨by simp [kf,UD,←hb],rfl⟩
 ·obtain ⟨_,h⟩:=h;obtain ⟨_,h'⟩:=h'
  cases h;cases h'
  rename_i k x k' y _ _
  cases hk:decide (k=k') with
  |false=>simp [hk] at hb
  |true=>simp [hk] at hb;exact ⟨by simp [kf,UD,←hb],rfl⟩
 ·obtain ⟨_,h⟩:=h;obtain ⟨_,h'⟩:=h'
  cases h;cases h'
  simp at hb;exact ⟨by simp [kf,UD,←hb],rfl⟩
 ·rename_i x y
  have h:v=br x:=h
  have h':v'=br y:=h'
  subst h;subst h'
  simp at hb
  exact ⟨by rw [Ip,←hb],by rw [cO,cO]⟩
 ·cases hb
theorem UE {ls:List aI}: ∀{vX:List aI} {vs M3:List Value} {b:Bool},ax e vs ls→ax e M3 vX→iX ls vX=some b→kf vs M3=b:=by
 induction ls with
 |nil=>
  intro vX vs M3 b h h' hb
  cases vX with
  |nil=>cases h;cases h';simp [iX] at hb;subst hb;rfl
  |cons l' vX=>simp [iX] at hb
 |cons l ls ih=>
  intro vX vs M3 b h h' hb
  cases vX with
  |nil=>simp [iX] at hb
  |cons l' vX=>
   obtain ⟨v,u,rfl,h1,h2⟩:=h
   obtain ⟨v',u',rfl,GW,K7⟩:=h'
   have two: ∀x y,BF l l'=some x→iX ls vX=some y→b=(x&&y)→kf (v++u) (v'++u')=b:=by
    intro x y hx hy M5
    obtain ⟨g1,g2⟩:=Hi h1 GW hx
    rw [sG g2,g1,ih h2 K7 hy,M5]
   cases ls with
   |nil=>
    cases vX with
    |nil=>
     have hb:BF l l'=some b:=hb
     exact two b true hb rfl (by simp)
    |cons p q=>
     simp only [iX] at hb
     split at hb
     ·rename_i x y hx hy;exact two x y hx hy (by simpa using hb.symm)
     ·cases hb
   |cons p q=>
    simp only [iX] at hb
    split at hb
    ·rename_i x y hx hy;exact two x y hx hy (by simpa using hb.symm)
    ·cases hb
end
def th (F:TypeId→Option (List Kd)) (P:Program):List Field→Nat→Nat→Option (List Kd)
 |[],o,n=>bif Nat.beq o n then some [] else none
 |f::fs,o,n=>match F f.type with
  |some ks=>bif Nat.beq f.offset o&&Nat.beq ks.length (P.cellsOf f.type)&&!(f.name== "_") then (match th F P fs (o+ks.length) n with|some r=>some (ks++r)|none=>none) else none
  |none=>none
def LB:Nat→List Kd→List Kd
 |0,_=>[]
 |n+1,ks=>ks++LB n ks
def mA (P:Program):Nat→TypeId→Option (List Kd)
 |0,_=>none
 |d+1,t=>match P.underlying t with
  |some .bool=>some [.b]
  |some (.int k)=>some [.i k]
  |some .string=>some [.s]
  |some (.array n e)=>match mA P d e with
   |some ks=>bif Nat.beq ks.length (P.cellsOf e)&&(match P.info? e with|some _=>true|none=>false) then some (LB n ks) else none
   |none=>none
  |some (.struct fs)=>bif P.stoodInHeld t then none else th (mA P d) P fs.toList 0 (P.cellsOf t)
  |_=>none
def Hj:TypeDesc→Bool
 | .struct _=>true
 | .array _ _=>true
 |_=>false
theorem ES {F:TypeId→Option (List Kd)} {P:Program}: ∀(fs:List Field) (o n:Nat) (ks:List Kd),th F P fs o n=some ks→o+ks.length=n:=by
 intro fs
 induction fs with
 |nil=>
  intro o n ks hk
  simp only [th] at hk
  cases hb:Nat.beq o n with
  |false=>simp [hb] at hk
  |true=>simp [hb] at hk;subst hk;simpa using Nat.eq_of_beq_eq_true hb
 |cons f fs ihf=>
  intro o n ks hk
  simp only [th] at hk
  cases hf:F f.type with
  |none=>simp [hf] at hk
  |some js=>
   simp only [hf] at hk
   cases hc:Nat.beq f.offset o&&Nat.beq js.length (P.cellsOf f.type)&&!(f.name== "_") with
   |false=>simp [hc] at hk
   |true=>
    simp only [hc,cond_true] at hk
    cases hr:th F P fs (o+js.length) n with
    |none=>simp [hr] at hk
    |some rs=>
     simp only [hr,Option.some.injEq] at hk
     subst hk
     have:=ihf _ _ _ hr
     simp only [List.length_append];omega
def rZ (P:Program) (t:TypeId) (v:Value) (cs:List Value):Prop:=
 match P.underlying t with
 |some (.struct _)|some (.array _ _)=>v= .agg cs.toArray
 |_=>cs=[v]
theorem LC (n:Nat) (ks:List Kd):(LB n ks).length=n *ks.length:=by
 induction n with
 |zero=>simp [LB]
 |succ n ih=>simp only [LB,List.length_append,ih,Nat.succ_mul];omega
section
variable {P:Program} {w:World}
theorem xY {t:TypeId} {xs:Array Value} {off:Nat} {n:Nat} {d:TypeDesc} (hu:P.underlying t=some d) (hn:P.cellsOf t=n) (iQ:Hj d=false→n=1) (hl:off+n≤xs.size):
 ∃v,(Go.part t xs off).run P w= .ok v w∧rZ P t v ((xs.toList.drop off).take n):=by
 obtain ⟨i,hi⟩:=info_of_underlying hu
 have qT:i.size=n:=by rw [←hn];simp [Program.cellsOf,hi]
 cases hd:Hj d with
 |true=>
  refine ⟨.agg (xs.extract off (off+n)),?_,?_⟩
  ·cases d<;>simp [Hj] at hd<;>simp [Go.part,isAgg,run_underlying hu,Go.sizeOf,typeInfo,hi,qT]
  ·have he:(xs.extract off (off+n))=((xs.toList.drop off).take n).toArray:=by
    apply Array.toList_inj.1
    rw [Array.toList_extract];simp [List.extract]
   unfold rZ
   cases d<;>simp [Hj] at hd<;>simp only [hu]<;>rw [he]
 |false=>
  have JA:=iQ hd
  subst JA
  have da:off<xs.size:=by omega
  refine ⟨xs[off],?_,?_⟩
  ·cases d<;>simp [Hj] at hd<;>simp [Go.part,isAgg,run_underlying hu,da]
  ·have he:(xs.toList.drop off).take 1=[xs[off]]:=by
    rw [List.take_one,List.head?_drop];simp [da]
   unfold rZ
   cases d<;>simp [Hj] at hd<;>simp only [hu]<;>exact he
theorem Ra {F:TypeId→Option (List Kd)} {dd:Nat} {xs ys:Array Value}: ∀(fs:List Field) (o n:Nat) (ks:List Kd),th F P fs o n=some ks→xs.size=n→ys.size=n→iZ ks (xs.toList.drop o)→iZ ks (ys.toList.drop o)→
 (∀f∈fs,∀js,F f.type=some js→(∃d,P.underlying f.type=some d∧(Hj d=false→js.length=1))∧
  ∀(x y:Value) (us vs:List Value),rZ P f.type x us→rZ P f.type y vs→iZ js us→iZ js vs→(Op.equalIn dd f.type x y).run P w= .ok (kf us vs) w)→
 (Op.eqFields dd xs ys fs).run P w= .ok (kf (xs.toList.drop o) (ys.toList.drop o)) w:=by
 intro fs
 induction fs with
 |nil=>
  intro o n ks hk hx hy _ _ _
  simp only [th] at hk
  cases hb:Nat.beq o n with
  |false=>simp [hb] at hk
  |true=>
   have hb:=Nat.eq_of_beq_eq_true hb
   have h1:xs.toList.drop o=[]:=List.drop_eq_nil_of_le (by simp [hx,hb])
   have h2:ys.toList.drop o=[]:=List.drop_eq_nil_of_le (by simp [hy,hb])
   rw [h1,h2]
   simp [Op.eqFields,kf]
 |cons f fs ih=>
  intro o n ks hk hx hy fx fy hF
  simp only [th] at hk
  cases hf:F f.type with
  |none=>simp [hf] at hk
  |some js=>
   simp only [hf] at hk
   cases hc:Nat.beq f.offset o&&Nat.beq js.length (P.cellsOf f.type)&&!(f.name== "_") with
   |false=>simp [hc] at hk
   |true=>
    simp only [hc,cond_true] at hk
    simp only [Bool.and_eq_true,Bool.not_eq_true'] at hc
    obtain ⟨⟨h1,h2⟩,h3⟩:=hc
    have h1:=Nat.eq_of_beq_eq_true h1
    have h2:=Nat.eq_of_beq_eq_true h2
    have h3:f.name≠ "_" :=by intro he;rw [he] at h3;simp at h3
    cases hr:th F P fs (o+js.length) n with
    |none=>simp [hr] at hk
    |some rs=>
     simp only [hr,Option.some.injEq] at hk
     subst hk
     obtain ⟨fx1,fx2⟩:=fx.split
     obtain ⟨fy1,fy2⟩:=fy.split
     rw [List.drop_drop] at fx2 fy2
     have lx:=fx.length
     have ly:=fy.length
     simp only [List.length_drop,List.length_append,Array.length_toList] at lx ly
     obtain ⟨⟨d,hu,iQ⟩,iV⟩:=hF f (by simp) js hf
     by_cases hz:o+js.length≤xs.size∧o+js.length≤ys.size
     ·obtain ⟨x,px,wx⟩:=xY (w:=w) (xs:=xs) (off:=f.offset) hu h2.symm iQ (by rw [h1];exact hz.1)
      obtain ⟨y,py,wy⟩:=xY (w:=w) (xs:=ys) (off:=f.offset) hu h2.symm iQ (by rw [h1];exact hz.2)
      rw [h1] at wx wy
      have he:=iV x y _ _ wx wy fx1 fy1
      have zm:=ih (o+js.length) n rs hr hx hy fx2 fy2 (fun g hg=>hF g (by simp [hg]))
      simp only [Op.eqFields,h3,ne_eq,not_false_eq_true,if_true,Sem.run_bind,px,py,he,Result.andThen_ok]
      have EH:kf (xs.toList.drop o) (ys.toList.drop o)=(kf ((xs.toList.drop o).take js.length) ((ys.toList.drop o).take js.length)&&kf (xs.toList.drop (o+js.length)) (ys.toList.drop (o+js.length))):=by
       rw [←List.drop_drop,←List.drop_drop,←sG (by rw [fx1.length,fy1.length]),List.take_append_drop,List.take_append_drop]
      rw [EH]
      cases kf ((xs.toList.drop o).take js.length) ((ys.toList.drop o).take js.length)
      ·simp
      ·simpa using zm
     ·exfalso
      have:=ES _ _ _ _ hr
      omega
theorem UF {e:TypeId} {dd:Nat} {xs ys:Array Value} {js:List Kd} (GX:js.length=P.cellsOf e) (hd: ∃d,P.underlying e=some d∧(Hj d=false→js.length=1))
 (iV: ∀(x y:Value) (us vs:List Value),rZ P e x us→rZ P e y vs→iZ js us→iZ js vs→(Op.equalIn dd e x y).run P w= .ok (kf us vs) w):
 ∀(m i:Nat),xs.size=(i+m) *js.length→ys.size=(i+m) *js.length→iZ (LB m js) (xs.toList.drop (i *js.length))→iZ (LB m js) (ys.toList.drop (i *js.length))→
 (Op.eqItems dd e (P.cellsOf e) xs ys (List.range' i m)).run P w= .ok (kf (xs.toList.drop (i *js.length)) (ys.toList.drop (i *js.length))) w:=by
 intro m
 induction m with
 |zero=>
  intro i hx hy _ _
  have h1:xs.toList.drop (i *js.length)=[]:=List.drop_eq_nil_of_le (by simp [hx])
  have h2:ys.toList.drop (i *js.length)=[]:=List.drop_eq_nil_of_le (by simp [hy])
  rw [h1,h2]
  simp [Op.eqItems,kf]
 |succ m ih=>
  intro i hx hy fx fy
  simp only [LB] at fx fy
  obtain ⟨fx1,fx2⟩:=fx.split
  obtain ⟨fy1,fy2⟩:=fy.split
  have hmul:i *js.length+js.length=(i+1) *js.length:=by rw [Nat.succ_mul]
  rw [List.drop_drop,hmul] at fx2 fy2
  obtain ⟨d,hu,iQ⟩:=hd
  have hle:(i+1) *js.length≤(i+(m+1)) *js.length:=Nat.mul_le_mul_right _ (by omega)
  obtain ⟨x,px,wx⟩:=xY (w:=w) (xs:=xs) (off:=i *js.length) hu GX.symm iQ (by omega)
  obtain ⟨y,py,wy⟩:=xY (w:=w) (xs:=ys) (off:=i *js.length) hu GX.symm iQ (by omega)
  have he:=iV x y _ _ wx wy fx1 fy1
  have zm:=ih (i+1) (by rw [hx];congr 1;omega) (by rw [hy];congr 1;omega) fx2 fy2
  rw [List.range'_succ]
  simp only [Op.eqItems,Sem.run_bind,←GX,px,py,he,Result.andThen_ok]
  have EH:kf (xs.toList.drop (i *js.length)) (ys.toList.drop (i *js.length))=(kf ((xs.toList.drop (i *js.length)).take js.length) ((ys.toList.drop (i *js.length)).take js.length)&&kf (xs.toList.drop ((i+1) *js.length)) (ys.toList.drop ((i+1) *js.length))):=by
   rw [←hmul,←List.drop_drop,←List.drop_drop,←sG (by rw [fx1.length,fy1.length]),List.take_append_drop,List.take_append_drop]
  rw [EH]
  cases kf ((xs.toList.drop (i *js.length)).take js.length) ((ys.toList.drop (i *js.length)).take js.length)
  ·simp
  ·rw [←GX] at zm;simpa using zm
theorem Ir: ∀(d:Nat) (t:TypeId) (ks:List Kd),mA P d t=some ks→ ∃k,P.underlying t=some k∧(Hj k=false→ks.length=1):=by
 intro d t ks h
 cases d with
 |zero=>simp [mA] at h
 |succ d=>
  simp only [mA] at h
  cases hu:P.underlying t with
  |none=>simp [hu] at h
  |some k=>
   refine ⟨k,rfl,fun ha=> ?_⟩
   cases k<;>simp only [hu] at h<;>first
    |(simp only [Option.some.injEq] at h;subst h;rfl)
    |(cases h;done)
    |(simp [Hj] at ha;done)
theorem CR: ∀(d:Nat) (t:TypeId) (ks:List Kd),mA P d t=some ks→ ∀(m:Nat) (x y:Value) (us vs:List Value),rZ P t x us→rZ P t y vs→iZ ks us→iZ ks vs→
 (Op.equalIn (m+d) t x y).run P w= .ok (kf us vs) w:=by
 intro d
 induction d with
 |zero=>intro t ks h;simp [mA] at h
 |succ d ih=>
  intro t ks h m x y us vs hx hy fx fy
  simp only [mA] at h
  have hmd:m+(d+1)=(m+d)+1:=rfl
  rw [hmd]
  cases hu:P.underlying t with
  |none=>simp [hu] at h
  |some k=>
   cases k<;>simp only [hu] at h<;>try (cases h;done)
   case bool=>
    simp only [Option.some.injEq] at h;subst h
    simp only [rZ,hu] at hx hy
    subst hx;subst hy
    obtain ⟨v,r,h1,h2,h3⟩:=fx
    obtain ⟨v',r',GW,K7,ZL⟩:=fy
    simp at h1 GW
    obtain ⟨rfl,_⟩:=h1
    obtain ⟨rfl,_⟩:=GW
    cases x<;>simp [JV] at h2
    cases y<;>simp [JV] at K7
    rename_i a b
    rw [run_equalIn_bool' w _ t a b hu]
    simp [kf,UD]
    cases a<;>cases b<;>rfl
   case int k=>
    simp only [Option.some.injEq] at h;subst h
    simp only [rZ,hu] at hx hy
    subst hx;subst hy
    obtain ⟨v,r,h1,h2,h3⟩:=fx
    obtain ⟨v',r',GW,K7,ZL⟩:=fy
    simp at h1 GW
    obtain ⟨rfl,_⟩:=h1
    obtain ⟨rfl,_⟩:=GW
    cases x<;>simp [JV] at h2
    cases y<;>simp [JV] at K7
    subst h2;subst K7
    rw [run_equalIn_int w _ t _ _ _ _ hu]
    simp only [kf,UD,Bool.and_true]
    congr 1
   case string=>
    simp only [Option.some.injEq] at h;subst h
    simp only [rZ,hu] at hx hy
    subst hx;subst hy
    obtain ⟨v,r,h1,h2,h3⟩:=fx
    obtain ⟨v',r',GW,K7,ZL⟩:=fy
    simp at h1 GW
    obtain ⟨rfl,_⟩:=h1
    obtain ⟨rfl,_⟩:=GW
    cases x<;>simp [JV] at h2
    cases y<;>simp [JV] at K7
    rw [run_equalIn_string w _ t _ _ hu]
    simp only [kf,UD,Bool.and_true,toList_data]
    congr 1
    exact Bool.beq_eq_decide_eq _ _
   case array n e=>
    cases hke:mA P d e with
    |none=>simp [hke] at h
    |some js=>
     simp only [hke] at h
     cases hc:Nat.beq js.length (P.cellsOf e)&&(match P.info? e with|some _=>true|none=>false) with
     |false=>simp [hc] at h
     |true=>
      simp only [hc,cond_true,Option.some.injEq] at h
      subst h
      simp only [Bool.and_eq_true] at hc
      have GX:=Nat.eq_of_beq_eq_true hc.1
      obtain ⟨i,hi⟩: ∃i,P.info? e=some i:=by
       cases hi:P.info? e with
       |none=>rw [hi] at hc;simp at hc
       |some i=>exact ⟨i,rfl⟩
      simp only [rZ,hu] at hx hy
      subst hx;subst hy
      rw [run_equalIn_array w (m+d) us.toArray vs.toArray hu hi,List.range_eq_range']
      have l1:=fx.length
      have l2:=fy.length
      rw [LC] at l1 l2
      have:=UF (w:=w) (xs:=us.toArray) (ys:=vs.toArray) (js:=js) (dd:=m+d) GX (Ir d e js hke) (fun x y us vs a b c d'=>ih e js hke m x y us vs a b c d') n 0 (by simpa using l1) (by simpa using l2) (by simpa using fx) (by simpa using fy)
      simpa using this
   case struct fs=>
    cases ek:P.stoodInHeld t with
    |true=>simp [ek] at h
    |false=>
     simp only [ek,cond_false] at h
     simp only [rZ,hu] at hx hy
     subst hx;subst hy
     have Uf:P.fieldsOf t=fs:=by simp [Program.fieldsOf,hu]
     rw [run_equalIn_struct w (m+d) t us.toArray vs.toArray (by rw [Uf];exact hu) ek,Uf]
     have hl:=ES _ _ _ _ h
     have:=Ra (w:=w) (dd:=m+d) (xs:=us.toArray) (ys:=vs.toArray) fs.toList 0 (P.cellsOf t) ks h (by simp [fx.length];omega) (by simp [fy.length];omega) (by simpa using fx) (by simpa using fy)
      (fun f hf js hjs=>⟨Ir d f.type js hjs,fun x y us vs a b c d'=>ih f.type js hjs m x y us vs a b c d'⟩)
     simpa using this
end
theorem PP {l m:List Kd} (h:Dj l m=true):l=m:=by
 induction l generalizing m with
 |nil=>cases m<;>simp [Dj] at h;rfl
 |cons a l ih=>
  cases m with
  |nil=>simp [Dj] at h
  |cons b m=>
   simp only [Dj,Bool.and_eq_true] at h
   rw [Uy h.1,ih h.2]
def NZ:List Kd→Bool
 |[]=>true
 | .l::_=>false
 | .raw::_=>false
 |_::r=>NZ r
def eqB (P:Program) (t:Nat) (I:TI):Bool:=
 !NZ I.lay||!u9 I.cL||((match mA P 20 t with|some ks=>Dj ks (XS I.lay)|none=>false)&&!P.eqGuardType P.depth t&&
  (match P.underlying t with|some (.struct _)=>I.st|some (.array _ _)=>!I.st&&kN I.lay .h|some .bool=>!I.st&&kN I.lay .b|some (.int k)=>!I.st&&kN I.lay (.i k)|some .string=>!I.st&&kN I.lay .s|_=>false))
def abr (P:Program) (WU:List (Nat×TI)):Bool:=WU.all fun p=>eqB P p.1 p.2
theorem Rb {lay:List Kd}: ∀{ls:List aI},eL lay ls=true→NZ lay=true:=by
 induction lay with
 |nil=>intro ls _;rfl
 |cons k lay ih=>
  intro ls h
  cases ls with
  |nil=>simp [eL] at h
  |cons l ls=>
   simp only [eL] at h
   cases h1:mJ k l with
   |false=>simp [h1] at h
   |true=>
    simp only [h1,cond_true] at h
    have:=ih h
    cases k<;>first|exact this|(cases l<;>simp [mJ] at h1)
theorem Rc {t:TypeId} {x y:Value} (h:(∃b,x= .bool b)∨ ∃cs,x= .agg cs) (op:BinOp):
 (op= .eql→binOp op t x y=(do pure (.bool (←Op.equal t x y))))∧(op= .neq→binOp op t x y=(do pure (.bool (!(←Op.equal t x y))))):=by
 rcases h with ⟨b,rfl⟩|⟨cs,rfl⟩<;>refine ⟨?_,?_⟩<;>rintro rfl<;>cases y<;>rfl
theorem Re {P:Program} {WU:List (Nat×TI)} (h:abr P WU=true):Nw P (vY WU):=by
 intro t I hI hc e w vx vy sx sy b rx ry fx fy shx shy hb n1 n2
 have hr:=List.all_eq_true.1 h (t,I) (Io hI)
 simp only [eqB,Rb fx,Bool.not_true,Bool.false_or] at hr
 rw [hc] at hr
 simp only [u9,Bool.not_true,Bool.false_or,Bool.and_eq_true,Bool.not_eq_true'] at hr
 obtain ⟨⟨hk,hg⟩,hd⟩:=hr
 cases QN:mA P 20 t with
 |none=>simp [QN] at hk
 |some ks=>
  simp only [QN] at hk
  have hk:=PP hk
  subst hk
  have cells: ∀(v:Value) (s:Slot),ab e v s→eL I.lay (aP s)=true→lP I.st s=true→(∃us,rZ P t v us∧ax e us (aP s))∧((∃b,v= .bool b)∨(∃cs,v= .agg cs)∨(∃k n,s= .sc (.p (.i k n)))∨ ∃l,s= .sc (.p (.s l))):=by
   intro v s hv hf hs
   cases s<;>simp only [lP] at hs<;>try (cases hs;done)
   ·rename_i l
    have ek:I.st=false:=by simpa using hs
    cases hu:P.underlying t with
    |none=>simp [hu] at hd
    |some d=>
     simp only [hu] at hd
     cases d<;>simp only [ek,Bool.not_false,Bool.true_and] at hd<;>try (cases hd;done)
     ·have hl:=dX hd
      rw [hl] at hf
      simp only [aP,eL] at hf
      cases l<;>simp [mJ] at hf
      rename_i m
      cases m<;>simp [mJ] at hf
      have:=CC hv
      exact ⟨⟨[v],by simp [rZ,hu],[v],[],rfl,hv,rfl⟩,.inl ⟨_,this⟩⟩
     ·have hl:=dX hd
      rw [hl] at hf
      simp only [aP,eL] at hf
      cases l<;>simp [mJ] at hf
      rename_i m
      cases m<;>simp [mJ] at hf
      exact ⟨⟨[v],by simp [rZ,hu],[v],[],rfl,hv,rfl⟩,.inr (.inr (.inl ⟨_,_,rfl⟩))⟩
     ·have hl:=dX hd
      rw [hl] at hf
      simp only [aP,eL] at hf
      cases l<;>simp [mJ] at hf
      rename_i m
      cases m<;>simp [mJ] at hf
      exact ⟨⟨[v],by simp [rZ,hu],[v],[],rfl,hv,rfl⟩,.inr (.inr (.inr ⟨_,rfl⟩))⟩
     ·have hl:=dX hd
      rw [hl] at hf
      simp only [aP,eL] at hf
      cases l<;>simp [mJ] at hf
      rename_i x
      have hv:v= .agg (br x).toArray:=hv
      exact ⟨⟨br x,by simp [rZ,hu,hv],br x,[],by simp,rfl,rfl⟩,.inr (.inl ⟨_,hv⟩)⟩
   ·rename_i cs
    cases hu:P.underlying t with
    |none=>simp [hu] at hd
    |some d=>
     simp only [hu] at hd
     cases d<;>simp only [hs,Bool.not_true,Bool.false_and] at hd<;>try (cases hd;done)
     obtain ⟨arr,hv,qe⟩:=hv
     exact ⟨⟨arr.toList,by simp [rZ,hu,hv],qe⟩,.inr (.inl ⟨_,hv⟩)⟩
  obtain ⟨⟨us,wx,lx⟩,kx⟩:=cells vx sx rx fx shx
  obtain ⟨⟨vs,wy,ly⟩,ky⟩:=cells vy sy ry fy shy
  have iV:(Op.equal t vx vy).run P w= .ok b w:=by
   have:=CR (P:=P) (w:=w) 20 t _ QN 9980 vx vy us vs wx wy (Iq lx fx) (Iq ly fy)
   rw [UE lx ly hb] at this
   exact this
  refine ⟨iV,fun x y op=> ?_⟩
  have hxk:(∃b,vx= .bool b)∨ ∃cs,vx= .agg cs:=by
   rcases kx with h1|h1|⟨k,n,h1⟩|⟨l,h1⟩
   ·exact .inl h1
   ·exact .inr h1
   ·exfalso
    subst h1
    cases hu:P.underlying t with
    |none=>simp [hu] at hd
    |some d=>
     simp only [aP] at fx fy hb
     cases UG:I.lay with
     |nil=>rw [UG] at fx;simp [eL] at fx
     |cons k0 r0=>
      rw [UG] at fx fy
      simp only [eL] at fx
      cases k0<;>simp [mJ] at fx
      obtain ⟨Rf,hr0⟩:=fx
      have hr0:r0=[]:=by cases r0<;>simp [eL] at hr0;rfl
      subst hr0
      cases sy<;>simp only [lP] at shx shy<;>try (cases shy;done)
      ·rename_i l
       simp only [aP,eL] at fy
       cases l<;>simp [mJ] at fy
       rename_i m
       cases m<;>simp [mJ] at fy
       exact n1 _ _ _ _ rfl rfl
      ·rw [shy] at shx;cases shx
   ·exfalso
    subst h1
    simp only [aP] at fx fy hb
    cases UG:I.lay with
    |nil=>rw [UG] at fx;simp [eL] at fx
    |cons k0 r0=>
     rw [UG] at fx fy
     simp only [eL] at fx
     cases k0<;>simp [mJ] at fx
     have hr0:r0=[]:=by cases r0<;>simp [eL] at fx;rfl
     subst hr0
     cases sy<;>simp only [lP] at shx shy<;>try (cases shy;done)
     ·rename_i l
      simp only [aP,eL] at fy
      cases l<;>simp [mJ] at fy
      rename_i m
      cases m<;>simp [mJ] at fy
      exact n2 _ _ rfl rfl
     ·rw [shy] at shx;cases shx
  refine ⟨?_,Rc hxk op⟩
  have hg':P.eqGuardType P.depth t=false:=hg
  rcases hxk with ⟨bb,rfl⟩|⟨cs,rfl⟩
  ·cases op<;>rfl
  ·cases vy<;>cases op<;>first|rfl|(simp [eqGuard,hg'])
end Dn
/-
  A program's types of maps, looked through. Conditions: none.
-/
set_option linter.unusedSimpArgs false
set_option linter.unusedVariables false
set_option linter.constructorNameAsVariable false
namespace Dn
open Go
theorem JW {lay:List Kd}: ∀{ks:List MV},dk lay ks=true→iZ (XS lay) (ks.flatMap BA):=by
 induction lay with
 |nil=>intro ks h;cases ks with|nil=>rfl|cons=>simp [dk] at h
 |cons k lay ih=>
  intro ks h
  cases ks with
  |nil=>simp [dk] at h
  |cons m ks=>
   simp only [dk,Bool.and_eq_true] at h
   have h2:=ih h.2
   have h1:=h.1
   cases k<;>cases m<;>simp only [BK] at h1<;>try (cases h1;done)
   ·exact ⟨_,_,rfl,rfl,h2⟩
   ·exact ⟨_,_,rfl,h1,h2⟩
   ·exact ⟨_,_,rfl,rfl,h2⟩
   ·exact (ER _).append h2
theorem XT {lay:List Kd}: ∀{a b:List MV},dk lay a=true→dk lay b=true→kf (a.flatMap BA) (b.flatMap BA)=iM b a:=by
 induction lay with
 |nil=>
  intro a b ha hb
  cases a<;>cases b<;>simp [dk] at ha hb
  rfl
 |cons k lay ih=>
  intro a b ha hb
  cases a with
  |nil=>simp [dk] at ha
  |cons x a=>
   cases b with
   |nil=>simp [dk] at hb
   |cons y b=>
    simp only [dk,Bool.and_eq_true] at ha hb
    have ih:=ih ha.2 hb.2
    have h1:=ha.1
    have h2:=hb.1
    cases k<;>cases x<;>simp only [BK] at h1<;>try (cases h1;done)
    all_goals cases y<;>simp only [BK] at h2<;>try (cases h2;done)
    ·rename_i p q
     simp only [List.flatMap_cons,BA,List.cons_append,List.nil_append,kf,UD,iM,G5,ih]
     congr 1;rw [decide_eq_decide];exact eq_comm
    ·rename_i k1 p k2 q
     have e1:=of_decide_eq_true h1
     have e2:=of_decide_eq_true h2
     subst e1;subst e2
     simp only [List.flatMap_cons,BA,List.cons_append,List.nil_append,kf,UD,iM,G5,ih,decide_true,Bool.true_and]
     congr 1;rw [decide_eq_decide];exact eq_comm
    ·rename_i p q
     simp only [List.flatMap_cons,BA,List.cons_append,List.nil_append,kf,UD,iM,G5,ih]
     congr 1;rw [decide_eq_decide];simp [eq_comm]
    ·rename_i p q
     simp only [List.flatMap_cons,BA,iM,G5]
     rw [sG (by rw [cO,cO]),Ip,ih]
     congr 1;rw [decide_eq_decide];exact eq_comm
def B0:TypeDesc→Bool
 | .bool| .int _| .string=>true
 |_=>false
def aeE (P:Program) (n:Nat) (fs:List Field):Bool:=fs.all fun f=>(match P.underlying f.type with|some d=>B0 d|none=>false)&&Nat.ble (f.offset+1) n
def Z4 (P:Program) (kt:Nat) (I:TI):Bool:=match P.underlying kt with
 |some .bool=>!I.st&&kN I.lay .b
 |some (.int k)=>!I.st&&kN I.lay (.i k)
 |some .string=>!I.st&&kN I.lay .s
 |some (.struct fs)=>I.st&&(match mA P 20 kt with|some ks=>Dj ks (XS I.lay)|none=>false)&&aeE P (XS I.lay).length fs.toList
 |_=>false
def Z5 (b:Bool):Option Value→Bool
 |some (.bool false)=>b
 |some (.int .i64 n)=>!b&&decide (n=0)
 |_=>false
def aeF (P:Program) (ti:Nat→Option TI) (t kt:Nat) (b:Bool):Bool:=match P.underlying t with
 |some (.map kt' el)=>Nat.beq kt' kt&&(match P.info? el with|some i=>Z5 b i.zero|none=>false)&&(match ti kt with|some I=>u9 I.cL&&Z4 P kt I|none=>false)
 |_=>false
def ET:List (Nat×(Nat×Bool))→Nat→Option (Nat×Bool)
 |[],_=>none
 |(k,s)::r,t=>bif Nat.beq k t then some s else ET r t
theorem Rg {l:List (Nat×(Nat×Bool))} {t:Nat} {I:Nat×Bool} (h:ET l t=some I):(t,I)∈l:=by
 induction l with
 |nil=>simp [ET] at h
 |cons p l ih=>
  obtain ⟨k,s⟩:=p
  simp only [ET,fe] at h
  by_cases hk:k=t
  ·subst hk;simp at h;subst h;simp
  ·simp only [hk,decide_false,cond_false] at h
   exact List.mem_cons_of_mem _ (ih h)
def XU (P:Program) (ti:Nat→Option TI) (l:List (Nat×(Nat×Bool))):Bool:=l.all fun p=>aeF P ti p.1 p.2.1 p.2.2
theorem xZ {k:Kd} {ks:List MV} (h:dk [k] ks=true): ∃m,ks=[m]∧BK k m=true:=by
 cases ks with
 |nil=>simp [dk] at h
 |cons m r=>
  cases r with
  |cons=>simp [dk] at h
  |nil=>exact ⟨m,rfl,by simpa [dk] using h⟩
theorem jz {P:Program} {t:TypeId} {d:TypeDesc} (hu:P.underlying t=some d) (hd:B0 d=true) (em:Bool) (n:Nat) (v:Value) (w:World):(Instr.checkKey em (n+1) t v).run P w= .ok () w:=by
 rw [Instr.checkKey]
 simp only [Sem.run_bind,run_underlying hu,Result.andThen]
 cases d<;>simp [B0] at hd<;>cases v<;>rfl
theorem EU {P:Program} {t:TypeId} {d:TypeDesc} (hu:P.underlying t=some d) (hd:B0 d=true) {xs:Array Value} {off:Nat} (h:off<xs.size) (w:World):(Go.part t xs off).run P w= .ok xs[off] w:=by
 cases d<;>simp [B0] at hd<;>simp [Go.part,isAgg,run_underlying hu,h]
theorem N0 {P:Program} {c:Ctx} {l:List (Nat×(Nat×Bool))} (h:XU P c.ti l=true) (hm: ∀t p,c.mt t=some p→ET l t=some p):BS P c:=by
 intro t s hs
 unfold uJ at hs
 cases PL:c.mt t with
 |none=>simp [PL] at hs
 |some p=>
  obtain ⟨kt,b⟩:=p
  simp only [PL] at hs
  cases hI:c.tv kt with
  |none=>simp [hI] at hs
  |some I=>
   simp only [hI] at hs
   cases hit:Di ⟨I.st,I.lay,b⟩ with
   |true=>simp [hit] at hs
   |false=>
   simp only [hit,cond_false,Option.some.injEq] at hs
   subst hs
   obtain ⟨M2,Po⟩:=bO hI
   have hb:=List.all_eq_true.1 h _ (Rg (hm t _ PL))
   simp only [aeF] at hb
   split at hb
   ·rename_i kt' el hu
    simp only [Bool.and_eq_true] at hb
    obtain ⟨⟨uV,vT⟩,hb3⟩:=hb
    have uV:=Nat.eq_of_beq_eq_true uV
    subst uV
    split at vT
    ·rename_i inf ajE
     rw [M2] at hb3
     simp only [Bool.and_eq_true] at hb3
     have hk:=hb3.2
     have hz: ∀w:World,(zeroValue el).run P w= .ok (yH b (iN b)) w:=by
      intro w
      have:inf.zero=some (yH b (iN b)):=by
       generalize inf.zero=z at vT
       unfold Z5 at vT
       split at vT
       ·subst vT;rfl
       ·simp only [Bool.and_eq_true,Bool.not_eq_true'] at vT
        obtain ⟨h1,h2⟩:=vT
        subst h1
        rw [of_decide_eq_true h2];rfl
       ·cases vT
      simp [zeroValue,typeInfo,ajE,this]
     unfold Z4 at hk
     refine ⟨kt',el,hu,hz,?_⟩
     split at hk
     ·rename_i hd
      simp only [Bool.and_eq_true,Bool.not_eq_true'] at hk
      have hl:=dX hk.2
      refine ⟨fun em ks w hf=>jz hd rfl em 9999 _ w,_,hd,.inl fun a b' ha BM=> ?_⟩
      rw [hl] at ha BM
      obtain ⟨x,rfl,hx⟩:=xZ ha
      obtain ⟨y,rfl,hy⟩:=xZ BM
      cases x<;>simp [BK] at hx
      cases y<;>simp [BK] at hy
      rename_i p q
      simp only [hk.1,fF,Instr.sameNow,iM,G5,Bool.and_true]
      congr 1;rw [Bool.eq_iff_iff];simp only [beq_iff_eq,decide_eq_true_eq];exact eq_comm
     ·rename_i k hd
      simp only [Bool.and_eq_true,Bool.not_eq_true'] at hk
      have hl:=dX hk.2
      refine ⟨fun em ks w hf=>jz hd rfl em 9999 _ w,_,hd,.inl fun a b' ha BM=> ?_⟩
      rw [hl] at ha BM
      obtain ⟨x,rfl,hx⟩:=xZ ha
      obtain ⟨y,rfl,hy⟩:=xZ BM
      cases x<;>simp [BK] at hx
      cases y<;>simp [BK] at hy
      subst hx;subst hy
      rename_i p q
      simp only [hk.1,fF,Instr.sameNow,iM,G5,Bool.and_true,if_true,decide_true,Bool.true_and]
      congr 1;rw [Bool.eq_iff_iff];simp only [beq_iff_eq,decide_eq_true_eq];exact eq_comm
     ·rename_i hd
      simp only [Bool.and_eq_true,Bool.not_eq_true'] at hk
      have hl:=dX hk.2
      refine ⟨fun em ks w hf=>jz hd rfl em 9999 _ w,_,hd,.inl fun a b' ha BM=> ?_⟩
      rw [hl] at ha BM
      obtain ⟨x,rfl,hx⟩:=xZ ha
      obtain ⟨y,rfl,hy⟩:=xZ BM
      cases x<;>simp [BK] at hx
      cases y<;>simp [BK] at hy
      rename_i p q
      simp only [hk.1,fF,Instr.sameNow,iM,G5,Bool.and_true]
      congr 1;rw [beq_toListBytes,ByteArray.toList_eq,ByteArray.toList_eq,Bool.eq_iff_iff];simp only [beq_iff_eq,decide_eq_true_eq,List.toList_toArray];exact eq_comm
     ·rename_i fs hd
      simp only [Bool.and_eq_true] at hk
      obtain ⟨⟨ek,WS⟩,Uf⟩:=hk
      split at WS
      ·rename_i ks QN
       have WS:=PP WS
       subst WS
       have hkv: ∀q,fF true q= .agg (q.flatMap BA).toArray:=by intro q;rfl
       refine ⟨fun em q w hf=> ?_,_,hd,.inr fun x y hx hy=>⟨?_,fun w=> ?_⟩⟩
       ·have hlen:(q.flatMap BA).length=(XS I.lay).length:=(JW hf).length
        rw [ek,hkv,show (10000:Nat)=9999+1 from rfl,Instr.checkKey]
        simp only [Sem.run_bind,run_underlying hd,Result.andThen_ok]
        rw [←Array.forIn_toList]
        have each: ∀f∈fs.toList,(∃d,P.underlying f.type=some d∧B0 d=true)∧f.offset<(q.flatMap BA).toArray.size:=by
         intro f hf
         have:=List.all_eq_true.1 Uf f hf
         simp only [Bool.and_eq_true] at this
         obtain ⟨h1,h2⟩:=this
         split at h1
         ·rename_i d hd;exact ⟨⟨d,hd,h1⟩,by have:=Nat.le_of_ble_eq_true h2;simp only [List.size_toArray];omega⟩
         ·cases h1
        clear Uf
        generalize fs.toList=L at each
        generalize (q.flatMap BA).toArray=xs at each
        induction L with
        |nil=>simp
        |cons f L ih=>
         obtain ⟨⟨d,h1,h2⟩,h3⟩:=each f (by simp)
         have uV:=jz h1 h2 em 9998 xs[f.offset] w
         have vT:=EU (P:=P) h1 h2 h3 w
         by_cases hn:f.name= "_"
         ·simp only [List.forIn_cons,Sem.run_bind,hn,ne_eq,not_true_eq_false,if_false,Result.andThen_ok,Sem.run_pure]
          exact ih (fun y hy=>each y (by simp [hy]))
         ·simp only [List.forIn_cons,Sem.run_bind,hn,ne_eq,not_false_eq_true,if_true,Result.andThen_ok,uV,vT,Sem.run_pure]
          exact ih (fun y hy=>each y (by simp [hy]))
       ·rw [ek,hkv,hkv];rfl
       ·rw [ek,hkv,hkv]
        have:=CR (P:=P) (w:=w) 20 kt' _ QN 9980 (.agg (x.flatMap BA).toArray) (.agg (y.flatMap BA).toArray) (x.flatMap BA) (y.flatMap BA) (by simp [rZ,hd]) (by simp [rZ,hd]) (JW hx) (JW hy)
        rw [XT hx hy] at this
        exact this
      ·cases WS
     ·cases hk
    ·cases vT
   ·cases hb
end Dn
/-
  Functions that are handed a variable do what their abstract run says. Conditions: none.
-/
set_option linter.unusedSimpArgs false
set_option linter.unusedVariables false
namespace Dn
open Go
section
variable {P:Program} {c:Ctx} {Z:bM} {e e':Env} {st bZ:St} {a a':Act} {w w':World} {R:Type} {r:R}
theorem Rh {rs:List ResultVar} (hT:kK P c.ti): ∀{e:Env} {st:St} {K:List MV→St→Option R},bX c Z e st a w→QC c st rs K=some r→
 ∃e' bZ ms vs,bX c Z e' bZ a w∧Ext Z.In e e'∧(rs.mapM (pP a.tmps)).run P w= .ok vs w∧cc e'.key e'.φ vs ms∧K ms bZ=some r:=by
 induction rs with
 |nil=>intro e st K h hK;exact ⟨e,st,[],[],h,.refl _ _,by simp,rfl,hK⟩
 |cons x rs ih=>
  intro e st K h hK
  have go: ∀(s:Slot) (v:Value),ab e v s→(pP a.tmps x).run P w= .ok v w→(lO st s fun m st=>QC c st rs fun ms st=>K (m::ms) st)=some r→
   ∃e' bZ ms vs,bX c Z e' bZ a w∧Ext Z.In e e'∧((x::rs).mapM (pP a.tmps)).run P w= .ok vs w∧cc e'.key e'.φ vs ms∧K ms bZ=some r:=by
   intro s v hs bT hK
   obtain ⟨e1,dV,m,h1,h2,h3,h4,hK⟩:=mY h hs hK
   obtain ⟨e2,dH,ms,vs,q1,q2,q3,q4,hK⟩:=ih h1 hK
   refine ⟨e2,dH,m::ms,v::vs,q1,h2.trans q2,?_,⟨v,vs,rfl,?_,q4⟩,hK⟩
   ·simp [List.mapM_cons,bT,q3]
   ·have:=h4.mono q2.on.φ
    rw [←q2.on.key] at this;exact this
  simp only [QC] at hK
  cases x with
  |tmp t=>
   simp only at hK
   have hs:=h.slot t
   by_cases hb: ∃cs,ao st.fr t= .box cs
   ·obtain ⟨cs,hb⟩:=hb
    rw [hb] at hK
    simp [lO] at hK
   ·refine go (ao st.fr t) (a.tmps.getD t undef) ?_ rfl hK
    generalize ao st.fr t=s at hs hb
    cases s<;>first|exact hs|exact absurd ⟨_,rfl⟩ hb
  |cell b t=>
   simp only at hK
   have hs:=h.slot b
   split at hK
   ·rename_i I cs hI hb
    obtain ⟨M2,Po⟩:=bO hI
    rw [hb] at hs
    obtain ⟨hv,Dq⟩:=hs
    cases BU:eP cs||yZ b with
    |true=>simp [BU] at hK
    |false=>
    obtain ⟨vS,hpb⟩:=Bool.or_eq_false_iff.1 BU
    simp only [BU,cond_false] at hK
    have hv:=hv.1 hpb
    rw [uQ vS] at hv
    obtain ⟨arr,T,cW,qe⟩:=Dq.cells vS
    have hm:w.rangeAt (e.B b) 0 arr.toList:=by
     intro j v hj
     rw [Nat.zero_add,cell_of cW];simpa using hj
    obtain ⟨v,s,h1,h2,h3,h4⟩:=lq (P:=P) (st:=st) (s:= .skip) (hT t I M2) Po qe hm hK
    refine go s v h2 ?_ h4
    simpa [pP,hv,asAddr,Instr.loadAt,Instr.sureAddr] using h1 w hm
   ·simp at hK
theorem EV {key:Nat→Nat} {φ:Ph} {v:Value} {m:MV} (h:fc key φ v (.cell m)):False:=by
 have:=h.1
 simp [MV.one] at this
theorem aeI (off pos:Nat):yZ (1000000+off *1000+pos)=true:=Nat.ble_eq_true_of_le (by omega)
theorem UH {f pos:Nat} {ks:List LK} {fn:Func} {b6:List (List Kd)} {ms:List MV} {m:MV} (hG:Good P c) (hD:PM P c) (hf:P.funcs[f]? =some fn) (Aw:(fn.name== "runtime.NumGoroutine")=false)
 (hn:c.n=fn.ntmps) (ZT:fn.ntmps≤1000000) (qT:fn.params.size+b6.length≤fn.ntmps) (hg:c.eo (c.key f)=true) (yK:c.sig (c.key f)=some (pos,ks)) (hb:HS c b6 pos ks fn ms=some m):kM P c f ms m:=by
 intro φ w Z vs hz fh jk
 unfold HS at hb
 cases pa:fn.body with
 |none=>simp [pa] at hb
 |some b=>
 simp only [pa] at hb
 split at hb
 rotate_left
 ·simp at hb
 rename_i b' off ls BM BU
 cases BM
 cases lL:!gU c ks||!Nat.ble pos 999 with
 |true=>simp [lL] at hb
 |false=>
 simp only [lL,cond_false] at hb
 simp only [Bool.or_eq_false_iff,Bool.not_eq_false'] at lL
 obtain ⟨jn,eu⟩:=lL
 have eu:=Nat.le_of_ble_eq_true eu
 simp only [eR,hg,if_true] at fh
 have hC:ZS c Z φ w (c.key f) vs ms:=by
  rcases fh with ⟨v0,v1,v2,xs,m1,ys,_,rfl,_,h4,_⟩|⟨v0,v1,v2,xs,m1,m2,_,rfl,_,_,h4,h5⟩|h
  ·exfalso
   rcases pos with _|_|_|pos<;>simp at BU
   subst BU
   exact EV h4
  ·exfalso
   rcases pos with _|_|_|pos<;>simp at BU
   ·subst BU;exact EV h4
   ·subst BU;exact EV h5
  ·exact h
 obtain ⟨pos',ks',QB,vX,bg,xR,hvp,abw,tU,qd⟩:=hC
 rw [yK] at xR
 simp only [Option.some.injEq,Prod.mk.injEq] at xR
 obtain ⟨rfl,rfl⟩:=xR
 rw [BU] at abw
 simp only [Option.some.injEq,MV.cell.injEq,MV.func.injEq] at abw
 obtain ⟨rfl,rfl⟩:=abw
 obtain ⟨cs,mm,E,arr,T,xa,cW,hzb,qf,qe,fV,eH⟩:=qd
 let e:Env:=⟨c.key,φ,E,fun _=>bg,mm⟩
 have bT:(callFunc f vs.toArray).run P w= .ok (.enter f vs.toArray) w:=by
  have El: ¬fn.name= "runtime.NumGoroutine" :=by simpa using Aw
  simp [callFunc,hf,El,pa]
 unfold fN
 rw [bT]
 refine calls_of_wp hf pa ?_
 have tU:cc e.key e.φ vs (ms.set pos (.rp [])):=tU
 obtain ⟨fr,rest,j8,ql,hb,rfl,l1,a2,k1,s1⟩:=CP tU hb
 obtain ⟨n6,hb,l2,k2,s2⟩:=Ik a2 hb
 simp only [uM] at hb
 obtain ⟨fI,aeJ,xN,g1,hb⟩:=jq hb
 cases aeJ with
 |cons=>simp [gN] at hb
 |nil=>
 simp only [gN] at hb
 have iV:cs=fI∧mm=xN.aV:=by
  unfold Px at xa
  rw [g1] at xa
  simp only [gN,Option.some.injEq,Prod.mk.injEq] at xa
  exact ⟨xa.1.symm,xa.2.symm⟩
 obtain ⟨rfl,hmm⟩:=iV
 rw [←hmm] at hb
 have htn:(j8++ql).toArray.size=fn.params.size+b6.length:=by simp [l1,l2]
 let a:Act:={tmps:=(j8++ql).toArray++Array.replicate (fn.ntmps-(j8++ql).toArray.size) undef,defers:=[]}
 have Eo: ∀(t:Nat) (v:Value),(j8++ql)[t]? =some v→a.tmps.getD t undef=v:=by
  intro t v ht
  have da:t<(j8++ql).length:=(List.getElem?_eq_some_iff.1 ht).1
  rw [Array.getD_eq_getD_getElem?]
  show (((j8++ql).toArray++Array.replicate _ undef)[t]?).getD undef=v
  rw [Array.getElem?_append_left (by simpa using da)]
  simp only [List.getElem?_toArray]
  rw [ht];rfl
 have EO: ∀t,dj (ao (fr++n6) t)=false∧(∀cs,ao (fr++n6) t≠ .box cs)∧ab e (a.tmps.getD t undef) (ao (fr++n6) t):=by
  intro t
  rw [wT]
  by_cases h1:t∈aT fr
  ·simp only [h1,if_true]
   obtain ⟨g1,g2,v,g3,g4⟩:=s1 _ (Av h1)
   refine ⟨g1,?_,?_⟩
   ·intro cs hc;simp only [hc,cM] at g2;cases g2
   ·rw [Eo t v ?_];exact g4
    have da:t<j8.length:=(List.getElem?_eq_some_iff.1 g3).1
    rw [List.getElem?_append_left da];exact g3
  ·simp only [h1,if_false]
   by_cases h2:t∈aT n6
   ·obtain ⟨g1,g2,v,g3,g4⟩:=s2 _ (Av h2)
    refine ⟨g1,g2,?_⟩
    rw [Eo t v ?_];exact g4
    have hk:=h2
    rw [k2,List.mem_range'] at hk
    obtain ⟨i,hi,he⟩:=hk
    have Am:fn.params.size=j8.length:=by rw [l1];simp
    rw [List.getElem?_append_right (by omega),←Am];exact g3
   ·rw [qD _ _ h2]
    exact ⟨rfl,fun cs hc=>(by cases hc),by simp [ab]⟩
 obtain ⟨q,hq⟩: ∃q,q=1000000+off *1000+pos:=⟨_,rfl⟩
 have NT:yZ q=true:=by rw [hq];exact aeI off pos
 have hpo:posOf q=pos:=by rw [hq];unfold posOf;omega
 have hof:KP q=off:=by rw [hq];unfold KP;omega
 rw [←hq] at hb
 let Zc:bM:={bM.plain Z with cq:=[pos],T:=fun _=> .pointer (some ⟨bg,off,none⟩)}
 have aeK:a.tmps.getD pos undef= .pointer (some ⟨bg,off,none⟩):=Eo pos _ hvp
 have QY: ∀t,ao ((q,Slot.box cs)::(fr++n6)) t=if t=q then .box cs else ao (fr++n6) t:=by
  intro t
  simp only [ao,fe]
  by_cases Ri:t=q
  ·subst Ri;simp
  ·have: ¬q=t:=fun h=>Ri h.symm
   simp [Ri,this]
 have PQ:aT (fr++n6)=List.range' 0 (fn.params.toList.length+b6.length):=by
  have:aT (fr++n6)=aT fr++aT n6:=by simp [aT]
  rw [this,k1,k2]
  have:=List.range'_append_1 (s:=0) (m:=fn.params.toList.length) (n:=b6.length)
  simpa using this
 have Z6: ∀t ds,ao ((q,Slot.box cs)::(fr++n6)) t= .box ds→t=q:=by
  intro t ds ht
  rw [QY] at ht
  by_cases Ri:t=q
  ·exact Ri
  ·rw [if_neg Ri] at ht;exact absurd ht ((EO t).2.1 ds)
 have pO:bX c Zc e ⟨[pos],[],(q,.box cs)::(fr++n6),mm⟩ a w:=by
  refine ⟨⟨rfl,rfl,rfl,fun t ht=> ?_⟩,?_,rfl,rfl,?_,?_,?_,fun f o ho=> ?_,fun t t' cs fI h1 h2 cT=> ?_,fun t ds f o h1 ho=> ?_,fun f f' o o' k h1 h2 h3 h4=>eH f f' o o' k h1 h2 h3 h4,jk,hz⟩
  ·have:t=pos:=by simpa [Zc] using ht
   rw [this];exact aeK
  ·show ((j8++ql).toArray++Array.replicate (fn.ntmps-(j8++ql).toArray.size) undef).size=c.n
   rw [Array.size_append,Array.size_replicate,htn,hn];omega
  ·show (aT ((q,Slot.box cs)::(fr++n6))).Nodup
   show (q::aT (fr++n6)).Nodup
   rw [PQ]
   refine List.nodup_cons.2 ⟨fun hm=> ?_,List.nodup_range'⟩
   rw [List.mem_range'] at hm
   obtain ⟨i,hi,he⟩:=hm
   have:fn.params.toList.length=fn.params.size:=by simp
   omega
  ·intro t
   show bW Zc e w t _ (ao ((q,Slot.box cs)::(fr++n6)) t)
   rw [QY]
   by_cases Ri:t=q
   ·rw [if_pos Ri,Ri]
    exact ⟨⟨fun hp=>(by rw [NT] at hp;cases hp),fun _=>⟨by rw [hpo];simp [Zc],by rw [hof]⟩⟩,⟨.inr hzb,⟨_,cW,rfl,qe⟩,qf⟩⟩
   ·rw [if_neg Ri]
    obtain ⟨g1,g2,g3⟩:=EO t
    generalize ao (fr++n6) t=s at g1 g2 g3
    cases s<;>first|exact g3|exact absurd rfl (g2 _)
  ·intro t
   show ct _ (ao ((q,Slot.box cs)::(fr++n6)) t)
   rw [QY]
   by_cases Ri:t=q
   ·rw [if_pos Ri];trivial
   ·rw [if_neg Ri];exact tT (EO t).1
  ·obtain ⟨I,cells,q1,q2,q3,q4,q5⟩:=(fV f o ho).1.row
   exact ⟨I,cells,q1,q2,q3,q4,fun b hb=>⟨.inr (q5 b hb).1,(q5 b hb).2.1,fun hc=>by simp [Zc,bM.fz,bM.plain] at hc⟩⟩
  ·exact absurd ((Z6 t _ h1).trans (Z6 t' _ h2).symm) cT
  ·exact (fV f o ho).2
 refine PN hG hD b pO hb ?_
 intro n e' bZ a' w' h' t' hK
 cases hle:Nat.ble n 1 with
 |false=>simp [hle] at hK
 |true=>
  simp only [hle,cond_true] at hK
  obtain ⟨e2,dH,ns,us,q1,q2,q3,q4,hK⟩:=Rh (P:=P) hG.ti h' hK
  split at hK
  rotate_left
  ·simp at hK
  rename_i qE xS
  cases Pp:eP qE with
  |true=>simp [Pp] at hK
  |false=>
  simp only [Pp,cond_false] at hK
  obtain ⟨outs,ps,ht,hK⟩:=zJ hK
  simp only [Option.some.injEq] at hK
  have xb:(results fn a'.tmps).run P w'= .ok (if h:us.toArray.size=1 then us.toArray[0] else .tuple us.toArray) w':=by
   have hm:(fn.results.mapM (pP a'.tmps)).run P w'= .ok us.toArray w':=by
    rw [Array.mapM_eq_mapM_toList]
    simp [q3]
   have Pp:results fn a'.tmps=(do let vs←fn.results.mapM (pP a'.tmps);pure (if h:vs.size=1 then vs[0] else .tuple vs)):=by
    unfold results
    congr 1
   rw [Pp]
   simp [hm]
  have aeL:=q1.slot q
  rw [xS] at aeL
  obtain ⟨_,hT⟩:=aeL.1.2 NT
  have hB:e2.B q=bg:=by
   have hT:Value.pointer (some ⟨bg,off,none⟩)= .pointer (some ⟨e2.B q,KP q,none⟩):=hT
   simp only [Value.pointer.injEq,Option.some.injEq,Addr.mk.injEq] at hT
   exact hT.1.symm
  have aeM:bE dH.cq q=false:=by
   rw [q1.defers.2.1]
   cases hh:bE Zc.cq q with
   |false=>rfl
   |true=>
    have:=(bF _ _).1 hh
    have:q=pos:=by simpa [Zc] using this
    omega
  have hco:=(Ey q1 xS Pp jn ht).wide (Au q1 xS aeM ht)
  have JF:e2.key=c.key:=q1.key
  have Lx: ∃φ',Trans Z φ w φ' w'∧zH φ' w'∧zh c Z φ' w' (c.key f) (j8++ql) (if h:us.toArray.size=1 then us.toArray[0] else .tuple us.toArray) m:=by
   refine ⟨e2.φ,t'.trans q2.tr,q1.nT,?_⟩
   rw [JF] at q4
   subst hK
   refine ⟨?_,pos,ks,bg,off,yK,hvp,by rw [←hB];exact hco⟩
   by_cases XE: ∃m',ns=[m']
   ·obtain ⟨m',rfl⟩:=XE
    obtain ⟨v,u,rfl,g1,g2⟩:=q4
    have g2:u=[]:=g2
    subst g2
    simp only [List.size_toArray,List.length_singleton,dite_true]
    cases m'<;>first|exact g1|exact absurd g1.1 (by simp [MV.one])
   ·have hm:adE ns= .cK ns:=by
     cases ns with
     |nil=>rfl
     |cons x l=>
      cases l with
      |nil=>exact absurd ⟨x,rfl⟩ XE
      |cons=>rfl
    have cT:us.toArray.size≠1:=by
     intro h1
     have:=q4.length
     rw [List.size_toArray] at h1
     rw [h1] at this
     obtain ⟨m1,h2⟩:=List.length_eq_one_iff.1 this.symm
     exact XE ⟨m1,h2⟩
    rw [hm,dif_neg cT]
    exact ⟨us.toArray,rfl,by simpa using q4⟩
  match n,hle with
  |0,_=>exact ⟨h'.defers.1,_,xb,_,rfl,Lx⟩
  |1,_=>exact ⟨h'.defers.1,_,xb,_,rfl,Lx⟩
  |n+2,hle=>simp [Nat.ble] at hle
end
end Dn
/-
  Operations whose order is open. Conditions: none.
-/
set_option linter.unusedSimpArgs false
set_option linter.unusedVariables false
namespace Dn
open Go
section
variable {P:Program} {c:Ctx} {ops:Array Oper} {N:Act→World→Prop}
def qm (N:Act→World→Prop):Exit→Act→World→Prop
 | .normal,a,w=>N a w
 |_,_,_=>False
def vc (c:Ctx) (oi:Oper) (ops:Array Oper) (i:Nat):Bool:=match ops[i]? with|some o=>Tc c o||zb oi o|none=>true
def Hk (P:Program) (c:Ctx) (ops:Array Oper) (N:Act→World→Prop) (φ:Ph):Nat→Array Bool→Act→World→Prop
 |0,listed,a,w=>Region.ready .any ops listed=[]∧N a w
 |fuel+1,listed,a,w=>(Region.ready .any ops listed=[]→N a w)∧
  ∀i∈Region.ready .any ops listed,wpOp P ops (qm N) i (fun a' w'=>((∀oi,vc c oi ops i=true→eY c oi w w')∧zH φ w')∧Hk P c ops N φ fuel (listed.setIfInBounds i true) a' w') a w
theorem Rj {φ φ':Ph} (hp:qi φ φ'): ∀(fuel:Nat) (listed:Array Bool) (a:Act) (w:World),Hk P c ops N φ' fuel listed a w→Hk P c ops N φ fuel listed a w:=by
 intro fuel
 induction fuel with
 |zero=>intro listed a w h;exact h
 |succ fuel ih=>intro listed a w h;exact ⟨h.1,fun i hi=>wpOp_mono (fun a w h=>⟨⟨h.1.1,fun b o v hv=>h.1.2 b o v (hp b o v hv)⟩,ih _ _ _ h.2⟩) (h.2 i hi)⟩
theorem UI {φ:Ph}: ∀(fuel:Nat) (listed:Array Bool) (a:Act) (w:World),Hk P c ops N φ fuel listed a w→wpAny P .any ops (qm N) fuel listed a w:=by
 intro fuel
 induction fuel with
 |zero=>intro listed a w h;exact h
 |succ fuel ih=>intro listed a w h;exact ⟨h.1,fun i hi=>wpOp_mono (fun a w h=>ih _ _ _ h.2) (h.2 i hi)⟩
theorem N1 {oi oj p:Oper} {w w':World} (h1:zb oi p=true) (h2:zb oj p=true) (h:eY c oi w w'):eY c oj w w':=by
 unfold zb at h1 h2
 split at h1
 ·rename_i t t' g1 g2
  split at h2
  ·rename_i u u' g3 g4
   rw [g2] at g4
   cases g4
   have e1:=Nat.eq_of_beq_eq_true h1
   have e2:=Nat.eq_of_beq_eq_true h2
   subst e1;subst e2
   simpa [eY,QZ,g1,g3] using h
  ·cases h2
 ·cases h1
theorem abx {j:Nat} {oi oj:Oper} {v:Value} (hj:ops[j]? =some oj) (tP:oi.apart ops oj=true)
 (hsi: ∀cs b,oi.op≠ .select cs b) (hsj: ∀cs b,oj.op≠ .select cs b) {K:Act→World→Prop} {a:Act} {w:World} (h:wpOp P ops (qm N) j K (a.put oi.dst v) w):
 wpOp P ops (qm N) j (fun a' w'=>(execOp a'.eval oi=execOp a.eval oi∧Region.wanted oi (yielded ops a'.tmps)=Region.wanted oi (yielded ops a.tmps))∧K (a'.put oi.dst v) w') a w:=by
 obtain ⟨h1,h2,h3⟩:=Oper.apart_spec tP
 have keep: ∀(a:Act) (u:Value),execOp (a.put oj.dst u).eval oi=execOp a.eval oi∧Region.wanted oi (yielded ops (a.put oj.dst u).tmps)=Region.wanted oi (yielded ops a.tmps):=
  fun a u=>⟨execOp_put oi hsi a oj.dst u h3,wanted_put oi a oj.dst u h3⟩
 unfold wpOp at *
 simp only [hj] at *
 rw [wanted_put oj a oi.dst v h1] at h
 split
 ·rename_i hw
  simp only [hw,if_true] at h
  rcases h with h|⟨aeN,UJ⟩
  case inr=>obtain ⟨_,_,hf⟩:=UJ;exact hf.elim
  refine .inl ?_
  unfold Oper.wp at *
  rw [execOp_put oj hsj a oi.dst v h1] at h
  generalize (execOp a.eval oj).run P w=r at *
  cases r with
  |ok n w'=>
   cases n<;>simp only [Oper.upon] at h⊢
   case value u=>exact ⟨keep a u,by rw [←Act.put_comm a v u h2];exact h⟩
   case skip=>exact ⟨keep a _,by rw [←Act.put_comm a v undef h2];exact h⟩
   case defer d=>
    refine ⟨keep _ _,?_⟩
    rw [←Act.put_comm _ v undef h2,←Act.put_defers]
    exact h
   case enter f args=>
    refine Calls.mono h fun x xP he=> ?_
    cases x with
    |returned u=>exact ⟨keep a u,by rw [←Act.put_comm a v u h2];exact he⟩
    |panicked c=>exact he
    |outgrown=>exact he
   case row row args=>exact Rows.mono h fun u xP he=>⟨keep a u,by rw [←Act.put_comm a v u h2];exact he⟩
  |halt x w'=>
   cases x<;>simp only [Oper.upon] at h⊢
   case panic u=>exact h
 ·rename_i hw
  simp only [hw] at h
  exact ⟨keep a _,by rw [←Act.put_comm a v undef h2];exact h⟩
def PR (P:Program) (c:Ctx) (ops:Array Oper) (φ:Ph) (o:Oper) (v:Value) (a:Act) (w:World):Prop:=
 (Region.wanted o (yielded ops a.tmps)=true∧ ∀w',(ll c o=true→(still c o=false→eY c o w w')∧zH φ w')→(execOp a.eval o).run P w'= .ok (.value v) w')∨
 (Region.wanted o (yielded ops a.tmps)=false∧v=undef)
theorem EW {φ:Ph} {i:Nat} {oi:Oper} {v:Value} {D:List Nat} (hD: ∀j oj,j∈D→j≠i→ops[j]? =some oj→ ∃e∈oj.after,Region.binds .any e=true∧e.on∈D) (hi:ops[i]? =some oi) (LD: ∀(j:Nat) (o:Oper) cs b,ops[j]? =some o→o.op≠ .select cs b):
 ∀(fuel:Nat) (listed:Array Bool) (a:Act) (w:World),
  (∀j oj,ops[j]? =some oj→j∉D→j≠i→listed.getD j true=false→oi.apart ops oj=true∧(ll c oi=true→still c oi=false→vc c oi ops j=true))→(∀d∈D,listed.getD d false=false)→
  i∈Region.ready .any ops listed→PR P c ops φ oi v a w→zH φ w→
  Hk P c ops N φ fuel (listed.setIfInBounds i true) (a.put oi.dst v) w→Hk P c ops N φ (fuel+1) listed a w:=by
 have self: ∀(fuel:Nat) (listed:Array Bool) (a:Act) (w:World),PR P c ops φ oi v a w→zH φ w→Hk P c ops N φ fuel (listed.setIfInBounds i true) (a.put oi.dst v) w→
  wpOp P ops (qm N) i (fun a' w'=>((∀oi,vc c oi ops i=true→eY c oi w w')∧zH φ w')∧Hk P c ops N φ fuel (listed.setIfInBounds i true) a' w') a w:=by
  intro fuel listed a w hy hm H
  unfold wpOp
  simp only [hi]
  rcases hy with ⟨hw,hv⟩|⟨hw,rfl⟩
  ·simp only [hw,if_true,Oper.wp,hv w (fun _=>⟨fun _=>(dv.refl w).for,hm⟩),Oper.upon]
   exact .inl ⟨⟨fun _ _=>(dv.refl w).for,hm⟩,H⟩
  ·simp only [hw,Bool.false_eq_true,if_false]
   exact ⟨⟨fun _ _=>(dv.refl w).for,hm⟩,H⟩
 intro fuel
 induction fuel with
 |zero=>
  intro listed a w _ _ hr hy hm H
  refine ⟨fun h=>(by rw [h] at hr;cases hr),fun j hj=> ?_⟩
  by_cases SS:j=i
  ·subst SS;exact self 0 listed a w hy hm H
  ·have:=ready_mono hj SS
   rw [H.1] at this
   cases this
 |succ fuel ih=>
  intro listed a w qf Dt hr hy hm H
  refine ⟨fun h=>(by rw [h] at hr;cases hr),fun j hj=> ?_⟩
  by_cases SS:j=i
  ·subst SS;exact self (fuel+1) listed a w hy hm H
  ·have h1:=H.2 j (ready_mono hj SS)
   obtain ⟨XV,oj,Z7,ni⟩:=mem_ready.1 hj
   have hjD:j∉D:=by
    intro hjd
    obtain ⟨e,he,hb,te⟩:=hD j oj hjd SS Z7
    have h1:=ni e he hb
    rw [Dt e.on te] at h1;cases h1
   obtain ⟨tP,hgr⟩:=qf j oj Z7 hjD SS XV
   have h2:=abx Z7 tP (fun cs b=>LD i oi cs b hi) (fun cs b=>LD j oj cs b Z7) h1
   have aeO: ∀d∈D,(listed.setIfInBounds j true).getD d false=false:=by
    intro d hd
    rw [getD_set_ne false (fun he=>hjD (by rw [he];exact hd))];exact Dt d hd
   have aby: ∀k ok,ops[k]? =some ok→k∉D→k≠i→(listed.setIfInBounds j true).getD k true=false→oi.apart ops ok=true∧(ll c oi=true→still c oi=false→vc c oi ops k=true):=fun k ok hk hkD XW hun=>by
    refine qf k ok hk hkD XW ?_
    by_cases Rk:j=k
    ·subst Rk;exact XV
    ·rw [getD_set_ne true Rk] at hun;exact hun
   refine wpOp_mono (fun a' w' h3=>⟨h3.2.1,ih (listed.setIfInBounds j true) a' w' aby aeO (ready_mono hr (Ne.symm SS)) ?_ h3.2.1.2 ?_⟩) h2
   ·obtain ⟨⟨he,hwn⟩,⟨hg,_⟩,_⟩:=h3
    rcases hy with ⟨hw,hv⟩|⟨hw,rfl⟩
    ·refine .inl ⟨by rw [hwn];exact hw,fun xP Rl=> ?_⟩
     rw [he]
     exact hv xP (fun hl=>⟨fun hs=>(hg oi (hgr hl hs)).trans ((Rl hl).1 hs),(Rl hl).2⟩)
    ·exact .inr ⟨by rw [hwn];exact hw,rfl⟩
   ·rw [Array.setIfInBounds_comm _ _ SS]
    exact h3.2.2
variable {Z:bM} {R:Type} {K:St→Option R} {r:R}
theorem Rm (op:Op):Ni op=op.operands.toList:=by
 cases op<;>first|rfl|simp [Ni,Op.operands,Call.operands]
 all_goals first|rfl|(rename_i c;cases c.callee<;>simp)
theorem UK (l:List Operand):KX l=l.filterMap fun| .tmp t=>some t|_=>none:=by
 induction l with
 |nil=>rfl
 |cons x l ih=>cases x<;>simp [KX,ih]
theorem Is (o:Oper):Js ops.toList o=o.looksAt ops:=by
 unfold Js Oper.looksAt
 rw [Rm,UK]
 congr 1
 cases o.guard with
 |none=>rfl
 |some g=>
  obtain ⟨g,wnt⟩:=g
  simp only [Array.getElem?_toList]
  cases ops[g]? <;>rfl
theorem ya {x y:Oper} (h:Jt ops.toList x y=true):x.apart ops y=true:=by
 unfold Jt at h
 unfold Oper.apart
 rw [Is,Is] at h
 have hn: ∀(l:List Nat) (d:Nat),bE l d=l.contains d:=by
  intro l d
  have:=bF l d
  cases h1:bE l d<;>cases h2:l.contains d<;>simp_all
 cases hx:x.dst<;>cases hy:y.dst<;>simp_all [bne,fe]
theorem tV (e:Edge):D9 e=Region.binds .any e:=by
 unfold D9 Region.binds
 cases e.ground<;>rfl
structure UL (ops:Array Oper) (listed:Array Bool) (pre:List Nat):Prop where
 size:listed.size=ops.size
 mem: ∀i,i<ops.size→(listed.getD i true=true↔i∈pre)
theorem UL.set {listed:Array Bool} {pre:List Nat} {x:Nat} (h:UL ops listed pre) (hx:x<ops.size):UL ops (listed.setIfInBounds x true) (x::pre):=by
 refine ⟨by simpa using h.size,fun i hi=> ?_⟩
 by_cases SU:x=i
 ·subst SU
  have:x<listed.size:=by rw [h.size];exact hx
  simp [this]
 ·rw [getD_set_ne true SU,h.mem i hi]
  simp only [List.mem_cons]
  exact ⟨.inr,fun hh=>hh.resolve_left (fun he=>SU he.symm)⟩
theorem UL.Az {listed:Array Bool} {pre:List Nat} {i:Nat} (h:UL ops listed pre) (hi:i<ops.size):listed.getD i true=false↔i∉pre:=by
 rw [←h.mem i hi];cases listed.getD i true<;>simp
theorem UL.done {listed:Array Bool} {pre:List Nat} {i:Nat} (h:UL ops listed pre) (hi:i<ops.size):listed.getD i false=true↔i∈pre:=by
 rw [←h.mem i hi]
 have hl:i<listed.size:=by rw [h.size];exact hi
 simp [hl]
theorem xd: ∀(rest pre:List Nat),tJ c ops.toList pre rest=true→ ∀z∈rest,z∉pre:=by
 intro rest
 induction rest with
 |nil=>intro pre _ z hz;cases hz
 |cons y rest ihr=>
  intro pre hd z hz
  simp only [tJ] at hd
  cases hy:ops.toList[y]? with
  |none=>simp [hy] at hd
  |some oy=>
   simp only [hy,Bool.and_eq_true,Bool.not_eq_true'] at hd
   rcases List.mem_cons.1 hz with rfl|hz
   ·rw [←bF,hd.1.1.1.2];simp
   ·exact fun hzp=>ihr (y::pre) hd.2 z hz (by simp [hzp])
theorem Hl {o:Oper} {x:Nat}: ∀(rest D0:List Nat),qO c ops.toList o D0 rest=true→(∀y,y∈D0→y≠x→ ∃p,ops[y]? =some p∧ ∃e∈p.after,Region.binds .any e=true∧e.on∈D0)→
 ∃D:List Nat,(∀y∈D0,y∈D)∧(∀y∈D,y∈D0∨y∈rest)∧(∀j oj,j∈D→j≠x→ops[j]? =some oj→ ∃e∈oj.after,Region.binds .any e=true∧e.on∈D)∧
  (∀y∈rest,y∉D→ ∃p,ops[y]? =some p∧o.apart ops p=true∧(ll c o=true→still c o=false→(Tc c p||zb o p)=true)):=by
 intro rest
 induction rest with
 |nil=>
  intro D0 _ h0
  refine ⟨D0,fun y hy=>hy,fun y hy=> .inl hy,fun j oj hj cT ho=> ?_,fun y hy=>by cases hy⟩
  obtain ⟨p,hp,he⟩:=h0 j hj cT
  rw [ho] at hp;cases hp;exact he
 |cons y rest ih=>
  intro D0 h h0
  simp only [qO] at h
  cases hy:ops.toList[y]? with
  |none=>simp [hy] at h
  |some p=>
   simp only [hy] at h
   have hy':ops[y]? =some p:=by simpa using hy
   cases he:zy p (bE D0) with
   |true=>
    simp only [he,cond_true] at h
    obtain ⟨D,D1,D2,D3,D4⟩:=ih (y::D0) h (by
     intro z hz cT
     rcases List.mem_cons.1 hz with rfl|hz
     ·unfold zy at he
      obtain ⟨ed,XX,hb⟩:=List.any_eq_true.1 he
      simp only [Bool.and_eq_true,tV] at hb
      exact ⟨p,hy',ed,by simpa using XX,hb.1,by simp [(bF _ _).1 hb.2]⟩
     ·obtain ⟨q,hq,ed,h1,h2,h3⟩:=h0 z hz cT
      exact ⟨q,hq,ed,h1,h2,by simp [h3]⟩)
    refine ⟨D,fun z hz=>D1 z (by simp [hz]),fun z hz=> ?_,D3,fun z hz hzD=> ?_⟩
    ·rcases D2 z hz with h1|h1
     ·rcases List.mem_cons.1 h1 with h1|h1
      ·exact .inr (by simp [h1])
      ·exact .inl h1
     ·exact .inr (by simp [h1])
    ·rcases List.mem_cons.1 hz with rfl|hz
     ·exact absurd (D1 z (by simp)) hzD
     ·exact D4 z hz hzD
   |false=>
    simp only [he,cond_false,Bool.and_eq_true,Bool.or_eq_true,Bool.not_eq_true'] at h
    obtain ⟨⟨h1,h2⟩,h3⟩:=h
    obtain ⟨D,D1,D2,D3,D4⟩:=ih D0 h3 h0
    refine ⟨D,D1,fun z hz=>(D2 z hz).imp id (fun h=>by simp [h]),D3,fun z hz hzD=> ?_⟩
    rcases List.mem_cons.1 hz with rfl|hz
    ·refine ⟨p,hy',ya h1,fun hl hs=> ?_⟩
     rcases h2 with ((h2|h2)|h2)|h2
     ·rw [hl] at h2;cases h2
     ·simp [h2]
     ·rw [hs] at h2;cases h2
     ·simp [h2]
    ·exact D4 z hz hzD
def bM.outs (Z:bM) (bs:List Nat):bM:={Z with In:=fun b=>Z.In b∧b∉bs,Pr:=fun b=>Z.Pr b∧b∉bs}
theorem bX.CS {Z Z':bM} {e:Env} {st:St} {a:Act} {w:World} (h:bX c Z e st a w) (hI: ∀b,Z.In b→Z'.In b) (hP: ∀b,Z.Pr b→Z'.Pr b) (h1:Z'.cq=Z.cq) (h2:Z'.cr=Z.cr) (h3:Z'.T=Z.T) (h4:Z'.cov=Z.cov):bX c Z' e st a w:=by
 refine ⟨by rw [h1,h2,h3];exact h.defers,h.size,h.m,h.key,h.nodup,fun t=> ?_,h.root,fun f o ho=> ?_,h.bb,h.bf,h.ff,h.nT,fun b hb=>hI b (h.cn b hb)⟩
 ·have hs:=h.slot t
  generalize ao st.fr t=s at hs
  cases s<;>simp only [bW] at hs⊢ <;>first|exact hs|skip
  exact ⟨⟨hs.1.1,fun hp=>by rw [h1,h3];exact hs.1.2 hp⟩,⟨by rcases hs.2.cn with ⟨x,y⟩|x;exact .inl ⟨by rw [h1];exact x,hP _ y⟩;exact .inr (hI _ x),hs.2.obj,hs.2.free⟩⟩
 ·obtain ⟨I,cells,g1,g2,g3,g4,g5⟩:=(h.iT f o ho).row
  refine ⟨I,cells,g1,g2,g3,g4,fun bg hb=> ?_⟩
  obtain ⟨k1,k2,k3⟩:=g5 bg hb
  refine ⟨?_,k2,fun hc hz j hj=>k3 (by have hc:f∈Z'.cr:=hc;rw [h2] at hc;exact hc) hz j hj⟩
  rcases k1 with ⟨x,y⟩|x
  ·exact .inl ⟨by rw [h2];exact x,hP _ y⟩
  ·exact .inr (hI _ x)
theorem bX.narrow {e:Env} {st:St} {a:Act} {w w':World} {bs:List Nat} (h:bX c (Z.outs bs) e st a w) (g:dv w w') (hs:w.heap.size<w'.heap.size):bX c (Z.outs (w.heap.size::bs)) e st a w':=by
 have h':=h.grow g
 have tf: ∀b,b<w.heap.size→(Z.outs bs).In b→(Z.outs (w.heap.size::bs)).In b:=fun b hb hi=>⟨hi.1,by simp only [List.mem_cons,not_or];exact ⟨by omega,hi.2⟩⟩
 have Dr: ∀b,b<w.heap.size→(Z.outs bs).Pr b→(Z.outs (w.heap.size::bs)).Pr b:=fun b hb hi=>⟨hi.1,by simp only [List.mem_cons,not_or];exact ⟨by omega,hi.2⟩⟩
 refine ⟨h'.defers,h'.size,h'.m,h'.key,h'.nodup,fun t=> ?_,h'.root,fun f o ho=> ?_,h'.bb,h'.bf,h'.ff,h'.nT,fun b hb=> ?_⟩
 ·have hs:=h.slot t
  have xR:=h'.slot t
  generalize ao st.fr t=s at hs xR
  cases s<;>simp only [bW] at hs xR⊢ <;>first|exact xR|skip
  obtain ⟨o2,k1,_⟩:=hs.2.obj
  have hl:=bA k1
  exact ⟨xR.1,⟨by rcases xR.2.cn with ⟨x,y⟩|x;exact .inl ⟨x,Dr _ hl y⟩;exact .inr (tf _ hl x),xR.2.obj,xR.2.free⟩⟩
 ·obtain ⟨I,cells,g1,g2,g3,g4,g5⟩:=(h'.iT f o ho).row
  refine ⟨I,cells,g1,g2,g3,g4,fun bg hb=> ?_⟩
  obtain ⟨k1,k2,k3⟩:=g5 bg hb
  refine ⟨?_,k2,k3⟩
  have hl:bg<w.heap.size:=by
   obtain ⟨I',Tx,l1,l2,l3,l4,l5⟩:=(h.iT f o ho).row
   rcases l3.2 with ⟨hv,_⟩|⟨gg,cap,di,hv,_,hg,_⟩
   ·rw [hv] at hb;simp [Value.ownBlock] at hb
   ·rw [hv] at hb
    simp only [Value.ownBlock,Option.some.injEq] at hb
    have:=bA hg
    omega
  rcases k1 with ⟨x,y⟩|x
  ·exact .inl ⟨x,Dr _ hl y⟩
  ·exact .inr (tf _ hl x)
 ·refine ⟨(h.cn b (by omega)).1,?_⟩
  simp only [List.mem_cons,not_or]
  exact ⟨by omega,(h.cn b (by omega)).2⟩
def XY (b:Nat):Value:= .pointer (some ⟨b,0,none⟩)
def tW (ops:Array Oper) (i:Nat):Option Nat:=match ops[i]? with
 |some o=>o.dst
 |none=>none
def tj (ops:Array Oper):List (Nat×Nat)→Act→Act
 |[],a=>a
 |p::r,a=>(tj ops r a).put (tW ops p.1) (XY p.2)
structure XZ (c:Ctx) (Z:bM) (ops:Array Oper) (e:Env) (w:World) (p:Nat×Nat):Prop where
 row: ∃o t I d arr T,ops[p.1]? =some o∧KY o=true∧o.op= .alloc t∧c.tv t=some I∧o.dst=some d∧w.heap[p.2]? =some (.cells arr T (0,0))∧ ∀e':Env,ax e' arr.toList I.zero
 free: ∀off,e.φ p.2 off=none
 cn:Z.In p.2
theorem yb {o:Oper} (h:KY o=true): ∃t d,o.op= .alloc t∧o.dst=some d∧o.guard=none∧ ∀e∈o.after,Region.binds .any e=false:=by
 unfold KY at h
 split at h
 ·rename_i t d h1 h2 h3
  refine ⟨t,d,h1,h2,h3,fun e he=> ?_⟩
  have:=List.all_eq_true.1 h e (by simpa using he)
  simpa [tV] using this
 ·cases h
theorem zK {t:TypeId} {I:TI} (hI:c.tv t=some I) (hT:kK P c.ti): ∃i z,P.info? t=some i∧i.zero=some z∧ ∀e:Env,ax e z.cells.toList I.zero:=by
 obtain ⟨rX,hc⟩:=bO hI
 obtain ⟨d,i,h1,h2,h3,h4⟩:=hT t I rX
 suffices hz: ∃z,i.zero=some z∧ ∀e:Env,ax e z.cells.toList I.zero by
  obtain ⟨z,h5,h6⟩:=hz
  exact ⟨i,z,h2,h5,h6⟩
 cases d<;>simp only [qS] at h4
 case struct fs=>obtain ⟨_,_,_,_,_,_,cs,hz,hl,_⟩:=h4;exact ⟨_,hz,fun e=>by simpa [Value.cells] using kL hl⟩
 case tuple ts=>exact absurd hc h4.2.1
 case slice el=>obtain ⟨_,_,_,_,_,hz,hl,_⟩:=h4;exact ⟨_,hz,fun e=>by rw [hl];exact ⟨[.slice none 0 0],[],rfl,rfl,rfl⟩⟩
 case array n el=>obtain ⟨_,_,_,_,_,_,_,hl,hz⟩:=h4;exact ⟨_,hz,fun e=>by rw [hl];exact ⟨br kD.zero,[],by simp [Value.cells],rfl,rfl⟩⟩
 case bool=>obtain ⟨_,_,_,_,hl,hz⟩:=h4;exact ⟨_,hz,fun e=>by rw [hl];exact ⟨[.bool false],[],rfl,⟨rfl,.b _⟩,rfl⟩⟩
 case int k=>obtain ⟨_,_,_,_,hl,hz⟩:=h4;exact ⟨_,hz,fun e=>by rw [hl];exact ⟨[.int k 0],[],rfl,⟨rfl,.i _ _⟩,rfl⟩⟩
 case string=>
  obtain ⟨_,_,_,_,hl,b,hz,hb⟩:=h4
  refine ⟨_,hz,fun e=>by rw [hl];refine ⟨[.string b],[],rfl,⟨rfl,?_⟩,rfl⟩;rw [←hb];exact .s b⟩
 all_goals
  obtain ⟨_,_,_,_,v,hz,hv,hl⟩:=h4
  refine ⟨v,hz,fun e=> ?_⟩
  have:v.cells.toList=[v]:=by cases v<;>simp_all [Value.cells,Value.oneCell']
  rw [this];exact kL hl
theorem CT {o:Oper} (hs: ∀cs b,o.op≠ .select cs b) (a:Act): ∀(pd:List (Nat×Nat)),(∀p∈pd,∀d,tW ops p.1=some d→d∉o.looksAt ops)→
 execOp (tj ops pd a).eval o=execOp a.eval o∧Region.wanted o (yielded ops (tj ops pd a).tmps)=Region.wanted o (yielded ops a.tmps)
 |[],_=>⟨rfl,rfl⟩
 |p::r,h=>by
  obtain ⟨h1,h2⟩:=CT hs a r (fun q hq=>h q (by simp [hq]))
  have hp:=h p (by simp)
  exact ⟨(execOp_put o hs _ _ _ hp).trans h1,(wanted_put o _ _ _ hp).trans h2⟩
theorem AA (a:Act) (y:Option Nat) (v:Value): ∀(pd:List (Nat×Nat)),(∀p∈pd,∀d,tW ops p.1=some d→y≠some d)→(tj ops pd a).put y v=tj ops pd (a.put y v)
 |[],_=>rfl
 |p::r,h=>by
  simp only [tj]
  rw [Act.put_comm _ _ _ (fun d hd=>h p (by simp) d hd),AA a y v r (fun q hq=>h q (by simp [hq]))]
theorem X0 {j:Nat} {oj:Oper} {x:Option Nat} {v:Value} (hj:ops[j]? =some oj) (h1: ∀d,x=some d→d∉oj.looksAt ops) (h2: ∀d,x=some d→oj.dst≠some d)
 (hsj: ∀cs b,oj.op≠ .select cs b) {K:Act→World→Prop} {a:Act} {w:World} (h:wpOp P ops (qm N) j K a w):
 wpOp P ops (qm N) j (fun a' w'=> ∃a'',a'=a''.put x v∧K a'' w') (a.put x v) w:=by
 unfold wpOp at *
 simp only [hj] at *
 rw [wanted_put oj a x v h1]
 split
 ·rename_i hw
  simp only [hw,if_true] at h
  rcases h with h|⟨aeN,UJ⟩
  case inr=>obtain ⟨_,_,hf⟩:=UJ;exact hf.elim
  refine .inl ?_
  unfold Oper.wp at *
  rw [execOp_put oj hsj a x v h1]
  generalize (execOp a.eval oj).run P w=r at *
  cases r with
  |ok n w'=>
   cases n<;>simp only [Oper.upon] at h⊢
   case value u=>exact ⟨_,Act.put_comm a v u h2,h⟩
   case skip=>exact ⟨_,Act.put_comm a v undef h2,h⟩
   case defer d=>
    refine ⟨{a.put oj.dst undef with defers:=d::(a.put oj.dst undef).defers},?_,by simpa [Act.put_defers] using h⟩
    have:=Act.put_comm a v undef h2
    cases x<;>cases hd:oj.dst<;>simp_all [Act.put]
   case enter f args=>
    refine Calls.mono h fun y xP he=> ?_
    cases y with
    |returned u=>exact ⟨_,Act.put_comm a v u h2,he⟩
    |panicked c=>exact he
    |outgrown=>exact he
   case row row args=>exact Rows.mono h fun u xP he=>⟨_,Act.put_comm a v u h2,he⟩
  |halt y w'=>
   cases y<;>simp only [Oper.upon] at h⊢
   case panic u=>exact h
 ·rename_i hw
  simp only [hw] at h
  exact ⟨_,Act.put_comm a v undef h2,h⟩
theorem PS {j:Nat} {oj:Oper} (hj:ops[j]? =some oj) (hsj: ∀cs b,oj.op≠ .select cs b) {K:Act→World→Prop} {a:Act} {w:World} (h:wpOp P ops (qm N) j K a w): ∀(pd:List (Nat×Nat)),
 (∀p∈pd,∀d,tW ops p.1=some d→d∉oj.looksAt ops∧oj.dst≠some d)→wpOp P ops (qm N) j (fun a' w'=> ∃a'',a'=tj ops pd a''∧K a'' w') (tj ops pd a) w
 |[],_=>wpOp_mono (fun a' w' hk=>⟨a',rfl,hk⟩) h
 |p::r,hp=>by
  have h1:=PS hj hsj h r (fun q hq=>hp q (by simp [hq]))
  have h2:=X0 (v:=XY p.2) hj (fun d hd=>(hp p (by simp) d hd).1) (fun d hd=>(hp p (by simp) d hd).2) hsj h1
  refine wpOp_mono ?_ h2
  rintro a' w' ⟨a1,rfl,a2,rfl,hk⟩
  exact ⟨a2,rfl,hk⟩
theorem B1: ∀{l m:List Nat},l.Nodup→(∀x∈l,x∈m)→l.length≤m.length
 |[],m,_,_=>Nat.zero_le _
 |x::l,m,hn,hs=>by
  have hn:=List.nodup_cons.1 hn
  have h1:l.length≤(m.erase x).length:=B1 hn.2 fun y hy=>(List.mem_erase_of_ne (fun he=>hn.1 (by rw [←he];exact hy))).2 (hs y (by simp [hy]))
  have h2:=List.length_erase_of_mem (hs x (by simp))
  have h3:0<m.length:=List.length_pos_of_mem (hs x (by simp))
  simp only [List.length_cons];omega
theorem LF {x b:Nat} {o:Oper} (hdo:tW ops x=o.dst) (a:Act) (pr:List (Nat×Nat)): ∀(pl:List (Nat×Nat)),(∀p∈pl++pr,∀dd,tW ops p.1=some dd→o.dst≠some dd)→tj ops (pl++(x,b)::pr) a=tj ops (pl++pr) (a.put o.dst (XY b))
 |[],h=>by
  simp only [List.nil_append,tj,hdo]
  exact AA a o.dst (XY b) pr (fun p hp=>h p (by simp [hp]))
 |q::pl,h=>by
  simp only [List.cons_append,tj]
  rw [LF hdo a pr pl (fun p hp=>h p (by simp only [List.cons_append,List.mem_cons];exact .inr hp))]
theorem UL.congr {listed:Array Bool} {l l':List Nat} (h:UL ops listed l) (he: ∀i,i∈l↔i∈l'):UL ops listed l':=⟨h.size,fun i hi=>by rw [h.mem i hi,he]⟩
theorem LG {o:Oper}: ∀(rest D:List Nat),qO c ops.toList o D rest=true→ ∀y∈rest,∀p,ops[y]? =some p→KY p=true→o.apart ops p=true:=by
 intro rest
 induction rest with
 |nil=>intro D _ y hy;cases hy
 |cons z rest ih=>
  intro D h y hy p hp Ds
  simp only [qO] at h
  cases hz:ops.toList[z]? with
  |none=>simp [hz] at h
  |some q=>
   simp only [hz] at h
   cases he:zy q (bE D) with
   |true=>
    simp only [he,cond_true] at h
    rcases List.mem_cons.1 hy with rfl|hy
    ·exfalso
     have hz':ops[y]? =some q:=by simpa using hz
     rw [hz'] at hp;cases hp
     obtain ⟨_,_,_,_,_,cT⟩:=yb Ds
     unfold zy at he
     obtain ⟨ed,XX,hb⟩:=List.any_eq_true.1 he
     simp only [Bool.and_eq_true,tV] at hb
     rw [cT ed (by simpa using XX)] at hb
     exact absurd hb.1 (by simp)
    ·exact ih _ h y hy p hp Ds
   |false=>
    simp only [he,cond_false,Bool.and_eq_true] at h
    rcases List.mem_cons.1 hy with rfl|hy
    ·have hz':ops[y]? =some q:=by simpa using hz
     rw [hz'] at hp;cases hp
     exact ya h.1.1
    ·exact ih _ h.2 y hy p hp Ds
theorem EX {o p:Oper} {y:Nat} (hp:ops[y]? =some p) (h:p.apart ops o=true∨o.apart ops p=true): ∀d,tW ops y=some d→d∉o.looksAt ops∧o.dst≠some d:=by
 intro d hd
 have hd:p.dst=some d:=by simpa [tW,hp] using hd
 rcases h with h|h
 ·obtain ⟨h1,h2,h3⟩:=Oper.apart_spec h
  exact ⟨h1 d hd,h2 d hd⟩
 ·obtain ⟨h1,h2,h3⟩:=Oper.apart_spec h
  exact ⟨h3 d hd,fun he=>h2 d he hd⟩
theorem XZ.later {Z:bM} {bs:List Nat} {e e':Env} {w w':World} {p:Nat×Nat} (h:XZ c Z ops e w p) (hb:p.2∈bs) (t:Trans (Z.outs bs).In e.φ w e'.φ w'):XZ c Z ops e' w' p:=by
 obtain ⟨o,ty,I,d,arr,T,h1,h2,h3,h4,h5,h6,h7⟩:=h.row
 have hn: ¬(Z.outs bs).In p.2:=fun hh=>hh.2 hb
 exact ⟨⟨o,ty,I,d,arr,T,h1,h2,h3,h4,h5,by rw [t.heap _ hn (bA h6)];exact h6,h7⟩,fun off=>by rw [t.free _ off hn];exact h.free off,h.cn⟩
theorem Trans.wide {Z Z':Nat→Prop} {φ φ':Ph} {w w':World} (t:Trans Z φ w φ' w') (h: ∀b,Z b→Z' b):Trans Z' φ w φ' w':=
 ⟨t.ph,fun b hb hl=>t.heap b (fun hz=>hb (h b hz)) hl,fun b o hb=>t.free b o (fun hz=>hb (h b hz)),t.size,t.rest⟩
theorem X1 (hG:Good P c) (LD: ∀(j:Nat) (o:Oper) cs b,ops[j]? =some o→o.op≠ .select cs b) {φ0:Ph} {w0:World} (hN: ∀a' w',Out c Z K r φ0 w0 a' w'→N a' w'):
 ∀(m:Nat) (rest pre:List Nat) (pd:List (Nat×Nat)) (l:List Oper) (listed:Array Bool) (e:Env) (st:St) (a:Act) (w:World),2 *rest.length-pd.length≤m→bX c (Z.outs (pd.map (·.2))) e st a w→uK c ops.toList l st K=some r→Trans Z.In φ0 w0 e.φ w→lm ops.toList rest=some l→
  tJ c ops.toList pre rest=true→UL ops listed (pd.map (·.1)++pre)→(∀i,i<ops.size→i∈pre∨i∈rest)→(∀i∈pre,i<ops.size)→(∀p∈pd,p.1∈rest)→(pd.map (·.1)).Nodup→(pd.map (·.2)).Nodup→(∀p∈pd,XZ c Z ops e w p)→
  pd.length≤rest.length→Hk P c ops N e.φ (rest.length-pd.length) listed (tj ops pd a) w:=by
 intro m
 induction m with
 |zero=>
  intro rest pre pd l listed e st a w hm h hK ht hp hd hL ni UM Dr JA El SM hle
  cases rest with
  |cons x rest=>simp only [List.length_cons] at hm hle;omega
  |nil=>
   cases pd with
   |cons p pd=>simp at hle
   |nil=>
    cases hp
    have h':bX c Z e st a w:=h.CS (fun b hb=>hb.1) (fun b hb=>hb.1) rfl rfl rfl rfl
    refine ⟨?_,hN a w ⟨e,st,h',ht,hK⟩⟩
    cases hr:Region.ready .any ops listed with
    |nil=>rfl
    |cons i is=>
     have hi:i∈Region.ready .any ops listed:=by rw [hr];simp
     obtain ⟨h1,o,ho,_⟩:=mem_ready.1 hi
     have da:i<ops.size:=(Array.getElem?_eq_some_iff.1 ho).1
     exact absurd (by simpa using (ni i da).resolve_right (by simp)) ((hL.Az da).1 h1)
 |succ m ihm=>
  intro rest pre pd l listed e st a w hm h hK ht hp hd hL ni UM Dr JA El SM hle
  cases rest with
  |nil=>
   cases pd with
   |cons p pd=>simp at hle
   |nil=>exact ihm [] pre [] l listed e st a w (by simp) h hK ht hp hd hL ni UM Dr JA El SM hle
  |cons x rest=>
   simp only [lm] at hp
   cases hox:ops.toList[x]? with
   |none=>simp [hox] at hp
   |some o=>
    cases WV:lm ops.toList rest with
    |none=>simp [hox,WV] at hp
    |some l'=>
     simp only [hox,WV,Option.some.injEq] at hp
     subst hp
     have hx:ops[x]? =some o:=by simpa using hox
     have abA:x<ops.size:=(Array.getElem?_eq_some_iff.1 hx).1
     have hd0:=hd
     simp only [tJ,hox] at hd
     simp only [Bool.and_eq_true,Bool.not_eq_true'] at hd
     obtain ⟨⟨⟨⟨d1,d2⟩,d3⟩,d4⟩,d5⟩:=hd
     have Z8:x∉pre:=by rw [←bF,d2];simp
     have ajF:x∉rest:=by rw [←bF,d3];simp
     have PT: ∀i,i<ops.size→i∈x::pre∨i∈rest:=by
      intro i hi
      rcases ni i hi with h1|h1
      ·exact .inl (by simp [h1])
      ·rcases List.mem_cons.1 h1 with h1|h1
       ·exact .inl (by simp [h1])
       ·exact .inr h1
     have Z9: ∀i∈x::pre,i<ops.size:=by
      intro i hi
      rcases List.mem_cons.1 hi with rfl|hi
      ·exact abA
      ·exact UM i hi
     have abB:=hK
     simp only [uK] at hK
     have UN: ∀p∈pd,∃q,ops[p.1]? =some q∧KY q=true:=fun p hp=>by
      obtain ⟨q,_,_,_,_,_,h1,h2,_⟩:=(SM p hp).row
      exact ⟨q,h1,h2⟩
     unfold Pl at hK
     obtain ⟨bZ,go,h',hK,hw⟩:=Ls h hK
     have aaa: ∀cs b,o.op≠ .select cs b:=fun cs b=>LD x o cs b hx
     by_cases hxp:x∈pd.map (·.1)
     ·
      obtain ⟨⟨x',b⟩,hpx,hxe⟩:=List.mem_map.1 hxp
      have hxe:x'=x:=hxe
      subst hxe
      obtain ⟨o',t,I,d,arr,T,k1,k2,k3,k4,k5,k6,k7⟩:=(SM _ hpx).row
      rw [hx] at k1;cases k1
      obtain ⟨_,_,_,_,hgn,cT⟩:=yb k2
      have hgo:go=true:=by
       rw [←hw];simp [Region.wanted,hgn]
      subst hgo
      have K1:(n4 o&&!lQ c o)=false:=by simp [n4,k3]
      simp only [K1,cond_false] at d4
      obtain ⟨pl,pr,rfl⟩:=List.append_of_mem hpx
      have hbn:b∉(pl++pr).map (·.2):=by
       have:((pl++(x',b)::pr).map (·.2)).Nodup:=El
       simp only [List.map_append,List.map_cons,List.nodup_append,List.nodup_cons,List.mem_cons] at this
       simp only [List.map_append,List.mem_append,not_or]
       exact ⟨fun hm=>this.2.2 b hm b (by simp) rfl,this.2.1.1⟩
      have hxn:x'∉(pl++pr).map (·.1):=by
       have:((pl++(x',b)::pr).map (·.1)).Nodup:=JA
       simp only [List.map_append,List.map_cons,List.nodup_append,List.nodup_cons,List.mem_cons] at this
       simp only [List.map_append,List.mem_append,not_or]
       exact ⟨fun hm=>this.2.2 x' hm x' (by simp) rfl,this.2.1.1⟩
      have LH: ∀p∈pl++pr,p∈pl++(x',b)::pr:=fun p hp=>by
       simp only [List.mem_append,List.mem_cons] at hp⊢
       rcases hp with hp|hp
       ·exact .inl hp
       ·exact .inr (.inr hp)
      have pO:bX c (Z.outs ((pl++pr).map (·.2))) e bZ a w:=by
       refine h'.CS (fun u hu=>⟨hu.1,fun hm=>hu.2 ?_⟩) (fun u hu=>⟨hu.1,fun hm=>hu.2 ?_⟩) rfl rfl rfl rfl<;>
       ·obtain ⟨p,hp,rfl⟩:=List.mem_map.1 hm
        exact List.mem_map.2 ⟨p,LH p hp,rfl⟩
      have X2:b∈(pl++(x',b)::pr).map (·.2):=by simp
      have kF:pM (Z.outs ((pl++pr).map (·.2))) e w bZ (XY b) (.box I.zero):=by
       refine ⟨b,by rw [uQ (k7 e).wW];rfl,⟨⟨(SM _ hpx).cn,hbn⟩,⟨_,k6,rfl,k7 e⟩,(SM _ hpx).free⟩,fun t' fI zC BC=> ?_,fun f o' zA BC=> ?_⟩
       ·have hs:=h'.slot t'
        rw [zC] at hs
        rcases hs.2.cn with ⟨_,u⟩|u
        ·exact u.2 (by rw [BC];exact X2)
        ·exact u.2 (by rw [BC];exact X2)
       ·obtain ⟨I',cells,g1,g2,g3,g4,g5⟩:=(h'.iT f o' zA).row
        rcases (g5 b BC).1 with ⟨_,u⟩|u
        ·exact u.2 X2
        ·exact u.2 X2
      simp only [cond_true,opK,k3,k4] at hK
      obtain ⟨e2,dH,j1,j2,j3⟩:=dA pO kF hK
      have abC:tj ops (pl++(x',b)::pr) a=tj ops (pl++pr) (a.put o.dst (XY b)):=by
       have tP: ∀p∈pl++pr,∀dd,tW ops p.1=some dd→o.dst≠some dd:=by
        intro p hp dd hdd
        obtain ⟨q,hq,Ds⟩:=UN p (LH p hp)
        have N2:p.1∈rest:=by
         rcases List.mem_cons.1 (Dr p (LH p hp)) with he|he
         ·exact absurd (List.mem_map.2 ⟨p,hp,he⟩) hxn
         ·exact he
        have:=List.all_eq_true.1 d4 p.1 N2
        have hq':ops.toList[p.1]? =some q:=by simpa using hq
        simp only [hq',Ds,cond_true,Bool.and_eq_true] at this
        exact (EX hq (.inl (ya this.1)) dd hdd).2
       exact LF (by simp [tW,hx]) a pr pl tP
      rw [abC,←j3]
      have hlen:(x'::rest).length-(pl++(x',b)::pr).length=rest.length-(pl++pr).length:=by simp only [List.length_cons,List.length_append];omega
      rw [hlen]
      refine ihm rest (x'::pre) (pl++pr) l' listed e2 dH _ w ?_ j1 j2 (by rw [j3];exact ht) WV d5 ?_ PT Z9 ?_ ?_ ?_ ?_ ?_
      ·simp only [List.length_cons,List.length_append] at hm⊢;omega
      ·refine hL.congr (fun i=> ?_)
       simp only [List.map_append,List.map_cons,List.mem_append,List.mem_cons]
       constructor
       ·rintro ((h1|h1|h1)|h1)
        ·exact .inl (.inl h1)
        ·exact .inr (.inl h1)
        ·exact .inl (.inr h1)
        ·exact .inr (.inr h1)
       ·rintro ((h1|h1)|h1|h1)
        ·exact .inl (.inl h1)
        ·exact .inl (.inr (.inr h1))
        ·exact .inl (.inr (.inl h1))
        ·exact .inr h1
      ·intro p hp
       rcases List.mem_cons.1 (Dr p (LH p hp)) with he|he
       ·exact absurd (List.mem_map.2 ⟨p,hp,he⟩) hxn
       ·exact he
      ·have:((pl++(x',b)::pr).map (·.1)).Nodup:=JA
       refine List.Nodup.sublist ?_ this
       exact List.Sublist.map _ (List.Sublist.append_left (List.sublist_cons_self _ _) pl)
      ·have:((pl++(x',b)::pr).map (·.2)).Nodup:=El
       refine List.Nodup.sublist ?_ this
       exact List.Sublist.map _ (List.Sublist.append_left (List.sublist_cons_self _ _) pl)
      ·intro p hp
       obtain ⟨q1,q2,q3⟩:=SM p (LH p hp)
       exact ⟨q1,fun off=>by rw [j3];exact q2 off,q3⟩
      ·simp only [List.length_cons,List.length_append] at hle⊢;omega
     ·have N2: ∀p∈pd,p.1∈rest:=fun p hp=>by
       rcases List.mem_cons.1 (Dr p hp) with he|he
       ·exact absurd (List.mem_map.2 ⟨p,hp,he⟩) hxp
       ·exact he
      have hlr:pd.length≤rest.length:=by
       have h1:(pd.map (·.1)).length≤rest.length:=B1 JA (fun i hi=>by obtain ⟨p,hp,rfl⟩:=List.mem_map.1 hi;exact N2 p hp)
       simpa using h1
      have aeR:(x::rest).length-pd.length=(rest.length-pd.length)+1:=by simp only [List.length_cons];omega
      rw [aeR]
      have hun:x∉pd.map (·.1)++pre:=by simp only [List.mem_append,not_or];exact ⟨hxp,Z8⟩
      have JX:x∈Region.ready .any ops listed:=by
       refine mem_ready.2 ⟨(hL.Az abA).2 hun,o,hx,fun ed XX hb=> ?_⟩
       have:=List.all_eq_true.1 d1 ed (by simpa using XX)
       simp only [tV,hb,Bool.not_true,Bool.false_or] at this
       have hm:=(bF _ _).1 this
       exact (hL.done (UM _ hm)).2 (by simp [hm])
      have next: ∀(e':Env) (dH:St) (a':Act) (w':World),bX c (Z.outs (pd.map (·.2))) e' dH a' w'→Trans (Z.outs (pd.map (·.2))).In e.φ w e'.φ w'→uK c ops.toList l' dH K=some r→Hk P c ops N e.φ (rest.length-pd.length) (listed.setIfInBounds x true) (tj ops pd a') w':=by
       intro e' dH a' w' h1 t1 pN
       refine Rj t1.ph _ _ _ _ ?_
       refine ihm rest (x::pre) pd l' _ e' dH a' w' ?_ h1 pN (ht.trans (t1.wide fun b hb=>hb.1)) WV d5 ((hL.set abA).congr fun i=> ?_) PT Z9 N2 JA El (fun p hp=>(SM p hp).later (List.mem_map.2 ⟨p,hp,rfl⟩) t1) hlr
       ·simp only [List.length_cons] at hm;omega
       ·simp only [List.mem_cons,List.mem_append]
        constructor
        ·rintro (h1|h1|h1)
         ·exact .inr (.inl h1)
         ·exact .inl h1
         ·exact .inr (.inr h1)
        ·rintro (h1|h1|h1)
         ·exact .inr (.inl h1)
         ·exact .inl h1
         ·exact .inr (.inr h1)
      cases K1:n4 o&&!lQ c o with
      |true=>
       simp only [K1,cond_true] at d4
       have tP: ∀p∈pd,∀dd,tW ops p.1=some dd→dd∉o.looksAt ops∧o.dst≠some dd:=by
        intro p hp
        obtain ⟨q,hq,Ds⟩:=UN p hp
        exact EX hq (.inr (LG rest [x] d4 p.1 (N2 p hp) q hq Ds))
       obtain ⟨hex,hwn⟩:=CT aaa a pd (fun p hp d hd=>(tP p hp d hd).1)
       obtain ⟨D,D1,D2,D3,D4⟩:=Hl rest [x] d4 (fun y hy cT=>absurd (by simpa using hy) cT)
       have qf: ∀j oj,ops[j]? =some oj→j∉D→j≠x→listed.getD j true=false→o.apart ops oj=true∧(ll c o=true→still c o=false→vc c o ops j=true):=by
        intro j oj Z7 hjD hjx XV
        have aeS:j<ops.size:=(Array.getElem?_eq_some_iff.1 Z7).1
        have hjr:j∈rest:=by
         rcases PT j aeS with h1|h1
         ·rcases List.mem_cons.1 h1 with h1|h1
          ·exact absurd h1 hjx
          ·exact absurd (by simp [h1]) ((hL.Az aeS).1 XV)
         ·exact h1
        obtain ⟨p,Ty,HX,hp3⟩:=D4 j hjr hjD
        rw [Z7] at Ty
        cases Ty
        exact ⟨HX,fun hl hs=>by simp [vc,Z7,hp3 hl hs]⟩
       have Dt: ∀d∈D,listed.getD d false=false:=by
        have ajH: ∀p∈pd,p.1∉D:=by
         intro p hp hpD
         obtain ⟨q,hq,Ds⟩:=UN p hp
         obtain ⟨ed,XX,hb,_⟩:=D3 p.1 q hpD (fun he=>hxp (List.mem_map.2 ⟨p,hp,he⟩)) hq
         obtain ⟨_,_,_,_,_,cT⟩:=yb Ds
         rw [cT ed XX] at hb;cases hb
        intro d hd
        have hdn:d∉pd.map (·.1)++pre:=by
         simp only [List.mem_append,not_or]
         constructor
         ·intro hm
          obtain ⟨p,hp,rfl⟩:=List.mem_map.1 hm
          exact ajH p hp hd
         ·rcases D2 d hd with h1|h1
          ·have h1:d=x:=by simpa using h1
           rw [h1];exact Z8
          ·exact fun hp=>xd rest (x::pre) d5 d h1 (by simp [hp])
        by_cases JT:d<ops.size
        ·cases hg:listed.getD d false with
         |false=>rfl
         |true=>exact absurd ((hL.done JT).1 hg) hdn
        ·have hl: ¬d<listed.size:=by rw [hL.size];exact JT
         simp [hl]
       cases go with
       |true=>
        simp only [cond_true] at hK
        obtain ⟨v,hv,e2,dH,k1,k2,k3⟩:=(NS (Q:=qm N) hG h' hK).ajj (by simp only [Bool.and_eq_true] at K1;exact K1.1) (by simp only [Bool.and_eq_true,Bool.not_eq_true'] at K1;exact K1.2)
        refine EW D3 hx LD (rest.length-pd.length) listed _ w qf Dt JX (.inl ⟨by rw [hwn];exact hw,fun w' hg=>by rw [hex];exact hv w' hg⟩) h.nT ?_
        rw [AA a o.dst v pd (fun p hp d hd=>(tP p hp d hd).2)]
        exact next e2 dH _ w k1 k2 k3
       |false=>
        simp only [cond_false] at hK
        obtain ⟨e2,dH,k1,k2,k3⟩:=dA (v:=undef) (s:= .skip) h' ⟨rfl,trivial⟩ hK
        refine EW D3 hx LD (rest.length-pd.length) listed _ w qf Dt JX (.inr ⟨by rw [hwn];exact hw,rfl⟩) h.nT ?_
        rw [AA a o.dst undef pd (fun p hp d hd=>(tP p hp d hd).2)]
        exact next e2 dH _ w k1 (by rw [k3];exact .refl _ _ _) k2
      |false=>
       simp only [K1,cond_false] at d4
       have tP: ∀p∈pd,∀dd,tW ops p.1=some dd→dd∉o.looksAt ops∧o.dst≠some dd:=by
        intro p hp
        obtain ⟨q,hq,Ds⟩:=UN p hp
        have:=List.all_eq_true.1 d4 p.1 (N2 p hp)
        have hq':ops.toList[p.1]? =some q:=by simpa using hq
        simp only [hq',Ds,cond_true,Bool.and_eq_true] at this
        exact EX hq (.inl (ya this.1))
       refine ⟨fun hr0=>(by rw [hr0] at JX;cases JX),fun i hi=> ?_⟩
       obtain ⟨ajI,oi,X3,abD⟩:=mem_ready.1 hi
       have abE:i<ops.size:=(Array.getElem?_eq_some_iff.1 X3).1
       have tf:=(hL.Az abE).1 ajI
       simp only [List.mem_append,not_or] at tf
       by_cases SU:i=x
       ·subst SU
        rw [hx] at X3;cases X3
        have pO:wpOp P ops (qm N) i (fun a' w'=>(∀oi,vc c oi ops i=true→eY c oi w w')∧ ∃e2 dH,bX c (Z.outs (pd.map (·.2))) e2 dH a' w'∧Trans (Z.outs (pd.map (·.2))).In e.φ w e2.φ w'∧uK c ops.toList l' dH K=some r) a w:=by
         unfold wpOp
         simp only [hx]
         rw [hw]
         cases go with
         |true=>
          simp only [cond_true] at hK
          simp only [if_true]
          left
          have hd:=NS (Q:=qm N) hG h' hK
          cases hgr:Tc c o with
          |true=>
           simp only [Tc,Bool.or_eq_true] at hgr
           refine Oper.wp_mono ?_ (hd.ajk hgr)
           rintro a' w' ⟨hg,e2,dH,k1,k2,k3⟩
           exact ⟨fun _ _=>hg.for,e2,dH,k1,k2,k3⟩
          |false=>
           by_cases WQ: ∃oi,zb oi o=true
           ·obtain ⟨oi0,WQ⟩:=WQ
            refine Oper.wp_mono ?_ (aem (Q:=qm N) hG h' hK WQ)
            rintro a' w' ⟨hg,e2,dH,k1,k2,k3⟩
            refine ⟨fun oi hh=> ?_,e2,dH,k1,k2,k3⟩
            have X3:zb oi o=true:=by simpa [vc,hx,hgr] using hh
            exact N1 WQ X3 hg
           ·refine Oper.wp_mono ?_ hd.wp
            rintro a' w' ⟨e2,dH,k1,k2,k3⟩
            exact ⟨fun oi hh=>absurd ⟨oi,by simpa [vc,hx,hgr] using hh⟩ WQ,e2,dH,k1,k2,k3⟩
         |false=>
          simp only [cond_false] at hK
          simp only [Bool.false_eq_true,if_false]
          obtain ⟨e2,dH,k1,k2,k3⟩:=dA (v:=undef) (s:= .skip) h' ⟨rfl,trivial⟩ hK
          exact ⟨fun _ _=>(dv.refl w).for,e2,dH,k1,by rw [k3];exact .refl _ _ _,k2⟩
        refine wpOp_mono ?_ (PS hx aaa pO pd tP)
        rintro a' w' ⟨a2,rfl,hg,e2,dH,k1,k2,k3⟩
        exact ⟨⟨hg,fun b o v hv=>k1.nT b o v (k2.ph b o v hv)⟩,next e2 dH a2 w' k1 k2 k3⟩
       ·have hir:i∈rest:=by
         rcases PT i abE with h1|h1
         ·rcases List.mem_cons.1 h1 with h1|h1
          ·exact absurd h1 SU
          ·exact absurd h1 tf.2
         ·exact h1
        have N3:=List.all_eq_true.1 d4 i hir
        have ajK:ops.toList[i]? =some oi:=by simpa using X3
        simp only [ajK] at N3
        cases Ds:KY oi with
        |false=>
         exfalso
         simp only [Ds,cond_false] at N3
         unfold zy at N3
         obtain ⟨ed,XX,hb⟩:=List.any_eq_true.1 N3
         simp only [Bool.and_eq_true,tV,Bool.or_eq_true,Bool.not_eq_true'] at hb
         obtain ⟨uV,vT⟩:=hb
         have UO:=abD ed (by simpa using XX) uV
         have DR:ed.on∉pd.map (·.1)++pre:=by
          rcases vT with vT|⟨vT,hb3⟩
          ·rw [Nat.eq_of_beq_eq_true vT];exact hun
          ·simp only [List.mem_append,not_or]
           refine ⟨fun hm=> ?_,fun hp=>xd rest (x::pre) d5 _ ((bF _ _).1 vT) (by simp [hp])⟩
           obtain ⟨p,hp,he⟩:=List.mem_map.1 hm
           obtain ⟨q,hq,hqa⟩:=UN p hp
           have hq':ops.toList[ed.on]? =some q:=by rw [←he];simpa using hq
           simp [adC,hq',hqa] at hb3
         by_cases te:ed.on<ops.size
         ·exact DR ((hL.done te).1 UO)
         ·have:listed.getD ed.on false=false:=by
           have hl: ¬ed.on<listed.size:=by rw [hL.size];exact te
           simp [hl]
          rw [this] at UO;cases UO
        |true=>
         obtain ⟨t,d,q1,q2,q3,q4⟩:=yb Ds
         have hI: ∃I,c.tv t=some I:=by
          simp only [Ds,cond_true,Bool.and_eq_true,adB,q1] at N3
          cases htv:c.tv t with
          |none=>rw [htv] at N3;exact absurd N3.2 (by simp)
          |some I=>exact ⟨I,rfl⟩
         obtain ⟨I,hI⟩:=hI
         obtain ⟨inf,z,hz1,Tr,hz3⟩:=zK hI hG.ti
         have hg:dv w (w.alloc (.cells z.cells t)):= .alloc w _ _
         unfold wpOp
         simp only [X3]
         have hwn:Region.wanted oi (yielded ops (tj ops pd a).tmps)=true:=by simp [Region.wanted,q3]
         simp only [hwn,if_true]
         left
         have bT:(execOp (tj ops pd a).eval oi).run P w= .ok (.value (XY w.heap.size)) (w.alloc (.cells z.cells t)):=by
          simp [execOp,q1,Instr.alloc,zeroValue,typeInfo,hz1,Tr,newVar,newRow,newObj,Sem.run,XY]
         unfold Oper.wp
         rw [bT]
         simp only [Oper.upon]
         refine ⟨⟨fun _ _=>hg.for,(h.grow hg).nT⟩,?_⟩
         have qT:w.heap.size<(w.alloc (.cells z.cells t)).heap.size:=by simp
         have ajL: ∀p∈pd,p.2<w.heap.size:=fun p hp=>by
          obtain ⟨_,_,_,_,_,_,_,_,_,_,_,k6,_⟩:=(SM p hp).row
          exact bA k6
         have abC:(tj ops pd a).put oi.dst (XY w.heap.size)=tj ops ((i,w.heap.size)::pd) a:=by simp [tj,tW,X3]
         rw [abC]
         have da:pd.length<rest.length:=by
          have h1:(i::pd.map (·.1)).length≤rest.length:=by
           refine B1 (List.nodup_cons.2 ⟨tf.1,JA⟩) ?_
           intro j hj
           rcases List.mem_cons.1 hj with rfl|hj
           ·exact hir
           ·obtain ⟨p,hp,rfl⟩:=List.mem_map.1 hj;exact N2 p hp
          simp only [List.length_cons,List.length_map] at h1;omega
         have xS:rest.length-pd.length=(x::rest).length-((i,w.heap.size)::pd).length:=by simp only [List.length_cons];omega
         rw [xS]
         refine ihm (x::rest) pre ((i,w.heap.size)::pd) (o::l') _ e st a _ ?_ (h.narrow hg qT) ?_ (ht.trans (hg.trans (fun b hb=>(h.cn b hb).1) _)) ?_ hd0 ?_ ni UM ?_ ?_ ?_ ?_ ?_
         ·simp only [List.length_cons] at hm⊢;omega
         ·exact abB
         ·simp [lm,hox,WV]
         ·refine (hL.set abE).congr (fun j=> ?_)
          simp
         ·intro p hp
          rcases List.mem_cons.1 hp with rfl|hp
          ·exact List.mem_cons_of_mem _ hir
          ·exact Dr p hp
         ·exact List.nodup_cons.2 ⟨tf.1,JA⟩
         ·refine List.nodup_cons.2 ⟨fun hm=> ?_,El⟩
          obtain ⟨p,hp,he⟩:=List.mem_map.1 hm
          have:=ajL p hp
          have he:p.2=w.heap.size:=he
          omega
         ·intro p hp
          rcases List.mem_cons.1 hp with rfl|hp
          ·refine ⟨⟨oi,t,I,d,z.cells,t,X3,Ds,q1,hI,q2,kl w _,hz3⟩,fun off=> ?_,(h.cn _ (Nat.le_refl _)).1⟩
           cases hp:e.φ w.heap.size off with
           |none=>rfl
           |some v=>
            have:=World.block_lt_of_cell? w _ (h.nT _ _ _ hp)
            simp at this
          ·obtain ⟨⟨o1,t1,I1,d1,ajM,T1,k1,k2,k3,k4,k5,k6,k7⟩,q5,q6⟩:=SM p hp
           exact ⟨⟨o1,t1,I1,d1,ajM,T1,k1,k2,k3,k4,k5,by rw [hg.BB _ (bA k6)];exact k6,k7⟩,q5,q6⟩
         ·simp only [List.length_cons];omega
theorem EY (hG:Good P c) {ops:Array Oper} {l:List Oper} {ord:List Nat} (hd:qP c ops ord=true) (hp:lm ops.toList ord=some l) {Z:bM} {e:Env} {st:St} {a:Act} {w:World} {R:Type} {K:St→Option R} {r:R} (h:bX c Z e st a w) (hK:uK c ops.toList l st K=some r):
 wpAny P .any ops (qm fun a' w'=>Out c Z K r e.φ w a' w') ops.size (Array.replicate ops.size false) a {w with drawn:=w.drawn+1}:=by
 simp only [qP,Bool.and_eq_true] at hd
 obtain ⟨⟨⟨XE,hl0⟩,ni⟩,hd⟩:=hd
 have LD: ∀(j:Nat) (o:Oper) cs b,ops[j]? =some o→o.op≠ .select cs b:=by
  intro j o cs b ho he
  have:=List.all_eq_true.1 XE o (List.mem_of_getElem? (by simpa using ho:ops.toList[j]? =some o))
  simp [he] at this
 have aab:dv w {w with drawn:=w.drawn+1}:=⟨Nat.le_refl _,fun _ _=>rfl,rfl,rfl,rfl,fun _=>rfl⟩
 ·refine UI (c:=c) (φ:=e.φ) _ _ _ _ ?_
  have hlen:ord.length=ops.size:=by have:=Nat.eq_of_beq_eq_true hl0;simpa using this
  rw [←hlen]
  have h0:bX c (Z.outs []) e st a {w with drawn:=w.drawn+1}:=(h.grow aab).CS (fun b hb=>⟨hb,by simp⟩) (fun b hb=>⟨hb,by simp⟩) rfl rfl rfl rfl
  refine X1 hG LD (fun a' w' h=>h) (2 *ord.length) ord [] [] l _ e st a _ (by simp) h0 hK (aab.trans h.cn e.φ) hp hd ⟨by simp [hlen],fun i hi=> ?_⟩ (fun i hi=> .inr ((bF _ _).1 (List.all_eq_true.1 ni i (by simpa using hi)))) (by simp) (by simp) (by simp) (by simp) (by simp) (by simp)
  simp [hlen,hi]
end
end Dn
/-
  What is asked of slices.DeleteFunc, and of the function that it is handed. Conditions: none.
-/
set_option linter.unusedSimpArgs false
set_option linter.unusedVariables false
namespace Dn
open Go
theorem CU {S:Type} {step:S→MV→Option (Bool×S)}: ∀{xs zs:List MV} {s:S},ma step s (xs++zs)=(match ma step s xs with|some (ys,s1)=>(match ma step s1 zs with|some (us,s2)=>some (ys++us,s2)|none=>none)|none=>none):=by
 intro xs
 induction xs with
 |nil=>intro zs s;simp only [List.nil_append,ma];cases ma step s zs<;>rfl
 |cons x xs ih=>
  intro zs s
  simp only [List.cons_append,ma]
  cases step s x with
  |none=>rfl
  |some p=>
   obtain ⟨b,s1⟩:=p
   simp only [ih]
   cases ma step s1 xs with
   |none=>rfl
   |some q=>
    obtain ⟨ys,s2⟩:=q
    dsimp only
    cases ma step s2 zs with
    |none=>rfl
    |some q2=>cases b<;>rfl
theorem PU {S:Type} {step:S→MV→Option (Bool×S)} {xs:List MV} {s s':S} {ys:List MV} (h:ma step s xs=some (ys,s')) {k:Nat} (hk:k<xs.length):
 ∃yk sk b X4,ma step s (xs.take k)=some (yk,sk)∧step sk xs[k]=some (b,X4)∧ma step s (xs.take (k+1))=some (bif b then yk else yk++[xs[k]],X4):=by
 have e:xs=xs.take k++xs[k]::xs.drop (k+1):=by simp
 rw [e,CU] at h
 cases h1:ma step s (xs.take k) with
 |none=>simp [h1] at h
 |some p=>
  obtain ⟨yk,sk⟩:=p
  simp only [h1,ma] at h
  cases h2:step sk xs[k] with
  |none=>simp [h2] at h
  |some q=>
   obtain ⟨b,X4⟩:=q
   refine ⟨yk,sk,b,X4,rfl,h2,?_⟩
   have e2:xs.take (k+1)=xs.take k++[xs[k]]:=by rw [List.take_add_one,List.getElem?_eq_getElem hk];rfl
   rw [e2,CU,h1]
   simp only [ma,h2]
   cases b<;>simp
theorem UP {S:Type} {step:S→MV→Option (Bool×S)}: ∀{xs:List MV} {s s':S} {ys:List MV},ma step s xs=some (ys,s')→ys.length≤xs.length:=by
 intro xs
 induction xs with
 |nil=>intro s s' ys h;simp [ma] at h;simp [h.1]
 |cons x xs ih=>
  intro s s' ys h
  simp only [ma] at h
  cases h1:step s x with
  |none=>simp [h1] at h
  |some p=>
   obtain ⟨b,s1⟩:=p
   simp only [h1] at h
   cases h2:ma step s1 xs with
   |none=>simp [h2] at h
   |some q=>
    obtain ⟨zs,s2⟩:=q
    simp only [h2,Option.some.injEq,Prod.mk.injEq] at h
    have:=ih h2
    rw [←h.1]
    cases b<;>simp<;>omega
structure vd (P:Program) (c:Ctx) (g:Nat) (lb:Array Value) {S:Type} (Inv:S→(Nat→Prop)→Ph→World→Prop) (step:S→MV→Option (Bool×S)):Prop where
 call: ∀{s Z φ W v x b s'},Inv s Z φ W→(∀b,W.heap.size≤b→Z b)→zH φ W→fc c.key φ v x→step s x=some (b,s')→
  fN P g (#[v]++lb) W fun r W'=>r= .bool b∧ ∃φ',Trans Z φ W φ' W'∧zH φ' W'∧Inv s' Z φ' W'
 frame: ∀{s Z φ W W'},Inv s Z φ W→W.heap.size≤W'.heap.size→(∀b,Z b→b<W.heap.size→W'.heap[b]? =W.heap[b]?)→Inv s (fun b=>Z b∧b<W.heap.size) φ W'
 mono: ∀{s Z Z' φ W},Inv s Z φ W→(∀b,Z b→Z' b)→Inv s Z' φ W
structure yL (c:Ctx) (ob:Option Nat) {S:Type} (Inv:S→(Nat→Prop)→Ph→World→Prop) (Z0:Nat→Prop) (φ0:Ph) (w0:World) (s:S) (Z:Nat→Prop) (φ:Ph) (W:World):Prop where
 inv:Inv s Z φ W
 new: ∀b,W.heap.size≤b→Z b
 sub: ∀b,Z b→Z0 b∨w0.heap.size≤b
 nT:zH φ W
 tr:Trans (fun b=>(Z0 b∨w0.heap.size≤b)∨ob=some b) φ0 w0 φ W
 free: ∀b off,ob=some b→φ b off=none
structure JY (P:Program) (c:Ctx) (h el:Nat):Prop where
 run: ∀{S:Type} {Inv:S→(Nat→Prop)→Ph→World→Prop} {step:S→MV→Option (Bool×S)} {g:Nat} {lb:Array Value},vd P c g lb Inv step→
  ∀{v0:Value} {xs ys:List MV} {w:World} {Z0:Nat→Prop} {φ0:Ph} {s0 s':S},(∀x∈xs,∃ms,x= .agg ms)→db c (bM.plain fun b=>v0.ownBlock=some b) (oc c.key φ0) w v0 ⟨el,false,xs⟩→(∀b,v0.ownBlock=some b→ ¬Z0 b)→
  Inv s0 Z0 φ0 w→(∀b,w.heap.size≤b→Z0 b)→zH φ0 w→ma step s0 xs=some (ys,s')→
  fN P h #[v0,.func (.func g) #[] lb] w fun v W=> ∃Z φ,yL c v0.ownBlock Inv Z0 φ0 w s' Z φ W∧db c (bM.plain fun b=>v0.ownBlock=some b) (oc c.key φ) W v ⟨el,false,ys⟩∧ ∀b,v.ownBlock=some b→v0.ownBlock=some b
def ve (P:Program) (c:Ctx):Prop:= ∀h,c.Jl h=true→JY P c h (c.rW (c.key h))
end Dn
/-
  Regions with a call of slices.DeleteFunc. Conditions: none.
-/
set_option linter.unusedSimpArgs false
set_option linter.unusedVariables false
namespace Dn
open Go
section
variable {P:Program} {c:Ctx} {Z:bM} {Z':Nat→Prop} {e e':Env} {st bZ:St} {a:Act} {w w':World} {R:Type} {K:St→Option R} {r:R} {Q:Exit→Act→World→Prop} {o:Oper} {root:Nat} {cs:List aI} {ks:List LK} {ls outs:List MV} {ps:List (Nat×Nat)} {φ':Ph}
theorem Rn (h:bX c Z e st a w) (hf:ao st.fr root= .box cs) (hm:eP cs=false) (hr:bE st.cq root=false) (ht:TC st [] ks cs ls ps) (hZ: ∀b,Z' b↔w.heap.size≤b∨gone e root ps b) {X:Nat→Prop} (hXb: ∀t fI,ao st.fr t= .box fI→ ¬X (e.B t)) (hXf: ∀f o b,aO st.aV f=some o→(e.E f).ownBlock=some b→ ¬X b) (u5:Trans (fun b=>Z' b∨X b) e.φ w φ' w') (hi:zH φ' w')
 (hc:nt c Z' φ' w' (e.B root) ks outs) (hK:HP st root ks ps outs K=some r): ∃e' bZ,bX c Z e' bZ a w'∧e'.φ=φ'∧(∀b,X b→ ¬Z' b→(∀t fI,ao bZ.fr t= .box fI→e'.B t≠b)∧ ∀f o,aO bZ.aV f=some o→(e'.E f).ownBlock≠some b)∧K bZ=some r:=by
 unfold HP at hK
 obtain ⟨qE,rest,xN,g1,hK⟩:=jq hK
 cases rest with
 |cons=>simp [gN] at hK
 |nil=>
 simp only [gN,Ln] at hK
 cases lL:HO (bn ks) (jQ (eg ps) st.aV)||meets (bn ks) st.cr with
 |true=>simp [lL] at hK
 |false=>
 simp only [lL,cond_false,PH,lp,uM] at hK
 obtain ⟨NQ,EG⟩:=Bool.or_eq_false_iff.1 lL
 have NQ:=ED NQ
 have EG:=EE EG
 obtain ⟨od,m3,E,arr,T,xa,cW,hzb,qf,qe,fV,eH⟩:=hc
 have iV:od=qE∧m3=xN.aV:=by
  unfold Px at xa
  rw [g1] at xa
  simp only [gN,Option.some.injEq,Prod.mk.injEq] at xa
  exact ⟨xa.1.symm,xa.2.symm⟩
 obtain ⟨rfl,rfl⟩:=iV
 have dK:=w9 g1
 have fj: ∀f o,aO xN.aV f=some o→f∈bn ks:=fun f o ho=>(At g1 f o ho).resolve_left (by simp [aO])
 have hs:=h.slot root
 rw [hf] at hs
 have tf: ∀b,Z' b→Z.In b:=by
  intro b hb
  rcases (hZ b).1 hb with hb|hb
  ·exact h.cn b hb
  ·exact Au h hf hr ht b hb
 have Lq: ∀t fI,ao st.fr t= .box fI→t≠root→ ¬Z' (e.B t):=by
  intro t fI Ub cT hz
  rcases (hZ _).1 hz with hz|hz|⟨x,g,hp,hz⟩
  ·have:=uY h Ub;omega
  ·exact h.bb t root fI cs Ub hf cT hz
  ·obtain ⟨o,ho,_⟩:=ht.aV x g hp
   exact h.bf t fI g o Ub ho hz
 have hold: ∀f o,aO (jQ (eg ps) st.aV) f=some o→aO st.aV f=some o∧f∉eg ps:=by
  intro f o ho
  rw [Ez] at ho
  cases hn:bE (eg ps) f with
  |true=>simp [hn] at ho
  |false=>
   simp only [hn,Bool.false_eq_true,if_false] at ho
   exact ⟨ho,fun hm=>by rw [(bF _ _).2 hm] at hn;cases hn⟩
 have CL: ∀f o b,aO (jQ (eg ps) st.aV) f=some o→(e.E f).ownBlock=some b→ ¬Z' b:=by
  intro f o b ho hb hz
  obtain ⟨zA,hnf⟩:=hold f o ho
  rcases (hZ _).1 hz with hz|hz|⟨x,g,hp,hz⟩
  ·have:=uZ h zA hb;omega
  ·exact h.bf root cs f o hf zA (by rw [hb,hz])
  ·obtain ⟨o2,cA,_⟩:=ht.aV x g hp
   have:=h.ff f g o o2 b zA cA hb hz
   subst this
   exact hnf (CJ.2 ⟨x,hp⟩)
 have abF: ∀t fI,ao st.fr t= .box fI→t≠root→ ¬(Z' (e.B t)∨X (e.B t)):=fun t fI h1 h2 h3=>h3.elim (Lq t fI h1 h2) (hXb t fI h1)
 have UQ: ∀f o b,aO (jQ (eg ps) st.aV) f=some o→(e.E f).ownBlock=some b→ ¬(Z' b∨X b):=fun f o b h1 h2 h3=>h3.elim (CL f o b h1 h2) (hXf f o b (hold f o h1).1 h2)
 let E2:Nat→Value:=fun f=>if bE (bn ks) f=true then E f else e.E f
 have wM: ∀f,f∈bn ks→E2 f=E f:=fun f hf=>by show (if _ then _ else _)=_;rw [if_pos ((bF _ _).2 hf)]
 have KN: ∀f,f∉bn ks→E2 f=e.E f:=fun f hf=>by show (if _ then _ else _)=_;rw [if_neg (fun hq=>hf ((bF _ _).1 hq))]
 have mf: ∀f o,aO (xN.aV++jQ (eg ps) st.aV) f=some o→(f∈bn ks∧aO xN.aV f=some o)∨(f∉bn ks∧aO (jQ (eg ps) st.aV) f=some o):=by
  intro f o ho
  rw [Ic] at ho
  cases hq:aO xN.aV f with
  |some o2=>simp only [hq,Option.some.injEq] at ho;exact .inl ⟨fj f o2 hq,by rw [ho]⟩
  |none=>
   simp only [hq] at ho
   refine .inr ⟨fun hm=> ?_,ho⟩
   rw [NQ f hm] at ho;cases ho
 let e2:Env:=⟨e.key,φ',E2,e.B,xN.aV++jQ (eg ps) st.aV⟩
 have te:km (fun g=>True∧g∉bn ks) (fun _=>True) e e2:=by
  refine ⟨rfl,u5.ph,fun _ _=>rfl,fun f o' zA hS=> ?_⟩
  rcases mf f o' zA with ⟨h1,_⟩|⟨h1,h2⟩
  ·exact absurd h1 hS.2
  ·exact ⟨o',by rw [h.m];exact (hold f o' h2).1,KN f h1,rfl⟩
 have Uc:ax e2 arr.toList od:=by
  have abb:km (fun f=>f∈bn ks) (fun _=>True) ⟨c.key,φ',E,fun _=>e.B root,xN.aV⟩ ⟨c.key,φ',E2,fun _=>e.B root,xN.aV++jQ (eg ps) st.aV⟩:=by
   refine ⟨rfl,.refl _,fun _ _=>rfl,fun f o' zA hS=> ?_⟩
   rcases mf f o' zA with ⟨h1,h2⟩|⟨h1,_⟩
   ·exact ⟨o',h2,wM f h1,rfl⟩
   ·exact absurd hS h1
  have h1:=qe.on abb dK
  have abc:km (fun _=>True) (fun _=>False) ⟨c.key,φ',E2,fun _=>e.B root,xN.aV++jQ (eg ps) st.aV⟩ e2:=⟨h.key,.refl _,fun _ h=>h.elim,fun f o ho _=>⟨o,ho,rfl,rfl⟩⟩
  exact h1.on abc (fun _ _ _ _=>trivial)
 have hm3:eP od=false:=Uc.wW
 have QY: ∀t,ao (cb (mg (bn ks) st.fr) root (.box od)) t=if t=root then .box od else As (bn ks) (ao st.fr t):=fun t=>by rw [bN,EA]
 have tg: ∀t ds,ao (cb (mg (bn ks) st.fr) root (.box od)) t= .box ds→ ∃ds0,ao st.fr t= .box ds0:=by
  intro t ds hb
  rw [QY] at hb
  by_cases u5:t=root
  ·exact ⟨cs,by rw [u5];exact hf⟩
  ·rw [if_neg u5] at hb
   obtain ⟨d0,h1,_⟩:=sB _ hb
   exact ⟨d0,h1⟩
 refine ⟨e2,⟨st.cq,st.cr,cb (mg (bn ks) st.fr) root (.box od),xN.aV++jQ (eg ps) st.aV⟩,⟨h.defers,h.size,rfl,h.key,?_,?_,?_,?_,?_,?_,?_,hi,fun b hb=>h.cn b (Nat.le_trans u5.size hb)⟩,rfl,fun b hb WW=>⟨fun t ds Ub he=> ?_,fun f o ho he=> ?_⟩,hK⟩
 rotate_left 7
 ·obtain ⟨d0,k1⟩:=tg t ds Ub
  exact hXb t d0 k1 (by have he:e.B t=b:=he;rw [he];exact hb)
 ·have he:(E2 f).ownBlock=some b:=he
  rcases mf f o ho with ⟨k1,k2⟩|⟨k1,k2⟩
  ·rw [wM f k1] at he
   obtain ⟨I,cells,_,_,_,_,q5⟩:=(fV f o k2).1.row
   exact WW (q5 _ he).1
  ·rw [KN f k1] at he
   exact hXf f o b (hold f o k2).1 he hb
 ·show (aT (cb (mg (bn ks) st.fr) root (.box od))).Nodup
  refine dW ?_
  rw [EB];exact h.nodup
 ·intro t
  show bW Z e2 w' t _ (ao (cb (mg (bn ks) st.fr) root (.box od)) t)
  rw [QY]
  by_cases qV:t=root
  ·subst qV
   rw [if_pos rfl]
   exact ⟨hs.1.kH (by rw [uP hm,uP hm3]),hs.2.cn,⟨_,cW,rfl,Uc⟩,qf⟩
  ·rw [if_neg qV]
   have ek:=h.slot t
   have Xd:=abF t
   generalize ao st.fr t=s at ek Xd
   by_cases BQ: ∃ds,s= .box ds
   ·obtain ⟨ds,rfl⟩:=BQ
    rw [Lo]
    have hz:=Xd ds rfl qV
    obtain ⟨o2,h1,h2⟩:=ek.2.obj
    refine ⟨ek.1.kH (Ib _ _),ek.2.cn,⟨o2,by show w'.heap[e.B t]? =_;rw [u5.heap _ hz (bA h1)];exact h1,?_⟩,fun off=>by show φ' (e.B t) off=none;rw [u5.free _ off hz];exact ek.2.free off⟩
    exact (Lp h2).on te (PJ _ (fun l _ f _=>trivial))
   ·have abd:ab e (a.tmps.getD t undef) s:=by cases s<;>simp only [bW] at ek<;>first|exact ek|exact absurd ⟨_,rfl⟩ BQ
    have h2:=(abd.ZU (bn ks)).on te (PI _ (dB s))
    have Ud: ∀ds,As (bn ks) s≠ .box ds:=fun ds hq=>by
     obtain ⟨d0,h1,_⟩:=sB _ hq
     exact BQ ⟨d0,h1⟩
    generalize As (bn ks) s=s2 at h2 Ud
    cases s2<;>first|exact h2|exact absurd rfl (Ud _)
 ·intro t
  show ct (cb (mg (bn ks) st.fr) root (.box od)) (ao (cb (mg (bn ks) st.fr) root (.box od)) t)
  have TQ: ∀q,cM (ao st.fr q)=true→cM (ao (cb (mg (bn ks) st.fr) root (.box od)) q)=true:=by
   intro q hq
   rw [QY]
   by_cases ZR:q=root
   ·rw [if_pos ZR];rfl
   ·rw [if_neg ZR];exact EF _ hq
  rw [QY]
  by_cases qV:t=root
  ·rw [if_pos qV];trivial
  ·rw [if_neg qV]
   refine CK _ ?_
   have oL:=h.root t
   generalize ao st.fr t=s at oL
   cases s with
   |ptr q o=>exact TQ q oL
   |hp q o i=>exact TQ q oL
   |wO q=>exact TQ q oL
   |_=>trivial
 ·intro f o ho
  rcases mf f o ho with ⟨h1,h2⟩|⟨h1,h2⟩
  ·have hfm:=(fV f o h2).1
   have zE:f∉Z.cr:=by rw [←h.defers.2.2.1];exact EG f h1
   refine db.to ?_ zE
   obtain ⟨I,cells,q1,q2,q3,q4,q5⟩:=hfm.row
   refine ⟨I,cells,q1,q2,?_,?_,fun b hb=> ?_⟩
   ·show w'.ownsRow 0 o.ty I.size (E2 f) o.xs.length cells
    rw [wM f h1];exact q3
   ·show ba e.key φ' I.size cells o.xs
    rw [h.key];exact q4
   ·have hb:(E2 f).ownBlock=some b:=hb
    rw [wM f h1] at hb
    exact ⟨tf b (q5 b hb).1,(q5 b hb).2.1,fun hc=>hc.elim⟩
  ·obtain ⟨zA,hnf⟩:=hold f o h2
   obtain ⟨I,cells,q1,q2,q3,q4,q5⟩:=(h.iT f o zA).row
   refine ⟨I,cells,q1,q2,?_,q4.mono u5.ph,?_⟩
   ·show w'.ownsRow 0 o.ty I.size (E2 f) o.xs.length cells
    rw [KN f h1]
    refine ⟨q3.1,?_⟩
    rcases q3.2 with h6|⟨g,cap,di,k1,k2,k3,k4⟩
    ·exact .inl h6
    ·refine .inr ⟨g,cap,di,k1,k2,?_,k4⟩
     rw [u5.heap g (UQ f o g h2 (by rw [k1];rfl)) (bA k3)];exact k3
   ·intro bg hb
    have hb:(E2 f).ownBlock=some bg:=hb
    rw [KN f h1] at hb
    refine ⟨(q5 bg hb).1,fun off u hu=>(q5 bg hb).2.1 off u ?_,fun k1 k2 j hj=>u5.ph.xO ((q5 bg hb).2.2 k1 k2 j hj) hj⟩
    have hu:φ' bg off=some u:=hu
    rw [u5.free _ off (UQ f o bg h2 hb)] at hu;exact hu
 ·intro t t' c1 c2 h1 h2 cT
  obtain ⟨d1,k1⟩:=tg t c1 h1
  obtain ⟨d2,k2⟩:=tg t' c2 h2
  exact h.bb t t' d1 d2 k1 k2 cT
 ·intro t c1 f o h1 h2
  show (E2 f).ownBlock≠some (e.B t)
  rcases mf f o h2 with ⟨k1,k2⟩|⟨k1,k2⟩
  ·rw [wM f k1]
   by_cases qV:t=root
   ·rw [qV];exact (fV f o k2).2
   ·obtain ⟨d1,k3⟩:=tg t c1 h1
    intro hq
    obtain ⟨I,cells,_,_,_,_,q5⟩:=(fV f o k2).1.row
    exact Lq t d1 k3 qV (q5 _ hq).1
  ·rw [KN f k1]
   obtain ⟨d1,k3⟩:=tg t c1 h1
   exact h.bf t d1 f o k3 (hold f o k2).1
 ·intro f f' o o' k h1 h2 h3 h4
  have h3:(E2 f).ownBlock=some k:=h3
  have h4:(E2 f').ownBlock=some k:=h4
  rcases mf f o h1 with ⟨k1,k2⟩|⟨k1,k2⟩<;>rcases mf f' o' h2 with ⟨k3,k4⟩|⟨k3,k4⟩
  ·rw [wM f k1] at h3
   rw [wM f' k3] at h4
   exact eH f f' o o' k k2 k4 h3 h4
  ·rw [wM f k1] at h3
   rw [KN f' k3] at h4
   obtain ⟨I,cells,_,_,_,_,q5⟩:=(fV f o k2).1.row
   exact absurd (q5 _ h3).1 (CL f' o' k k4 h4)
  ·rw [KN f k1] at h3
   rw [wM f' k3] at h4
   obtain ⟨I,cells,_,_,_,_,q5⟩:=(fV f' o' k4).1.row
   exact absurd (q5 _ h4).1 (CL f o k k2 h3)
  ·rw [KN f k1] at h3
   rw [KN f' k3] at h4
   exact h.ff f f' o o' k (hold f o k2).1 (hold f' o' k4).1 h3 h4
end
end Dn
/-
  A call of slices.DeleteFunc. Conditions: none.
-/
set_option linter.unusedSimpArgs false
set_option linter.unusedVariables false
namespace Dn
open Go
section
variable {P:Program} {c:Ctx} {Z:bM} {e e':Env} {st bZ:St} {a:Act} {w w':World} {R:Type} {K:St→Option R} {r:R} {Q:Exit→Act→World→Prop} {o:Oper}
theorem fN.imp {P:Program} {f:FuncId} {args:Array Value} {w:World} {R R':Value→World→Prop} (hc:fN P f args w R) (h: ∀v w',R v w'→R' v w'):fN P f args w R':=by
 unfold fN at hc⊢
 split
 ·rename_i iV
  rw [iV] at hc
  exact Calls.mono hc (fun x xP ⟨v,e,hr⟩=>⟨v,e,h v xP hr⟩)
 ·rename_i iV
  rw [iV] at hc
  exact h _ _ hc
 ·rename_i h1 h2
  split at hc
  ·rename_i iV;exact absurd iV (h1 _ _ _)
  ·rename_i iV;exact absurd iV (h2 _ _)
  ·exact hc
theorem Trans.CS {I J:Nat→Prop} {φ φ':Ph} (h:Trans I φ w φ' w') (hs: ∀b,I b→J b):Trans J φ w φ' w':=
 ⟨h.ph,fun b hb=>h.heap b (fun hz=>hb (hs b hz)),fun b o hb=>h.free b o (fun hz=>hb (hs b hz)),h.size,h.rest⟩
theorem LI {key:Nat→Nat} {φ:Ph} {v:Value} {b:Bool} (h:fc key φ v (.b b)):v= .bool b:=by
 obtain ⟨_,h⟩:=h
 generalize yJ:[v]=l at h
 cases h;simpa using yJ
theorem N4 (hS:Sound P c) {f:Nat} (hg:c.eo (c.key f)=false) {lb:Array Value} {ms:List MV}:vd P c f lb (fun (_:Unit) (_:Nat→Prop) φ (_:World)=>cc c.key φ lb.toList ms) (Td c.g (c.key f) ms):=by
 refine ⟨?_,fun h _ _=>h,fun h _=>h⟩
 intro s Z φ W v x b s' hinv kF jk N5 ek
 unfold Td at ek
 split at ek
 ·rename_i b' hx
  simp only [Option.some.injEq,Prod.mk.injEq] at ek
  obtain ⟨rfl,_⟩:=ek
  have fh:eR c (fun b=>W.heap.size≤b) φ W (c.key f) (v::lb.toList) (x::ms):=by
   simp only [eR,hg,Bool.false_eq_true,if_false]
   exact ⟨v,lb.toList,rfl,N5,hinv⟩
  have:=hS f (x::ms) (.b b') hx φ W (fun b=>W.heap.size≤b) _ (fun b hb=>hb) fh jk
  have e1:(v::lb.toList).toArray= #[v]++lb:=by apply Array.toList_inj.1;simp
  rw [e1] at this
  refine this.imp ?_
  rintro v' w' ⟨φ',t1,t2,t3⟩
  exact ⟨LI t3,φ',t1.CS kF,t2,hinv.mono t1.ph⟩
 ·cases ek
theorem Ro (hS:Sound P c) {f pos bg:Nat} {ks:List LK} {ms:List MV} {lb0:List Value} (hg:c.eo (c.key f)=true) (yK:c.sig (c.key f)=some (pos,ks)) (eu:pos=ms.length+1):
 vd P c f (lb0++[Value.pointer (some ⟨bg,0,none⟩)]).toArray (fun ls Z φ W=>nt c Z φ W bg ks ls∧cc c.key φ lb0 ms) (HR c.g (c.key f) ms):=by
 refine ⟨?_,?_,fun h hz=>⟨h.1.wide hz,h.2⟩⟩
 ·intro ls Z φ W v x b s' hinv kF jk N5 ek
  obtain ⟨qd,tU⟩:=hinv
  unfold HR at ek
  split at ek
  ·rename_i b' outs hx
   simp only [Option.some.injEq,Prod.mk.injEq] at ek
   obtain ⟨rfl,rfl⟩:=ek
   have hl:=tU.length
   have fh:eR c Z φ W (c.key f) (v::(lb0++[Value.pointer (some ⟨bg,0,none⟩)])) (x::(ms++[.cell (.func 0 ls)])):=by
    simp only [eR,hg,if_true]
    refine .inr (.inr ⟨pos,ks,0,ls,bg,yK,?_,?_,?_,qd⟩)
    ·rw [eu,List.getElem?_cons_succ,←hl,List.getElem?_append_right (Nat.le_refl _)];simp
    ·rw [eu,List.getElem?_cons_succ,List.getElem?_append_right (Nat.le_refl _)];simp
    ·rw [eu,List.set_cons_succ,List.set_append_right _ _ (Nat.le_refl _),Nat.sub_self]
     exact ⟨v,_,rfl,N5,tU.append ⟨_,[],rfl,⟨rfl,.rp bg 0 [] [] .nil (by simp)⟩,rfl⟩⟩
   have:=hS f _ _ hx φ W Z _ kF fh jk
   have e1:(v::(lb0++[Value.pointer (some ⟨bg,0,none⟩)])).toArray= #[v]++(lb0++[Value.pointer (some ⟨bg,0,none⟩)]).toArray:=by apply Array.toList_inj.1;simp
   rw [e1] at this
   refine this.imp ?_
   rintro v' w' ⟨φ',t1,t2,xb,pos',ks',ajN,QB,xR,SG,hc⟩
   rw [yK] at xR
   simp only [Option.some.injEq,Prod.mk.injEq] at xR
   obtain ⟨rfl,rfl⟩:=xR
   have hb:ajN=bg:=by
    rw [eu,List.getElem?_cons_succ,←hl,List.getElem?_append_right (Nat.le_refl _)] at SG
    simp at SG
    exact SG.1.symm
   subst hb
   exact ⟨LI xb,φ',t1,t2,hc,tU.mono t1.ph⟩
  ·cases ek
 ·intro ls Z φ W W' hinv qT tN
  obtain ⟨⟨cs,m,E,arr,T,k1,k2,k3,k4,k5,k6,k7⟩,tU⟩:=hinv
  have da:=bA k2
  refine ⟨⟨cs,m,E,arr,T,k1,(tN bg k3 da).trans k2,⟨k3,da⟩,k4,k5,fun f' o' ho=>⟨?_,(k6 f' o' ho).2⟩,k7⟩,tU⟩
  obtain ⟨I,cells,q1,q2,q3,q4,q5⟩:=(k6 f' o' ho).1.row
  refine ⟨I,cells,q1,q2,⟨q3.1,?_⟩,q4,fun b hb=>⟨⟨(q5 b hb).1,JG q3 hb⟩,(q5 b hb).2⟩⟩
  rcases q3.2 with h6|⟨g,cap,di,r1,r2,r3,r4⟩
  ·exact .inl h6
  ·exact .inr ⟨g,cap,di,r1,r2,(tN g (q5 g (by rw [r1];rfl)).1 (bA r3)).trans r3,r4⟩
theorem PV {xs:List MV} (h:xs.all Nj=true): ∀x∈xs,∃ms,x= .agg ms:=by
 intro x hx
 have:=List.all_eq_true.1 h x hx
 cases x<;>simp [Nj] at this
 exact ⟨_,rfl⟩
theorem put_comm {a:Act} {x y:Nat} (h:x≠y) (v u:Value):(a.put (some x) v).put (some y) u=(a.put (some y) u).put (some x) v:=by
 show ({a with tmps:=(a.tmps.setIfInBounds x v).setIfInBounds y u}:Act)={a with tmps:=(a.tmps.setIfInBounds y u).setIfInBounds x v}
 rw [Array.setIfInBounds_comm v u h]
theorem PW {y d:Nat} {o1 o2:Oper} {h:Nat} {v0 v' fv:Value} {ys:List MV} {φ0:Ph} {w0:World} (hs:bX c Z e st a w) (h1:o1.dst=some y) (h2:o2.dst=some d) (hyd:d≠y) (tf: ∀b,v0.ownBlock=some b→Z.In b)
 (fV:db c (bM.plain fun b=>v0.ownBlock=some b) (oc c.key e.φ) w v' ⟨c.rW (c.key h),false,ys⟩) (dK: ∀b,v'.ownBlock=some b→v0.ownBlock=some b) (tP: ∀b,v0.ownBlock=some b→(∀t fI,ao st.fr t= .box fI→e.B t≠b)∧ ∀f o,aO st.aV f=some o→(e.E f).ownBlock≠some b)
 (ht:Trans Z φ0 w0 e.φ w)
 (hK:(ju st (o2.dst.getD 0) ⟨c.rW (c.key h),false,ys⟩ fun st=>bu c st o2.dst (.sc (.own (o2.dst.getD 0))) fun st=>bu c st o1.dst (.sc .un) K)=some r):Out c Z K r φ0 w0 ((a.put o1.dst fv).put o2.dst v') w:=by
 have zE:=hs.npf hK
 have pN:=qF hK
 have xS:db c Z.nc e w v' ⟨c.rW (c.key h),false,ys⟩:=by
  obtain ⟨I,cells,g1,g2,g3,g4,g5⟩:=fV.row
  refine ⟨I,cells,g1,g2,g3,by rw [hs.key];exact g4,fun bg hb=>⟨tf bg (dK bg hb),(g5 bg hb).2.1,fun hc=>hc.elim⟩⟩
 have K8:=hs.NK zE xS fun b hb=>tP b (dK b hb)
 obtain ⟨I,cells,g1,g2,g3,g4,g5⟩:=fV.row
 have iQ:v'.oneCell'=true:=by
  rcases g3.2 with ⟨rfl,_⟩|⟨g,cap,di,rfl,_⟩<;>rfl
 obtain ⟨e3,nV,q1,q2,q3⟩:=dA (v:=v') (s:= .sc (.own (o2.dst.getD 0))) K8 (.of (wY iQ) trivial) pN
 obtain ⟨e4,st4,q4,q5,q6⟩:=dA (v:=fv) (s:= .sc .un) q1 (.of (by simp [ab]) trivial) q2
 rw [h1,h2] at q4
 rw [put_comm hyd] at q4
 rw [h1,h2]
 exact ⟨e4,st4,q4,by rw [q6,q3];exact ht,q5⟩
theorem X5 (hS:Sound P c) {h f x y d:Nat} {b6:Array Operand} {cl:Call} {o1 o2:Oper} (hd:JY P c h (c.rW (c.key h))) (h1:o1.op= .makeFunc (.func f) #[] b6) (h2:o2.op= .call cl) (n9:cl.callee= .value (.func h)) (fh:cl.args.toList=[.tmp x,.tmp y])
 (hd1:o1.dst=some y) (WX:o2.dst=some d) (M5:x≠y) (hyd:d≠y) (hyn:y<c.n) (pO:bX c Z e st a w) (hK:Te c h f b6.toList (.tmp x) o1 o2 st K=some r):
 o1.wp P a w (fun a1 w1=>o2.wp P a1 w1 (Out c Z K r e.φ w) Q) Q:=by
 have aeW:(execOp a.eval o1).run P w= .ok (.value (.func (.func f) #[] (b6.map a.eval))) w:=by simp [execOp,h1,Instr.makeFunc]
 unfold Oper.wp
 rw [aeW,Oper.upon_value]
 have DP: ∀v:Value,(a.put o1.dst v).eval (.tmp x)=a.eval (.tmp x)∧(a.put o1.dst v).eval (.tmp y)=v:=by
  intro v
  rw [hd1]
  have hy:y<a.tmps.size:=by rw [pO.size];exact hyn
  constructor
  ·show (a.put (some y) v).tmps.getD x undef=a.tmps.getD x undef
   rw [Act.wV hy,if_neg M5]
  ·show (a.put (some y) v).tmps.getD y undef=v
   rw [Act.wV hy,if_pos rfl]
 have abG: ∀v:Value,cl.args.map (a.put o1.dst v).eval= #[a.eval (.tmp x),v]:=by
  intro v
  apply Array.toList_inj.1
  rw [Array.toList_map,fh]
  simp [(DP v).1,(DP v).2]
 have It: ∀v:Value,(execOp (a.put o1.dst v).eval o2).run P w=(callFunc h #[a.eval (.tmp x),v]).run P w:=by
  intro v
  have:=abG v
  simp [execOp,h2,resolve,n9,this,Act.eval,Deferred.ofValue,invoke]
 unfold Te at hK
 cases yK:c.sig (c.key f) with
 |none=>
  simp only [yK] at hK
  cases hg:c.eo (c.key f) with
  |true=>simp [hg] at hK
  |false=>
  simp only [hg,cond_false] at hK
  obtain ⟨e1,dV,ms,s1,x1,r1,pN,iQ⟩:=uW pO hK
  obtain ⟨e2,dH,xs,G,wv⟩:=qU s1 (s1.eval (.tmp x)).1 pN
  simp only [gF] at wv
  obtain ⟨EZ,Et⟩:=et wv
  obtain ⟨p,hp,WO⟩:=oM Et
  obtain ⟨ys,u⟩:=p
  have tU:cc c.key e1.φ (b6.map a.eval).toList ms:=by
   have:=gQ.one r1 iQ
   rw [s1.key] at this
   simpa using this
  have Dt: ∀b,(a.eval (.tmp x)).ownBlock=some b→ ¬w.heap.size≤b:=by
   intro b hb
   obtain ⟨I,cells,_,_,g3,_⟩:=G.row.row
   have:=JG g3 hb
   omega
  have vU:=hd.run (N4 hS hg) (PV EZ) G.row Dt tU (fun b hb=>hb) s1.nT hp
  refine tR (It _) vU ?_
  rintro v' w' ⟨Zw,φ',hW,fV,dK⟩
  have X6: ∀b,((w.heap.size≤b∨w.heap.size≤b)∨(a.eval (.tmp x)).ownBlock=some b)→Z.In b:=by
   rintro b ((hb|hb)|hb)
   ·exact s1.cn b hb
   ·exact s1.cn b hb
   ·exact G.In b hb
  have hzb: ∀t cs,ao dH.fr t= .box cs→ ¬((w.heap.size≤e2.B t∨w.heap.size≤e2.B t)∨(a.eval (.tmp x)).ownBlock=some (e2.B t)):=by
   rintro t cs ht ((hb|hb)|hb)
   ·have:=uY G.tQ ht;omega
   ·have:=uY G.tQ ht;omega
   ·exact G.box t cs ht hb
  have hzf: ∀f o k,aO dH.aV f=some o→(e2.E f).ownBlock=some k→ ¬((w.heap.size≤k∨w.heap.size≤k)∨(a.eval (.tmp x)).ownBlock=some k):=by
   rintro f o k ho hk ((hb|hb)|hb)
   ·have:=uZ G.tQ ho hk;omega
   ·have:=uZ G.tQ ho hk;omega
   ·exact G.iT f o k ho hk hb
  have u5:=hW.tr
  rw [←G.φ] at u5
  have hs3:=G.tQ.called X6 hzb hzf u5 hW.nT
  have qV:Trans Z e.φ w φ' w':=x1.tr.trans (hW.tr.CS X6)
  exact PW (e:={e2 with φ:=φ'}) hs3 hd1 WX hyd G.In fV dK (fun b hb=>⟨fun t fI ht he=>G.box t fI ht (by rw [hb,←he]),fun f o ho hk=>G.iT f o b ho hk hb⟩) qV WO
 |some sg=>
  obtain ⟨pos,ks⟩:=sg
  simp only [yK] at hK
  obtain ⟨e1,dV,ms,s1,x1,r1,pN,iQ⟩:=uW pO hK
  obtain ⟨e2,dH,xs,G,wv⟩:=qU s1 (s1.eval (.tmp x)).1 pN
  simp only [gF] at wv
  obtain ⟨EZ,Et⟩:=et wv
  cases CV:b6.toList.getLast? with
  |none=>simp [CV] at Et
  |some y0=>
  simp only [CV] at Et
  split at Et
  rotate_left
  ·cases Et
  rename_i root NV
  split at Et
  rotate_left
  ·cases Et
  rename_i cs hf
  cases lL:eP cs||bE dH.cq root||!gU c ks||!Nat.beq pos (ms.length+1)||!c.eo (c.key f) with
  |true=>simp [lL] at Et
  |false=>
  simp only [lL,cond_false] at Et
  simp only [Bool.or_eq_false_iff,Bool.not_eq_false'] at lL
  obtain ⟨⟨⟨⟨hm,hr⟩,jn⟩,eu⟩,hg⟩:=lL
  have eu:=Nat.eq_of_beq_eq_true eu
  obtain ⟨ls,ps,ht,WO⟩:=zJ Et
  obtain ⟨p,hp,hK5⟩:=oM WO
  obtain ⟨ys,outs⟩:=p
  have hy0:a.eval y0= .pointer (some ⟨e2.B root,0,none⟩):=by
   have:=(G.tQ.eval y0).1
   rw [NV] at this
   exact this
  have aeX:(b6.map a.eval)=((b6.toList.dropLast.map a.eval)++[Value.pointer (some ⟨e2.B root,0,none⟩)]).toArray:=by
   apply Array.toList_inj.1
   rw [Array.toList_map]
   have cT:b6.toList≠[]:=by intro e;rw [e] at CV;simp at CV
   have h3:b6.toList=b6.toList.dropLast++[y0]:=by
    have h4:=List.dropLast_concat_getLast cT
    have h5:=List.getLast?_eq_some_getLast cT
    rw [CV] at h5
    rw [Option.some.inj h5]
    exact h4.symm
   rw [h3]
   simp [hy0]
  have tU:cc c.key e2.φ (b6.toList.dropLast.map a.eval) ms:=by
   have:=gQ.one r1 iQ
   rw [s1.key,←G.φ] at this
   exact this
  have AB:db c (bM.plain fun b=>(a.eval (.tmp x)).ownBlock=some b) (oc c.key e2.φ) w (a.eval (.tmp x)) ⟨c.rW (c.key h),false,xs⟩:=by rw [G.φ];exact G.row
  let Z2:Nat→Prop:=fun b=>w.heap.size≤b∨gone e2 root ps b
  have hgx: ∀b,(a.eval (.tmp x)).ownBlock=some b→ ¬gone e2 root ps b:=by
   rintro b hb (rfl|⟨q,g,hp,hq⟩)
   ·exact G.box root cs hf hb
   ·obtain ⟨o,ho,_⟩:=ht.aV q g hp
    exact G.iT g o b ho hq hb
  have da: ∀b,(a.eval (.tmp x)).ownBlock=some b→b<w.heap.size:=by
   intro b hb
   obtain ⟨I,cells,_,_,g3,_⟩:=G.row.row
   exact JG g3 hb
  have Dt: ∀b,(a.eval (.tmp x)).ownBlock=some b→ ¬Z2 b:=by
   rintro b hb (h'|h')
   ·have:=da b hb;omega
   ·exact hgx b hb h'
  have qd:nt c Z2 e2.φ w (e2.B root) ks ls:=(Ey G.tQ hf hm jn ht).wide fun b hb=> .inr hb
  have vU:=hd.run (Ro hS hg yK eu) (PV EZ) AB Dt ⟨qd,tU⟩ (fun b hb=> .inl hb) G.tQ.nT hp
  rw [←aeX] at vU
  refine tR (It _) vU ?_
  rintro v' w' ⟨Zw,φ',hW,fV,dK⟩
  have hZ2: ∀b,Z2 b∨w.heap.size≤b→Z2 b:=fun b hb=>hb.elim id .inl
  have X6: ∀b,Z2 b→Z.In b:=fun b hb=>hb.elim (G.tQ.cn b) (Au G.tQ hf hr ht b)
  have u5:Trans (fun b=>Z2 b∨(a.eval (.tmp x)).ownBlock=some b) e2.φ w φ' w':=hW.tr.CS fun b hb=>hb.elim (fun h=> .inl (hZ2 b h)) .inr
  have abH:nt c Z2 φ' w' (e2.B root) ks outs:=hW.inv.1.wide fun b hb=>hZ2 b (hW.sub b hb)
  obtain ⟨e3,nV,h3,hφ3,hX,hK6⟩:=Rn G.tQ hf hm hr ht (fun b=>Iff.rfl) (X:=fun b=>(a.eval (.tmp x)).ownBlock=some b) (fun t fI zC hb=>G.box t fI zC hb) (fun f o b ho hk hb=>G.iT f o b ho hk hb) u5 hW.nT abH hK5
  have qV:Trans Z e.φ w φ' w':=by
   have t2:Trans Z e2.φ w φ' w':=u5.CS fun b hb=>hb.elim (X6 b) (G.In b)
   rw [G.φ] at t2
   exact x1.tr.trans t2
  subst hφ3
  exact PW h3 hd1 WX hyd G.In fV dK (fun b hb=>hX b hb (Dt b hb)) qV hK6
end
end Dn
/-
  Regions in the order of their text. Conditions: none.
-/
set_option linter.unusedSimpArgs false
set_option linter.unusedVariables false
namespace Dn
open Go
section
variable {P:Program} {c:Ctx} {Z:bM} {e:Env} {st:St} {a:Act} {w:World} {R:Type} {K:St→Option R} {r:R} {Q:Exit→Act→World→Prop} {ops:Array Oper}
theorem LJ (hG:Good P c) {is:List Nat} {rest:List Nat}: ∀{os:List Oper} {e:Env} {st:St} {a:Act} {w:World},is.map (ops[·]?)=os.map some→bX c Z e st a w→uK c ops.toList os st K=some r→
 ∀{φ0:Ph} {w0:World},Trans Z φ0 w0 e.φ w→(∀a' w',Out c Z K r φ0 w0 a' w'→wpOps P ops Q rest a' w')→wpOps P ops Q (is++rest) a w:=by
 induction is with
 |nil=>
  intro os e st a w hm h hK φ0 w0 ht hQ
  cases os with
  |nil=>exact hQ a w ⟨e,st,h,ht,hK⟩
  |cons=>simp at hm
 |cons i is ih=>
  intro os e st a w hm h hK φ0 w0 ht hQ
  cases os with
  |nil=>simp at hm
  |cons o os=>
   simp only [List.map_cons,List.cons.injEq] at hm
   simp only [uK] at hK
   rw [List.cons_append,wpOps_cons]
   refine wpOp_mono ?_ (PK hG hm.1 h hK)
   rintro a' w' ⟨e2,dH,h1,h2,h3⟩
   exact ih hm.2 h1 h3 (ht.trans h2) hQ
structure aac (c:Ctx) (l pre:List Oper) (f:Nat) (b6:List Operand) (h:Nat) (x:Operand) (o1 o2:Oper) (post:List Oper):Prop where
 eq:l=pre++o1::o2::post
 is: ∃(cs:Array Operand) (cl:Call) (x' y d:Nat),cs.toList=b6∧o1.op= .makeFunc (.func f) #[] cs∧o2.op= .call cl∧cl.callee= .value (.func h)∧cl.args.toList=[.tmp x',.tmp y]∧x= .tmp x'∧o1.dst=some y∧o2.dst=some d∧c.Jl h=true∧x'≠y∧d≠y∧y<c.n
theorem N6: ∀{l pre Rq:List Oper} {f:Nat} {b6:List Operand} {h:Nat} {x:Operand} {o1 o2:Oper} {post:List Oper},Ag c pre l=some (Rq,f,b6,h,x,o1,o2,post)→aac c (pre.reverse++l) Rq f b6 h x o1 o2 post:=by
 intro l
 induction l with
 |nil=>intro pre Rq f b6 h x o1 o2 post hd;simp [Ag] at hd
 |cons p1 l ih=>
  intro pre Rq f b6 h x o1 o2 post hd
  cases l with
  |nil=>simp [Ag] at hd
  |cons p2 r=>
   have abI:Ag c (p1::pre) (p2::r)=some (Rq,f,b6,h,x,o1,o2,post)→aac c (pre.reverse++p1::p2::r) Rq f b6 h x o1 o2 post:=by
    intro hq
    have:=ih hq
    simpa using this
   unfold Ag at hd
   split at hd
   ·rename_i f' first cs cl h1 h2
    split at hd
    ·rename_i h' x' y' d' k1 k2 k3 k4
     cases hb:c.Jl h'&&Nat.beq y' d'&&!Nat.beq x' d'&&!Nat.ble c.n d'&&!Nat.beq (p2.dst.getD d') d' with
     |false=>simp only [hb,cond_false] at hd;exact abI hd
     |true=>
      simp only [hb,cond_true,Option.some.injEq,Prod.mk.injEq] at hd
      obtain ⟨rfl,rfl,rfl,rfl,rfl,rfl,rfl,rfl⟩:=hd
      simp only [Bool.and_eq_true,Bool.not_eq_true',fe,decide_eq_true_eq,decide_eq_false_iff_not] at hb
      obtain ⟨⟨⟨⟨q1,rfl⟩,q3⟩,q4⟩,q5⟩:=hb
      have hf:first= #[]:=by apply Array.toList_inj.1;simpa using k3
      subst hf
      have WX: ∃d,p2.dst=some d∧d≠y':=by
       cases hp:p2.dst with
       |none=>rw [hp] at q5;simp at q5
       |some d=>rw [hp] at q5;exact ⟨d,rfl,q5⟩
      obtain ⟨d,WX,hd3⟩:=WX
      refine ⟨rfl,cs,cl,x',y',d,rfl,h1,h2,k1,k2,rfl,k4,WX,q1,q3,hd3,?_⟩
      rcases Nat.lt_or_ge y' c.n with da|SO
      ·exact da
      ·have aok:=Nat.ble_eq_true_of_le SO
       simp_all
    ·exact abI hd
   ·exact abI hd
theorem LL: ∀{l:List Oper},Ea l=true→ ∀o∈l,o.guard=none:=by
 intro l
 induction l with
 |nil=>intro _ o ho;cases ho
 |cons p l ih=>
  intro h o ho
  unfold Ea at h
  cases hg:p.guard with
  |none=>
   rw [hg] at h
   rcases List.mem_cons.1 ho with rfl|ho
   ·exact hg
   ·exact ih h o ho
  |some=>rw [hg] at h;cases h
theorem Rr (hG:Good P c) (E0:ve P c) (id:Nat) (ops:Array Oper):Lw P c id ops:=by
 intro Z e st a w R K r Q h hK hQ
 unfold Tf at hK
 split at hK
 rotate_left
 ·exact Ii (Q6 hG id ops) h hK hQ
 rename_i pre f b6 hh x o1 o2 post hda
 obtain ⟨iV,cs,cl,x',y,d,rfl,k1,k2,k3,k4,rfl,k5,k6,k7,k8,k9,k10⟩:=N6 hda
 simp only [List.reverse_nil,List.nil_append] at iV
 cases M1:Ea ops.toList with
 |false=>simp [M1] at hK
 |true=>
 simp only [M1,cond_true] at hK
 obtain ⟨std,hdr,hK⟩:=sw h hK
 have hgd:=LL M1
 have Ie:o1.guard=none:=hgd o1 (by rw [iV];simp)
 have Rl:o2.guard=none:=hgd o2 (by rw [iV];simp)
 refine wp_region ?_
 have qT:ops.size=pre.length+(post.length+2):=by rw [←Array.length_toList,iV];simp
 have mf: ∀i,ops[i]? =(pre++o1::o2::post)[i]? :=fun i=>by rw [←iV,Array.getElem?_toList]
 have abJ:List.range ops.size=List.range pre.length++(pre.length::(pre.length+1)::((List.range post.length).map (· +(pre.length+2)))):=by
  rw [qT,List.range_add]
  congr 1
  rw [show post.length+2=2+post.length by omega,List.range_add]
  simp [List.range_succ]
  intros;omega
 rw [abJ]
 refine LJ hG (os:=pre) ?_ hdr hK (.refl _ _ _) ?_
 ·apply List.ext_getElem?
  intro i
  simp only [List.getElem?_map]
  by_cases hi:i<pre.length
  ·rw [List.getElem?_range hi]
   simp only [Option.map_some,mf,List.getElem?_append_left hi]
   rw [List.getElem?_eq_getElem hi];rfl
  ·rw [List.getElem?_eq_none (by simp;omega),List.getElem?_eq_none (by omega)];rfl
 ·rintro a1 w1 ⟨e1,dV,s1,t1,pN⟩
  have hw:=X5 hG.fn (E0 hh k7) k1 k2 k3 k4 k5 k6 k8 k9 k10 s1 pN (P:=P) (Q:=Q)
  have tG:ops[pre.length]? =some o1:=by rw [mf];simp
  have SN:ops[pre.length+1]? =some o2:=by rw [mf,List.getElem?_append_right (by omega)];simp
  rw [wpOps_cons]
  unfold wpOp
  simp only [tG,Region.wanted,Ie,if_true]
  left
  refine Oper.wp_mono ?_ hw
  intro a2 w2 hw2
  rw [wpOps_cons]
  unfold wpOp
  simp only [SN,Region.wanted,Rl,if_true]
  left
  refine Oper.wp_mono ?_ hw2
  rintro a3 w3 ⟨e3,nV,s3,t3,Et⟩
  rw [←List.append_nil ((List.range post.length).map (· +(pre.length+2)))]
  refine LJ hG (os:=post) ?_ s3 Et (t1.trans t3) ?_
  ·apply List.ext_getElem?
   intro i
   simp only [List.getElem?_map,List.map_map]
   by_cases hi:i<post.length
   ·rw [List.getElem?_range hi]
    simp only [Option.map_some,Function.comp,mf]
    rw [List.getElem?_append_right (by omega),show i+(pre.length+2)-pre.length=i+2 by omega]
    simp [List.getElem?_eq_getElem hi]
   ·rw [List.getElem?_eq_none (by simp;omega),List.getElem?_eq_none (by omega)];rfl
  ·intro a' w' ho
   exact hQ a' w' ho
end
end Dn
/-
  Open order with two operations that may be done either way round. Conditions: none.
-/
set_option linter.unusedSimpArgs false
set_option linter.unusedVariables false
namespace Dn
open Go
section
variable {P:Program} {ops:Array Oper} {Q:Exit→Act→World→Prop}
theorem Iu (A B:Nat):(n5 ops A B).size=ops.size:=by simp [n5]
theorem Fa (A B i:Nat):(n5 ops A B)[i]? =(ops[i]?).map fun o=>if B=i then {o with after:=o.after.push ⟨A,.data⟩} else o:=by
 unfold n5
 rw [Array.getElem?_modify]
 by_cases h:B=i
 ·simp [h]
 ·cases ops[i]? <;>simp [h]
theorem JZ (A B:Nat) (tmps:Array Value):yielded (n5 ops A B) tmps=yielded ops tmps:=by
 funext j
 unfold yielded
 rw [Fa]
 cases ops[j]? with
 |none=>rfl
 |some o=>
  have e:(if B=j then {o with after:=o.after.push ⟨A,.data⟩} else o).dst=o.dst:=by split<;>rfl
  simp only [Option.map_some,Option.bind_some,e]
theorem Rs {A B i:Nat} {K:Act→World→Prop} {a:Act} {w:World} (h:wpOp P (n5 ops A B) Q i K a w):wpOp P ops Q i K a w:=by
 unfold wpOp at h⊢
 rw [Fa,JZ] at h
 cases hi:ops[i]? with
 |none=>rw [hi] at h;exact h
 |some o=>
  rw [hi] at h
  simp only [Option.map_some] at h
  by_cases hb:B=i
  ·rw [if_pos hb] at h;exact h
  ·rw [if_neg hb] at h;exact h
theorem Fb {A B i:Nat} {listed:Array Bool}:i∈Region.ready .any (n5 ops A B) listed↔i∈Region.ready .any ops listed∧(i=B→listed.getD A false=true):=by
 unfold Region.ready
 rw [Iu]
 simp only [List.mem_filter,List.mem_range,Fa]
 cases hi:ops[i]? with
 |none=>simp
 |some o=>
  by_cases hb:B=i
  ·subst hb
   simp [Array.all_push,Region.binds]
   constructor
   ·rintro ⟨h1,h2,h3,h4⟩;exact ⟨⟨h1,h2,h3⟩,h4⟩
   ·rintro ⟨⟨h1,h2,h3⟩,h4⟩;exact ⟨h1,h2,h3,h4⟩
  ·have BM: ¬i=B:=fun e=>hb e.symm
   simp [hb,BM]
def Ahd (A B:Nat):Bool→List Nat→Prop
 |_,[]=>True
 |la,i::r=>(i=B→la=true)∧Ahd A B (la||decide (i=A)) r
theorem Fc (A B:Nat): ∀L,Ahd A B true L
 |[]=>trivial
 |i::r=>⟨fun _=>rfl,by simpa using Fc A B r⟩
theorem UR {A B:Nat} (h:A≠B): ∀L,Ahd A B false L∨Ahd B A false L
 |[]=> .inl trivial
 |i::r=>by
  by_cases ha:i=A
  ·subst ha
   exact .inl ⟨fun e=>absurd e h,by simpa using Fc i B r⟩
  ·by_cases hb:i=B
   ·subst hb
    exact .inr ⟨fun e=>absurd e ha,by simpa using Fc i A r⟩
   ·rcases UR h r with h1|h1
    ·exact .inl ⟨fun e=>absurd e hb,by simpa [ha] using h1⟩
    ·exact .inr ⟨fun e=>absurd e ha,by simpa [hb] using h1⟩
theorem Iv {A B:Nat}: ∀(fuel t:Nat) (listed:Array Bool) (a:Act) (w:World),A<listed.size→wpAny P .any (n5 ops A B) Q fuel listed a w→
 Ahd A B (listed.getD A false) (Region.linearise.go .any ops fuel t listed [])→wpOps P ops Q (Region.linearise.go .any ops fuel t listed []) a w:=by
 intro fuel
 induction fuel with
 |zero=>intro t listed a w _ h _;simpa [Region.linearise.go,wpOps] using h.2
 |succ fuel ih=>
  intro t listed a w hs h hA
  obtain ⟨h₀,h₁⟩:=h
  simp only [Region.linearise.go] at hA⊢
  change wpOps P ops Q (match (Region.ready .any ops listed)[t%(Region.ready .any ops listed).length]? with
   |some i=>Region.linearise.go .any ops fuel (t/(Region.ready .any ops listed).length) (listed.setIfInBounds i true) [i]
   |none=>[].reverse) a w
  change Ahd A B (listed.getD A false) (match (Region.ready .any ops listed)[t%(Region.ready .any ops listed).length]? with
   |some i=>Region.linearise.go .any ops fuel (t/(Region.ready .any ops listed).length) (listed.setIfInBounds i true) [i]
   |none=>[].reverse) at hA
  cases hi:(Region.ready .any ops listed)[t%(Region.ready .any ops listed).length]? with
  |none=>
   have aa5:Region.ready .any ops listed=[]:=by
    cases hr:Region.ready .any ops listed with
    |nil=>rfl
    |cons x xs=>
     rw [hr] at hi
     have da:t%(x::xs).length<(x::xs).length:=Nat.mod_lt _ (by simp)
     simp at hi
     simp at da
     omega
   have aeY:Region.ready .any (n5 ops A B) listed=[]:=by
    cases hr:Region.ready .any (n5 ops A B) listed with
    |nil=>rfl
    |cons x xs=>
     have:x∈Region.ready .any (n5 ops A B) listed:=by rw [hr];simp
     have:=(Fb.1 this).1
     rw [aa5] at this;cases this
   simpa [wpOps] using h₀ aeY
  |some i=>
   rw [hi] at hA
   simp only [] at hA⊢
   rw [linearise_go_acc,List.reverse_singleton,List.singleton_append] at hA⊢
   obtain ⟨hA1,hA2⟩:=hA
   rw [wpOps_cons]
   have tk:=Fb.2 ⟨List.mem_of_getElem? hi,hA1⟩
   refine wpOp_mono (fun a w hw=>ih _ _ a w (by simpa using hs) hw ?_) (Rs (h₁ i tk))
   have hg:(listed.setIfInBounds i true).getD A false=(listed.getD A false||decide (i=A)):=by
    rw [Array.getD_eq_getD_getElem?,Array.getD_eq_getD_getElem?,Array.getElem?_setIfInBounds]
    by_cases hia:i=A
    ·subst hia;simp [hs]
    ·simp [hia]
   rw [hg];exact hA2
theorem Hm {id A B:Nat} {a:Act} {w:World} (hm:P.follows .mixedOrders=true) (cT:A≠B) (hA:A<ops.size) (hB:B<ops.size)
 (h1:wpAny P .any (n5 ops A B) Q ops.size (Array.replicate ops.size false) a {w with drawn:=w.drawn+1})
 (h2:wpAny P .any (n5 ops B A) Q ops.size (Array.replicate ops.size false) a {w with drawn:=w.drawn+1}):(Code.region id ops true).wp P Q a w:=
 wp_region_draw fun t=>by
  simp only [Region.schedule,hm,Bool.true_or,if_true]
  show wpOps P ops Q (Region.linearise.go .any ops ops.size t (Array.replicate ops.size false) []) a _
  rcases UR cT (Region.linearise.go .any ops ops.size t (Array.replicate ops.size false) []) with h|h
  ·exact Iv ops.size t _ a _ (by simpa using hA) h1 (by simpa [hA] using h)
  ·exact Iv ops.size t _ a _ (by simpa using hB) h2 (by simpa [hB] using h)
theorem LM {c:Ctx} (hG:Good P c) (LN:P.follows .mixedOrders=true) (E0:ve P c):PM P c:=by
 refine ⟨fun id ops=>Rr hG E0 id ops,?_,?_⟩
 ·intro id ops l hd hp Z e st a w R K r Q h hK hQ
  refine Code.wp_mono ?_ (wp_region_any LN (EY hG hd hp h hK))
  intro x a' w' hx
  cases x<;>first|exact hQ a' w' hx|exact hx.elim
 ·intro id ops A B o1 o2 l1 l2 cT hA hB hd1 WX Ty HX Z e st a w R K r Q h pN wv hQ
  have w1:=EY hG hd1 Ty h pN
  have w2:=EY hG WX HX h wv
  rw [Iu] at w1 w2
  refine Code.wp_mono ?_ (Hm LN cT hA hB w1 w2)
  intro x a' w' hx
  cases x<;>first|exact hQ a' w' hx|exact hx.elim
end
end Dn
/-
  Functions of the library, by hand: copies of slices. Conditions: none.
-/
set_option linter.unusedSimpArgs false
set_option linter.unusedVariables false
namespace Dn
open Go
section
variable {P:Program} {c:Ctx} {Q:Exit→Act→World→Prop} {ops:Array Oper} {o:Oper} {a:Act} {w w':World}
theorem tl {i:Nat} {rest:List Nat} {v:Value} (hi:ops[i]? =some o) (hg:o.guard=none) (bT:(execOp a.eval o).run P w= .ok (.value v) w')
 (h:wpOps P ops Q rest (a.put o.dst v) w'):wpOps P ops Q (i::rest) a w:=by
 rw [wpOps_cons]
 unfold wpOp
 simp only [hi,Region.wanted,hg,if_true]
 left
 unfold Oper.wp
 rw [bT,Oper.upon_value];exact h
structure aR (o:Oper) (d:Nat) (op:Op):Prop where
 dst:o.dst=some d
 op:o.op=op
 guard:o.guard=none
theorem abK {key:Nat→Nat} {φ:Ph} {size:Nat} {v:Value} {xs:List MV} (jk:zH φ w) (eu:0<size) (hx:ln key φ [v] (.list xs)) (hw:ta size xs=true): ∃news,Src (oc key φ) w size v xs news:=by
 generalize hv:[v]=vs at hx
 cases hx with
 |list ad cap _ bg off KJ f g1 g2 g3 g4 g5=>
 simp at hv
 have Xs: ∀i,i<xs.length→(f i).length=size:=by
  intro i hi
  rw [(g5 i hi).width]
  exact An hw _ (List.getElem_mem hi)
 obtain ⟨cs,h1,h2⟩:=Er Xs g5
 refine ⟨cs,h1,ad,cap,hv,?_,?_⟩
 ·intro hn
  cases xs with
  |nil=>rfl
  |cons y ys=>have:=g2 (by simp);rw [hn] at this;cases this
 ·intro x hx j u hj
  have GX:j<cs.length:=(List.getElem?_eq_some_iff.1 hj).1
  rw [h1.length] at GX
  have Es:0<xs.length:=by
   cases xs with
   |nil=>simp at GX
   |cons y ys=>simp
  have Le:=g2 Es
  rw [hx] at Le
  cases Le
  have hq:j/size<xs.length:=(Nat.div_lt_iff_lt_mul eu).2 GX
  have hm:=Nat.mod_lt j eu
  have SH:j=j/size *size+j%size:=by rw [Nat.mul_comm];exact (Nat.div_add_mod j size).symm
  have e1:=h2 (j/size) (j%size) hq hm
  rw [←SH,hj] at e1
  have TN:KJ=size:=by rw [←g3 0 Es,Xs 0 Es]
  have e2:=g4 (j/size) (j%size) hq (by rw [TN];exact hm)
  rw [←e1,TN,Nat.add_assoc,←SH] at e2
  have:=jk _ _ _ e2
  rw [Addr.add_mid];exact this
theorem Rt {t t':TypeId} {el:TypeId} {x:Operand} {ad:Option Addr} {n cap:Nat} (hu:P.underlying t=some (.slice el)) (ho:o.op= .binOp .eql t x (.const (.slice none 0 0)) t') (hx:a.eval x= .slice ad n cap):
 (execOp a.eval o).run P w= .ok (.value (.bool ad.isNone)) w:=by
 have he:a.eval (.const (.slice none 0 0))= .slice none 0 0:=rfl
 have iV: ∀d:Nat,(Op.equalIn (d+1) t (.slice ad n cap) (.slice none 0 0)).run P w= .ok ad.isNone w:=by
  intro d
  cases ad<;>simp [Op.equalIn,run_underlying hu]
 have hb:Go.binOp .eql t (.slice ad n cap) (.slice none 0 0)=(do pure (.bool (←Op.equal t (.slice ad n cap) (.slice none 0 0)))):=rfl
 have hg: ∀(x y:Operand),(eqGuard .eql t x y (.slice ad n cap) (.slice none 0 0)).run P w= .ok () w:=fun _ _=>rfl
 have h2:(Op.equal t (.slice ad n cap) (.slice none 0 0)).run P w= .ok ad.isNone w:=iV 9999
 unfold execOp
 simp only [ho]
 rw [hx,he]
 simp [hg,hb,h2]
theorem AD {f:FuncId} {fn:Func} {t:TypeId} {I E:TI} {i0 i1 i2 i3:Nat} {oA oB oC oD oE oF oG oH:Oper} {xs:List MV} (hT:kK P c.ti) (hI:c.tv t=some I) (hL:I.za=true) (hE:c.tv I.elem=some E) (uV:1≤E.bytes)
 (B2:c.rW (c.key f)=I.elem) (hg:c.eo (c.key f)=false)
 (hf:P.funcs[f]? =some fn) (Aw:(fn.name== "runtime.NumGoroutine")=false) (hn:fn.ntmps=8) (hr:fn.results= #[.tmp 2])
 (pa:fn.body=some (.seq (.region i0 #[oA] false) (.seq (.seq (.region i1 #[oB,oC] false) (.cond (.tmp 4) (.seq (.region i2 #[oD] false) .ret) .skip)) (.seq (.region i3 #[oE,oF,oG,oH] false) .ret))))
 (hA:aR oA 2 (.assign (.const (.slice none 0 0)))) (hB:aR oB 3 (.move (.tmp 0))) (hC:aR oC 4 (.binOp .eql t (.tmp 3) (.const (.slice none 0 0)) t)) (hD:aR oD 2 (.assign (.const (.slice none 0 0))))
 (hEo:aR oE 5 (.buildSlice t 0 #[])) (hF:aR oF 6 (.move (.tmp 0))) (hG:aR oG 7 (.call {callee:= .builtin .append,args:= #[.tmp 5,.tmp 6],argTypes:= #[t,t]})) (hH:aR oH 2 (.assign (.tmp 7)))
 (hw:ta E.size xs=true) (nk:xs.length *E.bytes≤2^46):kM P c f [.list xs] (.fresh xs):=by
 obtain ⟨hIt,Tw⟩:=bO hI
 obtain ⟨nj,n7⟩:=bO hE
 obtain ⟨hu,E2,wM,_,eu⟩:=TI.mK (hT t I hIt) hL
 rw [nj] at wM
 cases wM
 intro φ W Z vs hz fh jk
 simp only [eR,hg,Bool.false_eq_true,if_false] at fh
 obtain ⟨v,u,rfl,⟨_,hx⟩,hu0⟩:=fh
 have hu0:u=[]:=hu0
 subst hu0
 obtain ⟨ad,cap,hv,BP,hnn⟩: ∃ad cap,v= .slice ad xs.length cap∧xs.length≤cap∧(0<xs.length→ad≠none):=by
  have SK:=hx
  generalize yJ:[v]=vs at SK
  cases SK with
  |list ad cap _ bg off KJ f g1 g2 g3 g4 g5=>exact ⟨ad,cap,by simpa using yJ,g1,fun h0 hn=>by rw [g2 h0] at hn;cases hn⟩
 have bT:(callFunc f [v].toArray).run P W= .ok (.enter f #[v]) W:=by
  have El: ¬fn.name= "runtime.NumGoroutine" :=by simpa using Aw
  simp [callFunc,hf,El,pa]
 unfold fN
 rw [bT]
 refine calls_of_wp hf pa ?_
 rw [hn]
 have ha0:({tmps:= #[v]++Array.replicate (8-(#[v]:Array Value).size) undef,defers:=[]}:Act)={tmps:= #[v,undef,undef,undef,undef,undef,undef,undef],defers:=[]}:=rfl
 rw [ha0]
 have ajR:List.range (#[oA]:Array Oper).size=[0]:=rfl
 have ajS:List.range (#[oB,oC]:Array Oper).size=[0,1]:=rfl
 have ajT:List.range (#[oE,oF,oG,oH]:Array Oper).size=[0,1,2,3]:=rfl
 have ajU:List.range (#[oD]:Array Oper).size=[0]:=rfl
 have fin: ∀(a:Act) (W':World) (v':Value) (cells:List Value),a.defers=[]→a.tmps.getD 2 undef=v'→(∃φ',Trans Z φ W φ' W'∧zH φ' W'∧mM c Z φ' W' (c.key f) v' (.fresh xs))→
  bodyPost P fn (fun x xP=> ∃v,x= .returned v∧ ∃φ',Trans Z φ W φ' xP∧zH φ' xP∧mM c Z φ' xP (c.key f) v (.fresh xs)) .ret a W':=by
  intro a W' v' cells hd h2 h3
  refine ⟨hd,v',?_,v',rfl,h3⟩
  have K7:a.tmps[2]?.getD undef=v':=by simpa using h2
  simp [results,hr,K7]
 refine wp_seq (wp_region ?_)
 rw [ajR]
 refine tl (o:=oA) rfl hA.guard (v:= .slice none 0 0) (w':=W) (by simp [execOp,hA.op];rfl) ?_
 rw [hA.dst]
 refine wp_seq (wp_seq (wp_region ?_))
 rw [ajS]
 refine tl (o:=oB) rfl hB.guard (v:=v) (w':=W) (by simp [execOp,hB.op];rfl) ?_
 rw [hB.dst]
 refine tl (o:=oC) rfl hC.guard (v:= .bool ad.isNone) (w':=W) (Rt hu hC.op (by rw [←hv];rfl)) ?_
 rw [hC.dst]
 refine wp_cond (t:=ad.isNone) rfl ?_
 cases Le:ad.isNone with
 |true=>
  have Le:ad=none:=by simpa using Le
  have hxs:xs=[]:=by
   cases xs with
   |nil=>rfl
   |cons y ys=>exact absurd Le (hnn (by simp))
  simp only [if_true]
  refine wp_seq (wp_region ?_)
  rw [ajU]
  refine tl (o:=oD) rfl hD.guard (v:= .slice none 0 0) (w':=W) (by simp [execOp,hD.op];rfl) ?_
  rw [hD.dst]
  refine wp_ret ?_
  refine fin _ W (.slice none 0 0) [] rfl rfl ⟨φ,.refl _ _ _,jk,?_⟩
  show db c (bM.plain Z) (oc c.key φ) W _ ⟨c.rW (c.key f),false,xs⟩
  rw [B2,hxs]
  exact ⟨E,[],nj,n7,⟨by simp,.inl ⟨rfl,rfl⟩⟩,rfl,fun bg hb=>by simp [Value.ownBlock] at hb⟩
 |false=>
  simp only [Bool.false_eq_true,if_false]
  refine wp_skip ?_
  refine wp_seq (wp_region ?_)
  rw [ajT]
  have ae1:=Pv (P:=P) (c:=c) (w:=W) (t:=t) (I:=I) (vs:=[]) (parts:= #[]) hu nj n7 eu hT (by simp) (by simp) rfl
  simp only [List.length_nil,List.flatMap_nil] at ae1
  refine tl (o:=oE) rfl hEo.guard (v:= .slice (some ⟨W.heap.size,0,none⟩) 0 0) (w':=W.alloc (.cells #[] I.elem)) (by simp [execOp,hEo.op,ae1]) ?_
  rw [hEo.dst]
  refine tl (o:=oF) rfl hF.guard (v:=v) (w':=W.alloc (.cells #[] I.elem)) (by simp [execOp,hF.op];rfl) ?_
  rw [hF.dst]
  obtain ⟨news,tO⟩:=abK jk eu hx hw
  have Ie:dv W (W.alloc (.cells #[] I.elem)):= .alloc W _ _
  have ae2:Src (oc c.key φ) (W.alloc (.cells #[] I.elem)) E.size v xs news:=by
   obtain ⟨ad',aaX,q1,q2,q3⟩:=tO.val
   exact ⟨tO.els,ad',aaX,q1,q2,fun x hx j u hj=>Ie.cell (q3 x hx j u hj)⟩
  have dK:(W.alloc (.cells #[] I.elem)).ownsRow 0 I.elem E.size (.slice (some ⟨W.heap.size,0,none⟩) 0 0) 0 []:=
   ⟨by simp,.inr ⟨W.heap.size,0, #[],rfl,Nat.zero_le _,kl W _,Nat.le_refl _,Nat.zero_le _,by simp,by simp⟩⟩
  obtain ⟨v',W',It,tP⟩:=zG (P:=P) (c:=c) (ty:=oG.type) (e:=oc c.key φ) hu nj n7 eu hT uV dK ae2 (by simpa using nk)
  refine tl (o:=oG) rfl hG.guard (v:=v') (w':=W') (by
   have e1: ∀(a:Act),a.eval (.tmp 5)= .slice (some ⟨W.heap.size,0,none⟩) 0 0→a.eval (.tmp 6)=v→(execOp a.eval oG).run P (W.alloc (.cells #[] I.elem))= .ok (.value v') W':=by
    intro a h5 h6
    simp [execOp,hG.op,resolve,invoke,builtin,h5,h6,It]
   exact e1 _ rfl rfl) ?_
  rw [hG.dst]
  refine tl (o:=oH) rfl hH.guard (v:=v') (w':=W') (by simp [execOp,hH.op];rfl) ?_
  rw [hH.dst]
  refine wp_ret ?_
  refine fin _ W' v' [] rfl rfl ?_
  have qT:W.heap.size≤W'.heap.size:=Nat.le_trans Ie.size tP.size
  have hold: ∀b,b<W.heap.size→W'.heap[b]? =W.heap[b]? :=by
   intro b hb
   rw [tP.BB b (Nat.lt_of_lt_of_le hb Ie.size) (by simp [Value.ownBlock];omega)]
   exact Ie.BB b hb
  refine ⟨φ,⟨.refl _,fun b _ hb=>hold b hb,fun _ _ _=>rfl,qT,Ie.rest.trans tP.rest⟩,?_,?_⟩
  ·intro b o u hbo
   have h1:=jk b o u hbo
   rw [World.cell?_of_block (hold b (World.block_lt_of_cell? W _ h1))];exact h1
  ·show db c (bM.plain Z) (oc c.key φ) W' v' ⟨c.rW (c.key f),false,xs⟩
   rw [B2]
   refine ⟨E,news,nj,n7,by simpa using tP.own,tO.els,fun bg hb=> ?_⟩
   have jy:W.heap.size≤bg:=by
    rcases tP.place with h1|h1
    ·rw [h1] at hb;simp [Value.ownBlock] at hb;omega
    ·rw [h1] at hb
     cases hb
     exact Ie.size
   refine ⟨hz bg jy,fun off u hu=> ?_,fun hc=>hc.elim⟩
   have:=World.block_lt_of_cell? W _ (jk _ _ _ hu)
   have:bg<W.heap.size:=this
   omega
end
end Dn
/-
  Tables of functions. Conditions: none.
-/
namespace Dn
open Go
structure aq (P:Program) (c:Ctx) (g:Nat→List MV→Option MV):Prop where
 all: ∀f ms r,g (c.key f) ms=some r→kM P c f ms r
abbrev bm (n:Nat) (F:List MV→Option MV) (g:Nat→List MV→Option MV):Nat→List MV→Option MV:=fun k ms=>match Nat.beq k n with|true=>F ms|false=>g k ms
theorem aq.add {P:Program} {c:Ctx} {g:Nat→List MV→Option MV} {n:Nat} {F:List MV→Option MV} (h:aq P c g) (hF: ∀f ms r,c.key f=n→F ms=some r→kM P c f ms r):aq P c (bm n F g):=by
 refine ⟨fun f ms r hr=> ?_⟩
 unfold bm at hr
 cases hk:Nat.beq (c.key f) n with
 |true=>simp only [hk] at hr;exact hF f ms r (Nat.eq_of_beq_eq_true hk) hr
 |false=>simp only [hk] at hr;exact h.all f ms r hr
structure AE (c c':Ctx):Prop where
 ti:c'.ti=c.ti
 key:c'.key=c.key
 eo:c'.eo=c.eo
 fresh:c'.fresh=c.fresh
 rW:c'.rW=c.rW
 fk:c'.fk=c.fk
 mt:c'.mt=c.mt
 sig:c'.sig=c.sig
 Jl:c'.Jl=c.Jl
theorem db.oh {c c':Ctx} (h:c'.ti=c.ti) {Z:bM} {e:Env} {w:World} {v:Value} {o:nm} (hs:db c Z e w v o):db c' Z e w v o:=by
 obtain ⟨I,cells,h1,h2⟩:=hs.row
 exact ⟨I,cells,by rw [h];exact h1,h2⟩
theorem mM.oh {c c':Ctx} (h:AE c c') {Z:Nat→Prop} {φ:Ph} {w:World} {k:Nat} {v:Value} {r:MV} (hs:mM c Z φ w k v r):mM c' Z φ w k v r:=by
 cases r<;>simp only [mM,h.key,h.rW] at hs⊢ <;>first|exact hs|exact hs.oh h.ti
theorem nt.oh {c c':Ctx} (h:AE c c') {Z:Nat→Prop} {φ:Ph} {w:World} {bg:Nat} {ks:List LK} {ls:List MV} (hs:nt c Z φ w bg ks ls):nt c' Z φ w bg ks ls:=by
 obtain ⟨cs,m,E,arr,T,h1,h2,h3,h4,h5,h6,h7⟩:=hs
 refine ⟨cs,m,E,arr,T,h1,h2,h3,h4,by rw [h.key];exact h5,fun f o ho=>⟨?_,(h6 f o ho).2⟩,h7⟩
 rw [h.key]
 exact (h6 f o ho).1.oh h.ti
theorem zh.oh {c c':Ctx} (h:AE c c') {Z:Nat→Prop} {φ:Ph} {w:World} {k:Nat} {vs:List Value} {v:Value} {r:MV} (hs:zh c Z φ w k vs v r):zh c' Z φ w k vs v r:=by
 cases r<;>simp only [zh] at hs⊢ <;>first|exact hs.oh h|skip
 obtain ⟨h1,pos,ks,bg,off,h2,h3,h4⟩:=hs
 exact ⟨h1.oh h,pos,ks,bg,off,by rw [h.sig];exact h2,h3,h4.oh h⟩
theorem eR.oh {c c':Ctx} (h:AE c c') {Z:Nat→Prop} {φ:Ph} {w:World} {k:Nat} {vs:List Value} {ms:List MV} (hs:eR c' Z φ w k vs ms):eR c Z φ w k vs ms:=by
 unfold eR at hs⊢
 rw [h.eo] at hs
 split
 ·rename_i hg
  rw [if_pos hg] at hs
  rcases hs with ⟨v0,v1,v2,xs,m1,ys,h1,h2,h3,h4,h5,h6⟩|⟨v0,v1,v2,xs,m1,m2,h1,h2,h3,h4,h5,h6⟩|⟨pos,ks,off,ls,bg,h1,h2,h3,h4,h5⟩
  ·rw [h.key,h.rW] at h3 h5
   rw [h.key] at h4
   exact .inl ⟨v0,v1,v2,xs,m1,ys,h1,h2,h3.oh h.ti.symm,h4,h5.oh h.ti.symm,h6⟩
  ·rw [h.key,h.rW] at h4
   rw [h.key] at h5 h6
   exact .inr (.inl ⟨v0,v1,v2,xs,m1,m2,h1,h2,h3,h4.oh h.ti.symm,h5,h6⟩)
  ·refine .inr (.inr ⟨pos,ks,off,ls,bg,by rw [←h.sig];exact h1,h2,h3,by rw [←h.key];exact h4,?_⟩)
   obtain ⟨cs,m,E,arr,T,k1,k2,k3,k4,k5,k6,k7⟩:=h5
   refine ⟨cs,m,E,arr,T,k1,k2,k3,k4,by rw [←h.key];exact k5,fun f o ho=>⟨?_,(k6 f o ho).2⟩,k7⟩
   rw [←h.key]
   exact (k6 f o ho).1.oh h.ti.symm
 ·rename_i hg
  rw [if_neg hg,h.key] at hs
  exact hs
theorem fN.mono {P:Program} {f:FuncId} {args:Array Value} {w:World} {R R':Value→World→Prop} (hc:fN P f args w R) (h: ∀v w',R v w'→R' v w'):fN P f args w R':=by
 unfold fN at hc⊢
 split
 ·rename_i iV
  rw [iV] at hc
  exact Calls.mono hc (fun x xP ⟨v,e,hr⟩=>⟨v,e,h v xP hr⟩)
 ·rename_i iV
  rw [iV] at hc
  exact h _ _ hc
 ·rename_i h1 h2
  split at hc
  ·rename_i iV;exact absurd iV (h1 _ _ _)
  ·rename_i iV;exact absurd iV (h2 _ _)
  ·exact hc
theorem kM.oh {P:Program} {c c':Ctx} {f:Nat} {ms:List MV} {r:MV} (h:AE c c') (hs:kM P c f ms r):kM P c' f ms r:=by
 intro φ w Z vs hz ha hi
 rw [h.key] at ha
 refine (hs φ w Z vs hz (ha.oh h) hi).mono ?_
 rintro v w' ⟨φ',h1,h2,h3⟩
 rw [h.key]
 exact ⟨φ',h1,h2,h3.oh h⟩
theorem AE.symm {c c':Ctx} (h:AE c c'):AE c' c:=⟨h.ti.symm,h.key.symm,h.eo.symm,h.fresh.symm,h.rW.symm,h.fk.symm,h.mt.symm,h.sig.symm,h.Jl.symm⟩
theorem vd.oh {P:Program} {c c':Ctx} (h:AE c c') {g:Nat} {lb:Array Value} {S:Type} {Inv:S→(Nat→Prop)→Ph→World→Prop} {step:S→MV→Option (Bool×S)} (hp:vd P c' g lb Inv step):vd P c g lb Inv step:=
 ⟨fun h1 h2 h3 h4 h5=>hp.call h1 h2 h3 (by rw [h.key];exact h4) h5,hp.frame,hp.mono⟩
theorem ve.oh {P:Program} {c c':Ctx} (h:AE c c') (hd:ve P c):ve P c':=by
 intro f hf
 rw [h.Jl] at hf
 have hx:=hd f hf
 refine ⟨?_⟩
 intro S Inv step g lb hp v0 xs ys w Z0 φ0 s0 s' h1 h2 h3 h4 h5 h6 h7
 rw [h.key,h.rW] at h2
 refine (hx.run (hp.oh h) h1 (h2.oh h.ti.symm) h3 h4 h5 h6 h7).mono ?_
 rintro v W ⟨Z,φ,hW,hF,hb⟩
 refine ⟨Z,φ,⟨hW.inv,hW.new,hW.sub,hW.nT,hW.tr,hW.free⟩,?_,hb⟩
 rw [h.key,h.rW]
 exact hF.oh h.ti
def LO (c:Ctx) (n:Nat) (fn:Func) (b6:List (List Kd)):Bool:=
 !(fn.name== "runtime.NumGoroutine")&&Nat.beq c.n fn.ntmps&&Nat.ble (fn.params.size+b6.length) fn.ntmps&&!c.eo n
theorem aq.body {P:Program} {c c':Ctx} {g:Nat→List MV→Option MV} {n:Nat} {fn:Func} {b6:List (List Kd)} (h:aq P c g) (hl:AE c c') (hgg:c'.g=g) (rX:kK P c.ti) (iV:Nw P c.ti) (Jz: ∀t k,c.fk t=some k→P.underlying t=some (.float k)) (PL:BS P c) (LN:P.follows .mixedOrders=true) (E0:ve P c)
 (hf:P.funcs[n]? =some fn) (hh:LO c' n fn b6=true) (Ap: ∀f,c.key f=f):aq P c (bm n (HT c' b6 none fn) g):=by
 have hG:Good P c':=by
  refine ⟨by rw [hl.ti];exact rX,by rw [hl.ti];exact iV,fun f ms r hr=> ?_,by rw [hl.fk];exact Jz,fun t s hs=>PL t s ?_⟩
  ·rw [hgg,hl.key] at hr
   exact (h.all f ms r hr).oh hl
  ·rw [←hs];unfold uJ Ctx.tv;rw [hl.mt,hl.ti]
 refine h.add (fun f ms r hk hr=> ?_)
 rw [Ap] at hk
 subst hk
 simp only [LO,Bool.and_eq_true,Bool.not_eq_true'] at hh
 obtain ⟨⟨⟨h1,h2⟩,h3⟩,h4⟩:=hh
 exact (XO hG (LM hG LN (E0.oh hl)) hf h1 (Nat.eq_of_beq_eq_true h2) (Nat.le_of_ble_eq_true h3) (by rw [hl.key,Ap];exact h4) hr).oh hl.symm
def PX (c:Ctx) (n:Nat) (fn:Func) (b6:List (List Kd)):Bool:=
 !(fn.name== "runtime.NumGoroutine")&&Nat.beq c.n fn.ntmps&&Nat.ble fn.ntmps 1000000&&Nat.ble (fn.params.size+b6.length) fn.ntmps&&c.eo n
theorem aq.M6 {P:Program} {c:Ctx} {g:Nat→List MV→Option MV} {n pos:Nat} {ks:List LK} {fn:Func} {b6:List (List Kd)} {F:List MV→Option MV} (h:aq P c g) (rX:kK P c.ti) (iV:Nw P c.ti) (Jz: ∀t k,c.fk t=some k→P.underlying t=some (.float k)) (PL:BS P c) (LN:P.follows .mixedOrders=true) (E0:ve P c)
 (hf:P.funcs[n]? =some fn) (yK:c.sig n=some (pos,ks)) (Ap: ∀f,c.key f=f) (hF: ∀{ms r},F ms=some r→ ∃c':Ctx,AE c c'∧c'.g=g∧PX c' n fn b6=true∧HS c' b6 pos ks fn ms=some r):aq P c (bm n F g):=by
 refine h.add (fun f ms r hk hr=> ?_)
 rw [Ap] at hk
 subst hk
 obtain ⟨c',hl,hgg,hh,hr⟩:=hF hr
 have hG:Good P c':=by
  refine ⟨by rw [hl.ti];exact rX,by rw [hl.ti];exact iV,fun f ms r hr=> ?_,by rw [hl.fk];exact Jz,fun t s hs=>PL t s ?_⟩
  ·rw [hgg,hl.key] at hr
   exact (h.all f ms r hr).oh hl
  ·rw [←hs];unfold uJ Ctx.tv;rw [hl.mt,hl.ti]
 simp only [PX,Bool.and_eq_true,Bool.not_eq_true'] at hh
 obtain ⟨⟨⟨⟨h1,h2⟩,K7⟩,h3⟩,h4⟩:=hh
 exact (UH hG (LM hG LN (E0.oh hl)) hf h1 (Nat.eq_of_beq_eq_true h2) (Nat.le_of_ble_eq_true K7) (Nat.le_of_ble_eq_true h3) (by rw [hl.key,Ap];exact h4) (by rw [hl.sig,hl.key,Ap];exact yK) hr).oh hl.symm
end Dn
/-
  Steps through a function of the library by hand. Conditions: none.
-/
set_option linter.unusedSimpArgs false
set_option linter.unusedVariables false
namespace Dn
open Go
def xe (σ:Nat→Value) (d:Nat) (v:Value):Nat→Value:=fun t=>bif Nat.beq t d then v else σ t
def ev (σ:Nat→Value):Operand→Value
 | .tmp t=>σ t
 | .const v=>v
 | .global g=> .pointer (some ⟨g,0,none⟩)
 | .func f=> .func (.func f) #[] #[]
structure Tm (a:Act) (n:Nat) (σ:Nat→Value):Prop where
 defers:a.defers=[]
 size:a.tmps.size=n
 get: ∀t,a.tmps.getD t undef=σ t
theorem Tm.eval {a:Act} {n:Nat} {σ:Nat→Value} (h:Tm a n σ):a.eval=ev σ:=by
 funext x
 cases x with
 |tmp t=>exact h.get t
 |_=>rfl
theorem Tm.put {a:Act} {n:Nat} {σ:Nat→Value} (h:Tm a n σ) {d:Nat} (hd:d<n) (v:Value):Tm (a.put (some d) v) n (xe σ d v):=by
 refine ⟨h.defers,by simp [Act.put,h.size],fun t=> ?_⟩
 show (a.tmps.setIfInBounds d v).getD t undef=bif Nat.beq t d then v else σ t
 by_cases ht:t=d
 ·subst ht
  have:t<a.tmps.size:=by rw [h.size];exact hd
  simp [this]
 ·have hb:Nat.beq t d=false:=by
   cases hq:Nat.beq t d with
   |false=>rfl
   |true=>exact absurd (Nat.eq_of_beq_eq_true hq) ht
  rw [hb]
  have:=h.get t
  simp only [Array.getD_eq_getD_getElem?,Array.getElem?_setIfInBounds_ne (Ne.symm ht),cond_false] at this⊢
  exact this
theorem tm3 (v0 v1 v2:Value) (k:Nat):Tm {tmps:= #[v0,v1,v2]++Array.replicate k undef,defers:=[]} (k+3) (xe (xe (xe (fun _=>undef) 0 v0) 1 v1) 2 v2):=by
 refine ⟨rfl,by simp [Nat.add_comm],fun q=> ?_⟩
 by_cases h0:q=0
 ·subst h0;show (#[v0,v1,v2]++Array.replicate k undef).getD 0 undef=v0;simp [Array.getElem?_append]
 by_cases h1:q=1
 ·subst h1;show (#[v0,v1,v2]++Array.replicate k undef).getD 1 undef=v1;simp [Array.getElem?_append]
 by_cases h2:q=2
 ·subst h2;show (#[v0,v1,v2]++Array.replicate k undef).getD 2 undef=v2;simp [Array.getElem?_append]
 have e: ∀{x y:Nat},x≠y→Nat.beq x y=false:=fun {x y} h=>by
  cases hq:Nat.beq x y with
  |false=>rfl
  |true=>exact absurd (Nat.eq_of_beq_eq_true hq) h
 simp only [xe,e h0,e h1,e h2,cond_false]
 have h3:3≤q:=by omega
 simp [Array.getElem?_append,Array.getElem?_replicate,show¬q<3 by omega]
 by_cases hk:q-3<k<;>simp [hk]
section
variable {P:Program} {Q:Exit→Act→World→Prop} {ops:Array Oper} {o:Oper} {a:Act} {w w':World} {n:Nat} {σ:Nat→Value}
theorem Tm.step {i d:Nat} {op:Op} {rest:List Nat} {v:Value} (aE:Tm a n σ) (hi:ops[i]? =some o) (ho:aR o d op) (hd:d<n) (bT:(execOp (ev σ) o).run P w= .ok (.value v) w')
 (h: ∀a',Tm a' n (xe σ d v)→wpOps P ops Q rest a' w'):wpOps P ops Q (i::rest) a w:=by
 refine tl hi ho.guard (v:=v) (w':=w') (by rw [aE.eval];exact bT) ?_
 rw [ho.dst]
 exact h _ (aE.put hd v)
theorem aQ {d:Nat} {x:Operand} {e:Operand→Value} (ho:aR o d (.move x)) (w:World):(execOp e o).run P w= .ok (.value (e x)) w:=by simp [execOp,ho.op]
theorem cP {d:Nat} {x:Operand} {e:Operand→Value} (ho:aR o d (.assign x)) (w:World):(execOp e o).run P w= .ok (.value (e x)) w:=by simp [execOp,ho.op]
theorem mB {d:Nat} {t el:TypeId} {x:Operand} {e:Operand→Value} {ad:Option Addr} {m c:Nat} (ho:aR o d (.call {callee:= .builtin .len,args:= #[x],argTypes:= #[t]})) (hu:P.underlying t=some (.slice el)) (hx:e x= .slice ad m c) (w:World):
 (execOp e o).run P w= .ok (.value (.int .i64 m)) w:=by simp [execOp,ho.op,resolve,invoke,builtin,hx,Builtin.len_,goInt,run_underlying hu]
theorem PY {d:Nat} {t el:TypeId} {x:Operand} {e:Operand→Value} {ad:Option Addr} {m c:Nat} (ho:aR o d (.call {callee:= .builtin .cap,args:= #[x],argTypes:= #[t]})) (hu:P.underlying t=some (.slice el)) (hx:e x= .slice ad m c) (w:World):
 (execOp e o).run P w= .ok (.value (.int .i64 c)) w:=by simp [execOp,ho.op,resolve,invoke,builtin,hx,Builtin.cap_,goInt,run_underlying hu]
theorem xf {d:Nat} {op:BinOp} {t t':TypeId} {x y:Operand} {e:Operand→Value} {k:IntKind} {p q:Int} {v:Value} (ho:aR o d (.binOp op t x y t')) (hx:e x= .int k p) (hy:e y= .int k q)
 (hv: ∀w:World,(Go.binOp op t (.int k p) (.int k q)).run P w= .ok v w) (w:World):(execOp e o).run P w= .ok (.value v) w:=by
 have hg:(eqGuard op t x y (.int k p) (.int k q)).run P w= .ok () w:=by cases op<;>rfl
 simp [execOp,ho.op,hx,hy,hg,hv]
theorem oO {d:Nat} {t t':TypeId} {x y:Operand} {e:Operand→Value} {p q:Int} (ho:aR o d (.binOp .eql t x y t')) (hx:e x= .int .i64 p) (hy:e y= .int .i64 q) (w:World):
 (execOp e o).run P w= .ok (.value (.bool (decide (p=q)))) w:=xf ho hx hy (fun w=>by simp [Go.binOp,Op.intCmp];rfl) w
theorem LP {d:Nat} {t t':TypeId} {x y:Operand} {e:Operand→Value} {p q:Int} (ho:aR o d (.binOp .gtr t x y t')) (hx:e x= .int .i64 p) (hy:e y= .int .i64 q) (w:World):
 (execOp e o).run P w= .ok (.value (.bool (decide (q<p)))) w:=xf ho hx hy (fun w=>by simp [Go.binOp,Op.intCmp]) w
theorem jR {d:Nat} {t t':TypeId} {x y:Operand} {e:Operand→Value} {p q:Nat} (ho:aR o d (.binOp .add t x y t')) (hx:e x= .int .i64 p) (hy:e y= .int .i64 q) (hl:p+q<2^63) (w:World):
 (execOp e o).run P w= .ok (.value (.int .i64 ((p+q:Nat):Int))) w:=xf ho hx hy (fun w=>by
  have:IntKind.i64.wrap ((p:Int)+(q:Int))=((p+q:Nat):Int):=by rw [IntKind.wrap_i64];omega
  simp [Go.binOp,Op.intArith,this]) w
theorem US {d:Nat} {t t':TypeId} {x y:Operand} {e:Operand→Value} {p q:Nat} (ho:aR o d (.binOp .sub t x y t')) (hx:e x= .int .i64 p) (hy:e y= .int .i64 q) (hl:p<2^63) (hq:q≤p) (w:World):
 (execOp e o).run P w= .ok (.value (.int .i64 ((p-q:Nat):Int))) w:=xf ho hx hy (fun w=>by
  have:IntKind.i64.wrap ((p:Int)-(q:Int))=((p-q:Nat):Int):=by rw [IntKind.wrap_i64];omega
  simp [Go.binOp,Op.intArith,this]) w
theorem PZ {d:Nat} {t:TypeId} {x:Operand} {e:Operand→Value} {b:Bool} (ho:aR o d (.unOp .not t x)) (hx:e x= .bool b) (w:World):
 (execOp e o).run P w= .ok (.value (.bool (!b))) w:=by simp [execOp,ho.op,hx,Op.unary]
theorem xg {d:Nat} {t el:TypeId} {x y:Operand} {e:Operand→Value} {ad:Option Addr} {m c l size:Nat} {i:TypeInfo} (ho:aR o d (.slice t x (some y) none none)) (hu:P.underlying t=some (.slice el)) (hi:P.info? el=some i) (hs:i.size=size)
 (hx:e x= .slice ad m c) (hy:e y= .int .i64 l) (hl:l≤m) (w:World):(execOp e o).run P w= .ok (.value (.slice (if c=l then ad else ad.map (·.add (l *size))) (m-l) (c-l))) w:=by
 simp [execOp,ho.op,Instr.sliceAt,Instr.slice,run_underlying hu,hx,hy,Go.sizeOf,typeInfo,hi,hs,Instr.sliceBounds,Instr.sliceBound,asIntOf,hl]
theorem AF {d:Nat} {t el:TypeId} {x y:Operand} {e:Operand→Value} {ad:Option Addr} {m c l size:Nat} {i:TypeInfo} (ho:aR o d (.slice t x none (some y) none)) (hu:P.underlying t=some (.slice el)) (hi:P.info? el=some i) (hs:i.size=size)
 (hx:e x= .slice ad m c) (hy:e y= .int .i64 l) (hl:l≤c) (w:World):(execOp e o).run P w= .ok (.value (.slice ad l c)) w:=by
 have h0: ∀q:Addr,q.add 0=q:=fun q=>by obtain ⟨b,o,s⟩:=q;cases s<;>simp [Addr.add]
 have:(if c=0 then ad else ad.map (·.add (0 *size)))=ad:=by
  cases ad<;>simp [h0]
 simp [execOp,ho.op,Instr.sliceAt,Instr.slice,run_underlying hu,hx,hy,Go.sizeOf,typeInfo,hi,hs,Instr.sliceBounds,Instr.sliceBound,asIntOf,hl]
 cases ad<;>simp [h0]
theorem mZ {d:Nat} {t el:TypeId} {x y:Operand} {e:Operand→Value} {g m c l size:Nat} {i:TypeInfo} (ho:aR o d (.slice t x (some y) none none)) (hu:P.underlying t=some (.slice el)) (hi:P.info? el=some i) (hs:i.size=size)
 (hx:e x= .slice (some ⟨g,0,none⟩) m c) (hy:e y= .int .i64 l) (hl:l≤m) (hc:l<c) (w:World):(execOp e o).run P w= .ok (.value (.slice (some ⟨g,l *size,none⟩) (m-l) (c-l))) w:=by
 rw [xg ho hu hi hs hx hy hl w]
 have: ¬c=l:=by omega
 have h0:(⟨g,0,none⟩:Addr).add (l *size)=⟨g,l *size,none⟩:=by
  have:=Addr.add_mid g 0 (l *size)
  rwa [Nat.zero_add] at this
 simp [this,h0]
theorem X7 {d:Nat} {x y:Operand} {t1 t2:TypeId} {f:FuncId} {e:Operand→Value} {v1 v2 v:Value} (ho:aR o d (.call {callee:= .value (.func f),args:= #[x,y],argTypes:= #[t1,t2]})) (he:e (.func f)= .func (.func f) #[] #[]) (hx:e x=v1) (hy:e y=v2)
 (h:(callFunc f #[v1,v2]).run P w= .ok (.value v) w'):(execOp e o).run P w= .ok (.value v) w':=by
 simp [execOp,ho.op,resolve,invoke,builtin,he,hx,hy,Deferred.ofValue,h]
theorem Fe {d:Nat} {x y:Operand} {t1 t2:TypeId} {e:Operand→Value} {v1 v2 v:Value} (ho:aR o d (.call {callee:= .builtin .append,args:= #[x,y],argTypes:= #[t1,t2]})) (hx:e x=v1) (hy:e y=v2)
 (h:(Builtin.append_ #[t1,t2] o.type #[v1,v2]).run P w= .ok v w'):(execOp e o).run P w= .ok (.value v) w':=by
 simp [execOp,ho.op,resolve,invoke,builtin,hx,hy,h]
theorem AG {d:Nat} {x y:Operand} {t1 t2:TypeId} {e:Operand→Value} {v1 v2 v:Value} (ho:aR o d (.call {callee:= .builtin .copy,args:= #[x,y],argTypes:= #[t1,t2]})) (hx:e x=v1) (hy:e y=v2)
 (h:(Builtin.copy_ #[t1,t2] o.type #[v1,v2]).run P w= .ok v w'):(execOp e o).run P w= .ok (.value v) w':=by
 simp [execOp,ho.op,resolve,invoke,builtin,hx,hy,h]
theorem oP {dT sT ty elem t:TypeId} {g o X8 abL X9 abM size k:Nat} {a:Addr} {di:Array Value} {cs:List Value} {i:TypeInfo} (hu:P.underlying dT=some (.slice elem)) (hi:P.info? elem=some i) (hs:i.size=size)
 (hg:w.heap[g]? =some (.cells di t (0,0))) (hk:Nat.min X9 X8=k) (hn:cs.length=k *size)
 (tO: ∀(j:Nat) v,cs[j]? =some v→w.cell? (a.add j)=some v) (wX:o+cs.length≤di.size) (h1: ∀v∈cs,v.oneCell'=true):
 (Builtin.copy_ #[dT,sT] ty #[.slice (some ⟨g,o,none⟩) X8 abL,.slice (some a) X9 abM]).run P w=
  .ok (goInt k) (w.setRow g (di.toList.take o++cs++di.toList.drop (o+cs.length)).toArray):=by
 have hl:=run_loadCells_list (P:=P) w a cs tO
 have ek:=run_storeCells_at P g o t cs 0 di w hg (by simpa using wX) h1
 simp only [Nat.add_zero] at ek
 simp [Builtin.copy_,run_underlying hu,Builtin.lenOf,Builtin.firstCells,Go.sizeOf,typeInfo,hi,hs,hk,←hn,hl,ek]
def LQ (ops:Array Oper):Nat→Nat→Array Bool→Bool
 |0,i,listed=>(Region.ready .any ops (listed.setIfInBounds i true)).isEmpty&&(Region.ready .any ops listed==[i])
 |k+1,i,listed=>Region.free .any ops listed i&&(Region.ready .any ops listed).contains i&&LQ ops k (i+1) (listed.setIfInBounds i true)
def P0 (ops:Array Oper):Bool:=Region.noSelect ops&&Nat.blt 0 ops.size&&LQ ops (ops.size-1) 0 (Array.replicate ops.size false)
structure P1 (ops:Array Oper) (k i:Nat) (listed:Array Bool):Prop where
 sel:Region.noSelect ops=true
 ord:LQ ops k i listed=true
theorem Tm.draw {N:Act→World→Prop} {i d:Nat} {op:Op} {k:Nat} {listed:Array Bool} {v:Value} (aE:Tm a n σ) (hi:ops[i]? =some o) (ho:aR o d op) (hd:d<n) (hb:P1 ops (k+1) i listed) (bT: ∀w,(execOp (ev σ) o).run P w= .ok (.value v) w)
 (h: ∀a',Tm a' n (xe σ d v)→P1 ops k (i+1) (listed.setIfInBounds i true)→wpAny P .any ops (qm N) (k+1) (listed.setIfInBounds i true) a' w):wpAny P .any ops (qm N) (k+2) listed a w:=by
 obtain ⟨hs,hb⟩:=hb
 simp only [LQ,Bool.and_eq_true] at hb
 obtain ⟨⟨h1,h2⟩,h3⟩:=hb
 refine wpAny_take hi hs h1 h2 (fun c a w hq=>hq.elim) (v:=v) (.inl ⟨by simp [Region.wanted,ho.guard],fun w=>by rw [aE.eval];exact bT w⟩) ?_
 rw [ho.dst]
 exact h _ (aE.put hd v) ⟨hs,h3⟩
theorem Tm.last {N:Act→World→Prop} {i d:Nat} {op:Op} {listed:Array Bool} {v:Value} (aE:Tm a n σ) (hi:ops[i]? =some o) (ho:aR o d op) (hd:d<n) (hb:P1 ops 0 i listed) (bT:(execOp (ev σ) o).run P w= .ok (.value v) w')
 (h: ∀a',Tm a' n (xe σ d v)→N a' w'):wpAny P .any ops (qm N) 1 listed a w:=by
 obtain ⟨hs,hb⟩:=hb
 simp only [LQ,Bool.and_eq_true,List.isEmpty_iff,beq_iff_eq] at hb
 obtain ⟨h1,h2⟩:=hb
 refine wpAny_all h2 (by simp) ?_
 intro j hj
 simp only [List.mem_singleton] at hj
 subst hj
 unfold wpOp
 simp only [hi,Region.wanted,ho.guard,if_true]
 left
 unfold Oper.wp
 rw [aE.eval,bT,Oper.upon_value,ho.dst]
 exact wpAny_done h1 (h _ (aE.put hd v)) 0
theorem P2 {id k:Nat} (hm:P.follows .mixedOrders=true) (hb:P0 ops=true) (hk:ops.size=k+1) (h:P1 ops k 0 (Array.replicate (k+1) false)→wpAny P .any ops (qm fun a w=>Q .normal a w) (k+1) (Array.replicate (k+1) false) a {w with drawn:=w.drawn+1}):
 (Code.region id ops true).wp P Q a w:=by
 simp only [P0,Bool.and_eq_true] at hb
 rw [hk] at hb
 refine Code.wp_mono ?_ (wp_region_any (Q:=qm fun a w=>Q .normal a w) hm (by rw [hk];exact h ⟨hb.1.1,hb.2⟩))
 intro x a' w' hx
 cases x<;>first|exact hx|exact hx.elim
theorem Tm.cond {x:Operand} {b:Bool} {A B:Code} (aE:Tm a n σ) (hx:ev σ x= .bool b) (h:(if b then A else B).wp P Q a w):(Code.cond x A B).wp P Q a w:=by
 refine wp_cond (t:=b) (by rw [aE.eval];exact hx) h
end
end Dn
/-
  slices.Insert of the library, walked. Printed by a program. Conditions: none.
-/
set_option linter.unusedSimpArgs false
set_option linter.unusedVariables false
namespace Dn
open Go
def vf (r:Nat→Nat) (o:Nat→Oper) (tail:Code):Code:=
 .seq (.region (r 0) #[o 0] false) (.seq (.region (r 1) #[o 1,o 2,o 3] false) (.seq (.region (r 2) #[o 4,o 5,o 6] false) (.seq (.seq (.region (r 3) #[o 7,o 8] false) (.cond (.tmp 16) (.seq (.region (r 4) #[o 9,o 10] false) .ret) .skip)) (.seq (.region (r 5) #[o 11,o 12,o 13] false) (.seq (.seq (.region (r 6) #[o 14,o 15,o 16] false) (.cond (.tmp 22) (.seq (.region (r 7) #[o 17,o 18,o 19,o 20] false) .ret) .skip)) (.seq (.seq (.region (r 8) #[o 21,o 22,o 23,o 24,o 25,o 26] false) (.cond (.tmp 31) (.seq (.region (r 9) #[o 27,o 28,o 29,o 30,o 31,o 32,o 33,o 34,o 35,o 36] false) (.seq (.region (r 10) #[o 37,o 38,o 39,o 40,o 41] false) (.seq (.region (r 11) #[o 42,o 43,o 44,o 45,o 46,o 47,o 48,o 49,o 50] true) (.seq (.region (r 12) #[o 51,o 52] false) .ret)))) .skip)) (.seq (.region (r 13) #[o 53,o 54,o 55,o 56,o 57,o 58] false) (.seq (.seq (.region (r 14) #[o 59,o 60,o 61,o 62,o 63,o 64,o 65,o 66] false) (.cond (.tmp 68) (.seq (.region (r 15) #[o 67,o 68,o 69,o 70,o 71,o 72,o 73,o 74,o 75] true) (.seq (.region (r 16) #[o 76,o 77,o 78,o 79,o 80] false) (.seq (.region (r 17) #[o 81,o 82] false) .ret))) .skip)) tail))))))))
structure abN (t ti tb fo:Nat) (o:Nat→Oper):Prop where
 h0:aR (o 0) 6 (.assign (.const (.slice none 0 0)))
 h1:aR (o 1) 10 (.move (.tmp 0))
 h2:aR (o 2) 11 (.move (.tmp 1))
 h3:aR (o 3) 12 (.slice t (.tmp 10) (some (.tmp 11)) none none)
 h4:aR (o 4) 13 (.move (.tmp 2))
 h5:aR (o 5) 14 (.call {callee:= .builtin .len,args:= #[.tmp 13],argTypes:= #[t]})
 h6:aR (o 6) 7 (.assign (.tmp 14))
 h7:aR (o 7) 15 (.move (.tmp 7))
 h8:aR (o 8) 16 (.binOp .eql ti (.tmp 15) (.const (.int .i64 0)) ti)
 h9:aR (o 9) 17 (.move (.tmp 0))
 PO:aR (o 10) 6 (.assign (.tmp 17))
 N7:aR (o 11) 18 (.move (.tmp 0))
 N8:aR (o 12) 19 (.call {callee:= .builtin .len,args:= #[.tmp 18],argTypes:= #[t]})
 N9:aR (o 13) 8 (.assign (.tmp 19))
 Oa:aR (o 14) 20 (.move (.tmp 1))
 Ob:aR (o 15) 21 (.move (.tmp 8))
 Oc:aR (o 16) 22 (.binOp .eql ti (.tmp 20) (.tmp 21) ti)
 UT:aR (o 17) 23 (.move (.tmp 0))
 h18:aR (o 18) 24 (.move (.tmp 2))
 h19:aR (o 19) 25 (.call {callee:= .builtin .append,args:= #[.tmp 23,.tmp 24],argTypes:= #[t,t]})
 h20:aR (o 20) 6 (.assign (.tmp 25))
 WY:aR (o 21) 26 (.move (.tmp 8))
 WZ:aR (o 22) 27 (.move (.tmp 7))
 W0:aR (o 23) 28 (.binOp .add ti (.tmp 26) (.tmp 27) ti)
 W5:aR (o 24) 29 (.move (.tmp 0))
 W6:aR (o 25) 30 (.call {callee:= .builtin .cap,args:= #[.tmp 29],argTypes:= #[t]})
 W7:aR (o 26) 31 (.binOp .gtr ti (.tmp 28) (.tmp 30) ti)
 h27:aR (o 27) 32 (.move (.tmp 0))
 h28:aR (o 28) 33 (.move (.tmp 1))
 h29:aR (o 29) 34 (.slice t (.tmp 32) none (some (.tmp 33)) none)
 UU:aR (o 30) 35 (.move (.tmp 8))
 h31:aR (o 31) 36 (.move (.tmp 7))
 h32:aR (o 32) 37 (.binOp .add ti (.tmp 35) (.tmp 36) ti)
 h33:aR (o 33) 38 (.move (.tmp 1))
 h34:aR (o 34) 39 (.binOp .sub ti (.tmp 37) (.tmp 38) ti)
 h35:aR (o 35) 40 (.call {callee:= .builtin .append,args:= #[.tmp 34,.tmp 39],argTypes:= #[t,ti]})
 h36:aR (o 36) 9 (.assign (.tmp 40))
 h37:aR (o 37) 41 (.move (.tmp 9))
 h38:aR (o 38) 42 (.move (.tmp 1))
 h39:aR (o 39) 43 (.slice t (.tmp 41) (some (.tmp 42)) none none)
 h40:aR (o 40) 44 (.move (.tmp 2))
 h41:aR (o 41) 45 (.call {callee:= .builtin .copy,args:= #[.tmp 43,.tmp 44],argTypes:= #[t,t]})
 h42:aR (o 42) 46 (.move (.tmp 9))
 h43:aR (o 43) 47 (.move (.tmp 1))
 h44:aR (o 44) 48 (.move (.tmp 7))
 h45:aR (o 45) 49 (.binOp .add ti (.tmp 47) (.tmp 48) ti)
 h46:aR (o 46) 50 (.slice t (.tmp 46) (some (.tmp 49)) none none)
 h47:aR (o 47) 51 (.move (.tmp 0))
 h48:aR (o 48) 52 (.move (.tmp 1))
 h49:aR (o 49) 53 (.slice t (.tmp 51) (some (.tmp 52)) none none)
 h50:aR (o 50) 54 (.call {callee:= .builtin .copy,args:= #[.tmp 50,.tmp 53],argTypes:= #[t,t]})
 h51:aR (o 51) 55 (.move (.tmp 9))
 h52:aR (o 52) 6 (.assign (.tmp 55))
 h53:aR (o 53) 56 (.move (.tmp 0))
 h54:aR (o 54) 57 (.move (.tmp 8))
 h55:aR (o 55) 58 (.move (.tmp 7))
 h56:aR (o 56) 59 (.binOp .add ti (.tmp 57) (.tmp 58) ti)
 h57:aR (o 57) 60 (.slice t (.tmp 56) none (some (.tmp 59)) none)
 h58:aR (o 58) 0 (.assign (.tmp 60))
 h59:aR (o 59) 61 (.move (.tmp 2))
 h60:aR (o 60) 62 (.move (.tmp 0))
 h61:aR (o 61) 63 (.move (.tmp 1))
 h62:aR (o 62) 64 (.move (.tmp 7))
 h63:aR (o 63) 65 (.binOp .add ti (.tmp 63) (.tmp 64) ti)
 h64:aR (o 64) 66 (.slice t (.tmp 62) (some (.tmp 65)) none none)
 h65:aR (o 65) 67 (.call {callee:= .value (.func fo),args:= #[.tmp 61,.tmp 66],argTypes:= #[t,t]})
 h66:aR (o 66) 68 (.unOp .not tb (.tmp 67))
 h67:aR (o 67) 69 (.move (.tmp 0))
 h68:aR (o 68) 70 (.move (.tmp 1))
 h69:aR (o 69) 71 (.move (.tmp 7))
 h70:aR (o 70) 72 (.binOp .add ti (.tmp 70) (.tmp 71) ti)
 h71:aR (o 71) 73 (.slice t (.tmp 69) (some (.tmp 72)) none none)
 h72:aR (o 72) 74 (.move (.tmp 0))
 h73:aR (o 73) 75 (.move (.tmp 1))
 h74:aR (o 74) 76 (.slice t (.tmp 74) (some (.tmp 75)) none none)
 h75:aR (o 75) 77 (.call {callee:= .builtin .copy,args:= #[.tmp 73,.tmp 76],argTypes:= #[t,t]})
 h76:aR (o 76) 78 (.move (.tmp 0))
 h77:aR (o 77) 79 (.move (.tmp 1))
 h78:aR (o 78) 80 (.slice t (.tmp 78) (some (.tmp 79)) none none)
 h79:aR (o 79) 81 (.move (.tmp 2))
 h80:aR (o 80) 82 (.call {callee:= .builtin .copy,args:= #[.tmp 80,.tmp 81],argTypes:= #[t,t]})
 h81:aR (o 81) 83 (.move (.tmp 0))
 h82:aR (o 82) 6 (.assign (.tmp 83))
 d11:P0 #[o 42,o 43,o 44,o 45,o 46,o 47,o 48,o 49,o 50]=true
 d15:P0 #[o 67,o 68,o 69,o 70,o 71,o 72,o 73,o 74,o 75]=true
structure Ff (P:Program) (f t ti tb el fo:Nat) (fn:Func) (r:Nat→Nat) (o:Nat→Oper) (tail:Code):Prop where
 pos:P.funcs[f]? =some fn
 name:(fn.name== "runtime.NumGoroutine")=false
 tmps:fn.ntmps=95
 res:fn.results= #[.tmp 6]
 body:fn.body=some (vf r o tail)
 ops:abN t ti tb fo o
 mix:P.follows .mixedOrders=true
 uG:P.underlying t=some (.slice el)
section
variable {P:Program} {f t ti tb el fo:Nat} {fn:Func} {r:Nat→Nat} {o:Nat→Oper} {tail:Code} {ie:TypeInfo} {size n m c c2 i g g2:Nat} {ad:Option Addr} {w:World}
theorem J0 {a:Act} {w:World} {σ:Nat→Value} {R:Ending→World→Prop} {v:Value} (hr:fn.results= #[.tmp 6]) (aE:Tm a 95 σ) (h6:σ 6=v) (h:R (.returned v) w):bodyPost P fn R .ret a w:=by
 refine ⟨aE.defers,v,?_,h⟩
 have h2:a.tmps[6]?.getD undef=v:=by have:=aE.get 6;rw [h6] at this;simpa using this
 simp [results,hr,h2]
theorem Ya (hf:Ff P f t ti tb el fo fn r o tail) (nU:P.info? el=some ie) (tm:ie.size=size) (hm:0<m) (hn:n≤c) (hc:c<2^63) (hnm:n+m<2^63) (hi:i=n) {v:Value} {w1:World} (bT: ∀ty,(Builtin.append_ #[t,t] ty #[.slice ad n c,.slice (some ⟨g2,0,none⟩) m c2]).run P w= .ok v w1)
 :Calls P f #[.slice ad n c,.int .i64 ((i:Nat):Int),.slice (some ⟨g2,0,none⟩) m c2] w fun x w'=>x= .returned v∧w'=w1:=by
 refine calls_of_wp hf.pos hf.body ?_
 rw [hf.tmps]
 have key: ∀a:Act,Tm a 95 (xe (xe (xe (fun _=>undef) 0 (.slice ad n c)) 1 (.int .i64 ((i:Nat):Int))) 2 (.slice (some ⟨g2,0,none⟩) m c2))→(vf r o tail).wp P (bodyPost P fn fun x w'=>x= .returned v∧w'=w1) a w:=by
  intro a aE
  unfold vf
  refine wp_seq (wp_region ?_)
  rw [show List.range (#[o 0]:Array Oper).size=[0] from rfl]
  refine aE.step (v:= .slice none 0 0) rfl hf.ops.h0 (by decide) (cP hf.ops.h0 _) (fun a aE=> ?_)
  refine wp_seq (wp_region ?_)
  rw [show List.range (#[o 1,o 2,o 3]:Array Oper).size=[0,1,2] from rfl]
  refine aE.step (v:= .slice ad n c) rfl hf.ops.h1 (by decide) (aQ hf.ops.h1 _) (fun a aE=> ?_)
  refine aE.step (v:= .int .i64 ((i:Nat):Int)) rfl hf.ops.h2 (by decide) (aQ hf.ops.h2 _) (fun a aE=> ?_)
  refine aE.step (v:= .slice (if c=i then ad else (ad:Option Addr).map (·.add (i *size))) (n-i) (c-i)) rfl hf.ops.h3 (by decide) (xg hf.ops.h3 hf.uG nU tm rfl rfl (by omega) _) (fun a aE=> ?_)
  refine wp_seq (wp_region ?_)
  rw [show List.range (#[o 4,o 5,o 6]:Array Oper).size=[0,1,2] from rfl]
  refine aE.step (v:= .slice (some ⟨g2,0,none⟩) m c2) rfl hf.ops.h4 (by decide) (aQ hf.ops.h4 _) (fun a aE=> ?_)
  refine aE.step (v:= .int .i64 ((m:Nat):Int)) rfl hf.ops.h5 (by decide) (mB hf.ops.h5 hf.uG rfl _) (fun a aE=> ?_)
  refine aE.step (v:= .int .i64 ((m:Nat):Int)) rfl hf.ops.h6 (by decide) (cP hf.ops.h6 _) (fun a aE=> ?_)
  refine wp_seq ?_
  refine wp_seq (wp_region ?_)
  rw [show List.range (#[o 7,o 8]:Array Oper).size=[0,1] from rfl]
  refine aE.step (v:= .int .i64 ((m:Nat):Int)) rfl hf.ops.h7 (by decide) (aQ hf.ops.h7 _) (fun a aE=> ?_)
  refine aE.step (v:= .bool (decide (((m:Nat):Int)=((0:Nat):Int)))) rfl hf.ops.h8 (by decide) (oO hf.ops.h8 rfl rfl _) (fun a aE=> ?_)
  refine aE.cond (b:=false) (by show Value.bool (decide (((m:Nat):Int)=((0:Nat):Int)))=_;rw [decide_eq_false (by omega)]) ?_
  simp only [Bool.false_eq_true,if_false]
  refine wp_skip ?_
  refine wp_seq (wp_region ?_)
  rw [show List.range (#[o 11,o 12,o 13]:Array Oper).size=[0,1,2] from rfl]
  refine aE.step (v:= .slice ad n c) rfl hf.ops.N7 (by decide) (aQ hf.ops.N7 _) (fun a aE=> ?_)
  refine aE.step (v:= .int .i64 ((n:Nat):Int)) rfl hf.ops.N8 (by decide) (mB hf.ops.N8 hf.uG rfl _) (fun a aE=> ?_)
  refine aE.step (v:= .int .i64 ((n:Nat):Int)) rfl hf.ops.N9 (by decide) (cP hf.ops.N9 _) (fun a aE=> ?_)
  refine wp_seq ?_
  refine wp_seq (wp_region ?_)
  rw [show List.range (#[o 14,o 15,o 16]:Array Oper).size=[0,1,2] from rfl]
  refine aE.step (v:= .int .i64 ((i:Nat):Int)) rfl hf.ops.Oa (by decide) (aQ hf.ops.Oa _) (fun a aE=> ?_)
  refine aE.step (v:= .int .i64 ((n:Nat):Int)) rfl hf.ops.Ob (by decide) (aQ hf.ops.Ob _) (fun a aE=> ?_)
  refine aE.step (v:= .bool (decide (((i:Nat):Int)=((n:Nat):Int)))) rfl hf.ops.Oc (by decide) (oO hf.ops.Oc rfl rfl _) (fun a aE=> ?_)
  refine aE.cond (b:=true) (by show Value.bool (decide (((i:Nat):Int)=((n:Nat):Int)))=_;rw [decide_eq_true (by omega)]) ?_
  simp only [if_true]
  refine wp_seq (wp_region ?_)
  rw [show List.range (#[o 17,o 18,o 19,o 20]:Array Oper).size=[0,1,2,3] from rfl]
  refine aE.step (v:= .slice ad n c) rfl hf.ops.UT (by decide) (aQ hf.ops.UT _) (fun a aE=> ?_)
  refine aE.step (v:= .slice (some ⟨g2,0,none⟩) m c2) rfl hf.ops.h18 (by decide) (aQ hf.ops.h18 _) (fun a aE=> ?_)
  refine aE.step (v:=v) rfl hf.ops.h19 (by decide) (Fe hf.ops.h19 rfl rfl (bT _)) (fun a aE=> ?_)
  refine aE.step (v:=v) rfl hf.ops.h20 (by decide) (cP hf.ops.h20 _) (fun a aE=> ?_)
  refine wp_ret ?_
  show bodyPost P fn (fun x wq=>x= .returned (v)∧wq=w1) .ret a w1
  refine J0 hf.res aE (v:=v) rfl ?_
  exact ⟨rfl,rfl⟩
 exact key _ (tm3 _ _ _ 92)
theorem UW (hf:Ff P f t ti tb el fo fn r o tail) (nU:P.info? el=some ie) (tm:ie.size=size) (hm:0<m) (hn:n≤c) (hc:c<2^63) (hnm:n+m<2^63) (hi:i<n) (sv:c<n+m) {g9 G:Nat} {v1 v2:Value} {w1 w2 w3:World} (hG:n+m≤G) (hA: ∀ty,(Builtin.append_ #[t,ti] ty #[.slice (some ⟨g,0,none⟩) i c,.int .i64 ((n+m-i:Nat):Int)]).run P w= .ok (.slice (some ⟨g9,0,none⟩) (n+m) G) w1)
 (hB: ∀ty,(Builtin.copy_ #[t,t] ty #[.slice (some ⟨g9,i *size,none⟩) (n+m-i) (G-i),.slice (some ⟨g2,0,none⟩) m c2]).run P w1= .ok v1 w2)
 (hC: ∀ty,(Builtin.copy_ #[t,t] ty #[.slice (some ⟨g9,(i+m) *size,none⟩) (n+m-(i+m)) (G-(i+m)),.slice (some ⟨g,i *size,none⟩) (n-i) (c-i)]).run P {w2 with drawn:=w2.drawn+1}= .ok v2 w3)
 :Calls P f #[.slice (some ⟨g,0,none⟩) n c,.int .i64 ((i:Nat):Int),.slice (some ⟨g2,0,none⟩) m c2] w fun x w'=>x= .returned (.slice (some ⟨g9,0,none⟩) (n+m) G)∧w'=w3:=by
 refine calls_of_wp hf.pos hf.body ?_
 rw [hf.tmps]
 have key: ∀a:Act,Tm a 95 (xe (xe (xe (fun _=>undef) 0 (.slice (some ⟨g,0,none⟩) n c)) 1 (.int .i64 ((i:Nat):Int))) 2 (.slice (some ⟨g2,0,none⟩) m c2))→(vf r o tail).wp P (bodyPost P fn fun x w'=>x= .returned (.slice (some ⟨g9,0,none⟩) (n+m) G)∧w'=w3) a w:=by
  intro a aE
  unfold vf
  refine wp_seq (wp_region ?_)
  rw [show List.range (#[o 0]:Array Oper).size=[0] from rfl]
  refine aE.step (v:= .slice none 0 0) rfl hf.ops.h0 (by decide) (cP hf.ops.h0 _) (fun a aE=> ?_)
  refine wp_seq (wp_region ?_)
  rw [show List.range (#[o 1,o 2,o 3]:Array Oper).size=[0,1,2] from rfl]
  refine aE.step (v:= .slice (some ⟨g,0,none⟩) n c) rfl hf.ops.h1 (by decide) (aQ hf.ops.h1 _) (fun a aE=> ?_)
  refine aE.step (v:= .int .i64 ((i:Nat):Int)) rfl hf.ops.h2 (by decide) (aQ hf.ops.h2 _) (fun a aE=> ?_)
  refine aE.step (v:= .slice (if c=i then (some ⟨g,0,none⟩) else ((some ⟨g,0,none⟩):Option Addr).map (·.add (i *size))) (n-i) (c-i)) rfl hf.ops.h3 (by decide) (xg hf.ops.h3 hf.uG nU tm rfl rfl (by omega) _) (fun a aE=> ?_)
  refine wp_seq (wp_region ?_)
  rw [show List.range (#[o 4,o 5,o 6]:Array Oper).size=[0,1,2] from rfl]
  refine aE.step (v:= .slice (some ⟨g2,0,none⟩) m c2) rfl hf.ops.h4 (by decide) (aQ hf.ops.h4 _) (fun a aE=> ?_)
  refine aE.step (v:= .int .i64 ((m:Nat):Int)) rfl hf.ops.h5 (by decide) (mB hf.ops.h5 hf.uG rfl _) (fun a aE=> ?_)
  refine aE.step (v:= .int .i64 ((m:Nat):Int)) rfl hf.ops.h6 (by decide) (cP hf.ops.h6 _) (fun a aE=> ?_)
  refine wp_seq ?_
  refine wp_seq (wp_region ?_)
  rw [show List.range (#[o 7,o 8]:Array Oper).size=[0,1] from rfl]
  refine aE.step (v:= .int .i64 ((m:Nat):Int)) rfl hf.ops.h7 (by decide) (aQ hf.ops.h7 _) (fun a aE=> ?_)
  refine aE.step (v:= .bool (decide (((m:Nat):Int)=((0:Nat):Int)))) rfl hf.ops.h8 (by decide) (oO hf.ops.h8 rfl rfl _) (fun a aE=> ?_)
  refine aE.cond (b:=false) (by show Value.bool (decide (((m:Nat):Int)=((0:Nat):Int)))=_;rw [decide_eq_false (by omega)]) ?_
  simp only [Bool.false_eq_true,if_false]
  refine wp_skip ?_
  refine wp_seq (wp_region ?_)
  rw [show List.range (#[o 11,o 12,o 13]:Array Oper).size=[0,1,2] from rfl]
  refine aE.step (v:= .slice (some ⟨g,0,none⟩) n c) rfl hf.ops.N7 (by decide) (aQ hf.ops.N7 _) (fun a aE=> ?_)
  refine aE.step (v:= .int .i64 ((n:Nat):Int)) rfl hf.ops.N8 (by decide) (mB hf.ops.N8 hf.uG rfl _) (fun a aE=> ?_)
  refine aE.step (v:= .int .i64 ((n:Nat):Int)) rfl hf.ops.N9 (by decide) (cP hf.ops.N9 _) (fun a aE=> ?_)
  refine wp_seq ?_
  refine wp_seq (wp_region ?_)
  rw [show List.range (#[o 14,o 15,o 16]:Array Oper).size=[0,1,2] from rfl]
  refine aE.step (v:= .int .i64 ((i:Nat):Int)) rfl hf.ops.Oa (by decide) (aQ hf.ops.Oa _) (fun a aE=> ?_)
  refine aE.step (v:= .int .i64 ((n:Nat):Int)) rfl hf.ops.Ob (by decide) (aQ hf.ops.Ob _) (fun a aE=> ?_)
  refine aE.step (v:= .bool (decide (((i:Nat):Int)=((n:Nat):Int)))) rfl hf.ops.Oc (by decide) (oO hf.ops.Oc rfl rfl _) (fun a aE=> ?_)
  refine aE.cond (b:=false) (by show Value.bool (decide (((i:Nat):Int)=((n:Nat):Int)))=_;rw [decide_eq_false (by omega)]) ?_
  simp only [Bool.false_eq_true,if_false]
  refine wp_skip ?_
  refine wp_seq ?_
  refine wp_seq (wp_region ?_)
  rw [show List.range (#[o 21,o 22,o 23,o 24,o 25,o 26]:Array Oper).size=[0,1,2,3,4,5] from rfl]
  refine aE.step (v:= .int .i64 ((n:Nat):Int)) rfl hf.ops.WY (by decide) (aQ hf.ops.WY _) (fun a aE=> ?_)
  refine aE.step (v:= .int .i64 ((m:Nat):Int)) rfl hf.ops.WZ (by decide) (aQ hf.ops.WZ _) (fun a aE=> ?_)
  refine aE.step (v:= .int .i64 ((n+m:Nat):Int)) rfl hf.ops.W0 (by decide) (jR hf.ops.W0 rfl rfl (by omega) _) (fun a aE=> ?_)
  refine aE.step (v:= .slice (some ⟨g,0,none⟩) n c) rfl hf.ops.W5 (by decide) (aQ hf.ops.W5 _) (fun a aE=> ?_)
  refine aE.step (v:= .int .i64 ((c:Nat):Int)) rfl hf.ops.W6 (by decide) (PY hf.ops.W6 hf.uG rfl _) (fun a aE=> ?_)
  refine aE.step (v:= .bool (decide (((c:Nat):Int)<(((n+m):Nat):Int)))) rfl hf.ops.W7 (by decide) (LP hf.ops.W7 rfl rfl _) (fun a aE=> ?_)
  refine aE.cond (b:=true) (by show Value.bool (decide (((c:Nat):Int)<((n+m:Nat):Int)))=_;rw [decide_eq_true (by omega)]) ?_
  simp only [if_true]
  refine wp_seq (wp_region ?_)
  rw [show List.range (#[o 27,o 28,o 29,o 30,o 31,o 32,o 33,o 34,o 35,o 36]:Array Oper).size=[0,1,2,3,4,5,6,7,8,9] from rfl]
  refine aE.step (v:= .slice (some ⟨g,0,none⟩) n c) rfl hf.ops.h27 (by decide) (aQ hf.ops.h27 _) (fun a aE=> ?_)
  refine aE.step (v:= .int .i64 ((i:Nat):Int)) rfl hf.ops.h28 (by decide) (aQ hf.ops.h28 _) (fun a aE=> ?_)
  refine aE.step (v:= .slice (some ⟨g,0,none⟩) i c) rfl hf.ops.h29 (by decide) (AF hf.ops.h29 hf.uG nU tm rfl rfl (by omega) _) (fun a aE=> ?_)
  refine aE.step (v:= .int .i64 ((n:Nat):Int)) rfl hf.ops.UU (by decide) (aQ hf.ops.UU _) (fun a aE=> ?_)
  refine aE.step (v:= .int .i64 ((m:Nat):Int)) rfl hf.ops.h31 (by decide) (aQ hf.ops.h31 _) (fun a aE=> ?_)
  refine aE.step (v:= .int .i64 ((n+m:Nat):Int)) rfl hf.ops.h32 (by decide) (jR hf.ops.h32 rfl rfl (by omega) _) (fun a aE=> ?_)
  refine aE.step (v:= .int .i64 ((i:Nat):Int)) rfl hf.ops.h33 (by decide) (aQ hf.ops.h33 _) (fun a aE=> ?_)
  refine aE.step (v:= .int .i64 (((n+m)-i:Nat):Int)) rfl hf.ops.h34 (by decide) (US hf.ops.h34 rfl rfl (by omega) (by omega) _) (fun a aE=> ?_)
  refine aE.step (v:= .slice (some ⟨g9,0,none⟩) (n+m) G) rfl hf.ops.h35 (by decide) (Fe hf.ops.h35 rfl rfl (hA _)) (fun a aE=> ?_)
  refine aE.step (v:= .slice (some ⟨g9,0,none⟩) (n+m) G) rfl hf.ops.h36 (by decide) (cP hf.ops.h36 _) (fun a aE=> ?_)
  refine wp_seq (wp_region ?_)
  rw [show List.range (#[o 37,o 38,o 39,o 40,o 41]:Array Oper).size=[0,1,2,3,4] from rfl]
  refine aE.step (v:= .slice (some ⟨g9,0,none⟩) (n+m) G) rfl hf.ops.h37 (by decide) (aQ hf.ops.h37 _) (fun a aE=> ?_)
  refine aE.step (v:= .int .i64 ((i:Nat):Int)) rfl hf.ops.h38 (by decide) (aQ hf.ops.h38 _) (fun a aE=> ?_)
  refine aE.step (v:= .slice (some ⟨g9,i *size,none⟩) (n+m-i) (G-i)) rfl hf.ops.h39 (by decide) (mZ hf.ops.h39 hf.uG nU tm rfl rfl (by omega) (by omega) _) (fun a aE=> ?_)
  refine aE.step (v:= .slice (some ⟨g2,0,none⟩) m c2) rfl hf.ops.h40 (by decide) (aQ hf.ops.h40 _) (fun a aE=> ?_)
  refine aE.step (v:=v1) rfl hf.ops.h41 (by decide) (AG hf.ops.h41 rfl rfl (hB _)) (fun a aE=> ?_)
  refine wp_seq (P2 hf.mix hf.ops.d11 (k:=8) rfl fun fW=> ?_)
  refine aE.draw (v:= .slice (some ⟨g9,0,none⟩) (n+m) G) rfl hf.ops.h42 (by decide) fW (fun w=>aQ hf.ops.h42 _) (fun a aE fW=> ?_)
  refine aE.draw (v:= .int .i64 ((i:Nat):Int)) rfl hf.ops.h43 (by decide) fW (fun w=>aQ hf.ops.h43 _) (fun a aE fW=> ?_)
  refine aE.draw (v:= .int .i64 ((m:Nat):Int)) rfl hf.ops.h44 (by decide) fW (fun w=>aQ hf.ops.h44 _) (fun a aE fW=> ?_)
  refine aE.draw (v:= .int .i64 ((i+m:Nat):Int)) rfl hf.ops.h45 (by decide) fW (fun w=>jR hf.ops.h45 rfl rfl (by omega) _) (fun a aE fW=> ?_)
  refine aE.draw (v:= .slice (some ⟨g9,(i+m) *size,none⟩) (n+m-(i+m)) (G-(i+m))) rfl hf.ops.h46 (by decide) fW (fun w=>mZ hf.ops.h46 hf.uG nU tm rfl rfl (by omega) (by omega) _) (fun a aE fW=> ?_)
  refine aE.draw (v:= .slice (some ⟨g,0,none⟩) n c) rfl hf.ops.h47 (by decide) fW (fun w=>aQ hf.ops.h47 _) (fun a aE fW=> ?_)
  refine aE.draw (v:= .int .i64 ((i:Nat):Int)) rfl hf.ops.h48 (by decide) fW (fun w=>aQ hf.ops.h48 _) (fun a aE fW=> ?_)
  refine aE.draw (v:= .slice (some ⟨g,i *size,none⟩) (n-i) (c-i)) rfl hf.ops.h49 (by decide) fW (fun w=>mZ hf.ops.h49 hf.uG nU tm rfl rfl (by omega) (by omega) _) (fun a aE fW=> ?_)
  refine aE.last (v:=v2) rfl hf.ops.h50 (by decide) fW (AG hf.ops.h50 rfl rfl (hC _)) (fun a aE=> ?_)
  refine wp_seq (wp_region ?_)
  rw [show List.range (#[o 51,o 52]:Array Oper).size=[0,1] from rfl]
  refine aE.step (v:= .slice (some ⟨g9,0,none⟩) (n+m) G) rfl hf.ops.h51 (by decide) (aQ hf.ops.h51 _) (fun a aE=> ?_)
  refine aE.step (v:= .slice (some ⟨g9,0,none⟩) (n+m) G) rfl hf.ops.h52 (by decide) (cP hf.ops.h52 _) (fun a aE=> ?_)
  refine wp_ret ?_
  show bodyPost P fn (fun x wq=>x= .returned (.slice (some ⟨g9,0,none⟩) (n+m) G)∧wq=w3) .ret a w3
  refine J0 hf.res aE (v:= .slice (some ⟨g9,0,none⟩) (n+m) G) rfl ?_
  exact ⟨rfl,rfl⟩
 exact key _ (tm3 _ _ _ 92)
theorem UX (hf:Ff P f t ti tb el fo fn r o tail) (nU:P.info? el=some ie) (tm:ie.size=size) (hm:0<m) (hn:n≤c) (hc:c<2^63) (hnm:n+m<2^63) (hi:i<n) (sv:n+m≤c) {v1 v2:Value} {w1 w2:World} (hO:(callFunc fo #[.slice (some ⟨g2,0,none⟩) m c2,.slice (some ⟨g,(i+m) *size,none⟩) (n+m-(i+m)) (c-(i+m))]).run P w= .ok (.value (.bool false)) w)
 (hB: ∀ty,(Builtin.copy_ #[t,t] ty #[.slice (some ⟨g,(i+m) *size,none⟩) (n+m-(i+m)) (c-(i+m)),.slice (some ⟨g,i *size,none⟩) (n+m-i) (c-i)]).run P {w with drawn:=w.drawn+1}= .ok v1 w1)
 (hC: ∀ty,(Builtin.copy_ #[t,t] ty #[.slice (some ⟨g,i *size,none⟩) (n+m-i) (c-i),.slice (some ⟨g2,0,none⟩) m c2]).run P w1= .ok v2 w2)
 :Calls P f #[.slice (some ⟨g,0,none⟩) n c,.int .i64 ((i:Nat):Int),.slice (some ⟨g2,0,none⟩) m c2] w fun x w'=>x= .returned (.slice (some ⟨g,0,none⟩) (n+m) c)∧w'=w2:=by
 refine calls_of_wp hf.pos hf.body ?_
 rw [hf.tmps]
 have key: ∀a:Act,Tm a 95 (xe (xe (xe (fun _=>undef) 0 (.slice (some ⟨g,0,none⟩) n c)) 1 (.int .i64 ((i:Nat):Int))) 2 (.slice (some ⟨g2,0,none⟩) m c2))→(vf r o tail).wp P (bodyPost P fn fun x w'=>x= .returned (.slice (some ⟨g,0,none⟩) (n+m) c)∧w'=w2) a w:=by
  intro a aE
  unfold vf
  refine wp_seq (wp_region ?_)
  rw [show List.range (#[o 0]:Array Oper).size=[0] from rfl]
  refine aE.step (v:= .slice none 0 0) rfl hf.ops.h0 (by decide) (cP hf.ops.h0 _) (fun a aE=> ?_)
  refine wp_seq (wp_region ?_)
  rw [show List.range (#[o 1,o 2,o 3]:Array Oper).size=[0,1,2] from rfl]
  refine aE.step (v:= .slice (some ⟨g,0,none⟩) n c) rfl hf.ops.h1 (by decide) (aQ hf.ops.h1 _) (fun a aE=> ?_)
  refine aE.step (v:= .int .i64 ((i:Nat):Int)) rfl hf.ops.h2 (by decide) (aQ hf.ops.h2 _) (fun a aE=> ?_)
  refine aE.step (v:= .slice (if c=i then (some ⟨g,0,none⟩) else ((some ⟨g,0,none⟩):Option Addr).map (·.add (i *size))) (n-i) (c-i)) rfl hf.ops.h3 (by decide) (xg hf.ops.h3 hf.uG nU tm rfl rfl (by omega) _) (fun a aE=> ?_)
  refine wp_seq (wp_region ?_)
  rw [show List.range (#[o 4,o 5,o 6]:Array Oper).size=[0,1,2] from rfl]
  refine aE.step (v:= .slice (some ⟨g2,0,none⟩) m c2) rfl hf.ops.h4 (by decide) (aQ hf.ops.h4 _) (fun a aE=> ?_)
  refine aE.step (v:= .int .i64 ((m:Nat):Int)) rfl hf.ops.h5 (by decide) (mB hf.ops.h5 hf.uG rfl _) (fun a aE=> ?_)
  refine aE.step (v:= .int .i64 ((m:Nat):Int)) rfl hf.ops.h6 (by decide) (cP hf.ops.h6 _) (fun a aE=> ?_)
  refine wp_seq ?_
  refine wp_seq (wp_region ?_)
  rw [show List.range (#[o 7,o 8]:Array Oper).size=[0,1] from rfl]
  refine aE.step (v:= .int .i64 ((m:Nat):Int)) rfl hf.ops.h7 (by decide) (aQ hf.ops.h7 _) (fun a aE=> ?_)
  refine aE.step (v:= .bool (decide (((m:Nat):Int)=((0:Nat):Int)))) rfl hf.ops.h8 (by decide) (oO hf.ops.h8 rfl rfl _) (fun a aE=> ?_)
  refine aE.cond (b:=false) (by show Value.bool (decide (((m:Nat):Int)=((0:Nat):Int)))=_;rw [decide_eq_false (by omega)]) ?_
  simp only [Bool.false_eq_true,if_false]
  refine wp_skip ?_
  refine wp_seq (wp_region ?_)
  rw [show List.range (#[o 11,o 12,o 13]:Array Oper).size=[0,1,2] from rfl]
  refine aE.step (v:= .slice (some ⟨g,0,none⟩) n c) rfl hf.ops.N7 (by decide) (aQ hf.ops.N7 _) (fun a aE=> ?_)
  refine aE.step (v:= .int .i64 ((n:Nat):Int)) rfl hf.ops.N8 (by decide) (mB hf.ops.N8 hf.uG rfl _) (fun a aE=> ?_)
  refine aE.step (v:= .int .i64 ((n:Nat):Int)) rfl hf.ops.N9 (by decide) (cP hf.ops.N9 _) (fun a aE=> ?_)
  refine wp_seq ?_
  refine wp_seq (wp_region ?_)
  rw [show List.range (#[o 14,o 15,o 16]:Array Oper).size=[0,1,2] from rfl]
  refine aE.step (v:= .int .i64 ((i:Nat):Int)) rfl hf.ops.Oa (by decide) (aQ hf.ops.Oa _) (fun a aE=> ?_)
  refine aE.step (v:= .int .i64 ((n:Nat):Int)) rfl hf.ops.Ob (by decide) (aQ hf.ops.Ob _) (fun a aE=> ?_)
  refine aE.step (v:= .bool (decide (((i:Nat):Int)=((n:Nat):Int)))) rfl hf.ops.Oc (by decide) (oO hf.ops.Oc rfl rfl _) (fun a aE=> ?_)
  refine aE.cond (b:=false) (by show Value.bool (decide (((i:Nat):Int)=((n:Nat):Int)))=_;rw [decide_eq_false (by omega)]) ?_
  simp only [Bool.false_eq_true,if_false]
  refine wp_skip ?_
  refine wp_seq ?_
  refine wp_seq (wp_region ?_)
  rw [show List.range (#[o 21,o 22,o 23,o 24,o 25,o 26]:Array Oper).size=[0,1,2,3,4,5] from rfl]
  refine aE.step (v:= .int .i64 ((n:Nat):Int)) rfl hf.ops.WY (by decide) (aQ hf.ops.WY _) (fun a aE=> ?_)
  refine aE.step (v:= .int .i64 ((m:Nat):Int)) rfl hf.ops.WZ (by decide) (aQ hf.ops.WZ _) (fun a aE=> ?_)
  refine aE.step (v:= .int .i64 ((n+m:Nat):Int)) rfl hf.ops.W0 (by decide) (jR hf.ops.W0 rfl rfl (by omega) _) (fun a aE=> ?_)
  refine aE.step (v:= .slice (some ⟨g,0,none⟩) n c) rfl hf.ops.W5 (by decide) (aQ hf.ops.W5 _) (fun a aE=> ?_)
  refine aE.step (v:= .int .i64 ((c:Nat):Int)) rfl hf.ops.W6 (by decide) (PY hf.ops.W6 hf.uG rfl _) (fun a aE=> ?_)
  refine aE.step (v:= .bool (decide (((c:Nat):Int)<(((n+m):Nat):Int)))) rfl hf.ops.W7 (by decide) (LP hf.ops.W7 rfl rfl _) (fun a aE=> ?_)
  refine aE.cond (b:=false) (by show Value.bool (decide (((c:Nat):Int)<((n+m:Nat):Int)))=_;rw [decide_eq_false (by omega)]) ?_
  simp only [Bool.false_eq_true,if_false]
  refine wp_skip ?_
  refine wp_seq (wp_region ?_)
  rw [show List.range (#[o 53,o 54,o 55,o 56,o 57,o 58]:Array Oper).size=[0,1,2,3,4,5] from rfl]
  refine aE.step (v:= .slice (some ⟨g,0,none⟩) n c) rfl hf.ops.h53 (by decide) (aQ hf.ops.h53 _) (fun a aE=> ?_)
  refine aE.step (v:= .int .i64 ((n:Nat):Int)) rfl hf.ops.h54 (by decide) (aQ hf.ops.h54 _) (fun a aE=> ?_)
  refine aE.step (v:= .int .i64 ((m:Nat):Int)) rfl hf.ops.h55 (by decide) (aQ hf.ops.h55 _) (fun a aE=> ?_)
  refine aE.step (v:= .int .i64 ((n+m:Nat):Int)) rfl hf.ops.h56 (by decide) (jR hf.ops.h56 rfl rfl (by omega) _) (fun a aE=> ?_)
  refine aE.step (v:= .slice (some ⟨g,0,none⟩) (n+m) c) rfl hf.ops.h57 (by decide) (AF hf.ops.h57 hf.uG nU tm rfl rfl (by omega) _) (fun a aE=> ?_)
  refine aE.step (v:= .slice (some ⟨g,0,none⟩) (n+m) c) rfl hf.ops.h58 (by decide) (cP hf.ops.h58 _) (fun a aE=> ?_)
  refine wp_seq ?_
  refine wp_seq (wp_region ?_)
  rw [show List.range (#[o 59,o 60,o 61,o 62,o 63,o 64,o 65,o 66]:Array Oper).size=[0,1,2,3,4,5,6,7] from rfl]
  refine aE.step (v:= .slice (some ⟨g2,0,none⟩) m c2) rfl hf.ops.h59 (by decide) (aQ hf.ops.h59 _) (fun a aE=> ?_)
  refine aE.step (v:= .slice (some ⟨g,0,none⟩) (n+m) c) rfl hf.ops.h60 (by decide) (aQ hf.ops.h60 _) (fun a aE=> ?_)
  refine aE.step (v:= .int .i64 ((i:Nat):Int)) rfl hf.ops.h61 (by decide) (aQ hf.ops.h61 _) (fun a aE=> ?_)
  refine aE.step (v:= .int .i64 ((m:Nat):Int)) rfl hf.ops.h62 (by decide) (aQ hf.ops.h62 _) (fun a aE=> ?_)
  refine aE.step (v:= .int .i64 ((i+m:Nat):Int)) rfl hf.ops.h63 (by decide) (jR hf.ops.h63 rfl rfl (by omega) _) (fun a aE=> ?_)
  refine aE.step (v:= .slice (some ⟨g,(i+m) *size,none⟩) (n+m-(i+m)) (c-(i+m))) rfl hf.ops.h64 (by decide) (mZ hf.ops.h64 hf.uG nU tm rfl rfl (by omega) (by omega) _) (fun a aE=> ?_)
  refine aE.step (v:= .bool false) rfl hf.ops.h65 (by decide) (X7 hf.ops.h65 rfl rfl rfl hO) (fun a aE=> ?_)
  refine aE.step (v:= .bool (!false)) rfl hf.ops.h66 (by decide) (PZ hf.ops.h66 rfl _) (fun a aE=> ?_)
  refine aE.cond (b:=true) rfl ?_
  simp only [if_true]
  refine wp_seq (P2 hf.mix hf.ops.d15 (k:=8) rfl fun fW=> ?_)
  refine aE.draw (v:= .slice (some ⟨g,0,none⟩) (n+m) c) rfl hf.ops.h67 (by decide) fW (fun w=>aQ hf.ops.h67 _) (fun a aE fW=> ?_)
  refine aE.draw (v:= .int .i64 ((i:Nat):Int)) rfl hf.ops.h68 (by decide) fW (fun w=>aQ hf.ops.h68 _) (fun a aE fW=> ?_)
  refine aE.draw (v:= .int .i64 ((m:Nat):Int)) rfl hf.ops.h69 (by decide) fW (fun w=>aQ hf.ops.h69 _) (fun a aE fW=> ?_)
  refine aE.draw (v:= .int .i64 ((i+m:Nat):Int)) rfl hf.ops.h70 (by decide) fW (fun w=>jR hf.ops.h70 rfl rfl (by omega) _) (fun a aE fW=> ?_)
  refine aE.draw (v:= .slice (some ⟨g,(i+m) *size,none⟩) (n+m-(i+m)) (c-(i+m))) rfl hf.ops.h71 (by decide) fW (fun w=>mZ hf.ops.h71 hf.uG nU tm rfl rfl (by omega) (by omega) _) (fun a aE fW=> ?_)
  refine aE.draw (v:= .slice (some ⟨g,0,none⟩) (n+m) c) rfl hf.ops.h72 (by decide) fW (fun w=>aQ hf.ops.h72 _) (fun a aE fW=> ?_)
  refine aE.draw (v:= .int .i64 ((i:Nat):Int)) rfl hf.ops.h73 (by decide) fW (fun w=>aQ hf.ops.h73 _) (fun a aE fW=> ?_)
  refine aE.draw (v:= .slice (some ⟨g,i *size,none⟩) (n+m-i) (c-i)) rfl hf.ops.h74 (by decide) fW (fun w=>mZ hf.ops.h74 hf.uG nU tm rfl rfl (by omega) (by omega) _) (fun a aE fW=> ?_)
  refine aE.last (v:=v1) rfl hf.ops.h75 (by decide) fW (AG hf.ops.h75 rfl rfl (hB _)) (fun a aE=> ?_)
  refine wp_seq (wp_region ?_)
  rw [show List.range (#[o 76,o 77,o 78,o 79,o 80]:Array Oper).size=[0,1,2,3,4] from rfl]
  refine aE.step (v:= .slice (some ⟨g,0,none⟩) (n+m) c) rfl hf.ops.h76 (by decide) (aQ hf.ops.h76 _) (fun a aE=> ?_)
  refine aE.step (v:= .int .i64 ((i:Nat):Int)) rfl hf.ops.h77 (by decide) (aQ hf.ops.h77 _) (fun a aE=> ?_)
  refine aE.step (v:= .slice (some ⟨g,i *size,none⟩) (n+m-i) (c-i)) rfl hf.ops.h78 (by decide) (mZ hf.ops.h78 hf.uG nU tm rfl rfl (by omega) (by omega) _) (fun a aE=> ?_)
  refine aE.step (v:= .slice (some ⟨g2,0,none⟩) m c2) rfl hf.ops.h79 (by decide) (aQ hf.ops.h79 _) (fun a aE=> ?_)
  refine aE.step (v:=v2) rfl hf.ops.h80 (by decide) (AG hf.ops.h80 rfl rfl (hC _)) (fun a aE=> ?_)
  refine wp_seq (wp_region ?_)
  rw [show List.range (#[o 81,o 82]:Array Oper).size=[0,1] from rfl]
  refine aE.step (v:= .slice (some ⟨g,0,none⟩) (n+m) c) rfl hf.ops.h81 (by decide) (aQ hf.ops.h81 _) (fun a aE=> ?_)
  refine aE.step (v:= .slice (some ⟨g,0,none⟩) (n+m) c) rfl hf.ops.h82 (by decide) (cP hf.ops.h82 _) (fun a aE=> ?_)
  refine wp_ret ?_
  show bodyPost P fn (fun x wq=>x= .returned (.slice (some ⟨g,0,none⟩) (n+m) c)∧wq=w2) .ret a w2
  refine J0 hf.res aE (v:= .slice (some ⟨g,0,none⟩) (n+m) c) rfl ?_
  exact ⟨rfl,rfl⟩
 exact key _ (tm3 _ _ _ 92)
end
end Dn
/-
  What slices.Insert does to a slice of its own. Conditions: none.
-/
set_option linter.unusedSimpArgs false
set_option linter.unusedVariables false
namespace Dn
open Go
section
variable {key:Nat→Nat} {φ:Ph} {size:Nat}
theorem ba.take {xs:List MV}: ∀{cs:List Value} (i:Nat),ba key φ size cs xs→ba key φ size (cs.take (i *size)) (xs.take i):=by
 induction xs with
 |nil=>intro cs i h;cases h;simp [ba]
 |cons x xs ih=>
  intro cs i h
  obtain ⟨v,q,rfl,h1,h2,h3⟩:=h
  cases i with
  |zero=>simp [ba]
  |succ i=>
   refine ⟨v,q.take (i *size),?_,h1,h2,ih i h3⟩
   rw [Nat.add_mul,Nat.one_mul,Nat.add_comm,List.take_append,h1]
   congr 1
   ·exact List.take_of_length_le (by omega)
   ·congr 1;omega
theorem ba.drop {xs:List MV}: ∀{cs:List Value} (i:Nat),ba key φ size cs xs→ba key φ size (cs.drop (i *size)) (xs.drop i):=by
 induction xs with
 |nil=>intro cs i h;cases h;simp [ba]
 |cons x xs ih=>
  intro cs i h
  cases i with
  |zero=>simpa using h
  |succ i=>
   obtain ⟨v,q,rfl,h1,h2,h3⟩:=h
   have:=ih i h3
   rw [Nat.add_mul,Nat.one_mul,Nat.add_comm,List.drop_append,h1,List.drop_of_length_le (by omega),List.nil_append,Nat.add_sub_cancel_left]
   simpa using this
end
section
variable {P:Program} {c:Ctx} {f:Nat} {W W':World} {φ:Ph} {Z:Nat→Prop} {v0 v':Value}
theorem DT {ty:Nat} {E:TI} {n:Nat} {cells:List Value} {rs:List MV} (hz: ∀b,W.heap.size≤b→Z b) (jk:zH φ W) (hE:c.ti ty=some E) (n7:E.cL=[]) (B2:c.rW (c.key f)=ty)
 (hold: ∀b,b<W.heap.size→some b≠v0.ownBlock→W'.heap[b]? =W.heap[b]?) (qT:W.heap.size≤W'.heap.size) (zm:Rest W W')
 (PF: ∀b,v0.ownBlock=some b→Z b∧ ∀off,φ b off=none) (dK:W'.ownsRow 0 ty E.size v' n cells) (hn:rs.length=n) (iP:ba c.key φ E.size cells rs)
 (NI: ∀b,v'.ownBlock=some b→v0.ownBlock=some b∨W.heap.size≤b): ∃φ',Trans Z φ W φ' W'∧zH φ' W'∧mM c Z φ' W' (c.key f) v' (.fresh rs):=by
 refine ⟨φ,⟨.refl _,?_,fun _ _ _=>rfl,qT,zm⟩,?_,?_⟩
 ·intro b hb da
  exact hold b da (fun he=>hb (PF b he.symm).1)
 ·intro b off u hbo
  have h1:=jk b off u hbo
  have da:=World.block_lt_of_cell? W _ h1
  rw [World.cell?_of_block (hold b da (fun he=>by rw [(PF b he.symm).2 off] at hbo;cases hbo))]
  exact h1
 ·show db c (bM.plain Z) (oc c.key φ) W' v' ⟨c.rW (c.key f),false,rs⟩
  rw [B2]
  refine ⟨E,cells,hE,n7,by rw [hn];exact dK,iP,fun bg hb=> ?_⟩
  rcases NI bg hb with h|h
  ·exact ⟨(PF bg h).1,fun off u hu=>(by have hu:φ bg off=some u:=hu;rw [(PF bg h).2 off] at hu;cases hu),fun hc=>hc.elim⟩
  ·refine ⟨hz bg h,fun off u hu=> ?_,fun hc=>hc.elim⟩
   have:=World.block_lt_of_cell? W _ (jk _ _ _ hu)
   exact absurd this (by show¬bg<W.heap.size;omega)
theorem Yb {A di:List Value} {cells news:List Value} {p q r:Nat} (hA:A.length=di.length) (hp:p+news.length=q) (hc:cells.length=r) (Dr:p≤r) (wX:r+news.length≤di.length)
 (h1:A.take p=cells.take p) (h2:(A.drop q).take (r-p)=cells.drop p):(A.take p++news++A.drop q).take (r+news.length)=cells.take p++news++cells.drop p:=by
 have hl:(A.take p).length=p:=by rw [List.length_take];omega
 rw [List.take_append,List.length_append,hl,hp,List.take_of_length_le (by rw [List.length_append,hl];omega),h1]
 congr 1
 rw [show r+news.length-q=r-p by omega]
 exact h2
theorem B3 {t ti tb el fo:Nat} {fn:Func} {r:Nat→Nat} {o:Nat→Oper} {tail:Code} {I E:TI} {xs ys:List MV} {i:Nat} (hf:Ff P f t ti tb el fo fn r o tail) (hT:kK P c.ti) (hI:c.tv t=some I) (hL:I.za=true) (hE:c.tv I.elem=some E) (uV:1≤E.bytes)
 (WM:el=I.elem) (rX:P.underlying ti=some (.int .i64)) (B2:c.rW (c.key f)=I.elem) (hg:c.eo (c.key f)=true)
 (hov: ∀args w,(callFunc fo args).run P w=((Extern.SlicesOverlaps.overlaps #[t,t] #[tb] args).run P w).andThen fun v w'=> .ok (.value v) w')
 (hi:i≤xs.length) (hys:ys≠[]) (nk:(xs.length+ys.length) *E.bytes≤2^46):kM P c f [.fresh xs,.i .i64 i,.fresh ys] (.fresh (xs.take i++ys++xs.drop i)):=by
 subst WM
 obtain ⟨hIt,Tw⟩:=bO hI
 obtain ⟨nj,n7⟩:=bO hE
 obtain ⟨hu,E2,wM,_,eu⟩:=TI.mK (hT t I hIt) hL
 rw [nj] at wM
 cases wM
 obtain ⟨ie,z,nU,tm,QP,Yc,KM⟩:=oa (hT _ E nj) n7
 intro φ W Z vs hz fh jk
 simp only [eR,hg,if_true] at fh
 obtain ⟨v0,v1,v2,xs',m1,ys',rfl,Lm,F0,A1,F2,cT⟩:=fh.resolve_right (by
  rintro (⟨_,_,_,_,_,m2,_,h1,h2,_⟩|⟨pos,_,_,_,_,_,_,h1,_⟩)
  ·simp only [List.cons.injEq,and_true] at h1
   rw [←h1.2.2] at h2;simp [MV.one] at h2
  ·rcases pos with _|_|_|pos<;>simp at h1)
 simp only [List.cons.injEq,MV.fresh.injEq,and_true] at Lm
 obtain ⟨rfl,rfl,rfl⟩:=Lm
 have QG:v1= .int .i64 (i:Int):=by
  obtain ⟨_,h⟩:=A1
  generalize yJ:[v1]=l at h
  cases h;simpa using yJ
 subst QG
 rw [B2] at F0 F2
 obtain ⟨I0,cells,Yd,_,tX,sH,Iw⟩:=F0
 have Yd:c.ti I.elem=some I0:=Yd
 rw [nj] at Yd
 cases Yd
 obtain ⟨I2,news,Po,_,H0,Al,amu⟩:=F2
 have Po:c.ti I.elem=some I2:=Po
 rw [nj] at Po
 cases Po
 have tX:W.ownsRow 0 I.elem E.size v0 xs.length cells:=tX
 have H0:W.ownsRow 0 I.elem E.size v2 ys.length news:=H0
 have sH:ba c.key φ E.size cells xs:=sH
 have Al:ba c.key φ E.size news ys:=Al
 have PF: ∀b,v0.ownBlock=some b→Z b∧ ∀off,φ b off=none:=by
  intro b hb
  refine ⟨(Iw b hb).1,fun off=> ?_⟩
  cases h:φ b off with
  |none=>rfl
  |some u=>have:=((Iw b hb).2.1 off u h).1;cases this
 have hm:0<ys.length:=List.length_pos_iff.2 hys
 have DR:news.length=ys.length *E.size:=Al.length
 have n9:cells.length=xs.length *E.size:=sH.length
 have hlen:xs.length+ys.length≤2^46:=Nat.le_trans (Nat.le_mul_of_pos_right _ uV) nk
 obtain ⟨g2,c2,tM,rfl,Rl,aos,hc2,K8,afi⟩: ∃g2 c2 tM,v2= .slice (some ⟨g2,0,none⟩) ys.length c2∧W.heap[g2]? =some (.cells tM I.elem (0,0))∧ys.length≤c2∧c2≤maxLen∧tM.size=c2 *E.size∧tM.toList.take (ys.length *E.size)=news:=by
  rcases H0.2 with ⟨_,h0⟩|⟨g2,c2,tM,h1,_,h3,h4,h5,h6,h7⟩
  ·omega
  ·exact ⟨g2,c2,tM,h1,h3,h4,h5,h6,h7⟩
 have ajV:=bA Rl
 have UY: ∀{w:World},(w.heap[g2]? =W.heap[g2]?)→ ∀(j:Nat) (u:Value),news[j]? =some u→w.cell? ((⟨g2,0,none⟩:Addr).add j)=some u:=by
  intro w hw j u hj
  have:=H0.cells (g:=g2) rfl j u hj
  rw [Addr.add_mid] at this⊢
  rw [World.cell?_of_block hw];exact this
 have br: ∀g,v0.ownBlock=some g→ ∀{w:World},(w.heap[g]? =W.heap[g]?)→ ∀(j:Nat) (u:Value),cells[j]? =some u→w.cell? ((⟨g,0,none⟩:Addr).add j)=some u:=by
  intro g hg w hw j u hj
  have:=tX.cells (g:=g) hg j u hj
  rw [Addr.add_mid] at this⊢
  rw [World.cell?_of_block hw];exact this
 have bT:(callFunc f [v0,.int .i64 (i:Int),.slice (some ⟨g2,0,none⟩) ys.length c2].toArray).run P W= .ok (.enter f #[v0,.int .i64 (i:Int),.slice (some ⟨g2,0,none⟩) ys.length c2]) W:=by
  have El: ¬fn.name= "runtime.NumGoroutine" :=by simpa using hf.name
  simp [callFunc,hf.pos,El,hf.body]
 unfold fN
 rw [bT]
 have hrl:(xs.take i++ys++xs.drop i).length=xs.length+ys.length:=by simp;omega
 have Fg:ba c.key φ E.size (cells.take (i *E.size)++news++cells.drop (i *E.size)) (xs.take i++ys++xs.drop i):=((sH.take i).append Al).append (sH.drop i)
 by_cases tf:i=xs.length
 ·
  have tO:Src (oc c.key φ) W E.size (.slice (some ⟨g2,0,none⟩) ys.length c2) ys news:=⟨Al,_,_,rfl,by simp,fun x hx j u hj=>by cases hx;exact UY rfl j u hj⟩
  have xb:cells.take (i *E.size)++news++cells.drop (i *E.size)=cells++news:=by
   rw [tf,←n9,List.take_length,List.drop_length,List.append_nil]
  rw [xb] at Fg
  have fin: ∀v' W',adX W W' I.elem E.size v0 v' xs.length ys.length cells news→ ∃φ',Trans Z φ W φ' W'∧zH φ' W'∧mM c Z φ' W' (c.key f) v' (.fresh (xs.take i++ys++xs.drop i)):=by
   intro v' W' tP
   refine DT (v0:=v0) hz jk nj n7 B2 tP.BB tP.size tP.rest PF tP.own hrl Fg ?_
   intro b hb
   rcases tP.place with h|h
   ·left;rw [←h];exact hb
   ·right;rw [h] at hb;cases hb;exact Nat.le_refl _
  obtain ⟨v',W',hr,tP⟩:=zG (P:=P) (c:=c) (ty:=0) (e:=oc c.key φ) hu nj n7 eu hT uV tX tO nk
  have Xk: ∀ty,(Builtin.append_ #[t,t] ty #[v0,.slice (some ⟨g2,0,none⟩) ys.length c2]).run P W= .ok v' W':=fun ty=>hr
  have ajW: ∃ad c0,v0= .slice ad xs.length c0∧xs.length≤c0∧c0≤maxLen:=by
   rcases tX.2 with ⟨h1,h0⟩|⟨g,c0,di,h1,_,h3,h4,h5,_⟩
   ·exact ⟨none,0,by rw [h1,h0],by omega,by omega⟩
   ·exact ⟨_,c0,h1,h4,h5⟩
  obtain ⟨ad,c0,rfl,H5,DO⟩:=ajW
  refine (Ya hf nU tm hm H5 (by unfold maxLen at DO;omega) (by omega) tf Xk).mono ?_
  rintro x xP ⟨rfl,rfl⟩
  exact ⟨_,rfl,fin _ _ tP⟩
 ·have tf:i<xs.length:=by omega
  obtain ⟨g,c0,di,rfl,hgc,H5,DO,rY,NE⟩: ∃g c0 di,v0= .slice (some ⟨g,0,none⟩) xs.length c0∧W.heap[g]? =some (.cells di I.elem (0,0))∧xs.length≤c0∧c0≤maxLen∧di.size=c0 *E.size∧di.toList.take (xs.length *E.size)=cells:=by
   rcases tX.2 with ⟨_,h0⟩|⟨g,c0,di,h1,_,h3,h4,h5,h6,h7⟩
   ·omega
   ·exact ⟨g,c0,di,h1,h3,h4,h5,h6,h7⟩
  have WR:=bA hgc
  have hgg:g≠g2:=fun h=>cT g rfl (by rw [h];rfl)
  have tG:i *E.size≤xs.length *E.size:=Nat.mul_le_mul_right _ hi
  have him:(i+ys.length) *E.size=i *E.size+news.length:=by rw [Nat.add_mul,DR]
  have hnm:(xs.length+ys.length) *E.size=xs.length *E.size+news.length:=by rw [Nat.add_mul,DR]
  have JT:(cells.drop (i *E.size)).length=(xs.length-i) *E.size:=by rw [List.length_drop,n9,Nat.sub_mul]
  have aot:(xs.length-i) *E.size=xs.length *E.size-i *E.size:=Nat.sub_mul _ _ _
  have aal: ∀{w:World},(w.heap[g]? =W.heap[g]?)→ ∀(j:Nat) (u:Value),(cells.drop (i *E.size))[j]? =some u→w.cell? ((⟨g,i *E.size,none⟩:Addr).add j)=some u:=by
   intro w hw j u hj
   rw [List.getElem?_drop] at hj
   have:=br g rfl hw _ u hj
   rw [Addr.add_mid] at this⊢
   rwa [Nat.zero_add] at this
  have ZK: ∀u∈cells.drop (i *E.size),u.oneCell'=true:=fun u hu=>sH.wZ u (List.mem_of_mem_drop hu)
  have afk:Rest W {W with drawn:=W.drawn+1}:=⟨rfl,rfl,rfl,fun _=>rfl⟩
  by_cases sv:c0<xs.length+ys.length
  ·have hk:i+(xs.length+ys.length-i)=xs.length+ys.length:=by omega
   obtain ⟨G,hG⟩: ∃G,G=grownCap W (xs.length+ys.length) c0 I.elem:=⟨_,rfl⟩
   have hGn:xs.length+ys.length≤G:=by rw [hG];exact grownCap_ge W _ _ _
   have hGm:G≤maxLen:=by rw [hG];exact grownCap_le_maxLen W _ _ _ (by unfold maxLen;omega)
   obtain ⟨J1,abR⟩: ∃J1:Array Value,J1=(cells.take (i *E.size)).toArray++Builtin.zeroCells z.cells (xs.length+ys.length-i)++Builtin.zeroCells z.cells (G-(xs.length+ys.length)):=⟨_,rfl⟩
   have hRl:J1.size=G *E.size:=by
    rw [abR]
    simp only [Array.size_append,List.size_toArray,List.length_take,Builtin.zeroCells,Array.size_map,Array.size_range,KM]
    rw [Nat.min_eq_left (by rw [n9];exact tG),←Nat.add_mul,←Nat.add_mul]
    congr 1;omega
   have hRt:J1.toList.take (i *E.size)=cells.take (i *E.size):=by
    rw [abR]
    simp only [Array.toList_append,List.append_assoc]
    have hl:(cells.take (i *E.size)).length=i *E.size:=by rw [List.length_take,n9];exact Nat.min_eq_left tG
    rw [List.take_append_of_le_length (by omega),List.take_of_length_le (by omega)]
   have hA: ∀ty,(Builtin.append_ #[t,ti] ty #[.slice (some ⟨g,0,none⟩) i c0,.int .i64 ((xs.length+ys.length-i:Nat):Int)]).run P W= .ok (.slice (some ⟨W.heap.size,0,none⟩) (xs.length+ys.length) G) (W.drew.alloc (.cells J1 I.elem)):=fun ty=>by
    have hold:(Builtin.firstCells ie.size i (.slice (some ⟨g,0,none⟩) i c0)).run P W.drew= .ok (cells.take (i *E.size)).toArray W.drew:=by
     refine run_firstCells_some W.drew ie.size i ⟨g,0,none⟩ i c0 _ (by rw [tm,List.length_take,n9];exact Nat.min_eq_left tG) (fun j v hj=> ?_)
     rw [List.getElem?_take] at hj
     split at hj
     ·exact br g rfl rfl j v hj
     ·cases hj
    have h:=Lib.run_append_grow_zeros W t ti ty I.elem ie z .i64 .i64 hu rX nU Yc (some ⟨g,0,none⟩) i c0 (cells.take (i *E.size)) hold (xs.length+ys.length-i) (by omega) (by rw [tm];exact eu) (by omega) (by omega)
     (by rw [QP];exact Nat.le_trans (Nat.mul_le_mul_right _ (by omega:xs.length+ys.length-i≤xs.length+ys.length)) (Nat.le_trans nk (by omega))) (by rw [QP,hk];exact growslice_fits sv (Nat.le_trans nk (by omega)))
    rw [hk,←hG,←abR] at h
    exact h
   have hg9:(W.drew.alloc (.cells J1 I.elem)).heap[W.heap.size]? =some (.cells J1 I.elem (0,0)):=kl W.drew _
   have Ds: ∀b,b<W.heap.size→(W.drew.alloc (.cells J1 I.elem)).heap[b]? =W.heap[b]? :=fun b hb=>Ah W.drew _ b hb
   have hnG:(xs.length+ys.length) *E.size≤J1.size:=by rw [hRl];exact Nat.mul_le_mul_right _ hGn
   obtain ⟨RA,hRA⟩: ∃RA:List Value,RA=J1.toList.take (i *E.size)++news++J1.toList.drop (i *E.size+news.length):=⟨_,rfl⟩
   have afl:RA.length=J1.size:=by
    rw [hRA]
    simp only [List.length_append,List.length_take,List.length_drop,Array.length_toList]
    omega
   have hB: ∀ty,(Builtin.copy_ #[t,t] ty #[.slice (some ⟨W.heap.size,i *E.size,none⟩) (xs.length+ys.length-i) (G-i),.slice (some ⟨g2,0,none⟩) ys.length c2]).run P (W.drew.alloc (.cells J1 I.elem))=
    .ok (goInt ((ys.length:Nat):Int)) (World.setRow (W.drew.alloc (.cells J1 I.elem)) W.heap.size RA.toArray):=fun ty=>by
    rw [hRA]
    exact oP (size:=E.size) hu nU tm hg9 (by simp only [Nat.min_def];split<;>omega) DR (UY (Ds g2 ajV)) (by omega) Al.wZ
   have abS:=setRow_heap (W.drew.alloc (.cells J1 I.elem)) W.heap.size J1 RA.toArray I.elem (0,0) hg9
   obtain ⟨W2,Ru⟩: ∃W2,W2=World.setRow (W.drew.alloc (.cells J1 I.elem)) W.heap.size RA.toArray:=⟨_,rfl⟩
   have Ye: ∀b,b<W.heap.size→W2.heap[b]? =W.heap[b]? :=fun b hb=>by rw [Ru,setRow_other _ _ _ _ (by omega)];exact Ds b hb
   have Od:Rest W W2:=by
    rw [Ru]
    exact (show Rest W W.drew from ⟨rfl,rfl,rfl,fun _=>rfl⟩).trans ((Rest.alloc W.drew J1 I.elem).trans (Rest.setRow _ _ _))
   have aow:W2.heap.size=W.heap.size+1:=by rw [Ru,setRow_size];exact Array.size_push _
   rw [←Ru] at hB abS
   have hC:=fun ty=>oP (P:=P) (dT:=t) (sT:=t) (ty:=ty) (size:=E.size) (X8:=xs.length+ys.length-(i+ys.length)) (abL:=G-(i+ys.length)) (X9:=xs.length-i) (abM:=c0-i) (k:=xs.length-i) (o:=(i+ys.length) *E.size) (a:=⟨g,i *E.size,none⟩) (w:={W2 with drawn:=W2.drawn+1}) hu nU tm abS (by simp only [Nat.min_def];split<;>omega) JT
    (aal (Ye g WR)) (by simp only [List.size_toArray];rw [afl,him,JT];omega) ZK
   refine (UW hf nU tm hm H5 (by unfold maxLen at DO;omega) (by omega) tf sv hGn hA hB hC).mono ?_
   rintro x xP ⟨rfl,rfl⟩
   refine ⟨_,rfl,?_⟩
   refine DT (v0:= .slice (some ⟨g,0,none⟩) xs.length c0) (n:=xs.length+ys.length) (cells:=cells.take (i *E.size)++news++cells.drop (i *E.size)) hz jk nj n7 B2 ?_ ?_ ?_ PF ?_ hrl Fg (fun b hb=> .inr (by cases hb;exact Nat.le_refl _))
   ·intro b hb cT
    rw [setRow_other _ _ _ _ (by omega)]
    exact Ye b hb
   ·rw [setRow_size];show W.heap.size≤W2.heap.size;omega
   ·exact Od.trans ((show Rest W2 {W2 with drawn:=W2.drawn+1} from ⟨rfl,rfl,rfl,fun _=>rfl⟩).trans (Rest.setRow _ _ _))
   ·refine ⟨by rw [Fg.length,hrl],.inr ⟨W.heap.size,G,_,rfl,Nat.zero_le _,setRow_heap {W2 with drawn:=W2.drawn+1} W.heap.size RA.toArray _ I.elem (0,0) abS,hGn,hGm,?_,?_⟩⟩
    ·simp only [List.size_toArray,List.length_append,List.length_take,List.length_drop]
     rw [afl,←hRl]
     omega
    ·have aj0:RA.take ((i+ys.length) *E.size)=cells.take (i *E.size)++news:=by
      have hl:(J1.toList.take (i *E.size)++news).length=(i+ys.length) *E.size:=by rw [List.length_append,List.length_take,Array.length_toList,him];omega
      rw [hRA,List.take_append_of_le_length (by omega),List.take_of_length_le (by omega),hRt]
     rw [aj0]
     have wK:(cells.take (i *E.size)++news++cells.drop (i *E.size)).length=(xs.length+ys.length) *E.size:=by rw [Fg.length,hrl]
     rw [←wK]
     exact List.take_left
  ·have sv:xs.length+ys.length≤c0:=by omega
   have hcz:di.toList.length=di.size:=Array.length_toList
   have wX:(xs.length+ys.length) *E.size≤di.size:=by rw [rY];exact Nat.mul_le_mul_right _ sv
   have hO:(callFunc fo #[.slice (some ⟨g2,0,none⟩) ys.length c2,.slice (some ⟨g,(i+ys.length) *E.size,none⟩) (xs.length+ys.length-(i+ys.length)) (c0-(i+ys.length))]).run P W= .ok (.value (.bool false)) W:=by
    rw [hov,Lib.run_overlaps_apart W t tb I.elem hu E.size (fun w=>by simp [Go.sizeOf,typeInfo,nU,tm]) ⟨g2,0,none⟩ ⟨g,(i+ys.length) *E.size,none⟩ _ _ _ _ (Ne.symm hgg) I.elem I.elem tM.size di.size (by simp [World.shape?,Rl]) (by simp [World.shape?,hgc])
     (by rw [rY];exact Nat.ne_of_gt (Nat.mul_pos (by omega) eu)) (by simp [World.frozen?,Rl]) (by simp [World.frozen?,Rl])]
    rfl
   let R1:List Value:=di.toList.take ((i+ys.length) *E.size)++cells.drop (i *E.size)++di.toList.drop ((i+ys.length) *E.size+(cells.drop (i *E.size)).length)
   have hR1:R1.length=di.size:=by
    simp only [R1,List.length_append,List.length_take,List.length_drop,Array.length_toList]
    rw [JT] at *
    omega
   have hB: ∀ty,(Builtin.copy_ #[t,t] ty #[.slice (some ⟨g,(i+ys.length) *E.size,none⟩) (xs.length+ys.length-(i+ys.length)) (c0-(i+ys.length)),.slice (some ⟨g,i *E.size,none⟩) (xs.length+ys.length-i) (c0-i)]).run P {W with drawn:=W.drawn+1}=
    .ok (goInt ((xs.length-i:Nat):Int)) (World.setRow {W with drawn:=W.drawn+1} g R1.toArray):=fun ty=>
    oP (size:=E.size) hu nU tm (w:={W with drawn:=W.drawn+1}) hgc (by simp only [Nat.min_def];split<;>omega) JT (aal rfl) (by rw [him,JT];omega) ZK
   have aj2:(World.setRow {W with drawn:=W.drawn+1} g R1.toArray).heap[g]? =some (.cells R1.toArray I.elem (0,0)):=setRow_heap {W with drawn:=W.drawn+1} g di R1.toArray I.elem (0,0) hgc
   have Ye: ∀b,b≠g→(World.setRow {W with drawn:=W.drawn+1} g R1.toArray).heap[b]? =W.heap[b]? :=fun b hb=>setRow_other {W with drawn:=W.drawn+1} g b R1.toArray hb
   have hC:=fun ty=>oP (P:=P) (dT:=t) (sT:=t) (ty:=ty) (size:=E.size) (X8:=xs.length+ys.length-i) (abL:=c0-i) (X9:=ys.length) (abM:=c2) (k:=ys.length) (o:=i *E.size) (a:=⟨g2,0,none⟩) hu nU tm aj2 (by simp only [Nat.min_def];split<;>omega) DR
    (UY (Ye g2 (Ne.symm hgg))) (by simp only [List.size_toArray];rw [hR1];omega) Al.wZ
   refine (UX hf nU tm hm H5 (by unfold maxLen at DO;omega) (by omega) tf sv hO hB hC).mono ?_
   rintro x xP ⟨rfl,rfl⟩
   refine ⟨_,rfl,?_⟩
   rw [setRow_setRow]
   have zm:Rest W (World.setRow {W with drawn:=W.drawn+1} g (R1.toArray.toList.take (i *E.size)++news++R1.toArray.toList.drop (i *E.size+news.length)).toArray):=afk.trans (Rest.setRow _ _ _)
   refine DT (v0:= .slice (some ⟨g,0,none⟩) xs.length c0) (n:=xs.length+ys.length) (cells:=cells.take (i *E.size)++news++cells.drop (i *E.size)) hz jk nj n7 B2 ?_ (by simp) zm PF ?_ hrl Fg (fun b hb=> .inl hb)
   ·intro b hb cT
    refine setRow_other {W with drawn:=W.drawn+1} g b _ (fun h=>cT ?_)
    rw [h];rfl
   ·refine ⟨by rw [Fg.length,hrl],.inr ⟨g,c0,_,rfl,Nat.zero_le _,setRow_heap {W with drawn:=W.drawn+1} g di _ I.elem (0,0) hgc,sv,DO,?_,?_⟩⟩
    ·simp only [List.size_toArray,List.length_append,List.length_take,List.length_drop]
     rw [hR1,←rY]
     omega
    ·rw [hnm]
     refine Yb (di:=di.toList) (r:=xs.length *E.size) (by simpa using hR1) rfl n9 tG (by simp only [Array.length_toList];omega) ?_ ?_
     ·show R1.take (i *E.size)=_
      rw [←NE,List.take_take,Nat.min_eq_left tG]
      simp only [R1]
      rw [List.append_assoc,List.take_append_of_le_length (by rw [List.length_take,hcz];omega),List.take_take,Nat.min_eq_left (by omega)]
     ·show (R1.drop (i *E.size+news.length)).take _=_
      simp only [R1]
      have hl:(di.toList.take ((i+ys.length) *E.size)).length=i *E.size+news.length:=by rw [List.length_take,hcz];omega
      rw [List.append_assoc,←hl,List.drop_left,List.take_append_of_le_length (by omega),List.take_of_length_le (by omega)]
end
end Dn
/-
  slices.Delete of the library, walked. Conditions: none.
-/
set_option linter.unusedSimpArgs false
set_option linter.unusedVariables false
namespace Dn
open Go
structure CW (o:Oper) (op:Op):Prop where
 dst:o.dst=none
 op:o.op=op
 guard:o.guard=none
section
variable {P:Program} {Q:Exit→Act→World→Prop} {ops:Array Oper} {o:Oper} {a:Act} {w w':World} {n:Nat} {σ:Nat→Value}
theorem Tm.aam {i:Nat} {op:Op} {rest:List Nat} {v:Value} (aE:Tm a n σ) (hi:ops[i]? =some o) (ho:CW o op) (bT:(execOp (ev σ) o).run P w= .ok (.value v) w')
 (h:wpOps P ops Q rest a w'):wpOps P ops Q (i::rest) a w:=by
 refine tl hi ho.guard (v:=v) (w':=w') (by rw [aE.eval];exact bT) ?_
 rw [ho.dst];exact h
def Fh (ops:Array Oper):Nat→Nat→Array Bool→Bool
 |0,i,listed=>(Region.ready .any ops listed==[i])&&(Region.ready .any ops (listed.setIfInBounds i true)==[i+1])&&(Region.ready .any ops ((listed.setIfInBounds i true).setIfInBounds (i+1) true)).isEmpty
 |k+1,i,listed=>Region.free .any ops listed i&&(Region.ready .any ops listed).contains i&&Fh ops k (i+1) (listed.setIfInBounds i true)
def Oe (ops:Array Oper):Bool:=Region.noSelect ops&&Nat.blt 1 ops.size&&Fh ops (ops.size-2) 0 (Array.replicate ops.size false)
structure J3 (ops:Array Oper) (k i:Nat) (listed:Array Bool):Prop where
 sel:Region.noSelect ops=true
 ord:Fh ops k i listed=true
theorem Tm.Ix {N:Act→World→Prop} {i d:Nat} {op:Op} {k:Nat} {listed:Array Bool} {v:Value} (aE:Tm a n σ) (hi:ops[i]? =some o) (ho:aR o d op) (hd:d<n) (hb:J3 ops (k+1) i listed) (bT: ∀w,(execOp (ev σ) o).run P w= .ok (.value v) w)
 (h: ∀a',Tm a' n (xe σ d v)→J3 ops k (i+1) (listed.setIfInBounds i true)→wpAny P .any ops (qm N) (k+2) (listed.setIfInBounds i true) a' w):wpAny P .any ops (qm N) (k+3) listed a w:=by
 obtain ⟨hs,hb⟩:=hb
 simp only [Fh,Bool.and_eq_true] at hb
 obtain ⟨⟨h1,h2⟩,h3⟩:=hb
 refine wpAny_take hi hs h1 h2 (fun c a w hq=>hq.elim) (v:=v) (.inl ⟨by simp [Region.wanted,ho.guard],fun w=>by rw [aE.eval];exact bT w⟩) ?_
 rw [ho.dst]
 exact h _ (aE.put hd v) ⟨hs,h3⟩
theorem Tm.afm {N:Act→World→Prop} {i d d2:Nat} {op op2:Op} {o2:Oper} {listed:Array Bool} {v v2:Value} (aE:Tm a n σ) (hi:ops[i]? =some o) (ho:aR o d op) (hd:d<n) (SN:ops[i+1]? =some o2) (cA:aR o2 d2 op2) (WX:d2<n) (hb:J3 ops 0 i listed)
 (bT:(execOp (ev σ) o).run P w= .ok (.value v) w') (It:(execOp (ev (xe σ d v)) o2).run P w'= .ok (.value v2) w')
 (h: ∀a',Tm a' n (xe (xe σ d v) d2 v2)→N a' w'):wpAny P .any ops (qm N) 2 listed a w:=by
 obtain ⟨hs,hb⟩:=hb
 simp only [Fh,Bool.and_eq_true,List.isEmpty_iff,beq_iff_eq] at hb
 obtain ⟨⟨h1,h2⟩,h3⟩:=hb
 refine wpAny_all h1 (by simp) ?_
 intro j hj
 simp only [List.mem_singleton] at hj
 subst hj
 unfold wpOp
 simp only [hi,Region.wanted,ho.guard,if_true]
 left
 unfold Oper.wp
 rw [aE.eval,bT,Oper.upon_value,ho.dst]
 have UZ:=aE.put hd v
 refine wpAny_all h2 (by simp) ?_
 intro q hq
 simp only [List.mem_singleton] at hq
 subst hq
 unfold wpOp
 simp only [SN,Region.wanted,cA.guard,if_true]
 left
 unfold Oper.wp
 rw [UZ.eval,It,Oper.upon_value,cA.dst]
 exact wpAny_done h3 (h _ (UZ.put WX v2)) 0
theorem U0 {id k:Nat} (hm:P.follows .mixedOrders=true) (hb:Oe ops=true) (hk:ops.size=k+2) (h:J3 ops k 0 (Array.replicate (k+2) false)→wpAny P .any ops (qm fun a w=>Q .normal a w) (k+2) (Array.replicate (k+2) false) a {w with drawn:=w.drawn+1}):
 (Code.region id ops true).wp P Q a w:=by
 simp only [Oe,Bool.and_eq_true] at hb
 rw [hk] at hb
 refine Code.wp_mono ?_ (wp_region_any (Q:=qm fun a w=>Q .normal a w) hm (by rw [hk];exact h ⟨hb.1.1,hb.2⟩))
 intro x a' w' hx
 cases x<;>first|exact hx|exact hx.elim
theorem Iy {d:Nat} {t el:TypeId} {x y z m3:Operand} {e:Operand→Value} {ad:Option Addr} {m c l h k:Nat} {i:TypeInfo} (ho:aR o d (.slice t x (some y) (some z) (some m3))) (hu:P.underlying t=some (.slice el)) (hi:P.info? el=some i)
 (hx:e x= .slice ad m c) (hy:e y= .int .i64 l) (hz:e z= .int .i64 h) (hm:e m3= .int .i64 k) (h1:l≤h) (h2:h≤k) (h3:k≤c) (w:World):(execOp e o).run P w= .ok (.value (.slice (if k=l then ad else ad.map (·.add (l *i.size))) (h-l) (k-l))) w:=by
 simp [execOp,ho.op,Instr.sliceAt,Instr.slice,run_underlying hu,hx,hy,hz,hm,Go.sizeOf,typeInfo,hi,Instr.sliceBounds,Instr.sliceBound,asIntOf,h1,h2,h3]
theorem LR {d:Nat} {t el:TypeId} {x y z:Operand} {e:Operand→Value} {ad:Option Addr} {m c l h size:Nat} {i:TypeInfo} (ho:aR o d (.slice t x (some y) (some z) none)) (hu:P.underlying t=some (.slice el)) (hi:P.info? el=some i) (hs:i.size=size)
 (hx:e x= .slice ad m c) (hy:e y= .int .i64 l) (hz:e z= .int .i64 h) (h1:l≤h) (h2:h≤c) (w:World):(execOp e o).run P w= .ok (.value (.slice (if c=l then ad else ad.map (·.add (l *size))) (h-l) (c-l))) w:=by
 simp [execOp,ho.op,Instr.sliceAt,Instr.slice,run_underlying hu,hx,hy,hz,Go.sizeOf,typeInfo,hi,hs,Instr.sliceBounds,Instr.sliceBound,asIntOf,h1,h2]
theorem P3 {x:Operand} {t1:TypeId} {e:Operand→Value} {v1 v:Value} (ho:CW o (.call {callee:= .builtin .clear,args:= #[x],argTypes:= #[t1]})) (hx:e x=v1)
 (h:(Builtin.clear_ #[t1] o.type #[v1]).run P w= .ok v w'):(execOp e o).run P w= .ok (.value v) w':=by
 simp [execOp,ho.op,resolve,invoke,builtin,hx,h]
theorem xh {t ty elem t2:TypeId} {g off n c size:Nat} {z:Value} {di:Array Value} {i:TypeInfo} (hu:P.underlying t=some (.slice elem)) (hi:P.info? elem=some i) (hz:i.zero=some z) (KM:z.cells.size=size) (h1: ∀v∈z.cells.toList,v.oneCell'=true)
 (hg:w.heap[g]? =some (.cells di t2 (0,0))) (hn:0<n) (wX:off+n *size≤di.size):
 ∃zs:List Value,zs.length=n *size∧(Builtin.clear_ #[t] ty #[.slice (some ⟨g,off,none⟩) n c]).run P w= .ok (.tuple #[]) (w.setRow g (di.toList.take off++zs++di.toList.drop (off+zs.length)).toArray):=by
 refine ⟨(Builtin.zeroCells z.cells n).toList,?_,?_⟩
 ·simp [Builtin.zeroCells,KM]
 ·have hl:(Builtin.zeroCells z.cells n).toList.length=n *size:=by simp [Builtin.zeroCells,KM]
  have ek:=run_storeCells_at P g off t2 (Builtin.zeroCells z.cells n).toList 0 di w hg (by rw [hl];simpa using wX) (by
   intro v hv
   simp only [Builtin.zeroCells,Array.toList_map,List.mem_map,Array.mem_toList_iff,Array.mem_range] at hv
   obtain ⟨j,hj,rfl⟩:=hv
   have eu:0<z.cells.size:=by
    rcases Nat.eq_zero_or_pos z.cells.size with h0|h0
    ·rw [h0] at hj;omega
    ·exact h0
   have da:j%z.cells.size<z.cells.size:=Nat.mod_lt _ eu
   rw [getElem!_pos z.cells _ da]
   exact h1 _ (by simp))
  simp only [Nat.add_zero] at ek
  obtain ⟨m,rfl⟩: ∃m,n=m+1:=⟨n-1,by omega⟩
  simp [Builtin.clear_,run_underlying hu,zeroValue,typeInfo,hi,hz,ek]
end
theorem tY {w:World} {g:Nat} {di:Array Value} {t:TypeId} {fr:Nat×Nat} (cs:Array Value) (hg:w.heap[g]? =some (.cells di t fr)):(w.setRow g cs).heap[g]? =some (.cells cs t fr):=by
 simp [World.setRow,Array.getElem?_modify,hg]
def AH (r:Nat→Nat) (o:Nat→Oper):Code:=
 .seq (.region (r 0) #[o 0] false) (.seq (.region (r 1) #[o 1,o 2,o 3,o 4,o 5,o 6] false) (.seq (.seq (.region (r 2) #[o 7,o 8,o 9] false) (.cond (.tmp 16) (.seq (.region (r 3) #[o 10,o 11] false) .ret) .skip)) (.seq (.region (r 4) #[o 12,o 13,o 14] false) (.seq (.region (r 5) #[o 15,o 16,o 17,o 18,o 19,o 20,o 21,o 22] true) (.seq (.region (r 6) #[o 23,o 24,o 25,o 26,o 27,o 28] false) (.seq (.region (r 7) #[o 29,o 30] false) .ret))))))
structure abT (t ti:Nat) (o:Nat→Oper):Prop where
 h0:aR (o 0) 6 (.assign (.const (.slice none 0 0)))
 h1:aR (o 1) 8 (.move (.tmp 0))
 h2:aR (o 2) 9 (.move (.tmp 1))
 h3:aR (o 3) 10 (.move (.tmp 2))
 h4:aR (o 4) 11 (.move (.tmp 0))
 h5:aR (o 5) 12 (.call {callee:= .builtin .len,args:= #[.tmp 11],argTypes:= #[t]})
 h6:aR (o 6) 13 (.slice t (.tmp 8) (some (.tmp 9)) (some (.tmp 10)) (some (.tmp 12)))
 h7:aR (o 7) 14 (.move (.tmp 1))
 h8:aR (o 8) 15 (.move (.tmp 2))
 h9:aR (o 9) 16 (.binOp .eql ti (.tmp 14) (.tmp 15) ti)
 PO:aR (o 10) 17 (.move (.tmp 0))
 N7:aR (o 11) 6 (.assign (.tmp 17))
 N8:aR (o 12) 18 (.move (.tmp 0))
 N9:aR (o 13) 19 (.call {callee:= .builtin .len,args:= #[.tmp 18],argTypes:= #[t]})
 Oa:aR (o 14) 7 (.assign (.tmp 19))
 Ob:aR (o 15) 20 (.move (.tmp 0))
 Oc:aR (o 16) 21 (.move (.tmp 1))
 UT:aR (o 17) 22 (.slice t (.tmp 20) none (some (.tmp 21)) none)
 h18:aR (o 18) 23 (.move (.tmp 0))
 h19:aR (o 19) 24 (.move (.tmp 2))
 h20:aR (o 20) 25 (.slice t (.tmp 23) (some (.tmp 24)) none none)
 WY:aR (o 21) 26 (.call {callee:= .builtin .append,args:= #[.tmp 22,.tmp 25],argTypes:= #[t,t]})
 WZ:aR (o 22) 0 (.assign (.tmp 26))
 W0:aR (o 23) 27 (.move (.tmp 0))
 W5:aR (o 24) 28 (.move (.tmp 0))
 W6:aR (o 25) 29 (.call {callee:= .builtin .len,args:= #[.tmp 28],argTypes:= #[t]})
 W7:aR (o 26) 30 (.move (.tmp 7))
 h27:aR (o 27) 31 (.slice t (.tmp 27) (some (.tmp 29)) (some (.tmp 30)) none)
 h28:CW (o 28) (.call {callee:= .builtin .clear,args:= #[.tmp 31],argTypes:= #[t]})
 h29:aR (o 29) 32 (.move (.tmp 0))
 UU:aR (o 30) 6 (.assign (.tmp 32))
 d5:Oe #[o 15,o 16,o 17,o 18,o 19,o 20,o 21,o 22]=true
structure LS (P:Program) (f t ti el:Nat) (fn:Func) (r:Nat→Nat) (o:Nat→Oper):Prop where
 pos:P.funcs[f]? =some fn
 name:(fn.name== "runtime.NumGoroutine")=false
 tmps:fn.ntmps=33
 res:fn.results= #[.tmp 6]
 body:fn.body=some (AH r o)
 ops:abT t ti o
 mix:P.follows .mixedOrders=true
 uG:P.underlying t=some (.slice el)
section
variable {P:Program} {f t ti el:Nat} {fn:Func} {r:Nat→Nat} {o:Nat→Oper} {ie:TypeInfo} {size n c i j g:Nat} {ad:Option Addr} {w:World}
theorem P4 {a:Act} {w:World} {σ:Nat→Value} {R:Ending→World→Prop} {v:Value} (hr:fn.results= #[.tmp 6]) (aE:Tm a 33 σ) (h6:σ 6=v) (h:R (.returned v) w):bodyPost P fn R .ret a w:=by
 refine ⟨aE.defers,v,?_,h⟩
 have h2:a.tmps[6]?.getD undef=v:=by have:=aE.get 6;rw [h6] at this;simpa using this
 simp [results,hr,h2]
theorem U1 (hf:LS P f t ti el fn r o) (nU:P.info? el=some ie) (hn:n≤c) (hi:i≤n):
 Calls P f #[.slice ad n c,.int .i64 ((i:Nat):Int),.int .i64 ((i:Nat):Int)] w fun x w'=>x= .returned (.slice ad n c)∧w'=w:=by
 refine calls_of_wp hf.pos hf.body ?_
 rw [hf.tmps]
 have key: ∀a:Act,Tm a 33 (xe (xe (xe (fun _=>undef) 0 (.slice ad n c)) 1 (.int .i64 ((i:Nat):Int))) 2 (.int .i64 ((i:Nat):Int)))→(AH r o).wp P (bodyPost P fn fun x w'=>x= .returned (.slice ad n c)∧w'=w) a w:=by
  intro a aE
  unfold AH
  refine wp_seq (wp_region ?_)
  rw [show List.range (#[o 0]:Array Oper).size=[0] from rfl]
  refine aE.step (v:= .slice none 0 0) rfl hf.ops.h0 (by decide) (cP hf.ops.h0 _) (fun a aE=> ?_)
  refine wp_seq (wp_region ?_)
  rw [show List.range (#[o 1,o 2,o 3,o 4,o 5,o 6]:Array Oper).size=[0,1,2,3,4,5] from rfl]
  refine aE.step (v:= .slice ad n c) rfl hf.ops.h1 (by decide) (aQ hf.ops.h1 _) (fun a aE=> ?_)
  refine aE.step (v:= .int .i64 ((i:Nat):Int)) rfl hf.ops.h2 (by decide) (aQ hf.ops.h2 _) (fun a aE=> ?_)
  refine aE.step (v:= .int .i64 ((i:Nat):Int)) rfl hf.ops.h3 (by decide) (aQ hf.ops.h3 _) (fun a aE=> ?_)
  refine aE.step (v:= .slice ad n c) rfl hf.ops.h4 (by decide) (aQ hf.ops.h4 _) (fun a aE=> ?_)
  refine aE.step (v:= .int .i64 ((n:Nat):Int)) rfl hf.ops.h5 (by decide) (mB hf.ops.h5 hf.uG rfl _) (fun a aE=> ?_)
  refine aE.step rfl hf.ops.h6 (by decide) (Iy hf.ops.h6 hf.uG nU rfl rfl rfl rfl (Nat.le_refl _) hi hn _) (fun a aE=> ?_)
  refine wp_seq ?_
  refine wp_seq (wp_region ?_)
  rw [show List.range (#[o 7,o 8,o 9]:Array Oper).size=[0,1,2] from rfl]
  refine aE.step (v:= .int .i64 ((i:Nat):Int)) rfl hf.ops.h7 (by decide) (aQ hf.ops.h7 _) (fun a aE=> ?_)
  refine aE.step (v:= .int .i64 ((i:Nat):Int)) rfl hf.ops.h8 (by decide) (aQ hf.ops.h8 _) (fun a aE=> ?_)
  refine aE.step (v:= .bool (decide (((i:Nat):Int)=((i:Nat):Int)))) rfl hf.ops.h9 (by decide) (oO hf.ops.h9 rfl rfl _) (fun a aE=> ?_)
  refine aE.cond (b:=true) (by show Value.bool (decide (((i:Nat):Int)=((i:Nat):Int)))=_;rw [decide_eq_true rfl]) ?_
  simp only [if_true]
  refine wp_seq (wp_region ?_)
  rw [show List.range (#[o 10,o 11]:Array Oper).size=[0,1] from rfl]
  refine aE.step (v:= .slice ad n c) rfl hf.ops.PO (by decide) (aQ hf.ops.PO _) (fun a aE=> ?_)
  refine aE.step (v:= .slice ad n c) rfl hf.ops.N7 (by decide) (cP hf.ops.N7 _) (fun a aE=> ?_)
  refine wp_ret ?_
  show bodyPost P fn (fun x wq=>x= .returned (.slice ad n c)∧wq=w) .ret a w
  refine P4 hf.res aE (v:= .slice ad n c) rfl ?_
  exact ⟨rfl,rfl⟩
 exact key _ (tm3 _ _ _ 30)
theorem U2 (hf:LS P f t ti el fn r o) (nU:P.info? el=some ie) (tm:ie.size=size) (hn:n≤c) (NA:i<j) (hj:j≤n) {w1 w2:World}
 (hA: ∀ty,(Builtin.append_ #[t,t] ty #[.slice (some ⟨g,0,none⟩) i c,.slice (if c=j then (some ⟨g,0,none⟩:Option Addr) else some ⟨g,j *size,none⟩) (n-j) (c-j)]).run P {w with drawn:=w.drawn+1}= .ok (.slice (some ⟨g,0,none⟩) (i+(n-j)) c) w1)
 (hC: ∀ty,(Builtin.clear_ #[t] ty #[.slice (some ⟨g,(i+(n-j)) *size,none⟩) (n-(i+(n-j))) (c-(i+(n-j)))]).run P w1= .ok (.tuple #[]) w2):
 Calls P f #[.slice (some ⟨g,0,none⟩) n c,.int .i64 ((i:Nat):Int),.int .i64 ((j:Nat):Int)] w fun x w'=>x= .returned (.slice (some ⟨g,0,none⟩) (i+(n-j)) c)∧w'=w2:=by
 refine calls_of_wp hf.pos hf.body ?_
 rw [hf.tmps]
 have h0: ∀l:Nat,(⟨g,0,none⟩:Addr).add l=⟨g,l,none⟩:=fun l=>by
  have:=Addr.add_mid g 0 l
  rwa [Nat.zero_add] at this
 have key: ∀a:Act,Tm a 33 (xe (xe (xe (fun _=>undef) 0 (.slice (some ⟨g,0,none⟩) n c)) 1 (.int .i64 ((i:Nat):Int))) 2 (.int .i64 ((j:Nat):Int)))→(AH r o).wp P (bodyPost P fn fun x w'=>x= .returned (.slice (some ⟨g,0,none⟩) (i+(n-j)) c)∧w'=w2) a w:=by
  intro a aE
  unfold AH
  refine wp_seq (wp_region ?_)
  rw [show List.range (#[o 0]:Array Oper).size=[0] from rfl]
  refine aE.step (v:= .slice none 0 0) rfl hf.ops.h0 (by decide) (cP hf.ops.h0 _) (fun a aE=> ?_)
  refine wp_seq (wp_region ?_)
  rw [show List.range (#[o 1,o 2,o 3,o 4,o 5,o 6]:Array Oper).size=[0,1,2,3,4,5] from rfl]
  refine aE.step (v:= .slice (some ⟨g,0,none⟩) n c) rfl hf.ops.h1 (by decide) (aQ hf.ops.h1 _) (fun a aE=> ?_)
  refine aE.step (v:= .int .i64 ((i:Nat):Int)) rfl hf.ops.h2 (by decide) (aQ hf.ops.h2 _) (fun a aE=> ?_)
  refine aE.step (v:= .int .i64 ((j:Nat):Int)) rfl hf.ops.h3 (by decide) (aQ hf.ops.h3 _) (fun a aE=> ?_)
  refine aE.step (v:= .slice (some ⟨g,0,none⟩) n c) rfl hf.ops.h4 (by decide) (aQ hf.ops.h4 _) (fun a aE=> ?_)
  refine aE.step (v:= .int .i64 ((n:Nat):Int)) rfl hf.ops.h5 (by decide) (mB hf.ops.h5 hf.uG rfl _) (fun a aE=> ?_)
  refine aE.step rfl hf.ops.h6 (by decide) (Iy hf.ops.h6 hf.uG nU rfl rfl rfl rfl (Nat.le_of_lt NA) hj hn _) (fun a aE=> ?_)
  refine wp_seq ?_
  refine wp_seq (wp_region ?_)
  rw [show List.range (#[o 7,o 8,o 9]:Array Oper).size=[0,1,2] from rfl]
  refine aE.step (v:= .int .i64 ((i:Nat):Int)) rfl hf.ops.h7 (by decide) (aQ hf.ops.h7 _) (fun a aE=> ?_)
  refine aE.step (v:= .int .i64 ((j:Nat):Int)) rfl hf.ops.h8 (by decide) (aQ hf.ops.h8 _) (fun a aE=> ?_)
  refine aE.step (v:= .bool (decide (((i:Nat):Int)=((j:Nat):Int)))) rfl hf.ops.h9 (by decide) (oO hf.ops.h9 rfl rfl _) (fun a aE=> ?_)
  refine aE.cond (b:=false) (by show Value.bool (decide (((i:Nat):Int)=((j:Nat):Int)))=_;rw [decide_eq_false (by omega)]) ?_
  simp only [Bool.false_eq_true,if_false]
  refine wp_skip ?_
  refine wp_seq (wp_region ?_)
  rw [show List.range (#[o 12,o 13,o 14]:Array Oper).size=[0,1,2] from rfl]
  refine aE.step (v:= .slice (some ⟨g,0,none⟩) n c) rfl hf.ops.N8 (by decide) (aQ hf.ops.N8 _) (fun a aE=> ?_)
  refine aE.step (v:= .int .i64 ((n:Nat):Int)) rfl hf.ops.N9 (by decide) (mB hf.ops.N9 hf.uG rfl _) (fun a aE=> ?_)
  refine aE.step (v:= .int .i64 ((n:Nat):Int)) rfl hf.ops.Oa (by decide) (cP hf.ops.Oa _) (fun a aE=> ?_)
  refine wp_seq (U0 hf.mix hf.ops.d5 (k:=6) rfl fun fW=> ?_)
  refine aE.Ix (v:= .slice (some ⟨g,0,none⟩) n c) rfl hf.ops.Ob (by decide) fW (fun w=>aQ hf.ops.Ob _) (fun a aE fW=> ?_)
  refine aE.Ix (v:= .int .i64 ((i:Nat):Int)) rfl hf.ops.Oc (by decide) fW (fun w=>aQ hf.ops.Oc _) (fun a aE fW=> ?_)
  refine aE.Ix (v:= .slice (some ⟨g,0,none⟩) i c) rfl hf.ops.UT (by decide) fW (fun w=>AF hf.ops.UT hf.uG nU tm rfl rfl (by omega) _) (fun a aE fW=> ?_)
  refine aE.Ix (v:= .slice (some ⟨g,0,none⟩) n c) rfl hf.ops.h18 (by decide) fW (fun w=>aQ hf.ops.h18 _) (fun a aE fW=> ?_)
  refine aE.Ix (v:= .int .i64 ((j:Nat):Int)) rfl hf.ops.h19 (by decide) fW (fun w=>aQ hf.ops.h19 _) (fun a aE fW=> ?_)
  refine aE.Ix (v:= .slice (if c=j then (some ⟨g,0,none⟩:Option Addr) else some ⟨g,j *size,none⟩) (n-j) (c-j)) rfl hf.ops.h20 (by decide) fW (fun w=>by
   refine (xg (P:=P) hf.ops.h20 hf.uG nU tm (ad:=some ⟨g,0,none⟩) (m:=n) (c:=c) (l:=j) rfl rfl hj w).trans ?_
   rw [show (some (⟨g,0,none⟩:Addr)).map (·.add (j *size))=some ⟨g,j *size,none⟩ from congrArg some (h0 _)]) (fun a aE fW=> ?_)
  refine aE.afm (v:= .slice (some ⟨g,0,none⟩) (i+(n-j)) c) (v2:= .slice (some ⟨g,0,none⟩) (i+(n-j)) c) rfl hf.ops.WY (by decide) rfl hf.ops.WZ (by decide) fW (Fe hf.ops.WY rfl rfl (hA _)) (cP hf.ops.WZ _) (fun a aE=> ?_)
  refine wp_seq (wp_region ?_)
  rw [show List.range (#[o 23,o 24,o 25,o 26,o 27,o 28]:Array Oper).size=[0,1,2,3,4,5] from rfl]
  refine aE.step (v:= .slice (some ⟨g,0,none⟩) (i+(n-j)) c) rfl hf.ops.W0 (by decide) (aQ hf.ops.W0 _) (fun a aE=> ?_)
  refine aE.step (v:= .slice (some ⟨g,0,none⟩) (i+(n-j)) c) rfl hf.ops.W5 (by decide) (aQ hf.ops.W5 _) (fun a aE=> ?_)
  refine aE.step (v:= .int .i64 ((i+(n-j):Nat):Int)) rfl hf.ops.W6 (by decide) (mB hf.ops.W6 hf.uG rfl _) (fun a aE=> ?_)
  refine aE.step (v:= .int .i64 ((n:Nat):Int)) rfl hf.ops.W7 (by decide) (aQ hf.ops.W7 _) (fun a aE=> ?_)
  refine aE.step (v:= .slice (some ⟨g,(i+(n-j)) *size,none⟩) (n-(i+(n-j))) (c-(i+(n-j)))) rfl hf.ops.h27 (by decide) (by
   refine (LR (P:=P) hf.ops.h27 hf.uG nU tm (ad:=some ⟨g,0,none⟩) (m:=i+(n-j)) (c:=c) (l:=i+(n-j)) (h:=n) rfl rfl rfl (by omega) (by omega) w1).trans ?_
   rw [if_neg (show¬c=i+(n-j) by omega)]
   rw [show (some (⟨g,0,none⟩:Addr)).map (·.add ((i+(n-j)) *size))=some ⟨g,(i+(n-j)) *size,none⟩ from congrArg some (h0 _)]) (fun a aE=> ?_)
  refine aE.aam (v:= .tuple #[]) rfl hf.ops.h28 (P3 hf.ops.h28 rfl (hC _)) ?_
  refine wp_seq (wp_region ?_)
  rw [show List.range (#[o 29,o 30]:Array Oper).size=[0,1] from rfl]
  refine aE.step (v:= .slice (some ⟨g,0,none⟩) (i+(n-j)) c) rfl hf.ops.h29 (by decide) (aQ hf.ops.h29 _) (fun a aE=> ?_)
  refine aE.step (v:= .slice (some ⟨g,0,none⟩) (i+(n-j)) c) rfl hf.ops.UU (by decide) (cP hf.ops.UU _) (fun a aE=> ?_)
  refine wp_ret ?_
  show bodyPost P fn (fun x wq=>x= .returned (.slice (some ⟨g,0,none⟩) (i+(n-j)) c)∧wq=w2) .ret a w2
  refine P4 hf.res aE (v:= .slice (some ⟨g,0,none⟩) (i+(n-j)) c) rfl ?_
  exact ⟨rfl,rfl⟩
 exact key _ (tm3 _ _ _ 30)
end
section
variable {P:Program} {c:Ctx} {f:Nat}
theorem Iz {t ti el:Nat} {fn:Func} {r:Nat→Nat} {o:Nat→Oper} {I E:TI} {xs:List MV} {i j:Nat} (hf:LS P f t ti el fn r o) (hT:kK P c.ti) (hI:c.tv t=some I) (hL:I.za=true) (hE:c.tv I.elem=some E)
 (WM:el=I.elem) (B2:c.rW (c.key f)=I.elem) (hg:c.eo (c.key f)=true) (NA:i≤j) (hj:j≤xs.length):kM P c f [.fresh xs,.i .i64 i,.i .i64 j] (.fresh (xs.take i++xs.drop j)):=by
 subst WM
 obtain ⟨hIt,Tw⟩:=bO hI
 obtain ⟨nj,n7⟩:=bO hE
 obtain ⟨hu,E2,wM,_,eu⟩:=TI.mK (hT t I hIt) hL
 rw [nj] at wM
 cases wM
 obtain ⟨ie,z,nU,tm,QP,Yc,KM⟩:=oa (hT _ E nj) n7
 obtain ⟨ie2,z2,U3,Tr,hzr⟩:=zK hE hT
 rw [nU] at U3
 cases U3
 rw [Yc] at Tr
 cases Tr
 have hz1: ∀v∈z.cells.toList,v.oneCell'=true:=(hzr (oc c.key fun _ _=>none)).cells
 intro φ W Z vs hz fh jk
 simp only [eR,hg,if_true] at fh
 obtain ⟨v0,v1,v2,xs',m1,m2,rfl,Lm,amx,F0,A1,A2⟩:=(fh.resolve_left (by
  rintro ⟨_,_,_,_,_,ys,_,h1,_⟩
  simp only [List.cons.injEq,and_true] at h1
  exact absurd h1.2.2 (by simp))).resolve_right (by
  rintro ⟨pos,_,_,_,_,_,_,h1,_⟩
  rcases pos with _|_|_|pos<;>simp at h1)
 simp only [List.cons.injEq,MV.fresh.injEq,and_true] at Lm
 obtain ⟨rfl,rfl,rfl⟩:=Lm
 have num: ∀{v:Value} {n:Nat},fc c.key φ v (.i .i64 (n:Int))→v= .int .i64 (n:Int):=by
  intro v n h
  obtain ⟨_,h⟩:=h
  generalize yJ:[v]=l at h
  cases h;simpa using yJ
 have QG:=num A1
 have WN:=num A2
 subst QG
 subst WN
 rw [B2] at F0
 obtain ⟨I0,cells,Yd,_,tX,sH,Iw⟩:=F0
 have Yd:c.ti I.elem=some I0:=Yd
 rw [nj] at Yd
 cases Yd
 have tX:W.ownsRow 0 I.elem E.size v0 xs.length cells:=tX
 have sH:ba c.key φ E.size cells xs:=sH
 have PF: ∀b,v0.ownBlock=some b→Z b∧ ∀off,φ b off=none:=by
  intro b hb
  refine ⟨(Iw b hb).1,fun off=> ?_⟩
  cases h:φ b off with
  |none=>rfl
  |some u=>have:=((Iw b hb).2.1 off u h).1;cases this
 have n9:cells.length=xs.length *E.size:=sH.length
 have bT:(callFunc f [v0,.int .i64 (i:Int),.int .i64 (j:Int)].toArray).run P W= .ok (.enter f #[v0,.int .i64 (i:Int),.int .i64 (j:Int)]) W:=by
  have El: ¬fn.name= "runtime.NumGoroutine" :=by simpa using hf.name
  simp [callFunc,hf.pos,El,hf.body]
 unfold fN
 rw [bT]
 rcases Nat.lt_or_ge i j with da|SO
 ·
  obtain ⟨g,cp,di,rfl,_,SP,H5,DO,rY,NE⟩: ∃g cp di,v0= .slice (some ⟨g,0,none⟩) xs.length cp∧0≤g∧W.heap[g]? =some (.cells di I.elem (0,0))∧xs.length≤cp∧cp≤maxLen∧di.size=cp *E.size∧di.toList.take (xs.length *E.size)=cells:=by
   rcases tX.2 with ⟨_,h0⟩|h
   ·omega
   ·exact h
  have hl0:cells.length≤di.size:=by rw [n9,rY];exact Nat.mul_le_mul_right _ H5
  obtain ⟨news,CF⟩: ∃news,news=cells.drop (j *E.size):=⟨_,rfl⟩
  have DR:news.length=(xs.length-j) *E.size:=by rw [CF,List.length_drop,n9,Nat.sub_mul]
  have JA: ∀u∈news,u.oneCell'=true:=fun u hu=>sH.wZ u (by rw [CF] at hu;exact List.mem_of_mem_drop hu)
  have hmul: ∀{a b:Nat},a≤b→a *E.size≤b *E.size:=fun h=>Nat.mul_le_mul_right _ h
  have aoz:i *E.size≤j *E.size:=hmul (by omega)
  have hjn:j *E.size≤xs.length *E.size:=hmul hj
  have aoA:xs.length *E.size≤cp *E.size:=hmul H5
  have hlo:(i+(xs.length-j)) *E.size=i *E.size+news.length:=by rw [Nat.add_mul,DR]
  have Dl:news.length+j *E.size=xs.length *E.size:=by rw [DR,Nat.sub_mul];omega
  obtain ⟨xi,P5⟩: ∃xi:Array Value,xi=(di.toList.take (i *E.size)++news++di.toList.drop (i *E.size+news.length)).toArray:=⟨_,rfl⟩
  have afn:di.toList.length=di.size:=Array.length_toList
  have aan:xi.toList.length=xi.size:=Array.length_toList
  have hA: ∀ty,(Builtin.append_ #[t,t] ty #[.slice (some ⟨g,0,none⟩) i cp,.slice (if cp=j then (some ⟨g,0,none⟩:Option Addr) else some ⟨g,j *E.size,none⟩) (xs.length-j) (cp-j)]).run P {W with drawn:=W.drawn+1}= .ok (.slice (some ⟨g,0,none⟩) (i+(xs.length-j)) cp) (({W with drawn:=W.drawn+1}:World).setRow g xi):=by
   intro ty
   have wX:i *ie.size+news.length≤di.size:=by rw [tm,rY];omega
   by_cases hcj:cp=j
   ·rw [if_pos hcj]
    refine run_append_room (P:=P) (w:={W with drawn:=W.drawn+1}) t ty I.elem ie hu nU g i cp di SP ⟨g,0,none⟩ (xs.length-j) (cp-j) news (by rw [tm];exact DR) ?_ JA (by omega) wX|>.trans ?_
    ·intro q u hq
     have:=(List.getElem?_eq_some_iff.1 hq).1
     rw [DR,show xs.length-j=0 by omega] at this
     omega
    ·rw [tm,P5]
   ·rw [if_neg hcj]
    refine run_append_room (P:=P) (w:={W with drawn:=W.drawn+1}) t ty I.elem ie hu nU g i cp di SP ⟨g,j *E.size,none⟩ (xs.length-j) (cp-j) news (by rw [tm];exact DR) ?_ JA (by omega) wX|>.trans ?_
    ·intro q u hq
     have h1:=tX.cells (g:=g) rfl (j *E.size+q) u (by rw [CF,List.getElem?_drop] at hq;exact hq)
     rw [Addr.add_mid] at h1⊢
     rw [Nat.zero_add] at h1
     exact h1
    ·rw [tm,P5]
  have M4:xi.size=di.size:=by
   rw [P5]
   simp only [List.size_toArray,List.length_append,List.length_take,List.length_drop,afn]
   omega
  have Ie:(({W with drawn:=W.drawn+1}:World).setRow g xi).heap[g]? =some (.cells xi I.elem (0,0)):=tY _ SP
  obtain ⟨zs,hzl,hC0⟩:=xh (P:=P) (t:=t) (ty:=0) (c:=cp-(i+(xs.length-j))) (w:=({W with drawn:=W.drawn+1}:World).setRow g xi) (off:=(i+(xs.length-j)) *E.size) (n:=xs.length-(i+(xs.length-j))) hu nU Yc KM hz1 Ie (by omega) (by rw [M4,rY,←Nat.add_mul];exact hmul (by omega))
  obtain ⟨tM,Lc⟩: ∃tM:Array Value,tM=(xi.toList.take ((i+(xs.length-j)) *E.size)++zs++xi.toList.drop ((i+(xs.length-j)) *E.size+zs.length)).toArray:=⟨_,rfl⟩
  rw [←Lc] at hC0
  have hC: ∀ty,(Builtin.clear_ #[t] ty #[.slice (some ⟨g,(i+(xs.length-j)) *E.size,none⟩) (xs.length-(i+(xs.length-j))) (cp-(i+(xs.length-j)))]).run P (({W with drawn:=W.drawn+1}:World).setRow g xi)= .ok (.tuple #[]) ((({W with drawn:=W.drawn+1}:World).setRow g xi).setRow g tM):=fun ty=>hC0
  refine (U2 (w:=W) hf nU tm H5 da hj hA hC).mono ?_
  rintro x w' ⟨rfl,rfl⟩
  refine ⟨_,rfl,?_⟩
  have aj4:zs.length=(j-i) *E.size:=by rw [hzl];congr 1;omega
  have hc2:tM.size=di.size:=by
   rw [Lc]
   simp only [List.size_toArray,List.length_append,List.length_take,List.length_drop,aan,M4]
   rw [aj4,Nat.sub_mul,hlo]
   omega
  have afi:tM.toList.take ((i+(xs.length-j)) *E.size)=cells.take (i *E.size)++cells.drop (j *E.size):=by
   rw [Lc]
   have l1:(xi.toList.take ((i+(xs.length-j)) *E.size)).length=(i+(xs.length-j)) *E.size:=by
    rw [List.length_take,aan,M4,rY,hlo];omega
   rw [show∀l:List Value,l.toArray.toList=l from fun _=>rfl,List.append_assoc,List.take_append_of_le_length (by rw [l1];exact Nat.le_refl _),List.take_of_length_le (by rw [l1];exact Nat.le_refl _),hlo,P5]
   have l2:(di.toList.take (i *E.size)).length=i *E.size:=by rw [List.length_take,afn,rY];omega
   rw [show∀l:List Value,l.toArray.toList=l from fun _=>rfl,List.take_append_of_le_length (by rw [List.length_append,l2];exact Nat.le_refl _),List.take_of_length_le (by rw [List.length_append,l2];exact Nat.le_refl _),CF]
   congr 1
   rw [←NE,List.take_take,Nat.min_eq_left (by omega)]
  have e2:(({W with drawn:=W.drawn+1}:World).setRow g xi).setRow g tM=({W with drawn:=W.drawn+1}:World).setRow g tM:=setRow_setRow _ _ _ _
  have Rl:((({W with drawn:=W.drawn+1}:World).setRow g xi).setRow g tM).heap[g]? =some (.cells tM I.elem (0,0)):=tY _ Ie
  have hrl:(xs.take i++xs.drop j).length=i+(xs.length-j):=by rw [List.length_append,List.length_take,List.length_drop];omega
  refine DT (n:=i+(xs.length-j)) (cells:=cells.take (i *E.size)++cells.drop (j *E.size)) hz jk nj n7 B2 ?_ ?_ ?_ PF ?_ hrl ((sH.take i).append (sH.drop j)) ?_
  ·intro b _ cT
   have hbg:b≠g:=fun e=>cT (by rw [e];rfl)
   rw [setRow_other _ _ _ _ hbg,setRow_other _ _ _ _ hbg]
  ·simp [World.setRow]
  ·have r1:Rest W ({W with drawn:=W.drawn+1}:World):=⟨rfl,rfl,rfl,fun _=>rfl⟩
   exact (r1.trans (Rest.setRow _ g xi)).trans (Rest.setRow _ g tM)
  ·refine ⟨?_,.inr ⟨g,cp,tM,rfl,Nat.zero_le _,Rl,by omega,DO,by rw [hc2,rY],afi⟩⟩
   rw [List.length_append,List.length_take,List.length_drop,n9,hlo,DR,Nat.sub_mul];omega
  ·intro b hb;exact .inl hb
 ·
  have SS:j=i:=by omega
  subst SS
  obtain ⟨ad,cp,hv,H5⟩: ∃ad cp,v0= .slice ad xs.length cp∧xs.length≤cp:=by
   rcases tX.2 with ⟨h1,h2⟩|⟨g,cp,di,h1,_,_,h4,_⟩
   ·exact ⟨none,0,by rw [h1,h2],by omega⟩
   ·exact ⟨_,cp,h1,h4⟩
  have hvv:=hv
  subst hv
  refine (U1 (w:=W) (ad:=ad) hf nU H5 hj).mono ?_
  rintro x w' ⟨rfl,rfl⟩
  refine ⟨_,rfl,φ,⟨.refl _,fun _ _ _=>rfl,fun _ _ _=>rfl,Nat.le_refl _,.refl _⟩,jk,?_⟩
  show db c (bM.plain Z) (oc c.key φ) w' _ ⟨c.rW (c.key f),false,xs.take j++xs.drop j⟩
  rw [B2,List.take_append_drop]
  exact ⟨E,cells,nj,n7,tX,sH,Iw⟩
end
def oQ:List MV→Option MV
 |[.fresh xs,.i .i64 i,.i .i64 j]=>bif decide (0≤i)&&(decide (i≤j)&&decide (j≤(xs.length:Int))) then some (.fresh (xs.take i.toNat++xs.drop j.toNat)) else none
 |_=>none
theorem AJ {ms:List MV} {r:MV} (h:oQ ms=some r): ∃xs i j,ms=[.fresh xs,.i .i64 ((i:Nat):Int),.i .i64 ((j:Nat):Int)]∧r= .fresh (xs.take i++xs.drop j)∧i≤j∧j≤xs.length:=by
 unfold oQ at h
 split at h
 ·rename_i xs i j
  cases hb:decide (0≤i)&&(decide (i≤j)&&decide (j≤(xs.length:Int))) with
  |false=>rw [hb] at h;cases h
  |true=>
   simp only [hb,cond_true,Option.some.injEq] at h
   simp only [Bool.and_eq_true,decide_eq_true_eq] at hb
   obtain ⟨h1,h2,h3⟩:=hb
   refine ⟨xs,i.toNat,j.toNat,?_,h.symm,by omega,by omega⟩
   rw [Int.toNat_of_nonneg h1,Int.toNat_of_nonneg (by omega)]
 ·cases h
end Dn
/-
  Functions of the library as table entries. Conditions: none.
-/
set_option linter.unusedVariables false
namespace Dn
open Go
def fX (size bytes:Nat):List MV→Option MV
 |[.list xs]=>bif ta size xs&&Nat.ble (xs.length *bytes) (2^46) then some (.fresh xs) else none
 |_=>none
def jA (bytes:Nat):List MV→Option MV
 |[.fresh xs,.i .i64 i,.fresh ys]=>bif decide (0≤i)&&(Nat.ble i.toNat xs.length&&(!ys.isEmpty&&Nat.ble ((xs.length+ys.length) *bytes) (2^46))) then some (.fresh (xs.take i.toNat++ys++xs.drop i.toNat)) else none
 |_=>none
theorem sI {size bytes:Nat} {ms:List MV} {r:MV} (h:fX size bytes ms=some r): ∃xs,ms=[.list xs]∧r= .fresh xs∧ta size xs=true∧xs.length *bytes≤2^46:=by
 unfold fX at h
 split at h
 ·rename_i xs
  cases hb:ta size xs&&Nat.ble (xs.length *bytes) (2^46) with
  |false=>simp [hb] at h
  |true=>
   simp only [hb,cond_true,Option.some.injEq] at h
   simp only [Bool.and_eq_true] at hb
   exact ⟨xs,rfl,h.symm,hb.1,Nat.le_of_ble_eq_true hb.2⟩
 ·cases h
theorem vg {bytes:Nat} {ms:List MV} {r:MV} (h:jA bytes ms=some r): ∃xs ys i,ms=[.fresh xs,.i .i64 ((i:Nat):Int),.fresh ys]∧r= .fresh (xs.take i++ys++xs.drop i)∧i≤xs.length∧ys≠[]∧(xs.length+ys.length) *bytes≤2^46:=by
 unfold jA at h
 split at h
 ·rename_i xs i ys
  cases hb:decide (0≤i)&&(Nat.ble i.toNat xs.length&&(!ys.isEmpty&&Nat.ble ((xs.length+ys.length) *bytes) (2^46))) with
  |false=>rw [hb] at h;cases h
  |true=>
   simp only [hb,cond_true,Option.some.injEq] at h
   simp only [Bool.and_eq_true,decide_eq_true_eq,Bool.not_eq_true'] at hb
   obtain ⟨h1,h2,h3,h4⟩:=hb
   refine ⟨xs,ys,i.toNat,?_,h.symm,Nat.le_of_ble_eq_true h2,?_,Nat.le_of_ble_eq_true h4⟩
   ·rw [Int.toNat_of_nonneg h1]
   ·intro hy;subst hy;simp at h3
 ·cases h
theorem aq.none (P:Program) (c:Ctx):aq P c (fun _ _=>Option.none):=⟨fun f ms r h=>by cases h⟩
theorem aq.Du {P:Program} {c:Ctx} {g:Nat→List MV→Option MV} {n:Nat} {F:List MV→Option MV} (h:aq P c g) (Ap: ∀f,c.key f=f) (hF: ∀ms r,F ms=some r→kM P c n ms r):aq P c (bm n F g):=
 h.add (fun f ms r hk hr=>by
  rw [Ap] at hk
  rw [hk]
  exact hF ms r hr)
def vh:Code→List Oper
 | .region _ ops _=>ops.toList
 | .seq x y=>vh x++vh y
 | .cond _ x y=>vh x++vh y
 | .block _ x=>vh x
 | .loop x=>vh x
 |_=>[]
def iR (fn:Func) (d:Oper) (k:Nat):Oper:=match fn.body with|some c=>(vh c).getD k d|none=>d
def J4 (o:Nat→Oper):Code:= .seq (.region 18 #[o 83,o 84,o 85,o 86,o 87] false) (.seq (.region 19 #[o 88,o 89,o 90,o 91,o 92] false) (.seq (.region 20 #[o 93,o 94] false) .ret))
def iS:Oper:={dst:=none,op:= .move (.tmp 0),type:=0,pos:= "",after:= #[],guard:=none}
end Dn
/-
  Reasoning about functions on values. Conditions: none.
-/
set_option linter.unusedVariables false
namespace Dn
open Go
section
variable {R:Type}
@[simp] theorem aoB (k : IntKind) (x : Int) (K : Int → Option R) : gI k (.i k x) K = K x := by simp [gI]
@[simp] theorem aC {α : Type} (a : α) (K : α → Option R) : bd (some a) K = K a := (rfl)
@[simp] theorem amA (a b : Nat) : Nat.beq a b = decide (a = b) := fe a b
@[simp] theorem afo (K : Option R) : cR true K = K := (rfl)
@[simp] theorem afp (x y : Option R) : a8 true x y = x := (rfl)
@[simp] theorem adb (x y : Option R) : a8 false x y = y := (rfl)
end
theorem Yf {x:Int} (h1: -9223372036854775808≤x) (h2:x≤9223372036854775807):IntKind.wrap .i64 x=x:=by rw [IntKind.wrap_i64];omega
theorem U4 {i j:Nat} (h:i+j<2^62):IntKind.wrap .i64 (Int.fdiv (IntKind.wrap .u64 (IntKind.wrap .i64 ((i:Int)+(j:Int)))) (2^min (Int.toNat 1) (IntKind.bits .u64)))=(((i+j)/2:Nat):Int):=by
 have h1:IntKind.wrap .i64 ((i:Int)+(j:Int))=((i+j:Nat):Int):=by rw [IntKind.wrap_i64];omega
 have h2:IntKind.wrap .u64 ((i+j:Nat):Int)=((i+j:Nat):Int):=by
  have:IntKind.wrap .u64 ((i+j:Nat):Int)=((i+j:Nat):Int)%18446744073709551616:=by simp [IntKind.wrap,IntKind.signed,IntKind.bits]
  rw [this];omega
 have h3:(2:Int)^min (Int.toNat 1) (IntKind.bits .u64)=2:=by decide
 rw [h1,h2,h3,Int.fdiv_eq_ediv_of_nonneg _ (by omega)]
 rw [IntKind.wrap_i64];omega
section
variable {σ R:Type} {body:σ→Option (Sum σ R)}
theorem IA {n:Nat} {s:σ} {r:R} (h:iter body n s=some r): ∀{m:Nat},n≤m→iter body m s=some r:=by
 induction n generalizing s with
 |zero=>cases h
 |succ n ih=>
  intro m hm
  obtain ⟨m,rfl⟩: ∃k,m=k+1:=⟨m-1,by omega⟩
  simp only [iter] at h⊢
  cases hb:body s with
  |none=>rw [hb] at h;cases h
  |some x=>
   rw [hb] at h
   cases x with
   |inl s'=>exact ih h (by omega)
   |inr r'=>exact h
theorem qn {n:Nat} {s:σ} {r:R} (h:iter body n s=some r):Loop body s=some r:=by
 have he: ∃r n,iter body n s=some r:=⟨r,n,h⟩
 unfold Loop
 rw [dif_pos he]
 obtain ⟨m,hm⟩:=Classical.choose_spec he
 have h1:=IA h (Nat.le_max_left n m)
 have h2:=IA hm (Nat.le_max_right n m)
 rw [h1] at h2
 exact h2.symm
theorem U5 (I:σ→Prop) (μ:σ→Nat) (Q:R→Prop) (h: ∀s,I s→(∃s',body s=some (.inl s')∧I s'∧μ s'<μ s)∨(∃r,body s=some (.inr r)∧Q r)) {s:σ} (hs:I s): ∃r,Loop body s=some r∧Q r:=by
 have key: ∀k s,I s→μ s<k→ ∃r,iter body k s=some r∧Q r:=by
  intro k
  induction k with
  |zero=>intro s _ h;omega
  |succ k ih=>
   intro s hs hk
   rcases h s hs with ⟨s',e,hi,hm⟩|⟨r,e,hq⟩
   ·obtain ⟨r,e2,hq⟩:=ih s' hi (by omega)
    exact ⟨r,by simp only [iter,e];exact e2,hq⟩
   ·exact ⟨r,by simp only [iter,e],hq⟩
 obtain ⟨r,e,hq⟩:=key (μ s+1) s hs (by omega)
 exact ⟨r,qn e,hq⟩
theorem U6 (S:Nat→σ) (N:Nat) (Q:R→Prop) (P:Nat→Prop) (h0:P 0) (h: ∀k,k<N→P k→(body (S k)=some (.inl (S (k+1)))∧P (k+1))∨(∃r,body (S k)=some (.inr r)∧Q r)) (he:P N→ ∃r,body (S N)=some (.inr r)∧Q r): ∃r,Loop body (S 0)=some r∧Q r:=by
 have key: ∀d k,k+d=N→P k→ ∃r,iter body (d+1) (S k)=some r∧Q r:=by
  intro d
  induction d with
  |zero=>
   intro k hk hp
   have:k=N:=by omega
   subst this
   obtain ⟨r,e,hq⟩:=he hp
   exact ⟨r,by simp only [iter,e],hq⟩
  |succ d ih=>
   intro k hk hp
   rcases h k (by omega) hp with ⟨e,JC⟩|⟨r,e,hq⟩
   ·obtain ⟨r,e2,hq⟩:=ih (k+1) (by omega) JC
    exact ⟨r,by rw [iter,e];exact e2,hq⟩
   ·exact ⟨r,by rw [iter,e],hq⟩
 obtain ⟨r,e,hq⟩:=key N 0 (by omega) h0
 exact ⟨r,qn e,hq⟩
end
end Dn
/-
  From functions on plain values to functions on typed values. Conditions: none.
-/
set_option linter.unusedVariables false
namespace Dn
open Go
def bG {R:Type} (l:List MV) (K:Nat→Option R):Option R:=K l.length
def ix {α R:Type} (l:List α) (i:Int) (K:α→Option R):Option R:=
 match (if 0≤i then l[i.toNat]? else none) with|some x=>K x|none=>none
def jB {α:Type} (bytes:Nat) (l:List α):Option (List α):=if l.length *bytes≤2^46 then some l else none
def yc {α:Type} (xs:List α) (i j:Int):Option (List α):=if 0≤i∧i≤j∧j≤(xs.length:Int) then some (xs.take i.toNat++xs.drop j.toNat) else none
def qo {α:Type} (bytes:Nat) (xs:List α) (i:Int) (ys:List α):Option (List α):=
 if 0≤i∧i.toNat≤xs.length∧ys≠[]∧(xs.length+ys.length) *bytes≤2^46 then some (xs.take i.toNat++ys++xs.drop i.toNat) else none
@[reducible] def Of {α : Type} (f : α → MV) (l : List α) : MV := .list (l.map f)
@[reducible] def Rv {α : Type} (f : α → MV) (l : List α) : MV := .fresh (l.map f)
def Sm {A B:Type} (g:B→A) (x:Option A) (y:Option B):Prop:=x=y.map g
section
variable {A B A' B' α:Type} {g:B→A} {T:Option B}
theorem Sm.at {x x':Option A} (e:x=x') (h:Sm g x' T):Sm g x T:=e▸h
theorem aJ {l:List MV} {K:List MV→Option A} (h:Sm g (K l) T):Sm g (gA (.agg l) K) T:=h
theorem aU {x:Bool} {K:Bool→Option A} (h:Sm g (K x) T):Sm g (gB (.b x) K) T:=h
theorem bo {x:List UInt8} {K:List UInt8→Option A} (h:Sm g (K x) T):Sm g (gS (.s x) K) T:=h
theorem a7 {x:List MV} {K:List MV→Option A} (h:Sm g (K x) T):Sm g (gL (.list x) K) T:=h
theorem IB {x:MV} {outs:List MV} {K:MV→List MV→Option A} (h:Sm g (K x outs) T):Sm g (gW (.ej x outs) K) T:=h
theorem cE {x:List MV} {K:List MV→Option A} (h:Sm g (K x) T):Sm g (gT (.cK x) K) T:=h
theorem qX {x:List MV} {K:List MV→Option A} (h:Sm g (K x) T):Sm g (gF (.fresh x) K) T:=h
theorem IC {x:List MV} {K:List MV→Option A} (h:Sm g (K x) T):Sm g (gP (.rp x) K) T:=h
theorem tp {f:Nat} {x:List MV} {K:Nat→List MV→Option A} (h:Sm g (K f x) T):Sm g (Na (.func f x) K) T:=h
theorem tq {f:Nat} {x:List MV} {K:MV→Option A} (h:Sm g (K (.func f x)) T):Sm g (gR (.func f x) K) T:=h
theorem aK {k:IntKind} {n:Int} {K:Int→Option A} (h:Sm g (K n) T):Sm g (gI k (.i k n) K) T:=by simpa using h
theorem ah {m:MV} {r:List MV} {K:MV→List MV→Option A} (h:Sm g (K m r) T):Sm g (gC (m::r) K) T:=h
theorem au {K:Option A} (h:Sm g K T):Sm g (gN [] K) T:=h
theorem aj {x:Option A'} {y:Option B'} {f:B'→A'} {K:A'→Option A} {K':B'→Option B} (h:Sm f x y) (hk: ∀b,Sm g (K (f b)) (K' b)):Sm g (bd x K) (bd y K'):=by
 unfold Sm at h;subst h
 cases y with
 |none=>rfl
 |some b=>exact hk b
theorem aB {p:Prop} [Decidable p] {X Y:Option A} {X' Y':Option B} (h1:Sm g X X') (h2:Sm g Y Y'):Sm g (a8 (decide p) X Y) (if p then X' else Y'):=by
 by_cases h:p<;>simpa [h] using (by assumption)
theorem aG {c:Bool} {X Y:Option A} {X' Y':Option B} (h1:Sm g X X') (h2:Sm g Y Y'):Sm g (a8 c X Y) (if c then X' else Y'):=by
 cases c<;>simpa using (by assumption)
theorem cD {p:Prop} [Decidable p] {X:Option A} {X':Option B} (h1:Sm g X X'):Sm g (cR (decide p) X) (if p then X' else none):=by
 by_cases h:p
 ·simpa [h] using h1
 ·simp [h,cR,Sm]
theorem bQ {c:Bool} {X:Option A} (hc:c=true) (h:Sm g X T):Sm g (cR c X) T:=by subst hc;exact h
theorem eS {c:Bool} {X Y:Option A} (hc:c=true) (h:Sm g X T):Sm g (a8 c X Y) T:=by subst hc;exact h
theorem eT {c:Bool} {X Y:Option A} (hc:c=false) (h:Sm g Y T):Sm g (a8 c X Y) T:=by subst hc;exact h
theorem aH {l:List MV} {n:Nat} {K:Nat→Option A} (e:l.length=n) (h:Sm g (K n) T):Sm g (bG l K) T:=by subst e;exact h
theorem aX {l:List MV} {M:List α} {f:α→MV} {i:Int} {K:MV→Option A} {K':α→Option B} (e:l=M.map f) (h: ∀y,Sm g (K (f y)) (K' y)):Sm g (idx l i K) (ix M i K'):=by
 subst e
 unfold idx aaD ix
 by_cases hi:0≤i
 ·simp only [hi,if_true,List.getElem?_map]
  cases M[i.toNat]? with
  |none=>rfl
  |some y=>exact h y
 ·simp only [hi,if_false];rfl
theorem DU {X:Option A} {T:Option B} (h:Sm g X T):Sm g (both X X) T:=by
 have e:both X X=X:=by unfold both;rw [if_pos rfl]
 rw [e];exact h
def Og {R:Type} (l:List Int) (K:List UInt8→Option R):Option R:=if l.all isByte then K (l.map fun n=>UInt8.ofNat n.toNat) else none
theorem U7 {R:Type} {M:List Int}: ∀{K:List UInt8→Option R},Jq (M.map (MV.i .u8)) K=Og M K:=by
 induction M with
 |nil=>intro K;rfl
 |cons n M ih=>
  intro K
  simp only [List.map_cons,Jq,byK,gI,decide_true,cond_true,ih]
  cases h:isByte n<;>simp [cR,Og,h]
theorem abV {l:List MV} {M:List Int} {K:List UInt8→Option A} {K':List UInt8→Option B} (e:l=M.map (MV.i .u8)) (h: ∀b,Sm g (K b) (K' b)):Sm g (Jq l K) (Og M K'):=by
 subst e
 rw [U7]
 unfold Og
 split
 ·exact h _
 ·rfl
theorem aa {d:A} {a:B} (e:d=g a):Sm g (some d) (some a):=by subst e;rfl
theorem Yg:Sm g none none:=rfl
theorem Yh {p k:Nat} {K:Nat→Option A} {X:Option B} (h:k=p→Sm g (K p) X):Sm g (G0 [p] k K) (if k=p then X else none):=by
 by_cases hk:k=p
 ·subst hk
  rw [if_pos rfl]
  unfold G0
  rw [show Nat.beq k k=true from Nat.beq_refl k]
  exact h rfl
 ·rw [if_neg hk]
  unfold G0
  rw [show Nat.beq k p=false from by simpa using hk]
  rfl
theorem oR {p q k:Nat} {r:List Nat} {K:Nat→Option A} {X Y:Option B} (h:k=p→Sm g (K p) X) (h2:Sm g (G0 (q::r) k K) Y):Sm g (G0 (p::q::r) k K) (if k=p then X else Y):=by
 by_cases hk:k=p
 ·subst hk
  rw [if_pos rfl]
  unfold G0
  rw [show Nat.beq k k=true from Nat.beq_refl k]
  exact h rfl
 ·rw [if_neg hk]
  unfold G0
  rw [show Nat.beq k p=false from by simpa using hk]
  exact h2
theorem J5 {n:Nat} {l:List MV} {M:List α} {f:α→MV} (e:l=M.map f) (h: ∀x,(f x).w=n):ta n l=true:=by
 subst e
 unfold ta
 rw [List.all_map,List.all_eq_true]
 intro x _
 simp [h x]
theorem LU {σ σ' ρ ρ':Type} {e:σ'→σ} {f:ρ'→ρ} {K:σ→Option (Sum σ ρ)} {K':σ'→Option (Sum σ' ρ')} (h: ∀s,Sm (Sum.map e f) (K (e s)) (K' s)) (n:Nat) (s:σ'):iter K n (e s)=(iter K' n s).map f:=by
 induction n generalizing s with
 |zero=>rfl
 |succ n ih=>
  have:=h s
  unfold Sm at this
  simp only [iter,this]
  cases K' s with
  |none=>rfl
  |some x=>cases x with
   |inl s'=>exact ih s'
   |inr r=>rfl
theorem ID {σ ρ:Type} {K:σ→Option (Sum σ ρ)} {s:σ} (h: ∀n,iter K n s=none):Loop K s=none:=by
 unfold Loop
 rw [dif_neg]
 rintro ⟨r,n,e⟩
 rw [h] at e;cases e
theorem bP {σ σ' ρ ρ':Type} {K:σ→Option (Sum σ ρ)} {K':σ'→Option (Sum σ' ρ')} {d0:σ} {s0:σ'} (e:σ'→σ) (f:ρ'→ρ) (e0:d0=e s0) (h: ∀s,Sm (Sum.map e f) (K (e s)) (K' s)):Sm f (Loop K d0) (Loop K' s0):=by
 subst e0
 unfold Sm
 by_cases hx: ∃r n,iter K' n s0=some r
 ·obtain ⟨r,n,hn⟩:=hx
  rw [qn hn]
  have:iter K n (e s0)=some (f r):=by rw [LU h,hn];rfl
  rw [qn this];rfl
 ·have h1: ∀n,iter K' n s0=none:=fun n=>by
   cases hn:iter K' n s0 with
   |none=>rfl
   |some r=>exact absurd ⟨r,n,hn⟩ hx
  rw [ID h1,ID fun n=>by rw [LU h,h1];rfl];rfl
theorem qp {size bytes:Nat} {f:α→MV} (hw: ∀x,(f x).w=size) (l:List α):Sm (Rv f) (fX size bytes [.list (l.map f)]) (jB bytes l):=by
 unfold Sm fX jB
 simp only [J5 (rfl:l.map f=l.map f) hw,Bool.true_and,List.length_map]
 by_cases h:l.length *bytes≤2^46
 ·rw [show Nat.ble (l.length *bytes) (2^46)=true from Nat.ble_eq_true_of_le h,if_pos h];rfl
 ·rw [show Nat.ble (l.length *bytes) (2^46)=false from by rw [Bool.eq_false_iff];intro hb;exact h (Nat.le_of_ble_eq_true hb),if_neg h];rfl
theorem LV {f:α→MV} (xs:List α) (i j:Int):Sm (Rv f) (oQ [.fresh (xs.map f),.i .i64 i,.i .i64 j]) (yc xs i j):=by
 unfold Sm oQ yc
 simp only [List.length_map]
 by_cases h1:0≤i<;>by_cases h2:i≤j<;>by_cases h3:j≤(xs.length:Int)<;>simp [h1,h2,h3,Rv]
theorem Fi {bytes:Nat} {f:α→MV} (xs:List α) (i:Int) (ys:List α):Sm (Rv f) (jA bytes [.fresh (xs.map f),.i .i64 i,.fresh (ys.map f)]) (qo bytes xs i ys):=by
 unfold Sm jA qo
 simp only [List.length_map]
 have hb: ∀a b:Nat,Nat.ble a b=decide (a≤b):=fun a b=>by
  by_cases h:a≤b
  ·rw [Nat.ble_eq_true_of_le h,decide_eq_true h]
  ·rw [decide_eq_false h,Bool.eq_false_iff];intro hh;exact h (Nat.le_of_ble_eq_true hh)
 rw [hb,hb]
 have he:(ys.map f).isEmpty=decide (ys=[]):=by cases ys<;>simp
 rw [he]
 by_cases h1:0≤i<;>by_cases h2:i.toNat≤xs.length<;>by_cases h3:ys=[]<;>by_cases h4:(xs.length+ys.length) *bytes≤2^46<;>simp [h1,h2,h3,h4,Rv]
end
abbrev Oh (f:Option MV):List MV→Option MV|[]=>f|_=>none
abbrev nv (f:MV→Option MV):List MV→Option MV|[a]=>f a|_=>none
abbrev fG (f:MV→MV→Option MV):List MV→Option MV|[a,b]=>f a b|_=>none
abbrev Fj (f:MV→MV→MV→Option MV):List MV→Option MV|[a,b,c]=>f a b c|_=>none
abbrev Yi (f:MV→MV→MV→MV→Option MV):List MV→Option MV|[a,b,c,d]=>f a b c d|_=>none
abbrev abW (f:MV→MV→MV→MV→MV→Option MV):List MV→Option MV|[a,b,c,d,e]=>f a b c d e|_=>none
theorem AK {f:Option MV} {B:List MV→Option MV} (h:B []=f) {ms:List MV} {r:MV} (e:Oh f ms=some r):B ms=some r:=by
 unfold Oh at e;split at e
 ·rw [h];exact e
 ·cases e
theorem dw {f:MV→Option MV} {B:List MV→Option MV} (h: ∀a,B [a]=f a) {ms:List MV} {r:MV} (e:nv f ms=some r):B ms=some r:=by
 unfold nv at e;split at e
 ·rw [h];exact e
 ·cases e
theorem bD {f:MV→MV→Option MV} {B:List MV→Option MV} (h: ∀a b,B [a,b]=f a b) {ms:List MV} {r:MV} (e:fG f ms=some r):B ms=some r:=by
 unfold fG at e;split at e
 ·rw [h];exact e
 ·cases e
theorem qq {f:MV→MV→MV→Option MV} {B:List MV→Option MV} (h: ∀a b c,B [a,b,c]=f a b c) {ms:List MV} {r:MV} (e:Fj f ms=some r):B ms=some r:=by
 unfold Fj at e;split at e
 ·rw [h];exact e
 ·cases e
theorem P6 {f:MV→MV→MV→MV→Option MV} {B:List MV→Option MV} (h: ∀a b c d,B [a,b,c,d]=f a b c d) {ms:List MV} {r:MV} (e:Yi f ms=some r):B ms=some r:=by
 unfold Yi at e;split at e
 ·rw [h];exact e
 ·cases e
theorem Yj {f:MV→MV→MV→MV→MV→Option MV} {B:List MV→Option MV} (h: ∀a b c d i,B [a,b,c,d,i]=f a b c d i) {ms:List MV} {r:MV} (e:abW f ms=some r):B ms=some r:=by
 unfold abW at e;split at e
 ·rw [h];exact e
 ·cases e
theorem aq.fn {P:Program} {c c':Ctx} {g:Nat→List MV→Option MV} {n:Nat} {fn:Func} {b6:List (List Kd)} {F:List MV→Option MV} (h:aq P c g) (hl:AE c c') (hgg:c'.g=g) (rX:kK P c.ti) (iV:Nw P c.ti) (Jz: ∀t k,c.fk t=some k→P.underlying t=some (.float k)) (PL:BS P c) (LN:P.follows .mixedOrders=true) (E0:ve P c)
 (hf:P.funcs[n]? =some fn) (hh:LO c' n fn b6=true) (Ap: ∀f,c.key f=f) (hF: ∀{ms r},F ms=some r→HT c' b6 Option.none fn ms=some r):aq P c (bm n F g):=by
 have hb:=aq.body h hl hgg rX iV Jz PL LN E0 hf hh Ap
 refine h.add (fun f ms r hk hr=> ?_)
 refine hb.all f ms r ?_
 unfold bm
 rw [hk]
 simp [hF hr]
def AL {α σ:Type} (p:α→σ→Option (Bool×σ)):σ→List α→Option (List α×σ)
 |s,[]=>some ([],s)
 |s,x::xs=>bd (p x s) fun q=>bd (AL p q.2 xs) fun r=>some (if q.1 then r.1 else x::r.1,r.2)
theorem U8 {l:List MV} {α:Type} {M:List α} {f:α→MV} (e:l=M.map f) (h: ∀x,Nj (f x)=true):l.all Nj=true:=by
 subst e
 rw [List.all_map,List.all_eq_true]
 intro x _
 exact h x
theorem U9 {α σ:Type} {f:α→MV} {lv:σ→List MV} {g:Nat→List MV→Option MV} {k:Nat} {b6:List MV} {p:α→σ→Option (Bool×σ)} (h: ∀x s,Sm (fun r=>MV.ej (.b r.1) (lv r.2)) (g k (f x::(b6++[.cell (.func 0 (lv s))]))) (p x s)): ∀(s:σ) (L:List α),Sm (fun r=>(r.1.map f,lv r.2)) (ma (HR g k b6) (lv s) (L.map f)) (AL p s L)
 |s,[]=>rfl
 |s,x::xs=>by
  have hx:=h x s
  unfold Sm at hx⊢
  simp only [List.map_cons,ma,HR,AL,hx]
  cases p x s with
  |none=>rfl
  |some q=>
   have ih:=U9 h q.2 xs
   unfold Sm at ih
   simp only [Option.map_some,ih]
   show _=Option.map _ (bd (AL p q.2 xs) fun r=>_)
   cases AL p q.2 xs with
   |none=>rfl
   |some r=>obtain ⟨b,s'⟩:=q;cases b<;>rfl
end Dn
/-
  What functions of package strings yield: plain and typed. Conditions: none.
-/
set_option linter.unusedSimpArgs false
set_option linter.unusedVariables false
namespace Dn
open Go
def bU (c:UInt8):List UInt8→List (List UInt8)
 |[]=>[[]]
 |x::l=>if x=c then []::bU c l else match bU c l with
  |p::r=>(x::p)::r
  |[]=>[[x]]
def Fk:List MV→Option MV
 |[.s a,.s b]=>bif (Nat.ble 1 a.length&&Nat.ble a.length (2^46))&&(Nat.ble 2 b.length&&(Nat.ble b.length 1000&&b.all fun x=>decide (x.toNat<128))) then some (.s (Lib.trimS a b)) else none
 |_=>none
def qY:List MV→Option MV
 |[.s a,.i .i32 r]=>bif decide (0≤r∧r<128) then some (.b (decide (0≤Lib.indexByte a r.toNat.toUInt8))) else none
 |_=>none
def xj:List MV→Option MV
 |[.s a,.s [c]]=>bif Nat.ble a.length 4294967280 then some (.fresh ((bU c a).map MV.s)) else none
 |_=>none
def IE (a b:List UInt8):Option (List UInt8):=bif (Nat.ble 1 a.length&&Nat.ble a.length (2^46))&&(Nat.ble 2 b.length&&(Nat.ble b.length 1000&&b.all fun x=>decide (x.toNat<128))) then some (Lib.trimS a b) else none
def AM (a:List UInt8) (r:Int):Option Bool:=bif decide (0≤r∧r<128) then some (decide (0≤Lib.indexByte a r.toNat.toUInt8)) else none
def J6 (a s:List UInt8):Option (List (List UInt8)):=match s with
 |[c]=>bif Nat.ble a.length 4294967280 then some (bU c a) else none
 |_=>none
theorem abX (a b:List UInt8):Sm MV.s (Fk [.s a,.s b]) (IE a b):=by
 unfold Sm Fk IE
 dsimp only
 cases (Nat.ble 1 a.length&&Nat.ble a.length (2^46))&&(Nat.ble 2 b.length&&(Nat.ble b.length 1000&&b.all fun x=>decide (x.toNat<128)))<;>rfl
theorem Rw (a:List UInt8) (r:Int):Sm MV.b (qY [.s a,.i .i32 r]) (AM a r):=by
 unfold Sm qY AM
 dsimp only
 cases decide (0≤r∧r<128)<;>rfl
theorem Yk (a s:List UInt8):Sm (Rv MV.s) (xj [.s a,.s s]) (J6 a s):=by
 unfold Sm J6
 split
 ·rename_i c
  unfold xj
  dsimp only
  cases Nat.ble a.length 4294967280<;>rfl
 ·rename_i h
  unfold xj
  split
  ·rename_i h2
   simp only [List.cons.injEq,MV.s.injEq,and_true] at h2
   exact absurd h2.2 (h _)
  ·rfl
end Dn
